/- The draw of a symbol. -/
import Derived.Test.YtepoiphmmjfbdaaGreatDoorFnDeskLoadM14
import Derived.Deep.CutBlock
set_option linter.unusedSimpArgs false
set_option linter.unusedVariables false
namespace Go.Proofs.YtepoiphmmjfbdaaGreatDoor.DSymbol
set_option maxRecDepth 200000
open Go.ChangeShapes Go.WideShapes Go.ChangeAt Go.RowKit Kit CFixups CSymbols PObj BObj PValid CSecValid CMarkRows CCopyS DPick DVar DName DBytes DSection
def DrewY (w0 w : World) (B R : Nat) (N : Int) (e : Ending) (w' : World) : Prop := ∃ z : YD, e = .returned (.agg #[.string z.1, .int .i64 z.2.1, .int .i64 z.2.2.1, .int .i64 z.2.2.2]) ∧ z.1.size ≤ 9 ∧ Tp w0 w' B R N ∧ w.grownBy w' (some R)
/-- The symbol as it stands in its variable X. -/
structure Mid (w wx : World) (B R X : Nat) (N : Int) (z : YD) : Prop where
  sm : z.1.size ≤ 9
  bx : Box wx X 67 #[.string z.1, .int .i64 z.2.1, .int .i64 z.2.2.1, .int .i64 z.2.2.2]
  by_ : Box wx w.heap.size 67 #[.string ByteArray.empty, .int .i64 0, .int .i64 0, .int .i64 0]
  t : Tp w wx B R N
  sz : w.heap.size < X
section
variable {w wx wy : World} {B R X : Nat} {N M : Int} {z : YD}
theorem Mid.turn (h : Mid w wx B R X N z) (g : wx.grownBy wy (some R)) (hR : R < w.heap.size) (T : Tp w wy B R M) : Mid w wy B R X M z :=
  ⟨h.sm, h.bx.grown g (by intro k hk; injection hk with hk; have := h.sz; omega), h.by_.grown g (by intro k hk; injection hk with hk; omega), T, h.sz⟩
theorem Mid.more (h : Mid w wx B R X N z) (hM : N ≤ M) : Mid w wx B R X M z := ⟨h.sm, h.bx, h.by_, h.t.more hM, h.sz⟩
theorem Mid.call (h : Mid w wx B R X N z) (hb : Below wx.heap.size wx wy) : Mid w wy B R X N z := ⟨h.sm, h.bx.call hb, h.by_.call hb, h.t.call hb, h.sz⟩
theorem Mid.put (h : Mid w wx B R X N z) (hR : R < w.heap.size) (i : Nat) (u : Value) (z' : YD) (hc : (symbolC z).set i u = symbolC z') (sm : z'.1.size ≤ 9) : Mid w (wx.setCell ⟨X, i, none⟩ u) B R X N z' := by
  refine ⟨sm, ?_, h.by_.far (p := ⟨X, i, none⟩) (by have := h.sz; show w.heap.size ≠ X; omega) _, h.t.set (a := ⟨X, i, none⟩) (by have := h.sz; show w.heap.size ≤ X; omega) (by have := h.sz; show R < X; omega) _, h.sz⟩
  have hb := h.bx.set i u
  have e : (#[.string z.1, .int .i64 z.2.1, .int .i64 z.2.2.1, .int .i64 z.2.2.2] : Array Value).setIfInBounds i u = #[.string z'.1, .int .i64 z'.2.1, .int .i64 z'.2.2.1, .int .i64 z'.2.2.2] := by
    rw [List.setIfInBounds_toArray]
    exact congrArg List.toArray hc
  rw [e] at hb
  exact hb
theorem Mid.ret {w0 : World} {N0 : Int} (h : Mid w wx B R X N z) (hR : R < w.heap.size) (T : Tp w0 w B R N0) :
    DrewY w0 w B R N (.returned (.agg #[.string z.1, .int .i64 z.2.1, .int .i64 z.2.2.1, .int .i64 z.2.2.2])) ((((wx.setCell ⟨w.heap.size, 0, none⟩ (.string z.1)).setCell ⟨w.heap.size, 1, none⟩ (.int .i64 z.2.1)).setCell ⟨w.heap.size, 2, none⟩ (.int .i64 z.2.2.1)).setCell ⟨w.heap.size, 3, none⟩ (.int .i64 z.2.2.2)) := by
  have s : ∀ {v : World} (j : Nat) (u : Value), Tp w v B R N → Tp w (v.setCell ⟨w.heap.size, j, none⟩ u) B R N := fun j u T => T.set (a := ⟨w.heap.size, j, none⟩) (Nat.le_refl _) hR u
  have T4 := s 3 (.int .i64 z.2.2.2) (s 2 (.int .i64 z.2.2.1) (s 1 (.int .i64 z.2.1) (s 0 (.string z.1) h.t)))
  exact ⟨z, rfl, h.sm, tp_tr T T4, T4.2⟩
theorem DrewY.more {w0 w' : World} {e : Ending} (h : DrewY w0 w B R N e w') (hM : N ≤ M) : DrewY w0 w B R M e w' := by
  obtain ⟨z, a, b, c, d⟩ := h
  exact ⟨z, a, b, c.more hM, d⟩
end
set_option maxHeartbeats 4000000 in
theorem symbol_any {w0 w : World} {B R : Nat} {N : Int} (T0 : Tp w0 w B R N) (hN : N ≤ 100000) (hN0 : 0 ≤ N) (A : Option Addr) (ps : List SV) (c : Nat) (hr : ∀ V, w.grownBy V (some R) → RdSs V V.heap.size A ps) (hp : ∀ p ∈ ps, 0 ≤ p.sz ∧ p.sz ≤ 49 ∧ p.zs.length ≤ 49) (hl : ps.length ≤ 100) (n : Int) (hn : 0 ≤ n) (hn' : n ≤ 1000) :
    Calls Tryz.prog 81 #[.pointer (some ⟨R, 0, none⟩), .slice A ps.length c, .int .i64 n] w (DrewY w0 w B R (N + 50)) := by
  have hR := T0.lt
  have HT0 := hide T0
  have HRD := hide hr
  have HP := hide hp
  have T := tp_new T0
  clear T0 hr hp
  have HY := hide (Box.new w 67 #[.string ByteArray.empty, .int .i64 0, .int .i64 0, .int .i64 0])
  go_enter Tryz.func81, Tryz.ntmps81
  go_wp2_with fail
  refine (name_ok (T.alloc _) (by omega)).mono ?_
  rintro e w1 ⟨nm, rfl, nm0, nm1, T1, g1⟩
  have HZ1 := hide (show w.heap.size < w1.heap.size by have := g1.size; simp at this; omega)
  replace HY := hide (HY.out.grown g1 (by intro k hk; injection hk with hk; omega))
  clear g1
  clear T
  go_wp2_with fail
  refine (pick_litP (p := fun v => ∃ z : Int, v = .int .i64 z) T1 (by omega) _ (by omega) (by omega) (by repeat (first | exact List.forall_mem_nil _ | refine List.forall_mem_cons.2 ⟨⟨_, rfl⟩, ?_⟩)) (by simp)).mono ?_
  rintro e w3 ⟨ai, rfl, ai0, ai1, T3, g3, v, ⟨bd, rfl⟩, hv⟩
  have HZ3 := hide (show w.heap.size < w3.heap.size by have h1 := g3.size; have h2 := HZ1.out; simp at h1; omega)
  replace HY := hide (HY.out.alloc (.cells #[.int .i64 0, .int .i64 1, .int .i64 1, .int .i64 2] 3))
  replace HY := hide (HY.out.grown g3 (by intro k hk; injection hk with hk; omega))
  clear g3
  clear T1 HZ1
  go_upto_block 0 with (fail)
  have HM := hide (show Mid w (w3.alloc (.cells #[.string nm, .int .i64 bd, .int .i64 0, .int .i64 0] 67)) B R w3.heap.size (N + 3) (nm, bd, 0, 0) from ⟨nm1, Box.new _ _ _, HY.out.alloc _, (T3.alloc _).more (by omega), HZ3.out⟩)
  have hXW : w.heap.size < w3.heap.size := HZ3.out
  clear T3 HZ3 hv HY
  generalize w3.alloc (.cells #[.string nm, .int .i64 bd, .int .i64 0, .int .i64 0] 67) = w4 at *
  generalize w3.heap.size = X at *
  go_cut [] from 16 to 59 (fun wx => ∃ z, Mid w wx B R X (N + 20) z)
  case first =>
    go_wp2_with fail
    refine (pick_tp HM.out.t (by omega) _ (by omega) (by omega)).mono ?_
    rintro e w5 ⟨t1, rfl, t10, t11, T1, g1⟩
    replace HM := hide (HM.out.turn g1 hR T1)
    clear T1 g1
    by_cases hk : t1 = 0
    · subst hk
      have x1 := HM.out.bx.cell 1
      have x2 := HM.out.bx.cell 2
      have f1 := HM.out.bx.frozen 1
      have f2 := HM.out.bx.frozen 2
      have hxl := HM.out.bx.lt
      simp only [List.getElem?_toArray, List.getElem?_cons_zero, List.getElem?_cons_succ] at x1 x2
      go_wp2_with fail
      all_goals go_meet
      all_goals have HM1 := hide (HM.out.put hR 2 (.int .i64 (-1)) (nm, bd, -1, 0) rfl HM.out.sm)
      all_goals first
        | exact ⟨(nm, bd, -1, 0), (HM1.out.put hR 1 (.int .i64 bd) (nm, bd, -1, 0) rfl HM.out.sm).more (by omega)⟩
        | exact ⟨(nm, 1, -1, 0), (HM1.out.put hR 1 (.int .i64 1) (nm, 1, -1, 0) rfl HM.out.sm).more (by omega)⟩
        | exact ⟨(nm, max 1 bd, -1, 0), (HM1.out.put hR 1 (.int .i64 (max 1 bd)) (nm, max 1 bd, -1, 0) rfl HM.out.sm).more (by omega)⟩
    · have hk0 : (t1 == 0) = false := by rw [beq_eq_false_iff_ne]; exact hk
      clear hk
      go_wp2_with fail
      refine (pick_tp HM.out.t (by omega) _ (by omega) (by omega)).mono ?_
      rintro e w6 ⟨t2, rfl, t20, t21, T1, g1⟩
      replace HM := hide (HM.out.turn g1 hR T1)
      clear T1 g1
      have hsel : t2 = 0 ∨ (¬ t2 = 0 ∧ ps.length = 0) ∨ (¬ t2 = 0 ∧ 0 < ps.length) := by omega
      rcases hsel with rfl | ⟨hs9, hs0⟩ | ⟨hs1, hs2⟩
      rotate_left 2
      · have e1 : (t2 == 0) = false := by rw [beq_eq_false_iff_ne]; exact hs1
        have e2 : ((ps.length : Int) == 0) = false := by rw [beq_eq_false_iff_ne]; omega
        clear hs1
        go_wp2_with fail
        refine (pick_tp HM.out.t (by omega) _ (by omega) (by omega)).mono ?_
        rintro e w7 ⟨j, rfl, j0, j1, T1, g1⟩
        replace HM := hide (HM.out.turn g1 hR T1)
        clear T1 g1
        obtain ⟨j, rfl⟩ := Int.eq_ofNat_of_zero_le j0
        have hjl : j < ps.length := by omega
        have HM2 := hide (HM.out.put hR 2 (.int .i64 j) (nm, bd, (j : Int), 0) rfl HM.out.sm)
        have hrd := HRD.out _ HM2.out.t.2
        obtain ⟨b, off, hA, hbg, hc⟩ := hrd.1.row secC_len (by decide) hjl
        have hpp := HP.out _ (List.getElem_mem hjl)
        generalize ps[j] = p at *
        have c0 := hc 0 _ rfl
        have c1 := hc 1 _ rfl
        have c2 := hc 2 _ rfl
        have c3 := hc 3 _ rfl
        have c4 := hc 4 _ rfl
        have c5 := hc 5 _ rfl
        simp only [Nat.add_zero] at c0
        have x2 := HM.out.bx.cell 2
        have f2 := HM.out.bx.frozen 2
        have hxl := HM.out.bx.lt
        simp only [List.getElem?_toArray, List.getElem?_cons_zero, List.getElem?_cons_succ] at x2
        have y2 := HM2.out.bx.cell 2
        simp only [List.getElem?_toArray, List.getElem?_cons_zero, List.getElem?_cons_succ] at y2
        have HAA := hide hA
        clear hc hrd
        subst hA
        have HSS := hide (sectionSizeS_any p (w7.setCell ⟨X, 2, none⟩ (.int .i64 j)) (by have := hpp.2.2; unfold maxLen; omega))
        clear hbg HRD
        go_wp2_with fail
        refine HSS.out.mono ?_
        rintro e w8 ⟨rfl, b8⟩
        replace HM2 := hide (HM2.out.call b8)
        have hss : 0 ≤ secSize p.d ∧ secSize p.d ≤ 49 := by
          unfold secSize SV.d
          split
          · exact ⟨hpp.1, hpp.2.1⟩
          · have := hpp.2.2
            dsimp only
            omega
        generalize secSize p.d = ss at *
        clear b8 HSS c0 c1 c2 c3 c4 c5 x2 f2 hxl y2 HM
        go_wp2_with fail
        refine (pick_tp HM2.out.t (by omega) _ (by omega) (by omega)).mono ?_
        rintro e w9 ⟨v, rfl, v0, v1, T1, g1⟩
        replace HM2 := hide (HM2.out.turn g1 hR T1)
        clear T1 g1
        have x3 := HM2.out.bx.cell 3
        have f3 := HM2.out.bx.frozen 3
        have hxl := HM2.out.bx.lt
        simp only [List.getElem?_toArray, List.getElem?_cons_zero, List.getElem?_cons_succ] at x3
        go_wp2_with fail
        go_meet
        exact ⟨(nm, bd, (j : Int), v), (HM2.out.put hR 3 (.int .i64 v) (nm, bd, (j : Int), v) rfl HM2.out.sm).more (by omega)⟩
      rotate_left 1
      · have hps : ps = [] := List.eq_nil_of_length_eq_zero hs0
        have e1 : (t2 == 0) = false := by rw [beq_eq_false_iff_ne]; exact hs9
        clear hs0 hs9
        subst hps
        have x2 := HM.out.bx.cell 2
        have f2 := HM.out.bx.frozen 2
        have hxl := HM.out.bx.lt
        simp only [List.getElem?_toArray, List.getElem?_cons_zero, List.getElem?_cons_succ] at x2
        go_wp2_with fail
        have HM2 := hide (HM.out.put hR 2 (.int .i64 (-2)) (nm, bd, -2, 0) rfl HM.out.sm)
        clear x2 f2 hxl HM
        generalize w6.setCell ⟨X, 2, none⟩ (.int .i64 (-2)) = w7 at *
        refine (pick_tp HM2.out.t (by omega) _ (by omega) (by omega)).mono ?_
        rintro e w8 ⟨q, rfl, q0, q1, T1, g1⟩
        replace HM2 := hide (HM2.out.turn g1 hR T1)
        clear T1 g1
        go_wp2_with fail
        have HL := hide (Box.new w8 3 #[.int .i64 (q * 16), .int .i64 60000])
        replace HM2 := hide (HM2.out.call ((Below.refl _ _).alloc (Nat.le_refl _) (.cells #[.int .i64 (q * 16), .int .i64 60000] 3)))
        have hRN : R < w8.heap.size := by
          have h1 := HM2.out.t.2.size
          have h2 := HM2.out.bx.lt
          have h3 := HM2.out.sz
          simp at h1 h2
          omega
        generalize w8.alloc (.cells #[.int .i64 (q * 16), .int .i64 60000] 3) = w9 at *
        generalize w8.heap.size = NL at *
        refine (pick_tp HM2.out.t (by omega) _ (by omega) (by omega)).mono ?_
        rintro e w10 ⟨v, rfl, v0, v1, T1, g1⟩
        replace HM2 := hide (HM2.out.turn g1 hR T1)
        replace HL := hide (HL.out.grown g1 (by intro k hk; injection hk with hk; omega))
        clear T1 g1
        obtain ⟨u, hu⟩ : ∃ u : Int, (#[.int .i64 (q * 16), .int .i64 60000] : Array Value)[(v / 5).toNat]? = some (.int .i64 u) := by
          rcases (show v / 5 = 0 ∨ v / 5 = 1 by omega) with h | h
          · exact ⟨q * 16, by rw [h]; rfl⟩
          · exact ⟨60000, by rw [h]; rfl⟩
        have hc := HL.out.cell (v / 5).toNat
        rw [hu] at hc
        clear hu
        have hv2 : v / 5 < 2 := by omega
        have hv3 : 0 ≤ v / 5 := by omega
        have x3 := HM2.out.bx.cell 3
        have f3 := HM2.out.bx.frozen 3
        have hxl := HM2.out.bx.lt
        simp only [List.getElem?_toArray, List.getElem?_cons_zero, List.getElem?_cons_succ] at x3
        go_wp2_with fail
        go_meet
        exact ⟨(nm, bd, -2, u), (HM2.out.put hR 3 (.int .i64 u) (nm, bd, -2, u) rfl HM2.out.sm).more (by omega)⟩
      · have x2 := HM.out.bx.cell 2
        have f2 := HM.out.bx.frozen 2
        have hxl := HM.out.bx.lt
        simp only [List.getElem?_toArray, List.getElem?_cons_zero, List.getElem?_cons_succ] at x2
        go_wp2_with fail
        have HM2 := hide (HM.out.put hR 2 (.int .i64 (-2)) (nm, bd, -2, 0) rfl HM.out.sm)
        clear x2 f2 hxl HM
        generalize w6.setCell ⟨X, 2, none⟩ (.int .i64 (-2)) = w7 at *
        refine (pick_tp HM2.out.t (by omega) _ (by omega) (by omega)).mono ?_
        rintro e w8 ⟨q, rfl, q0, q1, T1, g1⟩
        replace HM2 := hide (HM2.out.turn g1 hR T1)
        clear T1 g1
        go_wp2_with fail
        have HL := hide (Box.new w8 3 #[.int .i64 (q * 16), .int .i64 60000])
        replace HM2 := hide (HM2.out.call ((Below.refl _ _).alloc (Nat.le_refl _) (.cells #[.int .i64 (q * 16), .int .i64 60000] 3)))
        have hRN : R < w8.heap.size := by
          have h1 := HM2.out.t.2.size
          have h2 := HM2.out.bx.lt
          have h3 := HM2.out.sz
          simp at h1 h2
          omega
        generalize w8.alloc (.cells #[.int .i64 (q * 16), .int .i64 60000] 3) = w9 at *
        generalize w8.heap.size = NL at *
        refine (pick_tp HM2.out.t (by omega) _ (by omega) (by omega)).mono ?_
        rintro e w10 ⟨v, rfl, v0, v1, T1, g1⟩
        replace HM2 := hide (HM2.out.turn g1 hR T1)
        replace HL := hide (HL.out.grown g1 (by intro k hk; injection hk with hk; omega))
        clear T1 g1
        obtain ⟨u, hu⟩ : ∃ u : Int, (#[.int .i64 (q * 16), .int .i64 60000] : Array Value)[(v / 5).toNat]? = some (.int .i64 u) := by
          rcases (show v / 5 = 0 ∨ v / 5 = 1 by omega) with h | h
          · exact ⟨q * 16, by rw [h]; rfl⟩
          · exact ⟨60000, by rw [h]; rfl⟩
        have hc := HL.out.cell (v / 5).toNat
        rw [hu] at hc
        clear hu
        have hv2 : v / 5 < 2 := by omega
        have hv3 : 0 ≤ v / 5 := by omega
        have x3 := HM2.out.bx.cell 3
        have f3 := HM2.out.bx.frozen 3
        have hxl := HM2.out.bx.lt
        simp only [List.getElem?_toArray, List.getElem?_cons_zero, List.getElem?_cons_succ] at x3
        go_wp2_with fail
        go_meet
        exact ⟨(nm, bd, -2, u), (HM2.out.put hR 3 (.int .i64 u) (nm, bd, -2, u) rfl HM2.out.sm).more (by omega)⟩
  case rest =>
    obtain ⟨z, hm⟩ := hcut
    have HM := hide hm
    clear hm HRD HP
    go_wp2_with fail
    refine (odd0_any HM.out.t (by omega) n hn (by omega)).mono ?_
    rintro e v1 ⟨b, rfl, _, T1, g1⟩
    replace HM := hide (HM.out.turn g1 hR T1)
    clear T1 g1
    go_upto_if 62 with (fail)
    go_cut [] from 62 to 96 (fun wx => ∃ z, Mid w wx B R X (N + 40) z)
    case first =>
      cases b
      · go_wp2_with fail
        go_meet
        exact ⟨z, HM.out.more (by omega)⟩
      · go_wp2_with fail
        refine (pick_tp HM.out.t (by omega) _ (by omega) (by omega)).mono ?_
        rintro e v2 ⟨v, rfl, v0, v1', T1, g1⟩
        replace HM := hide (HM.out.turn g1 hR T1)
        clear T1 g1
        have hv : v = 0 ∨ v = 1 ∨ v = 2 ∨ v = 3 ∨ v = 4 := by omega
        rcases hv with rfl | rfl | rfl | rfl | rfl
        · go_wp2_with fail
          refine (name_any HM.out.t (by omega) 1 (by omega) (by omega)).mono ?_
          rintro e v3 ⟨s, rfl, s0, s1, T1, g1⟩
          replace HM := hide (HM.out.turn g1 hR T1)
          clear T1 g1
          have x0 := HM.out.bx.cell 0
          have xf := HM.out.bx.frozen 0
          have hxl := HM.out.bx.lt
          simp only [List.getElem?_toArray, List.getElem?_cons_zero, List.getElem?_cons_succ] at x0
          go_wp2_with fail
          go_meet
          exact ⟨(s, z.2), (HM.out.put hR 0 (.string s) (s, z.2) rfl s1).more (by omega)⟩
        · go_wp2_with fail
          refine (pick_lit HM.out.t (by omega) _ (by omega) (by omega) (by repeat (first | exact List.forall_mem_nil _ | refine List.forall_mem_cons.2 ⟨⟨_, rfl⟩, ?_⟩)) (by simp)).mono ?_
          rintro e v3 ⟨x, rfl, x0, x1, T1, g1, q, hm, hz⟩
          replace HM := hide ((HM.out.call ((Below.refl _ _).alloc (Nat.le_refl _) _)).turn g1 hR T1)
          clear T1 g1 hm
          have x1 := HM.out.bx.cell 1
          have xf := HM.out.bx.frozen 1
          have hxl := HM.out.bx.lt
          simp only [List.getElem?_toArray, List.getElem?_cons_zero, List.getElem?_cons_succ] at x1
          go_wp2_with fail
          go_meet
          exact ⟨(z.1, q, z.2.2), (HM.out.put hR 1 (.int .i64 q) (z.1, q, z.2.2) rfl HM.out.sm).more (by omega)⟩
        · go_wp2_with fail
          refine (pick_lit HM.out.t (by omega) _ (by omega) (by omega) (by repeat (first | exact List.forall_mem_nil _ | refine List.forall_mem_cons.2 ⟨⟨_, rfl⟩, ?_⟩)) (by simp)).mono ?_
          rintro e v3 ⟨x, rfl, x0, x1, T1, g1, q, hm, hz⟩
          replace HM := hide ((HM.out.call ((Below.refl _ _).alloc (Nat.le_refl _) _)).turn g1 hR T1)
          clear T1 g1 hm
          have x2 := HM.out.bx.cell 2
          have xf := HM.out.bx.frozen 2
          have hxl := HM.out.bx.lt
          simp only [List.getElem?_toArray, List.getElem?_cons_zero, List.getElem?_cons_succ] at x2
          go_wp2_with fail
          go_meet
          exact ⟨(z.1, z.2.1, q, z.2.2.2), (HM.out.put hR 2 (.int .i64 q) (z.1, z.2.1, q, z.2.2.2) rfl HM.out.sm).more (by omega)⟩
        · go_wp2_with fail
          refine (pick_lit HM.out.t (by omega) _ (by omega) (by omega) (by repeat (first | exact List.forall_mem_nil _ | refine List.forall_mem_cons.2 ⟨⟨_, rfl⟩, ?_⟩)) (by simp)).mono ?_
          rintro e v3 ⟨x, rfl, x0, x1, T1, g1, q, hm, hz⟩
          replace HM := hide ((HM.out.call ((Below.refl _ _).alloc (Nat.le_refl _) _)).turn g1 hR T1)
          clear T1 g1 hm
          have x3 := HM.out.bx.cell 3
          have xf := HM.out.bx.frozen 3
          have hxl := HM.out.bx.lt
          simp only [List.getElem?_toArray, List.getElem?_cons_zero, List.getElem?_cons_succ] at x3
          go_wp2_with fail
          go_meet
          exact ⟨(z.1, z.2.1, z.2.2.1, q), (HM.out.put hR 3 (.int .i64 q) (z.1, z.2.1, z.2.2.1, q) rfl HM.out.sm).more (by omega)⟩
        · have x0 := HM.out.bx.cell 0
          have x1 := HM.out.bx.cell 1
          have x2 := HM.out.bx.cell 2
          have x3 := HM.out.bx.cell 3
          have f0 := HM.out.bx.frozen 0
          have f1 := HM.out.bx.frozen 1
          have f2 := HM.out.bx.frozen 2
          have f3 := HM.out.bx.frozen 3
          have hxl := HM.out.bx.lt
          simp only [List.getElem?_toArray, List.getElem?_cons_zero, List.getElem?_cons_succ] at x0 x1 x2 x3
          go_wp2_with fail
          go_meet
          exact ⟨(⟨#[120]⟩, 0, -1, 0), ((((HM.out.put hR 0 (.string ⟨#[120]⟩) (⟨#[120]⟩, z.2.1, z.2.2.1, z.2.2.2) rfl (show (⟨#[120]⟩ : ByteArray).size ≤ 9 by decide)).put hR 1 (.int .i64 0) (⟨#[120]⟩, 0, z.2.2.1, z.2.2.2) rfl (show (⟨#[120]⟩ : ByteArray).size ≤ 9 by decide)).put hR 2 (.int .i64 (-1)) (⟨#[120]⟩, 0, -1, z.2.2.2) rfl (show (⟨#[120]⟩ : ByteArray).size ≤ 9 by decide)).put hR 3 (.int .i64 0) (⟨#[120]⟩, 0, -1, 0) rfl (show (⟨#[120]⟩ : ByteArray).size ≤ 9 by decide)).more (by omega)⟩
    case rest =>
      obtain ⟨z, hm⟩ := hcut
      have HM := hide hm
      clear hm
      have x0 := HM.out.bx.cell 0
      have x1 := HM.out.bx.cell 1
      have x2 := HM.out.bx.cell 2
      have x3 := HM.out.bx.cell 3
      have hxl := HM.out.bx.lt
      have y0 := HM.out.by_.cell 0
      have y1 := HM.out.by_.cell 1
      have y2 := HM.out.by_.cell 2
      have y3 := HM.out.by_.cell 3
      have f0 := HM.out.by_.frozen 0
      have f1 := HM.out.by_.frozen 1
      have f2 := HM.out.by_.frozen 2
      have f3 := HM.out.by_.frozen 3
      simp only [List.getElem?_toArray, List.getElem?_cons_zero, List.getElem?_cons_succ] at x0 x1 x2 x3 y0 y1 y2 y3
      have kk := (((HM.out.by_.set 0 (.string z.1)).set 1 (.int .i64 z.2.1)).set 2 (.int .i64 z.2.2.1)).set 3 (.int .i64 z.2.2.2)
      have k0 := kk.cell 0
      have k1 := kk.cell 1
      have k2 := kk.cell 2
      have k3 := kk.cell 3
      simp only [List.setIfInBounds_toArray, List.set_cons_zero, List.set_cons_succ, List.getElem?_toArray, List.getElem?_cons_zero, List.getElem?_cons_succ] at k0 k1 k2 k3
      clear kk
      have HFIN := hide (HM.out.ret hR HT0.out)
      go_wp2_with fail
      exact bodyPost_ret (v := .agg #[.string z.1, .int .i64 z.2.1, .int .i64 z.2.2.1, .int .i64 z.2.2.2]) (by simp [results, Tryz.results81, go_sem, k0, k1, k2, k3]) rfl (DrewY.more HFIN.out (by omega))
end Go.Proofs.YtepoiphmmjfbdaaGreatDoor.DSymbol
/- The draw of an object. -/
namespace Go.Proofs.YtepoiphmmjfbdaaGreatDoor.DObject
set_option maxRecDepth 200000
open Go.ChangeShapes Go.WideShapes Go.ChangeAt Go.RowKit Kit CFixups CSymbols PObj BObj PValid CSecValid CMarkRows CCopyS DPick DVar DName DBytes DSection BObj2 CEqual
def SmallO (d : OD) : Prop := d.ss.length ≤ 4 ∧ d.ys.length ≤ 13 ∧ (∀ s ∈ d.ss, SmallS s) ∧ ∀ y ∈ d.ys, y.1.size ≤ 9
def DrewO (w0 w : World) (B R : Nat) (N : Int) (e : Ending) (w' : World) : Prop := ∃ o : OV, e = .returned o.v ∧ SmallO o.d ∧ OwnO w' w.heap.size o ∧ Tp w0 w' B R N ∧ w.grownBy w' (some R)
theorem smallS {A Y : Option Addr} {c yc : Nat} {A' : Option Addr} {c' : Nat} {ps : List SV} {ys : List YD} {q : SV} (h : SmallO (OV.d ⟨A, c, ps, Y, yc, ys⟩)) (hl : ps.length ≤ 3) (hq : SmallS q.d) : SmallO (OV.d ⟨A', c', ps ++ [q], Y, yc, ys⟩) := by
  refine ⟨by simp [OV.d]; omega, h.2.1, fun s hs => ?_, h.2.2.2⟩
  simp only [OV.d, List.map_append, List.map_cons, List.map_nil] at hs
  rcases List.mem_append.1 hs with hs | hs
  · exact h.2.2.1 s hs
  · rw [List.mem_singleton.1 hs]
    exact hq
theorem smallY {A Y : Option Addr} {c yc : Nat} {Y' : Option Addr} {c' : Nat} {ps : List SV} {ys zs : List YD} (h : SmallO (OV.d ⟨A, c, ps, Y, yc, ys⟩)) (hl : ys.length ≤ 5) (hz : zs.length ≤ 8) (hq : ∀ y ∈ zs, y.1.size ≤ 9) : SmallO (OV.d ⟨A, c, ps, Y', c', ys ++ zs⟩) := by
  refine ⟨h.1, by simp [OV.d]; omega, h.2.2.1, fun y hy => ?_⟩
  have hy : y ∈ ys ++ zs := hy
  rcases List.mem_append.1 hy with hy | hy
  · exact h.2.2.2 y hy
  · exact hq y hy
/-- The object as it stands in its variable O. -/
structure Mid (w wx : World) (B R O : Nat) (N : Int) (o : OV) : Prop where
  own : OwnO wx w.heap.size o
  bx : Box wx O 26 #[.slice o.A o.ps.length o.c, .slice o.Y o.ys.length o.yc]
  by_ : Box wx w.heap.size 26 #[.slice none 0 0, .slice none 0 0]
  t : Tp w wx B R N
  sz : w.heap.size < O
section
variable {w wx wy : World} {B R O : Nat} {N M : Int} {o : OV}
theorem Mid.turn (h : Mid w wx B R O N o) (g : wx.grownBy wy (some R)) (hR : R < w.heap.size) (T : Tp w wy B R M) : Mid w wy B R O M o :=
  ⟨h.own.grownR g hR, h.bx.grown g (by intro k hk; injection hk with hk; have := h.sz; omega), h.by_.grown g (by intro k hk; injection hk with hk; omega), T, h.sz⟩
theorem Mid.more (h : Mid w wx B R O N o) (hM : N ≤ M) : Mid w wx B R O M o := ⟨h.own, h.bx, h.by_, h.t.more hM, h.sz⟩
theorem Mid.call (h : Mid w wx B R O N o) (hb : Below wx.heap.size wx wy) : Mid w wy B R O N o := ⟨h.own.call hb, h.bx.call hb, h.by_.call hb, h.t.call hb, h.sz⟩
/-- A section has been appended; its slice is put. -/
theorem Mid.addS (h : Mid w wx B R O N o) (hR : R < w.heap.size) {q : SV} (hq : RwS wx w.heap.size q) {K : Nat} (hold : ∀ p ∈ o.ps, ∀ k, sblk p k → k < K) (hnew : ∀ k, sblk q k → K ≤ k) {A' : Option Addr} {n' c' : Nat} (hn : n' = o.ps.length + 1)
    (row : Row wy w.heap.size 61 6 A' n' c' (cellsOf secC o.ps ++ secC q)) (g : wx.grownBy wy (blk o.A o.c)) : Mid w (wy.setCell ⟨O, 0, none⟩ (.slice A' n' c')) B R O N { o with A := A', c := c', ps := o.ps ++ [q] } := by
  have hO := h.own.addS hq hold hnew hn row g
  have hX := h.bx.grown g (h.own.1.1.box h.bx (by decide))
  refine ⟨hO.set (hO.ne_box hX (by decide) (by decide) (by decide) (by decide)) _, ?_, ?_, ?_, h.sz⟩
  · have hb := hX.set 0 (.slice A' n' c')
    rw [hn] at hb ⊢
    show Box _ O _ #[.slice A' (o.ps ++ [q]).length c', .slice o.Y o.ys.length o.yc]
    rw [List.length_append]
    exact hb
  · exact (h.by_.grown g (h.own.1.1.box h.by_ (by decide))).far (p := ⟨O, 0, none⟩) (by have := h.sz; show w.heap.size ≠ O; omega) _
  · exact (h.t.own g (fun k hk => by have := (h.own.1.1.lt k hk).1; omega)).set (a := ⟨O, 0, none⟩) (by have := h.sz; show w.heap.size ≤ O; omega) (by have := h.sz; show R < O; omega) _
theorem Mid.addY (h : Mid w wx B R O N o) (hR : R < w.heap.size) (zs : List YD) {Y' : Option Addr} {n' c' : Nat} (hn : n' = o.ys.length + zs.length)
    (row : Row wy w.heap.size 67 4 Y' n' c' (cellsOf symbolC o.ys ++ cellsOf symbolC zs)) (g : wx.grownBy wy (blk o.Y o.yc)) : Mid w (wy.setCell ⟨O, 1, none⟩ (.slice Y' n' c')) B R O N { o with Y := Y', yc := c', ys := o.ys ++ zs } := by
  have hO := h.own.addY zs hn row g
  have hX := h.bx.grown g (h.own.2.box h.bx (by decide))
  refine ⟨hO.set (hO.ne_box hX (by decide) (by decide) (by decide) (by decide)) _, ?_, ?_, ?_, h.sz⟩
  · have hb := hX.set 1 (.slice Y' n' c')
    rw [hn] at hb ⊢
    show Box _ O _ #[.slice o.A o.ps.length o.c, .slice Y' (o.ys ++ zs).length c']
    rw [List.length_append]
    exact hb
  · exact (h.by_.grown g (h.own.2.box h.by_ (by decide))).far (p := ⟨O, 1, none⟩) (by have := h.sz; show w.heap.size ≠ O; omega) _
  · exact (h.t.own g (fun k hk => by have := (h.own.2.lt k hk).1; omega)).set (a := ⟨O, 1, none⟩) (by have := h.sz; show w.heap.size ≤ O; omega) (by have := h.sz; show R < O; omega) _
/-- The symbols are a new row. -/
theorem Mid.newY (h : Mid w wx B R O N o) (hR : R < w.heap.size) {zs : List YD} {Y' : Option Addr} {n' c' : Nat} (hn : n' = zs.length)
    (row : Row wx w.heap.size 67 4 Y' n' c' (cellsOf symbolC zs)) : Mid w (wx.setCell ⟨O, 1, none⟩ (.slice Y' n' c')) B R O N { o with Y := Y', yc := c', ys := zs } := by
  subst hn
  have hO : OwnO wx w.heap.size { o with Y := Y', yc := c', ys := zs } := ⟨h.own.1, row⟩
  refine ⟨hO.set (hO.ne_box h.bx (by decide) (by decide) (by decide) (by decide)) _, h.bx.set 1 _, ?_, ?_, h.sz⟩
  · exact h.by_.far (p := ⟨O, 1, none⟩) (by have := h.sz; show w.heap.size ≠ O; omega) _
  · exact h.t.set (a := ⟨O, 1, none⟩) (by have := h.sz; show w.heap.size ≤ O; omega) (by have := h.sz; show R < O; omega) _
theorem Mid.ret {w0 : World} {N0 : Int} (h : Mid w wx B R O N o) (hR : R < w.heap.size) (T : Tp w0 w B R N0) (hs : SmallO o.d) (hM : N ≤ M) :
    DrewO w0 w B R M (.returned o.v) ((wx.setCell ⟨w.heap.size, 0, none⟩ (.slice o.A o.ps.length o.c)).setCell ⟨w.heap.size, 1, none⟩ (.slice o.Y o.ys.length o.yc)) := by
  have hne := h.own.ne_box h.by_ (by decide) (by decide) (by decide) (by decide)
  have T4 := (h.t.set (a := ⟨w.heap.size, 0, none⟩) (Nat.le_refl _) hR (.slice o.A o.ps.length o.c)).set (a := ⟨w.heap.size, 1, none⟩) (Nat.le_refl _) hR (.slice o.Y o.ys.length o.yc)
  refine ⟨o, rfl, hs, ?_, (tp_tr T T4).more hM, T4.2⟩
  exact OwnO.set (a := ⟨w.heap.size, 1, none⟩) (OwnO.set (a := ⟨w.heap.size, 0, none⟩) h.own hne _) hne _
/-- A cell of a block that is none of the object's is put. -/
theorem Mid.setS (h : Mid w wx B R O N o) (hR : R < w.heap.size) {S i : Nat} {u : Value} (hS : ∀ k, oblk o k → k ≠ S) (hO : O < S) : Mid w (wx.setCell ⟨S, i, none⟩ u) B R O N o :=
  ⟨h.own.set hS u, h.bx.far (p := ⟨S, i, none⟩) (by show O ≠ S; omega) u, h.by_.far (p := ⟨S, i, none⟩) (by have := h.sz; show w.heap.size ≠ S; omega) u,
    h.t.set (a := ⟨S, i, none⟩) (by have := h.sz; show w.heap.size ≤ S; omega) (by have := h.sz; show R < S; omega) u, h.sz⟩
theorem Mid.neS (h : Mid w wx B R O N o) {S : Nat} {cs : Array Value} (hb : Box wx S 67 cs) (hY : ∀ k, blk o.Y o.yc = some k → k < S) : ∀ k, oblk o k → k ≠ S := by
  rintro k ((hk | ⟨p, hp, hk⟩) | hk)
  · exact h.own.1.1.box hb (by decide) k hk
  · exact (h.own.1.2.1 p hp).box hb (by decide) (by decide) k hk
  · have := hY k hk
    omega
theorem Mid.rdS (h : Mid w wx B R O N o) (hR : R < w.heap.size) : ∀ V, wx.grownBy V (some R) → RdSs V V.heap.size o.A o.ps := fun V hV => (h.own.grownR hV hR).rd.1
end
theorem made13 : (madeCells #[.string ByteArray.empty, .int .i64 0, .int .i64 0, .int .i64 0] 52).toList = cellsOf symbolC (List.replicate 13 ((ByteArray.empty, 0, 0, 0) : YD)) := by kernel_rfl
theorem conv_one (W : World) (x : Int) : (convert 22 9 (.slice (some ⟨W.heap.size, 0, none⟩) 1 1)).run Tryz.prog (W.alloc (.cells #[.int .u8 x] 5)) = .ok (.string (strOfNums [x])) (W.alloc (.cells #[.int .u8 x] 5)) := by
  have h : Rd (W.alloc (.cells #[.int .u8 x] 5)) (W.heap.size + 1) (some ⟨W.heap.size, 0, none⟩) (ints .u8 [x]) := by
    intro i u hi
    match i, hi with
    | 0, hi =>
      simp at hi
      subst hi
      exact ⟨_, _, rfl, Nat.lt_succ_self _, (Box.new W 5 #[.int .u8 x]).cell 0⟩
    | i + 1, hi => simp at hi
  exact conv_run h 1
set_option maxHeartbeats 4000000 in
theorem object_any {w0 w : World} {B R : Nat} {N : Int} (T0 : Tp w0 w B R N) (hN : N ≤ 10000) (hN0 : 0 ≤ N) (n : Int) (hn : 0 ≤ n) (hn' : n ≤ 1000) :
    Calls Tryz.prog 34 #[.pointer (some ⟨R, 0, none⟩), .int .i64 n] w (DrewO w0 w B R (N + 2000)) := by
  obtain ⟨iS, his1, his2, his3, his4⟩ := info_parts BObj.info
  have HIS := hide (And.intro his1 (And.intro his2 (And.intro his3 his4)))
  clear his1 his2 his3 his4
  obtain ⟨iY, hiy1, hiy2, hiy3, hiy4⟩ := info_parts CSymbols.info
  have HIY := hide (And.intro hiy1 (And.intro hiy2 (And.intro hiy3 hiy4)))
  clear hiy1 hiy2 hiy3 hiy4
  have hR := T0.lt
  have HT0 := hide T0
  have T := tp_new T0
  clear T0
  have hs1 : w.heap.size < w.heap.size + 1 := by omega
  have HM0 := (show Mid w ((w.alloc (.cells #[.slice none 0 0, .slice none 0 0] 26)).alloc (.cells #[.slice none 0 0, .slice none 0 0] 26)) B R (w.heap.size + 1) N ⟨none, 0, [], none, 0, []⟩ from
    ⟨⟨⟨Row.empty _ _ _ _ _, (fun p hp => by cases hp), List.Pairwise.nil⟩, Row.empty _ _ _ _ _⟩, (by have h := Box.new (w.alloc (.cells #[.slice none 0 0, .slice none 0 0] 26)) 26 #[.slice none 0 0, .slice none 0 0]; rwa [World.size_alloc] at h), (Box.new w _ _).alloc _, (T.alloc _).alloc _, hs1⟩)
  have HM := hide HM0
  clear HM0 T
  go_enter Tryz.func34, Tryz.ntmps34
  go_wp2_with fail
  generalize (w.alloc (.cells #[.slice none 0 0, .slice none 0 0] 26)).alloc (.cells #[.slice none 0 0, .slice none 0 0] 26) = w1 at *
  have hXO : w.heap.size < w.heap.size + 1 := by omega
  generalize w.heap.size + 1 = O at *
  refine (pick_tp HM.out.t (by omega) _ (by omega) (by omega)).mono ?_
  rintro e w2 ⟨many, rfl, many0, many1, T1, g1⟩
  replace HM := hide (HM.out.turn g1 hR T1)
  clear T1 g1
  obtain ⟨many, rfl⟩ := Int.eq_ofNat_of_zero_le many0
  go_wp2_with fail
  refine (pick_tp HM.out.t (by omega) _ (by omega) (by omega)).mono ?_
  rintro e w3 ⟨i0, rfl, i00, i01, T1, g1⟩
  replace HM := hide (HM.out.turn g1 hR T1)
  clear T1 g1
  obtain ⟨i, rfl⟩ := Int.eq_ofNat_of_zero_le i00
  go_wp2_with fail
  go_loopw [7] (fun k wi => ∃ (i : Nat) (o : OV), k = .int .i64 i ∧ i + o.ps.length ≤ 3 ∧ o.ys = [] ∧ (∀ p ∈ o.ps, SmallS p.d ∧ 0 ≤ p.sz) ∧ Mid w wi B R O (N + 10 + 110 * (3 - i : Int)) o) (fun k _ => (intOf k).toNat)
  case atStart => exact ⟨i, _, rfl, by simp; omega, rfl, (fun p hp => by cases hp), HM.out.more (by omega)⟩
  case round =>
    clear HM
    obtain ⟨i, o, rfl, hi, hys, hps, hm⟩ := hrel
    have HM := hide hm
    have HYS := hide hys
    have HPS := hide hps
    clear hm hys hps
    by_cases h0 : 0 < i
    · have x0 := HM.out.bx.cell 0
      simp only [List.getElem?_toArray, List.getElem?_cons_zero, List.getElem?_cons_succ] at x0
      have hxl := HM.out.bx.lt
      go_wp2_with fail
      replace HM := hide (HM.out.call (below_dr (Below.refl _ _)))
      have x0' : wr.drew.cell? ⟨O, 0, none⟩ = some (.slice o.A o.ps.length o.c) := x0
      clear x0 hxl
      refine Rw.start (by kernel_rfl) ?_
      refine Rw.comp (i := 0) (v := ?_) rfl (by kernel_rfl) (by kernel_rfl) (by kernel_rfl) (fun _ _ _ h => h) (by repeat (first | exact Rw.re0 | apply Rw.rePlus)) (Or.inl ⟨by rfl, ?_⟩) ?_
      rotate_left 1
      focus (intro w hSw; (try dsimp only at hSw); go_simp; (try with_reducible rfl))
      try simp only [List.getElem_toArray, List.getElem_cons_succ, List.getElem_cons_zero, Act.put, List.setIfInBounds_toArray, List.set_cons_zero, List.set_cons_succ]
      refine Rw.take (i := 1) (v := ?_) (fun V => V.cell? ⟨O, 0, none⟩ = some (.slice o.A o.ps.length o.c)) rfl (by kernel_rfl) (by kernel_rfl) (by kernel_rfl) (by kernel_rfl) (fun _ _ _ h => h) (by repeat (first | exact Rw.re0 | apply Rw.rePlus)) (Or.inl ⟨by rfl, ?_⟩) x0' ?_
      rotate_left 1
      focus (intro w hSw; (try dsimp only at hSw); go_simp; (try with_reducible rfl))
      try simp only [List.getElem_toArray, List.getElem_cons_succ, List.getElem_cons_zero, Act.put, List.setIfInBounds_toArray, List.set_cons_zero, List.set_cons_succ]
      refine Rw.comp (i := 2) (v := ?_) rfl (by kernel_rfl) (by kernel_rfl) (by kernel_rfl) (fun _ _ _ h => h) (by repeat (first | exact Rw.re0 | apply Rw.rePlus)) (Or.inl ⟨by rfl, ?_⟩) ?_
      rotate_left 1
      focus (intro w hSw; (try dsimp only at hSw); go_simp; (try with_reducible rfl))
      try simp only [List.getElem_toArray, List.getElem_cons_succ, List.getElem_cons_zero, Act.put, List.setIfInBounds_toArray, List.set_cons_zero, List.set_cons_succ]
      refine Rw.comp (i := 3) (v := ?_) rfl (by kernel_rfl) (by kernel_rfl) (by kernel_rfl) (fun _ _ _ h => h) (by repeat (first | exact Rw.re0 | apply Rw.rePlus)) (Or.inl ⟨by rfl, ?_⟩) ?_
      rotate_left 1
      focus (intro w hSw; (try dsimp only at hSw); go_simp; (try with_reducible rfl))
      try simp only [List.getElem_toArray, List.getElem_cons_succ, List.getElem_cons_zero, Act.put, List.setIfInBounds_toArray, List.set_cons_zero, List.set_cons_succ]
      clear x0'
      generalize wr.drew = wd at *
      refine Rw.one (i := 4) rfl (by kernel_rfl) (fun K hK => ?_)
      go_simp
      have HLT := hide (show ∀ p ∈ o.ps, ∀ k, sblk p k → k < wd.heap.size from fun p hp k hk => ((HM.out.own.1.2.1 p hp).lt k hk).2)
      have hwd : w.heap.size ≤ wd.heap.size := Nat.le_of_lt HM.out.by_.lt
      refine (section_any (tp_new HM.out.t) (by omega) (by omega) many (by omega) 0 (by omega) (by omega)).mono ?_
      rintro e w5 ⟨q, rfl, hq1, hq2, hq3, T1⟩
      have g1 := T1.2
      have hRO : R < O := by omega
      refine hK.out _ _ (by repeat' (first | exact trivial | exact (fun _ h => Rw.cell_grown g1 (by dsimp only; omega) h) | refine And.intro ?_ ?_)) ?_
      clear hK K
      try simp only [List.getElem_toArray, List.getElem_cons_succ, List.getElem_cons_zero, Act.put, List.setIfInBounds_toArray, List.set_cons_zero, List.set_cons_succ]
      replace HM := hide (HM.out.turn g1 hR (tp_tr HM.out.t T1))
      have HQ := hide (And.intro hq1 (And.intro (hq2 rfl) hq3))
      clear T1 g1 hq1 hq2 hq3
      refine Rw.one (i := 5) rfl (by kernel_rfl) (fun K hK => ?_)
      go_simp
      have b6 : Below w5.heap.size w5 (w5.alloc (.cells #[.string q.nm, .int .i64 q.kd, .int .i64 q.al, .slice q.A q.zs.length q.c, .int .i64 q.sz, .slice q.F q.fs.length q.fc] 61)) := (by repeat (first | exact Below.refl _ _ | with_reducible assumption | (refine Below.drew ?_) | (refine Below.drewN ?_ _) | (refine Below.alloc ?_ (by simp; try omega) _) | (refine Below.setCell ?_ (by simp; try omega) _)))
      refine hK.out _ _ (by repeat' (first | exact trivial | exact (fun _ h => Rw.cell_below b6 h) | refine And.intro ?_ ?_)) ?_
      clear hK K
      try simp only [List.getElem_toArray, List.getElem_cons_succ, List.getElem_cons_zero, Act.put, List.setIfInBounds_toArray, List.set_cons_zero, List.set_cons_succ]
      replace HM := hide (HM.out.call b6)
      have HQR := hide ((HQ.out.2.2.call b6))
      clear b6
      have hpl : o.ps.length ≤ 3 := by omega
      refine Rw.one (i := 6) rfl (by kernel_rfl) (fun K hK => ?_)
      refine step_app (by rfl) _ _ 23 rfl 61 iS (.agg #[.string ByteArray.empty, .int .i64 0, .int .i64 0, .slice none 0 0, .int .i64 0, .slice none 0 0]) 6 88 Tryz.underlying23 HIS.out.1 HIS.out.2.1 HIS.out.2.2.1 HIS.out.2.2.2 rfl (by decide) w.heap.size o.A o.ps.length o.c (cellsOf secC o.ps) (by rfl) HM.out.own.1.1 (Nat.le_of_lt HM.out.by_.lt) (some ⟨w5.heap.size, 0, none⟩) 1 1 (secC q) (by rfl) (rd_lit w5 #[.string q.nm, .int .i64 q.kd, .int .i64 q.al, .slice q.A q.zs.length q.c, .int .i64 q.sz, .slice q.F q.fs.length q.fc] 61 _ rfl) rfl (fun h => by cases h) (one_sec q) (by unfold maxLen; omega) (by omega) ?_
      intro A2 n2 c2 w7 hn2 o7 g7 k7
      have HMN := hide (HM.out.addS hR (HQR.out.down hwd) HLT.out (fun k hk => (HQR.out.lt k hk).1) hn2 o7 g7)
      have HBX := hide (HM.out.bx.grown g7 (HM.out.own.1.1.box HM.out.bx (by decide)))
      have HN2 := hide hn2
      clear hn2 o7 g7 k7 HM HLT
      refine hK.out _ _ (by repeat' (first | exact trivial | exact Rw.out_of (by kernel_rfl) | refine And.intro ?_ ?_)) ?_
      clear hK K
      try simp only [List.getElem_toArray, List.getElem_cons_succ, List.getElem_cons_zero, Act.put, List.setIfInBounds_toArray, List.set_cons_zero, List.set_cons_succ]
      refine Rw.comp (i := 7) (v := ?_) rfl (by kernel_rfl) (by kernel_rfl) (by kernel_rfl) (fun _ _ _ h => h) (by repeat (first | exact Rw.re0 | apply Rw.rePlus)) (Or.inl ⟨by rfl, ?_⟩) ?_
      rotate_left 1
      focus (intro w hSw; (try dsimp only at hSw); go_simp; (try with_reducible rfl))
      try simp only [List.getElem_toArray, List.getElem_cons_succ, List.getElem_cons_zero, Act.put, List.setIfInBounds_toArray, List.set_cons_zero, List.set_cons_succ]
      have hb0 := HBX.out.cell 0
      have hbf := HBX.out.frozen 0
      have hbl := HBX.out.lt
      simp only [List.getElem?_toArray, List.getElem?_cons_zero, List.getElem?_cons_succ] at hb0
      refine Rw.one (i := 8) rfl (by kernel_rfl) (fun K hK => ?_)
      go_simp
      refine hK.out _ _ (by repeat' (first | exact trivial | exact Rw.out_of (by kernel_rfl) | refine And.intro ?_ ?_)) ?_
      clear hK K
      try simp only [List.getElem_toArray, List.getElem_cons_succ, List.getElem_cons_zero, Act.put, List.setIfInBounds_toArray, List.set_cons_zero, List.set_cons_succ]
      refine Rw.done (by kernel_rfl) ?_ _
      clear hb0 hbf hbl HBX
      go_wp2_with fail
      have hn2 := HN2.out
      refine ⟨⟨i - 1, ⟨A2, c2, o.ps ++ [q], o.Y, o.yc, o.ys⟩, congrArg (Value.int .i64) (by omega), ?_, HYS.out, ?_, HMN.out.more (by omega)⟩, by simp [intOf]; omega⟩
      · show i - 1 + (o.ps ++ [q]).length ≤ 3
        rw [List.length_append]
        show i - 1 + (o.ps.length + 1) ≤ 3
        omega
      · intro p hp
        rcases List.mem_append.1 hp with hp | hp
        · exact HPS.out p hp
        · obtain rfl := List.mem_singleton.1 hp
          exact ⟨HQ.out.1, HQ.out.2.1⟩
    · have e0 : i = 0 := by omega
      subst e0
      have hpl : o.ps.length ≤ 3 := by omega
      obtain ⟨A, c, ps, Y, yc, ys⟩ := o
      have hys : ys = [] := HYS.out
      subst hys
      simp only at hpl
      have HPS2 := hide (show ∀ p ∈ ps, 0 ≤ p.sz ∧ p.sz ≤ 49 ∧ p.zs.length ≤ 49 from fun p hp => ⟨(HPS.out p hp).2, (HPS.out p hp).1.2.2.2.2.2, (HPS.out p hp).1.2.1⟩)
      have HPS3 := hide (show ∀ p ∈ ps, SmallS p.d from fun p hp => (HPS.out p hp).1)
      clear HYS HPS h0 hi
      replace HM := hide (HM.out.more (show _ ≤ N + 350 by omega))
      go_wp2_with fail
      go_loopw [8] (fun k wi => ∃ (k' : Nat) (Y : Option Addr) (yc : Nat) (ys : List YD), k' ≤ many ∧ k = .int .i64 k' ∧ ys.length = k' ∧ (∀ y ∈ ys, y.1.size ≤ 9) ∧ Mid w wi B R O (N + 350 + 60 * (k' : Int)) ⟨A, c, ps, Y, yc, ys⟩) (fun k _ => many - (intOf k).toNat)
      case atStart => exact ⟨0, Y, yc, [], Nat.zero_le _, rfl, rfl, (fun y hy => by cases hy), HM.out.more (by omega)⟩
      case round =>
        clear HM
        obtain ⟨k, Y, yc, ys, hk, rfl, hkl, hsm, hm⟩ := hrel
        have HM := hide hm
        have HSM := hide hsm
        have HKL := hide hkl
        clear hm hsm hkl
        by_cases hlt : k < many
        · have x0 := HM.out.bx.cell 0
          simp only [List.getElem?_toArray, List.getElem?_cons_zero, List.getElem?_cons_succ] at x0
          have hxl := HM.out.bx.lt
          go_wp2_with fail
          refine (DSymbol.symbol_any (tp_new HM.out.t) (by omega) (by omega) A ps c (HM.out.rdS hR) HPS2.out (by omega) 0 (by omega) (by omega)).mono ?_
          rintro e w5 ⟨z, rfl, z9, T1, g1⟩
          replace HM := hide (HM.out.turn g1 hR (tp_tr HM.out.t T1))
          clear T1 g1 x0 hxl
          go_wp2_with fail
          have HS := hide (Box.new w5 67 #[.string z.1, .int .i64 z.2.1, .int .i64 z.2.2.1, .int .i64 z.2.2.2])
          have hOS : O < w5.heap.size := HM.out.bx.lt
          have b5 : Below w5.heap.size w5 (w5.alloc (.cells #[.string z.1, .int .i64 z.2.1, .int .i64 z.2.2.1, .int .i64 z.2.2.2] 67)) := (by repeat (first | exact Below.refl _ _ | with_reducible assumption | (refine Below.drew ?_) | (refine Below.drewN ?_ _) | (refine Below.alloc ?_ (by simp; try omega) _) | (refine Below.setCell ?_ (by simp; try omega) _)))
          have HYS := hide (show ∀ k, blk Y yc = some k → k < w5.heap.size from fun k hk => (HM.out.own.2.lt k hk).2)
          replace HM := hide (HM.out.call b5)
          clear b5
          generalize w5.alloc (.cells #[.string z.1, .int .i64 z.2.1, .int .i64 z.2.2.1, .int .i64 z.2.2.2] 67) = w6 at *
          generalize w5.heap.size = S at *
          go_loopw [10] (fun j wi => ∃ (j' : Nat) (z : YD), j' ≤ k ∧ j = .int .i64 j' ∧ z.1.size ≤ 9 ∧ Box wi S 67 #[.string z.1, .int .i64 z.2.1, .int .i64 z.2.2.1, .int .i64 z.2.2.2] ∧ Mid w wi B R O (N + 350 + 60 * (k : Int) + 50) ⟨A, c, ps, Y, yc, ys⟩) (fun j _ => k - (intOf j).toNat)
          case atStart => exact ⟨0, z, Nat.zero_le _, rfl, z9, HS.out, HM.out⟩
          case round =>
            clear HM HS z9
            obtain ⟨j, z, hj, rfl, z9, hs, hm⟩ := hrel
            have HM := hide hm
            have HS := hide hs
            have HZ9 := hide z9
            clear hm hs z9
            have x1 := HM.out.bx.cell 1
            simp only [List.getElem?_toArray, List.getElem?_cons_zero, List.getElem?_cons_succ] at x1
            have hkl := HKL.out
            rw [hkl] at x1
            have hxl := HM.out.bx.lt
            by_cases hjl : j < k
            · obtain ⟨by', off, hY, hbg, hc⟩ := HM.out.own.2.rd.row symbolC_len (by decide) (show j < ys.length by omega)
              have hY : Y = some ⟨by', off, none⟩ := hY
              generalize ys[j]'(by omega) = y at *
              have y0 := hc 0 _ rfl
              have y1 := hc 1 _ rfl
              simp only [Nat.add_zero] at y0
              have HYY := hide hY
              rw [hY] at x1
              clear hc hkl hY
              have s0 := HS.out.cell 0
              have s1 := HS.out.cell 1
              simp only [List.getElem?_toArray, List.getElem?_cons_zero, List.getElem?_cons_succ] at s0 s1
              go_upto_region 14 with (fail)
              go_cut [66] from 44 to 66 (fun t wx => ∃ b : Bool, t = .bool b ∧ wx = wr.drew)
              case first =>
                cases hb1 : (y.1.toList == z.1.toList)
                · skip
                  refine Rv.start (fun W => W.cell? ⟨O, 1, none⟩ = some (.slice (some ⟨by', off, none⟩) k yc) ∧ W.cell? ⟨by', off + j * 4, none⟩ = some (.string y.1) ∧ W.cell? ⟨by', off + j * 4 + 1, none⟩ = some (.int .i64 y.2.1) ∧ W.cell? ⟨S, 0, none⟩ = some (.string z.1) ∧ W.cell? ⟨S, 1, none⟩ = some (.int .i64 z.2.1)) (fun _ => false) (by kernel_rfl) ?_
                  have hHeld : wr.drew.cell? ⟨O, 1, none⟩ = some (.slice (some ⟨by', off, none⟩) k yc) ∧ wr.drew.cell? ⟨by', off + j * 4, none⟩ = some (.string y.1) ∧ wr.drew.cell? ⟨by', off + j * 4 + 1, none⟩ = some (.int .i64 y.2.1) ∧ wr.drew.cell? ⟨S, 0, none⟩ = some (.string z.1) ∧ wr.drew.cell? ⟨S, 1, none⟩ = some (.int .i64 z.2.1) := ⟨x1, y0, y1, s0, s1⟩
                  refine Rv.comp (i := 0) (v := ?_) rfl (by kernel_rfl) (by kernel_rfl) (by kernel_rfl) (fun _ _ _ h => h) (Or.inl ⟨by rfl, ?_⟩) ?_
                  rotate_left 1
                  focus (intro w hSw; (try dsimp only at hSw); go_simp; (try with_reducible rfl))
                  try simp only [List.getElem_toArray, List.getElem_cons_succ, List.getElem_cons_zero, Act.put, List.setIfInBounds_toArray, List.set_cons_zero, List.set_cons_succ]
                  refine Rv.take (i := 1) (v := ?_) rfl (by kernel_rfl) (by kernel_rfl) (by kernel_rfl) (by kernel_rfl) (fun _ _ _ h => h) (Or.inl ⟨by rfl, ?_⟩) (by assumption) ?_
                  rotate_left 1
                  focus (intro w hSw; (try dsimp only at hSw); go_simp; (try with_reducible rfl))
                  try simp only [List.getElem_toArray, List.getElem_cons_succ, List.getElem_cons_zero, Act.put, List.setIfInBounds_toArray, List.set_cons_zero, List.set_cons_succ]
                  refine Rv.comp (i := 2) (v := ?_) rfl (by kernel_rfl) (by kernel_rfl) (by kernel_rfl) (fun _ _ _ h => h) (Or.inl ⟨by rfl, ?_⟩) ?_
                  rotate_left 1
                  focus (intro w hSw; (try dsimp only at hSw); go_simp; (try with_reducible rfl))
                  try simp only [List.getElem_toArray, List.getElem_cons_succ, List.getElem_cons_zero, Act.put, List.setIfInBounds_toArray, List.set_cons_zero, List.set_cons_succ]
                  refine Rv.comp (i := 3) (v := ?_) rfl (by kernel_rfl) (by kernel_rfl) (by kernel_rfl) (fun _ _ _ h => h) (Or.inl ⟨by rfl, ?_⟩) ?_
                  rotate_left 1
                  focus (intro w hSw; (try dsimp only at hSw); go_simp; (try with_reducible rfl))
                  try simp only [List.getElem_toArray, List.getElem_cons_succ, List.getElem_cons_zero, Act.put, List.setIfInBounds_toArray, List.set_cons_zero, List.set_cons_succ]
                  refine Rv.comp (i := 4) (v := ?_) rfl (by kernel_rfl) (by kernel_rfl) (by kernel_rfl) (fun _ _ _ h => h) (Or.inl ⟨by rfl, ?_⟩) ?_
                  rotate_left 1
                  focus (intro w hSw; (try dsimp only at hSw); go_simp; (try with_reducible rfl))
                  try simp only [List.getElem_toArray, List.getElem_cons_succ, List.getElem_cons_zero, Act.put, List.setIfInBounds_toArray, List.set_cons_zero, List.set_cons_succ]
                  refine Rv.take (i := 5) (v := ?_) rfl (by kernel_rfl) (by kernel_rfl) (by kernel_rfl) (by kernel_rfl) (fun _ _ _ h => h) (Or.inl ⟨by rfl, ?_⟩) (by assumption) ?_
                  rotate_left 1
                  focus (intro w hSw; (try dsimp only at hSw); go_simp; (try with_reducible rfl))
                  try simp only [List.getElem_toArray, List.getElem_cons_succ, List.getElem_cons_zero, Act.put, List.setIfInBounds_toArray, List.set_cons_zero, List.set_cons_succ]
                  refine Rv.comp (i := 6) (v := ?_) rfl (by kernel_rfl) (by kernel_rfl) (by kernel_rfl) (fun _ _ _ h => h) (Or.inl ⟨by rfl, ?_⟩) ?_
                  rotate_left 1
                  focus (intro w hSw; (try dsimp only at hSw); go_simp; (try with_reducible rfl))
                  try simp only [List.getElem_toArray, List.getElem_cons_succ, List.getElem_cons_zero, Act.put, List.setIfInBounds_toArray, List.set_cons_zero, List.set_cons_succ]
                  refine Rv.take (i := 7) (v := ?_) rfl (by kernel_rfl) (by kernel_rfl) (by kernel_rfl) (by kernel_rfl) (fun _ _ _ h => h) (Or.inl ⟨by rfl, ?_⟩) (by assumption) ?_
                  rotate_left 1
                  focus (intro w hSw; (try dsimp only at hSw); go_simp; (try with_reducible rfl))
                  try simp only [List.getElem_toArray, List.getElem_cons_succ, List.getElem_cons_zero, Act.put, List.setIfInBounds_toArray, List.set_cons_zero, List.set_cons_succ]
                  refine Rv.comp (i := 8) (v := ?_) rfl (by kernel_rfl) (by kernel_rfl) (by kernel_rfl) (fun _ _ _ h => h) (Or.inl ⟨by rfl, ?_⟩) ?_
                  rotate_left 1
                  focus (intro w hSw; (try dsimp only at hSw); go_simp; (try with_reducible rfl))
                  try simp only [List.getElem_toArray, List.getElem_cons_succ, List.getElem_cons_zero, Act.put, List.setIfInBounds_toArray, List.set_cons_zero, List.set_cons_succ]
                  refine Rv.comp (i := 9) (v := ?_) rfl (by kernel_rfl) (by kernel_rfl) (by kernel_rfl) (fun _ _ _ h => h) (Or.inl ⟨by rfl, ?_⟩) ?_
                  rotate_left 1
                  focus (intro w hSw; (try dsimp only at hSw); go_simp; (try with_reducible rfl))
                  try simp only [List.getElem_toArray, List.getElem_cons_succ, List.getElem_cons_zero, Act.put, List.setIfInBounds_toArray, List.set_cons_zero, List.set_cons_succ]
                  refine Rv.comp (i := 10) (v := undef) rfl (by kernel_rfl) (by kernel_rfl) (by kernel_rfl) (fun _ _ _ h => h) (Or.inr ⟨by rfl, rfl⟩) ?_
                  try simp only [List.getElem_toArray, List.getElem_cons_succ, List.getElem_cons_zero, Act.put, List.setIfInBounds_toArray, List.set_cons_zero, List.set_cons_succ]
                  refine Rv.comp (i := 11) (v := undef) rfl (by kernel_rfl) (by kernel_rfl) (by kernel_rfl) (fun _ _ _ h => h) (Or.inr ⟨by rfl, rfl⟩) ?_
                  try simp only [List.getElem_toArray, List.getElem_cons_succ, List.getElem_cons_zero, Act.put, List.setIfInBounds_toArray, List.set_cons_zero, List.set_cons_succ]
                  refine Rv.comp (i := 12) (v := undef) rfl (by kernel_rfl) (by kernel_rfl) (by kernel_rfl) (fun _ _ _ h => h) (Or.inr ⟨by rfl, rfl⟩) ?_
                  try simp only [List.getElem_toArray, List.getElem_cons_succ, List.getElem_cons_zero, Act.put, List.setIfInBounds_toArray, List.set_cons_zero, List.set_cons_succ]
                  refine Rv.comp (i := 13) (v := ?_) rfl (by kernel_rfl) (by kernel_rfl) (by kernel_rfl) (fun _ _ _ h => h) (Or.inl ⟨by rfl, ?_⟩) ?_
                  rotate_left 1
                  focus (intro w hSw; (try dsimp only at hSw); go_simp; (try with_reducible rfl))
                  try simp only [List.getElem_toArray, List.getElem_cons_succ, List.getElem_cons_zero, Act.put, List.setIfInBounds_toArray, List.set_cons_zero, List.set_cons_succ]
                  refine Rv.comp (i := 14) (v := ?_) rfl (by kernel_rfl) (by kernel_rfl) (by kernel_rfl) (fun _ _ _ h => h) (Or.inl ⟨by rfl, ?_⟩) ?_
                  rotate_left 1
                  focus (intro w hSw; (try dsimp only at hSw); go_simp; (try with_reducible rfl))
                  try simp only [List.getElem_toArray, List.getElem_cons_succ, List.getElem_cons_zero, Act.put, List.setIfInBounds_toArray, List.set_cons_zero, List.set_cons_succ]
                  refine Rv.comp (i := 15) (v := undef) rfl (by kernel_rfl) (by kernel_rfl) (by kernel_rfl) (fun _ _ _ h => h) (Or.inr ⟨by rfl, rfl⟩) ?_
                  try simp only [List.getElem_toArray, List.getElem_cons_succ, List.getElem_cons_zero, Act.put, List.setIfInBounds_toArray, List.set_cons_zero, List.set_cons_succ]
                  refine Rv.comp (i := 16) (v := undef) rfl (by kernel_rfl) (by kernel_rfl) (by kernel_rfl) (fun _ _ _ h => h) (Or.inr ⟨by rfl, rfl⟩) ?_
                  try simp only [List.getElem_toArray, List.getElem_cons_succ, List.getElem_cons_zero, Act.put, List.setIfInBounds_toArray, List.set_cons_zero, List.set_cons_succ]
                  refine Rv.comp (i := 17) (v := undef) rfl (by kernel_rfl) (by kernel_rfl) (by kernel_rfl) (fun _ _ _ h => h) (Or.inr ⟨by rfl, rfl⟩) ?_
                  try simp only [List.getElem_toArray, List.getElem_cons_succ, List.getElem_cons_zero, Act.put, List.setIfInBounds_toArray, List.set_cons_zero, List.set_cons_succ]
                  refine Rv.comp (i := 18) (v := undef) rfl (by kernel_rfl) (by kernel_rfl) (by kernel_rfl) (fun _ _ _ h => h) (Or.inr ⟨by rfl, rfl⟩) ?_
                  try simp only [List.getElem_toArray, List.getElem_cons_succ, List.getElem_cons_zero, Act.put, List.setIfInBounds_toArray, List.set_cons_zero, List.set_cons_succ]
                  refine Rv.comp (i := 19) (v := undef) rfl (by kernel_rfl) (by kernel_rfl) (by kernel_rfl) (fun _ _ _ h => h) (Or.inr ⟨by rfl, rfl⟩) ?_
                  try simp only [List.getElem_toArray, List.getElem_cons_succ, List.getElem_cons_zero, Act.put, List.setIfInBounds_toArray, List.set_cons_zero, List.set_cons_succ]
                  refine Rv.comp (i := 20) (v := undef) rfl (by kernel_rfl) (by kernel_rfl) (by kernel_rfl) (fun _ _ _ h => h) (Or.inr ⟨by rfl, rfl⟩) ?_
                  try simp only [List.getElem_toArray, List.getElem_cons_succ, List.getElem_cons_zero, Act.put, List.setIfInBounds_toArray, List.set_cons_zero, List.set_cons_succ]
                  refine Rv.comp (i := 21) (v := undef) rfl (by kernel_rfl) (by kernel_rfl) (by kernel_rfl) (fun _ _ _ h => h) (Or.inr ⟨by rfl, rfl⟩) ?_
                  try simp only [List.getElem_toArray, List.getElem_cons_succ, List.getElem_cons_zero, Act.put, List.setIfInBounds_toArray, List.set_cons_zero, List.set_cons_succ]
                  refine Rv.comp (i := 22) (v := ?_) rfl (by kernel_rfl) (by kernel_rfl) (by kernel_rfl) (fun _ _ _ h => h) (Or.inl ⟨by rfl, ?_⟩) ?_
                  rotate_left 1
                  focus (intro w hSw; (try dsimp only at hSw); go_simp; (try with_reducible rfl))
                  try simp only [List.getElem_toArray, List.getElem_cons_succ, List.getElem_cons_zero, Act.put, List.setIfInBounds_toArray, List.set_cons_zero, List.set_cons_succ]
                  refine Rv.done (by kernel_rfl) ?_ _
                  go_wp2_with fail
                  go_meet
                  exact ⟨_, rfl, rfl⟩
                · by_cases hb2 : z.2.1 = 0
                  · have hb3 : (z.2.1 != 0) = false := by rw [hb2]; rfl
                    clear hb2
                    refine Rv.start (fun W => W.cell? ⟨O, 1, none⟩ = some (.slice (some ⟨by', off, none⟩) k yc) ∧ W.cell? ⟨by', off + j * 4, none⟩ = some (.string y.1) ∧ W.cell? ⟨by', off + j * 4 + 1, none⟩ = some (.int .i64 y.2.1) ∧ W.cell? ⟨S, 0, none⟩ = some (.string z.1) ∧ W.cell? ⟨S, 1, none⟩ = some (.int .i64 z.2.1)) (fun _ => false) (by kernel_rfl) ?_
                    have hHeld : wr.drew.cell? ⟨O, 1, none⟩ = some (.slice (some ⟨by', off, none⟩) k yc) ∧ wr.drew.cell? ⟨by', off + j * 4, none⟩ = some (.string y.1) ∧ wr.drew.cell? ⟨by', off + j * 4 + 1, none⟩ = some (.int .i64 y.2.1) ∧ wr.drew.cell? ⟨S, 0, none⟩ = some (.string z.1) ∧ wr.drew.cell? ⟨S, 1, none⟩ = some (.int .i64 z.2.1) := ⟨x1, y0, y1, s0, s1⟩
                    refine Rv.comp (i := 0) (v := ?_) rfl (by kernel_rfl) (by kernel_rfl) (by kernel_rfl) (fun _ _ _ h => h) (Or.inl ⟨by rfl, ?_⟩) ?_
                    rotate_left 1
                    focus (intro w hSw; (try dsimp only at hSw); go_simp; (try with_reducible rfl))
                    try simp only [List.getElem_toArray, List.getElem_cons_succ, List.getElem_cons_zero, Act.put, List.setIfInBounds_toArray, List.set_cons_zero, List.set_cons_succ]
                    refine Rv.take (i := 1) (v := ?_) rfl (by kernel_rfl) (by kernel_rfl) (by kernel_rfl) (by kernel_rfl) (fun _ _ _ h => h) (Or.inl ⟨by rfl, ?_⟩) (by assumption) ?_
                    rotate_left 1
                    focus (intro w hSw; (try dsimp only at hSw); go_simp; (try with_reducible rfl))
                    try simp only [List.getElem_toArray, List.getElem_cons_succ, List.getElem_cons_zero, Act.put, List.setIfInBounds_toArray, List.set_cons_zero, List.set_cons_succ]
                    refine Rv.comp (i := 2) (v := ?_) rfl (by kernel_rfl) (by kernel_rfl) (by kernel_rfl) (fun _ _ _ h => h) (Or.inl ⟨by rfl, ?_⟩) ?_
                    rotate_left 1
                    focus (intro w hSw; (try dsimp only at hSw); go_simp; (try with_reducible rfl))
                    try simp only [List.getElem_toArray, List.getElem_cons_succ, List.getElem_cons_zero, Act.put, List.setIfInBounds_toArray, List.set_cons_zero, List.set_cons_succ]
                    refine Rv.comp (i := 3) (v := ?_) rfl (by kernel_rfl) (by kernel_rfl) (by kernel_rfl) (fun _ _ _ h => h) (Or.inl ⟨by rfl, ?_⟩) ?_
                    rotate_left 1
                    focus (intro w hSw; (try dsimp only at hSw); go_simp; (try with_reducible rfl))
                    try simp only [List.getElem_toArray, List.getElem_cons_succ, List.getElem_cons_zero, Act.put, List.setIfInBounds_toArray, List.set_cons_zero, List.set_cons_succ]
                    refine Rv.comp (i := 4) (v := ?_) rfl (by kernel_rfl) (by kernel_rfl) (by kernel_rfl) (fun _ _ _ h => h) (Or.inl ⟨by rfl, ?_⟩) ?_
                    rotate_left 1
                    focus (intro w hSw; (try dsimp only at hSw); go_simp; (try with_reducible rfl))
                    try simp only [List.getElem_toArray, List.getElem_cons_succ, List.getElem_cons_zero, Act.put, List.setIfInBounds_toArray, List.set_cons_zero, List.set_cons_succ]
                    refine Rv.take (i := 5) (v := ?_) rfl (by kernel_rfl) (by kernel_rfl) (by kernel_rfl) (by kernel_rfl) (fun _ _ _ h => h) (Or.inl ⟨by rfl, ?_⟩) (by assumption) ?_
                    rotate_left 1
                    focus (intro w hSw; (try dsimp only at hSw); go_simp; (try with_reducible rfl))
                    try simp only [List.getElem_toArray, List.getElem_cons_succ, List.getElem_cons_zero, Act.put, List.setIfInBounds_toArray, List.set_cons_zero, List.set_cons_succ]
                    refine Rv.comp (i := 6) (v := ?_) rfl (by kernel_rfl) (by kernel_rfl) (by kernel_rfl) (fun _ _ _ h => h) (Or.inl ⟨by rfl, ?_⟩) ?_
                    rotate_left 1
                    focus (intro w hSw; (try dsimp only at hSw); go_simp; (try with_reducible rfl))
                    try simp only [List.getElem_toArray, List.getElem_cons_succ, List.getElem_cons_zero, Act.put, List.setIfInBounds_toArray, List.set_cons_zero, List.set_cons_succ]
                    refine Rv.take (i := 7) (v := ?_) rfl (by kernel_rfl) (by kernel_rfl) (by kernel_rfl) (by kernel_rfl) (fun _ _ _ h => h) (Or.inl ⟨by rfl, ?_⟩) (by assumption) ?_
                    rotate_left 1
                    focus (intro w hSw; (try dsimp only at hSw); go_simp; (try with_reducible rfl))
                    try simp only [List.getElem_toArray, List.getElem_cons_succ, List.getElem_cons_zero, Act.put, List.setIfInBounds_toArray, List.set_cons_zero, List.set_cons_succ]
                    refine Rv.comp (i := 8) (v := ?_) rfl (by kernel_rfl) (by kernel_rfl) (by kernel_rfl) (fun _ _ _ h => h) (Or.inl ⟨by rfl, ?_⟩) ?_
                    rotate_left 1
                    focus (intro w hSw; (try dsimp only at hSw); go_simp; (try with_reducible rfl))
                    try simp only [List.getElem_toArray, List.getElem_cons_succ, List.getElem_cons_zero, Act.put, List.setIfInBounds_toArray, List.set_cons_zero, List.set_cons_succ]
                    refine Rv.comp (i := 9) (v := ?_) rfl (by kernel_rfl) (by kernel_rfl) (by kernel_rfl) (fun _ _ _ h => h) (Or.inl ⟨by rfl, ?_⟩) ?_
                    rotate_left 1
                    focus (intro w hSw; (try dsimp only at hSw); go_simp; (try with_reducible rfl))
                    try simp only [List.getElem_toArray, List.getElem_cons_succ, List.getElem_cons_zero, Act.put, List.setIfInBounds_toArray, List.set_cons_zero, List.set_cons_succ]
                    refine Rv.comp (i := 10) (v := ?_) rfl (by kernel_rfl) (by kernel_rfl) (by kernel_rfl) (fun _ _ _ h => h) (Or.inl ⟨by rfl, ?_⟩) ?_
                    rotate_left 1
                    focus (intro w hSw; (try dsimp only at hSw); go_simp; (try with_reducible rfl))
                    try simp only [List.getElem_toArray, List.getElem_cons_succ, List.getElem_cons_zero, Act.put, List.setIfInBounds_toArray, List.set_cons_zero, List.set_cons_succ]
                    refine Rv.take (i := 11) (v := ?_) rfl (by kernel_rfl) (by kernel_rfl) (by kernel_rfl) (by kernel_rfl) (fun _ _ _ h => h) (Or.inl ⟨by rfl, ?_⟩) (by assumption) ?_
                    rotate_left 1
                    focus (intro w hSw; (try dsimp only at hSw); go_simp; (try with_reducible rfl))
                    try simp only [List.getElem_toArray, List.getElem_cons_succ, List.getElem_cons_zero, Act.put, List.setIfInBounds_toArray, List.set_cons_zero, List.set_cons_succ]
                    refine Rv.comp (i := 12) (v := ?_) rfl (by kernel_rfl) (by kernel_rfl) (by kernel_rfl) (fun _ _ _ h => h) (Or.inl ⟨by rfl, ?_⟩) ?_
                    rotate_left 1
                    focus (intro w hSw; (try dsimp only at hSw); go_simp; (try with_reducible rfl))
                    try simp only [List.getElem_toArray, List.getElem_cons_succ, List.getElem_cons_zero, Act.put, List.setIfInBounds_toArray, List.set_cons_zero, List.set_cons_succ]
                    refine Rv.comp (i := 13) (v := ?_) rfl (by kernel_rfl) (by kernel_rfl) (by kernel_rfl) (fun _ _ _ h => h) (Or.inl ⟨by rfl, ?_⟩) ?_
                    rotate_left 1
                    focus (intro w hSw; (try dsimp only at hSw); go_simp; (try with_reducible rfl))
                    try simp only [List.getElem_toArray, List.getElem_cons_succ, List.getElem_cons_zero, Act.put, List.setIfInBounds_toArray, List.set_cons_zero, List.set_cons_succ]
                    refine Rv.comp (i := 14) (v := ?_) rfl (by kernel_rfl) (by kernel_rfl) (by kernel_rfl) (fun _ _ _ h => h) (Or.inl ⟨by rfl, ?_⟩) ?_
                    rotate_left 1
                    focus (intro w hSw; (try dsimp only at hSw); go_simp; (try with_reducible rfl))
                    try simp only [List.getElem_toArray, List.getElem_cons_succ, List.getElem_cons_zero, Act.put, List.setIfInBounds_toArray, List.set_cons_zero, List.set_cons_succ]
                    refine Rv.comp (i := 15) (v := undef) rfl (by kernel_rfl) (by kernel_rfl) (by kernel_rfl) (fun _ _ _ h => h) (Or.inr ⟨by rfl, rfl⟩) ?_
                    try simp only [List.getElem_toArray, List.getElem_cons_succ, List.getElem_cons_zero, Act.put, List.setIfInBounds_toArray, List.set_cons_zero, List.set_cons_succ]
                    refine Rv.comp (i := 16) (v := undef) rfl (by kernel_rfl) (by kernel_rfl) (by kernel_rfl) (fun _ _ _ h => h) (Or.inr ⟨by rfl, rfl⟩) ?_
                    try simp only [List.getElem_toArray, List.getElem_cons_succ, List.getElem_cons_zero, Act.put, List.setIfInBounds_toArray, List.set_cons_zero, List.set_cons_succ]
                    refine Rv.comp (i := 17) (v := undef) rfl (by kernel_rfl) (by kernel_rfl) (by kernel_rfl) (fun _ _ _ h => h) (Or.inr ⟨by rfl, rfl⟩) ?_
                    try simp only [List.getElem_toArray, List.getElem_cons_succ, List.getElem_cons_zero, Act.put, List.setIfInBounds_toArray, List.set_cons_zero, List.set_cons_succ]
                    refine Rv.comp (i := 18) (v := undef) rfl (by kernel_rfl) (by kernel_rfl) (by kernel_rfl) (fun _ _ _ h => h) (Or.inr ⟨by rfl, rfl⟩) ?_
                    try simp only [List.getElem_toArray, List.getElem_cons_succ, List.getElem_cons_zero, Act.put, List.setIfInBounds_toArray, List.set_cons_zero, List.set_cons_succ]
                    refine Rv.comp (i := 19) (v := undef) rfl (by kernel_rfl) (by kernel_rfl) (by kernel_rfl) (fun _ _ _ h => h) (Or.inr ⟨by rfl, rfl⟩) ?_
                    try simp only [List.getElem_toArray, List.getElem_cons_succ, List.getElem_cons_zero, Act.put, List.setIfInBounds_toArray, List.set_cons_zero, List.set_cons_succ]
                    refine Rv.comp (i := 20) (v := undef) rfl (by kernel_rfl) (by kernel_rfl) (by kernel_rfl) (fun _ _ _ h => h) (Or.inr ⟨by rfl, rfl⟩) ?_
                    try simp only [List.getElem_toArray, List.getElem_cons_succ, List.getElem_cons_zero, Act.put, List.setIfInBounds_toArray, List.set_cons_zero, List.set_cons_succ]
                    refine Rv.comp (i := 21) (v := undef) rfl (by kernel_rfl) (by kernel_rfl) (by kernel_rfl) (fun _ _ _ h => h) (Or.inr ⟨by rfl, rfl⟩) ?_
                    try simp only [List.getElem_toArray, List.getElem_cons_succ, List.getElem_cons_zero, Act.put, List.setIfInBounds_toArray, List.set_cons_zero, List.set_cons_succ]
                    refine Rv.comp (i := 22) (v := ?_) rfl (by kernel_rfl) (by kernel_rfl) (by kernel_rfl) (fun _ _ _ h => h) (Or.inl ⟨by rfl, ?_⟩) ?_
                    rotate_left 1
                    focus (intro w hSw; (try dsimp only at hSw); go_simp; (try with_reducible rfl))
                    try simp only [List.getElem_toArray, List.getElem_cons_succ, List.getElem_cons_zero, Act.put, List.setIfInBounds_toArray, List.set_cons_zero, List.set_cons_succ]
                    refine Rv.done (by kernel_rfl) ?_ _
                    go_wp2_with fail
                    go_meet
                    exact ⟨_, rfl, rfl⟩
                  · have hb3 : (z.2.1 != 0) = true := bne_iff_ne.2 hb2
                    clear hb2
                    refine Rv.start (fun W => W.cell? ⟨O, 1, none⟩ = some (.slice (some ⟨by', off, none⟩) k yc) ∧ W.cell? ⟨by', off + j * 4, none⟩ = some (.string y.1) ∧ W.cell? ⟨by', off + j * 4 + 1, none⟩ = some (.int .i64 y.2.1) ∧ W.cell? ⟨S, 0, none⟩ = some (.string z.1) ∧ W.cell? ⟨S, 1, none⟩ = some (.int .i64 z.2.1)) (fun _ => false) (by kernel_rfl) ?_
                    have hHeld : wr.drew.cell? ⟨O, 1, none⟩ = some (.slice (some ⟨by', off, none⟩) k yc) ∧ wr.drew.cell? ⟨by', off + j * 4, none⟩ = some (.string y.1) ∧ wr.drew.cell? ⟨by', off + j * 4 + 1, none⟩ = some (.int .i64 y.2.1) ∧ wr.drew.cell? ⟨S, 0, none⟩ = some (.string z.1) ∧ wr.drew.cell? ⟨S, 1, none⟩ = some (.int .i64 z.2.1) := ⟨x1, y0, y1, s0, s1⟩
                    refine Rv.comp (i := 0) (v := ?_) rfl (by kernel_rfl) (by kernel_rfl) (by kernel_rfl) (fun _ _ _ h => h) (Or.inl ⟨by rfl, ?_⟩) ?_
                    rotate_left 1
                    focus (intro w hSw; (try dsimp only at hSw); go_simp; (try with_reducible rfl))
                    try simp only [List.getElem_toArray, List.getElem_cons_succ, List.getElem_cons_zero, Act.put, List.setIfInBounds_toArray, List.set_cons_zero, List.set_cons_succ]
                    refine Rv.take (i := 1) (v := ?_) rfl (by kernel_rfl) (by kernel_rfl) (by kernel_rfl) (by kernel_rfl) (fun _ _ _ h => h) (Or.inl ⟨by rfl, ?_⟩) (by assumption) ?_
                    rotate_left 1
                    focus (intro w hSw; (try dsimp only at hSw); go_simp; (try with_reducible rfl))
                    try simp only [List.getElem_toArray, List.getElem_cons_succ, List.getElem_cons_zero, Act.put, List.setIfInBounds_toArray, List.set_cons_zero, List.set_cons_succ]
                    refine Rv.comp (i := 2) (v := ?_) rfl (by kernel_rfl) (by kernel_rfl) (by kernel_rfl) (fun _ _ _ h => h) (Or.inl ⟨by rfl, ?_⟩) ?_
                    rotate_left 1
                    focus (intro w hSw; (try dsimp only at hSw); go_simp; (try with_reducible rfl))
                    try simp only [List.getElem_toArray, List.getElem_cons_succ, List.getElem_cons_zero, Act.put, List.setIfInBounds_toArray, List.set_cons_zero, List.set_cons_succ]
                    refine Rv.comp (i := 3) (v := ?_) rfl (by kernel_rfl) (by kernel_rfl) (by kernel_rfl) (fun _ _ _ h => h) (Or.inl ⟨by rfl, ?_⟩) ?_
                    rotate_left 1
                    focus (intro w hSw; (try dsimp only at hSw); go_simp; (try with_reducible rfl))
                    try simp only [List.getElem_toArray, List.getElem_cons_succ, List.getElem_cons_zero, Act.put, List.setIfInBounds_toArray, List.set_cons_zero, List.set_cons_succ]
                    refine Rv.comp (i := 4) (v := ?_) rfl (by kernel_rfl) (by kernel_rfl) (by kernel_rfl) (fun _ _ _ h => h) (Or.inl ⟨by rfl, ?_⟩) ?_
                    rotate_left 1
                    focus (intro w hSw; (try dsimp only at hSw); go_simp; (try with_reducible rfl))
                    try simp only [List.getElem_toArray, List.getElem_cons_succ, List.getElem_cons_zero, Act.put, List.setIfInBounds_toArray, List.set_cons_zero, List.set_cons_succ]
                    refine Rv.take (i := 5) (v := ?_) rfl (by kernel_rfl) (by kernel_rfl) (by kernel_rfl) (by kernel_rfl) (fun _ _ _ h => h) (Or.inl ⟨by rfl, ?_⟩) (by assumption) ?_
                    rotate_left 1
                    focus (intro w hSw; (try dsimp only at hSw); go_simp; (try with_reducible rfl))
                    try simp only [List.getElem_toArray, List.getElem_cons_succ, List.getElem_cons_zero, Act.put, List.setIfInBounds_toArray, List.set_cons_zero, List.set_cons_succ]
                    refine Rv.comp (i := 6) (v := ?_) rfl (by kernel_rfl) (by kernel_rfl) (by kernel_rfl) (fun _ _ _ h => h) (Or.inl ⟨by rfl, ?_⟩) ?_
                    rotate_left 1
                    focus (intro w hSw; (try dsimp only at hSw); go_simp; (try with_reducible rfl))
                    try simp only [List.getElem_toArray, List.getElem_cons_succ, List.getElem_cons_zero, Act.put, List.setIfInBounds_toArray, List.set_cons_zero, List.set_cons_succ]
                    refine Rv.take (i := 7) (v := ?_) rfl (by kernel_rfl) (by kernel_rfl) (by kernel_rfl) (by kernel_rfl) (fun _ _ _ h => h) (Or.inl ⟨by rfl, ?_⟩) (by assumption) ?_
                    rotate_left 1
                    focus (intro w hSw; (try dsimp only at hSw); go_simp; (try with_reducible rfl))
                    try simp only [List.getElem_toArray, List.getElem_cons_succ, List.getElem_cons_zero, Act.put, List.setIfInBounds_toArray, List.set_cons_zero, List.set_cons_succ]
                    refine Rv.comp (i := 8) (v := ?_) rfl (by kernel_rfl) (by kernel_rfl) (by kernel_rfl) (fun _ _ _ h => h) (Or.inl ⟨by rfl, ?_⟩) ?_
                    rotate_left 1
                    focus (intro w hSw; (try dsimp only at hSw); go_simp; (try with_reducible rfl))
                    try simp only [List.getElem_toArray, List.getElem_cons_succ, List.getElem_cons_zero, Act.put, List.setIfInBounds_toArray, List.set_cons_zero, List.set_cons_succ]
                    refine Rv.comp (i := 9) (v := ?_) rfl (by kernel_rfl) (by kernel_rfl) (by kernel_rfl) (fun _ _ _ h => h) (Or.inl ⟨by rfl, ?_⟩) ?_
                    rotate_left 1
                    focus (intro w hSw; (try dsimp only at hSw); go_simp; (try with_reducible rfl))
                    try simp only [List.getElem_toArray, List.getElem_cons_succ, List.getElem_cons_zero, Act.put, List.setIfInBounds_toArray, List.set_cons_zero, List.set_cons_succ]
                    refine Rv.comp (i := 10) (v := ?_) rfl (by kernel_rfl) (by kernel_rfl) (by kernel_rfl) (fun _ _ _ h => h) (Or.inl ⟨by rfl, ?_⟩) ?_
                    rotate_left 1
                    focus (intro w hSw; (try dsimp only at hSw); go_simp; (try with_reducible rfl))
                    try simp only [List.getElem_toArray, List.getElem_cons_succ, List.getElem_cons_zero, Act.put, List.setIfInBounds_toArray, List.set_cons_zero, List.set_cons_succ]
                    refine Rv.take (i := 11) (v := ?_) rfl (by kernel_rfl) (by kernel_rfl) (by kernel_rfl) (by kernel_rfl) (fun _ _ _ h => h) (Or.inl ⟨by rfl, ?_⟩) (by assumption) ?_
                    rotate_left 1
                    focus (intro w hSw; (try dsimp only at hSw); go_simp; (try with_reducible rfl))
                    try simp only [List.getElem_toArray, List.getElem_cons_succ, List.getElem_cons_zero, Act.put, List.setIfInBounds_toArray, List.set_cons_zero, List.set_cons_succ]
                    refine Rv.comp (i := 12) (v := ?_) rfl (by kernel_rfl) (by kernel_rfl) (by kernel_rfl) (fun _ _ _ h => h) (Or.inl ⟨by rfl, ?_⟩) ?_
                    rotate_left 1
                    focus (intro w hSw; (try dsimp only at hSw); go_simp; (try with_reducible rfl))
                    try simp only [List.getElem_toArray, List.getElem_cons_succ, List.getElem_cons_zero, Act.put, List.setIfInBounds_toArray, List.set_cons_zero, List.set_cons_succ]
                    refine Rv.comp (i := 13) (v := ?_) rfl (by kernel_rfl) (by kernel_rfl) (by kernel_rfl) (fun _ _ _ h => h) (Or.inl ⟨by rfl, ?_⟩) ?_
                    rotate_left 1
                    focus (intro w hSw; (try dsimp only at hSw); go_simp; (try with_reducible rfl))
                    try simp only [List.getElem_toArray, List.getElem_cons_succ, List.getElem_cons_zero, Act.put, List.setIfInBounds_toArray, List.set_cons_zero, List.set_cons_succ]
                    refine Rv.comp (i := 14) (v := ?_) rfl (by kernel_rfl) (by kernel_rfl) (by kernel_rfl) (fun _ _ _ h => h) (Or.inl ⟨by rfl, ?_⟩) ?_
                    rotate_left 1
                    focus (intro w hSw; (try dsimp only at hSw); go_simp; (try with_reducible rfl))
                    try simp only [List.getElem_toArray, List.getElem_cons_succ, List.getElem_cons_zero, Act.put, List.setIfInBounds_toArray, List.set_cons_zero, List.set_cons_succ]
                    refine Rv.comp (i := 15) (v := ?_) rfl (by kernel_rfl) (by kernel_rfl) (by kernel_rfl) (fun _ _ _ h => h) (Or.inl ⟨by rfl, ?_⟩) ?_
                    rotate_left 1
                    focus (intro w hSw; (try dsimp only at hSw); go_simp; (try with_reducible rfl))
                    try simp only [List.getElem_toArray, List.getElem_cons_succ, List.getElem_cons_zero, Act.put, List.setIfInBounds_toArray, List.set_cons_zero, List.set_cons_succ]
                    refine Rv.take (i := 16) (v := ?_) rfl (by kernel_rfl) (by kernel_rfl) (by kernel_rfl) (by kernel_rfl) (fun _ _ _ h => h) (Or.inl ⟨by rfl, ?_⟩) (by assumption) ?_
                    rotate_left 1
                    focus (intro w hSw; (try dsimp only at hSw); go_simp; (try with_reducible rfl))
                    try simp only [List.getElem_toArray, List.getElem_cons_succ, List.getElem_cons_zero, Act.put, List.setIfInBounds_toArray, List.set_cons_zero, List.set_cons_succ]
                    refine Rv.comp (i := 17) (v := ?_) rfl (by kernel_rfl) (by kernel_rfl) (by kernel_rfl) (fun _ _ _ h => h) (Or.inl ⟨by rfl, ?_⟩) ?_
                    rotate_left 1
                    focus (intro w hSw; (try dsimp only at hSw); go_simp; (try with_reducible rfl))
                    try simp only [List.getElem_toArray, List.getElem_cons_succ, List.getElem_cons_zero, Act.put, List.setIfInBounds_toArray, List.set_cons_zero, List.set_cons_succ]
                    refine Rv.comp (i := 18) (v := ?_) rfl (by kernel_rfl) (by kernel_rfl) (by kernel_rfl) (fun _ _ _ h => h) (Or.inl ⟨by rfl, ?_⟩) ?_
                    rotate_left 1
                    focus (intro w hSw; (try dsimp only at hSw); go_simp; (try with_reducible rfl))
                    try simp only [List.getElem_toArray, List.getElem_cons_succ, List.getElem_cons_zero, Act.put, List.setIfInBounds_toArray, List.set_cons_zero, List.set_cons_succ]
                    refine Rv.comp (i := 19) (v := ?_) rfl (by kernel_rfl) (by kernel_rfl) (by kernel_rfl) (fun _ _ _ h => h) (Or.inl ⟨by rfl, ?_⟩) ?_
                    rotate_left 1
                    focus (intro w hSw; (try dsimp only at hSw); go_simp; (try with_reducible rfl))
                    try simp only [List.getElem_toArray, List.getElem_cons_succ, List.getElem_cons_zero, Act.put, List.setIfInBounds_toArray, List.set_cons_zero, List.set_cons_succ]
                    refine Rv.take (i := 20) (v := ?_) rfl (by kernel_rfl) (by kernel_rfl) (by kernel_rfl) (by kernel_rfl) (fun _ _ _ h => h) (Or.inl ⟨by rfl, ?_⟩) (by assumption) ?_
                    rotate_left 1
                    focus (intro w hSw; (try dsimp only at hSw); go_simp; (try with_reducible rfl))
                    try simp only [List.getElem_toArray, List.getElem_cons_succ, List.getElem_cons_zero, Act.put, List.setIfInBounds_toArray, List.set_cons_zero, List.set_cons_succ]
                    refine Rv.comp (i := 21) (v := ?_) rfl (by kernel_rfl) (by kernel_rfl) (by kernel_rfl) (fun _ _ _ h => h) (Or.inl ⟨by rfl, ?_⟩) ?_
                    rotate_left 1
                    focus (intro w hSw; (try dsimp only at hSw); go_simp; (try with_reducible rfl))
                    try simp only [List.getElem_toArray, List.getElem_cons_succ, List.getElem_cons_zero, Act.put, List.setIfInBounds_toArray, List.set_cons_zero, List.set_cons_succ]
                    refine Rv.comp (i := 22) (v := ?_) rfl (by kernel_rfl) (by kernel_rfl) (by kernel_rfl) (fun _ _ _ h => h) (Or.inl ⟨by rfl, ?_⟩) ?_
                    rotate_left 1
                    focus (intro w hSw; (try dsimp only at hSw); go_simp; (try with_reducible rfl))
                    try simp only [List.getElem_toArray, List.getElem_cons_succ, List.getElem_cons_zero, Act.put, List.setIfInBounds_toArray, List.set_cons_zero, List.set_cons_succ]
                    refine Rv.done (by kernel_rfl) ?_ _
                    go_wp2_with fail
                    go_meet
                    exact ⟨_, rfl, rfl⟩
              case rest =>
                obtain ⟨b, rfl, rfl⟩ := hcut
                replace HM := hide (HM.out.call (below_dr (Below.refl _ _)))
                replace HS := hide (HS.out.drew)
                clear x1 y0 y1 s0 s1 hxl
                generalize wr.drew = w8 at *
                cases b
                · go_wp2_with fail
                  exact ⟨⟨j + 1, z, by omega, by go_num, HZ9.out, HS.out, HM.out⟩, by simp [intOf]; omega⟩
                · skip
                  have s0 := HS.out.cell 0
                  have s1 := HS.out.cell 1
                  have s2 := HS.out.cell 2
                  have s3 := HS.out.cell 3
                  simp only [List.getElem?_toArray, List.getElem?_cons_zero, List.getElem?_cons_succ] at s0 s1 s2 s3
                  have f0 := HS.out.frozen 0
                  have f1 := HS.out.frozen 1
                  have f2 := HS.out.frozen 2
                  have f3 := HS.out.frozen 3
                  have hsl := HS.out.lt
                  have hk6 : k ≤ 5 := by omega
                  have ecv := conv_one w8 (48 + k)
                  have hss : (strOfNums [48 + (k : Int)]).size = 1 := rfl
                  have HSS := hide hss
                  clear hss
                  generalize strOfNums [48 + (k : Int)] = st at *
                  have hst1 : st.size ≤ 1 := Nat.le_of_eq HSS.out
                  have hst2 : ¬ 9223372036854775807 < 1 + st.size := by omega
                  have HBL := hide (show (⟨#[115]⟩ ++ st : ByteArray).size ≤ 9 by rw [ByteArray.size_append]; show 1 + st.size ≤ 9; omega)
                  go_wp2_with fail
                  have HNS := hide (HM.out.neS HS.out HYS.out)
                  exact ⟨⟨j + 1, (⟨#[115]⟩ ++ st, 1, -2, 7 * (k : Int)), by omega, by go_num, HBL.out, ((((HS.out.set 0 _).set 1 _).set 2 _).set 3 _).alloc _,
                    ((((HM.out.setS hR HNS.out hOS).setS hR HNS.out hOS).setS hR HNS.out hOS).setS hR HNS.out hOS).call (by repeat (first | exact Below.refl _ _ | with_reducible assumption | (refine Below.drew ?_) | (refine Below.drewN ?_ _) | (refine Below.alloc ?_ (by simp; try omega) _) | (refine Below.setCell ?_ (by simp; try omega) _)))⟩, by simp [intOf]; omega⟩
            · clear hkl
              have s0 := HS.out.cell 0
              have s1 := HS.out.cell 1
              have s2 := HS.out.cell 2
              have s3 := HS.out.cell 3
              simp only [List.getElem?_toArray, List.getElem?_cons_zero, List.getElem?_cons_succ] at s0 s1 s2 s3
              have HRY := hide (show Row wr w.heap.size 67 4 Y k yc (cellsOf symbolC ys) from by
                have h : Row wr w.heap.size 67 4 Y ys.length yc (cellsOf symbolC ys) := HM.out.own.2
                rwa [HKL.out] at h)
              have hsl := HS.out.lt
              have hwl := HM.out.by_.lt
              have hk6 : k ≤ 5 := by omega
              go_wp2_with (at_builtin; refine wpList_app (wr.alloc (.cells #[.string z.1, .int .i64 z.2.1, .int .i64 z.2.2.1, .int .i64 z.2.2.2] 67)) rfl (.tmp 77) (.tmp 79) 24 rfl 67 iY (.agg #[.string ByteArray.empty, .int .i64 0, .int .i64 0, .int .i64 0]) 4 40 Tryz.underlying24 HIY.out.1 HIY.out.2.1 HIY.out.2.2.1 HIY.out.2.2.2 rfl (by decide) w.heap.size Y k yc (cellsOf symbolC ys) rfl (HRY.out.alloc _) ?hb (some ⟨wr.heap.size, 0, none⟩) 1 1 (symbolC z) rfl (rd_lit wr #[.string z.1, .int .i64 z.2.1, .int .i64 z.2.2.1, .int .i64 z.2.2.2] 67 _ rfl) rfl (fun h => by cases h) ?o1 ?n1 ?n2 ?_)
              case hb => first | (simp; omega) | omega
              case o1 => first | exact (fun u hu => one_sym [z] u (by simpa [cellsOf] using hu)) | exact ⟨rfl, rfl, rfl, rfl⟩
              case n1 => unfold maxLen; omega
              case n2 => omega
              intro Y2 n2 yc2 w9 hn2 o9 g9 k9
              have b9 : Below wr.heap.size wr (wr.alloc (.cells #[.string z.1, .int .i64 z.2.1, .int .i64 z.2.2.1, .int .i64 z.2.2.2] 67)) := (by repeat (first | exact Below.refl _ _ | with_reducible assumption | (refine Below.drew ?_) | (refine Below.drewN ?_ _) | (refine Below.alloc ?_ (by simp; try omega) _) | (refine Below.setCell ?_ (by simp; try omega) _)))
              replace HM := hide (HM.out.call b9)
              have HMN := hide (HM.out.addY hR [z] (Y' := Y2) (n' := n2) (c' := yc2) (by rw [HKL.out]; exact hn2) (by simpa [cellsOf] using o9) g9)
              have HBX := hide (HM.out.bx.grown g9 (HM.out.own.2.box HM.out.bx (by decide)))
              have HN2 := hide hn2
              clear hn2 o9 g9 k9 HM HRY b9 s0 s1 s2 s3 x1 hxl hsl hwl HS
              have hb1 := HBX.out.cell 1
              have hbf := HBX.out.frozen 1
              have hbl := HBX.out.lt
              simp only [List.getElem?_toArray, List.getElem?_cons_zero, List.getElem?_cons_succ] at hb1
              go_wp2_with fail
              refine ⟨⟨k + 1, by omega, by omega, Y2, yc2, ys ++ [z], by rw [List.length_append, HKL.out]; rfl, ?_, HMN.out.more (by omega)⟩, by simp [intOf]; omega⟩
              intro a b c d hy
              rcases List.mem_append.1 hy with hy | hy
              · exact HSM.out _ hy
              · have := List.mem_singleton.1 hy
                have hz := HZ9.out
                rw [← this] at hz
                exact hz
        · obtain rfl : k = many := by omega
          have HSO := hide (show SmallO (OV.d ⟨A, c, ps, Y, yc, ys⟩) ∧ ps.length ≤ 3 ∧ ys.length ≤ 5 from ⟨⟨by simp only [OV.d, List.length_map]; omega, by have := HKL.out; show ys.length ≤ 13; omega, (fun s hs => by
            obtain ⟨p, hp, rfl⟩ := List.mem_map.1 hs
            exact HPS3.out p hp), HSM.out⟩, hpl, by rw [HKL.out]; omega⟩)
          replace HM := hide (HM.out.more (show _ ≤ N + 700 by omega))
          clear hk hlt HSM HKL HPS3
          go_wp2_with fail
          refine (odd_tp HM.out.t (by omega) n hn (by omega)).mono ?_
          rintro e w4 ⟨b, rfl, T1, g1⟩
          replace HM := hide (HM.out.turn g1 hR T1)
          clear T1 g1
          go_upto_if 84 with (fail)
          go_cut [] from 84 to 118 (fun wx => ∃ o, SmallO (OV.d o) ∧ Mid w wx B R O (N + 1500) o)
          case first =>
            cases b
            · go_wp2_with fail
              go_meet
              exact ⟨_, HSO.out.1, HM.out.more (by omega)⟩
            · go_wp2_with fail
              refine (pick_tp HM.out.t (by omega) _ (by omega) (by omega)).mono ?_
              rintro e w5 ⟨v, rfl, v0, v1, T1, g1⟩
              replace HM := hide (HM.out.turn g1 hR T1)
              clear T1 g1
              have hv : v = 0 ∨ v = 1 ∨ v = 2 ∨ v = 3 := by omega
              rcases hv with rfl | rfl | rfl | rfl
              · have x0 := HM.out.bx.cell 0
                simp only [List.getElem?_toArray, List.getElem?_cons_zero, List.getElem?_cons_succ] at x0
                have hxl := HM.out.bx.lt
                go_wp2_with fail
                replace HM := hide (HM.out.call (below_dr (Below.refl _ _)))
                have x0' : w5.drew.cell? ⟨O, 0, none⟩ = some (.slice A ps.length c) := x0
                clear x0 hxl
                refine Rw.start (by kernel_rfl) ?_
                refine Rw.comp (i := 0) (v := ?_) rfl (by kernel_rfl) (by kernel_rfl) (by kernel_rfl) (fun _ _ _ h => h) (by repeat (first | exact Rw.re0 | apply Rw.rePlus)) (Or.inl ⟨by rfl, ?_⟩) ?_
                rotate_left 1
                focus (intro w hSw; (try dsimp only at hSw); go_simp; (try with_reducible rfl))
                try simp only [List.getElem_toArray, List.getElem_cons_succ, List.getElem_cons_zero, Act.put, List.setIfInBounds_toArray, List.set_cons_zero, List.set_cons_succ]
                refine Rw.take (i := 1) (v := ?_) (fun V => V.cell? ⟨O, 0, none⟩ = some (.slice A ps.length c)) rfl (by kernel_rfl) (by kernel_rfl) (by kernel_rfl) (by kernel_rfl) (fun _ _ _ h => h) (by repeat (first | exact Rw.re0 | apply Rw.rePlus)) (Or.inl ⟨by rfl, ?_⟩) x0' ?_
                rotate_left 1
                focus (intro w hSw; (try dsimp only at hSw); go_simp; (try with_reducible rfl))
                try simp only [List.getElem_toArray, List.getElem_cons_succ, List.getElem_cons_zero, Act.put, List.setIfInBounds_toArray, List.set_cons_zero, List.set_cons_succ]
                refine Rw.comp (i := 2) (v := ?_) rfl (by kernel_rfl) (by kernel_rfl) (by kernel_rfl) (fun _ _ _ h => h) (by repeat (first | exact Rw.re0 | apply Rw.rePlus)) (Or.inl ⟨by rfl, ?_⟩) ?_
                rotate_left 1
                focus (intro w hSw; (try dsimp only at hSw); go_simp; (try with_reducible rfl))
                try simp only [List.getElem_toArray, List.getElem_cons_succ, List.getElem_cons_zero, Act.put, List.setIfInBounds_toArray, List.set_cons_zero, List.set_cons_succ]
                refine Rw.comp (i := 3) (v := ?_) rfl (by kernel_rfl) (by kernel_rfl) (by kernel_rfl) (fun _ _ _ h => h) (by repeat (first | exact Rw.re0 | apply Rw.rePlus)) (Or.inl ⟨by rfl, ?_⟩) ?_
                rotate_left 1
                focus (intro w hSw; (try dsimp only at hSw); go_simp; (try with_reducible rfl))
                try simp only [List.getElem_toArray, List.getElem_cons_succ, List.getElem_cons_zero, Act.put, List.setIfInBounds_toArray, List.set_cons_zero, List.set_cons_succ]
                clear x0'
                generalize w5.drew = wd at *
                refine Rw.one (i := 4) rfl (by kernel_rfl) (fun K hK => ?_)
                go_simp
                have HLT := hide (show ∀ p ∈ ps, ∀ k, sblk p k → k < wd.heap.size from fun p hp k hk => ((HM.out.own.1.2.1 p hp).lt k hk).2)
                have hwd : w.heap.size ≤ wd.heap.size := Nat.le_of_lt HM.out.by_.lt
                refine (section_any (tp_new HM.out.t) (by omega) (by omega) k (by omega) 1 (by omega) (by omega)).mono ?_
                rintro e w6 ⟨q, rfl, hq1, hq2, hq3, T1⟩
                have g1 := T1.2
                have hRO : R < O := by omega
                refine hK.out _ _ (by repeat' (first | exact trivial | exact (fun _ h => Rw.cell_grown g1 (by dsimp only; omega) h) | refine And.intro ?_ ?_)) ?_
                clear hK K
                try simp only [List.getElem_toArray, List.getElem_cons_succ, List.getElem_cons_zero, Act.put, List.setIfInBounds_toArray, List.set_cons_zero, List.set_cons_succ]
                replace HM := hide (HM.out.turn g1 hR (tp_tr HM.out.t T1))
                have HQ := hide (And.intro hq1 hq3)
                clear T1 g1 hq1 hq2 hq3
                refine Rw.one (i := 5) rfl (by kernel_rfl) (fun K hK => ?_)
                go_simp
                have b6 : Below w6.heap.size w6 (w6.alloc (.cells #[.string q.nm, .int .i64 q.kd, .int .i64 q.al, .slice q.A q.zs.length q.c, .int .i64 q.sz, .slice q.F q.fs.length q.fc] 61)) := (by repeat (first | exact Below.refl _ _ | with_reducible assumption | (refine Below.drew ?_) | (refine Below.drewN ?_ _) | (refine Below.alloc ?_ (by simp; try omega) _) | (refine Below.setCell ?_ (by simp; try omega) _)))
                refine hK.out _ _ (by repeat' (first | exact trivial | exact (fun _ h => Rw.cell_below b6 h) | refine And.intro ?_ ?_)) ?_
                clear hK K
                try simp only [List.getElem_toArray, List.getElem_cons_succ, List.getElem_cons_zero, Act.put, List.setIfInBounds_toArray, List.set_cons_zero, List.set_cons_succ]
                replace HM := hide (HM.out.call b6)
                have HQR := hide ((HQ.out.2.call b6))
                clear b6
                refine Rw.one (i := 6) rfl (by kernel_rfl) (fun K hK => ?_)
                refine step_app (by rfl) _ _ 23 rfl 61 iS (.agg #[.string ByteArray.empty, .int .i64 0, .int .i64 0, .slice none 0 0, .int .i64 0, .slice none 0 0]) 6 88 Tryz.underlying23 HIS.out.1 HIS.out.2.1 HIS.out.2.2.1 HIS.out.2.2.2 rfl (by decide) w.heap.size A ps.length c (cellsOf secC ps) (by rfl) HM.out.own.1.1 (Nat.le_of_lt HM.out.by_.lt) (some ⟨w6.heap.size, 0, none⟩) 1 1 (secC q) (by rfl) (rd_lit w6 #[.string q.nm, .int .i64 q.kd, .int .i64 q.al, .slice q.A q.zs.length q.c, .int .i64 q.sz, .slice q.F q.fs.length q.fc] 61 _ rfl) rfl (fun h => by cases h) (one_sec q) (by unfold maxLen; omega) (by omega) ?_
                intro A2 n2 c2 w7 hn2 o7 g7 k7
                have HMN := hide (HM.out.addS hR (HQR.out.down hwd) HLT.out (fun k hk => (HQR.out.lt k hk).1) hn2 o7 g7)
                have HBX := hide (HM.out.bx.grown g7 (HM.out.own.1.1.box HM.out.bx (by decide)))
                clear hn2 o7 g7 k7 HM HLT
                refine hK.out _ _ (by repeat' (first | exact trivial | exact Rw.out_of (by kernel_rfl) | refine And.intro ?_ ?_)) ?_
                clear hK K
                try simp only [List.getElem_toArray, List.getElem_cons_succ, List.getElem_cons_zero, Act.put, List.setIfInBounds_toArray, List.set_cons_zero, List.set_cons_succ]
                refine Rw.comp (i := 7) (v := ?_) rfl (by kernel_rfl) (by kernel_rfl) (by kernel_rfl) (fun _ _ _ h => h) (by repeat (first | exact Rw.re0 | apply Rw.rePlus)) (Or.inl ⟨by rfl, ?_⟩) ?_
                rotate_left 1
                focus (intro w hSw; (try dsimp only at hSw); go_simp; (try with_reducible rfl))
                try simp only [List.getElem_toArray, List.getElem_cons_succ, List.getElem_cons_zero, Act.put, List.setIfInBounds_toArray, List.set_cons_zero, List.set_cons_succ]
                have hb0 := HBX.out.cell 0
                have hbf := HBX.out.frozen 0
                have hbl := HBX.out.lt
                simp only [List.getElem?_toArray, List.getElem?_cons_zero, List.getElem?_cons_succ] at hb0
                refine Rw.one (i := 8) rfl (by kernel_rfl) (fun K hK => ?_)
                go_simp
                refine hK.out _ _ (by repeat' (first | exact trivial | exact Rw.out_of (by kernel_rfl) | refine And.intro ?_ ?_)) ?_
                clear hK K
                try simp only [List.getElem_toArray, List.getElem_cons_succ, List.getElem_cons_zero, Act.put, List.setIfInBounds_toArray, List.set_cons_zero, List.set_cons_succ]
                refine Rw.done (by kernel_rfl) ?_ _
                clear hb0 hbf hbl HBX
                go_wp2_with fail
                go_meet
                exact ⟨⟨A2, c2, ps ++ [q], Y, yc, ys⟩, smallS HSO.out.1 HSO.out.2.1 HQ.out.1, HMN.out.more (by omega)⟩
              · have x0 := HM.out.bx.cell 0
                have x1 := HM.out.bx.cell 1
                simp only [List.getElem?_toArray, List.getElem?_cons_zero, List.getElem?_cons_succ] at x0 x1
                have hxl := HM.out.bx.lt
                go_wp2_with fail
                replace HM := hide (HM.out.call (below_dr (Below.refl _ _)))
                have x0' : w5.drew.cell? ⟨O, 0, none⟩ = some (.slice A ps.length c) := x0
                have x1' : w5.drew.cell? ⟨O, 1, none⟩ = some (.slice Y ys.length yc) := x1
                clear x0 x1 hxl
                refine Rw.start (by kernel_rfl) ?_
                refine Rw.comp (i := 0) (v := ?_) rfl (by kernel_rfl) (by kernel_rfl) (by kernel_rfl) (fun _ _ _ h => h) (by repeat (first | exact Rw.re0 | apply Rw.rePlus)) (Or.inl ⟨by rfl, ?_⟩) ?_
                rotate_left 1
                focus (intro w hSw; (try dsimp only at hSw); go_simp; (try with_reducible rfl))
                try simp only [List.getElem_toArray, List.getElem_cons_succ, List.getElem_cons_zero, Act.put, List.setIfInBounds_toArray, List.set_cons_zero, List.set_cons_succ]
                refine Rw.take (i := 1) (v := ?_) (fun V => V.cell? ⟨O, 1, none⟩ = some (.slice Y ys.length yc)) rfl (by kernel_rfl) (by kernel_rfl) (by kernel_rfl) (by kernel_rfl) (fun _ _ _ h => h) (by repeat (first | exact Rw.re0 | apply Rw.rePlus)) (Or.inl ⟨by rfl, ?_⟩) x1' ?_
                rotate_left 1
                focus (intro w hSw; (try dsimp only at hSw); go_simp; (try with_reducible rfl))
                try simp only [List.getElem_toArray, List.getElem_cons_succ, List.getElem_cons_zero, Act.put, List.setIfInBounds_toArray, List.set_cons_zero, List.set_cons_succ]
                refine Rw.comp (i := 2) (v := ?_) rfl (by kernel_rfl) (by kernel_rfl) (by kernel_rfl) (fun _ _ _ h => h) (by repeat (first | exact Rw.re0 | apply Rw.rePlus)) (Or.inl ⟨by rfl, ?_⟩) ?_
                rotate_left 1
                focus (intro w hSw; (try dsimp only at hSw); go_simp; (try with_reducible rfl))
                try simp only [List.getElem_toArray, List.getElem_cons_succ, List.getElem_cons_zero, Act.put, List.setIfInBounds_toArray, List.set_cons_zero, List.set_cons_succ]
                refine Rw.comp (i := 3) (v := ?_) rfl (by kernel_rfl) (by kernel_rfl) (by kernel_rfl) (fun _ _ _ h => h) (by repeat (first | exact Rw.re0 | apply Rw.rePlus)) (Or.inl ⟨by rfl, ?_⟩) ?_
                rotate_left 1
                focus (intro w hSw; (try dsimp only at hSw); go_simp; (try with_reducible rfl))
                try simp only [List.getElem_toArray, List.getElem_cons_succ, List.getElem_cons_zero, Act.put, List.setIfInBounds_toArray, List.set_cons_zero, List.set_cons_succ]
                refine Rw.take (i := 4) (v := ?_) (fun V => V.cell? ⟨O, 0, none⟩ = some (.slice A ps.length c)) rfl (by kernel_rfl) (by kernel_rfl) (by kernel_rfl) (by kernel_rfl) (fun _ _ _ h => h) (by repeat (first | exact Rw.re0 | apply Rw.rePlus)) (Or.inl ⟨by rfl, ?_⟩) x0' ?_
                rotate_left 1
                focus (intro w hSw; (try dsimp only at hSw); go_simp; (try with_reducible rfl))
                try simp only [List.getElem_toArray, List.getElem_cons_succ, List.getElem_cons_zero, Act.put, List.setIfInBounds_toArray, List.set_cons_zero, List.set_cons_succ]
                clear x0' x1'
                generalize w5.drew = wd at *
                refine Rw.one (i := 5) rfl (by kernel_rfl) (fun K hK => ?_)
                go_simp
                refine (DSymbol.symbol_any (tp_new HM.out.t) (by omega) (by omega) A ps c (HM.out.rdS hR) HPS2.out (by omega) 1 (by omega) (by omega)).mono ?_
                rintro e w6 ⟨z, rfl, z9, T1, g1⟩
                have hRO : R < O := by omega
                refine hK.out _ _ (by repeat' (first | exact trivial | exact (fun _ h => Rw.cell_grown g1 (by dsimp only; omega) h) | refine And.intro ?_ ?_)) ?_
                clear hK K
                try simp only [List.getElem_toArray, List.getElem_cons_succ, List.getElem_cons_zero, Act.put, List.setIfInBounds_toArray, List.set_cons_zero, List.set_cons_succ]
                replace HM := hide (HM.out.turn g1 hR (tp_tr HM.out.t T1))
                have HZ9 := hide z9
                clear T1 g1 z9
                refine Rw.one (i := 6) rfl (by kernel_rfl) (fun K hK => ?_)
                go_simp
                have b6 : Below w6.heap.size w6 (w6.alloc (.cells #[.string z.1, .int .i64 z.2.1, .int .i64 z.2.2.1, .int .i64 z.2.2.2] 67)) := (by repeat (first | exact Below.refl _ _ | with_reducible assumption | (refine Below.drew ?_) | (refine Below.drewN ?_ _) | (refine Below.alloc ?_ (by simp; try omega) _) | (refine Below.setCell ?_ (by simp; try omega) _)))
                refine hK.out _ _ (by repeat' (first | exact trivial | exact (fun _ h => Rw.cell_below b6 h) | refine And.intro ?_ ?_)) ?_
                clear hK K
                try simp only [List.getElem_toArray, List.getElem_cons_succ, List.getElem_cons_zero, Act.put, List.setIfInBounds_toArray, List.set_cons_zero, List.set_cons_succ]
                replace HM := hide (HM.out.call b6)
                clear b6
                have hyl : ys.length ≤ 5 := HSO.out.2.2
                refine Rw.one (i := 7) rfl (by kernel_rfl) (fun K hK => ?_)
                refine step_app (by rfl) _ _ 24 rfl 67 iY (.agg #[.string ByteArray.empty, .int .i64 0, .int .i64 0, .int .i64 0]) 4 40 Tryz.underlying24 HIY.out.1 HIY.out.2.1 HIY.out.2.2.1 HIY.out.2.2.2 rfl (by decide) w.heap.size Y ys.length yc (cellsOf symbolC ys) (by rfl) HM.out.own.2 (Nat.le_of_lt HM.out.by_.lt) (some ⟨w6.heap.size, 0, none⟩) 1 1 (symbolC z) (by rfl) (rd_lit w6 #[.string z.1, .int .i64 z.2.1, .int .i64 z.2.2.1, .int .i64 z.2.2.2] 67 _ rfl) rfl (fun h => by cases h) (fun u hu => one_sym [z] u (by simpa [cellsOf] using hu)) (by unfold maxLen; omega) (by omega) ?_
                intro Y2 n2 yc2 w7 hn2 o7 g7 k7
                have HMN := hide (HM.out.addY hR [z] (Y' := Y2) (n' := n2) (c' := yc2) hn2 (by simpa [cellsOf] using o7) g7)
                have HBX := hide (HM.out.bx.grown g7 (HM.out.own.2.box HM.out.bx (by decide)))
                clear hn2 o7 g7 k7 HM
                refine hK.out _ _ (by repeat' (first | exact trivial | exact Rw.out_of (by kernel_rfl) | refine And.intro ?_ ?_)) ?_
                clear hK K
                try simp only [List.getElem_toArray, List.getElem_cons_succ, List.getElem_cons_zero, Act.put, List.setIfInBounds_toArray, List.set_cons_zero, List.set_cons_succ]
                refine Rw.comp (i := 8) (v := ?_) rfl (by kernel_rfl) (by kernel_rfl) (by kernel_rfl) (fun _ _ _ h => h) (by repeat (first | exact Rw.re0 | apply Rw.rePlus)) (Or.inl ⟨by rfl, ?_⟩) ?_
                rotate_left 1
                focus (intro w hSw; (try dsimp only at hSw); go_simp; (try with_reducible rfl))
                try simp only [List.getElem_toArray, List.getElem_cons_succ, List.getElem_cons_zero, Act.put, List.setIfInBounds_toArray, List.set_cons_zero, List.set_cons_succ]
                have hb1 := HBX.out.cell 1
                have hbf := HBX.out.frozen 1
                have hbl := HBX.out.lt
                simp only [List.getElem?_toArray, List.getElem?_cons_zero, List.getElem?_cons_succ] at hb1
                refine Rw.one (i := 9) rfl (by kernel_rfl) (fun K hK => ?_)
                go_simp
                refine hK.out _ _ (by repeat' (first | exact trivial | exact Rw.out_of (by kernel_rfl) | refine And.intro ?_ ?_)) ?_
                clear hK K
                try simp only [List.getElem_toArray, List.getElem_cons_succ, List.getElem_cons_zero, Act.put, List.setIfInBounds_toArray, List.set_cons_zero, List.set_cons_succ]
                refine Rw.done (by kernel_rfl) ?_ _
                clear hb1 hbf hbl HBX
                go_wp2_with fail
                go_meet
                exact ⟨⟨A, c, ps, Y2, yc2, ys ++ [z]⟩, smallY (zs := [z]) HSO.out.1 HSO.out.2.2 (by simp) (fun y hy => by rw [List.mem_singleton.1 hy]; exact HZ9.out), HMN.out.more (by omega)⟩
              · have x1 := HM.out.bx.cell 1
                simp only [List.getElem?_toArray, List.getElem?_cons_zero, List.getElem?_cons_succ] at x1
                have hxl := HM.out.bx.lt
                have hwl := HM.out.by_.lt
                have hyl : ys.length ≤ 5 := HSO.out.2.2
                go_wp2_with (at_builtin; refine wpList_app (w5.alloc (.cells #[.string ⟨#[116, 119, 111]⟩, .int .i64 1, .int .i64 (-2), .int .i64 0, .string ⟨#[116, 119, 111]⟩, .int .i64 2, .int .i64 (-2), .int .i64 0] 67)) rfl (.tmp 113) (.tmp 116) 24 rfl 67 iY (.agg #[.string ByteArray.empty, .int .i64 0, .int .i64 0, .int .i64 0]) 4 40 Tryz.underlying24 HIY.out.1 HIY.out.2.1 HIY.out.2.2.1 HIY.out.2.2.2 rfl (by decide) w.heap.size Y ys.length yc (cellsOf symbolC ys) rfl (HM.out.own.2.alloc _) ?hb (some ⟨w5.heap.size, 0, none⟩) 2 2 (cellsOf symbolC [(⟨#[116, 119, 111]⟩, 1, -2, 0), (⟨#[116, 119, 111]⟩, 2, -2, 0)]) rfl (rd_lit w5 #[.string ⟨#[116, 119, 111]⟩, .int .i64 1, .int .i64 (-2), .int .i64 0, .string ⟨#[116, 119, 111]⟩, .int .i64 2, .int .i64 (-2), .int .i64 0] 67 _ rfl) rfl (fun h => by cases h) ?o1 ?n1 ?n2 ?_)
                case hb => first | (simp; omega) | omega
                case o1 => exact one_sym _
                case n1 => unfold maxLen; omega
                case n2 => omega
                intro Y2 n2 yc2 w7 hn2 o7 g7 k7
                have b6 : Below w5.heap.size w5 (w5.alloc (.cells #[.string ⟨#[116, 119, 111]⟩, .int .i64 1, .int .i64 (-2), .int .i64 0, .string ⟨#[116, 119, 111]⟩, .int .i64 2, .int .i64 (-2), .int .i64 0] 67)) := (by repeat (first | exact Below.refl _ _ | with_reducible assumption | (refine Below.drew ?_) | (refine Below.drewN ?_ _) | (refine Below.alloc ?_ (by simp; try omega) _) | (refine Below.setCell ?_ (by simp; try omega) _)))
                replace HM := hide (HM.out.call b6)
                have HMN := hide (HM.out.addY hR [(⟨#[116, 119, 111]⟩, 1, -2, 0), (⟨#[116, 119, 111]⟩, 2, -2, 0)] (Y' := Y2) (n' := n2) (c' := yc2) hn2 o7 g7)
                have HBX := hide (HM.out.bx.grown g7 (HM.out.own.2.box HM.out.bx (by decide)))
                clear hn2 o7 g7 k7 HM b6 x1 hxl hwl
                have hb1 := HBX.out.cell 1
                have hbf := HBX.out.frozen 1
                have hbl := HBX.out.lt
                simp only [List.getElem?_toArray, List.getElem?_cons_zero, List.getElem?_cons_succ] at hb1
                go_wp2_with fail
                go_meet
                exact ⟨⟨A, c, ps, Y2, yc2, ys ++ [(⟨#[116, 119, 111]⟩, 1, -2, 0), (⟨#[116, 119, 111]⟩, 2, -2, 0)]⟩, smallY HSO.out.1 HSO.out.2.2 (by simp) (fun y hy => by
                  rcases List.mem_cons.1 hy with rfl | hy
                  · show (⟨#[116, 119, 111]⟩ : ByteArray).size ≤ 9
                    decide
                  · rw [List.mem_singleton.1 hy]
                    show (⟨#[116, 119, 111]⟩ : ByteArray).size ≤ 9
                    decide), HMN.out.more (by omega)⟩
              · have HWW := hide (show w.heap.size ≤ w5.heap.size from Nat.le_of_lt HM.out.by_.lt)
                go_wp2_with (at_make; refine wpList_make_full _ rfl _ _ _ rfl w.heap.size 67 iY (.agg #[.string ByteArray.empty, .int .i64 0, .int .i64 0, .int .i64 0]) 4 Tryz.underlying24 HIY.out.1 HIY.out.2.1 HIY.out.2.2.1 .i64 .i64 _ _ 13 rfl rfl rfl rfl ?c1 ?c2 ?c3 ?_)
                case c1 => rw [HIY.out.2.2.2]; omega
                case c2 => unfold maxLen; omega
                case c3 => exact HWW.out
                intro w7 hto g8
                have B3 : Below w5.heap.size w5 w7 := (Below.refl _ _).grown g8 (Nat.le_refl _) (by intro k h; cases h)
                replace HM := hide (HM.out.call B3)
                have HMN := hide (HM.out.newY hR (zs := List.replicate 13 (ByteArray.empty, 0, 0, 0)) (Y' := some ⟨w5.heap.size, 0, none⟩) (n' := 13) (c' := 13) rfl (Row.own (by rw [← made13]; exact hto)))
                clear hto g8 B3
                have x1 := HM.out.bx.cell 1
                have xf := HM.out.bx.frozen 1
                have hxl := HM.out.bx.lt
                simp only [List.getElem?_toArray, List.getElem?_cons_zero, List.getElem?_cons_succ] at x1
                go_wp2_with fail
                go_meet
                exact ⟨⟨A, c, ps, some ⟨w5.heap.size, 0, none⟩, 13, List.replicate 13 (ByteArray.empty, 0, 0, 0)⟩, ⟨HSO.out.1.1, by simp [OV.d], HSO.out.1.2.2.1, fun y hy => by
                  have hy : y ∈ List.replicate 13 ((ByteArray.empty, 0, 0, 0) : YD) := hy
                  rw [List.eq_of_mem_replicate hy]
                  show ByteArray.empty.size ≤ 9
                  decide⟩, HMN.out.more (by omega)⟩
          case rest =>
            obtain ⟨o, hso, hm⟩ := hcut
            have HM2 := hide hm
            have HSO2 := hide hso
            clear hm hso HM HSO
            have x0 := HM2.out.bx.cell 0
            have x1 := HM2.out.bx.cell 1
            have y0 := HM2.out.by_.cell 0
            have y1 := HM2.out.by_.cell 1
            have f0 := HM2.out.by_.frozen 0
            have f1 := HM2.out.by_.frozen 1
            have hxl := HM2.out.bx.lt
            have hyl := HM2.out.by_.lt
            simp only [List.getElem?_toArray, List.getElem?_cons_zero, List.getElem?_cons_succ] at x0 x1 y0 y1
            have kk := (HM2.out.by_.set 0 (.slice o.A o.ps.length o.c)).set 1 (.slice o.Y o.ys.length o.yc)
            have k0 := kk.cell 0
            have k1 := kk.cell 1
            simp only [List.setIfInBounds_toArray, List.set_cons_zero, List.set_cons_succ, List.getElem?_toArray, List.getElem?_cons_zero, List.getElem?_cons_succ] at k0 k1
            clear kk
            have HFIN := hide (HM2.out.ret hR HT0.out HSO2.out (show N + 1500 ≤ N + 2000 by omega))
            go_wp2_with fail
            exact bodyPost_ret (v := o.v) (by simp [results, Tryz.results34, go_sem, OV.v, k0, k1]) rfl HFIN.out
end Go.Proofs.YtepoiphmmjfbdaaGreatDoor.DObject
/- The draws of objects, and what their sizes give (without what StripWanted asks). -/
namespace Go.Proofs.YtepoiphmmjfbdaaGreatDoor.DDrawB
set_option maxRecDepth 200000
open Go.ChangeShapes Go.WideShapes Go.ChangeAt Go.RowKit Kit CCode CFixups CSymbols PObj BObj PValid CObjValid PWarn PClear DPick DVar DSection DObject CCopyS CCopyI
/-- Sizes of what is drawn, stripped or cleared. -/
def Bnd (d : OD) : Prop := d.ss.length ≤ 8 ∧ d.ys.length ≤ 13 ∧ (∀ s ∈ d.ss, s.nm.size ≤ 9 ∧ s.zs.length ≤ 49 ∧ s.fs.length ≤ 6) ∧ ∀ y ∈ d.ys, y.1.size ≤ 9
theorem bnd_small {d : OD} (h : SmallO d) : Bnd d := ⟨by have := h.1; omega, h.2.1, fun s hs => by
  have := h.2.2.1 s hs
  exact ⟨this.1, this.2.1, by have := this.2.2.2.1; omega⟩, h.2.2.2⟩
theorem bnd_fit {o : OV} {w : World} {base : Nat} (h : Bnd o.d) (ho : OwnO w base o) : Fit o ∧ (∀ p ∈ o.ps, p.zs.length ≤ p.c) := by
  have h1 : o.ps.length ≤ 8 := by simpa [OV.d] using h.1
  have h2 : o.ys.length ≤ 13 := h.2.1
  refine ⟨⟨by omega, by omega, ho.2.cap.1, fun p hp => ?_, fun y hy => ?_⟩, fun p hp => ((ho.1.2.1 p hp).1).cap.1⟩
  · have := h.2.2.1 p.d (List.mem_map_of_mem hp)
    have h3 : p.nm.size ≤ 9 ∧ p.zs.length ≤ 49 ∧ p.fs.length ≤ 6 := this
    unfold maxLen
    omega
  · have := h.2.2.2 y hy
    unfold maxLen
    omega
end Go.Proofs.YtepoiphmmjfbdaaGreatDoor.DDrawB
