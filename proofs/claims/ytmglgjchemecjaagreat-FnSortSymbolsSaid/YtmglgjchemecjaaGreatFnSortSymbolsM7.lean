/- namesTwice and namesMissing. -/
import Derived.Test.YtmglgjchemecjaaGreatFnSortSymbolsM6
import Derived.BigQuiet
import Derived.Laws.CopyOwn
set_option linter.unusedSimpArgs false
set_option linter.unusedVariables false
namespace Go.Proofs.YtmglgjchemecjaaGreat.CNames
set_option maxRecDepth 200000
open Go.ChangeShapes Go.WideShapes Go.ChangeAt Go.RowKit Kit CCode CName CFixups CSymbols PObj BObj CGlobalOf BStore BList PLink CFind CSorted
theorem infoStr : (Tryz.prog.info? 9).map (fun i => (i.zero, i.size, i.bytes)) = some (some (.string ByteArray.empty), 1, 16) := by kernel_rfl
def hasN (ys : List ByteArray) (nm : ByteArray) : Bool := ys.any fun x => decide (x = nm)
theorem has_lib (ys : List ByteArray) (nm : ByteArray) : Lib.containsS ys nm = hasN ys nm := by
  rw [Bool.eq_iff_iff, Lib.containsS_iff, hasN, List.any_eq_true]
  constructor
  · intro h
    exact ⟨nm, h, by simp⟩
  · rintro ⟨x, hx, h⟩
    exact of_decide_eq_true h ▸ hx
theorem containsN_any (ys : List ByteArray) (nm : ByteArray) (A : Option Addr) (c base : Nat) (w : World) (h : Row w base 9 1 A ys.length c (nmC ys)) (hm : ys.length ≤ 1048576) :
    Calls Tryz.prog 118 #[.slice A ys.length c, .string nm] w (Pure (.bool (hasN ys nm)) w) := by
  by_cases h0 : ys.length = 0
  · obtain rfl := List.eq_nil_of_length_eq_zero h0
    refine (XNames.slices_Contains_string_empty A c nm w).mono ?_
    rintro e w' ⟨rfl, rfl⟩
    exact ⟨rfl, rfl⟩
  · obtain ⟨g, rfl, _, _, _, hown⟩ := own_of h (by omega)
    refine (XNames.slices_Contains_string g 0 ys.length c ys nm w (Nat.le_refl _) (by omega) (fun j hj => ?_)).mono ?_
    · have h1 := World.ownsRow.cellAt hown j (by simpa [nmC] using hj)
      rw [Nat.zero_add, h1]
      simp [nmC, List.getD_eq_getElem?_getD, List.getElem?_eq_getElem hj]
    · rintro e w' ⟨rfl, rfl⟩
      rw [List.take_length, has_lib]
      exact ⟨rfl, rfl⟩
theorem strs_snoc (xs : List ByteArray) (x : ByteArray) : nmC xs ++ [.string x] = nmC (xs ++ [x]) := by simp [nmC]
theorem one_str (x : ByteArray) : ∀ u ∈ [Value.string x], u.oneCell' = true := by
  intro u hu
  rw [List.mem_singleton.1 hu]
  rfl
theorem twO_snoc (st : List ByteArray × List ByteArray) (a : List OD) (d : OD) : twO st (a ++ [d]) = twS (twO st a) d.ys := by simp [twO]
theorem twS_snoc (st : List ByteArray × List ByteArray) (a : List YD) (y : YD) : twS st (a ++ [y]) = twStep (twS st a) y := by simp [twS]
def Small (os : List OV) : Prop := os.length ≤ 4 ∧ ∀ o ∈ os, o.ys.length ≤ 12
/-- The two rows of namesTwice. -/
structure TI (w0 : World) (A1 : Option Addr) (c1 : Nat) (xs : List ByteArray) (A2 : Option Addr) (c2 : Nat) (ys : List ByteArray) (w : World) : Prop where
  x : Row w w0.heap.size 9 1 A1 xs.length c1 (nmC xs)
  y : Row w w0.heap.size 9 1 A2 ys.length c2 (nmC ys)
  ap : Apart A1 c1 A2 c2
  b : Below w0.heap.size w0 w
theorem TI.call {w0 w w' : World} {A1 A2 : Option Addr} {c1 c2 : Nat} {xs ys : List ByteArray} (h : TI w0 A1 c1 xs A2 c2 ys w) (hb : Below w.heap.size w w') : TI w0 A1 c1 xs A2 c2 ys w' := ⟨h.x.call hb, h.y.call hb, h.ap, h.b.trans (hb.mono h.b.size)⟩
theorem TI.addX {w0 w w' : World} {A1 A2 A' : Option Addr} {c1 c2 n' c' : Nat} {xs ys : List ByteArray} {x : ByteArray} (h : TI w0 A1 c1 xs A2 c2 ys w) (hn : n' = xs.length + 1) (o : Row w' w0.heap.size 9 1 A' n' c' (nmC xs ++ [.string x])) (g : w.grownBy w' (blk A1 c1)) (hk : ∀ k, blk A' c' = some k → blk A1 c1 = some k ∨ w.heap.size ≤ k) :
    TI w0 A' c' (xs ++ [x]) A2 c2 ys w' := by
  subst hn
  refine ⟨?_, h.y.grown g (fun k hk e => h.ap k e hk), ?_, h.b.grown g h.b.size (fun j hj => (h.x.lt j hj).1)⟩
  · rw [List.length_append, ← strs_snoc]
    exact o
  · intro k h1 h2
    rcases hk k h1 with h3 | h3
    · exact h.ap k h3 h2
    · have := (h.y.lt k h2).2
      omega
theorem TI.addY {w0 w w' : World} {A1 A2 A' : Option Addr} {c1 c2 n' c' : Nat} {xs ys : List ByteArray} {x : ByteArray} (h : TI w0 A1 c1 xs A2 c2 ys w) (hn : n' = ys.length + 1) (o : Row w' w0.heap.size 9 1 A' n' c' (nmC ys ++ [.string x])) (g : w.grownBy w' (blk A2 c2)) (hk : ∀ k, blk A' c' = some k → blk A2 c2 = some k ∨ w.heap.size ≤ k) :
    TI w0 A1 c1 xs A' c' (ys ++ [x]) w' := by
  subst hn
  refine ⟨h.x.grown g (fun k hk e => h.ap k hk e), ?_, ?_, h.b.grown g h.b.size (fun j hj => (h.y.lt j hj).1)⟩
  · rw [List.length_append, ← strs_snoc]
    exact o
  · intro k h1 h2
    rcases hk k h2 with h3 | h3
    · exact h.ap k h1 h3
    · have := (h.x.lt k h1).2
      omega
set_option maxHeartbeats 4000000 in
theorem namesTwice_any (A : Option Addr) (os : List OV) (c : Nat) (w : World) (hr : RdOs w w.heap.size A os) (hs : Small os) :
    Calls Tryz.prog 56 #[.slice A os.length c] w (RetN (srtN (twice (os.map OV.d))) w) := by
  obtain ⟨i0, hi1, hi2, hi3, hi4⟩ := info_parts infoStr
  have HI := hide (And.intro hi1 (And.intro hi2 (And.intro hi3 hi4)))
  clear hi1 hi2 hi3 hi4
  obtain ⟨hs1, hs2⟩ := hs
  have HY := hide hs2
  have HR := hide hr
  clear hs2 hr
  have B0 : Below w.heap.size w ((w.alloc (.cells #[] 9)).alloc (.cells #[] 9)) := (by repeat (first | exact Below.refl _ _ | with_reducible assumption | (refine Below.drew ?_) | (refine Below.drewN ?_ _) | (refine Below.alloc ?_ (by simp; try omega) _) | (refine Below.setCell ?_ (by simp; try omega) _)))
  have HT := hide (show TI w (some ⟨w.heap.size, 0, none⟩) 0 [] (some ⟨w.heap.size + 1, 0, none⟩) 0 [] ((w.alloc (.cells #[] 9)).alloc (.cells #[] 9)) from ⟨Row.empty _ _ _ _ _, Row.empty _ _ _ _ _, (fun k h1 h2 => by cases h1), B0⟩)
  clear B0
  go_enter Tryz.func56, Tryz.ntmps56
  go_wp2_with fail
  generalize (w.alloc (.cells #[] 9)).alloc (.cells #[] 9) = w0 at *
  generalize hLL : os.map OV.d = l at *
  have HLL := hide hLL
  clear hLL
  go_loopw [3, 4, 13] (fun s t i wi => ∃ (k : Nat) (A1 : Option Addr) (c1 : Nat) (xs : List ByteArray) (A2 : Option Addr) (c2 : Nat) (ys : List ByteArray), k ≤ os.length ∧ s = .slice A1 xs.length c1 ∧ t = .slice A2 ys.length c2 ∧ i = .int .i64 k ∧ (xs, ys) = twO ([], []) (l.take k) ∧ xs.length ≤ 12 * k ∧ ys.length ≤ 12 * k ∧ TI w A1 c1 xs A2 c2 ys wi) (fun _ _ i _ => os.length - (intOf i).toNat)
  case atStart => exact ⟨0, _, 0, [], _, 0, [], Nat.zero_le _, rfl, rfl, rfl, rfl, Nat.le_refl _, Nat.le_refl _, HT.out⟩
  case round =>
    clear HT
    obtain ⟨k, A1, c1, xs, A2, c2, ys, hk, rfl, rfl, rfl, hxy, hx1, hy1, hti⟩ := hrel
    have HT := hide hti
    by_cases hlt : k < os.length
    · obtain ⟨bb, off, hA, hbb, hc0, hc1⟩ := (HR.out.below hti.b).at hlt
      have hll : k < l.length := by rw [← HLL.out, List.length_map]; exact hlt
      have HXY := hide (show twO ([], []) (l.take (k + 1)) = twS (xs, ys) os[k].ys from by
        rw [take_succ hll, twO_snoc, ← hxy]
        have := HLL.out
        subst this
        simp [OV.d])
      have HRO := hide (HR.out.2 _ (List.getElem_mem hlt)).2
      have hyl := HY.out _ (List.getElem_mem hlt)
      clear hti hxy
      subst hA
      generalize os[k] = o at *
      go_wp2_with fail
      have B1 : Below wr.heap.size wr (wr.alloc (.cells #[.slice o.A o.ps.length o.c, .slice o.Y o.ys.length o.yc] 31)) := (by repeat (first | exact Below.refl _ _ | with_reducible assumption | (refine Below.drew ?_) | (refine Below.drewN ?_ _) | (refine Below.alloc ?_ (by simp; try omega) _) | (refine Below.setCell ?_ (by simp; try omega) _)))
      have HO := hide (Box.new wr 31 #[.slice o.A o.ps.length o.c, .slice o.Y o.ys.length o.yc])
      replace HT := hide (HT.out.call B1)
      clear B1
      generalize wr.alloc (.cells #[.slice o.A o.ps.length o.c, .slice o.Y o.ys.length o.yc] 31) = wa at *
      generalize wr.heap.size = Z at *
      clear hc0 hc1
      have y1 := HO.out.cell 1
      simp only [List.getElem?_toArray, List.getElem?_cons_zero, List.getElem?_cons_succ] at y1
      have hol := HO.out.lt
      go_wp2_with fail
      clear y1 hol HO
      have HXY2 := hide (show (xs, ys) = twS (xs, ys) (o.ys.take 0) from rfl)
      generalize hq0 : (xs, ys) = q0 at *
      go_loopw [3, 4, 20] (fun s t i wi => ∃ (j : Nat) (A1 : Option Addr) (c1 : Nat) (xs : List ByteArray) (A2 : Option Addr) (c2 : Nat) (ys : List ByteArray), j ≤ o.ys.length ∧ s = .slice A1 xs.length c1 ∧ t = .slice A2 ys.length c2 ∧ i = .int .i64 j ∧ (xs, ys) = twS q0 (o.ys.take j) ∧ xs.length ≤ 12 * k + j ∧ ys.length ≤ 12 * k + j ∧ TI w A1 c1 xs A2 c2 ys wi) (fun _ _ i _ => o.ys.length - (intOf i).toNat)
      case atStart => exact ⟨0, A1, c1, xs, A2, c2, ys, Nat.zero_le _, rfl, rfl, rfl, hq0.trans HXY2.out, by omega, by omega, HT.out⟩
      case round =>
        clear HT HXY2 hq0
        obtain ⟨j, A1, c1, xs, A2, c2, ys, hj, rfl, rfl, rfl, hxy, hx1, hy1, hti⟩ := hrel
        have HT := hide hti
        by_cases hlj : j < o.ys.length
        · obtain ⟨b2, off2, hYA, hb2, hc⟩ := (HRO.out.below hti.b).row symbolC_len (by decide) hlj
          have hc0 := hc 0 _ rfl
          have hc1 := hc 1 _ rfl
          have hc2 := hc 2 _ rfl
          have hc3 := hc 3 _ rfl
          simp only [Nat.add_zero] at hc0
          have HST := hide (show twS q0 (o.ys.take (j + 1)) = twStep (xs, ys) o.ys[j] from by
            rw [take_succ hlj, twS_snoc, ← hxy])
          clear hti hxy hc
          rw [hYA]
          clear hYA
          generalize o.ys[j] = z at *
          obtain ⟨z1, z2, z3, z4⟩ := z
          simp only at hc0 hc1 hc2 hc3
          have B1 : Below wr.heap.size wr (wr.alloc (.cells #[.string z1, .int .i64 z2, .int .i64 z3, .int .i64 z4] 69)) := (by repeat (first | exact Below.refl _ _ | with_reducible assumption | (refine Below.drew ?_) | (refine Below.drewN ?_ _) | (refine Below.alloc ?_ (by simp; try omega) _) | (refine Below.setCell ?_ (by simp; try omega) _)))
          have HZ := hide (Box.new wr 69 #[.string z1, .int .i64 z2, .int .i64 z3, .int .i64 z4])
          replace HT := hide (HT.out.call B1)
          cases q1 : (z2 != 1)
          · cases q2 : (z3 == -1)
            · have hst : isStrong (z1, z2, z3, z4) = true := by
                have e1 : z2 = 1 := by simpa using q1
                have e2 : ¬ z3 = -1 := by simpa using q2
                simp [isStrong, e1, e2]
              have HST2 := hide (show twS q0 (o.ys.take (j + 1)) = (if hasN ys z1 = true then xs ++ [z1] else xs, ys ++ [z1]) from by
                rw [HST.out, twStep, hst]
                simp only [cond_true]
                unfold hasN
                cases ys.any (fun x => decide (x = z1)) <;> rfl)
              clear hst HST
              go_wp2_with fail
              clear hc0 hc1 hc2 hc3 q1 q2 B1
              generalize wr.alloc (.cells #[.string z1, .int .i64 z2, .int .i64 z3, .int .i64 z4] 69) = wz at *
              generalize wr.heap.size = S at *
              refine (containsN_any ys z1 A2 c2 _ wz HT.out.y (by omega)).mono ?_
              rintro e w' ⟨rfl, rfl⟩
              have hzl := HZ.out.lt
              have z0 := HZ.out.cell 0
              simp only [List.getElem?_toArray, List.getElem?_cons_zero, List.getElem?_cons_succ] at z0
              cases hh : hasN ys z1
              · rw [hh, if_neg (by decide)] at HST2
                clear hh
                go_wp2_with (at_builtin; refine wpList_app (wz.alloc (.cells #[.string z1] 9)) rfl (.tmp 41) (.tmp 44) 90 rfl 9 i0 (.string ByteArray.empty) 1 16 Tryz.underlying90 HI.out.1 HI.out.2.1 HI.out.2.2.1 HI.out.2.2.2 rfl (by decide) w.heap.size A2 ys.length c2 (nmC ys) rfl (HT.out.y.alloc _) ?hb (some ⟨wz.heap.size, 0, none⟩) 1 1 [.string z1] rfl (rd_lit wz #[.string z1] 9 _ rfl) rfl (fun h => by cases h) ?o1 ?n1 ?n2 ?_)
                case hb => have h := (HT.out.b.alloc HT.out.b.size (.cells #[.string z1] 9)).size; simpa using h
                case o1 => exact one_str z1
                case n1 => unfold maxLen; omega
                case n2 => omega
                intro A3 n3 c3 w3 hn o3 g3 k3
                have bl : Below wz.heap.size wz (wz.alloc (.cells #[.string z1] 9)) := (by repeat (first | exact Below.refl _ _ | with_reducible assumption | (refine Below.drew ?_) | (refine Below.drewN ?_ _) | (refine Below.alloc ?_ (by simp; try omega) _) | (refine Below.setCell ?_ (by simp; try omega) _)))
                have HT3 := hide (TI.addY (HT.out.call bl) hn (by simpa using o3) g3 (fun k hk => by have h := k3 k hk; simpa using h))
                subst hn
                clear o3 g3 k3 bl HT
                go_wp2_with fail
                refine ⟨⟨j + 1, A1, c1, xs, A3, c3, ys ++ [z1], by omega, rfl, by simp, by go_num, by rw [HST2.out], by omega, by simp; omega, HT3.out⟩, by simp [intOf]; omega⟩
              · rw [hh, if_pos rfl] at HST2
                clear hh
                go_wp2_with (at_builtin; refine wpList_app (wz.alloc (.cells #[.string z1] 9)) rfl (.tmp 36) (.tmp 39) 90 rfl 9 i0 (.string ByteArray.empty) 1 16 Tryz.underlying90 HI.out.1 HI.out.2.1 HI.out.2.2.1 HI.out.2.2.2 rfl (by decide) w.heap.size A1 xs.length c1 (nmC xs) rfl (HT.out.x.alloc _) ?hb (some ⟨wz.heap.size, 0, none⟩) 1 1 [.string z1] rfl (rd_lit wz #[.string z1] 9 _ rfl) rfl (fun h => by cases h) ?o1 ?n1 ?n2 ?_)
                case hb => have h := (HT.out.b.alloc HT.out.b.size (.cells #[.string z1] 9)).size; simpa using h
                case o1 => exact one_str z1
                case n1 => unfold maxLen; omega
                case n2 => omega
                intro A3 n3 c3 w3 hn o3 g3 k3
                have bl : Below wz.heap.size wz (wz.alloc (.cells #[.string z1] 9)) := (by repeat (first | exact Below.refl _ _ | with_reducible assumption | (refine Below.drew ?_) | (refine Below.drewN ?_ _) | (refine Below.alloc ?_ (by simp; try omega) _) | (refine Below.setCell ?_ (by simp; try omega) _)))
                have HZ3 := hide ((HZ.out.call bl).grown g3 ((HT.out.call bl).x.box (HZ.out.call bl) (by decide)))
                have HT3 := hide (TI.addX (HT.out.call bl) hn (by simpa using o3) g3 (fun k hk => by have h := k3 k hk; simpa using h))
                subst hn
                clear o3 g3 k3 bl HT HZ z0 hzl
                have HT := hide HT3.out
                clear HT3
                have hzl := HZ3.out.lt
                have z0 := HZ3.out.cell 0
                simp only [List.getElem?_toArray, List.getElem?_cons_zero, List.getElem?_cons_succ] at z0
                go_wp2_with (at_builtin; refine wpList_app (w3.alloc (.cells #[.string z1] 9)) rfl (.tmp 41) (.tmp 44) 90 rfl 9 i0 (.string ByteArray.empty) 1 16 Tryz.underlying90 HI.out.1 HI.out.2.1 HI.out.2.2.1 HI.out.2.2.2 rfl (by decide) w.heap.size A2 ys.length c2 (nmC ys) rfl (HT.out.y.alloc _) ?hb (some ⟨w3.heap.size, 0, none⟩) 1 1 [.string z1] rfl (rd_lit w3 #[.string z1] 9 _ rfl) rfl (fun h => by cases h) ?o1 ?n1 ?n2 ?_)
                case hb => have h := (HT.out.b.alloc HT.out.b.size (.cells #[.string z1] 9)).size; simpa using h
                case o1 => exact one_str z1
                case n1 => unfold maxLen; omega
                case n2 => omega
                intro A4 n4 c4 w4 hn o4 g4 k4
                have bl : Below w3.heap.size w3 (w3.alloc (.cells #[.string z1] 9)) := (by repeat (first | exact Below.refl _ _ | with_reducible assumption | (refine Below.drew ?_) | (refine Below.drewN ?_ _) | (refine Below.alloc ?_ (by simp; try omega) _) | (refine Below.setCell ?_ (by simp; try omega) _)))
                have HT4 := hide (TI.addY (HT.out.call bl) hn (by simpa using o4) g4 (fun k hk => by have h := k4 k hk; simpa using h))
                subst hn
                clear o4 g4 k4 bl HT
                go_wp2_with fail
                refine ⟨⟨j + 1, A3, c3, xs ++ [z1], A4, c4, ys ++ [z1], by omega, by simp, by simp, by go_num, by rw [HST2.out], by simp; omega, by simp; omega, HT4.out⟩, by simp [intOf]; omega⟩
            · have hst : isStrong (z1, z2, z3, z4) = false := by
                have e2 : z3 = -1 := by simpa using q2
                simp [isStrong, e2]
              have HST2 := hide (show twS q0 (o.ys.take (j + 1)) = (xs, ys) from by
                rw [HST.out, twStep, hst]
                rfl)
              clear hst HST
              go_wp2_with fail
              refine ⟨⟨j + 1, A1, c1, xs, A2, c2, ys, by omega, rfl, rfl, by go_num, HST2.out.symm, by omega, by omega, HT.out⟩, by simp [intOf]; omega⟩
          · have hst : isStrong (z1, z2, z3, z4) = false := by
              have e2 : ¬ z2 = 1 := by simpa using q1
              simp [isStrong, e2]
            have HST2 := hide (show twS q0 (o.ys.take (j + 1)) = (xs, ys) from by
              rw [HST.out, twStep, hst]
              rfl)
            clear hst HST
            go_wp2_with fail
            refine ⟨⟨j + 1, A1, c1, xs, A2, c2, ys, by omega, rfl, rfl, by go_num, HST2.out.symm, by omega, by omega, HT.out⟩, by simp [intOf]; omega⟩
        · have hje : j = o.ys.length := by omega
          subst hje
          have HQ2 := hide (show (xs, ys) = twO ([], []) (l.take (k + 1)) from by
            rw [HXY.out, hxy, List.take_length])
          clear hxy hti HXY
          go_wp2_with fail
          refine ⟨⟨k + 1, A1, c1, xs, A2, c2, ys, by omega, rfl, rfl, by go_num, HQ2.out, by omega, by omega, HT.out⟩, by simp [intOf]; omega⟩
    · have hke : k = os.length := by omega
      subst hke
      have HTW := hide (show twice l = xs from by
        rw [twice, ← List.take_of_length_le (show l.length ≤ os.length by rw [← HLL.out]; simp), ← hxy])
      have HQ := hide (sorted_any xs A1 c1 _ wr hti.x (by omega))
      clear hxy hti
      generalize hzs : srtN xs = zs at HQ
      have HZS := hide hzs
      clear hzs
      go_wp2_with fail
      refine HQ.out.mono ?_
      rintro e w4 ⟨A4, c4, rfl, r4, b4⟩
      have HF := hide (And.intro (r4.down HT.out.b.size) (HT.out.b.trans (b4.mono HT.out.b.size)))
      clear r4 b4 HQ
      go_wp2_with fail
      go_ret
      show RetN (srtN (twice l)) w _ _
      rw [HTW.out, HZS.out]
      exact ⟨A4, c4, rfl, HF.out.1, HF.out.2⟩
end Go.Proofs.YtmglgjchemecjaaGreat.CNames
/- namesMissing. -/
namespace Go.Proofs.YtmglgjchemecjaaGreat.CMiss
set_option maxRecDepth 200000
open Go.ChangeShapes Go.WideShapes Go.ChangeAt Go.RowKit Kit CCode CName CFixups CSymbols PObj BObj CGlobalOf BStore BList PLink CFind CSorted CNames
theorem missS_snoc (l : List OD) (a : List YD) (y : YD) : missS l (a ++ [y]) = missS l a ++ (bif isMiss l y then [y.1] else []) := by
  unfold missS
  rw [List.filter_append, List.map_append]
  cases h : isMiss l y <;> simp [h]
theorem miss_take (l m : List OD) (k : Nat) (h : k < m.length) : (m.take (k + 1)).flatMap (fun d => missS l d.ys) = (m.take k).flatMap (fun d => missS l d.ys) ++ missS l m[k].ys := by
  rw [take_succ h, List.flatMap_append]
  simp
theorem missS_len (l : List OD) (a : List YD) : (missS l a).length ≤ a.length := by
  unfold missS
  rw [List.length_map]
  exact List.length_filter_le _ _
set_option maxHeartbeats 4000000 in
theorem namesMissing_any (A : Option Addr) (os : List OV) (c : Nat) (w : World) (hr : RdOs w w.heap.size A os) (hs : Small os) :
    Calls Tryz.prog 57 #[.slice A os.length c] w (RetN (srtN (miss (os.map OV.d))) w) := by
  obtain ⟨i0, hi1, hi2, hi3, hi4⟩ := info_parts infoStr
  have HI := hide (And.intro hi1 (And.intro hi2 (And.intro hi3 hi4)))
  clear hi1 hi2 hi3 hi4
  have HLN := hide (show Lens os from ⟨by have := hs.1; omega, fun o ho => by have := hs.2 o ho; omega⟩)
  obtain ⟨hs1, hs2⟩ := hs
  have HY := hide hs2
  have HR := hide hr
  clear hs2 hr
  have HB := hide (show Below w.heap.size w (w.alloc (.cells #[] 9)) from (by repeat (first | exact Below.refl _ _ | with_reducible assumption | (refine Below.drew ?_) | (refine Below.drewN ?_ _) | (refine Below.alloc ?_ (by simp; try omega) _) | (refine Below.setCell ?_ (by simp; try omega) _))))
  go_enter Tryz.func57, Tryz.ntmps57
  go_wp2_with fail
  generalize w.alloc (.cells #[] 9) = w0 at *
  generalize hLL : os.map OV.d = l at *
  have HLL := hide hLL
  clear hLL
  go_loopw [3, 13] (fun s i wi => ∃ (k : Nat) (A1 : Option Addr) (c1 : Nat) (xs : List ByteArray), k ≤ os.length ∧ s = .slice A1 xs.length c1 ∧ i = .int .i64 k ∧ xs = (l.take k).flatMap (fun d => missS l d.ys) ∧ xs.length ≤ 12 * k ∧ Row wi w.heap.size 9 1 A1 xs.length c1 (nmC xs) ∧ Below w.heap.size w wi) (fun _ i _ => os.length - (intOf i).toNat)
  case atStart => exact ⟨0, _, 0, [], Nat.zero_le _, rfl, rfl, rfl, Nat.le_refl _, Row.empty _ _ _ _ _, HB.out⟩
  case round =>
    clear HB
    obtain ⟨k, A1, c1, xs, hk, rfl, rfl, hxy, hx1, hrow, hb⟩ := hrel
    have HX := hide hrow
    have HB := hide hb
    by_cases hlt : k < os.length
    · obtain ⟨bb, off, hA, hbb, hc0, hc1⟩ := (HR.out.below hb).at hlt
      have hll : k < l.length := by rw [← HLL.out, List.length_map]; exact hlt
      have HXY := hide (show (l.take (k + 1)).flatMap (fun d => missS l d.ys) = xs ++ missS l os[k].ys from by
        rw [miss_take l l k hll, ← hxy]
        congr 2
        have := HLL.out
        subst this
        simp [OV.d])
      have HRO := hide (HR.out.2 _ (List.getElem_mem hlt)).2
      have hyl := HY.out _ (List.getElem_mem hlt)
      clear hb hrow hxy
      subst hA
      generalize os[k] = o at *
      go_wp2_with fail
      have B1 : Below wr.heap.size wr (wr.alloc (.cells #[.slice o.A o.ps.length o.c, .slice o.Y o.ys.length o.yc] 31)) := (by repeat (first | exact Below.refl _ _ | with_reducible assumption | (refine Below.drew ?_) | (refine Below.drewN ?_ _) | (refine Below.alloc ?_ (by simp; try omega) _) | (refine Below.setCell ?_ (by simp; try omega) _)))
      have HO := hide (Box.new wr 31 #[.slice o.A o.ps.length o.c, .slice o.Y o.ys.length o.yc])
      replace HB := hide (HB.out.trans (B1.mono HB.out.size))
      replace HX := hide (HX.out.call B1)
      clear B1
      generalize wr.alloc (.cells #[.slice o.A o.ps.length o.c, .slice o.Y o.ys.length o.yc] 31) = wa at *
      generalize wr.heap.size = Z at *
      clear hc0 hc1
      have y1 := HO.out.cell 1
      simp only [List.getElem?_toArray, List.getElem?_cons_zero, List.getElem?_cons_succ] at y1
      have hol := HO.out.lt
      go_wp2_with fail
      clear y1 hol HO
      generalize hx0 : xs = x0 at *
      clear hx0
      go_loopw [3, 20] (fun s i wi => ∃ (j : Nat) (A1 : Option Addr) (c1 : Nat) (xs : List ByteArray), j ≤ o.ys.length ∧ s = .slice A1 xs.length c1 ∧ i = .int .i64 j ∧ xs = x0 ++ missS l (o.ys.take j) ∧ xs.length ≤ 12 * k + j ∧ Row wi w.heap.size 9 1 A1 xs.length c1 (nmC xs) ∧ Below w.heap.size w wi) (fun _ i _ => o.ys.length - (intOf i).toNat)
      case atStart => exact ⟨0, A1, c1, x0, Nat.zero_le _, rfl, rfl, (List.append_nil _).symm, by omega, HX.out, HB.out⟩
      case round =>
        clear HX HB
        obtain ⟨j, A1, c1, xs, hj, rfl, rfl, hxy, hx1, hrow, hb⟩ := hrel
        have HX := hide hrow
        have HB := hide hb
        by_cases hlj : j < o.ys.length
        · obtain ⟨b2, off2, hYA, hb2, hc⟩ := (HRO.out.below hb).row symbolC_len (by decide) hlj
          have hc0 := hc 0 _ rfl
          have hc1 := hc 1 _ rfl
          have hc2 := hc 2 _ rfl
          have hc3 := hc 3 _ rfl
          simp only [Nat.add_zero] at hc0
          have HST := hide (show x0 ++ missS l (o.ys.take (j + 1)) = xs ++ (bif isMiss l o.ys[j] then [o.ys[j].1] else []) from by
            rw [take_succ hlj, missS_snoc, ← List.append_assoc, ← hxy])
          clear hb hrow hxy hc
          rw [hYA]
          clear hYA
          generalize o.ys[j] = z at *
          obtain ⟨z1, z2, z3, z4⟩ := z
          simp only at hc0 hc1 hc2 hc3 HST
          go_wp2_with fail
          have B1 : Below wr.heap.size wr (wr.alloc (.cells #[.string z1, .int .i64 z2, .int .i64 z3, .int .i64 z4] 69)) := (by repeat (first | exact Below.refl _ _ | with_reducible assumption | (refine Below.drew ?_) | (refine Below.drewN ?_ _) | (refine Below.alloc ?_ (by simp; try omega) _) | (refine Below.setCell ?_ (by simp; try omega) _)))
          have HZ := hide (Box.new wr 69 #[.string z1, .int .i64 z2, .int .i64 z3, .int .i64 z4])
          replace HB := hide (HB.out.trans (B1.mono HB.out.size))
          replace HX := hide (HX.out.call B1)
          clear B1
          clear hc0 hc1 hc2 hc3
          generalize wr.alloc (.cells #[.string z1, .int .i64 z2, .int .i64 z3, .int .i64 z4] 69) = wz at *
          generalize wr.heap.size = S at *
          refine (findName_any (some ⟨bb, off, none⟩) os c z1 wz ((HR.out.below HB.out).more HB.out.size) HLN.out).mono ?_
          rintro e w5 ⟨rfl, b5⟩
          replace HB := hide (HB.out.trans (b5.mono HB.out.size))
          replace HZ := hide (HZ.out.call b5)
          replace HX := hide (HX.out.call b5)
          clear b5
          have HM := hide (show isMiss l (z1, z2, z3, z4) = ((z2 == 1) && (z3 == -1) && !(findN (os.map OV.d) z1).isSome) from by
            rw [HLL.out]
            simp only [isMiss]
            cases findN l z1 <;> rfl)
          simp only [givV]
          generalize findN (os.map OV.d) z1 = r at *
          have y0 := HZ.out.cell 0
          have y1 := HZ.out.cell 1
          have y2 := HZ.out.cell 2
          simp only [List.getElem?_toArray, List.getElem?_cons_zero, List.getElem?_cons_succ] at y0 y1 y2
          have hzl := HZ.out.lt
          have bg : Below w5.heap.size w5 (w5.alloc (.cells #[.int .i64 (gin r), .int .i64 (gat r)] 109)) := (by repeat (first | exact Below.refl _ _ | with_reducible assumption | (refine Below.drew ?_) | (refine Below.drewN ?_ _) | (refine Below.alloc ?_ (by simp; try omega) _) | (refine Below.setCell ?_ (by simp; try omega) _)))
          have HBG := hide (HB.out.trans (bg.mono HB.out.size))
          have HXG := hide (HX.out.call bg)
          cases q1 : (z2 == 1)
          · rw [q1, Bool.false_and, Bool.false_and] at HM
            rw [HM.out, cond_false, List.append_nil] at HST
            clear HM bg
            go_wp2_with fail
            refine ⟨⟨j + 1, A1, c1, xs, by omega, rfl, by go_num, HST.out.symm, by omega, HXG.out, HBG.out⟩, by simp [intOf]; omega⟩
          cases q2 : (z3 == -1)
          · rw [q1, q2, Bool.and_false, Bool.false_and] at HM
            rw [HM.out, cond_false, List.append_nil] at HST
            clear HM bg
            go_wp2_with fail
            refine ⟨⟨j + 1, A1, c1, xs, by omega, rfl, by go_num, HST.out.symm, by omega, HXG.out, HBG.out⟩, by simp [intOf]; omega⟩
          cases q3 : r.isSome
          · rw [q1, q2, q3] at HM
            rw [HM.out] at HST
            have HST2 := hide (show x0 ++ missS l (o.ys.take (j + 1)) = xs ++ [z1] from HST.out)
            clear HM HST bg
            go_wp2_with (at_builtin; refine wpList_app ((w5.alloc (.cells #[.int .i64 (gin r), .int .i64 (gat r)] 109)).alloc (.cells #[.string z1] 9)) rfl (.tmp 43) (.tmp 46) 90 rfl 9 i0 (.string ByteArray.empty) 1 16 Tryz.underlying90 HI.out.1 HI.out.2.1 HI.out.2.2.1 HI.out.2.2.2 rfl (by decide) w.heap.size A1 xs.length c1 (nmC xs) rfl (HXG.out.alloc _) ?hb (some ⟨w5.heap.size + 1, 0, none⟩) 1 1 [.string z1] rfl (by have h := rd_lit (w5.alloc (.cells #[.int .i64 (gin r), .int .i64 (gat r)] 109)) #[.string z1] 9 _ rfl; rw [World.size_alloc] at h; exact h) rfl (fun h => by cases h) ?o1 ?n1 ?n2 ?_)
            case hb => have h := (HBG.out.alloc HBG.out.size (.cells #[.string z1] 9)).size; simpa using h
            case o1 => exact one_str z1
            case n1 => unfold maxLen; omega
            case n2 => omega
            intro A3 n3 c3 w6 hn o3 g3 k3
            have HB6 := hide ((HBG.out.alloc HBG.out.size (.cells #[.string z1] 9)).grown g3 (HBG.out.alloc HBG.out.size (.cells #[.string z1] 9)).size (fun j hj => (HXG.out.lt j hj).1))
            have HX6 := hide (show Row w6 w.heap.size 9 1 A3 (xs ++ [z1]).length c3 (nmC (xs ++ [z1])) from by
              subst hn
              rw [List.length_append, ← strs_snoc]
              simpa using o3)
            subst hn
            clear o3 g3 k3
            go_wp2_with fail
            refine ⟨⟨j + 1, A3, c3, xs ++ [z1], by omega, by simp, by go_num, HST2.out.symm, by simp; omega, HX6.out, HB6.out⟩, by simp [intOf]; omega⟩
          · rw [q1, q2, q3] at HM
            rw [HM.out] at HST
            have HST2 := hide (show x0 ++ missS l (o.ys.take (j + 1)) = xs from HST.out.trans (List.append_nil _))
            clear HM HST bg
            go_wp2_with fail
            refine ⟨⟨j + 1, A1, c1, xs, by omega, rfl, by go_num, HST2.out.symm, by omega, HXG.out, HBG.out⟩, by simp [intOf]; omega⟩
        · have hje : j = o.ys.length := by omega
          subst hje
          have HQ2 := hide (show xs = (l.take (k + 1)).flatMap (fun d => missS l d.ys) from by
            rw [HXY.out, hxy, List.take_length])
          clear hxy hb hrow HXY
          go_wp2_with fail
          refine ⟨⟨k + 1, A1, c1, xs, by omega, rfl, by go_num, HQ2.out, by omega, HX.out, HB.out⟩, by simp [intOf]; omega⟩
    · have hke : k = os.length := by omega
      subst hke
      have HTW := hide (show miss l = xs from by
        rw [miss, hxy, List.take_of_length_le (show l.length ≤ os.length by rw [← HLL.out]; simp)])
      have HQ := hide (sorted_any xs A1 c1 _ wr hrow (by omega))
      clear hxy hrow hb
      generalize hzs : srtN xs = zs at HQ
      have HZS := hide hzs
      clear hzs
      go_wp2_with fail
      refine HQ.out.mono ?_
      rintro e w4 ⟨A4, c4, rfl, r4, b4⟩
      have HF := hide (And.intro (r4.down HB.out.size) (HB.out.trans (b4.mono HB.out.size)))
      clear r4 b4 HQ
      go_wp2_with fail
      go_ret
      show RetN (srtN (miss l)) w _ _
      rw [HTW.out, HZS.out]
      exact ⟨A4, c4, rfl, HF.out.1, HF.out.2⟩
end Go.Proofs.YtmglgjchemecjaaGreat.CMiss
/- A region that draws its order, taken operation by operation: what only computes at once; loads under a condition on the world that all keep but those of T; those of T come up alone. -/
namespace Go.Proofs.YtmglgjchemecjaaGreat.Rv
set_option maxRecDepth 200000
open Go Reg
section
variable {P : Program} {ops : Array Oper} {Q : Exit → Act → World → Prop} {md : Region.Mode} {S : World → Prop} {T : Nat → Bool}
/-- Whatever order is picked from here on, and S stands over every operation that is carried out, but for those of T. -/
def wpAnyV (P : Program) (md : Region.Mode) (ops : Array Oper) (Q : Exit → Act → World → Prop) (S : World → Prop) (T : Nat → Bool) : Nat → Array Bool → Act → World → Prop
  | 0, listed, a, w => Region.ready md ops listed = [] ∧ Q .normal a w
  | fuel + 1, listed, a, w =>
    (Region.ready md ops listed = [] → Q .normal a w) ∧
    ∀ i ∈ Region.ready md ops listed, wpOp P ops Q i (fun a' w' => (T i = false → S w → S w') ∧ wpAnyV P md ops Q S T fuel (listed.setIfInBounds i true) a' w') a w
theorem wpAny_of_V : ∀ (fuel : Nat) (listed : Array Bool) (a : Act) (w : World), wpAnyV P md ops Q S T fuel listed a w → wpAny P md ops Q fuel listed a w
  | 0, _, _, _, h => h
  | fuel + 1, _, _, _, h => ⟨h.1, fun i hi => wpOp_mono (fun a' w' h' => wpAny_of_V fuel _ a' w' h'.2) (h.2 i hi)⟩
/-- All that waits for number i, directly or through others (n rounds). -/
def cl (md : Region.Mode) (ops : Array Oper) (listed : Array Bool) (i : Nat) : Nat → List Nat
  | 0 => (List.range ops.size).filter fun j => !listed.getD j true && (match ops[j]? with | some o => waits md o i | none => false)
  | n + 1 => (List.range ops.size).filter fun j => !listed.getD j true && (match ops[j]? with | some o => waits md o i || o.after.any (fun e => Region.binds md e && (cl md ops listed i n).contains e.on) | none => false)
/-- No member of C is taken while number i is not. -/
def closedB (md : Region.Mode) (ops : Array Oper) (listed : Array Bool) (i : Nat) (C : List Nat) (T : Nat → Bool) : Bool :=
  (C.all fun j => j != i && !listed.getD j true && (match ops[j]? with | some o => waits md o i || o.after.any (fun e => Region.binds md e && C.contains e.on) | none => false)) &&
  (List.range ops.size).all fun j => !T j || j == i || C.contains j
theorem closed_spec {i : Nat} {listed : Array Bool} {C : List Nat} (h : closedB md ops listed i C T = true) :
    (∀ j ∈ C, j ≠ i ∧ listed.getD j true = false ∧ ∃ o, ops[j]? = some o ∧ ∃ e ∈ o.after, Region.binds md e = true ∧ (e.on = i ∨ e.on ∈ C)) ∧ (∀ (j : Nat) (o : Oper), ops[j]? = some o → T j = true → j ≠ i → j ∈ C) := by
  unfold closedB at h
  rw [Bool.and_eq_true] at h
  obtain ⟨h1, h2⟩ := h
  refine ⟨fun j hj => ?_, fun j o ho ht hne => ?_⟩
  · have := List.all_eq_true.1 h1 j hj
    simp only [Bool.and_eq_true, bne_iff_ne, ne_eq, Bool.not_eq_true'] at this
    obtain ⟨⟨a, b⟩, c⟩ := this
    refine ⟨a, b, ?_⟩
    split at c
    · rename_i o ho
      refine ⟨o, ho, ?_⟩
      rcases Bool.or_eq_true_iff.1 c with c | c
      · unfold waits at c
        rw [Array.any_eq_true] at c
        obtain ⟨k, hk, he⟩ := c
        simp only [Bool.and_eq_true, beq_iff_eq] at he
        exact ⟨_, Array.getElem_mem hk, he.1, .inl he.2⟩
      · rw [Array.any_eq_true] at c
        obtain ⟨k, hk, he⟩ := c
        simp only [Bool.and_eq_true, List.contains_iff_mem] at he
        exact ⟨_, Array.getElem_mem hk, he.1, .inr he.2⟩
    · cases c
  · have hj : j < ops.size := (Array.getElem?_eq_some_iff.1 ho).1
    have := List.all_eq_true.1 h2 j (List.mem_range.2 hj)
    simp only [Bool.or_eq_true, Bool.not_eq_true', beq_iff_eq, List.contains_iff_mem] at this
    rcases this with (this | this) | this
    · rw [ht] at this
      cases this
    · exact absurd this hne
    · exact this
theorem first {i : Nat} {oi : Oper} {v : Value} {C : List Nat} {R : World → Prop} (hi : ops[i]? = some oi) (hsel : ∀ (j : Nat) (o : Oper) cs b, ops[j]? = some o → o.op ≠ .select cs b)
    (hQ : ∀ c a w, Q (.panic c) (a.put oi.dst v) w → Q (.panic c) a w) (hR : (∀ w, R w) ∨ ((∀ w, R w ↔ S w) ∧ ∀ (j : Nat) (o : Oper), ops[j]? = some o → T j = true → j ≠ i → j ∈ C)) :
    ∀ (fuel : Nat) (listed : Array Bool) (a : Act) (w : World),
      (∀ j ∈ C, j ≠ i ∧ listed.getD j true = false ∧ ∃ o, ops[j]? = some o ∧ ∃ e ∈ o.after, Region.binds md e = true ∧ (e.on = i ∨ e.on ∈ C)) →
      (∀ j oj, ops[j]? = some oj → j ≠ i → listed.getD j true = false → (∀ e ∈ oj.after, Region.binds md e = true → e.on ≠ i) → oi.apart ops oj = true) →
      i ∈ Region.ready md ops listed → YieldsIf P ops R oi v a → R w →
      wpAnyV P md ops Q S T fuel (listed.setIfInBounds i true) (a.put oi.dst v) w → wpAnyV P md ops Q S T (fuel + 1) listed a w := by
  intro fuel
  induction fuel with
  | zero =>
    intro listed a w _ _ hr hy hS H
    refine ⟨fun h => (by rw [h] at hr; cases hr), fun j hj => ?_⟩
    by_cases hji : j = i
    · subst hji
      exact hy.wpOp hi hS ⟨fun _ h => h, H⟩
    · have := ready_mono hj hji
      rw [H.1] at this
      cases this
  | succ fuel ih =>
    intro listed a w hC hfree hr hy hS H
    refine ⟨fun h => (by rw [h] at hr; cases hr), fun j hj => ?_⟩
    by_cases hji : j = i
    · subst hji
      exact hy.wpOp hi hS ⟨fun _ h => h, H⟩
    · have h1 := H.2 j (ready_mono hj hji)
      obtain ⟨hjun, oj, hoj, hall⟩ := mem_ready.1 hj
      have hun : ∀ k, listed.getD k true = false → ∀ e ∈ oj.after, Region.binds md e = true → e.on ≠ k := fun k h0 e he hb heq => by
        have h1 := hall e he hb
        rw [heq] at h1
        rcases Nat.lt_or_ge k listed.size with h' | h'
        · simp [h'] at h0 h1
          rw [h0] at h1
          cases h1
        · simp [Array.getElem?_eq_none h'] at h1
      have hnot : ∀ e ∈ oj.after, Region.binds md e = true → e.on ≠ i := hun i (mem_ready.1 hr).1
      have hjC : j ∉ C := fun hjc => by
        obtain ⟨_, _, o, ho, e, he, hb, hor⟩ := hC j hjc
        rw [hoj] at ho
        injection ho with ho
        subst ho
        rcases hor with hor | hor
        · exact hnot e he hb hor
        · exact hun _ (hC _ hor).2.1 e he hb rfl
      have h2 := wpOp_putIf hoj (hfree j oj hoj hji hjun hnot) (fun cs b => hsel i oi cs b hi) (fun cs b => hsel j oj cs b hoj) hQ hy h1
      have hfree' : ∀ k ok, ops[k]? = some ok → k ≠ i → (listed.setIfInBounds j true).getD k true = false →
          (∀ e ∈ ok.after, Region.binds md e = true → e.on ≠ i) → oi.apart ops ok = true := fun k ok hk hki hun hno => by
        refine hfree k ok hk hki ?_ hno
        by_cases hjk : j = k
        · subst hjk
          exact hjun
        · rw [getD_set_ne true hjk] at hun
          exact hun
      have hC' : ∀ k ∈ C, k ≠ i ∧ (listed.setIfInBounds j true).getD k true = false ∧ ∃ o, ops[k]? = some o ∧ ∃ e ∈ o.after, Region.binds md e = true ∧ (e.on = i ∨ e.on ∈ C) := fun k hk => by
        obtain ⟨a1, a2, a3⟩ := hC k hk
        refine ⟨a1, ?_, a3⟩
        have hjk : j ≠ k := by
          rintro rfl
          exact hjC hk
        rw [getD_set_ne true hjk]
        exact a2
      have hRk : ∀ w', (T j = false → S w → S w') → R w' := fun w' hk => by
        rcases hR with hR | ⟨hR, hT⟩
        · exact hR w'
        · have hTj : T j = false := by
            cases hT' : T j
            · rfl
            · exact absurd (hT j oj hoj hT' hji) hjC
          exact (hR w').2 (hk hTj ((hR w).1 hS))
      refine wpOp_mono (fun a' w' h3 => ⟨h3.2.1, ih (listed.setIfInBounds j true) a' w' hC' hfree' (ready_mono hr (Ne.symm hji)) h3.1 (hRk w' h3.2.1) ?_⟩) h2
      rw [Array.setIfInBounds_comm _ _ hji]
      exact h3.2.2
/-- A load (what reads the world): take it first, under S. -/
theorem take {i : Nat} {oi : Oper} {v : Value} {fuel : Nat} {listed : Array Bool} {a : Act} {w : World} (hi : ops[i]? = some oi)
    (hs : Region.noSelect ops = true) (hf : Region.free md ops listed i = true) (hr : (Region.ready md ops listed).contains i = true) (hT : closedB md ops listed i (cl md ops listed i 3) T = true)
    (hQ : ∀ c a w, Q (.panic c) (a.put oi.dst v) w → Q (.panic c) a w) (hy : YieldsIf P ops S oi v a) (hS : S w)
    (h : wpAnyV P md ops Q S T fuel (listed.setIfInBounds i true) (a.put oi.dst v) w) : wpAnyV P md ops Q S T (fuel + 1) listed a w :=
  first (R := S) hi (Region.noSelect_spec hs) hQ (.inr ⟨fun _ => Iff.rfl, (closed_spec hT).2⟩) fuel listed a w (closed_spec hT).1 (Region.free_spec hi hf) (by simpa using hr) hy hS h
/-- What only computes: take it first. -/
theorem comp {i : Nat} {oi : Oper} {v : Value} {fuel : Nat} {listed : Array Bool} {a : Act} {w : World} (hi : ops[i]? = some oi)
    (hs : Region.noSelect ops = true) (hf : Region.free md ops listed i = true) (hr : (Region.ready md ops listed).contains i = true)
    (hQ : ∀ c a w, Q (.panic c) (a.put oi.dst v) w → Q (.panic c) a w) (hy : YieldsIf P ops (fun _ => True) oi v a)
    (h : wpAnyV P md ops Q S T fuel (listed.setIfInBounds i true) (a.put oi.dst v) w) : wpAnyV P md ops Q S T (fuel + 1) listed a w :=
  first (R := fun _ => True) (C := []) hi (Region.noSelect_spec hs) hQ (.inl fun _ => trivial) fuel listed a w (fun _ h => by cases h) (Region.free_spec hi hf) (by simpa using hr) hy trivial h
/-- One alone may come up, and it is none of T: S is shown anew behind it. -/
theorem one {i : Nat} {o : Oper} {fuel : Nat} {listed : Array Bool} {a : Act} {w : World} (ho : ops[i]? = some o) (hr : Region.ready md ops listed = [i])
    (h : ∀ K : Act → World → Prop, Shut (∀ a w, S w → wpAnyV P md ops Q S T fuel (listed.setIfInBounds i true) a w → K a w) → if Region.wanted o (yielded ops a.tmps) = true then Oper.wp P o a w K Q else K (a.put o.dst undef) w) :
    wpAnyV P md ops Q S T (fuel + 1) listed a w :=
  ⟨fun h0 => (by rw [hr] at h0; cases h0), fun j hj => by
    rw [hr] at hj
    simp only [List.mem_singleton] at hj
    subst hj
    exact wpOp_step ho (fun K' hK => h K' (fun a w hS hW => hK a w ⟨fun _ _ => hS, hW⟩))⟩
/-- One of T comes up alone. -/
theorem last {i : Nat} {o : Oper} {fuel : Nat} {listed : Array Bool} {a : Act} {w : World} (ho : ops[i]? = some o) (hr : Region.ready md ops listed = [i]) (hT : T i = true)
    (h : ∀ K : Act → World → Prop, Shut (∀ a w, wpAnyV P md ops Q S T fuel (listed.setIfInBounds i true) a w → K a w) → if Region.wanted o (yielded ops a.tmps) = true then Oper.wp P o a w K Q else K (a.put o.dst undef) w) :
    wpAnyV P md ops Q S T (fuel + 1) listed a w :=
  ⟨fun h0 => (by rw [hr] at h0; cases h0), fun j hj => by
    rw [hr] at hj
    simp only [List.mem_singleton] at hj
    subst hj
    exact wpOp_step ho (fun K' hK => h K' (fun a w hW => hK a w ⟨fun hF => (by rw [hT] at hF; cases hF), hW⟩))⟩
/-- Two may come up, neither of T: the one or the other is carried out. -/
theorem two {i j : Nat} {oi oj : Oper} {fuel : Nat} {listed : Array Bool} {a : Act} {w : World} (hoi : ops[i]? = some oi) (hoj : ops[j]? = some oj) (hr : Region.ready md ops listed = [i, j])
    (h : ∀ K : Act → World → Prop, Shut (∀ a w, S w → wpAnyV P md ops Q S T fuel (listed.setIfInBounds i true) a w → K a w) → if Region.wanted oi (yielded ops a.tmps) = true then Oper.wp P oi a w K Q else K (a.put oi.dst undef) w)
    (h' : ∀ K : Act → World → Prop, Shut (∀ a w, S w → wpAnyV P md ops Q S T fuel (listed.setIfInBounds j true) a w → K a w) → if Region.wanted oj (yielded ops a.tmps) = true then Oper.wp P oj a w K Q else K (a.put oj.dst undef) w) :
    wpAnyV P md ops Q S T (fuel + 1) listed a w :=
  ⟨fun h0 => (by rw [hr] at h0; cases h0), fun k hk => by
    rw [hr] at hk
    simp only [List.mem_cons, List.not_mem_nil, or_false] at hk
    rcases hk with rfl | rfl
    · exact wpOp_step hoi (fun K' hK => h K' (fun a w hS hW => hK a w ⟨fun _ _ => hS, hW⟩))
    · exact wpOp_step hoj (fun K' hK => h' K' (fun a w hS hW => hK a w ⟨fun _ _ => hS, hW⟩))⟩
theorem done {listed : Array Bool} {a : Act} {w : World} (hr : Region.ready md ops listed = []) (h : Q .normal a w) : ∀ fuel, wpAnyV P md ops Q S T fuel listed a w
  | 0 => ⟨hr, h⟩
  | _ + 1 => ⟨fun _ => h, by rw [hr]; simp⟩
/-- The beginning. -/
theorem start {id : Nat} {a : Act} {w : World} (S : World → Prop) (T : Nat → Bool) (hm : P.follows .mixedOrders = true)
    (h : wpAnyV P .any ops Q S T ops.size (Array.replicate ops.size false) a w.drew) : (Code.region id ops true).wp P Q a w :=
  wp_region_any hm (wpAny_of_V _ _ _ _ h)
end
end Go.Proofs.YtmglgjchemecjaaGreat.Rv
/- placeOf and symbolPlace: the places that symbols mean. -/
namespace Go.Proofs.YtmglgjchemecjaaGreat.CPlaceL
set_option maxRecDepth 200000
open Go.ChangeShapes Go.WideShapes Go.ChangeAt Go.RowKit Kit CCode CName CFixups CSymbols PObj BObj PValid CGlobalOf CObjValid BStore BList PLink CFind
/-- A symbol's place can be told. -/
def PlOk (rs : List RV) (k : Nat) (y : YD) : Prop :=
  (y.2.2.1 = -2 ∨ (0 ≤ y.2.2.1 ∧ ∃ h : k < rs.length, ∃ h2 : y.2.2.1.toNat < (rs[k]).zs.length, 0 ≤ (rs[k]).zs[y.2.2.1.toNat] ∧ (rs[k]).zs[y.2.2.1.toNat] ≤ 20000)) ∧ 0 ≤ y.2.2.2 ∧ y.2.2.2 ≤ 60000
theorem getP_at {rs : List RV} {k i : Nat} (h : k < rs.length) (h2 : i < (rs[k]).zs.length) : getP (rs.map RV.zs) k i = (rs[k]).zs[i] := by
  unfold getP
  rw [List.getD_eq_getElem?_getD, List.getD_eq_getElem?_getD, List.getElem?_map, List.getElem?_eq_getElem h]
  simp [List.getElem?_eq_getElem h2]
set_option maxHeartbeats 4000000 in
theorem placeOf_any (PA : Option Addr) (rs : List RV) (pc : Nat) (EA : Option Addr) (m ec : Nat) (A : Option Addr) (os : List OV) (c k j : Nat) (w : World) (hP : RdRs w w.heap.size PA rs) (hr : RdOs w w.heap.size A os)
    (hk : k < os.length) (hj : j < (os[k]).ys.length) (hm : os.length ≤ 1048576 ∧ (os[k]).ys.length ≤ 1048576) (hp : PlOk rs k (os[k]).ys[j]) :
    Calls Tryz.prog 73 #[.agg #[.slice PA rs.length pc, .slice EA m ec], .slice A os.length c, .agg #[.int .i64 k, .int .i64 j]] w (Ret (.int .i64 (tgY (rs.map RV.zs) k (os[k]).ys[j])) w) := by
  obtain ⟨hm1, hm2⟩ := hm
  have B0 : Below w.heap.size w ((w.alloc (.cells #[.slice PA rs.length pc, .slice EA m ec] 87)).alloc (.cells #[.int .i64 k, .int .i64 j] 109)) := (by repeat (first | exact Below.refl _ _ | with_reducible assumption | (refine Below.drew ?_) | (refine Below.drewN ?_ _) | (refine Below.alloc ?_ (by simp; try omega) _) | (refine Below.setCell ?_ (by simp; try omega) _)))
  have HL := hide ((Box.new w 87 #[.slice PA rs.length pc, .slice EA m ec]).alloc (.cells #[.int .i64 k, .int .i64 j] 109))
  have HG0 := Box.new (w.alloc (.cells #[.slice PA rs.length pc, .slice EA m ec] 87)) 109 #[.int .i64 k, .int .i64 j]
  simp only [World.size_alloc] at HG0
  have HG := hide HG0
  have HB := hide B0
  have HRP := hide (hP.below B0)
  obtain ⟨b1, o1, hA, hb1, hc0, hc1⟩ := (hr.below B0).at hk
  obtain ⟨b2, o2, hY, hb2, hc⟩ := ((hr.2 _ (List.getElem_mem hk)).2.below B0).row symbolC_len (by decide) hj
  have hd0 := hc 0 _ rfl
  have hd1 := hc 1 _ rfl
  have hd2 := hc 2 _ rfl
  have hd3 := hc 3 _ rfl
  simp only [Nat.add_zero] at hd0
  have HPL := hide hp
  clear hP hr hc hp HG0 B0 hc0
  subst hA
  rw [hY] at hc1
  clear hY
  generalize (os[k]).ys[j] = z at *
  generalize (os[k]).ys.length = yn at *
  generalize (os[k]).yc = ycc at *
  obtain ⟨z1, z2, z3, z4⟩ := z
  simp only at hd0 hd1 hd2 hd3
  go_enter Tryz.func73, Tryz.ntmps73
  go_wp2_with fail
  generalize (w.alloc (.cells #[.slice PA rs.length pc, .slice EA m ec] 87)).alloc (.cells #[.int .i64 k, .int .i64 j] 109) = w0 at *
  have hN : w.heap.size < w.heap.size + 1 := by omega
  generalize w.heap.size + 1 = N at *
  have g0 := HG.out.cell 0
  have g1 := HG.out.cell 1
  simp only [List.getElem?_toArray, List.getElem?_cons_zero, List.getElem?_cons_succ] at g0 g1
  have Z0 : w0.cell? ⟨N, 0, none⟩ = some (.int .i64 k) ∧ w0.cell? ⟨N, 1, none⟩ = some (.int .i64 j) ∧ w0.cell? ⟨b1, o1 + k * 2 + 1, none⟩ = some (.slice (some ⟨b2, o2, none⟩) yn ycc) ∧ w0.cell? ⟨b2, o2 + j * 4, none⟩ = some (.string z1) ∧ w0.cell? ⟨b2, o2 + j * 4 + 1, none⟩ = some (.int .i64 z2) ∧ w0.cell? ⟨b2, o2 + j * 4 + 2, none⟩ = some (.int .i64 z3) ∧ w0.cell? ⟨b2, o2 + j * 4 + 3, none⟩ = some (.int .i64 z4) := ⟨g0, g1, hc1, hd0, hd1, hd2, hd3⟩
  refine Reg.startT (fun W => W.cell? ⟨N, 0, none⟩ = some (.int .i64 k) ∧ W.cell? ⟨N, 1, none⟩ = some (.int .i64 j) ∧ W.cell? ⟨b1, o1 + k * 2 + 1, none⟩ = some (.slice (some ⟨b2, o2, none⟩) yn ycc) ∧ W.cell? ⟨b2, o2 + j * 4, none⟩ = some (.string z1) ∧ W.cell? ⟨b2, o2 + j * 4 + 1, none⟩ = some (.int .i64 z2) ∧ W.cell? ⟨b2, o2 + j * 4 + 2, none⟩ = some (.int .i64 z3) ∧ W.cell? ⟨b2, o2 + j * 4 + 3, none⟩ = some (.int .i64 z4)) (fun j => j == 11) (by kernel_rfl) ?_
  have hHeld : w0.drew.cell? ⟨N, 0, none⟩ = some (.int .i64 k) ∧ w0.drew.cell? ⟨N, 1, none⟩ = some (.int .i64 j) ∧ w0.drew.cell? ⟨b1, o1 + k * 2 + 1, none⟩ = some (.slice (some ⟨b2, o2, none⟩) yn ycc) ∧ w0.drew.cell? ⟨b2, o2 + j * 4, none⟩ = some (.string z1) ∧ w0.drew.cell? ⟨b2, o2 + j * 4 + 1, none⟩ = some (.int .i64 z2) ∧ w0.drew.cell? ⟨b2, o2 + j * 4 + 2, none⟩ = some (.int .i64 z3) ∧ w0.drew.cell? ⟨b2, o2 + j * 4 + 3, none⟩ = some (.int .i64 z4) := Z0
  clear Z0 g0 g1 hc1 hd0 hd1 hd2 hd3
  refine Reg.takeT (i := 0) (v := ?_) rfl (by kernel_rfl) (by kernel_rfl) (by kernel_rfl) (by kernel_rfl) (fun _ _ _ h => h) (Or.inl ⟨by rfl, ?_⟩) (by assumption) ?_
  rotate_left 1
  focus (intro w hSw; (try dsimp only at hSw); go_simp; (try with_reducible rfl))
  try simp only [List.getElem_toArray, List.getElem_cons_succ, List.getElem_cons_zero, Act.put, List.setIfInBounds_toArray, List.set_cons_zero, List.set_cons_succ]
  refine Reg.takeT (i := 1) (v := ?_) rfl (by kernel_rfl) (by kernel_rfl) (by kernel_rfl) (by kernel_rfl) (fun _ _ _ h => h) (Or.inl ⟨by rfl, ?_⟩) (by assumption) ?_
  rotate_left 1
  focus (intro w hSw; (try dsimp only at hSw); go_simp; (try with_reducible rfl))
  try simp only [List.getElem_toArray, List.getElem_cons_succ, List.getElem_cons_zero, Act.put, List.setIfInBounds_toArray, List.set_cons_zero, List.set_cons_succ]
  refine Reg.takeT (i := 2) (v := ?_) rfl (by kernel_rfl) (by kernel_rfl) (by kernel_rfl) (by kernel_rfl) (fun _ _ _ h => h) (Or.inl ⟨by rfl, ?_⟩) (by assumption) ?_
  rotate_left 1
  focus (intro w hSw; (try dsimp only at hSw); go_simp; (try with_reducible rfl))
  try simp only [List.getElem_toArray, List.getElem_cons_succ, List.getElem_cons_zero, Act.put, List.setIfInBounds_toArray, List.set_cons_zero, List.set_cons_succ]
  refine Reg.takeT (i := 3) (v := ?_) rfl (by kernel_rfl) (by kernel_rfl) (by kernel_rfl) (by kernel_rfl) (fun _ _ _ h => h) (Or.inl ⟨by rfl, ?_⟩) (by assumption) ?_
  rotate_left 1
  focus (intro w hSw; (try dsimp only at hSw); go_simp; (try with_reducible rfl))
  try simp only [List.getElem_toArray, List.getElem_cons_succ, List.getElem_cons_zero, Act.put, List.setIfInBounds_toArray, List.set_cons_zero, List.set_cons_succ]
  refine Reg.takeT (i := 4) (v := ?_) rfl (by kernel_rfl) (by kernel_rfl) (by kernel_rfl) (by kernel_rfl) (fun _ _ _ h => h) (Or.inl ⟨by rfl, ?_⟩) (by assumption) ?_
  rotate_left 1
  focus (intro w hSw; (try dsimp only at hSw); go_simp; (try with_reducible rfl))
  try simp only [List.getElem_toArray, List.getElem_cons_succ, List.getElem_cons_zero, Act.put, List.setIfInBounds_toArray, List.set_cons_zero, List.set_cons_succ]
  refine Reg.takeT (i := 5) (v := ?_) rfl (by kernel_rfl) (by kernel_rfl) (by kernel_rfl) (by kernel_rfl) (fun _ _ _ h => h) (Or.inl ⟨by rfl, ?_⟩) (by assumption) ?_
  rotate_left 1
  focus (intro w hSw; (try dsimp only at hSw); go_simp; (try with_reducible rfl))
  try simp only [List.getElem_toArray, List.getElem_cons_succ, List.getElem_cons_zero, Act.put, List.setIfInBounds_toArray, List.set_cons_zero, List.set_cons_succ]
  refine Reg.takeT (i := 6) (v := ?_) rfl (by kernel_rfl) (by kernel_rfl) (by kernel_rfl) (by kernel_rfl) (fun _ _ _ h => h) (Or.inl ⟨by rfl, ?_⟩) (by assumption) ?_
  rotate_left 1
  focus (intro w hSw; (try dsimp only at hSw); go_simp; (try with_reducible rfl))
  try simp only [List.getElem_toArray, List.getElem_cons_succ, List.getElem_cons_zero, Act.put, List.setIfInBounds_toArray, List.set_cons_zero, List.set_cons_succ]
  refine Reg.takeT (i := 7) (v := ?_) rfl (by kernel_rfl) (by kernel_rfl) (by kernel_rfl) (by kernel_rfl) (fun _ _ _ h => h) (Or.inl ⟨by rfl, ?_⟩) (by assumption) ?_
  rotate_left 1
  focus (intro w hSw; (try dsimp only at hSw); go_simp; (try with_reducible rfl))
  try simp only [List.getElem_toArray, List.getElem_cons_succ, List.getElem_cons_zero, Act.put, List.setIfInBounds_toArray, List.set_cons_zero, List.set_cons_succ]
  refine Reg.takeT (i := 8) (v := ?_) rfl (by kernel_rfl) (by kernel_rfl) (by kernel_rfl) (by kernel_rfl) (fun _ _ _ h => h) (Or.inl ⟨by rfl, ?_⟩) (by assumption) ?_
  rotate_left 1
  focus (intro w hSw; (try dsimp only at hSw); go_simp; (try with_reducible rfl))
  try simp only [List.getElem_toArray, List.getElem_cons_succ, List.getElem_cons_zero, Act.put, List.setIfInBounds_toArray, List.set_cons_zero, List.set_cons_succ]
  refine Reg.takeT (i := 9) (v := ?_) rfl (by kernel_rfl) (by kernel_rfl) (by kernel_rfl) (by kernel_rfl) (fun _ _ _ h => h) (Or.inl ⟨by rfl, ?_⟩) (by assumption) ?_
  rotate_left 1
  focus (intro w hSw; (try dsimp only at hSw); go_simp; (try with_reducible rfl))
  try simp only [List.getElem_toArray, List.getElem_cons_succ, List.getElem_cons_zero, Act.put, List.setIfInBounds_toArray, List.set_cons_zero, List.set_cons_succ]
  have bd : Below w0.heap.size w0 w0.drew := below_dr (Below.refl _ _)
  replace HRP := hide (HRP.out.below (bd.mono HB.out.size))
  replace HB := hide (HB.out.trans (bd.mono HB.out.size))
  replace HL := hide (HL.out.call bd)
  replace HG := hide (HG.out.call bd)
  clear bd
  generalize w0.drew = w1 at *
  refine Reg.oneT (i := 10) rfl (by kernel_rfl) (fun K hK => ?_)
  go_simp
  have ba : Below w1.heap.size w1 (w1.alloc (.cells #[.string ⟨#[]⟩, .int .i64 0, .int .i64 0, .int .i64 0] 69)) := (by repeat (first | exact Below.refl _ _ | with_reducible assumption | (refine Below.drew ?_) | (refine Below.drewN ?_ _) | (refine Below.alloc ?_ (by simp; try omega) _) | (refine Below.setCell ?_ (by simp; try omega) _)))
  have HZ := hide (Box.new w1 69 #[.string ⟨#[]⟩, .int .i64 0, .int .i64 0, .int .i64 0])
  have hls : w.heap.size ≤ w1.heap.size := HB.out.size
  have hNw : N < w1.heap.size := HG.out.lt
  replace hHeld := And.intro ((ba.cell (p := ⟨N, 0, none⟩) hNw).trans hHeld.1) (And.intro ((ba.cell (p := ⟨N, 1, none⟩) hNw).trans hHeld.2.1) (And.intro ((ba.cell (p := ⟨b1, o1 + k * 2 + 1, none⟩) (show b1 < w1.heap.size by omega)).trans hHeld.2.2.1) (And.intro ((ba.cell (p := ⟨b2, o2 + j * 4, none⟩) (show b2 < w1.heap.size by omega)).trans hHeld.2.2.2.1) (And.intro ((ba.cell (p := ⟨b2, o2 + j * 4 + 1, none⟩) (show b2 < w1.heap.size by omega)).trans hHeld.2.2.2.2.1) (And.intro ((ba.cell (p := ⟨b2, o2 + j * 4 + 2, none⟩) (show b2 < w1.heap.size by omega)).trans hHeld.2.2.2.2.2.1) ((ba.cell (p := ⟨b2, o2 + j * 4 + 3, none⟩) (show b2 < w1.heap.size by omega)).trans hHeld.2.2.2.2.2.2))))))
  refine hK.out _ _ hHeld ?_
  clear hK K
  try simp only [List.getElem_toArray, List.getElem_cons_succ, List.getElem_cons_zero, Act.put, List.setIfInBounds_toArray, List.set_cons_zero, List.set_cons_succ]
  replace HRP := hide (HRP.out.below (ba.mono hls))
  replace HB := hide (HB.out.trans (ba.mono HB.out.size))
  replace HL := hide (HL.out.call ba)
  replace HG := hide (HG.out.call ba)
  clear ba
  generalize w1.alloc (.cells #[.string ⟨#[]⟩, .int .i64 0, .int .i64 0, .int .i64 0] 69) = w2 at *
  generalize w1.heap.size = Z at *
  clear hHeld
  have y0 := HZ.out.cell 0
  have y1 := HZ.out.cell 1
  have y2 := HZ.out.cell 2
  have y3 := HZ.out.cell 3
  simp only [List.getElem?_toArray, List.getElem?_cons_zero, List.getElem?_cons_succ] at y0 y1 y2 y3
  have yf0 := HZ.out.frozen 0
  have yf1 := HZ.out.frozen 1
  have yf2 := HZ.out.frozen 2
  have yf3 := HZ.out.frozen 3
  have hzl := HZ.out.lt
  refine Reg.lastT (i := 11) rfl (by kernel_rfl) (by rfl) (fun K hK => ?_)
  go_simp
  refine hK.out _ _ ?_
  clear hK K
  try simp only [List.getElem_toArray, List.getElem_cons_succ, List.getElem_cons_zero, Act.put, List.setIfInBounds_toArray, List.set_cons_zero, List.set_cons_succ]
  refine Reg.doneT (by kernel_rfl) ?_ _
  generalize hW : (((w2.setCell ⟨Z, 0, none⟩ (.string z1)).setCell ⟨Z, 1, none⟩ (.int .i64 z2)).setCell ⟨Z, 2, none⟩ (.int .i64 z3)).setCell ⟨Z, 3, none⟩ (.int .i64 z4) = w3 at *
  have HZ3 := hide (show Box w3 Z 69 #[.string z1, .int .i64 z2, .int .i64 z3, .int .i64 z4] from by
    rw [← hW]
    exact (((HZ.out.set 0 _).set 1 _).set 2 _).set 3 _)
  have bz : Below Z w2 w3 := by
    rw [← hW]
    exact ((((Below.refl _ _).setCell (p := ⟨Z, 0, none⟩) (Nat.le_refl _) _).setCell (p := ⟨Z, 1, none⟩) (Nat.le_refl _) _).setCell (p := ⟨Z, 2, none⟩) (Nat.le_refl _) _).setCell (p := ⟨Z, 3, none⟩) (Nat.le_refl _) _
  have HB3 := hide (HB.out.trans (bz.mono hls))
  have HRP3 := hide (HRP.out.below (bz.mono hls))
  have HL3 := hide (show Box w3 w.heap.size 87 #[.slice PA rs.length pc, .slice EA m ec] from (bz.block _ (show w.heap.size < Z by omega)).trans HL.out)
  have HG3 := hide (show Box w3 N 109 #[.int .i64 k, .int .i64 j] from (bz.block _ hNw).trans HG.out)
  clear hW bz HZ HB HRP HL HG y0 y1 y2 y3 yf0 yf1 yf2 yf3 hzl
  have y2 := HZ3.out.cell 2
  have y3 := HZ3.out.cell 3
  simp only [List.getElem?_toArray, List.getElem?_cons_zero, List.getElem?_cons_succ] at y2 y3
  have hzl := HZ3.out.lt
  by_cases hz : z3 = -2
  · have e1 : (z3 == -2) = true := beq_iff_eq.2 hz
    have HV := hide (show tgY (rs.map RV.zs) k (z1, z2, z3, z4) = z4 from if_pos hz)
    clear hz
    go_wp2_with fail
    go_ret
    exact ⟨by rw [HV.out]; rfl, HB3.out⟩
  · have e1 : (z3 == -2) = false := beq_eq_false_iff_ne.2 hz
    obtain ⟨hp1, hp2, hp3⟩ := HPL.out
    simp only at hp1 hp2 hp3
    obtain ⟨h0, hkr, hir, hlo, hhi⟩ := hp1.resolve_left hz
    have HV := hide (show tgY (rs.map RV.zs) k (z1, z2, z3, z4) = (rs[k]).zs[z3.toNat] + z4 from by
      unfold tgY
      rw [if_neg hz, getP_at hkr hir])
    obtain ⟨b5, o5, hPA, hb5, hrow⟩ := HRP3.out.at hkr
    obtain ⟨b6, o6, hRA, hb6, hcell⟩ := (HRP3.out.2 _ (List.getElem_mem hkr)).int hir
    have HL4 := HL3.out.cell 0
    simp only [List.getElem?_toArray, List.getElem?_cons_zero] at HL4
    rw [hPA] at HL4
    rw [hRA] at hrow
    obtain ⟨i, hi⟩ : ∃ i : Nat, z3 = (i : Int) := ⟨z3.toNat, by omega⟩
    subst hi
    simp only [Int.toNat_natCast] at hir hlo hhi HV hcell
    generalize (rs[k]).zs[i] = p at *
    generalize (rs[k]).zs.length = rn at *
    generalize (rs[k]).c = rc at *
    have hll := HL3.out.lt
    have g0 := HG3.out.cell 0
    simp only [List.getElem?_toArray, List.getElem?_cons_zero, List.getElem?_cons_succ] at g0
    have hgl := HG3.out.lt
    have hwr : IntKind.i64.wrap (p + z4) = p + z4 := IntWalk.i64_in _ (by omega)
    clear hz hp1 HPL hRA hPA HRP3 h0
    go_wp2_with fail
    go_quiet (fail)
    go_wp2_with fail
    go_ret
    exact ⟨by rw [HV.out]; rfl, Kit.Below.drewN HB3.out _⟩
end Go.Proofs.YtmglgjchemecjaaGreat.CPlaceL
/- symbolPlace: the place that a symbol means. -/
namespace Go.Proofs.YtmglgjchemecjaaGreat.CSymPl
set_option maxRecDepth 200000
open Go.ChangeShapes Go.WideShapes Go.ChangeAt Go.RowKit Kit PWarn CCode CName CFixups CSymbols PObj BObj PValid CGlobalOf CObjValid BStore BList PLink CFind CPlaceL
def AllPl (rs : List RV) (os : List OV) : Prop := ∀ (k : Nat) (hk : k < os.length) (j : Nat) (hj : j < (os[k]).ys.length), ((os[k]).ys[j].2.2.1 = -1 → ¬ (os[k]).ys[j].2.1 = 0) ∧ (¬ (os[k]).ys[j].2.2.1 = -1 → PlOk rs k (os[k]).ys[j])
theorem sym_at (os : List OV) {k j : Nat} (hk : k < os.length) (hj : j < (os[k]).ys.length) : symAtL (os.map OV.d) (k, j) = (os[k]).ys[j] := by
  unfold symAtL
  rw [List.getD_eq_getElem?_getD (l := os.map OV.d), List.getElem?_map, List.getElem?_eq_getElem hk]
  simp only [Option.map_some, Option.getD_some, OV.d]
  exact getD_at hj _
def RetP (v : Int) (w : World) (e : Ending) (w' : World) : Prop := ∃ b : Bool, e = .returned (.tuple #[.int .i64 v, .bool b]) ∧ Below w.heap.size w w'
set_option maxHeartbeats 4000000 in
theorem symbolPlace_any (PA : Option Addr) (rs : List RV) (pc : Nat) (EA : Option Addr) (m ec : Nat) (A : Option Addr) (os : List OV) (c k j : Nat) (w : World) (hP : RdRs w w.heap.size PA rs) (hr : RdOs w w.heap.size A os)
    (hk : k < os.length) (hj : j < (os[k]).ys.length) (hm : Lens os) (hp : AllPl rs os) :
    Calls Tryz.prog 59 #[.agg #[.slice PA rs.length pc, .slice EA m ec], .slice A os.length c, .int .i64 k, .int .i64 j] w (RetP (symPl (os.map OV.d) (rs.map RV.zs) k j) w) := by
  have hm1 := hm.1
  have hm2 := hm.2 _ (List.getElem_mem hk)
  have HM := hide hm
  have HPL := hide hp
  have HV := hide (show symPl (os.map OV.d) (rs.map RV.zs) k j = if (os[k]).ys[j].2.1 = 0 then tgY (rs.map RV.zs) k (os[k]).ys[j] else tgO (os.map OV.d) (rs.map RV.zs) (findN (os.map OV.d) (os[k]).ys[j].1) from by
    unfold symPl tgG
    rw [sym_at os hk hj])
  have B0 : Below w.heap.size w (w.alloc (.cells #[.slice PA rs.length pc, .slice EA m ec] 87)) := (by repeat (first | exact Below.refl _ _ | with_reducible assumption | (refine Below.drew ?_) | (refine Below.drewN ?_ _) | (refine Below.alloc ?_ (by simp; try omega) _) | (refine Below.setCell ?_ (by simp; try omega) _)))
  have HL := hide (Box.new w 87 #[.slice PA rs.length pc, .slice EA m ec])
  have HB := hide B0
  have HRP := hide (hP.below B0)
  have HRO := hide (hr.below B0)
  obtain ⟨b1, o1, hA, hb1, hc0, hc1⟩ := (hr.below B0).at hk
  obtain ⟨b2, o2, hY, hb2, hc⟩ := ((hr.2 _ (List.getElem_mem hk)).2.below B0).row symbolC_len (by decide) hj
  have hd0 := hc 0 _ rfl
  have hd1 := hc 1 _ rfl
  have hd2 := hc 2 _ rfl
  have hd3 := hc 3 _ rfl
  simp only [Nat.add_zero] at hd0
  have HQ := hide (hp k hk j hj).1
  have HPC := hide (fun (W : World) (hb : Below w.heap.size w W) (hw : ¬ (os[k]).ys[j].2.2.1 = -1) => placeOf_any PA rs pc EA m ec A os c k j W ((hP.below hb).more hb.size) ((hr.below hb).more hb.size) hk hj ⟨hm1, hm2⟩ ((hp k hk j hj).2 hw))
  have HPG := hide (fun (W : World) (hb : Below w.heap.size w W) (g : G) (hg : findN (os.map OV.d) (os[k]).ys[j].1 = some g) => show Calls Tryz.prog 73 #[.agg #[.slice PA rs.length pc, .slice EA m ec], .slice A os.length c, .agg #[.int .i64 g.1, .int .i64 g.2]] W (Ret (.int .i64 (tgG (os.map OV.d) (rs.map RV.zs) g)) W) from by
    obtain ⟨h1, h2, h3⟩ := find_ok hg
    rw [List.length_map] at h1
    have e1 : (os.map OV.d).getD g.1 ⟨[], []⟩ = (os[g.1]).d := by
      rw [List.getD_eq_getElem?_getD, List.getElem?_map, List.getElem?_eq_getElem h1]
      rfl
    rw [e1] at h2 h3
    have h2' : g.2 < (os[g.1]).ys.length := h2
    have e2 : (os[g.1]).d.ys.getD g.2 dY = (os[g.1]).ys[g.2] := getD_at h2' _
    rw [e2] at h3
    have h := placeOf_any PA rs pc EA m ec A os c g.1 g.2 W ((hP.below hb).more hb.size) ((hr.below hb).more hb.size) h1 h2' ⟨hm1, hm.2 _ (List.getElem_mem h1)⟩ ((hp g.1 h1 g.2 h2').2 h3)
    unfold tgG
    rw [show symAtL (os.map OV.d) g = (os[g.1]).ys[g.2] from sym_at os h1 h2']
    exact h)
  clear hP hr hc hp B0 hc0 hm
  subst hA
  rw [hY] at hc1
  clear hY
  generalize (os[k]).ys[j] = z at *
  generalize (os[k]).ys.length = yn at *
  generalize (os[k]).yc = ycc at *
  obtain ⟨z1, z2, z3, z4⟩ := z
  simp only at hd0 hd1 hd2 hd3 HV HQ HPC HPG
  go_enter Tryz.func59, Tryz.ntmps59
  have B1 : Below (w.alloc (.cells #[.slice PA rs.length pc, .slice EA m ec] 87)).heap.size (w.alloc (.cells #[.slice PA rs.length pc, .slice EA m ec] 87)) ((w.alloc (.cells #[.slice PA rs.length pc, .slice EA m ec] 87)).alloc (.cells #[.string z1, .int .i64 z2, .int .i64 z3, .int .i64 z4] 69)) := (by repeat (first | exact Below.refl _ _ | with_reducible assumption | (refine Below.drew ?_) | (refine Below.drewN ?_ _) | (refine Below.alloc ?_ (by simp; try omega) _) | (refine Below.setCell ?_ (by simp; try omega) _)))
  have HZ0 := Box.new (w.alloc (.cells #[.slice PA rs.length pc, .slice EA m ec] 87)) 69 #[.string z1, .int .i64 z2, .int .i64 z3, .int .i64 z4]
  simp only [World.size_alloc] at HZ0
  have HZ := hide HZ0
  replace HRP := hide (HRP.out.below (B1.mono HB.out.size))
  replace HRO := hide (HRO.out.below (B1.mono HB.out.size))
  replace HB := hide (HB.out.trans (B1.mono HB.out.size))
  replace HL := hide (HL.out.call B1)
  clear B1
  clear HZ0
  cases q : (z2 == 0)
  · have hz2 : ¬ z2 = 0 := by simpa using q
    have HV2 := hide (show symPl (os.map OV.d) (rs.map RV.zs) k j = tgO (os.map OV.d) (rs.map RV.zs) (findN (os.map OV.d) z1) from by rw [HV.out, if_neg hz2])
    clear hz2 HV HPC
    go_wp2_with fail
    clear hc1 hd0 hd1 hd2 hd3 q
    generalize (w.alloc (.cells #[.slice PA rs.length pc, .slice EA m ec] 87)).alloc (.cells #[.string z1, .int .i64 z2, .int .i64 z3, .int .i64 z4] 69) = w1 at *
    refine (findName_any (some ⟨b1, o1, none⟩) os c z1 w1 (HRO.out.more HB.out.size) HM.out).mono ?_
    rintro e w2 ⟨rfl, b2⟩
    replace HB := hide (HB.out.trans (b2.mono HB.out.size))
    replace HL := hide (HL.out.call b2)
    replace HZ := hide (HZ.out.call b2)
    clear b2
    generalize hr0 : findN (os.map OV.d) z1 = r at *
    clear hr0
    simp only [givV]
    cases r with
    | none =>
      have bg : Below w2.heap.size w2 (w2.alloc (.cells #[.int .i64 0, .int .i64 0] 109)) := (by repeat (first | exact Below.refl _ _ | with_reducible assumption | (refine Below.drew ?_) | (refine Below.drewN ?_ _) | (refine Below.alloc ?_ (by simp; try omega) _) | (refine Below.setCell ?_ (by simp; try omega) _)))
      have HBG := hide (HB.out.trans (bg.mono HB.out.size))
      have HZG := hide (HZ.out.call bg)
      have y1 := HZG.out.cell 1
      simp only [List.getElem?_toArray, List.getElem?_cons_zero, List.getElem?_cons_succ] at y1
      have hzl := HZG.out.lt
      simp only [gin, gat, Option.isSome]
      clear bg
      go_wp2_with fail
      go_quiet (fail)
      go_wp2_with fail
      go_ret2
      exact ⟨_, by rw [HV2.out]; rfl, Kit.Below.drewN HBG.out _⟩
    | some g =>
      simp only [gin, gat, Option.isSome]
      have bg : Below w2.heap.size w2 (w2.alloc (.cells #[.int .i64 g.1, .int .i64 g.2] 109)) := (by repeat (first | exact Below.refl _ _ | with_reducible assumption | (refine Below.drew ?_) | (refine Below.drewN ?_ _) | (refine Below.alloc ?_ (by simp; try omega) _) | (refine Below.setCell ?_ (by simp; try omega) _)))
      have HLG := hide (HL.out.call bg)
      have HGG := hide (Box.new w2 109 #[.int .i64 g.1, .int .i64 g.2])
      replace HB := hide (HB.out.trans (bg.mono HB.out.size))
      clear bg
      clear HL HZ
      have y0 := HLG.out.cell 0
      have y1 := HLG.out.cell 1
      simp only [List.getElem?_toArray, List.getElem?_cons_zero, List.getElem?_cons_succ] at y0 y1
      have g0 := HGG.out.cell 0
      have g1 := HGG.out.cell 1
      simp only [List.getElem?_toArray, List.getElem?_cons_zero, List.getElem?_cons_succ] at g0 g1
      have hll := HLG.out.lt
      have hgl := HGG.out.lt
      go_wp2_with fail
      clear y0 y1 g0 g1 hll hgl HLG HGG
      generalize w2.alloc (.cells #[.int .i64 g.1, .int .i64 g.2] 109) = w3 at *
      refine (HPG.out w3 HB.out g rfl).mono ?_
      rintro e w4 ⟨rfl, b4⟩
      replace HB := hide (HB.out.trans (b4.mono HB.out.size))
      clear b4
      generalize hv : tgG (os.map OV.d) (rs.map RV.zs) g = v at *
      have HW := hide hv
      clear hv
      go_wp2_with fail
      go_ret2
      exact ⟨true, by rw [HV2.out]; show _ = Ending.returned (.tuple #[.int .i64 (tgG _ _ g), _]); rw [HW.out]; rfl, HB.out⟩
  · have hz2 : z2 = 0 := by simpa using q
    have HV2 := hide (show symPl (os.map OV.d) (rs.map RV.zs) k j = tgY (rs.map RV.zs) k (z1, z2, z3, z4) from by rw [HV.out, if_pos hz2])
    have hz3 : ¬ z3 = -1 := fun e => HQ.out e hz2
    have HPD := hide (fun (W : World) (hb : Below w.heap.size w W) => HPC.out W hb hz3)
    clear hz2 hz3 HV HPC HPG HQ
    have y0 := HL.out.cell 0
    have y1 := HL.out.cell 1
    simp only [List.getElem?_toArray, List.getElem?_cons_zero, List.getElem?_cons_succ] at y0 y1
    have hll := HL.out.lt
    go_wp2_with fail
    clear hc1 hd0 hd1 hd2 hd3 q y0 y1 hll
    refine (HPD.out _ HB.out).mono ?_
    rintro e w4 ⟨rfl, b4⟩
    have HB4 := hide (HB.out.trans (b4.mono HB.out.size))
    clear b4
    generalize hv : tgY (rs.map RV.zs) k (z1, z2, z3, z4) = v at *
    have HW := hide hv
    clear hv HB HL HZ HRP HRO HPD
    go_wp2_with fail
    go_ret2
    exact ⟨true, by rw [HV2.out]; rfl, HB4.out⟩
end Go.Proofs.YtmglgjchemecjaaGreat.CSymPl
/- FixupValue: what a fixup gets. -/
namespace Go.Proofs.YtmglgjchemecjaaGreat.CFixVal
set_option maxRecDepth 200000
open Go.ChangeShapes Go.WideShapes Go.ChangeAt Go.RowKit Kit CCode PValid CSecValid PLink
def fvV (r : Option Int) : Value := .tuple #[.int .i64 (r.getD 0), .bool r.isSome]
theorem fix_out {kind place target add : Int} (h : ¬ (inB place 0 100000 = true ∧ inB target 0 100000 = true ∧ inB add (-1000) 1000 = true)) : fixVal kind place target add = none := if_neg h
theorem and255 : ∀ m : Fin 256, bits BinOp.and IntKind.i64 ((m.val : Int) - 128) 255 = ((m.val : Int) - 128) % 256 := by decide +kernel
theorem and_mod {n : Int} (h : -128 ≤ n ∧ n ≤ 127) : bits BinOp.and IntKind.i64 n 255 = n % 256 := by
  obtain ⟨m, hm⟩ : ∃ m : Nat, n = (m : Int) - 128 := ⟨(n + 128).toNat, by omega⟩
  subst hm
  exact and255 ⟨m, by omega⟩
set_option maxHeartbeats 4000000 in
theorem fixupValue_any (kind place target add : Int) (w : World) : Calls Tryz.prog 120 #[.int .i64 kind, .int .i64 place, .int .i64 target, .int .i64 add] w (Pure (fvV (fixVal kind place target add)) w) := by
  cases hp : inB place 0 100000
  · have HV := hide (fix_out (kind := kind) (place := place) (target := target) (add := add) (by rw [hp]; simp))
    go_enter Tryz.func120, Tryz.ntmps120
    go_wp2_with fail
    refine (within_any _ _ _ _).mono ?_
    rintro e w' ⟨rfl, rfl⟩
    rw [hp]
    go_wp2_with fail
    go_ret2
    exact ⟨by rw [HV.out]; rfl, rfl⟩
  cases ht : inB target 0 100000
  · have HV := hide (fix_out (kind := kind) (place := place) (target := target) (add := add) (by rw [ht]; simp))
    go_enter Tryz.func120, Tryz.ntmps120
    go_wp2_with fail
    refine (within_any _ _ _ _).mono ?_
    rintro e w' ⟨rfl, rfl⟩
    rw [hp]
    go_wp2_with fail
    refine (within_any _ _ _ _).mono ?_
    rintro e w' ⟨rfl, rfl⟩
    rw [ht]
    go_wp2_with fail
    go_ret2
    exact ⟨by rw [HV.out]; rfl, rfl⟩
  cases ha : inB add (-1000) 1000
  · have HV := hide (fix_out (kind := kind) (place := place) (target := target) (add := add) (by rw [ha]; simp))
    go_enter Tryz.func120, Tryz.ntmps120
    go_wp2_with fail
    refine (within_any _ _ _ _).mono ?_
    rintro e w' ⟨rfl, rfl⟩
    rw [hp]
    go_wp2_with fail
    refine (within_any _ _ _ _).mono ?_
    rintro e w' ⟨rfl, rfl⟩
    rw [ht]
    go_wp2_with fail
    refine (isAdd_any _ _).mono ?_
    rintro e w' ⟨rfl, rfl⟩
    rw [ha]
    go_wp2_with fail
    go_ret2
    exact ⟨by rw [HV.out]; rfl, rfl⟩
  have HH := hide (And.intro hp (And.intro ht ha))
  have hp1 : 0 ≤ place ∧ place ≤ 100000 := by simpa [inB] using hp
  have ht1 : 0 ≤ target ∧ target ≤ 100000 := by simpa [inB] using ht
  have ha1 : -1000 ≤ add ∧ add ≤ 1000 := by simpa [inB] using ha
  obtain ⟨p1, p2⟩ := hp1
  obtain ⟨t1, t2⟩ := ht1
  obtain ⟨a1, a2⟩ := ha1
  have HV := hide (show fixVal kind place target add = (if kind = 2 then (if inB (target + add) 0 65535 = true then some (target + add) else none) else if kind = 3 then (if 0 ≤ target + add then some (target + add) else none) else if kind = 1 then (if inB (near place (target + add)) (-128) 127 = true then some (near place (target + add) % 256) else none) else none) from if_pos HH.out)
  have hwr : IntKind.i64.wrap (target + add) = target + add := IntWalk.i64_in _ (by omega)
  have hwp : IntKind.i64.wrap (place + 1) = place + 1 := IntWalk.i64_in _ (by omega)
  go_enter Tryz.func120, Tryz.ntmps120
  go_wp2_with fail
  refine (within_any _ _ _ _).mono ?_
  rintro e w' ⟨rfl, rfl⟩
  rw [hp]
  go_wp2_with fail
  refine (within_any _ _ _ _).mono ?_
  rintro e w' ⟨rfl, rfl⟩
  rw [ht]
  go_wp2_with fail
  refine (isAdd_any _ _).mono ?_
  rintro e w' ⟨rfl, rfl⟩
  rw [ha]
  clear hp ht ha
  by_cases k2 : kind = 2
  · have e2 : (kind == 2) = true := beq_iff_eq.2 k2
    rw [if_pos k2] at HV
    clear k2
    generalize hv : target + add = v at *
    go_wp2_with fail
    refine (within_any _ _ _ _).mono ?_
    rintro e w' ⟨rfl, rfl⟩
    cases hc : inB v 0 65535
    · have HV2 := hide (HV.out.trans (by rw [hc]; rfl : _ = none))
      clear HV hc
      go_wp2_with fail
      go_ret2
      exact ⟨by rw [HV2.out]; rfl, rfl⟩
    · have HV2 := hide (HV.out.trans (by rw [hc]; rfl : _ = some v))
      clear HV hc
      go_wp2_with fail
      go_ret2
      exact ⟨by rw [HV2.out]; rfl, rfl⟩
  rw [if_neg k2] at HV
  have e2 : (kind == 2) = false := beq_eq_false_iff_ne.2 k2
  by_cases k3 : kind = 3
  · have e3 : (kind == 3) = true := beq_iff_eq.2 k3
    rw [if_pos k3] at HV
    clear k2 k3
    generalize hv : target + add = v at *
    by_cases hc : 0 ≤ v
    · rw [if_pos hc] at HV
      have ec : decide (0 ≤ v) = true := decide_eq_true hc
      clear hc
      go_wp2_with fail
      go_ret2
      exact ⟨by rw [HV.out]; rfl, rfl⟩
    · rw [if_neg hc] at HV
      have ec : decide (0 ≤ v) = false := decide_eq_false hc
      clear hc
      go_wp2_with fail
      go_ret2
      exact ⟨by rw [HV.out]; rfl, rfl⟩
  rw [if_neg k3] at HV
  have e3 : (kind == 3) = false := beq_eq_false_iff_ne.2 k3
  by_cases k1 : kind = 1
  · have e1 : (kind == 1) = true := beq_iff_eq.2 k1
    rw [if_pos k1] at HV
    clear k1 k2 k3
    have hwn : IntKind.i64.wrap (target + add - (place + 1)) = near place (target + add) := IntWalk.i64_in _ (by omega)
    generalize hn : near place (target + add) = n at *
    clear hn
    go_wp2_with fail
    refine (within_any _ _ _ _).mono ?_
    rintro e w' ⟨rfl, rfl⟩
    cases hc : inB n (-128) 127
    · have HV2 := hide (HV.out.trans (by rw [hc]; rfl : _ = none))
      clear HV hc
      go_wp2_with fail
      go_ret2
      exact ⟨by rw [HV2.out]; rfl, rfl⟩
    · have HV2 := hide (HV.out.trans (by rw [hc]; rfl : _ = some (n % 256)))
      have hn : -128 ≤ n ∧ n ≤ 127 := by simpa [inB] using hc
      clear HV hc
      go_wp2_with fail
      go_ret2
      refine ⟨?_, rfl⟩
      rw [HV2.out]
      show Ending.returned (.tuple #[.int .i64 (bits BinOp.and IntKind.i64 n 255), .bool true]) = _
      rw [and_mod hn]
      rfl
  · rw [if_neg k1] at HV
    have e1 : (kind == 1) = false := beq_eq_false_iff_ne.2 k1
    clear k1 k2 k3
    go_wp2_with fail
    go_ret2
    exact ⟨by rw [HV.out]; rfl, rfl⟩
end Go.Proofs.YtmglgjchemecjaaGreat.CFixVal
/- Bytes copied into a row of one's own. -/
namespace Go.Proofs.YtmglgjchemecjaaGreat.BCopy
set_option maxRecDepth 200000
open Go.ChangeShapes Go.WideShapes Go.ChangeAt Go.RowKit Kit PLink
theorem step_copy_row {P : Program} {ops : Array Oper} {o : Oper} {a : Act} {w : World} {K : Act → World → Prop} {Q : Exit → Act → World → Prop} {E : Prop} (hgd : o.guard = none) (d s : Operand) (dT sT : TypeId)
    (ho : o.op = .call { callee := .builtin .copy, args := #[d, s], argTypes := #[dT, sT] }) (elem : TypeId) (hu : P.underlying dT = some (.slice elem)) (hsz : (P.info? elem).map (·.size) = some 1)
    (g off dLen dCap : Nat) (ad : Addr) (sLen sCap : Nat) (hd : a.eval d = .slice (some ⟨g, off, none⟩) dLen dCap) (hs : a.eval s = .slice (some ad) sLen sCap)
    (cur : List Value) (t : TypeId) (hg : w.heap[g]? = some (.cells cur.toArray t (0, 0))) (cs : List Value) (hn : cs.length = Nat.min sLen dLen)
    (hsrc : ∀ j v, cs[j]? = some v → w.cell? (ad.add j) = some v) (hfit : off + cs.length ≤ cur.length) (h1 : ∀ v ∈ cs, v.oneCell' = true)
    (h : K (a.put o.dst (goInt cs.length)) (w.setRow g (Go.splice cur off cs).toArray)) :
    if Region.wanted o (yielded ops a.tmps) = true then Oper.wp P o a w K Q else E := by
  have hw : Region.wanted o (yielded ops a.tmps) = true := by simp [Region.wanted, hgd]
  rw [if_pos hw]
  have hrun := run_copy_row (P := P) w dT sT o.type elem g off dLen dCap ad sLen sCap cur.toArray t cs hu hsz hg hn hsrc (by simpa using hfit) h1
  unfold Oper.wp
  simp [execOp, ho, resolve, invoke, builtin, hd, hs, hrun, Result.andThen]
  exact (show K _ _ from by simpa [Go.splice] using h)
theorem run_copy_zero {P : Program} (w : World) (dT sT ty elem : TypeId) (dA sA : Option Addr) (dLen dCap sLen sCap : Nat) (hu : P.underlying dT = some (.slice elem)) (hs : ((P.info? elem).map (·.size)).isSome = true) (h0 : Nat.min sLen dLen = 0) :
    (Builtin.copy_ #[dT, sT] ty #[.slice dA dLen dCap, .slice sA sLen sCap]).run P w = .ok (goInt 0) w := by
  cases hq : P.info? elem with
  | none => simp [hq] at hs
  | some i => cases dA <;> cases sA <;> simp [Builtin.copy_, run_underlying hu, Builtin.lenOf, Builtin.firstCells, sizeOf, typeInfo, hq, h0, storeCells, loadCells, loadCellsFrom]
theorem wpList_copy0 {P : Program} {w : World} {ops : Array Oper} {rest : List Oper} {o : Oper} {a : Act} {Q : Exit → Act → World → Prop} (hgd : o.guard = none) (d s : Operand) (dT sT : TypeId)
    (ho : o.op = .call { callee := .builtin .copy, args := #[d, s], argTypes := #[dT, sT] }) (elem : TypeId) (hu : P.underlying dT = some (.slice elem)) (hsz : ((P.info? elem).map (·.size)).isSome = true)
    {dA sA : Option Addr} {dLen dCap sLen sCap : Nat} (hd : a.eval d = .slice dA dLen dCap) (hs : a.eval s = .slice sA sLen sCap) (h0 : Nat.min sLen dLen = 0)
    (h : wpList P ops Q rest (a.put o.dst (goInt 0)) w) : wpList P ops Q (o :: rest) a w :=
  wpList_plain hgd fun K hK => by
    have hrun := run_copy_zero (P := P) w dT sT o.type elem dA sA dLen dCap sLen sCap hu hsz h0
    unfold Oper.wp
    simp [execOp, ho, resolve, invoke, builtin, hd, hs, hrun, Result.andThen]
    exact hK _ _ h
theorem wpList_copyR {P : Program} {w : World} {ops : Array Oper} {rest : List Oper} {o : Oper} {a : Act} {Q : Exit → Act → World → Prop} (hgd : o.guard = none) (d s : Operand) (dT sT : TypeId)
    (ho : o.op = .call { callee := .builtin .copy, args := #[d, s], argTypes := #[dT, sT] }) (elem : TypeId) (hu : P.underlying dT = some (.slice elem)) (hsz : (P.info? elem).map (·.size) = some 1)
    (g off dLen dCap : Nat) (ad : Addr) (sLen sCap : Nat) (hd : a.eval d = .slice (some ⟨g, off, none⟩) dLen dCap) (hs : a.eval s = .slice (some ad) sLen sCap)
    (cur : List Value) (t : TypeId) (hg : w.heap[g]? = some (.cells cur.toArray t (0, 0))) (cs : List Value) (hn : cs.length = Nat.min sLen dLen)
    (hsrc : ∀ j v, cs[j]? = some v → w.cell? (ad.add j) = some v) (hfit : off + cs.length ≤ cur.length) (h1 : ∀ v ∈ cs, v.oneCell' = true)
    (h : wpList P ops Q rest (a.put o.dst (goInt cs.length)) (w.setRow g (Go.splice cur off cs).toArray)) : wpList P ops Q (o :: rest) a w :=
  wpList_plain hgd fun K hK => by
    have hrun := run_copy_row (P := P) w dT sT o.type elem g off dLen dCap ad sLen sCap cur.toArray t cs hu hsz hg hn hsrc (by simpa using hfit) h1
    unfold Oper.wp
    simp [execOp, ho, resolve, invoke, builtin, hd, hs, hrun, Result.andThen]
    exact hK _ _ (by simpa [Go.splice] using h)
theorem box_setRow {w : World} {Y g : Nat} {t : TypeId} {cs : Array Value} {cur : List Value} (h : Box w Y t cs) (hg : w.heap[g]? = some (.cells cur.toArray 5 (0, 0))) (ht : t ≠ 5) (x : Array Value) : Box (w.setRow g x) Y t cs := by
  have hne : Y ≠ g := by
    intro e
    subst e
    have := hg.symm.trans h
    simp at this
    exact ht this.2.symm
  exact (setRow_other w g Y _ hne).trans h
theorem rd_addr {w : World} {B : Nat} {A : Option Addr} {zs : List Int} (h : Rd w B A (ints .u8 zs)) (h0 : 0 < zs.length) :
    ∃ bz off, A = some ⟨bz, off, none⟩ ∧ bz < B ∧ ∀ (j : Nat) (v : Value), (ints .u8 zs)[j]? = some v → w.cell? ((⟨bz, off, none⟩ : Addr).add j) = some v := by
  obtain ⟨b, off, rfl, hb, _⟩ := h.int h0
  refine ⟨b, off, rfl, hb, fun j v hj => ?_⟩
  obtain ⟨b', off', hA, _, hc⟩ := h j v hj
  injection hA with hA
  injection hA with e1 e2
  subst e1 e2
  by_cases h0 : j = 0
  · subst h0
    simpa [Addr.add] using hc
  · simpa [Addr.add, h0] using hc
theorem take_splice {A cs : List Value} {i n : Nat} (hin : i + cs.length ≤ n) (hn : n ≤ A.length) : (Go.splice A i cs).take n = Go.splice (A.take n) i cs := by
  unfold Go.splice
  have h1 : (A.take i).length = i := by rw [List.length_take]; omega
  have h2 : (A.take n).take i = A.take i := by rw [List.take_take]; congr 1; omega
  have h3 : (A.take i).take n = A.take i := by rw [List.take_take]; congr 1; omega
  have h4 : cs.take (n - i) = cs := List.take_of_length_le (by omega)
  rw [List.take_append, h1, h2, h3, List.take_append, h4, List.drop_take, show n - i - cs.length = n - (i + cs.length) by omega]
theorem splice_ints (l zs : List Int) (i : Nat) : Go.splice (ints .u8 l) i (ints .u8 zs) = ints .u8 (sp l i zs) := by
  simp [Go.splice, sp, ints]
theorem own_splice {w : World} {base g n c : Nat} {e : TypeId} {xs : List Value} (h : w.ownsRow base e 1 (.slice (some ⟨g, 0, none⟩) n c) n xs) :
    ∃ cur : List Value, w.heap[g]? = some (.cells cur.toArray e (0, 0)) ∧ base ≤ g ∧ n ≤ cur.length ∧ ∀ (w' : World) (i : Nat) (cs : List Value), i + cs.length ≤ n → w'.heap[g]? = some (.cells (Go.splice cur i cs).toArray e (0, 0)) → w'.ownsRow base e 1 (.slice (some ⟨g, 0, none⟩) n c) n (Go.splice xs i cs) := by
  have hl := h.1
  rcases h.2 with ⟨hv, _⟩ | ⟨g', cap, cur, hv, hb, hg, hn, hc, hs, ht⟩
  · cases hv
  · injection hv with hA _ hcap
    simp only [Option.some.injEq, Addr.mk.injEq, and_true] at hA
    subst hA hcap
    simp only [Nat.mul_one] at hs ht hl
    have hcl : cur.toList.length = c := by simpa using hs
    refine ⟨cur.toList, by simpa using hg, hb, by omega, fun w' i cs hi hw => ⟨?_, .inr ⟨g, c, _, rfl, hb, hw, hn, hc, ?_, ?_⟩⟩⟩
    · rw [Go.length_splice _ _ _ (by omega)]
      omega
    · simp only [Nat.mul_one, List.size_toArray]
      rw [Go.length_splice _ _ _ (by omega)]
      exact hcl
    · simp only [Nat.mul_one]
      rw [take_splice hi (by omega), ht]
/-- A row of bytes of one's own, and what becomes of it when bytes are copied in. -/
theorem copied {w : World} {base g n c : Nat} {l : List Int} (h : w.ownsRow base 5 1 (.slice (some ⟨g, 0, none⟩) n c) n (ints .u8 l)) :
    ∃ cur : List Value, w.heap[g]? = some (.cells cur.toArray 5 (0, 0)) ∧ base ≤ g ∧ n ≤ cur.length ∧ ∀ (i : Nat) (zs : List Int), i + zs.length ≤ n → (w.setRow g (Go.splice cur i (ints .u8 zs)).toArray).ownsRow base 5 1 (.slice (some ⟨g, 0, none⟩) n c) n (ints .u8 (sp l i zs)) := by
  obtain ⟨cur, hg, hN, hn, hf⟩ := own_splice h
  refine ⟨cur, hg, hN, hn, fun i zs hi => ?_⟩
  rw [← splice_ints]
  exact hf _ i _ (by simpa using hi) (setRow_heap w g _ _ _ _ hg)
end Go.Proofs.YtmglgjchemecjaaGreat.BCopy
/- ApplyFixup: bytes with a fixup filled in. -/
namespace Go.Proofs.YtmglgjchemecjaaGreat.CApFix
set_option maxRecDepth 200000
open Go.ChangeShapes Go.WideShapes Go.ChangeAt Go.RowKit Kit CCode CNumber CFixups CSymbols PObj BObj PValid CSecValid BStore CMarkRows CClones CCopyS PLink CFixVal BCopy
theorem fix_bd {kind place target add v : Int} (h : fixVal kind place target add = some v) : (kind = 1 ∨ kind = 2 ∨ kind = 3) ∧ 0 ≤ v ∧ v ≤ all (wide kind) := by
  unfold fixVal at h
  split at h
  · rename_i hc
    have h1 : 0 ≤ target ∧ target ≤ 100000 := by simpa [inB] using hc.2.1
    have h2 : -1000 ≤ add ∧ add ≤ 1000 := by simpa [inB] using hc.2.2
    split at h
    · rename_i hk
      subst hk
      split at h
      · rename_i hb
        injection h with h
        have h3 : 0 ≤ target + add ∧ target + add ≤ 65535 := by simpa [inB] using hb
        subst h
        refine ⟨by omega, by omega, ?_⟩
        show target + add ≤ 65535
        omega
      · cases h
    · split at h
      · rename_i hk
        subst hk
        split at h
        · injection h with h
          subst h
          refine ⟨by omega, by omega, ?_⟩
          show target + add ≤ 4294967295
          omega
        · cases h
      · split at h
        · rename_i hk
          subst hk
          split at h
          · injection h with h
            subst h
            refine ⟨by omega, by omega, ?_⟩
            show near place (target + add) % 256 ≤ 255
            omega
          · cases h
        · cases h
  · cases h
theorem pnum_put {kind place target add v : Int} (h : fixVal kind place target add = some v) : pnum v (wide kind) = putL (wide kind).toNat v := by
  obtain ⟨hk, h1, h2⟩ := fix_bd h
  unfold pnum
  rw [if_pos]
  refine ⟨?_, by simpa [inB] using ⟨h1, h2⟩⟩
  rcases hk with rfl | rfl | rfl <;> decide
/-- What is given back. -/
def RetF (r : Option (List Int)) (w : World) (e : Ending) (w' : World) : Prop := ∃ A c n, e = .returned (.tuple #[.slice A n c, .bool r.isSome]) ∧ Below w.heap.size w w' ∧ ∀ b, r = some b → n = b.length ∧ Row w' w.heap.size 5 1 A n c (ints .u8 b)
theorem ap_out {b : List Int} {place : Int} {f : FD} {t : Int} (h : ¬ (inB place 0 100000 = true ∧ ¬ wide f.2.1 = 0 ∧ inB f.1 0 (b.length - wide f.2.1) = true)) : apF b place f t = none := if_neg h
set_option maxHeartbeats 4000000 in
theorem applyFixup_any (A : Option Addr) (b : List Int) (c : Nat) (place : Int) (f : FD) (t : Int) (w : World) (hr : Rd w w.heap.size A (ints .u8 b)) (hm : b.length ≤ 1000) (hnil : A = none → c = 0) :
    Calls Tryz.prog 60 #[.slice A b.length c, .int .i64 place, .agg #[.int .i64 f.1, .int .i64 f.2.1, .int .i64 f.2.2.1, .int .i64 f.2.2.2], .int .i64 t] w (RetF (apF b place f t) w) := by
  obtain ⟨f1, f2, f3, f4⟩ := f
  simp only
  have HR := hide hr
  have HNIL := hide hnil
  clear hr hnil
  have hwd := wide_bd f2
  obtain ⟨wd1, wd2⟩ := hwd
  have HB := hide (show Below w.heap.size w (w.alloc (.cells #[.int .i64 f1, .int .i64 f2, .int .i64 f3, .int .i64 f4] 80)) from (by repeat (first | exact Below.refl _ _ | with_reducible assumption | (refine Below.drew ?_) | (refine Below.drewN ?_ _) | (refine Below.alloc ?_ (by simp; try omega) _) | (refine Below.setCell ?_ (by simp; try omega) _))))
  have HX := hide (Box.new w 80 #[.int .i64 f1, .int .i64 f2, .int .i64 f3, .int .i64 f4])
  go_enter Tryz.func60, Tryz.ntmps60
  go_wp2_with fail
  generalize w.alloc (.cells #[.int .i64 f1, .int .i64 f2, .int .i64 f3, .int .i64 f4] 80) = w0 at *
  have x1 := HX.out.cell 1
  simp only [List.getElem?_toArray, List.getElem?_cons_zero, List.getElem?_cons_succ] at x1
  refine Reg.startT (fun W => W.cell? ⟨w.heap.size, 1, none⟩ = some (.int .i64 f2)) (fun _ => false) (by kernel_rfl) ?_
  have hHeld : w0.drew.cell? ⟨w.heap.size, 1, none⟩ = some (.int .i64 f2) := x1
  clear x1
  refine Reg.takeT (i := 0) (v := ?_) rfl (by kernel_rfl) (by kernel_rfl) (by kernel_rfl) (by kernel_rfl) (fun _ _ _ h => h) (Or.inl ⟨by rfl, ?_⟩) (by assumption) ?_
  rotate_left 1
  focus (intro w hSw; (try dsimp only at hSw); go_simp; (try with_reducible rfl))
  try simp only [List.getElem_toArray, List.getElem_cons_succ, List.getElem_cons_zero, Act.put, List.setIfInBounds_toArray, List.set_cons_zero, List.set_cons_succ]
  refine Reg.takeT (i := 2) (v := ?_) rfl (by kernel_rfl) (by kernel_rfl) (by kernel_rfl) (by kernel_rfl) (fun _ _ _ h => h) (Or.inl ⟨by rfl, ?_⟩) (by assumption) ?_
  rotate_left 1
  focus (intro w hSw; (try dsimp only at hSw); go_simp; (try with_reducible rfl))
  try simp only [List.getElem_toArray, List.getElem_cons_succ, List.getElem_cons_zero, Act.put, List.setIfInBounds_toArray, List.set_cons_zero, List.set_cons_succ]
  refine Reg.takeT (i := 3) (v := ?_) rfl (by kernel_rfl) (by kernel_rfl) (by kernel_rfl) (by kernel_rfl) (fun _ _ _ h => h) (Or.inl ⟨by rfl, ?_⟩) (by assumption) ?_
  rotate_left 1
  focus (intro w hSw; (try dsimp only at hSw); go_simp; (try with_reducible rfl))
  try simp only [List.getElem_toArray, List.getElem_cons_succ, List.getElem_cons_zero, Act.put, List.setIfInBounds_toArray, List.set_cons_zero, List.set_cons_succ]
  have bd : Below w0.heap.size w0 w0.drew := below_dr (Below.refl _ _)
  replace HB := hide (HB.out.trans (bd.mono HB.out.size))
  replace HX := hide (HX.out.call bd)
  clear bd
  generalize w0.drew = w1 at *
  refine Reg.oneT (i := 1) rfl (by kernel_rfl) (fun K hK => ?_)
  go_simp
  refine (clone8_any A b c w.heap.size w1 (HR.out.below HB.out) HB.out.size (by omega) HNIL.out).mono ?_
  rintro e w2 ⟨A2, c2, rfl, o2, b2⟩
  have hlow : w.heap.size ≤ w1.heap.size := HB.out.size
  have HO := hide (o2.down hlow)
  clear o2
  replace HB := hide (HB.out.trans (b2.mono HB.out.size))
  replace HX := hide (HX.out.call b2)
  clear b2
  replace hHeld := HX.out.cell 1
  simp only [List.getElem?_toArray, List.getElem?_cons_zero, List.getElem?_cons_succ] at hHeld
  refine hK.out _ _ hHeld ?_
  clear hK K
  try simp only [List.getElem_toArray, List.getElem_cons_succ, List.getElem_cons_zero, Act.put, List.setIfInBounds_toArray, List.set_cons_zero, List.set_cons_succ]
  refine Reg.oneT (i := 4) rfl (by kernel_rfl) (fun K hK => ?_)
  go_simp
  refine (fixupWide_any f2 w2).mono ?_
  rintro e w' ⟨rfl, rfl⟩
  refine hK.out _ _ hHeld ?_
  clear hK K
  try simp only [List.getElem_toArray, List.getElem_cons_succ, List.getElem_cons_zero, Act.put, List.setIfInBounds_toArray, List.set_cons_zero, List.set_cons_succ]
  refine Reg.takeT (i := 5) (v := ?_) rfl (by kernel_rfl) (by kernel_rfl) (by kernel_rfl) (by kernel_rfl) (fun _ _ _ h => h) (Or.inl ⟨by rfl, ?_⟩) (by assumption) ?_
  rotate_left 1
  focus (intro w hSw; (try dsimp only at hSw); go_simp; (try with_reducible rfl))
  try simp only [List.getElem_toArray, List.getElem_cons_succ, List.getElem_cons_zero, Act.put, List.setIfInBounds_toArray, List.set_cons_zero, List.set_cons_succ]
  refine Reg.takeT (i := 6) (v := ?_) rfl (by kernel_rfl) (by kernel_rfl) (by kernel_rfl) (by kernel_rfl) (fun _ _ _ h => h) (Or.inl ⟨by rfl, ?_⟩) (by assumption) ?_
  rotate_left 1
  focus (intro w hSw; (try dsimp only at hSw); go_simp; (try with_reducible rfl))
  try simp only [List.getElem_toArray, List.getElem_cons_succ, List.getElem_cons_zero, Act.put, List.setIfInBounds_toArray, List.set_cons_zero, List.set_cons_succ]
  clear hHeld
  refine Reg.doneT (by kernel_rfl) ?_ _
  generalize hwn : wide f2 = wd at *
  have HW := hide hwn
  clear hwn
  cases hp : inB place 0 100000
  · have HV := hide (ap_out (b := b) (place := place) (f := (f1, f2, f3, f4)) (t := t) (by rw [hp]; simp))
    go_wp2_with fail
    refine (within_any _ _ _ _).mono ?_
    rintro e w' ⟨rfl, rfl⟩
    rw [hp]
    clear hp
    go_wp2_with fail
    go_ret2
    exact ⟨A2, c2, b.length, by rw [HV.out]; rfl, HB.out, fun b' hb' => by rw [HV.out] at hb'; cases hb'⟩
  by_cases hw0 : wd = 0
  · have HV := hide (ap_out (b := b) (place := place) (f := (f1, f2, f3, f4)) (t := t) (by simp only; rw [HW.out, hw0]; simp))
    have e0 : (wd == 0) = true := beq_iff_eq.2 hw0
    clear hw0
    go_wp2_with fail
    refine (within_any _ _ _ _).mono ?_
    rintro e w' ⟨rfl, rfl⟩
    rw [hp]
    clear hp
    go_wp2_with fail
    go_ret2
    exact ⟨A2, c2, b.length, by rw [HV.out]; rfl, HB.out, fun b' hb' => by rw [HV.out] at hb'; cases hb'⟩
  have e0 : (wd == 0) = false := beq_eq_false_iff_ne.2 hw0
  have hws : IntKind.i64.wrap ((b.length : Int) - wd) = (b.length : Int) - wd := IntWalk.i64_in _ (by omega)
  cases hf : inB f1 0 ((b.length : Int) - wd)
  · have HV := hide (ap_out (b := b) (place := place) (f := (f1, f2, f3, f4)) (t := t) (by simp only; rw [HW.out, hf]; simp))
    have x0 := HX.out.cell 0
    simp only [List.getElem?_toArray, List.getElem?_cons_zero, List.getElem?_cons_succ] at x0
    have hxl := HX.out.lt
    go_wp2_with fail
    refine (within_any _ _ _ _).mono ?_
    rintro e w' ⟨rfl, rfl⟩
    rw [hp]
    clear hp
    go_wp2_with fail
    refine (within_any _ _ _ _).mono ?_
    rintro e w' ⟨rfl, rfl⟩
    rw [hf]
    clear hf
    go_wp2_with fail
    go_ret2
    exact ⟨A2, c2, b.length, by rw [HV.out]; rfl, HB.out, fun b' hb' => by rw [HV.out] at hb'; cases hb'⟩
  have HV := hide (show apF b place (f1, f2, f3, f4) t = (fixVal f2 (place + f1) t f4).map fun v => sp b f1.toNat (putL (wide f2).toNat v) from if_pos (by simp only; rw [HW.out]; exact ⟨hp, hw0, hf⟩))
  have hf1 : 0 ≤ f1 ∧ f1 ≤ (b.length : Int) - wd := by simpa [inB] using hf
  have hp1 : 0 ≤ place ∧ place ≤ 100000 := by simpa [inB] using hp
  obtain ⟨g1, g2⟩ := hf1
  obtain ⟨g3, g4⟩ := hp1
  have hwp : IntKind.i64.wrap (place + f1) = place + f1 := IntWalk.i64_in _ (by omega)
  have x0 := HX.out.cell 0
  have x1 := HX.out.cell 1
  have x3 := HX.out.cell 3
  simp only [List.getElem?_toArray, List.getElem?_cons_zero, List.getElem?_cons_succ] at x0 x1 x3
  have hxl := HX.out.lt
  go_wp2_with fail
  refine (within_any _ _ _ _).mono ?_
  rintro e w' ⟨rfl, rfl⟩
  rw [hp]
  clear hp
  go_wp2_with fail
  refine (within_any _ _ _ _).mono ?_
  rintro e w' ⟨rfl, rfl⟩
  rw [hf]
  clear hf
  go_wp2_with fail
  refine (fixupValue_any _ _ _ _ _).mono ?_
  rintro e w' ⟨rfl, rfl⟩
  generalize hv : fixVal f2 (place + f1) t f4 = r at *
  have HFV := hide hv
  clear hv
  cases r with
  | none =>
    simp only [fvV, Option.isSome, Option.getD]
    go_wp2_with fail
    go_ret2
    exact ⟨A2, c2, b.length, by rw [HV.out]; rfl, HB.out, fun b' hb' => by rw [HV.out] at hb'; cases hb'⟩
  | some v =>
    simp only [fvV, Option.isSome, Option.getD]
    go_wp2_with fail
    clear x0 x1 x3 hxl e0 hws hwp
    obtain ⟨a, rfl⟩ : ∃ a : Nat, f1 = (a : Int) := ⟨f1.toNat, by omega⟩
    obtain ⟨n, rfl⟩ : ∃ n : Nat, wd = (n : Int) := ⟨wd.toNat, by omega⟩
    have hal : a + n ≤ b.length := by omega
    have hn0 : 0 < n := by omega
    have HPU := hide (show pnum v n = putL n v from by
      have h := pnum_put HFV.out
      rw [HW.out] at h
      rw [h]
      rfl)
    have HV2 := hide (show apF b place ((a : Int), f2, f3, f4) t = some (sp b a (putL n v)) from by
      rw [HV.out, HW.out]
      rfl)
    have hplen : (putL n v).length = n := putL_len n v
    obtain ⟨g, rfl, hgb, hgl, hgk, hown⟩ := own_of HO.out (by omega)
    have hcap := HO.out.cap.1
    have x0 := HX.out.cell 0
    simp only [List.getElem?_toArray, List.getElem?_cons_zero, List.getElem?_cons_succ] at x0
    have hxl := HX.out.lt
    refine Reg.startT (fun W => W.cell? ⟨w.heap.size, 0, none⟩ = some (.int .i64 (a : Int))) (fun _ => false) (by kernel_rfl) ?_
    have hHeld : w2.drew.cell? ⟨w.heap.size, 0, none⟩ = some (.int .i64 (a : Int)) := x0
    clear x0 hxl
    have hin1 : a ≤ b.length := by omega
    have hin2 : a ≤ c2 := by omega
    refine Reg.takeT (i := 0) (v := ?_) rfl (by kernel_rfl) (by kernel_rfl) (by kernel_rfl) (by kernel_rfl) (fun _ _ _ h => h) (Or.inl ⟨by rfl, ?_⟩) (by assumption) ?_
    rotate_left 1
    focus (intro w hSw; (try dsimp only at hSw); go_simp; (try with_reducible rfl))
    try simp only [List.getElem_toArray, List.getElem_cons_succ, List.getElem_cons_zero, Act.put, List.setIfInBounds_toArray, List.set_cons_zero, List.set_cons_succ]
    refine Reg.takeT (i := 1) (v := ?_) rfl (by kernel_rfl) (by kernel_rfl) (by kernel_rfl) (by kernel_rfl) (fun _ _ _ h => h) (Or.inl ⟨by rfl, ?_⟩) (by assumption) ?_
    rotate_left 1
    focus (intro w hSw; (try dsimp only at hSw); go_simp; (try with_reducible rfl))
    try simp only [List.getElem_toArray, List.getElem_cons_succ, List.getElem_cons_zero, Act.put, List.setIfInBounds_toArray, List.set_cons_zero, List.set_cons_succ]
    refine Reg.takeT (i := 2) (v := ?_) rfl (by kernel_rfl) (by kernel_rfl) (by kernel_rfl) (by kernel_rfl) (fun _ _ _ h => h) (Or.inl ⟨by rfl, ?_⟩) (by assumption) ?_
    rotate_left 1
    focus (intro w hSw; (try dsimp only at hSw); go_simp; (try with_reducible rfl))
    try simp only [List.getElem_toArray, List.getElem_cons_succ, List.getElem_cons_zero, Act.put, List.setIfInBounds_toArray, List.set_cons_zero, List.set_cons_succ]
    refine Reg.takeT (i := 3) (v := ?_) rfl (by kernel_rfl) (by kernel_rfl) (by kernel_rfl) (by kernel_rfl) (fun _ _ _ h => h) (Or.inl ⟨by rfl, ?_⟩) (by assumption) ?_
    rotate_left 1
    focus (intro w hSw; (try dsimp only at hSw); go_simp; (try with_reducible rfl))
    try simp only [List.getElem_toArray, List.getElem_cons_succ, List.getElem_cons_zero, Act.put, List.setIfInBounds_toArray, List.set_cons_zero, List.set_cons_succ]
    refine Reg.takeT (i := 4) (v := ?_) rfl (by kernel_rfl) (by kernel_rfl) (by kernel_rfl) (by kernel_rfl) (fun _ _ _ h => h) (Or.inl ⟨by rfl, ?_⟩) (by assumption) ?_
    rotate_left 1
    focus (intro w hSw; (try dsimp only at hSw); go_simp; (try with_reducible rfl))
    try simp only [List.getElem_toArray, List.getElem_cons_succ, List.getElem_cons_zero, Act.put, List.setIfInBounds_toArray, List.set_cons_zero, List.set_cons_succ]
    refine Reg.takeT (i := 5) (v := ?_) rfl (by kernel_rfl) (by kernel_rfl) (by kernel_rfl) (by kernel_rfl) (fun _ _ _ h => h) (Or.inl ⟨by rfl, ?_⟩) (by assumption) ?_
    rotate_left 1
    focus (intro w hSw; (try dsimp only at hSw); go_simp; (try with_reducible rfl))
    try simp only [List.getElem_toArray, List.getElem_cons_succ, List.getElem_cons_zero, Act.put, List.setIfInBounds_toArray, List.set_cons_zero, List.set_cons_succ]
    have bd : Below w2.heap.size w2 w2.drew := below_dr (Below.refl _ _)
    replace HB := hide (HB.out.trans (bd.mono HB.out.size))
    replace HX := hide (HX.out.call bd)
    clear bd
    have HOW := hide (show w2.drew.ownsRow w.heap.size 5 1 (.slice (some ⟨g, 0, none⟩) b.length c2) b.length (ints .u8 b) from hown)
    clear hown HO
    have hgl' : g < w2.drew.heap.size := hgl
    generalize w2.drew = w3 at *
    refine Reg.oneT (i := 6) rfl (by kernel_rfl) (fun K hK => ?_)
    go_simp
    refine (putNumber_any v n w3).mono ?_
    rintro e w5 ⟨A5, c5, rfl, o5, b5⟩
    rw [HPU.out, hplen] at o5 ⊢
    have HS := hide (Rd.of_own o5)
    replace HOW := hide (own_call b5 HOW.out)
    replace HB := hide (HB.out.trans (b5.mono HB.out.size))
    replace HX := hide (HX.out.call b5)
    clear b5
    replace hHeld := HX.out.cell 0
    simp only [List.getElem?_toArray, List.getElem?_cons_zero] at hHeld
    refine hK.out _ _ hHeld ?_
    clear hK K
    try simp only [List.getElem_toArray, List.getElem_cons_succ, List.getElem_cons_zero, Act.put, List.setIfInBounds_toArray, List.set_cons_zero, List.set_cons_succ]
    obtain ⟨bz, offz, rfl, hbz, hsrc⟩ := rd_addr HS.out (by omega)
    obtain ⟨cur, hgv, hgb2, hcn, hcp⟩ := copied HOW.out
    have HGV := hide hgv
    have HIL := hide (show (ints .u8 (putL n v)).length = n by simp [hplen])
    have HOUT := hide (hcp a (putL n v) (by omega))
    have HBO := hide (Go.below_setRow HB.out hgb2 (Go.splice cur a (ints .u8 (putL n v))).toArray)
    have HXO := hide (box_setRow HX.out hgv (by decide) (Go.splice cur a (ints .u8 (putL n v))).toArray)
    refine Reg.oneT (i := 7) rfl (by kernel_rfl) (fun K hK => ?_)
    refine step_copy_row (by rfl) _ _ 34 34 (by rfl) 5 Tryz.underlying34 (by kernel_rfl) g a (b.length - a) (c2 - a) ⟨bz, offz, none⟩ n c5 (by show Value.slice (if c2 = a then _ else _) _ _ = _; rw [if_neg (by omega)]) (by rfl) cur 5 HGV.out (ints .u8 (putL n v)) (by rw [HIL.out]; exact (Nat.min_eq_left (by omega)).symm) hsrc (by rw [HIL.out]; omega) oneI ?_
    generalize w5.setRow g (Go.splice cur a (ints .u8 (putL n v))).toArray = w6 at *
    refine hK.out _ _ (by have h := HXO.out.cell 0; simpa using h) ?_
    clear hK K
    try simp only [List.getElem_toArray, List.getElem_cons_succ, List.getElem_cons_zero, Act.put, List.setIfInBounds_toArray, List.set_cons_zero, List.set_cons_succ]
    refine Reg.doneT (by kernel_rfl) ?_ _
    clear hcp hgv hsrc hHeld
    go_wp2_with fail
    go_ret2
    refine ⟨some ⟨g, 0, none⟩, c2, b.length, by rw [HV2.out]; rfl, HBO.out, fun b' hb' => ?_⟩
    rw [HV2.out] at hb'
    injection hb' with hb'
    subst hb'
    have hsl : (sp b a (putL n v)).length = b.length := sp_len (by omega)
    exact ⟨hsl.symm, .inr HOUT.out⟩
end Go.Proofs.YtmglgjchemecjaaGreat.CApFix
