/- namesTwice and namesMissing. -/
import Derived.Test.YtmglgjchemecjaaFnSameObjectM6
import Derived.Lib.AppendStr
set_option linter.unusedSimpArgs false
set_option linter.unusedVariables false
namespace Go.Proofs.Ytmglgjchemecjaa.CNames
set_option maxRecDepth 200000
open Go.ChangeShapes Go.WideShapes Go.ChangeAt Go.RowKit Kit CCode CName CFixups CSymbols PObj BObj CGlobalOf BStore BList PLink CFind CSorted
theorem infoStr : (Try.prog.info? 9).map (fun i => (i.zero, i.size, i.bytes)) = some (some (.string ByteArray.empty), 1, 16) := by kernel_rfl
def hasN (ys : List ByteArray) (nm : ByteArray) : Bool := ys.any fun x => decide (x = nm)
theorem has_lib (ys : List ByteArray) (nm : ByteArray) : Lib.containsS ys nm = hasN ys nm := by
  rw [Bool.eq_iff_iff, Lib.containsS_iff, hasN, List.any_eq_true]
  constructor
  · intro h
    exact ⟨nm, h, by simp⟩
  · rintro ⟨x, hx, h⟩
    exact of_decide_eq_true h ▸ hx
theorem containsN_any (ys : List ByteArray) (nm : ByteArray) (A : Option Addr) (c base : Nat) (w : World) (h : Row w base 9 1 A ys.length c (nmC ys)) (hm : ys.length ≤ 1048576) :
    Calls Try.prog 135 #[.slice A ys.length c, .string nm] w (Pure (.bool (hasN ys nm)) w) := by
  by_cases h0 : ys.length = 0
  · obtain rfl := List.eq_nil_of_length_eq_zero h0
    refine (XNames.slices_Contains_string_empty A c nm w).mono ?_
    rintro e w' ⟨rfl, rfl⟩
    exact ⟨rfl, rfl⟩
  · obtain ⟨g, rfl, _, _, _, hown⟩ := own_of h (by omega)
    refine (XNames.slices_Contains_string g 0 ys.length c ys nm w (Nat.le_refl _) (by omega) (fun j hj => ?_)).mono ?_
    · have h1 := World.ownsRow.cellAt hown j (by simpa [nmC] using hj)
      rw [Nat.zero_add, h1]
      simp [nmC, List.getD_eq_getElem?_getD, List.getElem?_eq_getElem hj]
    · rintro e w' ⟨rfl, rfl⟩
      rw [List.take_length, has_lib]
      exact ⟨rfl, rfl⟩
theorem strs_snoc (xs : List ByteArray) (x : ByteArray) : nmC xs ++ [.string x] = nmC (xs ++ [x]) := by simp [nmC]
theorem one_str (x : ByteArray) : ∀ u ∈ [Value.string x], u.oneCell' = true := by
  intro u hu
  rw [List.mem_singleton.1 hu]
  rfl
theorem twO_snoc (st : List ByteArray × List ByteArray) (a : List OD) (d : OD) : twO st (a ++ [d]) = twS (twO st a) d.ys := by simp [twO]
theorem twS_snoc (st : List ByteArray × List ByteArray) (a : List YD) (y : YD) : twS st (a ++ [y]) = twStep (twS st a) y := by simp [twS]
def Small (os : List OV) : Prop := os.length ≤ 4 ∧ ∀ o ∈ os, o.ys.length ≤ 12
/-- The two rows of namesTwice. -/
structure TI (w0 : World) (A1 : Option Addr) (c1 : Nat) (xs : List ByteArray) (A2 : Option Addr) (c2 : Nat) (ys : List ByteArray) (w : World) : Prop where
  x : Row w w0.heap.size 9 1 A1 xs.length c1 (nmC xs)
  y : Row w w0.heap.size 9 1 A2 ys.length c2 (nmC ys)
  ap : Apart A1 c1 A2 c2
  b : Below w0.heap.size w0 w
theorem TI.call {w0 w w' : World} {A1 A2 : Option Addr} {c1 c2 : Nat} {xs ys : List ByteArray} (h : TI w0 A1 c1 xs A2 c2 ys w) (hb : Below w.heap.size w w') : TI w0 A1 c1 xs A2 c2 ys w' := ⟨h.x.call hb, h.y.call hb, h.ap, h.b.trans (hb.mono h.b.size)⟩
theorem TI.addX {w0 w w' : World} {A1 A2 A' : Option Addr} {c1 c2 n' c' : Nat} {xs ys : List ByteArray} {x : ByteArray} (h : TI w0 A1 c1 xs A2 c2 ys w) (hn : n' = xs.length + 1) (o : Row w' w0.heap.size 9 1 A' n' c' (nmC xs ++ [.string x])) (g : w.grownBy w' (blk A1 c1)) (hk : ∀ k, blk A' c' = some k → blk A1 c1 = some k ∨ w.heap.size ≤ k) :
    TI w0 A' c' (xs ++ [x]) A2 c2 ys w' := by
  subst hn
  refine ⟨?_, h.y.grown g (fun k hk e => h.ap k e hk), ?_, h.b.grown g h.b.size (fun j hj => (h.x.lt j hj).1)⟩
  · rw [List.length_append, ← strs_snoc]
    exact o
  · intro k h1 h2
    rcases hk k h1 with h3 | h3
    · exact h.ap k h3 h2
    · have := (h.y.lt k h2).2
      omega
theorem TI.addY {w0 w w' : World} {A1 A2 A' : Option Addr} {c1 c2 n' c' : Nat} {xs ys : List ByteArray} {x : ByteArray} (h : TI w0 A1 c1 xs A2 c2 ys w) (hn : n' = ys.length + 1) (o : Row w' w0.heap.size 9 1 A' n' c' (nmC ys ++ [.string x])) (g : w.grownBy w' (blk A2 c2)) (hk : ∀ k, blk A' c' = some k → blk A2 c2 = some k ∨ w.heap.size ≤ k) :
    TI w0 A1 c1 xs A' c' (ys ++ [x]) w' := by
  subst hn
  refine ⟨h.x.grown g (fun k hk e => h.ap k hk e), ?_, ?_, h.b.grown g h.b.size (fun j hj => (h.y.lt j hj).1)⟩
  · rw [List.length_append, ← strs_snoc]
    exact o
  · intro k h1 h2
    rcases hk k h2 with h3 | h3
    · exact h.ap k h1 h3
    · have := (h.x.lt k h1).2
      omega
set_option maxHeartbeats 4000000 in
theorem namesTwice_any (A : Option Addr) (os : List OV) (c : Nat) (w : World) (hr : RdOs w w.heap.size A os) (hs : Small os) :
    Calls Try.prog 77 #[.slice A os.length c] w (RetN (srtN (twice (os.map OV.d))) w) := by
  obtain ⟨i0, hi1, hi2, hi3, hi4⟩ := info_parts infoStr
  have HI := hide (And.intro hi1 (And.intro hi2 (And.intro hi3 hi4)))
  clear hi1 hi2 hi3 hi4
  obtain ⟨hs1, hs2⟩ := hs
  have HY := hide hs2
  have HR := hide hr
  clear hs2 hr
  have B0 : Below w.heap.size w ((w.alloc (.cells #[] 9)).alloc (.cells #[] 9)) := (by repeat (first | exact Below.refl _ _ | with_reducible assumption | (refine Below.drew ?_) | (refine Below.drewN ?_ _) | (refine Below.alloc ?_ (by simp; try omega) _) | (refine Below.setCell ?_ (by simp; try omega) _)))
  have HT := hide (show TI w (some ⟨w.heap.size, 0, none⟩) 0 [] (some ⟨w.heap.size + 1, 0, none⟩) 0 [] ((w.alloc (.cells #[] 9)).alloc (.cells #[] 9)) from ⟨Row.empty _ _ _ _ _, Row.empty _ _ _ _ _, (fun k h1 h2 => by cases h1), B0⟩)
  clear B0
  go_enter Try.func77, Try.ntmps77
  go_wp2_with fail
  generalize (w.alloc (.cells #[] 9)).alloc (.cells #[] 9) = w0 at *
  generalize hLL : os.map OV.d = l at *
  have HLL := hide hLL
  clear hLL
  go_loopw [3, 4, 13] (fun s t i wi => ∃ (k : Nat) (A1 : Option Addr) (c1 : Nat) (xs : List ByteArray) (A2 : Option Addr) (c2 : Nat) (ys : List ByteArray), k ≤ os.length ∧ s = .slice A1 xs.length c1 ∧ t = .slice A2 ys.length c2 ∧ i = .int .i64 k ∧ (xs, ys) = twO ([], []) (l.take k) ∧ xs.length ≤ 12 * k ∧ ys.length ≤ 12 * k ∧ TI w A1 c1 xs A2 c2 ys wi) (fun _ _ i _ => os.length - (intOf i).toNat)
  case atStart => exact ⟨0, _, 0, [], _, 0, [], Nat.zero_le _, rfl, rfl, rfl, rfl, Nat.le_refl _, Nat.le_refl _, HT.out⟩
  case round =>
    clear HT
    obtain ⟨k, A1, c1, xs, A2, c2, ys, hk, rfl, rfl, rfl, hxy, hx1, hy1, hti⟩ := hrel
    have HT := hide hti
    by_cases hlt : k < os.length
    · obtain ⟨bb, off, hA, hbb, hc0, hc1⟩ := (HR.out.below hti.b).at hlt
      have hll : k < l.length := by rw [← HLL.out, List.length_map]; exact hlt
      have HXY := hide (show twO ([], []) (l.take (k + 1)) = twS (xs, ys) os[k].ys from by
        rw [take_succ hll, twO_snoc, ← hxy]
        have := HLL.out
        subst this
        simp [OV.d])
      have HRO := hide (HR.out.2 _ (List.getElem_mem hlt)).2
      have hyl := HY.out _ (List.getElem_mem hlt)
      clear hti hxy
      subst hA
      generalize os[k] = o at *
      go_wp2_with fail
      have B1 : Below wr.heap.size wr (wr.alloc (.cells #[.slice o.A o.ps.length o.c, .slice o.Y o.ys.length o.yc] 26)) := (by repeat (first | exact Below.refl _ _ | with_reducible assumption | (refine Below.drew ?_) | (refine Below.drewN ?_ _) | (refine Below.alloc ?_ (by simp; try omega) _) | (refine Below.setCell ?_ (by simp; try omega) _)))
      have HO := hide (Box.new wr 26 #[.slice o.A o.ps.length o.c, .slice o.Y o.ys.length o.yc])
      replace HT := hide (HT.out.call B1)
      clear B1
      generalize wr.alloc (.cells #[.slice o.A o.ps.length o.c, .slice o.Y o.ys.length o.yc] 26) = wa at *
      generalize wr.heap.size = Z at *
      clear hc0 hc1
      have y1 := HO.out.cell 1
      simp only [List.getElem?_toArray, List.getElem?_cons_zero, List.getElem?_cons_succ] at y1
      have hol := HO.out.lt
      go_wp2_with fail
      clear y1 hol HO
      have HXY2 := hide (show (xs, ys) = twS (xs, ys) (o.ys.take 0) from rfl)
      generalize hq0 : (xs, ys) = q0 at *
      go_loopw [3, 4, 20] (fun s t i wi => ∃ (j : Nat) (A1 : Option Addr) (c1 : Nat) (xs : List ByteArray) (A2 : Option Addr) (c2 : Nat) (ys : List ByteArray), j ≤ o.ys.length ∧ s = .slice A1 xs.length c1 ∧ t = .slice A2 ys.length c2 ∧ i = .int .i64 j ∧ (xs, ys) = twS q0 (o.ys.take j) ∧ xs.length ≤ 12 * k + j ∧ ys.length ≤ 12 * k + j ∧ TI w A1 c1 xs A2 c2 ys wi) (fun _ _ i _ => o.ys.length - (intOf i).toNat)
      case atStart => exact ⟨0, A1, c1, xs, A2, c2, ys, Nat.zero_le _, rfl, rfl, rfl, hq0.trans HXY2.out, by omega, by omega, HT.out⟩
      case round =>
        clear HT HXY2 hq0
        obtain ⟨j, A1, c1, xs, A2, c2, ys, hj, rfl, rfl, rfl, hxy, hx1, hy1, hti⟩ := hrel
        have HT := hide hti
        by_cases hlj : j < o.ys.length
        · obtain ⟨b2, off2, hYA, hb2, hc⟩ := (HRO.out.below hti.b).row symbolC_len (by decide) hlj
          have hc0 := hc 0 _ rfl
          have hc1 := hc 1 _ rfl
          have hc2 := hc 2 _ rfl
          have hc3 := hc 3 _ rfl
          simp only [Nat.add_zero] at hc0
          have HST := hide (show twS q0 (o.ys.take (j + 1)) = twStep (xs, ys) o.ys[j] from by
            rw [take_succ hlj, twS_snoc, ← hxy])
          clear hti hxy hc
          rw [hYA]
          clear hYA
          generalize o.ys[j] = z at *
          obtain ⟨z1, z2, z3, z4⟩ := z
          simp only at hc0 hc1 hc2 hc3
          have B1 : Below wr.heap.size wr (wr.alloc (.cells #[.string z1, .int .i64 z2, .int .i64 z3, .int .i64 z4] 69)) := (by repeat (first | exact Below.refl _ _ | with_reducible assumption | (refine Below.drew ?_) | (refine Below.drewN ?_ _) | (refine Below.alloc ?_ (by simp; try omega) _) | (refine Below.setCell ?_ (by simp; try omega) _)))
          have HZ := hide (Box.new wr 69 #[.string z1, .int .i64 z2, .int .i64 z3, .int .i64 z4])
          replace HT := hide (HT.out.call B1)
          cases q1 : (z2 != 1)
          · cases q2 : (z3 == -1)
            · have hst : isStrong (z1, z2, z3, z4) = true := by
                have e1 : z2 = 1 := by simpa using q1
                have e2 : ¬ z3 = -1 := by simpa using q2
                simp [isStrong, e1, e2]
              have HST2 := hide (show twS q0 (o.ys.take (j + 1)) = (if hasN ys z1 = true then xs ++ [z1] else xs, ys ++ [z1]) from by
                rw [HST.out, twStep, hst]
                simp only [cond_true]
                unfold hasN
                cases ys.any (fun x => decide (x = z1)) <;> rfl)
              clear hst HST
              go_wp2_with fail
              clear hc0 hc1 hc2 hc3 q1 q2 B1
              generalize wr.alloc (.cells #[.string z1, .int .i64 z2, .int .i64 z3, .int .i64 z4] 69) = wz at *
              generalize wr.heap.size = S at *
              refine (containsN_any ys z1 A2 c2 _ wz HT.out.y (by omega)).mono ?_
              rintro e w' ⟨rfl, rfl⟩
              have hzl := HZ.out.lt
              have z0 := HZ.out.cell 0
              simp only [List.getElem?_toArray, List.getElem?_cons_zero, List.getElem?_cons_succ] at z0
              cases hh : hasN ys z1
              · rw [hh, if_neg (by decide)] at HST2
                clear hh
                go_wp2_with (at_builtin; refine wpList_app (wz.alloc (.cells #[.string z1] 9)) rfl (.tmp 41) (.tmp 44) 64 rfl 9 i0 (.string ByteArray.empty) 1 16 Try.underlying64 HI.out.1 HI.out.2.1 HI.out.2.2.1 HI.out.2.2.2 rfl (by decide) w.heap.size A2 ys.length c2 (nmC ys) rfl (HT.out.y.alloc _) ?hb (some ⟨wz.heap.size, 0, none⟩) 1 1 [.string z1] rfl (rd_lit wz #[.string z1] 9 _ rfl) rfl (fun h => by cases h) ?o1 ?n1 ?n2 ?_)
                case hb => have h := (HT.out.b.alloc HT.out.b.size (.cells #[.string z1] 9)).size; simpa using h
                case o1 => exact one_str z1
                case n1 => unfold maxLen; omega
                case n2 => omega
                intro A3 n3 c3 w3 hn o3 g3 k3
                have bl : Below wz.heap.size wz (wz.alloc (.cells #[.string z1] 9)) := (by repeat (first | exact Below.refl _ _ | with_reducible assumption | (refine Below.drew ?_) | (refine Below.drewN ?_ _) | (refine Below.alloc ?_ (by simp; try omega) _) | (refine Below.setCell ?_ (by simp; try omega) _)))
                have HT3 := hide (TI.addY (HT.out.call bl) hn (by simpa using o3) g3 (fun k hk => by have h := k3 k hk; simpa using h))
                subst hn
                clear o3 g3 k3 bl HT
                go_wp2_with fail
                refine ⟨⟨j + 1, A1, c1, xs, A3, c3, ys ++ [z1], by omega, rfl, by simp, by go_num, by rw [HST2.out], by omega, by simp; omega, HT3.out⟩, by simp [intOf]; omega⟩
              · rw [hh, if_pos rfl] at HST2
                clear hh
                go_wp2_with (at_builtin; refine wpList_app (wz.alloc (.cells #[.string z1] 9)) rfl (.tmp 36) (.tmp 39) 64 rfl 9 i0 (.string ByteArray.empty) 1 16 Try.underlying64 HI.out.1 HI.out.2.1 HI.out.2.2.1 HI.out.2.2.2 rfl (by decide) w.heap.size A1 xs.length c1 (nmC xs) rfl (HT.out.x.alloc _) ?hb (some ⟨wz.heap.size, 0, none⟩) 1 1 [.string z1] rfl (rd_lit wz #[.string z1] 9 _ rfl) rfl (fun h => by cases h) ?o1 ?n1 ?n2 ?_)
                case hb => have h := (HT.out.b.alloc HT.out.b.size (.cells #[.string z1] 9)).size; simpa using h
                case o1 => exact one_str z1
                case n1 => unfold maxLen; omega
                case n2 => omega
                intro A3 n3 c3 w3 hn o3 g3 k3
                have bl : Below wz.heap.size wz (wz.alloc (.cells #[.string z1] 9)) := (by repeat (first | exact Below.refl _ _ | with_reducible assumption | (refine Below.drew ?_) | (refine Below.drewN ?_ _) | (refine Below.alloc ?_ (by simp; try omega) _) | (refine Below.setCell ?_ (by simp; try omega) _)))
                have HZ3 := hide ((HZ.out.call bl).grown g3 ((HT.out.call bl).x.box (HZ.out.call bl) (by decide)))
                have HT3 := hide (TI.addX (HT.out.call bl) hn (by simpa using o3) g3 (fun k hk => by have h := k3 k hk; simpa using h))
                subst hn
                clear o3 g3 k3 bl HT HZ z0 hzl
                have HT := hide HT3.out
                clear HT3
                have hzl := HZ3.out.lt
                have z0 := HZ3.out.cell 0
                simp only [List.getElem?_toArray, List.getElem?_cons_zero, List.getElem?_cons_succ] at z0
                go_wp2_with (at_builtin; refine wpList_app (w3.alloc (.cells #[.string z1] 9)) rfl (.tmp 41) (.tmp 44) 64 rfl 9 i0 (.string ByteArray.empty) 1 16 Try.underlying64 HI.out.1 HI.out.2.1 HI.out.2.2.1 HI.out.2.2.2 rfl (by decide) w.heap.size A2 ys.length c2 (nmC ys) rfl (HT.out.y.alloc _) ?hb (some ⟨w3.heap.size, 0, none⟩) 1 1 [.string z1] rfl (rd_lit w3 #[.string z1] 9 _ rfl) rfl (fun h => by cases h) ?o1 ?n1 ?n2 ?_)
                case hb => have h := (HT.out.b.alloc HT.out.b.size (.cells #[.string z1] 9)).size; simpa using h
                case o1 => exact one_str z1
                case n1 => unfold maxLen; omega
                case n2 => omega
                intro A4 n4 c4 w4 hn o4 g4 k4
                have bl : Below w3.heap.size w3 (w3.alloc (.cells #[.string z1] 9)) := (by repeat (first | exact Below.refl _ _ | with_reducible assumption | (refine Below.drew ?_) | (refine Below.drewN ?_ _) | (refine Below.alloc ?_ (by simp; try omega) _) | (refine Below.setCell ?_ (by simp; try omega) _)))
                have HT4 := hide (TI.addY (HT.out.call bl) hn (by simpa using o4) g4 (fun k hk => by have h := k4 k hk; simpa using h))
                subst hn
                clear o4 g4 k4 bl HT
                go_wp2_with fail
                refine ⟨⟨j + 1, A3, c3, xs ++ [z1], A4, c4, ys ++ [z1], by omega, by simp, by simp, by go_num, by rw [HST2.out], by simp; omega, by simp; omega, HT4.out⟩, by simp [intOf]; omega⟩
            · have hst : isStrong (z1, z2, z3, z4) = false := by
                have e2 : z3 = -1 := by simpa using q2
                simp [isStrong, e2]
              have HST2 := hide (show twS q0 (o.ys.take (j + 1)) = (xs, ys) from by
                rw [HST.out, twStep, hst]
                rfl)
              clear hst HST
              go_wp2_with fail
              refine ⟨⟨j + 1, A1, c1, xs, A2, c2, ys, by omega, rfl, rfl, by go_num, HST2.out.symm, by omega, by omega, HT.out⟩, by simp [intOf]; omega⟩
          · have hst : isStrong (z1, z2, z3, z4) = false := by
              have e2 : ¬ z2 = 1 := by simpa using q1
              simp [isStrong, e2]
            have HST2 := hide (show twS q0 (o.ys.take (j + 1)) = (xs, ys) from by
              rw [HST.out, twStep, hst]
              rfl)
            clear hst HST
            go_wp2_with fail
            refine ⟨⟨j + 1, A1, c1, xs, A2, c2, ys, by omega, rfl, rfl, by go_num, HST2.out.symm, by omega, by omega, HT.out⟩, by simp [intOf]; omega⟩
        · have hje : j = o.ys.length := by omega
          subst hje
          have HQ2 := hide (show (xs, ys) = twO ([], []) (l.take (k + 1)) from by
            rw [HXY.out, hxy, List.take_length])
          clear hxy hti HXY
          go_wp2_with fail
          refine ⟨⟨k + 1, A1, c1, xs, A2, c2, ys, by omega, rfl, rfl, by go_num, HQ2.out, by omega, by omega, HT.out⟩, by simp [intOf]; omega⟩
    · have hke : k = os.length := by omega
      subst hke
      have HTW := hide (show twice l = xs from by
        rw [twice, ← List.take_of_length_le (show l.length ≤ os.length by rw [← HLL.out]; simp), ← hxy])
      have HQ := hide (sorted_any xs A1 c1 _ wr hti.x (by omega))
      clear hxy hti
      generalize hzs : srtN xs = zs at HQ
      have HZS := hide hzs
      clear hzs
      go_wp2_with fail
      refine HQ.out.mono ?_
      rintro e w4 ⟨A4, c4, rfl, r4, b4⟩
      have HF := hide (And.intro (r4.down HT.out.b.size) (HT.out.b.trans (b4.mono HT.out.b.size)))
      clear r4 b4 HQ
      go_wp2_with fail
      go_ret
      show RetN (srtN (twice l)) w _ _
      rw [HTW.out, HZS.out]
      exact ⟨A4, c4, rfl, HF.out.1, HF.out.2⟩
end Go.Proofs.Ytmglgjchemecjaa.CNames
/- NameTable: the bytes of a table of names; the program's. -/
namespace Go.Proofs.Ytmglgjchemecjaa.CNameTab
set_option maxRecDepth 200000
open Go.ChangeShapes Go.WideShapes Go.ChangeAt Go.RowKit Kit CCode CName CFixups CSymbols PObj BObj CGlobalOf BStore BList PLink CSorted CNames
def strI (s : ByteArray) : List Int := s.data.toList.map fun b => (b.toNat : Int)
def badP (x : ByteArray) : Bool := !nameOk x
def sfx (o n : ByteArray) : Bool := !decide (o = n) && Lib.hasSuffix o.data.toList n.data.toList
def sfxP (n o : ByteArray) : Bool := sfx o n
def endsIn (all : List ByteArray) (n : ByteArray) : Bool := all.any (sfxP n)
def tabStep (all : List ByteArray) (n : ByteArray) : List Int := bif endsIn all n then [] else strI n ++ [0]
def tabL (all : List ByteArray) : List Int := 0 :: all.flatMap (tabStep all)
def namesOk (ns : List ByteArray) : Bool := decide (ns.length ≤ 40) && ns.all nameOk
def tabN (ns : List ByteArray) : List Int := bif namesOk ns then tabL (srtN ns) else []
theorem sfxF_any (o n : ByteArray) (N : Nat) (w : World) (ho : o.size ≤ maxLen) (hc : w.cell? ⟨N, 0, none⟩ = some (.string n)) :
    Calls Try.prog 195 #[.string o, .pointer (some ⟨N, 0, none⟩)] w (Ret (.bool (sfxP n o)) w) := by
  unfold maxLen at ho
  have HH := hide (XNames.strings_HasSuffix o n w (by omega))
  cases h : (o.toList == n.toList)
  · have hne : decide (o = n) = false := by rw [← str_eq, h]
    have HV := hide (show sfxP n o = Lib.hasSuffix o.data.toList n.data.toList by unfold sfxP sfx; rw [hne]; rfl)
    clear hne
    generalize Lib.hasSuffix o.data.toList n.data.toList = v at *
    go_enter Try.func195, Try.ntmps195
    go_wp2_with fail
    refine HH.out.mono ?_
    rintro e w' ⟨rfl, rfl⟩
    go_wp2_with fail
    go_ret
    exact ⟨by rw [HV.out]; rfl, Below.refl _ _⟩
  · have hne : decide (o = n) = true := by rw [← str_eq, h]
    have HV := hide (show sfxP n o = false by unfold sfxP sfx; rw [hne]; rfl)
    clear hne HH
    go_enter Try.func195, Try.ntmps195
    go_wp2_with fail
    go_ret
    exact ⟨by rw [HV.out]; rfl, Below.refl _ _⟩
theorem badF_any (x : ByteArray) (w : World) (hx : x.size ≤ maxLen) : Calls Try.prog 213 #[.string x] w (Ret (.bool (badP x)) w) := by
  go_enter Try.func213, Try.ntmps213
  go_wp2_with fail
  refine (nameValid_any x hx w).mono ?_
  rintro e w' ⟨rfl, rfl⟩
  go_wp2_with fail
  go_ret
  exact ⟨rfl, Below.refl _ _⟩
theorem indexBad_any (A : Option Addr) (xs : List ByteArray) (c : Nat) (w : World) (hr : Rd w w.heap.size A (nmC xs)) (hm : xs.length ≤ 1000) (hs : ∀ x ∈ xs, x.size ≤ maxLen) :
    Calls Try.prog 214 #[.slice A xs.length c, .func (.func 213) #[] #[]] w fun e w' => ∃ r : Int, e = .returned (.int .i64 r) ∧ decide (0 ≤ r) = xs.any (badP) ∧ Below w.heap.size w w' := by
  have HR := hide hr
  have HSZ := hide hs
  clear hr hs
  go_enter Try.func214, Try.ntmps214
  go_wp2_with fail
  go_loopw [8] (fun i wr => ∃ k : Nat, k ≤ xs.length ∧ i = .int .i64 k ∧ (xs.take k).any (badP) = false ∧ Below w.heap.size w wr) (fun i _ => xs.length - (intOf i).toNat)
  case atStart => exact ⟨0, Nat.zero_le _, rfl, rfl, Below.refl _ _⟩
  case round =>
    obtain ⟨k, hk, rfl, hn, hb⟩ := hrel
    have HB := hide hb
    by_cases hlt : k < xs.length
    · obtain ⟨b, off, hA, hbb, hc⟩ := (HR.out.below hb) k (.string xs[k]) (by simp [nmC, List.getElem?_eq_getElem hlt])
      have HS := hide (show (xs.take (k + 1)).any (badP) = (badP) xs[k] by rw [take_succ hlt, List.any_append, hn]; simp)
      have HT := hide (show (badP) xs[k] = true → xs.any (badP) = true from fun h => List.any_eq_true.2 ⟨_, List.getElem_mem hlt, h⟩)
      have HP := hide (fun x (hx : x.size ≤ maxLen) => badF_any x wr hx)
      have hsz := HSZ.out _ (List.getElem_mem hlt)
      clear hb hn
      subst hA
      generalize xs[k] = x at *
      have hpred := HP.out x hsz
      cases h : (badP) x
      · have HS' := hide (HS.out.trans h)
        rw [h] at hpred
        clear HT HS h HP
        go_wp2_with fail
        refine hpred.mono ?_
        rintro e w2 ⟨rfl, b2⟩
        have HB' := hide (HB.out.trans (b2.mono HB.out.size))
        clear b2 hc
        go_wp2_with fail
        refine ⟨⟨k + 1, by omega, by go_num, HS'.out, HB'.out⟩, by simp [intOf]; omega⟩
      · have HT' := hide (HT.out h)
        rw [h] at hpred
        clear HT HS h HP
        go_wp2_with fail
        refine hpred.mono ?_
        rintro e w2 ⟨rfl, b2⟩
        have HB' := hide (HB.out.trans (b2.mono HB.out.size))
        clear b2 hc
        go_wp2_with fail
        go_ret
        exact ⟨k, rfl, by rw [HT'.out]; simp, HB'.out⟩
    · have HN := hide (show xs.any (badP) = false by rw [← hn, List.take_of_length_le (by omega)])
      clear hb hn
      go_wp2_with fail
      go_ret
      exact ⟨-1, rfl, by rw [HN.out]; rfl, HB.out⟩
theorem containsBad_any (A : Option Addr) (xs : List ByteArray) (c : Nat) (w : World) (hr : Rd w w.heap.size A (nmC xs)) (hm : xs.length ≤ 1000) (hs : ∀ x ∈ xs, x.size ≤ maxLen) :
    Calls Try.prog 194 #[.slice A xs.length c, .func (.func 213) #[] #[]] w (Ret (.bool (xs.any (badP))) w) := by
  have HQ := hide (indexBad_any A xs c w hr hm hs )
  clear hr hm hs
  go_enter Try.func194, Try.ntmps194
  go_wp2_with fail
  refine HQ.out.mono ?_
  rintro e w2 ⟨r, rfl, hr2, b2⟩
  have HR := hide hr2
  have HB := hide b2
  clear hr2 b2
  go_wp2_with fail
  go_ret
  exact ⟨by rw [← HR.out]; rfl, HB.out⟩
theorem indexSfx_any (n : ByteArray) (N : Nat) (A : Option Addr) (xs : List ByteArray) (c : Nat) (w : World) (hr : Rd w w.heap.size A (nmC xs)) (hm : xs.length ≤ 1000) (hs : ∀ x ∈ xs, x.size ≤ maxLen) (hN : N < w.heap.size) (hc0 : w.cell? ⟨N, 0, none⟩ = some (.string n)) :
    Calls Try.prog 214 #[.slice A xs.length c, .func (.func 195) #[] #[.pointer (some ⟨N, 0, none⟩)]] w fun e w' => ∃ r : Int, e = .returned (.int .i64 r) ∧ decide (0 ≤ r) = xs.any (sfxP n) ∧ Below w.heap.size w w' := by
  have HR := hide hr
  have HSZ := hide hs
  clear hr hs
  go_enter Try.func214, Try.ntmps214
  go_wp2_with fail
  go_loopw [8] (fun i wr => ∃ k : Nat, k ≤ xs.length ∧ i = .int .i64 k ∧ (xs.take k).any (sfxP n) = false ∧ Below w.heap.size w wr) (fun i _ => xs.length - (intOf i).toNat)
  case atStart => exact ⟨0, Nat.zero_le _, rfl, rfl, Below.refl _ _⟩
  case round =>
    obtain ⟨k, hk, rfl, hn, hb⟩ := hrel
    have HB := hide hb
    by_cases hlt : k < xs.length
    · obtain ⟨b, off, hA, hbb, hc⟩ := (HR.out.below hb) k (.string xs[k]) (by simp [nmC, List.getElem?_eq_getElem hlt])
      have HS := hide (show (xs.take (k + 1)).any (sfxP n) = (sfxP n) xs[k] by rw [take_succ hlt, List.any_append, hn]; simp)
      have HT := hide (show (sfxP n) xs[k] = true → xs.any (sfxP n) = true from fun h => List.any_eq_true.2 ⟨_, List.getElem_mem hlt, h⟩)
      have HP := hide (fun x (hx : x.size ≤ maxLen) => sfxF_any x n N wr hx ((hb.cell (p := ⟨N, 0, none⟩) hN).trans hc0))
      have hsz := HSZ.out _ (List.getElem_mem hlt)
      clear hb hn
      subst hA
      generalize xs[k] = x at *
      have hpred := HP.out x hsz
      cases h : (sfxP n) x
      · have HS' := hide (HS.out.trans h)
        rw [h] at hpred
        clear HT HS h HP
        go_wp2_with fail
        refine hpred.mono ?_
        rintro e w2 ⟨rfl, b2⟩
        have HB' := hide (HB.out.trans (b2.mono HB.out.size))
        clear b2 hc
        go_wp2_with fail
        refine ⟨⟨k + 1, by omega, by go_num, HS'.out, HB'.out⟩, by simp [intOf]; omega⟩
      · have HT' := hide (HT.out h)
        rw [h] at hpred
        clear HT HS h HP
        go_wp2_with fail
        refine hpred.mono ?_
        rintro e w2 ⟨rfl, b2⟩
        have HB' := hide (HB.out.trans (b2.mono HB.out.size))
        clear b2 hc
        go_wp2_with fail
        go_ret
        exact ⟨k, rfl, by rw [HT'.out]; simp, HB'.out⟩
    · have HN := hide (show xs.any (sfxP n) = false by rw [← hn, List.take_of_length_le (by omega)])
      clear hb hn
      go_wp2_with fail
      go_ret
      exact ⟨-1, rfl, by rw [HN.out]; rfl, HB.out⟩
theorem containsSfx_any (n : ByteArray) (N : Nat) (A : Option Addr) (xs : List ByteArray) (c : Nat) (w : World) (hr : Rd w w.heap.size A (nmC xs)) (hm : xs.length ≤ 1000) (hs : ∀ x ∈ xs, x.size ≤ maxLen) (hN : N < w.heap.size) (hc0 : w.cell? ⟨N, 0, none⟩ = some (.string n)) :
    Calls Try.prog 194 #[.slice A xs.length c, .func (.func 195) #[] #[.pointer (some ⟨N, 0, none⟩)]] w (Ret (.bool (xs.any (sfxP n))) w) := by
  have HQ := hide (indexSfx_any n N A xs c w hr hm hs hN hc0)
  clear hr hm hs
  go_enter Try.func194, Try.ntmps194
  go_wp2_with fail
  refine HQ.out.mono ?_
  rintro e w2 ⟨r, rfl, hr2, b2⟩
  have HR := hide hr2
  have HB := hide b2
  clear hr2 b2
  go_wp2_with fail
  go_ret
  exact ⟨by rw [← HR.out]; rfl, HB.out⟩
theorem not_any_all (ns : List ByteArray) : (!(ns.any badP)) = ns.all nameOk := by
  induction ns with
  | nil => rfl
  | cons x xs ih => simp only [List.any_cons, List.all_cons, Bool.not_or, badP, Bool.not_not, ← ih]
theorem areNames_any (A : Option Addr) (xs : List ByteArray) (c : Nat) (w : World) (hr : Rd w w.heap.size A (nmC xs)) (hm : xs.length ≤ 1000) (hs : ∀ x ∈ xs, x.size ≤ maxLen) :
    Calls Try.prog 193 #[.slice A xs.length c] w (Ret (.bool (namesOk xs)) w) := by
  have HQ := hide (containsBad_any A xs c w hr hm hs)
  have HE := hide (not_any_all xs)
  clear hr hs
  by_cases h4 : xs.length ≤ 40
  · have e1 : decide ((xs.length : Int) ≤ 40) = true := decide_eq_true (by omega)
    have HV := hide (show namesOk xs = xs.all nameOk by unfold namesOk; rw [decide_eq_true h4]; rfl)
    clear h4
    generalize xs.any badP = v at *
    go_enter Try.func193, Try.ntmps193
    go_wp2_with fail
    refine HQ.out.mono ?_
    rintro e w2 ⟨rfl, b2⟩
    have HB := hide b2
    clear b2
    go_wp2_with fail
    go_ret
    exact ⟨by rw [HV.out, ← HE.out]; rfl, HB.out⟩
  · have e1 : decide ((xs.length : Int) ≤ 40) = false := decide_eq_false (by omega)
    have HV := hide (show namesOk xs = false by unfold namesOk; rw [decide_eq_false h4]; rfl)
    clear h4
    go_enter Try.func193, Try.ntmps193
    go_wp2_with fail
    go_ret
    exact ⟨by rw [HV.out]; rfl, Below.refl _ _⟩
end Go.Proofs.Ytmglgjchemecjaa.CNameTab
/- NameTable and tableOf; the program's. -/
namespace Go.Proofs.Ytmglgjchemecjaa.CTable
set_option maxRecDepth 200000
open Go.ChangeShapes Go.WideShapes Go.ChangeAt Go.RowKit Kit CCode CName CFixups CSymbols PObj BObj CGlobalOf BStore BList PLink CSorted CNames CNameTab
theorem compact_mem {α : Type} [Inhabited α] [DecidableEq α] {zs : List α} {x : α} (h : x ∈ Lib.compact zs) : x ∈ zs := by
  unfold Lib.compact Lib.compactUpTo at h
  obtain ⟨j, hj, rfl⟩ := List.mem_map.1 h
  have hj2 := (List.mem_filter.1 hj).1
  rw [List.mem_range] at hj2
  simp [getElem!_pos, hj2]
theorem srt_mem {xs : List ByteArray} {x : ByteArray} (h : x ∈ srtN xs) : x ∈ xs := by
  unfold srtN at h
  obtain ⟨l, hl, rfl⟩ := List.mem_map.1 h
  have h2 := compact_mem hl
  rw [List.mem_mergeSort] at h2
  obtain ⟨y, hy, rfl⟩ := List.mem_map.1 h2
  exact hy
theorem srt_len_le (xs : List ByteArray) : (srtN xs).length ≤ xs.length := by
  have h1 := Lib.compact_length_le ((bytesOf xs).mergeSort fun x y => decide (x ≤ y))
  rw [List.length_mergeSort] at h1
  have h2 : (bytesOf xs).length = xs.length := by simp [bytesOf]
  have h3 : (srtN xs).length = (sortB xs).length := by simp [srtN]
  unfold sortB at h3
  omega
theorem name_size {s : ByteArray} (h : nameOk s = true) : s.size ≤ 8 := by
  rw [nameOk, Bool.and_eq_true] at h
  have := h.2
  simp only [inB, decide_eq_true_eq] at this
  omega
theorem strI_len (s : ByteArray) : (strI s).length = s.size := by
  unfold strI
  rw [List.length_map, Array.length_toList]
  rfl
theorem str_cells (s : ByteArray) : Lib.strCells s = ints .u8 (strI s) := by
  unfold Lib.strCells strI ints
  rw [List.map_map]
  rfl
/-- A row of bytes handed back. -/
def RetB (zs : List Int) (w : World) (e : Ending) (w' : World) : Prop := ∃ A c, e = .returned (.slice A zs.length c) ∧ Row w' w.heap.size 5 1 A zs.length c (ints .u8 zs) ∧ Below w.heap.size w w'
set_option maxHeartbeats 4000000 in
theorem nameTable_any (A : Option Addr) (xs : List ByteArray) (c base : Nat) (w : World) (h : Row w base 9 1 A xs.length c (nmC xs)) (hm : xs.length ≤ 1000) (hs : ∀ x ∈ xs, x.size ≤ maxLen) :
    Calls Try.prog 176 #[.slice A xs.length c] w (RetB (tabN xs) w) := by
  obtain ⟨i0, hi1, hi2, hi3, hi4⟩ := info_parts CNumber.info8
  have HI := hide (And.intro hi1 (And.intro hi2 (And.intro hi3 hi4)))
  clear hi1 hi2 hi3 hi4
  have HR := hide h
  have HQ := hide (areNames_any A xs c w h.rd hm hs)
  clear h hs
  go_enter Try.func176, Try.ntmps176
  go_wp2_with fail
  refine HQ.out.mono ?_
  rintro e w1 ⟨rfl, b1⟩
  have HB := hide b1
  replace HR := hide (HR.out.call b1)
  clear b1 HQ
  cases hok : namesOk xs
  · have HV := hide (show tabN xs = [] by unfold tabN; rw [hok]; rfl)
    clear hok
    go_wp2_with fail
    go_ret
    rw [HV.out]
    exact ⟨none, 0, rfl, Row.empty _ _ _ _ _, HB.out⟩
  have HV := hide (show tabN xs = tabL (srtN xs) by unfold tabN; rw [hok]; rfl)
  have hn40 : xs.length ≤ 40 := by
    simp only [namesOk, Bool.and_eq_true, decide_eq_true_eq] at hok
    exact hok.1
  have HSZ := hide (show ∀ x ∈ srtN xs, x.size ≤ 8 from fun x hx => by
    simp only [namesOk, Bool.and_eq_true, List.all_eq_true] at hok
    exact name_size (hok.2 x (srt_mem hx)))
  have hsl := srt_len_le xs
  clear hok
  go_wp2_with fail
  have b2 : Below w1.heap.size w1 (w1.alloc (.cells #[.int .u8 0] 5)) := (by repeat (first | exact Below.refl _ _ | with_reducible assumption | (refine Below.drew ?_) | (refine Below.drewN ?_ _) | (refine Below.alloc ?_ (by simp; try omega) _) | (refine Below.setCell ?_ (by simp; try omega) _)))
  have HO := hide (show (w1.alloc (.cells #[.int .u8 0] 5)).ownsRow w.heap.size 5 1 (.slice (some ⟨w1.heap.size, 0, none⟩) 1 1) 1 (ints .u8 [0]) from own_base (World.ownsRow_lit (base := w1.heap.size) (e := 5) (size := 1) w1 #[.int .u8 0] 1 (Nat.le_refl _) (by unfold maxLen; omega) rfl) HB.out.size)
  replace HR := hide (HR.out.call b2)
  replace HB := hide (HB.out.trans (b2.mono HB.out.size))
  clear b2
  generalize w1.alloc (.cells #[.int .u8 0] 5) = w2 at *
  generalize w1.heap.size = L at *
  refine (sorted_any xs A c base w2 HR.out (by omega)).mono ?_
  rintro e w3 ⟨A3, c3, rfl, r3, b3⟩
  have HN := hide r3
  have HN2 := hide (r3.down HB.out.size)
  replace HO := hide (own_call b3 HO.out)
  replace HB := hide (HB.out.trans (b3.mono HB.out.size))
  clear b3
  clear r3
  generalize hall : srtN xs = all at *
  have HALL := hide hall
  clear hall HR
  go_wp2_with fail
  go_loopw [3, 15] (fun s i wi => ∃ (k : Nat) (A1 : Option Addr) (c1 : Nat) (zs : List Int), k ≤ all.length ∧ s = .slice A1 zs.length c1 ∧ i = .int .i64 k ∧ zs = 0 :: (all.take k).flatMap (tabStep all) ∧ zs.length ≤ 1 + 9 * k ∧ 0 < zs.length ∧ wi.ownsRow w.heap.size 5 1 (.slice A1 zs.length c1) zs.length (ints .u8 zs) ∧ Row wi w.heap.size 9 1 A3 all.length c3 (nmC all) ∧ Below w.heap.size w wi) (fun _ i _ => all.length - (intOf i).toNat)
  case atStart => exact ⟨0, _, 1, [0], Nat.zero_le _, rfl, rfl, rfl, by simp, by simp, HO.out, HN2.out, HB.out⟩
  case round =>
    clear HN HN2 HO HB
    obtain ⟨k, A1, c1, zs, hk, rfl, rfl, hzs, hzl, hz0, hown, hrow, hb⟩ := hrel
    have HO := hide hown
    have HN := hide hrow
    have HB := hide hb
    have HZS := hide hzs
    by_cases hlt : k < all.length
    · obtain ⟨b, off, hA, hbb, hc⟩ := hrow.rd k (.string all[k]) (by simp [nmC, List.getElem?_eq_getElem hlt])
      have HST := hide (show 0 :: (all.take (k + 1)).flatMap (tabStep all) = zs ++ tabStep all all[k] from by
        rw [take_succ hlt, List.flatMap_append, hzs]
        simp)
      have hsz := HSZ.out _ (List.getElem_mem hlt)
      have HA := hide hA
      clear hown hrow hb hzs
      rw [hA]
      clear hA
      generalize all[k] = x at *
      go_wp2_with fail
      have B1 : Below wr.heap.size wr (wr.alloc (.cells #[.string x] 9)) := (by repeat (first | exact Below.refl _ _ | with_reducible assumption | (refine Below.drew ?_) | (refine Below.drewN ?_ _) | (refine Below.alloc ?_ (by simp; try omega) _) | (refine Below.setCell ?_ (by simp; try omega) _)))
      have HX := hide (Box.new wr 9 #[.string x])
      replace HO := hide (own_call B1 HO.out)
      replace HB := hide (HB.out.trans (B1.mono HB.out.size))
      replace HN := hide (HN.out.call B1)
      clear B1
      clear hc
      generalize wr.alloc (.cells #[.string x] 9) = wx at *
      generalize wr.heap.size = N at *
      have hxc := HX.out.cell 0
      simp only [List.getElem?_toArray, List.getElem?_cons_zero] at hxc
      have hxl := HX.out.lt
      have HH := hide (containsSfx_any x N A3 all c3 wx HN.out.rd (by omega) (fun y hy => by have := HSZ.out y hy; unfold maxLen; omega) hxl hxc)
      rw [HA.out] at HH
      refine HH.out.mono ?_
      rintro e w5 ⟨rfl, b5⟩
      clear HH hxc hxl
      replace HO := hide (own_call b5 HO.out)
      replace HB := hide (HB.out.trans (b5.mono HB.out.size))
      replace HX := hide (HX.out.call b5)
      replace HN := hide (HN.out.call b5)
      clear b5
      have HE := hide (show CNameTab.endsIn all x = all.any (sfxP x) from rfl)
      cases hh : all.any (sfxP x)
      · have HTS := hide (show tabStep all x = strI x ++ [0] from by unfold tabStep; rw [HE.out, hh]; rfl)
        clear hh HE
        have x0 := HX.out.cell 0
        simp only [List.getElem?_toArray, List.getElem?_cons_zero, List.getElem?_cons_succ] at x0
        have hxl := HX.out.lt
        obtain ⟨g, rfl, hgb, hgl, hgk, _⟩ := own_of (Row.own HO.out) hz0
        have HRO := hide (Row.own HO.out)
        have HG := hide (And.intro hgb hgk)
        clear hgb hgl hgk
        go_wp2_with (at_builtin; refine Lib.wpList_append_own_string w5 rfl (.tmp 22) (.tmp 23) 22 9 rfl w.heap.size 5 i0 Try.underlying22 Try.underlying9 HI.out.1 HI.out.2.1 HI.out.2.2.1 HI.out.2.2.2 (.slice (some ⟨g, 0, none⟩) zs.length c1) zs.length (ints .u8 zs) rfl HO.out x rfl ?n1 ?n2 ?hb ?_)
        case n1 => unfold maxLen; omega
        case n2 => omega
        case hb => exact HB.out.size
        intro v6 w6 o6 g6 h6
        have hlen6 : (zs ++ strI x).length = zs.length + x.size := by rw [List.length_append, strI_len]
        obtain ⟨A6, c6, rfl, r6⟩ : ∃ A6 c6, v6 = .slice A6 (zs ++ strI x).length c6 ∧ Row w6 w.heap.size 5 1 A6 (zs ++ strI x).length c6 (ints .u8 (zs ++ strI x)) := by
          have e : ints .u8 zs ++ Lib.strCells x = ints .u8 (zs ++ strI x) := by rw [str_cells]; simp [ints]
          rw [e, ← hlen6] at o6
          rcases o6.2 with ⟨hv, h0⟩ | ⟨g', cap, cur, hv, _⟩
          · exact ⟨none, 0, by rw [hv, h0], by rw [hv] at o6; have := o6; rw [h0] at this ⊢; exact .inr this⟩
          · exact ⟨_, cap, hv, by rw [hv] at o6; exact .inr o6⟩
        have HB6 := hide (HB.out.grown g6 HB.out.size (fun j hj => by have hj : some g = some j := hj; injection hj with hj; rw [← hj]; exact HG.out.1))
        have HN6 := hide (HN.out.grown g6 (fun j hj e => CMarkRows.apartT HN.out HRO.out (by decide) j hj (HG.out.2.trans e)))
        have HR6 := hide r6
        have HL6 := hide hlen6
        clear o6 g6 h6 r6 hlen6 HRO HO HN HB
        have hz6 : (zs ++ strI x).length ≤ 400 := by have := HL6.out; omega
        generalize hys : zs ++ strI x = ys at *
        have HY6 := hide hys
        clear hys
        go_wp2_with (at_builtin; refine wpList_app (w6.alloc (.cells #[.int .u8 0] 5)) rfl (.tmp 25) (.tmp 26) 22 rfl 5 i0 (.int .u8 0) 1 1 Try.underlying22 HI.out.1 HI.out.2.1 HI.out.2.2.1 HI.out.2.2.2 rfl (by decide) w.heap.size A6 ys.length c6 (ints .u8 ys) rfl (HR6.out.alloc _) ?hb (some ⟨w6.heap.size, 0, none⟩) 1 1 [.int .u8 0] rfl (rd_lit w6 #[.int .u8 0] 5 _ rfl) rfl (fun h => by cases h) ?o1 ?n1 ?n2 ?_)
        case hb => have h := (HB6.out.alloc HB6.out.size (.cells #[.int .u8 0] 5)).size; simpa using h
        case o1 => exact oneI1
        case n1 => unfold maxLen; omega
        case n2 => omega
        intro A7 n7 c7 w7 hn o7 g7 k7
        have HB7 := hide ((HB6.out.alloc HB6.out.size (.cells #[.int .u8 0] 5)).grown g7 (HB6.out.alloc HB6.out.size (.cells #[.int .u8 0] 5)).size (fun j hj => (HR6.out.lt j hj).1))
        have HN7 := hide ((HN6.out.alloc (.cells #[.int .u8 0] 5)).grown g7 (fun j hj e => CMarkRows.apartT (HN6.out.alloc (.cells #[.int .u8 0] 5)) (HR6.out.alloc (.cells #[.int .u8 0] 5)) (by decide) j hj e))
        have HR7 := hide (show w7.ownsRow w.heap.size 5 1 (.slice A7 (ys ++ [0]).length c7) (ys ++ [0]).length (ints .u8 (ys ++ [0])) from by
          subst hn
          have h : Row w7 w.heap.size 5 1 A7 (ys ++ [0]).length c7 (ints .u8 (ys ++ [0])) := by
            rw [List.length_append]
            simpa [ints] using o7
          exact h.elim (fun h => by have := h.1; simp at this) id)
        subst hn
        clear o7 g7 k7
        have HYS := hide (show ys ++ [0] = 0 :: (all.take (k + 1)).flatMap (tabStep all) from by rw [HST.out, HTS.out, ← List.append_assoc, HY6.out])
        go_wp2_with fail
        refine ⟨⟨k + 1, A7, c7, ys ++ [0], by omega, by simp, by go_num, HYS.out, by have := HL6.out; simp; omega, by simp, HR7.out, by rw [← HA.out]; exact HN7.out, HB7.out⟩, by simp [intOf]; omega⟩
      · have HTS := hide (show tabStep all x = [] from by unfold tabStep; rw [HE.out, hh]; rfl)
        clear hh HE
        go_wp2_with fail
        refine ⟨⟨k + 1, A1, c1, zs, by omega, rfl, by go_num, by rw [HST.out, HTS.out, List.append_nil], by omega, hz0, HO.out, by rw [← HA.out]; exact HN.out, HB.out⟩, by simp [intOf]; omega⟩
    · have hke : k = all.length := by omega
      subst hke
      have HF := hide (show tabN xs = zs from by
        rw [HV.out, hzs, List.take_length]
        rfl)
      clear hown hrow hb hzs
      go_wp2_with fail
      go_ret
      rw [HF.out]
      exact ⟨A1, c1, rfl, .inr HO.out, HB.out⟩
end Go.Proofs.Ytmglgjchemecjaa.CTable
/- tableOf: the table of an object's names; the program's. -/
namespace Go.Proofs.Ytmglgjchemecjaa.CTableOf
set_option maxRecDepth 200000
open Go.ChangeShapes Go.WideShapes Go.ChangeAt Go.RowKit Kit CCode CName CFixups CSymbols PObj BObj CGlobalOf CObjValid BStore BList PLink CSorted CNames CNameTab CTable
def namesD (d : OD) : List ByteArray := d.ss.map (·.nm) ++ d.ys.map (·.1)
set_option maxHeartbeats 4000000 in
theorem tableOf_any (o : OV) (w : World) (hr : RdO w w.heap.size o) (hf : Fit o) (h8 : o.ps.length ≤ 8) (h12 : o.ys.length ≤ 12) :
    Calls Try.prog 142 #[.agg #[.slice o.A o.ps.length o.c, .slice o.Y o.ys.length o.yc]] w (RetB (tabN (namesD o.d)) w) := by
  obtain ⟨i0, hi1, hi2, hi3, hi4⟩ := info_parts infoStr
  have HI := hide (And.intro hi1 (And.intro hi2 (And.intro hi3 hi4)))
  clear hi1 hi2 hi3 hi4
  have HR := hide hr
  have HX := hide ((Box.new w 26 #[.slice o.A o.ps.length o.c, .slice o.Y o.ys.length o.yc]).alloc (.cells #[] 9))
  have HB := hide (show Below w.heap.size w ((w.alloc (.cells #[.slice o.A o.ps.length o.c, .slice o.Y o.ys.length o.yc] 26)).alloc (.cells #[] 9)) from (by repeat (first | exact Below.refl _ _ | with_reducible assumption | (refine Below.drew ?_) | (refine Below.drewN ?_ _) | (refine Below.alloc ?_ (by simp; try omega) _) | (refine Below.setCell ?_ (by simp; try omega) _))))
  have HSZ := hide (show ∀ x ∈ namesD o.d, x.size ≤ maxLen from fun x hx => by
    rcases List.mem_append.1 hx with hx | hx
    · obtain ⟨s, hs, rfl⟩ := List.mem_map.1 hx
      obtain ⟨p, hp, rfl⟩ := List.mem_map.1 hs
      exact (hf.p p hp).1
    · obtain ⟨s, hs, rfl⟩ := List.mem_map.1 hx
      exact hf.y s hs)
  clear hr hf
  have x0 := HX.out.cell 0
  simp only [List.getElem?_toArray, List.getElem?_cons_zero, List.getElem?_cons_succ] at x0
  have hxl := HX.out.lt
  go_enter Try.func142, Try.ntmps142
  go_wp2_with fail
  clear x0 hxl
  generalize (w.alloc (.cells #[.slice o.A o.ps.length o.c, .slice o.Y o.ys.length o.yc] 26)).alloc (.cells #[] 9) = w0 at *
  generalize hnn : namesD o.d = nn at *
  have HNN := hide hnn
  clear hnn
  go_loopw [3, 12] (fun s i wi => ∃ (k : Nat) (A1 : Option Addr) (c1 : Nat) (xs : List ByteArray), k ≤ o.ps.length ∧ s = .slice A1 xs.length c1 ∧ i = .int .i64 k ∧ xs = (o.ps.take k).map (·.nm) ∧ xs.length = k ∧ Row wi w.heap.size 9 1 A1 xs.length c1 (nmC xs) ∧ Box wi w.heap.size 26 #[.slice o.A o.ps.length o.c, .slice o.Y o.ys.length o.yc] ∧ Below w.heap.size w wi) (fun _ i _ => o.ps.length - (intOf i).toNat)
  case atStart => exact ⟨0, _, 0, [], Nat.zero_le _, rfl, rfl, rfl, rfl, Row.empty _ _ _ _ _, HX.out, HB.out⟩
  case round =>
    clear HX HB
    obtain ⟨k, A1, c1, xs, hk, rfl, rfl, hxs, hxl, hrow, hx, hb⟩ := hrel
    have HB := hide hb
    have HX := hide hx
    have HRW := hide hrow
    have HXL := hide hxl
    have hxk : xs.length ≤ 8 := by omega
    by_cases hlt : k < o.ps.length
    · obtain ⟨b, off, hA, hbb, hc⟩ := (HR.out.1.1.below hb).row secC_len (by decide) hlt
      have hc0 := hc 0 _ rfl
      have hc1 := hc 1 _ rfl
      have hc2 := hc 2 _ rfl
      have hc3 := hc 3 _ rfl
      have hc4 := hc 4 _ rfl
      have hc5 := hc 5 _ rfl
      simp only [Nat.add_zero] at hc0
      have HXS := hide (show (o.ps.take (k + 1)).map (·.nm) = xs ++ [o.ps[k].nm] from by rw [take_succ hlt, List.map_append, hxs]; rfl)
      have HA := hide hA
      clear hrow hx hb hxs hxl hc
      rw [hA]
      clear hA
      generalize o.ps[k] = p at *
      have B1 : Below wr.heap.size wr (wr.alloc (.cells #[.string p.nm, .int .i64 p.kd, .int .i64 p.al, .slice p.A p.zs.length p.c, .int .i64 p.sz, .slice p.F p.fs.length p.fc] 73)) := (by repeat (first | exact Below.refl _ _ | with_reducible assumption | (refine Below.drew ?_) | (refine Below.drewN ?_ _) | (refine Below.alloc ?_ (by simp; try omega) _) | (refine Below.setCell ?_ (by simp; try omega) _)))
      have B2 : Below (wr.alloc (.cells #[.string p.nm, .int .i64 p.kd, .int .i64 p.al, .slice p.A p.zs.length p.c, .int .i64 p.sz, .slice p.F p.fs.length p.fc] 73)).heap.size (wr.alloc (.cells #[.string p.nm, .int .i64 p.kd, .int .i64 p.al, .slice p.A p.zs.length p.c, .int .i64 p.sz, .slice p.F p.fs.length p.fc] 73)) ((wr.alloc (.cells #[.string p.nm, .int .i64 p.kd, .int .i64 p.al, .slice p.A p.zs.length p.c, .int .i64 p.sz, .slice p.F p.fs.length p.fc] 73)).alloc (.cells #[.string p.nm] 9)) := (by repeat (first | exact Below.refl _ _ | with_reducible assumption | (refine Below.drew ?_) | (refine Below.drewN ?_ _) | (refine Below.alloc ?_ (by simp; try omega) _) | (refine Below.setCell ?_ (by simp; try omega) _)))
      have HRD := hide (show Rd ((wr.alloc (.cells #[.string p.nm, .int .i64 p.kd, .int .i64 p.al, .slice p.A p.zs.length p.c, .int .i64 p.sz, .slice p.F p.fs.length p.fc] 73)).alloc (.cells #[.string p.nm] 9)) (wr.heap.size + 2) (some ⟨wr.heap.size + 1, 0, none⟩) [.string p.nm] from by
        have h := rd_lit (wr.alloc (.cells #[.string p.nm, .int .i64 p.kd, .int .i64 p.al, .slice p.A p.zs.length p.c, .int .i64 p.sz, .slice p.F p.fs.length p.fc] 73)) #[.string p.nm] 9 _ rfl
        rw [World.size_alloc] at h
        exact h)
      replace HRW := hide ((HRW.out.call B1).call B2)
      replace HX := hide ((HX.out.call B1).call B2)
      replace HB := hide (HB.out.trans (B1.mono HB.out.size))
      clear B1
      replace HB := hide (HB.out.trans (B2.mono HB.out.size))
      clear B2
      go_wp2_with (at_builtin; refine wpList_app ((wr.alloc (.cells #[.string p.nm, .int .i64 p.kd, .int .i64 p.al, .slice p.A p.zs.length p.c, .int .i64 p.sz, .slice p.F p.fs.length p.fc] 73)).alloc (.cells #[.string p.nm] 9)) rfl (.tmp 16) (.tmp 19) 64 rfl 9 i0 (.string ByteArray.empty) 1 16 Try.underlying64 HI.out.1 HI.out.2.1 HI.out.2.2.1 HI.out.2.2.2 rfl (by decide) w.heap.size A1 xs.length c1 (nmC xs) rfl HRW.out ?hb (some ⟨wr.heap.size + 1, 0, none⟩) 1 1 [.string p.nm] rfl HRD.out rfl (fun h => by cases h) ?o1 ?n1 ?n2 ?_)
      case hb => have h := HB.out.size; simpa using h
      case o1 => exact one_str p.nm
      case n1 => unfold maxLen; omega
      case n2 => omega
      intro A3 n3 c3 w3 hn o3 g3 k3
      have HB3 := hide (HB.out.grown g3 HB.out.size (fun j hj => (HRW.out.lt j hj).1))
      have HX3 := hide (HX.out.grown g3 (HRW.out.box HX.out (by decide)))
      have HR3 := hide (show Row w3 w.heap.size 9 1 A3 (xs ++ [p.nm]).length c3 (nmC (xs ++ [p.nm])) from by
        subst hn
        rw [List.length_append, ← strs_snoc]
        simpa using o3)
      subst hn
      clear o3 g3 k3
      go_wp2_with fail
      refine ⟨⟨k + 1, A3, c3, xs ++ [p.nm], by omega, by simp, by go_num, HXS.out.symm, by rw [List.length_append, HXL.out]; rfl, HR3.out, by have h := HX3.out; rw [HA.out] at h; exact h, HB3.out⟩, by simp [intOf]; omega⟩
    · have hke : k = o.ps.length := by omega
      subst hke
      rw [List.take_length] at hxs
      have HX0 := hide hxs
      have HL0 := hide hxl
      clear hrow hx hb hxs hxl hlt hk
      have x1 := HX.out.cell 1
      simp only [List.getElem?_toArray, List.getElem?_cons_zero, List.getElem?_cons_succ] at x1
      have hxl := HX.out.lt
      go_wp2_with fail
      clear x1 hxl
      have hx8 : xs.length ≤ 8 := by have := HL0.out; omega
      generalize hq0 : xs = x0 at *
      clear hq0
      go_loopw [3, 25] (fun s i wi => ∃ (k : Nat) (A1 : Option Addr) (c1 : Nat) (xs : List ByteArray), k ≤ o.ys.length ∧ s = .slice A1 xs.length c1 ∧ i = .int .i64 k ∧ xs = x0 ++ (o.ys.take k).map (·.1) ∧ xs.length ≤ 8 + k ∧ Row wi w.heap.size 9 1 A1 xs.length c1 (nmC xs) ∧ Below w.heap.size w wi) (fun _ i _ => o.ys.length - (intOf i).toNat)
      case atStart => exact ⟨0, A1, c1, x0, Nat.zero_le _, rfl, rfl, (List.append_nil _).symm, by omega, HRW.out, HB.out⟩
      case round =>
        clear HX HB HRW
        obtain ⟨k, A1, c1, xs, hk, rfl, rfl, hxs, hxl, hrow, hb⟩ := hrel
        have HB := hide hb
        have HRW := hide hrow
        have hxk : xs.length ≤ 20 := by omega
        by_cases hlt : k < o.ys.length
        · obtain ⟨b, off, hA, hbb, hc⟩ := (HR.out.2.below hb).row symbolC_len (by decide) hlt
          have hc0 := hc 0 _ rfl
          have hc1 := hc 1 _ rfl
          have hc2 := hc 2 _ rfl
          have hc3 := hc 3 _ rfl
          simp only [Nat.add_zero] at hc0
          have HXS := hide (show x0 ++ (o.ys.take (k + 1)).map (·.1) = xs ++ [o.ys[k].1] from by rw [take_succ hlt, List.map_append, ← List.append_assoc, hxs]; rfl)
          clear hrow hb hxs hc
          rw [hA]
          clear hA
          generalize o.ys[k] = z at *
          obtain ⟨z1, z2, z3, z4⟩ := z
          simp only at hc0 hc1 hc2 hc3 HXS
          have B1 : Below wr.heap.size wr (wr.alloc (.cells #[.string z1, .int .i64 z2, .int .i64 z3, .int .i64 z4] 69)) := (by repeat (first | exact Below.refl _ _ | with_reducible assumption | (refine Below.drew ?_) | (refine Below.drewN ?_ _) | (refine Below.alloc ?_ (by simp; try omega) _) | (refine Below.setCell ?_ (by simp; try omega) _)))
          have B2 : Below (wr.alloc (.cells #[.string z1, .int .i64 z2, .int .i64 z3, .int .i64 z4] 69)).heap.size (wr.alloc (.cells #[.string z1, .int .i64 z2, .int .i64 z3, .int .i64 z4] 69)) ((wr.alloc (.cells #[.string z1, .int .i64 z2, .int .i64 z3, .int .i64 z4] 69)).alloc (.cells #[.string z1] 9)) := (by repeat (first | exact Below.refl _ _ | with_reducible assumption | (refine Below.drew ?_) | (refine Below.drewN ?_ _) | (refine Below.alloc ?_ (by simp; try omega) _) | (refine Below.setCell ?_ (by simp; try omega) _)))
          have HRD := hide (show Rd ((wr.alloc (.cells #[.string z1, .int .i64 z2, .int .i64 z3, .int .i64 z4] 69)).alloc (.cells #[.string z1] 9)) (wr.heap.size + 2) (some ⟨wr.heap.size + 1, 0, none⟩) [.string z1] from by
            have h := rd_lit (wr.alloc (.cells #[.string z1, .int .i64 z2, .int .i64 z3, .int .i64 z4] 69)) #[.string z1] 9 _ rfl
            rw [World.size_alloc] at h
            exact h)
          replace HRW := hide ((HRW.out.call B1).call B2)
          replace HB := hide (HB.out.trans (B1.mono HB.out.size))
          clear B1
          replace HB := hide (HB.out.trans (B2.mono HB.out.size))
          clear B2
          go_wp2_with (at_builtin; refine wpList_app ((wr.alloc (.cells #[.string z1, .int .i64 z2, .int .i64 z3, .int .i64 z4] 69)).alloc (.cells #[.string z1] 9)) rfl (.tmp 29) (.tmp 32) 64 rfl 9 i0 (.string ByteArray.empty) 1 16 Try.underlying64 HI.out.1 HI.out.2.1 HI.out.2.2.1 HI.out.2.2.2 rfl (by decide) w.heap.size A1 xs.length c1 (nmC xs) rfl HRW.out ?hb (some ⟨wr.heap.size + 1, 0, none⟩) 1 1 [.string z1] rfl HRD.out rfl (fun h => by cases h) ?o1 ?n1 ?n2 ?_)
          case hb => have h := HB.out.size; simpa using h
          case o1 => exact one_str z1
          case n1 => unfold maxLen; omega
          case n2 => omega
          intro A3 n3 c3 w3 hn o3 g3 k3
          have HB3 := hide (HB.out.grown g3 HB.out.size (fun j hj => (HRW.out.lt j hj).1))
          have HR3 := hide (show Row w3 w.heap.size 9 1 A3 (xs ++ [z1]).length c3 (nmC (xs ++ [z1])) from by
            subst hn
            rw [List.length_append, ← strs_snoc]
            simpa using o3)
          subst hn
          clear o3 g3 k3
          go_wp2_with fail
          refine ⟨⟨k + 1, A3, c3, xs ++ [z1], by omega, by simp, by go_num, HXS.out.symm, by simp; omega, HR3.out, HB3.out⟩, by simp [intOf]; omega⟩
        · have hke : k = o.ys.length := by omega
          subst hke
          have HF := hide (show nn = xs from by
            rw [hxs, List.take_length, HX0.out, ← HNN.out]
            simp [namesD, OV.d, List.map_map]
            exact fun _ _ => rfl)
          have HQ := hide (nameTable_any A1 xs c1 _ wr hrow (by omega) (by rw [← HF.out]; exact HSZ.out))
          clear hrow hb hxs
          go_wp2_with fail
          refine HQ.out.mono ?_
          rintro e w4 ⟨A4, c4, rfl, r4, b4⟩
          have HFF := hide (And.intro (r4.down HB.out.size) (HB.out.trans (b4.mono HB.out.size)))
          clear r4 b4 HQ
          go_wp2_with fail
          go_ret
          show RetB (tabN nn) w _ _
          rw [HF.out]
          exact ⟨A4, c4, rfl, HFF.out.1, HFF.out.2⟩
end Go.Proofs.Ytmglgjchemecjaa.CTableOf
/- NameAt and PlaceOf: where a name stands in a table; the program's. -/
namespace Go.Proofs.Ytmglgjchemecjaa.CPlOf
set_option maxRecDepth 200000
open Go.ChangeShapes Go.WideShapes Go.ChangeAt Go.RowKit Kit CCode CFixups CSymbols PObj BObj CGlobalOf BStore BList PLink CSorted CNames CNameTab CTable
/-- Bytes up to the first 0, if there is one. -/
def cutZ : List Int → Option (List Int)
  | [] => none
  | x :: xs => if x = 0 then some [] else (cutZ xs).map (x :: ·)
def idxV : Option (List Int) → Int
  | some p => p.length
  | none => -1
theorem idx_cut : ∀ xs : List Int, InR 0 255 xs → Lib.indexByte (Lib.bytesOf xs) 0 = idxV (cutZ xs)
  | [], _ => rfl
  | x :: xs, h => by
    have ih := idx_cut xs fun y hy => h y (List.mem_cons_of_mem _ hy)
    have hx := h x List.mem_cons_self
    have e : Lib.bytesOf (x :: xs) = UInt8.ofNat x.toNat :: Lib.bytesOf xs := rfl
    rw [e, Lib.indexByte, ih, cutZ]
    by_cases h0 : x = 0
    · subst h0
      rfl
    · have hne : (UInt8.ofNat x.toNat == 0) = false := by
        rw [beq_eq_false_iff_ne]
        intro he
        have h1 := congrArg UInt8.toNat he
        rw [UInt8.toNat_ofNat'] at h1
        have h2 : x.toNat % 256 = x.toNat := Nat.mod_eq_of_lt (by omega)
        have h3 : x.toNat = 0 := by simpa [h2] using h1
        omega
      rw [hne, if_neg h0]
      cases hc : cutZ xs with
      | none => simp [idxV]
      | some p =>
        have hi : idxV (some p) = p.length := rfl
        have hne2 : (idxV (some p) == -1) = false := beq_eq_false_iff_ne.2 (by rw [hi]; omega)
        rw [if_neg (by decide), hne2, if_neg (by decide), hi]
        simp [idxV]
theorem cut_take : ∀ (xs p : List Int), cutZ xs = some p → p = xs.take p.length ∧ p.length < xs.length
  | [], p, h => by cases h
  | x :: xs, p, h => by
    rw [cutZ] at h
    split at h
    · injection h with h
      subst h
      simp
    · cases hc : cutZ xs with
      | none => rw [hc] at h; cases h
      | some q =>
        rw [hc] at h
        injection h with h
        subst h
        obtain ⟨h1, h2⟩ := cut_take xs q hc
        refine ⟨?_, by simpa using h2⟩
        simp only [List.length_cons, List.take_succ_cons]
        rw [← h1]
def nmAt (t : List Int) (k : Nat) : Option ByteArray := (cutZ (t.drop k)).map strOfNums
def plGo (t : List Int) (s : ByteArray) : Nat → Nat → Int
  | 0, _ => -1
  | n + 1, k => if nmAt t k = some s then k else plGo t s n (k + 1)
def plOf (t : List Int) (s : ByteArray) : Int := plGo t s t.length 0
def nmV : Option ByteArray → Value
  | some s => .tuple #[.string s, .bool true]
  | none => .tuple #[.string ⟨#[]⟩, .bool false]
theorem nameAt_any (A : Option Addr) (t : List Int) (c k : Nat) (B : Nat) (w : World) (hr : Rd w B A (ints .u8 t)) (hz : InR 0 255 t) (hm : t.length ≤ 1000) (hk : k < t.length) (hcap : t.length ≤ c) :
    Calls Try.prog 178 #[.slice A t.length c, .int .i64 k] w (Pure (nmV (nmAt t k)) w) := by
  obtain ⟨b, off, rfl, _, _⟩ := hr.int hk
  have HR := hide hr
  have hws : IntKind.i64.wrap ((t.length : Int) - 1) = (t.length : Int) - 1 := IntWalk.i64_in _ (by omega)
  have hin : inB (k : Int) 0 ((t.length : Int) - 1) = true := by simp [inB]; omega
  have HN := hide hin
  have hid := idx_cut (t.drop k) fun y hy => hz y (List.mem_of_mem_drop hy)
  have hck : k ≤ c := by omega
  have hne : ¬ c = k := by omega
  have HX := hide (XBytes.bytes_IndexByte b (off + k) (t.length - k) (c - k) (t.drop k) 0 w (by simp) (fun i hi => by
    obtain ⟨b', off', hA, _, hc⟩ := hr (k + i) (.int .u8 ((t.drop k).getD i 0)) (by
      rw [ints, List.getElem?_map, List.getD_eq_getElem?_getD, List.getElem?_drop, List.getElem?_eq_getElem (by omega)]
      rfl)
    injection hA with hA
    injection hA with e1 e2
    subst e1 e2
    rw [Nat.add_assoc]
    exact hc))
  have HI := hide (show Lib.indexByte (Lib.bytesOf (t.drop k)) ((0 : Int).toNat.toUInt8) = idxV (cutZ (t.drop k)) from hid)
  rw [HI.out] at HX
  have hkn : k ≤ t.length := by omega
  clear hid hin hr
  cases hc : cutZ (t.drop k) with
  | none =>
    have HV := hide (show nmAt t k = none from by unfold nmAt; rw [hc]; rfl)
    rw [hc] at HX
    clear hc HI
    go_enter Try.func178, Try.ntmps178
    go_wp2_with fail
    refine (within_any _ _ _ _).mono ?_
    rintro e w' ⟨rfl, rfl⟩
    rw [HN.out]
    go_wp2_with fail
    refine HX.out.mono ?_
    rintro e w' ⟨rfl, rfl⟩
    simp only [idxV]
    go_wp2_with fail
    go_ret2
    exact ⟨by rw [HV.out]; rfl, rfl⟩
  | some p =>
    obtain ⟨hp1, hp2⟩ := cut_take _ _ hc
    rw [List.length_drop] at hp2
    have HV := hide (show nmAt t k = some (strOfNums p) from by unfold nmAt; rw [hc]; rfl)
    rw [hc] at HX
    have HP1 := hide hp1
    have hadd : IntKind.i64.wrap ((k : Int) + p.length) = (k : Int) + p.length := IntWalk.i64_in _ (by omega)
    have hconv := CEqual.conv_run (w := w) (B := B) (A := some ⟨b, off + k, none⟩) (xs := p) (by
      intro i u hi
      rw [hp1, ints, List.getElem?_map] at hi
      have hip : i < p.length := by
        rcases Nat.lt_or_ge i p.length with h | h
        · exact h
        · rw [List.getElem?_eq_none (by rw [List.length_take]; omega)] at hi
          cases hi
      rw [List.getElem?_take_of_lt hip, List.getElem?_drop] at hi
      obtain ⟨b', off', hA, hb', hcc⟩ := HR.out (k + i) u (by rw [ints, List.getElem?_map]; exact hi)
      injection hA with hA
      injection hA with e1 e2
      subst e1 e2
      exact ⟨b, off + k, rfl, hb', by rw [Nat.add_assoc]; exact hcc⟩) (c - k)
    clear hc HI hp1
    have q1 : ((k : Int) + p.length).toNat = k + p.length := by omega
    have q2 : (0 : Int) ≤ (k : Int) + p.length := by omega
    have q3 : (k : Int) + p.length ≤ c := by omega
    have q4 : k ≤ k + p.length := by omega
    have q5 : k + p.length - k = p.length := by omega
    have q6 : decide ((p.length : Int) < 0) = false := decide_eq_false (by omega)
    go_enter Try.func178, Try.ntmps178
    go_wp2_with fail
    refine (within_any _ _ _ _).mono ?_
    rintro e w' ⟨rfl, rfl⟩
    rw [HN.out]
    go_wp2_with fail
    refine HX.out.mono ?_
    rintro e w' ⟨rfl, rfl⟩
    simp only [idxV]
    go_wp2_with fail
    go_ret2
    exact ⟨by rw [HV.out]; rfl, rfl⟩
theorem placeOf_any (A : Option Addr) (t : List Int) (c : Nat) (s : ByteArray) (B : Nat) (w : World) (hr : Rd w B A (ints .u8 t)) (hz : InR 0 255 t) (hm : t.length ≤ 1000) (hcap : t.length ≤ c) :
    Calls Try.prog 145 #[.slice A t.length c, .string s] w (Pure (.int .i64 (plOf t s)) w) := by
  have HN := hide (fun k (hk : k < t.length) => nameAt_any A t c k B w hr hz hm hk hcap)
  clear hr hz hcap
  go_enter Try.func145, Try.ntmps145
  go_wp2_with fail
  go_loopw [10] (fun i wi => ∃ k : Nat, k ≤ t.length ∧ i = .int .i64 k ∧ plOf t s = plGo t s (t.length - k) k ∧ wi = w) (fun i _ => t.length - (intOf i).toNat)
  case atStart => exact ⟨0, Nat.zero_le _, rfl, rfl, rfl⟩
  case round =>
    obtain ⟨k, hk, rfl, hp, rfl⟩ := hrel
    by_cases hlt : k < t.length
    · obtain ⟨m, hm2⟩ : ∃ m, t.length - k = m + 1 := ⟨t.length - k - 1, by omega⟩
      have HP := hide (show plOf t s = if nmAt t k = some s then (k : Int) else plGo t s m (k + 1) from by rw [hp, hm2]; rfl)
      have hm3 : t.length - (k + 1) = m := by omega
      have HM := hide hm3
      clear hp hm2 hm3
      have HC := hide (HN.out k hlt)
      generalize nmAt t k = r at *
      go_wp2_with fail
      refine HC.out.mono ?_
      rintro e w' ⟨rfl, rfl⟩
      cases r with
      | none =>
        have HV := hide (HP.out.trans (if_neg (fun h => by cases h)))
        simp only [nmV]
        clear HP HC
        go_wp2_with fail
        refine ⟨⟨k + 1, by omega, by go_num, by rw [HV.out, HM.out]; exact ⟨rfl, trivial⟩⟩, by simp [intOf]; omega⟩
      | some q =>
        simp only [nmV]
        cases hq : (q.toList == s.toList)
        · have hne : ¬ q = s := by
            have h := str_eq q s
            rw [hq] at h
            exact of_decide_eq_false h.symm
          have HV := hide (HP.out.trans (if_neg (fun h => hne (Option.some.inj h))))
          clear HP HC hne
          go_wp2_with fail
          refine ⟨⟨k + 1, by omega, by go_num, by rw [HV.out, HM.out]; exact ⟨rfl, trivial⟩⟩, by simp [intOf]; omega⟩
        · have he : q = s := by
            have h := str_eq q s
            rw [hq] at h
            exact of_decide_eq_true h.symm
          have HV := hide (HP.out.trans (if_pos (by rw [he])))
          clear HP HC he
          go_wp2_with fail
          go_ret
          exact ⟨by rw [HV.out]; rfl, rfl⟩
    · have hke : t.length - k = 0 := by omega
      have HV := hide (show plOf t s = -1 from by rw [hp, hke]; rfl)
      clear hp hke
      go_wp2_with fail
      go_ret
      exact ⟨by rw [HV.out]; rfl, rfl⟩
end Go.Proofs.Ytmglgjchemecjaa.CPlOf
/- PutHeader and fixupsOf; the program's. -/
namespace Go.Proofs.Ytmglgjchemecjaa.CHead
set_option maxRecDepth 200000
open Go.ChangeShapes Go.WideShapes Go.ChangeAt Go.RowKit Kit CCode CNumber CFixups CSymbols PObj BObj CObjValid BStore BList PLink CSorted CNames CNameTab CTable
/-- A header as its four numbers. -/
def headOk (a b c n : Int) : Bool := inB a 0 8 && inB b 0 12 && inB c 0 48 && inB n 1 400
def headB (a b c n : Int) : List Int := [111, 98, 106, 1, a, b, c] ++ putL 2 n ++ [0]
theorem pnum2 {n : Int} (h0 : 0 ≤ n) (h1 : n ≤ 65535) : pnum n 2 = putL 2 n := by
  unfold pnum
  rw [if_pos ⟨by decide, by simp only [inB, decide_eq_true_eq]; exact ⟨h0, h1⟩⟩]
  rfl
/-- A row of bytes, and the world's below: what the appends keep. -/
structure BI (w0 : World) (A : Option Addr) (c : Nat) (zs : List Int) (w : World) : Prop where
  row : Row w w0.heap.size 5 1 A zs.length c (ints .u8 zs)
  b : Below w0.heap.size w0 w
theorem BI.call {w0 w w' : World} {A : Option Addr} {c : Nat} {zs : List Int} (h : BI w0 A c zs w) (hb : Below w.heap.size w w') : BI w0 A c zs w' := ⟨h.row.call hb, h.b.trans (hb.mono h.b.size)⟩
theorem BI.add {w0 w w' : World} {A A' : Option Addr} {c n' c' : Nat} {zs ys : List Int} (h : BI w0 A c zs w) (hn : n' = zs.length + ys.length) (o : Row w' w0.heap.size 5 1 A' n' c' (ints .u8 zs ++ ints .u8 ys)) (g : w.grownBy w' (blk A c)) : BI w0 A' c' (zs ++ ys) w' := by
  subst hn
  refine ⟨?_, h.b.grown g h.b.size (fun j hj => (h.row.lt j hj).1)⟩
  rw [List.length_append, show ints .u8 (zs ++ ys) = ints .u8 zs ++ ints .u8 ys by simp [ints]]
  exact o
theorem headerValid_ok (a b c n : Int) (w : World) (h : headOk a b c n = true) :
    Calls Try.prog 177 #[.agg #[.int .i64 a, .int .i64 b, .int .i64 c, .int .i64 n]] w (Ret (.bool true) w) := by
  simp only [headOk, Bool.and_eq_true] at h
  obtain ⟨⟨⟨h1, h2⟩, h3⟩, h4⟩ := h
  have HB := hide (show Below w.heap.size w (w.alloc (.cells #[.int .i64 a, .int .i64 b, .int .i64 c, .int .i64 n] 158)) from (by repeat (first | exact Below.refl _ _ | with_reducible assumption | (refine Below.drew ?_) | (refine Below.drewN ?_ _) | (refine Below.alloc ?_ (by simp; try omega) _) | (refine Below.setCell ?_ (by simp; try omega) _))))
  have HX := hide (Box.new w 158 #[.int .i64 a, .int .i64 b, .int .i64 c, .int .i64 n])
  have x0 := HX.out.cell 0
  have x1 := HX.out.cell 1
  have x2 := HX.out.cell 2
  have x3 := HX.out.cell 3
  simp only [List.getElem?_toArray, List.getElem?_cons_zero, List.getElem?_cons_succ] at x0 x1 x2 x3
  have hxl := HX.out.lt
  have H1 := hide h1
  have H2 := hide h2
  have H3 := hide h3
  have H4 := hide h4
  clear h1 h2 h3 h4
  go_enter Try.func177, Try.ntmps177
  go_wp2_with fail
  generalize w.alloc (.cells #[.int .i64 a, .int .i64 b, .int .i64 c, .int .i64 n] 158) = w0 at *
  refine (within_any _ _ _ _).mono ?_
  rintro e w' ⟨rfl, rfl⟩
  rw [H1.out]
  go_wp2_with fail
  refine (within_any _ _ _ _).mono ?_
  rintro e w' ⟨rfl, rfl⟩
  rw [H2.out]
  go_wp2_with fail
  refine (within_any _ _ _ _).mono ?_
  rintro e w' ⟨rfl, rfl⟩
  rw [H3.out]
  go_wp2_with fail
  refine (within_any _ _ _ _).mono ?_
  rintro e w' ⟨rfl, rfl⟩
  rw [H4.out]
  go_wp2_with fail
  go_ret
  exact ⟨rfl, HB.out⟩
set_option maxHeartbeats 2000000 in
theorem putHeader_any (a b c n : Int) (w : World) (h : headOk a b c n = true) :
    Calls Try.prog 143 #[.agg #[.int .i64 a, .int .i64 b, .int .i64 c, .int .i64 n]] w (RetB (headB a b c n) w) := by
  obtain ⟨i0, hi1, hi2, hi3, hi4⟩ := info_parts CNumber.info8
  have HI := hide (And.intro hi1 (And.intro hi2 (And.intro hi3 hi4)))
  clear hi1 hi2 hi3 hi4
  have HH := hide h
  simp only [headOk, Bool.and_eq_true, inB, decide_eq_true_eq] at h
  obtain ⟨⟨⟨⟨a0, a1⟩, b0, b1⟩, c0, c1⟩, n0, n1⟩ := h
  have HB := hide (show Below w.heap.size w (w.alloc (.cells #[.int .i64 a, .int .i64 b, .int .i64 c, .int .i64 n] 158)) from (by repeat (first | exact Below.refl _ _ | with_reducible assumption | (refine Below.drew ?_) | (refine Below.drewN ?_ _) | (refine Below.alloc ?_ (by simp; try omega) _) | (refine Below.setCell ?_ (by simp; try omega) _))))
  have HX := hide (Box.new w 158 #[.int .i64 a, .int .i64 b, .int .i64 c, .int .i64 n])
  have x0 := HX.out.cell 0
  have x1 := HX.out.cell 1
  have x2 := HX.out.cell 2
  have x3 := HX.out.cell 3
  simp only [List.getElem?_toArray, List.getElem?_cons_zero, List.getElem?_cons_succ] at x0 x1 x2 x3
  have hxl := HX.out.lt
  have e1 : IntKind.u8.wrap a = a := by rw [IntKind.wrap_u8]; omega
  have e2 : IntKind.u8.wrap b = b := by rw [IntKind.wrap_u8]; omega
  have e3 : IntKind.u8.wrap c = c := by rw [IntKind.wrap_u8]; omega
  go_enter Try.func143, Try.ntmps143
  go_wp2_with fail
  clear x0 x1 x2 x3 hxl
  generalize w.alloc (.cells #[.int .i64 a, .int .i64 b, .int .i64 c, .int .i64 n] 158) = w0 at *
  refine (headerValid_ok a b c n w0 HH.out).mono ?_
  rintro e w1 ⟨rfl, b1'⟩
  replace HB := hide (HB.out.trans (b1'.mono HB.out.size))
  replace HX := hide (HX.out.call b1')
  clear b1'
  have x0 := HX.out.cell 0
  have x1 := HX.out.cell 1
  have x2 := HX.out.cell 2
  have x3 := HX.out.cell 3
  simp only [List.getElem?_toArray, List.getElem?_cons_zero, List.getElem?_cons_succ] at x0 x1 x2 x3
  have hxl := HX.out.lt
  have HL := hide (show BI w (some ⟨w1.heap.size, 0, none⟩) 7 [111, 98, 106, 1, a, b, c] (w1.alloc (.cells #[.int .u8 111, .int .u8 98, .int .u8 106, .int .u8 1, .int .u8 a, .int .u8 b, .int .u8 c] 5)) from
    ⟨.inr (own_base (World.ownsRow_lit (base := w1.heap.size) (e := 5) (size := 1) w1 #[.int .u8 111, .int .u8 98, .int .u8 106, .int .u8 1, .int .u8 a, .int .u8 b, .int .u8 c] 7 (Nat.le_refl _) (by unfold maxLen; omega) rfl) HB.out.size), HB.out.alloc HB.out.size _⟩)
  go_wp2_with fail
  clear x0 x1 x2 x3 hxl HX HB
  generalize w1.alloc (.cells #[.int .u8 111, .int .u8 98, .int .u8 106, .int .u8 1, .int .u8 a, .int .u8 b, .int .u8 c] 5) = w2 at *
  generalize w1.heap.size = L at *
  refine (putNumber_any n 2 w2).mono ?_
  rintro e w3 ⟨A3, c3, rfl, o3, b3⟩
  rw [pnum2 (by omega) (by omega)] at o3 ⊢
  replace HL := hide (HL.out.call b3)
  have HO := hide (Row.own o3)
  clear o3 b3
  have hpl : (putL 2 n).length = 2 := putL_len 2 n
  generalize hy : putL 2 n = ys at *
  have HY := hide hy
  clear hy
  generalize hz : ([111, 98, 106, 1, a, b, c] : List Int) = zs at *
  have hzl : zs.length = 7 := by rw [← hz]; rfl
  have HZ := hide hz
  have HZL := hide hzl
  clear hz
  rw [hpl] at HO ⊢
  have HPL := hide hpl
  clear hzl hpl
  have HR7 := hide (show Row w3 w.heap.size 5 1 (some ⟨L, 0, none⟩) 7 7 (ints .u8 zs) from by
    have h := HL.out.row
    rw [HZL.out] at h
    exact h)
  have HYL := hide (show (ints .u8 ys).length = 2 * 1 from by simp [HPL.out])
  go_wp2_with (at_builtin; refine wpList_app w3 rfl (.tmp 17) (.tmp 20) 22 rfl 5 i0 (.int .u8 0) 1 1 Try.underlying22 HI.out.1 HI.out.2.1 HI.out.2.2.1 HI.out.2.2.2 rfl (by decide) w.heap.size (some ⟨L, 0, none⟩) 7 7 (ints .u8 zs) rfl HR7.out HL.out.b.size A3 2 c3 (ints .u8 ys) rfl HO.out.rd HYL.out HO.out.nil oneI (by unfold maxLen; omega) (by omega) ?_)
  intro A4 n4 c4 w4 hn4 o4 g4 k4
  have HL4 := hide (HL.out.add (by rw [HZL.out, HPL.out]; exact hn4) o4 g4)
  subst hn4
  clear o4 g4 k4 HL HO HR7 HYL
  have hzy : (zs ++ ys).length = 9 := by rw [List.length_append, HZL.out, HPL.out]
  generalize hq : zs ++ ys = qs at *
  have HQ := hide hq
  have HQL := hide hzy
  clear hq hzy
  have HR9 := hide (show Row (w4.alloc (.cells #[.int .u8 0] 5)) w.heap.size 5 1 A4 9 c4 (ints .u8 qs) from by
    have h := HL4.out.row.alloc (.cells #[.int .u8 0] 5)
    rw [HQL.out] at h
    exact h)
  have HB4 := hide (HL4.out.b.alloc HL4.out.b.size (.cells #[.int .u8 0] 5))
  go_wp2_with (at_builtin; refine wpList_app (w4.alloc (.cells #[.int .u8 0] 5)) rfl (.tmp 22) (.tmp 23) 22 rfl 5 i0 (.int .u8 0) 1 1 Try.underlying22 HI.out.1 HI.out.2.1 HI.out.2.2.1 HI.out.2.2.2 rfl (by decide) w.heap.size A4 9 c4 (ints .u8 qs) rfl HR9.out HB4.out.size (some ⟨w4.heap.size, 0, none⟩) 1 1 [.int .u8 0] rfl (rd_lit w4 #[.int .u8 0] 5 _ rfl) rfl (fun h => by cases h) oneI1 (by unfold maxLen; omega) (by omega) ?_)
  intro A5 n5 c5 w5 hn5 o5 g5 k5
  have bl : Below w4.heap.size w4 (w4.alloc (.cells #[.int .u8 0] 5)) := (by repeat (first | exact Below.refl _ _ | with_reducible assumption | (refine Below.drew ?_) | (refine Below.drewN ?_ _) | (refine Below.alloc ?_ (by simp; try omega) _) | (refine Below.setCell ?_ (by simp; try omega) _)))
  have HL5 := hide ((HL4.out.call bl).add (ys := [0]) (by rw [HQL.out]; exact hn5) o5 g5)
  subst hn5
  clear o5 g5 k5 bl
  have HF := hide (show headB a b c n = qs ++ [0] from by unfold headB; rw [HZ.out, HY.out, HQ.out])
  have HFL := hide (show (qs ++ [0]).length = 10 from by rw [List.length_append, HQL.out]; rfl)
  go_wp2_with fail
  go_ret
  refine ⟨A5, c5, by rw [HF.out, HFL.out]; rfl, ?_, HL5.out.b⟩
  rw [HF.out]
  exact HL5.out.row
end Go.Proofs.Ytmglgjchemecjaa.CHead
/- Clearing fixups and sorting symbols change no image; plain. -/
namespace Go.Proofs.Ytmglgjchemecjaa.PLinkL
set_option maxRecDepth 200000
open Go.ChangeShapes Go.WideShapes Go.ChangeAt Go.RowKit Kit CCode CName CNumber CFixups CSymbols PObj PValid PWarn PClear PSort CObjValid PLink
def Uniq (ys : List YD) : Prop := ys.Pairwise fun a b => ¬ a.2.1 = 0 → ¬ b.2.1 = 0 → ¬ a.1 = b.1
theorem syms_iff (ss : List SD) (ys : List YD) : symsOk ss ys = true ↔ (∀ y ∈ ys, symOk ss y = true) ∧ Uniq ys := by
  simp only [symsOk, List.all_eq_true, Bool.and_eq_true, List.mem_range, Bool.not_eq_true']
  constructor
  · intro h
    refine ⟨fun y hy => ?_, ?_⟩
    · obtain ⟨i, hi, rfl⟩ := List.getElem_of_mem hy
      have := (h i hi).1
      rwa [getD_at hi] at this
    · rw [Uniq, List.pairwise_iff_getElem]
      intro i j hi hj hij h1 h2 h3
      have := (h j hj).2
      rw [getD_at hj] at this
      have hc : clash (ys.take j) ys[j] = true := by
        unfold clash
        rw [Bool.and_eq_true]
        refine ⟨by simpa using h2, List.any_eq_true.2 ⟨ys[i], ?_, ?_⟩⟩
        · exact List.mem_take_iff_getElem.2 ⟨i, by omega, rfl⟩
        · simpa using ⟨h1, h3⟩
      rw [hc] at this
      cases this
  · rintro ⟨h1, h2⟩ i hi
    rw [getD_at hi]
    refine ⟨h1 _ (List.getElem_mem hi), ?_⟩
    rw [← Bool.not_eq_true]
    intro hc
    unfold clash at hc
    rw [Bool.and_eq_true, List.any_eq_true] at hc
    obtain ⟨hb, x, hx, hxx⟩ := hc
    obtain ⟨j, hj, rfl⟩ := List.mem_take_iff_getElem.1 hx
    rw [Uniq, List.pairwise_iff_getElem] at h2
    simp only [Bool.and_eq_true, Bool.not_eq_true', decide_eq_false_iff_not, decide_eq_true_eq] at hb hxx
    exact h2 j i (by omega) hi (by omega) hxx.1 hb hxx.2
theorem obj_iff (d : OD) : objOk d = true ↔ d.ss.length ≤ 8 ∧ d.ys.length ≤ 12 ∧ (∀ s ∈ d.ss, secOk d.ys.length s = true) ∧ (∀ y ∈ d.ys, symOk d.ss y = true) ∧ Uniq d.ys := by
  simp only [objOk, Bool.and_eq_true, decide_eq_true_eq, List.all_eq_true, syms_iff]
  constructor
  · rintro ⟨⟨⟨h1, h2⟩, h3⟩, h4, h5⟩
    exact ⟨h1, h2, h3, h4, h5⟩
  · rintro ⟨h1, h2, h3, h4, h5⟩
    exact ⟨⟨⟨h1, h2⟩, h3⟩, h4, h5⟩
theorem size_at (ss : List SD) (n : Nat) : secSize (ss.getD n ⟨ByteArray.empty, 0, 0, [], 0, []⟩) = (ss.map secSize).getD n 0 := by
  rw [List.getD_eq_getElem?_getD, List.getD_eq_getElem?_getD, List.getElem?_map]
  cases ss[n]? <;> rfl
theorem sym_congr {ss ss' : List SD} (h : ss.map secSize = ss'.map secSize) (y : YD) : symOk ss y = symOk ss' y := by
  have hl : ss.length = ss'.length := by simpa using congrArg List.length h
  unfold symOk placeOk
  rw [size_at, size_at, h, hl]
theorem sec_clear (many : Int) (s : SD) : secOk many (clearS s) = secOk many s := by
  simp only [secOk, headOk, blankOk, bodyOk, clearS, clrs_len]
  rfl
theorem clear_objOk {d : OD} (h : objOk d = true) : objOk ⟨d.ss.map clearS, d.ys⟩ = true := by
  obtain ⟨h1, h2, h3, h4, h5⟩ := (obj_iff d).1 h
  refine (obj_iff _).2 ⟨by simpa using h1, h2, ?_, ?_, h5⟩
  · intro s hs
    obtain ⟨t, ht, rfl⟩ := List.mem_map.1 hs
    rw [sec_clear]
    exact h3 t ht
  · intro y hy
    rw [sym_congr (ss' := d.ss) (by simp [secSize, clearS, clrs_len])]
    exact h4 y hy
/-- Bytes that differ at most where fixups fill them. -/
def cov (fs : List FD) (i : Nat) : Prop := ∃ f ∈ fs, f.1 ≤ (i : Int) ∧ (i : Int) < f.1 + wide f.2.1
def Agree (fs : List FD) (a b : List Int) : Prop := a.length = b.length ∧ ∀ i : Nat, ¬ cov fs i → a[i]? = b[i]?
theorem apF_agree {f : FD} {fs : List FD} {a b : List Int} {place t : Int} (h : Agree (f :: fs) a b) :
    (apF a place f t = none ∧ apF b place f t = none) ∨ ∃ a' b', apF a place f t = some a' ∧ apF b place f t = some b' ∧ Agree fs a' b' := by
  unfold apF
  rw [h.1]
  by_cases hc : inB place 0 100000 = true ∧ ¬ wide f.2.1 = 0 ∧ inB f.1 0 (b.length - wide f.2.1) = true
  · rw [if_pos hc, if_pos hc]
    cases hv : fixVal f.2.1 (place + f.1) t f.2.2.2 with
    | none => exact .inl ⟨rfl, rfl⟩
    | some v =>
      refine .inr ⟨_, _, rfl, rfl, ?_⟩
      obtain ⟨_, hw, hin⟩ := hc
      simp only [inB, decide_eq_true_eq] at hin
      have hl := putL_len (wide f.2.1).toNat v
      have hwb := wide_bd f.2.1
      have hab := h.1
      refine ⟨by rw [sp_len (by rw [hl]; omega), sp_len (by rw [hl]; omega), h.1], fun i hi => ?_⟩
      rw [sp_get (by rw [hl]; omega), sp_get (by rw [hl]; omega)]
      by_cases hr : f.1.toNat ≤ i ∧ i < f.1.toNat + (putL (wide f.2.1).toNat v).length
      · rw [if_pos hr, if_pos hr]
      · rw [if_neg hr, if_neg hr]
        refine h.2 i ?_
        rintro ⟨g, hg, hgi⟩
        rcases List.mem_cons.1 hg with rfl | hg
        · rw [hl] at hr
          omega
        · exact hi ⟨g, hg, hgi⟩
  · rw [if_neg hc, if_neg hc]
    exact .inl ⟨rfl, rfl⟩
theorem fill_agree (l : List OD) (P : List (List Int)) (k : Nat) (place : Int) : ∀ (fs : List FD) (a b : List Int), Agree fs a b → fill l P k place fs (some a) = fill l P k place fs (some b)
  | [], a, b, h => by
    rw [fill, fill]
    congr 1
    refine List.ext_getElem? fun i => h.2 i ?_
    rintro ⟨f, hf, _⟩
    cases hf
  | f :: fs, a, b, h => by
    rw [fill, fill, Option.bind_some, Option.bind_some]
    rcases apF_agree (place := place) (t := symPl l P k f.2.2.1.toNat) h with ⟨e1, e2⟩ | ⟨a', b', e1, e2, h'⟩
    · rw [e1, e2]
    · rw [e1, e2]
      exact fill_agree l P k place fs a' b' h'
theorem setz_far (zs : List Int) (a : Nat) : ∀ (n i : Nat), i < a ∨ a + n ≤ i → (setz zs a n)[i]? = zs[i]?
  | 0, i, _ => rfl
  | n + 1, i, h => by
    rw [setz, List.getElem?_set_ne (by omega)]
    exact setz_far zs a n i (by omega)
theorem clrs_agree : ∀ (fs : List FD) (zs : List Int), (∀ f ∈ fs, 0 ≤ f.1) → Agree fs (clrs zs fs) zs
  | [], zs, _ => ⟨rfl, fun _ _ => rfl⟩
  | f :: fs, zs, h => by
    have ih := clrs_agree fs (clr zs f) fun g hg => h g (List.mem_cons_of_mem _ hg)
    have h0 := h f List.mem_cons_self
    have hw := wide_bd f.2.1
    refine ⟨by rw [clrs_len], fun i hi => ?_⟩
    have e : clrs zs (f :: fs) = clrs (clr zs f) fs := rfl
    rw [e, ih.2 i (fun ⟨g, hg, hgi⟩ => hi ⟨g, List.mem_cons_of_mem _ hg, hgi⟩)]
    unfold clr
    refine setz_far zs _ _ i ?_
    rcases Nat.lt_or_ge i f.1.toNat with h1 | h1
    · exact .inl h1
    · refine .inr ?_
      rcases Nat.lt_or_ge i (f.1.toNat + (wide f.2.1).toNat) with h2 | h2
      · exact absurd ⟨f, List.mem_cons_self, by omega, by omega⟩ hi
      · exact h2
theorem fill_map (l l' : List OD) (P : List (List Int)) (k : Nat) (place : Int) (φ : FD → FD) : ∀ (fs : List FD) (b : Option (List Int)),
    (∀ f ∈ fs, (∀ a t, apF a place (φ f) t = apF a place f t) ∧ symPl l' P k (φ f).2.2.1.toNat = symPl l P k f.2.2.1.toNat) → fill l' P k place (fs.map φ) b = fill l P k place fs b
  | [], b, _ => rfl
  | f :: fs, b, h => by
    obtain ⟨h1, h2⟩ := h f List.mem_cons_self
    rw [List.map_cons, fill, fill, h2]
    have e : (b.bind fun b => apF b place (φ f) (symPl l P k f.2.2.1.toNat)) = b.bind fun b => apF b place f (symPl l P k f.2.2.1.toNat) := by
      congr 1
      funext a
      exact h1 a _
    rw [e]
    exact fill_map l l' P k place φ fs _ fun g hg => h g (List.mem_cons_of_mem _ hg)
theorem imS_map (l l' : List OD) (P : List (List Int)) (base : Int) (k : Nat) (φ : SD → SD) : ∀ (ss : List SD) (i : Nat) (im : Option (List Int)),
    (∀ s ∈ ss, ∀ pl, fill l' P k pl (φ s).fs (some (φ s).zs) = fill l P k pl s.fs (some s.zs)) → imS l' P base k i (ss.map φ) im = imS l P base k i ss im
  | [], _, _, _ => rfl
  | s :: ss, i, im, h => by
    rw [List.map_cons, imS, imS, h s List.mem_cons_self]
    exact imS_map l l' P base k φ ss _ _ fun t ht => h t (List.mem_cons_of_mem _ ht)
theorem image_one (d e : OD) (base : Int) (φ : SD → SD) (hs : sh d = sh e) (hd : d.ss = e.ss.map φ)
    (h : ∀ P, ∀ s ∈ e.ss, ∀ pl, fill [d] P 0 pl (φ s).fs (some (φ s).zs) = fill [e] P 0 pl s.fs (some s.zs)) : image [d] base = image [e] base := by
  unfold image
  rw [lay_one hs]
  simp only [imO]
  rw [hd]
  exact imS_map [e] [d] _ base 0 φ e.ss 0 _ (h _)
theorem symAt_one (d : OD) (k j : Nat) : symAtL [d] (k, j) = if k = 0 then d.ys.getD j dY else dY := by
  unfold symAtL
  cases k with
  | zero => rfl
  | succ n => simp [List.getD_eq_getElem?_getD]
theorem find_one (d : OD) (nm : ByteArray) : findN [d] nm = orG (fiR (gives nm 1) 0 (fiS (gives nm 1) 0 d.ys) none) (fiR (gives nm 2) 0 (fiS (gives nm 2) 0 d.ys) none) := rfl
/-- What a symbol of one object means: for itself. -/
def tg1 (P : List (List Int)) (y : YD) : Int := if y.2.2.1 = -1 then 0 else tgY P 0 y
theorem sym_facts {ss : List SD} {y : YD} (h : symOk ss y = true) : (0 ≤ y.2.1 ∧ y.2.1 ≤ 2) ∧ (y.2.2.1 = -1 → ¬ y.2.1 = 0) := by
  simp only [symOk, bindOk, Bool.and_eq_true, inB, decide_eq_true_eq] at h
  refine ⟨h.1.2, fun hy => ?_⟩
  have h2 := h.2
  unfold placeOk at h2
  rw [if_pos hy] at h2
  simp only [Bool.and_eq_true, Bool.not_eq_true', decide_eq_false_iff_not] at h2
  exact h2.2
theorem uniq_at {ys : List YD} (h : Uniq ys) {i j : Nat} (hi : i < ys.length) (hj : j < ys.length) (h1 : ¬ ys[i].2.1 = 0) (h2 : ¬ ys[j].2.1 = 0) (h3 : ys[i].1 = ys[j].1) : i = j := by
  rw [Uniq, List.pairwise_iff_getElem] at h
  rcases Nat.lt_trichotomy i j with hlt | heq | hgt
  · exact absurd h3 (h i j hi hj hlt h1 h2)
  · exact heq
  · exact absurd h3.symm (h j i hj hi hgt h2 h1)
theorem gives_iff {nm : ByteArray} {b : Int} {y : YD} : gives nm b y = true ↔ y.1 = nm ∧ y.2.1 = b ∧ ¬ y.2.2.1 = -1 := by
  simp only [gives, Bool.and_eq_true, decide_eq_true_eq, Bool.not_eq_true', decide_eq_false_iff_not, and_assoc]
theorem find_some {d : OD} (hu : Uniq d.ys) {j : Nat} (hj : j < d.ys.length) (hb : d.ys[j].2.1 = 1 ∨ d.ys[j].2.1 = 2) : findN [d] d.ys[j].1 = if d.ys[j].2.2.1 = -1 then none else some (0, j) := by
  rw [find_one]
  have key : ∀ b, (b = 1 ∨ b = 2) → fiS (gives d.ys[j].1 b) 0 d.ys = if d.ys[j].2.1 = b ∧ ¬ d.ys[j].2.2.1 = -1 then some j else none := fun b hb' => by
    have hn0 : ¬ d.ys[j].2.1 = 0 := by omega
    cases hf : fiS (gives d.ys[j].1 b) 0 d.ys with
    | some i =>
      obtain ⟨_, hi, hg⟩ := fiS_spec d.ys 0 i hf
      rw [Nat.sub_zero] at hi hg
      rw [getD_at hi] at hg
      obtain ⟨e1, e2, e3⟩ := gives_iff.1 hg
      have := uniq_at hu hi hj (by omega) hn0 e1
      subst this
      rw [if_pos ⟨e2, e3⟩]
    | none =>
      have := (fiS_none d.ys 0).1 hf _ (List.getElem_mem hj)
      rw [if_neg]
      rintro ⟨e1, e2⟩
      rw [gives_iff.2 ⟨rfl, e1, e2⟩] at this
      cases this
  rw [key 1 (.inl rfl), key 2 (.inr rfl)]
  by_cases hw : d.ys[j].2.2.1 = -1
  · simp [hw, fiR, orG]
  · rcases hb with hb | hb <;> simp [hw, hb, fiR, orG]
theorem symPl_one {d : OD} (h : objOk d = true) (P : List (List Int)) {j : Nat} (hj : j < d.ys.length) : symPl [d] P 0 j = tg1 P d.ys[j] := by
  obtain ⟨_, _, _, h4, h5⟩ := (obj_iff d).1 h
  obtain ⟨hb, hw⟩ := sym_facts (h4 _ (List.getElem_mem hj))
  have ha : symAtL [d] (0, j) = d.ys[j] := by rw [symAt_one, if_pos rfl, getD_at hj]
  unfold symPl
  rw [ha]
  by_cases h0 : d.ys[j].2.1 = 0
  · rw [if_pos h0, tg1, if_neg (fun e => hw e h0), tgG, ha]
  · rw [if_neg h0, find_some h5 hj (by omega), tg1]
    by_cases h1 : d.ys[j].2.2.1 = -1
    · rw [if_pos h1, if_pos h1]
      rfl
    · rw [if_neg h1, if_neg h1, tgO, tgG, ha]
theorem tw_nil : ∀ (ys : List YD) (o met : List ByteArray), Uniq ys → (∀ y ∈ ys, isStrong y = true → y.1 ∉ met) → (twS (o, met) ys).1 = o
  | [], o, met, _, _ => rfl
  | y :: ys, o, met, hu, hm => by
    obtain ⟨h1, h2⟩ := List.pairwise_cons.1 hu
    have e : twS (o, met) (y :: ys) = twS (twStep (o, met) y) ys := rfl
    rw [e]
    cases hs : isStrong y
    · have : twStep (o, met) y = (o, met) := by rw [twStep, hs]; rfl
      rw [this]
      exact tw_nil ys o met h2 fun z hz => hm z (List.mem_cons_of_mem _ hz)
    · have hn := hm y List.mem_cons_self hs
      have : twStep (o, met) y = (o, met ++ [y.1]) := by
        have hf : (met.any fun x => decide (x = y.1)) = false := by
          rw [← Bool.not_eq_true, List.any_eq_true]
          rintro ⟨x, hx, hxy⟩
          exact hn (of_decide_eq_true hxy ▸ hx)
        rw [twStep, hs]
        simp only [hf, cond_true, cond_false]
      rw [this]
      refine tw_nil ys o _ h2 fun z hz hsz hin => ?_
      rcases List.mem_append.1 hin with hin | hin
      · exact hm z (List.mem_cons_of_mem _ hz) hsz hin
      · have e2 := List.mem_singleton.1 hin
        simp only [isStrong, Bool.and_eq_true, decide_eq_true_eq] at hs hsz
        exact h1 z hz (by omega) (by omega) e2.symm
theorem twice_one {d : OD} (h : objOk d = true) : twice [d] = [] := by
  obtain ⟨_, _, _, _, h5⟩ := (obj_iff d).1 h
  exact tw_nil d.ys [] [] h5 fun _ _ _ hm => by cases hm
theorem isMiss_one {d : OD} (h : objOk d = true) {y : YD} (hy : y ∈ d.ys) : isMiss [d] y = (decide (y.2.1 = 1) && decide (y.2.2.1 = -1)) := by
  obtain ⟨_, _, _, _, h5⟩ := (obj_iff d).1 h
  obtain ⟨j, hj, rfl⟩ := List.getElem_of_mem hy
  unfold isMiss
  by_cases h1 : d.ys[j].2.1 = 1
  · by_cases h2 : d.ys[j].2.2.1 = -1
    · rw [find_some h5 hj (.inl h1), if_pos h2]
      simp
    · simp [h2]
  · simp [h1]
theorem miss_one {d : OD} (h : objOk d = true) : 0 < (miss [d]).length ↔ ∃ y ∈ d.ys, y.2.1 = 1 ∧ y.2.2.1 = -1 := by
  have e : miss [d] = missS [d] d.ys := by simp [miss]
  rw [e, missS, List.length_map, List.length_pos_iff_exists_mem]
  constructor
  · rintro ⟨y, hy⟩
    rw [List.mem_filter] at hy
    rw [isMiss_one h hy.1] at hy
    exact ⟨y, hy.1, by simpa using hy.2⟩
  · rintro ⟨y, hy, h2⟩
    exact ⟨y, List.mem_filter.2 ⟨hy, by rw [isMiss_one h hy]; simpa using h2⟩⟩
theorem link_same {d e : OD} (hd : objOk d = true) (he : objOk e = true) (hm : (∃ y ∈ d.ys, y.2.1 = 1 ∧ y.2.2.1 = -1) ↔ ∃ y ∈ e.ys, y.2.1 = 1 ∧ y.2.2.1 = -1) (base : Int) (hi : image [d] base = image [e] base) : linkR [d] base = linkR [e] base := by
  unfold linkR
  have o1 : objsOk [d] = true := by simp [objsOk, hd]
  have o2 : objsOk [e] = true := by simp [objsOk, he]
  rw [o1, o2, twice_one hd, twice_one he, hi]
  have hiff : 0 < (miss [d]).length ↔ 0 < (miss [e]).length := by rw [miss_one hd, miss_one he]; exact hm
  by_cases hx : 0 < (miss [d]).length
  · rw [if_pos hx, if_pos (hiff.1 hx)]
  · rw [if_neg hx, if_neg (fun h => hx (hiff.2 h))]
theorem clear_is {d : OD} (h : objOk d = true) : clearD d = ⟨d.ss.map clearS, d.ys⟩ := by rw [clearD, h]; rfl
theorem link_clear {d : OD} (h : objOk d = true) (base : Int) : linkR [clearD d] base = linkR [d] base := by
  rw [clear_is h]
  have hc := clear_objOk h
  refine link_same hc h Iff.rfl base (image_one _ _ base clearS ?_ rfl fun P s hs pl => ?_)
  · simp [sh, secSize, clearS, clrs_len]
  · have hsy : ∀ f ∈ s.fs, symPl [⟨d.ss.map clearS, d.ys⟩] P 0 f.2.2.1.toNat = symPl [d] P 0 f.2.2.1.toNat := fun f hf => by
      have hr := (((obj_all h).2.2 s hs).2.2 f hf).2
      have hj : f.2.2.1.toNat < d.ys.length := by omega
      rw [symPl_one hc P (j := f.2.2.1.toNat) hj, symPl_one h P hj]
    have e1 : (clearS s).fs = s.fs.map id := by simp [clearS]
    rw [e1, fill_map [d] _ P 0 pl id s.fs _ fun f hf => ⟨fun _ _ => rfl, hsy f hf⟩]
    refine fill_agree [d] P 0 pl s.fs _ _ (clrs_agree s.fs s.zs fun f hf => ?_)
    exact ((((obj_all h).2.2 s hs).2.2 f hf).1).1
end Go.Proofs.Ytmglgjchemecjaa.PLinkL
/- WriteObject, of valid objects; the program's. -/
namespace Go.Proofs.Ytmglgjchemecjaa.CWriteO
set_option maxRecDepth 200000
open Go.ChangeShapes Go.WideShapes Go.ChangeAt Go.RowKit Kit CCode CName CNumber CFixups CSymbols PObj BObj PValid PWarn PClear CSecValid CObjValid BStore BList PLink PLinkL CSorted CNames CNameTab CTable CTableOf CPlOf CHead
def fixN : List SD → Int
  | [] => 0
  | s :: ss => s.fs.length + fixN ss
theorem fixN_bd : ∀ ss : List SD, (∀ s ∈ ss, s.fs.length ≤ 6) → 0 ≤ fixN ss ∧ fixN ss ≤ 6 * ss.length
  | [], _ => by simp [fixN]
  | s :: ss, h => by
    have := fixN_bd ss fun t ht => h t (List.mem_cons_of_mem _ ht)
    have := h s List.mem_cons_self
    simp only [fixN, List.length_cons]
    omega
theorem fixN_snoc (ss : List SD) (s : SD) : fixN (ss ++ [s]) = fixN ss + s.fs.length := by
  induction ss with
  | nil => simp [fixN]
  | cons x xs ih =>
    simp only [List.cons_append, fixN, ih]
    omega
theorem fixupsOf_any (o : OV) (w : World) (hr : RdO w w.heap.size o) (h8 : o.ps.length ≤ 8) (h6 : ∀ p ∈ o.ps, p.fs.length ≤ 6) :
    Calls Try.prog 144 #[.agg #[.slice o.A o.ps.length o.c, .slice o.Y o.ys.length o.yc]] w (Ret (.int .i64 (fixN o.d.ss)) w) := by
  have HR := hide hr
  have H6 := hide h6
  have HB := hide (show Below w.heap.size w (w.alloc (.cells #[.slice o.A o.ps.length o.c, .slice o.Y o.ys.length o.yc] 26)) from (by repeat (first | exact Below.refl _ _ | with_reducible assumption | (refine Below.drew ?_) | (refine Below.drewN ?_ _) | (refine Below.alloc ?_ (by simp; try omega) _) | (refine Below.setCell ?_ (by simp; try omega) _))))
  have HX := hide (Box.new w 26 #[.slice o.A o.ps.length o.c, .slice o.Y o.ys.length o.yc])
  clear hr h6
  have x0 := HX.out.cell 0
  simp only [List.getElem?_toArray, List.getElem?_cons_zero, List.getElem?_cons_succ] at x0
  have hxl := HX.out.lt
  go_enter Try.func144, Try.ntmps144
  go_wp2_with fail
  clear x0 hxl HX
  generalize w.alloc (.cells #[.slice o.A o.ps.length o.c, .slice o.Y o.ys.length o.yc] 26) = w0 at *
  go_loopw [3, 9] (fun s i wi => ∃ (k : Nat) (z : Int), k ≤ o.ps.length ∧ s = .int .i64 z ∧ i = .int .i64 k ∧ z = fixN ((o.ps.take k).map SV.d) ∧ 0 ≤ z ∧ z ≤ 6 * k ∧ Below w.heap.size w wi) (fun _ i _ => o.ps.length - (intOf i).toNat)
  case atStart => exact ⟨0, 0, Nat.zero_le _, rfl, rfl, rfl, Int.le_refl _, by omega, HB.out⟩
  case round =>
    clear HB
    obtain ⟨k, z, hk, rfl, rfl, hz, hz0, hz1, hb⟩ := hrel
    have HB := hide hb
    by_cases hlt : k < o.ps.length
    · obtain ⟨b, off, hA, hbb, hc⟩ := (HR.out.1.1.below hb).row secC_len (by decide) hlt
      have hc0 := hc 0 _ rfl
      have hc1 := hc 1 _ rfl
      have hc2 := hc 2 _ rfl
      have hc3 := hc 3 _ rfl
      have hc4 := hc 4 _ rfl
      have hc5 := hc 5 _ rfl
      simp only [Nat.add_zero] at hc0
      have HS := hide (show fixN ((o.ps.take (k + 1)).map SV.d) = z + (o.ps[k]).fs.length from by
        rw [take_succ hlt, List.map_append, hz]
        exact fixN_snoc _ _)
      have hf6 := H6.out _ (List.getElem_mem hlt)
      clear hb hz hc
      rw [hA]
      clear hA
      generalize o.ps[k] = p at *
      have B1 : Below wr.heap.size wr (wr.alloc (.cells #[.string p.nm, .int .i64 p.kd, .int .i64 p.al, .slice p.A p.zs.length p.c, .int .i64 p.sz, .slice p.F p.fs.length p.fc] 73)) := (by repeat (first | exact Below.refl _ _ | with_reducible assumption | (refine Below.drew ?_) | (refine Below.drewN ?_ _) | (refine Below.alloc ?_ (by simp; try omega) _) | (refine Below.setCell ?_ (by simp; try omega) _)))
      have hwr : IntKind.i64.wrap (z + p.fs.length) = z + p.fs.length := IntWalk.i64_in _ (by omega)
      replace HB := hide (HB.out.trans (B1.mono HB.out.size))
      clear B1
      go_wp2_with fail
      refine ⟨⟨k + 1, z + p.fs.length, by omega, rfl, by go_num, HS.out.symm, by omega, by omega, HB.out⟩, by simp [intOf]; omega⟩
    · have hke : k = o.ps.length := by omega
      have HV := hide (show fixN o.d.ss = z from by rw [hz, hke, List.take_length]; rfl)
      subst hke
      clear hb hz
      go_wp2_with fail
      go_ret
      exact ⟨by rw [HV.out]; rfl, HB.out⟩
end Go.Proofs.Ytmglgjchemecjaa.CWriteO
