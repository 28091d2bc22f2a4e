/- readLine: a line into an object; the program's. -/
import Derived.Test.YtepoiphmmjfbdaaGreatDoorFnDeskLoadM9
set_option linter.unusedSimpArgs false
set_option linter.unusedVariables false
namespace Go.Proofs.YtepoiphmmjfbdaaGreatDoor.CReadI
set_option maxRecDepth 200000
open Go.ChangeShapes Go.WideShapes Go.ChangeAt Go.RowKit Kit CCode CName CFixups CSymbols PObj BObj PValid PClear CNumTxt PNum PDump CHexI CHexS CSorted CNames CWordsS BStore BDesk CApFix CNumsI CUnhexI BMap CDelI CMarkRows BObj2 BObj3
/-- The object in its variable, its own rows apart from it. -/
structure Held (w : World) (base g : Nat) (o : OV) : Prop where
  box : Box w g 26 #[.slice o.A o.ps.length o.c, .slice o.Y o.ys.length o.yc]
  own : OwnO w base o
  ne : ∀ k, oblk o k → k ≠ g
def LineP (base g : Nat) (r : Option OD) (w : World) (e : Ending) (w' : World) : Prop := ∃ b, e = .returned (.bool b) ∧ Below base w w' ∧ match r with
  | none => b = false
  | some d => b = true ∧ ∃ o : OV, o.d = d ∧ Held w' base g o
/-- What stands behind the first part: the words left, and the digits. -/
def WordsP (ws : List (List UInt8)) (hx : List UInt8) (base : Nat) (W : World) (v5 v6 : Value) (w : World) : Prop :=
  ∃ A c, v5 = .slice A ws.length c ∧ v6 = .string (bs hx) ∧ Row w base 9 1 A ws.length c (nmC (ws.map bs)) ∧ Below W.heap.size W w
theorem bs_list (x : List UInt8) : (bs x).toList = x := by
  rw [ByteArray.toList_eq]
  simp [bs]
theorem Rd.strAt {w : World} {B b off : Nat} {ws : List (List UInt8)} (h : Rd w B (some ⟨b, off, none⟩) (nmC (ws.map bs))) {k : Nat} (hk : k < ws.length) : w.cell? ⟨b, off + k, none⟩ = some (.string (bs (ws.getD k []))) := by
  obtain ⟨b', off', h1, _, h3⟩ := Rd.str h hk
  injection h1 with h1
  injection h1 with h1 h2
  subst h1
  subst h2
  rw [h3, List.getD_eq_getElem?_getD, List.getElem?_eq_getElem hk]
  rfl
theorem sec_eq {x : List UInt8} (h : x = secW) : ((bs x).toList == [115, 101, 99, 116, 105, 111, 110]) = true := by
  rw [bs_list, h]
  rfl
theorem sec_ne {x : List UInt8} (h : ¬ x = secW) : ((bs x).toList == [115, 101, 99, 116, 105, 111, 110]) = false := by
  rw [bs_list]
  exact beq_eq_false_iff_ne.2 h
/-- How long what is left can be. -/
theorem take_bd (ws : List (List UInt8)) (n : Nat) (h0 : 0 < ws.length) (h : ∀ x ∈ ws, x.length ≤ n) : 0 < (takeHex ws).1.length ∧ (takeHex ws).1.length ≤ ws.length ∧ (∀ i, ((takeHex ws).1.getD i []).length ≤ n) ∧ (takeHex ws).2.length ≤ n := by
  have hg : ∀ i, (ws.getD i []).length ≤ n := fun i => by
    rw [List.getD_eq_getElem?_getD]
    by_cases hi : i < ws.length
    · rw [List.getElem?_eq_getElem hi]
      exact h _ (List.getElem_mem hi)
    · rw [List.getElem?_eq_none (by omega)]
      simp
  unfold takeHex
  split
  · refine ⟨by simp only [List.length_take]; omega, by simp only [List.length_take]; omega, fun i => ?_, hg 5⟩
    simp only
    rw [List.getD_eq_getElem?_getD]
    by_cases hi : i < (ws.take 5).length
    · rw [List.getElem?_eq_getElem hi]
      exact h _ (List.mem_of_mem_take (List.getElem_mem hi))
    · rw [List.getElem?_eq_none (by omega)]
      simp
  · exact ⟨h0, Nat.le_refl _, hg, by simp⟩
theorem many_pos {x : List UInt8} (h : 0 < many x) : many x = 5 ∧ (x = secW ∨ x = fixW ∨ x = symW) := by
  unfold many at *
  split at h
  · rename_i hx
    rw [if_pos hx]
    exact ⟨rfl, hx⟩
  · omega
theorem fix_eq {x : List UInt8} (h : x = fixW) : ((bs x).toList == [102, 105, 120, 117, 112]) = true := by
  rw [bs_list, h]
  rfl
theorem fix_ne {x : List UInt8} (h : ¬ x = fixW) : ((bs x).toList == [102, 105, 120, 117, 112]) = false := by
  rw [bs_list]
  exact beq_eq_false_iff_ne.2 h
theorem sym_eq {x : List UInt8} (h : x = symW) : ((bs x).toList == [115, 121, 109, 98, 111, 108]) = true := by
  rw [bs_list, h]
  rfl
theorem one_fx (f : FD) : ∀ u ∈ fixupC f, u.oneCell' = true := by
  intro u hu
  simp only [fixupC, List.mem_cons, List.not_mem_nil, or_false] at hu
  rcases hu with rfl | rfl | rfl | rfl <;> rfl
theorem one_sy (y : YD) : ∀ u ∈ symbolC y, u.oneCell' = true := by
  intro u hu
  simp only [symbolC, List.mem_cons, List.not_mem_nil, or_false] at hu
  rcases hu with rfl | rfl | rfl | rfl <;> rfl
theorem one_six {a : ByteArray} {b c e : Int} {A B : Option Addr} {n m p q : Nat} : ∀ u ∈ [Value.string a, .int .i64 b, .int .i64 c, .slice A n m, .int .i64 e, .slice B p q], u.oneCell' = true := by
  intro u hu
  simp only [List.mem_cons, List.not_mem_nil, or_false] at hu
  rcases hu with rfl | rfl | rfl | rfl | rfl | rfl <;> rfl
theorem nums_len : ∀ {ws : List (List UInt8)} {ns : List Int}, nums ws = some ns → ns.length = ws.length
  | [], ns, h => by
    injection h with h
    subst h
    rfl
  | x :: ws, ns, h => by
    rw [nums] at h
    split at h
    · cases hr : nums ws with
      | none => rw [hr] at h; cases h
      | some zs =>
        rw [hr] at h
        injection h with h
        subst h
        simp only [List.length_cons, nums_len hr]
    · cases h
theorem four_of {ns : List Int} (h : ns.length = 4) : ∃ a b c d, ns = [a, b, c, d] := by
  match ns, h with
  | [a, b, c, d], _ => exact ⟨a, b, c, d, rfl⟩
theorem five_of {ns : List (List UInt8)} (h : ns.length = 5) : ∃ a b c d e, ns = [a, b, c, d, e] := by
  match ns, h with
  | [a, b, c, d, e], _ => exact ⟨a, b, c, d, e, rfl⟩
theorem three_of {ns : List Int} (h : ns.length = 3) : ∃ a b c, ns = [a, b, c] := by
  match ns, h with
  | [a, b, c], _ => exact ⟨a, b, c, rfl⟩
theorem Rd.intAt {w : World} {B b off : Nat} {k : IntKind} {zs : List Int} (h : Rd w B (some ⟨b, off, none⟩) (ints k zs)) {i : Nat} (hi : i < zs.length) : w.cell? ⟨b, off + i, none⟩ = some (.int k zs[i]) := by
  obtain ⟨b', off', h1, _, h3⟩ := Rd.int h hi
  injection h1 with h1
  injection h1 with h1 h2
  subst h1
  subst h2
  exact h3
theorem Rd.drop {w : World} {B b off k : Nat} {ws : List (List UInt8)} (h : Rd w B (some ⟨b, off, none⟩) (nmC (ws.map bs))) : Rd w B (some ⟨b, off + k, none⟩) (nmC ((ws.drop k).map bs)) := by
  intro i u hu
  have e : nmC ((ws.drop k).map bs) = (nmC (ws.map bs)).drop k := by simp [nmC]
  rw [e, List.getElem?_drop] at hu
  obtain ⟨b', off', h1, h2, h3⟩ := h (k + i) u hu
  injection h1 with h1
  injection h1 with h1 h1'
  subst h1
  subst h1'
  exact ⟨b, off + k, rfl, h2, by rw [Nat.add_assoc]; exact h3⟩
set_option maxHeartbeats 40000000 in
theorem readLine_any (g base : Nat) (o : OV) (s : ByteArray) (w : World) (hh : Held w base g o) (hgb : base ≤ g) (hbw : base ≤ w.heap.size) (hs : s.size ≤ 1048576) (he : Env w)
    (hn1 : o.ps.length ≤ 4000000) (hn2 : o.ys.length ≤ 4000000) (hn3 : ∀ p ∈ o.ps, p.fs.length ≤ 4000000) :
    Calls Tryz.prog 93 #[.pointer (some ⟨g, 0, none⟩), .string s] w (LineP base g (stepI o.d s.data.toList) w) := by
  obtain ⟨i0, hi1, hi2, hi3, hi4⟩ := info_parts infoStr
  have HI := hide (And.intro hi1 (And.intro hi2 (And.intro hi3 hi4)))
  clear hi1 hi2 hi3 hi4
  obtain ⟨j0, hj1, hj2, hj3, hj4⟩ := info_parts CFixups.info
  have HJ := hide (And.intro hj1 (And.intro hj2 (And.intro hj3 hj4)))
  clear hj1 hj2 hj3 hj4
  obtain ⟨k0, hk1, hk2, hk3, hk4⟩ := info_parts CSymbols.info
  have HK := hide (And.intro hk1 (And.intro hk2 (And.intro hk3 hk4)))
  clear hk1 hk2 hk3 hk4
  obtain ⟨q9, hqs1, hqs2, hqs3, hqs4⟩ := info_parts BObj.info
  have HQS := hide (And.intro hqs1 (And.intro hqs2 (And.intro hqs3 hqs4)))
  clear hqs1 hqs2 hqs3 hqs4
  have HH := hide hh
  have HE := hide he
  have HN3 := hide hn3
  clear hh he hn3
  have hws := (splt_len (32 : UInt8) s.data.toList)
  have hwm := splt_mem (32 : UInt8) s.data.toList
  have HWS := hide (And.intro hws hwm)
  have hsz : s.data.toList.length = s.size := by rw [Array.length_toList]; rfl
  have HSI := hide (show stepI o.d s.data.toList = wordI o.d (takeHex (splt 32 s.data.toList)).1 (takeHex (splt 32 s.data.toList)).2 from rfl)
  have HSP := hide (fun V hV => split_any (32 : UInt8) s hs V hV)
  go_enter Tryz.func93, Tryz.ntmps93
  go_wp2_with fail
  refine (HSP.out w HE.out).mono ?_
  rintro e w1 ⟨A, c, rfl, hrow, hb⟩
  rw [List.length_map] at *
  have hl1 := hws.1
  have hl2 := hws.2
  rw [hsz] at hl2 hwm
  clear hws HWS HSP hsz
  generalize splt (32 : UInt8) s.data.toList = ws at *
  have HW := hide hrow
  have HB := hide hb
  clear hrow hb
  have hw0 : 0 < ws.length := by omega
  obtain ⟨b, off, rfl, hbb, hc⟩ := Rd.str HW.out.rd hw0
  simp only [Nat.add_zero] at hc
  go_upto_region 2 with fail
  go_cut [25] from 17 to 24 (fun v wx => v = .bool (decide (ws.getD 0 [] = secW ∧ ws.length = 6)) ∧ wx = w1)
  case first =>
    have hx : ws.getD 0 [] = ws[0] := by rw [List.getD_eq_getElem?_getD, List.getElem?_eq_getElem hw0]; rfl
    by_cases e1 : ws[0] = secW
    · have hq := sec_eq e1
      by_cases h6 : ws.length = 6
      · have hq6 : ((ws.length : Int) == 6) = true := by rw [h6]; rfl
        have HD := hide (show decide (ws.getD 0 [] = secW ∧ ws.length = 6) = true from decide_eq_true ⟨hx.trans e1, h6⟩)
        clear e1 h6 hx
        go_wp2_with fail
        go_meet
        exact ⟨by rw [HD.out], rfl⟩
      · have hq6 : ((ws.length : Int) == 6) = false := beq_eq_false_iff_ne.2 (by omega)
        have HD := hide (show decide (ws.getD 0 [] = secW ∧ ws.length = 6) = false from decide_eq_false (fun h => h6 h.2))
        clear e1 h6 hx
        go_wp2_with fail
        go_meet
        exact ⟨by rw [HD.out], rfl⟩
    · have hq := sec_ne e1
      have HD := hide (show decide (ws.getD 0 [] = secW ∧ ws.length = 6) = false from decide_eq_false (fun h => e1 (hx.symm.trans h.1)))
      clear e1 hx
      go_wp2_with fail
      go_meet
      exact ⟨by rw [HD.out], rfl⟩
  case rest =>
    obtain ⟨rfl, rfl⟩ := hcut
    go_upto_if 25 with (fail)
    go_cut [5, 6] from 25 to 30 (fun v5 v6 wx => WordsP (takeHex ws).1 (takeHex ws).2 w.heap.size w v5 v6 wx)
    case first =>
      by_cases e1 : ws.getD 0 [] = secW ∧ ws.length = 6
      · rw [decide_eq_true e1]
        have HT := hide (show takeHex ws = (ws.take 5, ws.getD 5 []) from if_pos e1)
        have h6 := e1.2
        clear e1
        have hc5 := Rd.strAt HW.out.rd (show 5 < ws.length by omega)
        have hcap := HW.out.cap.1
        have HP := hide (HW.out.prefix (k := 5) (by omega))
        go_wp2_with fail
        go_quiet (fail)
        have HPD := hide (HP.out.drewN nq)
        have HBD := hide (Kit.Below.drewN HB.out nq)
        go_wp2_with fail
        go_meet
        rw [HT.out]
        have hlt : (ws.take 5).length = 5 := by rw [List.length_take]; omega
        have hnc : List.take (5 * 1) (nmC (List.map bs ws)) = nmC ((ws.take 5).map bs) := by simp [nmC]
        refine ⟨some ⟨b, off, none⟩, c, by rw [hlt], ?_, ?_, HBD.out⟩
        · simp [List.getD_eq_getElem?_getD, List.getElem?_eq_getElem (show 5 < ws.length by omega)]
        · have h := HPD.out
          rw [hnc] at h
          rw [hlt]
          exact h
      · rw [decide_eq_false e1]
        have HT := hide (show takeHex ws = (ws, []) from if_neg e1)
        clear e1
        go_wp2_with fail
        go_meet
        rw [HT.out]
        exact ⟨_, _, rfl, rfl, HW.out, HB.out⟩
    case rest =>
      have HXB := hide (take_bd ws s.size hw0 hwm)
      clear hwm hl1 hw0 HW HB hbb hc
      generalize hth : takeHex ws = T at *
      obtain ⟨xs, hx⟩ := T
      clear hth
      simp only at HSI hcut HXB
      obtain ⟨A1, c1, rfl, rfl, hrow, hb⟩ := hcut
      have HW := hide hrow
      have HB := hide hb
      clear hrow hb
      have hx0 : 0 < xs.length := HXB.out.1
      have hx6 : xs.length ≤ 1048577 := Nat.le_trans HXB.out.2.1 (by omega)
      have hw1 : (xs.getD 0 []).length ≤ maxLen := by
        have := HXB.out.2.2.1 0
        unfold maxLen
        omega
      obtain ⟨m1, m2, m3, r1, r2, r3, r4, bm⟩ := three wc (xs.getD 0 []) hw1
      have hmm := @run_makeMap Tryz.prog
      replace HB := hide (HB.out.trans (bm.mono HB.out.size))
      replace HW := hide (HW.out.call bm)
      clear bm
      obtain ⟨b1, off1, rfl, hbb1, -⟩ := Rd.str HW.out.rd hx0
      have hc0 := Rd.strAt HW.out.rd hx0
      simp only [Nat.add_zero] at hc0
      have HWI := hide (show wordI o.d xs hx = if xs.length ≠ many (xs.getD 0 []) then none else if xs.getD 0 [] = fixW then (nums (xs.drop 1)).bind fun ns => addF o.d (mkF ns) else (nums (xs.drop 2)).bind fun ns => if xs.getD 0 [] = secW then (unhex hx).map fun zs => addS o.d (mkSI (xs.getD 1 []) ns zs) else some (addY o.d (mkY (xs.getD 1 []) ns)) from rfl)
      generalize hx0e : xs.getD 0 [] = x0 at *
      have HXE := hide hx0e
      clear hx0e
      by_cases hm : xs.length = many x0
      · have hmi : ((xs.length : Int) == (many x0 : Int)) = true := beq_iff_eq.2 (by omega)
        obtain ⟨h5, hx3⟩ := many_pos (show 0 < many x0 by omega)
        have hl5 : xs.length = 5 := by omega
        have HN := hide (fun (V : World) (hE : Env V) (ys : List (List UInt8)) (A : Option Addr) (c : Nat) (hr : Rd V V.heap.size A (nmC (ys.map bs))) (hy : ys.length ≤ 5) (hl : ∀ x ∈ ys, x.length ≤ 1048576) => numbersOf_any A ys c V hr (by omega) hl hE)
        clear hm hmi
        have HX0 := hide hx3
        by_cases hfx : x0 = fixW
        · have hq := fix_eq hfx
          have hq2 := sec_ne (show ¬ x0 = secW from by rw [hfx]; decide)
          have HD1 := hide (Rd.drop (k := 1) HW.out.rd)
          have hcap := HW.out.cap.1
          have HFX := hide hfx
          clear hfx hx3
          go_wp2_with fail
          have hd4 : (xs.drop 1).length = 4 := by rw [List.length_drop, hl5]
          have HC := hide (HN.out m3 (HE.out.below HB.out) (xs.drop 1) (some ⟨b1, off1 + 1, none⟩) (c1 - 1) HD1.out (by omega) (fun x hx => by
            have := HXB.out.2.2.1
            obtain ⟨i, hi, rfl⟩ := List.getElem_of_mem hx
            have h2 := this (1 + i)
            rw [List.getElem_drop]
            rw [List.getD_eq_getElem?_getD, List.getElem?_eq_getElem (by rw [List.length_drop] at hi; omega)] at h2
            simp only [Option.getD_some] at h2
            omega))
          rw [hd4] at HC
          refine HC.out.mono ?_
          rintro e w4 ⟨A3, c3, n3, rfl, b4, hrow4⟩
          clear HC r1 r2 r3 r4 hmm
          clear hc0
          replace HB := hide (HB.out.trans (b4.mono HB.out.size))
          replace HW := hide (HW.out.call b4)
          clear b4
          have hc0 := Rd.strAt HW.out.rd hx0
          rw [HXE.out] at hc0
          simp only [Nat.add_zero] at hc0
          cases hns : nums (xs.drop 1) with
          | none =>
            have HV := hide (show stepI o.d s.data.toList = none from by rw [HSI.out, HWI.out, if_neg (by omega), if_pos HFX.out, hns]; rfl)
            clear hns hrow4
            go_wp2_with fail
            go_ret
            exact ⟨false, rfl, HB.out.mono hbw, by rw [HV.out]⟩
          | some ns =>
            obtain ⟨rfl, hrow4⟩ := hrow4 ns hns
            have hnl : ns.length = 4 := by rw [nums_len hns, hd4]
            obtain ⟨a1, a2, a3, a4, rfl⟩ := four_of hnl
            have HNS := hide hns
            have HR := hide hrow4
            clear hns hrow4 hnl
            obtain ⟨b3, off3, rfl, -, -⟩ := Rd.int HR.out.rd (i := 0) (by simp)
            have HX := hide (HH.out.box.call HB.out)
            have HO := hide (HH.out.own.call HB.out)
            have x0 := HX.out.cell 0
            simp only [List.getElem?_toArray, List.getElem?_cons_zero, List.getElem?_cons_succ] at x0
            have hxl := HX.out.lt
            rcases List.eq_nil_or_concat o.ps with hps | ⟨qs, p, hps⟩
            · have hl0 : o.ps.length = 0 := by rw [hps]; rfl
              have HV := hide (show stepI o.d s.data.toList = none from by
                rw [HSI.out, HWI.out, if_neg (by omega), if_pos HFX.out, HNS.out]
                show addF o.d _ = none
                unfold addF
                rw [show o.d.ss = [] from by simp [OV.d, hps]]
                rfl)
              clear hps
              go_wp2_with fail
              go_ret
              exact ⟨false, rfl, HB.out.mono hbw, by rw [HV.out]⟩
            · rw [List.concat_eq_append] at hps
              have hlen : o.ps.length = qs.length + 1 := by rw [hps]; simp
              have HPS := hide hps
              have hi0 := Rd.intAt HR.out.rd (i := 0) (by simp)
              have hi1 := Rd.intAt HR.out.rd (i := 1) (by simp)
              have hi2 := Rd.intAt HR.out.rd (i := 2) (by simp)
              have hi3 := Rd.intAt HR.out.rd (i := 3) (by simp)
              simp only [List.getElem_cons_zero, List.getElem_cons_succ, Nat.add_zero] at hi0 hi1 hi2 hi3
              have hl1 : (((qs.length + 1 : Nat) : Int) - 1) = (qs.length : Int) := by omega
              have hwr : IntKind.i64.wrap ((qs.length : Int)) = qs.length := IntWalk.i64_in _ (by omega)
              obtain ⟨bA, hA, hbA0, hbA1, hbo, hcF⟩ := secF_cell HO.out hps
              clear hps
              go_wp2_with fail
              have hgA : bA ≠ g := HH.out.ne bA hbo
              have HA := hide hA
              rw [hA] at x0
              clear hA hbo
              have hfl : p.fs.length ≤ 4000000 := HN3.out p (by rw [HPS.out]; simp)
              have HRF := hide (HO.out.1.2.1 p (by rw [HPS.out]; simp)).2
              have HBB := hide (HB.out.mono hbw)
              have hll : ((qs.length : Nat) : Int) < (qs.length : Int) + 1 := by omega
              have hlt : ((qs.length : Nat) : Int) < (o.ps.length : Int) := by omega
              have hlt2 : qs.length < o.ps.length := by omega
              refine Reg.startT (fun W => W.cell? ⟨g, 0, none⟩ = some (.slice (some ⟨bA, 0, none⟩) o.ps.length o.c) ∧ W.cell? ⟨bA, qs.length * 6 + 5, none⟩ = some (.slice p.F p.fs.length p.fc) ∧ W.cell? ⟨b3, off3, none⟩ = some (.int .i64 a1) ∧ W.cell? ⟨b3, off3 + 1, none⟩ = some (.int .i64 a2) ∧ W.cell? ⟨b3, off3 + 2, none⟩ = some (.int .i64 a3) ∧ W.cell? ⟨b3, off3 + 3, none⟩ = some (.int .i64 a4)) (fun j => j == 30) (by kernel_rfl) ?_
              have hHeld : w4.drew.cell? ⟨g, 0, none⟩ = some (.slice (some ⟨bA, 0, none⟩) o.ps.length o.c) ∧ w4.drew.cell? ⟨bA, qs.length * 6 + 5, none⟩ = some (.slice p.F p.fs.length p.fc) ∧ w4.drew.cell? ⟨b3, off3, none⟩ = some (.int .i64 a1) ∧ w4.drew.cell? ⟨b3, off3 + 1, none⟩ = some (.int .i64 a2) ∧ w4.drew.cell? ⟨b3, off3 + 2, none⟩ = some (.int .i64 a3) ∧ w4.drew.cell? ⟨b3, off3 + 3, none⟩ = some (.int .i64 a4) := ⟨x0, hcF, hi0, hi1, hi2, hi3⟩
              refine Reg.takeT (i := 0) (v := ?_) rfl (by kernel_rfl) (by kernel_rfl) (by kernel_rfl) (by kernel_rfl) (fun _ _ _ h => h) (Or.inl ⟨by rfl, ?_⟩) (by assumption) ?_
              rotate_left 1
              focus (intro w hSw; (try dsimp only at hSw); go_simp; (try with_reducible rfl))
              try simp only [List.getElem_toArray, List.getElem_cons_succ, List.getElem_cons_zero, Act.put, List.setIfInBounds_toArray, List.set_cons_zero, List.set_cons_succ]
              refine Reg.takeT (i := 1) (v := ?_) rfl (by kernel_rfl) (by kernel_rfl) (by kernel_rfl) (by kernel_rfl) (fun _ _ _ h => h) (Or.inl ⟨by rfl, ?_⟩) (by assumption) ?_
              rotate_left 1
              focus (intro w hSw; (try dsimp only at hSw); go_simp; (try with_reducible rfl))
              try simp only [List.getElem_toArray, List.getElem_cons_succ, List.getElem_cons_zero, Act.put, List.setIfInBounds_toArray, List.set_cons_zero, List.set_cons_succ]
              refine Reg.takeT (i := 2) (v := ?_) rfl (by kernel_rfl) (by kernel_rfl) (by kernel_rfl) (by kernel_rfl) (fun _ _ _ h => h) (Or.inl ⟨by rfl, ?_⟩) (by assumption) ?_
              rotate_left 1
              focus (intro w hSw; (try dsimp only at hSw); go_simp; (try with_reducible rfl))
              try simp only [List.getElem_toArray, List.getElem_cons_succ, List.getElem_cons_zero, Act.put, List.setIfInBounds_toArray, List.set_cons_zero, List.set_cons_succ]
              refine Reg.takeT (i := 3) (v := ?_) rfl (by kernel_rfl) (by kernel_rfl) (by kernel_rfl) (by kernel_rfl) (fun _ _ _ h => h) (Or.inl ⟨by rfl, ?_⟩) (by assumption) ?_
              rotate_left 1
              focus (intro w hSw; (try dsimp only at hSw); go_simp; (try with_reducible rfl))
              try simp only [List.getElem_toArray, List.getElem_cons_succ, List.getElem_cons_zero, Act.put, List.setIfInBounds_toArray, List.set_cons_zero, List.set_cons_succ]
              refine Reg.takeT (i := 4) (v := ?_) rfl (by kernel_rfl) (by kernel_rfl) (by kernel_rfl) (by kernel_rfl) (fun _ _ _ h => h) (Or.inl ⟨by rfl, ?_⟩) (by assumption) ?_
              rotate_left 1
              focus (intro w hSw; (try dsimp only at hSw); go_simp; (try with_reducible rfl))
              try simp only [List.getElem_toArray, List.getElem_cons_succ, List.getElem_cons_zero, Act.put, List.setIfInBounds_toArray, List.set_cons_zero, List.set_cons_succ]
              refine Reg.takeT (i := 5) (v := ?_) rfl (by kernel_rfl) (by kernel_rfl) (by kernel_rfl) (by kernel_rfl) (fun _ _ _ h => h) (Or.inl ⟨by rfl, ?_⟩) (by assumption) ?_
              rotate_left 1
              focus (intro w hSw; (try dsimp only at hSw); go_simp; (try with_reducible rfl))
              try simp only [List.getElem_toArray, List.getElem_cons_succ, List.getElem_cons_zero, Act.put, List.setIfInBounds_toArray, List.set_cons_zero, List.set_cons_succ]
              refine Reg.takeT (i := 6) (v := ?_) rfl (by kernel_rfl) (by kernel_rfl) (by kernel_rfl) (by kernel_rfl) (fun _ _ _ h => h) (Or.inl ⟨by rfl, ?_⟩) (by assumption) ?_
              rotate_left 1
              focus (intro w hSw; (try dsimp only at hSw); go_simp; (try with_reducible rfl))
              try simp only [List.getElem_toArray, List.getElem_cons_succ, List.getElem_cons_zero, Act.put, List.setIfInBounds_toArray, List.set_cons_zero, List.set_cons_succ]
              refine Reg.takeT (i := 7) (v := ?_) rfl (by kernel_rfl) (by kernel_rfl) (by kernel_rfl) (by kernel_rfl) (fun _ _ _ h => h) (Or.inl ⟨by rfl, ?_⟩) (by assumption) ?_
              rotate_left 1
              focus (intro w hSw; (try dsimp only at hSw); go_simp; (try with_reducible rfl))
              try simp only [List.getElem_toArray, List.getElem_cons_succ, List.getElem_cons_zero, Act.put, List.setIfInBounds_toArray, List.set_cons_zero, List.set_cons_succ]
              refine Reg.takeT (i := 8) (v := ?_) rfl (by kernel_rfl) (by kernel_rfl) (by kernel_rfl) (by kernel_rfl) (fun _ _ _ h => h) (Or.inl ⟨by rfl, ?_⟩) (by assumption) ?_
              rotate_left 1
              focus (intro w hSw; (try dsimp only at hSw); go_simp; (try with_reducible rfl))
              try simp only [List.getElem_toArray, List.getElem_cons_succ, List.getElem_cons_zero, Act.put, List.setIfInBounds_toArray, List.set_cons_zero, List.set_cons_succ]
              refine Reg.takeT (i := 9) (v := ?_) rfl (by kernel_rfl) (by kernel_rfl) (by kernel_rfl) (by kernel_rfl) (fun _ _ _ h => h) (Or.inl ⟨by rfl, ?_⟩) (by assumption) ?_
              rotate_left 1
              focus (intro w hSw; (try dsimp only at hSw); go_simp; (try with_reducible rfl))
              try simp only [List.getElem_toArray, List.getElem_cons_succ, List.getElem_cons_zero, Act.put, List.setIfInBounds_toArray, List.set_cons_zero, List.set_cons_succ]
              refine Reg.takeT (i := 10) (v := ?_) rfl (by kernel_rfl) (by kernel_rfl) (by kernel_rfl) (by kernel_rfl) (fun _ _ _ h => h) (Or.inl ⟨by rfl, ?_⟩) (by assumption) ?_
              rotate_left 1
              focus (intro w hSw; (try dsimp only at hSw); go_simp; (try with_reducible rfl))
              try simp only [List.getElem_toArray, List.getElem_cons_succ, List.getElem_cons_zero, Act.put, List.setIfInBounds_toArray, List.set_cons_zero, List.set_cons_succ]
              refine Reg.takeT (i := 11) (v := ?_) rfl (by kernel_rfl) (by kernel_rfl) (by kernel_rfl) (by kernel_rfl) (fun _ _ _ h => h) (Or.inl ⟨by rfl, ?_⟩) (by assumption) ?_
              rotate_left 1
              focus (intro w hSw; (try dsimp only at hSw); go_simp; (try with_reducible rfl))
              try simp only [List.getElem_toArray, List.getElem_cons_succ, List.getElem_cons_zero, Act.put, List.setIfInBounds_toArray, List.set_cons_zero, List.set_cons_succ]
              refine Reg.takeT (i := 12) (v := ?_) rfl (by kernel_rfl) (by kernel_rfl) (by kernel_rfl) (by kernel_rfl) (fun _ _ _ h => h) (Or.inl ⟨by rfl, ?_⟩) (by assumption) ?_
              rotate_left 1
              focus (intro w hSw; (try dsimp only at hSw); go_simp; (try with_reducible rfl))
              try simp only [List.getElem_toArray, List.getElem_cons_succ, List.getElem_cons_zero, Act.put, List.setIfInBounds_toArray, List.set_cons_zero, List.set_cons_succ]
              refine Reg.takeT (i := 13) (v := ?_) rfl (by kernel_rfl) (by kernel_rfl) (by kernel_rfl) (by kernel_rfl) (fun _ _ _ h => h) (Or.inl ⟨by rfl, ?_⟩) (by assumption) ?_
              rotate_left 1
              focus (intro w hSw; (try dsimp only at hSw); go_simp; (try with_reducible rfl))
              try simp only [List.getElem_toArray, List.getElem_cons_succ, List.getElem_cons_zero, Act.put, List.setIfInBounds_toArray, List.set_cons_zero, List.set_cons_succ]
              refine Reg.takeT (i := 14) (v := ?_) rfl (by kernel_rfl) (by kernel_rfl) (by kernel_rfl) (by kernel_rfl) (fun _ _ _ h => h) (Or.inl ⟨by rfl, ?_⟩) (by assumption) ?_
              rotate_left 1
              focus (intro w hSw; (try dsimp only at hSw); go_simp; (try with_reducible rfl))
              try simp only [List.getElem_toArray, List.getElem_cons_succ, List.getElem_cons_zero, Act.put, List.setIfInBounds_toArray, List.set_cons_zero, List.set_cons_succ]
              refine Reg.takeT (i := 15) (v := ?_) rfl (by kernel_rfl) (by kernel_rfl) (by kernel_rfl) (by kernel_rfl) (fun _ _ _ h => h) (Or.inl ⟨by rfl, ?_⟩) (by assumption) ?_
              rotate_left 1
              focus (intro w hSw; (try dsimp only at hSw); go_simp; (try with_reducible rfl))
              try simp only [List.getElem_toArray, List.getElem_cons_succ, List.getElem_cons_zero, Act.put, List.setIfInBounds_toArray, List.set_cons_zero, List.set_cons_succ]
              refine Reg.takeT (i := 16) (v := ?_) rfl (by kernel_rfl) (by kernel_rfl) (by kernel_rfl) (by kernel_rfl) (fun _ _ _ h => h) (Or.inl ⟨by rfl, ?_⟩) (by assumption) ?_
              rotate_left 1
              focus (intro w hSw; (try dsimp only at hSw); go_simp; (try with_reducible rfl))
              try simp only [List.getElem_toArray, List.getElem_cons_succ, List.getElem_cons_zero, Act.put, List.setIfInBounds_toArray, List.set_cons_zero, List.set_cons_succ]
              refine Reg.takeT (i := 17) (v := ?_) rfl (by kernel_rfl) (by kernel_rfl) (by kernel_rfl) (by kernel_rfl) (fun _ _ _ h => h) (Or.inl ⟨by rfl, ?_⟩) (by assumption) ?_
              rotate_left 1
              focus (intro w hSw; (try dsimp only at hSw); go_simp; (try with_reducible rfl))
              try simp only [List.getElem_toArray, List.getElem_cons_succ, List.getElem_cons_zero, Act.put, List.setIfInBounds_toArray, List.set_cons_zero, List.set_cons_succ]
              refine Reg.takeT (i := 18) (v := ?_) rfl (by kernel_rfl) (by kernel_rfl) (by kernel_rfl) (by kernel_rfl) (fun _ _ _ h => h) (Or.inl ⟨by rfl, ?_⟩) (by assumption) ?_
              rotate_left 1
              focus (intro w hSw; (try dsimp only at hSw); go_simp; (try with_reducible rfl))
              try simp only [List.getElem_toArray, List.getElem_cons_succ, List.getElem_cons_zero, Act.put, List.setIfInBounds_toArray, List.set_cons_zero, List.set_cons_succ]
              refine Reg.takeT (i := 19) (v := ?_) rfl (by kernel_rfl) (by kernel_rfl) (by kernel_rfl) (by kernel_rfl) (fun _ _ _ h => h) (Or.inl ⟨by rfl, ?_⟩) (by assumption) ?_
              rotate_left 1
              focus (intro w hSw; (try dsimp only at hSw); go_simp; (try with_reducible rfl))
              try simp only [List.getElem_toArray, List.getElem_cons_succ, List.getElem_cons_zero, Act.put, List.setIfInBounds_toArray, List.set_cons_zero, List.set_cons_succ]
              refine Reg.takeT (i := 20) (v := ?_) rfl (by kernel_rfl) (by kernel_rfl) (by kernel_rfl) (by kernel_rfl) (fun _ _ _ h => h) (Or.inl ⟨by rfl, ?_⟩) (by assumption) ?_
              rotate_left 1
              focus (intro w hSw; (try dsimp only at hSw); go_simp; (try with_reducible rfl))
              try simp only [List.getElem_toArray, List.getElem_cons_succ, List.getElem_cons_zero, Act.put, List.setIfInBounds_toArray, List.set_cons_zero, List.set_cons_succ]
              refine Reg.takeT (i := 21) (v := ?_) rfl (by kernel_rfl) (by kernel_rfl) (by kernel_rfl) (by kernel_rfl) (fun _ _ _ h => h) (Or.inl ⟨by rfl, ?_⟩) (by assumption) ?_
              rotate_left 1
              focus (intro w hSw; (try dsimp only at hSw); go_simp; (try with_reducible rfl))
              try simp only [List.getElem_toArray, List.getElem_cons_succ, List.getElem_cons_zero, Act.put, List.setIfInBounds_toArray, List.set_cons_zero, List.set_cons_succ]
              refine Reg.takeT (i := 22) (v := ?_) rfl (by kernel_rfl) (by kernel_rfl) (by kernel_rfl) (by kernel_rfl) (fun _ _ _ h => h) (Or.inl ⟨by rfl, ?_⟩) (by assumption) ?_
              rotate_left 1
              focus (intro w hSw; (try dsimp only at hSw); go_simp; (try with_reducible rfl))
              try simp only [List.getElem_toArray, List.getElem_cons_succ, List.getElem_cons_zero, Act.put, List.setIfInBounds_toArray, List.set_cons_zero, List.set_cons_succ]
              refine Reg.takeT (i := 23) (v := ?_) rfl (by kernel_rfl) (by kernel_rfl) (by kernel_rfl) (by kernel_rfl) (fun _ _ _ h => h) (Or.inl ⟨by rfl, ?_⟩) (by assumption) ?_
              rotate_left 1
              focus (intro w hSw; (try dsimp only at hSw); go_simp; (try with_reducible rfl))
              try simp only [List.getElem_toArray, List.getElem_cons_succ, List.getElem_cons_zero, Act.put, List.setIfInBounds_toArray, List.set_cons_zero, List.set_cons_succ]
              refine Reg.takeT (i := 24) (v := ?_) rfl (by kernel_rfl) (by kernel_rfl) (by kernel_rfl) (by kernel_rfl) (fun _ _ _ h => h) (Or.inl ⟨by rfl, ?_⟩) (by assumption) ?_
              rotate_left 1
              focus (intro w hSw; (try dsimp only at hSw); go_simp; (try with_reducible rfl))
              try simp only [List.getElem_toArray, List.getElem_cons_succ, List.getElem_cons_zero, Act.put, List.setIfInBounds_toArray, List.set_cons_zero, List.set_cons_succ]
              refine Reg.takeT (i := 25) (v := ?_) rfl (by kernel_rfl) (by kernel_rfl) (by kernel_rfl) (by kernel_rfl) (fun _ _ _ h => h) (Or.inl ⟨by rfl, ?_⟩) (by assumption) ?_
              rotate_left 1
              focus (intro w hSw; (try dsimp only at hSw); go_simp; (try with_reducible rfl))
              try simp only [List.getElem_toArray, List.getElem_cons_succ, List.getElem_cons_zero, Act.put, List.setIfInBounds_toArray, List.set_cons_zero, List.set_cons_succ]
              refine Reg.oneT (i := 26) rfl (by kernel_rfl) (fun K hK => ?_)
              go_simp
              have BA : Below w4.heap.size w4 ((w4.alloc (.cells #[.int .i64 a1, .int .i64 a2, .int .i64 a3, .int .i64 a4] 65)).drew) := (by repeat (first | exact Below.refl _ _ | with_reducible assumption | (refine Below.drew ?_) | (refine Below.drewN ?_ _) | (refine Below.alloc ?_ (by simp; try omega) _) | (refine Below.setCell ?_ (by simp; try omega) _)))
              have HLT := hide (show Rd ((w4.alloc (.cells #[.int .i64 a1, .int .i64 a2, .int .i64 a3, .int .i64 a4] 65)).drew) (w4.heap.size + 1) (some ⟨w4.heap.size, 0, none⟩) (fixupC (a1, a2, a3, a4)) from rd_lit w4 #[.int .i64 a1, .int .i64 a2, .int .i64 a3, .int .i64 a4] 65 _ rfl)
              have hbw4 : base ≤ w4.heap.size := Nat.le_trans hbw HB.out.size
              have HBB5 := hide (HBB.out.trans (BA.mono hbw4))
              have hcc := bcell BA
              have hHeld : ((w4.alloc (.cells #[.int .i64 a1, .int .i64 a2, .int .i64 a3, .int .i64 a4] 65)).drew).cell? ⟨g, 0, none⟩ = some (.slice (some ⟨bA, 0, none⟩) o.ps.length o.c) ∧ ((w4.alloc (.cells #[.int .i64 a1, .int .i64 a2, .int .i64 a3, .int .i64 a4] 65)).drew).cell? ⟨bA, qs.length * 6 + 5, none⟩ = some (.slice p.F p.fs.length p.fc) ∧ ((w4.alloc (.cells #[.int .i64 a1, .int .i64 a2, .int .i64 a3, .int .i64 a4] 65)).drew).cell? ⟨b3, off3, none⟩ = some (.int .i64 a1) ∧ ((w4.alloc (.cells #[.int .i64 a1, .int .i64 a2, .int .i64 a3, .int .i64 a4] 65)).drew).cell? ⟨b3, off3 + 1, none⟩ = some (.int .i64 a2) ∧ ((w4.alloc (.cells #[.int .i64 a1, .int .i64 a2, .int .i64 a3, .int .i64 a4] 65)).drew).cell? ⟨b3, off3 + 2, none⟩ = some (.int .i64 a3) ∧ ((w4.alloc (.cells #[.int .i64 a1, .int .i64 a2, .int .i64 a3, .int .i64 a4] 65)).drew).cell? ⟨b3, off3 + 3, none⟩ = some (.int .i64 a4) := by
                have hb3 : b3 < w4.heap.size := World.block_lt_of_cell? _ _ hi0
                refine ⟨?_, ?_, ?_, ?_, ?_, ?_⟩
                · rw [hcc.1 _ _ hxl]; exact x0
                · rw [hcc.1 _ _ hbA1]; exact hcF
                · rw [hcc.1 _ _ hb3]; exact hi0
                · rw [hcc.1 _ _ hb3]; exact hi1
                · rw [hcc.1 _ _ hb3]; exact hi2
                · rw [hcc.1 _ _ hb3]; exact hi3
              replace HX := hide (HX.out.call BA)
              replace HO := hide (HO.out.call BA)
              replace HRF := hide (HRF.out.call BA)
              have hs5 := BA.size
              replace HR := hide (HR.out.call BA)
              clear x0 hcF hi0 hi1 hi2 hi3 hcc BA HBB HB HW hc0
              generalize (w4.alloc (.cells #[.int .i64 a1, .int .i64 a2, .int .i64 a3, .int .i64 a4] 65)).drew = w5 at *
              refine hK.out _ _ hHeld ?_
              clear hK K
              try simp only [List.getElem_toArray, List.getElem_cons_succ, List.getElem_cons_zero, Act.put, List.setIfInBounds_toArray, List.set_cons_zero, List.set_cons_succ]
              refine Reg.oneT (i := 27) rfl (by kernel_rfl) (fun K hK => ?_)
              refine step_app (by rfl) _ _ 59 rfl 65 j0 (.agg #[.int .i64 0, .int .i64 0, .int .i64 0, .int .i64 0]) 4 32 Tryz.underlying59 HJ.out.1 HJ.out.2.1 HJ.out.2.2.1 HJ.out.2.2.2 rfl (by decide) base p.F p.fs.length p.fc (cellsOf fixupC p.fs) (by rfl) HRF.out (by omega) _ 1 1 (fixupC (a1, a2, a3, a4)) (by rfl) HLT.out rfl (fun h => by cases h) (one_fx _) ?n1 ?n2 ?_
              case n1 => unfold maxLen; omega
              case n2 => omega
              intro A9 n9 c9 wz hn9 o9 g9 k9
              subst hn9
              obtain ⟨bB, hAB, _, hcz, hfz, HO9, hne9⟩ := addF_own HO.out HPS.out rfl o9 g9 k9
              obtain rfl : bB = bA := by
                have h := hAB.symm.trans HA.out
                injection h with h
                injection h
              have HX9 := hide (HX.out.grown g9 (HRF.out.box HX.out (by decide)))
              have HR9 := hide (HR.out.grown g9 (fun k hk => apartT HR.out HRF.out (by decide) k hk))
              have HB9 := hide (HBB5.out.grown g9 (by omega) (fun j hj => (HRF.out.lt j hj).1))
              have hHeld : wz.cell? ⟨g, 0, none⟩ = some (.slice (some ⟨bB, 0, none⟩) o.ps.length o.c) ∧ wz.cell? ⟨bB, qs.length * 6 + 5, none⟩ = some (.slice p.F p.fs.length p.fc) ∧ wz.cell? ⟨b3, off3, none⟩ = some (.int .i64 a1) ∧ wz.cell? ⟨b3, off3 + 1, none⟩ = some (.int .i64 a2) ∧ wz.cell? ⟨b3, off3 + 2, none⟩ = some (.int .i64 a3) ∧ wz.cell? ⟨b3, off3 + 3, none⟩ = some (.int .i64 a4) := by
                have hx := HX9.out.cell 0
                simp only [List.getElem?_toArray, List.getElem?_cons_zero] at hx
                rw [HA.out] at hx
                have hi0 := Rd.intAt HR9.out.rd (i := 0) (by simp)
                have hi1 := Rd.intAt HR9.out.rd (i := 1) (by simp)
                have hi2 := Rd.intAt HR9.out.rd (i := 2) (by simp)
                have hi3 := Rd.intAt HR9.out.rd (i := 3) (by simp)
                exact ⟨hx, hcz, hi0, hi1, hi2, hi3⟩
              refine hK.out _ _ hHeld ?_
              clear hK K o9 g9 k9 HX HR HO HRF HBB5 HLT
              try simp only [List.getElem_toArray, List.getElem_cons_succ, List.getElem_cons_zero, Act.put, List.setIfInBounds_toArray, List.set_cons_zero, List.set_cons_succ]
              refine Reg.oneT (i := 28) rfl (by kernel_rfl) (fun K hK => ?_)
              go_simp
              refine hK.out _ _ hHeld ?_
              clear hK K
              try simp only [List.getElem_toArray, List.getElem_cons_succ, List.getElem_cons_zero, Act.put, List.setIfInBounds_toArray, List.set_cons_zero, List.set_cons_succ]
              refine Reg.takeT (i := 29) (v := ?_) rfl (by kernel_rfl) (by kernel_rfl) (by kernel_rfl) (by kernel_rfl) (fun _ _ _ h => h) (Or.inl ⟨by rfl, ?_⟩) (by assumption) ?_
              rotate_left 1
              focus (intro w hSw; (try dsimp only at hSw); go_simp; (try with_reducible rfl))
              try simp only [List.getElem_toArray, List.getElem_cons_succ, List.getElem_cons_zero, Act.put, List.setIfInBounds_toArray, List.set_cons_zero, List.set_cons_succ]
              refine Reg.lastT (i := 30) rfl (by kernel_rfl) (by rfl) (fun K hK => ?_)
              go_simp
              refine hK.out _ _ ?_
              clear hK K
              try simp only [List.getElem_toArray, List.getElem_cons_succ, List.getElem_cons_zero, Act.put, List.setIfInBounds_toArray, List.set_cons_zero, List.set_cons_succ]
              refine Reg.doneT (by kernel_rfl) ?_ _
              clear hHeld hcz hfz HR9 hAB
              have HV := hide (show stepI o.d s.data.toList = some ({ o with ps := qs ++ [{ p with F := A9, fs := p.fs ++ [(a1, a2, a3, a4)], fc := c9 }] } : OV).d from by
                rw [HSI.out, HWI.out, if_neg (by omega), if_pos HFX.out, HNS.out]
                show addF o.d (a1, a2, a3, a4) = _
                rw [show o.d = ⟨qs.map SV.d ++ [p.d], o.ys⟩ from by simp [OV.d, HPS.out], addF_last]
                simp [OV.d, SV.d])
              have HXZ := hide (HX9.out.far (p := ⟨bB, qs.length * 6 + 5, none⟩) (Ne.symm hgA) (.slice A9 (p.fs.length + 1) c9))
              have HBZ := hide (HB9.out.setCell (p := ⟨bB, qs.length * 6 + 5, none⟩) hbA0 (.slice A9 (p.fs.length + 1) c9))
              have HOZ := hide HO9
              clear HO9 HX9 HB9
              generalize wz.setCell ⟨bB, qs.length * 6 + 5, none⟩ (.slice A9 (p.fs.length + 1) c9) = wf at *
              go_wp2_with fail
              go_ret
              refine ⟨true, rfl, HBZ.out, ?_⟩
              rw [HV.out]
              refine ⟨rfl, _, rfl, ⟨?_, HOZ.out, fun k hk => ?_⟩⟩
              · have h := HXZ.out
                rw [hlen] at h
                show Box wf g _ #[.slice o.A (qs ++ [_]).length o.c, .slice o.Y o.ys.length o.yc]
                rw [List.length_append]
                exact h
              · rcases hne9 k hk with h1 | h1
                · exact HH.out.ne k h1
                · omega
        · have hq := fix_ne hfx
          have HFX := hide hfx
          have hcap : 5 ≤ c1 := by rw [← hl5]; exact HW.out.cap.1
          have hc1 := Rd.strAt HW.out.rd (show 1 < xs.length by omega)
          generalize hx1e : xs.getD 1 [] = x1 at *
          have HX1 := hide hx1e
          have HD := hide (delete_any xs hl5 (some ⟨b1, off1, none⟩) c1 w m3 (by rw [← hl5]; exact HW.out) HB.out (by have := HW.out.cap.2; unfold maxLen at this; omega))
          clear hfx hx3 hx1e
          go_wp2_with fail
          refine HD.out.mono ?_
          rintro e w4 ⟨rfl, hrow4, hb4⟩
          have hy : (xs.take 1 ++ xs.drop 2).length = 4 := by simp; omega
          have hy0 : (xs.take 1 ++ xs.drop 2).getD 0 [] = x0 := by
            have h := HXE.out
            obtain ⟨z0, z1, z2, z3, z4, rfl⟩ := five_of hl5
            exact h
          have hyd : (xs.take 1 ++ xs.drop 2).drop 1 = xs.drop 2 := by
            obtain ⟨z0, z1, z2, z3, z4, rfl⟩ := five_of hl5
            rfl
          have HW4 := hide hrow4
          have HB4 := hide hb4
          have hc4 := Rd.strAt hrow4.rd (show 0 < (xs.take 1 ++ xs.drop 2).length by omega)
          rw [hy0, Nat.add_zero] at hc4
          have HD4 := hide (Rd.drop (k := 1) hrow4.rd)
          rw [hyd] at HD4
          have hd3 : (xs.drop 2).length = 3 := by rw [List.length_drop, hl5]
          have HC := hide (HN.out w4 (HE.out.below HB4.out) (xs.drop 2) (some ⟨b1, off1 + 1, none⟩) (c1 - 1) HD4.out (by omega) (fun x hx => by
            have := HXB.out.2.2.1
            obtain ⟨i, hi, rfl⟩ := List.getElem_of_mem hx
            have h2 := this (2 + i)
            rw [List.getElem_drop]
            rw [List.getD_eq_getElem?_getD, List.getElem?_eq_getElem (by rw [List.length_drop] at hi; omega)] at h2
            simp only [Option.getD_some] at h2
            omega))
          rw [hd3] at HC
          clear hrow4 hb4 HD hc0 hc1 HW HB hmm r1 r2 r3 r4 hy0 hyd
          go_wp2_with fail
          refine HC.out.mono ?_
          rintro e w5 ⟨A3, c3, n3, rfl, b5, hrow5⟩
          clear HC hc4
          replace HB4 := hide (HB4.out.trans (b5.mono HB4.out.size))
          replace HW4 := hide (HW4.out.call b5)
          clear b5
          have hc0 := Rd.strAt HW4.out.rd (show 0 < (xs.take 1 ++ xs.drop 2).length by omega)
          rw [show (xs.take 1 ++ xs.drop 2).getD 0 [] = x0 from by
            have h := HXE.out
            obtain ⟨z0, z1, z2, z3, z4, rfl⟩ := five_of hl5
            exact h, Nat.add_zero] at hc0
          cases hns : nums (xs.drop 2) with
          | none =>
            have HV := hide (show stepI o.d s.data.toList = none from by rw [HSI.out, HWI.out, if_neg (by omega), if_neg HFX.out, hns]; rfl)
            clear hns hrow5
            go_wp2_with fail
            go_ret
            exact ⟨false, rfl, HB4.out.mono hbw, by rw [HV.out]⟩
          | some ns =>
            obtain ⟨rfl, hrow5⟩ := hrow5 ns hns
            have hnl : ns.length = 3 := by rw [nums_len hns, hd3]
            obtain ⟨a1, a2, a3, rfl⟩ := three_of hnl
            have HNS := hide hns
            have HR := hide hrow5
            clear hns hrow5 hnl
            obtain ⟨b3, off3, rfl, -, -⟩ := Rd.int HR.out.rd (i := 0) (by simp)
            have HX := hide (HH.out.box.call HB4.out)
            have HO := hide (HH.out.own.call HB4.out)
            have x0_ := HX.out.cell 0
            have x1_ := HX.out.cell 1
            simp only [List.getElem?_toArray, List.getElem?_cons_zero, List.getElem?_cons_succ] at x0_ x1_
            have hxl := HX.out.lt
            have hi0 := Rd.intAt HR.out.rd (i := 0) (by simp)
            have hi1 := Rd.intAt HR.out.rd (i := 1) (by simp)
            have hi2 := Rd.intAt HR.out.rd (i := 2) (by simp)
            simp only [List.getElem_cons_zero, List.getElem_cons_succ, Nat.add_zero] at hi0 hi1 hi2
            by_cases hsec : x0 = secW
            · have hq2 := sec_eq hsec
              have HSEC := hide hsec
              have HHX := hide (readHex_any (bs hx) (by rw [bs_size]; have := HXB.out.2.2.2; omega) w5)
              rw [show (bs hx).data.toList = hx from by simp [bs]] at HHX
              clear hsec
              go_wp2_with fail
              refine HHX.out.mono ?_
              rintro e w6 ⟨A6, c6, n6, rfl, b6, h6⟩
              clear HHX x0_ x1_ hi0 hi1 hi2 hc0 hxl
              have H6 := hide h6
              have HN6 := hide b6
              clear h6
              have HOLD := hide (fun p (hp : p ∈ o.ps) k (hk : sblk p k) => (show k < w5.heap.size from ((HO.out.1.2.1 p hp).lt k hk).2))
              have HB5 := hide (show w.heap.size ≤ w5.heap.size from HB4.out.size)
              have HG5 := hide (show g < w5.heap.size from HX.out.lt)
              replace HB4 := hide (HB4.out.trans (b6.mono HB4.out.size))
              replace HR := hide (HR.out.call b6)
              replace HX := hide (HX.out.call b6)
              replace HO := hide (HO.out.call b6)
              clear b6
              have hi0 := Rd.intAt HR.out.rd (i := 0) (by simp)
              have hi1 := Rd.intAt HR.out.rd (i := 1) (by simp)
              have hi2 := Rd.intAt HR.out.rd (i := 2) (by simp)
              simp only [List.getElem_cons_zero, List.getElem_cons_succ, Nat.add_zero] at hi0 hi1 hi2
              go_wp2_with fail
              refine Reg.startT (fun W => W.cell? ⟨b3, off3, none⟩ = some (.int .i64 a1) ∧ W.cell? ⟨b3, off3 + 1, none⟩ = some (.int .i64 a2)) (fun _ => false) (by kernel_rfl) ?_
              have hHeld : w6.drew.cell? ⟨b3, off3, none⟩ = some (.int .i64 a1) ∧ w6.drew.cell? ⟨b3, off3 + 1, none⟩ = some (.int .i64 a2) := ⟨hi0, hi1⟩
              refine Reg.takeT (i := 0) (v := ?_) rfl (by kernel_rfl) (by kernel_rfl) (by kernel_rfl) (by kernel_rfl) (fun _ _ _ h => h) (Or.inl ⟨by rfl, ?_⟩) (by assumption) ?_
              rotate_left 1
              focus (intro w hSw; (try dsimp only at hSw); go_simp; (try with_reducible rfl))
              try simp only [List.getElem_toArray, List.getElem_cons_succ, List.getElem_cons_zero, Act.put, List.setIfInBounds_toArray, List.set_cons_zero, List.set_cons_succ]
              refine Reg.takeT (i := 1) (v := ?_) rfl (by kernel_rfl) (by kernel_rfl) (by kernel_rfl) (by kernel_rfl) (fun _ _ _ h => h) (Or.inl ⟨by rfl, ?_⟩) (by assumption) ?_
              rotate_left 1
              focus (intro w hSw; (try dsimp only at hSw); go_simp; (try with_reducible rfl))
              try simp only [List.getElem_toArray, List.getElem_cons_succ, List.getElem_cons_zero, Act.put, List.setIfInBounds_toArray, List.set_cons_zero, List.set_cons_succ]
              refine Reg.takeT (i := 2) (v := ?_) rfl (by kernel_rfl) (by kernel_rfl) (by kernel_rfl) (by kernel_rfl) (fun _ _ _ h => h) (Or.inl ⟨by rfl, ?_⟩) (by assumption) ?_
              rotate_left 1
              focus (intro w hSw; (try dsimp only at hSw); go_simp; (try with_reducible rfl))
              try simp only [List.getElem_toArray, List.getElem_cons_succ, List.getElem_cons_zero, Act.put, List.setIfInBounds_toArray, List.set_cons_zero, List.set_cons_succ]
              refine Reg.takeT (i := 3) (v := ?_) rfl (by kernel_rfl) (by kernel_rfl) (by kernel_rfl) (by kernel_rfl) (fun _ _ _ h => h) (Or.inl ⟨by rfl, ?_⟩) (by assumption) ?_
              rotate_left 1
              focus (intro w hSw; (try dsimp only at hSw); go_simp; (try with_reducible rfl))
              try simp only [List.getElem_toArray, List.getElem_cons_succ, List.getElem_cons_zero, Act.put, List.setIfInBounds_toArray, List.set_cons_zero, List.set_cons_succ]
              refine Reg.takeT (i := 4) (v := ?_) rfl (by kernel_rfl) (by kernel_rfl) (by kernel_rfl) (by kernel_rfl) (fun _ _ _ h => h) (Or.inl ⟨by rfl, ?_⟩) (by assumption) ?_
              rotate_left 1
              focus (intro w hSw; (try dsimp only at hSw); go_simp; (try with_reducible rfl))
              try simp only [List.getElem_toArray, List.getElem_cons_succ, List.getElem_cons_zero, Act.put, List.setIfInBounds_toArray, List.set_cons_zero, List.set_cons_succ]
              refine Reg.takeT (i := 5) (v := ?_) rfl (by kernel_rfl) (by kernel_rfl) (by kernel_rfl) (by kernel_rfl) (fun _ _ _ h => h) (Or.inl ⟨by rfl, ?_⟩) (by assumption) ?_
              rotate_left 1
              focus (intro w hSw; (try dsimp only at hSw); go_simp; (try with_reducible rfl))
              try simp only [List.getElem_toArray, List.getElem_cons_succ, List.getElem_cons_zero, Act.put, List.setIfInBounds_toArray, List.set_cons_zero, List.set_cons_succ]
              refine Reg.takeT (i := 6) (v := ?_) rfl (by kernel_rfl) (by kernel_rfl) (by kernel_rfl) (by kernel_rfl) (fun _ _ _ h => h) (Or.inl ⟨by rfl, ?_⟩) (by assumption) ?_
              rotate_left 1
              focus (intro w hSw; (try dsimp only at hSw); go_simp; (try with_reducible rfl))
              try simp only [List.getElem_toArray, List.getElem_cons_succ, List.getElem_cons_zero, Act.put, List.setIfInBounds_toArray, List.set_cons_zero, List.set_cons_succ]
              refine Reg.takeT (i := 7) (v := ?_) rfl (by kernel_rfl) (by kernel_rfl) (by kernel_rfl) (by kernel_rfl) (fun _ _ _ h => h) (Or.inl ⟨by rfl, ?_⟩) (by assumption) ?_
              rotate_left 1
              focus (intro w hSw; (try dsimp only at hSw); go_simp; (try with_reducible rfl))
              try simp only [List.getElem_toArray, List.getElem_cons_succ, List.getElem_cons_zero, Act.put, List.setIfInBounds_toArray, List.set_cons_zero, List.set_cons_succ]
              refine Reg.takeT (i := 8) (v := ?_) rfl (by kernel_rfl) (by kernel_rfl) (by kernel_rfl) (by kernel_rfl) (fun _ _ _ h => h) (Or.inl ⟨by rfl, ?_⟩) (by assumption) ?_
              rotate_left 1
              focus (intro w hSw; (try dsimp only at hSw); go_simp; (try with_reducible rfl))
              try simp only [List.getElem_toArray, List.getElem_cons_succ, List.getElem_cons_zero, Act.put, List.setIfInBounds_toArray, List.set_cons_zero, List.set_cons_succ]
              refine Reg.oneT (i := 9) rfl (by kernel_rfl) (fun K hK => ?_)
              go_simp
              have BA : Below w6.heap.size w6 ((w6.alloc (.cells #[.string ⟨#[]⟩, .int .i64 0, .int .i64 0, .slice none 0 0, .int .i64 0, .slice none 0 0] 61)).drew) := (by repeat (first | exact Below.refl _ _ | with_reducible assumption | (refine Below.drew ?_) | (refine Below.drewN ?_ _) | (refine Below.alloc ?_ (by simp; try omega) _) | (refine Below.setCell ?_ (by simp; try omega) _)))
              have HV6 := hide (show Box ((w6.alloc (.cells #[.string ⟨#[]⟩, .int .i64 0, .int .i64 0, .slice none 0 0, .int .i64 0, .slice none 0 0] 61)).drew) w6.heap.size 61 #[.string ⟨#[]⟩, .int .i64 0, .int .i64 0, .slice none 0 0, .int .i64 0, .slice none 0 0] from Box.new w6 61 #[.string ⟨#[]⟩, .int .i64 0, .int .i64 0, .slice none 0 0, .int .i64 0, .slice none 0 0])
              have hcc := bcell BA
              have hHeld : ((w6.alloc (.cells #[.string ⟨#[]⟩, .int .i64 0, .int .i64 0, .slice none 0 0, .int .i64 0, .slice none 0 0] 61)).drew).cell? ⟨b3, off3, none⟩ = some (.int .i64 a1) ∧ ((w6.alloc (.cells #[.string ⟨#[]⟩, .int .i64 0, .int .i64 0, .slice none 0 0, .int .i64 0, .slice none 0 0] 61)).drew).cell? ⟨b3, off3 + 1, none⟩ = some (.int .i64 a2) := by
                have hb3 : b3 < w6.heap.size := World.block_lt_of_cell? _ _ hi0
                refine ⟨?_, ?_⟩
                · rw [hcc.1 _ _ hb3]; exact hi0
                · rw [hcc.1 _ _ hb3]; exact hi1
              have hb3 : b3 < w6.heap.size := World.block_lt_of_cell? _ _ hi0
              have HBA := hide BA
              clear hcc hi0 hi1 hi2 BA
              generalize (w6.alloc (.cells #[.string ⟨#[]⟩, .int .i64 0, .int .i64 0, .slice none 0 0, .int .i64 0, .slice none 0 0] 61)).drew = w7 at *
              generalize hVV : w6.heap.size = V at *
              refine hK.out _ _ hHeld ?_
              clear hK K
              try simp only [List.getElem_toArray, List.getElem_cons_succ, List.getElem_cons_zero, Act.put, List.setIfInBounds_toArray, List.set_cons_zero, List.set_cons_succ]
              have v0 := HV6.out.cell 0
              have v1 := HV6.out.cell 1
              have v2 := HV6.out.cell 2
              have v3 := HV6.out.cell 3
              have v4 := HV6.out.cell 4
              have v5 := HV6.out.cell 5
              simp only [List.getElem?_toArray, List.getElem?_cons_zero, List.getElem?_cons_succ] at v0 v1 v2 v3 v4 v5
              have z0 := HV6.out.frozen 0
              have z1 := HV6.out.frozen 1
              have z2 := HV6.out.frozen 2
              have z3 := HV6.out.frozen 3
              have z4 := HV6.out.frozen 4
              have z5 := HV6.out.frozen 5
              have hvl := HV6.out.lt
              refine Reg.oneT (i := 10) rfl (by kernel_rfl) (fun K hK => ?_)
              go_simp
              have B7 : Below V w7 ((((((w7.setCell ⟨V, 0, none⟩ (.string (bs x1))).setCell ⟨V, 1, none⟩ (.int .i64 a1)).setCell ⟨V, 2, none⟩ (.int .i64 a2)).setCell ⟨V, 3, none⟩ (.slice A6 n6 c6)).setCell ⟨V, 4, none⟩ (.int .i64 0)).setCell ⟨V, 5, none⟩ (.slice none 0 0)) := put6_below (i := 0) (Below.refl _ _) (Nat.le_refl _)
              have HVB := hide (show Box ((((((w7.setCell ⟨V, 0, none⟩ (.string (bs x1))).setCell ⟨V, 1, none⟩ (.int .i64 a1)).setCell ⟨V, 2, none⟩ (.int .i64 a2)).setCell ⟨V, 3, none⟩ (.slice A6 n6 c6)).setCell ⟨V, 4, none⟩ (.int .i64 0)).setCell ⟨V, 5, none⟩ (.slice none 0 0)) V 61 #[.string (bs x1), .int .i64 a1, .int .i64 a2, .slice A6 n6 c6, .int .i64 0, .slice none 0 0] from put6_box HV6.out (v0 := .string (bs x1)) (v1 := .int .i64 a1) (v2 := .int .i64 a2) (v3 := .slice A6 n6 c6) (v4 := .int .i64 0) (v5 := .slice none 0 0))
              have hHeld2 : ((((((w7.setCell ⟨V, 0, none⟩ (.string (bs x1))).setCell ⟨V, 1, none⟩ (.int .i64 a1)).setCell ⟨V, 2, none⟩ (.int .i64 a2)).setCell ⟨V, 3, none⟩ (.slice A6 n6 c6)).setCell ⟨V, 4, none⟩ (.int .i64 0)).setCell ⟨V, 5, none⟩ (.slice none 0 0)).cell? ⟨b3, off3, none⟩ = some (.int .i64 a1) ∧ ((((((w7.setCell ⟨V, 0, none⟩ (.string (bs x1))).setCell ⟨V, 1, none⟩ (.int .i64 a1)).setCell ⟨V, 2, none⟩ (.int .i64 a2)).setCell ⟨V, 3, none⟩ (.slice A6 n6 c6)).setCell ⟨V, 4, none⟩ (.int .i64 0)).setCell ⟨V, 5, none⟩ (.slice none 0 0)).cell? ⟨b3, off3 + 1, none⟩ = some (.int .i64 a2) := ⟨(B7.cell (p := ⟨b3, off3, none⟩) hb3).trans hHeld.1, (B7.cell (p := ⟨b3, off3 + 1, none⟩) hb3).trans hHeld.2⟩
              refine hK.out _ _ hHeld2 ?_
              clear hK K
              try simp only [List.getElem_toArray, List.getElem_cons_succ, List.getElem_cons_zero, Act.put, List.setIfInBounds_toArray, List.set_cons_zero, List.set_cons_succ]
              refine Reg.doneT (by kernel_rfl) ?_ _
              have BT := HBA.out.trans B7
              have hi2 := Rd.intAt HR.out.rd (i := 2) (by simp)
              simp only [List.getElem_cons_zero, List.getElem_cons_succ, Nat.add_zero] at hi2
              replace hi2 := (BT.cell (p := ⟨b3, off3 + 2, none⟩) hb3).trans hi2
              have HBT := hide BT
              clear BT B7 HBA hHeld hHeld2 v0 v1 v2 v3 v4 v5 z0 z1 z2 z3 z4 z5 hvl HV6
              generalize ((((((w7.setCell ⟨V, 0, none⟩ (.string (bs x1))).setCell ⟨V, 1, none⟩ (.int .i64 a1)).setCell ⟨V, 2, none⟩ (.int .i64 a2)).setCell ⟨V, 3, none⟩ (.slice A6 n6 c6)).setCell ⟨V, 4, none⟩ (.int .i64 0)).setCell ⟨V, 5, none⟩ (.slice none 0 0)) = w8 at *
              have v1 := HVB.out.cell 1
              have v4 := HVB.out.cell 4
              simp only [List.getElem?_toArray, List.getElem?_cons_zero, List.getElem?_cons_succ] at v1 v4
              have z4 := HVB.out.frozen 4
              have hvl := HVB.out.lt
              have HVV := hide hVV
              clear hVV
              go_upto_if 79 with (fail)
              go_cut [] from 77 to 83 (fun wx => Below V w6 wx ∧ Box wx V 61 #[.string (bs x1), .int .i64 a1, .int .i64 a2, .slice A6 n6 c6, .int .i64 (blankSz a1 a3), .slice none 0 0])
              case first =>
                by_cases h3 : a1 = 3
                · have hq : (a1 == 3) = true := beq_iff_eq.2 h3
                  have HSZ := hide (show blankSz a1 a3 = a3 from if_pos h3)
                  have HV9 := hide (HVB.out.set 4 (.int .i64 a3))
                  have HB9 := hide (HBT.out.setCell (p := ⟨V, 4, none⟩) (Nat.le_refl _) (.int .i64 a3))
                  clear h3
                  go_wp2_with fail
                  go_meet
                  rw [HSZ.out]
                  exact ⟨HB9.out, HV9.out⟩
                · have hq : (a1 == 3) = false := beq_eq_false_iff_ne.2 h3
                  have HSZ := hide (show blankSz a1 a3 = 0 from if_neg h3)
                  clear h3
                  go_wp2_with fail
                  go_meet
                  rw [HSZ.out]
                  exact ⟨HBT.out, HVB.out⟩
              case rest =>
                rename World => w9
                clear v1 v4 z4 hvl HVB HBT hi2
                obtain ⟨bt, hvb⟩ := hcut
                generalize hsz : blankSz a1 a3 = sz at *
                have HSZ := hide hsz
                have HVB := hide hvb
                have bt' : Below w6.heap.size w6 w9 := by rw [HVV.out]; exact bt
                have HGV := hide (show ∀ k, blk o.A o.c = some k → k ≠ V from fun k hk => by
                  have := (HO.out.1.1.lt k hk).2
                  rw [HVV.out] at this
                  omega)
                replace H6 := hide (fun b hb => And.intro (H6.out b hb).1 ((H6.out b hb).2.call bt'))
                replace HB4 := hide (HB4.out.trans (bt'.mono HB4.out.size))
                replace HR := hide (HR.out.call bt')
                replace HX := hide (HX.out.call bt')
                replace HO := hide (HO.out.call bt')
                clear bt'
                have HGA := hide (show g < w9.heap.size from HX.out.lt)
                clear bt hvb hsz
                have x0_ := HX.out.cell 0
                simp only [List.getElem?_toArray, List.getElem?_cons_zero, List.getElem?_cons_succ] at x0_
                have hxl := HX.out.lt
                have s0 := HVB.out.cell 0
                have s1 := HVB.out.cell 1
                have s2 := HVB.out.cell 2
                have s3 := HVB.out.cell 3
                have s4 := HVB.out.cell 4
                have s5 := HVB.out.cell 5
                simp only [List.getElem?_toArray, List.getElem?_cons_zero, List.getElem?_cons_succ] at s0 s1 s2 s3 s4 s5
                have hvl := HVB.out.lt
                go_wp2_with fail
                refine Reg.startT (fun W => W.cell? ⟨g, 0, none⟩ = some (.slice o.A o.ps.length o.c) ∧ W.cell? ⟨V, 0, none⟩ = some (.string (bs x1)) ∧ W.cell? ⟨V, 1, none⟩ = some (.int .i64 a1) ∧ W.cell? ⟨V, 2, none⟩ = some (.int .i64 a2) ∧ W.cell? ⟨V, 3, none⟩ = some (.slice A6 n6 c6) ∧ W.cell? ⟨V, 4, none⟩ = some (.int .i64 sz) ∧ W.cell? ⟨V, 5, none⟩ = some (.slice none 0 0)) (fun j => j == 10) (by kernel_rfl) ?_
                have hHeld : w9.drew.cell? ⟨g, 0, none⟩ = some (.slice o.A o.ps.length o.c) ∧ w9.drew.cell? ⟨V, 0, none⟩ = some (.string (bs x1)) ∧ w9.drew.cell? ⟨V, 1, none⟩ = some (.int .i64 a1) ∧ w9.drew.cell? ⟨V, 2, none⟩ = some (.int .i64 a2) ∧ w9.drew.cell? ⟨V, 3, none⟩ = some (.slice A6 n6 c6) ∧ w9.drew.cell? ⟨V, 4, none⟩ = some (.int .i64 sz) ∧ w9.drew.cell? ⟨V, 5, none⟩ = some (.slice none 0 0) := ⟨x0_, s0, s1, s2, s3, s4, s5⟩
                refine Reg.takeT (i := 0) (v := ?_) rfl (by kernel_rfl) (by kernel_rfl) (by kernel_rfl) (by kernel_rfl) (fun _ _ _ h => h) (Or.inl ⟨by rfl, ?_⟩) (by assumption) ?_
                rotate_left 1
                focus (intro w hSw; (try dsimp only at hSw); go_simp; (try with_reducible rfl))
                try simp only [List.getElem_toArray, List.getElem_cons_succ, List.getElem_cons_zero, Act.put, List.setIfInBounds_toArray, List.set_cons_zero, List.set_cons_succ]
                refine Reg.takeT (i := 1) (v := ?_) rfl (by kernel_rfl) (by kernel_rfl) (by kernel_rfl) (by kernel_rfl) (fun _ _ _ h => h) (Or.inl ⟨by rfl, ?_⟩) (by assumption) ?_
                rotate_left 1
                focus (intro w hSw; (try dsimp only at hSw); go_simp; (try with_reducible rfl))
                try simp only [List.getElem_toArray, List.getElem_cons_succ, List.getElem_cons_zero, Act.put, List.setIfInBounds_toArray, List.set_cons_zero, List.set_cons_succ]
                refine Reg.takeT (i := 2) (v := ?_) rfl (by kernel_rfl) (by kernel_rfl) (by kernel_rfl) (by kernel_rfl) (fun _ _ _ h => h) (Or.inl ⟨by rfl, ?_⟩) (by assumption) ?_
                rotate_left 1
                focus (intro w hSw; (try dsimp only at hSw); go_simp; (try with_reducible rfl))
                try simp only [List.getElem_toArray, List.getElem_cons_succ, List.getElem_cons_zero, Act.put, List.setIfInBounds_toArray, List.set_cons_zero, List.set_cons_succ]
                refine Reg.takeT (i := 3) (v := ?_) rfl (by kernel_rfl) (by kernel_rfl) (by kernel_rfl) (by kernel_rfl) (fun _ _ _ h => h) (Or.inl ⟨by rfl, ?_⟩) (by assumption) ?_
                rotate_left 1
                focus (intro w hSw; (try dsimp only at hSw); go_simp; (try with_reducible rfl))
                try simp only [List.getElem_toArray, List.getElem_cons_succ, List.getElem_cons_zero, Act.put, List.setIfInBounds_toArray, List.set_cons_zero, List.set_cons_succ]
                refine Reg.takeT (i := 4) (v := ?_) rfl (by kernel_rfl) (by kernel_rfl) (by kernel_rfl) (by kernel_rfl) (fun _ _ _ h => h) (Or.inl ⟨by rfl, ?_⟩) (by assumption) ?_
                rotate_left 1
                focus (intro w hSw; (try dsimp only at hSw); go_simp; (try with_reducible rfl))
                try simp only [List.getElem_toArray, List.getElem_cons_succ, List.getElem_cons_zero, Act.put, List.setIfInBounds_toArray, List.set_cons_zero, List.set_cons_succ]
                refine Reg.takeT (i := 5) (v := ?_) rfl (by kernel_rfl) (by kernel_rfl) (by kernel_rfl) (by kernel_rfl) (fun _ _ _ h => h) (Or.inl ⟨by rfl, ?_⟩) (by assumption) ?_
                rotate_left 1
                focus (intro w hSw; (try dsimp only at hSw); go_simp; (try with_reducible rfl))
                try simp only [List.getElem_toArray, List.getElem_cons_succ, List.getElem_cons_zero, Act.put, List.setIfInBounds_toArray, List.set_cons_zero, List.set_cons_succ]
                refine Reg.oneT (i := 6) rfl (by kernel_rfl) (fun K hK => ?_)
                go_simp
                have BA : Below w9.heap.size w9 ((w9.alloc (.cells #[.string (bs x1), .int .i64 a1, .int .i64 a2, .slice A6 n6 c6, .int .i64 sz, .slice none 0 0] 61)).drew) := (by repeat (first | exact Below.refl _ _ | with_reducible assumption | (refine Below.drew ?_) | (refine Below.drewN ?_ _) | (refine Below.alloc ?_ (by simp; try omega) _) | (refine Below.setCell ?_ (by simp; try omega) _)))
                have HLT := hide (show Rd ((w9.alloc (.cells #[.string (bs x1), .int .i64 a1, .int .i64 a2, .slice A6 n6 c6, .int .i64 sz, .slice none 0 0] 61)).drew) (w9.heap.size + 1) (some ⟨w9.heap.size, 0, none⟩) [.string (bs x1), .int .i64 a1, .int .i64 a2, .slice A6 n6 c6, .int .i64 sz, .slice none 0 0] from rd_lit w9 #[.string (bs x1), .int .i64 a1, .int .i64 a2, .slice A6 n6 c6, .int .i64 sz, .slice none 0 0] 61 _ rfl)
                have hbw4 : base ≤ w9.heap.size := Nat.le_trans hbw HB4.out.size
                have HBB5 := hide ((HB4.out.mono hbw).trans (BA.mono hbw4))
                have hcc := bcell BA
                have hHeld : ((w9.alloc (.cells #[.string (bs x1), .int .i64 a1, .int .i64 a2, .slice A6 n6 c6, .int .i64 sz, .slice none 0 0] 61)).drew).cell? ⟨g, 0, none⟩ = some (.slice o.A o.ps.length o.c) ∧ ((w9.alloc (.cells #[.string (bs x1), .int .i64 a1, .int .i64 a2, .slice A6 n6 c6, .int .i64 sz, .slice none 0 0] 61)).drew).cell? ⟨V, 0, none⟩ = some (.string (bs x1)) ∧ ((w9.alloc (.cells #[.string (bs x1), .int .i64 a1, .int .i64 a2, .slice A6 n6 c6, .int .i64 sz, .slice none 0 0] 61)).drew).cell? ⟨V, 1, none⟩ = some (.int .i64 a1) ∧ ((w9.alloc (.cells #[.string (bs x1), .int .i64 a1, .int .i64 a2, .slice A6 n6 c6, .int .i64 sz, .slice none 0 0] 61)).drew).cell? ⟨V, 2, none⟩ = some (.int .i64 a2) ∧ ((w9.alloc (.cells #[.string (bs x1), .int .i64 a1, .int .i64 a2, .slice A6 n6 c6, .int .i64 sz, .slice none 0 0] 61)).drew).cell? ⟨V, 3, none⟩ = some (.slice A6 n6 c6) ∧ ((w9.alloc (.cells #[.string (bs x1), .int .i64 a1, .int .i64 a2, .slice A6 n6 c6, .int .i64 sz, .slice none 0 0] 61)).drew).cell? ⟨V, 4, none⟩ = some (.int .i64 sz) ∧ ((w9.alloc (.cells #[.string (bs x1), .int .i64 a1, .int .i64 a2, .slice A6 n6 c6, .int .i64 sz, .slice none 0 0] 61)).drew).cell? ⟨V, 5, none⟩ = some (.slice none 0 0) := by
                  refine ⟨?_, ?_, ?_, ?_, ?_, ?_, ?_⟩
                  · rw [hcc.1 _ _ hxl]; exact x0_
                  · rw [hcc.1 _ _ hvl]; exact s0
                  · rw [hcc.1 _ _ hvl]; exact s1
                  · rw [hcc.1 _ _ hvl]; exact s2
                  · rw [hcc.1 _ _ hvl]; exact s3
                  · rw [hcc.1 _ _ hvl]; exact s4
                  · rw [hcc.1 _ _ hvl]; exact s5
                replace HGA := hide (Nat.lt_of_lt_of_le HGA.out BA.size)
                replace HX := hide (HX.out.call BA)
                replace HO := hide (HO.out.call BA)
                replace HVB := hide (HVB.out.call BA)
                replace H6 := hide (fun b hb => And.intro (H6.out b hb).1 ((H6.out b hb).2.call BA))
                have hs5 := BA.size
                clear x0_ hxl s0 s1 s2 s3 s4 s5 hvl hcc BA HB4 HW4 HR
                generalize (w9.alloc (.cells #[.string (bs x1), .int .i64 a1, .int .i64 a2, .slice A6 n6 c6, .int .i64 sz, .slice none 0 0] 61)).drew = wa at *
                refine hK.out _ _ hHeld ?_
                clear hK K
                try simp only [List.getElem_toArray, List.getElem_cons_succ, List.getElem_cons_zero, Act.put, List.setIfInBounds_toArray, List.set_cons_zero, List.set_cons_succ]
                refine Reg.oneT (i := 7) rfl (by kernel_rfl) (fun K hK => ?_)
                refine step_app (by rfl) _ _ 23 rfl 61 q9 (.agg #[.string ByteArray.empty, .int .i64 0, .int .i64 0, .slice none 0 0, .int .i64 0, .slice none 0 0]) 6 88 Tryz.underlying23 HQS.out.1 HQS.out.2.1 HQS.out.2.2.1 HQS.out.2.2.2 rfl (by decide) base o.A o.ps.length o.c (cellsOf secC o.ps) (by rfl) HO.out.1.1 (by omega) _ 1 1 [.string (bs x1), .int .i64 a1, .int .i64 a2, .slice A6 n6 c6, .int .i64 sz, .slice none 0 0] (by rfl) HLT.out rfl (fun h => by cases h) one_six ?n1 ?n2 ?_
                case n1 => unfold maxLen; omega
                case n2 => omega
                intro A9 n9 c9 wz hn9 o9 g9 k9
                have HX9 := hide (HX.out.grown g9 (HO.out.1.1.box HX.out (by decide)))
                have HV9 := hide (HVB.out.grown g9 HGV.out)
                have HB9 := hide (HBB5.out.grown g9 (by omega) (fun j hj => (HO.out.1.1.lt j hj).1))
                have HY9 := hide (HO.out.2.grown g9 (fun k hk => apartT HO.out.2 HO.out.1.1 (by decide) k hk))
                have HR9 := hide (And.intro o9 (And.intro g9 k9))
                have hHeld : wz.cell? ⟨g, 0, none⟩ = some (.slice o.A o.ps.length o.c) ∧ wz.cell? ⟨V, 0, none⟩ = some (.string (bs x1)) ∧ wz.cell? ⟨V, 1, none⟩ = some (.int .i64 a1) ∧ wz.cell? ⟨V, 2, none⟩ = some (.int .i64 a2) ∧ wz.cell? ⟨V, 3, none⟩ = some (.slice A6 n6 c6) ∧ wz.cell? ⟨V, 4, none⟩ = some (.int .i64 sz) ∧ wz.cell? ⟨V, 5, none⟩ = some (.slice none 0 0) := by
                  have x0_ := HX9.out.cell 0
                  have s0 := HV9.out.cell 0
                  have s1 := HV9.out.cell 1
                  have s2 := HV9.out.cell 2
                  have s3 := HV9.out.cell 3
                  have s4 := HV9.out.cell 4
                  have s5 := HV9.out.cell 5
                  simp only [List.getElem?_toArray, List.getElem?_cons_zero, List.getElem?_cons_succ] at x0_ s0 s1 s2 s3 s4 s5
                  exact ⟨x0_, s0, s1, s2, s3, s4, s5⟩
                have hfz := HX9.out.frozen 0
                refine hK.out _ _ hHeld ?_
                clear hK K o9 g9 k9 HX HVB HBB5 HLT
                try simp only [List.getElem_toArray, List.getElem_cons_succ, List.getElem_cons_zero, Act.put, List.setIfInBounds_toArray, List.set_cons_zero, List.set_cons_succ]
                refine Reg.oneT (i := 8) rfl (by kernel_rfl) (fun K hK => ?_)
                go_simp
                refine hK.out _ _ hHeld ?_
                clear hK K
                try simp only [List.getElem_toArray, List.getElem_cons_succ, List.getElem_cons_zero, Act.put, List.setIfInBounds_toArray, List.set_cons_zero, List.set_cons_succ]
                refine Reg.takeT (i := 9) (v := ?_) rfl (by kernel_rfl) (by kernel_rfl) (by kernel_rfl) (by kernel_rfl) (fun _ _ _ h => h) (Or.inl ⟨by rfl, ?_⟩) (by assumption) ?_
                rotate_left 1
                focus (intro w hSw; (try dsimp only at hSw); go_simp; (try with_reducible rfl))
                try simp only [List.getElem_toArray, List.getElem_cons_succ, List.getElem_cons_zero, Act.put, List.setIfInBounds_toArray, List.set_cons_zero, List.set_cons_succ]
                refine Reg.lastT (i := 10) rfl (by kernel_rfl) (by rfl) (fun K hK => ?_)
                go_simp
                refine hK.out _ _ ?_
                clear hK K
                try simp only [List.getElem_toArray, List.getElem_cons_succ, List.getElem_cons_zero, Act.put, List.setIfInBounds_toArray, List.set_cons_zero, List.set_cons_succ]
                refine Reg.doneT (by kernel_rfl) ?_ _
                clear hHeld hfz
                have HXZ := hide (HX9.out.set 0 (.slice A9 (o.ps.length + 1) c9))
                have HBZ := hide (HB9.out.setCell (p := ⟨g, 0, none⟩) hgb (.slice A9 (o.ps.length + 1) c9))
                cases hu : unhex hx with
                | none =>
                  have HV := hide (show stepI o.d s.data.toList = none from by
                    rw [HSI.out, HWI.out, if_neg (by omega), if_neg HFX.out, HNS.out]
                    show (if x0 = secW then _ else _) = _
                    rw [if_pos HSEC.out, hu]
                    rfl)
                  clear hu
                  subst hn9
                  clear HX9 HV9 HB9 HY9 HR9 H6
                  generalize wz.setCell ⟨g, 0, none⟩ (.slice A9 (o.ps.length + 1) c9) = wf at *
                  simp only [Option.isSome]
                  go_wp2_with fail
                  go_ret
                  exact ⟨false, rfl, HBZ.out, by rw [HV.out]⟩
                | some zs =>
                  obtain ⟨hn6, hr6⟩ := H6.out zs hu
                  have HV := hide (show stepI o.d s.data.toList = some ({ o with A := A9, c := c9, ps := o.ps ++ [⟨bs x1, a1, a2, A6, c6, zs, sz, none, 0, []⟩] } : OV).d from by
                    rw [HSI.out, HWI.out, if_neg (by omega), if_neg HFX.out, HNS.out]
                    show (if x0 = secW then _ else _) = _
                    rw [if_pos HSEC.out, hu]
                    show some (addS o.d _) = _
                    simp [addS, mkSI, OV.d, SV.d, HSZ.out])
                  have HQ : RwS wa base ⟨bs x1, a1, a2, A6, c6, zs, sz, none, 0, []⟩ := ⟨by have h := hr6.down (Nat.le_trans hbw HB5.out); rw [hn6] at h; exact h, Row.empty _ _ _ _ _⟩
                  have hnew : ∀ k, sblk ⟨bs x1, a1, a2, A6, c6, zs, sz, none, 0, []⟩ k → w5.heap.size ≤ k := by
                    rintro k (hk | hk)
                    · exact (hr6.lt k hk).1
                    · cases hk
                  have hadd := HO.out.addS HQ HOLD.out hnew hn9 (by have h := HR9.out.1; rw [hn6] at h; exact h) HR9.out.2.1
                  have hne : ∀ k, oblk { o with A := A9, c := c9, ps := o.ps ++ [⟨bs x1, a1, a2, A6, c6, zs, sz, none, 0, []⟩] } k → k ≠ g := by
                    rintro k ((hk | ⟨p, hp, hk⟩) | hk)
                    · rcases HR9.out.2.2 k hk with h1 | h1
                      · exact HH.out.ne k (.inl (.inl h1))
                      · have := HGA.out
                        omega
                    · rcases List.mem_append.1 hp with hp | hp
                      · exact HH.out.ne k (.inl (.inr ⟨p, hp, hk⟩))
                      · obtain rfl := List.mem_singleton.1 hp
                        have := hnew k hk
                        have := HG5.out
                        omega
                    · exact HH.out.ne k (.inr hk)
                  have HOZ := hide (hadd.set (a := ⟨g, 0, none⟩) hne (.slice A9 (o.ps.length + 1) c9))
                  have HNE := hide hne
                  clear hu hadd hne hnew HQ hn6 hr6 hn9
                  clear HX9 HV9 HB9 HY9 HR9 H6
                  generalize wz.setCell ⟨g, 0, none⟩ (.slice A9 (o.ps.length + 1) c9) = wf at *
                  simp only [Option.isSome]
                  go_wp2_with fail
                  go_ret
                  refine ⟨true, rfl, HBZ.out, ?_⟩
                  rw [HV.out]
                  refine ⟨rfl, _, rfl, ⟨?_, HOZ.out, HNE.out⟩⟩
                  have h := HXZ.out
                  show Box wf g _ #[.slice A9 (o.ps ++ [_]).length c9, .slice o.Y o.ys.length o.yc]
                  rw [List.length_append]
                  exact h
            · have hsy : x0 = symW := by rcases HX0.out with h | h | h <;> first | exact absurd h hsec | exact absurd h HFX.out | exact h
              have hq2 := sec_ne hsec
              have hq3 := sym_eq hsy
              have HNSC := hide hsec
              clear hsec hsy
              have HBB := hide (HB4.out.mono hbw)
              have HRY := hide HO.out.2
              go_wp2_with fail
              refine Reg.startT (fun W => W.cell? ⟨g, 1, none⟩ = some (.slice o.Y o.ys.length o.yc) ∧ W.cell? ⟨b3, off3, none⟩ = some (.int .i64 a1) ∧ W.cell? ⟨b3, off3 + 1, none⟩ = some (.int .i64 a2) ∧ W.cell? ⟨b3, off3 + 2, none⟩ = some (.int .i64 a3)) (fun j => j == 20) (by kernel_rfl) ?_
              have hHeld : w5.drew.cell? ⟨g, 1, none⟩ = some (.slice o.Y o.ys.length o.yc) ∧ w5.drew.cell? ⟨b3, off3, none⟩ = some (.int .i64 a1) ∧ w5.drew.cell? ⟨b3, off3 + 1, none⟩ = some (.int .i64 a2) ∧ w5.drew.cell? ⟨b3, off3 + 2, none⟩ = some (.int .i64 a3) := ⟨x1_, hi0, hi1, hi2⟩
              refine Reg.takeT (i := 0) (v := ?_) rfl (by kernel_rfl) (by kernel_rfl) (by kernel_rfl) (by kernel_rfl) (fun _ _ _ h => h) (Or.inl ⟨by rfl, ?_⟩) (by assumption) ?_
              rotate_left 1
              focus (intro w hSw; (try dsimp only at hSw); go_simp; (try with_reducible rfl))
              try simp only [List.getElem_toArray, List.getElem_cons_succ, List.getElem_cons_zero, Act.put, List.setIfInBounds_toArray, List.set_cons_zero, List.set_cons_succ]
              refine Reg.takeT (i := 1) (v := ?_) rfl (by kernel_rfl) (by kernel_rfl) (by kernel_rfl) (by kernel_rfl) (fun _ _ _ h => h) (Or.inl ⟨by rfl, ?_⟩) (by assumption) ?_
              rotate_left 1
              focus (intro w hSw; (try dsimp only at hSw); go_simp; (try with_reducible rfl))
              try simp only [List.getElem_toArray, List.getElem_cons_succ, List.getElem_cons_zero, Act.put, List.setIfInBounds_toArray, List.set_cons_zero, List.set_cons_succ]
              refine Reg.takeT (i := 2) (v := ?_) rfl (by kernel_rfl) (by kernel_rfl) (by kernel_rfl) (by kernel_rfl) (fun _ _ _ h => h) (Or.inl ⟨by rfl, ?_⟩) (by assumption) ?_
              rotate_left 1
              focus (intro w hSw; (try dsimp only at hSw); go_simp; (try with_reducible rfl))
              try simp only [List.getElem_toArray, List.getElem_cons_succ, List.getElem_cons_zero, Act.put, List.setIfInBounds_toArray, List.set_cons_zero, List.set_cons_succ]
              refine Reg.takeT (i := 3) (v := ?_) rfl (by kernel_rfl) (by kernel_rfl) (by kernel_rfl) (by kernel_rfl) (fun _ _ _ h => h) (Or.inl ⟨by rfl, ?_⟩) (by assumption) ?_
              rotate_left 1
              focus (intro w hSw; (try dsimp only at hSw); go_simp; (try with_reducible rfl))
              try simp only [List.getElem_toArray, List.getElem_cons_succ, List.getElem_cons_zero, Act.put, List.setIfInBounds_toArray, List.set_cons_zero, List.set_cons_succ]
              refine Reg.takeT (i := 4) (v := ?_) rfl (by kernel_rfl) (by kernel_rfl) (by kernel_rfl) (by kernel_rfl) (fun _ _ _ h => h) (Or.inl ⟨by rfl, ?_⟩) (by assumption) ?_
              rotate_left 1
              focus (intro w hSw; (try dsimp only at hSw); go_simp; (try with_reducible rfl))
              try simp only [List.getElem_toArray, List.getElem_cons_succ, List.getElem_cons_zero, Act.put, List.setIfInBounds_toArray, List.set_cons_zero, List.set_cons_succ]
              refine Reg.takeT (i := 5) (v := ?_) rfl (by kernel_rfl) (by kernel_rfl) (by kernel_rfl) (by kernel_rfl) (fun _ _ _ h => h) (Or.inl ⟨by rfl, ?_⟩) (by assumption) ?_
              rotate_left 1
              focus (intro w hSw; (try dsimp only at hSw); go_simp; (try with_reducible rfl))
              try simp only [List.getElem_toArray, List.getElem_cons_succ, List.getElem_cons_zero, Act.put, List.setIfInBounds_toArray, List.set_cons_zero, List.set_cons_succ]
              refine Reg.takeT (i := 6) (v := ?_) rfl (by kernel_rfl) (by kernel_rfl) (by kernel_rfl) (by kernel_rfl) (fun _ _ _ h => h) (Or.inl ⟨by rfl, ?_⟩) (by assumption) ?_
              rotate_left 1
              focus (intro w hSw; (try dsimp only at hSw); go_simp; (try with_reducible rfl))
              try simp only [List.getElem_toArray, List.getElem_cons_succ, List.getElem_cons_zero, Act.put, List.setIfInBounds_toArray, List.set_cons_zero, List.set_cons_succ]
              refine Reg.takeT (i := 7) (v := ?_) rfl (by kernel_rfl) (by kernel_rfl) (by kernel_rfl) (by kernel_rfl) (fun _ _ _ h => h) (Or.inl ⟨by rfl, ?_⟩) (by assumption) ?_
              rotate_left 1
              focus (intro w hSw; (try dsimp only at hSw); go_simp; (try with_reducible rfl))
              try simp only [List.getElem_toArray, List.getElem_cons_succ, List.getElem_cons_zero, Act.put, List.setIfInBounds_toArray, List.set_cons_zero, List.set_cons_succ]
              refine Reg.takeT (i := 8) (v := ?_) rfl (by kernel_rfl) (by kernel_rfl) (by kernel_rfl) (by kernel_rfl) (fun _ _ _ h => h) (Or.inl ⟨by rfl, ?_⟩) (by assumption) ?_
              rotate_left 1
              focus (intro w hSw; (try dsimp only at hSw); go_simp; (try with_reducible rfl))
              try simp only [List.getElem_toArray, List.getElem_cons_succ, List.getElem_cons_zero, Act.put, List.setIfInBounds_toArray, List.set_cons_zero, List.set_cons_succ]
              refine Reg.takeT (i := 9) (v := ?_) rfl (by kernel_rfl) (by kernel_rfl) (by kernel_rfl) (by kernel_rfl) (fun _ _ _ h => h) (Or.inl ⟨by rfl, ?_⟩) (by assumption) ?_
              rotate_left 1
              focus (intro w hSw; (try dsimp only at hSw); go_simp; (try with_reducible rfl))
              try simp only [List.getElem_toArray, List.getElem_cons_succ, List.getElem_cons_zero, Act.put, List.setIfInBounds_toArray, List.set_cons_zero, List.set_cons_succ]
              refine Reg.takeT (i := 10) (v := ?_) rfl (by kernel_rfl) (by kernel_rfl) (by kernel_rfl) (by kernel_rfl) (fun _ _ _ h => h) (Or.inl ⟨by rfl, ?_⟩) (by assumption) ?_
              rotate_left 1
              focus (intro w hSw; (try dsimp only at hSw); go_simp; (try with_reducible rfl))
              try simp only [List.getElem_toArray, List.getElem_cons_succ, List.getElem_cons_zero, Act.put, List.setIfInBounds_toArray, List.set_cons_zero, List.set_cons_succ]
              refine Reg.takeT (i := 11) (v := ?_) rfl (by kernel_rfl) (by kernel_rfl) (by kernel_rfl) (by kernel_rfl) (fun _ _ _ h => h) (Or.inl ⟨by rfl, ?_⟩) (by assumption) ?_
              rotate_left 1
              focus (intro w hSw; (try dsimp only at hSw); go_simp; (try with_reducible rfl))
              try simp only [List.getElem_toArray, List.getElem_cons_succ, List.getElem_cons_zero, Act.put, List.setIfInBounds_toArray, List.set_cons_zero, List.set_cons_succ]
              refine Reg.takeT (i := 12) (v := ?_) rfl (by kernel_rfl) (by kernel_rfl) (by kernel_rfl) (by kernel_rfl) (fun _ _ _ h => h) (Or.inl ⟨by rfl, ?_⟩) (by assumption) ?_
              rotate_left 1
              focus (intro w hSw; (try dsimp only at hSw); go_simp; (try with_reducible rfl))
              try simp only [List.getElem_toArray, List.getElem_cons_succ, List.getElem_cons_zero, Act.put, List.setIfInBounds_toArray, List.set_cons_zero, List.set_cons_succ]
              refine Reg.takeT (i := 13) (v := ?_) rfl (by kernel_rfl) (by kernel_rfl) (by kernel_rfl) (by kernel_rfl) (fun _ _ _ h => h) (Or.inl ⟨by rfl, ?_⟩) (by assumption) ?_
              rotate_left 1
              focus (intro w hSw; (try dsimp only at hSw); go_simp; (try with_reducible rfl))
              try simp only [List.getElem_toArray, List.getElem_cons_succ, List.getElem_cons_zero, Act.put, List.setIfInBounds_toArray, List.set_cons_zero, List.set_cons_succ]
              refine Reg.takeT (i := 14) (v := ?_) rfl (by kernel_rfl) (by kernel_rfl) (by kernel_rfl) (by kernel_rfl) (fun _ _ _ h => h) (Or.inl ⟨by rfl, ?_⟩) (by assumption) ?_
              rotate_left 1
              focus (intro w hSw; (try dsimp only at hSw); go_simp; (try with_reducible rfl))
              try simp only [List.getElem_toArray, List.getElem_cons_succ, List.getElem_cons_zero, Act.put, List.setIfInBounds_toArray, List.set_cons_zero, List.set_cons_succ]
              refine Reg.takeT (i := 15) (v := ?_) rfl (by kernel_rfl) (by kernel_rfl) (by kernel_rfl) (by kernel_rfl) (fun _ _ _ h => h) (Or.inl ⟨by rfl, ?_⟩) (by assumption) ?_
              rotate_left 1
              focus (intro w hSw; (try dsimp only at hSw); go_simp; (try with_reducible rfl))
              try simp only [List.getElem_toArray, List.getElem_cons_succ, List.getElem_cons_zero, Act.put, List.setIfInBounds_toArray, List.set_cons_zero, List.set_cons_succ]
              refine Reg.oneT (i := 16) rfl (by kernel_rfl) (fun K hK => ?_)
              go_simp
              have BA : Below w5.heap.size w5 ((w5.alloc (.cells #[.string (bs x1), .int .i64 a1, .int .i64 a2, .int .i64 a3] 67)).drew) := (by repeat (first | exact Below.refl _ _ | with_reducible assumption | (refine Below.drew ?_) | (refine Below.drewN ?_ _) | (refine Below.alloc ?_ (by simp; try omega) _) | (refine Below.setCell ?_ (by simp; try omega) _)))
              have HLT := hide (show Rd ((w5.alloc (.cells #[.string (bs x1), .int .i64 a1, .int .i64 a2, .int .i64 a3] 67)).drew) (w5.heap.size + 1) (some ⟨w5.heap.size, 0, none⟩) (symbolC (bs x1, a1, a2, a3)) from rd_lit w5 #[.string (bs x1), .int .i64 a1, .int .i64 a2, .int .i64 a3] 67 _ rfl)
              have hbw4 : base ≤ w5.heap.size := Nat.le_trans hbw HB4.out.size
              have HBB5 := hide (HBB.out.trans (BA.mono hbw4))
              have hcc := bcell BA
              have hHeld : ((w5.alloc (.cells #[.string (bs x1), .int .i64 a1, .int .i64 a2, .int .i64 a3] 67)).drew).cell? ⟨g, 1, none⟩ = some (.slice o.Y o.ys.length o.yc) ∧ ((w5.alloc (.cells #[.string (bs x1), .int .i64 a1, .int .i64 a2, .int .i64 a3] 67)).drew).cell? ⟨b3, off3, none⟩ = some (.int .i64 a1) ∧ ((w5.alloc (.cells #[.string (bs x1), .int .i64 a1, .int .i64 a2, .int .i64 a3] 67)).drew).cell? ⟨b3, off3 + 1, none⟩ = some (.int .i64 a2) ∧ ((w5.alloc (.cells #[.string (bs x1), .int .i64 a1, .int .i64 a2, .int .i64 a3] 67)).drew).cell? ⟨b3, off3 + 2, none⟩ = some (.int .i64 a3) := by
                have hb3 : b3 < w5.heap.size := World.block_lt_of_cell? _ _ hi0
                refine ⟨?_, ?_, ?_, ?_⟩
                · rw [hcc.1 _ _ hxl]; exact x1_
                · rw [hcc.1 _ _ hb3]; exact hi0
                · rw [hcc.1 _ _ hb3]; exact hi1
                · rw [hcc.1 _ _ hb3]; exact hi2
              replace HX := hide (HX.out.call BA)
              replace HO := hide (HO.out.call BA)
              replace HRY := hide (HRY.out.call BA)
              replace HR := hide (HR.out.call BA)
              have hs5 := BA.size
              clear x0_ x1_ hi0 hi1 hi2 hcc BA HBB HB4 HW4 hc0
              generalize (w5.alloc (.cells #[.string (bs x1), .int .i64 a1, .int .i64 a2, .int .i64 a3] 67)).drew = w6 at *
              refine hK.out _ _ hHeld ?_
              clear hK K
              try simp only [List.getElem_toArray, List.getElem_cons_succ, List.getElem_cons_zero, Act.put, List.setIfInBounds_toArray, List.set_cons_zero, List.set_cons_succ]
              refine Reg.oneT (i := 17) rfl (by kernel_rfl) (fun K hK => ?_)
              refine step_app (by rfl) _ _ 24 rfl 67 k0 (.agg #[.string ByteArray.empty, .int .i64 0, .int .i64 0, .int .i64 0]) 4 40 Tryz.underlying24 HK.out.1 HK.out.2.1 HK.out.2.2.1 HK.out.2.2.2 rfl (by decide) base o.Y o.ys.length o.yc (cellsOf symbolC o.ys) (by rfl) HRY.out (by omega) _ 1 1 (symbolC (bs x1, a1, a2, a3)) (by rfl) HLT.out rfl (fun h => by cases h) (one_sy _) ?n1 ?n2 ?_
              case n1 => unfold maxLen; omega
              case n2 => omega
              intro A9 n9 c9 wz hn9 o9 g9 k9
              have HX9 := hide (HX.out.grown g9 (HRY.out.box HX.out (by decide)))
              have HR9 := hide (HR.out.grown g9 (fun k hk => apartT HR.out HRY.out (by decide) k hk))
              have HB9 := hide (HBB5.out.grown g9 (by omega) (fun j hj => (HRY.out.lt j hj).1))
              have HO9 := hide (HO.out.addY [(bs x1, a1, a2, a3)] hn9 (by simpa [cellsOf] using o9) g9)
              have HK9 := hide k9
              have hHeld : wz.cell? ⟨g, 1, none⟩ = some (.slice o.Y o.ys.length o.yc) ∧ wz.cell? ⟨b3, off3, none⟩ = some (.int .i64 a1) ∧ wz.cell? ⟨b3, off3 + 1, none⟩ = some (.int .i64 a2) ∧ wz.cell? ⟨b3, off3 + 2, none⟩ = some (.int .i64 a3) := by
                have hx := HX9.out.cell 1
                simp only [List.getElem?_toArray, List.getElem?_cons_zero, List.getElem?_cons_succ] at hx
                have hi0 := Rd.intAt HR9.out.rd (i := 0) (by simp)
                have hi1 := Rd.intAt HR9.out.rd (i := 1) (by simp)
                have hi2 := Rd.intAt HR9.out.rd (i := 2) (by simp)
                exact ⟨hx, hi0, hi1, hi2⟩
              have hfz := HX9.out.frozen 1
              refine hK.out _ _ hHeld ?_
              clear hK K o9 g9 k9 HX HR HO HRY HBB5 HLT
              try simp only [List.getElem_toArray, List.getElem_cons_succ, List.getElem_cons_zero, Act.put, List.setIfInBounds_toArray, List.set_cons_zero, List.set_cons_succ]
              refine Reg.oneT (i := 18) rfl (by kernel_rfl) (fun K hK => ?_)
              go_simp
              refine hK.out _ _ hHeld ?_
              clear hK K
              try simp only [List.getElem_toArray, List.getElem_cons_succ, List.getElem_cons_zero, Act.put, List.setIfInBounds_toArray, List.set_cons_zero, List.set_cons_succ]
              refine Reg.takeT (i := 19) (v := ?_) rfl (by kernel_rfl) (by kernel_rfl) (by kernel_rfl) (by kernel_rfl) (fun _ _ _ h => h) (Or.inl ⟨by rfl, ?_⟩) (by assumption) ?_
              rotate_left 1
              focus (intro w hSw; (try dsimp only at hSw); go_simp; (try with_reducible rfl))
              try simp only [List.getElem_toArray, List.getElem_cons_succ, List.getElem_cons_zero, Act.put, List.setIfInBounds_toArray, List.set_cons_zero, List.set_cons_succ]
              refine Reg.lastT (i := 20) rfl (by kernel_rfl) (by rfl) (fun K hK => ?_)
              go_simp
              refine hK.out _ _ ?_
              clear hK K
              try simp only [List.getElem_toArray, List.getElem_cons_succ, List.getElem_cons_zero, Act.put, List.setIfInBounds_toArray, List.set_cons_zero, List.set_cons_succ]
              refine Reg.doneT (by kernel_rfl) ?_ _
              clear hHeld hfz HR9
              have HV := hide (show stepI o.d s.data.toList = some ({ o with Y := A9, yc := c9, ys := o.ys ++ [(bs x1, a1, a2, a3)] } : OV).d from by
                rw [HSI.out, HWI.out, if_neg (by omega), if_neg HFX.out, HNS.out]
                show (if x0 = secW then _ else some (addY o.d (mkY x1 [a1, a2, a3]))) = _
                rw [if_neg HNSC.out]
                rfl)
              have HNE := hide (show ∀ k, oblk { o with Y := A9, yc := c9, ys := o.ys ++ [(bs x1, a1, a2, a3)] } k → k ≠ g from by
                rintro k (hk | hk)
                · exact HH.out.ne k (.inl hk)
                · rcases HK9.out k hk with h1 | h1
                  · exact HH.out.ne k (.inr h1)
                  · omega)
              have HXZ := hide (HX9.out.set 1 (.slice A9 (o.ys.length + 1) c9))
              have HBZ := hide (HB9.out.setCell (p := ⟨g, 1, none⟩) hgb (.slice A9 (o.ys.length + 1) c9))
              have HOZ := hide (HO9.out.set (a := ⟨g, 1, none⟩) HNE.out (.slice A9 (o.ys.length + 1) c9))
              clear HO9 HX9 HB9
              generalize wz.setCell ⟨g, 1, none⟩ (.slice A9 (o.ys.length + 1) c9) = wf at *
              go_wp2_with fail
              go_ret
              refine ⟨true, rfl, HBZ.out, ?_⟩
              rw [HV.out]
              refine ⟨rfl, _, rfl, ⟨?_, HOZ.out, HNE.out⟩⟩
              have h := HXZ.out
              show Box wf g _ #[.slice o.A o.ps.length o.c, .slice A9 (o.ys ++ [_]).length c9]
              rw [List.length_append]
              exact h
      · have hmi : ((xs.length : Int) == (many x0 : Int)) = false := beq_eq_false_iff_ne.2 (by omega)
        have HV := hide (show stepI o.d s.data.toList = none from by rw [HSI.out, HWI.out, if_pos hm])
        go_wp2_with fail
        go_ret
        exact ⟨false, rfl, HB.out.mono hbw, by rw [HV.out]⟩
end Go.Proofs.YtepoiphmmjfbdaaGreatDoor.CReadI
/- wordsLine: a line of words and numbers; the program's. -/
namespace Go.Proofs.YtepoiphmmjfbdaaGreatDoor.CLineI
set_option maxRecDepth 200000
open Go.ChangeShapes Go.WideShapes Go.ChangeAt Go.RowKit Kit CNumTxt PNum PDump CHexI CHexS CSorted CWordsS BStore BDesk
def nmW (nm : List UInt8) : List (List UInt8) := if nm.length = 0 then [] else [nm]
def lineW (W nm : List UInt8) (ns : List Int) : List UInt8 := joinC 32 ((W :: nmW nm) ++ ns.map Lib.itoa)
theorem line_next (W nm : List UInt8) {ns : List Int} {k : Nat} (h : k < ns.length) : lineW W nm (ns.take (k + 1)) = lineW W nm (ns.take k) ++ 32 :: Lib.itoa ns[k] := by
  unfold lineW
  rw [take_succ h, List.map_append, ← List.append_assoc, List.map_singleton, join_snoc 32 _ _ (by simp)]
theorem sp_app (x : List UInt8) : (⟨#[32]⟩ : ByteArray) ++ bs x = bs (32 :: x) := bs_app [32] x
set_option maxHeartbeats 2000000 in
theorem line_any (W nm : List UInt8) (NA : Option Addr) (ns : List Int) (nc : Nat) (w : World) (he : Env w) (hr : Rd w w.heap.size NA (ints .i64 ns)) (hW : W.length ≤ 1000) (hnm : nm.length ≤ 1000) (hn : ns.length ≤ 10) (hb : InR (-9223372036854775808) 9223372036854775807 ns) :
    Calls Tryz.prog 37 #[.string (bs W), .string (bs nm), .slice NA ns.length nc] w (Ret (.string (bs (lineW W nm ns))) w) := by
  have HE := hide he
  have HR := hide hr
  have HBD := hide hb
  clear he hr hb
  have hs1 := bs_size W
  have hs2 := bs_size nm
  have HW0 := hide (show bs (lineW W nm (ns.take 0)) = (if nm.length = 0 then bs W else bs W ++ ((⟨#[32]⟩ : ByteArray) ++ bs nm)) from by
    unfold lineW nmW
    split
    · simp [joinC]
    · rw [sp_app, bs_app]
      simp [joinC])
  have key : ∀ (X : ByteArray), X = bs (lineW W nm (ns.take 0)) → X.size ≤ 3000 → True := fun _ _ _ => trivial
  clear key
  go_enter Tryz.func37, Tryz.ntmps37
  go_upto_if 10 with (fail)
  go_cut [0] from 10 to 14 (fun v wx => v = .string (bs (lineW W nm (ns.take 0))) ∧ (bs (lineW W nm (ns.take 0))).size ≤ 3000 ∧ wx = w)
  case first =>
    by_cases h0 : nm.length = 0
    · have hem : (bs nm).toList.isEmpty = true := by
        rw [ByteArray.toList_eq]
        have : nm = [] := List.eq_nil_of_length_eq_zero h0
        rw [this]
        rfl
      have HQ := hide (show bs (lineW W nm (ns.take 0)) = bs W from by rw [HW0.out, if_pos h0])
      generalize bs nm = NM at *
      generalize bs W = WD at *
      clear h0 HW0
      simp only [hem, Bool.not_true]
      go_wp2_with fail
      go_meet
      exact ⟨by rw [HQ.out], by rw [HQ.out]; omega, rfl⟩
    · have hem : (bs nm).toList.isEmpty = false := by
        rw [ByteArray.toList_eq]
        cases nm with
        | nil => exact absurd rfl h0
        | cons c r => rfl
      have HQ := hide (show bs (lineW W nm (ns.take 0)) = bs W ++ ((⟨#[32]⟩ : ByteArray) ++ bs nm) from by rw [HW0.out, if_neg h0])
      generalize bs nm = NM at *
      generalize bs W = WD at *
      have hl1 : ¬ 9223372036854775807 < 1 + NM.size := by omega
      have hl2 : ¬ 9223372036854775807 < WD.size + (1 + NM.size) := by omega
      have HSZ := hide (show (WD ++ ((⟨#[32]⟩ : ByteArray) ++ NM)).size ≤ 3000 from by
        rw [ByteArray.size_append, ByteArray.size_append]
        have : (⟨#[32]⟩ : ByteArray).size = 1 := rfl
        omega)
      clear h0 HW0
      simp only [hem, Bool.not_false]
      go_wp2_with fail
      go_meet
      exact ⟨by rw [HQ.out], by rw [HQ.out]; exact HSZ.out, rfl⟩
  case rest =>
    rename World => wc
    obtain ⟨rfl, hsz, rfl⟩ := hcut
    have HS := hide hsz
    clear hsz hs1 hs2 HW0
    go_wp2_with fail
    go_loopw [0, 17] (fun v i wi => ∃ (k : Nat) (t : ByteArray), k ≤ ns.length ∧ v = .string t ∧ i = .int .i64 k ∧ t = bs (lineW W nm (ns.take k)) ∧ t.size ≤ 3000 + 22 * k ∧ Below wc.heap.size wc wi) (fun _ i _ => ns.length - (intOf i).toNat)
    case atStart => exact ⟨0, _, Nat.zero_le _, rfl, rfl, rfl, HS.out, Below.refl _ _⟩
    case round =>
      rename World => wk
      obtain ⟨k, t, hk, rfl, rfl, ht, htl, hbl⟩ := hrel
      have HT := hide ht
      have HB := hide hbl
      clear ht hbl HS
      by_cases hlt : k < ns.length
      · obtain ⟨b, off, hA, hbb, hc⟩ := (HR.out.below HB.out).int hlt
        have hx := HBD.out.at_ hlt
        have HLN := hide (line_next W nm hlt)
        subst hA
        generalize ns[k] = x at *
        go_wp2_with fail
        refine (itoa_any x hx.1 hx.2 wk (HE.out.below HB.out)).mono ?_
        rintro e w2 ⟨rfl, b2⟩
        have HB2 := hide (HB.out.trans (b2.mono HB.out.size))
        have hil := Lib.itoa_length_le x hx.1 hx.2
        have hsz := bs_size (Lib.itoa x)
        have HN := hide (show t ++ ((⟨#[32]⟩ : ByteArray) ++ bs (Lib.itoa x)) = bs (lineW W nm (ns.take (k + 1))) from by
          rw [HLN.out, HT.out, sp_app, bs_app])
        have HNS := hide (show (t ++ ((⟨#[32]⟩ : ByteArray) ++ bs (Lib.itoa x))).size ≤ 3000 + 22 * (k + 1) from by
          rw [ByteArray.size_append, ByteArray.size_append]
          have : (⟨#[32]⟩ : ByteArray).size = 1 := rfl
          omega)
        generalize bs (Lib.itoa x) = X at *
        have hl1 : ¬ 9223372036854775807 < 1 + X.size := by omega
        have hl2 : ¬ 9223372036854775807 < t.size + (1 + X.size) := by omega
        clear b2 hc hil hsz HLN HB
        go_wp2_with fail
        refine ⟨⟨k + 1, _, by omega, rfl, by go_num, HN.out, HNS.out, HB2.out⟩, by simp [intOf]; omega⟩
      · have hke : k = ns.length := by omega
        have HV := hide (show t = bs (lineW W nm ns) from by rw [HT.out, hke, List.take_length])
        clear hke
        go_wp2_with fail
        go_ret
        rw [HV.out]
        exact ⟨rfl, HB.out⟩
end Go.Proofs.YtepoiphmmjfbdaaGreatDoor.CLineI
