/- symbolPlace: the place that a symbol means. -/
import Derived.Test.YtepoiphmmjfbdaaGreatDoorFnDeskLoadM7
import Derived.Laws.CopyOwn
import Derived.Test.YtepoiphmmjfbdaaGreatDoorRows
import Derived.Deep.RegionHeld3
import Derived.Deep.RegionLaw
import Derived.Deep.RegionLawGrows
import Derived.IntWalk
import Derived.WalkSpells
import Derived.Lib.CutLaws
set_option linter.unusedSimpArgs false
set_option linter.unusedVariables false
namespace Go.Proofs.YtepoiphmmjfbdaaGreatDoor.CSymPl
set_option maxRecDepth 200000
open Go.ChangeShapes Go.WideShapes Go.ChangeAt Go.RowKit Kit PWarn CCode CName CFixups CSymbols PObj BObj PValid CGlobalOf CObjValid BStore BList PLink CFind CPlaceL
def AllPl (rs : List RV) (os : List OV) : Prop := ∀ (k : Nat) (hk : k < os.length) (j : Nat) (hj : j < (os[k]).ys.length), ((os[k]).ys[j].2.2.1 = -1 → ¬ (os[k]).ys[j].2.1 = 0) ∧ (¬ (os[k]).ys[j].2.2.1 = -1 → PlOk rs k (os[k]).ys[j])
theorem sym_at (os : List OV) {k j : Nat} (hk : k < os.length) (hj : j < (os[k]).ys.length) : symAtL (os.map OV.d) (k, j) = (os[k]).ys[j] := by
  unfold symAtL
  rw [List.getD_eq_getElem?_getD (l := os.map OV.d), List.getElem?_map, List.getElem?_eq_getElem hk]
  simp only [Option.map_some, Option.getD_some, OV.d]
  exact getD_at hj _
def RetP (v : Int) (w : World) (e : Ending) (w' : World) : Prop := ∃ b : Bool, e = .returned (.tuple #[.int .i64 v, .bool b]) ∧ Below w.heap.size w w'
set_option maxHeartbeats 4000000 in
theorem symbolPlace_any (PA : Option Addr) (rs : List RV) (pc : Nat) (EA : Option Addr) (m ec : Nat) (A : Option Addr) (os : List OV) (c k j : Nat) (w : World) (hP : RdRs w w.heap.size PA rs) (hr : RdOs w w.heap.size A os)
    (hk : k < os.length) (hj : j < (os[k]).ys.length) (hm : Lens os) (hp : AllPl rs os) :
    Calls Tryz.prog 56 #[.agg #[.slice PA rs.length pc, .slice EA m ec], .slice A os.length c, .int .i64 k, .int .i64 j] w (RetP (symPl (os.map OV.d) (rs.map RV.zs) k j) w) := by
  have hm1 := hm.1
  have hm2 := hm.2 _ (List.getElem_mem hk)
  have HM := hide hm
  have HPL := hide hp
  have HV := hide (show symPl (os.map OV.d) (rs.map RV.zs) k j = if (os[k]).ys[j].2.1 = 0 then tgY (rs.map RV.zs) k (os[k]).ys[j] else tgO (os.map OV.d) (rs.map RV.zs) (findN (os.map OV.d) (os[k]).ys[j].1) from by
    unfold symPl tgG
    rw [sym_at os hk hj])
  have B0 : Below w.heap.size w (w.alloc (.cells #[.slice PA rs.length pc, .slice EA m ec] 84)) := (by repeat (first | exact Below.refl _ _ | with_reducible assumption | (refine Below.drew ?_) | (refine Below.drewN ?_ _) | (refine Below.alloc ?_ (by simp; try omega) _) | (refine Below.setCell ?_ (by simp; try omega) _)))
  have HL := hide (Box.new w 84 #[.slice PA rs.length pc, .slice EA m ec])
  have HB := hide B0
  have HRP := hide (hP.below B0)
  have HRO := hide (hr.below B0)
  obtain ⟨b1, o1, hA, hb1, hc0, hc1⟩ := (hr.below B0).at hk
  obtain ⟨b2, o2, hY, hb2, hc⟩ := ((hr.2 _ (List.getElem_mem hk)).2.below B0).row symbolC_len (by decide) hj
  have hd0 := hc 0 _ rfl
  have hd1 := hc 1 _ rfl
  have hd2 := hc 2 _ rfl
  have hd3 := hc 3 _ rfl
  simp only [Nat.add_zero] at hd0
  have HQ := hide (hp k hk j hj).1
  have HPC := hide (fun (W : World) (hb : Below w.heap.size w W) (hw : ¬ (os[k]).ys[j].2.2.1 = -1) => placeOf_any PA rs pc EA m ec A os c k j W ((hP.below hb).more hb.size) ((hr.below hb).more hb.size) hk hj ⟨hm1, hm2⟩ ((hp k hk j hj).2 hw))
  have HPG := hide (fun (W : World) (hb : Below w.heap.size w W) (g : G) (hg : findN (os.map OV.d) (os[k]).ys[j].1 = some g) => show Calls Tryz.prog 102 #[.agg #[.slice PA rs.length pc, .slice EA m ec], .slice A os.length c, .agg #[.int .i64 g.1, .int .i64 g.2]] W (Ret (.int .i64 (tgG (os.map OV.d) (rs.map RV.zs) g)) W) from by
    obtain ⟨h1, h2, h3⟩ := find_ok hg
    rw [List.length_map] at h1
    have e1 : (os.map OV.d).getD g.1 ⟨[], []⟩ = (os[g.1]).d := by
      rw [List.getD_eq_getElem?_getD, List.getElem?_map, List.getElem?_eq_getElem h1]
      rfl
    rw [e1] at h2 h3
    have h2' : g.2 < (os[g.1]).ys.length := h2
    have e2 : (os[g.1]).d.ys.getD g.2 dY = (os[g.1]).ys[g.2] := getD_at h2' _
    rw [e2] at h3
    have h := placeOf_any PA rs pc EA m ec A os c g.1 g.2 W ((hP.below hb).more hb.size) ((hr.below hb).more hb.size) h1 h2' ⟨hm1, hm.2 _ (List.getElem_mem h1)⟩ ((hp g.1 h1 g.2 h2').2 h3)
    unfold tgG
    rw [show symAtL (os.map OV.d) g = (os[g.1]).ys[g.2] from sym_at os h1 h2']
    exact h)
  clear hP hr hc hp B0 hc0 hm
  subst hA
  rw [hY] at hc1
  clear hY
  generalize (os[k]).ys[j] = z at *
  generalize (os[k]).ys.length = yn at *
  generalize (os[k]).yc = ycc at *
  obtain ⟨z1, z2, z3, z4⟩ := z
  simp only at hd0 hd1 hd2 hd3 HV HQ HPC HPG
  go_enter Tryz.func56, Tryz.ntmps56
  have B1 : Below (w.alloc (.cells #[.slice PA rs.length pc, .slice EA m ec] 84)).heap.size (w.alloc (.cells #[.slice PA rs.length pc, .slice EA m ec] 84)) ((w.alloc (.cells #[.slice PA rs.length pc, .slice EA m ec] 84)).alloc (.cells #[.string z1, .int .i64 z2, .int .i64 z3, .int .i64 z4] 67)) := (by repeat (first | exact Below.refl _ _ | with_reducible assumption | (refine Below.drew ?_) | (refine Below.drewN ?_ _) | (refine Below.alloc ?_ (by simp; try omega) _) | (refine Below.setCell ?_ (by simp; try omega) _)))
  have HZ0 := Box.new (w.alloc (.cells #[.slice PA rs.length pc, .slice EA m ec] 84)) 67 #[.string z1, .int .i64 z2, .int .i64 z3, .int .i64 z4]
  simp only [World.size_alloc] at HZ0
  have HZ := hide HZ0
  replace HRP := hide (HRP.out.below (B1.mono HB.out.size))
  replace HRO := hide (HRO.out.below (B1.mono HB.out.size))
  replace HB := hide (HB.out.trans (B1.mono HB.out.size))
  replace HL := hide (HL.out.call B1)
  clear B1
  clear HZ0
  cases q : (z2 == 0)
  · have hz2 : ¬ z2 = 0 := by simpa using q
    have HV2 := hide (show symPl (os.map OV.d) (rs.map RV.zs) k j = tgO (os.map OV.d) (rs.map RV.zs) (findN (os.map OV.d) z1) from by rw [HV.out, if_neg hz2])
    clear hz2 HV HPC
    go_wp2_with fail
    clear hc1 hd0 hd1 hd2 hd3 q
    generalize (w.alloc (.cells #[.slice PA rs.length pc, .slice EA m ec] 84)).alloc (.cells #[.string z1, .int .i64 z2, .int .i64 z3, .int .i64 z4] 67) = w1 at *
    refine (findName_any (some ⟨b1, o1, none⟩) os c z1 w1 (HRO.out.more HB.out.size) HM.out).mono ?_
    rintro e w2 ⟨rfl, b2⟩
    replace HB := hide (HB.out.trans (b2.mono HB.out.size))
    replace HL := hide (HL.out.call b2)
    replace HZ := hide (HZ.out.call b2)
    clear b2
    generalize hr0 : findN (os.map OV.d) z1 = r at *
    clear hr0
    simp only [givV]
    cases r with
    | none =>
      have bg : Below w2.heap.size w2 (w2.alloc (.cells #[.int .i64 0, .int .i64 0] 79)) := (by repeat (first | exact Below.refl _ _ | with_reducible assumption | (refine Below.drew ?_) | (refine Below.drewN ?_ _) | (refine Below.alloc ?_ (by simp; try omega) _) | (refine Below.setCell ?_ (by simp; try omega) _)))
      have HBG := hide (HB.out.trans (bg.mono HB.out.size))
      have HZG := hide (HZ.out.call bg)
      have y1 := HZG.out.cell 1
      simp only [List.getElem?_toArray, List.getElem?_cons_zero, List.getElem?_cons_succ] at y1
      have hzl := HZG.out.lt
      simp only [gin, gat, Option.isSome]
      clear bg
      go_wp2_with fail
      go_quiet (fail)
      go_wp2_with fail
      go_ret2
      exact ⟨_, by rw [HV2.out]; rfl, Kit.Below.drewN HBG.out _⟩
    | some g =>
      simp only [gin, gat, Option.isSome]
      have bg : Below w2.heap.size w2 (w2.alloc (.cells #[.int .i64 g.1, .int .i64 g.2] 79)) := (by repeat (first | exact Below.refl _ _ | with_reducible assumption | (refine Below.drew ?_) | (refine Below.drewN ?_ _) | (refine Below.alloc ?_ (by simp; try omega) _) | (refine Below.setCell ?_ (by simp; try omega) _)))
      have HLG := hide (HL.out.call bg)
      have HGG := hide (Box.new w2 79 #[.int .i64 g.1, .int .i64 g.2])
      replace HB := hide (HB.out.trans (bg.mono HB.out.size))
      clear bg
      clear HL HZ
      have y0 := HLG.out.cell 0
      have y1 := HLG.out.cell 1
      simp only [List.getElem?_toArray, List.getElem?_cons_zero, List.getElem?_cons_succ] at y0 y1
      have g0 := HGG.out.cell 0
      have g1 := HGG.out.cell 1
      simp only [List.getElem?_toArray, List.getElem?_cons_zero, List.getElem?_cons_succ] at g0 g1
      have hll := HLG.out.lt
      have hgl := HGG.out.lt
      go_wp2_with fail
      clear y0 y1 g0 g1 hll hgl HLG HGG
      generalize w2.alloc (.cells #[.int .i64 g.1, .int .i64 g.2] 79) = w3 at *
      refine (HPG.out w3 HB.out g rfl).mono ?_
      rintro e w4 ⟨rfl, b4⟩
      replace HB := hide (HB.out.trans (b4.mono HB.out.size))
      clear b4
      generalize hv : tgG (os.map OV.d) (rs.map RV.zs) g = v at *
      have HW := hide hv
      clear hv
      go_wp2_with fail
      go_ret2
      exact ⟨true, by rw [HV2.out]; show _ = Ending.returned (.tuple #[.int .i64 (tgG _ _ g), _]); rw [HW.out]; rfl, HB.out⟩
  · have hz2 : z2 = 0 := by simpa using q
    have HV2 := hide (show symPl (os.map OV.d) (rs.map RV.zs) k j = tgY (rs.map RV.zs) k (z1, z2, z3, z4) from by rw [HV.out, if_pos hz2])
    have hz3 : ¬ z3 = -1 := fun e => HQ.out e hz2
    have HPD := hide (fun (W : World) (hb : Below w.heap.size w W) => HPC.out W hb hz3)
    clear hz2 hz3 HV HPC HPG HQ
    have y0 := HL.out.cell 0
    have y1 := HL.out.cell 1
    simp only [List.getElem?_toArray, List.getElem?_cons_zero, List.getElem?_cons_succ] at y0 y1
    have hll := HL.out.lt
    go_wp2_with fail
    clear hc1 hd0 hd1 hd2 hd3 q y0 y1 hll
    refine (HPD.out _ HB.out).mono ?_
    rintro e w4 ⟨rfl, b4⟩
    have HB4 := hide (HB.out.trans (b4.mono HB.out.size))
    clear b4
    generalize hv : tgY (rs.map RV.zs) k (z1, z2, z3, z4) = v at *
    have HW := hide hv
    clear hv HB HL HZ HRP HRO HPD
    go_wp2_with fail
    go_ret2
    exact ⟨true, by rw [HV2.out]; rfl, HB4.out⟩
end Go.Proofs.YtepoiphmmjfbdaaGreatDoor.CSymPl
/- FixupValue: what a fixup gets. -/
namespace Go.Proofs.YtepoiphmmjfbdaaGreatDoor.CFixVal
set_option maxRecDepth 200000
open Go.ChangeShapes Go.WideShapes Go.ChangeAt Go.RowKit Kit CCode PValid CSecValid PLink
def fvV (r : Option Int) : Value := .tuple #[.int .i64 (r.getD 0), .bool r.isSome]
theorem fix_out {kind place target add : Int} (h : ¬ (inB place 0 100000 = true ∧ inB target 0 100000 = true ∧ inB add (-1000) 1000 = true)) : fixVal kind place target add = none := if_neg h
theorem and255 : ∀ m : Fin 256, bits BinOp.and IntKind.i64 ((m.val : Int) - 128) 255 = ((m.val : Int) - 128) % 256 := by decide +kernel
theorem and_mod {n : Int} (h : -128 ≤ n ∧ n ≤ 127) : bits BinOp.and IntKind.i64 n 255 = n % 256 := by
  obtain ⟨m, hm⟩ : ∃ m : Nat, n = (m : Int) - 128 := ⟨(n + 128).toNat, by omega⟩
  subst hm
  exact and255 ⟨m, by omega⟩
set_option maxHeartbeats 4000000 in
theorem fixupValue_any (kind place target add : Int) (w : World) : Calls Tryz.prog 105 #[.int .i64 kind, .int .i64 place, .int .i64 target, .int .i64 add] w (Pure (fvV (fixVal kind place target add)) w) := by
  cases hp : inB place 0 100000
  · have HV := hide (fix_out (kind := kind) (place := place) (target := target) (add := add) (by rw [hp]; simp))
    go_enter Tryz.func105, Tryz.ntmps105
    go_wp2_with fail
    refine (within_any _ _ _ _).mono ?_
    rintro e w' ⟨rfl, rfl⟩
    rw [hp]
    go_wp2_with fail
    go_ret2
    exact ⟨by rw [HV.out]; rfl, rfl⟩
  cases ht : inB target 0 100000
  · have HV := hide (fix_out (kind := kind) (place := place) (target := target) (add := add) (by rw [ht]; simp))
    go_enter Tryz.func105, Tryz.ntmps105
    go_wp2_with fail
    refine (within_any _ _ _ _).mono ?_
    rintro e w' ⟨rfl, rfl⟩
    rw [hp]
    go_wp2_with fail
    refine (within_any _ _ _ _).mono ?_
    rintro e w' ⟨rfl, rfl⟩
    rw [ht]
    go_wp2_with fail
    go_ret2
    exact ⟨by rw [HV.out]; rfl, rfl⟩
  cases ha : inB add (-1000) 1000
  · have HV := hide (fix_out (kind := kind) (place := place) (target := target) (add := add) (by rw [ha]; simp))
    go_enter Tryz.func105, Tryz.ntmps105
    go_wp2_with fail
    refine (within_any _ _ _ _).mono ?_
    rintro e w' ⟨rfl, rfl⟩
    rw [hp]
    go_wp2_with fail
    refine (within_any _ _ _ _).mono ?_
    rintro e w' ⟨rfl, rfl⟩
    rw [ht]
    go_wp2_with fail
    refine (isAdd_any _ _).mono ?_
    rintro e w' ⟨rfl, rfl⟩
    rw [ha]
    go_wp2_with fail
    go_ret2
    exact ⟨by rw [HV.out]; rfl, rfl⟩
  have HH := hide (And.intro hp (And.intro ht ha))
  have hp1 : 0 ≤ place ∧ place ≤ 100000 := by simpa [inB] using hp
  have ht1 : 0 ≤ target ∧ target ≤ 100000 := by simpa [inB] using ht
  have ha1 : -1000 ≤ add ∧ add ≤ 1000 := by simpa [inB] using ha
  obtain ⟨p1, p2⟩ := hp1
  obtain ⟨t1, t2⟩ := ht1
  obtain ⟨a1, a2⟩ := ha1
  have HV := hide (show fixVal kind place target add = (if kind = 2 then (if inB (target + add) 0 65535 = true then some (target + add) else none) else if kind = 3 then (if 0 ≤ target + add then some (target + add) else none) else if kind = 1 then (if inB (near place (target + add)) (-128) 127 = true then some (near place (target + add) % 256) else none) else none) from if_pos HH.out)
  have hwr : IntKind.i64.wrap (target + add) = target + add := IntWalk.i64_in _ (by omega)
  have hwp : IntKind.i64.wrap (place + 1) = place + 1 := IntWalk.i64_in _ (by omega)
  go_enter Tryz.func105, Tryz.ntmps105
  go_wp2_with fail
  refine (within_any _ _ _ _).mono ?_
  rintro e w' ⟨rfl, rfl⟩
  rw [hp]
  go_wp2_with fail
  refine (within_any _ _ _ _).mono ?_
  rintro e w' ⟨rfl, rfl⟩
  rw [ht]
  go_wp2_with fail
  refine (isAdd_any _ _).mono ?_
  rintro e w' ⟨rfl, rfl⟩
  rw [ha]
  clear hp ht ha
  by_cases k2 : kind = 2
  · have e2 : (kind == 2) = true := beq_iff_eq.2 k2
    rw [if_pos k2] at HV
    clear k2
    generalize hv : target + add = v at *
    go_wp2_with fail
    refine (within_any _ _ _ _).mono ?_
    rintro e w' ⟨rfl, rfl⟩
    cases hc : inB v 0 65535
    · have HV2 := hide (HV.out.trans (by rw [hc]; rfl : _ = none))
      clear HV hc
      go_wp2_with fail
      go_ret2
      exact ⟨by rw [HV2.out]; rfl, rfl⟩
    · have HV2 := hide (HV.out.trans (by rw [hc]; rfl : _ = some v))
      clear HV hc
      go_wp2_with fail
      go_ret2
      exact ⟨by rw [HV2.out]; rfl, rfl⟩
  rw [if_neg k2] at HV
  have e2 : (kind == 2) = false := beq_eq_false_iff_ne.2 k2
  by_cases k3 : kind = 3
  · have e3 : (kind == 3) = true := beq_iff_eq.2 k3
    rw [if_pos k3] at HV
    clear k2 k3
    generalize hv : target + add = v at *
    by_cases hc : 0 ≤ v
    · rw [if_pos hc] at HV
      have ec : decide (0 ≤ v) = true := decide_eq_true hc
      clear hc
      go_wp2_with fail
      go_ret2
      exact ⟨by rw [HV.out]; rfl, rfl⟩
    · rw [if_neg hc] at HV
      have ec : decide (0 ≤ v) = false := decide_eq_false hc
      clear hc
      go_wp2_with fail
      go_ret2
      exact ⟨by rw [HV.out]; rfl, rfl⟩
  rw [if_neg k3] at HV
  have e3 : (kind == 3) = false := beq_eq_false_iff_ne.2 k3
  by_cases k1 : kind = 1
  · have e1 : (kind == 1) = true := beq_iff_eq.2 k1
    rw [if_pos k1] at HV
    clear k1 k2 k3
    have hwn : IntKind.i64.wrap (target + add - (place + 1)) = near place (target + add) := IntWalk.i64_in _ (by omega)
    generalize hn : near place (target + add) = n at *
    clear hn
    go_wp2_with fail
    refine (within_any _ _ _ _).mono ?_
    rintro e w' ⟨rfl, rfl⟩
    cases hc : inB n (-128) 127
    · have HV2 := hide (HV.out.trans (by rw [hc]; rfl : _ = none))
      clear HV hc
      go_wp2_with fail
      go_ret2
      exact ⟨by rw [HV2.out]; rfl, rfl⟩
    · have HV2 := hide (HV.out.trans (by rw [hc]; rfl : _ = some (n % 256)))
      have hn : -128 ≤ n ∧ n ≤ 127 := by simpa [inB] using hc
      clear HV hc
      go_wp2_with fail
      go_ret2
      refine ⟨?_, rfl⟩
      rw [HV2.out]
      show Ending.returned (.tuple #[.int .i64 (bits BinOp.and IntKind.i64 n 255), .bool true]) = _
      rw [and_mod hn]
      rfl
  · rw [if_neg k1] at HV
    have e1 : (kind == 1) = false := beq_eq_false_iff_ne.2 k1
    clear k1 k2 k3
    go_wp2_with fail
    go_ret2
    exact ⟨by rw [HV.out]; rfl, rfl⟩
end Go.Proofs.YtepoiphmmjfbdaaGreatDoor.CFixVal
/- Bytes copied into a row of one's own. -/
namespace Go.Proofs.YtepoiphmmjfbdaaGreatDoor.BCopy
set_option maxRecDepth 200000
open Go.ChangeShapes Go.WideShapes Go.ChangeAt Go.RowKit Kit PLink
theorem step_copy_row {P : Program} {ops : Array Oper} {o : Oper} {a : Act} {w : World} {K : Act → World → Prop} {Q : Exit → Act → World → Prop} {E : Prop} (hgd : o.guard = none) (d s : Operand) (dT sT : TypeId)
    (ho : o.op = .call { callee := .builtin .copy, args := #[d, s], argTypes := #[dT, sT] }) (elem : TypeId) (hu : P.underlying dT = some (.slice elem)) (hsz : (P.info? elem).map (·.size) = some 1)
    (g off dLen dCap : Nat) (ad : Addr) (sLen sCap : Nat) (hd : a.eval d = .slice (some ⟨g, off, none⟩) dLen dCap) (hs : a.eval s = .slice (some ad) sLen sCap)
    (cur : List Value) (t : TypeId) (hg : w.heap[g]? = some (.cells cur.toArray t (0, 0))) (cs : List Value) (hn : cs.length = Nat.min sLen dLen)
    (hsrc : ∀ j v, cs[j]? = some v → w.cell? (ad.add j) = some v) (hfit : off + cs.length ≤ cur.length) (h1 : ∀ v ∈ cs, v.oneCell' = true)
    (h : K (a.put o.dst (goInt cs.length)) (w.setRow g (Go.splice cur off cs).toArray)) :
    if Region.wanted o (yielded ops a.tmps) = true then Oper.wp P o a w K Q else E := by
  have hw : Region.wanted o (yielded ops a.tmps) = true := by simp [Region.wanted, hgd]
  rw [if_pos hw]
  have hrun := run_copy_row (P := P) w dT sT o.type elem g off dLen dCap ad sLen sCap cur.toArray t cs hu hsz hg hn hsrc (by simpa using hfit) h1
  unfold Oper.wp
  simp [execOp, ho, resolve, invoke, builtin, hd, hs, hrun, Result.andThen]
  exact (show K _ _ from by simpa [Go.splice] using h)
theorem run_copy_zero {P : Program} (w : World) (dT sT ty elem : TypeId) (dA sA : Option Addr) (dLen dCap sLen sCap : Nat) (hu : P.underlying dT = some (.slice elem)) (hs : ((P.info? elem).map (·.size)).isSome = true) (h0 : Nat.min sLen dLen = 0) :
    (Builtin.copy_ #[dT, sT] ty #[.slice dA dLen dCap, .slice sA sLen sCap]).run P w = .ok (goInt 0) w := by
  cases hq : P.info? elem with
  | none => simp [hq] at hs
  | some i => cases dA <;> cases sA <;> simp [Builtin.copy_, run_underlying hu, Builtin.lenOf, Builtin.firstCells, sizeOf, typeInfo, hq, h0, storeCells, loadCells, loadCellsFrom]
theorem box_setRow {w : World} {Y g : Nat} {t : TypeId} {cs : Array Value} {cur : List Value} (h : Box w Y t cs) (hg : w.heap[g]? = some (.cells cur.toArray 5 (0, 0))) (ht : t ≠ 5) (x : Array Value) : Box (w.setRow g x) Y t cs := by
  have hne : Y ≠ g := by
    intro e
    subst e
    have := hg.symm.trans h
    simp at this
    exact ht this.2.symm
  exact (setRow_other w g Y _ hne).trans h
theorem rd_addr {w : World} {B : Nat} {A : Option Addr} {zs : List Int} (h : Rd w B A (ints .u8 zs)) (h0 : 0 < zs.length) :
    ∃ bz off, A = some ⟨bz, off, none⟩ ∧ bz < B ∧ ∀ (j : Nat) (v : Value), (ints .u8 zs)[j]? = some v → w.cell? ((⟨bz, off, none⟩ : Addr).add j) = some v := by
  obtain ⟨b, off, rfl, hb, _⟩ := h.int h0
  refine ⟨b, off, rfl, hb, fun j v hj => ?_⟩
  obtain ⟨b', off', hA, _, hc⟩ := h j v hj
  injection hA with hA
  injection hA with e1 e2
  subst e1 e2
  by_cases h0 : j = 0
  · subst h0
    simpa [Addr.add] using hc
  · simpa [Addr.add, h0] using hc
theorem take_splice {A cs : List Value} {i n : Nat} (hin : i + cs.length ≤ n) (hn : n ≤ A.length) : (Go.splice A i cs).take n = Go.splice (A.take n) i cs := by
  unfold Go.splice
  have h1 : (A.take i).length = i := by rw [List.length_take]; omega
  have h2 : (A.take n).take i = A.take i := by rw [List.take_take]; congr 1; omega
  have h3 : (A.take i).take n = A.take i := by rw [List.take_take]; congr 1; omega
  have h4 : cs.take (n - i) = cs := List.take_of_length_le (by omega)
  rw [List.take_append, h1, h2, h3, List.take_append, h4, List.drop_take, show n - i - cs.length = n - (i + cs.length) by omega]
theorem splice_ints (l zs : List Int) (i : Nat) : Go.splice (ints .u8 l) i (ints .u8 zs) = ints .u8 (sp l i zs) := by
  simp [Go.splice, sp, ints]
theorem own_splice {w : World} {base g n c : Nat} {e : TypeId} {xs : List Value} (h : w.ownsRow base e 1 (.slice (some ⟨g, 0, none⟩) n c) n xs) :
    ∃ cur : List Value, w.heap[g]? = some (.cells cur.toArray e (0, 0)) ∧ base ≤ g ∧ n ≤ cur.length ∧ ∀ (w' : World) (i : Nat) (cs : List Value), i + cs.length ≤ n → w'.heap[g]? = some (.cells (Go.splice cur i cs).toArray e (0, 0)) → w'.ownsRow base e 1 (.slice (some ⟨g, 0, none⟩) n c) n (Go.splice xs i cs) := by
  have hl := h.1
  rcases h.2 with ⟨hv, _⟩ | ⟨g', cap, cur, hv, hb, hg, hn, hc, hs, ht⟩
  · cases hv
  · injection hv with hA _ hcap
    simp only [Option.some.injEq, Addr.mk.injEq, and_true] at hA
    subst hA hcap
    simp only [Nat.mul_one] at hs ht hl
    have hcl : cur.toList.length = c := by simpa using hs
    refine ⟨cur.toList, by simpa using hg, hb, by omega, fun w' i cs hi hw => ⟨?_, .inr ⟨g, c, _, rfl, hb, hw, hn, hc, ?_, ?_⟩⟩⟩
    · rw [Go.length_splice _ _ _ (by omega)]
      omega
    · simp only [Nat.mul_one, List.size_toArray]
      rw [Go.length_splice _ _ _ (by omega)]
      exact hcl
    · simp only [Nat.mul_one]
      rw [take_splice hi (by omega), ht]
/-- A row of bytes of one's own, and what becomes of it when bytes are copied in. -/
theorem copied {w : World} {base g n c : Nat} {l : List Int} (h : w.ownsRow base 5 1 (.slice (some ⟨g, 0, none⟩) n c) n (ints .u8 l)) :
    ∃ cur : List Value, w.heap[g]? = some (.cells cur.toArray 5 (0, 0)) ∧ base ≤ g ∧ n ≤ cur.length ∧ ∀ (i : Nat) (zs : List Int), i + zs.length ≤ n → (w.setRow g (Go.splice cur i (ints .u8 zs)).toArray).ownsRow base 5 1 (.slice (some ⟨g, 0, none⟩) n c) n (ints .u8 (sp l i zs)) := by
  obtain ⟨cur, hg, hN, hn, hf⟩ := own_splice h
  refine ⟨cur, hg, hN, hn, fun i zs hi => ?_⟩
  rw [← splice_ints]
  exact hf _ i _ (by simpa using hi) (setRow_heap w g _ _ _ _ hg)
end Go.Proofs.YtepoiphmmjfbdaaGreatDoor.BCopy
/- ApplyFixup: bytes with a fixup filled in. -/
namespace Go.Proofs.YtepoiphmmjfbdaaGreatDoor.CApFix
set_option maxRecDepth 200000
open Go.ChangeShapes Go.WideShapes Go.ChangeAt Go.RowKit Kit CCode CNumber CFixups CSymbols PObj BObj PValid CSecValid BStore CMarkRows CClones CCopyS PLink CFixVal BCopy
theorem fix_bd {kind place target add v : Int} (h : fixVal kind place target add = some v) : (kind = 1 ∨ kind = 2 ∨ kind = 3) ∧ 0 ≤ v ∧ v ≤ all (wide kind) := by
  unfold fixVal at h
  split at h
  · rename_i hc
    have h1 : 0 ≤ target ∧ target ≤ 100000 := by simpa [inB] using hc.2.1
    have h2 : -1000 ≤ add ∧ add ≤ 1000 := by simpa [inB] using hc.2.2
    split at h
    · rename_i hk
      subst hk
      split at h
      · rename_i hb
        injection h with h
        have h3 : 0 ≤ target + add ∧ target + add ≤ 65535 := by simpa [inB] using hb
        subst h
        refine ⟨by omega, by omega, ?_⟩
        show target + add ≤ 65535
        omega
      · cases h
    · split at h
      · rename_i hk
        subst hk
        split at h
        · injection h with h
          subst h
          refine ⟨by omega, by omega, ?_⟩
          show target + add ≤ 4294967295
          omega
        · cases h
      · split at h
        · rename_i hk
          subst hk
          split at h
          · injection h with h
            subst h
            refine ⟨by omega, by omega, ?_⟩
            show near place (target + add) % 256 ≤ 255
            omega
          · cases h
        · cases h
  · cases h
theorem pnum_put {kind place target add v : Int} (h : fixVal kind place target add = some v) : pnum v (wide kind) = putL (wide kind).toNat v := by
  obtain ⟨hk, h1, h2⟩ := fix_bd h
  unfold pnum
  rw [if_pos]
  refine ⟨?_, by simpa [inB] using ⟨h1, h2⟩⟩
  rcases hk with rfl | rfl | rfl <;> decide
/-- What is given back. -/
def RetF (r : Option (List Int)) (w : World) (e : Ending) (w' : World) : Prop := ∃ A c n, e = .returned (.tuple #[.slice A n c, .bool r.isSome]) ∧ Below w.heap.size w w' ∧ ∀ b, r = some b → n = b.length ∧ Row w' w.heap.size 5 1 A n c (ints .u8 b)
theorem ap_out {b : List Int} {place : Int} {f : FD} {t : Int} (h : ¬ (inB place 0 100000 = true ∧ ¬ wide f.2.1 = 0 ∧ inB f.1 0 (b.length - wide f.2.1) = true)) : apF b place f t = none := if_neg h
set_option maxHeartbeats 4000000 in
theorem applyFixup_any (A : Option Addr) (b : List Int) (c : Nat) (place : Int) (f : FD) (t : Int) (w : World) (hr : Rd w w.heap.size A (ints .u8 b)) (hm : b.length ≤ 1000) (hnil : A = none → c = 0) :
    Calls Tryz.prog 57 #[.slice A b.length c, .int .i64 place, .agg #[.int .i64 f.1, .int .i64 f.2.1, .int .i64 f.2.2.1, .int .i64 f.2.2.2], .int .i64 t] w (RetF (apF b place f t) w) := by
  obtain ⟨f1, f2, f3, f4⟩ := f
  simp only
  have HR := hide hr
  have HNIL := hide hnil
  clear hr hnil
  have hwd := wide_bd f2
  obtain ⟨wd1, wd2⟩ := hwd
  have HB := hide (show Below w.heap.size w (w.alloc (.cells #[.int .i64 f1, .int .i64 f2, .int .i64 f3, .int .i64 f4] 65)) from (by repeat (first | exact Below.refl _ _ | with_reducible assumption | (refine Below.drew ?_) | (refine Below.drewN ?_ _) | (refine Below.alloc ?_ (by simp; try omega) _) | (refine Below.setCell ?_ (by simp; try omega) _))))
  have HX := hide (Box.new w 65 #[.int .i64 f1, .int .i64 f2, .int .i64 f3, .int .i64 f4])
  go_enter Tryz.func57, Tryz.ntmps57
  go_wp2_with fail
  generalize w.alloc (.cells #[.int .i64 f1, .int .i64 f2, .int .i64 f3, .int .i64 f4] 65) = w0 at *
  have x1 := HX.out.cell 1
  simp only [List.getElem?_toArray, List.getElem?_cons_zero, List.getElem?_cons_succ] at x1
  refine Reg.startT (fun W => W.cell? ⟨w.heap.size, 1, none⟩ = some (.int .i64 f2)) (fun _ => false) (by kernel_rfl) ?_
  have hHeld : w0.drew.cell? ⟨w.heap.size, 1, none⟩ = some (.int .i64 f2) := x1
  clear x1
  refine Reg.takeT (i := 0) (v := ?_) rfl (by kernel_rfl) (by kernel_rfl) (by kernel_rfl) (by kernel_rfl) (fun _ _ _ h => h) (Or.inl ⟨by rfl, ?_⟩) (by assumption) ?_
  rotate_left 1
  focus (intro w hSw; (try dsimp only at hSw); go_simp; (try with_reducible rfl))
  try simp only [List.getElem_toArray, List.getElem_cons_succ, List.getElem_cons_zero, Act.put, List.setIfInBounds_toArray, List.set_cons_zero, List.set_cons_succ]
  refine Reg.takeT (i := 2) (v := ?_) rfl (by kernel_rfl) (by kernel_rfl) (by kernel_rfl) (by kernel_rfl) (fun _ _ _ h => h) (Or.inl ⟨by rfl, ?_⟩) (by assumption) ?_
  rotate_left 1
  focus (intro w hSw; (try dsimp only at hSw); go_simp; (try with_reducible rfl))
  try simp only [List.getElem_toArray, List.getElem_cons_succ, List.getElem_cons_zero, Act.put, List.setIfInBounds_toArray, List.set_cons_zero, List.set_cons_succ]
  refine Reg.takeT (i := 3) (v := ?_) rfl (by kernel_rfl) (by kernel_rfl) (by kernel_rfl) (by kernel_rfl) (fun _ _ _ h => h) (Or.inl ⟨by rfl, ?_⟩) (by assumption) ?_
  rotate_left 1
  focus (intro w hSw; (try dsimp only at hSw); go_simp; (try with_reducible rfl))
  try simp only [List.getElem_toArray, List.getElem_cons_succ, List.getElem_cons_zero, Act.put, List.setIfInBounds_toArray, List.set_cons_zero, List.set_cons_succ]
  have bd : Below w0.heap.size w0 w0.drew := below_dr (Below.refl _ _)
  replace HB := hide (HB.out.trans (bd.mono HB.out.size))
  replace HX := hide (HX.out.call bd)
  clear bd
  generalize w0.drew = w1 at *
  refine Reg.oneT (i := 1) rfl (by kernel_rfl) (fun K hK => ?_)
  go_simp
  refine (clone8_any A b c w.heap.size w1 (HR.out.below HB.out) HB.out.size (by omega) HNIL.out).mono ?_
  rintro e w2 ⟨A2, c2, rfl, o2, b2⟩
  have hlow : w.heap.size ≤ w1.heap.size := HB.out.size
  have HO := hide (o2.down hlow)
  clear o2
  replace HB := hide (HB.out.trans (b2.mono HB.out.size))
  replace HX := hide (HX.out.call b2)
  clear b2
  replace hHeld := HX.out.cell 1
  simp only [List.getElem?_toArray, List.getElem?_cons_zero, List.getElem?_cons_succ] at hHeld
  refine hK.out _ _ hHeld ?_
  clear hK K
  try simp only [List.getElem_toArray, List.getElem_cons_succ, List.getElem_cons_zero, Act.put, List.setIfInBounds_toArray, List.set_cons_zero, List.set_cons_succ]
  refine Reg.oneT (i := 4) rfl (by kernel_rfl) (fun K hK => ?_)
  go_simp
  refine (fixupWide_any f2 w2).mono ?_
  rintro e w' ⟨rfl, rfl⟩
  refine hK.out _ _ hHeld ?_
  clear hK K
  try simp only [List.getElem_toArray, List.getElem_cons_succ, List.getElem_cons_zero, Act.put, List.setIfInBounds_toArray, List.set_cons_zero, List.set_cons_succ]
  refine Reg.takeT (i := 5) (v := ?_) rfl (by kernel_rfl) (by kernel_rfl) (by kernel_rfl) (by kernel_rfl) (fun _ _ _ h => h) (Or.inl ⟨by rfl, ?_⟩) (by assumption) ?_
  rotate_left 1
  focus (intro w hSw; (try dsimp only at hSw); go_simp; (try with_reducible rfl))
  try simp only [List.getElem_toArray, List.getElem_cons_succ, List.getElem_cons_zero, Act.put, List.setIfInBounds_toArray, List.set_cons_zero, List.set_cons_succ]
  refine Reg.takeT (i := 6) (v := ?_) rfl (by kernel_rfl) (by kernel_rfl) (by kernel_rfl) (by kernel_rfl) (fun _ _ _ h => h) (Or.inl ⟨by rfl, ?_⟩) (by assumption) ?_
  rotate_left 1
  focus (intro w hSw; (try dsimp only at hSw); go_simp; (try with_reducible rfl))
  try simp only [List.getElem_toArray, List.getElem_cons_succ, List.getElem_cons_zero, Act.put, List.setIfInBounds_toArray, List.set_cons_zero, List.set_cons_succ]
  clear hHeld
  refine Reg.doneT (by kernel_rfl) ?_ _
  generalize hwn : wide f2 = wd at *
  have HW := hide hwn
  clear hwn
  cases hp : inB place 0 100000
  · have HV := hide (ap_out (b := b) (place := place) (f := (f1, f2, f3, f4)) (t := t) (by rw [hp]; simp))
    go_wp2_with fail
    refine (within_any _ _ _ _).mono ?_
    rintro e w' ⟨rfl, rfl⟩
    rw [hp]
    clear hp
    go_wp2_with fail
    go_ret2
    exact ⟨A2, c2, b.length, by rw [HV.out]; rfl, HB.out, fun b' hb' => by rw [HV.out] at hb'; cases hb'⟩
  by_cases hw0 : wd = 0
  · have HV := hide (ap_out (b := b) (place := place) (f := (f1, f2, f3, f4)) (t := t) (by simp only; rw [HW.out, hw0]; simp))
    have e0 : (wd == 0) = true := beq_iff_eq.2 hw0
    clear hw0
    go_wp2_with fail
    refine (within_any _ _ _ _).mono ?_
    rintro e w' ⟨rfl, rfl⟩
    rw [hp]
    clear hp
    go_wp2_with fail
    go_ret2
    exact ⟨A2, c2, b.length, by rw [HV.out]; rfl, HB.out, fun b' hb' => by rw [HV.out] at hb'; cases hb'⟩
  have e0 : (wd == 0) = false := beq_eq_false_iff_ne.2 hw0
  have hws : IntKind.i64.wrap ((b.length : Int) - wd) = (b.length : Int) - wd := IntWalk.i64_in _ (by omega)
  cases hf : inB f1 0 ((b.length : Int) - wd)
  · have HV := hide (ap_out (b := b) (place := place) (f := (f1, f2, f3, f4)) (t := t) (by simp only; rw [HW.out, hf]; simp))
    have x0 := HX.out.cell 0
    simp only [List.getElem?_toArray, List.getElem?_cons_zero, List.getElem?_cons_succ] at x0
    have hxl := HX.out.lt
    go_wp2_with fail
    refine (within_any _ _ _ _).mono ?_
    rintro e w' ⟨rfl, rfl⟩
    rw [hp]
    clear hp
    go_wp2_with fail
    refine (within_any _ _ _ _).mono ?_
    rintro e w' ⟨rfl, rfl⟩
    rw [hf]
    clear hf
    go_wp2_with fail
    go_ret2
    exact ⟨A2, c2, b.length, by rw [HV.out]; rfl, HB.out, fun b' hb' => by rw [HV.out] at hb'; cases hb'⟩
  have HV := hide (show apF b place (f1, f2, f3, f4) t = (fixVal f2 (place + f1) t f4).map fun v => sp b f1.toNat (putL (wide f2).toNat v) from if_pos (by simp only; rw [HW.out]; exact ⟨hp, hw0, hf⟩))
  have hf1 : 0 ≤ f1 ∧ f1 ≤ (b.length : Int) - wd := by simpa [inB] using hf
  have hp1 : 0 ≤ place ∧ place ≤ 100000 := by simpa [inB] using hp
  obtain ⟨g1, g2⟩ := hf1
  obtain ⟨g3, g4⟩ := hp1
  have hwp : IntKind.i64.wrap (place + f1) = place + f1 := IntWalk.i64_in _ (by omega)
  have x0 := HX.out.cell 0
  have x1 := HX.out.cell 1
  have x3 := HX.out.cell 3
  simp only [List.getElem?_toArray, List.getElem?_cons_zero, List.getElem?_cons_succ] at x0 x1 x3
  have hxl := HX.out.lt
  go_wp2_with fail
  refine (within_any _ _ _ _).mono ?_
  rintro e w' ⟨rfl, rfl⟩
  rw [hp]
  clear hp
  go_wp2_with fail
  refine (within_any _ _ _ _).mono ?_
  rintro e w' ⟨rfl, rfl⟩
  rw [hf]
  clear hf
  go_wp2_with fail
  refine (fixupValue_any _ _ _ _ _).mono ?_
  rintro e w' ⟨rfl, rfl⟩
  generalize hv : fixVal f2 (place + f1) t f4 = r at *
  have HFV := hide hv
  clear hv
  cases r with
  | none =>
    simp only [fvV, Option.isSome, Option.getD]
    go_wp2_with fail
    go_ret2
    exact ⟨A2, c2, b.length, by rw [HV.out]; rfl, HB.out, fun b' hb' => by rw [HV.out] at hb'; cases hb'⟩
  | some v =>
    simp only [fvV, Option.isSome, Option.getD]
    go_wp2_with fail
    clear x0 x1 x3 hxl e0 hws hwp
    obtain ⟨a, rfl⟩ : ∃ a : Nat, f1 = (a : Int) := ⟨f1.toNat, by omega⟩
    obtain ⟨n, rfl⟩ : ∃ n : Nat, wd = (n : Int) := ⟨wd.toNat, by omega⟩
    have hal : a + n ≤ b.length := by omega
    have hn0 : 0 < n := by omega
    have HPU := hide (show pnum v n = putL n v from by
      have h := pnum_put HFV.out
      rw [HW.out] at h
      rw [h]
      rfl)
    have HV2 := hide (show apF b place ((a : Int), f2, f3, f4) t = some (sp b a (putL n v)) from by
      rw [HV.out, HW.out]
      rfl)
    have hplen : (putL n v).length = n := putL_len n v
    obtain ⟨g, rfl, hgb, hgl, hgk, hown⟩ := own_of HO.out (by omega)
    have hcap := HO.out.cap.1
    have x0 := HX.out.cell 0
    simp only [List.getElem?_toArray, List.getElem?_cons_zero, List.getElem?_cons_succ] at x0
    have hxl := HX.out.lt
    refine Reg.startT (fun W => W.cell? ⟨w.heap.size, 0, none⟩ = some (.int .i64 (a : Int))) (fun _ => false) (by kernel_rfl) ?_
    have hHeld : w2.drew.cell? ⟨w.heap.size, 0, none⟩ = some (.int .i64 (a : Int)) := x0
    clear x0 hxl
    have hin1 : a ≤ b.length := by omega
    have hin2 : a ≤ c2 := by omega
    refine Reg.takeT (i := 0) (v := ?_) rfl (by kernel_rfl) (by kernel_rfl) (by kernel_rfl) (by kernel_rfl) (fun _ _ _ h => h) (Or.inl ⟨by rfl, ?_⟩) (by assumption) ?_
    rotate_left 1
    focus (intro w hSw; (try dsimp only at hSw); go_simp; (try with_reducible rfl))
    try simp only [List.getElem_toArray, List.getElem_cons_succ, List.getElem_cons_zero, Act.put, List.setIfInBounds_toArray, List.set_cons_zero, List.set_cons_succ]
    refine Reg.takeT (i := 1) (v := ?_) rfl (by kernel_rfl) (by kernel_rfl) (by kernel_rfl) (by kernel_rfl) (fun _ _ _ h => h) (Or.inl ⟨by rfl, ?_⟩) (by assumption) ?_
    rotate_left 1
    focus (intro w hSw; (try dsimp only at hSw); go_simp; (try with_reducible rfl))
    try simp only [List.getElem_toArray, List.getElem_cons_succ, List.getElem_cons_zero, Act.put, List.setIfInBounds_toArray, List.set_cons_zero, List.set_cons_succ]
    refine Reg.takeT (i := 2) (v := ?_) rfl (by kernel_rfl) (by kernel_rfl) (by kernel_rfl) (by kernel_rfl) (fun _ _ _ h => h) (Or.inl ⟨by rfl, ?_⟩) (by assumption) ?_
    rotate_left 1
    focus (intro w hSw; (try dsimp only at hSw); go_simp; (try with_reducible rfl))
    try simp only [List.getElem_toArray, List.getElem_cons_succ, List.getElem_cons_zero, Act.put, List.setIfInBounds_toArray, List.set_cons_zero, List.set_cons_succ]
    refine Reg.takeT (i := 3) (v := ?_) rfl (by kernel_rfl) (by kernel_rfl) (by kernel_rfl) (by kernel_rfl) (fun _ _ _ h => h) (Or.inl ⟨by rfl, ?_⟩) (by assumption) ?_
    rotate_left 1
    focus (intro w hSw; (try dsimp only at hSw); go_simp; (try with_reducible rfl))
    try simp only [List.getElem_toArray, List.getElem_cons_succ, List.getElem_cons_zero, Act.put, List.setIfInBounds_toArray, List.set_cons_zero, List.set_cons_succ]
    refine Reg.takeT (i := 4) (v := ?_) rfl (by kernel_rfl) (by kernel_rfl) (by kernel_rfl) (by kernel_rfl) (fun _ _ _ h => h) (Or.inl ⟨by rfl, ?_⟩) (by assumption) ?_
    rotate_left 1
    focus (intro w hSw; (try dsimp only at hSw); go_simp; (try with_reducible rfl))
    try simp only [List.getElem_toArray, List.getElem_cons_succ, List.getElem_cons_zero, Act.put, List.setIfInBounds_toArray, List.set_cons_zero, List.set_cons_succ]
    refine Reg.takeT (i := 5) (v := ?_) rfl (by kernel_rfl) (by kernel_rfl) (by kernel_rfl) (by kernel_rfl) (fun _ _ _ h => h) (Or.inl ⟨by rfl, ?_⟩) (by assumption) ?_
    rotate_left 1
    focus (intro w hSw; (try dsimp only at hSw); go_simp; (try with_reducible rfl))
    try simp only [List.getElem_toArray, List.getElem_cons_succ, List.getElem_cons_zero, Act.put, List.setIfInBounds_toArray, List.set_cons_zero, List.set_cons_succ]
    have bd : Below w2.heap.size w2 w2.drew := below_dr (Below.refl _ _)
    replace HB := hide (HB.out.trans (bd.mono HB.out.size))
    replace HX := hide (HX.out.call bd)
    clear bd
    have HOW := hide (show w2.drew.ownsRow w.heap.size 5 1 (.slice (some ⟨g, 0, none⟩) b.length c2) b.length (ints .u8 b) from hown)
    clear hown HO
    have hgl' : g < w2.drew.heap.size := hgl
    generalize w2.drew = w3 at *
    refine Reg.oneT (i := 6) rfl (by kernel_rfl) (fun K hK => ?_)
    go_simp
    refine (putNumber_any v n w3).mono ?_
    rintro e w5 ⟨A5, c5, rfl, o5, b5⟩
    rw [HPU.out, hplen] at o5 ⊢
    have HS := hide (Rd.of_own o5)
    replace HOW := hide (own_call b5 HOW.out)
    replace HB := hide (HB.out.trans (b5.mono HB.out.size))
    replace HX := hide (HX.out.call b5)
    clear b5
    replace hHeld := HX.out.cell 0
    simp only [List.getElem?_toArray, List.getElem?_cons_zero] at hHeld
    refine hK.out _ _ hHeld ?_
    clear hK K
    try simp only [List.getElem_toArray, List.getElem_cons_succ, List.getElem_cons_zero, Act.put, List.setIfInBounds_toArray, List.set_cons_zero, List.set_cons_succ]
    obtain ⟨bz, offz, rfl, hbz, hsrc⟩ := rd_addr HS.out (by omega)
    obtain ⟨cur, hgv, hgb2, hcn, hcp⟩ := copied HOW.out
    have HGV := hide hgv
    have HIL := hide (show (ints .u8 (putL n v)).length = n by simp [hplen])
    have HOUT := hide (hcp a (putL n v) (by omega))
    have HBO := hide (Go.below_setRow HB.out hgb2 (Go.splice cur a (ints .u8 (putL n v))).toArray)
    have HXO := hide (box_setRow HX.out hgv (by decide) (Go.splice cur a (ints .u8 (putL n v))).toArray)
    refine Reg.oneT (i := 7) rfl (by kernel_rfl) (fun K hK => ?_)
    refine step_copy_row (by rfl) _ _ 22 22 (by rfl) 5 Tryz.underlying22 (by kernel_rfl) g a (b.length - a) (c2 - a) ⟨bz, offz, none⟩ n c5 (by show Value.slice (if c2 = a then _ else _) _ _ = _; rw [if_neg (by omega)]) (by rfl) cur 5 HGV.out (ints .u8 (putL n v)) (by rw [HIL.out]; exact (Nat.min_eq_left (by omega)).symm) hsrc (by rw [HIL.out]; omega) oneI ?_
    generalize w5.setRow g (Go.splice cur a (ints .u8 (putL n v))).toArray = w6 at *
    refine hK.out _ _ (by have h := HXO.out.cell 0; simpa using h) ?_
    clear hK K
    try simp only [List.getElem_toArray, List.getElem_cons_succ, List.getElem_cons_zero, Act.put, List.setIfInBounds_toArray, List.set_cons_zero, List.set_cons_succ]
    refine Reg.doneT (by kernel_rfl) ?_ _
    clear hcp hgv hsrc hHeld
    go_wp2_with fail
    go_ret2
    refine ⟨some ⟨g, 0, none⟩, c2, b.length, by rw [HV2.out]; rfl, HBO.out, fun b' hb' => ?_⟩
    rw [HV2.out] at hb'
    injection hb' with hb'
    subst hb'
    have hsl : (sp b a (putL n v)).length = b.length := sp_len (by omega)
    exact ⟨hsl.symm, .inr HOUT.out⟩
end Go.Proofs.YtepoiphmmjfbdaaGreatDoor.CApFix
/- Where a layout's places lie; plain. -/
namespace Go.Proofs.YtepoiphmmjfbdaaGreatDoor.PLayB
set_option maxRecDepth 200000
open Go.ChangeShapes Go.WideShapes Go.ChangeAt Go.RowKit Kit CCode CName CNumber CFixups CSymbols PObj PValid PWarn PClear PSort CObjValid PLink PLinkL
def Okk (s : SD) : Prop := (0 ≤ secSize s ∧ secSize s ≤ 48) ∧ alignOk s.al = true
def sec (l : List OD) (k i : Nat) : Option SD := (l[k]?).bind fun d => d.ss[i]?
theorem sec_at {l : List OD} {k i : Nat} (hk : k < l.length) (hi : i < (l[k]).ss.length) : sec l k i = some (l[k]).ss[i] := by
  unfold sec
  rw [List.getElem?_eq_getElem hk]
  exact List.getElem?_eq_getElem hi
def Shq (l : List OD) (P : List (List Int)) : Prop := ∀ k i s, sec l k i = some s → ∃ h : k < P.length, i < (P[k]).length
theorem getP_set {P : List (List Int)} {k i : Nat} (v : Int) (hk : k < P.length) (hi : i < (P[k]).length) (a b : Nat) : getP (setP P k i v) a b = if a = k ∧ b = i then v else getP P a b := by
  unfold getP setP
  have e : P.getD k [] = P[k] := by rw [List.getD_eq_getElem?_getD, List.getElem?_eq_getElem hk]; rfl
  rw [e]
  rw [List.getD_eq_getElem?_getD (l := P.set k _), List.getElem?_set]
  by_cases hak : k = a
  · subst hak
    rw [if_pos rfl, if_pos hk, e]
    simp only [Option.getD_some, true_and]
    rw [List.getD_eq_getElem?_getD, List.getElem?_set, List.getD_eq_getElem?_getD]
    by_cases hbi : i = b
    · subst hbi
      rw [if_pos rfl, if_pos hi, if_pos rfl]
      rfl
    · rw [if_neg hbi, if_neg (fun h => hbi h.symm)]
  · rw [if_neg hak, if_neg (fun h => hak h.1.symm), ← List.getD_eq_getElem?_getD]
theorem shq_set {l : List OD} {P : List (List Int)} (h : Shq l P) (k i : Nat) (v : Int) : Shq l (setP P k i v) := by
  intro a b s hs
  obtain ⟨h1, h2⟩ := h a b s hs
  unfold setP
  refine ⟨by rw [List.length_set]; exact h1, ?_⟩
  rw [List.getElem_set]
  by_cases hka : k = a
  · subst hka
    rw [if_pos rfl, List.length_set, List.getD_eq_getElem?_getD, List.getElem?_eq_getElem h1]
    exact h2
  · rw [if_neg hka]
    exact h2
structure Inv (l : List OD) (b : Int) (Dn : Nat → Nat → SD → Prop) (st : St) : Prop where
  lo : b ≤ st.1
  sh : Shq l st.2
  pl : ∀ k i s, sec l k i = some s → Dn k i s → b ≤ getP st.2 k i ∧ getP st.2 k i ≤ st.1
variable {l : List OD} {b : Int}
theorem Inv.weak {Dn Dn' : Nat → Nat → SD → Prop} {st : St} (h : Inv l b Dn st) (hD : ∀ k i s, sec l k i = some s → Dn' k i s → Dn k i s) : Inv l b Dn' st := ⟨h.lo, h.sh, fun k i s hs hd => h.pl k i s hs (hD k i s hs hd)⟩
theorem inv_step (hb : 0 ≤ b) {Dn : Nat → Nat → SD → Prop} {st : St} {kd : Int} {k i : Nat} {s : SD} (h : Inv l b Dn st) (hs : sec l k i = some s) (ho : Okk s) :
    Inv l b (fun k' i' s' => Dn k' i' s' ∨ (k' = k ∧ i' = i ∧ s'.kd = kd)) (stepS kd k i s st) := by
  obtain ⟨a, P⟩ := st
  obtain ⟨h1, h2, h3⟩ := h
  simp only at h1 h2 h3
  unfold stepS
  by_cases hk : s.kd = kd
  · rw [decide_eq_true hk]
    simp only [cond_true]
    obtain ⟨e1, e2⟩ := al_bd (show 0 ≤ a by omega) ho.2
    obtain ⟨q1, q2⟩ := h2 k i s hs
    have hsz := ho.1.1
    refine ⟨by omega, shq_set h2 k i _, fun k' i' s' hs' hd => ?_⟩
    rw [getP_set _ q1 q2]
    by_cases hc : k' = k ∧ i' = i
    · rw [if_pos hc]
      omega
    · rw [if_neg hc]
      rcases hd with hd | ⟨r1, r2, _⟩
      · have := h3 k' i' s' hs' hd
        omega
      · exact absurd ⟨r1, r2⟩ hc
  · rw [decide_eq_false hk]
    simp only [cond_false]
    refine ⟨h1, h2, fun k' i' s' hs' hd => ?_⟩
    rcases hd with hd | ⟨rfl, rfl, r3⟩
    · exact h3 k' i' s' hs' hd
    · rw [hs] at hs'
      injection hs' with hs'
      subst hs'
      exact absurd r3 hk
theorem inv_foldS (hb : 0 ≤ b) (kd : Int) (k : Nat) : ∀ (ss : List SD) (i : Nat) (st : St) (Dn : Nat → Nat → SD → Prop),
    (∀ j s, ss[j]? = some s → sec l k (i + j) = some s ∧ Okk s) → (∀ i', i + ss.length ≤ i' → sec l k i' = none) → Inv l b Dn st →
    Inv l b (fun k' i' s' => Dn k' i' s' ∨ (k' = k ∧ i ≤ i' ∧ s'.kd = kd)) (foldS kd k i ss st)
  | [], i, st, Dn, _, hend, h => by
    refine h.weak fun k' i' s' hs' hd => ?_
    rcases hd with hd | ⟨rfl, r2, _⟩
    · exact hd
    · rw [hend i' (by simpa using r2)] at hs'
      cases hs'
  | s :: ss, i, st, Dn, hss, hend, h => by
    have h0 := hss 0 s rfl
    rw [Nat.add_zero] at h0
    have hst := inv_step hb (kd := kd) h h0.1 h0.2
    have ih := inv_foldS hb kd k ss (i + 1) _ _ (fun j t ht => by
      have := hss (j + 1) t (by simpa using ht)
      rwa [show i + (j + 1) = i + 1 + j by omega] at this) (fun i' hi' => hend i' (by simp; omega)) hst
    refine ih.weak fun k' i' s' hs' hd => ?_
    rcases hd with hd | ⟨r1, r2, r3⟩
    · exact .inl (.inl hd)
    · by_cases hi : i' = i
      · exact .inl (.inr ⟨r1, hi, r3⟩)
      · exact .inr ⟨r1, by omega, r3⟩
theorem inv_foldO (hb : 0 ≤ b) (kd : Int) : ∀ (ds : List OD) (k : Nat) (st : St) (Dn : Nat → Nat → SD → Prop),
    (∀ j d, ds[j]? = some d → l[k + j]? = some d ∧ ∀ s ∈ d.ss, Okk s) → l.length ≤ k + ds.length → Inv l b Dn st →
    Inv l b (fun k' i' s' => Dn k' i' s' ∨ (k ≤ k' ∧ s'.kd = kd)) (foldO kd k ds st)
  | [], k, st, Dn, _, hend, h => by
    refine h.weak fun k' i' s' hs' hd => ?_
    rcases hd with hd | ⟨r1, _⟩
    · exact hd
    · unfold sec at hs'
      rw [List.getElem?_eq_none (by simp at hend; omega)] at hs'
      cases hs'
  | d :: ds, k, st, Dn, hds, hend, h => by
    have h0 := hds 0 d rfl
    rw [Nat.add_zero] at h0
    have hst := inv_foldS hb kd k d.ss 0 st Dn (fun j s hs => by
      refine ⟨?_, h0.2 s (List.mem_of_getElem? hs)⟩
      unfold sec
      rw [h0.1, Nat.zero_add]
      exact hs) (fun i' hi' => by
      unfold sec
      rw [h0.1]
      exact List.getElem?_eq_none (by omega)) h
    have ih := inv_foldO hb kd ds (k + 1) _ _ (fun j t ht => by
      have := hds (j + 1) t (by simpa using ht)
      rwa [show k + (j + 1) = k + 1 + j by omega] at this) (by simp at hend; omega) hst
    refine ih.weak fun k' i' s' hs' hd => ?_
    rcases hd with hd | ⟨r1, r2⟩
    · exact .inl (.inl hd)
    · by_cases hk : k' = k
      · exact .inl (.inr ⟨hk, Nat.zero_le _, r2⟩)
      · exact .inr ⟨by omega, r2⟩
theorem inv_kind (hb : 0 ≤ b) (hl : ∀ d ∈ l, ∀ s ∈ d.ss, Okk s) (kd : Int) {Dn : Nat → Nat → SD → Prop} {st : St} (h : Inv l b Dn st) : Inv l b (fun k' i' s' => Dn k' i' s' ∨ s'.kd = kd) (kindS l kd st) := by
  have hlo := h.lo
  obtain ⟨e1, _⟩ := al_bd (show 0 ≤ st.1 by omega) (show alignOk 8 = true by decide)
  have h1 : Inv l b Dn (al st.1 8, st.2) := ⟨by simp only; omega, h.sh, fun k i s hs hd => by
    have := h.pl k i s hs hd
    simp only
    omega⟩
  have h2 := inv_foldO hb kd l 0 _ Dn (fun j d hj => ⟨by rw [Nat.zero_add]; exact hj, hl d (List.mem_of_getElem? hj)⟩) (by omega) h1
  refine h2.weak fun k' i' s' _ hd => ?_
  rcases hd with hd | hd
  · exact .inl hd
  · exact .inr ⟨Nat.zero_le _, hd⟩
theorem shq_zero (l : List OD) : Shq l (zeroP l) := by
  intro k i s hs
  unfold sec at hs
  unfold zeroP
  cases hk : l[k]? with
  | none =>
    rw [hk] at hs
    cases hs
  | some d =>
    rw [hk] at hs
    obtain ⟨h1, h2⟩ := List.getElem?_eq_some_iff.1 hk
    obtain ⟨h3, _⟩ := List.getElem?_eq_some_iff.1 (show d.ss[i]? = some s from hs)
    refine ⟨by rw [List.length_map]; exact h1, ?_⟩
    rw [List.getElem_map, List.length_replicate, h2]
    exact h3
theorem foldS_le (kd : Int) (k : Nat) : ∀ (ss : List SD) (i : Nat) (st : St), (∀ s ∈ ss, Okk s) → 0 ≤ st.1 → 0 ≤ (foldS kd k i ss st).1 ∧ (foldS kd k i ss st).1 ≤ st.1 + 60 * ss.length
  | [], i, st, _, h0 => by simp only [foldS, List.length_nil]; omega
  | s :: ss, i, st, h, h0 => by
    have ho := h s List.mem_cons_self
    have h1 : 0 ≤ (stepS kd k i s st).1 ∧ (stepS kd k i s st).1 ≤ st.1 + 60 := by
      obtain ⟨e1, e2⟩ := al_bd h0 ho.2
      have := ho.1
      unfold stepS
      by_cases hk : s.kd = kd
      · rw [decide_eq_true hk]
        simp only [cond_true]
        omega
      · rw [decide_eq_false hk]
        simp only [cond_false]
        omega
    have ih := foldS_le kd k ss (i + 1) (stepS kd k i s st) (fun t ht => h t (List.mem_cons_of_mem _ ht)) h1.1
    rw [foldS, List.length_cons]
    omega
theorem foldO_le (kd : Int) : ∀ (ds : List OD) (k : Nat) (st : St), (∀ d ∈ ds, d.ss.length ≤ 8 ∧ ∀ s ∈ d.ss, Okk s) → 0 ≤ st.1 → 0 ≤ (foldO kd k ds st).1 ∧ (foldO kd k ds st).1 ≤ st.1 + 480 * ds.length
  | [], k, st, _, h0 => by simp only [foldO, List.length_nil]; omega
  | d :: ds, k, st, h, h0 => by
    have ho := h d List.mem_cons_self
    have h1 := foldS_le kd k d.ss 0 st ho.2 h0
    have ih := foldO_le kd ds (k + 1) (foldS kd k 0 d.ss st) (fun t ht => h t (List.mem_cons_of_mem _ ht)) h1.1
    rw [foldO, List.length_cons]
    have := ho.1
    omega
theorem kind_le (hl : ∀ d ∈ l, d.ss.length ≤ 8 ∧ ∀ s ∈ d.ss, Okk s) (hn : l.length ≤ 4) (kd : Int) {st : St} (h0 : 0 ≤ st.1) : 0 ≤ (kindS l kd st).1 ∧ (kindS l kd st).1 ≤ st.1 + 1927 := by
  obtain ⟨e1, e2⟩ := al_bd h0 (show alignOk 8 = true by decide)
  have h := foldO_le kd l 0 (al st.1 8, st.2) hl (by simp only; omega)
  simp only at h
  unfold kindS
  omega
theorem sec_okk {many : Int} {d : SD} (h : secOk many d = true) : Okk d ∧ 1 ≤ d.kd ∧ d.kd ≤ 3 := by
  rw [secOk, Bool.and_eq_true] at h
  obtain ⟨h1, h2⟩ := h
  simp only [headOk, Bool.and_eq_true, inB, decide_eq_true_eq] at h1
  refine ⟨⟨?_, h1.2⟩, h1.1.2.1, h1.1.2.2⟩
  unfold secSize
  by_cases hk : d.kd = 3
  · rw [if_pos hk] at h2 ⊢
    simp only [blankOk, Bool.and_eq_true, inB, decide_eq_true_eq] at h2
    exact h2.1.1
  · rw [if_neg hk] at h2 ⊢
    simp only [bodyOk, Bool.and_eq_true, decide_eq_true_eq] at h2
    omega
/-- The places of valid objects' sections. -/
theorem lay_bd (ho : objsOk l = true) (hb0 : 0 ≤ b) (hb1 : b ≤ 4096) : b ≤ (PLink.lay l b).1 ∧ (PLink.lay l b).1 ≤ 10000 ∧ Shq l (PLink.lay l b).2 ∧ ∀ k (hk : k < l.length) i (hi : i < (l[k]).ss.length), b ≤ getP (PLink.lay l b).2 k i ∧ getP (PLink.lay l b).2 k i ≤ (PLink.lay l b).1 := by
  simp only [objsOk, Bool.and_eq_true, decide_eq_true_eq, List.all_eq_true] at ho
  have hl : ∀ d ∈ l, d.ss.length ≤ 8 ∧ ∀ s ∈ d.ss, Okk s ∧ 1 ≤ s.kd ∧ s.kd ≤ 3 := fun d hd => by
    obtain ⟨h1, _, h3, _⟩ := (obj_iff d).1 (ho.2 d hd)
    exact ⟨h1, fun s hs => sec_okk (h3 s hs)⟩
  have hl2 : ∀ d ∈ l, d.ss.length ≤ 8 ∧ ∀ s ∈ d.ss, Okk s := fun d hd => ⟨(hl d hd).1, fun s hs => ((hl d hd).2 s hs).1⟩
  have i0 : Inv l b (fun _ _ _ => False) (b, zeroP l) := ⟨Int.le_refl _, shq_zero l, fun _ _ _ _ h => h.elim⟩
  have i3 := inv_kind hb0 (fun d hd => (hl2 d hd).2) 3 (inv_kind hb0 (fun d hd => (hl2 d hd).2) 2 (inv_kind hb0 (fun d hd => (hl2 d hd).2) 1 i0))
  have b1 := kind_le hl2 ho.1 1 (st := (b, zeroP l)) hb0
  have b2 := kind_le hl2 ho.1 2 b1.1
  have b3 := kind_le hl2 ho.1 3 b2.1
  simp only at b1
  refine ⟨i3.lo, by unfold PLink.lay; omega, i3.sh, fun k hk i hi => ?_⟩
  have hkd := ((hl _ (List.getElem_mem hk)).2 _ (List.getElem_mem hi)).2
  refine i3.pl k i _ (sec_at hk hi) ?_
  generalize (l[k]).ss[i] = s at *
  have h : s.kd = 1 ∨ s.kd = 2 ∨ s.kd = 3 := by omega
  rcases h with h | h | h
  · exact .inl (.inl (.inr h))
  · exact .inl (.inr h)
  · exact .inr h
end Go.Proofs.YtepoiphmmjfbdaaGreatDoor.PLayB
/- Contracts of slices.ContainsFunc at []int, and of MachineValid, the program's and the reference's. -/
namespace Go.Proofs.YtepoiphmmjfbdaaGreatDoor.CMachine
set_option maxRecDepth 200000
open Go.ChangeShapes Go.WideShapes Go.ChangeAt Go.RowKit Kit CCode
end Go.Proofs.YtepoiphmmjfbdaaGreatDoor.CMachine
/- Contracts of PutCode and GetCode, the program's and the reference's. -/
namespace Go.Proofs.YtepoiphmmjfbdaaGreatDoor.CPutCode
set_option maxRecDepth 200000
open Go.ChangeShapes Go.WideShapes Go.ChangeAt Go.RowKit Kit CCode CNumber
end Go.Proofs.YtepoiphmmjfbdaaGreatDoor.CPutCode
/- What comes in: rows of cells that read as the laws' structs. -/
namespace Go.Proofs.YtepoiphmmjfbdaaGreatDoor.In
set_option maxRecDepth 200000
open Go.ChangeShapes Go.WideShapes Go.ChangeAt Go.RowKit Kit
end Go.Proofs.YtepoiphmmjfbdaaGreatDoor.In
/- Contracts of the laws' helpers on Machine: the copy, the comparison of equal data, the size. -/
namespace Go.Proofs.YtepoiphmmjfbdaaGreatDoor.CMachines
set_option maxRecDepth 200000
open Go.ChangeShapes Go.WideShapes Go.ChangeAt Go.RowKit Kit CInts
end Go.Proofs.YtepoiphmmjfbdaaGreatDoor.CMachines
/- Contracts of slices.Clone at []int and of the copy of a machine, the program's and the reference's. -/
namespace Go.Proofs.YtepoiphmmjfbdaaGreatDoor.CStep
set_option maxRecDepth 200000
open Go.ChangeShapes Go.WideShapes Go.ChangeAt Go.RowKit Kit CCode CMachine CMachines CInts CPutCode
/-- Two own rows that share nothing. -/
def Own2 (w : World) (base : Nat) (S : Option Addr) (cs : Nat) (st : List Int) (C : Option Addr) (cc : Nat) (ca : List Int) : Prop :=
  w.ownsRow base 3 1 (.slice S st.length cs) st.length (ints .i64 st) ∧ w.ownsRow base 3 1 (.slice C ca.length cc) ca.length (ints .i64 ca) ∧ ∀ k, (Value.slice S st.length cs).ownBlock = some k → (Value.slice C ca.length cc).ownBlock ≠ some k
section
variable {w w' : World} {base : Nat} {S C : Option Addr} {cs cc : Nat} {st ca : List Int}
theorem Own2.call (h : Own2 w base S cs st C cc ca) (hb : Below w.heap.size w w') : Own2 w' base S cs st C cc ca := ⟨own_call hb h.1, own_call hb h.2.1, h.2.2⟩
theorem Own2.down (h : Own2 w base S cs st C cc ca) {b : Nat} (hb : b ≤ base) : Own2 w b S cs st C cc ca := ⟨own_base h.1 hb, own_base h.2.1 hb, h.2.2⟩
theorem Own2.rd (h : Own2 w base S cs st C cc ca) : Rd w w.heap.size S (ints .i64 st) ∧ Rd w w.heap.size C (ints .i64 ca) := ⟨Rd.of_own h.1, Rd.of_own h.2.1⟩
theorem Own2.nil (w : World) (base : Nat) : Own2 w base none 0 [] none 0 [] := ⟨World.ownsRow_nil _ _ _ _, World.ownsRow_nil _ _ _ _, fun k hk => by cases hk⟩
end
theorem three {w w' : World} {a : Nat} {u0 u1 u2 : Value} (hb : Below w.heap.size w w') (ha : a < w.heap.size) (h : w.cell? ⟨a, 0, none⟩ = some u0 ∧ w.cell? ⟨a, 1, none⟩ = some u1 ∧ w.cell? ⟨a, 2, none⟩ = some u2) :
    w'.cell? ⟨a, 0, none⟩ = some u0 ∧ w'.cell? ⟨a, 1, none⟩ = some u1 ∧ w'.cell? ⟨a, 2, none⟩ = some u2 :=
  ⟨(hb.cell ha).trans h.1, (hb.cell ha).trans h.2.1, (hb.cell ha).trans h.2.2⟩
end Go.Proofs.YtepoiphmmjfbdaaGreatDoor.CStep
/- Contracts of the marks that the laws lay into rows of ints and into machines. -/
namespace Go.Proofs.YtepoiphmmjfbdaaGreatDoor.CMark
set_option maxRecDepth 200000
open Go.ChangeShapes Go.WideShapes Go.ChangeAt Go.RowKit Kit CMachines CInts CStep
end Go.Proofs.YtepoiphmmjfbdaaGreatDoor.CMark
/- Link: the image of objects. -/
namespace Go.Proofs.YtepoiphmmjfbdaaGreatDoor.CLink
set_option maxRecDepth 200000
open Go.ChangeShapes Go.WideShapes Go.ChangeAt Go.RowKit Kit CCode CName CNumber CFixups CSymbols PObj BObj PValid PWarn PClear CSecValid CObjValid BStore CMarkRows BList PLink PLinkL PLayB CValids CFind CSorted CNames CMiss CLayout CPlaceL CSymPl CApFix BCopy
/-- The place behind all sections. -/
theorem end_any (PA : Option Addr) (pn pc : Nat) (EA : Option Addr) (es : List RV) (ec : Nat) (x z : Int) (w : World) (hE : RdRs w w.heap.size EA es) (hl : es.length = 3) (hz : (es.map RV.zs).getD 2 [] = [x, z]) :
    Calls Tryz.prog 55 #[.agg #[.slice PA pn pc, .slice EA es.length ec]] w (Ret (.int .i64 z) w) := by
  rw [hl]
  have HB := hide (show Below w.heap.size w (w.alloc (.cells #[.slice PA pn pc, .slice EA 3 ec] 84)) from (by repeat (first | exact Below.refl _ _ | with_reducible assumption | (refine Below.drew ?_) | (refine Below.drewN ?_ _) | (refine Below.alloc ?_ (by simp; try omega) _) | (refine Below.setCell ?_ (by simp; try omega) _))))
  have HX := hide (Box.new w 84 #[.slice PA pn pc, .slice EA 3 ec])
  have h2 : 2 < es.length := by omega
  have hzs : (es[2]).zs = [x, z] := by
    rw [List.getD_eq_getElem?_getD, List.getElem?_map, List.getElem?_eq_getElem h2] at hz
    exact hz
  obtain ⟨b1, o1, rfl, hb1, hrow⟩ := (hE.below HB.out).at h2
  obtain ⟨b2, o2, hA, hb2, hcell⟩ := ((hE.below HB.out).2 _ (List.getElem_mem h2)).int (i := 1) (by rw [hzs]; simp)
  rw [hA] at hrow
  simp only [hzs, List.length_cons, List.length_nil, List.getElem_cons_succ, List.getElem_cons_zero] at hcell hrow
  have x1 := HX.out.cell 1
  simp only [List.getElem?_toArray, List.getElem?_cons_zero, List.getElem?_cons_succ] at x1
  have hxl := HX.out.lt
  generalize (es[2]).c = c2 at *
  clear hz hzs hA hE h2
  go_enter Tryz.func55, Tryz.ntmps55
  go_wp2_with fail
  go_ret
  exact ⟨rfl, HB.out⟩
theorem all_pl {os : List OV} {rs : List RV} {b : Int} (ho : objsOk (os.map OV.d) = true) (hb0 : 0 ≤ b) (hb1 : b ≤ 4096) (hrs : rs.map RV.zs = (PLink.lay (os.map OV.d) b).2) : AllPl rs os := by
  intro k hk j hj
  obtain ⟨q1, q2, q3, q4⟩ := lay_bd ho hb0 hb1
  rw [← hrs] at q3
  simp only [objsOk, Bool.and_eq_true, decide_eq_true_eq, List.all_eq_true] at ho
  obtain ⟨_, _, h3, h4, _⟩ := (obj_iff _).1 (ho.2 _ (List.mem_map_of_mem (List.getElem_mem hk)))
  have hy := h4 _ (show (os[k]).ys[j] ∈ (os[k]).d.ys from List.getElem_mem hj)
  obtain ⟨_, s2⟩ := sym_facts hy
  refine ⟨s2, fun hn => ?_⟩
  have hkl : k < (os.map OV.d).length := by simpa using hk
  have hP := hy
  simp only [symOk, Bool.and_eq_true] at hP
  have hP := hP.2
  unfold placeOk at hP
  rw [if_neg hn] at hP
  generalize (os[k]).ys[j] = y at *
  by_cases h2 : y.2.2.1 = -2
  · rw [if_pos h2] at hP
    have : 0 ≤ y.2.2.2 ∧ y.2.2.2 ≤ 60000 := by simpa [inB] using hP
    exact ⟨.inl h2, this.1, this.2⟩
  · rw [if_neg h2] at hP
    simp only [Bool.and_eq_true, inB, decide_eq_true_eq] at hP
    obtain ⟨⟨w1, w2⟩, v1, v2⟩ := hP
    have hil : y.2.2.1.toNat < (os[k]).d.ss.length := by omega
    have hsz := (sec_okk (h3 _ (List.getElem_mem hil))).1.1
    have hge : (os[k]).d.ss.getD y.2.2.1.toNat ⟨ByteArray.empty, 0, 0, [], 0, []⟩ = (os[k]).d.ss[y.2.2.1.toNat] := by
      rw [List.getD_eq_getElem?_getD, List.getElem?_eq_getElem hil]
      rfl
    rw [hge] at v2
    have hle : ((os.map OV.d)[k]).ss = (os[k]).d.ss := by simp
    have hil2 : y.2.2.1.toNat < ((os.map OV.d)[k]).ss.length := by rw [hle]; exact hil
    have hsec := sec_at hkl hil2
    obtain ⟨p1, p2⟩ := q3 _ _ _ hsec
    have hpl := q4 k hkl _ hil2
    rw [← hrs] at hpl
    simp only [List.length_map, List.getElem_map] at p1 p2
    rw [getP_at p1 p2] at hpl
    exact ⟨.inr ⟨w1, p1, p2, by omega, by omega⟩, v1, by omega⟩
/-- An image and a fault handed back. -/
def RetL (r : RD) (w : World) (e : Ending) (w' : World) : Prop := ∃ A c, e = .returned (.tuple #[.agg #[.int .i64 r.1, .slice A r.2.1.length c], .int .i64 r.2.2]) ∧ Row w' w.heap.size 5 1 A r.2.1.length c (ints .u8 r.2.1) ∧ Below w.heap.size w w'
theorem ret_bad {w w' : World} (code : Int) (h : Below w.heap.size w w') : RetL (0, [], code) w (.returned (.tuple #[.agg #[.int .i64 0, .slice none 0 0], .int .i64 code])) w' := ⟨none, 0, rfl, Row.empty _ _ _ _ _, h⟩
theorem ap_len {b b2 : List Int} {place : Int} {f : FD} {t : Int} (h : apF b place f t = some b2) : b2.length = b.length := by
  unfold apF at h
  split at h
  · rename_i hc
    cases hv : fixVal f.2.1 (place + f.1) t f.2.2.2 with
    | none => rw [hv] at h; cases h
    | some v =>
      rw [hv] at h
      injection h with h
      subst h
      have h1 : 0 ≤ f.1 ∧ f.1 ≤ (b.length : Int) - wide f.2.1 := by simpa [inB] using hc.2.2
      have hw := wide_bd f.2.1
      exact sp_len (by rw [putL_len]; omega)
  · cases h
/-- What stands while the image is filled. -/
structure LK (w0 : World) (L : Nat) (PA : Option Addr) (pc : Nat) (rs : List RV) (EA : Option Addr) (en ec : Nat) (I g N : Nat) (base : Int) (im : List Int) (w : World) : Prop where
  row : w.ownsRow w0.heap.size 5 1 (.slice (some ⟨g, 0, none⟩) N N) N (ints .u8 im)
  len : im.length = N
  bi : Box w I 36 #[.int .i64 base, .slice (some ⟨g, 0, none⟩) N N]
  bl : Box w L 84 #[.slice PA rs.length pc, .slice EA en ec]
  br : Box w w0.heap.size 36 #[.int .i64 0, .slice none 0 0]
  hp : RdRs w L PA rs
  b : Below w0.heap.size w0 w
section
variable {w0 w w' : World} {L : Nat} {PA : Option Addr} {pc : Nat} {rs : List RV} {EA : Option Addr} {en ec : Nat} {I g N : Nat} {base : Int} {im : List Int}
theorem LK.call (h : LK w0 L PA pc rs EA en ec I g N base im w) (hb : Below w.heap.size w w') : LK w0 L PA pc rs EA en ec I g N base im w' :=
  ⟨own_call hb h.row, h.len, h.bi.call hb, h.bl.call hb, h.br.call hb, h.hp.below (hb.mono (Nat.le_of_lt h.bl.lt)), h.b.trans (hb.mono h.b.size)⟩
/-- Bytes are copied into the image. -/
theorem LK.put (h : LK w0 L PA pc rs EA en ec I g N base im w) (hgL : L < g) : ∃ cur : List Value, w.heap[g]? = some (.cells cur.toArray 5 (0, 0)) ∧ N ≤ cur.length ∧ ∀ (i : Nat) (zs : List Int), i + zs.length ≤ N →
    LK w0 L PA pc rs EA en ec I g N base (sp im i zs) (w.setRow g (Go.splice cur i (ints .u8 zs)).toArray) := by
  obtain ⟨cur, hg, hgb, hn, hf⟩ := copied h.row
  refine ⟨cur, hg, hn, fun i zs hi => ⟨hf i zs hi, by rw [sp_len (by rw [h.len]; exact hi)]; exact h.len, box_setRow h.bi hg (by decide) _, box_setRow h.bl hg (by decide) _, box_setRow h.br hg (by decide) _, ?_, Go.below_setRow h.b hgb _⟩⟩
  exact h.hp.below (Go.below_setRow (Below.refl L w) (Nat.le_of_lt hgL) _)
end
set_option maxHeartbeats 8000000 in
theorem link_any (A : Option Addr) (os : List OV) (c : Nat) (base : Int) (w : World) (hr : RdOs w w.heap.size A os) (hf : Fits os) (hn : ∀ o ∈ os, ∀ p ∈ o.ps, p.A = none → p.c = 0) :
    Calls Tryz.prog 14 #[.slice A os.length c, .int .i64 base] w (RetL (linkR (os.map OV.d) base) w) := by
  obtain ⟨i0, hi1, hi2, hi3, hi4⟩ := info_parts CNumber.info8
  have HI := hide (And.intro hi1 (And.intro hi2 (And.intro hi3 hi4)))
  clear hi1 hi2 hi3 hi4
  have HR := hide hr
  have HF := hide hf
  have HN := hide hn
  clear hr hf hn
  have HB := hide (show Below w.heap.size w (w.alloc (.cells #[.int .i64 0, .slice none 0 0] 36)) from (by repeat (first | exact Below.refl _ _ | with_reducible assumption | (refine Below.drew ?_) | (refine Below.drewN ?_ _) | (refine Below.alloc ?_ (by simp; try omega) _) | (refine Below.setCell ?_ (by simp; try omega) _))))
  have HRR := hide (Box.new w 36 #[.int .i64 0, .slice none 0 0])
  go_enter Tryz.func14, Tryz.ntmps14
  go_wp2_with fail
  generalize w.alloc (.cells #[.int .i64 0, .slice none 0 0] 36) = w0 at *
  refine (layoutOf_any A os c base w0 ((HR.out.below HB.out).more HB.out.size) HF.out).mono ?_
  rintro e w1 ⟨PA, pc, rs, EA, ec, es, rfl, hyes, hP, hE, b1⟩
  have HYES := hide hyes
  have HP := hide hP
  have HE := hide hE
  clear hyes hP hE
  replace HB := hide (HB.out.trans (b1.mono HB.out.size))
  replace HRR := hide (HRR.out.call b1)
  clear b1
  cases hok : (objsOk (os.map OV.d) && baseOk base)
  · have HV := hide (show linkR (os.map OV.d) base = (0, [], -1) from if_pos hok)
    clear hok
    have ba : Below w1.heap.size w1 (w1.alloc (.cells #[.slice PA rs.length pc, .slice EA es.length ec] 84)) := (by repeat (first | exact Below.refl _ _ | with_reducible assumption | (refine Below.drew ?_) | (refine Below.drewN ?_ _) | (refine Below.alloc ?_ (by simp; try omega) _) | (refine Below.setCell ?_ (by simp; try omega) _)))
    replace HB := hide (HB.out.trans (ba.mono HB.out.size))
    replace HRR := hide (HRR.out.call ba)
    clear ba
    have y0 := HRR.out.cell 0
    have y1 := HRR.out.cell 1
    simp only [List.getElem?_toArray, List.getElem?_cons_zero, List.getElem?_cons_succ] at y0 y1
    have yf0 := HRR.out.frozen 0
    have yf1 := HRR.out.frozen 1
    have hrl := HRR.out.lt
    have kk := (HRR.out.set 0 (.int .i64 0)).set 1 (.slice none 0 0)
    have k0 := kk.cell 0
    have k1 := kk.cell 1
    simp only [List.setIfInBounds_toArray, List.set_cons_zero, List.set_cons_succ, List.getElem?_toArray, List.getElem?_cons_zero, List.getElem?_cons_succ] at k0 k1
    clear kk
    have HFB := hide (two_below (Y := w.heap.size) HB.out (Nat.le_refl _) (.int .i64 0) (.slice none 0 0))
    go_wp2_with fail
    (try simp only [Exit.inBlock, Exit.then])
    exact bodyPost_ret (v := .tuple #[.agg #[.int .i64 0, .slice none 0 0], .int .i64 (-1)]) (by simp [results, Tryz.results14, go_sem, k0, k1]) rfl (by rw [HV.out]; exact ret_bad _ HFB.out)
  obtain ⟨hrz, hel, xx, hend⟩ := HYES.out hok
  clear HYES
  have hok' := hok
  rw [Bool.and_eq_true] at hok'
  obtain ⟨ho, hbs⟩ := hok'
  have hb0 : 0 ≤ base ∧ base ≤ 4096 := by
    simp only [baseOk, Bool.and_eq_true, decide_eq_true_eq] at hbs
    exact hbs.1
  obtain ⟨hb1, hb2⟩ := hb0
  have HPL := hide (all_pl ho hb1 hb2 hrz)
  have HEN := hide (And.intro hel hend)
  have HRZ := hide hrz
  clear hel hend
  obtain ⟨g1, g2, g3, g4⟩ := lay_bd ho hb1 hb2
  have HLB := hide (And.intro g3 g4)
  clear g3 g4
  have HSM := hide (show Small os from by
    simp only [objsOk, Bool.and_eq_true, decide_eq_true_eq, List.all_eq_true, List.length_map] at ho
    refine ⟨ho.1, fun o h => ?_⟩
    obtain ⟨_, h2, _⟩ := (obj_iff _).1 (ho.2 _ (List.mem_map_of_mem h))
    exact h2)
  have HAL := hide (show ∀ o ∈ os, o.ps.length ≤ 8 ∧ ∀ p ∈ o.ps, p.fs.length ≤ 6 ∧ p.zs.length ≤ 48 ∧ ∀ f ∈ p.fs, 0 ≤ f.2.2.1 ∧ f.2.2.1 < o.ys.length from fun o h => by
    simp only [objsOk, Bool.and_eq_true, decide_eq_true_eq, List.all_eq_true, List.length_map] at ho
    obtain ⟨a1, _, a3⟩ := obj_all (ho.2 _ (List.mem_map_of_mem h))
    refine ⟨by simpa [OV.d] using a1, fun p hp => ?_⟩
    obtain ⟨c1, c2, c3⟩ := a3 p.d (List.mem_map_of_mem hp)
    exact ⟨c1, c2, fun f hf => (c3 f hf).2⟩)
  have HLR := hide (show linkR (os.map OV.d) base = if 0 < (twice (os.map OV.d)).length then (0, [], 1) else if 0 < (miss (os.map OV.d)).length then (0, [], 2) else imgR base (image (os.map OV.d) base) from by
    unfold linkR
    rw [if_neg (by rw [hok]; decide)])
  clear hok ho hbs
  have ba : Below w1.heap.size w1 (w1.alloc (.cells #[.slice PA rs.length pc, .slice EA es.length ec] 84)) := (by repeat (first | exact Below.refl _ _ | with_reducible assumption | (refine Below.drew ?_) | (refine Below.drewN ?_ _) | (refine Below.alloc ?_ (by simp; try omega) _) | (refine Below.setCell ?_ (by simp; try omega) _)))
  have HL := hide (Box.new w1 84 #[.slice PA rs.length pc, .slice EA es.length ec])
  replace HP := hide (HP.out.below ba)
  replace HE := hide (HE.out.below ba)
  have hRL : w.heap.size < w1.heap.size := HRR.out.lt
  replace HB := hide (HB.out.trans (ba.mono HB.out.size))
  replace HRR := hide (HRR.out.call ba)
  clear ba
  go_wp2_with fail
  generalize w1.alloc (.cells #[.slice PA rs.length pc, .slice EA es.length ec] 84) = w2 at *
  generalize w1.heap.size = L at *
  refine (namesTwice_any A os c w2 ((HR.out.below HB.out).more HB.out.size) HSM.out).mono ?_
  rintro e w3 ⟨A3, c3, rfl, _, b3⟩
  have hLw : L < w2.heap.size := HL.out.lt
  have HTW := hide (srtN_pos (twice (os.map OV.d)))
  replace HP := hide (HP.out.below (b3.mono (Nat.le_of_lt hLw)))
  replace HE := hide (HE.out.below (b3.mono (Nat.le_of_lt hLw)))
  replace HB := hide (HB.out.trans (b3.mono HB.out.size))
  replace HRR := hide (HRR.out.call b3)
  replace HL := hide (HL.out.call b3)
  clear b3
  clear hLw
  by_cases ht : 0 < (twice (os.map OV.d)).length
  · have HV := hide (show linkR (os.map OV.d) base = (0, [], 1) from by rw [HLR.out, if_pos ht])
    have et : decide (0 < (srtN (twice (os.map OV.d))).length) = true := decide_eq_true (HTW.out.2 ht)
    generalize (srtN (twice (os.map OV.d))).length = tn at *
    clear ht
    have y0 := HRR.out.cell 0
    have y1 := HRR.out.cell 1
    simp only [List.getElem?_toArray, List.getElem?_cons_zero, List.getElem?_cons_succ] at y0 y1
    have yf0 := HRR.out.frozen 0
    have yf1 := HRR.out.frozen 1
    have hrl := HRR.out.lt
    have kk := (HRR.out.set 0 (.int .i64 0)).set 1 (.slice none 0 0)
    have k0 := kk.cell 0
    have k1 := kk.cell 1
    simp only [List.setIfInBounds_toArray, List.set_cons_zero, List.set_cons_succ, List.getElem?_toArray, List.getElem?_cons_zero, List.getElem?_cons_succ] at k0 k1
    clear kk
    have HFB := hide (two_below (Y := w.heap.size) HB.out (Nat.le_refl _) (.int .i64 0) (.slice none 0 0))
    go_wp2_with fail
    (try simp only [Exit.inBlock, Exit.then])
    exact bodyPost_ret (v := .tuple #[.agg #[.int .i64 0, .slice none 0 0], .int .i64 1]) (by simp [results, Tryz.results14, go_sem, k0, k1]) rfl (by rw [HV.out]; exact ret_bad _ HFB.out)
  have et : decide (0 < (srtN (twice (os.map OV.d))).length) = false := decide_eq_false (fun h => ht (HTW.out.1 h))
  rw [if_neg ht] at HLR
  clear ht HTW
  generalize (srtN (twice (os.map OV.d))).length = tn at *
  go_wp2_with fail
  clear et
  refine (namesMissing_any A os c w3 ((HR.out.below HB.out).more HB.out.size) HSM.out).mono ?_
  rintro e w4 ⟨A4, c4, rfl, _, b4⟩
  have hLw : L < w3.heap.size := HL.out.lt
  have HMI := hide (srtN_pos (miss (os.map OV.d)))
  replace HP := hide (HP.out.below (b4.mono (Nat.le_of_lt hLw)))
  replace HE := hide (HE.out.below (b4.mono (Nat.le_of_lt hLw)))
  replace HB := hide (HB.out.trans (b4.mono HB.out.size))
  replace HRR := hide (HRR.out.call b4)
  replace HL := hide (HL.out.call b4)
  clear b4
  clear hLw
  by_cases ht : 0 < (miss (os.map OV.d)).length
  · have HV := hide (show linkR (os.map OV.d) base = (0, [], 2) from by rw [HLR.out, if_pos ht])
    have et : decide (0 < (srtN (miss (os.map OV.d))).length) = true := decide_eq_true (HMI.out.2 ht)
    generalize (srtN (miss (os.map OV.d))).length = mn at *
    clear ht
    have y0 := HRR.out.cell 0
    have y1 := HRR.out.cell 1
    simp only [List.getElem?_toArray, List.getElem?_cons_zero, List.getElem?_cons_succ] at y0 y1
    have yf0 := HRR.out.frozen 0
    have yf1 := HRR.out.frozen 1
    have hrl := HRR.out.lt
    have kk := (HRR.out.set 0 (.int .i64 0)).set 1 (.slice none 0 0)
    have k0 := kk.cell 0
    have k1 := kk.cell 1
    simp only [List.setIfInBounds_toArray, List.set_cons_zero, List.set_cons_succ, List.getElem?_toArray, List.getElem?_cons_zero, List.getElem?_cons_succ] at k0 k1
    clear kk
    have HFB := hide (two_below (Y := w.heap.size) HB.out (Nat.le_refl _) (.int .i64 0) (.slice none 0 0))
    go_wp2_with fail
    (try simp only [Exit.inBlock, Exit.then])
    exact bodyPost_ret (v := .tuple #[.agg #[.int .i64 0, .slice none 0 0], .int .i64 2]) (by simp [results, Tryz.results14, go_sem, k0, k1]) rfl (by rw [HV.out]; exact ret_bad _ HFB.out)
  have et : decide (0 < (srtN (miss (os.map OV.d))).length) = false := decide_eq_false (fun h => ht (HMI.out.1 h))
  rw [if_neg ht] at HLR
  clear ht HMI
  generalize (srtN (miss (os.map OV.d))).length = mn at *
  have y0 := HL.out.cell 0
  have y1 := HL.out.cell 1
  simp only [List.getElem?_toArray, List.getElem?_cons_zero, List.getElem?_cons_succ] at y0 y1
  have hll := HL.out.lt
  go_wp2_with fail
  clear et y0 y1 hll
  have hLw : L < w4.heap.size := HL.out.lt
  obtain ⟨N, hN⟩ : ∃ N : Nat, (PLink.lay (os.map OV.d) base).1 = base + N := ⟨((PLink.lay (os.map OV.d) base).1 - base).toNat, by omega⟩
  have HNN := hide hN
  have hN2 : N ≤ 10000 := by omega
  refine (end_any PA rs.length pc EA es ec xx (base + N) w4 (HE.out.more (Nat.le_of_lt hLw)) HEN.out.1 (by rw [← HNN.out]; exact HEN.out.2)).mono ?_
  rintro e w5 ⟨rfl, b5⟩
  replace HP := hide (HP.out.below (b5.mono (Nat.le_of_lt hLw)))
  replace HB := hide (HB.out.trans (b5.mono HB.out.size))
  replace HRR := hide (HRR.out.call b5)
  replace HL := hide (HL.out.call b5)
  clear b5
  clear HE hLw
  have HLI := hide (show ∀ k i, (hk : k < os.length) → (hi : i < (os[k]).ps.length) → ∃ h : k < rs.length, ∃ h2 : i < (rs[k]).zs.length, base ≤ (rs[k]).zs[i] ∧ (rs[k]).zs[i] ≤ base + N from fun k i hk hi => by
    have hkl : k < (os.map OV.d).length := by simpa using hk
    have hil : i < ((os.map OV.d)[k]).ss.length := by simpa [OV.d] using hi
    have hpl := HLB.out.2 k hkl i hil
    have h3 := HLB.out.1
    rw [← HRZ.out] at h3 hpl
    obtain ⟨p1, p2⟩ := h3 _ _ _ (sec_at hkl hil)
    simp only [List.length_map, List.getElem_map] at p1 p2
    rw [getP_at p1 p2, HNN.out] at hpl
    exact ⟨p1, p2, hpl⟩)
  have HT0 := hide (show image (os.map OV.d) base = imO (os.map OV.d) (rs.map RV.zs) base 0 ((os.map OV.d).drop 0) (some (List.replicate N 0)) from by
    unfold image
    rw [HNN.out, HRZ.out, show (base + (N : Int) - base).toNat = N by omega]
    rfl)
  clear HLB hN HRZ HEN g1 g2 HNN hrz
  have hwr : IntKind.i64.wrap (base + N - base) = (N : Int) := by rw [IntKind.wrap_i64]; omega
  have y0 := HL.out.cell 0
  have y1 := HL.out.cell 1
  simp only [List.getElem?_toArray, List.getElem?_cons_zero, List.getElem?_cons_succ] at y0 y1
  have hll := HL.out.lt
  go_wp2_with (at_make; refine wpList_make_full _ rfl _ _ _ rfl w.heap.size 5 i0 (.int .u8 0) 1 Tryz.underlying22 HI.out.1 HI.out.2.1 HI.out.2.2.1 .i64 .i64 _ _ N rfl rfl rfl rfl ?c1 ?c2 ?c3 ?_)
  case c1 => rw [HI.out.2.2.2]; omega
  case c2 => unfold maxLen; omega
  case c3 => exact HB.out.size
  intro w6 hown hg
  rw [zero_cells'] at hown
  have b6 : Below w5.heap.size w5 w6 := below_grown (Below.refl _ _) hg (Nat.le_refl _) (fun k hk => by cases hk)
  have hLg : L < w5.heap.size := HL.out.lt
  have HOW := hide hown
  replace HP := hide (HP.out.below (b6.mono (Nat.le_of_lt hLg)))
  replace HB := hide (HB.out.trans (b6.mono HB.out.size))
  replace HRR := hide (HRR.out.call b6)
  replace HL := hide (HL.out.call b6)
  clear b6
  clear hown hg y0 y1 hll
  generalize w5.heap.size = g at *
  have hLgg := hide hLg
  go_wp2_with fail
  have b7 : Below w6.heap.size w6 (w6.alloc (.cells #[.int .i64 base, .slice (some ⟨g, 0, none⟩) N N] 36)) := (by repeat (first | exact Below.refl _ _ | with_reducible assumption | (refine Below.drew ?_) | (refine Below.drewN ?_ _) | (refine Below.alloc ?_ (by simp; try omega) _) | (refine Below.setCell ?_ (by simp; try omega) _)))
  have HK := hide (show LK w L PA pc rs EA es.length ec w6.heap.size g N base (List.replicate N 0) (w6.alloc (.cells #[.int .i64 base, .slice (some ⟨g, 0, none⟩) N N] 36)) from ⟨own_call b7 HOW.out, by simp, Box.new _ _ _, HL.out.call b7, HRR.out.call b7, HP.out.below (b7.mono (Nat.le_of_lt HL.out.lt)), HB.out.trans (b7.mono HB.out.size)⟩)
  clear HOW HL HRR HP HB hwr b7
  generalize w6.alloc (.cells #[.int .i64 base, .slice (some ⟨g, 0, none⟩) N N] 36) = w7 at *
  generalize w6.heap.size = I at *
  generalize es.length = en at *
  generalize hTT : image (os.map OV.d) base = T at *
  generalize hLL : os.map OV.d = l at *
  have HLL := hide hLL
  clear hLL hTT
  have hos4 : os.length ≤ 4 := HSM.out.1
  go_loopw [52] (fun i wi => ∃ (k : Nat) (im : List Int), k ≤ os.length ∧ i = .int .i64 k ∧ T = imO l (rs.map RV.zs) base k (l.drop k) (some im) ∧ LK w L PA pc rs EA en ec I g N base im wi) (fun i _ => os.length - (intOf i).toNat)
  case atStart => exact ⟨0, _, Nat.zero_le _, rfl, HT0.out, HK.out⟩
  case round =>
    clear HK HT0
    obtain ⟨k, im, hk, rfl, ht, hlk⟩ := hrel
    have HK := hide hlk
    by_cases hlt : k < os.length
    · obtain ⟨bb, off, hA, hbb, hc0, hc1⟩ := (HR.out.below hlk.b).at hlt
      have hll : k < l.length := by rw [← HLL.out, List.length_map]; exact hlt
      obtain ⟨Gf, hGf⟩ : ∃ Gf : Option (List Int) → Option (List Int), Gf = fun x => imO l (rs.map RV.zs) base (k + 1) (l.drop (k + 1)) x := ⟨_, rfl⟩
      have HGN := hide (show Gf none = none from by rw [hGf]; exact imO_none _ _ _ _ _)
      have HT := hide (show T = Gf (imS l (rs.map RV.zs) base k 0 ((os[k]).ps.map SV.d) (some im)) from by
        rw [ht, imO_drop hll, hGf]
        have := HLL.out
        subst this
        simp [OV.d])
      have HGF := hide hGf
      have HAO := hide (HAL.out _ (List.getElem_mem hlt))
      have hps8 : (os[k]).ps.length ≤ 8 := HAO.out.1
      have HIO := hide (fun i (hi : i < (os[k]).ps.length) => HLI.out k i hlt hi)
      have HSY := hide (fun (W : World) (hb : Below w.heap.size w W) (hw : RdRs W W.heap.size PA rs) (j : Nat) (hj : j < (os[k]).ys.length) => symbolPlace_any PA rs pc EA en ec A os c k j W hw ((HR.out.below hb).more hb.size) hlt hj ⟨by have := HSM.out.1; omega, fun o ho => by have := HSM.out.2 o ho; omega⟩ HPL.out)
      have HRO := hide (HR.out.2 _ (List.getElem_mem hlt)).1
      have HNO := hide (HN.out _ (List.getElem_mem hlt))
      clear hlk ht hGf
      rw [HLL.out] at HSY
      subst hA
      generalize os[k] = o at *
      go_wp2_with fail
      have B1 : Below wr.heap.size wr (wr.alloc (.cells #[.slice o.A o.ps.length o.c, .slice o.Y o.ys.length o.yc] 26)) := (by repeat (first | exact Below.refl _ _ | with_reducible assumption | (refine Below.drew ?_) | (refine Below.drewN ?_ _) | (refine Below.alloc ?_ (by simp; try omega) _) | (refine Below.setCell ?_ (by simp; try omega) _)))
      have HO := hide (Box.new wr 26 #[.slice o.A o.ps.length o.c, .slice o.Y o.ys.length o.yc])
      replace HK := hide (HK.out.call B1)
      clear B1
      generalize wr.alloc (.cells #[.slice o.A o.ps.length o.c, .slice o.Y o.ys.length o.yc] 26) = wa at *
      generalize wr.heap.size = Z at *
      clear hc0 hc1
      have y0 := HO.out.cell 0
      simp only [List.getElem?_toArray, List.getElem?_cons_zero, List.getElem?_cons_succ] at y0
      have hol := HO.out.lt
      go_wp2_with fail
      clear y0 hol HO
      go_loopw [60] (fun i wi => ∃ (m : Nat) (im : List Int), m ≤ o.ps.length ∧ i = .int .i64 m ∧ T = Gf (imS l (rs.map RV.zs) base k m ((o.ps.map SV.d).drop m) (some im)) ∧ LK w L PA pc rs EA en ec I g N base im wi) (fun i _ => o.ps.length - (intOf i).toNat)
      case atStart => exact ⟨0, im, Nat.zero_le _, rfl, HT.out, HK.out⟩
      case round =>
        clear HK HT
        obtain ⟨m, im, hm, rfl, ht, hlk⟩ := hrel
        have HK := hide hlk
        by_cases hlm : m < o.ps.length
        · obtain ⟨b2, off2, hPA, hb2, hc⟩ := (HRO.out.1.below hlk.b).row secC_len (by decide) hlm
          have hc0 := hc 0 _ rfl
          have hc1 := hc 1 _ rfl
          have hc2 := hc 2 _ rfl
          have hc3 := hc 3 _ rfl
          have hc4 := hc 4 _ rfl
          have hc5 := hc 5 _ rfl
          simp only [Nat.add_zero] at hc0
          obtain ⟨hkr, hmr, hp1, hp2⟩ := HIO.out m hlm
          have HT := hide (show T = Gf (imS l (rs.map RV.zs) base k (m + 1) ((o.ps.map SV.d).drop (m + 1)) ((fill l (rs.map RV.zs) k ((rs[k]).zs[m]) (o.ps[m]).fs (some (o.ps[m]).zs)).map fun b => over im ((rs[k]).zs[m] - base).toNat b)) from by
            rw [ht, imS_drop (by simpa using hlm), List.getElem_map, getP_at hkr hmr, Option.bind_some]
            rfl)
          have HAP := hide (HAO.out.2 _ (List.getElem_mem hlm))
          have HRP := hide (HRO.out.2 _ (List.getElem_mem hlm))
          have HNP := hide (HNO.out _ (List.getElem_mem hlm))
          obtain ⟨pb, po, hPP, hpb, hrow⟩ := hlk.hp.at hkr
          obtain ⟨rb, ro, hRR, hrb, hcell⟩ := (hlk.hp.2 _ (List.getElem_mem hkr)).int hmr
          have l0 := hlk.bl.cell 0
          simp only [List.getElem?_toArray, List.getElem?_cons_zero] at l0
          rw [hPP] at l0
          have HPP := hide hPP
          clear hPP
          rw [hRR] at hrow
          have hLl := hlk.bl.lt
          clear hlk ht hc hRR
          rw [hPA]
          clear hPA
          generalize o.ps[m] = p at *
          generalize hpl : (rs[k]).zs[m] = pl at *
          clear hpl
          generalize (rs[k]).zs.length = rn at *
          generalize (rs[k]).c = rc at *
          have B1 : Below wr.heap.size wr (wr.alloc (.cells #[.string p.nm, .int .i64 p.kd, .int .i64 p.al, .slice p.A p.zs.length p.c, .int .i64 p.sz, .slice p.F p.fs.length p.fc] 61)) := (by repeat (first | exact Below.refl _ _ | with_reducible assumption | (refine Below.drew ?_) | (refine Below.drewN ?_ _) | (refine Below.alloc ?_ (by simp; try omega) _) | (refine Below.setCell ?_ (by simp; try omega) _)))
          have HS := hide (Box.new wr 61 #[.string p.nm, .int .i64 p.kd, .int .i64 p.al, .slice p.A p.zs.length p.c, .int .i64 p.sz, .slice p.F p.fs.length p.fc])
          replace HK := hide (HK.out.call B1)
          replace l0 := (B1.cell (p := ⟨L, 0, none⟩) hLl).trans l0
          replace hrow := (B1.cell (p := ⟨pb, po + k, none⟩) (show pb < wr.heap.size by omega)).trans hrow
          replace hcell := (B1.cell (p := ⟨rb, ro + m, none⟩) (show rb < wr.heap.size by omega)).trans hcell
          clear B1
          go_wp2_with fail
          clear hc0 hc1 hc2 hc3 hc4 hc5
          generalize wr.alloc (.cells #[.string p.nm, .int .i64 p.kd, .int .i64 p.al, .slice p.A p.zs.length p.c, .int .i64 p.sz, .slice p.F p.fs.length p.fc] 61) = ws at *
          generalize wr.heap.size = S at *
          have s3 := HS.out.cell 3
          have s5 := HS.out.cell 5
          simp only [List.getElem?_toArray, List.getElem?_cons_zero, List.getElem?_cons_succ] at s3 s5
          have hsl := HS.out.lt
          have hkr' : k < rs.length := hkr
          go_quiet (fail)
          have bd : Below ws.heap.size ws (ws.drewN nq) := below_dn (Below.refl _ _)
          replace HK := hide (HK.out.call bd)
          replace HS := hide (HS.out.call bd)
          clear bd s3 s5 hsl l0 hrow hcell
          generalize ws.drewN nq = wt at *
          clear nq
          have s5 := HS.out.cell 5
          simp only [List.getElem?_toArray, List.getElem?_cons_zero, List.getElem?_cons_succ] at s5
          have hsl := HS.out.lt
          go_wp2_with fail
          clear s5 hsl
          generalize hF : fill l (rs.map RV.zs) k pl p.fs (some p.zs) = F at *
          have hfl6 : p.fs.length ≤ 6 := HAP.out.1
          have HF0 := hide (show F = fill l (rs.map RV.zs) k pl (p.fs.drop 0) (some p.zs) from hF.symm)
          clear hF
          go_loopw [13, 78] (fun bv i wi => ∃ (q : Nat) (b : List Int) (Ab : Option Addr) (cb : Nat), q ≤ p.fs.length ∧ bv = .slice Ab b.length cb ∧ i = .int .i64 q ∧ F = fill l (rs.map RV.zs) k pl (p.fs.drop q) (some b) ∧ b.length = p.zs.length ∧ Rd wi wi.heap.size Ab (ints .u8 b) ∧ (Ab = none → cb = 0) ∧ Box wi S 61 #[.string p.nm, .int .i64 p.kd, .int .i64 p.al, .slice p.A p.zs.length p.c, .int .i64 p.sz, .slice p.F p.fs.length p.fc] ∧ LK w L PA pc rs EA en ec I g N base im wi) (fun _ i _ => p.fs.length - (intOf i).toNat)
          case atStart => exact ⟨0, p.zs, p.A, p.c, Nat.zero_le _, rfl, rfl, HF0.out, rfl, (HRP.out.1.below HK.out.b).more HK.out.b.size, HNP.out, HS.out, HK.out⟩
          case round =>
            clear HK HS HF0
            obtain ⟨q, b, Ab, cb, hq, rfl, rfl, hfl, hbl, hrd, hnil, hs, hlk⟩ := hrel
            have HK := hide hlk
            have HS := hide hs
            have HRD := hide hrd
            have HBL := hide hbl
            have HNB := hide hnil
            by_cases hlq : q < p.fs.length
            · obtain ⟨b3, off3, hFA, hb3, hd⟩ := (HRP.out.2.below hlk.b).row fixupC_len (by decide) hlq
              have hd0 := hd 0 _ rfl
              have hd1 := hd 1 _ rfl
              have hd2 := hd 2 _ rfl
              have hd3 := hd 3 _ rfl
              simp only [Nat.add_zero] at hd0
              have HFL := hide (show F = fill l (rs.map RV.zs) k pl (p.fs.drop (q + 1)) (apF b pl (p.fs[q]) (symPl l (rs.map RV.zs) k (p.fs[q]).2.2.1.toNat)) from by
                rw [hfl, fill_drop hlq]
                rfl)
              obtain ⟨hf0, hf1⟩ := HAP.out.2.2 _ (List.getElem_mem hlq)
              have hLl := hlk.bl.lt
              clear hlk hs hrd hbl hnil hfl hd
              rw [hFA]
              have HFA := hide hFA
              clear hFA
              generalize p.fs[q] = f at *
              obtain ⟨f1, f2, f3, f4⟩ := f
              simp only at hd0 hd1 hd2 hd3 hf0 hf1 HFL
              obtain ⟨j, rfl⟩ : ∃ j : Nat, f3 = (j : Int) := ⟨f3.toNat, by omega⟩
              have hjl : j < o.ys.length := by omega
              simp only [Int.toNat_natCast] at HFL
              have B1 : Below wr.heap.size wr (wr.alloc (.cells #[.int .i64 f1, .int .i64 f2, .int .i64 j, .int .i64 f4] 65)) := (by repeat (first | exact Below.refl _ _ | with_reducible assumption | (refine Below.drew ?_) | (refine Below.drewN ?_ _) | (refine Below.alloc ?_ (by simp; try omega) _) | (refine Below.setCell ?_ (by simp; try omega) _)))
              have HX := hide (Box.new wr 65 #[.int .i64 f1, .int .i64 f2, .int .i64 j, .int .i64 f4])
              replace HRD := hide ((HRD.out.below B1).more B1.size)
              replace HK := hide (HK.out.call B1)
              replace HS := hide (HS.out.call B1)
              clear B1
              have l0 := HK.out.bl.cell 0
              have l1 := HK.out.bl.cell 1
              simp only [List.getElem?_toArray, List.getElem?_cons_zero, List.getElem?_cons_succ] at l0 l1
              have hLl2 := HK.out.bl.lt
              go_wp2_with fail
              clear hd0 hd1 hd2 hd3 l0 l1 hLl2 hLl
              generalize wr.alloc (.cells #[.int .i64 f1, .int .i64 f2, .int .i64 j, .int .i64 f4] 65) = wx at *
              generalize wr.heap.size = Xf at *
              refine (HSY.out wx HK.out.b (HK.out.hp.more (Nat.le_of_lt HK.out.bl.lt)) j hjl).mono ?_
              rintro e w9 ⟨ok1, rfl, b9⟩
              replace HRD := hide ((HRD.out.below b9).more b9.size)
              replace HK := hide (HK.out.call b9)
              replace HS := hide (HS.out.call b9)
              replace HX := hide (HX.out.call b9)
              clear b9
              generalize symPl l (rs.map RV.zs) k j = tv at *
              have x0 := HX.out.cell 0
              have x1 := HX.out.cell 1
              have x2 := HX.out.cell 2
              have x3 := HX.out.cell 3
              simp only [List.getElem?_toArray, List.getElem?_cons_zero, List.getElem?_cons_succ] at x0 x1 x2 x3
              have hxl := HX.out.lt
              go_wp2_with fail
              clear x0 x1 x2 x3 hxl HX
              refine (applyFixup_any Ab b cb pl (f1, f2, (j : Int), f4) tv w9 HRD.out (by have := HBL.out; have := HAP.out.2.1; omega) HNB.out).mono ?_
              rintro e w10 ⟨A10, c10, n10, rfl, b10, hres⟩
              have HRES := hide hres
              clear hres
              replace HK := hide (HK.out.call b10)
              replace HS := hide (HS.out.call b10)
              have hb10 : w.heap.size ≤ w9.heap.size → True := fun _ => trivial
              generalize hap : apF b pl (f1, f2, (j : Int), f4) tv = r at *
              have HAPF := hide hap
              clear hap b10 hb10 HRD HNB
              cases r with
              | none =>
                have HV := hide (show linkR l base = (0, [], 3) from by
                  rw [HLR.out]
                  have e1 : T = none := by
                    rw [HT.out, HFL.out, fill_none, Option.map_none, imS_none, HGN.out]
                  rw [e1]
                  rfl)
                have y0 := HK.out.br.cell 0
                have y1 := HK.out.br.cell 1
                have yf0 := HK.out.br.frozen 0
                have yf1 := HK.out.br.frozen 1
                have hrl := HK.out.br.lt
                have kk := (HK.out.br.set 0 (.int .i64 0)).set 1 (.slice none 0 0)
                have k0 := kk.cell 0
                have k1 := kk.cell 1
                simp only [List.setIfInBounds_toArray, List.set_cons_zero, List.set_cons_succ, List.getElem?_toArray, List.getElem?_cons_zero, List.getElem?_cons_succ] at k0 k1 y0 y1
                clear kk
                have HFB := hide (two_below (Y := w.heap.size) HK.out.b (Nat.le_refl _) (.int .i64 0) (.slice none 0 0))
                simp only [Option.isSome]
                clear HT HFL
                go_wp2_with fail
                (try simp only [Exit.inBlock, Exit.then])
                exact bodyPost_ret (v := .tuple #[.agg #[.int .i64 0, .slice none 0 0], .int .i64 3]) (by simp [results, Tryz.results14, go_sem, k0, k1]) rfl (by rw [HV.out]; exact ret_bad _ HFB.out)
              | some b2 =>
                obtain ⟨hn10, hrow10⟩ := HRES.out b2 rfl
                have HR10 := hide hrow10
                have HL2 := hide ((ap_len HAPF.out).trans HBL.out)
                have HN10 := hide hn10
                clear hn10 hrow10 HRES HAPF HBL
                simp only [Option.isSome]
                go_wp2_with fail
                refine ⟨⟨q + 1, b2, A10, c10, by omega, by rw [HN10.out], by go_num, HFL.out, HL2.out, HR10.out.rd, HR10.out.nil, (by have h := HS.out; rw [HFA.out] at h; exact h), HK.out⟩, by simp [intOf]; omega⟩
            · obtain rfl : q = p.fs.length := by omega
              have HFS := hide (show F = some b from by
                rw [hfl, List.drop_of_length_le (Nat.le_refl _)]
                rfl)
              clear hfl hlk hs hrd hbl hnil HRP HNP HSY
              obtain ⟨off9, hoff⟩ : ∃ off9 : Nat, pl = base + off9 := ⟨(pl - base).toNat, by omega⟩
              subst hoff
              have hoN : off9 ≤ N := by omega
              have HT2 := hide (show T = Gf (imS l (rs.map RV.zs) base k (m + 1) ((o.ps.map SV.d).drop (m + 1)) (some (over im off9 b))) from by
                rw [HT.out, HFS.out, show (base + (off9 : Int) - base).toNat = off9 by omega]
                rfl)
              have hwo : IntKind.i64.wrap (base + off9 - base) = (off9 : Int) := by rw [IntKind.wrap_i64]; omega
              have i1 := HK.out.bi.cell 1
              simp only [List.getElem?_toArray, List.getElem?_cons_zero, List.getElem?_cons_succ] at i1
              have hil := HK.out.bi.lt
              have himl := HK.out.len
              have HIM := hide himl
              clear himl HT HF HFS
              by_cases hne : off9 = N
              · subst hne
                have HOV := hide (show over im off9 b = im from by
                  unfold over
                  rw [HIM.out, Nat.sub_self, List.take_zero]
                  simp [sp])
                have HZ9 := hide (show Nat.min b.length 0 = 0 from Nat.min_zero _)
                rw [HOV.out] at HT2
                have hrun := run_copy_zero (P := Tryz.prog) wr 22 22 3 5 (some ⟨g, 0, none⟩) Ab 0 0 b.length cb Tryz.underlying22 (by kernel_rfl) HZ9.out
                go_wp2_with fail
                refine ⟨⟨m + 1, im, by omega, by go_num, HT2.out, HK.out⟩, by simp [intOf]; omega⟩
              have hne2 : ¬ N = off9 := fun e => hne e.symm
              by_cases hz : b.length = 0
              · have HOV := hide (show over im off9 b = im from by
                  obtain rfl := List.eq_nil_of_length_eq_zero hz
                  simp [over, sp])
                have HZ9 := hide (show Nat.min b.length (N - off9) = 0 from by rw [hz]; exact Nat.zero_min _)
                clear hz hne
                rw [HOV.out] at HT2
                have hrun := run_copy_zero (P := Tryz.prog) wr 22 22 3 5 (some ⟨g, off9, none⟩) Ab (N - off9) (N - off9) b.length cb Tryz.underlying22 (by kernel_rfl) HZ9.out
                go_wp2_with fail
                refine ⟨⟨m + 1, im, by omega, by go_num, HT2.out, HK.out⟩, by simp [intOf]; omega⟩
              · have hbp : 0 < b.length := by omega
                obtain ⟨cur, hgv, hcn, hput⟩ := HK.out.put hLgg.out
                have hml : (b.take (im.length - off9)).length = Nat.min b.length (N - off9) := by
                  rw [HIM.out, List.length_take, Nat.min_comm]
                  try rfl
                have hml2 : off9 + (b.take (im.length - off9)).length ≤ N := by
                  rw [hml]
                  have hmr : Nat.min b.length (N - off9) ≤ N - off9 := Nat.min_le_right _ _
                  omega
                have hlk2 := hput off9 (b.take (im.length - off9)) hml2
                obtain ⟨bz, offz, hAb, hbz, hsrc⟩ := rd_addr HRD.out hbp
                have hrun := run_copy_row (P := Tryz.prog) wr 22 22 3 5 g off9 (N - off9) (N - off9) ⟨bz, offz, none⟩ b.length cb cur.toArray 5 (ints .u8 (b.take (im.length - off9))) Tryz.underlying22 (by kernel_rfl) hgv (by rw [← hml]; simp) (fun j v hj => hsrc j v (by
                  rw [ints, List.getElem?_map] at hj ⊢
                  cases hq2 : (b.take (im.length - off9))[j]? with
                  | none => rw [hq2] at hj; cases hj
                  | some y =>
                    have hlt2 := (List.getElem?_eq_some_iff.1 hq2).1
                    rw [List.length_take] at hlt2
                    rw [List.getElem?_take_of_lt (by omega)] at hq2
                    rw [hq2]
                    rw [List.getElem?_take_of_lt (by omega), hq2] at hj
                    exact hj)) (by simp only [ints, List.length_map, List.size_toArray]; omega) oneI
                have HK2 := hide (show LK w L PA pc rs EA en ec I g N base (over im off9 b) (wr.setRow g ((cur.toArray.toList.take off9 ++ ints .u8 (b.take (im.length - off9)) ++ cur.toArray.toList.drop (off9 + (ints .u8 (b.take (im.length - off9))).length)).toArray)) from by
                  have e : (cur.toArray.toList.take off9 ++ ints .u8 (b.take (im.length - off9)) ++ cur.toArray.toList.drop (off9 + (ints .u8 (b.take (im.length - off9))).length)) = Go.splice cur off9 (ints .u8 (b.take (im.length - off9))) := by simp [Go.splice]
                  rw [e]
                  exact hlk2)
                generalize wr.setRow g ((cur.toArray.toList.take off9 ++ ints .u8 (b.take (im.length - off9)) ++ cur.toArray.toList.drop (off9 + (ints .u8 (b.take (im.length - off9))).length)).toArray) = w9 at *
                generalize (ints IntKind.u8 (b.take (im.length - off9))).length = cn at *
                subst hAb
                clear hput hgv hcn hml hml2 hlk2 hsrc hz hne HRD
                go_wp2_with fail
                refine ⟨⟨m + 1, over im off9 b, by omega, by go_num, HT2.out, HK2.out⟩, by simp [intOf]; omega⟩
        · have hme : m = o.ps.length := by omega
          subst hme
          have HT2 := hide (show T = imO l (rs.map RV.zs) base (k + 1) (l.drop (k + 1)) (some im) from by
            rw [ht, List.drop_of_length_le (by simp), HGF.out]
            rfl)
          clear ht hlk
          go_wp2_with fail
          refine ⟨⟨k + 1, im, by omega, by go_num, HT2.out, HK.out⟩, by simp [intOf]; omega⟩
    · have hke : k = os.length := by omega
      subst hke
      have HV := hide (show linkR l base = (base, im, 0) from by
        rw [HLR.out, ht, List.drop_of_length_le (by rw [← HLL.out]; simp)]
        rfl)
      have i0' := HK.out.bi.cell 0
      have i1' := HK.out.bi.cell 1
      have y0 := HK.out.br.cell 0
      have y1 := HK.out.br.cell 1
      have yf0 := HK.out.br.frozen 0
      have yf1 := HK.out.br.frozen 1
      have hrl := HK.out.br.lt
      have hil := HK.out.bi.lt
      have kk := (HK.out.br.set 0 (.int .i64 base)).set 1 (.slice (some ⟨g, 0, none⟩) N N)
      have k0 := kk.cell 0
      have k1 := kk.cell 1
      simp only [List.setIfInBounds_toArray, List.set_cons_zero, List.set_cons_succ, List.getElem?_toArray, List.getElem?_cons_zero, List.getElem?_cons_succ] at k0 k1 y0 y1 i0' i1'
      clear kk
      have HIM := hide HK.out.len
      have HFB := hide (show RetL (base, im, 0) w (.returned (.tuple #[.agg #[.int .i64 base, .slice (some ⟨g, 0, none⟩) N N], .int .i64 0])) ((wr.setCell ⟨w.heap.size, 0, none⟩ (.int .i64 base)).setCell ⟨w.heap.size, 1, none⟩ (.slice (some ⟨g, 0, none⟩) N N)) from by
        refine ⟨some ⟨g, 0, none⟩, N, by rw [HIM.out], ?_, two_below (Y := w.heap.size) HK.out.b (Nat.le_refl _) _ _⟩
        have r0 : Row wr w.heap.size 5 1 (some ⟨g, 0, none⟩) N N (ints .u8 im) := .inr HK.out.row
        have r1 := (r0.set (a := ⟨w.heap.size, 0, none⟩) (fun j hj => r0.box HK.out.br (by decide) j hj) (.int .i64 base))
        have r2 := (r1.set (a := ⟨w.heap.size, 1, none⟩) (fun j hj => r0.box HK.out.br (by decide) j hj) (.slice (some ⟨g, 0, none⟩) N N))
        simp only [HIM.out]
        exact r2)
      clear ht hlk
      go_wp2_with fail
      (try simp only [Exit.inBlock, Exit.then])
      exact bodyPost_ret (v := .tuple #[.agg #[.int .i64 base, .slice (some ⟨g, 0, none⟩) N N], .int .i64 0]) (by simp [results, Tryz.results14, go_sem, k0, k1]) rfl (by rw [HV.out]; exact HFB.out)
end Go.Proofs.YtepoiphmmjfbdaaGreatDoor.CLink
/- A desk: its words, its answers; plain. -/
namespace Go.Proofs.YtepoiphmmjfbdaaGreatDoor.PDesk
set_option maxRecDepth 200000
open Go.ChangeShapes Go.WideShapes Go.ChangeAt Go.RowKit Kit CCode CName CFixups CSymbols PObj PValid PClear PLink PNum PDump PJoin
def joinT : List UInt8 := [106, 111, 105, 110]
def loadT : List UInt8 := [108, 111, 97, 100]
def linkT : List UInt8 := [108, 105, 110, 107]
def findT : List UInt8 := [102, 105, 110, 100]
def noT : List UInt8 := [110, 111]
def okT : List UInt8 := [111, 107]
def whatT : List UInt8 := [119, 104, 97, 116]
def twiceT : List UInt8 := [116, 119, 105, 99, 101]
def missT : List UInt8 := [109, 105, 115, 115, 105, 110, 103]
def rangeT : List UInt8 := [114, 97, 110, 103, 101]
def emptyT : List UInt8 := [101, 109, 112, 116, 121]
def no32 (c : UInt8) : Bool := c != 32
def cutW (s : List UInt8) : List UInt8 := s.takeWhile no32
def cutR (s : List UInt8) : List UInt8 := (s.dropWhile no32).drop 1
theorem cut_none {s : List UInt8} (h : (32 : UInt8) ∉ s) : cutW s = s ∧ cutR s = [] := by
  have hp : ∀ c ∈ s, no32 c = true := fun c hc => bne_iff_ne.2 (fun e => h (e ▸ hc))
  have h1 := List.takeWhile_append_of_pos (p := no32) (l₁ := s) (l₂ := []) hp
  have h2 := List.dropWhile_append_of_pos (p := no32) (l₁ := s) (l₂ := []) hp
  rw [List.append_nil] at h1 h2
  refine ⟨by rw [cutW, h1]; simp, by rw [cutR, h2]; simp⟩
theorem cut_at {x r : List UInt8} (h : (32 : UInt8) ∉ x) : cutW (x ++ 32 :: r) = x ∧ cutR (x ++ 32 :: r) = r := by
  have hp : ∀ c ∈ x, no32 c = true := fun c hc => bne_iff_ne.2 (fun e => h (e ▸ hc))
  refine ⟨?_, ?_⟩
  · rw [cutW, List.takeWhile_append_of_pos hp]
    simp [no32]
  · rw [cutR, List.dropWhile_append_of_pos hp]
    simp [no32]
theorem lib_cut (s : List UInt8) : (Lib.cut s [32]).1 = cutW s ∧ (Lib.cut s [32]).2.1 = cutR s := by
  rcases cut_or 32 s with h | ⟨x, r, rfl, h⟩
  · obtain ⟨e1, e2⟩ := cut_none h
    rw [e1, e2]
    unfold Lib.cut
    simp [index_none h]
  · obtain ⟨e1, e2⟩ := cut_at (r := r) h
    rw [e1, e2]
    unfold Lib.cut
    simp only [index_cut h r]
    simp
/-- The answer to what is linked. -/
def codeA (r : RD) : List UInt8 :=
  if r.2.2 = 1 then twiceT else if r.2.2 = 2 then missT else if r.2.2 = 3 then rangeT else if ¬ r.2.2 = 0 then noT else if r.2.1.length = 0 then emptyT else hexL r.2.1
def linkI (l : List OD) (t : List UInt8) : List UInt8 := match canon t with
  | some b => codeA (linkR l b)
  | none => noT
def findA (l : List OD) (t : List UInt8) : List UInt8 := match findN l (bs t) with
  | some g => Lib.itoa g.1 ++ 46 :: Lib.itoa g.2
  | none => noT
abbrev DA := List OD × List UInt8
def joinA (l : List OD) : DA := match joinAll l with
  | some o => ([o], okT)
  | none => (l, noT)
def loadA (l : List OD) (t : List UInt8) : DA := match readI (splt 124 t) with
  | some o => if l.length = 4 then (l, noT) else (l ++ [o], okT)
  | none => (l, noT)
def deskA (l : List OD) (s : List UInt8) : DA :=
  if objsOk l = false then ([], [])
  else if s = joinT then joinA l
  else if cutR s = [] then (l, whatT)
  else if cutW s = loadT then loadA l (cutR s)
  else if cutW s = linkT then (l, linkI l (cutR s))
  else if cutW s = findT then (l, findA l (cutR s))
  else (l, whatT)
end Go.Proofs.YtepoiphmmjfbdaaGreatDoor.PDesk
/- The bytes of images and joined objects are bytes; how long images are; plain. -/
namespace Go.Proofs.YtepoiphmmjfbdaaGreatDoor.PLinkIn
set_option maxRecDepth 200000
open Go.ChangeShapes Go.WideShapes Go.ChangeAt Go.RowKit Kit CCode CName CNumber CFixups CSymbols PObj PValid PClear PSort PLink PLinkL PNum PDump PJoin PDesk PLayB
theorem apF_in {b b2 : List Int} {place : Int} {f : FD} {t : Int} (h : InR 0 255 b) (e : apF b place f t = some b2) : InR 0 255 b2 := by
  unfold apF at e
  split at e
  · obtain ⟨v, _, rfl⟩ := Option.map_eq_some_iff.1 e
    exact sp_in h (putL_bd _ _)
  · cases e
theorem fill_in {l : List OD} {P : List (List Int)} {k : Nat} {place : Int} : ∀ {fs : List FD} {b : Option (List Int)} {b2 : List Int}, (∀ x, b = some x → InR 0 255 x) → fill l P k place fs b = some b2 → InR 0 255 b2
  | [], b, b2, h, e => h b2 e
  | f :: fs, b, b2, h, e => by
    rw [fill] at e
    refine fill_in (fs := fs) (fun x hx => ?_) e
    obtain ⟨y, hy, hx⟩ := Option.bind_eq_some_iff.1 hx
    exact apF_in (h y hy) hx
theorem over_in {im b : List Int} {i : Nat} (h : InR 0 255 im) (hb : InR 0 255 b) : InR 0 255 (over im i b) := by
  unfold over
  exact sp_in h (fun x hx => hb x (List.mem_of_mem_take hx))
theorem imS_in {l : List OD} {P : List (List Int)} {base : Int} {k : Nat} : ∀ {ss : List SD} {i : Nat} {im : Option (List Int)} {im2 : List Int}, (∀ x, im = some x → InR 0 255 x) → (∀ s ∈ ss, InR 0 255 s.zs) → imS l P base k i ss im = some im2 → InR 0 255 im2
  | [], _, _, im2, h, _, e => h im2 e
  | s :: ss, i, im, im2, h, hs, e => by
    rw [imS] at e
    refine imS_in (ss := ss) (fun x hx => ?_) (fun t ht => hs t (List.mem_cons_of_mem _ ht)) e
    obtain ⟨y, hy, hx⟩ := Option.bind_eq_some_iff.1 hx
    obtain ⟨b, hb, rfl⟩ := Option.map_eq_some_iff.1 hx
    refine over_in (h y hy) (fill_in (fun z hz => ?_) hb)
    injection hz with hz
    subst hz
    exact hs s List.mem_cons_self
theorem imO_in {l : List OD} {P : List (List Int)} {base : Int} : ∀ {ds : List OD} {k : Nat} {im : Option (List Int)} {im2 : List Int}, (∀ x, im = some x → InR 0 255 x) → (∀ d ∈ ds, InD d) → imO l P base k ds im = some im2 → InR 0 255 im2
  | [], _, _, im2, h, _, e => h im2 e
  | d :: ds, k, im, im2, h, hd, e => by
    rw [imO] at e
    exact imO_in (ds := ds) (fun x hx => imS_in h (hd d List.mem_cons_self) hx) (fun t ht => hd t (List.mem_cons_of_mem _ ht)) e
theorem link_in {l : List OD} {base : Int} (h : ∀ d ∈ l, InD d) : InR 0 255 (linkR l base).2.1 := by
  have hn : InR 0 255 [] := fun x hx => by cases hx
  unfold linkR
  split
  · exact hn
  split
  · exact hn
  split
  · exact hn
  · cases hi : image l base with
    | none => exact hn
    | some im =>
      refine imO_in (fun x hx => ?_) h hi
      injection hx with hx
      subst hx
      intro y hy
      rw [List.eq_of_mem_replicate hy]
      omega
/-- How long an image is. -/
theorem ap_len {b b2 : List Int} {place : Int} {f : FD} {t : Int} (h : apF b place f t = some b2) : b2.length = b.length := by
  unfold apF at h
  split at h
  · rename_i hc
    obtain ⟨v, _, rfl⟩ := Option.map_eq_some_iff.1 h
    have h1 : 0 ≤ f.1 ∧ f.1 ≤ (b.length : Int) - wide f.2.1 := by simpa [inB] using hc.2.2
    have hw : 0 ≤ wide f.2.1 := by
      unfold wide
      split
      · decide
      · split <;> try decide
        split <;> decide
    exact sp_len (by rw [putL_len]; omega)
  · cases h
theorem over_len (im : List Int) (i : Nat) (b : List Int) : (over im i b).length = im.length := by
  unfold over sp
  simp only [List.length_append, List.length_take, List.length_drop]
  omega
theorem imS_len {l : List OD} {P : List (List Int)} {base : Int} {k n : Nat} : ∀ {ss : List SD} {i : Nat} {im : Option (List Int)} {im2 : List Int}, (∀ x, im = some x → x.length = n) → imS l P base k i ss im = some im2 → im2.length = n
  | [], _, _, im2, h, e => h im2 e
  | s :: ss, i, im, im2, h, e => by
    rw [imS] at e
    refine imS_len (ss := ss) (fun x hx => ?_) e
    obtain ⟨y, hy, hx⟩ := Option.bind_eq_some_iff.1 hx
    obtain ⟨b, hb, rfl⟩ := Option.map_eq_some_iff.1 hx
    rw [over_len]
    exact h y hy
theorem imO_len {l : List OD} {P : List (List Int)} {base : Int} {n : Nat} : ∀ {ds : List OD} {k : Nat} {im : Option (List Int)} {im2 : List Int}, (∀ x, im = some x → x.length = n) → imO l P base k ds im = some im2 → im2.length = n
  | [], _, _, im2, h, e => h im2 e
  | d :: ds, k, im, im2, h, e => by
    rw [imO] at e
    exact imO_len (ds := ds) (fun x hx => imS_len h hx) e
theorem link_len {l : List OD} {base : Int} : (linkR l base).2.1.length ≤ 10000 := by
  unfold linkR
  split
  · exact Nat.zero_le _
  rename_i hc
  split
  · exact Nat.zero_le _
  split
  · exact Nat.zero_le _
  · cases hi : image l base with
    | none => exact Nat.zero_le _
    | some im =>
      rw [Bool.not_eq_false, Bool.and_eq_true] at hc
      have hb : 0 ≤ base ∧ base ≤ 4096 := by
        have h := hc.2
        simp only [baseOk, Bool.and_eq_true, decide_eq_true_eq] at h
        exact h.1
      obtain ⟨g1, g2, _⟩ := lay_bd hc.1 hb.1 hb.2
      have hl := imO_len (n := ((PLink.lay l base).1 - base).toNat) (fun x hx => by
        injection hx with hx
        subst hx
        simp) hi
      show im.length ≤ 10000
      omega
end Go.Proofs.YtepoiphmmjfbdaaGreatDoor.PLinkIn
