/- The program's ObjectValid. -/
import Derived.Test.YtepoiphmmjfbdaaGreatDoorFnDeskLoadM2
import Derived.Lib.AppendZerosOnto
import Derived.WalkSpells
import Derived.Deep.RegionHeld3
import Derived.Deep.RegionLaw
import Derived.Deep.RegionLawGrows
import Derived.Lib.SliceRun
import Derived.Test.YtepoiphmmjfbdaaGreatDoorRows
import Derived.StillTailTactics
import Derived.BigQuiet
set_option linter.unusedSimpArgs false
set_option linter.unusedVariables false
namespace Go.Proofs.YtepoiphmmjfbdaaGreatDoor.CObjValid
set_option maxRecDepth 200000
open Go.ChangeShapes Go.WideShapes Go.ChangeAt Go.RowKit Kit CCode CName CFixups CSymbols PObj BObj PValid CSecValid CSecValid2 CSymValid CGlobalOf
/-- What the walks ask of an object's parts. -/
structure Fit (o : OV) : Prop where
  np : o.ps.length ≤ 1048576
  ny : o.ys.length ≤ 1048576
  cy : o.ys.length ≤ o.yc
  p : ∀ p ∈ o.ps, p.nm.size ≤ maxLen ∧ p.zs.length ≤ 1048576 ∧ p.fs.length ≤ 1048576
  y : ∀ y ∈ o.ys, y.1.size ≤ maxLen
theorem obj_big {d : OD} (h : 8 < d.ss.length ∨ 12 < d.ys.length) : objOk d = false := by
  rw [← Bool.not_eq_true]
  intro ht
  simp only [objOk, Bool.and_eq_true, decide_eq_true_eq] at ht
  omega
theorem obj_sec {d : OD} {p : SD} (hp : p ∈ d.ss) (h : secOk d.ys.length p = false) : objOk d = false := by
  rw [← Bool.not_eq_true]
  intro ht
  simp only [objOk, Bool.and_eq_true, decide_eq_true_eq, List.all_eq_true] at ht
  rw [ht.1.2 p hp] at h
  cases h
def symAt (ss : List SD) (ys : List YD) (k : Nat) (y : YD) : Bool := symOk ss y && !(!decide (y.2.1 = 0) && (ys.take k).any (hit y.1))
theorem getD_at {ys : List YD} {k : Nat} (h : k < ys.length) (d : YD) : ys.getD k d = ys[k] := by
  rw [List.getD_eq_getElem?_getD, List.getElem?_eq_getElem h]
  rfl
theorem obj_sym {d : OD} {k : Nat} (hk : k < d.ys.length) (h : symAt d.ss d.ys k d.ys[k] = false) : objOk d = false := by
  rw [← Bool.not_eq_true]
  intro ht
  simp only [objOk, symsOk, Bool.and_eq_true, List.all_eq_true] at ht
  have h1 := ht.2 k (List.mem_range.2 hk)
  rw [getD_at hk] at h1
  have h2 : symAt d.ss d.ys k d.ys[k] = true := by
    unfold symAt
    rw [h1.1]
    exact h1.2
  rw [h2] at h
  cases h
theorem obj_yes {d : OD} (h1 : d.ss.length ≤ 8) (h2 : d.ys.length ≤ 12) (h3 : ∀ p ∈ d.ss, secOk d.ys.length p = true) (h4 : ∀ k, (h : k < d.ys.length) → symAt d.ss d.ys k d.ys[k] = true) : objOk d = true := by
  simp only [objOk, symsOk, Bool.and_eq_true, decide_eq_true_eq, List.all_eq_true]
  refine ⟨⟨⟨h1, h2⟩, h3⟩, fun k hk => ?_⟩
  have hk' := List.mem_range.1 hk
  have h := h4 k hk'
  rw [getD_at hk']
  unfold symAt at h
  rw [Bool.and_eq_true] at h
  exact ⟨h.1, h.2⟩
theorem _root_.Go.Proofs.YtepoiphmmjfbdaaGreatDoor.Kit.Rd.prefix_take {w : World} {B : Nat} {A : Option Addr} {ys : List YD} (h : Rd w B A (cellsOf symbolC ys)) (k : Nat) : Rd w B A (cellsOf symbolC (ys.take k)) := by
  have e : cellsOf symbolC ys = cellsOf symbolC (ys.take k) ++ cellsOf symbolC (ys.drop k) := by
    conv => lhs; rw [← List.take_append_drop k ys]
    simp only [cellsOf, List.flatMap_append]
  intro i u hi
  refine h i u ?_
  rw [e, List.getElem?_append_left (by
    rcases Nat.lt_or_ge i (cellsOf symbolC (ys.take k)).length with h' | h'
    · exact h'
    · rw [List.getElem?_eq_none h'] at hi
      cases hi)]
  exact hi
set_option maxHeartbeats 2000000 in
theorem objectValid_any (o : OV) (w : World) (hr : RdO w w.heap.size o) (hf : Fit o) :
    Calls Tryz.prog 36 #[.agg #[.slice o.A o.ps.length o.c, .slice o.Y o.ys.length o.yc]] w (Ret (.bool (objOk o.d)) w) := by
  obtain ⟨A, c, ps, Y, yc, ys⟩ := o
  obtain ⟨np, ny, cy, hp, hy⟩ := hf
  simp only [OV.d] at np ny cy hp hy ⊢
  have HR := hide hr
  have HL := hide (And.intro hp hy)
  clear hr hp hy
  have B0 : Below w.heap.size w (w.alloc (.cells #[.slice A ps.length c, .slice Y ys.length yc] 26)) := (by repeat (first | exact Below.refl _ _ | with_reducible assumption | (refine Below.drew ?_) | (refine Below.drewN ?_ _) | (refine Below.alloc ?_ (by simp; try omega) _) | (refine Below.setCell ?_ (by simp; try omega) _)))
  have X0 := Box.new w 26 #[.slice A ps.length c, .slice Y ys.length yc]
  have x0 := X0.cell 0
  have x1 := X0.cell 1
  simp only [List.getElem?_toArray, List.getElem?_cons_zero, List.getElem?_cons_succ] at x0 x1
  have HB := hide B0
  clear B0
  go_enter Tryz.func36, Tryz.ntmps36
  by_cases b1 : 8 < ps.length
  · have HV := hide (obj_big (d := ⟨ps.map SV.d, ys⟩) (.inl (by simpa using b1)))
    have e1 : decide ((8 : Int) < ps.length) = true := decide_eq_true (by omega)
    clear b1
    go_wp2_with fail
    go_ret
    exact ⟨by rw [HV.out]; rfl, HB.out⟩
  have e1 : decide ((8 : Int) < ps.length) = false := decide_eq_false (by omega)
  by_cases b2 : 12 < ys.length
  · have HV := hide (obj_big (d := ⟨ps.map SV.d, ys⟩) (.inr b2))
    have e2 : decide ((12 : Int) < ys.length) = true := decide_eq_true (by omega)
    clear b1 b2
    go_wp2_with fail
    go_ret
    exact ⟨by rw [HV.out]; rfl, HB.out⟩
  have e2 : decide ((12 : Int) < ys.length) = false := decide_eq_false (by omega)
  go_wp2_with fail
  clear e1 e2
  generalize w.alloc (.cells #[.slice A ps.length c, .slice Y ys.length yc] 26) = w0 at *
  go_loopw [20] (fun i wi => ∃ k : Nat, k ≤ ps.length ∧ i = .int .i64 k ∧ (∀ p ∈ ps.take k, secOk ys.length p.d = true) ∧ Box wi w.heap.size 26 #[.slice A ps.length c, .slice Y ys.length yc] ∧ Below w.heap.size w wi) (fun i _ => ps.length - (intOf i).toNat)
  case atStart => exact ⟨0, Nat.zero_le _, rfl, fun p hp => by simp at hp, X0, HB.out⟩
  case round =>
    obtain ⟨k, hk, rfl, hok, hx, hb⟩ := hrel
    have HO := hide hok
    have HX := hide hx
    have HBI := hide hb
    clear X0 x0 x1 HB
    have x0 := hx.cell 0
    have x1 := hx.cell 1
    simp only [List.getElem?_toArray, List.getElem?_cons_zero, List.getElem?_cons_succ] at x0 x1
    have hxl := hx.lt
    by_cases hlt : k < ps.length
    · obtain ⟨b, off, hA, hbg, hc⟩ := (HR.out.1.1.below hb).row secC_len (by decide) hlt
      subst hA
      have hc0 := hc 0 _ rfl
      have hc1 := hc 1 _ rfl
      have hc2 := hc 2 _ rfl
      have hc3 := hc 3 _ rfl
      have hc4 := hc 4 _ rfl
      have hc5 := hc 5 _ rfl
      simp only [Nat.add_zero] at hc0
      have HM := hide (HL.out.1 _ (List.getElem_mem hlt))
      have HRS := hide (HR.out.1.2 _ (List.getElem_mem hlt))
      have HS := hide (fun (h : secOk ys.length ps[k].d = true) => (show ∀ p ∈ ps.take (k + 1), secOk ys.length p.d = true from fun p hp => by
        rw [take_succ hlt] at hp
        rcases List.mem_append.1 hp with hp | hp
        · exact HO.out p hp
        · rw [List.mem_singleton.1 hp]; exact h))
      have HF := hide (fun (h : secOk ys.length ps[k].d = false) => obj_sec (d := ⟨ps.map SV.d, ys⟩) (List.mem_map_of_mem (List.getElem_mem hlt)) h)
      clear hok hx hb hc HO
      generalize ps[k] = p at *
      go_wp2_with fail
      have B1 : Below wr.heap.size wr (wr.alloc (.cells #[.string p.nm, .int .i64 p.kd, .int .i64 p.al, .slice p.A p.zs.length p.c, .int .i64 p.sz, .slice p.F p.fs.length p.fc] 61)) := (by repeat (first | exact Below.refl _ _ | with_reducible assumption | (refine Below.drew ?_) | (refine Below.drewN ?_ _) | (refine Below.alloc ?_ (by simp; try omega) _) | (refine Below.setCell ?_ (by simp; try omega) _)))
      have HX1 := hide (HX.out.call B1)
      have HB1 := hide (HBI.out.trans (B1.mono HBI.out.size))
      clear hc0 hc1 hc2 hc3 hc4 hc5 B1 HX HBI x0 x1
      refine (sectionValid_any p ys.length _ ((HRS.out.below HB1.out).more HB1.out.size) HM.out.1 HM.out.2.1 HM.out.2.2).mono ?_
      rintro e w2 ⟨rfl, b2⟩
      have HX2 := hide (HX1.out.call b2)
      have HB2 := hide (HB1.out.trans (b2.mono HB1.out.size))
      clear b2 HX1 HB1
      cases hs : secOk ys.length p.d
      · have HV := hide (HF.out hs)
        clear HF HS hs
        go_wp2_with fail
        go_ret
        exact ⟨by rw [HV.out]; rfl, HB2.out⟩
      · have HS' := hide (HS.out hs)
        clear HF HS hs
        go_wp2_with fail
        refine ⟨⟨k + 1, by omega, by go_num, HS'.out, HX2.out, HB2.out⟩, by simp [intOf]; omega⟩
    · have HALL := hide (show ∀ p ∈ ps.map SV.d, secOk ys.length p = true from fun p hp => by
        obtain ⟨q, hq, rfl⟩ := List.mem_map.1 hp
        exact HO.out q (by rw [List.take_of_length_le (by omega)]; exact hq))
      clear HO hok hx hb
      go_wp2_with fail
      clear x0 x1
      go_loopw [34] (fun i wi => ∃ k : Nat, k ≤ ys.length ∧ i = .int .i64 k ∧ (∀ j, (h : j < ys.length) → j < k → symAt (ps.map SV.d) ys j ys[j] = true) ∧ Box wi w.heap.size 26 #[.slice A ps.length c, .slice Y ys.length yc] ∧ Below w.heap.size w wi) (fun i _ => ys.length - (intOf i).toNat)
      case atStart => exact ⟨0, Nat.zero_le _, rfl, fun j _ hj => absurd hj (Nat.not_lt_zero j), HX.out, HBI.out⟩
      case round =>
        obtain ⟨k, hk, rfl, hok, hx, hb⟩ := hrel
        clear HX HBI hxl
        have HO := hide hok
        have HX := hide hx
        have HBI := hide hb
        by_cases hlt : k < ys.length
        · obtain ⟨b, off, hY, hbg, hc⟩ := (HR.out.2.below hb).row symbolC_len (by decide) hlt
          have hc0 := hc 0 _ rfl
          have hc1 := hc 1 _ rfl
          have hc2 := hc 2 _ rfl
          have hc3 := hc 3 _ rfl
          simp only [Nat.add_zero] at hc0
          have HM := hide (HL.out.2 _ (List.getElem_mem hlt))
          have HS := hide (fun (h : symAt (ps.map SV.d) ys k ys[k] = true) => (show ∀ j, (h : j < ys.length) → j < k + 1 → symAt (ps.map SV.d) ys j ys[j] = true from fun j hj hjk => by
            rcases Nat.lt_or_ge j k with h' | h'
            · exact HO.out j hj h'
            · obtain rfl : j = k := by omega
              exact h))
          have HF := hide (fun (h : symAt (ps.map SV.d) ys k ys[k] = false) => obj_sym (d := ⟨ps.map SV.d, ys⟩) hlt h)
          have HRP := hide (show Rd w w.heap.size Y (cellsOf symbolC (ys.take k)) from by
            have := Rd.prefix_take HR.out.2 k
            exact this)
          have hkl : (ys.take k).length = k := by rw [List.length_take]; omega
          have HPL := hide (show (ys.take k).length ≤ maxLen by rw [hkl]; unfold maxLen; omega)
          clear hok hx hb hc HO
          unfold symAt at HS HF
          generalize hpre : ys.take k = pre at *
          generalize ys[k] = z at *
          obtain ⟨zn, zb, zw, zv⟩ := z
          simp only at HM hc0 hc1 hc2 hc3 HS HF
          subst hY
          go_wp2_with fail
          have B1 : Below wr.heap.size wr (wr.alloc (.cells #[.string zn, .int .i64 zb, .int .i64 zw, .int .i64 zv] 67)) := (by repeat (first | exact Below.refl _ _ | with_reducible assumption | (refine Below.drew ?_) | (refine Below.drewN ?_ _) | (refine Below.alloc ?_ (by simp; try omega) _) | (refine Below.setCell ?_ (by simp; try omega) _)))
          have HX1 := hide (HX.out.call B1)
          have HB1 := hide (HBI.out.trans (B1.mono HBI.out.size))
          have HZ1 := hide (Box.new wr 67 #[.string zn, .int .i64 zb, .int .i64 zw, .int .i64 zv])
          clear hc0 hc1 hc2 hc3 B1 HX HBI hbg
          generalize wr.alloc (.cells #[.string zn, .int .i64 zb, .int .i64 zw, .int .i64 zv] 67) = w1 at *
          generalize wr.heap.size = Z at *
          have hSS : ∀ V : World, Below w1.heap.size w1 V → (V.cell? ⟨w.heap.size, 0, none⟩ = some (.slice A ps.length c) ∧ V.cell? ⟨w.heap.size, 1, none⟩ = some (.slice (some ⟨b, off, none⟩) ys.length yc) ∧ V.cell? ⟨Z, 0, none⟩ = some (.string zn) ∧ V.cell? ⟨Z, 1, none⟩ = some (.int .i64 zb) ∧ V.cell? ⟨Z, 2, none⟩ = some (.int .i64 zw) ∧ V.cell? ⟨Z, 3, none⟩ = some (.int .i64 zv)) := by
            intro V hV
            exact ⟨(HX1.out.call hV).cell 0, (HX1.out.call hV).cell 1, (HZ1.out.call hV).cell 0, (HZ1.out.call hV).cell 1, (HZ1.out.call hV).cell 2, (HZ1.out.call hV).cell 3⟩
          have HSS := hide hSS
          clear hSS
          refine Reg.startT (fun V => V.cell? ⟨w.heap.size, 0, none⟩ = some (.slice A ps.length c) ∧ V.cell? ⟨w.heap.size, 1, none⟩ = some (.slice (some ⟨b, off, none⟩) ys.length yc) ∧ V.cell? ⟨Z, 0, none⟩ = some (.string zn) ∧ V.cell? ⟨Z, 1, none⟩ = some (.int .i64 zb) ∧ V.cell? ⟨Z, 2, none⟩ = some (.int .i64 zw) ∧ V.cell? ⟨Z, 3, none⟩ = some (.int .i64 zv)) (fun _ => false) (by kernel_rfl) ?_
          have hHeld := HSS.out w1.drew (Below.drew (Below.refl _ _))
          refine Reg.takeT (i := 0) (v := ?_) rfl (by kernel_rfl) (by kernel_rfl) (by kernel_rfl) (by kernel_rfl) (fun _ _ _ h => h) (Or.inl ⟨by rfl, ?_⟩) (by assumption) ?_
          rotate_left 1
          focus (intro w hSw; (try dsimp only at hSw); go_simp; (try with_reducible rfl))
          try simp only [List.getElem_toArray, List.getElem_cons_succ, List.getElem_cons_zero, Act.put, List.setIfInBounds_toArray, List.set_cons_zero, List.set_cons_succ]
          refine Reg.takeT (i := 1) (v := ?_) rfl (by kernel_rfl) (by kernel_rfl) (by kernel_rfl) (by kernel_rfl) (fun _ _ _ h => h) (Or.inl ⟨by rfl, ?_⟩) (by assumption) ?_
          rotate_left 1
          focus (intro w hSw; (try dsimp only at hSw); go_simp; (try with_reducible rfl))
          try simp only [List.getElem_toArray, List.getElem_cons_succ, List.getElem_cons_zero, Act.put, List.setIfInBounds_toArray, List.set_cons_zero, List.set_cons_succ]
          refine Reg.takeT (i := 2) (v := ?_) rfl (by kernel_rfl) (by kernel_rfl) (by kernel_rfl) (by kernel_rfl) (fun _ _ _ h => h) (Or.inl ⟨by rfl, ?_⟩) (by assumption) ?_
          rotate_left 1
          focus (intro w hSw; (try dsimp only at hSw); go_simp; (try with_reducible rfl))
          try simp only [List.getElem_toArray, List.getElem_cons_succ, List.getElem_cons_zero, Act.put, List.setIfInBounds_toArray, List.set_cons_zero, List.set_cons_succ]
          refine Reg.oneT (i := 3) rfl (by kernel_rfl) (fun K hK => ?_)
          go_simp
          refine (symbolValid_any (zn, zb, zw, zv) A ps c _ ((HR.out.1.1.below (Below.drew HB1.out)).more (Below.drew HB1.out).size) np HM.out (fun p hp => Nat.le_trans (HL.out.1 p hp).2.1 (by decide))).mono ?_
          rintro e w3 ⟨rfl, b3⟩
          have HB3 := hide (HB1.out.trans ((below_drawn b3).mono HB1.out.size))
          have HXB := hide (below_drawn b3)
          have hHeld := HSS.out w3 HXB.out
          refine hK.out _ _ hHeld ?_
          clear hK K b3
          try simp only [List.getElem_toArray, List.getElem_cons_succ, List.getElem_cons_zero, Act.put, List.setIfInBounds_toArray, List.set_cons_zero, List.set_cons_succ]
          cases hs : symOk (ps.map SV.d) (zn, zb, zw, zv)
          · have HV := hide (HF.out (by rw [hs]; rfl))
            clear HF HS hs
            refine Reg.takeT (i := 4) (v := ?_) rfl (by kernel_rfl) (by kernel_rfl) (by kernel_rfl) (by kernel_rfl) (fun _ _ _ h => h) (Or.inl ⟨by rfl, ?_⟩) (by assumption) ?_
            rotate_left 1
            focus (intro w hSw; (try dsimp only at hSw); go_simp; (try with_reducible rfl))
            try simp only [List.getElem_toArray, List.getElem_cons_succ, List.getElem_cons_zero, Act.put, List.setIfInBounds_toArray, List.set_cons_zero, List.set_cons_succ]
            refine Reg.takeT (i := 5) (v := ?_) rfl (by kernel_rfl) (by kernel_rfl) (by kernel_rfl) (by kernel_rfl) (fun _ _ _ h => h) (Or.inl ⟨by rfl, ?_⟩) (by assumption) ?_
            rotate_left 1
            focus (intro w hSw; (try dsimp only at hSw); go_simp; (try with_reducible rfl))
            try simp only [List.getElem_toArray, List.getElem_cons_succ, List.getElem_cons_zero, Act.put, List.setIfInBounds_toArray, List.set_cons_zero, List.set_cons_succ]
            refine Reg.takeT (i := 6) (v := undef) rfl (by kernel_rfl) (by kernel_rfl) (by kernel_rfl) (by kernel_rfl) (fun _ _ _ h => h) (Or.inr ⟨by rfl, rfl⟩) (by assumption) ?_
            try simp only [List.getElem_toArray, List.getElem_cons_succ, List.getElem_cons_zero, Act.put, List.setIfInBounds_toArray, List.set_cons_zero, List.set_cons_succ]
            refine Reg.takeT (i := 7) (v := undef) rfl (by kernel_rfl) (by kernel_rfl) (by kernel_rfl) (by kernel_rfl) (fun _ _ _ h => h) (Or.inr ⟨by rfl, rfl⟩) (by assumption) ?_
            try simp only [List.getElem_toArray, List.getElem_cons_succ, List.getElem_cons_zero, Act.put, List.setIfInBounds_toArray, List.set_cons_zero, List.set_cons_succ]
            refine Reg.takeT (i := 8) (v := undef) rfl (by kernel_rfl) (by kernel_rfl) (by kernel_rfl) (by kernel_rfl) (fun _ _ _ h => h) (Or.inr ⟨by rfl, rfl⟩) (by assumption) ?_
            try simp only [List.getElem_toArray, List.getElem_cons_succ, List.getElem_cons_zero, Act.put, List.setIfInBounds_toArray, List.set_cons_zero, List.set_cons_succ]
            refine Reg.takeT (i := 9) (v := undef) rfl (by kernel_rfl) (by kernel_rfl) (by kernel_rfl) (by kernel_rfl) (fun _ _ _ h => h) (Or.inr ⟨by rfl, rfl⟩) (by assumption) ?_
            try simp only [List.getElem_toArray, List.getElem_cons_succ, List.getElem_cons_zero, Act.put, List.setIfInBounds_toArray, List.set_cons_zero, List.set_cons_succ]
            refine Reg.takeT (i := 10) (v := undef) rfl (by kernel_rfl) (by kernel_rfl) (by kernel_rfl) (by kernel_rfl) (fun _ _ _ h => h) (Or.inr ⟨by rfl, rfl⟩) (by assumption) ?_
            try simp only [List.getElem_toArray, List.getElem_cons_succ, List.getElem_cons_zero, Act.put, List.setIfInBounds_toArray, List.set_cons_zero, List.set_cons_succ]
            refine Reg.takeT (i := 11) (v := undef) rfl (by kernel_rfl) (by kernel_rfl) (by kernel_rfl) (by kernel_rfl) (fun _ _ _ h => h) (Or.inr ⟨by rfl, rfl⟩) (by assumption) ?_
            try simp only [List.getElem_toArray, List.getElem_cons_succ, List.getElem_cons_zero, Act.put, List.setIfInBounds_toArray, List.set_cons_zero, List.set_cons_succ]
            refine Reg.takeT (i := 12) (v := undef) rfl (by kernel_rfl) (by kernel_rfl) (by kernel_rfl) (by kernel_rfl) (fun _ _ _ h => h) (Or.inr ⟨by rfl, rfl⟩) (by assumption) ?_
            try simp only [List.getElem_toArray, List.getElem_cons_succ, List.getElem_cons_zero, Act.put, List.setIfInBounds_toArray, List.set_cons_zero, List.set_cons_succ]
            refine Reg.takeT (i := 13) (v := undef) rfl (by kernel_rfl) (by kernel_rfl) (by kernel_rfl) (by kernel_rfl) (fun _ _ _ h => h) (Or.inr ⟨by rfl, rfl⟩) (by assumption) ?_
            try simp only [List.getElem_toArray, List.getElem_cons_succ, List.getElem_cons_zero, Act.put, List.setIfInBounds_toArray, List.set_cons_zero, List.set_cons_succ]
            refine Reg.takeT (i := 14) (v := undef) rfl (by kernel_rfl) (by kernel_rfl) (by kernel_rfl) (by kernel_rfl) (fun _ _ _ h => h) (Or.inr ⟨by rfl, rfl⟩) (by assumption) ?_
            try simp only [List.getElem_toArray, List.getElem_cons_succ, List.getElem_cons_zero, Act.put, List.setIfInBounds_toArray, List.set_cons_zero, List.set_cons_succ]
            refine Reg.takeT (i := 15) (v := undef) rfl (by kernel_rfl) (by kernel_rfl) (by kernel_rfl) (by kernel_rfl) (fun _ _ _ h => h) (Or.inr ⟨by rfl, rfl⟩) (by assumption) ?_
            try simp only [List.getElem_toArray, List.getElem_cons_succ, List.getElem_cons_zero, Act.put, List.setIfInBounds_toArray, List.set_cons_zero, List.set_cons_succ]
            refine Reg.takeT (i := 16) (v := undef) rfl (by kernel_rfl) (by kernel_rfl) (by kernel_rfl) (by kernel_rfl) (fun _ _ _ h => h) (Or.inr ⟨by rfl, rfl⟩) (by assumption) ?_
            try simp only [List.getElem_toArray, List.getElem_cons_succ, List.getElem_cons_zero, Act.put, List.setIfInBounds_toArray, List.set_cons_zero, List.set_cons_succ]
            refine Reg.takeT (i := 17) (v := undef) rfl (by kernel_rfl) (by kernel_rfl) (by kernel_rfl) (by kernel_rfl) (fun _ _ _ h => h) (Or.inr ⟨by rfl, rfl⟩) (by assumption) ?_
            try simp only [List.getElem_toArray, List.getElem_cons_succ, List.getElem_cons_zero, Act.put, List.setIfInBounds_toArray, List.set_cons_zero, List.set_cons_succ]
            refine Reg.takeT (i := 18) (v := undef) rfl (by kernel_rfl) (by kernel_rfl) (by kernel_rfl) (by kernel_rfl) (fun _ _ _ h => h) (Or.inr ⟨by rfl, rfl⟩) (by assumption) ?_
            try simp only [List.getElem_toArray, List.getElem_cons_succ, List.getElem_cons_zero, Act.put, List.setIfInBounds_toArray, List.set_cons_zero, List.set_cons_succ]
            refine Reg.takeT (i := 19) (v := ?_) rfl (by kernel_rfl) (by kernel_rfl) (by kernel_rfl) (by kernel_rfl) (fun _ _ _ h => h) (Or.inl ⟨by rfl, ?_⟩) (by assumption) ?_
            rotate_left 1
            focus (intro w hSw; (try dsimp only at hSw); go_simp; (try with_reducible rfl))
            try simp only [List.getElem_toArray, List.getElem_cons_succ, List.getElem_cons_zero, Act.put, List.setIfInBounds_toArray, List.set_cons_zero, List.set_cons_succ]
            refine Reg.doneT (by kernel_rfl) ?_ _
            clear hHeld HSS
            go_wp2_with fail
            go_ret
            exact ⟨by rw [HV.out]; rfl, HB3.out⟩
          rw [hs] at HS HF
          clear hs
          refine Reg.takeT (i := 4) (v := ?_) rfl (by kernel_rfl) (by kernel_rfl) (by kernel_rfl) (by kernel_rfl) (fun _ _ _ h => h) (Or.inl ⟨by rfl, ?_⟩) (by assumption) ?_
          rotate_left 1
          focus (intro w hSw; (try dsimp only at hSw); go_simp; (try with_reducible rfl))
          try simp only [List.getElem_toArray, List.getElem_cons_succ, List.getElem_cons_zero, Act.put, List.setIfInBounds_toArray, List.set_cons_zero, List.set_cons_succ]
          refine Reg.takeT (i := 5) (v := ?_) rfl (by kernel_rfl) (by kernel_rfl) (by kernel_rfl) (by kernel_rfl) (fun _ _ _ h => h) (Or.inl ⟨by rfl, ?_⟩) (by assumption) ?_
          rotate_left 1
          focus (intro w hSw; (try dsimp only at hSw); go_simp; (try with_reducible rfl))
          try simp only [List.getElem_toArray, List.getElem_cons_succ, List.getElem_cons_zero, Act.put, List.setIfInBounds_toArray, List.set_cons_zero, List.set_cons_succ]
          refine Reg.takeT (i := 6) (v := ?_) rfl (by kernel_rfl) (by kernel_rfl) (by kernel_rfl) (by kernel_rfl) (fun _ _ _ h => h) (Or.inl ⟨by rfl, ?_⟩) (by assumption) ?_
          rotate_left 1
          focus (intro w hSw; (try dsimp only at hSw); go_simp; (try with_reducible rfl))
          try simp only [List.getElem_toArray, List.getElem_cons_succ, List.getElem_cons_zero, Act.put, List.setIfInBounds_toArray, List.set_cons_zero, List.set_cons_succ]
          refine Reg.takeT (i := 7) (v := ?_) rfl (by kernel_rfl) (by kernel_rfl) (by kernel_rfl) (by kernel_rfl) (fun _ _ _ h => h) (Or.inl ⟨by rfl, ?_⟩) (by assumption) ?_
          rotate_left 1
          focus (intro w hSw; (try dsimp only at hSw); go_simp; (try with_reducible rfl))
          try simp only [List.getElem_toArray, List.getElem_cons_succ, List.getElem_cons_zero, Act.put, List.setIfInBounds_toArray, List.set_cons_zero, List.set_cons_succ]
          refine Reg.takeT (i := 8) (v := ?_) rfl (by kernel_rfl) (by kernel_rfl) (by kernel_rfl) (by kernel_rfl) (fun _ _ _ h => h) (Or.inl ⟨by rfl, ?_⟩) (by assumption) ?_
          rotate_left 1
          focus (intro w hSw; (try dsimp only at hSw); go_simp; (try with_reducible rfl))
          try simp only [List.getElem_toArray, List.getElem_cons_succ, List.getElem_cons_zero, Act.put, List.setIfInBounds_toArray, List.set_cons_zero, List.set_cons_succ]
          by_cases hz : zb = 0
          · have HS' := hide (HS.out (by rw [decide_eq_true hz]; rfl))
            have e1 : (zb != 0) = false := by rw [hz]; rfl
            clear HS HF hz
            rw [e1]
            refine Reg.takeT (i := 9) (v := ?_) rfl (by kernel_rfl) (by kernel_rfl) (by kernel_rfl) (by kernel_rfl) (fun _ _ _ h => h) (Or.inl ⟨by rfl, ?_⟩) (by assumption) ?_
            rotate_left 1
            focus (intro w hSw; (try dsimp only at hSw); go_simp; (try with_reducible rfl))
            try simp only [List.getElem_toArray, List.getElem_cons_succ, List.getElem_cons_zero, Act.put, List.setIfInBounds_toArray, List.set_cons_zero, List.set_cons_succ]
            refine Reg.takeT (i := 10) (v := undef) rfl (by kernel_rfl) (by kernel_rfl) (by kernel_rfl) (by kernel_rfl) (fun _ _ _ h => h) (Or.inr ⟨by rfl, rfl⟩) (by assumption) ?_
            try simp only [List.getElem_toArray, List.getElem_cons_succ, List.getElem_cons_zero, Act.put, List.setIfInBounds_toArray, List.set_cons_zero, List.set_cons_succ]
            refine Reg.takeT (i := 11) (v := undef) rfl (by kernel_rfl) (by kernel_rfl) (by kernel_rfl) (by kernel_rfl) (fun _ _ _ h => h) (Or.inr ⟨by rfl, rfl⟩) (by assumption) ?_
            try simp only [List.getElem_toArray, List.getElem_cons_succ, List.getElem_cons_zero, Act.put, List.setIfInBounds_toArray, List.set_cons_zero, List.set_cons_succ]
            refine Reg.takeT (i := 12) (v := undef) rfl (by kernel_rfl) (by kernel_rfl) (by kernel_rfl) (by kernel_rfl) (fun _ _ _ h => h) (Or.inr ⟨by rfl, rfl⟩) (by assumption) ?_
            try simp only [List.getElem_toArray, List.getElem_cons_succ, List.getElem_cons_zero, Act.put, List.setIfInBounds_toArray, List.set_cons_zero, List.set_cons_succ]
            refine Reg.takeT (i := 13) (v := undef) rfl (by kernel_rfl) (by kernel_rfl) (by kernel_rfl) (by kernel_rfl) (fun _ _ _ h => h) (Or.inr ⟨by rfl, rfl⟩) (by assumption) ?_
            try simp only [List.getElem_toArray, List.getElem_cons_succ, List.getElem_cons_zero, Act.put, List.setIfInBounds_toArray, List.set_cons_zero, List.set_cons_succ]
            refine Reg.takeT (i := 14) (v := undef) rfl (by kernel_rfl) (by kernel_rfl) (by kernel_rfl) (by kernel_rfl) (fun _ _ _ h => h) (Or.inr ⟨by rfl, rfl⟩) (by assumption) ?_
            try simp only [List.getElem_toArray, List.getElem_cons_succ, List.getElem_cons_zero, Act.put, List.setIfInBounds_toArray, List.set_cons_zero, List.set_cons_succ]
            refine Reg.takeT (i := 15) (v := undef) rfl (by kernel_rfl) (by kernel_rfl) (by kernel_rfl) (by kernel_rfl) (fun _ _ _ h => h) (Or.inr ⟨by rfl, rfl⟩) (by assumption) ?_
            try simp only [List.getElem_toArray, List.getElem_cons_succ, List.getElem_cons_zero, Act.put, List.setIfInBounds_toArray, List.set_cons_zero, List.set_cons_succ]
            refine Reg.takeT (i := 16) (v := undef) rfl (by kernel_rfl) (by kernel_rfl) (by kernel_rfl) (by kernel_rfl) (fun _ _ _ h => h) (Or.inr ⟨by rfl, rfl⟩) (by assumption) ?_
            try simp only [List.getElem_toArray, List.getElem_cons_succ, List.getElem_cons_zero, Act.put, List.setIfInBounds_toArray, List.set_cons_zero, List.set_cons_succ]
            refine Reg.takeT (i := 17) (v := undef) rfl (by kernel_rfl) (by kernel_rfl) (by kernel_rfl) (by kernel_rfl) (fun _ _ _ h => h) (Or.inr ⟨by rfl, rfl⟩) (by assumption) ?_
            try simp only [List.getElem_toArray, List.getElem_cons_succ, List.getElem_cons_zero, Act.put, List.setIfInBounds_toArray, List.set_cons_zero, List.set_cons_succ]
            refine Reg.takeT (i := 18) (v := ?_) rfl (by kernel_rfl) (by kernel_rfl) (by kernel_rfl) (by kernel_rfl) (fun _ _ _ h => h) (Or.inl ⟨by rfl, ?_⟩) (by assumption) ?_
            rotate_left 1
            focus (intro w hSw; (try dsimp only at hSw); go_simp; (try with_reducible rfl))
            try simp only [List.getElem_toArray, List.getElem_cons_succ, List.getElem_cons_zero, Act.put, List.setIfInBounds_toArray, List.set_cons_zero, List.set_cons_succ]
            refine Reg.takeT (i := 19) (v := ?_) rfl (by kernel_rfl) (by kernel_rfl) (by kernel_rfl) (by kernel_rfl) (fun _ _ _ h => h) (Or.inl ⟨by rfl, ?_⟩) (by assumption) ?_
            rotate_left 1
            focus (intro w hSw; (try dsimp only at hSw); go_simp; (try with_reducible rfl))
            try simp only [List.getElem_toArray, List.getElem_cons_succ, List.getElem_cons_zero, Act.put, List.setIfInBounds_toArray, List.set_cons_zero, List.set_cons_succ]
            refine Reg.doneT (by kernel_rfl) ?_ _
            clear hHeld HSS
            have HX3 := hide (HX1.out.call HXB.out)
            go_wp2_with fail
            refine ⟨⟨k + 1, by omega, by go_num, HS'.out, HX3.out, HB3.out⟩, by simp [intOf]; omega⟩
          · have e1 : (zb != 0) = true := bne_iff_ne.2 hz
            rw [decide_eq_false hz] at HS HF
            clear hz
            rw [e1]
            have hky : k ≤ yc := by omega
            refine Reg.takeT (i := 9) (v := ?_) rfl (by kernel_rfl) (by kernel_rfl) (by kernel_rfl) (by kernel_rfl) (fun _ _ _ h => h) (Or.inl ⟨by rfl, ?_⟩) (by assumption) ?_
            rotate_left 1
            focus (intro w hSw; (try dsimp only at hSw); go_simp; (try with_reducible rfl))
            try simp only [List.getElem_toArray, List.getElem_cons_succ, List.getElem_cons_zero, Act.put, List.setIfInBounds_toArray, List.set_cons_zero, List.set_cons_succ]
            refine Reg.takeT (i := 10) (v := ?_) rfl (by kernel_rfl) (by kernel_rfl) (by kernel_rfl) (by kernel_rfl) (fun _ _ _ h => h) (Or.inl ⟨by rfl, ?_⟩) (by assumption) ?_
            rotate_left 1
            focus (intro w hSw; (try dsimp only at hSw); go_simp; (try with_reducible rfl))
            try simp only [List.getElem_toArray, List.getElem_cons_succ, List.getElem_cons_zero, Act.put, List.setIfInBounds_toArray, List.set_cons_zero, List.set_cons_succ]
            refine Reg.takeT (i := 11) (v := ?_) rfl (by kernel_rfl) (by kernel_rfl) (by kernel_rfl) (by kernel_rfl) (fun _ _ _ h => h) (Or.inl ⟨by rfl, ?_⟩) (by assumption) ?_
            rotate_left 1
            focus (intro w hSw; (try dsimp only at hSw); go_simp; (try with_reducible rfl))
            try simp only [List.getElem_toArray, List.getElem_cons_succ, List.getElem_cons_zero, Act.put, List.setIfInBounds_toArray, List.set_cons_zero, List.set_cons_succ]
            refine Reg.takeT (i := 12) (v := ?_) rfl (by kernel_rfl) (by kernel_rfl) (by kernel_rfl) (by kernel_rfl) (fun _ _ _ h => h) (Or.inl ⟨by rfl, ?_⟩) (by assumption) ?_
            rotate_left 1
            focus (intro w hSw; (try dsimp only at hSw); go_simp; (try with_reducible rfl))
            try simp only [List.getElem_toArray, List.getElem_cons_succ, List.getElem_cons_zero, Act.put, List.setIfInBounds_toArray, List.set_cons_zero, List.set_cons_succ]
            refine Reg.takeT (i := 13) (v := ?_) rfl (by kernel_rfl) (by kernel_rfl) (by kernel_rfl) (by kernel_rfl) (fun _ _ _ h => h) (Or.inl ⟨by rfl, ?_⟩) (by assumption) ?_
            rotate_left 1
            focus (intro w hSw; (try dsimp only at hSw); go_simp; (try with_reducible rfl))
            try simp only [List.getElem_toArray, List.getElem_cons_succ, List.getElem_cons_zero, Act.put, List.setIfInBounds_toArray, List.set_cons_zero, List.set_cons_succ]
            refine Reg.takeT (i := 14) (v := ?_) rfl (by kernel_rfl) (by kernel_rfl) (by kernel_rfl) (by kernel_rfl) (fun _ _ _ h => h) (Or.inl ⟨by rfl, ?_⟩) (by assumption) ?_
            rotate_left 1
            focus (intro w hSw; (try dsimp only at hSw); go_simp; (try with_reducible rfl))
            try simp only [List.getElem_toArray, List.getElem_cons_succ, List.getElem_cons_zero, Act.put, List.setIfInBounds_toArray, List.set_cons_zero, List.set_cons_succ]
            refine Reg.takeT (i := 15) (v := ?_) rfl (by kernel_rfl) (by kernel_rfl) (by kernel_rfl) (by kernel_rfl) (fun _ _ _ h => h) (Or.inl ⟨by rfl, ?_⟩) (by assumption) ?_
            rotate_left 1
            focus (intro w hSw; (try dsimp only at hSw); go_simp; (try with_reducible rfl))
            try simp only [List.getElem_toArray, List.getElem_cons_succ, List.getElem_cons_zero, Act.put, List.setIfInBounds_toArray, List.set_cons_zero, List.set_cons_succ]
            refine Reg.oneT (i := 16) rfl (by kernel_rfl) (fun K hK => ?_)
            go_simp
            have HGO := hide (globalOf_any zn (some ⟨b, off, none⟩) pre yc w3 ((HRP.out.below HB3.out).more HB3.out.size) HPL.out)
            rw [hkl] at HGO
            refine HGO.out.mono ?_
            rintro e w4 ⟨r, rfl, hr4, b4⟩
            have HB4 := hide (HB3.out.trans (b4.mono HB3.out.size))
            have HX4 := hide ((HX1.out.call HXB.out).call b4)
            have hHeld := HSS.out w4 (HXB.out.trans (b4.mono HXB.out.size))
            refine hK.out _ _ hHeld ?_
            clear hK K b4
            try simp only [List.getElem_toArray, List.getElem_cons_succ, List.getElem_cons_zero, Act.put, List.setIfInBounds_toArray, List.set_cons_zero, List.set_cons_succ]
            cases hq : pre.any (hit zn)
            · have HS' := hide (HS.out (by rw [hq]; rfl))
              rw [hq] at hr4
              clear HS HF hq
              refine Reg.takeT (i := 17) (v := ?_) rfl (by kernel_rfl) (by kernel_rfl) (by kernel_rfl) (by kernel_rfl) (fun _ _ _ h => h) (Or.inl ⟨by rfl, ?_⟩) (by assumption) ?_
              rotate_left 1
              focus (intro w hSw; (try dsimp only at hSw); go_simp; (try with_reducible rfl))
              try simp only [List.getElem_toArray, List.getElem_cons_succ, List.getElem_cons_zero, Act.put, List.setIfInBounds_toArray, List.set_cons_zero, List.set_cons_succ]
              refine Reg.takeT (i := 18) (v := ?_) rfl (by kernel_rfl) (by kernel_rfl) (by kernel_rfl) (by kernel_rfl) (fun _ _ _ h => h) (Or.inl ⟨by rfl, ?_⟩) (by assumption) ?_
              rotate_left 1
              focus (intro w hSw; (try dsimp only at hSw); go_simp; (try with_reducible rfl))
              try simp only [List.getElem_toArray, List.getElem_cons_succ, List.getElem_cons_zero, Act.put, List.setIfInBounds_toArray, List.set_cons_zero, List.set_cons_succ]
              refine Reg.takeT (i := 19) (v := ?_) rfl (by kernel_rfl) (by kernel_rfl) (by kernel_rfl) (by kernel_rfl) (fun _ _ _ h => h) (Or.inl ⟨by rfl, ?_⟩) (by assumption) ?_
              rotate_left 1
              focus (intro w hSw; (try dsimp only at hSw); go_simp; (try with_reducible rfl))
              try simp only [List.getElem_toArray, List.getElem_cons_succ, List.getElem_cons_zero, Act.put, List.setIfInBounds_toArray, List.set_cons_zero, List.set_cons_succ]
              refine Reg.doneT (by kernel_rfl) ?_ _
              clear hHeld HSS
              go_wp2_with fail
              refine ⟨⟨k + 1, by omega, by go_num, HS'.out, HX4.out, HB4.out⟩, by simp [intOf]; omega⟩
            · have HV := hide (HF.out (by rw [hq]; rfl))
              rw [hq] at hr4
              clear HS HF hq
              refine Reg.takeT (i := 17) (v := ?_) rfl (by kernel_rfl) (by kernel_rfl) (by kernel_rfl) (by kernel_rfl) (fun _ _ _ h => h) (Or.inl ⟨by rfl, ?_⟩) (by assumption) ?_
              rotate_left 1
              focus (intro w hSw; (try dsimp only at hSw); go_simp; (try with_reducible rfl))
              try simp only [List.getElem_toArray, List.getElem_cons_succ, List.getElem_cons_zero, Act.put, List.setIfInBounds_toArray, List.set_cons_zero, List.set_cons_succ]
              refine Reg.takeT (i := 18) (v := ?_) rfl (by kernel_rfl) (by kernel_rfl) (by kernel_rfl) (by kernel_rfl) (fun _ _ _ h => h) (Or.inl ⟨by rfl, ?_⟩) (by assumption) ?_
              rotate_left 1
              focus (intro w hSw; (try dsimp only at hSw); go_simp; (try with_reducible rfl))
              try simp only [List.getElem_toArray, List.getElem_cons_succ, List.getElem_cons_zero, Act.put, List.setIfInBounds_toArray, List.set_cons_zero, List.set_cons_succ]
              refine Reg.takeT (i := 19) (v := ?_) rfl (by kernel_rfl) (by kernel_rfl) (by kernel_rfl) (by kernel_rfl) (fun _ _ _ h => h) (Or.inl ⟨by rfl, ?_⟩) (by assumption) ?_
              rotate_left 1
              focus (intro w hSw; (try dsimp only at hSw); go_simp; (try with_reducible rfl))
              try simp only [List.getElem_toArray, List.getElem_cons_succ, List.getElem_cons_zero, Act.put, List.setIfInBounds_toArray, List.set_cons_zero, List.set_cons_succ]
              refine Reg.doneT (by kernel_rfl) ?_ _
              clear hHeld HSS
              go_wp2_with fail
              go_ret
              exact ⟨by rw [HV.out]; rfl, HB4.out⟩
        · have HV := hide (obj_yes (d := ⟨ps.map SV.d, ys⟩) (by simp; omega) (by simp; omega) HALL.out (fun j hj => HO.out j hj (Nat.lt_of_lt_of_le hj (show ys.length ≤ k by omega))))
          clear HO hok hx hb
          go_wp2_with fail
          go_ret
          exact ⟨by rw [HV.out]; rfl, HBI.out⟩
end Go.Proofs.YtepoiphmmjfbdaaGreatDoor.CObjValid
/- The reference's l4Copy: an object in new memory. -/
namespace Go.Proofs.YtepoiphmmjfbdaaGreatDoor.CCopyS
set_option maxRecDepth 200000
open Go.ChangeShapes Go.WideShapes Go.ChangeAt Go.RowKit Kit CFixups CSymbols PObj BObj CMarkRows CObjValid
/-- A slice that is nil has no room. -/
structure Nils (o : OV) : Prop where
  y : o.Y = none → o.yc = 0
  p : ∀ p ∈ o.ps, (p.A = none → p.c = 0) ∧ (p.F = none → p.fc = 0)
theorem nils_own {o : OV} {w : World} {base : Nat} (h : OwnO w base o) : Nils o := ⟨h.2.nil, fun p hp => ⟨(h.1.2.1 p hp).1.nil, (h.1.2.1 p hp).2.nil⟩⟩
theorem infoY : (Tryz.prog.info? 67).map (fun i => (i.zero, i.size, i.bytes)) = some (some (.agg #[.string ByteArray.empty, .int .i64 0, .int .i64 0, .int .i64 0]), 4, 40) := CSymbols.info
theorem one_sym (ys : List YD) : ∀ u ∈ cellsOf symbolC ys, u.oneCell' = true := by
  intro u hu
  obtain ⟨z, _, hz⟩ := List.mem_flatMap.1 hu
  simp only [symbolC, List.mem_cons, List.not_mem_nil, or_false] at hz
  rcases hz with rfl | rfl | rfl | rfl <;> rfl
theorem one_fix (ys : List FD) : ∀ u ∈ cellsOf fixupC ys, u.oneCell' = true := by
  intro u hu
  obtain ⟨z, _, hz⟩ := List.mem_flatMap.1 hu
  simp only [fixupC, List.mem_cons, List.not_mem_nil, or_false] at hz
  rcases hz with rfl | rfl | rfl | rfl <;> rfl
theorem one_ints (k : IntKind) (zs : List Int) : ∀ u ∈ ints k zs, u.oneCell' = true := by
  intro u hu
  obtain ⟨z, _, rfl⟩ := List.mem_map.1 hu
  rfl
end Go.Proofs.YtepoiphmmjfbdaaGreatDoor.CCopyS
/- slices.Clone of symbols, fixups and bytes. -/
namespace Go.Proofs.YtepoiphmmjfbdaaGreatDoor.CClones
set_option maxRecDepth 200000
open Go.ChangeShapes Go.WideShapes Go.ChangeAt Go.RowKit Kit CFixups CSymbols PObj BObj CMarkRows CObjValid CCopyS
/-- A row of the call's own. -/
def RetRow (T m n : Nat) (xs : List Value) (w : World) (e : Ending) (w' : World) : Prop := ∃ A c, e = .returned (.slice A n c) ∧ Row w' w.heap.size T m A n c xs ∧ Below w.heap.size w w'
theorem cloneY_any (A : Option Addr) (xs : List YD) (c B : Nat) (w : World) (hx : Rd w B A (cellsOf symbolC xs)) (hB : B ≤ w.heap.size) (hxm : xs.length ≤ 1048576) (hnil : A = none → c = 0) :
    Calls Tryz.prog 142 #[.slice A xs.length c] w (RetRow 67 4 xs.length (cellsOf symbolC xs) w) := by
  obtain ⟨i0, hi, hz0, hz1, hz2⟩ := info_parts infoY
  have hq := fun W => Lib.run_eql_slice_nil (P := Tryz.prog) W 24 67 A xs.length c 0 0 Tryz.underlying24
  cases A with
  | none =>
    have hxs : xs = [] := by
      cases xs with
      | nil => rfl
      | cons u r =>
        obtain ⟨b, off, e', _⟩ := hx 0 _ rfl
        cases e'
    subst hxs
    have hc := hnil rfl
    subst hc
    clear hnil hx
    simp only [Option.isNone_none, List.length_nil] at hq
    show Calls _ _ #[.slice none 0 0] _ _
    go_enter Tryz.func142, Tryz.ntmps142
    go_wp2_with fail
    go_ret
    exact ⟨none, 0, rfl, Row.empty _ _ _ _ _, Below.refl _ _⟩
  | some ad =>
    have HX := hide ((hx.more hB).below ((Below.refl _ _).alloc (Nat.le_refl _) (.cells #[] 67)))
    have HB : Hid (Below w.heap.size w (w.alloc (.cells #[] 67))) := (by repeat (first | exact Below.refl _ _ | with_reducible assumption | (refine Below.drew ?_) | (refine Below.drewN ?_ _) | (refine Below.alloc ?_ (by simp; try omega) _) | (refine Below.setCell ?_ (by simp; try omega) _)))
    have HI := hide (And.intro hi (And.intro hz0 (And.intro hz1 hz2)))
    simp only [Option.isNone_some] at hq
    clear hx hnil hi hz0 hz1 hz2
    go_enter Tryz.func142, Tryz.ntmps142
    go_wp2_with (at_builtin; refine wpList_app _ rfl (.tmp 5) (.tmp 6) 24 rfl 67 i0 (.agg #[.string ByteArray.empty, .int .i64 0, .int .i64 0, .int .i64 0]) 4 40 Tryz.underlying24 HI.out.1 HI.out.2.1 HI.out.2.2.1 HI.out.2.2.2 rfl (by decide) w.heap.size (some ⟨w.heap.size, 0, none⟩) 0 0 [] rfl (Row.empty _ _ _ _ _) HB.out.size (some ad) xs.length c (cellsOf symbolC xs) rfl HX.out (cellsOf_len symbolC_len xs) (fun h => by cases h) (one_sym xs) ?n1 ?n2 ?_)
    case n1 => unfold maxLen; omega
    case n2 => omega
    intro A6 n6 c6 w6 hn6 o6 g6 k6
    have hn6 : n6 = xs.length := by omega
    have HO6 := hide (show Row w6 w.heap.size 67 4 A6 n6 c6 (cellsOf symbolC xs) from o6)
    have HB6 := hide (HB.out.grown g6 HB.out.size (fun k hk => by cases hk))
    clear o6 g6 k6
    subst hn6
    go_wp2_with fail
    go_ret
    exact ⟨A6, c6, rfl, HO6.out, HB6.out⟩
theorem cloneF_any (A : Option Addr) (xs : List FD) (c B : Nat) (w : World) (hx : Rd w B A (cellsOf fixupC xs)) (hB : B ≤ w.heap.size) (hxm : xs.length ≤ 1048576) (hnil : A = none → c = 0) :
    Calls Tryz.prog 143 #[.slice A xs.length c] w (RetRow 65 4 xs.length (cellsOf fixupC xs) w) := by
  obtain ⟨i0, hi, hz0, hz1, hz2⟩ := info_parts CFixups.info
  have hq := fun W => Lib.run_eql_slice_nil (P := Tryz.prog) W 59 65 A xs.length c 0 0 Tryz.underlying59
  cases A with
  | none =>
    have hxs : xs = [] := by
      cases xs with
      | nil => rfl
      | cons u r =>
        obtain ⟨b, off, e', _⟩ := hx 0 _ rfl
        cases e'
    subst hxs
    have hc := hnil rfl
    subst hc
    clear hnil hx
    simp only [Option.isNone_none, List.length_nil] at hq
    show Calls _ _ #[.slice none 0 0] _ _
    go_enter Tryz.func143, Tryz.ntmps143
    go_wp2_with fail
    go_ret
    exact ⟨none, 0, rfl, Row.empty _ _ _ _ _, Below.refl _ _⟩
  | some ad =>
    have HX := hide ((hx.more hB).below ((Below.refl _ _).alloc (Nat.le_refl _) (.cells #[] 65)))
    have HB : Hid (Below w.heap.size w (w.alloc (.cells #[] 65))) := (by repeat (first | exact Below.refl _ _ | with_reducible assumption | (refine Below.drew ?_) | (refine Below.drewN ?_ _) | (refine Below.alloc ?_ (by simp; try omega) _) | (refine Below.setCell ?_ (by simp; try omega) _)))
    have HI := hide (And.intro hi (And.intro hz0 (And.intro hz1 hz2)))
    simp only [Option.isNone_some] at hq
    clear hx hnil hi hz0 hz1 hz2
    go_enter Tryz.func143, Tryz.ntmps143
    go_wp2_with (at_builtin; refine wpList_app _ rfl (.tmp 5) (.tmp 6) 59 rfl 65 i0 (.agg #[.int .i64 0, .int .i64 0, .int .i64 0, .int .i64 0]) 4 32 Tryz.underlying59 HI.out.1 HI.out.2.1 HI.out.2.2.1 HI.out.2.2.2 rfl (by decide) w.heap.size (some ⟨w.heap.size, 0, none⟩) 0 0 [] rfl (Row.empty _ _ _ _ _) HB.out.size (some ad) xs.length c (cellsOf fixupC xs) rfl HX.out (cellsOf_len fixupC_len xs) (fun h => by cases h) (one_fix xs) ?n1 ?n2 ?_)
    case n1 => unfold maxLen; omega
    case n2 => omega
    intro A6 n6 c6 w6 hn6 o6 g6 k6
    have hn6 : n6 = xs.length := by omega
    have HO6 := hide (show Row w6 w.heap.size 65 4 A6 n6 c6 (cellsOf fixupC xs) from o6)
    have HB6 := hide (HB.out.grown g6 HB.out.size (fun k hk => by cases hk))
    clear o6 g6 k6
    subst hn6
    go_wp2_with fail
    go_ret
    exact ⟨A6, c6, rfl, HO6.out, HB6.out⟩
theorem clone8_any (A : Option Addr) (xs : List Int) (c B : Nat) (w : World) (hx : Rd w B A (ints .u8 xs)) (hB : B ≤ w.heap.size) (hxm : xs.length ≤ 1048576) (hnil : A = none → c = 0) :
    Calls Tryz.prog 103 #[.slice A xs.length c] w (RetRow 5 1 xs.length (ints .u8 xs) w) := by
  obtain ⟨i0, hi, hz0, hz1, hz2⟩ := info_parts CBytes.info8
  have hq := fun W => Lib.run_eql_slice_nil (P := Tryz.prog) W 22 5 A xs.length c 0 0 Tryz.underlying22
  cases A with
  | none =>
    have hxs : xs = [] := by
      cases xs with
      | nil => rfl
      | cons u r =>
        obtain ⟨b, off, e', _⟩ := hx 0 (.int .u8 u) rfl
        cases e'
    subst hxs
    have hc := hnil rfl
    subst hc
    clear hnil hx
    simp only [Option.isNone_none, List.length_nil] at hq
    show Calls _ _ #[.slice none 0 0] _ _
    go_enter Tryz.func103, Tryz.ntmps103
    go_wp2_with fail
    go_ret
    exact ⟨none, 0, rfl, Row.empty _ _ _ _ _, Below.refl _ _⟩
  | some ad =>
    have HX := hide ((hx.more hB).below ((Below.refl _ _).alloc (Nat.le_refl _) (.cells #[] 5)))
    have HB : Hid (Below w.heap.size w (w.alloc (.cells #[] 5))) := (by repeat (first | exact Below.refl _ _ | with_reducible assumption | (refine Below.drew ?_) | (refine Below.drewN ?_ _) | (refine Below.alloc ?_ (by simp; try omega) _) | (refine Below.setCell ?_ (by simp; try omega) _)))
    have HI := hide (And.intro hi (And.intro hz0 (And.intro hz1 hz2)))
    simp only [Option.isNone_some] at hq
    clear hx hnil hi hz0 hz1 hz2
    go_enter Tryz.func103, Tryz.ntmps103
    go_wp2_with (at_builtin; refine wpList_app _ rfl (.tmp 5) (.tmp 6) 22 rfl 5 i0 (.int .u8 0) 1 1 Tryz.underlying22 HI.out.1 HI.out.2.1 HI.out.2.2.1 HI.out.2.2.2 rfl (by decide) w.heap.size (some ⟨w.heap.size, 0, none⟩) 0 0 [] rfl (Row.empty _ _ _ _ _) HB.out.size (some ad) xs.length c (ints .u8 xs) rfl HX.out (by simp) (fun h => by cases h) (one_ints _ xs) ?n1 ?n2 ?_)
    case n1 => unfold maxLen; omega
    case n2 => omega
    intro A6 n6 c6 w6 hn6 o6 g6 k6
    have hn6 : n6 = xs.length := by omega
    have HO6 := hide (show Row w6 w.heap.size 5 1 A6 n6 c6 (ints .u8 xs) from o6)
    have HB6 := hide (HB.out.grown g6 HB.out.size (fun k hk => by cases hk))
    clear o6 g6 k6
    subst hn6
    go_wp2_with fail
    go_ret
    exact ⟨A6, c6, rfl, HO6.out, HB6.out⟩
end Go.Proofs.YtepoiphmmjfbdaaGreatDoor.CClones
/- The program's copyObject: an object in new memory. -/
namespace Go.Proofs.YtepoiphmmjfbdaaGreatDoor.CCopyI
set_option maxRecDepth 200000
open Go.ChangeShapes Go.WideShapes Go.ChangeAt Go.RowKit Kit CFixups CSymbols PObj BObj CMarkRows CObjValid CCopyS CClones
set_option maxHeartbeats 2000000 in
theorem copyObject_any (o : OV) (w : World) (hr : RdO w w.heap.size o) (hf : Fit o) (hn : Nils o) (hs : o.ps.length ≤ 100 ∧ o.ys.length ≤ 100) :
    Calls Tryz.prog 90 #[.agg #[.slice o.A o.ps.length o.c, .slice o.Y o.ys.length o.yc]] w (RetO o.d w) := by
  obtain ⟨ix, hx1, hx2, hx3, hx4⟩ := info_parts BObj.info
  have HIX := hide (And.intro hx1 (And.intro hx2 (And.intro hx3 hx4)))
  clear hx1 hx2 hx3 hx4
  obtain ⟨A, c, ps, Y, yc, ys⟩ := o
  obtain ⟨np, ny, cy, hp, hy⟩ := hf
  obtain ⟨ny0, np0⟩ := hn
  obtain ⟨ss1, ss2⟩ := hs
  simp only at np ny cy hp hy ny0 np0 ss1 ss2 ⊢
  have HR := hide hr
  have HL := hide (And.intro hp np0)
  have HNY := hide ny0
  clear hr hp hy np0 ny0
  have B0 : Below w.heap.size w ((w.alloc (.cells #[.slice A ps.length c, .slice Y ys.length yc] 26)).alloc (.cells #[.slice none 0 0, .slice none 0 0] 26)) := (by repeat (first | exact Below.refl _ _ | with_reducible assumption | (refine Below.drew ?_) | (refine Below.drewN ?_ _) | (refine Below.alloc ?_ (by simp; try omega) _) | (refine Below.setCell ?_ (by simp; try omega) _)))
  have HV0 := hide ((Box.new w 26 #[.slice A ps.length c, .slice Y ys.length yc]).alloc (.cells #[.slice none 0 0, .slice none 0 0] 26))
  have HR0 := (Box.new (w.alloc (.cells #[.slice A ps.length c, .slice Y ys.length yc] 26)) 26 #[.slice none 0 0, .slice none 0 0])
  simp only [World.size_alloc] at HR0
  have HRR0 := hide HR0
  clear HR0
  have HB0 := hide B0
  have hVR : w.heap.size < w.heap.size + 1 := by omega
  clear B0
  go_enter Tryz.func90, Tryz.ntmps90
  go_wp2_with fail
  refine (cloneY_any Y ys yc w.heap.size _ (HR.out.2.below HB0.out) HB0.out.size (by omega) HNY.out).mono ?_
  rintro e w1 ⟨A1, c1, rfl, o1, b1⟩
  have HB1 := hide (HB0.out.trans (b1.mono HB0.out.size))
  have HV1 := hide (HV0.out.call b1)
  have HRR1 := hide (HRR0.out.call b1)
  have HY1 := hide (o1.down HB0.out.size)
  have hR0 := HRR1.out.lt
  have v0 := HV1.out.cell 0
  simp only [List.getElem?_toArray, List.getElem?_cons_zero, List.getElem?_cons_succ] at v0
  have hvl1 := HV1.out.lt
  clear o1 b1 HB0 HV0 HRR0
  go_wp2_with fail
  clear v0
  have HX2 := hide (Box.new w1 26 #[.slice none 0 0, .slice A1 ys.length c1])
  have HB2 := hide (HB1.out.alloc HB1.out.size (.cells #[.slice none 0 0, .slice A1 ys.length c1] 26))
  have HV2 := hide (HV1.out.alloc (.cells #[.slice none 0 0, .slice A1 ys.length c1] 26))
  have HRR2 := hide (HRR1.out.alloc (.cells #[.slice none 0 0, .slice A1 ys.length c1] 26))
  have HY2 := hide (HY1.out.alloc (.cells #[.slice none 0 0, .slice A1 ys.length c1] 26))
  clear HB1 HV1 HRR1 HY1
  generalize w1.alloc (.cells #[.slice none 0 0, .slice A1 ys.length c1] 26) = w2 at *
  have hRX : w.heap.size + 1 < w1.heap.size := hR0
  have hVX : w.heap.size < w1.heap.size := by omega
  generalize w1.heap.size = X at *
  generalize w.heap.size + 1 = R at *
  go_loopw [13] (fun i wi => ∃ (k : Nat) (qs : List SV) (Aq : Option Addr) (cq : Nat), k ≤ ps.length ∧ qs.length = k ∧ i = .int .i64 k ∧ qs.map SV.d = (ps.take k).map SV.d ∧ OwnSs wi w.heap.size Aq cq qs ∧ Box wi X 26 #[.slice Aq k cq, .slice A1 ys.length c1] ∧ Row wi w.heap.size 67 4 A1 ys.length c1 (cellsOf symbolC ys) ∧ Box wi w.heap.size 26 #[.slice A ps.length c, .slice Y ys.length yc] ∧ Box wi R 26 #[.slice none 0 0, .slice none 0 0] ∧ Below w.heap.size w wi) (fun i _ => ps.length - (intOf i).toNat)
  case atStart => exact ⟨0, [], none, 0, Nat.zero_le _, rfl, rfl, rfl, ⟨Row.empty _ _ _ _ _, (fun p hp => by cases hp), List.Pairwise.nil⟩, HX2.out, HY2.out, HV2.out, HRR2.out, HB2.out⟩
  case round =>
    clear HX2 HY2 HV2 HRR2 HB2
    obtain ⟨k, qs, Aq, cq, hk, hql, rfl, hqd, ho, hx, hrow, hv, hrr, hb⟩ := hrel
    have HO := hide ho
    have HX := hide hx
    have HY := hide hrow
    have HV := hide hv
    have HRR := hide hrr
    have HB := hide hb
    have HQ := hide (And.intro hql hqd)
    have v0 := hv.cell 0
    have x0 := hx.cell 0
    have x1 := hx.cell 1
    simp only [List.getElem?_toArray, List.getElem?_cons_zero, List.getElem?_cons_succ] at v0 x0 x1
    have hvl := hv.lt
    have hxl := hx.lt
    by_cases hlt : k < ps.length
    · obtain ⟨b, off, hA, hbg, hc⟩ := (HR.out.1.1.below hb).row secC_len (by decide) hlt
      have hbw : b < wr.heap.size := Nat.lt_of_lt_of_le hbg hb.size
      have hc0 := hc 0 _ rfl
      have hc1 := hc 1 _ rfl
      have hc2 := hc 2 _ rfl
      have hc3 := hc 3 _ rfl
      have hc4 := hc 4 _ rfl
      have hc5 := hc 5 _ rfl
      simp only [Nat.add_zero] at hc0
      have HM := hide (HL.out.1 _ (List.getElem_mem hlt))
      have HN := hide (HL.out.2 _ (List.getElem_mem hlt))
      have HRS := hide (HR.out.1.2 _ (List.getElem_mem hlt))
      have HD := hide (show (qs ++ [ps[k]]).map SV.d = (ps.take (k + 1)).map SV.d by rw [take_succ hlt, List.map_append, List.map_append, hqd])
      clear hql hqd ho hx hrow hv hrr hb hc
      subst hA
      generalize ps[k] = p at *
      have hmz := HM.out.2.1
      have hmf := HM.out.2.2
      go_wp2_with fail
      have HSa := Box.new wr 61 #[.string p.nm, .int .i64 p.kd, .int .i64 p.al, .slice p.A p.zs.length p.c, .int .i64 p.sz, .slice p.F p.fs.length p.fc]
      have HBA := hide (show Below wr.heap.size wr (wr.alloc (.cells #[.string p.nm, .int .i64 p.kd, .int .i64 p.al, .slice p.A p.zs.length p.c, .int .i64 p.sz, .slice p.F p.fs.length p.fc] 61)) from (by repeat (first | exact Below.refl _ _ | with_reducible assumption | (refine Below.drew ?_) | (refine Below.drewN ?_ _) | (refine Below.alloc ?_ (by simp; try omega) _) | (refine Below.setCell ?_ (by simp; try omega) _))))
      generalize wr.alloc (.cells #[.string p.nm, .int .i64 p.kd, .int .i64 p.al, .slice p.A p.zs.length p.c, .int .i64 p.sz, .slice p.F p.fs.length p.fc] 61) = wa at *
      have Z0 : wa.cell? ⟨wr.heap.size, 3, none⟩ = some (.slice p.A p.zs.length p.c) ∧ wa.cell? ⟨wr.heap.size, 5, none⟩ = some (.slice p.F p.fs.length p.fc) := ⟨HSa.cell 3, HSa.cell 5⟩
      have hSa := HSa.lt
      have HS := hide HSa
      have HWA := hide (HB.out.trans (HBA.out.mono HB.out.size))
      clear HSa hc0 hc1 hc2 hc3 hc4 hc5 v0 x0 x1
      refine Reg.startT (fun W => W.cell? ⟨wr.heap.size, 3, none⟩ = some (.slice p.A p.zs.length p.c) ∧ W.cell? ⟨wr.heap.size, 5, none⟩ = some (.slice p.F p.fs.length p.fc)) (fun j => j == 7 || j == 8 || j == 9) (by kernel_rfl) ?_
      have hHeld : wa.drew.cell? ⟨wr.heap.size, 3, none⟩ = some (.slice p.A p.zs.length p.c) ∧ wa.drew.cell? ⟨wr.heap.size, 5, none⟩ = some (.slice p.F p.fs.length p.fc) := Z0
      refine Reg.takeT (i := 0) (v := ?_) rfl (by kernel_rfl) (by kernel_rfl) (by kernel_rfl) (by kernel_rfl) (fun _ _ _ h => h) (Or.inl ⟨by rfl, ?_⟩) (by assumption) ?_
      rotate_left 1
      focus (intro w hSw; (try dsimp only at hSw); go_simp; (try with_reducible rfl))
      try simp only [List.getElem_toArray, List.getElem_cons_succ, List.getElem_cons_zero, Act.put, List.setIfInBounds_toArray, List.set_cons_zero, List.set_cons_succ]
      refine Reg.takeT (i := 1) (v := ?_) rfl (by kernel_rfl) (by kernel_rfl) (by kernel_rfl) (by kernel_rfl) (fun _ _ _ h => h) (Or.inl ⟨by rfl, ?_⟩) (by assumption) ?_
      rotate_left 1
      focus (intro w hSw; (try dsimp only at hSw); go_simp; (try with_reducible rfl))
      try simp only [List.getElem_toArray, List.getElem_cons_succ, List.getElem_cons_zero, Act.put, List.setIfInBounds_toArray, List.set_cons_zero, List.set_cons_succ]
      refine Reg.takeT (i := 3) (v := ?_) rfl (by kernel_rfl) (by kernel_rfl) (by kernel_rfl) (by kernel_rfl) (fun _ _ _ h => h) (Or.inl ⟨by rfl, ?_⟩) (by assumption) ?_
      rotate_left 1
      focus (intro w hSw; (try dsimp only at hSw); go_simp; (try with_reducible rfl))
      try simp only [List.getElem_toArray, List.getElem_cons_succ, List.getElem_cons_zero, Act.put, List.setIfInBounds_toArray, List.set_cons_zero, List.set_cons_succ]
      refine Reg.takeT (i := 4) (v := ?_) rfl (by kernel_rfl) (by kernel_rfl) (by kernel_rfl) (by kernel_rfl) (fun _ _ _ h => h) (Or.inl ⟨by rfl, ?_⟩) (by assumption) ?_
      rotate_left 1
      focus (intro w hSw; (try dsimp only at hSw); go_simp; (try with_reducible rfl))
      try simp only [List.getElem_toArray, List.getElem_cons_succ, List.getElem_cons_zero, Act.put, List.setIfInBounds_toArray, List.set_cons_zero, List.set_cons_succ]
      clear hHeld
      refine Reg.oneT (i := 2) rfl (by kernel_rfl) (fun K hK => ?_)
      go_simp
      refine (clone8_any p.A p.zs p.c w.heap.size _ (HRS.out.1.below (HWA.out.drew)) (show w.heap.size ≤ wa.drew.heap.size from HWA.out.size) (by omega) HN.out.1).mono ?_
      rintro e w2 ⟨A2, c2, rfl, o2, b2⟩
      have b2' : Below wa.heap.size wa w2 := below_drawn b2
      have HS2 := hide (HS.out.call b2')
      have HA2 := hide (And.intro (o2.down (show w.heap.size ≤ wa.drew.heap.size from HWA.out.size)) (fun k (hk : blk A2 c2 = some k) => (show wr.heap.size ≤ k from Nat.le_trans HBA.out.size ((o2.lt k hk).1))))
      have HBt := hide (HBA.out.trans (b2'.mono HBA.out.size))
      have hHeld : w2.cell? ⟨wr.heap.size, 3, none⟩ = some (.slice p.A p.zs.length p.c) ∧ w2.cell? ⟨wr.heap.size, 5, none⟩ = some (.slice p.F p.fs.length p.fc) := ⟨HS2.out.cell 3, HS2.out.cell 5⟩
      clear o2 b2 b2' HS Z0
      refine hK.out _ _ hHeld ?_
      clear hK K
      try simp only [List.getElem_toArray, List.getElem_cons_succ, List.getElem_cons_zero, Act.put, List.setIfInBounds_toArray, List.set_cons_zero, List.set_cons_succ]
      refine Reg.takeT (i := 6) (v := ?_) rfl (by kernel_rfl) (by kernel_rfl) (by kernel_rfl) (by kernel_rfl) (fun _ _ _ h => h) (Or.inl ⟨by rfl, ?_⟩) (by assumption) ?_
      rotate_left 1
      focus (intro w hSw; (try dsimp only at hSw); go_simp; (try with_reducible rfl))
      try simp only [List.getElem_toArray, List.getElem_cons_succ, List.getElem_cons_zero, Act.put, List.setIfInBounds_toArray, List.set_cons_zero, List.set_cons_succ]
      clear hHeld
      refine Reg.oneT (i := 5) rfl (by kernel_rfl) (fun K hK => ?_)
      go_simp
      have HW2 := hide (HB.out.trans (HBt.out.mono HB.out.size))
      refine (cloneF_any p.F p.fs p.fc w.heap.size _ (HRS.out.2.below HW2.out) HW2.out.size (by omega) HN.out.2).mono ?_
      rintro e w4 ⟨A5, c5, rfl, o5, b5⟩
      have HS4 := hide (HS2.out.call b5)
      have HA4 := hide (HA2.out.1.call b5)
      have HA2k := hide HA2.out.2
      have HF4 := hide (And.intro (o5.down HW2.out.size) (fun k (hk : blk A5 c5 = some k) => (show wr.heap.size ≤ k from Nat.le_trans HBt.out.size ((o5.lt k hk).1))))
      have HB4 := hide (HBt.out.trans (b5.mono HBt.out.size))
      have hHeld : w4.cell? ⟨wr.heap.size, 3, none⟩ = some (.slice p.A p.zs.length p.c) ∧ w4.cell? ⟨wr.heap.size, 5, none⟩ = some (.slice p.F p.fs.length p.fc) := ⟨HS4.out.cell 3, HS4.out.cell 5⟩
      have sf3 := HS4.out.frozen 3
      have sf5 := HS4.out.frozen 5
      have s3 := hHeld.1
      have s5 := hHeld.2
      have hSl4 := HS4.out.lt
      clear o5 b5 HS2 HA2 HBt HW2
      refine hK.out _ _ hHeld ?_
      clear hK K
      try simp only [List.getElem_toArray, List.getElem_cons_succ, List.getElem_cons_zero, Act.put, List.setIfInBounds_toArray, List.set_cons_zero, List.set_cons_succ]
      refine Reg.lastT (i := 7) rfl (by kernel_rfl) (by rfl) (fun K hK => ?_)
      go_simp
      refine hK.out _ _ ?_
      clear hK K
      try simp only [List.getElem_toArray, List.getElem_cons_succ, List.getElem_cons_zero, Act.put, List.setIfInBounds_toArray, List.set_cons_zero, List.set_cons_succ]
      refine Reg.lastT (i := 8) rfl (by kernel_rfl) (by rfl) (fun K hK => ?_)
      go_simp
      refine hK.out _ _ ?_
      clear hK K
      try simp only [List.getElem_toArray, List.getElem_cons_succ, List.getElem_cons_zero, Act.put, List.setIfInBounds_toArray, List.set_cons_zero, List.set_cons_succ]
      refine Reg.lastT (i := 9) rfl (by kernel_rfl) (by rfl) (fun K hK => ?_)
      go_simp
      refine hK.out _ _ ?_
      clear hK K hHeld s3 s5
      try simp only [List.getElem_toArray, List.getElem_cons_succ, List.getElem_cons_zero, Act.put, List.setIfInBounds_toArray, List.set_cons_zero, List.set_cons_succ]
      refine Reg.doneT (by kernel_rfl) ?_ _
      have HS5 := hide (show Box (w4.setCell ⟨wr.heap.size, 3, none⟩ (.slice A2 p.zs.length c2)) wr.heap.size 61 #[.string p.nm, .int .i64 p.kd, .int .i64 p.al, .slice A2 p.zs.length c2, .int .i64 p.sz, .slice p.F p.fs.length p.fc] from HS4.out.set 3 _)
      have HA5 := hide (HA4.out.set (a := ⟨wr.heap.size, 3, none⟩) (HA4.out.box HS4.out (by decide)) (.slice A2 p.zs.length c2))
      have HF5 := hide (And.intro (HF4.out.1.set (a := ⟨wr.heap.size, 3, none⟩) (HF4.out.1.box HS4.out (by decide)) (.slice A2 p.zs.length c2)) HF4.out.2)
      have HBt := hide (HB4.out.setCell (p := ⟨wr.heap.size, 3, none⟩) (Nat.le_refl _) (.slice A2 p.zs.length c2))
      clear HS4 HA4 HF4 HB4 sf3 sf5
      generalize w4.setCell ⟨wr.heap.size, 3, none⟩ (.slice A2 p.zs.length c2) = w5 at *
      have s0 := HS5.out.cell 0
      have s1 := HS5.out.cell 1
      have s2 := HS5.out.cell 2
      have s3 := HS5.out.cell 3
      have s4 := HS5.out.cell 4
      have s5 := HS5.out.cell 5
      have sf5 := HS5.out.frozen 5
      simp only [List.getElem?_toArray, List.getElem?_cons_zero, List.getElem?_cons_succ] at s0 s1 s2 s3 s4 s5
      have hSl5 := HS5.out.lt
      -- the world behind the stores into the section's variable
      have HB6 := hide (show Below wr.heap.size wr (w5.setCell ⟨wr.heap.size, 5, none⟩ (.slice A5 p.fs.length c5)) from HBt.out.setCell (p := ⟨wr.heap.size, 5, none⟩) (Nat.le_refl _) _)
      have HA6 := hide (HA5.out.set (a := ⟨wr.heap.size, 5, none⟩) (HA5.out.box HS5.out (by decide)) (.slice A5 p.fs.length c5))
      have HF6 := hide (HF5.out.1.set (a := ⟨wr.heap.size, 5, none⟩) (HF5.out.1.box HS5.out (by decide)) (.slice A5 p.fs.length c5))
      have HFk := hide HF5.out.2
      have HX6 := hide (HX.out.call HB6.out)
      have x0 := HX6.out.cell 0
      have x1 := HX6.out.cell 1
      have xf0 := HX6.out.frozen 0
      simp only [List.getElem?_toArray, List.getElem?_cons_zero, List.getElem?_cons_succ] at x0 x1
      have HSS6 := hide (show Box (w5.setCell ⟨wr.heap.size, 5, none⟩ (.slice A5 p.fs.length c5)) wr.heap.size 61 #[.string p.nm, .int .i64 p.kd, .int .i64 p.al, .slice A2 p.zs.length c2, .int .i64 p.sz, .slice A5 p.fs.length c5] from HS5.out.set 5 _)
      have u0 := HSS6.out.cell 0
      have u1 := HSS6.out.cell 1
      have u2 := HSS6.out.cell 2
      have u3 := HSS6.out.cell 3
      have u4 := HSS6.out.cell 4
      have u5 := HSS6.out.cell 5
      simp only [List.getElem?_toArray, List.getElem?_cons_zero, List.getElem?_cons_succ] at u0 u1 u2 u3 u4 u5
      have HO6 := hide (HO.out.call HB6.out)
      have HY6 := hide (HY.out.call HB6.out)
      have HV6 := hide (HV.out.call HB6.out)
      have HRR6 := hide (HRR.out.call HB6.out)
      have HBW6 := hide (HB.out.trans (HB6.out.mono HB.out.size))
      have HQlt := hide (fun x (hx : x ∈ qs) k (hk : sblk x k) => (show k < wr.heap.size from ((HO.out.2.1 x hx).lt k hk).2))
      have hcl : (cellsOf secC qs).length = k * 6 := by rw [cellsOf_len secC_len, HQ.out.1]
      clear HA5 HF5 HX HO HY HV HRR HB HBt HS5
      have hz6 : (w5.setCell ⟨wr.heap.size, 5, none⟩ (.slice A5 p.fs.length c5)).heap.size = w5.heap.size := by simp [World.setCell]
      have HSEC := hide (show Row ((w5.setCell ⟨wr.heap.size, 5, none⟩ (.slice A5 p.fs.length c5)).alloc (.cells #[.string p.nm, .int .i64 p.kd, .int .i64 p.al, .slice A2 p.zs.length c2, .int .i64 p.sz, .slice A5 p.fs.length c5] 61)) w.heap.size 61 6 Aq k cq (cellsOf secC qs) from by
        have h := (HO6.out.1).alloc (.cells #[.string p.nm, .int .i64 p.kd, .int .i64 p.al, .slice A2 p.zs.length c2, .int .i64 p.sz, .slice A5 p.fs.length c5] 61)
        rw [HQ.out.1] at h
        exact h)
      have HW7 := hide (HBW6.out.alloc HBW6.out.size (.cells #[.string p.nm, .int .i64 p.kd, .int .i64 p.al, .slice A2 p.zs.length c2, .int .i64 p.sz, .slice A5 p.fs.length c5] 61))
      go_wp2_with (at_builtin; refine wpList_app _ rfl (.tmp 26) (.tmp 28) 23 rfl 61 ix (.agg #[.string ByteArray.empty, .int .i64 0, .int .i64 0, .slice none 0 0, .int .i64 0, .slice none 0 0]) 6 88 Tryz.underlying23 HIX.out.1 HIX.out.2.1 HIX.out.2.2.1 HIX.out.2.2.2 rfl (by decide) w.heap.size Aq k cq (cellsOf secC qs) rfl HSEC.out HW7.out.size (some ⟨w5.heap.size, 0, none⟩) 1 1 [.string p.nm, .int .i64 p.kd, .int .i64 p.al, .slice A2 p.zs.length c2, .int .i64 p.sz, .slice A5 p.fs.length c5] rfl (rd_lit (w5.setCell ⟨wr.heap.size, 5, none⟩ (.slice A5 p.fs.length c5)) #[.string p.nm, .int .i64 p.kd, .int .i64 p.al, .slice A2 p.zs.length c2, .int .i64 p.sz, .slice A5 p.fs.length c5] 61 _ hz6.symm) rfl (fun h => by cases h) ?o1 ?n1 ?n2 ?_)
      case o1 => intro u hu; simp only [List.mem_cons, List.not_mem_nil, or_false] at hu; rcases hu with rfl | rfl | rfl | rfl | rfl | rfl <;> rfl
      case n1 => unfold maxLen; omega
      case n2 => omega
      intro A8 n8 c8 w8 hn8 o8 g8 k8
      subst hn8
      have HX7 := hide ((HX6.out.alloc (.cells #[.string p.nm, .int .i64 p.kd, .int .i64 p.al, .slice A2 p.zs.length c2, .int .i64 p.sz, .slice A5 p.fs.length c5] 61)).grown g8 (fun j hj => HSEC.out.box (HX6.out.alloc _) (by decide) j hj))
      have HV7 := hide ((HV6.out.alloc (.cells #[.string p.nm, .int .i64 p.kd, .int .i64 p.al, .slice A2 p.zs.length c2, .int .i64 p.sz, .slice A5 p.fs.length c5] 61)).grown g8 (fun j hj => HSEC.out.box (HV6.out.alloc _) (by decide) j hj))
      have HRR7 := hide ((HRR6.out.alloc (.cells #[.string p.nm, .int .i64 p.kd, .int .i64 p.al, .slice A2 p.zs.length c2, .int .i64 p.sz, .slice A5 p.fs.length c5] 61)).grown g8 (fun j hj => HSEC.out.box (HRR6.out.alloc _) (by decide) j hj))
      have HY7 := hide ((HY6.out.alloc (.cells #[.string p.nm, .int .i64 p.kd, .int .i64 p.al, .slice A2 p.zs.length c2, .int .i64 p.sz, .slice A5 p.fs.length c5] 61)).grown g8 (fun j hj h => apartT (HY6.out.alloc _) HSEC.out (by decide) j hj h))
      have HBW7 := hide (HW7.out.grown g8 HW7.out.size (fun j hj => (HSEC.out.lt j hj).1))
      have hgrow : ∀ x : SV, RwS ((w5.setCell ⟨wr.heap.size, 5, none⟩ (.slice A5 p.fs.length c5)).alloc (.cells #[.string p.nm, .int .i64 p.kd, .int .i64 p.al, .slice A2 p.zs.length c2, .int .i64 p.sz, .slice A5 p.fs.length c5] 61)) w.heap.size x → RwS w8 w.heap.size x := fun x hx => ⟨hx.1.grown g8 (fun j hj h => apartT hx.1 HSEC.out (by decide) j hj h), hx.2.grown g8 (fun j hj h => apartT hx.2 HSEC.out (by decide) j hj h)⟩
      have hq7 : RwS ((w5.setCell ⟨wr.heap.size, 5, none⟩ (.slice A5 p.fs.length c5)).alloc (.cells #[.string p.nm, .int .i64 p.kd, .int .i64 p.al, .slice A2 p.zs.length c2, .int .i64 p.sz, .slice A5 p.fs.length c5] 61)) w.heap.size ⟨p.nm, p.kd, p.al, A2, c2, p.zs, p.sz, A5, c5, p.fs⟩ := ⟨HA6.out.alloc _, HF6.out.alloc _⟩
      have hqs7 : ∀ x ∈ qs, RwS ((w5.setCell ⟨wr.heap.size, 5, none⟩ (.slice A5 p.fs.length c5)).alloc (.cells #[.string p.nm, .int .i64 p.kd, .int .i64 p.al, .slice A2 p.zs.length c2, .int .i64 p.sz, .slice A5 p.fs.length c5] 61)) w.heap.size x := fun x hx => (HO6.out.2.1 x hx).call ((Below.refl _ _).alloc (Nat.le_refl _) _)
      have hX7 := HX7.out
      have HOW := hide (show OwnSs (w8.setCell ⟨X, 0, none⟩ (.slice A8 (k + 1) c8)) w.heap.size A8 c8 (qs ++ [⟨p.nm, p.kd, p.al, A2, c2, p.zs, p.sz, A5, c5, p.fs⟩]) from by
        refine ⟨?_, ?_, ?_⟩
        · have h := (show Row w8 w.heap.size 61 6 A8 (k + 1) c8 _ from o8).set (a := ⟨X, 0, none⟩) ((show Row w8 w.heap.size 61 6 A8 (k + 1) c8 _ from o8).box hX7 (by decide)) (.slice A8 (k + 1) c8)
          rw [cells_snoc, List.length_append, HQ.out.1]
          exact h
        · refine RwSs.snoc (fun x hx => ?_) ?_
          · exact (hgrow x (hqs7 x hx)).set (a := ⟨X, 0, none⟩) ((hgrow x (hqs7 x hx)).box hX7 (by decide) (by decide)) _
          · exact (hgrow _ hq7).set (a := ⟨X, 0, none⟩) ((hgrow _ hq7).box hX7 (by decide) (by decide)) _
        · refine HO6.out.2.2.snoc (N := wr.heap.size) HQlt.out ?_
          rintro j (hj | hj)
          · exact HA2k.out j hj
          · exact HFk.out j hj)
      have HX8 := hide (show Box (w8.setCell ⟨X, 0, none⟩ (.slice A8 (k + 1) c8)) X 26 #[.slice A8 (k + 1) c8, .slice A1 ys.length c1] from hX7.set 0 _)
      have HY8 := hide (HY7.out.set (a := ⟨X, 0, none⟩) (HY7.out.box hX7 (by decide)) (.slice A8 (k + 1) c8))
      have HV8 := hide (HV7.out.far (p := ⟨X, 0, none⟩) (Nat.ne_of_lt hVX) (.slice A8 (k + 1) c8))
      have HRR8 := hide (HRR7.out.far (p := ⟨X, 0, none⟩) (Nat.ne_of_lt hRX) (.slice A8 (k + 1) c8))
      have HB8 := hide (HBW7.out.setCell (p := ⟨X, 0, none⟩) (Nat.le_of_lt hVX) (.slice A8 (k + 1) c8))
      have x0 := hX7.cell 0
      have x1 := hX7.cell 1
      have xf0 := hX7.frozen 0
      simp only [List.getElem?_toArray, List.getElem?_cons_zero, List.getElem?_cons_succ] at x0 x1
      have hxl8 := hX7.lt
      clear o8 g8 k8 hgrow hq7 hqs7 hX7 HX7 HV7 HRR7 HY7 HBW7 HSEC HW7 HO6 HY6 HV6 HRR6 HBW6 HX6 HSS6 u0 u1 u2 u3 u4 u5 s0 s1 s2 s3 s4 s5 sf5
      go_wp2_with fail
      refine ⟨⟨k + 1, qs ++ [⟨p.nm, p.kd, p.al, A2, c2, p.zs, p.sz, A5, c5, p.fs⟩], A8, c8, by omega, by simp [HQ.out.1], by go_num, ?_, HOW.out, HX8.out, HY8.out, HV8.out, HRR8.out, HB8.out⟩, by simp [intOf]; omega⟩
      rw [← HD.out, List.map_append, List.map_append]
      rfl
    · have e : k = ps.length := by omega
      have hqd' : qs.map SV.d = ps.map SV.d := by rw [hqd, List.take_of_length_le (by omega)]
      have HOO := hide (show OwnO wr w.heap.size ⟨Aq, cq, qs, A1, c1, ys⟩ from ⟨ho, hrow⟩)
      have HDD := hide (show OV.d ⟨Aq, cq, qs, A1, c1, ys⟩ = OV.d ⟨A, c, ps, Y, yc, ys⟩ by simp only [OV.d, hqd'])
      have HNE := hide (show ∀ j, oblk ⟨Aq, cq, qs, A1, c1, ys⟩ j → j ≠ R from by
        rintro j ((hj | ⟨x, hx, hj⟩) | hj)
        · exact ho.1.box hrr (by decide) j hj
        · exact (ho.2.1 x hx).box hrr (by decide) (by decide) j hj
        · exact hrow.box hrr (by decide) j hj)
      have HFIN := hide (CObject.ret_object HOO.out HB.out HNE.out (Nat.le_of_lt hVR))
      rw [HDD.out] at HFIN
      have y0 := hrr.cell 0
      have y1 := hrr.cell 1
      have yf0 := hrr.frozen 0
      have yf1 := hrr.frozen 1
      have hrl := hrr.lt
      simp only [List.getElem?_toArray, List.getElem?_cons_zero, List.getElem?_cons_succ] at y0 y1
      have kk := (HRR.out.set 0 (.slice Aq qs.length cq)).set 1 (.slice A1 ys.length c1)
      have k0 := kk.cell 0
      have k1 := kk.cell 1
      simp only [List.setIfInBounds_toArray, List.set_cons_zero, List.set_cons_succ, List.getElem?_toArray, List.getElem?_cons_zero, List.getElem?_cons_succ] at k0 k1
      clear kk ho hx hrow hv hrr hb hqd hqd' e
      subst hql
      go_wp2_with fail
      exact bodyPost_ret (v := OV.v ⟨Aq, cq, qs, A1, c1, ys⟩) (by simp [results, Tryz.results90, go_sem, OV.v, k0, k1]) rfl HFIN.out
end Go.Proofs.YtepoiphmmjfbdaaGreatDoor.CCopyI
/- Stores into an object of one's own: a byte, a fixup's To, a symbol. -/
namespace Go.Proofs.YtepoiphmmjfbdaaGreatDoor.BStore
set_option maxRecDepth 200000
open Go.ChangeShapes Go.WideShapes Go.ChangeAt Go.RowKit Kit CFixups CSymbols PObj BObj CMarkRows
theorem own_of {w : World} {base : Nat} {e : TypeId} {size n c : Nat} {A : Option Addr} {xs : List Value} (h : Row w base e size A n c xs) (hn : 0 < n) :
    ∃ g, A = some ⟨g, 0, none⟩ ∧ base ≤ g ∧ g < w.heap.size ∧ blk A c = some g ∧ w.ownsRow base e size (.slice (some ⟨g, 0, none⟩) n c) n xs := by
  have hc : c ≠ 0 := by
    have := h.cap.1
    omega
  have hown : w.ownsRow base e size (.slice A n c) n xs := h.elim (fun h => absurd h.2.1 hc) id
  rcases hown.2 with ⟨hv, h0⟩ | ⟨g, cap, c', hv, hN, _⟩
  · omega
  · injection hv with hA
    subst hA
    have hb : blk (some ⟨g, 0, none⟩) c = some g := by
      unfold blk
      rw [if_neg hc]
      rfl
    exact ⟨g, rfl, hN, (h.lt g hb).2, hb, hown⟩
/-- One section's rows turn, all else stays. -/
theorem OwnO.swap {w w' : World} {base c yc : Nat} {A Y : Option Addr} {l1 l2 : List SV} {q : SV} {ys : List YD} (h : OwnO w base ⟨A, c, l1 ++ q :: l2, Y, yc, ys⟩) (q' : SV)
    (hs : secC q' = secC q) (h1 : q'.A = q.A) (h2 : q'.c = q.c) (h3 : q'.F = q.F) (h4 : q'.fc = q.fc) (hq' : RwS w' base q') (g : Nat) (hg : sblk q g) (hk : ∀ k, k ≠ g → w'.heap[k]? = w.heap[k]?) :
    OwnO w' base ⟨A, c, l1 ++ q' :: l2, Y, yc, ys⟩ := by
  obtain ⟨⟨hrow, hrw, hpw⟩, hy⟩ := h
  simp only at hrow hrw hpw hy
  have hq := hrw q (by simp)
  unfold PwSs at hpw
  obtain ⟨p1, p2, p3⟩ := List.pairwise_append.1 hpw
  obtain ⟨p4, p5⟩ := List.pairwise_cons.1 p2
  have happ : ∀ x, RwS w base x → (ApS x q ∨ ApS q x) → RwS w' base x := by
    rintro x hx ha
    refine ⟨hx.1.keep fun k hb => hk k ?_, hx.2.keep fun k hb => hk k ?_⟩
    · rintro rfl
      rcases hg with hg | hg
      · rcases ha with ha | ha
        · exact ha.1 _ hb hg
        · exact ha.1 _ hg hb
      · exact apartT hx.1 hq.2 (by decide) _ hb hg
    · rintro rfl
      rcases hg with hg | hg
      · exact apartT hx.2 hq.1 (by decide) _ hb hg
      · rcases ha with ha | ha
        · exact ha.2 _ hb hg
        · exact ha.2 _ hg hb
  have hap : ∀ x, (ApS x q' ↔ ApS x q) ∧ (ApS q' x ↔ ApS q x) := fun x => by
    unfold ApS
    rw [h1, h2, h3, h4]
    exact ⟨Iff.rfl, Iff.rfl⟩
  refine ⟨⟨?_, ?_, ?_⟩, ?_⟩
  · have e1 : cellsOf secC (l1 ++ q' :: l2) = cellsOf secC (l1 ++ q :: l2) := by simp [cellsOf, hs]
    have e2 : (l1 ++ q' :: l2).length = (l1 ++ q :: l2).length := by simp
    show Row w' base _ 6 A (l1 ++ q' :: l2).length c (cellsOf secC (l1 ++ q' :: l2))
    rw [e1, e2]
    refine hrow.keep fun k hb => hk k ?_
    rintro rfl
    rcases hg with hg | hg
    · exact apartT hrow hq.1 (by decide) _ hb hg
    · exact apartT hrow hq.2 (by decide) _ hb hg
  · intro x hx
    rcases List.mem_append.1 hx with hx | hx
    · exact happ x (hrw x (by simp [hx])) (.inl (p3 x hx q (List.mem_cons_self ..)))
    · rcases List.mem_cons.1 hx with rfl | hx
      · exact hq'
      · exact happ x (hrw x (by simp [hx])) (.inr (p4 x hx))
  · show (l1 ++ q' :: l2).Pairwise ApS
    refine List.pairwise_append.2 ⟨p1, List.pairwise_cons.2 ⟨fun x hx => (hap x).2.2 (p4 x hx), p5⟩, fun a ha b hb => ?_⟩
    rcases List.mem_cons.1 hb with rfl | hb
    · exact (hap a).1.2 (p3 a ha q (List.mem_cons_self ..))
    · exact p3 a ha b (List.mem_cons_of_mem _ hb)
  · show Row w' base _ 4 Y ys.length yc _
    refine hy.keep fun k hb => hk k ?_
    rintro rfl
    rcases hg with hg | hg
    · exact apartT hy hq.1 (by decide) _ hb hg
    · exact apartT hy hq.2 (by decide) _ hb hg
/-- The block of a section's row is none of another type's box. -/
theorem setInts8 (l : List Int) (j : Nat) (x : Int) : (ints .u8 l).set j (.int .u8 x) = ints .u8 (l.set j x) := by simp [ints, List.map_set]
theorem OwnO.storeB {w : World} {base c yc : Nat} {A Y : Option Addr} {l1 l2 : List SV} {q : SV} {ys : List YD} (h : OwnO w base ⟨A, c, l1 ++ q :: l2, Y, yc, ys⟩) {g : Nat} (hA : q.A = some ⟨g, 0, none⟩) (i : Nat) (hi : i < q.zs.length) (x : Int) :
    OwnO (w.setCell ⟨g, i, none⟩ (.int .u8 x)) base ⟨A, c, l1 ++ { q with zs := q.zs.set i x } :: l2, Y, yc, ys⟩ := by
  have hq : RwS w base q := h.1.2.1 q (by simp)
  obtain ⟨g', hA', _, _, hb, hown⟩ := own_of hq.1 (by omega)
  rw [hA] at hA'
  simp only [Option.some.injEq, Addr.mk.injEq, and_true] at hA'
  subst hA'
  refine OwnO.swap h { q with zs := q.zs.set i x } (by simp [secC]) rfl rfl rfl rfl ⟨?_, ?_⟩ g (.inl hb) (fun k hk => Below.heap_setCell _ _ _ k hk)
  · refine .inr ?_
    show (w.setCell _ _).ownsRow base _ 1 (.slice q.A (q.zs.set i x).length q.c) (q.zs.set i x).length (ints .u8 (q.zs.set i x))
    rw [List.length_set, ← setInts8, hA]
    exact (hown.stored i _).1
  · exact hq.2.set (a := ⟨g, i, none⟩) (fun k hk e => apartT hq.2 hq.1 (by decide) k hk (by rw [hb, e])) _
theorem setFix (l : List FD) (j : Nat) (z : FD) (hz : l[j]? = some z) (x : Int) : (cellsOf fixupC l).set (j * 4 + 2) (.int .i64 x) = cellsOf fixupC (l.set j (z.1, z.2.1, x, z.2.2.2)) := by
  induction l generalizing j with
  | nil => cases hz
  | cons a l ih =>
    have hc : ∀ u (l : List FD), cellsOf fixupC (u :: l) = fixupC u ++ cellsOf fixupC l := fun u l => by simp [cellsOf]
    cases j with
    | zero =>
      simp only [List.getElem?_cons_zero, Option.some.injEq] at hz
      subst hz
      simp [hc, fixupC]
    | succ j =>
      have e : (j + 1) * 4 + 2 = (fixupC a).length + (j * 4 + 2) := by rw [fixupC_len]; omega
      rw [hc, List.set_cons_succ, hc, e, List.set_append_right _ _ (by omega), Nat.add_sub_cancel_left]
      rw [ih j (by simpa using hz)]
theorem OwnO.storeF {w : World} {base c yc : Nat} {A Y : Option Addr} {l1 l2 : List SV} {q : SV} {ys : List YD} (h : OwnO w base ⟨A, c, l1 ++ q :: l2, Y, yc, ys⟩) {g : Nat} (hF : q.F = some ⟨g, 0, none⟩) (i : Nat) (z : FD) (hz : q.fs[i]? = some z) (x : Int) :
    OwnO (w.setCell ⟨g, i * 4 + 2, none⟩ (.int .i64 x)) base ⟨A, c, l1 ++ { q with fs := q.fs.set i (z.1, z.2.1, x, z.2.2.2) } :: l2, Y, yc, ys⟩ := by
  have hq : RwS w base q := h.1.2.1 q (by simp)
  have hi : i < q.fs.length := (List.getElem?_eq_some_iff.1 hz).1
  obtain ⟨g', hF', _, _, hb, hown⟩ := own_of hq.2 (by omega)
  rw [hF] at hF'
  simp only [Option.some.injEq, Addr.mk.injEq, and_true] at hF'
  subst hF'
  refine OwnO.swap h { q with fs := q.fs.set i (z.1, z.2.1, x, z.2.2.2) } (by simp [secC]) rfl rfl rfl rfl ⟨?_, ?_⟩ g (.inr hb) (fun k hk => Below.heap_setCell _ _ _ k hk)
  · exact hq.1.set (a := ⟨g, i * 4 + 2, none⟩) (fun k hk e => apartT hq.1 hq.2 (by decide) k hk (by rw [hb, e])) _
  · refine .inr ?_
    show (w.setCell _ _).ownsRow base _ 4 (.slice q.F (q.fs.set i (z.1, z.2.1, x, z.2.2.2)).length q.fc) (q.fs.set i (z.1, z.2.1, x, z.2.2.2)).length (cellsOf fixupC (q.fs.set i (z.1, z.2.1, x, z.2.2.2)))
    rw [List.length_set, ← setFix _ _ _ hz, hF]
    exact (hown.stored (i * 4 + 2) _).1
theorem setSym (l : List YD) (j : Nat) (hj : j < l.length) (z : YD) : ((((cellsOf symbolC l).set (j * 4) (.string z.1)).set (j * 4 + 1) (.int .i64 z.2.1)).set (j * 4 + 2) (.int .i64 z.2.2.1)).set (j * 4 + 3) (.int .i64 z.2.2.2) = cellsOf symbolC (l.set j z) := by
  induction l generalizing j with
  | nil => cases hj
  | cons a l ih =>
    have hc : ∀ u (l : List YD), cellsOf symbolC (u :: l) = symbolC u ++ cellsOf symbolC l := fun u l => by simp [cellsOf]
    cases j with
    | zero => simp [hc, symbolC]
    | succ j =>
      have e : ∀ m, (j + 1) * 4 + m = (symbolC a).length + (j * 4 + m) := fun m => by rw [symbolC_len]; omega
      have e0 : (j + 1) * 4 = (symbolC a).length + (j * 4) := by rw [symbolC_len]; omega
      rw [hc, List.set_cons_succ, hc, e, e, e, e0, List.set_append_right _ _ (by omega), Nat.add_sub_cancel_left, List.set_append_right _ _ (by omega), Nat.add_sub_cancel_left, List.set_append_right _ _ (by omega), Nat.add_sub_cancel_left, List.set_append_right _ _ (by omega), Nat.add_sub_cancel_left]
      rw [ih j (by simpa using hj)]
/-- A symbol put in place. -/
def putY (w : World) (g i : Nat) (z : YD) : World := (((w.setCell ⟨g, i, none⟩ (.string z.1)).setCell ⟨g, i + 1, none⟩ (.int .i64 z.2.1)).setCell ⟨g, i + 2, none⟩ (.int .i64 z.2.2.1)).setCell ⟨g, i + 3, none⟩ (.int .i64 z.2.2.2)
theorem putY_block (w : World) (g i : Nat) (z : YD) (k : Nat) (hk : k ≠ g) : (putY w g i z).heap[k]? = w.heap[k]? := by
  unfold putY
  rw [Below.heap_setCell _ _ _ k hk, Below.heap_setCell _ _ _ k hk, Below.heap_setCell _ _ _ k hk, Below.heap_setCell _ _ _ k hk]
theorem putY_below {B : Nat} {a w : World} {g i : Nat} {z : YD} (h : Below B a w) (hg : B ≤ g) : Below B a (putY w g i z) :=
  (((h.setCell (p := ⟨g, i, none⟩) hg _).setCell (p := ⟨g, i + 1, none⟩) hg _).setCell (p := ⟨g, i + 2, none⟩) hg _).setCell (p := ⟨g, i + 3, none⟩) hg _
theorem OwnO.storeY {w : World} {base c yc : Nat} {A : Option Addr} {ps : List SV} {g : Nat} {ys : List YD} (h : OwnO w base ⟨A, c, ps, some ⟨g, 0, none⟩, yc, ys⟩) (i : Nat) (hi : i < ys.length) (z : YD) :
    OwnO (putY w g (i * 4) z) base ⟨A, c, ps, some ⟨g, 0, none⟩, yc, ys.set i z⟩ := by
  obtain ⟨⟨hrow, hrw, hpw⟩, hy⟩ := h
  simp only at hrow hrw hpw hy
  obtain ⟨g', hA', _, _, hb, hown⟩ := own_of hy (by omega)
  simp only [Option.some.injEq, Addr.mk.injEq, and_true] at hA'
  subst hA'
  have hkeep := putY_block w g (i * 4) z
  refine ⟨⟨hrow.keep fun k hk => hkeep k ?_, fun p hp => ⟨(hrw p hp).1.keep fun k hk => hkeep k ?_, (hrw p hp).2.keep fun k hk => hkeep k ?_⟩, hpw⟩, ?_⟩
  · rintro rfl
    exact apartT hrow hy (by decide) _ hk hb
  · rintro rfl
    exact apartT (hrw p hp).1 hy (by decide) _ hk hb
  · rintro rfl
    exact apartT (hrw p hp).2 hy (by decide) _ hk hb
  · refine .inr ?_
    show (putY w g (i * 4) z).ownsRow base _ 4 (.slice (some ⟨g, 0, none⟩) (ys.set i z).length yc) (ys.set i z).length (cellsOf symbolC (ys.set i z))
    rw [List.length_set, ← setSym _ _ hi]
    exact ((((hown.stored (i * 4) _).1.stored (i * 4 + 1) _).1.stored (i * 4 + 2) _).1.stored (i * 4 + 3) _).1
/-- A box of another type than the rows' stays when the object is stored into. -/
theorem cell_own {w : World} {base : Nat} {e : TypeId} {size n c : Nat} {g : Nat} {xs : List Value} (h : w.ownsRow base e size (.slice (some ⟨g, 0, none⟩) n c) n xs) : ∃ cs, Box w g e cs := box_of_own h
end Go.Proofs.YtepoiphmmjfbdaaGreatDoor.BStore
/- Whether a fixup uses a symbol: the program's uses. -/
namespace Go.Proofs.YtepoiphmmjfbdaaGreatDoor.CUses
set_option maxRecDepth 200000
open Go.ChangeShapes Go.WideShapes Go.ChangeAt Go.RowKit Kit CFixups CSymbols PObj BObj
def useF (j : Int) (f : FD) : Bool := f.2.2.1 == j
def useS (j : Int) (fs : List FD) : Bool := fs.any (useF j)
def used (ss : List SD) (j : Int) : Bool := ss.any fun d => useS j d.fs
end Go.Proofs.YtepoiphmmjfbdaaGreatDoor.CUses
/- Contracts of the laws' helpers on Warning: the copy, the comparison of equal data, the marks. Written by a program. -/
namespace Go.Proofs.YtepoiphmmjfbdaaGreatDoor.CWarnings
set_option maxRecDepth 200000
open Go.ChangeShapes Go.WideShapes Go.ChangeAt Go.RowKit Kit
abbrev D := Int × Int
end Go.Proofs.YtepoiphmmjfbdaaGreatDoor.CWarnings
/- The reference's l9Used; the program's covers. -/
namespace Go.Proofs.YtepoiphmmjfbdaaGreatDoor.CCovers
set_option maxRecDepth 200000
open Go.ChangeShapes Go.WideShapes Go.ChangeAt Go.RowKit Kit CCode CFixups CSymbols PObj BObj PValid CSecValid CUses
/-- Whether a fixup fills a byte that is not 0. -/
def fills (zs : List Int) (f : FD) : List Int := (zs.drop f.1.toNat).take (wide f.2.1).toNat
def coverF (zs : List Int) (f : FD) : Bool := (fills zs f).any fun x => x != 0
def coverB (d : SD) : Bool := d.fs.any (coverF d.zs)
end Go.Proofs.YtepoiphmmjfbdaaGreatDoor.CCovers
/- The reference's ObjectValid. -/
namespace Go.Proofs.YtepoiphmmjfbdaaGreatDoor.CObjValidS
set_option maxRecDepth 200000
open Go.ChangeShapes Go.WideShapes Go.ChangeAt Go.RowKit Kit CCode CName CFixups CSymbols PObj BObj PValid CSecValid CSecValid2 CSecValid3 CSymValid CGlobalOf CObjValid
theorem obj_sizes {d : OD} (h3 : ∀ p ∈ d.ss, secOk d.ys.length p = true) (h4 : ∀ k, (h : k < d.ys.length) → symAt d.ss d.ys k d.ys[k] = true) : objOk d = (decide (d.ss.length ≤ 8) && decide (d.ys.length ≤ 12)) := by
  by_cases h1 : d.ss.length ≤ 8
  · by_cases h2 : d.ys.length ≤ 12
    · rw [obj_yes h1 h2 h3 h4, decide_eq_true h1, decide_eq_true h2]
      rfl
    · rw [obj_big (.inr (by omega)), decide_eq_false h2, Bool.and_false]
  · rw [obj_big (.inl (by omega)), decide_eq_false h1, Bool.false_and]
set_option maxHeartbeats 4000000 in
theorem objectValidS_any (o : OV) (w : World) (hr : RdO w w.heap.size o) (hf : Fit o) :
    Calls Tryz.prog 39 #[.agg #[.slice o.A o.ps.length o.c, .slice o.Y o.ys.length o.yc]] w (Ret (.bool (objOk o.d)) w) := by
  obtain ⟨A, c, ps, Y, yc, ys⟩ := o
  obtain ⟨np, ny, cy, hp, hy⟩ := hf
  simp only [OV.d] at np ny cy hp hy ⊢
  have HR := hide hr
  have HL := hide (And.intro hp hy)
  clear hr hp hy
  have B0 : Below w.heap.size w (w.alloc (.cells #[.slice A ps.length c, .slice Y ys.length yc] 26)) := (by repeat (first | exact Below.refl _ _ | with_reducible assumption | (refine Below.drew ?_) | (refine Below.drewN ?_ _) | (refine Below.alloc ?_ (by simp; try omega) _) | (refine Below.setCell ?_ (by simp; try omega) _)))
  have X0 := Box.new w 26 #[.slice A ps.length c, .slice Y ys.length yc]
  have HB := hide B0
  clear B0
  go_enter Tryz.func39, Tryz.ntmps39
  go_wp2_with fail
  generalize w.alloc (.cells #[.slice A ps.length c, .slice Y ys.length yc] 26) = w0 at *
  go_loopw [3] (fun i wi => ∃ k : Nat, k ≤ ps.length ∧ i = .int .i64 k ∧ (∀ p ∈ ps.take k, secOk ys.length p.d = true) ∧ Box wi w.heap.size 26 #[.slice A ps.length c, .slice Y ys.length yc] ∧ Below w.heap.size w wi) (fun i _ => ps.length - (intOf i).toNat)
  case atStart => exact ⟨0, Nat.zero_le _, rfl, fun p hp => by simp at hp, X0, HB.out⟩
  case round =>
    obtain ⟨k, hk, rfl, hok, hx, hb⟩ := hrel
    have HO := hide hok
    have HX := hide hx
    have HBI := hide hb
    clear X0 HB
    have x0 := hx.cell 0
    have x1 := hx.cell 1
    simp only [List.getElem?_toArray, List.getElem?_cons_zero, List.getElem?_cons_succ] at x0 x1
    have hxl := hx.lt
    by_cases hlt : k < ps.length
    · obtain ⟨b, off, hA, hbg, hc⟩ := (HR.out.1.1.below hb).row secC_len (by decide) hlt
      subst hA
      have hbw : b < wr.heap.size := Nat.lt_of_lt_of_le hbg hb.size
      have hc0 := hc 0 _ rfl
      have hc1 := hc 1 _ rfl
      have hc2 := hc 2 _ rfl
      have hc3 := hc 3 _ rfl
      have hc4 := hc 4 _ rfl
      have hc5 := hc 5 _ rfl
      simp only [Nat.add_zero] at hc0
      have HM := hide (HL.out.1 _ (List.getElem_mem hlt))
      have HRS := hide (HR.out.1.2 _ (List.getElem_mem hlt))
      have HS := hide (fun (h : secOk ys.length ps[k].d = true) => (show ∀ p ∈ ps.take (k + 1), secOk ys.length p.d = true from fun p hp => by
        rw [take_succ hlt] at hp
        rcases List.mem_append.1 hp with hp | hp
        · exact HO.out p hp
        · rw [List.mem_singleton.1 hp]; exact h))
      have HF := hide (fun (h : secOk ys.length ps[k].d = false) => obj_sec (d := ⟨ps.map SV.d, ys⟩) (List.mem_map_of_mem (List.getElem_mem hlt)) h)
      clear hok hx hb hc HO
      generalize ps[k] = p at *
      go_wp2_with fail
      have HSS : Hid (∀ V : World, Below wr.heap.size wr V → (V.cell? ⟨w.heap.size, 0, none⟩ = some (.slice (some ⟨b, off, none⟩) ps.length c) ∧ V.cell? ⟨w.heap.size, 1, none⟩ = some (.slice Y ys.length yc) ∧ V.cell? ⟨b, off + k * 6, none⟩ = some (.string p.nm) ∧ V.cell? ⟨b, off + k * 6 + 1, none⟩ = some (.int .i64 p.kd) ∧ V.cell? ⟨b, off + k * 6 + 2, none⟩ = some (.int .i64 p.al) ∧ V.cell? ⟨b, off + k * 6 + 3, none⟩ = some (.slice p.A p.zs.length p.c) ∧ V.cell? ⟨b, off + k * 6 + 4, none⟩ = some (.int .i64 p.sz) ∧ V.cell? ⟨b, off + k * 6 + 5, none⟩ = some (.slice p.F p.fs.length p.fc))) := hide (fun V hV => ⟨(hV.cell (p := ⟨w.heap.size, 0, none⟩) hxl).trans x0, (hV.cell (p := ⟨w.heap.size, 1, none⟩) hxl).trans x1, (hV.cell (p := ⟨b, off + k * 6, none⟩) hbw).trans hc0, (hV.cell (p := ⟨b, off + k * 6 + 1, none⟩) hbw).trans hc1, (hV.cell (p := ⟨b, off + k * 6 + 2, none⟩) hbw).trans hc2, (hV.cell (p := ⟨b, off + k * 6 + 3, none⟩) hbw).trans hc3, (hV.cell (p := ⟨b, off + k * 6 + 4, none⟩) hbw).trans hc4, (hV.cell (p := ⟨b, off + k * 6 + 5, none⟩) hbw).trans hc5⟩)
      clear hc0 hc1 hc2 hc3 hc4 hc5 x0 x1
      refine Reg.startT (fun V => V.cell? ⟨w.heap.size, 0, none⟩ = some (.slice (some ⟨b, off, none⟩) ps.length c) ∧ V.cell? ⟨w.heap.size, 1, none⟩ = some (.slice Y ys.length yc) ∧ V.cell? ⟨b, off + k * 6, none⟩ = some (.string p.nm) ∧ V.cell? ⟨b, off + k * 6 + 1, none⟩ = some (.int .i64 p.kd) ∧ V.cell? ⟨b, off + k * 6 + 2, none⟩ = some (.int .i64 p.al) ∧ V.cell? ⟨b, off + k * 6 + 3, none⟩ = some (.slice p.A p.zs.length p.c) ∧ V.cell? ⟨b, off + k * 6 + 4, none⟩ = some (.int .i64 p.sz) ∧ V.cell? ⟨b, off + k * 6 + 5, none⟩ = some (.slice p.F p.fs.length p.fc)) (fun _ => false) (by kernel_rfl) ?_
      have hHeld := HSS.out wr.drew (Below.drew (Below.refl _ _))
      refine Reg.takeT (i := 0) (v := ?_) rfl (by kernel_rfl) (by kernel_rfl) (by kernel_rfl) (by kernel_rfl) (fun _ _ _ h => h) (Or.inl ⟨by rfl, ?_⟩) (by assumption) ?_
      rotate_left 1
      focus (intro w hSw; (try dsimp only at hSw); go_simp; (try with_reducible rfl))
      try simp only [List.getElem_toArray, List.getElem_cons_succ, List.getElem_cons_zero, Act.put, List.setIfInBounds_toArray, List.set_cons_zero, List.set_cons_succ]
      refine Reg.takeT (i := 1) (v := ?_) rfl (by kernel_rfl) (by kernel_rfl) (by kernel_rfl) (by kernel_rfl) (fun _ _ _ h => h) (Or.inl ⟨by rfl, ?_⟩) (by assumption) ?_
      rotate_left 1
      focus (intro w hSw; (try dsimp only at hSw); go_simp; (try with_reducible rfl))
      try simp only [List.getElem_toArray, List.getElem_cons_succ, List.getElem_cons_zero, Act.put, List.setIfInBounds_toArray, List.set_cons_zero, List.set_cons_succ]
      refine Reg.takeT (i := 2) (v := ?_) rfl (by kernel_rfl) (by kernel_rfl) (by kernel_rfl) (by kernel_rfl) (fun _ _ _ h => h) (Or.inl ⟨by rfl, ?_⟩) (by assumption) ?_
      rotate_left 1
      focus (intro w hSw; (try dsimp only at hSw); go_simp; (try with_reducible rfl))
      try simp only [List.getElem_toArray, List.getElem_cons_succ, List.getElem_cons_zero, Act.put, List.setIfInBounds_toArray, List.set_cons_zero, List.set_cons_succ]
      refine Reg.takeT (i := 3) (v := ?_) rfl (by kernel_rfl) (by kernel_rfl) (by kernel_rfl) (by kernel_rfl) (fun _ _ _ h => h) (Or.inl ⟨by rfl, ?_⟩) (by assumption) ?_
      rotate_left 1
      focus (intro w hSw; (try dsimp only at hSw); go_simp; (try with_reducible rfl))
      try simp only [List.getElem_toArray, List.getElem_cons_succ, List.getElem_cons_zero, Act.put, List.setIfInBounds_toArray, List.set_cons_zero, List.set_cons_succ]
      refine Reg.takeT (i := 4) (v := ?_) rfl (by kernel_rfl) (by kernel_rfl) (by kernel_rfl) (by kernel_rfl) (fun _ _ _ h => h) (Or.inl ⟨by rfl, ?_⟩) (by assumption) ?_
      rotate_left 1
      focus (intro w hSw; (try dsimp only at hSw); go_simp; (try with_reducible rfl))
      try simp only [List.getElem_toArray, List.getElem_cons_succ, List.getElem_cons_zero, Act.put, List.setIfInBounds_toArray, List.set_cons_zero, List.set_cons_succ]
      refine Reg.takeT (i := 5) (v := ?_) rfl (by kernel_rfl) (by kernel_rfl) (by kernel_rfl) (by kernel_rfl) (fun _ _ _ h => h) (Or.inl ⟨by rfl, ?_⟩) (by assumption) ?_
      rotate_left 1
      focus (intro w hSw; (try dsimp only at hSw); go_simp; (try with_reducible rfl))
      try simp only [List.getElem_toArray, List.getElem_cons_succ, List.getElem_cons_zero, Act.put, List.setIfInBounds_toArray, List.set_cons_zero, List.set_cons_succ]
      refine Reg.takeT (i := 6) (v := ?_) rfl (by kernel_rfl) (by kernel_rfl) (by kernel_rfl) (by kernel_rfl) (fun _ _ _ h => h) (Or.inl ⟨by rfl, ?_⟩) (by assumption) ?_
      rotate_left 1
      focus (intro w hSw; (try dsimp only at hSw); go_simp; (try with_reducible rfl))
      try simp only [List.getElem_toArray, List.getElem_cons_succ, List.getElem_cons_zero, Act.put, List.setIfInBounds_toArray, List.set_cons_zero, List.set_cons_succ]
      refine Reg.takeT (i := 7) (v := ?_) rfl (by kernel_rfl) (by kernel_rfl) (by kernel_rfl) (by kernel_rfl) (fun _ _ _ h => h) (Or.inl ⟨by rfl, ?_⟩) (by assumption) ?_
      rotate_left 1
      focus (intro w hSw; (try dsimp only at hSw); go_simp; (try with_reducible rfl))
      try simp only [List.getElem_toArray, List.getElem_cons_succ, List.getElem_cons_zero, Act.put, List.setIfInBounds_toArray, List.set_cons_zero, List.set_cons_succ]
      refine Reg.oneT (i := 8) rfl (by kernel_rfl) (fun K hK => ?_)
      go_simp
      refine (sectionValidS_any p ys.length _ ((HRS.out.below (Below.drew HBI.out)).more (Below.drew HBI.out).size) HM.out.1 HM.out.2.1 HM.out.2.2).mono ?_
      rintro e w2 ⟨rfl, b2⟩
      have b2' := of_drew b2
      have hHeld := HSS.out w2 b2'
      refine hK.out _ _ hHeld ?_
      clear hK K
      try simp only [List.getElem_toArray, List.getElem_cons_succ, List.getElem_cons_zero, Act.put, List.setIfInBounds_toArray, List.set_cons_zero, List.set_cons_succ]
      have HX2 := hide (HX.out.call b2')
      have HB2 := hide (HBI.out.trans (b2'.mono HBI.out.size))
      clear b2 b2' HX HBI HSS
      cases hs : secOk ys.length p.d
      · have HV := hide (HF.out hs)
        clear HF HS hs
        refine Reg.takeT (i := 9) (v := ?_) rfl (by kernel_rfl) (by kernel_rfl) (by kernel_rfl) (by kernel_rfl) (fun _ _ _ h => h) (Or.inl ⟨by rfl, ?_⟩) (by assumption) ?_
        rotate_left 1
        focus (intro w hSw; (try dsimp only at hSw); go_simp; (try with_reducible rfl))
        try simp only [List.getElem_toArray, List.getElem_cons_succ, List.getElem_cons_zero, Act.put, List.setIfInBounds_toArray, List.set_cons_zero, List.set_cons_succ]
        refine Reg.doneT (by kernel_rfl) ?_ _
        clear hHeld
        go_wp2_with fail
        go_ret
        exact ⟨by rw [HV.out]; rfl, HB2.out⟩
      · have HS' := hide (HS.out hs)
        clear HF HS hs
        refine Reg.takeT (i := 9) (v := ?_) rfl (by kernel_rfl) (by kernel_rfl) (by kernel_rfl) (by kernel_rfl) (fun _ _ _ h => h) (Or.inl ⟨by rfl, ?_⟩) (by assumption) ?_
        rotate_left 1
        focus (intro w hSw; (try dsimp only at hSw); go_simp; (try with_reducible rfl))
        try simp only [List.getElem_toArray, List.getElem_cons_succ, List.getElem_cons_zero, Act.put, List.setIfInBounds_toArray, List.set_cons_zero, List.set_cons_succ]
        refine Reg.doneT (by kernel_rfl) ?_ _
        clear hHeld
        go_wp2_with fail
        refine ⟨⟨k + 1, by omega, by go_num, HS'.out, HX2.out, HB2.out⟩, by simp [intOf]; omega⟩
    · have HALL := hide (show ∀ p ∈ ps.map SV.d, secOk ys.length p = true from fun p hp => by
        obtain ⟨q, hq, rfl⟩ := List.mem_map.1 hp
        exact HO.out q (by rw [List.take_of_length_le (by omega)]; exact hq))
      clear HO hok hx hb
      go_wp2_with fail
      clear x0 x1
      go_loopw [4] (fun i wi => ∃ k : Nat, k ≤ ys.length ∧ i = .int .i64 k ∧ (∀ j, (h : j < ys.length) → j < k → symAt (ps.map SV.d) ys j ys[j] = true) ∧ Box wi w.heap.size 26 #[.slice A ps.length c, .slice Y ys.length yc] ∧ Below w.heap.size w wi) (fun i _ => ys.length - (intOf i).toNat)
      case atStart => exact ⟨0, Nat.zero_le _, rfl, fun j _ hj => absurd hj (Nat.not_lt_zero j), HX.out, HBI.out⟩
      case round =>
        obtain ⟨k, hk, rfl, hok, hx, hb⟩ := hrel
        clear HX HBI hxl
        have HO := hide hok
        have HX := hide hx
        have HBI := hide hb
        have x0 := hx.cell 0
        have x1 := hx.cell 1
        simp only [List.getElem?_toArray, List.getElem?_cons_zero, List.getElem?_cons_succ] at x0 x1
        have hxl := hx.lt
        by_cases hlt : k < ys.length
        · obtain ⟨b, off, hY, hbg, hc⟩ := (HR.out.2.below hb).row symbolC_len (by decide) hlt
          have hbw : b < wr.heap.size := Nat.lt_of_lt_of_le hbg hb.size
          have hc0 := hc 0 _ rfl
          have hc1 := hc 1 _ rfl
          have hc2 := hc 2 _ rfl
          have hc3 := hc 3 _ rfl
          simp only [Nat.add_zero] at hc0
          have HM := hide (HL.out.2 _ (List.getElem_mem hlt))
          have HS := hide (fun (h : symAt (ps.map SV.d) ys k ys[k] = true) => (show ∀ j, (h : j < ys.length) → j < k + 1 → symAt (ps.map SV.d) ys j ys[j] = true from fun j hj hjk => by
            rcases Nat.lt_or_ge j k with h' | h'
            · exact HO.out j hj h'
            · obtain rfl : j = k := by omega
              exact h))
          have HF := hide (fun (h : symAt (ps.map SV.d) ys k ys[k] = false) => obj_sym (d := ⟨ps.map SV.d, ys⟩) hlt h)
          clear hok hx hb hc HO
          unfold symAt at HS HF
          generalize ys[k] = z at *
          obtain ⟨zn, zb, zw, zv⟩ := z
          simp only at HM hc0 hc1 hc2 hc3 HS HF
          subst hY
          go_wp2_with fail
          have HSS : Hid (∀ V : World, Below wr.heap.size wr V → (V.cell? ⟨w.heap.size, 0, none⟩ = some (.slice A ps.length c) ∧ V.cell? ⟨w.heap.size, 1, none⟩ = some (.slice (some ⟨b, off, none⟩) ys.length yc) ∧ V.cell? ⟨b, off + k * 4, none⟩ = some (.string zn) ∧ V.cell? ⟨b, off + k * 4 + 1, none⟩ = some (.int .i64 zb) ∧ V.cell? ⟨b, off + k * 4 + 2, none⟩ = some (.int .i64 zw) ∧ V.cell? ⟨b, off + k * 4 + 3, none⟩ = some (.int .i64 zv))) := hide (fun V hV => ⟨(hV.cell (p := ⟨w.heap.size, 0, none⟩) hxl).trans x0, (hV.cell (p := ⟨w.heap.size, 1, none⟩) hxl).trans x1, (hV.cell (p := ⟨b, off + k * 4, none⟩) hbw).trans hc0, (hV.cell (p := ⟨b, off + k * 4 + 1, none⟩) hbw).trans hc1, (hV.cell (p := ⟨b, off + k * 4 + 2, none⟩) hbw).trans hc2, (hV.cell (p := ⟨b, off + k * 4 + 3, none⟩) hbw).trans hc3⟩)
          clear hc0 hc1 hc2 hc3 x0 x1
          refine Reg.startT (fun V => V.cell? ⟨w.heap.size, 0, none⟩ = some (.slice A ps.length c) ∧ V.cell? ⟨w.heap.size, 1, none⟩ = some (.slice (some ⟨b, off, none⟩) ys.length yc) ∧ V.cell? ⟨b, off + k * 4, none⟩ = some (.string zn) ∧ V.cell? ⟨b, off + k * 4 + 1, none⟩ = some (.int .i64 zb) ∧ V.cell? ⟨b, off + k * 4 + 2, none⟩ = some (.int .i64 zw) ∧ V.cell? ⟨b, off + k * 4 + 3, none⟩ = some (.int .i64 zv)) (fun _ => false) (by kernel_rfl) ?_
          have hHeld := HSS.out wr.drew (Below.drew (Below.refl _ _))
          refine Reg.takeT (i := 0) (v := ?_) rfl (by kernel_rfl) (by kernel_rfl) (by kernel_rfl) (by kernel_rfl) (fun _ _ _ h => h) (Or.inl ⟨by rfl, ?_⟩) (by assumption) ?_
          rotate_left 1
          focus (intro w hSw; (try dsimp only at hSw); go_simp; (try with_reducible rfl))
          try simp only [List.getElem_toArray, List.getElem_cons_succ, List.getElem_cons_zero, Act.put, List.setIfInBounds_toArray, List.set_cons_zero, List.set_cons_succ]
          refine Reg.takeT (i := 1) (v := ?_) rfl (by kernel_rfl) (by kernel_rfl) (by kernel_rfl) (by kernel_rfl) (fun _ _ _ h => h) (Or.inl ⟨by rfl, ?_⟩) (by assumption) ?_
          rotate_left 1
          focus (intro w hSw; (try dsimp only at hSw); go_simp; (try with_reducible rfl))
          try simp only [List.getElem_toArray, List.getElem_cons_succ, List.getElem_cons_zero, Act.put, List.setIfInBounds_toArray, List.set_cons_zero, List.set_cons_succ]
          refine Reg.takeT (i := 2) (v := ?_) rfl (by kernel_rfl) (by kernel_rfl) (by kernel_rfl) (by kernel_rfl) (fun _ _ _ h => h) (Or.inl ⟨by rfl, ?_⟩) (by assumption) ?_
          rotate_left 1
          focus (intro w hSw; (try dsimp only at hSw); go_simp; (try with_reducible rfl))
          try simp only [List.getElem_toArray, List.getElem_cons_succ, List.getElem_cons_zero, Act.put, List.setIfInBounds_toArray, List.set_cons_zero, List.set_cons_succ]
          refine Reg.takeT (i := 3) (v := ?_) rfl (by kernel_rfl) (by kernel_rfl) (by kernel_rfl) (by kernel_rfl) (fun _ _ _ h => h) (Or.inl ⟨by rfl, ?_⟩) (by assumption) ?_
          rotate_left 1
          focus (intro w hSw; (try dsimp only at hSw); go_simp; (try with_reducible rfl))
          try simp only [List.getElem_toArray, List.getElem_cons_succ, List.getElem_cons_zero, Act.put, List.setIfInBounds_toArray, List.set_cons_zero, List.set_cons_succ]
          refine Reg.takeT (i := 4) (v := ?_) rfl (by kernel_rfl) (by kernel_rfl) (by kernel_rfl) (by kernel_rfl) (fun _ _ _ h => h) (Or.inl ⟨by rfl, ?_⟩) (by assumption) ?_
          rotate_left 1
          focus (intro w hSw; (try dsimp only at hSw); go_simp; (try with_reducible rfl))
          try simp only [List.getElem_toArray, List.getElem_cons_succ, List.getElem_cons_zero, Act.put, List.setIfInBounds_toArray, List.set_cons_zero, List.set_cons_succ]
          refine Reg.takeT (i := 5) (v := ?_) rfl (by kernel_rfl) (by kernel_rfl) (by kernel_rfl) (by kernel_rfl) (fun _ _ _ h => h) (Or.inl ⟨by rfl, ?_⟩) (by assumption) ?_
          rotate_left 1
          focus (intro w hSw; (try dsimp only at hSw); go_simp; (try with_reducible rfl))
          try simp only [List.getElem_toArray, List.getElem_cons_succ, List.getElem_cons_zero, Act.put, List.setIfInBounds_toArray, List.set_cons_zero, List.set_cons_succ]
          refine Reg.takeT (i := 6) (v := ?_) rfl (by kernel_rfl) (by kernel_rfl) (by kernel_rfl) (by kernel_rfl) (fun _ _ _ h => h) (Or.inl ⟨by rfl, ?_⟩) (by assumption) ?_
          rotate_left 1
          focus (intro w hSw; (try dsimp only at hSw); go_simp; (try with_reducible rfl))
          try simp only [List.getElem_toArray, List.getElem_cons_succ, List.getElem_cons_zero, Act.put, List.setIfInBounds_toArray, List.set_cons_zero, List.set_cons_succ]
          refine Reg.oneT (i := 7) rfl (by kernel_rfl) (fun K hK => ?_)
          go_simp
          refine (symbolValidS_any (zn, zb, zw, zv) A ps c _ ((HR.out.1.1.below (Below.drew HBI.out)).more (Below.drew HBI.out).size) np HM.out (fun p hp => Nat.le_trans (HL.out.1 p hp).2.1 (by decide))).mono ?_
          rintro e w3 ⟨rfl, b3⟩
          have b3' := of_drew b3
          have hHeld := HSS.out w3 b3'
          refine hK.out _ _ hHeld ?_
          clear hK K
          try simp only [List.getElem_toArray, List.getElem_cons_succ, List.getElem_cons_zero, Act.put, List.setIfInBounds_toArray, List.set_cons_zero, List.set_cons_succ]
          have HX3 := hide (HX.out.call b3')
          have HB3 := hide (HBI.out.trans (b3'.mono HBI.out.size))
          clear b3 b3' HX HBI HSS
          cases hs : symOk (ps.map SV.d) (zn, zb, zw, zv)
          · have HV := hide (HF.out (by rw [hs]; rfl))
            clear HF HS hs
            refine Reg.takeT (i := 8) (v := ?_) rfl (by kernel_rfl) (by kernel_rfl) (by kernel_rfl) (by kernel_rfl) (fun _ _ _ h => h) (Or.inl ⟨by rfl, ?_⟩) (by assumption) ?_
            rotate_left 1
            focus (intro w hSw; (try dsimp only at hSw); go_simp; (try with_reducible rfl))
            try simp only [List.getElem_toArray, List.getElem_cons_succ, List.getElem_cons_zero, Act.put, List.setIfInBounds_toArray, List.set_cons_zero, List.set_cons_succ]
            refine Reg.doneT (by kernel_rfl) ?_ _
            clear hHeld
            go_wp2_with fail
            go_ret
            exact ⟨by rw [HV.out]; rfl, HB3.out⟩
          rw [hs] at HS HF
          clear hs
          refine Reg.takeT (i := 8) (v := ?_) rfl (by kernel_rfl) (by kernel_rfl) (by kernel_rfl) (by kernel_rfl) (fun _ _ _ h => h) (Or.inl ⟨by rfl, ?_⟩) (by assumption) ?_
          rotate_left 1
          focus (intro w hSw; (try dsimp only at hSw); go_simp; (try with_reducible rfl))
          try simp only [List.getElem_toArray, List.getElem_cons_succ, List.getElem_cons_zero, Act.put, List.setIfInBounds_toArray, List.set_cons_zero, List.set_cons_succ]
          refine Reg.doneT (by kernel_rfl) ?_ _
          obtain ⟨_, _, z0, z1, z2, z3⟩ := hHeld
          have HZ := hide (And.intro z0 z1)
          have hb3 : b < w3.heap.size := World.block_lt_of_cell? _ _ z0
          clear z0 z1 z2 z3
          go_wp2_with fail
          go_loopw [5] (fun jj wi => ∃ j : Nat, j ≤ k ∧ jj = .int .i64 j ∧ (!decide (zb = 0) && (ys.take j).any (hit zn)) = false ∧ wi.cell? ⟨b, off + k * 4, none⟩ = some (.string zn) ∧ wi.cell? ⟨b, off + k * 4 + 1, none⟩ = some (.int .i64 zb) ∧ Box wi w.heap.size 26 #[.slice A ps.length c, .slice (some ⟨b, off, none⟩) ys.length yc] ∧ Below w.heap.size w wi) (fun jj _ => k - (intOf jj).toNat)
          case atStart => exact ⟨0, Nat.zero_le _, rfl, by simp, HZ.out.1, HZ.out.2, HX3.out, HB3.out⟩
          case round =>
            clear HX3 HB3 HZ hb3 hxl hbw
            obtain ⟨j, hj, rfl, hno, z0, z1, hx, hb⟩ := hrel
            have HX := hide hx
            have HBI := hide hb
            have x0 := hx.cell 0
            have x1 := hx.cell 1
            simp only [List.getElem?_toArray, List.getElem?_cons_zero, List.getElem?_cons_succ] at x0 x1
            have hxl := hx.lt
            by_cases hjk : j < k
            · have hjy : j < ys.length := by omega
              obtain ⟨b', off', hY', hbg', hc⟩ := (HR.out.2.below hb).row symbolC_len (by decide) hjy
              simp only [Option.some.injEq, Addr.mk.injEq, and_true] at hY'
              obtain ⟨rfl, rfl⟩ := hY'
              have hc0 := hc 0 _ rfl
              have hc1 := hc 1 _ rfl
              simp only [Nat.add_zero] at hc0
              have HT := hide (show (!decide (zb = 0) && (ys.take (j + 1)).any (hit zn)) = (!decide (zb = 0) && hit zn ys[j]) by
                rw [take_succ hjy, List.any_append]
                cases hzz : (!decide (zb = 0))
                · rfl
                · rw [hzz, Bool.true_and] at hno
                  rw [hno]
                  simp)
              have HA := hide (show (!decide (zb = 0) && hit zn ys[j]) = true → (!decide (zb = 0) && (ys.take k).any (hit zn)) = true from fun h => by
                rw [Bool.and_eq_true] at h ⊢
                exact ⟨h.1, List.any_eq_true.2 ⟨ys[j], by
                  rw [List.mem_take_iff_getElem]
                  exact ⟨j, by omega, rfl⟩, h.2⟩⟩)
              clear hno hx hb hc
              generalize ys[j] = x at *
              obtain ⟨xn, xb, xw, xv⟩ := x
              simp only [hit] at hc0 hc1 HT HA
              by_cases h1 : xn = zn
              · have e1 : (xn.toList == zn.toList) = true := by rw [str_eq, decide_eq_true h1]
                rw [decide_eq_true h1] at HT HA
                by_cases h2 : xb = 0
                · have e2 : (xb != 0) = false := by rw [h2]; rfl
                  rw [decide_eq_true h2] at HT HA
                  have HT' := hide (show (!decide (zb = 0) && (ys.take (j + 1)).any (hit zn)) = false by rw [HT.out]; simp)
                  clear h1 h2 HT HA
                  go_wp2_with fail
                  go_quiet (fail)
                  go_wp2_with fail
                  refine ⟨⟨j + 1, by omega, by go_num, HT'.out, z0, z1, HX.out.drewN _, Kit.Below.drewN HBI.out _⟩, by simp [intOf]; omega⟩
                · have e2 : (xb != 0) = true := bne_iff_ne.2 h2
                  rw [decide_eq_false h2] at HT HA
                  by_cases h3 : zb = 0
                  · have e3 : (zb != 0) = false := by rw [h3]; rfl
                    rw [decide_eq_true h3] at HT HA
                    have HT' := hide (show (!decide (zb = 0) && (ys.take (j + 1)).any (hit zn)) = false by rw [decide_eq_true h3]; rfl)
                    clear h1 h2 h3 HT HA
                    go_wp2_with fail
                    go_quiet (fail)
                    go_wp2_with fail
                    refine ⟨⟨j + 1, by omega, by go_num, HT'.out, z0, z1, HX.out.drewN _, Kit.Below.drewN HBI.out _⟩, by simp [intOf]; omega⟩
                  · have e3 : (zb != 0) = true := bne_iff_ne.2 h3
                    rw [decide_eq_false h3] at HA
                    have HV := hide (HF.out (by rw [decide_eq_false h3, HA.out rfl]; rfl))
                    clear h1 h2 h3 HT HA
                    go_wp2_with fail
                    go_quiet (fail)
                    go_wp2_with fail
                    go_ret
                    exact ⟨by rw [HV.out]; rfl, Kit.Below.drewN HBI.out _⟩
              · have e1 : (xn.toList == zn.toList) = false := by rw [str_eq, decide_eq_false h1]
                rw [decide_eq_false h1] at HT HA
                have HT' := hide (show (!decide (zb = 0) && (ys.take (j + 1)).any (hit zn)) = false by rw [HT.out]; simp)
                clear h1 HT HA
                go_wp2_with fail
                go_quiet (fail)
                go_wp2_with fail
                refine ⟨⟨j + 1, by omega, by go_num, HT'.out, z0, z1, HX.out.drewN _, Kit.Below.drewN HBI.out _⟩, by simp [intOf]; omega⟩
            · have e : j = k := by omega
              subst e
              have HS' := hide (HS.out (by rw [hno]; rfl))
              clear HS HF hno hx hb x0 x1 z0 z1
              go_wp2_with fail
              refine ⟨⟨j + 1, by omega, by go_num, HS'.out, HX.out, HBI.out⟩, by simp [intOf]; omega⟩
        · have HV := hide ((obj_sizes (d := ⟨ps.map SV.d, ys⟩) HALL.out (fun j hj => HO.out j hj (Nat.lt_of_lt_of_le hj (show ys.length ≤ k by omega)))).trans (show _ = (decide (ps.length ≤ 8) && decide (ys.length ≤ 12)) by simp))
          clear HO hok hx hb
          by_cases h1 : ps.length ≤ 8
          · have e1 : decide ((ps.length : Int) ≤ 8) = true := decide_eq_true (by omega)
            rw [decide_eq_true h1] at HV
            by_cases h2 : ys.length ≤ 12
            · have e2 : decide ((ys.length : Int) ≤ 12) = true := decide_eq_true (by omega)
              rw [decide_eq_true h2] at HV
              clear h1 h2
              go_wp2_with fail
              go_ret
              exact ⟨by rw [HV.out]; rfl, HBI.out⟩
            · have e2 : decide ((ys.length : Int) ≤ 12) = false := decide_eq_false (by omega)
              rw [decide_eq_false h2] at HV
              clear h1 h2
              go_wp2_with fail
              go_ret
              exact ⟨by rw [HV.out]; rfl, HBI.out⟩
          · have e1 : decide ((ps.length : Int) ≤ 8) = false := decide_eq_false (by omega)
            rw [decide_eq_false h1] at HV
            clear h1
            go_wp2_with fail
            go_ret
            exact ⟨by rw [HV.out]; simp, HBI.out⟩
end Go.Proofs.YtepoiphmmjfbdaaGreatDoor.CObjValidS
/- The warnings for an object; plain. -/
namespace Go.Proofs.YtepoiphmmjfbdaaGreatDoor.PWarn
set_option maxRecDepth 200000
open Go.ChangeShapes Go.WideShapes Go.ChangeAt Go.RowKit Kit CCode CFixups CSymbols PObj BObj PValid CUses CCovers CObjValid
abbrev WD := CWarnings.D
def dS : SD := ⟨ByteArray.empty, 0, 0, [], 0, []⟩
def dY : YD := (ByteArray.empty, 0, 0, 0)
def at1 (d : OD) (k : Nat) : List WD := if (d.ys.getD k dY).2.2.1 = -1 ∧ used d.ss k = false then [(1, (k : Int))] else []
def at3 (d : OD) (k : Nat) : List WD := if coverB (d.ss.getD k dS) = true then [(3, (k : Int))] else []
end Go.Proofs.YtepoiphmmjfbdaaGreatDoor.PWarn
