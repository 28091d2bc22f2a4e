/- The program's ObjectValid. -/
import Derived.Test.YtmglgjchemecjaaFnLandmarksOfM2
import Derived.Lib.AppendZerosOnto
import Derived.WalkSpells
import Derived.Deep.RegionHeld3
import Derived.Deep.RegionLaw
import Derived.Deep.RegionLawGrows
import Derived.Lib.SliceRun
import Derived.Deep.QuietTactic
import Derived.BigQuiet
import Derived.Test.YtmglgjchemecjaaRows
import Derived.Lib.OwnBridge
import Derived.Lib.SlicesS
import Derived.StillTailTactics
import Derived.Lib.VarintMem
import Derived.Lib.EndianMore
set_option linter.unusedSimpArgs false
set_option linter.unusedVariables false
namespace Go.Proofs.Ytmglgjchemecjaa.CObjValid
set_option maxRecDepth 200000
open Go.ChangeShapes Go.WideShapes Go.ChangeAt Go.RowKit Kit CCode CName CFixups CSymbols PObj BObj PValid CSecValid CSecValid2 CSymValid CGlobalOf
/-- What the walks ask of an object's parts. -/
structure Fit (o : OV) : Prop where
  np : o.ps.length ≤ 1048576
  ny : o.ys.length ≤ 1048576
  cy : o.ys.length ≤ o.yc
  p : ∀ p ∈ o.ps, p.nm.size ≤ maxLen ∧ p.zs.length ≤ 1048576 ∧ p.fs.length ≤ 1048576
  y : ∀ y ∈ o.ys, y.1.size ≤ maxLen
theorem obj_big {d : OD} (h : 8 < d.ss.length ∨ 12 < d.ys.length) : objOk d = false := by
  rw [← Bool.not_eq_true]
  intro ht
  simp only [objOk, Bool.and_eq_true, decide_eq_true_eq] at ht
  omega
theorem obj_sec {d : OD} {p : SD} (hp : p ∈ d.ss) (h : secOk d.ys.length p = false) : objOk d = false := by
  rw [← Bool.not_eq_true]
  intro ht
  simp only [objOk, Bool.and_eq_true, decide_eq_true_eq, List.all_eq_true] at ht
  rw [ht.1.2 p hp] at h
  cases h
def symAt (ss : List SD) (ys : List YD) (k : Nat) (y : YD) : Bool := symOk ss y && !(!decide (y.2.1 = 0) && (ys.take k).any (hit y.1))
theorem getD_at {ys : List YD} {k : Nat} (h : k < ys.length) (d : YD) : ys.getD k d = ys[k] := by
  rw [List.getD_eq_getElem?_getD, List.getElem?_eq_getElem h]
  rfl
theorem obj_sym {d : OD} {k : Nat} (hk : k < d.ys.length) (h : symAt d.ss d.ys k d.ys[k] = false) : objOk d = false := by
  rw [← Bool.not_eq_true]
  intro ht
  simp only [objOk, symsOk, Bool.and_eq_true, List.all_eq_true] at ht
  have h1 := ht.2 k (List.mem_range.2 hk)
  rw [getD_at hk] at h1
  have h2 : symAt d.ss d.ys k d.ys[k] = true := by
    unfold symAt
    rw [h1.1]
    exact h1.2
  rw [h2] at h
  cases h
theorem obj_yes {d : OD} (h1 : d.ss.length ≤ 8) (h2 : d.ys.length ≤ 12) (h3 : ∀ p ∈ d.ss, secOk d.ys.length p = true) (h4 : ∀ k, (h : k < d.ys.length) → symAt d.ss d.ys k d.ys[k] = true) : objOk d = true := by
  simp only [objOk, symsOk, Bool.and_eq_true, decide_eq_true_eq, List.all_eq_true]
  refine ⟨⟨⟨h1, h2⟩, h3⟩, fun k hk => ?_⟩
  have hk' := List.mem_range.1 hk
  have h := h4 k hk'
  rw [getD_at hk']
  unfold symAt at h
  rw [Bool.and_eq_true] at h
  exact ⟨h.1, h.2⟩
theorem _root_.Go.Proofs.Ytmglgjchemecjaa.Kit.Rd.prefix_take {w : World} {B : Nat} {A : Option Addr} {ys : List YD} (h : Rd w B A (cellsOf symbolC ys)) (k : Nat) : Rd w B A (cellsOf symbolC (ys.take k)) := by
  have e : cellsOf symbolC ys = cellsOf symbolC (ys.take k) ++ cellsOf symbolC (ys.drop k) := by
    conv => lhs; rw [← List.take_append_drop k ys]
    simp only [cellsOf, List.flatMap_append]
  intro i u hi
  refine h i u ?_
  rw [e, List.getElem?_append_left (by
    rcases Nat.lt_or_ge i (cellsOf symbolC (ys.take k)).length with h' | h'
    · exact h'
    · rw [List.getElem?_eq_none h'] at hi
      cases hi)]
  exact hi
set_option maxHeartbeats 2000000 in
theorem objectValid_any (o : OV) (w : World) (hr : RdO w w.heap.size o) (hf : Fit o) :
    Calls Try.prog 31 #[.agg #[.slice o.A o.ps.length o.c, .slice o.Y o.ys.length o.yc]] w (Ret (.bool (objOk o.d)) w) := by
  obtain ⟨A, c, ps, Y, yc, ys⟩ := o
  obtain ⟨np, ny, cy, hp, hy⟩ := hf
  simp only [OV.d] at np ny cy hp hy ⊢
  have HR := hide hr
  have HL := hide (And.intro hp hy)
  clear hr hp hy
  have B0 : Below w.heap.size w (w.alloc (.cells #[.slice A ps.length c, .slice Y ys.length yc] 26)) := (by repeat (first | exact Below.refl _ _ | with_reducible assumption | (refine Below.drew ?_) | (refine Below.drewN ?_ _) | (refine Below.alloc ?_ (by simp; try omega) _) | (refine Below.setCell ?_ (by simp; try omega) _)))
  have X0 := Box.new w 26 #[.slice A ps.length c, .slice Y ys.length yc]
  have x0 := X0.cell 0
  have x1 := X0.cell 1
  simp only [List.getElem?_toArray, List.getElem?_cons_zero, List.getElem?_cons_succ] at x0 x1
  have HB := hide B0
  clear B0
  go_enter Try.func31, Try.ntmps31
  by_cases b1 : 8 < ps.length
  · have HV := hide (obj_big (d := ⟨ps.map SV.d, ys⟩) (.inl (by simpa using b1)))
    have e1 : decide ((8 : Int) < ps.length) = true := decide_eq_true (by omega)
    clear b1
    go_wp2_with fail
    go_ret
    exact ⟨by rw [HV.out]; rfl, HB.out⟩
  have e1 : decide ((8 : Int) < ps.length) = false := decide_eq_false (by omega)
  by_cases b2 : 12 < ys.length
  · have HV := hide (obj_big (d := ⟨ps.map SV.d, ys⟩) (.inr b2))
    have e2 : decide ((12 : Int) < ys.length) = true := decide_eq_true (by omega)
    clear b1 b2
    go_wp2_with fail
    go_ret
    exact ⟨by rw [HV.out]; rfl, HB.out⟩
  have e2 : decide ((12 : Int) < ys.length) = false := decide_eq_false (by omega)
  go_wp2_with fail
  clear e1 e2
  generalize w.alloc (.cells #[.slice A ps.length c, .slice Y ys.length yc] 26) = w0 at *
  go_loopw [20] (fun i wi => ∃ k : Nat, k ≤ ps.length ∧ i = .int .i64 k ∧ (∀ p ∈ ps.take k, secOk ys.length p.d = true) ∧ Box wi w.heap.size 26 #[.slice A ps.length c, .slice Y ys.length yc] ∧ Below w.heap.size w wi) (fun i _ => ps.length - (intOf i).toNat)
  case atStart => exact ⟨0, Nat.zero_le _, rfl, fun p hp => by simp at hp, X0, HB.out⟩
  case round =>
    obtain ⟨k, hk, rfl, hok, hx, hb⟩ := hrel
    have HO := hide hok
    have HX := hide hx
    have HBI := hide hb
    clear X0 x0 x1 HB
    have x0 := hx.cell 0
    have x1 := hx.cell 1
    simp only [List.getElem?_toArray, List.getElem?_cons_zero, List.getElem?_cons_succ] at x0 x1
    have hxl := hx.lt
    by_cases hlt : k < ps.length
    · obtain ⟨b, off, hA, hbg, hc⟩ := (HR.out.1.1.below hb).row secC_len (by decide) hlt
      subst hA
      have hc0 := hc 0 _ rfl
      have hc1 := hc 1 _ rfl
      have hc2 := hc 2 _ rfl
      have hc3 := hc 3 _ rfl
      have hc4 := hc 4 _ rfl
      have hc5 := hc 5 _ rfl
      simp only [Nat.add_zero] at hc0
      have HM := hide (HL.out.1 _ (List.getElem_mem hlt))
      have HRS := hide (HR.out.1.2 _ (List.getElem_mem hlt))
      have HS := hide (fun (h : secOk ys.length ps[k].d = true) => (show ∀ p ∈ ps.take (k + 1), secOk ys.length p.d = true from fun p hp => by
        rw [take_succ hlt] at hp
        rcases List.mem_append.1 hp with hp | hp
        · exact HO.out p hp
        · rw [List.mem_singleton.1 hp]; exact h))
      have HF := hide (fun (h : secOk ys.length ps[k].d = false) => obj_sec (d := ⟨ps.map SV.d, ys⟩) (List.mem_map_of_mem (List.getElem_mem hlt)) h)
      clear hok hx hb hc HO
      generalize ps[k] = p at *
      go_wp2_with fail
      have B1 : Below wr.heap.size wr (wr.alloc (.cells #[.string p.nm, .int .i64 p.kd, .int .i64 p.al, .slice p.A p.zs.length p.c, .int .i64 p.sz, .slice p.F p.fs.length p.fc] 73)) := (by repeat (first | exact Below.refl _ _ | with_reducible assumption | (refine Below.drew ?_) | (refine Below.drewN ?_ _) | (refine Below.alloc ?_ (by simp; try omega) _) | (refine Below.setCell ?_ (by simp; try omega) _)))
      have HX1 := hide (HX.out.call B1)
      have HB1 := hide (HBI.out.trans (B1.mono HBI.out.size))
      clear hc0 hc1 hc2 hc3 hc4 hc5 B1 HX HBI x0 x1
      refine (sectionValid_any p ys.length _ ((HRS.out.below HB1.out).more HB1.out.size) HM.out.1 HM.out.2.1 HM.out.2.2).mono ?_
      rintro e w2 ⟨rfl, b2⟩
      have HX2 := hide (HX1.out.call b2)
      have HB2 := hide (HB1.out.trans (b2.mono HB1.out.size))
      clear b2 HX1 HB1
      cases hs : secOk ys.length p.d
      · have HV := hide (HF.out hs)
        clear HF HS hs
        go_wp2_with fail
        go_ret
        exact ⟨by rw [HV.out]; rfl, HB2.out⟩
      · have HS' := hide (HS.out hs)
        clear HF HS hs
        go_wp2_with fail
        refine ⟨⟨k + 1, by omega, by go_num, HS'.out, HX2.out, HB2.out⟩, by simp [intOf]; omega⟩
    · have HALL := hide (show ∀ p ∈ ps.map SV.d, secOk ys.length p = true from fun p hp => by
        obtain ⟨q, hq, rfl⟩ := List.mem_map.1 hp
        exact HO.out q (by rw [List.take_of_length_le (by omega)]; exact hq))
      clear HO hok hx hb
      go_wp2_with fail
      clear x0 x1
      go_loopw [34] (fun i wi => ∃ k : Nat, k ≤ ys.length ∧ i = .int .i64 k ∧ (∀ j, (h : j < ys.length) → j < k → symAt (ps.map SV.d) ys j ys[j] = true) ∧ Box wi w.heap.size 26 #[.slice A ps.length c, .slice Y ys.length yc] ∧ Below w.heap.size w wi) (fun i _ => ys.length - (intOf i).toNat)
      case atStart => exact ⟨0, Nat.zero_le _, rfl, fun j _ hj => absurd hj (Nat.not_lt_zero j), HX.out, HBI.out⟩
      case round =>
        obtain ⟨k, hk, rfl, hok, hx, hb⟩ := hrel
        clear HX HBI hxl
        have HO := hide hok
        have HX := hide hx
        have HBI := hide hb
        by_cases hlt : k < ys.length
        · obtain ⟨b, off, hY, hbg, hc⟩ := (HR.out.2.below hb).row symbolC_len (by decide) hlt
          have hc0 := hc 0 _ rfl
          have hc1 := hc 1 _ rfl
          have hc2 := hc 2 _ rfl
          have hc3 := hc 3 _ rfl
          simp only [Nat.add_zero] at hc0
          have HM := hide (HL.out.2 _ (List.getElem_mem hlt))
          have HS := hide (fun (h : symAt (ps.map SV.d) ys k ys[k] = true) => (show ∀ j, (h : j < ys.length) → j < k + 1 → symAt (ps.map SV.d) ys j ys[j] = true from fun j hj hjk => by
            rcases Nat.lt_or_ge j k with h' | h'
            · exact HO.out j hj h'
            · obtain rfl : j = k := by omega
              exact h))
          have HF := hide (fun (h : symAt (ps.map SV.d) ys k ys[k] = false) => obj_sym (d := ⟨ps.map SV.d, ys⟩) hlt h)
          have HRP := hide (show Rd w w.heap.size Y (cellsOf symbolC (ys.take k)) from by
            have := Rd.prefix_take HR.out.2 k
            exact this)
          have hkl : (ys.take k).length = k := by rw [List.length_take]; omega
          have HPL := hide (show (ys.take k).length ≤ maxLen by rw [hkl]; unfold maxLen; omega)
          clear hok hx hb hc HO
          unfold symAt at HS HF
          generalize hpre : ys.take k = pre at *
          generalize ys[k] = z at *
          obtain ⟨zn, zb, zw, zv⟩ := z
          simp only at HM hc0 hc1 hc2 hc3 HS HF
          subst hY
          go_wp2_with fail
          have B1 : Below wr.heap.size wr (wr.alloc (.cells #[.string zn, .int .i64 zb, .int .i64 zw, .int .i64 zv] 69)) := (by repeat (first | exact Below.refl _ _ | with_reducible assumption | (refine Below.drew ?_) | (refine Below.drewN ?_ _) | (refine Below.alloc ?_ (by simp; try omega) _) | (refine Below.setCell ?_ (by simp; try omega) _)))
          have HX1 := hide (HX.out.call B1)
          have HB1 := hide (HBI.out.trans (B1.mono HBI.out.size))
          have HZ1 := hide (Box.new wr 69 #[.string zn, .int .i64 zb, .int .i64 zw, .int .i64 zv])
          clear hc0 hc1 hc2 hc3 B1 HX HBI hbg
          generalize wr.alloc (.cells #[.string zn, .int .i64 zb, .int .i64 zw, .int .i64 zv] 69) = w1 at *
          generalize wr.heap.size = Z at *
          have hSS : ∀ V : World, Below w1.heap.size w1 V → (V.cell? ⟨w.heap.size, 0, none⟩ = some (.slice A ps.length c) ∧ V.cell? ⟨w.heap.size, 1, none⟩ = some (.slice (some ⟨b, off, none⟩) ys.length yc) ∧ V.cell? ⟨Z, 0, none⟩ = some (.string zn) ∧ V.cell? ⟨Z, 1, none⟩ = some (.int .i64 zb) ∧ V.cell? ⟨Z, 2, none⟩ = some (.int .i64 zw) ∧ V.cell? ⟨Z, 3, none⟩ = some (.int .i64 zv)) := by
            intro V hV
            exact ⟨(HX1.out.call hV).cell 0, (HX1.out.call hV).cell 1, (HZ1.out.call hV).cell 0, (HZ1.out.call hV).cell 1, (HZ1.out.call hV).cell 2, (HZ1.out.call hV).cell 3⟩
          have HSS := hide hSS
          clear hSS
          refine Reg.startT (fun V => V.cell? ⟨w.heap.size, 0, none⟩ = some (.slice A ps.length c) ∧ V.cell? ⟨w.heap.size, 1, none⟩ = some (.slice (some ⟨b, off, none⟩) ys.length yc) ∧ V.cell? ⟨Z, 0, none⟩ = some (.string zn) ∧ V.cell? ⟨Z, 1, none⟩ = some (.int .i64 zb) ∧ V.cell? ⟨Z, 2, none⟩ = some (.int .i64 zw) ∧ V.cell? ⟨Z, 3, none⟩ = some (.int .i64 zv)) (fun _ => false) (by kernel_rfl) ?_
          have hHeld := HSS.out w1.drew (Below.drew (Below.refl _ _))
          refine Reg.takeT (i := 0) (v := ?_) rfl (by kernel_rfl) (by kernel_rfl) (by kernel_rfl) (by kernel_rfl) (fun _ _ _ h => h) (Or.inl ⟨by rfl, ?_⟩) (by assumption) ?_
          rotate_left 1
          focus (intro w hSw; (try dsimp only at hSw); go_simp; (try with_reducible rfl))
          try simp only [List.getElem_toArray, List.getElem_cons_succ, List.getElem_cons_zero, Act.put, List.setIfInBounds_toArray, List.set_cons_zero, List.set_cons_succ]
          refine Reg.takeT (i := 1) (v := ?_) rfl (by kernel_rfl) (by kernel_rfl) (by kernel_rfl) (by kernel_rfl) (fun _ _ _ h => h) (Or.inl ⟨by rfl, ?_⟩) (by assumption) ?_
          rotate_left 1
          focus (intro w hSw; (try dsimp only at hSw); go_simp; (try with_reducible rfl))
          try simp only [List.getElem_toArray, List.getElem_cons_succ, List.getElem_cons_zero, Act.put, List.setIfInBounds_toArray, List.set_cons_zero, List.set_cons_succ]
          refine Reg.takeT (i := 2) (v := ?_) rfl (by kernel_rfl) (by kernel_rfl) (by kernel_rfl) (by kernel_rfl) (fun _ _ _ h => h) (Or.inl ⟨by rfl, ?_⟩) (by assumption) ?_
          rotate_left 1
          focus (intro w hSw; (try dsimp only at hSw); go_simp; (try with_reducible rfl))
          try simp only [List.getElem_toArray, List.getElem_cons_succ, List.getElem_cons_zero, Act.put, List.setIfInBounds_toArray, List.set_cons_zero, List.set_cons_succ]
          refine Reg.oneT (i := 3) rfl (by kernel_rfl) (fun K hK => ?_)
          go_simp
          refine (symbolValid_any (zn, zb, zw, zv) A ps c _ ((HR.out.1.1.below (Below.drew HB1.out)).more (Below.drew HB1.out).size) np HM.out (fun p hp => Nat.le_trans (HL.out.1 p hp).2.1 (by decide))).mono ?_
          rintro e w3 ⟨rfl, b3⟩
          have HB3 := hide (HB1.out.trans ((below_drawn b3).mono HB1.out.size))
          have HXB := hide (below_drawn b3)
          have hHeld := HSS.out w3 HXB.out
          refine hK.out _ _ hHeld ?_
          clear hK K b3
          try simp only [List.getElem_toArray, List.getElem_cons_succ, List.getElem_cons_zero, Act.put, List.setIfInBounds_toArray, List.set_cons_zero, List.set_cons_succ]
          cases hs : symOk (ps.map SV.d) (zn, zb, zw, zv)
          · have HV := hide (HF.out (by rw [hs]; rfl))
            clear HF HS hs
            refine Reg.takeT (i := 4) (v := ?_) rfl (by kernel_rfl) (by kernel_rfl) (by kernel_rfl) (by kernel_rfl) (fun _ _ _ h => h) (Or.inl ⟨by rfl, ?_⟩) (by assumption) ?_
            rotate_left 1
            focus (intro w hSw; (try dsimp only at hSw); go_simp; (try with_reducible rfl))
            try simp only [List.getElem_toArray, List.getElem_cons_succ, List.getElem_cons_zero, Act.put, List.setIfInBounds_toArray, List.set_cons_zero, List.set_cons_succ]
            refine Reg.takeT (i := 5) (v := ?_) rfl (by kernel_rfl) (by kernel_rfl) (by kernel_rfl) (by kernel_rfl) (fun _ _ _ h => h) (Or.inl ⟨by rfl, ?_⟩) (by assumption) ?_
            rotate_left 1
            focus (intro w hSw; (try dsimp only at hSw); go_simp; (try with_reducible rfl))
            try simp only [List.getElem_toArray, List.getElem_cons_succ, List.getElem_cons_zero, Act.put, List.setIfInBounds_toArray, List.set_cons_zero, List.set_cons_succ]
            refine Reg.takeT (i := 6) (v := undef) rfl (by kernel_rfl) (by kernel_rfl) (by kernel_rfl) (by kernel_rfl) (fun _ _ _ h => h) (Or.inr ⟨by rfl, rfl⟩) (by assumption) ?_
            try simp only [List.getElem_toArray, List.getElem_cons_succ, List.getElem_cons_zero, Act.put, List.setIfInBounds_toArray, List.set_cons_zero, List.set_cons_succ]
            refine Reg.takeT (i := 7) (v := undef) rfl (by kernel_rfl) (by kernel_rfl) (by kernel_rfl) (by kernel_rfl) (fun _ _ _ h => h) (Or.inr ⟨by rfl, rfl⟩) (by assumption) ?_
            try simp only [List.getElem_toArray, List.getElem_cons_succ, List.getElem_cons_zero, Act.put, List.setIfInBounds_toArray, List.set_cons_zero, List.set_cons_succ]
            refine Reg.takeT (i := 8) (v := undef) rfl (by kernel_rfl) (by kernel_rfl) (by kernel_rfl) (by kernel_rfl) (fun _ _ _ h => h) (Or.inr ⟨by rfl, rfl⟩) (by assumption) ?_
            try simp only [List.getElem_toArray, List.getElem_cons_succ, List.getElem_cons_zero, Act.put, List.setIfInBounds_toArray, List.set_cons_zero, List.set_cons_succ]
            refine Reg.takeT (i := 9) (v := undef) rfl (by kernel_rfl) (by kernel_rfl) (by kernel_rfl) (by kernel_rfl) (fun _ _ _ h => h) (Or.inr ⟨by rfl, rfl⟩) (by assumption) ?_
            try simp only [List.getElem_toArray, List.getElem_cons_succ, List.getElem_cons_zero, Act.put, List.setIfInBounds_toArray, List.set_cons_zero, List.set_cons_succ]
            refine Reg.takeT (i := 10) (v := undef) rfl (by kernel_rfl) (by kernel_rfl) (by kernel_rfl) (by kernel_rfl) (fun _ _ _ h => h) (Or.inr ⟨by rfl, rfl⟩) (by assumption) ?_
            try simp only [List.getElem_toArray, List.getElem_cons_succ, List.getElem_cons_zero, Act.put, List.setIfInBounds_toArray, List.set_cons_zero, List.set_cons_succ]
            refine Reg.takeT (i := 11) (v := undef) rfl (by kernel_rfl) (by kernel_rfl) (by kernel_rfl) (by kernel_rfl) (fun _ _ _ h => h) (Or.inr ⟨by rfl, rfl⟩) (by assumption) ?_
            try simp only [List.getElem_toArray, List.getElem_cons_succ, List.getElem_cons_zero, Act.put, List.setIfInBounds_toArray, List.set_cons_zero, List.set_cons_succ]
            refine Reg.takeT (i := 12) (v := undef) rfl (by kernel_rfl) (by kernel_rfl) (by kernel_rfl) (by kernel_rfl) (fun _ _ _ h => h) (Or.inr ⟨by rfl, rfl⟩) (by assumption) ?_
            try simp only [List.getElem_toArray, List.getElem_cons_succ, List.getElem_cons_zero, Act.put, List.setIfInBounds_toArray, List.set_cons_zero, List.set_cons_succ]
            refine Reg.takeT (i := 13) (v := undef) rfl (by kernel_rfl) (by kernel_rfl) (by kernel_rfl) (by kernel_rfl) (fun _ _ _ h => h) (Or.inr ⟨by rfl, rfl⟩) (by assumption) ?_
            try simp only [List.getElem_toArray, List.getElem_cons_succ, List.getElem_cons_zero, Act.put, List.setIfInBounds_toArray, List.set_cons_zero, List.set_cons_succ]
            refine Reg.takeT (i := 14) (v := undef) rfl (by kernel_rfl) (by kernel_rfl) (by kernel_rfl) (by kernel_rfl) (fun _ _ _ h => h) (Or.inr ⟨by rfl, rfl⟩) (by assumption) ?_
            try simp only [List.getElem_toArray, List.getElem_cons_succ, List.getElem_cons_zero, Act.put, List.setIfInBounds_toArray, List.set_cons_zero, List.set_cons_succ]
            refine Reg.takeT (i := 15) (v := undef) rfl (by kernel_rfl) (by kernel_rfl) (by kernel_rfl) (by kernel_rfl) (fun _ _ _ h => h) (Or.inr ⟨by rfl, rfl⟩) (by assumption) ?_
            try simp only [List.getElem_toArray, List.getElem_cons_succ, List.getElem_cons_zero, Act.put, List.setIfInBounds_toArray, List.set_cons_zero, List.set_cons_succ]
            refine Reg.takeT (i := 16) (v := undef) rfl (by kernel_rfl) (by kernel_rfl) (by kernel_rfl) (by kernel_rfl) (fun _ _ _ h => h) (Or.inr ⟨by rfl, rfl⟩) (by assumption) ?_
            try simp only [List.getElem_toArray, List.getElem_cons_succ, List.getElem_cons_zero, Act.put, List.setIfInBounds_toArray, List.set_cons_zero, List.set_cons_succ]
            refine Reg.takeT (i := 17) (v := undef) rfl (by kernel_rfl) (by kernel_rfl) (by kernel_rfl) (by kernel_rfl) (fun _ _ _ h => h) (Or.inr ⟨by rfl, rfl⟩) (by assumption) ?_
            try simp only [List.getElem_toArray, List.getElem_cons_succ, List.getElem_cons_zero, Act.put, List.setIfInBounds_toArray, List.set_cons_zero, List.set_cons_succ]
            refine Reg.takeT (i := 18) (v := undef) rfl (by kernel_rfl) (by kernel_rfl) (by kernel_rfl) (by kernel_rfl) (fun _ _ _ h => h) (Or.inr ⟨by rfl, rfl⟩) (by assumption) ?_
            try simp only [List.getElem_toArray, List.getElem_cons_succ, List.getElem_cons_zero, Act.put, List.setIfInBounds_toArray, List.set_cons_zero, List.set_cons_succ]
            refine Reg.takeT (i := 19) (v := ?_) rfl (by kernel_rfl) (by kernel_rfl) (by kernel_rfl) (by kernel_rfl) (fun _ _ _ h => h) (Or.inl ⟨by rfl, ?_⟩) (by assumption) ?_
            rotate_left 1
            focus (intro w hSw; (try dsimp only at hSw); go_simp; (try with_reducible rfl))
            try simp only [List.getElem_toArray, List.getElem_cons_succ, List.getElem_cons_zero, Act.put, List.setIfInBounds_toArray, List.set_cons_zero, List.set_cons_succ]
            refine Reg.doneT (by kernel_rfl) ?_ _
            clear hHeld HSS
            go_wp2_with fail
            go_ret
            exact ⟨by rw [HV.out]; rfl, HB3.out⟩
          rw [hs] at HS HF
          clear hs
          refine Reg.takeT (i := 4) (v := ?_) rfl (by kernel_rfl) (by kernel_rfl) (by kernel_rfl) (by kernel_rfl) (fun _ _ _ h => h) (Or.inl ⟨by rfl, ?_⟩) (by assumption) ?_
          rotate_left 1
          focus (intro w hSw; (try dsimp only at hSw); go_simp; (try with_reducible rfl))
          try simp only [List.getElem_toArray, List.getElem_cons_succ, List.getElem_cons_zero, Act.put, List.setIfInBounds_toArray, List.set_cons_zero, List.set_cons_succ]
          refine Reg.takeT (i := 5) (v := ?_) rfl (by kernel_rfl) (by kernel_rfl) (by kernel_rfl) (by kernel_rfl) (fun _ _ _ h => h) (Or.inl ⟨by rfl, ?_⟩) (by assumption) ?_
          rotate_left 1
          focus (intro w hSw; (try dsimp only at hSw); go_simp; (try with_reducible rfl))
          try simp only [List.getElem_toArray, List.getElem_cons_succ, List.getElem_cons_zero, Act.put, List.setIfInBounds_toArray, List.set_cons_zero, List.set_cons_succ]
          refine Reg.takeT (i := 6) (v := ?_) rfl (by kernel_rfl) (by kernel_rfl) (by kernel_rfl) (by kernel_rfl) (fun _ _ _ h => h) (Or.inl ⟨by rfl, ?_⟩) (by assumption) ?_
          rotate_left 1
          focus (intro w hSw; (try dsimp only at hSw); go_simp; (try with_reducible rfl))
          try simp only [List.getElem_toArray, List.getElem_cons_succ, List.getElem_cons_zero, Act.put, List.setIfInBounds_toArray, List.set_cons_zero, List.set_cons_succ]
          refine Reg.takeT (i := 7) (v := ?_) rfl (by kernel_rfl) (by kernel_rfl) (by kernel_rfl) (by kernel_rfl) (fun _ _ _ h => h) (Or.inl ⟨by rfl, ?_⟩) (by assumption) ?_
          rotate_left 1
          focus (intro w hSw; (try dsimp only at hSw); go_simp; (try with_reducible rfl))
          try simp only [List.getElem_toArray, List.getElem_cons_succ, List.getElem_cons_zero, Act.put, List.setIfInBounds_toArray, List.set_cons_zero, List.set_cons_succ]
          refine Reg.takeT (i := 8) (v := ?_) rfl (by kernel_rfl) (by kernel_rfl) (by kernel_rfl) (by kernel_rfl) (fun _ _ _ h => h) (Or.inl ⟨by rfl, ?_⟩) (by assumption) ?_
          rotate_left 1
          focus (intro w hSw; (try dsimp only at hSw); go_simp; (try with_reducible rfl))
          try simp only [List.getElem_toArray, List.getElem_cons_succ, List.getElem_cons_zero, Act.put, List.setIfInBounds_toArray, List.set_cons_zero, List.set_cons_succ]
          by_cases hz : zb = 0
          · have HS' := hide (HS.out (by rw [decide_eq_true hz]; rfl))
            have e1 : (zb != 0) = false := by rw [hz]; rfl
            clear HS HF hz
            rw [e1]
            refine Reg.takeT (i := 9) (v := ?_) rfl (by kernel_rfl) (by kernel_rfl) (by kernel_rfl) (by kernel_rfl) (fun _ _ _ h => h) (Or.inl ⟨by rfl, ?_⟩) (by assumption) ?_
            rotate_left 1
            focus (intro w hSw; (try dsimp only at hSw); go_simp; (try with_reducible rfl))
            try simp only [List.getElem_toArray, List.getElem_cons_succ, List.getElem_cons_zero, Act.put, List.setIfInBounds_toArray, List.set_cons_zero, List.set_cons_succ]
            refine Reg.takeT (i := 10) (v := undef) rfl (by kernel_rfl) (by kernel_rfl) (by kernel_rfl) (by kernel_rfl) (fun _ _ _ h => h) (Or.inr ⟨by rfl, rfl⟩) (by assumption) ?_
            try simp only [List.getElem_toArray, List.getElem_cons_succ, List.getElem_cons_zero, Act.put, List.setIfInBounds_toArray, List.set_cons_zero, List.set_cons_succ]
            refine Reg.takeT (i := 11) (v := undef) rfl (by kernel_rfl) (by kernel_rfl) (by kernel_rfl) (by kernel_rfl) (fun _ _ _ h => h) (Or.inr ⟨by rfl, rfl⟩) (by assumption) ?_
            try simp only [List.getElem_toArray, List.getElem_cons_succ, List.getElem_cons_zero, Act.put, List.setIfInBounds_toArray, List.set_cons_zero, List.set_cons_succ]
            refine Reg.takeT (i := 12) (v := undef) rfl (by kernel_rfl) (by kernel_rfl) (by kernel_rfl) (by kernel_rfl) (fun _ _ _ h => h) (Or.inr ⟨by rfl, rfl⟩) (by assumption) ?_
            try simp only [List.getElem_toArray, List.getElem_cons_succ, List.getElem_cons_zero, Act.put, List.setIfInBounds_toArray, List.set_cons_zero, List.set_cons_succ]
            refine Reg.takeT (i := 13) (v := undef) rfl (by kernel_rfl) (by kernel_rfl) (by kernel_rfl) (by kernel_rfl) (fun _ _ _ h => h) (Or.inr ⟨by rfl, rfl⟩) (by assumption) ?_
            try simp only [List.getElem_toArray, List.getElem_cons_succ, List.getElem_cons_zero, Act.put, List.setIfInBounds_toArray, List.set_cons_zero, List.set_cons_succ]
            refine Reg.takeT (i := 14) (v := undef) rfl (by kernel_rfl) (by kernel_rfl) (by kernel_rfl) (by kernel_rfl) (fun _ _ _ h => h) (Or.inr ⟨by rfl, rfl⟩) (by assumption) ?_
            try simp only [List.getElem_toArray, List.getElem_cons_succ, List.getElem_cons_zero, Act.put, List.setIfInBounds_toArray, List.set_cons_zero, List.set_cons_succ]
            refine Reg.takeT (i := 15) (v := undef) rfl (by kernel_rfl) (by kernel_rfl) (by kernel_rfl) (by kernel_rfl) (fun _ _ _ h => h) (Or.inr ⟨by rfl, rfl⟩) (by assumption) ?_
            try simp only [List.getElem_toArray, List.getElem_cons_succ, List.getElem_cons_zero, Act.put, List.setIfInBounds_toArray, List.set_cons_zero, List.set_cons_succ]
            refine Reg.takeT (i := 16) (v := undef) rfl (by kernel_rfl) (by kernel_rfl) (by kernel_rfl) (by kernel_rfl) (fun _ _ _ h => h) (Or.inr ⟨by rfl, rfl⟩) (by assumption) ?_
            try simp only [List.getElem_toArray, List.getElem_cons_succ, List.getElem_cons_zero, Act.put, List.setIfInBounds_toArray, List.set_cons_zero, List.set_cons_succ]
            refine Reg.takeT (i := 17) (v := undef) rfl (by kernel_rfl) (by kernel_rfl) (by kernel_rfl) (by kernel_rfl) (fun _ _ _ h => h) (Or.inr ⟨by rfl, rfl⟩) (by assumption) ?_
            try simp only [List.getElem_toArray, List.getElem_cons_succ, List.getElem_cons_zero, Act.put, List.setIfInBounds_toArray, List.set_cons_zero, List.set_cons_succ]
            refine Reg.takeT (i := 18) (v := ?_) rfl (by kernel_rfl) (by kernel_rfl) (by kernel_rfl) (by kernel_rfl) (fun _ _ _ h => h) (Or.inl ⟨by rfl, ?_⟩) (by assumption) ?_
            rotate_left 1
            focus (intro w hSw; (try dsimp only at hSw); go_simp; (try with_reducible rfl))
            try simp only [List.getElem_toArray, List.getElem_cons_succ, List.getElem_cons_zero, Act.put, List.setIfInBounds_toArray, List.set_cons_zero, List.set_cons_succ]
            refine Reg.takeT (i := 19) (v := ?_) rfl (by kernel_rfl) (by kernel_rfl) (by kernel_rfl) (by kernel_rfl) (fun _ _ _ h => h) (Or.inl ⟨by rfl, ?_⟩) (by assumption) ?_
            rotate_left 1
            focus (intro w hSw; (try dsimp only at hSw); go_simp; (try with_reducible rfl))
            try simp only [List.getElem_toArray, List.getElem_cons_succ, List.getElem_cons_zero, Act.put, List.setIfInBounds_toArray, List.set_cons_zero, List.set_cons_succ]
            refine Reg.doneT (by kernel_rfl) ?_ _
            clear hHeld HSS
            have HX3 := hide (HX1.out.call HXB.out)
            go_wp2_with fail
            refine ⟨⟨k + 1, by omega, by go_num, HS'.out, HX3.out, HB3.out⟩, by simp [intOf]; omega⟩
          · have e1 : (zb != 0) = true := bne_iff_ne.2 hz
            rw [decide_eq_false hz] at HS HF
            clear hz
            rw [e1]
            have hky : k ≤ yc := by omega
            refine Reg.takeT (i := 9) (v := ?_) rfl (by kernel_rfl) (by kernel_rfl) (by kernel_rfl) (by kernel_rfl) (fun _ _ _ h => h) (Or.inl ⟨by rfl, ?_⟩) (by assumption) ?_
            rotate_left 1
            focus (intro w hSw; (try dsimp only at hSw); go_simp; (try with_reducible rfl))
            try simp only [List.getElem_toArray, List.getElem_cons_succ, List.getElem_cons_zero, Act.put, List.setIfInBounds_toArray, List.set_cons_zero, List.set_cons_succ]
            refine Reg.takeT (i := 10) (v := ?_) rfl (by kernel_rfl) (by kernel_rfl) (by kernel_rfl) (by kernel_rfl) (fun _ _ _ h => h) (Or.inl ⟨by rfl, ?_⟩) (by assumption) ?_
            rotate_left 1
            focus (intro w hSw; (try dsimp only at hSw); go_simp; (try with_reducible rfl))
            try simp only [List.getElem_toArray, List.getElem_cons_succ, List.getElem_cons_zero, Act.put, List.setIfInBounds_toArray, List.set_cons_zero, List.set_cons_succ]
            refine Reg.takeT (i := 11) (v := ?_) rfl (by kernel_rfl) (by kernel_rfl) (by kernel_rfl) (by kernel_rfl) (fun _ _ _ h => h) (Or.inl ⟨by rfl, ?_⟩) (by assumption) ?_
            rotate_left 1
            focus (intro w hSw; (try dsimp only at hSw); go_simp; (try with_reducible rfl))
            try simp only [List.getElem_toArray, List.getElem_cons_succ, List.getElem_cons_zero, Act.put, List.setIfInBounds_toArray, List.set_cons_zero, List.set_cons_succ]
            refine Reg.takeT (i := 12) (v := ?_) rfl (by kernel_rfl) (by kernel_rfl) (by kernel_rfl) (by kernel_rfl) (fun _ _ _ h => h) (Or.inl ⟨by rfl, ?_⟩) (by assumption) ?_
            rotate_left 1
            focus (intro w hSw; (try dsimp only at hSw); go_simp; (try with_reducible rfl))
            try simp only [List.getElem_toArray, List.getElem_cons_succ, List.getElem_cons_zero, Act.put, List.setIfInBounds_toArray, List.set_cons_zero, List.set_cons_succ]
            refine Reg.takeT (i := 13) (v := ?_) rfl (by kernel_rfl) (by kernel_rfl) (by kernel_rfl) (by kernel_rfl) (fun _ _ _ h => h) (Or.inl ⟨by rfl, ?_⟩) (by assumption) ?_
            rotate_left 1
            focus (intro w hSw; (try dsimp only at hSw); go_simp; (try with_reducible rfl))
            try simp only [List.getElem_toArray, List.getElem_cons_succ, List.getElem_cons_zero, Act.put, List.setIfInBounds_toArray, List.set_cons_zero, List.set_cons_succ]
            refine Reg.takeT (i := 14) (v := ?_) rfl (by kernel_rfl) (by kernel_rfl) (by kernel_rfl) (by kernel_rfl) (fun _ _ _ h => h) (Or.inl ⟨by rfl, ?_⟩) (by assumption) ?_
            rotate_left 1
            focus (intro w hSw; (try dsimp only at hSw); go_simp; (try with_reducible rfl))
            try simp only [List.getElem_toArray, List.getElem_cons_succ, List.getElem_cons_zero, Act.put, List.setIfInBounds_toArray, List.set_cons_zero, List.set_cons_succ]
            refine Reg.takeT (i := 15) (v := ?_) rfl (by kernel_rfl) (by kernel_rfl) (by kernel_rfl) (by kernel_rfl) (fun _ _ _ h => h) (Or.inl ⟨by rfl, ?_⟩) (by assumption) ?_
            rotate_left 1
            focus (intro w hSw; (try dsimp only at hSw); go_simp; (try with_reducible rfl))
            try simp only [List.getElem_toArray, List.getElem_cons_succ, List.getElem_cons_zero, Act.put, List.setIfInBounds_toArray, List.set_cons_zero, List.set_cons_succ]
            refine Reg.oneT (i := 16) rfl (by kernel_rfl) (fun K hK => ?_)
            go_simp
            have HGO := hide (globalOf_any zn (some ⟨b, off, none⟩) pre yc w3 ((HRP.out.below HB3.out).more HB3.out.size) HPL.out)
            rw [hkl] at HGO
            refine HGO.out.mono ?_
            rintro e w4 ⟨r, rfl, hr4, b4⟩
            have HB4 := hide (HB3.out.trans (b4.mono HB3.out.size))
            have HX4 := hide ((HX1.out.call HXB.out).call b4)
            have hHeld := HSS.out w4 (HXB.out.trans (b4.mono HXB.out.size))
            refine hK.out _ _ hHeld ?_
            clear hK K b4
            try simp only [List.getElem_toArray, List.getElem_cons_succ, List.getElem_cons_zero, Act.put, List.setIfInBounds_toArray, List.set_cons_zero, List.set_cons_succ]
            cases hq : pre.any (hit zn)
            · have HS' := hide (HS.out (by rw [hq]; rfl))
              rw [hq] at hr4
              clear HS HF hq
              refine Reg.takeT (i := 17) (v := ?_) rfl (by kernel_rfl) (by kernel_rfl) (by kernel_rfl) (by kernel_rfl) (fun _ _ _ h => h) (Or.inl ⟨by rfl, ?_⟩) (by assumption) ?_
              rotate_left 1
              focus (intro w hSw; (try dsimp only at hSw); go_simp; (try with_reducible rfl))
              try simp only [List.getElem_toArray, List.getElem_cons_succ, List.getElem_cons_zero, Act.put, List.setIfInBounds_toArray, List.set_cons_zero, List.set_cons_succ]
              refine Reg.takeT (i := 18) (v := ?_) rfl (by kernel_rfl) (by kernel_rfl) (by kernel_rfl) (by kernel_rfl) (fun _ _ _ h => h) (Or.inl ⟨by rfl, ?_⟩) (by assumption) ?_
              rotate_left 1
              focus (intro w hSw; (try dsimp only at hSw); go_simp; (try with_reducible rfl))
              try simp only [List.getElem_toArray, List.getElem_cons_succ, List.getElem_cons_zero, Act.put, List.setIfInBounds_toArray, List.set_cons_zero, List.set_cons_succ]
              refine Reg.takeT (i := 19) (v := ?_) rfl (by kernel_rfl) (by kernel_rfl) (by kernel_rfl) (by kernel_rfl) (fun _ _ _ h => h) (Or.inl ⟨by rfl, ?_⟩) (by assumption) ?_
              rotate_left 1
              focus (intro w hSw; (try dsimp only at hSw); go_simp; (try with_reducible rfl))
              try simp only [List.getElem_toArray, List.getElem_cons_succ, List.getElem_cons_zero, Act.put, List.setIfInBounds_toArray, List.set_cons_zero, List.set_cons_succ]
              refine Reg.doneT (by kernel_rfl) ?_ _
              clear hHeld HSS
              go_wp2_with fail
              refine ⟨⟨k + 1, by omega, by go_num, HS'.out, HX4.out, HB4.out⟩, by simp [intOf]; omega⟩
            · have HV := hide (HF.out (by rw [hq]; rfl))
              rw [hq] at hr4
              clear HS HF hq
              refine Reg.takeT (i := 17) (v := ?_) rfl (by kernel_rfl) (by kernel_rfl) (by kernel_rfl) (by kernel_rfl) (fun _ _ _ h => h) (Or.inl ⟨by rfl, ?_⟩) (by assumption) ?_
              rotate_left 1
              focus (intro w hSw; (try dsimp only at hSw); go_simp; (try with_reducible rfl))
              try simp only [List.getElem_toArray, List.getElem_cons_succ, List.getElem_cons_zero, Act.put, List.setIfInBounds_toArray, List.set_cons_zero, List.set_cons_succ]
              refine Reg.takeT (i := 18) (v := ?_) rfl (by kernel_rfl) (by kernel_rfl) (by kernel_rfl) (by kernel_rfl) (fun _ _ _ h => h) (Or.inl ⟨by rfl, ?_⟩) (by assumption) ?_
              rotate_left 1
              focus (intro w hSw; (try dsimp only at hSw); go_simp; (try with_reducible rfl))
              try simp only [List.getElem_toArray, List.getElem_cons_succ, List.getElem_cons_zero, Act.put, List.setIfInBounds_toArray, List.set_cons_zero, List.set_cons_succ]
              refine Reg.takeT (i := 19) (v := ?_) rfl (by kernel_rfl) (by kernel_rfl) (by kernel_rfl) (by kernel_rfl) (fun _ _ _ h => h) (Or.inl ⟨by rfl, ?_⟩) (by assumption) ?_
              rotate_left 1
              focus (intro w hSw; (try dsimp only at hSw); go_simp; (try with_reducible rfl))
              try simp only [List.getElem_toArray, List.getElem_cons_succ, List.getElem_cons_zero, Act.put, List.setIfInBounds_toArray, List.set_cons_zero, List.set_cons_succ]
              refine Reg.doneT (by kernel_rfl) ?_ _
              clear hHeld HSS
              go_wp2_with fail
              go_ret
              exact ⟨by rw [HV.out]; rfl, HB4.out⟩
        · have HV := hide (obj_yes (d := ⟨ps.map SV.d, ys⟩) (by simp; omega) (by simp; omega) HALL.out (fun j hj => HO.out j hj (Nat.lt_of_lt_of_le hj (show ys.length ≤ k by omega))))
          clear HO hok hx hb
          go_wp2_with fail
          go_ret
          exact ⟨by rw [HV.out]; rfl, HBI.out⟩
end Go.Proofs.Ytmglgjchemecjaa.CObjValid
/- The reference's l4Copy: an object in new memory. -/
namespace Go.Proofs.Ytmglgjchemecjaa.CCopyS
set_option maxRecDepth 200000
open Go.ChangeShapes Go.WideShapes Go.ChangeAt Go.RowKit Kit CFixups CSymbols PObj BObj CMarkRows CObjValid
theorem one_sym (ys : List YD) : ∀ u ∈ cellsOf symbolC ys, u.oneCell' = true := by
  intro u hu
  obtain ⟨z, _, hz⟩ := List.mem_flatMap.1 hu
  simp only [symbolC, List.mem_cons, List.not_mem_nil, or_false] at hz
  rcases hz with rfl | rfl | rfl | rfl <;> rfl
theorem one_fix (ys : List FD) : ∀ u ∈ cellsOf fixupC ys, u.oneCell' = true := by
  intro u hu
  obtain ⟨z, _, hz⟩ := List.mem_flatMap.1 hu
  simp only [fixupC, List.mem_cons, List.not_mem_nil, or_false] at hz
  rcases hz with rfl | rfl | rfl | rfl <;> rfl
theorem one_ints (k : IntKind) (zs : List Int) : ∀ u ∈ ints k zs, u.oneCell' = true := by
  intro u hu
  obtain ⟨z, _, rfl⟩ := List.mem_map.1 hu
  rfl
end Go.Proofs.Ytmglgjchemecjaa.CCopyS
/- An object that grows: a section or a symbol is put behind its last. -/
namespace Go.Proofs.Ytmglgjchemecjaa.BObj2
set_option maxRecDepth 200000
open Go.ChangeShapes Go.WideShapes Go.ChangeAt Go.RowKit Kit CFixups CSymbols PObj BObj CMarkRows
theorem one_sec (q : SV) : ∀ u ∈ secC q, u.oneCell' = true := by
  intro u hu
  simp only [secC, List.mem_cons, List.not_mem_nil, or_false] at hu
  rcases hu with rfl | rfl | rfl | rfl | rfl | rfl <;> rfl
section
variable {w w' : World} {base N : Nat} {o : OV}
/-- A section is put behind the last: its rows are there already, and newer than the others. -/
theorem _root_.Go.Proofs.Ytmglgjchemecjaa.BObj.OwnO.addS (h : OwnO w base o) {q : SV} (hq : RwS w base q) (hold : ∀ p ∈ o.ps, ∀ k, sblk p k → k < N) (hnew : ∀ k, sblk q k → N ≤ k) {A' : Option Addr} {n' c' : Nat} (hn : n' = o.ps.length + 1)
    (row : Row w' base 73 6 A' n' c' (cellsOf secC o.ps ++ secC q)) (g : w.grownBy w' (blk o.A o.c)) : OwnO w' base { o with A := A', c := c', ps := o.ps ++ [q] } := by
  subst hn
  have hS : ∀ p, RwS w base p → RwS w' base p := fun p hp => ⟨hp.1.grown g (fun k hk => apartT hp.1 h.1.1 (by decide) k hk), hp.2.grown g (fun k hk => apartT hp.2 h.1.1 (by decide) k hk)⟩
  refine ⟨⟨?_, ?_, ?_⟩, h.2.grown g (fun k hk => apartT h.2 h.1.1 (by decide) k hk)⟩
  · rw [← cells_snoc] at row
    show Row w' base _ 6 A' (o.ps ++ [q]).length c' _
    rw [List.length_append]
    exact row
  · exact RwSs.snoc (fun p hp => hS p (h.1.2.1 p hp)) (hS q hq)
  · exact PwSs.snoc h.1.2.2 hold hnew
/-- A symbol is put behind the last. -/
theorem _root_.Go.Proofs.Ytmglgjchemecjaa.BObj.OwnO.addY (h : OwnO w base o) (zs : List YD) {Y' : Option Addr} {n' c' : Nat} (hn : n' = o.ys.length + zs.length)
    (row : Row w' base 69 4 Y' n' c' (cellsOf symbolC o.ys ++ cellsOf symbolC zs)) (g : w.grownBy w' (blk o.Y o.yc)) : OwnO w' base { o with Y := Y', yc := c', ys := o.ys ++ zs } := by
  subst hn
  refine ⟨⟨h.1.1.grown g (fun k hk => apartT h.1.1 h.2 (by decide) k hk), fun p hp => ⟨(h.1.2.1 p hp).1.grown g (fun k hk => apartT (h.1.2.1 p hp).1 h.2 (by decide) k hk), (h.1.2.1 p hp).2.grown g (fun k hk => apartT (h.1.2.1 p hp).2 h.2 (by decide) k hk)⟩, h.1.2.2⟩, ?_⟩
  show Row w' base _ 4 Y' (o.ys ++ zs).length c' (cellsOf symbolC (o.ys ++ zs))
  rw [List.length_append, show cellsOf symbolC (o.ys ++ zs) = cellsOf symbolC o.ys ++ cellsOf symbolC zs by simp [cellsOf]]
  exact row
/-- A box of another type than an object's rows is none of its blocks. -/
theorem _root_.Go.Proofs.Ytmglgjchemecjaa.BObj.OwnO.ne_box (h : OwnO w base o) {X : Nat} {t : TypeId} {cs : Array Value} (hb : Box w X t cs) (h1 : 5 ≠ t) (h2 : 77 ≠ t) (h3 : 73 ≠ t) (h4 : 69 ≠ t) : ∀ k, oblk o k → k ≠ X := by
  rintro k ((hk | ⟨p, hp, hk⟩) | hk)
  · exact h.1.1.box hb h3 k hk
  · exact (h.1.2.1 p hp).box hb h1 h2 k hk
  · exact h.2.box hb h4 k hk
theorem _root_.Go.Proofs.Ytmglgjchemecjaa.BObj.OwnO.set (h : OwnO w base o) {a : Addr} (ha : ∀ k, oblk o k → k ≠ a.block) (u : Value) : OwnO (w.setCell a u) base o := h.keep fun k hk => Below.heap_setCell w a u k (ha k hk)
theorem _root_.Go.Proofs.Ytmglgjchemecjaa.BObj.OwnO.grownR (h : OwnO w base o) {R : Nat} (g : w.grownBy w' (some R)) (hR : R < base) : OwnO w' base o := h.keep fun k hk => g.block k (h.lt k hk).2 (fun e => by injection e with e; have := (h.lt k hk).1; omega)
end
end Go.Proofs.Ytmglgjchemecjaa.BObj2
/- slices.Clone of symbols, fixups and bytes. -/
namespace Go.Proofs.Ytmglgjchemecjaa.CClones
set_option maxRecDepth 200000
open Go.ChangeShapes Go.WideShapes Go.ChangeAt Go.RowKit Kit CFixups CSymbols PObj BObj CMarkRows CObjValid CCopyS
end Go.Proofs.Ytmglgjchemecjaa.CClones
/- The program's copyObject: an object in new memory. -/
namespace Go.Proofs.Ytmglgjchemecjaa.CCopyI
set_option maxRecDepth 200000
open Go.ChangeShapes Go.WideShapes Go.ChangeAt Go.RowKit Kit CFixups CSymbols PObj BObj CMarkRows CObjValid CCopyS CClones
end Go.Proofs.Ytmglgjchemecjaa.CCopyI
/- Stores into an object of one's own: a byte, a fixup's To, a symbol. -/
namespace Go.Proofs.Ytmglgjchemecjaa.BStore
set_option maxRecDepth 200000
open Go.ChangeShapes Go.WideShapes Go.ChangeAt Go.RowKit Kit CFixups CSymbols PObj BObj CMarkRows
theorem own_of {w : World} {base : Nat} {e : TypeId} {size n c : Nat} {A : Option Addr} {xs : List Value} (h : Row w base e size A n c xs) (hn : 0 < n) :
    ∃ g, A = some ⟨g, 0, none⟩ ∧ base ≤ g ∧ g < w.heap.size ∧ blk A c = some g ∧ w.ownsRow base e size (.slice (some ⟨g, 0, none⟩) n c) n xs := by
  have hc : c ≠ 0 := by
    have := h.cap.1
    omega
  have hown : w.ownsRow base e size (.slice A n c) n xs := h.elim (fun h => absurd h.2.1 hc) id
  rcases hown.2 with ⟨hv, h0⟩ | ⟨g, cap, c', hv, hN, _⟩
  · omega
  · injection hv with hA
    subst hA
    have hb : blk (some ⟨g, 0, none⟩) c = some g := by
      unfold blk
      rw [if_neg hc]
      rfl
    exact ⟨g, rfl, hN, (h.lt g hb).2, hb, hown⟩
/-- One section's rows turn, all else stays. -/
theorem OwnO.swap {w w' : World} {base c yc : Nat} {A Y : Option Addr} {l1 l2 : List SV} {q : SV} {ys : List YD} (h : OwnO w base ⟨A, c, l1 ++ q :: l2, Y, yc, ys⟩) (q' : SV)
    (hs : secC q' = secC q) (h1 : q'.A = q.A) (h2 : q'.c = q.c) (h3 : q'.F = q.F) (h4 : q'.fc = q.fc) (hq' : RwS w' base q') (g : Nat) (hg : sblk q g) (hk : ∀ k, k ≠ g → w'.heap[k]? = w.heap[k]?) :
    OwnO w' base ⟨A, c, l1 ++ q' :: l2, Y, yc, ys⟩ := by
  obtain ⟨⟨hrow, hrw, hpw⟩, hy⟩ := h
  simp only at hrow hrw hpw hy
  have hq := hrw q (by simp)
  unfold PwSs at hpw
  obtain ⟨p1, p2, p3⟩ := List.pairwise_append.1 hpw
  obtain ⟨p4, p5⟩ := List.pairwise_cons.1 p2
  have happ : ∀ x, RwS w base x → (ApS x q ∨ ApS q x) → RwS w' base x := by
    rintro x hx ha
    refine ⟨hx.1.keep fun k hb => hk k ?_, hx.2.keep fun k hb => hk k ?_⟩
    · rintro rfl
      rcases hg with hg | hg
      · rcases ha with ha | ha
        · exact ha.1 _ hb hg
        · exact ha.1 _ hg hb
      · exact apartT hx.1 hq.2 (by decide) _ hb hg
    · rintro rfl
      rcases hg with hg | hg
      · exact apartT hx.2 hq.1 (by decide) _ hb hg
      · rcases ha with ha | ha
        · exact ha.2 _ hb hg
        · exact ha.2 _ hg hb
  have hap : ∀ x, (ApS x q' ↔ ApS x q) ∧ (ApS q' x ↔ ApS q x) := fun x => by
    unfold ApS
    rw [h1, h2, h3, h4]
    exact ⟨Iff.rfl, Iff.rfl⟩
  refine ⟨⟨?_, ?_, ?_⟩, ?_⟩
  · have e1 : cellsOf secC (l1 ++ q' :: l2) = cellsOf secC (l1 ++ q :: l2) := by simp [cellsOf, hs]
    have e2 : (l1 ++ q' :: l2).length = (l1 ++ q :: l2).length := by simp
    show Row w' base _ 6 A (l1 ++ q' :: l2).length c (cellsOf secC (l1 ++ q' :: l2))
    rw [e1, e2]
    refine hrow.keep fun k hb => hk k ?_
    rintro rfl
    rcases hg with hg | hg
    · exact apartT hrow hq.1 (by decide) _ hb hg
    · exact apartT hrow hq.2 (by decide) _ hb hg
  · intro x hx
    rcases List.mem_append.1 hx with hx | hx
    · exact happ x (hrw x (by simp [hx])) (.inl (p3 x hx q (List.mem_cons_self ..)))
    · rcases List.mem_cons.1 hx with rfl | hx
      · exact hq'
      · exact happ x (hrw x (by simp [hx])) (.inr (p4 x hx))
  · show (l1 ++ q' :: l2).Pairwise ApS
    refine List.pairwise_append.2 ⟨p1, List.pairwise_cons.2 ⟨fun x hx => (hap x).2.2 (p4 x hx), p5⟩, fun a ha b hb => ?_⟩
    rcases List.mem_cons.1 hb with rfl | hb
    · exact (hap a).1.2 (p3 a ha q (List.mem_cons_self ..))
    · exact p3 a ha b (List.mem_cons_of_mem _ hb)
  · show Row w' base _ 4 Y ys.length yc _
    refine hy.keep fun k hb => hk k ?_
    rintro rfl
    rcases hg with hg | hg
    · exact apartT hy hq.1 (by decide) _ hb hg
    · exact apartT hy hq.2 (by decide) _ hb hg
/-- The block of a section's row is none of another type's box. -/
theorem setInts8 (l : List Int) (j : Nat) (x : Int) : (ints .u8 l).set j (.int .u8 x) = ints .u8 (l.set j x) := by simp [ints, List.map_set]
theorem OwnO.storeB {w : World} {base c yc : Nat} {A Y : Option Addr} {l1 l2 : List SV} {q : SV} {ys : List YD} (h : OwnO w base ⟨A, c, l1 ++ q :: l2, Y, yc, ys⟩) {g : Nat} (hA : q.A = some ⟨g, 0, none⟩) (i : Nat) (hi : i < q.zs.length) (x : Int) :
    OwnO (w.setCell ⟨g, i, none⟩ (.int .u8 x)) base ⟨A, c, l1 ++ { q with zs := q.zs.set i x } :: l2, Y, yc, ys⟩ := by
  have hq : RwS w base q := h.1.2.1 q (by simp)
  obtain ⟨g', hA', _, _, hb, hown⟩ := own_of hq.1 (by omega)
  rw [hA] at hA'
  simp only [Option.some.injEq, Addr.mk.injEq, and_true] at hA'
  subst hA'
  refine OwnO.swap h { q with zs := q.zs.set i x } (by simp [secC]) rfl rfl rfl rfl ⟨?_, ?_⟩ g (.inl hb) (fun k hk => Below.heap_setCell _ _ _ k hk)
  · refine .inr ?_
    show (w.setCell _ _).ownsRow base _ 1 (.slice q.A (q.zs.set i x).length q.c) (q.zs.set i x).length (ints .u8 (q.zs.set i x))
    rw [List.length_set, ← setInts8, hA]
    exact (hown.stored i _).1
  · exact hq.2.set (a := ⟨g, i, none⟩) (fun k hk e => apartT hq.2 hq.1 (by decide) k hk (by rw [hb, e])) _
/-- A box of another type than the rows' stays when the object is stored into. -/
theorem cell_own {w : World} {base : Nat} {e : TypeId} {size n c : Nat} {g : Nat} {xs : List Value} (h : w.ownsRow base e size (.slice (some ⟨g, 0, none⟩) n c) n xs) : ∃ cs, Box w g e cs := box_of_own h
end Go.Proofs.Ytmglgjchemecjaa.BStore
/- Contracts of the laws' helpers on []int: the copy, the comparison, the marks. -/
namespace Go.Proofs.Ytmglgjchemecjaa.CInts
set_option maxRecDepth 200000
open Go.ChangeShapes Go.WideShapes Go.ChangeAt Go.RowKit Kit
theorem info64 : (Try.prog.info? 3).map (fun i => (i.zero, i.size, i.bytes)) = some (some (.int .i64 0), 1, 8) := by kernel_rfl
end Go.Proofs.Ytmglgjchemecjaa.CInts
/- Lists of objects, and rows of rows of numbers, in memory. -/
namespace Go.Proofs.Ytmglgjchemecjaa.BList
set_option maxRecDepth 200000
open Go.ChangeShapes Go.WideShapes Go.ChangeAt Go.RowKit Kit CFixups CSymbols PObj BObj CMarkRows BStore CObjValid
def objC (o : OV) : List Value := [.slice o.A o.ps.length o.c, .slice o.Y o.ys.length o.yc]
theorem objC_len (o : OV) : (objC o).length = 2 := rfl
def RdOs (w : World) (B : Nat) (A : Option Addr) (os : List OV) : Prop := Rd w B A (cellsOf objC os) ∧ ∀ o ∈ os, RdO w B o
/-- A row of numbers as a value. -/
structure RV where
  A : Option Addr
  c : Nat
  zs : List Int
def rowC (p : RV) : List Value := [.slice p.A p.zs.length p.c]
theorem rowC_len (p : RV) : (rowC p).length = 1 := rfl
def RdRs (w : World) (B : Nat) (A : Option Addr) (rs : List RV) : Prop := Rd w B A (cellsOf rowC rs) ∧ ∀ r ∈ rs, Rd w B r.A (ints .i64 r.zs)
def RwR (w : World) (base : Nat) (p : RV) : Prop := Row w base 3 1 p.A p.zs.length p.c (ints .i64 p.zs)
def RwRs (w : World) (base : Nat) (rs : List RV) : Prop := ∀ p ∈ rs, RwR w base p
def PwRs (rs : List RV) : Prop := rs.Pairwise fun p q => Apart p.A p.c q.A q.c
def OwnRs (w : World) (base : Nat) (A : Option Addr) (c : Nat) (rs : List RV) : Prop := Row w base 59 1 A rs.length c (cellsOf rowC rs) ∧ RwRs w base rs ∧ PwRs rs
section
variable {w w' : World} {B B' base : Nat} {A : Option Addr} {c : Nat} {os : List OV} {rs : List RV} {p : RV}
theorem RdOs.below (h : RdOs w B A os) (hb : Below B w w') : RdOs w' B A os := ⟨h.1.below hb, fun o ho => (h.2 o ho).below hb⟩
theorem RdOs.more (h : RdOs w B A os) (hB : B ≤ B') : RdOs w B' A os := ⟨h.1.more hB, fun o ho => (h.2 o ho).more hB⟩
theorem RdRs.below (h : RdRs w B A rs) (hb : Below B w w') : RdRs w' B A rs := ⟨h.1.below hb, fun o ho => (h.2 o ho).below hb⟩
theorem RdRs.more (h : RdRs w B A rs) (hB : B ≤ B') : RdRs w B' A rs := ⟨h.1.more hB, fun o ho => (h.2 o ho).more hB⟩
theorem OwnRs.rd (h : OwnRs w base A c rs) : RdRs w w.heap.size A rs := ⟨h.1.rd, fun p hp => (h.2.1 p hp).rd⟩
end
theorem rows_set (rs : List RV) (k : Nat) (hk : k < rs.length) (q : RV) (hq : rowC q = rowC rs[k]) : cellsOf rowC (rs.set k q) = cellsOf rowC rs := by
  have e : rs = rs.take k ++ rs[k] :: rs.drop (k + 1) := by rw [← List.drop_eq_getElem_cons hk, List.take_append_drop]
  rw [List.set_eq_take_append_cons_drop, if_pos hk]
  conv => rhs; rw [e]
  simp only [cellsOf, List.flatMap_append, List.flatMap_cons, hq]
theorem setInts64 (l : List Int) (j : Nat) (x : Int) : (ints .i64 l).set j (.int .i64 x) = ints .i64 (l.set j x) := by simp [ints, List.map_set]
/-- A number of a row of one's own is put. -/
theorem OwnRs.put {w : World} {base : Nat} {A : Option Addr} {c : Nat} {rs : List RV} (h : OwnRs w base A c rs) {k : Nat} (hk : k < rs.length) {i : Nat} (hi : i < rs[k].zs.length) (v : Int) :
    ∃ g, rs[k].A = some ⟨g, 0, none⟩ ∧ base ≤ g ∧ g < w.heap.size ∧ blk rs[k].A rs[k].c = some g ∧ (∃ cs, Box w g 3 cs) ∧ (w.frozen? ⟨g, i, none⟩ = false) ∧ (∃ u, w.cell? ⟨g, i, none⟩ = some (.int .i64 u)) ∧ OwnRs (w.setCell ⟨g, i, none⟩ (.int .i64 v)) base A c (rs.set k { rs[k] with zs := rs[k].zs.set i v }) := by
  obtain ⟨hrow, hrw, hpw⟩ := h
  have hq := hrw rs[k] (List.getElem_mem hk)
  obtain ⟨g, hA, hb1, hb2, hb, hown⟩ := own_of hq (by omega)
  have hcell := World.ownsRow.cellAt hown i (by simpa using hi)
  refine ⟨g, hA, hb1, hb2, hb, cell_own hown, World.ownsRow.frozenAt hown i, ⟨rs[k].zs[i], ?_⟩, ?_, ?_, ?_⟩
  · rw [hcell]
    simp [ints]
  · rw [rows_set rs k hk _ (by simp [rowC]), List.length_set]
    exact hrow.set (a := ⟨g, i, none⟩) (fun j hj e => apartT hrow hq (by decide) j hj (by rw [hb, e])) _
  · intro p hp
    obtain ⟨j, hj, rfl⟩ := List.getElem_of_mem hp
    rw [List.length_set] at hj
    rw [List.getElem_set]
    by_cases hjk : k = j
    · subst hjk
      rw [if_pos rfl]
      refine .inr ?_
      show (w.setCell _ _).ownsRow base _ 1 (.slice rs[k].A (rs[k].zs.set i v).length rs[k].c) (rs[k].zs.set i v).length (ints .i64 (rs[k].zs.set i v))
      rw [List.length_set, ← setInts64, hA]
      exact (hown.stored i _).1
    · rw [if_neg hjk]
      refine (hrw rs[j] (List.getElem_mem hj)).set (a := ⟨g, i, none⟩) (fun m hm e => ?_) _
      have e' : m = g := e
      rw [PwRs, List.pairwise_iff_getElem] at hpw
      subst e'
      rcases Nat.lt_or_gt_of_ne hjk with hlt | hgt
      · exact hpw k j hk hj hlt _ hb hm
      · exact hpw j k hj hk hgt _ hm hb
  · rw [PwRs, List.pairwise_iff_getElem] at hpw ⊢
    intro a b ha hb hab
    rw [List.length_set] at ha hb
    have key : ∀ m (hm : m < rs.length) (hm' : m < (rs.set k { rs[k] with zs := rs[k].zs.set i v }).length), ((rs.set k { rs[k] with zs := rs[k].zs.set i v })[m]).A = rs[m].A ∧ ((rs.set k { rs[k] with zs := rs[k].zs.set i v })[m]).c = rs[m].c := by
      intro m hm hm'
      rw [List.getElem_set]
      by_cases hkm : k = m
      · subst hkm
        rw [if_pos rfl]
        exact ⟨rfl, rfl⟩
      · rw [if_neg hkm]
        exact ⟨rfl, rfl⟩
    rw [(key a ha _).1, (key a ha _).2, (key b hb _).1, (key b hb _).2]
    exact hpw a b ha hb hab
/-- A row is put behind the last: it is there already, and newer than the others. -/
theorem OwnRs.snoc {w w' : World} {base : Nat} {A : Option Addr} {c : Nat} {rs : List RV} {N : Nat} (h : OwnRs w base A c rs) {q : RV} (hq : RwR w base q) (hold : ∀ p ∈ rs, ∀ k, blk p.A p.c = some k → k < N) (hnew : ∀ k, blk q.A q.c = some k → N ≤ k)
    {A' : Option Addr} {n' c' : Nat} (hn : n' = rs.length + 1) (row : Row w' base 59 1 A' n' c' (cellsOf rowC rs ++ rowC q)) (g : w.grownBy w' (blk A c)) : OwnRs w' base A' c' (rs ++ [q]) := by
  subst hn
  have hS : ∀ p, RwR w base p → RwR w' base p := fun p hp => hp.grown g (fun k hk => apartT hp h.1 (by decide) k hk)
  refine ⟨?_, ?_, ?_⟩
  · rw [List.length_append, show cellsOf rowC (rs ++ [q]) = cellsOf rowC rs ++ rowC q by simp [cellsOf]]
    exact row
  · intro p hp
    rcases List.mem_append.1 hp with hp | hp
    · exact hS p (h.2.1 p hp)
    · have e := List.mem_singleton.1 hp
      subst e
      exact hS _ hq
  · refine List.pairwise_append.2 ⟨h.2.2, List.pairwise_singleton _ _, fun a ha b hb => ?_⟩
    have e := List.mem_singleton.1 hb
    subst e
    intro k hk hk'
    have e1 := hold a ha k hk
    have e2 := hnew k hk'
    omega
theorem OwnRs.keep {w w' : World} {base : Nat} {A : Option Addr} {c : Nat} {rs : List RV} (h : OwnRs w base A c rs) (hk : ∀ k, base ≤ k → k < w.heap.size → (blk A c = some k ∨ ∃ p ∈ rs, blk p.A p.c = some k) → w'.heap[k]? = w.heap[k]?) : OwnRs w' base A c rs :=
  ⟨h.1.keep fun k hb => hk k (h.1.lt k hb).1 (h.1.lt k hb).2 (.inl hb), fun p hp => (h.2.1 p hp).keep fun k hb => hk k ((h.2.1 p hp).lt k hb).1 ((h.2.1 p hp).lt k hb).2 (.inr ⟨p, hp, hb⟩), h.2.2⟩
theorem OwnRs.call {w w' : World} {base : Nat} {A : Option Addr} {c : Nat} {rs : List RV} (h : OwnRs w base A c rs) (hb : Below w.heap.size w w') : OwnRs w' base A c rs := h.keep fun k _ hk _ => hb.block k hk
/-- A cell of a box of another type is put. -/
theorem OwnRs.set {w : World} {base : Nat} {A : Option Addr} {c : Nat} {rs : List RV} (h : OwnRs w base A c rs) {X : Nat} {t : TypeId} {cs : Array Value} (hb : Box w X t cs) (h1 : 59 ≠ t) (h2 : 3 ≠ t) (i : Nat) (u : Value) : OwnRs (w.setCell ⟨X, i, none⟩ u) base A c rs :=
  h.keep fun k _ _ hk => Below.heap_setCell w ⟨X, i, none⟩ u k (by
    rcases hk with hk | ⟨p, hp, hk⟩
    · exact h.1.box hb h1 k hk
    · exact (h.2.1 p hp).box hb h2 k hk)
theorem OwnRs.lt {w : World} {base : Nat} {A : Option Addr} {c : Nat} {rs : List RV} (h : OwnRs w base A c rs) : ∀ p ∈ rs, ∀ k, blk p.A p.c = some k → k < w.heap.size := fun p hp k hk => ((h.2.1 p hp).lt k hk).2
/-- The object at a place of a list: its two cells, and what it holds. -/
theorem RdOs.at {w : World} {B : Nat} {A : Option Addr} {os : List OV} (h : RdOs w B A os) {k : Nat} (hk : k < os.length) :
    ∃ b off, A = some ⟨b, off, none⟩ ∧ b < B ∧ w.cell? ⟨b, off + k * 2, none⟩ = some (.slice os[k].A os[k].ps.length os[k].c) ∧ w.cell? ⟨b, off + k * 2 + 1, none⟩ = some (.slice os[k].Y os[k].ys.length os[k].yc) := by
  obtain ⟨b, off, hA, hb, hc⟩ := h.1.row objC_len (by decide) hk
  exact ⟨b, off, hA, hb, by simpa using hc 0 _ rfl, hc 1 _ rfl⟩
theorem RdRs.at {w : World} {B : Nat} {A : Option Addr} {rs : List RV} (h : RdRs w B A rs) {k : Nat} (hk : k < rs.length) :
    ∃ b off, A = some ⟨b, off, none⟩ ∧ b < B ∧ w.cell? ⟨b, off + k, none⟩ = some (.slice rs[k].A rs[k].zs.length rs[k].c) := by
  obtain ⟨b, off, hA, hb, hc⟩ := h.1.row rowC_len (by decide) hk
  exact ⟨b, off, hA, hb, by simpa using hc 0 _ rfl⟩
/-- Two cells of a block put. -/
theorem two_below {B : Nat} {a w : World} {Y : Nat} (h : Below B a w) (hY : B ≤ Y) (u v : Value) : Below B a ((w.setCell ⟨Y, 0, none⟩ u).setCell ⟨Y, 1, none⟩ v) :=
  (h.setCell (p := ⟨Y, 0, none⟩) hY u).setCell (p := ⟨Y, 1, none⟩) hY v
/-- What the walks ask of a list of objects. -/
structure Fits (os : List OV) : Prop where
  n : os.length ≤ 1048576
  o : ∀ o ∈ os, Fit o
end Go.Proofs.Ytmglgjchemecjaa.BList
/- sorted: names by their bytes, each once. -/
namespace Go.Proofs.Ytmglgjchemecjaa.CSorted
set_option maxRecDepth 200000
open Go.ChangeShapes Go.WideShapes Go.ChangeAt Go.RowKit Kit CFixups CSymbols PObj BObj CMarkRows BStore
def nmC (xs : List ByteArray) : List Value := xs.map Value.string
def bytesOf (xs : List ByteArray) : List (List UInt8) := xs.map (·.data.toList)
def sortB (xs : List ByteArray) : List (List UInt8) := Lib.compact ((bytesOf xs).mergeSort fun x y => decide (x ≤ y))
def srtN (xs : List ByteArray) : List ByteArray := (sortB xs).map fun l => ⟨l.toArray⟩
theorem enc_strs (ls : List (List UInt8)) : ls.map encStr = nmC (ls.map fun l => ⟨l.toArray⟩) := by
  unfold nmC
  rw [List.map_map]
  rfl
theorem strs_enc (xs : List ByteArray) : nmC xs = (bytesOf xs).map encStr := (Lib.map_encStr xs).symm
theorem srtN_nil : srtN [] = [] := by
  simp [srtN, sortB, bytesOf, Lib.compact, Lib.compactUpTo]
theorem below_grow (w : World) (os : Array Obj) : Below w.heap.size w (Sort.grow w os) := ⟨rfl, rfl, rfl, by simp, fun _ hk => Sort.heap_grow_old w os hk⟩
/-- A row of names handed back. -/
def RetN (xs : List ByteArray) (w : World) (e : Ending) (w' : World) : Prop := ∃ A c, e = .returned (.slice A xs.length c) ∧ Row w' w.heap.size 9 1 A xs.length c (nmC xs) ∧ Below w.heap.size w w'
theorem of_owns {w : World} {base n : Nat} {v : Value} {xs : List Value} (h : w.ownsRow base 9 1 v n xs) : ∃ A c, v = .slice A n c ∧ Row w base 9 1 A n c xs := by
  rcases h.2 with ⟨rfl, rfl⟩ | ⟨g, cap, cur, rfl, _⟩
  · exact ⟨none, 0, rfl, .inr h⟩
  · exact ⟨_, cap, rfl, .inr h⟩
theorem cloneN_any (xs : List ByteArray) (A : Option Addr) (c : Nat) (base : Nat) (w : World) (h : Row w base 9 1 A xs.length c (nmC xs)) (hm : xs.length ≤ 1048576) :
    Calls Try.prog 154 #[.slice A xs.length c] w (RetN xs w) := by
  by_cases h0 : xs.length = 0
  · obtain rfl := List.eq_nil_of_length_eq_zero h0
    cases A with
    | none =>
      refine (XNames.slices_Clone_string_nil 0 c w).mono ?_
      rintro e w' ⟨rfl, rfl⟩
      exact ⟨none, 0, rfl, Row.empty _ _ _ _ _, Below.refl _ _⟩
    | some a =>
      refine (XNames.slices_Clone_string_zero a c w).mono ?_
      rintro e w' ⟨v, rfl, ho, _, hb⟩
      obtain ⟨A', c', rfl, hr⟩ := of_owns ho
      exact ⟨A', c', rfl, hr, hb⟩
  · obtain ⟨g, rfl, _, _, _, hown⟩ := own_of h (by omega)
    refine (XNames.slices_Clone_string g 0 xs.length c xs w (Nat.le_refl _) (by omega) (fun j hj => ?_)).mono ?_
    · have h1 := World.ownsRow.cellAt hown j (by simpa [nmC] using hj)
      rw [Nat.zero_add, h1]
      simp [nmC, List.getD_eq_getElem?_getD, List.getElem?_eq_getElem hj]
    · rintro e w' ⟨v, rfl, ho, _, hb⟩
      rw [List.take_length] at ho
      obtain ⟨A', c', rfl, hr⟩ := of_owns ho
      exact ⟨A', c', rfl, hr, hb⟩
set_option maxHeartbeats 1000000 in
theorem sorted_any (xs : List ByteArray) (A : Option Addr) (c : Nat) (base : Nat) (w : World) (h : Row w base 9 1 A xs.length c (nmC xs)) (hm : xs.length ≤ 1048576) :
    Calls Try.prog 94 #[.slice A xs.length c] w (RetN (srtN xs) w) := by
  have HQ := hide (cloneN_any xs A c base w h hm)
  clear h
  go_enter Try.func94, Try.ntmps94
  go_wp2_with fail
  refine HQ.out.mono ?_
  rintro e w1 ⟨A1, c1, rfl, r1, b1⟩
  have HR := hide r1
  have HB := hide b1
  clear r1 b1 HQ
  go_wp2_with fail
  have HS : Calls Try.prog 155 #[.slice A1 xs.length c1] w1 fun e w' => e = .returned (.tuple #[]) ∧ Row w' w.heap.size 9 1 A1 xs.length c1 (((bytesOf xs).mergeSort fun x y => decide (x ≤ y)).map encStr) ∧ Below w.heap.size w w' := by
    by_cases h0 : xs.length = 0
    · obtain rfl := List.eq_nil_of_length_eq_zero h0
      refine (XNames.slices_Sort_string_none A1 c1 w1).mono ?_
      rintro e w' ⟨rfl, rfl⟩
      exact ⟨rfl, by simpa [nmC, bytesOf] using HR.out, HB.out⟩
    · obtain ⟨g, rfl, hb1, hb2, _, hown⟩ := own_of HR.out (by omega)
      rw [strs_enc] at hown
      obtain ⟨g', cap, hv, _, _, _, _, hl, hH⟩ := Lib.holds_of_ownsRow hown (by intro e; cases e)
      injection hv with e1 _ e3
      simp only [Option.some.injEq, Addr.mk.injEq, and_true] at e1
      subst e1 e3
      have hl' : (bytesOf xs).length = xs.length := by simp [bytesOf]
      have hC := XNames.slices_Sort_string g 0 c1 (bytesOf xs) w1 hH hb2 (by rw [hl']; omega)
      rw [hl'] at hC
      refine hC.mono ?_
      rintro e w' ⟨rfl, q, os, rfl⟩
      have hlen : ((bytesOf xs).mergeSort fun x y => decide (x ≤ y)).length = xs.length := by rw [List.length_mergeSort, hl']
      have ho := Lib.ownsRow_putRow (q := q) (k := xs.length) hown hlen (Nat.le_refl _)
      rw [List.take_of_length_le (by omega)] at ho
      exact ⟨rfl, .inr (own_call (below_grow _ os) ho), (Lib.below_putRow HB.out hb1).trans ((below_grow _ os).mono (Lib.below_putRow HB.out hb1).size)⟩
  refine HS.mono ?_
  rintro e w2 ⟨rfl, r2, b2⟩
  have HR2 := hide r2
  have HB2 := hide b2
  clear r2 b2 HS HR HB
  go_wp2_with fail
  have HC : Calls Try.prog 156 #[.slice A1 xs.length c1] w2 fun e w' => ∃ c', e = .returned (.slice A1 (srtN xs).length c') ∧ Row w' w.heap.size 9 1 A1 (srtN xs).length c' (nmC (srtN xs)) ∧ Below w.heap.size w w' := by
    have hlen : ((bytesOf xs).mergeSort fun x y => decide (x ≤ y)).length = xs.length := by rw [List.length_mergeSort]; simp [bytesOf]
    by_cases h0 : xs.length = 0
    · obtain rfl := List.eq_nil_of_length_eq_zero h0
      refine (XNames.slices_Compact_string_empty A1 c1 w2).mono ?_
      rintro e w' ⟨rfl, rfl⟩
      rw [srtN_nil]
      exact ⟨c1, rfl, by simpa [nmC, bytesOf] using HR2.out, HB2.out⟩
    · obtain ⟨g, rfl, hb1, hb2, _, hown⟩ := own_of HR2.out (by omega)
      have hcap := HR2.out.cap.1
      generalize hM : ((bytesOf xs).mergeSort fun x y => decide (x ≤ y)) = M at *
      have hsr : srtN xs = (Lib.compact M).map fun l => ⟨l.toArray⟩ := by unfold srtN sortB; rw [hM]
      obtain ⟨g', cap, hv, _, _, _, _, hl, hH⟩ := Lib.holds_of_ownsRow hown (by intro e; cases e)
      injection hv with e1 _ e3
      simp only [Option.some.injEq, Addr.mk.injEq, and_true] at e1
      subst e1 e3
      have hle := Lib.compact_length_le M
      have hC := XNames.slices_Compact_string g 0 c1 M w2 hH (by omega) (by omega)
      rw [hlen] at hC
      refine hC.mono ?_
      rintro e w' ⟨rfl, q, rfl⟩
      have ho := Lib.ownsRow_putRow (q := q) (k := (Lib.compact M).length) (ys := Lib.compact M ++ List.replicate (xs.length - (Lib.compact M).length) []) hown (by simp; omega) (by omega)
      rw [List.take_left] at ho
      refine ⟨c1, by rw [hsr, List.length_map], ?_, Lib.below_putRow HB2.out hb1⟩
      rw [hsr, ← enc_strs, List.length_map]
      exact .inr ho
  refine HC.mono ?_
  rintro e w3 ⟨c3, rfl, r3, b3⟩
  have HB3 := hide b3
  have hl : (srtN xs).length ≤ 1048576 := by
    have h1 := Lib.compact_length_le ((bytesOf xs).mergeSort fun x y => decide (x ≤ y))
    rw [List.length_mergeSort] at h1
    have h2 : (bytesOf xs).length = xs.length := by simp [bytesOf]
    have h3 : (srtN xs).length = (sortB xs).length := by simp [srtN]
    unfold sortB at h3
    omega
  have HQ := hide (cloneN_any (srtN xs) A1 c3 _ w3 r3 hl)
  clear r3 b3 HC HR2 HB2 hl
  generalize srtN xs = ys at *
  go_wp2_with fail
  refine HQ.out.mono ?_
  rintro e w4 ⟨A4, c4, rfl, r4, b4⟩
  have HF := hide (And.intro (r4.down HB3.out.size) (HB3.out.trans (b4.mono HB3.out.size)))
  clear r4 b4 HQ
  go_wp2_with fail
  go_ret
  exact ⟨A4, c4, rfl, HF.out.1, HF.out.2⟩
end Go.Proofs.Ytmglgjchemecjaa.CSorted
/- Whether a fixup uses a symbol: the program's uses. -/
namespace Go.Proofs.Ytmglgjchemecjaa.CUses
set_option maxRecDepth 200000
open Go.ChangeShapes Go.WideShapes Go.ChangeAt Go.RowKit Kit CFixups CSymbols PObj BObj
end Go.Proofs.Ytmglgjchemecjaa.CUses
/- Contracts of the laws' helpers on Warning: the copy, the comparison of equal data, the marks. Written by a program. -/
namespace Go.Proofs.Ytmglgjchemecjaa.CWarnings
set_option maxRecDepth 200000
open Go.ChangeShapes Go.WideShapes Go.ChangeAt Go.RowKit Kit
theorem info : (Try.prog.info? 31).map (fun i => (i.zero, i.size, i.bytes)) = some (some (.agg #[.int .i64 0, .int .i64 0]), 2, 16) := by kernel_rfl
abbrev D := Int × Int
end Go.Proofs.Ytmglgjchemecjaa.CWarnings
/- The reference's l9Used; the program's covers. -/
namespace Go.Proofs.Ytmglgjchemecjaa.CCovers
set_option maxRecDepth 200000
open Go.ChangeShapes Go.WideShapes Go.ChangeAt Go.RowKit Kit CCode CFixups CSymbols PObj BObj PValid CSecValid CUses
end Go.Proofs.Ytmglgjchemecjaa.CCovers
/- The reference's ObjectValid. -/
namespace Go.Proofs.Ytmglgjchemecjaa.CObjValidS
set_option maxRecDepth 200000
open Go.ChangeShapes Go.WideShapes Go.ChangeAt Go.RowKit Kit CCode CName CFixups CSymbols PObj BObj PValid CSecValid CSecValid2 CSecValid3 CSymValid CGlobalOf CObjValid
theorem obj_sizes {d : OD} (h3 : ∀ p ∈ d.ss, secOk d.ys.length p = true) (h4 : ∀ k, (h : k < d.ys.length) → symAt d.ss d.ys k d.ys[k] = true) : objOk d = (decide (d.ss.length ≤ 8) && decide (d.ys.length ≤ 12)) := by
  by_cases h1 : d.ss.length ≤ 8
  · by_cases h2 : d.ys.length ≤ 12
    · rw [obj_yes h1 h2 h3 h4, decide_eq_true h1, decide_eq_true h2]
      rfl
    · rw [obj_big (.inr (by omega)), decide_eq_false h2, Bool.and_false]
  · rw [obj_big (.inl (by omega)), decide_eq_false h1, Bool.false_and]
set_option maxHeartbeats 4000000 in
theorem objectValidS_any (o : OV) (w : World) (hr : RdO w w.heap.size o) (hf : Fit o) :
    Calls Try.prog 29 #[.agg #[.slice o.A o.ps.length o.c, .slice o.Y o.ys.length o.yc]] w (Ret (.bool (objOk o.d)) w) := by
  obtain ⟨A, c, ps, Y, yc, ys⟩ := o
  obtain ⟨np, ny, cy, hp, hy⟩ := hf
  simp only [OV.d] at np ny cy hp hy ⊢
  have HR := hide hr
  have HL := hide (And.intro hp hy)
  clear hr hp hy
  have B0 : Below w.heap.size w (w.alloc (.cells #[.slice A ps.length c, .slice Y ys.length yc] 26)) := (by repeat (first | exact Below.refl _ _ | with_reducible assumption | (refine Below.drew ?_) | (refine Below.drewN ?_ _) | (refine Below.alloc ?_ (by simp; try omega) _) | (refine Below.setCell ?_ (by simp; try omega) _)))
  have X0 := Box.new w 26 #[.slice A ps.length c, .slice Y ys.length yc]
  have HB := hide B0
  clear B0
  go_enter Try.func29, Try.ntmps29
  go_wp2_with fail
  generalize w.alloc (.cells #[.slice A ps.length c, .slice Y ys.length yc] 26) = w0 at *
  go_loopw [3] (fun i wi => ∃ k : Nat, k ≤ ps.length ∧ i = .int .i64 k ∧ (∀ p ∈ ps.take k, secOk ys.length p.d = true) ∧ Box wi w.heap.size 26 #[.slice A ps.length c, .slice Y ys.length yc] ∧ Below w.heap.size w wi) (fun i _ => ps.length - (intOf i).toNat)
  case atStart => exact ⟨0, Nat.zero_le _, rfl, fun p hp => by simp at hp, X0, HB.out⟩
  case round =>
    obtain ⟨k, hk, rfl, hok, hx, hb⟩ := hrel
    have HO := hide hok
    have HX := hide hx
    have HBI := hide hb
    clear X0 HB
    have x0 := hx.cell 0
    have x1 := hx.cell 1
    simp only [List.getElem?_toArray, List.getElem?_cons_zero, List.getElem?_cons_succ] at x0 x1
    have hxl := hx.lt
    by_cases hlt : k < ps.length
    · obtain ⟨b, off, hA, hbg, hc⟩ := (HR.out.1.1.below hb).row secC_len (by decide) hlt
      subst hA
      have hbw : b < wr.heap.size := Nat.lt_of_lt_of_le hbg hb.size
      have hc0 := hc 0 _ rfl
      have hc1 := hc 1 _ rfl
      have hc2 := hc 2 _ rfl
      have hc3 := hc 3 _ rfl
      have hc4 := hc 4 _ rfl
      have hc5 := hc 5 _ rfl
      simp only [Nat.add_zero] at hc0
      have HM := hide (HL.out.1 _ (List.getElem_mem hlt))
      have HRS := hide (HR.out.1.2 _ (List.getElem_mem hlt))
      have HS := hide (fun (h : secOk ys.length ps[k].d = true) => (show ∀ p ∈ ps.take (k + 1), secOk ys.length p.d = true from fun p hp => by
        rw [take_succ hlt] at hp
        rcases List.mem_append.1 hp with hp | hp
        · exact HO.out p hp
        · rw [List.mem_singleton.1 hp]; exact h))
      have HF := hide (fun (h : secOk ys.length ps[k].d = false) => obj_sec (d := ⟨ps.map SV.d, ys⟩) (List.mem_map_of_mem (List.getElem_mem hlt)) h)
      clear hok hx hb hc HO
      generalize ps[k] = p at *
      go_wp2_with fail
      have HSS : Hid (∀ V : World, Below wr.heap.size wr V → (V.cell? ⟨w.heap.size, 0, none⟩ = some (.slice (some ⟨b, off, none⟩) ps.length c) ∧ V.cell? ⟨w.heap.size, 1, none⟩ = some (.slice Y ys.length yc) ∧ V.cell? ⟨b, off + k * 6, none⟩ = some (.string p.nm) ∧ V.cell? ⟨b, off + k * 6 + 1, none⟩ = some (.int .i64 p.kd) ∧ V.cell? ⟨b, off + k * 6 + 2, none⟩ = some (.int .i64 p.al) ∧ V.cell? ⟨b, off + k * 6 + 3, none⟩ = some (.slice p.A p.zs.length p.c) ∧ V.cell? ⟨b, off + k * 6 + 4, none⟩ = some (.int .i64 p.sz) ∧ V.cell? ⟨b, off + k * 6 + 5, none⟩ = some (.slice p.F p.fs.length p.fc))) := hide (fun V hV => ⟨(hV.cell (p := ⟨w.heap.size, 0, none⟩) hxl).trans x0, (hV.cell (p := ⟨w.heap.size, 1, none⟩) hxl).trans x1, (hV.cell (p := ⟨b, off + k * 6, none⟩) hbw).trans hc0, (hV.cell (p := ⟨b, off + k * 6 + 1, none⟩) hbw).trans hc1, (hV.cell (p := ⟨b, off + k * 6 + 2, none⟩) hbw).trans hc2, (hV.cell (p := ⟨b, off + k * 6 + 3, none⟩) hbw).trans hc3, (hV.cell (p := ⟨b, off + k * 6 + 4, none⟩) hbw).trans hc4, (hV.cell (p := ⟨b, off + k * 6 + 5, none⟩) hbw).trans hc5⟩)
      clear hc0 hc1 hc2 hc3 hc4 hc5 x0 x1
      refine Reg.startT (fun V => V.cell? ⟨w.heap.size, 0, none⟩ = some (.slice (some ⟨b, off, none⟩) ps.length c) ∧ V.cell? ⟨w.heap.size, 1, none⟩ = some (.slice Y ys.length yc) ∧ V.cell? ⟨b, off + k * 6, none⟩ = some (.string p.nm) ∧ V.cell? ⟨b, off + k * 6 + 1, none⟩ = some (.int .i64 p.kd) ∧ V.cell? ⟨b, off + k * 6 + 2, none⟩ = some (.int .i64 p.al) ∧ V.cell? ⟨b, off + k * 6 + 3, none⟩ = some (.slice p.A p.zs.length p.c) ∧ V.cell? ⟨b, off + k * 6 + 4, none⟩ = some (.int .i64 p.sz) ∧ V.cell? ⟨b, off + k * 6 + 5, none⟩ = some (.slice p.F p.fs.length p.fc)) (fun _ => false) (by kernel_rfl) ?_
      have hHeld := HSS.out wr.drew (Below.drew (Below.refl _ _))
      refine Reg.takeT (i := 0) (v := ?_) rfl (by kernel_rfl) (by kernel_rfl) (by kernel_rfl) (by kernel_rfl) (fun _ _ _ h => h) (Or.inl ⟨by rfl, ?_⟩) (by assumption) ?_
      rotate_left 1
      focus (intro w hSw; (try dsimp only at hSw); go_simp; (try with_reducible rfl))
      try simp only [List.getElem_toArray, List.getElem_cons_succ, List.getElem_cons_zero, Act.put, List.setIfInBounds_toArray, List.set_cons_zero, List.set_cons_succ]
      refine Reg.takeT (i := 1) (v := ?_) rfl (by kernel_rfl) (by kernel_rfl) (by kernel_rfl) (by kernel_rfl) (fun _ _ _ h => h) (Or.inl ⟨by rfl, ?_⟩) (by assumption) ?_
      rotate_left 1
      focus (intro w hSw; (try dsimp only at hSw); go_simp; (try with_reducible rfl))
      try simp only [List.getElem_toArray, List.getElem_cons_succ, List.getElem_cons_zero, Act.put, List.setIfInBounds_toArray, List.set_cons_zero, List.set_cons_succ]
      refine Reg.takeT (i := 2) (v := ?_) rfl (by kernel_rfl) (by kernel_rfl) (by kernel_rfl) (by kernel_rfl) (fun _ _ _ h => h) (Or.inl ⟨by rfl, ?_⟩) (by assumption) ?_
      rotate_left 1
      focus (intro w hSw; (try dsimp only at hSw); go_simp; (try with_reducible rfl))
      try simp only [List.getElem_toArray, List.getElem_cons_succ, List.getElem_cons_zero, Act.put, List.setIfInBounds_toArray, List.set_cons_zero, List.set_cons_succ]
      refine Reg.takeT (i := 3) (v := ?_) rfl (by kernel_rfl) (by kernel_rfl) (by kernel_rfl) (by kernel_rfl) (fun _ _ _ h => h) (Or.inl ⟨by rfl, ?_⟩) (by assumption) ?_
      rotate_left 1
      focus (intro w hSw; (try dsimp only at hSw); go_simp; (try with_reducible rfl))
      try simp only [List.getElem_toArray, List.getElem_cons_succ, List.getElem_cons_zero, Act.put, List.setIfInBounds_toArray, List.set_cons_zero, List.set_cons_succ]
      refine Reg.takeT (i := 4) (v := ?_) rfl (by kernel_rfl) (by kernel_rfl) (by kernel_rfl) (by kernel_rfl) (fun _ _ _ h => h) (Or.inl ⟨by rfl, ?_⟩) (by assumption) ?_
      rotate_left 1
      focus (intro w hSw; (try dsimp only at hSw); go_simp; (try with_reducible rfl))
      try simp only [List.getElem_toArray, List.getElem_cons_succ, List.getElem_cons_zero, Act.put, List.setIfInBounds_toArray, List.set_cons_zero, List.set_cons_succ]
      refine Reg.takeT (i := 5) (v := ?_) rfl (by kernel_rfl) (by kernel_rfl) (by kernel_rfl) (by kernel_rfl) (fun _ _ _ h => h) (Or.inl ⟨by rfl, ?_⟩) (by assumption) ?_
      rotate_left 1
      focus (intro w hSw; (try dsimp only at hSw); go_simp; (try with_reducible rfl))
      try simp only [List.getElem_toArray, List.getElem_cons_succ, List.getElem_cons_zero, Act.put, List.setIfInBounds_toArray, List.set_cons_zero, List.set_cons_succ]
      refine Reg.takeT (i := 6) (v := ?_) rfl (by kernel_rfl) (by kernel_rfl) (by kernel_rfl) (by kernel_rfl) (fun _ _ _ h => h) (Or.inl ⟨by rfl, ?_⟩) (by assumption) ?_
      rotate_left 1
      focus (intro w hSw; (try dsimp only at hSw); go_simp; (try with_reducible rfl))
      try simp only [List.getElem_toArray, List.getElem_cons_succ, List.getElem_cons_zero, Act.put, List.setIfInBounds_toArray, List.set_cons_zero, List.set_cons_succ]
      refine Reg.takeT (i := 7) (v := ?_) rfl (by kernel_rfl) (by kernel_rfl) (by kernel_rfl) (by kernel_rfl) (fun _ _ _ h => h) (Or.inl ⟨by rfl, ?_⟩) (by assumption) ?_
      rotate_left 1
      focus (intro w hSw; (try dsimp only at hSw); go_simp; (try with_reducible rfl))
      try simp only [List.getElem_toArray, List.getElem_cons_succ, List.getElem_cons_zero, Act.put, List.setIfInBounds_toArray, List.set_cons_zero, List.set_cons_succ]
      refine Reg.oneT (i := 8) rfl (by kernel_rfl) (fun K hK => ?_)
      go_simp
      refine (sectionValidS_any p ys.length _ ((HRS.out.below (Below.drew HBI.out)).more (Below.drew HBI.out).size) HM.out.1 HM.out.2.1 HM.out.2.2).mono ?_
      rintro e w2 ⟨rfl, b2⟩
      have b2' := of_drew b2
      have hHeld := HSS.out w2 b2'
      refine hK.out _ _ hHeld ?_
      clear hK K
      try simp only [List.getElem_toArray, List.getElem_cons_succ, List.getElem_cons_zero, Act.put, List.setIfInBounds_toArray, List.set_cons_zero, List.set_cons_succ]
      have HX2 := hide (HX.out.call b2')
      have HB2 := hide (HBI.out.trans (b2'.mono HBI.out.size))
      clear b2 b2' HX HBI HSS
      cases hs : secOk ys.length p.d
      · have HV := hide (HF.out hs)
        clear HF HS hs
        refine Reg.takeT (i := 9) (v := ?_) rfl (by kernel_rfl) (by kernel_rfl) (by kernel_rfl) (by kernel_rfl) (fun _ _ _ h => h) (Or.inl ⟨by rfl, ?_⟩) (by assumption) ?_
        rotate_left 1
        focus (intro w hSw; (try dsimp only at hSw); go_simp; (try with_reducible rfl))
        try simp only [List.getElem_toArray, List.getElem_cons_succ, List.getElem_cons_zero, Act.put, List.setIfInBounds_toArray, List.set_cons_zero, List.set_cons_succ]
        refine Reg.doneT (by kernel_rfl) ?_ _
        clear hHeld
        go_wp2_with fail
        go_ret
        exact ⟨by rw [HV.out]; rfl, HB2.out⟩
      · have HS' := hide (HS.out hs)
        clear HF HS hs
        refine Reg.takeT (i := 9) (v := ?_) rfl (by kernel_rfl) (by kernel_rfl) (by kernel_rfl) (by kernel_rfl) (fun _ _ _ h => h) (Or.inl ⟨by rfl, ?_⟩) (by assumption) ?_
        rotate_left 1
        focus (intro w hSw; (try dsimp only at hSw); go_simp; (try with_reducible rfl))
        try simp only [List.getElem_toArray, List.getElem_cons_succ, List.getElem_cons_zero, Act.put, List.setIfInBounds_toArray, List.set_cons_zero, List.set_cons_succ]
        refine Reg.doneT (by kernel_rfl) ?_ _
        clear hHeld
        go_wp2_with fail
        refine ⟨⟨k + 1, by omega, by go_num, HS'.out, HX2.out, HB2.out⟩, by simp [intOf]; omega⟩
    · have HALL := hide (show ∀ p ∈ ps.map SV.d, secOk ys.length p = true from fun p hp => by
        obtain ⟨q, hq, rfl⟩ := List.mem_map.1 hp
        exact HO.out q (by rw [List.take_of_length_le (by omega)]; exact hq))
      clear HO hok hx hb
      go_wp2_with fail
      clear x0 x1
      go_loopw [4] (fun i wi => ∃ k : Nat, k ≤ ys.length ∧ i = .int .i64 k ∧ (∀ j, (h : j < ys.length) → j < k → symAt (ps.map SV.d) ys j ys[j] = true) ∧ Box wi w.heap.size 26 #[.slice A ps.length c, .slice Y ys.length yc] ∧ Below w.heap.size w wi) (fun i _ => ys.length - (intOf i).toNat)
      case atStart => exact ⟨0, Nat.zero_le _, rfl, fun j _ hj => absurd hj (Nat.not_lt_zero j), HX.out, HBI.out⟩
      case round =>
        obtain ⟨k, hk, rfl, hok, hx, hb⟩ := hrel
        clear HX HBI hxl
        have HO := hide hok
        have HX := hide hx
        have HBI := hide hb
        have x0 := hx.cell 0
        have x1 := hx.cell 1
        simp only [List.getElem?_toArray, List.getElem?_cons_zero, List.getElem?_cons_succ] at x0 x1
        have hxl := hx.lt
        by_cases hlt : k < ys.length
        · obtain ⟨b, off, hY, hbg, hc⟩ := (HR.out.2.below hb).row symbolC_len (by decide) hlt
          have hbw : b < wr.heap.size := Nat.lt_of_lt_of_le hbg hb.size
          have hc0 := hc 0 _ rfl
          have hc1 := hc 1 _ rfl
          have hc2 := hc 2 _ rfl
          have hc3 := hc 3 _ rfl
          simp only [Nat.add_zero] at hc0
          have HM := hide (HL.out.2 _ (List.getElem_mem hlt))
          have HS := hide (fun (h : symAt (ps.map SV.d) ys k ys[k] = true) => (show ∀ j, (h : j < ys.length) → j < k + 1 → symAt (ps.map SV.d) ys j ys[j] = true from fun j hj hjk => by
            rcases Nat.lt_or_ge j k with h' | h'
            · exact HO.out j hj h'
            · obtain rfl : j = k := by omega
              exact h))
          have HF := hide (fun (h : symAt (ps.map SV.d) ys k ys[k] = false) => obj_sym (d := ⟨ps.map SV.d, ys⟩) hlt h)
          clear hok hx hb hc HO
          unfold symAt at HS HF
          generalize ys[k] = z at *
          obtain ⟨zn, zb, zw, zv⟩ := z
          simp only at HM hc0 hc1 hc2 hc3 HS HF
          subst hY
          go_wp2_with fail
          have HSS : Hid (∀ V : World, Below wr.heap.size wr V → (V.cell? ⟨w.heap.size, 0, none⟩ = some (.slice A ps.length c) ∧ V.cell? ⟨w.heap.size, 1, none⟩ = some (.slice (some ⟨b, off, none⟩) ys.length yc) ∧ V.cell? ⟨b, off + k * 4, none⟩ = some (.string zn) ∧ V.cell? ⟨b, off + k * 4 + 1, none⟩ = some (.int .i64 zb) ∧ V.cell? ⟨b, off + k * 4 + 2, none⟩ = some (.int .i64 zw) ∧ V.cell? ⟨b, off + k * 4 + 3, none⟩ = some (.int .i64 zv))) := hide (fun V hV => ⟨(hV.cell (p := ⟨w.heap.size, 0, none⟩) hxl).trans x0, (hV.cell (p := ⟨w.heap.size, 1, none⟩) hxl).trans x1, (hV.cell (p := ⟨b, off + k * 4, none⟩) hbw).trans hc0, (hV.cell (p := ⟨b, off + k * 4 + 1, none⟩) hbw).trans hc1, (hV.cell (p := ⟨b, off + k * 4 + 2, none⟩) hbw).trans hc2, (hV.cell (p := ⟨b, off + k * 4 + 3, none⟩) hbw).trans hc3⟩)
          clear hc0 hc1 hc2 hc3 x0 x1
          refine Reg.startT (fun V => V.cell? ⟨w.heap.size, 0, none⟩ = some (.slice A ps.length c) ∧ V.cell? ⟨w.heap.size, 1, none⟩ = some (.slice (some ⟨b, off, none⟩) ys.length yc) ∧ V.cell? ⟨b, off + k * 4, none⟩ = some (.string zn) ∧ V.cell? ⟨b, off + k * 4 + 1, none⟩ = some (.int .i64 zb) ∧ V.cell? ⟨b, off + k * 4 + 2, none⟩ = some (.int .i64 zw) ∧ V.cell? ⟨b, off + k * 4 + 3, none⟩ = some (.int .i64 zv)) (fun _ => false) (by kernel_rfl) ?_
          have hHeld := HSS.out wr.drew (Below.drew (Below.refl _ _))
          refine Reg.takeT (i := 0) (v := ?_) rfl (by kernel_rfl) (by kernel_rfl) (by kernel_rfl) (by kernel_rfl) (fun _ _ _ h => h) (Or.inl ⟨by rfl, ?_⟩) (by assumption) ?_
          rotate_left 1
          focus (intro w hSw; (try dsimp only at hSw); go_simp; (try with_reducible rfl))
          try simp only [List.getElem_toArray, List.getElem_cons_succ, List.getElem_cons_zero, Act.put, List.setIfInBounds_toArray, List.set_cons_zero, List.set_cons_succ]
          refine Reg.takeT (i := 1) (v := ?_) rfl (by kernel_rfl) (by kernel_rfl) (by kernel_rfl) (by kernel_rfl) (fun _ _ _ h => h) (Or.inl ⟨by rfl, ?_⟩) (by assumption) ?_
          rotate_left 1
          focus (intro w hSw; (try dsimp only at hSw); go_simp; (try with_reducible rfl))
          try simp only [List.getElem_toArray, List.getElem_cons_succ, List.getElem_cons_zero, Act.put, List.setIfInBounds_toArray, List.set_cons_zero, List.set_cons_succ]
          refine Reg.takeT (i := 2) (v := ?_) rfl (by kernel_rfl) (by kernel_rfl) (by kernel_rfl) (by kernel_rfl) (fun _ _ _ h => h) (Or.inl ⟨by rfl, ?_⟩) (by assumption) ?_
          rotate_left 1
          focus (intro w hSw; (try dsimp only at hSw); go_simp; (try with_reducible rfl))
          try simp only [List.getElem_toArray, List.getElem_cons_succ, List.getElem_cons_zero, Act.put, List.setIfInBounds_toArray, List.set_cons_zero, List.set_cons_succ]
          refine Reg.takeT (i := 3) (v := ?_) rfl (by kernel_rfl) (by kernel_rfl) (by kernel_rfl) (by kernel_rfl) (fun _ _ _ h => h) (Or.inl ⟨by rfl, ?_⟩) (by assumption) ?_
          rotate_left 1
          focus (intro w hSw; (try dsimp only at hSw); go_simp; (try with_reducible rfl))
          try simp only [List.getElem_toArray, List.getElem_cons_succ, List.getElem_cons_zero, Act.put, List.setIfInBounds_toArray, List.set_cons_zero, List.set_cons_succ]
          refine Reg.takeT (i := 4) (v := ?_) rfl (by kernel_rfl) (by kernel_rfl) (by kernel_rfl) (by kernel_rfl) (fun _ _ _ h => h) (Or.inl ⟨by rfl, ?_⟩) (by assumption) ?_
          rotate_left 1
          focus (intro w hSw; (try dsimp only at hSw); go_simp; (try with_reducible rfl))
          try simp only [List.getElem_toArray, List.getElem_cons_succ, List.getElem_cons_zero, Act.put, List.setIfInBounds_toArray, List.set_cons_zero, List.set_cons_succ]
          refine Reg.takeT (i := 5) (v := ?_) rfl (by kernel_rfl) (by kernel_rfl) (by kernel_rfl) (by kernel_rfl) (fun _ _ _ h => h) (Or.inl ⟨by rfl, ?_⟩) (by assumption) ?_
          rotate_left 1
          focus (intro w hSw; (try dsimp only at hSw); go_simp; (try with_reducible rfl))
          try simp only [List.getElem_toArray, List.getElem_cons_succ, List.getElem_cons_zero, Act.put, List.setIfInBounds_toArray, List.set_cons_zero, List.set_cons_succ]
          refine Reg.takeT (i := 6) (v := ?_) rfl (by kernel_rfl) (by kernel_rfl) (by kernel_rfl) (by kernel_rfl) (fun _ _ _ h => h) (Or.inl ⟨by rfl, ?_⟩) (by assumption) ?_
          rotate_left 1
          focus (intro w hSw; (try dsimp only at hSw); go_simp; (try with_reducible rfl))
          try simp only [List.getElem_toArray, List.getElem_cons_succ, List.getElem_cons_zero, Act.put, List.setIfInBounds_toArray, List.set_cons_zero, List.set_cons_succ]
          refine Reg.oneT (i := 7) rfl (by kernel_rfl) (fun K hK => ?_)
          go_simp
          refine (symbolValidS_any (zn, zb, zw, zv) A ps c _ ((HR.out.1.1.below (Below.drew HBI.out)).more (Below.drew HBI.out).size) np HM.out (fun p hp => Nat.le_trans (HL.out.1 p hp).2.1 (by decide))).mono ?_
          rintro e w3 ⟨rfl, b3⟩
          have b3' := of_drew b3
          have hHeld := HSS.out w3 b3'
          refine hK.out _ _ hHeld ?_
          clear hK K
          try simp only [List.getElem_toArray, List.getElem_cons_succ, List.getElem_cons_zero, Act.put, List.setIfInBounds_toArray, List.set_cons_zero, List.set_cons_succ]
          have HX3 := hide (HX.out.call b3')
          have HB3 := hide (HBI.out.trans (b3'.mono HBI.out.size))
          clear b3 b3' HX HBI HSS
          cases hs : symOk (ps.map SV.d) (zn, zb, zw, zv)
          · have HV := hide (HF.out (by rw [hs]; rfl))
            clear HF HS hs
            refine Reg.takeT (i := 8) (v := ?_) rfl (by kernel_rfl) (by kernel_rfl) (by kernel_rfl) (by kernel_rfl) (fun _ _ _ h => h) (Or.inl ⟨by rfl, ?_⟩) (by assumption) ?_
            rotate_left 1
            focus (intro w hSw; (try dsimp only at hSw); go_simp; (try with_reducible rfl))
            try simp only [List.getElem_toArray, List.getElem_cons_succ, List.getElem_cons_zero, Act.put, List.setIfInBounds_toArray, List.set_cons_zero, List.set_cons_succ]
            refine Reg.doneT (by kernel_rfl) ?_ _
            clear hHeld
            go_wp2_with fail
            go_ret
            exact ⟨by rw [HV.out]; rfl, HB3.out⟩
          rw [hs] at HS HF
          clear hs
          refine Reg.takeT (i := 8) (v := ?_) rfl (by kernel_rfl) (by kernel_rfl) (by kernel_rfl) (by kernel_rfl) (fun _ _ _ h => h) (Or.inl ⟨by rfl, ?_⟩) (by assumption) ?_
          rotate_left 1
          focus (intro w hSw; (try dsimp only at hSw); go_simp; (try with_reducible rfl))
          try simp only [List.getElem_toArray, List.getElem_cons_succ, List.getElem_cons_zero, Act.put, List.setIfInBounds_toArray, List.set_cons_zero, List.set_cons_succ]
          refine Reg.doneT (by kernel_rfl) ?_ _
          obtain ⟨_, _, z0, z1, z2, z3⟩ := hHeld
          have HZ := hide (And.intro z0 z1)
          have hb3 : b < w3.heap.size := World.block_lt_of_cell? _ _ z0
          clear z0 z1 z2 z3
          go_wp2_with fail
          go_loopw [5] (fun jj wi => ∃ j : Nat, j ≤ k ∧ jj = .int .i64 j ∧ (!decide (zb = 0) && (ys.take j).any (hit zn)) = false ∧ wi.cell? ⟨b, off + k * 4, none⟩ = some (.string zn) ∧ wi.cell? ⟨b, off + k * 4 + 1, none⟩ = some (.int .i64 zb) ∧ Box wi w.heap.size 26 #[.slice A ps.length c, .slice (some ⟨b, off, none⟩) ys.length yc] ∧ Below w.heap.size w wi) (fun jj _ => k - (intOf jj).toNat)
          case atStart => exact ⟨0, Nat.zero_le _, rfl, by simp, HZ.out.1, HZ.out.2, HX3.out, HB3.out⟩
          case round =>
            clear HX3 HB3 HZ hb3 hxl hbw
            obtain ⟨j, hj, rfl, hno, z0, z1, hx, hb⟩ := hrel
            have HX := hide hx
            have HBI := hide hb
            have x0 := hx.cell 0
            have x1 := hx.cell 1
            simp only [List.getElem?_toArray, List.getElem?_cons_zero, List.getElem?_cons_succ] at x0 x1
            have hxl := hx.lt
            by_cases hjk : j < k
            · have hjy : j < ys.length := by omega
              obtain ⟨b', off', hY', hbg', hc⟩ := (HR.out.2.below hb).row symbolC_len (by decide) hjy
              simp only [Option.some.injEq, Addr.mk.injEq, and_true] at hY'
              obtain ⟨rfl, rfl⟩ := hY'
              have hc0 := hc 0 _ rfl
              have hc1 := hc 1 _ rfl
              simp only [Nat.add_zero] at hc0
              have HT := hide (show (!decide (zb = 0) && (ys.take (j + 1)).any (hit zn)) = (!decide (zb = 0) && hit zn ys[j]) by
                rw [take_succ hjy, List.any_append]
                cases hzz : (!decide (zb = 0))
                · rfl
                · rw [hzz, Bool.true_and] at hno
                  rw [hno]
                  simp)
              have HA := hide (show (!decide (zb = 0) && hit zn ys[j]) = true → (!decide (zb = 0) && (ys.take k).any (hit zn)) = true from fun h => by
                rw [Bool.and_eq_true] at h ⊢
                exact ⟨h.1, List.any_eq_true.2 ⟨ys[j], by
                  rw [List.mem_take_iff_getElem]
                  exact ⟨j, by omega, rfl⟩, h.2⟩⟩)
              clear hno hx hb hc
              generalize ys[j] = x at *
              obtain ⟨xn, xb, xw, xv⟩ := x
              simp only [hit] at hc0 hc1 HT HA
              by_cases h1 : xn = zn
              · have e1 : (xn.toList == zn.toList) = true := by rw [str_eq, decide_eq_true h1]
                rw [decide_eq_true h1] at HT HA
                by_cases h2 : xb = 0
                · have e2 : (xb != 0) = false := by rw [h2]; rfl
                  rw [decide_eq_true h2] at HT HA
                  have HT' := hide (show (!decide (zb = 0) && (ys.take (j + 1)).any (hit zn)) = false by rw [HT.out]; simp)
                  clear h1 h2 HT HA
                  go_wp2_with fail
                  go_quiet (fail)
                  go_wp2_with fail
                  refine ⟨⟨j + 1, by omega, by go_num, HT'.out, z0, z1, HX.out.drewN _, Kit.Below.drewN HBI.out _⟩, by simp [intOf]; omega⟩
                · have e2 : (xb != 0) = true := bne_iff_ne.2 h2
                  rw [decide_eq_false h2] at HT HA
                  by_cases h3 : zb = 0
                  · have e3 : (zb != 0) = false := by rw [h3]; rfl
                    rw [decide_eq_true h3] at HT HA
                    have HT' := hide (show (!decide (zb = 0) && (ys.take (j + 1)).any (hit zn)) = false by rw [decide_eq_true h3]; rfl)
                    clear h1 h2 h3 HT HA
                    go_wp2_with fail
                    go_quiet (fail)
                    go_wp2_with fail
                    refine ⟨⟨j + 1, by omega, by go_num, HT'.out, z0, z1, HX.out.drewN _, Kit.Below.drewN HBI.out _⟩, by simp [intOf]; omega⟩
                  · have e3 : (zb != 0) = true := bne_iff_ne.2 h3
                    rw [decide_eq_false h3] at HA
                    have HV := hide (HF.out (by rw [decide_eq_false h3, HA.out rfl]; rfl))
                    clear h1 h2 h3 HT HA
                    go_wp2_with fail
                    go_quiet (fail)
                    go_wp2_with fail
                    go_ret
                    exact ⟨by rw [HV.out]; rfl, Kit.Below.drewN HBI.out _⟩
              · have e1 : (xn.toList == zn.toList) = false := by rw [str_eq, decide_eq_false h1]
                rw [decide_eq_false h1] at HT HA
                have HT' := hide (show (!decide (zb = 0) && (ys.take (j + 1)).any (hit zn)) = false by rw [HT.out]; simp)
                clear h1 HT HA
                go_wp2_with fail
                go_quiet (fail)
                go_wp2_with fail
                refine ⟨⟨j + 1, by omega, by go_num, HT'.out, z0, z1, HX.out.drewN _, Kit.Below.drewN HBI.out _⟩, by simp [intOf]; omega⟩
            · have e : j = k := by omega
              subst e
              have HS' := hide (HS.out (by rw [hno]; rfl))
              clear HS HF hno hx hb x0 x1 z0 z1
              go_wp2_with fail
              refine ⟨⟨j + 1, by omega, by go_num, HS'.out, HX.out, HBI.out⟩, by simp [intOf]; omega⟩
        · have HV := hide ((obj_sizes (d := ⟨ps.map SV.d, ys⟩) HALL.out (fun j hj => HO.out j hj (Nat.lt_of_lt_of_le hj (show ys.length ≤ k by omega)))).trans (show _ = (decide (ps.length ≤ 8) && decide (ys.length ≤ 12)) by simp))
          clear HO hok hx hb
          by_cases h1 : ps.length ≤ 8
          · have e1 : decide ((ps.length : Int) ≤ 8) = true := decide_eq_true (by omega)
            rw [decide_eq_true h1] at HV
            by_cases h2 : ys.length ≤ 12
            · have e2 : decide ((ys.length : Int) ≤ 12) = true := decide_eq_true (by omega)
              rw [decide_eq_true h2] at HV
              clear h1 h2
              go_wp2_with fail
              go_ret
              exact ⟨by rw [HV.out]; rfl, HBI.out⟩
            · have e2 : decide ((ys.length : Int) ≤ 12) = false := decide_eq_false (by omega)
              rw [decide_eq_false h2] at HV
              clear h1 h2
              go_wp2_with fail
              go_ret
              exact ⟨by rw [HV.out]; rfl, HBI.out⟩
          · have e1 : decide ((ps.length : Int) ≤ 8) = false := decide_eq_false (by omega)
            rw [decide_eq_false h1] at HV
            clear h1
            go_wp2_with fail
            go_ret
            exact ⟨by rw [HV.out]; simp, HBI.out⟩
end Go.Proofs.Ytmglgjchemecjaa.CObjValidS
/- The warnings for an object; plain. -/
namespace Go.Proofs.Ytmglgjchemecjaa.PWarn
set_option maxRecDepth 200000
open Go.ChangeShapes Go.WideShapes Go.ChangeAt Go.RowKit Kit CCode CFixups CSymbols PObj BObj PValid CUses CCovers CObjValid
def dY : YD := (ByteArray.empty, 0, 0, 0)
end Go.Proofs.Ytmglgjchemecjaa.PWarn
/- Clearing what fixups fill: plain; and the stores that do it. -/
namespace Go.Proofs.Ytmglgjchemecjaa.PClear
set_option maxRecDepth 200000
open Go.ChangeShapes Go.WideShapes Go.ChangeAt Go.RowKit Kit CFixups CSymbols PObj BObj CMarkRows PValid BStore CCovers PWarn
def setz (zs : List Int) (a : Nat) : Nat → List Int
  | 0 => zs
  | n + 1 => (setz zs a n).set (a + n) 0
theorem setz_len (zs : List Int) (a : Nat) : ∀ n, (setz zs a n).length = zs.length
  | 0 => rfl
  | n + 1 => by rw [setz, List.length_set, setz_len zs a n]
theorem fixes_all {many : Int} {n : Nat} : ∀ {e : Int} {fs : List FD}, 0 ≤ e → fixesOk many n e fs = true → ∀ f ∈ fs, (0 ≤ f.1 ∧ f.1 + wide f.2.1 ≤ n ∧ 0 < wide f.2.1) ∧ 0 ≤ f.2.2.1 ∧ f.2.2.1 < many
  | _, [], _, _, f, hf => by cases hf
  | e, g :: fs, he, h, f, hf => by
    simp only [fixesOk, Bool.and_eq_true] at h
    have hg := fixOk_iff.1 h.1
    have hw := wide_bd g.2.1
    rcases List.mem_cons.1 hf with rfl | hf
    · omega
    · exact fixes_all (by omega) h.2 f hf
theorem sec_all {many : Int} {d : SD} (h : secOk many d = true) : d.fs.length ≤ 6 ∧ d.zs.length ≤ 48 ∧ ∀ f ∈ d.fs, (0 ≤ f.1 ∧ f.1 + wide f.2.1 ≤ d.zs.length ∧ 0 < wide f.2.1) ∧ 0 ≤ f.2.2.1 ∧ f.2.2.1 < many := by
  rw [secOk, Bool.and_eq_true] at h
  obtain ⟨_, h⟩ := h
  split at h
  · simp only [blankOk, Bool.and_eq_true, decide_eq_true_eq] at h
    have : d.fs = [] := List.eq_nil_of_length_eq_zero h.2
    rw [this]
    refine ⟨by simp, by omega, ?_⟩
    intro f hf
    cases hf
  · simp only [bodyOk, Bool.and_eq_true, decide_eq_true_eq] at h
    exact ⟨h.1.2, h.1.1.2, fixes_all (Int.le_refl 0) h.2⟩
theorem obj_all {d : OD} (h : objOk d = true) : d.ss.length ≤ 8 ∧ d.ys.length ≤ 12 ∧ ∀ s ∈ d.ss, s.fs.length ≤ 6 ∧ s.zs.length ≤ 48 ∧ ∀ f ∈ s.fs, (0 ≤ f.1 ∧ f.1 + wide f.2.1 ≤ s.zs.length ∧ 0 < wide f.2.1) ∧ 0 ≤ f.2.2.1 ∧ f.2.2.1 < d.ys.length := by
  simp only [objOk, Bool.and_eq_true, decide_eq_true_eq, List.all_eq_true] at h
  exact ⟨h.1.1.1, h.1.1.2, fun s hs => sec_all (h.1.2 s hs)⟩
/-- Bytes cleared at once. -/
theorem OwnO.clear {base c yc : Nat} {A Y : Option Addr} {l1 l2 : List SV} {q : SV} {ys : List YD} {g : Nat} (hA : q.A = some ⟨g, 0, none⟩) (a : Nat) :
    ∀ (n : Nat) (w : World), a + n ≤ q.zs.length → OwnO w base ⟨A, c, l1 ++ q :: l2, Y, yc, ys⟩ →
    OwnO (w.setCells g a (List.replicate n (.int .u8 0))) base ⟨A, c, l1 ++ { q with zs := setz q.zs a n } :: l2, Y, yc, ys⟩
  | 0, w, _, h => h
  | n + 1, w, hn, h => by
    rw [List.replicate_succ', ← Lib.setCells_snoc_w, List.length_replicate]
    exact OwnO.storeB (OwnO.clear hA a n w (by omega) h) hA (a + n) (by simp only [setz_len]; omega) 0
end Go.Proofs.Ytmglgjchemecjaa.PClear
/- What the walks of exact laws on objects share. -/
namespace Go.Proofs.Ytmglgjchemecjaa.WObj
set_option maxRecDepth 200000
open Go.ChangeShapes Go.WideShapes Go.ChangeAt Go.RowKit Kit CCode CFixups CSymbols PObj BObj PValid CObjValid CSections CObject CObject2 CMarkRows
end Go.Proofs.Ytmglgjchemecjaa.WObj
/- The order of symbols; plain. -/
namespace Go.Proofs.Ytmglgjchemecjaa.PSort
set_option maxRecDepth 200000
open Go.ChangeShapes Go.WideShapes Go.ChangeAt Go.RowKit Kit CFixups CSymbols PObj BObj PValid PWarn PClear WObj
def sl (a b : ByteArray) : Bool := Op.bytesLess a.toList b.toList
def loc (y : YD) : Bool := y.2.1 == 0
def bef (a b : YD) : Bool := bif loc a != loc b then loc a else sl a.1 b.1
def cmpS (a b : ByteArray) : Int := if sl a b = true then -1 else if (a.toList == b.toList) = true then 0 else 1
def grp (y : YD) : Int := if loc y = true then 0 else 1
def cmpN (a b : Int) : Int := if a < b then -1 else if b < a then 1 else 0
def cmpY (a b : YD) : Int := if cmpN (grp a) (grp b) ≠ 0 then cmpN (grp a) (grp b) else cmpS a.1 b.1
section
variable (bf : Nat → Nat → Bool)
def pos (L : List Nat) (x : Nat) : Nat → Nat
  | 0 => 0
  | n + 1 => if bf x (L.getD n 0) = true then pos L x n else n + 1
def ins (L : List Nat) (x : Nat) : List Nat := L.take (pos bf L x L.length) ++ x :: L.drop (pos bf L x L.length)
def ord : Nat → List Nat
  | 0 => []
  | k + 1 => ins bf (ord k) k
theorem ins_perm (L : List Nat) (x : Nat) : (ins bf L x).Perm (x :: L) := by
  unfold ins
  refine List.perm_middle.trans (List.Perm.cons x ?_)
  rw [List.take_append_drop]
theorem ord_perm : ∀ n, (ord bf n).Perm (List.range n)
  | 0 => by simp [ord]
  | n + 1 => by
    rw [ord, List.range_succ]
    refine (ins_perm bf _ n).trans ((List.Perm.cons n (ord_perm n)).trans ?_)
    exact (List.perm_append_comm (l₁ := [n]) (l₂ := List.range n))
theorem ord_len (n : Nat) : (ord bf n).length = n := by rw [(ord_perm bf n).length_eq, List.length_range]
theorem ord_lt {n x : Nat} (h : x ∈ ord bf n) : x < n := List.mem_range.1 ((ord_perm bf n).mem_iff.1 h)
end
/-- One swap of the insertion sort. -/
theorem swap_row (L : List Nat) (x j : Nat) (rest : List Nat) (h : j < L.length) : ((L.take (j + 1) ++ x :: L.drop (j + 1) ++ rest).set (j + 1) (L.getD j 0)).set j x = L.take j ++ x :: L.drop j ++ rest := by
  have h1 : L.take (j + 1) = L.take j ++ [L[j]] := take_succ h
  have h2 : L.drop j = L[j] :: L.drop (j + 1) := List.drop_eq_getElem_cons h
  have h3 : (L.take j).length = j := by rw [List.length_take]; omega
  have h4 : L.getD j 0 = L[j] := by rw [List.getD_eq_getElem?_getD, List.getElem?_eq_getElem h]; rfl
  rw [h1, h2, h4]
  generalize L.take j = T at *
  subst h3
  simp [List.set_append]
  rw [h2]
  rfl
theorem row_x (L : List Nat) (x j : Nat) (rest : List Nat) (h : j ≤ L.length) : (L.take j ++ x :: L.drop j ++ rest).getD j 0 = x := by
  have h3 : (L.take j).length = j := by rw [List.length_take]; omega
  rw [List.getD_eq_getElem?_getD, List.append_assoc, List.getElem?_append_right (by omega), h3]
  simp
theorem row_p (L : List Nat) (x j : Nat) (rest : List Nat) (h : j < L.length) : (L.take (j + 1) ++ x :: L.drop (j + 1) ++ rest).getD j 0 = L.getD j 0 := by
  have h3 : (L.take (j + 1)).length = j + 1 := by rw [List.length_take]; omega
  rw [List.getD_eq_getElem?_getD, List.append_assoc, List.getElem?_append_left (by omega), List.getElem?_take_of_lt (by omega), ← List.getD_eq_getElem?_getD]
def bfY (ys : List YD) (i j : Nat) : Bool := bef (ys.getD i dY) (ys.getD j dY)
def order (ys : List YD) : List Nat := ord (bfY ys) ys.length
end Go.Proofs.Ytmglgjchemecjaa.PSort
/- Contracts of PutNumber and GetNumber, the program's and the reference's. -/
namespace Go.Proofs.Ytmglgjchemecjaa.CNumber
set_option maxRecDepth 200000
open Go.ChangeShapes Go.WideShapes Go.ChangeAt Go.RowKit Kit CCode
theorem info8 : (Try.prog.info? 5).map (fun i => (i.zero, i.size, i.bytes)) = some (some (.int .u8 0), 1, 1) := by kernel_rfl
def all : Int → Int := fun w => if w = 1 then 255 else if w = 2 then 65535 else if w = 3 then 16777215 else 4294967295
end Go.Proofs.Ytmglgjchemecjaa.CNumber
/- Linking objects: where sections lie, what names mean, what fixups fill; plain. -/
namespace Go.Proofs.Ytmglgjchemecjaa.PLink
set_option maxRecDepth 200000
open Go.ChangeShapes Go.WideShapes Go.ChangeAt Go.RowKit Kit CCode CName CNumber CFixups CSymbols PObj PValid PWarn PClear PSort
/-- Bytes put over others. -/
def sp (l : List Int) (i : Nat) (zs : List Int) : List Int := l.take i ++ zs ++ l.drop (i + zs.length)
abbrev G := Nat × Nat
def gives (nm : ByteArray) (b : Int) (y : YD) : Bool := decide (y.1 = nm) && decide (y.2.1 = b) && !decide (y.2.2.1 = -1)
def fiS (p : YD → Bool) : Nat → List YD → Option Nat
  | _, [] => none
  | j, y :: ys => bif p y then some j else fiS p (j + 1) ys
def fiR (p : YD → Bool) (k : Nat) (r : Option Nat) (rest : Option G) : Option G := match r with
  | some j => some (k, j)
  | none => rest
def fiO (p : YD → Bool) : Nat → List OD → Option G
  | _, [] => none
  | k, d :: ds => fiR p k (fiS p 0 d.ys) (fiO p (k + 1) ds)
theorem fiS_drop {p : YD → Bool} {ys : List YD} {j : Nat} (h : j < ys.length) (n : Nat) : fiS p n (ys.drop j) = bif p ys[j] then some n else fiS p (n + 1) (ys.drop (j + 1)) := by
  rw [List.drop_eq_getElem_cons h]
  rfl
theorem fiO_drop {p : YD → Bool} {ds : List OD} {k : Nat} (h : k < ds.length) (n : Nat) : fiO p n (ds.drop k) = fiR p n (fiS p 0 ds[k].ys) (fiO p (n + 1) (ds.drop (k + 1))) := by
  rw [List.drop_eq_getElem_cons h]
  rfl
def orG (a b : Option G) : Option G := match a with
  | some g => some g
  | none => b
def findN (l : List OD) (nm : ByteArray) : Option G := orG (fiO (gives nm 1) 0 l) (fiO (gives nm 2) 0 l)
def gin : Option G → Int
  | some g => g.1
  | none => 0
def gat : Option G → Int
  | some g => g.2
  | none => 0
theorem fiS_spec {p : YD → Bool} : ∀ (ys : List YD) (n j : Nat), fiS p n ys = some j → n ≤ j ∧ j - n < ys.length ∧ p (ys.getD (j - n) dY) = true
  | [], n, j, h => by cases h
  | y :: ys, n, j, h => by
    rw [fiS] at h
    cases hp : p y
    · rw [hp, cond_false] at h
      obtain ⟨h1, h2, h3⟩ := fiS_spec ys (n + 1) j h
      obtain ⟨m, rfl⟩ : ∃ m, j = n + 1 + m := ⟨j - (n + 1), by omega⟩
      have e1 : n + 1 + m - n = m + 1 := by omega
      have e2 : n + 1 + m - (n + 1) = m := by omega
      rw [e2] at h2 h3
      rw [e1]
      exact ⟨by omega, by simpa using h2, by simpa using h3⟩
    · rw [hp, cond_true] at h
      injection h with h
      subst h
      simp [hp]
theorem fiO_spec {p : YD → Bool} : ∀ (ds : List OD) (n : Nat) (g : G), fiO p n ds = some g → n ≤ g.1 ∧ g.1 - n < ds.length ∧ g.2 < (ds.getD (g.1 - n) ⟨[], []⟩).ys.length ∧ p ((ds.getD (g.1 - n) ⟨[], []⟩).ys.getD g.2 dY) = true
  | [], n, g, h => by cases h
  | d :: ds, n, g, h => by
    rw [fiO] at h
    cases hs : fiS p 0 d.ys with
    | some j =>
      rw [hs, fiR] at h
      injection h with h
      subst h
      have := fiS_spec d.ys 0 j hs
      simpa using this
    | none =>
      rw [hs, fiR] at h
      obtain ⟨h1, h2, h3, h4⟩ := fiO_spec ds (n + 1) g h
      obtain ⟨m, hm⟩ : ∃ m, g.1 = n + 1 + m := ⟨g.1 - (n + 1), by omega⟩
      have e1 : g.1 - n = m + 1 := by omega
      have e2 : g.1 - (n + 1) = m := by omega
      rw [e2] at h2 h3 h4
      rw [e1]
      exact ⟨by omega, by simpa using h2, by simpa using h3, by simpa using h4⟩
def Gok (l : List OD) (g : G) : Prop := g.1 < l.length ∧ g.2 < (l.getD g.1 ⟨[], []⟩).ys.length ∧ ¬ ((l.getD g.1 ⟨[], []⟩).ys.getD g.2 dY).2.2.1 = -1
theorem find_ok {l : List OD} {nm : ByteArray} {g : G} (h : findN l nm = some g) : Gok l g := by
  unfold findN at h
  have key : ∀ b, fiO (gives nm b) 0 l = some g → Gok l g := fun b hb => by
    obtain ⟨_, h2, h3, h4⟩ := fiO_spec l 0 g hb
    rw [Nat.sub_zero] at h2 h3 h4
    simp only [gives, Bool.and_eq_true, Bool.not_eq_true', decide_eq_false_iff_not] at h4
    exact ⟨h2, h3, h4.2⟩
  cases h1 : fiO (gives nm 1) 0 l with
  | some a =>
    rw [h1] at h
    injection h with h
    subst h
    exact key 1 h1
  | none =>
    rw [h1] at h
    exact key 2 h
/-- The least multiple from a number on. -/
def al (n q : Int) : Int := (n + q - 1) / q * q
theorem al_bd {n q : Int} (hn : 0 ≤ n) (h : alignOk q = true) : n ≤ al n q ∧ al n q ≤ n + 7 := by
  unfold al
  simp only [alignOk, Bool.or_eq_true, decide_eq_true_eq] at h
  rcases h with ((rfl | rfl) | rfl) | rfl <;> omega
abbrev St := Int × List (List Int)
def setP (P : List (List Int)) (k i : Nat) (v : Int) : List (List Int) := P.set k ((P.getD k []).set i v)
def getP (P : List (List Int)) (k i : Nat) : Int := (P.getD k []).getD i 0
def stepS (kd : Int) (k i : Nat) (s : SD) (st : St) : St := bif decide (s.kd = kd) then (al st.1 s.al + secSize s, setP st.2 k i (al st.1 s.al)) else st
def foldS (kd : Int) (k : Nat) : Nat → List SD → St → St
  | _, [], st => st
  | i, s :: ss, st => foldS kd k (i + 1) ss (stepS kd k i s st)
def foldO (kd : Int) : Nat → List OD → St → St
  | _, [], st => st
  | k, d :: ds, st => foldO kd (k + 1) ds (foldS kd k 0 d.ss st)
theorem foldS_drop {kd : Int} {k : Nat} {ss : List SD} {j : Nat} (h : j < ss.length) (i : Nat) (st : St) : foldS kd k i (ss.drop j) st = foldS kd k (i + 1) (ss.drop (j + 1)) (stepS kd k i ss[j] st) := by
  rw [List.drop_eq_getElem_cons h]
  rfl
theorem foldO_drop {kd : Int} {l : List OD} {j : Nat} (h : j < l.length) (k : Nat) (st : St) : foldO kd k (l.drop j) st = foldO kd (k + 1) (l.drop (j + 1)) (foldS kd k 0 l[j].ss st) := by
  rw [List.drop_eq_getElem_cons h]
  rfl
/-- A kind of sections behind the others. -/
def kindS (l : List OD) (kd : Int) (st : St) : St := foldO kd 0 l (al st.1 8, st.2)
def zeroP (l : List OD) : List (List Int) := l.map fun d => List.replicate d.ss.length 0
def lay (l : List OD) (base : Int) : St := kindS l 3 (kindS l 2 (kindS l 1 (base, zeroP l)))
/-- What lies where: of the objects' sections only kinds, alignments and sizes count. -/
def sh (d : OD) : List (Int × Int × Int) := d.ss.map fun s => (s.kd, s.al, secSize s)
/-- The place that a symbol means. -/
def tgY (P : List (List Int)) (k : Nat) (y : YD) : Int := if y.2.2.1 = -2 then y.2.2.2 else getP P k y.2.2.1.toNat + y.2.2.2
def symAtL (l : List OD) (g : G) : YD := (l.getD g.1 ⟨[], []⟩).ys.getD g.2 dY
def tgG (l : List OD) (P : List (List Int)) (g : G) : Int := tgY P g.1 (symAtL l g)
def tgO (l : List OD) (P : List (List Int)) : Option G → Int
  | some g => tgG l P g
  | none => 0
def over (im : List Int) (i : Nat) (b : List Int) : List Int := sp im i (b.take (im.length - i))
def objsOk (l : List OD) : Bool := decide (l.length ≤ 4) && l.all objOk
def baseOk (b : Int) : Bool := decide (0 ≤ b ∧ b ≤ 4096) && decide (b % 8 = 0)
end Go.Proofs.Ytmglgjchemecjaa.PLink
