/- The program's ObjectValid. -/
import Derived.Test.YtmglgjchemecjaaFnWarningsOfM4
import Derived.Test.YtmglgjchemecjaaRows
import Derived.StillTailTactics
import Derived.BigQuiet
namespace Go.Proofs.Ytmglgjchemecjaa.CObjValid
set_option maxRecDepth 200000
open Go.ChangeShapes Go.WideShapes Go.ChangeAt Go.RowKit Kit CCode CName CFixups CSymbols PObj BObj PValid CSecValid CSecValid2 CSymValid CGlobalOf
/-- What the walks ask of an object's parts. -/
structure Fit (o : OV) : Prop where
  np : o.ps.length ≤ 1048576
  ny : o.ys.length ≤ 1048576
  cy : o.ys.length ≤ o.yc
  p : ∀ p ∈ o.ps, p.nm.size ≤ maxLen ∧ p.zs.length ≤ 1048576 ∧ p.fs.length ≤ 1048576
  y : ∀ y ∈ o.ys, y.1.size ≤ maxLen
theorem obj_big {d : OD} (h : 8 < d.ss.length ∨ 12 < d.ys.length) : objOk d = false := by
  rw [← Bool.not_eq_true]
  intro ht
  simp only [objOk, Bool.and_eq_true, decide_eq_true_eq] at ht
  omega
theorem obj_sec {d : OD} {p : SD} (hp : p ∈ d.ss) (h : secOk d.ys.length p = false) : objOk d = false := by
  rw [← Bool.not_eq_true]
  intro ht
  simp only [objOk, Bool.and_eq_true, decide_eq_true_eq, List.all_eq_true] at ht
  rw [ht.1.2 p hp] at h
  cases h
def symAt (ss : List SD) (ys : List YD) (k : Nat) (y : YD) : Bool := symOk ss y && !(!decide (y.2.1 = 0) && (ys.take k).any (hit y.1))
theorem getD_at {ys : List YD} {k : Nat} (h : k < ys.length) (d : YD) : ys.getD k d = ys[k] := by
  rw [List.getD_eq_getElem?_getD, List.getElem?_eq_getElem h]
  rfl
theorem obj_sym {d : OD} {k : Nat} (hk : k < d.ys.length) (h : symAt d.ss d.ys k d.ys[k] = false) : objOk d = false := by
  rw [← Bool.not_eq_true]
  intro ht
  simp only [objOk, symsOk, Bool.and_eq_true, List.all_eq_true] at ht
  have h1 := ht.2 k (List.mem_range.2 hk)
  rw [getD_at hk] at h1
  have h2 : symAt d.ss d.ys k d.ys[k] = true := by
    unfold symAt
    rw [h1.1]
    exact h1.2
  rw [h2] at h
  cases h
theorem obj_yes {d : OD} (h1 : d.ss.length ≤ 8) (h2 : d.ys.length ≤ 12) (h3 : ∀ p ∈ d.ss, secOk d.ys.length p = true) (h4 : ∀ k, (h : k < d.ys.length) → symAt d.ss d.ys k d.ys[k] = true) : objOk d = true := by
  simp only [objOk, symsOk, Bool.and_eq_true, decide_eq_true_eq, List.all_eq_true]
  refine ⟨⟨⟨h1, h2⟩, h3⟩, fun k hk => ?_⟩
  have hk' := List.mem_range.1 hk
  have h := h4 k hk'
  rw [getD_at hk']
  unfold symAt at h
  rw [Bool.and_eq_true] at h
  exact ⟨h.1, h.2⟩
theorem _root_.Go.Proofs.Ytmglgjchemecjaa.Kit.Rd.prefix_take {w : World} {B : Nat} {A : Option Addr} {ys : List YD} (h : Rd w B A (cellsOf symbolC ys)) (k : Nat) : Rd w B A (cellsOf symbolC (ys.take k)) := by
  have e : cellsOf symbolC ys = cellsOf symbolC (ys.take k) ++ cellsOf symbolC (ys.drop k) := by
    conv => lhs; rw [← List.take_append_drop k ys]
    simp only [cellsOf, List.flatMap_append]
  intro i u hi
  refine h i u ?_
  rw [e, List.getElem?_append_left (by
    rcases Nat.lt_or_ge i (cellsOf symbolC (ys.take k)).length with h' | h'
    · exact h'
    · rw [List.getElem?_eq_none h'] at hi
      cases hi)]
  exact hi
set_option maxHeartbeats 2000000 in
theorem objectValid_any (o : OV) (w : World) (hr : RdO w w.heap.size o) (hf : Fit o) :
    Calls Try.prog 31 #[.agg #[.slice o.A o.ps.length o.c, .slice o.Y o.ys.length o.yc]] w (Ret (.bool (objOk o.d)) w) := by
  obtain ⟨A, c, ps, Y, yc, ys⟩ := o
  obtain ⟨np, ny, cy, hp, hy⟩ := hf
  simp only [OV.d] at np ny cy hp hy ⊢
  have HR := hide hr
  have HL := hide (And.intro hp hy)
  clear hr hp hy
  have B0 : Below w.heap.size w (w.alloc (.cells #[.slice A ps.length c, .slice Y ys.length yc] 26)) := (by repeat (first | exact Below.refl _ _ | with_reducible assumption | (refine Below.drew ?_) | (refine Below.drewN ?_ _) | (refine Below.alloc ?_ (by simp; try omega) _) | (refine Below.setCell ?_ (by simp; try omega) _)))
  have X0 := Box.new w 26 #[.slice A ps.length c, .slice Y ys.length yc]
  have x0 := X0.cell 0
  have x1 := X0.cell 1
  simp only [List.getElem?_toArray, List.getElem?_cons_zero, List.getElem?_cons_succ] at x0 x1
  have HB := hide B0
  clear B0
  go_enter Try.func31, Try.ntmps31
  by_cases b1 : 8 < ps.length
  · have HV := hide (obj_big (d := ⟨ps.map SV.d, ys⟩) (.inl (by simpa using b1)))
    have e1 : decide ((8 : Int) < ps.length) = true := decide_eq_true (by omega)
    clear b1
    go_wp2_with fail
    go_ret
    exact ⟨by rw [HV.out]; rfl, HB.out⟩
  have e1 : decide ((8 : Int) < ps.length) = false := decide_eq_false (by omega)
  by_cases b2 : 12 < ys.length
  · have HV := hide (obj_big (d := ⟨ps.map SV.d, ys⟩) (.inr b2))
    have e2 : decide ((12 : Int) < ys.length) = true := decide_eq_true (by omega)
    clear b1 b2
    go_wp2_with fail
    go_ret
    exact ⟨by rw [HV.out]; rfl, HB.out⟩
  have e2 : decide ((12 : Int) < ys.length) = false := decide_eq_false (by omega)
  go_wp2_with fail
  clear e1 e2
  generalize w.alloc (.cells #[.slice A ps.length c, .slice Y ys.length yc] 26) = w0 at *
  go_loopw [20] (fun i wi => ∃ k : Nat, k ≤ ps.length ∧ i = .int .i64 k ∧ (∀ p ∈ ps.take k, secOk ys.length p.d = true) ∧ Box wi w.heap.size 26 #[.slice A ps.length c, .slice Y ys.length yc] ∧ Below w.heap.size w wi) (fun i _ => ps.length - (intOf i).toNat)
  case atStart => exact ⟨0, Nat.zero_le _, rfl, fun p hp => by simp at hp, X0, HB.out⟩
  case round =>
    obtain ⟨k, hk, rfl, hok, hx, hb⟩ := hrel
    have HO := hide hok
    have HX := hide hx
    have HBI := hide hb
    clear X0 x0 x1 HB
    have x0 := hx.cell 0
    have x1 := hx.cell 1
    simp only [List.getElem?_toArray, List.getElem?_cons_zero, List.getElem?_cons_succ] at x0 x1
    have hxl := hx.lt
    by_cases hlt : k < ps.length
    · obtain ⟨b, off, hA, hbg, hc⟩ := (HR.out.1.1.below hb).row secC_len (by decide) hlt
      subst hA
      have hc0 := hc 0 _ rfl
      have hc1 := hc 1 _ rfl
      have hc2 := hc 2 _ rfl
      have hc3 := hc 3 _ rfl
      have hc4 := hc 4 _ rfl
      have hc5 := hc 5 _ rfl
      simp only [Nat.add_zero] at hc0
      have HM := hide (HL.out.1 _ (List.getElem_mem hlt))
      have HRS := hide (HR.out.1.2 _ (List.getElem_mem hlt))
      have HS := hide (fun (h : secOk ys.length ps[k].d = true) => (show ∀ p ∈ ps.take (k + 1), secOk ys.length p.d = true from fun p hp => by
        rw [take_succ hlt] at hp
        rcases List.mem_append.1 hp with hp | hp
        · exact HO.out p hp
        · rw [List.mem_singleton.1 hp]; exact h))
      have HF := hide (fun (h : secOk ys.length ps[k].d = false) => obj_sec (d := ⟨ps.map SV.d, ys⟩) (List.mem_map_of_mem (List.getElem_mem hlt)) h)
      clear hok hx hb hc HO
      generalize ps[k] = p at *
      go_wp2_with fail
      have B1 : Below wr.heap.size wr (wr.alloc (.cells #[.string p.nm, .int .i64 p.kd, .int .i64 p.al, .slice p.A p.zs.length p.c, .int .i64 p.sz, .slice p.F p.fs.length p.fc] 73)) := (by repeat (first | exact Below.refl _ _ | with_reducible assumption | (refine Below.drew ?_) | (refine Below.drewN ?_ _) | (refine Below.alloc ?_ (by simp; try omega) _) | (refine Below.setCell ?_ (by simp; try omega) _)))
      have HX1 := hide (HX.out.call B1)
      have HB1 := hide (HBI.out.trans (B1.mono HBI.out.size))
      clear hc0 hc1 hc2 hc3 hc4 hc5 B1 HX HBI x0 x1
      refine (sectionValid_any p ys.length _ ((HRS.out.below HB1.out).more HB1.out.size) HM.out.1 HM.out.2.1 HM.out.2.2).mono ?_
      rintro e w2 ⟨rfl, b2⟩
      have HX2 := hide (HX1.out.call b2)
      have HB2 := hide (HB1.out.trans (b2.mono HB1.out.size))
      clear b2 HX1 HB1
      cases hs : secOk ys.length p.d
      · have HV := hide (HF.out hs)
        clear HF HS hs
        go_wp2_with fail
        go_ret
        exact ⟨by rw [HV.out]; rfl, HB2.out⟩
      · have HS' := hide (HS.out hs)
        clear HF HS hs
        go_wp2_with fail
        refine ⟨⟨k + 1, by omega, by go_num, HS'.out, HX2.out, HB2.out⟩, by simp [intOf]; omega⟩
    · have HALL := hide (show ∀ p ∈ ps.map SV.d, secOk ys.length p = true from fun p hp => by
        obtain ⟨q, hq, rfl⟩ := List.mem_map.1 hp
        exact HO.out q (by rw [List.take_of_length_le (by omega)]; exact hq))
      clear HO hok hx hb
      go_wp2_with fail
      clear x0 x1
      go_loopw [34] (fun i wi => ∃ k : Nat, k ≤ ys.length ∧ i = .int .i64 k ∧ (∀ j, (h : j < ys.length) → j < k → symAt (ps.map SV.d) ys j ys[j] = true) ∧ Box wi w.heap.size 26 #[.slice A ps.length c, .slice Y ys.length yc] ∧ Below w.heap.size w wi) (fun i _ => ys.length - (intOf i).toNat)
      case atStart => exact ⟨0, Nat.zero_le _, rfl, fun j _ hj => absurd hj (Nat.not_lt_zero j), HX.out, HBI.out⟩
      case round =>
        obtain ⟨k, hk, rfl, hok, hx, hb⟩ := hrel
        clear HX HBI hxl
        have HO := hide hok
        have HX := hide hx
        have HBI := hide hb
        by_cases hlt : k < ys.length
        · obtain ⟨b, off, hY, hbg, hc⟩ := (HR.out.2.below hb).row symbolC_len (by decide) hlt
          have hc0 := hc 0 _ rfl
          have hc1 := hc 1 _ rfl
          have hc2 := hc 2 _ rfl
          have hc3 := hc 3 _ rfl
          simp only [Nat.add_zero] at hc0
          have HM := hide (HL.out.2 _ (List.getElem_mem hlt))
          have HS := hide (fun (h : symAt (ps.map SV.d) ys k ys[k] = true) => (show ∀ j, (h : j < ys.length) → j < k + 1 → symAt (ps.map SV.d) ys j ys[j] = true from fun j hj hjk => by
            rcases Nat.lt_or_ge j k with h' | h'
            · exact HO.out j hj h'
            · obtain rfl : j = k := by omega
              exact h))
          have HF := hide (fun (h : symAt (ps.map SV.d) ys k ys[k] = false) => obj_sym (d := ⟨ps.map SV.d, ys⟩) hlt h)
          have HRP := hide (show Rd w w.heap.size Y (cellsOf symbolC (ys.take k)) from by
            have := Rd.prefix_take HR.out.2 k
            exact this)
          have hkl : (ys.take k).length = k := by rw [List.length_take]; omega
          have HPL := hide (show (ys.take k).length ≤ maxLen by rw [hkl]; unfold maxLen; omega)
          clear hok hx hb hc HO
          unfold symAt at HS HF
          generalize hpre : ys.take k = pre at *
          generalize ys[k] = z at *
          obtain ⟨zn, zb, zw, zv⟩ := z
          simp only at HM hc0 hc1 hc2 hc3 HS HF
          subst hY
          go_wp2_with fail
          have B1 : Below wr.heap.size wr (wr.alloc (.cells #[.string zn, .int .i64 zb, .int .i64 zw, .int .i64 zv] 69)) := (by repeat (first | exact Below.refl _ _ | with_reducible assumption | (refine Below.drew ?_) | (refine Below.drewN ?_ _) | (refine Below.alloc ?_ (by simp; try omega) _) | (refine Below.setCell ?_ (by simp; try omega) _)))
          have HX1 := hide (HX.out.call B1)
          have HB1 := hide (HBI.out.trans (B1.mono HBI.out.size))
          have HZ1 := hide (Box.new wr 69 #[.string zn, .int .i64 zb, .int .i64 zw, .int .i64 zv])
          clear hc0 hc1 hc2 hc3 B1 HX HBI hbg
          generalize wr.alloc (.cells #[.string zn, .int .i64 zb, .int .i64 zw, .int .i64 zv] 69) = w1 at *
          generalize wr.heap.size = Z at *
          have hSS : ∀ V : World, Below w1.heap.size w1 V → (V.cell? ⟨w.heap.size, 0, none⟩ = some (.slice A ps.length c) ∧ V.cell? ⟨w.heap.size, 1, none⟩ = some (.slice (some ⟨b, off, none⟩) ys.length yc) ∧ V.cell? ⟨Z, 0, none⟩ = some (.string zn) ∧ V.cell? ⟨Z, 1, none⟩ = some (.int .i64 zb) ∧ V.cell? ⟨Z, 2, none⟩ = some (.int .i64 zw) ∧ V.cell? ⟨Z, 3, none⟩ = some (.int .i64 zv)) := by
            intro V hV
            exact ⟨(HX1.out.call hV).cell 0, (HX1.out.call hV).cell 1, (HZ1.out.call hV).cell 0, (HZ1.out.call hV).cell 1, (HZ1.out.call hV).cell 2, (HZ1.out.call hV).cell 3⟩
          have HSS := hide hSS
          clear hSS
          refine Reg.startT (fun V => V.cell? ⟨w.heap.size, 0, none⟩ = some (.slice A ps.length c) ∧ V.cell? ⟨w.heap.size, 1, none⟩ = some (.slice (some ⟨b, off, none⟩) ys.length yc) ∧ V.cell? ⟨Z, 0, none⟩ = some (.string zn) ∧ V.cell? ⟨Z, 1, none⟩ = some (.int .i64 zb) ∧ V.cell? ⟨Z, 2, none⟩ = some (.int .i64 zw) ∧ V.cell? ⟨Z, 3, none⟩ = some (.int .i64 zv)) (fun _ => false) (by kernel_rfl) ?_
          have hHeld := HSS.out w1.drew (Below.drew (Below.refl _ _))
          refine Reg.takeT (i := 0) (v := ?_) rfl (by kernel_rfl) (by kernel_rfl) (by kernel_rfl) (by kernel_rfl) (fun _ _ _ h => h) (Or.inl ⟨by rfl, ?_⟩) (by assumption) ?_
          rotate_left 1
          focus (intro w hSw; (try dsimp only at hSw); go_simp; (try with_reducible rfl))
          try simp only [List.getElem_toArray, List.getElem_cons_succ, List.getElem_cons_zero, Act.put, List.setIfInBounds_toArray, List.set_cons_zero, List.set_cons_succ]
          refine Reg.takeT (i := 1) (v := ?_) rfl (by kernel_rfl) (by kernel_rfl) (by kernel_rfl) (by kernel_rfl) (fun _ _ _ h => h) (Or.inl ⟨by rfl, ?_⟩) (by assumption) ?_
          rotate_left 1
          focus (intro w hSw; (try dsimp only at hSw); go_simp; (try with_reducible rfl))
          try simp only [List.getElem_toArray, List.getElem_cons_succ, List.getElem_cons_zero, Act.put, List.setIfInBounds_toArray, List.set_cons_zero, List.set_cons_succ]
          refine Reg.takeT (i := 2) (v := ?_) rfl (by kernel_rfl) (by kernel_rfl) (by kernel_rfl) (by kernel_rfl) (fun _ _ _ h => h) (Or.inl ⟨by rfl, ?_⟩) (by assumption) ?_
          rotate_left 1
          focus (intro w hSw; (try dsimp only at hSw); go_simp; (try with_reducible rfl))
          try simp only [List.getElem_toArray, List.getElem_cons_succ, List.getElem_cons_zero, Act.put, List.setIfInBounds_toArray, List.set_cons_zero, List.set_cons_succ]
          refine Reg.oneT (i := 3) rfl (by kernel_rfl) (fun K hK => ?_)
          go_simp
          refine (symbolValid_any (zn, zb, zw, zv) A ps c _ ((HR.out.1.1.below (Below.drew HB1.out)).more (Below.drew HB1.out).size) np HM.out (fun p hp => Nat.le_trans (HL.out.1 p hp).2.1 (by decide))).mono ?_
          rintro e w3 ⟨rfl, b3⟩
          have HB3 := hide (HB1.out.trans ((below_drawn b3).mono HB1.out.size))
          have HXB := hide (below_drawn b3)
          have hHeld := HSS.out w3 HXB.out
          refine hK.out _ _ hHeld ?_
          clear hK K b3
          try simp only [List.getElem_toArray, List.getElem_cons_succ, List.getElem_cons_zero, Act.put, List.setIfInBounds_toArray, List.set_cons_zero, List.set_cons_succ]
          cases hs : symOk (ps.map SV.d) (zn, zb, zw, zv)
          · have HV := hide (HF.out (by rw [hs]; rfl))
            clear HF HS hs
            refine Reg.takeT (i := 4) (v := ?_) rfl (by kernel_rfl) (by kernel_rfl) (by kernel_rfl) (by kernel_rfl) (fun _ _ _ h => h) (Or.inl ⟨by rfl, ?_⟩) (by assumption) ?_
            rotate_left 1
            focus (intro w hSw; (try dsimp only at hSw); go_simp; (try with_reducible rfl))
            try simp only [List.getElem_toArray, List.getElem_cons_succ, List.getElem_cons_zero, Act.put, List.setIfInBounds_toArray, List.set_cons_zero, List.set_cons_succ]
            refine Reg.takeT (i := 5) (v := ?_) rfl (by kernel_rfl) (by kernel_rfl) (by kernel_rfl) (by kernel_rfl) (fun _ _ _ h => h) (Or.inl ⟨by rfl, ?_⟩) (by assumption) ?_
            rotate_left 1
            focus (intro w hSw; (try dsimp only at hSw); go_simp; (try with_reducible rfl))
            try simp only [List.getElem_toArray, List.getElem_cons_succ, List.getElem_cons_zero, Act.put, List.setIfInBounds_toArray, List.set_cons_zero, List.set_cons_succ]
            refine Reg.takeT (i := 6) (v := undef) rfl (by kernel_rfl) (by kernel_rfl) (by kernel_rfl) (by kernel_rfl) (fun _ _ _ h => h) (Or.inr ⟨by rfl, rfl⟩) (by assumption) ?_
            try simp only [List.getElem_toArray, List.getElem_cons_succ, List.getElem_cons_zero, Act.put, List.setIfInBounds_toArray, List.set_cons_zero, List.set_cons_succ]
            refine Reg.takeT (i := 7) (v := undef) rfl (by kernel_rfl) (by kernel_rfl) (by kernel_rfl) (by kernel_rfl) (fun _ _ _ h => h) (Or.inr ⟨by rfl, rfl⟩) (by assumption) ?_
            try simp only [List.getElem_toArray, List.getElem_cons_succ, List.getElem_cons_zero, Act.put, List.setIfInBounds_toArray, List.set_cons_zero, List.set_cons_succ]
            refine Reg.takeT (i := 8) (v := undef) rfl (by kernel_rfl) (by kernel_rfl) (by kernel_rfl) (by kernel_rfl) (fun _ _ _ h => h) (Or.inr ⟨by rfl, rfl⟩) (by assumption) ?_
            try simp only [List.getElem_toArray, List.getElem_cons_succ, List.getElem_cons_zero, Act.put, List.setIfInBounds_toArray, List.set_cons_zero, List.set_cons_succ]
            refine Reg.takeT (i := 9) (v := undef) rfl (by kernel_rfl) (by kernel_rfl) (by kernel_rfl) (by kernel_rfl) (fun _ _ _ h => h) (Or.inr ⟨by rfl, rfl⟩) (by assumption) ?_
            try simp only [List.getElem_toArray, List.getElem_cons_succ, List.getElem_cons_zero, Act.put, List.setIfInBounds_toArray, List.set_cons_zero, List.set_cons_succ]
            refine Reg.takeT (i := 10) (v := undef) rfl (by kernel_rfl) (by kernel_rfl) (by kernel_rfl) (by kernel_rfl) (fun _ _ _ h => h) (Or.inr ⟨by rfl, rfl⟩) (by assumption) ?_
            try simp only [List.getElem_toArray, List.getElem_cons_succ, List.getElem_cons_zero, Act.put, List.setIfInBounds_toArray, List.set_cons_zero, List.set_cons_succ]
            refine Reg.takeT (i := 11) (v := undef) rfl (by kernel_rfl) (by kernel_rfl) (by kernel_rfl) (by kernel_rfl) (fun _ _ _ h => h) (Or.inr ⟨by rfl, rfl⟩) (by assumption) ?_
            try simp only [List.getElem_toArray, List.getElem_cons_succ, List.getElem_cons_zero, Act.put, List.setIfInBounds_toArray, List.set_cons_zero, List.set_cons_succ]
            refine Reg.takeT (i := 12) (v := undef) rfl (by kernel_rfl) (by kernel_rfl) (by kernel_rfl) (by kernel_rfl) (fun _ _ _ h => h) (Or.inr ⟨by rfl, rfl⟩) (by assumption) ?_
            try simp only [List.getElem_toArray, List.getElem_cons_succ, List.getElem_cons_zero, Act.put, List.setIfInBounds_toArray, List.set_cons_zero, List.set_cons_succ]
            refine Reg.takeT (i := 13) (v := undef) rfl (by kernel_rfl) (by kernel_rfl) (by kernel_rfl) (by kernel_rfl) (fun _ _ _ h => h) (Or.inr ⟨by rfl, rfl⟩) (by assumption) ?_
            try simp only [List.getElem_toArray, List.getElem_cons_succ, List.getElem_cons_zero, Act.put, List.setIfInBounds_toArray, List.set_cons_zero, List.set_cons_succ]
            refine Reg.takeT (i := 14) (v := undef) rfl (by kernel_rfl) (by kernel_rfl) (by kernel_rfl) (by kernel_rfl) (fun _ _ _ h => h) (Or.inr ⟨by rfl, rfl⟩) (by assumption) ?_
            try simp only [List.getElem_toArray, List.getElem_cons_succ, List.getElem_cons_zero, Act.put, List.setIfInBounds_toArray, List.set_cons_zero, List.set_cons_succ]
            refine Reg.takeT (i := 15) (v := undef) rfl (by kernel_rfl) (by kernel_rfl) (by kernel_rfl) (by kernel_rfl) (fun _ _ _ h => h) (Or.inr ⟨by rfl, rfl⟩) (by assumption) ?_
            try simp only [List.getElem_toArray, List.getElem_cons_succ, List.getElem_cons_zero, Act.put, List.setIfInBounds_toArray, List.set_cons_zero, List.set_cons_succ]
            refine Reg.takeT (i := 16) (v := undef) rfl (by kernel_rfl) (by kernel_rfl) (by kernel_rfl) (by kernel_rfl) (fun _ _ _ h => h) (Or.inr ⟨by rfl, rfl⟩) (by assumption) ?_
            try simp only [List.getElem_toArray, List.getElem_cons_succ, List.getElem_cons_zero, Act.put, List.setIfInBounds_toArray, List.set_cons_zero, List.set_cons_succ]
            refine Reg.takeT (i := 17) (v := undef) rfl (by kernel_rfl) (by kernel_rfl) (by kernel_rfl) (by kernel_rfl) (fun _ _ _ h => h) (Or.inr ⟨by rfl, rfl⟩) (by assumption) ?_
            try simp only [List.getElem_toArray, List.getElem_cons_succ, List.getElem_cons_zero, Act.put, List.setIfInBounds_toArray, List.set_cons_zero, List.set_cons_succ]
            refine Reg.takeT (i := 18) (v := undef) rfl (by kernel_rfl) (by kernel_rfl) (by kernel_rfl) (by kernel_rfl) (fun _ _ _ h => h) (Or.inr ⟨by rfl, rfl⟩) (by assumption) ?_
            try simp only [List.getElem_toArray, List.getElem_cons_succ, List.getElem_cons_zero, Act.put, List.setIfInBounds_toArray, List.set_cons_zero, List.set_cons_succ]
            refine Reg.takeT (i := 19) (v := ?_) rfl (by kernel_rfl) (by kernel_rfl) (by kernel_rfl) (by kernel_rfl) (fun _ _ _ h => h) (Or.inl ⟨by rfl, ?_⟩) (by assumption) ?_
            rotate_left 1
            focus (intro w hSw; (try dsimp only at hSw); go_simp; (try with_reducible rfl))
            try simp only [List.getElem_toArray, List.getElem_cons_succ, List.getElem_cons_zero, Act.put, List.setIfInBounds_toArray, List.set_cons_zero, List.set_cons_succ]
            refine Reg.doneT (by kernel_rfl) ?_ _
            clear hHeld HSS
            go_wp2_with fail
            go_ret
            exact ⟨by rw [HV.out]; rfl, HB3.out⟩
          rw [hs] at HS HF
          clear hs
          refine Reg.takeT (i := 4) (v := ?_) rfl (by kernel_rfl) (by kernel_rfl) (by kernel_rfl) (by kernel_rfl) (fun _ _ _ h => h) (Or.inl ⟨by rfl, ?_⟩) (by assumption) ?_
          rotate_left 1
          focus (intro w hSw; (try dsimp only at hSw); go_simp; (try with_reducible rfl))
          try simp only [List.getElem_toArray, List.getElem_cons_succ, List.getElem_cons_zero, Act.put, List.setIfInBounds_toArray, List.set_cons_zero, List.set_cons_succ]
          refine Reg.takeT (i := 5) (v := ?_) rfl (by kernel_rfl) (by kernel_rfl) (by kernel_rfl) (by kernel_rfl) (fun _ _ _ h => h) (Or.inl ⟨by rfl, ?_⟩) (by assumption) ?_
          rotate_left 1
          focus (intro w hSw; (try dsimp only at hSw); go_simp; (try with_reducible rfl))
          try simp only [List.getElem_toArray, List.getElem_cons_succ, List.getElem_cons_zero, Act.put, List.setIfInBounds_toArray, List.set_cons_zero, List.set_cons_succ]
          refine Reg.takeT (i := 6) (v := ?_) rfl (by kernel_rfl) (by kernel_rfl) (by kernel_rfl) (by kernel_rfl) (fun _ _ _ h => h) (Or.inl ⟨by rfl, ?_⟩) (by assumption) ?_
          rotate_left 1
          focus (intro w hSw; (try dsimp only at hSw); go_simp; (try with_reducible rfl))
          try simp only [List.getElem_toArray, List.getElem_cons_succ, List.getElem_cons_zero, Act.put, List.setIfInBounds_toArray, List.set_cons_zero, List.set_cons_succ]
          refine Reg.takeT (i := 7) (v := ?_) rfl (by kernel_rfl) (by kernel_rfl) (by kernel_rfl) (by kernel_rfl) (fun _ _ _ h => h) (Or.inl ⟨by rfl, ?_⟩) (by assumption) ?_
          rotate_left 1
          focus (intro w hSw; (try dsimp only at hSw); go_simp; (try with_reducible rfl))
          try simp only [List.getElem_toArray, List.getElem_cons_succ, List.getElem_cons_zero, Act.put, List.setIfInBounds_toArray, List.set_cons_zero, List.set_cons_succ]
          refine Reg.takeT (i := 8) (v := ?_) rfl (by kernel_rfl) (by kernel_rfl) (by kernel_rfl) (by kernel_rfl) (fun _ _ _ h => h) (Or.inl ⟨by rfl, ?_⟩) (by assumption) ?_
          rotate_left 1
          focus (intro w hSw; (try dsimp only at hSw); go_simp; (try with_reducible rfl))
          try simp only [List.getElem_toArray, List.getElem_cons_succ, List.getElem_cons_zero, Act.put, List.setIfInBounds_toArray, List.set_cons_zero, List.set_cons_succ]
          by_cases hz : zb = 0
          · have HS' := hide (HS.out (by rw [decide_eq_true hz]; rfl))
            have e1 : (zb != 0) = false := by rw [hz]; rfl
            clear HS HF hz
            rw [e1]
            refine Reg.takeT (i := 9) (v := ?_) rfl (by kernel_rfl) (by kernel_rfl) (by kernel_rfl) (by kernel_rfl) (fun _ _ _ h => h) (Or.inl ⟨by rfl, ?_⟩) (by assumption) ?_
            rotate_left 1
            focus (intro w hSw; (try dsimp only at hSw); go_simp; (try with_reducible rfl))
            try simp only [List.getElem_toArray, List.getElem_cons_succ, List.getElem_cons_zero, Act.put, List.setIfInBounds_toArray, List.set_cons_zero, List.set_cons_succ]
            refine Reg.takeT (i := 10) (v := undef) rfl (by kernel_rfl) (by kernel_rfl) (by kernel_rfl) (by kernel_rfl) (fun _ _ _ h => h) (Or.inr ⟨by rfl, rfl⟩) (by assumption) ?_
            try simp only [List.getElem_toArray, List.getElem_cons_succ, List.getElem_cons_zero, Act.put, List.setIfInBounds_toArray, List.set_cons_zero, List.set_cons_succ]
            refine Reg.takeT (i := 11) (v := undef) rfl (by kernel_rfl) (by kernel_rfl) (by kernel_rfl) (by kernel_rfl) (fun _ _ _ h => h) (Or.inr ⟨by rfl, rfl⟩) (by assumption) ?_
            try simp only [List.getElem_toArray, List.getElem_cons_succ, List.getElem_cons_zero, Act.put, List.setIfInBounds_toArray, List.set_cons_zero, List.set_cons_succ]
            refine Reg.takeT (i := 12) (v := undef) rfl (by kernel_rfl) (by kernel_rfl) (by kernel_rfl) (by kernel_rfl) (fun _ _ _ h => h) (Or.inr ⟨by rfl, rfl⟩) (by assumption) ?_
            try simp only [List.getElem_toArray, List.getElem_cons_succ, List.getElem_cons_zero, Act.put, List.setIfInBounds_toArray, List.set_cons_zero, List.set_cons_succ]
            refine Reg.takeT (i := 13) (v := undef) rfl (by kernel_rfl) (by kernel_rfl) (by kernel_rfl) (by kernel_rfl) (fun _ _ _ h => h) (Or.inr ⟨by rfl, rfl⟩) (by assumption) ?_
            try simp only [List.getElem_toArray, List.getElem_cons_succ, List.getElem_cons_zero, Act.put, List.setIfInBounds_toArray, List.set_cons_zero, List.set_cons_succ]
            refine Reg.takeT (i := 14) (v := undef) rfl (by kernel_rfl) (by kernel_rfl) (by kernel_rfl) (by kernel_rfl) (fun _ _ _ h => h) (Or.inr ⟨by rfl, rfl⟩) (by assumption) ?_
            try simp only [List.getElem_toArray, List.getElem_cons_succ, List.getElem_cons_zero, Act.put, List.setIfInBounds_toArray, List.set_cons_zero, List.set_cons_succ]
            refine Reg.takeT (i := 15) (v := undef) rfl (by kernel_rfl) (by kernel_rfl) (by kernel_rfl) (by kernel_rfl) (fun _ _ _ h => h) (Or.inr ⟨by rfl, rfl⟩) (by assumption) ?_
            try simp only [List.getElem_toArray, List.getElem_cons_succ, List.getElem_cons_zero, Act.put, List.setIfInBounds_toArray, List.set_cons_zero, List.set_cons_succ]
            refine Reg.takeT (i := 16) (v := undef) rfl (by kernel_rfl) (by kernel_rfl) (by kernel_rfl) (by kernel_rfl) (fun _ _ _ h => h) (Or.inr ⟨by rfl, rfl⟩) (by assumption) ?_
            try simp only [List.getElem_toArray, List.getElem_cons_succ, List.getElem_cons_zero, Act.put, List.setIfInBounds_toArray, List.set_cons_zero, List.set_cons_succ]
            refine Reg.takeT (i := 17) (v := undef) rfl (by kernel_rfl) (by kernel_rfl) (by kernel_rfl) (by kernel_rfl) (fun _ _ _ h => h) (Or.inr ⟨by rfl, rfl⟩) (by assumption) ?_
            try simp only [List.getElem_toArray, List.getElem_cons_succ, List.getElem_cons_zero, Act.put, List.setIfInBounds_toArray, List.set_cons_zero, List.set_cons_succ]
            refine Reg.takeT (i := 18) (v := ?_) rfl (by kernel_rfl) (by kernel_rfl) (by kernel_rfl) (by kernel_rfl) (fun _ _ _ h => h) (Or.inl ⟨by rfl, ?_⟩) (by assumption) ?_
            rotate_left 1
            focus (intro w hSw; (try dsimp only at hSw); go_simp; (try with_reducible rfl))
            try simp only [List.getElem_toArray, List.getElem_cons_succ, List.getElem_cons_zero, Act.put, List.setIfInBounds_toArray, List.set_cons_zero, List.set_cons_succ]
            refine Reg.takeT (i := 19) (v := ?_) rfl (by kernel_rfl) (by kernel_rfl) (by kernel_rfl) (by kernel_rfl) (fun _ _ _ h => h) (Or.inl ⟨by rfl, ?_⟩) (by assumption) ?_
            rotate_left 1
            focus (intro w hSw; (try dsimp only at hSw); go_simp; (try with_reducible rfl))
            try simp only [List.getElem_toArray, List.getElem_cons_succ, List.getElem_cons_zero, Act.put, List.setIfInBounds_toArray, List.set_cons_zero, List.set_cons_succ]
            refine Reg.doneT (by kernel_rfl) ?_ _
            clear hHeld HSS
            have HX3 := hide (HX1.out.call HXB.out)
            go_wp2_with fail
            refine ⟨⟨k + 1, by omega, by go_num, HS'.out, HX3.out, HB3.out⟩, by simp [intOf]; omega⟩
          · have e1 : (zb != 0) = true := bne_iff_ne.2 hz
            rw [decide_eq_false hz] at HS HF
            clear hz
            rw [e1]
            have hky : k ≤ yc := by omega
            refine Reg.takeT (i := 9) (v := ?_) rfl (by kernel_rfl) (by kernel_rfl) (by kernel_rfl) (by kernel_rfl) (fun _ _ _ h => h) (Or.inl ⟨by rfl, ?_⟩) (by assumption) ?_
            rotate_left 1
            focus (intro w hSw; (try dsimp only at hSw); go_simp; (try with_reducible rfl))
            try simp only [List.getElem_toArray, List.getElem_cons_succ, List.getElem_cons_zero, Act.put, List.setIfInBounds_toArray, List.set_cons_zero, List.set_cons_succ]
            refine Reg.takeT (i := 10) (v := ?_) rfl (by kernel_rfl) (by kernel_rfl) (by kernel_rfl) (by kernel_rfl) (fun _ _ _ h => h) (Or.inl ⟨by rfl, ?_⟩) (by assumption) ?_
            rotate_left 1
            focus (intro w hSw; (try dsimp only at hSw); go_simp; (try with_reducible rfl))
            try simp only [List.getElem_toArray, List.getElem_cons_succ, List.getElem_cons_zero, Act.put, List.setIfInBounds_toArray, List.set_cons_zero, List.set_cons_succ]
            refine Reg.takeT (i := 11) (v := ?_) rfl (by kernel_rfl) (by kernel_rfl) (by kernel_rfl) (by kernel_rfl) (fun _ _ _ h => h) (Or.inl ⟨by rfl, ?_⟩) (by assumption) ?_
            rotate_left 1
            focus (intro w hSw; (try dsimp only at hSw); go_simp; (try with_reducible rfl))
            try simp only [List.getElem_toArray, List.getElem_cons_succ, List.getElem_cons_zero, Act.put, List.setIfInBounds_toArray, List.set_cons_zero, List.set_cons_succ]
            refine Reg.takeT (i := 12) (v := ?_) rfl (by kernel_rfl) (by kernel_rfl) (by kernel_rfl) (by kernel_rfl) (fun _ _ _ h => h) (Or.inl ⟨by rfl, ?_⟩) (by assumption) ?_
            rotate_left 1
            focus (intro w hSw; (try dsimp only at hSw); go_simp; (try with_reducible rfl))
            try simp only [List.getElem_toArray, List.getElem_cons_succ, List.getElem_cons_zero, Act.put, List.setIfInBounds_toArray, List.set_cons_zero, List.set_cons_succ]
            refine Reg.takeT (i := 13) (v := ?_) rfl (by kernel_rfl) (by kernel_rfl) (by kernel_rfl) (by kernel_rfl) (fun _ _ _ h => h) (Or.inl ⟨by rfl, ?_⟩) (by assumption) ?_
            rotate_left 1
            focus (intro w hSw; (try dsimp only at hSw); go_simp; (try with_reducible rfl))
            try simp only [List.getElem_toArray, List.getElem_cons_succ, List.getElem_cons_zero, Act.put, List.setIfInBounds_toArray, List.set_cons_zero, List.set_cons_succ]
            refine Reg.takeT (i := 14) (v := ?_) rfl (by kernel_rfl) (by kernel_rfl) (by kernel_rfl) (by kernel_rfl) (fun _ _ _ h => h) (Or.inl ⟨by rfl, ?_⟩) (by assumption) ?_
            rotate_left 1
            focus (intro w hSw; (try dsimp only at hSw); go_simp; (try with_reducible rfl))
            try simp only [List.getElem_toArray, List.getElem_cons_succ, List.getElem_cons_zero, Act.put, List.setIfInBounds_toArray, List.set_cons_zero, List.set_cons_succ]
            refine Reg.takeT (i := 15) (v := ?_) rfl (by kernel_rfl) (by kernel_rfl) (by kernel_rfl) (by kernel_rfl) (fun _ _ _ h => h) (Or.inl ⟨by rfl, ?_⟩) (by assumption) ?_
            rotate_left 1
            focus (intro w hSw; (try dsimp only at hSw); go_simp; (try with_reducible rfl))
            try simp only [List.getElem_toArray, List.getElem_cons_succ, List.getElem_cons_zero, Act.put, List.setIfInBounds_toArray, List.set_cons_zero, List.set_cons_succ]
            refine Reg.oneT (i := 16) rfl (by kernel_rfl) (fun K hK => ?_)
            go_simp
            have HGO := hide (globalOf_any zn (some ⟨b, off, none⟩) pre yc w3 ((HRP.out.below HB3.out).more HB3.out.size) HPL.out)
            rw [hkl] at HGO
            refine HGO.out.mono ?_
            rintro e w4 ⟨r, rfl, hr4, b4⟩
            have HB4 := hide (HB3.out.trans (b4.mono HB3.out.size))
            have HX4 := hide ((HX1.out.call HXB.out).call b4)
            have hHeld := HSS.out w4 (HXB.out.trans (b4.mono HXB.out.size))
            refine hK.out _ _ hHeld ?_
            clear hK K b4
            try simp only [List.getElem_toArray, List.getElem_cons_succ, List.getElem_cons_zero, Act.put, List.setIfInBounds_toArray, List.set_cons_zero, List.set_cons_succ]
            cases hq : pre.any (hit zn)
            · have HS' := hide (HS.out (by rw [hq]; rfl))
              rw [hq] at hr4
              clear HS HF hq
              refine Reg.takeT (i := 17) (v := ?_) rfl (by kernel_rfl) (by kernel_rfl) (by kernel_rfl) (by kernel_rfl) (fun _ _ _ h => h) (Or.inl ⟨by rfl, ?_⟩) (by assumption) ?_
              rotate_left 1
              focus (intro w hSw; (try dsimp only at hSw); go_simp; (try with_reducible rfl))
              try simp only [List.getElem_toArray, List.getElem_cons_succ, List.getElem_cons_zero, Act.put, List.setIfInBounds_toArray, List.set_cons_zero, List.set_cons_succ]
              refine Reg.takeT (i := 18) (v := ?_) rfl (by kernel_rfl) (by kernel_rfl) (by kernel_rfl) (by kernel_rfl) (fun _ _ _ h => h) (Or.inl ⟨by rfl, ?_⟩) (by assumption) ?_
              rotate_left 1
              focus (intro w hSw; (try dsimp only at hSw); go_simp; (try with_reducible rfl))
              try simp only [List.getElem_toArray, List.getElem_cons_succ, List.getElem_cons_zero, Act.put, List.setIfInBounds_toArray, List.set_cons_zero, List.set_cons_succ]
              refine Reg.takeT (i := 19) (v := ?_) rfl (by kernel_rfl) (by kernel_rfl) (by kernel_rfl) (by kernel_rfl) (fun _ _ _ h => h) (Or.inl ⟨by rfl, ?_⟩) (by assumption) ?_
              rotate_left 1
              focus (intro w hSw; (try dsimp only at hSw); go_simp; (try with_reducible rfl))
              try simp only [List.getElem_toArray, List.getElem_cons_succ, List.getElem_cons_zero, Act.put, List.setIfInBounds_toArray, List.set_cons_zero, List.set_cons_succ]
              refine Reg.doneT (by kernel_rfl) ?_ _
              clear hHeld HSS
              go_wp2_with fail
              refine ⟨⟨k + 1, by omega, by go_num, HS'.out, HX4.out, HB4.out⟩, by simp [intOf]; omega⟩
            · have HV := hide (HF.out (by rw [hq]; rfl))
              rw [hq] at hr4
              clear HS HF hq
              refine Reg.takeT (i := 17) (v := ?_) rfl (by kernel_rfl) (by kernel_rfl) (by kernel_rfl) (by kernel_rfl) (fun _ _ _ h => h) (Or.inl ⟨by rfl, ?_⟩) (by assumption) ?_
              rotate_left 1
              focus (intro w hSw; (try dsimp only at hSw); go_simp; (try with_reducible rfl))
              try simp only [List.getElem_toArray, List.getElem_cons_succ, List.getElem_cons_zero, Act.put, List.setIfInBounds_toArray, List.set_cons_zero, List.set_cons_succ]
              refine Reg.takeT (i := 18) (v := ?_) rfl (by kernel_rfl) (by kernel_rfl) (by kernel_rfl) (by kernel_rfl) (fun _ _ _ h => h) (Or.inl ⟨by rfl, ?_⟩) (by assumption) ?_
              rotate_left 1
              focus (intro w hSw; (try dsimp only at hSw); go_simp; (try with_reducible rfl))
              try simp only [List.getElem_toArray, List.getElem_cons_succ, List.getElem_cons_zero, Act.put, List.setIfInBounds_toArray, List.set_cons_zero, List.set_cons_succ]
              refine Reg.takeT (i := 19) (v := ?_) rfl (by kernel_rfl) (by kernel_rfl) (by kernel_rfl) (by kernel_rfl) (fun _ _ _ h => h) (Or.inl ⟨by rfl, ?_⟩) (by assumption) ?_
              rotate_left 1
              focus (intro w hSw; (try dsimp only at hSw); go_simp; (try with_reducible rfl))
              try simp only [List.getElem_toArray, List.getElem_cons_succ, List.getElem_cons_zero, Act.put, List.setIfInBounds_toArray, List.set_cons_zero, List.set_cons_succ]
              refine Reg.doneT (by kernel_rfl) ?_ _
              clear hHeld HSS
              go_wp2_with fail
              go_ret
              exact ⟨by rw [HV.out]; rfl, HB4.out⟩
        · have HV := hide (obj_yes (d := ⟨ps.map SV.d, ys⟩) (by simp; omega) (by simp; omega) HALL.out (fun j hj => HO.out j hj (Nat.lt_of_lt_of_le hj (show ys.length ≤ k by omega))))
          clear HO hok hx hb
          go_wp2_with fail
          go_ret
          exact ⟨by rw [HV.out]; rfl, HBI.out⟩
end Go.Proofs.Ytmglgjchemecjaa.CObjValid
/- The reference's l4Copy: an object in new memory. -/
namespace Go.Proofs.Ytmglgjchemecjaa.CCopyS
set_option maxRecDepth 200000
open Go.ChangeShapes Go.WideShapes Go.ChangeAt Go.RowKit Kit CFixups CSymbols PObj BObj CMarkRows CObjValid
/-- A slice that is nil has no room. -/
structure Nils (o : OV) : Prop where
  y : o.Y = none → o.yc = 0
  p : ∀ p ∈ o.ps, (p.A = none → p.c = 0) ∧ (p.F = none → p.fc = 0)
theorem nils_own {o : OV} {w : World} {base : Nat} (h : OwnO w base o) : Nils o := ⟨h.2.nil, fun p hp => ⟨(h.1.2.1 p hp).1.nil, (h.1.2.1 p hp).2.nil⟩⟩
theorem infoY : (Try.prog.info? 69).map (fun i => (i.zero, i.size, i.bytes)) = some (some (.agg #[.string ByteArray.empty, .int .i64 0, .int .i64 0, .int .i64 0]), 4, 40) := CSymbols.info
theorem one_sym (ys : List YD) : ∀ u ∈ cellsOf symbolC ys, u.oneCell' = true := by
  intro u hu
  obtain ⟨z, _, hz⟩ := List.mem_flatMap.1 hu
  simp only [symbolC, List.mem_cons, List.not_mem_nil, or_false] at hz
  rcases hz with rfl | rfl | rfl | rfl <;> rfl
theorem one_fix (ys : List FD) : ∀ u ∈ cellsOf fixupC ys, u.oneCell' = true := by
  intro u hu
  obtain ⟨z, _, hz⟩ := List.mem_flatMap.1 hu
  simp only [fixupC, List.mem_cons, List.not_mem_nil, or_false] at hz
  rcases hz with rfl | rfl | rfl | rfl <;> rfl
theorem one_ints (k : IntKind) (zs : List Int) : ∀ u ∈ ints k zs, u.oneCell' = true := by
  intro u hu
  obtain ⟨z, _, rfl⟩ := List.mem_map.1 hu
  rfl
set_option maxHeartbeats 2000000 in
theorem l4Copy_any (o : OV) (w : World) (hr : RdO w w.heap.size o) (hf : Fit o) (hn : Nils o) (hs : o.ps.length ≤ 100 ∧ o.ys.length ≤ 100) :
    Calls Try.prog 62 #[.agg #[.slice o.A o.ps.length o.c, .slice o.Y o.ys.length o.yc]] w (RetO o.d w) := by
  obtain ⟨iy, hy1, hy2, hy3, hy4⟩ := info_parts infoY
  obtain ⟨ix, hx1, hx2, hx3, hx4⟩ := info_parts BObj.info
  obtain ⟨i8, h81, h82, h83, h84⟩ := info_parts CBytes.info8
  obtain ⟨iF, hF1, hF2, hF3, hF4⟩ := info_parts CFixups.info
  have HIY := hide (And.intro hy1 (And.intro hy2 (And.intro hy3 hy4)))
  have HIX := hide (And.intro hx1 (And.intro hx2 (And.intro hx3 hx4)))
  have HI8 := hide (And.intro h81 (And.intro h82 (And.intro h83 h84)))
  have HIF := hide (And.intro hF1 (And.intro hF2 (And.intro hF3 hF4)))
  clear hy1 hy2 hy3 hy4 hx1 hx2 hx3 hx4 h81 h82 h83 h84 hF1 hF2 hF3 hF4
  obtain ⟨A, c, ps, Y, yc, ys⟩ := o
  obtain ⟨np, ny, cy, hp, hy⟩ := hf
  obtain ⟨ny0, np0⟩ := hn
  obtain ⟨ss1, ss2⟩ := hs
  simp only at np ny cy hp hy ny0 np0 ss1 ss2 ⊢
  have HR := hide hr
  have HL := hide (And.intro hp np0)
  have HNY := hide ny0
  clear hr hp hy np0 ny0
  have B0 : Below w.heap.size w (((w.alloc (.cells #[.slice A ps.length c, .slice Y ys.length yc] 26)).alloc (.cells #[.slice none 0 0, .slice none 0 0] 26)).alloc (.cells #[] 69)) := (by repeat (first | exact Below.refl _ _ | with_reducible assumption | (refine Below.drew ?_) | (refine Below.drewN ?_ _) | (refine Below.alloc ?_ (by simp; try omega) _) | (refine Below.setCell ?_ (by simp; try omega) _)))
  have HV0 := hide (((Box.new w 26 #[.slice A ps.length c, .slice Y ys.length yc]).alloc (.cells #[.slice none 0 0, .slice none 0 0] 26)).alloc (.cells #[] 69))
  have HR0 := (Box.new (w.alloc (.cells #[.slice A ps.length c, .slice Y ys.length yc] 26)) 26 #[.slice none 0 0, .slice none 0 0]).alloc (.cells #[] 69)
  simp only [World.size_alloc] at HR0
  have HRR0 := hide HR0
  clear HR0
  have HB0 := hide B0
  have hVR : w.heap.size < w.heap.size + 1 := by omega
  clear B0
  go_enter Try.func62, Try.ntmps62
  go_wp2_with (at_builtin; refine wpList_app _ rfl (.tmp 6) (.tmp 8) 24 rfl 69 iy (.agg #[.string ByteArray.empty, .int .i64 0, .int .i64 0, .int .i64 0]) 4 40 Try.underlying24 HIY.out.1 HIY.out.2.1 HIY.out.2.2.1 HIY.out.2.2.2 rfl (by decide) w.heap.size (some ⟨w.heap.size + 1 + 1, 0, none⟩) 0 0 [] rfl (Row.empty _ _ _ _ _) HB0.out.size Y ys.length yc (cellsOf symbolC ys) rfl (HR.out.2.below HB0.out) (cellsOf_len symbolC_len ys) HNY.out (one_sym ys) ?n1 ?n2 ?_)
  case n1 => unfold maxLen; omega
  case n2 => omega
  intro A1 n1 c1 w1 hn1 o1 g1 k1
  subst hn1
  have HB1 := hide (HB0.out.grown g1 HB0.out.size (fun k hk => by cases hk))
  have HV1 := hide (HV0.out.grown g1 (fun k hk => by cases hk))
  have HRR1 := hide (HRR0.out.grown g1 (fun k hk => by cases hk))
  have HY1 := hide o1
  have hR0 := HRR1.out.lt
  clear o1 g1 k1 HB0 HV0 HRR0
  go_wp2_with fail
  have HX2 := hide (Box.new w1 26 #[.slice none 0 0, .slice A1 ys.length c1])
  have HB2 := hide (HB1.out.alloc HB1.out.size (.cells #[.slice none 0 0, .slice A1 ys.length c1] 26))
  have HV2 := hide (HV1.out.alloc (.cells #[.slice none 0 0, .slice A1 ys.length c1] 26))
  have HRR2 := hide (HRR1.out.alloc (.cells #[.slice none 0 0, .slice A1 ys.length c1] 26))
  have HY2 := hide (HY1.out.alloc (.cells #[.slice none 0 0, .slice A1 ys.length c1] 26))
  clear HB1 HV1 HRR1 HY1
  generalize w1.alloc (.cells #[.slice none 0 0, .slice A1 ys.length c1] 26) = w2 at *
  have hRX : w.heap.size + 1 < w1.heap.size := hR0
  have hVX : w.heap.size < w1.heap.size := by omega
  generalize w1.heap.size = X at *
  generalize w.heap.size + 1 = R at *
  go_loopw [4] (fun i wi => ∃ (k : Nat) (qs : List SV) (Aq : Option Addr) (cq : Nat), k ≤ ps.length ∧ qs.length = k ∧ i = .int .i64 k ∧ qs.map SV.d = (ps.take k).map SV.d ∧ OwnSs wi w.heap.size Aq cq qs ∧ Box wi X 26 #[.slice Aq k cq, .slice A1 ys.length c1] ∧ Row wi w.heap.size 69 4 A1 ys.length c1 (cellsOf symbolC ys) ∧ Box wi w.heap.size 26 #[.slice A ps.length c, .slice Y ys.length yc] ∧ Box wi R 26 #[.slice none 0 0, .slice none 0 0] ∧ Below w.heap.size w wi) (fun i _ => ps.length - (intOf i).toNat)
  case atStart => exact ⟨0, [], none, 0, Nat.zero_le _, rfl, rfl, rfl, ⟨Row.empty _ _ _ _ _, (fun p hp => by cases hp), List.Pairwise.nil⟩, HX2.out, HY2.out, HV2.out, HRR2.out, HB2.out⟩
  case round =>
    clear HX2 HY2 HV2 HRR2 HB2
    obtain ⟨k, qs, Aq, cq, hk, hql, rfl, hqd, ho, hx, hrow, hv, hrr, hb⟩ := hrel
    have HO := hide ho
    have HX := hide hx
    have HY := hide hrow
    have HV := hide hv
    have HRR := hide hrr
    have HB := hide hb
    have HQ := hide (And.intro hql hqd)
    have v0 := hv.cell 0
    have x0 := hx.cell 0
    have x1 := hx.cell 1
    simp only [List.getElem?_toArray, List.getElem?_cons_zero, List.getElem?_cons_succ] at v0 x0 x1
    have hvl := hv.lt
    have hxl := hx.lt
    by_cases hlt : k < ps.length
    · obtain ⟨b, off, hA, hbg, hc⟩ := (HR.out.1.1.below hb).row secC_len (by decide) hlt
      have hbw : b < wr.heap.size := Nat.lt_of_lt_of_le hbg hb.size
      have hc0 := hc 0 _ rfl
      have hc1 := hc 1 _ rfl
      have hc2 := hc 2 _ rfl
      have hc3 := hc 3 _ rfl
      have hc4 := hc 4 _ rfl
      have hc5 := hc 5 _ rfl
      simp only [Nat.add_zero] at hc0
      have HM := hide (HL.out.1 _ (List.getElem_mem hlt))
      have HN := hide (HL.out.2 _ (List.getElem_mem hlt))
      have HRS := hide (HR.out.1.2 _ (List.getElem_mem hlt))
      have HD := hide (show (qs ++ [ps[k]]).map SV.d = (ps.take (k + 1)).map SV.d by rw [take_succ hlt, List.map_append, List.map_append, hqd])
      clear hql hqd ho hx hrow hv hrr hb hc
      subst hA
      generalize ps[k] = p at *
      have hmz := HM.out.2.1
      have hmf := HM.out.2.2
      have Ba : Below wr.heap.size wr ((wr.alloc (.cells #[.string p.nm, .int .i64 p.kd, .int .i64 p.al, .slice p.A p.zs.length p.c, .int .i64 p.sz, .slice p.F p.fs.length p.fc] 73)).alloc (.cells #[] 5)) := (by repeat (first | exact Below.refl _ _ | with_reducible assumption | (refine Below.drew ?_) | (refine Below.drewN ?_ _) | (refine Below.alloc ?_ (by simp; try omega) _) | (refine Below.setCell ?_ (by simp; try omega) _)))
      have HBa := hide (HB.out.trans (Ba.mono HB.out.size))
      have HSa := hide ((Box.new wr 73 #[.string p.nm, .int .i64 p.kd, .int .i64 p.al, .slice p.A p.zs.length p.c, .int .i64 p.sz, .slice p.F p.fs.length p.fc]).alloc (.cells #[] 5))
      have hsa : wr.heap.size ≤ ((wr.alloc (.cells #[.string p.nm, .int .i64 p.kd, .int .i64 p.al, .slice p.A p.zs.length p.c, .int .i64 p.sz, .slice p.F p.fs.length p.fc] 73)).alloc (.cells #[] 5)).heap.size := Ba.size
      have HBA := hide Ba
      clear Ba
      go_wp2_with (at_builtin; refine wpList_app _ rfl (.tmp 23) (.tmp 25) 22 rfl 5 i8 (.int .u8 0) 1 1 Try.underlying22 HI8.out.1 HI8.out.2.1 HI8.out.2.2.1 HI8.out.2.2.2 rfl (by decide) w.heap.size (some ⟨wr.heap.size + 1, 0, none⟩) 0 0 [] rfl (Row.empty _ _ _ _ _) HBa.out.size p.A p.zs.length p.c (ints .u8 p.zs) rfl (HRS.out.1.below HBa.out) (by simp) HN.out.1 (one_ints _ _) ?n1 ?n2 ?_)
      case n1 => unfold maxLen; omega
      case n2 => omega
      intro A2 n2 c2 w2 hn2 o2 g2 k2
      subst hn2
      clear hc0 hc1 hc2 hc3 hc4 hc5 v0 x0 x1
      have b2 := (Below.refl _ _).grown g2 (Nat.le_refl _) (fun k h => by cases h)
      have HBt := hide (HBA.out.trans (b2.mono HBA.out.size))
      have HS2 := hide (HSa.out.call b2)
      have HA2 := hide (And.intro o2 (fun k (hk : blk A2 c2 = some k) => (show wr.heap.size ≤ k from by
        rcases k2 k hk with h | h
        · cases h
        · omega)))
      generalize ((wr.alloc (.cells #[.string p.nm, .int .i64 p.kd, .int .i64 p.al, .slice p.A p.zs.length p.c, .int .i64 p.sz, .slice p.F p.fs.length p.fc] 73)).alloc (.cells #[] 5)) = wa at *
      clear o2 g2 k2 b2 HSa HBA HBa
      have s3 := HS2.out.cell 3
      have s5 := HS2.out.cell 5
      have sf3 := HS2.out.frozen 3
      simp only [List.getElem?_toArray, List.getElem?_cons_zero, List.getElem?_cons_succ] at s3 s5
      have hSl := HS2.out.lt
      have HB4 := hide (show Below wr.heap.size wr ((w2.setCell ⟨wr.heap.size, 3, none⟩ (.slice A2 p.zs.length c2)).alloc (.cells #[] 77)) from (HBt.out.setCell (p := ⟨wr.heap.size, 3, none⟩) (Nat.le_refl _) _).alloc (HBt.out.setCell (p := ⟨wr.heap.size, 3, none⟩) (Nat.le_refl _) (.slice A2 p.zs.length c2)).size _)
      have HW4 := hide (HB.out.trans (HB4.out.mono HB.out.size))
      have HS4 := hide ((show Box (w2.setCell ⟨wr.heap.size, 3, none⟩ (.slice A2 p.zs.length c2)) wr.heap.size 73 #[.string p.nm, .int .i64 p.kd, .int .i64 p.al, .slice A2 p.zs.length c2, .int .i64 p.sz, .slice p.F p.fs.length p.fc] from HS2.out.set 3 _).alloc (.cells #[] 77))
      have HA4 := hide ((HA2.out.1.set (a := ⟨wr.heap.size, 3, none⟩) (HA2.out.1.box HS2.out (by decide)) (.slice A2 p.zs.length c2)).alloc (.cells #[] 77))
      have HA2k := hide HA2.out.2
      clear HS2 HA2 HBt
      have hz4 : (w2.setCell ⟨wr.heap.size, 3, none⟩ (.slice A2 p.zs.length c2)).heap.size = w2.heap.size := by simp [World.setCell]
      go_wp2_with (at_builtin; refine wpList_app _ rfl (.tmp 28) (.tmp 30) 71 rfl 77 iF (.agg #[.int .i64 0, .int .i64 0, .int .i64 0, .int .i64 0]) 4 32 Try.underlying71 HIF.out.1 HIF.out.2.1 HIF.out.2.2.1 HIF.out.2.2.2 rfl (by decide) w.heap.size (some ⟨w2.heap.size, 0, none⟩) 0 0 [] rfl (Row.empty _ _ _ _ _) HW4.out.size p.F p.fs.length p.fc (cellsOf fixupC p.fs) rfl (HRS.out.2.below HW4.out) (cellsOf_len fixupC_len p.fs) HN.out.2 (one_fix _) ?n1 ?n2 ?_)
      case n1 => unfold maxLen; omega
      case n2 => omega
      intro A5 n5 c5 w5 hn5 o5 g5 k5
      subst hn5
      have b5 := (Below.refl _ _).grown g5 (Nat.le_refl _) (fun k h => by cases h)
      have HBt := hide (HB4.out.trans (b5.mono HB4.out.size))
      have HS5 := hide (HS4.out.call b5)
      have HA5 := hide (HA4.out.call b5)
      have hle4 := HBt.out.size
      have hs24 : wr.heap.size ≤ w2.heap.size := Nat.le_of_lt hSl
      have HF5 := hide (And.intro o5 (fun k (hk : blk A5 c5 = some k) => (show wr.heap.size ≤ k from by
        rcases k5 k hk with h | h
        · cases h
        · omega)))
      clear o5 g5 k5 b5 s3 s5 sf3 HS4 HA4 HB4 HW4
      have s0 := HS5.out.cell 0
      have s1 := HS5.out.cell 1
      have s2 := HS5.out.cell 2
      have s3 := HS5.out.cell 3
      have s4 := HS5.out.cell 4
      have s5 := HS5.out.cell 5
      have sf5 := HS5.out.frozen 5
      simp only [List.getElem?_toArray, List.getElem?_cons_zero, List.getElem?_cons_succ] at s0 s1 s2 s3 s4 s5
      have hSl5 := HS5.out.lt
      -- the world behind the stores into the section's variable
      have HB6 := hide (show Below wr.heap.size wr (w5.setCell ⟨wr.heap.size, 5, none⟩ (.slice A5 p.fs.length c5)) from HBt.out.setCell (p := ⟨wr.heap.size, 5, none⟩) (Nat.le_refl _) _)
      have HA6 := hide (HA5.out.set (a := ⟨wr.heap.size, 5, none⟩) (HA5.out.box HS5.out (by decide)) (.slice A5 p.fs.length c5))
      have HF6 := hide (HF5.out.1.set (a := ⟨wr.heap.size, 5, none⟩) (HF5.out.1.box HS5.out (by decide)) (.slice A5 p.fs.length c5))
      have HFk := hide HF5.out.2
      have HX6 := hide (HX.out.call HB6.out)
      have x0 := HX6.out.cell 0
      have x1 := HX6.out.cell 1
      have xf0 := HX6.out.frozen 0
      simp only [List.getElem?_toArray, List.getElem?_cons_zero, List.getElem?_cons_succ] at x0 x1
      have HSS6 := hide (show Box (w5.setCell ⟨wr.heap.size, 5, none⟩ (.slice A5 p.fs.length c5)) wr.heap.size 73 #[.string p.nm, .int .i64 p.kd, .int .i64 p.al, .slice A2 p.zs.length c2, .int .i64 p.sz, .slice A5 p.fs.length c5] from HS5.out.set 5 _)
      have u0 := HSS6.out.cell 0
      have u1 := HSS6.out.cell 1
      have u2 := HSS6.out.cell 2
      have u3 := HSS6.out.cell 3
      have u4 := HSS6.out.cell 4
      have u5 := HSS6.out.cell 5
      simp only [List.getElem?_toArray, List.getElem?_cons_zero, List.getElem?_cons_succ] at u0 u1 u2 u3 u4 u5
      have HO6 := hide (HO.out.call HB6.out)
      have HY6 := hide (HY.out.call HB6.out)
      have HV6 := hide (HV.out.call HB6.out)
      have HRR6 := hide (HRR.out.call HB6.out)
      have HBW6 := hide (HB.out.trans (HB6.out.mono HB.out.size))
      have HQlt := hide (fun x (hx : x ∈ qs) k (hk : sblk x k) => (show k < wr.heap.size from ((HO.out.2.1 x hx).lt k hk).2))
      have hcl : (cellsOf secC qs).length = k * 6 := by rw [cellsOf_len secC_len, HQ.out.1]
      clear HA5 HF5 HX HO HY HV HRR HB HBt HS5
      have hz6 : (w5.setCell ⟨wr.heap.size, 5, none⟩ (.slice A5 p.fs.length c5)).heap.size = w5.heap.size := by simp [World.setCell]
      have HSEC := hide (show Row ((w5.setCell ⟨wr.heap.size, 5, none⟩ (.slice A5 p.fs.length c5)).alloc (.cells #[.string p.nm, .int .i64 p.kd, .int .i64 p.al, .slice A2 p.zs.length c2, .int .i64 p.sz, .slice A5 p.fs.length c5] 73)) w.heap.size 73 6 Aq k cq (cellsOf secC qs) from by
        have h := (HO6.out.1).alloc (.cells #[.string p.nm, .int .i64 p.kd, .int .i64 p.al, .slice A2 p.zs.length c2, .int .i64 p.sz, .slice A5 p.fs.length c5] 73)
        rw [HQ.out.1] at h
        exact h)
      have HW7 := hide (HBW6.out.alloc HBW6.out.size (.cells #[.string p.nm, .int .i64 p.kd, .int .i64 p.al, .slice A2 p.zs.length c2, .int .i64 p.sz, .slice A5 p.fs.length c5] 73))
      go_wp2_with (at_builtin; refine wpList_app _ rfl (.tmp 34) (.tmp 36) 23 rfl 73 ix (.agg #[.string ByteArray.empty, .int .i64 0, .int .i64 0, .slice none 0 0, .int .i64 0, .slice none 0 0]) 6 88 Try.underlying23 HIX.out.1 HIX.out.2.1 HIX.out.2.2.1 HIX.out.2.2.2 rfl (by decide) w.heap.size Aq k cq (cellsOf secC qs) rfl HSEC.out HW7.out.size (some ⟨w5.heap.size, 0, none⟩) 1 1 [.string p.nm, .int .i64 p.kd, .int .i64 p.al, .slice A2 p.zs.length c2, .int .i64 p.sz, .slice A5 p.fs.length c5] rfl (rd_lit (w5.setCell ⟨wr.heap.size, 5, none⟩ (.slice A5 p.fs.length c5)) #[.string p.nm, .int .i64 p.kd, .int .i64 p.al, .slice A2 p.zs.length c2, .int .i64 p.sz, .slice A5 p.fs.length c5] 73 _ hz6.symm) rfl (fun h => by cases h) ?o1 ?n1 ?n2 ?_)
      case o1 => intro u hu; simp only [List.mem_cons, List.not_mem_nil, or_false] at hu; rcases hu with rfl | rfl | rfl | rfl | rfl | rfl <;> rfl
      case n1 => unfold maxLen; omega
      case n2 => omega
      intro A8 n8 c8 w8 hn8 o8 g8 k8
      subst hn8
      have HX7 := hide ((HX6.out.alloc (.cells #[.string p.nm, .int .i64 p.kd, .int .i64 p.al, .slice A2 p.zs.length c2, .int .i64 p.sz, .slice A5 p.fs.length c5] 73)).grown g8 (fun j hj => HSEC.out.box (HX6.out.alloc _) (by decide) j hj))
      have HV7 := hide ((HV6.out.alloc (.cells #[.string p.nm, .int .i64 p.kd, .int .i64 p.al, .slice A2 p.zs.length c2, .int .i64 p.sz, .slice A5 p.fs.length c5] 73)).grown g8 (fun j hj => HSEC.out.box (HV6.out.alloc _) (by decide) j hj))
      have HRR7 := hide ((HRR6.out.alloc (.cells #[.string p.nm, .int .i64 p.kd, .int .i64 p.al, .slice A2 p.zs.length c2, .int .i64 p.sz, .slice A5 p.fs.length c5] 73)).grown g8 (fun j hj => HSEC.out.box (HRR6.out.alloc _) (by decide) j hj))
      have HY7 := hide ((HY6.out.alloc (.cells #[.string p.nm, .int .i64 p.kd, .int .i64 p.al, .slice A2 p.zs.length c2, .int .i64 p.sz, .slice A5 p.fs.length c5] 73)).grown g8 (fun j hj h => apartT (HY6.out.alloc _) HSEC.out (by decide) j hj h))
      have HBW7 := hide (HW7.out.grown g8 HW7.out.size (fun j hj => (HSEC.out.lt j hj).1))
      have hgrow : ∀ x : SV, RwS ((w5.setCell ⟨wr.heap.size, 5, none⟩ (.slice A5 p.fs.length c5)).alloc (.cells #[.string p.nm, .int .i64 p.kd, .int .i64 p.al, .slice A2 p.zs.length c2, .int .i64 p.sz, .slice A5 p.fs.length c5] 73)) w.heap.size x → RwS w8 w.heap.size x := fun x hx => ⟨hx.1.grown g8 (fun j hj h => apartT hx.1 HSEC.out (by decide) j hj h), hx.2.grown g8 (fun j hj h => apartT hx.2 HSEC.out (by decide) j hj h)⟩
      have hq7 : RwS ((w5.setCell ⟨wr.heap.size, 5, none⟩ (.slice A5 p.fs.length c5)).alloc (.cells #[.string p.nm, .int .i64 p.kd, .int .i64 p.al, .slice A2 p.zs.length c2, .int .i64 p.sz, .slice A5 p.fs.length c5] 73)) w.heap.size ⟨p.nm, p.kd, p.al, A2, c2, p.zs, p.sz, A5, c5, p.fs⟩ := ⟨HA6.out.alloc _, HF6.out.alloc _⟩
      have hqs7 : ∀ x ∈ qs, RwS ((w5.setCell ⟨wr.heap.size, 5, none⟩ (.slice A5 p.fs.length c5)).alloc (.cells #[.string p.nm, .int .i64 p.kd, .int .i64 p.al, .slice A2 p.zs.length c2, .int .i64 p.sz, .slice A5 p.fs.length c5] 73)) w.heap.size x := fun x hx => (HO6.out.2.1 x hx).call ((Below.refl _ _).alloc (Nat.le_refl _) _)
      have hX7 := HX7.out
      have HOW := hide (show OwnSs (w8.setCell ⟨X, 0, none⟩ (.slice A8 (k + 1) c8)) w.heap.size A8 c8 (qs ++ [⟨p.nm, p.kd, p.al, A2, c2, p.zs, p.sz, A5, c5, p.fs⟩]) from by
        refine ⟨?_, ?_, ?_⟩
        · have h := (show Row w8 w.heap.size 73 6 A8 (k + 1) c8 _ from o8).set (a := ⟨X, 0, none⟩) ((show Row w8 w.heap.size 73 6 A8 (k + 1) c8 _ from o8).box hX7 (by decide)) (.slice A8 (k + 1) c8)
          rw [cells_snoc, List.length_append, HQ.out.1]
          exact h
        · refine RwSs.snoc (fun x hx => ?_) ?_
          · exact (hgrow x (hqs7 x hx)).set (a := ⟨X, 0, none⟩) ((hgrow x (hqs7 x hx)).box hX7 (by decide) (by decide)) _
          · exact (hgrow _ hq7).set (a := ⟨X, 0, none⟩) ((hgrow _ hq7).box hX7 (by decide) (by decide)) _
        · refine HO6.out.2.2.snoc (N := wr.heap.size) HQlt.out ?_
          rintro j (hj | hj)
          · exact HA2k.out j hj
          · exact HFk.out j hj)
      have HX8 := hide (show Box (w8.setCell ⟨X, 0, none⟩ (.slice A8 (k + 1) c8)) X 26 #[.slice A8 (k + 1) c8, .slice A1 ys.length c1] from hX7.set 0 _)
      have HY8 := hide (HY7.out.set (a := ⟨X, 0, none⟩) (HY7.out.box hX7 (by decide)) (.slice A8 (k + 1) c8))
      have HV8 := hide (HV7.out.far (p := ⟨X, 0, none⟩) (Nat.ne_of_lt hVX) (.slice A8 (k + 1) c8))
      have HRR8 := hide (HRR7.out.far (p := ⟨X, 0, none⟩) (Nat.ne_of_lt hRX) (.slice A8 (k + 1) c8))
      have HB8 := hide (HBW7.out.setCell (p := ⟨X, 0, none⟩) (Nat.le_of_lt hVX) (.slice A8 (k + 1) c8))
      have x0 := hX7.cell 0
      have x1 := hX7.cell 1
      have xf0 := hX7.frozen 0
      simp only [List.getElem?_toArray, List.getElem?_cons_zero, List.getElem?_cons_succ] at x0 x1
      have hxl8 := hX7.lt
      clear o8 g8 k8 hgrow hq7 hqs7 hX7 HX7 HV7 HRR7 HY7 HBW7 HSEC HW7 HO6 HY6 HV6 HRR6 HBW6 HX6 HSS6 u0 u1 u2 u3 u4 u5 s0 s1 s2 s3 s4 s5 sf5
      go_wp2_with fail
      refine ⟨⟨k + 1, qs ++ [⟨p.nm, p.kd, p.al, A2, c2, p.zs, p.sz, A5, c5, p.fs⟩], A8, c8, by omega, by simp [HQ.out.1], by go_num, ?_, HOW.out, HX8.out, HY8.out, HV8.out, HRR8.out, HB8.out⟩, by simp [intOf]; omega⟩
      rw [← HD.out, List.map_append, List.map_append]
      rfl
    · have e : k = ps.length := by omega
      have hqd' : qs.map SV.d = ps.map SV.d := by rw [hqd, List.take_of_length_le (by omega)]
      have HOO := hide (show OwnO wr w.heap.size ⟨Aq, cq, qs, A1, c1, ys⟩ from ⟨ho, hrow⟩)
      have HDD := hide (show OV.d ⟨Aq, cq, qs, A1, c1, ys⟩ = OV.d ⟨A, c, ps, Y, yc, ys⟩ by simp only [OV.d, hqd'])
      have HNE := hide (show ∀ j, oblk ⟨Aq, cq, qs, A1, c1, ys⟩ j → j ≠ R from by
        rintro j ((hj | ⟨x, hx, hj⟩) | hj)
        · exact ho.1.box hrr (by decide) j hj
        · exact (ho.2.1 x hx).box hrr (by decide) (by decide) j hj
        · exact hrow.box hrr (by decide) j hj)
      have HFIN := hide (CObject.ret_object HOO.out HB.out HNE.out (Nat.le_of_lt hVR))
      rw [HDD.out] at HFIN
      have y0 := hrr.cell 0
      have y1 := hrr.cell 1
      have yf0 := hrr.frozen 0
      have yf1 := hrr.frozen 1
      have hrl := hrr.lt
      simp only [List.getElem?_toArray, List.getElem?_cons_zero, List.getElem?_cons_succ] at y0 y1
      have kk := (HRR.out.set 0 (.slice Aq qs.length cq)).set 1 (.slice A1 ys.length c1)
      have k0 := kk.cell 0
      have k1 := kk.cell 1
      simp only [List.setIfInBounds_toArray, List.set_cons_zero, List.set_cons_succ, List.getElem?_toArray, List.getElem?_cons_zero, List.getElem?_cons_succ] at k0 k1
      clear kk ho hx hrow hv hrr hb hqd hqd' e
      subst hql
      go_wp2_with fail
      exact bodyPost_ret (v := OV.v ⟨Aq, cq, qs, A1, c1, ys⟩) (by simp [results, Try.results62, go_sem, OV.v, k0, k1]) rfl HFIN.out
end Go.Proofs.Ytmglgjchemecjaa.CCopyS
/- Whether a fixup uses a symbol: the program's uses. -/
namespace Go.Proofs.Ytmglgjchemecjaa.CUses
set_option maxRecDepth 200000
open Go.ChangeShapes Go.WideShapes Go.ChangeAt Go.RowKit Kit CFixups CSymbols PObj BObj
def useF (j : Int) (f : FD) : Bool := f.2.2.1 == j
def useS (j : Int) (fs : List FD) : Bool := fs.any (useF j)
def used (ss : List SD) (j : Int) : Bool := ss.any fun d => useS j d.fs
theorem predF_any (j : Int) (N : Nat) (z : FD) (w : World) (hN : N < w.heap.size) (hc : w.cell? ⟨N, 0, none⟩ = some (.int .i64 j)) :
    Calls Try.prog 109 #[.agg #[.int .i64 z.1, .int .i64 z.2.1, .int .i64 z.2.2.1, .int .i64 z.2.2.2], .pointer (some ⟨N, 0, none⟩)] w (Ret (.bool (useF j z)) w) := by
  have B0 : Below w.heap.size w (w.alloc (.cells #[.int .i64 z.1, .int .i64 z.2.1, .int .i64 z.2.2.1, .int .i64 z.2.2.2] 77)) := (by repeat (first | exact Below.refl _ _ | with_reducible assumption | (refine Below.drew ?_) | (refine Below.drewN ?_ _) | (refine Below.alloc ?_ (by simp; try omega) _) | (refine Below.setCell ?_ (by simp; try omega) _)))
  have hc1 := (B0.cell (p := ⟨N, 0, none⟩) hN).trans hc
  have HB := hide B0
  clear B0
  unfold useF
  go_enter Try.func109, Try.ntmps109
  go_wp2_with fail
  go_ret
  exact ⟨rfl, HB.out⟩
theorem indexF_any (j : Int) (N : Nat) (A : Option Addr) (ys : List FD) (c : Nat) (w : World) (hr : Rd w w.heap.size A (cellsOf fixupC ys)) (hm : ys.length ≤ maxLen) (hN : N < w.heap.size) (hc : w.cell? ⟨N, 0, none⟩ = some (.int .i64 j)) :
    Calls Try.prog 165 #[.slice A ys.length c, .func (.func 109) #[] #[.pointer (some ⟨N, 0, none⟩)]] w fun e w' => ∃ r : Int, e = .returned (.int .i64 r) ∧ decide (0 ≤ r) = useS j ys ∧ Below w.heap.size w w' := by
  unfold maxLen at hm
  unfold useS
  go_enter Try.func165, Try.ntmps165
  go_wp2
  go_loopw [8] (fun i wr => ∃ k : Nat, k ≤ ys.length ∧ i = .int .i64 k ∧ (ys.take k).any (useF j) = false ∧ Below w.heap.size w wr) (fun i _ => ys.length - (intOf i).toNat)
  case atStart => exact ⟨0, Nat.zero_le _, rfl, rfl, Below.refl _ _⟩
  case round =>
    obtain ⟨k, hk, rfl, hn, hb⟩ := hrel
    have HB := hide hb
    by_cases hlt : k < ys.length
    · obtain ⟨b, off, rfl, hbb, hcc⟩ := (hr.below hb).row fixupC_len (by decide) hlt
      have hc0 := hcc 0 _ rfl
      have hc1 := hcc 1 _ rfl
      have hc2 := hcc 2 _ rfl
      have hc3 := hcc 3 _ rfl
      simp only [Nat.add_zero] at hc0
      have HS := hide (show (ys.take (k + 1)).any (useF j) = useF j ys[k] by rw [take_succ hlt, List.any_append, hn]; simp)
      have HT := hide (show useF j ys[k] = true → ys.any (useF j) = true from fun h => List.any_eq_true.2 ⟨_, List.getElem_mem hlt, h⟩)
      have HP := hide (fun z => predF_any j N z wr (Nat.lt_of_lt_of_le hN hb.size) ((hb.cell (p := ⟨N, 0, none⟩) hN).trans hc))
      clear hr hb hcc hn hc
      generalize ys[k] = z at *
      have hpred := HP.out z
      cases h : useF j z
      · have HS' := hide (HS.out.trans h)
        rw [h] at hpred
        clear HT HS h HP
        go_wp2_with fail
        refine hpred.mono ?_
        rintro e w2 ⟨rfl, b2⟩
        have HB' := hide (HB.out.trans (b2.mono HB.out.size))
        clear b2 hc0 hc1 hc2 hc3
        go_wp2_with fail
        refine ⟨⟨k + 1, by omega, by go_num, HS'.out, HB'.out⟩, by simp [intOf]; omega⟩
      · have HT' := hide (HT.out h)
        rw [h] at hpred
        clear HT HS h HP
        go_wp2_with fail
        refine hpred.mono ?_
        rintro e w2 ⟨rfl, b2⟩
        have HB' := hide (HB.out.trans (b2.mono HB.out.size))
        clear b2 hc0 hc1 hc2 hc3
        go_wp2_with fail
        go_ret
        exact ⟨k, rfl, by rw [HT'.out]; simp, HB'.out⟩
    · have HN := hide (show ys.any (useF j) = false by rw [← hn, List.take_of_length_le (by omega)])
      clear hr hb hn hc
      go_wp2_with fail
      go_ret
      exact ⟨-1, rfl, by rw [HN.out]; rfl, HB.out⟩
theorem containsF_any (j : Int) (N : Nat) (A : Option Addr) (ys : List FD) (c : Nat) (w : World) (hr : Rd w w.heap.size A (cellsOf fixupC ys)) (hm : ys.length ≤ maxLen) (hN : N < w.heap.size) (hc : w.cell? ⟨N, 0, none⟩ = some (.int .i64 j)) :
    Calls Try.prog 108 #[.slice A ys.length c, .func (.func 109) #[] #[.pointer (some ⟨N, 0, none⟩)]] w (Ret (.bool (useS j ys)) w) := by
  have HQ := hide (indexF_any j N A ys c w hr hm hN hc)
  clear hr hm hc
  go_enter Try.func108, Try.ntmps108
  go_wp2_with fail
  refine HQ.out.mono ?_
  rintro e w2 ⟨r, rfl, hr2, b2⟩
  have HR := hide hr2
  have HB := hide b2
  clear hr2 b2
  go_wp2_with fail
  go_ret
  exact ⟨by rw [← HR.out]; rfl, HB.out⟩
theorem predS_any (j : Int) (N : Nat) (p : SV) (w : World) (hr : RdS w w.heap.size p) (hm : p.fs.length ≤ maxLen) (hN : N < w.heap.size) (hc : w.cell? ⟨N, 0, none⟩ = some (.int .i64 j)) :
    Calls Try.prog 107 #[.agg #[.string p.nm, .int .i64 p.kd, .int .i64 p.al, .slice p.A p.zs.length p.c, .int .i64 p.sz, .slice p.F p.fs.length p.fc], .pointer (some ⟨N, 0, none⟩)] w (Ret (.bool (useS j p.fs)) w) := by
  have B0 : Below w.heap.size w (w.alloc (.cells #[.string p.nm, .int .i64 p.kd, .int .i64 p.al, .slice p.A p.zs.length p.c, .int .i64 p.sz, .slice p.F p.fs.length p.fc] 73)) := (by repeat (first | exact Below.refl _ _ | with_reducible assumption | (refine Below.drew ?_) | (refine Below.drewN ?_ _) | (refine Below.alloc ?_ (by simp; try omega) _) | (refine Below.setCell ?_ (by simp; try omega) _)))
  have hc1 := (B0.cell (p := ⟨N, 0, none⟩) hN).trans hc
  have HQ := hide (containsF_any j N p.F p.fs p.fc _ ((hr.2.below B0).more B0.size) hm (Nat.lt_of_lt_of_le hN B0.size) hc1)
  have HB := hide B0
  clear B0 hr hm hc hc1
  go_enter Try.func107, Try.ntmps107
  go_wp2_with fail
  refine HQ.out.mono ?_
  rintro e w2 ⟨rfl, b2⟩
  have HB2 := hide (HB.out.trans (b2.mono HB.out.size))
  clear b2
  go_wp2_with fail
  go_ret
  exact ⟨rfl, HB2.out⟩
theorem indexS_any (j : Int) (N : Nat) (A : Option Addr) (ps : List SV) (c : Nat) (w : World) (hr : RdSs w w.heap.size A ps) (hm : ps.length ≤ maxLen) (hf : ∀ p ∈ ps, p.fs.length ≤ maxLen) (hN : N < w.heap.size) (hc : w.cell? ⟨N, 0, none⟩ = some (.int .i64 j)) :
    Calls Try.prog 164 #[.slice A ps.length c, .func (.func 107) #[] #[.pointer (some ⟨N, 0, none⟩)]] w fun e w' => ∃ r : Int, e = .returned (.int .i64 r) ∧ decide (0 ≤ r) = used (ps.map SV.d) j ∧ Below w.heap.size w w' := by
  unfold maxLen at hm
  have hu : used (ps.map SV.d) j = ps.any (fun p => useS j p.fs) := by
    unfold used
    rw [List.any_map]
    rfl
  rw [hu]
  clear hu
  go_enter Try.func164, Try.ntmps164
  go_wp2
  go_loopw [8] (fun i wr => ∃ k : Nat, k ≤ ps.length ∧ i = .int .i64 k ∧ (ps.take k).any (fun p => useS j p.fs) = false ∧ Below w.heap.size w wr) (fun i _ => ps.length - (intOf i).toNat)
  case atStart => exact ⟨0, Nat.zero_le _, rfl, rfl, Below.refl _ _⟩
  case round =>
    obtain ⟨k, hk, rfl, hn, hb⟩ := hrel
    have HB := hide hb
    by_cases hlt : k < ps.length
    · obtain ⟨b, off, rfl, hbb, hcc⟩ := (hr.1.below hb).row secC_len (by decide) hlt
      have hc0 := hcc 0 _ rfl
      have hc1 := hcc 1 _ rfl
      have hc2 := hcc 2 _ rfl
      have hc3 := hcc 3 _ rfl
      have hc4 := hcc 4 _ rfl
      have hc5 := hcc 5 _ rfl
      simp only [Nat.add_zero] at hc0
      have HS := hide (show (ps.take (k + 1)).any (fun p => useS j p.fs) = useS j ps[k].fs by rw [take_succ hlt, List.any_append, hn]; simp)
      have HT := hide (show useS j ps[k].fs = true → ps.any (fun p => useS j p.fs) = true from fun h => List.any_eq_true.2 ⟨_, List.getElem_mem hlt, h⟩)
      have HP := hide (predS_any j N ps[k] wr (((hr.2 _ (List.getElem_mem hlt)).below hb).more hb.size) (hf _ (List.getElem_mem hlt)) (Nat.lt_of_lt_of_le hN hb.size) ((hb.cell (p := ⟨N, 0, none⟩) hN).trans hc))
      clear hr hb hcc hn hc hf
      generalize ps[k] = z at *
      have hpred := HP.out
      cases h : useS j z.fs
      · have HS' := hide (HS.out.trans h)
        rw [h] at hpred
        clear HT HS h HP
        go_wp2_with fail
        refine hpred.mono ?_
        rintro e w2 ⟨rfl, b2⟩
        have HB' := hide (HB.out.trans (b2.mono HB.out.size))
        clear b2 hc0 hc1 hc2 hc3 hc4 hc5
        go_wp2_with fail
        refine ⟨⟨k + 1, by omega, by go_num, HS'.out, HB'.out⟩, by simp [intOf]; omega⟩
      · have HT' := hide (HT.out h)
        rw [h] at hpred
        clear HT HS h HP
        go_wp2_with fail
        refine hpred.mono ?_
        rintro e w2 ⟨rfl, b2⟩
        have HB' := hide (HB.out.trans (b2.mono HB.out.size))
        clear b2 hc0 hc1 hc2 hc3 hc4 hc5
        go_wp2_with fail
        go_ret
        exact ⟨k, rfl, by rw [HT'.out]; simp, HB'.out⟩
    · have HN := hide (show ps.any (fun p => useS j p.fs) = false by rw [← hn, List.take_of_length_le (by omega)])
      clear hr hb hn hc hf
      go_wp2_with fail
      go_ret
      exact ⟨-1, rfl, by rw [HN.out]; rfl, HB.out⟩
theorem containsS_any (j : Int) (N : Nat) (A : Option Addr) (ps : List SV) (c : Nat) (w : World) (hr : RdSs w w.heap.size A ps) (hm : ps.length ≤ maxLen) (hf : ∀ p ∈ ps, p.fs.length ≤ maxLen) (hN : N < w.heap.size) (hc : w.cell? ⟨N, 0, none⟩ = some (.int .i64 j)) :
    Calls Try.prog 106 #[.slice A ps.length c, .func (.func 107) #[] #[.pointer (some ⟨N, 0, none⟩)]] w (Ret (.bool (used (ps.map SV.d) j)) w) := by
  have HQ := hide (indexS_any j N A ps c w hr hm hf hN hc)
  clear hr hm hc hf
  go_enter Try.func106, Try.ntmps106
  go_wp2_with fail
  refine HQ.out.mono ?_
  rintro e w2 ⟨r, rfl, hr2, b2⟩
  have HR := hide hr2
  have HB := hide b2
  clear hr2 b2
  go_wp2_with fail
  go_ret
  exact ⟨by rw [← HR.out]; rfl, HB.out⟩
theorem uses_any (o : OV) (j : Int) (w : World) (hr : RdO w w.heap.size o) (hm : o.ps.length ≤ maxLen) (hf : ∀ p ∈ o.ps, p.fs.length ≤ maxLen) :
    Calls Try.prog 42 #[.agg #[.slice o.A o.ps.length o.c, .slice o.Y o.ys.length o.yc], .int .i64 j] w (Ret (.bool (used o.d.ss j)) w) := by
  obtain ⟨A, c, ps, Y, yc, ys⟩ := o
  simp only [OV.d] at hm hf ⊢
  have B0 : Below w.heap.size w ((w.alloc (.cells #[.slice A ps.length c, .slice Y ys.length yc] 26)).alloc (.cells #[.int .i64 j] 3)) := (by repeat (first | exact Below.refl _ _ | with_reducible assumption | (refine Below.drew ?_) | (refine Below.drewN ?_ _) | (refine Below.alloc ?_ (by simp; try omega) _) | (refine Below.setCell ?_ (by simp; try omega) _)))
  have N0 := Box.new (w.alloc (.cells #[.slice A ps.length c, .slice Y ys.length yc] 26)) 3 #[.int .i64 j]
  simp only [World.size_alloc] at N0
  have hn0 := N0.cell 0
  simp only [List.getElem?_toArray, List.getElem?_cons_zero] at hn0
  have HQ := hide (containsS_any j (w.heap.size + 1) A ps c _ ((hr.1.below B0).more B0.size) hm hf N0.lt hn0)
  have HB := hide B0
  clear B0 hr hm hf hn0 N0
  go_enter Try.func42, Try.ntmps42
  go_wp2_with fail
  refine HQ.out.mono ?_
  rintro e w2 ⟨rfl, b2⟩
  have HB2 := hide (HB.out.trans (b2.mono HB.out.size))
  clear b2
  go_wp2_with fail
  go_ret
  exact ⟨rfl, HB2.out⟩
end Go.Proofs.Ytmglgjchemecjaa.CUses
/- Contracts of the laws' helpers on Warning: the copy, the comparison of equal data, the marks. Written by a program. -/
namespace Go.Proofs.Ytmglgjchemecjaa.CWarnings
set_option maxRecDepth 200000
open Go.ChangeShapes Go.WideShapes Go.ChangeAt Go.RowKit Kit
theorem info : (Try.prog.info? 31).map (fun i => (i.zero, i.size, i.bytes)) = some (some (.agg #[.int .i64 0, .int .i64 0]), 2, 16) := by kernel_rfl
abbrev D := Int × Int
def warningC (r : D) : List Value := [.int .i64 r.1, .int .i64 r.2]
theorem warningC_len (r : D) : (warningC r).length = 2 := rfl
theorem eqWarning_same (x : D) (w : World) : Calls Try.prog 57 #[.agg #[.int .i64 x.1, .int .i64 x.2], .agg #[.int .i64 x.1, .int .i64 x.2]] w (Ret (.bool true) w) := by
  go_enter Try.func57, Try.ntmps57
  go_wp2
  go_ret
  exact ⟨rfl, (by repeat (first | exact Below.refl _ _ | with_reducible assumption | (refine Below.drew ?_) | (refine Below.drewN ?_ _) | (refine Below.alloc ?_ (by simp; try omega) _) | (refine Below.setCell ?_ (by simp; try omega) _)))⟩
set_option maxRecDepth 20000 in
theorem eqWarningS_same (A A' : Option Addr) (xs : List D) (c c' : Nat) (w : World) (hr : Rd w w.heap.size A (cellsOf warningC xs)) (hr' : Rd w w.heap.size A' (cellsOf warningC xs)) (hm : xs.length ≤ maxLen) :
    Calls Try.prog 18 #[.slice A xs.length c, .slice A' xs.length c'] w (Ret (.bool true) w) := by
  unfold maxLen at hm
  have h0 : (((xs.length : Nat) : Int) != (xs.length : Nat)) = false := by simp
  go_enter Try.func18, Try.ntmps18
  go_wp2
  clear h0
  go_loopw [5] (fun i wr => ∃ k : Nat, k ≤ xs.length ∧ i = .int .i64 k ∧ Below w.heap.size w wr) (fun i _ => xs.length - (intOf i).toNat)
  case atStart => exact ⟨0, Nat.zero_le _, rfl, Below.refl _ _⟩
  case round =>
    obtain ⟨k, hk, rfl, hb⟩ := hrel
    have HB := hide hb
    by_cases hlt : k < xs.length
    · obtain ⟨b, off, rfl, _, hc⟩ := (hr.below hb).row warningC_len (by decide) hlt
      obtain ⟨b', off', rfl, _, hd⟩ := (hr'.below hb).row warningC_len (by decide) hlt
      have hc0 := hc 0 _ rfl
      have hd0 := hd 0 _ rfl
      have hc1 := hc 1 _ rfl
      have hd1 := hd 1 _ rfl
      simp only [Nat.add_zero] at hc0 hd0
      clear hr hr' hc hd hb
      generalize xs[k] = x at *
      go_wp2_with fail
      go_still_tail 8, (by kernel_rfl)
      change wpList _ _ _ _ _ wr.drew
      clear hc0 hd0 hc1 hd1
      go_wp2_with fail
      refine (eqWarning_same _ _).mono ?_
      rintro e w2 ⟨rfl, hb2⟩
      have HB' := hide (HB.out.trans ((of_drew hb2).mono HB.out.size))
      clear hb2
      go_wp2_with fail
      go_roundw
      case rel => exact ⟨k + 1, by omega, by go_num, HB'.out⟩
      case measure => simp [intOf]; omega
    · clear hr hr'
      go_wp2_with fail
      go_ret
      exact ⟨rfl, HB.out⟩

def marks (k0 : Int) (m : Nat) : List D := (List.range m).map fun (i : Nat) => (k0 + 2 * (i : Int), k0 + 2 * (i : Int) + 1)
theorem marks_len (k0 : Int) (m : Nat) : (marks k0 m).length = m := by simp [marks]
theorem marks_at (k0 : Int) (m i : Nat) (h : i < m) : (marks k0 m)[i]'(by rw [marks_len]; exact h) = (k0 + 2 * (i : Int), k0 + 2 * (i : Int) + 1) := by simp [marks]
theorem marks_succ (k0 : Int) (i : Nat) : marks k0 (i + 1) = marks k0 i ++ [(k0 + 2 * (i : Int), k0 + 2 * (i : Int) + 1)] := by simp [marks, List.range_succ]
theorem mark_any (base : Nat) (A : Option Addr) (c m : Nat) (cs : List Value) (k0 : Int) (w : World) (h0 : 0 ≤ k0) (hk0 : k0 ≤ 4294967296) (hm : m ≤ 4294967296)
    (hown : w.ownsRow base 31 2 (.slice A m c) m cs) :
    Calls Try.prog 21 #[.slice A m c, .int .i64 k0] w fun e w' => e = .returned (.int .i64 (k0 + 2 * m)) ∧ w'.ownsRow base 31 2 (.slice A m c) m (cellsOf warningC (marks k0 m)) ∧ w.grownBy w' (Value.slice A m c).ownBlock := by
  go_enter Try.func21, Try.ntmps21
  go_wp2
  have hg0 := World.grownBy.refl w (Value.slice A m c).ownBlock
  go_loopw [1, 5] (fun k i wr => ∃ j : Nat, j ≤ m ∧ i = .int .i64 j ∧ k = .int .i64 (k0 + 2 * j) ∧ (∃ xs, wr.ownsRow base 31 2 (.slice A m c) m (cellsOf warningC (marks k0 j) ++ xs)) ∧ w.grownBy wr (Value.slice A m c).ownBlock) (fun _ i _ => m - (intOf i).toNat)
  case atStart => exact ⟨0, Nat.zero_le _, rfl, by simp, ⟨cs, by simpa [marks, cellsOf] using hown⟩, hg0⟩
  case round =>
    obtain ⟨j, hj, rfl, rfl, ⟨xs, ho⟩, hg⟩ := hrel
    clear hown hg0
    by_cases hlt : j < m
    · have hform : ∃ g, A = some ⟨g, 0, none⟩ := by
        rcases ho.2 with ⟨hv, h0⟩ | ⟨g, cap, cur, hv, _⟩
        · omega
        · injection hv with hA
          exact ⟨g, hA⟩
      obtain ⟨g, rfl⟩ := hform
      obtain ⟨⟨old0, hk0⟩, hfz0⟩ := own_old ho (j := j * 2) (by omega)
      obtain ⟨⟨old1, hk1⟩, hfz1⟩ := own_old ho (j := j * 2 + 1) (by omega)
      have hpl : (cellsOf warningC (marks k0 j)).length = j * 2 := by rw [cellsOf_len warningC_len, marks_len]
      have ho1 := own_put ho hpl (by omega) (.int .i64 (k0 + 2 * (j : Int)))
      have hg1 := grown_put (u := .int .i64 (k0 + 2 * (j : Int))) (j := j * 2) hg
      have ho2 := own_put ho1 (j := j * 2 + 1) (by simp only [List.length_append, hpl]; rfl) (by omega) (.int .i64 (k0 + 2 * (j : Int) + 1))
      have hg2 := grown_put (u := .int .i64 (k0 + 2 * (j : Int) + 1)) (j := j * 2 + 1) hg1
      have HH := hide (And.intro ho2 hg2)
      have E1 := hide (show k0 + 2 * (j : Int) + 1 + 1 = k0 + 2 * ((j + 1 : Nat) : Int) by omega)
      clear ho1 hg1 ho2 hg2 ho hg hpl
      go_wp2
      refine ⟨⟨j + 1, by omega, by go_num, by rw [E1.out], ⟨xs.tail.tail, ?_⟩, HH.out.2⟩, by simp [intOf]; omega⟩
      rw [marks_succ]
      simpa [cellsOf, warningC] using HH.out.1
    · have e : j = m := by omega
      subst e
      have hxs : xs = [] := by
        have := ho.1
        rw [List.length_append, cellsOf_len warningC_len, marks_len] at this
        exact List.eq_nil_of_length_eq_zero (by omega)
      subst hxs
      rw [List.append_nil] at ho
      go_wp2
      go_ret
      exact ⟨rfl, ho, hg⟩
theorem held_any (B : Nat) (A : Option Addr) (c m : Nat) (k0 : Int) (w : World) (h0 : 0 ≤ k0) (hk0 : k0 ≤ 4294967296) (hm : m ≤ 4294967296) (hr : Rd w B A (cellsOf warningC (marks k0 m))) :
    Calls Try.prog 22 #[.slice A m c, .int .i64 k0] w (Pure (.int .i64 (k0 + 2 * m)) w) := by
  go_enter Try.func22, Try.ntmps22
  go_wp2
  go_loop [1, 5] (fun k i => ∃ j : Nat, j ≤ m ∧ i = .int .i64 j ∧ k = .int .i64 (k0 + 2 * j)) (fun _ i => m - (intOf i).toNat)
  case atStart => exact ⟨0, Nat.zero_le _, rfl, by simp⟩
  case round =>
    obtain ⟨j, hj, rfl, rfl⟩ := hrel
    by_cases hlt : j < m
    · obtain ⟨b, off, rfl, _, hc⟩ := hr.row warningC_len (by decide) (k := j) (by rw [marks_len]; exact hlt)
      rw [marks_at _ _ _ hlt] at hc
      have hc0 := hc 0 _ rfl
      have hc1 := hc 1 _ rfl
      simp only [Nat.add_zero] at hc0
      have E1 := hide (show k0 + 2 * (j : Int) + 1 + 1 = k0 + 2 * ((j + 1 : Nat) : Int) by omega)
      clear hr hc
      go_wp2
      go_round
      case rel => exact ⟨j + 1, by omega, by go_num, by rw [E1.out]⟩
      case measure => simp [intOf]; omega
    · have e : j = m := by omega
      subst e
      clear hr
      go_wp2
      go_ret
      exact ⟨rfl, rfl⟩
end Go.Proofs.Ytmglgjchemecjaa.CWarnings
/- The reference's l9Used; the program's covers. -/
namespace Go.Proofs.Ytmglgjchemecjaa.CCovers
set_option maxRecDepth 200000
open Go.ChangeShapes Go.WideShapes Go.ChangeAt Go.RowKit Kit CCode CFixups CSymbols PObj BObj PValid CSecValid CUses
theorem l9Used_any (o : OV) (n : Int) (w : World) (hr : RdO w w.heap.size o) (hm : o.ps.length ≤ maxLen) (hf : ∀ p ∈ o.ps, p.fs.length ≤ maxLen) :
    Calls Try.prog 45 #[.agg #[.slice o.A o.ps.length o.c, .slice o.Y o.ys.length o.yc], .int .i64 n] w (Ret (.bool (used o.d.ss n)) w) := by
  obtain ⟨A, c, ps, Y, yc, ys⟩ := o
  have hu : used (OV.d ⟨A, c, ps, Y, yc, ys⟩).ss n = ps.any (fun p => useS n p.fs) := by
    unfold used OV.d
    rw [List.any_map]
    rfl
  rw [hu]
  clear hu
  simp only at hm hf ⊢
  unfold maxLen at hm
  have HR := hide hr.1
  have HF := hide hf
  have B0 : Below w.heap.size w (w.alloc (.cells #[.slice A ps.length c, .slice Y ys.length yc] 26)) := (by repeat (first | exact Below.refl _ _ | with_reducible assumption | (refine Below.drew ?_) | (refine Below.drewN ?_ _) | (refine Below.alloc ?_ (by simp; try omega) _) | (refine Below.setCell ?_ (by simp; try omega) _)))
  have X0 := Box.new w 26 #[.slice A ps.length c, .slice Y ys.length yc]
  have HB := hide B0
  clear B0 hr hf
  go_enter Try.func45, Try.ntmps45
  go_wp2_with fail
  generalize w.alloc (.cells #[.slice A ps.length c, .slice Y ys.length yc] 26) = w0 at *
  go_loopw [5] (fun i wi => ∃ k : Nat, k ≤ ps.length ∧ i = .int .i64 k ∧ (ps.take k).any (fun p => useS n p.fs) = false ∧ Box wi w.heap.size 26 #[.slice A ps.length c, .slice Y ys.length yc] ∧ Below w.heap.size w wi) (fun i _ => ps.length - (intOf i).toNat)
  case atStart => exact ⟨0, Nat.zero_le _, rfl, rfl, X0, HB.out⟩
  case round =>
    obtain ⟨k, hk, rfl, hno, hx, hb⟩ := hrel
    have HX := hide hx
    have HBI := hide hb
    have x0 := hx.cell 0
    simp only [List.getElem?_toArray, List.getElem?_cons_zero, List.getElem?_cons_succ] at x0
    have hxl := hx.lt
    clear X0 HB
    by_cases hlt : k < ps.length
    · have HN := hide hno
      have HS := hide (show useS n ps[k].fs = false → (ps.take (k + 1)).any (fun p => useS n p.fs) = false from fun h => by rw [take_succ hlt, List.any_append, hno]; simp [h])
      have HT := hide (show useS n ps[k].fs = true → ps.any (fun p => useS n p.fs) = true from fun h => List.any_eq_true.2 ⟨_, List.getElem_mem hlt, h⟩)
      have hrow := (HR.out.1.below hb).row secC_len (by decide) hlt
      have HRF := hide (HR.out.2 _ (List.getElem_mem hlt)).2
      have hfl := HF.out _ (List.getElem_mem hlt)
      have HROW := hide (fun (V : World) (hV : Below w.heap.size w V) => (HR.out.1.below hV).row secC_len (by decide) hlt)
      obtain ⟨b, off, hA, hbg, hc⟩ := hrow
      subst hA
      clear hno hx hb hc
      unfold maxLen at hfl
      generalize hpk : ps[k] = p at *
      go_wp2_with fail
      go_loopw [6] (fun jj wi => ∃ j : Nat, j ≤ p.fs.length ∧ jj = .int .i64 j ∧ (p.fs.take j).any (useF n) = false ∧ Box wi w.heap.size 26 #[.slice (some ⟨b, off, none⟩) ps.length c, .slice Y ys.length yc] ∧ Below w.heap.size w wi) (fun jj _ => p.fs.length - (intOf jj).toNat)
      case atStart => exact ⟨0, Nat.zero_le _, rfl, rfl, HX.out, HBI.out⟩
      case round =>
        clear HX HBI x0 hxl
        obtain ⟨j, hj, rfl, hno, hx, hb⟩ := hrel
        have HX := hide hx
        have HBI := hide hb
        have x0 := hx.cell 0
        simp only [List.getElem?_toArray, List.getElem?_cons_zero, List.getElem?_cons_succ] at x0
        obtain ⟨b', off', hA', hbg', hc⟩ := HROW.out wr hb
        simp only [Option.some.injEq, Addr.mk.injEq, and_true] at hA'
        obtain ⟨rfl, rfl⟩ := hA'
        have hc5 := hc 5 _ rfl
        by_cases hjl : j < p.fs.length
        · obtain ⟨b2, off2, hF, hbg2, hcf⟩ := (HRF.out.below hb).row fixupC_len (by decide) hjl
          have hf2 := hcf 2 _ rfl
          have HS2 := hide (show useF n p.fs[j] = false → (p.fs.take (j + 1)).any (useF n) = false from fun h => by rw [take_succ hjl, List.any_append, hno]; simp [h])
          have HT2 := hide (show useF n p.fs[j] = true → useS n p.fs = true from fun h => List.any_eq_true.2 ⟨_, List.getElem_mem hjl, h⟩)
          rw [hF] at hc5
          clear hno hx hb hc hcf
          unfold useF at HS2 HT2
          generalize p.fs[j] = f at *
          cases hq : (f.2.2.1 == n)
          · have HS' := hide (HS2.out hq)
            clear HS2 HT2
            go_wp2_with fail
            refine ⟨⟨j + 1, by omega, by go_num, HS'.out, HX.out, HBI.out⟩, by simp [intOf]; omega⟩
          · have HV := hide (HT.out (HT2.out hq))
            clear HS2 HT2 HT HS
            go_wp2_with fail
            go_ret
            exact ⟨by rw [HV.out]; rfl, HBI.out⟩
        · have HS' := hide (HS.out (show p.fs.any (useF n) = false by rw [← hno, List.take_of_length_le (by omega)]))
          clear HS HT hno hx hb hc
          go_wp2_with fail
          refine ⟨⟨k + 1, by omega, by go_num, HS'.out, HX.out, HBI.out⟩, by simp [intOf]; omega⟩
    · have HV := hide (show ps.any (fun p => useS n p.fs) = false by rw [← hno, List.take_of_length_le (by omega)])
      clear hno hx hb
      go_wp2_with fail
      go_ret
      exact ⟨by rw [HV.out]; rfl, HBI.out⟩
/-- Whether a fixup fills a byte that is not 0. -/
def fills (zs : List Int) (f : FD) : List Int := (zs.drop f.1.toNat).take (wide f.2.1).toNat
def coverF (zs : List Int) (f : FD) : Bool := (fills zs f).any fun x => x != 0
def coverB (d : SD) : Bool := d.fs.any (coverF d.zs)
/-- All fixups lie in the bytes. -/
def InB (zs : List Int) (fs : List FD) : Prop := ∀ f ∈ fs, 0 ≤ f.1 ∧ f.1 + wide f.2.1 ≤ zs.length
theorem covers_any (p : SV) (w : World) (hr : RdS w w.heap.size p) (hz : p.zs.length ≤ 1048576) (hf : p.fs.length ≤ 1048576) (hcp : p.zs.length ≤ p.c) (hin : InB p.zs p.fs) :
    Calls Try.prog 44 #[.agg #[.string p.nm, .int .i64 p.kd, .int .i64 p.al, .slice p.A p.zs.length p.c, .int .i64 p.sz, .slice p.F p.fs.length p.fc]] w (Ret (.bool (coverB p.d)) w) := by
  obtain ⟨nm, kd, al, A, c, zs, sz, F, fc, fs⟩ := p
  have hcb : coverB (SV.d ⟨nm, kd, al, A, c, zs, sz, F, fc, fs⟩) = fs.any (coverF zs) := rfl
  rw [hcb]
  clear hcb
  simp only at hz hf hcp hin ⊢
  have HR := hide hr
  have HI := hide hin
  have B0 : Below w.heap.size w (w.alloc (.cells #[.string nm, .int .i64 kd, .int .i64 al, .slice A zs.length c, .int .i64 sz, .slice F fs.length fc] 73)) := (by repeat (first | exact Below.refl _ _ | with_reducible assumption | (refine Below.drew ?_) | (refine Below.drewN ?_ _) | (refine Below.alloc ?_ (by simp; try omega) _) | (refine Below.setCell ?_ (by simp; try omega) _)))
  have X0 := Box.new w 73 #[.string nm, .int .i64 kd, .int .i64 al, .slice A zs.length c, .int .i64 sz, .slice F fs.length fc]
  have HB := hide B0
  clear B0 hr hin
  go_enter Try.func44, Try.ntmps44
  go_wp2_with fail
  generalize w.alloc (.cells #[.string nm, .int .i64 kd, .int .i64 al, .slice A zs.length c, .int .i64 sz, .slice F fs.length fc] 73) = w0 at *
  go_loopw [10] (fun i wi => ∃ k : Nat, k ≤ fs.length ∧ i = .int .i64 k ∧ (fs.take k).any (coverF zs) = false ∧ Box wi w.heap.size 73 #[.string nm, .int .i64 kd, .int .i64 al, .slice A zs.length c, .int .i64 sz, .slice F fs.length fc] ∧ Below w.heap.size w wi) (fun i _ => fs.length - (intOf i).toNat)
  case atStart => exact ⟨0, Nat.zero_le _, rfl, rfl, X0, HB.out⟩
  case round =>
    obtain ⟨k, hk, rfl, hno, hx, hb⟩ := hrel
    have HX := hide hx
    have HBI := hide hb
    have hxl := hx.lt
    clear X0 HB
    by_cases hlt : k < fs.length
    · have HS := hide (show coverF zs fs[k] = false → (fs.take (k + 1)).any (coverF zs) = false from fun h => by rw [take_succ hlt, List.any_append, hno]; simp [h])
      have HT := hide (show coverF zs fs[k] = true → fs.any (coverF zs) = true from fun h => List.any_eq_true.2 ⟨_, List.getElem_mem hlt, h⟩)
      obtain ⟨b, off, hF, hbg, hc⟩ := (HR.out.2.below hb).row fixupC_len (by decide) hlt
      subst hF
      have hc0 := hc 0 _ rfl
      have hc1 := hc 1 _ rfl
      have hc2 := hc 2 _ rfl
      have hc3 := hc 3 _ rfl
      simp only [Nat.add_zero] at hc0
      have hi := HI.out _ (List.getElem_mem hlt)
      clear hno hx hb hc
      generalize fs[k] = f at *
      obtain ⟨f0, f1, f2, f3⟩ := f
      simp only at hc0 hc1 hc2 hc3 hi
      obtain ⟨i0, hi1⟩ := hi
      have hwd := wide_bd f1
      obtain ⟨a, rfl⟩ := Int.eq_ofNat_of_zero_le i0
      go_wp2_with fail
      have B1 : Below wr.heap.size wr (wr.alloc (.cells #[.int .i64 a, .int .i64 f1, .int .i64 f2, .int .i64 f3] 77)) := (by repeat (first | exact Below.refl _ _ | with_reducible assumption | (refine Below.drew ?_) | (refine Below.drewN ?_ _) | (refine Below.alloc ?_ (by simp; try omega) _) | (refine Below.setCell ?_ (by simp; try omega) _)))
      have HX1 := hide (HX.out.call B1)
      have HZ1 := hide (Box.new wr 77 #[.int .i64 a, .int .i64 f1, .int .i64 f2, .int .i64 f3])
      have HB1 := hide (HBI.out.trans (B1.mono HBI.out.size))
      clear B1 HX HBI hc0 hc1 hc2 hc3
      generalize wr.alloc (.cells #[.int .i64 a, .int .i64 f1, .int .i64 f2, .int .i64 f3] 77) = w1 at *
      generalize wr.heap.size = Z at *
      have z0 := HZ1.out.cell 0
      have z1 := HZ1.out.cell 1
      have x3 := HX1.out.cell 3
      simp only [List.getElem?_toArray, List.getElem?_cons_zero, List.getElem?_cons_succ] at z0 z1 x3
      have hzl := HZ1.out.lt
      have hxl1 := HX1.out.lt
      obtain ⟨wd, hwd'⟩ := Int.eq_ofNat_of_zero_le hwd.1
      have HWD := hide hwd'
      have HFW := hide (fun V => fixupWide_any f1 V)
      rw [hwd'] at HFW hi1
      clear hwd hwd'
      have hsum : a + wd ≤ zs.length := by omega
      have hw1 : IntKind.i64.wrap ((a : Int) + wd) = (a : Int) + wd := IntWalk.i64_in _ (by omega)
      have HFL := hide (show fills zs ((a : Int), f1, f2, f3) = (zs.drop a).take wd by unfold fills; simp only [HWD.out, Int.toNat_natCast])
      by_cases h0 : wd = 0
      · have HC := hide (HS.out (by unfold coverF; rw [HFL.out, h0]; rfl))
        have HW0 := hide h0
        clear HS HT HFL HWD h0
        cases A with
        | none =>
          go_quiet ((go_at_call 49; exact Pure.quiet (HFW.out _)))
          rw [HW0.out, show ((0 : Nat) : Int) = 0 from rfl]
          go_wp2_with fail
          go_loopw [26] (fun i wi => i = .int .i64 0 ∧ Box wi w.heap.size 73 #[.string nm, .int .i64 kd, .int .i64 al, .slice none zs.length c, .int .i64 sz, .slice (some ⟨b, off, none⟩) fs.length fc] ∧ Below w.heap.size w wi) (fun i _ => 0)
          case atStart => exact ⟨rfl, HX1.out.drewN _, Kit.Below.drewN HB1.out _⟩
          case round =>
            obtain ⟨rfl, hx, hb⟩ := hrel
            have HX2 := hide hx
            have HB2 := hide hb
            clear hx hb x3 z0 z1
            go_wp2_with fail
            refine ⟨⟨k + 1, by omega, by go_num, HC.out, HX2.out, HB2.out⟩, by simp [intOf]; omega⟩
        | some ad =>
          go_quiet ((go_at_call 49; exact Pure.quiet (HFW.out _)))
          rw [HW0.out, show ((0 : Nat) : Int) = 0 from rfl]
          generalize (if c = a then some ad else some (ad.add a)) = AX
          go_wp2_with fail
          go_loopw [26] (fun i wi => i = .int .i64 0 ∧ Box wi w.heap.size 73 #[.string nm, .int .i64 kd, .int .i64 al, .slice (some ad) zs.length c, .int .i64 sz, .slice (some ⟨b, off, none⟩) fs.length fc] ∧ Below w.heap.size w wi) (fun i _ => 0)
          case atStart => exact ⟨rfl, HX1.out.drewN _, Kit.Below.drewN HB1.out _⟩
          case round =>
            obtain ⟨rfl, hx, hb⟩ := hrel
            have HX2 := hide hx
            have HB2 := hide hb
            clear hx hb x3 z0 z1
            go_wp2_with fail
            refine ⟨⟨k + 1, by omega, by go_num, HC.out, HX2.out, HB2.out⟩, by simp [intOf]; omega⟩
      · have hai : a < zs.length := by omega
        obtain ⟨bA, oA, hA, hbA, _⟩ := (HR.out.1.below HB1.out).int hai
        subst hA
        have hca : ¬ c = a := by omega
        have e0 : a + wd - a = wd := by omega
        go_quiet ((go_at_call 49; exact Pure.quiet (HFW.out _)))
        rw [e0]
        have HX2 := hide (HX1.out.drewN nq)
        have HB2 := hide (Kit.Below.drewN HB1.out nq)
        clear HX1 HB1 x3 z0 z1 hzl hxl1 HZ1
        generalize w1.drewN nq = w2 at *
        go_wp2_with fail
        go_loopw [26] (fun i wi => ∃ j : Nat, j ≤ wd ∧ i = .int .i64 j ∧ (((zs.drop a).take j).any fun x => x != 0) = false ∧ Box wi w.heap.size 73 #[.string nm, .int .i64 kd, .int .i64 al, .slice (some ⟨bA, oA, none⟩) zs.length c, .int .i64 sz, .slice (some ⟨b, off, none⟩) fs.length fc] ∧ Below w.heap.size w wi) (fun i _ => wd - (intOf i).toNat)
        case atStart => exact ⟨0, Nat.zero_le _, rfl, rfl, HX2.out, HB2.out⟩
        case round =>
          obtain ⟨j, hj, rfl, hnz, hx, hb⟩ := hrel
          have HX3 := hide hx
          have HB3 := hide hb
          clear HX2 HB2
          by_cases hjl : j < wd
          · have haj : a + j < zs.length := by omega
            obtain ⟨b', o', hA', _, hcz⟩ := (HR.out.1.below hb).int haj
            simp only [Option.some.injEq, Addr.mk.injEq, and_true] at hA'
            obtain ⟨rfl, rfl⟩ := hA'
            rw [← Nat.add_assoc] at hcz
            have hdl : j < (zs.drop a).length := by rw [List.length_drop]; omega
            have hge : (zs.drop a)[j] = zs[a + j] := List.getElem_drop ..
            have HS2 := hide (show zs[a + j] = 0 → (((zs.drop a).take (j + 1)).any fun x => x != 0) = false from fun h => by
              rw [take_succ hdl, List.any_append, hnz, hge, h]
              rfl)
            have HT2 := hide (show zs[a + j] ≠ 0 → coverF zs ((a : Int), f1, f2, f3) = true from fun h => by
              unfold coverF
              rw [HFL.out]
              refine List.any_eq_true.2 ⟨zs[a + j], ?_, bne_iff_ne.2 h⟩
              rw [List.mem_take_iff_getElem]
              exact ⟨j, by omega, hge⟩)
            clear hnz hx hb hge hdl
            generalize zs[a + j] = z at *
            by_cases hzz : z = 0
            · have HS' := hide (HS2.out hzz)
              have e1 : (z != 0) = false := by rw [hzz]; rfl
              clear HS2 HT2 hzz
              go_wp2_with fail
              refine ⟨⟨j + 1, by omega, by go_num, HS'.out, HX3.out, HB3.out⟩, by simp [intOf]; omega⟩
            · have HV := hide (HT.out (HT2.out hzz))
              have e1 : (z != 0) = true := bne_iff_ne.2 hzz
              clear HS2 HT2 hzz HS HT
              go_wp2_with fail
              go_ret
              exact ⟨by rw [HV.out]; rfl, HB3.out⟩
          · have HC := hide (HS.out (by
              unfold coverF
              rw [HFL.out]
              rw [show wd = j by omega]
              exact hnz))
            clear HS HT hnz hx hb
            go_wp2_with fail
            refine ⟨⟨k + 1, by omega, by go_num, HC.out, HX3.out, HB3.out⟩, by simp [intOf]; omega⟩
    · have HV := hide (show fs.any (coverF zs) = false by rw [← hno, List.take_of_length_le (by omega)])
      clear hno hx hb
      go_wp2_with fail
      go_ret
      exact ⟨by rw [HV.out]; rfl, HBI.out⟩
end Go.Proofs.Ytmglgjchemecjaa.CCovers
