/- The program's ObjectValid. -/
import Derived.Test.YtmglgjchemecjaaCGlobalOf
namespace Go.Proofs.Ytmglgjchemecjaa.CObjValid
set_option maxRecDepth 200000
open Go.ChangeShapes Go.WideShapes Go.ChangeAt Go.RowKit Kit CCode CName CFixups CSymbols PObj BObj PValid CSecValid CSecValid2 CSymValid CGlobalOf
/-- What the walks ask of an object's parts. -/
structure Fit (o : OV) : Prop where
  np : o.ps.length ≤ 1048576
  ny : o.ys.length ≤ 1048576
  cy : o.ys.length ≤ o.yc
  p : ∀ p ∈ o.ps, p.nm.size ≤ maxLen ∧ p.zs.length ≤ 1048576 ∧ p.fs.length ≤ 1048576
  y : ∀ y ∈ o.ys, y.1.size ≤ maxLen
theorem obj_big {d : OD} (h : 8 < d.ss.length ∨ 12 < d.ys.length) : objOk d = false := by
  rw [← Bool.not_eq_true]
  intro ht
  simp only [objOk, Bool.and_eq_true, decide_eq_true_eq] at ht
  omega
theorem obj_sec {d : OD} {p : SD} (hp : p ∈ d.ss) (h : secOk d.ys.length p = false) : objOk d = false := by
  rw [← Bool.not_eq_true]
  intro ht
  simp only [objOk, Bool.and_eq_true, decide_eq_true_eq, List.all_eq_true] at ht
  rw [ht.1.2 p hp] at h
  cases h
def symAt (ss : List SD) (ys : List YD) (k : Nat) (y : YD) : Bool := symOk ss y && !(!decide (y.2.1 = 0) && (ys.take k).any (hit y.1))
theorem getD_at {ys : List YD} {k : Nat} (h : k < ys.length) (d : YD) : ys.getD k d = ys[k] := by
  rw [List.getD_eq_getElem?_getD, List.getElem?_eq_getElem h]
  rfl
theorem obj_sym {d : OD} {k : Nat} (hk : k < d.ys.length) (h : symAt d.ss d.ys k d.ys[k] = false) : objOk d = false := by
  rw [← Bool.not_eq_true]
  intro ht
  simp only [objOk, symsOk, Bool.and_eq_true, List.all_eq_true] at ht
  have h1 := ht.2 k (List.mem_range.2 hk)
  rw [getD_at hk] at h1
  have h2 : symAt d.ss d.ys k d.ys[k] = true := by
    unfold symAt
    rw [h1.1]
    exact h1.2
  rw [h2] at h
  cases h
theorem obj_yes {d : OD} (h1 : d.ss.length ≤ 8) (h2 : d.ys.length ≤ 12) (h3 : ∀ p ∈ d.ss, secOk d.ys.length p = true) (h4 : ∀ k, (h : k < d.ys.length) → symAt d.ss d.ys k d.ys[k] = true) : objOk d = true := by
  simp only [objOk, symsOk, Bool.and_eq_true, decide_eq_true_eq, List.all_eq_true]
  refine ⟨⟨⟨h1, h2⟩, h3⟩, fun k hk => ?_⟩
  have hk' := List.mem_range.1 hk
  have h := h4 k hk'
  rw [getD_at hk']
  unfold symAt at h
  rw [Bool.and_eq_true] at h
  exact ⟨h.1, h.2⟩
theorem _root_.Go.Proofs.Ytmglgjchemecjaa.Kit.Rd.prefix_take {w : World} {B : Nat} {A : Option Addr} {ys : List YD} (h : Rd w B A (cellsOf symbolC ys)) (k : Nat) : Rd w B A (cellsOf symbolC (ys.take k)) := by
  have e : cellsOf symbolC ys = cellsOf symbolC (ys.take k) ++ cellsOf symbolC (ys.drop k) := by
    conv => lhs; rw [← List.take_append_drop k ys]
    simp only [cellsOf, List.flatMap_append]
  intro i u hi
  refine h i u ?_
  rw [e, List.getElem?_append_left (by
    rcases Nat.lt_or_ge i (cellsOf symbolC (ys.take k)).length with h' | h'
    · exact h'
    · rw [List.getElem?_eq_none h'] at hi
      cases hi)]
  exact hi
set_option maxHeartbeats 2000000 in
theorem objectValid_any (o : OV) (w : World) (hr : RdO w w.heap.size o) (hf : Fit o) :
    Calls Try.prog 31 #[.agg #[.slice o.A o.ps.length o.c, .slice o.Y o.ys.length o.yc]] w (Ret (.bool (objOk o.d)) w) := by
  obtain ⟨A, c, ps, Y, yc, ys⟩ := o
  obtain ⟨np, ny, cy, hp, hy⟩ := hf
  simp only [OV.d] at np ny cy hp hy ⊢
  have HR := hide hr
  have HL := hide (And.intro hp hy)
  clear hr hp hy
  have B0 : Below w.heap.size w (w.alloc (.cells #[.slice A ps.length c, .slice Y ys.length yc] 26)) := (by repeat (first | exact Below.refl _ _ | with_reducible assumption | (refine Below.drew ?_) | (refine Below.drewN ?_ _) | (refine Below.alloc ?_ (by simp; try omega) _) | (refine Below.setCell ?_ (by simp; try omega) _)))
  have X0 := Box.new w 26 #[.slice A ps.length c, .slice Y ys.length yc]
  have x0 := X0.cell 0
  have x1 := X0.cell 1
  simp only [List.getElem?_toArray, List.getElem?_cons_zero, List.getElem?_cons_succ] at x0 x1
  have HB := hide B0
  clear B0
  go_enter Try.func31, Try.ntmps31
  by_cases b1 : 8 < ps.length
  · have HV := hide (obj_big (d := ⟨ps.map SV.d, ys⟩) (.inl (by simpa using b1)))
    have e1 : decide ((8 : Int) < ps.length) = true := decide_eq_true (by omega)
    clear b1
    go_wp2_with fail
    go_ret
    exact ⟨by rw [HV.out]; rfl, HB.out⟩
  have e1 : decide ((8 : Int) < ps.length) = false := decide_eq_false (by omega)
  by_cases b2 : 12 < ys.length
  · have HV := hide (obj_big (d := ⟨ps.map SV.d, ys⟩) (.inr b2))
    have e2 : decide ((12 : Int) < ys.length) = true := decide_eq_true (by omega)
    clear b1 b2
    go_wp2_with fail
    go_ret
    exact ⟨by rw [HV.out]; rfl, HB.out⟩
  have e2 : decide ((12 : Int) < ys.length) = false := decide_eq_false (by omega)
  go_wp2_with fail
  clear e1 e2
  generalize w.alloc (.cells #[.slice A ps.length c, .slice Y ys.length yc] 26) = w0 at *
  go_loopw [20] (fun i wi => ∃ k : Nat, k ≤ ps.length ∧ i = .int .i64 k ∧ (∀ p ∈ ps.take k, secOk ys.length p.d = true) ∧ Box wi w.heap.size 26 #[.slice A ps.length c, .slice Y ys.length yc] ∧ Below w.heap.size w wi) (fun i _ => ps.length - (intOf i).toNat)
  case atStart => exact ⟨0, Nat.zero_le _, rfl, fun p hp => by simp at hp, X0, HB.out⟩
  case round =>
    obtain ⟨k, hk, rfl, hok, hx, hb⟩ := hrel
    have HO := hide hok
    have HX := hide hx
    have HBI := hide hb
    clear X0 x0 x1 HB
    have x0 := hx.cell 0
    have x1 := hx.cell 1
    simp only [List.getElem?_toArray, List.getElem?_cons_zero, List.getElem?_cons_succ] at x0 x1
    have hxl := hx.lt
    by_cases hlt : k < ps.length
    · obtain ⟨b, off, hA, hbg, hc⟩ := (HR.out.1.1.below hb).row secC_len (by decide) hlt
      subst hA
      have hc0 := hc 0 _ rfl
      have hc1 := hc 1 _ rfl
      have hc2 := hc 2 _ rfl
      have hc3 := hc 3 _ rfl
      have hc4 := hc 4 _ rfl
      have hc5 := hc 5 _ rfl
      simp only [Nat.add_zero] at hc0
      have HM := hide (HL.out.1 _ (List.getElem_mem hlt))
      have HRS := hide (HR.out.1.2 _ (List.getElem_mem hlt))
      have HS := hide (fun (h : secOk ys.length ps[k].d = true) => (show ∀ p ∈ ps.take (k + 1), secOk ys.length p.d = true from fun p hp => by
        rw [take_succ hlt] at hp
        rcases List.mem_append.1 hp with hp | hp
        · exact HO.out p hp
        · rw [List.mem_singleton.1 hp]; exact h))
      have HF := hide (fun (h : secOk ys.length ps[k].d = false) => obj_sec (d := ⟨ps.map SV.d, ys⟩) (List.mem_map_of_mem (List.getElem_mem hlt)) h)
      clear hok hx hb hc HO
      generalize ps[k] = p at *
      go_wp2_with fail
      have B1 : Below wr.heap.size wr (wr.alloc (.cells #[.string p.nm, .int .i64 p.kd, .int .i64 p.al, .slice p.A p.zs.length p.c, .int .i64 p.sz, .slice p.F p.fs.length p.fc] 73)) := (by repeat (first | exact Below.refl _ _ | with_reducible assumption | (refine Below.drew ?_) | (refine Below.drewN ?_ _) | (refine Below.alloc ?_ (by simp; try omega) _) | (refine Below.setCell ?_ (by simp; try omega) _)))
      have HX1 := hide (HX.out.call B1)
      have HB1 := hide (HBI.out.trans (B1.mono HBI.out.size))
      clear hc0 hc1 hc2 hc3 hc4 hc5 B1 HX HBI x0 x1
      refine (sectionValid_any p ys.length _ ((HRS.out.below HB1.out).more HB1.out.size) HM.out.1 HM.out.2.1 HM.out.2.2).mono ?_
      rintro e w2 ⟨rfl, b2⟩
      have HX2 := hide (HX1.out.call b2)
      have HB2 := hide (HB1.out.trans (b2.mono HB1.out.size))
      clear b2 HX1 HB1
      cases hs : secOk ys.length p.d
      · have HV := hide (HF.out hs)
        clear HF HS hs
        go_wp2_with fail
        go_ret
        exact ⟨by rw [HV.out]; rfl, HB2.out⟩
      · have HS' := hide (HS.out hs)
        clear HF HS hs
        go_wp2_with fail
        refine ⟨⟨k + 1, by omega, by go_num, HS'.out, HX2.out, HB2.out⟩, by simp [intOf]; omega⟩
    · have HALL := hide (show ∀ p ∈ ps.map SV.d, secOk ys.length p = true from fun p hp => by
        obtain ⟨q, hq, rfl⟩ := List.mem_map.1 hp
        exact HO.out q (by rw [List.take_of_length_le (by omega)]; exact hq))
      clear HO hok hx hb
      go_wp2_with fail
      clear x0 x1
      go_loopw [34] (fun i wi => ∃ k : Nat, k ≤ ys.length ∧ i = .int .i64 k ∧ (∀ j, (h : j < ys.length) → j < k → symAt (ps.map SV.d) ys j ys[j] = true) ∧ Box wi w.heap.size 26 #[.slice A ps.length c, .slice Y ys.length yc] ∧ Below w.heap.size w wi) (fun i _ => ys.length - (intOf i).toNat)
      case atStart => exact ⟨0, Nat.zero_le _, rfl, fun j _ hj => absurd hj (Nat.not_lt_zero j), HX.out, HBI.out⟩
      case round =>
        obtain ⟨k, hk, rfl, hok, hx, hb⟩ := hrel
        clear HX HBI hxl
        have HO := hide hok
        have HX := hide hx
        have HBI := hide hb
        by_cases hlt : k < ys.length
        · obtain ⟨b, off, hY, hbg, hc⟩ := (HR.out.2.below hb).row symbolC_len (by decide) hlt
          have hc0 := hc 0 _ rfl
          have hc1 := hc 1 _ rfl
          have hc2 := hc 2 _ rfl
          have hc3 := hc 3 _ rfl
          simp only [Nat.add_zero] at hc0
          have HM := hide (HL.out.2 _ (List.getElem_mem hlt))
          have HS := hide (fun (h : symAt (ps.map SV.d) ys k ys[k] = true) => (show ∀ j, (h : j < ys.length) → j < k + 1 → symAt (ps.map SV.d) ys j ys[j] = true from fun j hj hjk => by
            rcases Nat.lt_or_ge j k with h' | h'
            · exact HO.out j hj h'
            · obtain rfl : j = k := by omega
              exact h))
          have HF := hide (fun (h : symAt (ps.map SV.d) ys k ys[k] = false) => obj_sym (d := ⟨ps.map SV.d, ys⟩) hlt h)
          have HRP := hide (show Rd w w.heap.size Y (cellsOf symbolC (ys.take k)) from by
            have := Rd.prefix_take HR.out.2 k
            exact this)
          have hkl : (ys.take k).length = k := by rw [List.length_take]; omega
          have HPL := hide (show (ys.take k).length ≤ maxLen by rw [hkl]; unfold maxLen; omega)
          clear hok hx hb hc HO
          unfold symAt at HS HF
          generalize hpre : ys.take k = pre at *
          generalize ys[k] = z at *
          obtain ⟨zn, zb, zw, zv⟩ := z
          simp only at HM hc0 hc1 hc2 hc3 HS HF
          subst hY
          go_wp2_with fail
          have B1 : Below wr.heap.size wr (wr.alloc (.cells #[.string zn, .int .i64 zb, .int .i64 zw, .int .i64 zv] 69)) := (by repeat (first | exact Below.refl _ _ | with_reducible assumption | (refine Below.drew ?_) | (refine Below.drewN ?_ _) | (refine Below.alloc ?_ (by simp; try omega) _) | (refine Below.setCell ?_ (by simp; try omega) _)))
          have HX1 := hide (HX.out.call B1)
          have HB1 := hide (HBI.out.trans (B1.mono HBI.out.size))
          have HZ1 := hide (Box.new wr 69 #[.string zn, .int .i64 zb, .int .i64 zw, .int .i64 zv])
          clear hc0 hc1 hc2 hc3 B1 HX HBI hbg
          generalize wr.alloc (.cells #[.string zn, .int .i64 zb, .int .i64 zw, .int .i64 zv] 69) = w1 at *
          generalize wr.heap.size = Z at *
          have hSS : ∀ V : World, Below w1.heap.size w1 V → (V.cell? ⟨w.heap.size, 0, none⟩ = some (.slice A ps.length c) ∧ V.cell? ⟨w.heap.size, 1, none⟩ = some (.slice (some ⟨b, off, none⟩) ys.length yc) ∧ V.cell? ⟨Z, 0, none⟩ = some (.string zn) ∧ V.cell? ⟨Z, 1, none⟩ = some (.int .i64 zb) ∧ V.cell? ⟨Z, 2, none⟩ = some (.int .i64 zw) ∧ V.cell? ⟨Z, 3, none⟩ = some (.int .i64 zv)) := by
            intro V hV
            exact ⟨(HX1.out.call hV).cell 0, (HX1.out.call hV).cell 1, (HZ1.out.call hV).cell 0, (HZ1.out.call hV).cell 1, (HZ1.out.call hV).cell 2, (HZ1.out.call hV).cell 3⟩
          have HSS := hide hSS
          clear hSS
          refine Reg.startT (fun V => V.cell? ⟨w.heap.size, 0, none⟩ = some (.slice A ps.length c) ∧ V.cell? ⟨w.heap.size, 1, none⟩ = some (.slice (some ⟨b, off, none⟩) ys.length yc) ∧ V.cell? ⟨Z, 0, none⟩ = some (.string zn) ∧ V.cell? ⟨Z, 1, none⟩ = some (.int .i64 zb) ∧ V.cell? ⟨Z, 2, none⟩ = some (.int .i64 zw) ∧ V.cell? ⟨Z, 3, none⟩ = some (.int .i64 zv)) (fun _ => false) (by kernel_rfl) ?_
          have hHeld := HSS.out w1.drew (Below.drew (Below.refl _ _))
          refine Reg.takeT (i := 0) (v := ?_) rfl (by kernel_rfl) (by kernel_rfl) (by kernel_rfl) (by kernel_rfl) (fun _ _ _ h => h) (Or.inl ⟨by rfl, ?_⟩) (by assumption) ?_
          rotate_left 1
          focus (intro w hSw; (try dsimp only at hSw); go_simp; (try with_reducible rfl))
          try simp only [List.getElem_toArray, List.getElem_cons_succ, List.getElem_cons_zero, Act.put, List.setIfInBounds_toArray, List.set_cons_zero, List.set_cons_succ]
          refine Reg.takeT (i := 1) (v := ?_) rfl (by kernel_rfl) (by kernel_rfl) (by kernel_rfl) (by kernel_rfl) (fun _ _ _ h => h) (Or.inl ⟨by rfl, ?_⟩) (by assumption) ?_
          rotate_left 1
          focus (intro w hSw; (try dsimp only at hSw); go_simp; (try with_reducible rfl))
          try simp only [List.getElem_toArray, List.getElem_cons_succ, List.getElem_cons_zero, Act.put, List.setIfInBounds_toArray, List.set_cons_zero, List.set_cons_succ]
          refine Reg.takeT (i := 2) (v := ?_) rfl (by kernel_rfl) (by kernel_rfl) (by kernel_rfl) (by kernel_rfl) (fun _ _ _ h => h) (Or.inl ⟨by rfl, ?_⟩) (by assumption) ?_
          rotate_left 1
          focus (intro w hSw; (try dsimp only at hSw); go_simp; (try with_reducible rfl))
          try simp only [List.getElem_toArray, List.getElem_cons_succ, List.getElem_cons_zero, Act.put, List.setIfInBounds_toArray, List.set_cons_zero, List.set_cons_succ]
          refine Reg.oneT (i := 3) rfl (by kernel_rfl) (fun K hK => ?_)
          go_simp
          refine (symbolValid_any (zn, zb, zw, zv) A ps c _ ((HR.out.1.1.below (Below.drew HB1.out)).more (Below.drew HB1.out).size) np HM.out (fun p hp => Nat.le_trans (HL.out.1 p hp).2.1 (by decide))).mono ?_
          rintro e w3 ⟨rfl, b3⟩
          have HB3 := hide (HB1.out.trans ((below_drawn b3).mono HB1.out.size))
          have HXB := hide (below_drawn b3)
          have hHeld := HSS.out w3 HXB.out
          refine hK.out _ _ hHeld ?_
          clear hK K b3
          try simp only [List.getElem_toArray, List.getElem_cons_succ, List.getElem_cons_zero, Act.put, List.setIfInBounds_toArray, List.set_cons_zero, List.set_cons_succ]
          cases hs : symOk (ps.map SV.d) (zn, zb, zw, zv)
          · have HV := hide (HF.out (by rw [hs]; rfl))
            clear HF HS hs
            refine Reg.takeT (i := 4) (v := ?_) rfl (by kernel_rfl) (by kernel_rfl) (by kernel_rfl) (by kernel_rfl) (fun _ _ _ h => h) (Or.inl ⟨by rfl, ?_⟩) (by assumption) ?_
            rotate_left 1
            focus (intro w hSw; (try dsimp only at hSw); go_simp; (try with_reducible rfl))
            try simp only [List.getElem_toArray, List.getElem_cons_succ, List.getElem_cons_zero, Act.put, List.setIfInBounds_toArray, List.set_cons_zero, List.set_cons_succ]
            refine Reg.takeT (i := 5) (v := ?_) rfl (by kernel_rfl) (by kernel_rfl) (by kernel_rfl) (by kernel_rfl) (fun _ _ _ h => h) (Or.inl ⟨by rfl, ?_⟩) (by assumption) ?_
            rotate_left 1
            focus (intro w hSw; (try dsimp only at hSw); go_simp; (try with_reducible rfl))
            try simp only [List.getElem_toArray, List.getElem_cons_succ, List.getElem_cons_zero, Act.put, List.setIfInBounds_toArray, List.set_cons_zero, List.set_cons_succ]
            refine Reg.takeT (i := 6) (v := undef) rfl (by kernel_rfl) (by kernel_rfl) (by kernel_rfl) (by kernel_rfl) (fun _ _ _ h => h) (Or.inr ⟨by rfl, rfl⟩) (by assumption) ?_
            try simp only [List.getElem_toArray, List.getElem_cons_succ, List.getElem_cons_zero, Act.put, List.setIfInBounds_toArray, List.set_cons_zero, List.set_cons_succ]
            refine Reg.takeT (i := 7) (v := undef) rfl (by kernel_rfl) (by kernel_rfl) (by kernel_rfl) (by kernel_rfl) (fun _ _ _ h => h) (Or.inr ⟨by rfl, rfl⟩) (by assumption) ?_
            try simp only [List.getElem_toArray, List.getElem_cons_succ, List.getElem_cons_zero, Act.put, List.setIfInBounds_toArray, List.set_cons_zero, List.set_cons_succ]
            refine Reg.takeT (i := 8) (v := undef) rfl (by kernel_rfl) (by kernel_rfl) (by kernel_rfl) (by kernel_rfl) (fun _ _ _ h => h) (Or.inr ⟨by rfl, rfl⟩) (by assumption) ?_
            try simp only [List.getElem_toArray, List.getElem_cons_succ, List.getElem_cons_zero, Act.put, List.setIfInBounds_toArray, List.set_cons_zero, List.set_cons_succ]
            refine Reg.takeT (i := 9) (v := undef) rfl (by kernel_rfl) (by kernel_rfl) (by kernel_rfl) (by kernel_rfl) (fun _ _ _ h => h) (Or.inr ⟨by rfl, rfl⟩) (by assumption) ?_
            try simp only [List.getElem_toArray, List.getElem_cons_succ, List.getElem_cons_zero, Act.put, List.setIfInBounds_toArray, List.set_cons_zero, List.set_cons_succ]
            refine Reg.takeT (i := 10) (v := undef) rfl (by kernel_rfl) (by kernel_rfl) (by kernel_rfl) (by kernel_rfl) (fun _ _ _ h => h) (Or.inr ⟨by rfl, rfl⟩) (by assumption) ?_
            try simp only [List.getElem_toArray, List.getElem_cons_succ, List.getElem_cons_zero, Act.put, List.setIfInBounds_toArray, List.set_cons_zero, List.set_cons_succ]
            refine Reg.takeT (i := 11) (v := undef) rfl (by kernel_rfl) (by kernel_rfl) (by kernel_rfl) (by kernel_rfl) (fun _ _ _ h => h) (Or.inr ⟨by rfl, rfl⟩) (by assumption) ?_
            try simp only [List.getElem_toArray, List.getElem_cons_succ, List.getElem_cons_zero, Act.put, List.setIfInBounds_toArray, List.set_cons_zero, List.set_cons_succ]
            refine Reg.takeT (i := 12) (v := undef) rfl (by kernel_rfl) (by kernel_rfl) (by kernel_rfl) (by kernel_rfl) (fun _ _ _ h => h) (Or.inr ⟨by rfl, rfl⟩) (by assumption) ?_
            try simp only [List.getElem_toArray, List.getElem_cons_succ, List.getElem_cons_zero, Act.put, List.setIfInBounds_toArray, List.set_cons_zero, List.set_cons_succ]
            refine Reg.takeT (i := 13) (v := undef) rfl (by kernel_rfl) (by kernel_rfl) (by kernel_rfl) (by kernel_rfl) (fun _ _ _ h => h) (Or.inr ⟨by rfl, rfl⟩) (by assumption) ?_
            try simp only [List.getElem_toArray, List.getElem_cons_succ, List.getElem_cons_zero, Act.put, List.setIfInBounds_toArray, List.set_cons_zero, List.set_cons_succ]
            refine Reg.takeT (i := 14) (v := undef) rfl (by kernel_rfl) (by kernel_rfl) (by kernel_rfl) (by kernel_rfl) (fun _ _ _ h => h) (Or.inr ⟨by rfl, rfl⟩) (by assumption) ?_
            try simp only [List.getElem_toArray, List.getElem_cons_succ, List.getElem_cons_zero, Act.put, List.setIfInBounds_toArray, List.set_cons_zero, List.set_cons_succ]
            refine Reg.takeT (i := 15) (v := undef) rfl (by kernel_rfl) (by kernel_rfl) (by kernel_rfl) (by kernel_rfl) (fun _ _ _ h => h) (Or.inr ⟨by rfl, rfl⟩) (by assumption) ?_
            try simp only [List.getElem_toArray, List.getElem_cons_succ, List.getElem_cons_zero, Act.put, List.setIfInBounds_toArray, List.set_cons_zero, List.set_cons_succ]
            refine Reg.takeT (i := 16) (v := undef) rfl (by kernel_rfl) (by kernel_rfl) (by kernel_rfl) (by kernel_rfl) (fun _ _ _ h => h) (Or.inr ⟨by rfl, rfl⟩) (by assumption) ?_
            try simp only [List.getElem_toArray, List.getElem_cons_succ, List.getElem_cons_zero, Act.put, List.setIfInBounds_toArray, List.set_cons_zero, List.set_cons_succ]
            refine Reg.takeT (i := 17) (v := undef) rfl (by kernel_rfl) (by kernel_rfl) (by kernel_rfl) (by kernel_rfl) (fun _ _ _ h => h) (Or.inr ⟨by rfl, rfl⟩) (by assumption) ?_
            try simp only [List.getElem_toArray, List.getElem_cons_succ, List.getElem_cons_zero, Act.put, List.setIfInBounds_toArray, List.set_cons_zero, List.set_cons_succ]
            refine Reg.takeT (i := 18) (v := undef) rfl (by kernel_rfl) (by kernel_rfl) (by kernel_rfl) (by kernel_rfl) (fun _ _ _ h => h) (Or.inr ⟨by rfl, rfl⟩) (by assumption) ?_
            try simp only [List.getElem_toArray, List.getElem_cons_succ, List.getElem_cons_zero, Act.put, List.setIfInBounds_toArray, List.set_cons_zero, List.set_cons_succ]
            refine Reg.takeT (i := 19) (v := ?_) rfl (by kernel_rfl) (by kernel_rfl) (by kernel_rfl) (by kernel_rfl) (fun _ _ _ h => h) (Or.inl ⟨by rfl, ?_⟩) (by assumption) ?_
            rotate_left 1
            focus (intro w hSw; (try dsimp only at hSw); go_simp; (try with_reducible rfl))
            try simp only [List.getElem_toArray, List.getElem_cons_succ, List.getElem_cons_zero, Act.put, List.setIfInBounds_toArray, List.set_cons_zero, List.set_cons_succ]
            refine Reg.doneT (by kernel_rfl) ?_ _
            clear hHeld HSS
            go_wp2_with fail
            go_ret
            exact ⟨by rw [HV.out]; rfl, HB3.out⟩
          rw [hs] at HS HF
          clear hs
          refine Reg.takeT (i := 4) (v := ?_) rfl (by kernel_rfl) (by kernel_rfl) (by kernel_rfl) (by kernel_rfl) (fun _ _ _ h => h) (Or.inl ⟨by rfl, ?_⟩) (by assumption) ?_
          rotate_left 1
          focus (intro w hSw; (try dsimp only at hSw); go_simp; (try with_reducible rfl))
          try simp only [List.getElem_toArray, List.getElem_cons_succ, List.getElem_cons_zero, Act.put, List.setIfInBounds_toArray, List.set_cons_zero, List.set_cons_succ]
          refine Reg.takeT (i := 5) (v := ?_) rfl (by kernel_rfl) (by kernel_rfl) (by kernel_rfl) (by kernel_rfl) (fun _ _ _ h => h) (Or.inl ⟨by rfl, ?_⟩) (by assumption) ?_
          rotate_left 1
          focus (intro w hSw; (try dsimp only at hSw); go_simp; (try with_reducible rfl))
          try simp only [List.getElem_toArray, List.getElem_cons_succ, List.getElem_cons_zero, Act.put, List.setIfInBounds_toArray, List.set_cons_zero, List.set_cons_succ]
          refine Reg.takeT (i := 6) (v := ?_) rfl (by kernel_rfl) (by kernel_rfl) (by kernel_rfl) (by kernel_rfl) (fun _ _ _ h => h) (Or.inl ⟨by rfl, ?_⟩) (by assumption) ?_
          rotate_left 1
          focus (intro w hSw; (try dsimp only at hSw); go_simp; (try with_reducible rfl))
          try simp only [List.getElem_toArray, List.getElem_cons_succ, List.getElem_cons_zero, Act.put, List.setIfInBounds_toArray, List.set_cons_zero, List.set_cons_succ]
          refine Reg.takeT (i := 7) (v := ?_) rfl (by kernel_rfl) (by kernel_rfl) (by kernel_rfl) (by kernel_rfl) (fun _ _ _ h => h) (Or.inl ⟨by rfl, ?_⟩) (by assumption) ?_
          rotate_left 1
          focus (intro w hSw; (try dsimp only at hSw); go_simp; (try with_reducible rfl))
          try simp only [List.getElem_toArray, List.getElem_cons_succ, List.getElem_cons_zero, Act.put, List.setIfInBounds_toArray, List.set_cons_zero, List.set_cons_succ]
          refine Reg.takeT (i := 8) (v := ?_) rfl (by kernel_rfl) (by kernel_rfl) (by kernel_rfl) (by kernel_rfl) (fun _ _ _ h => h) (Or.inl ⟨by rfl, ?_⟩) (by assumption) ?_
          rotate_left 1
          focus (intro w hSw; (try dsimp only at hSw); go_simp; (try with_reducible rfl))
          try simp only [List.getElem_toArray, List.getElem_cons_succ, List.getElem_cons_zero, Act.put, List.setIfInBounds_toArray, List.set_cons_zero, List.set_cons_succ]
          by_cases hz : zb = 0
          · have HS' := hide (HS.out (by rw [decide_eq_true hz]; rfl))
            have e1 : (zb != 0) = false := by rw [hz]; rfl
            clear HS HF hz
            rw [e1]
            refine Reg.takeT (i := 9) (v := ?_) rfl (by kernel_rfl) (by kernel_rfl) (by kernel_rfl) (by kernel_rfl) (fun _ _ _ h => h) (Or.inl ⟨by rfl, ?_⟩) (by assumption) ?_
            rotate_left 1
            focus (intro w hSw; (try dsimp only at hSw); go_simp; (try with_reducible rfl))
            try simp only [List.getElem_toArray, List.getElem_cons_succ, List.getElem_cons_zero, Act.put, List.setIfInBounds_toArray, List.set_cons_zero, List.set_cons_succ]
            refine Reg.takeT (i := 10) (v := undef) rfl (by kernel_rfl) (by kernel_rfl) (by kernel_rfl) (by kernel_rfl) (fun _ _ _ h => h) (Or.inr ⟨by rfl, rfl⟩) (by assumption) ?_
            try simp only [List.getElem_toArray, List.getElem_cons_succ, List.getElem_cons_zero, Act.put, List.setIfInBounds_toArray, List.set_cons_zero, List.set_cons_succ]
            refine Reg.takeT (i := 11) (v := undef) rfl (by kernel_rfl) (by kernel_rfl) (by kernel_rfl) (by kernel_rfl) (fun _ _ _ h => h) (Or.inr ⟨by rfl, rfl⟩) (by assumption) ?_
            try simp only [List.getElem_toArray, List.getElem_cons_succ, List.getElem_cons_zero, Act.put, List.setIfInBounds_toArray, List.set_cons_zero, List.set_cons_succ]
            refine Reg.takeT (i := 12) (v := undef) rfl (by kernel_rfl) (by kernel_rfl) (by kernel_rfl) (by kernel_rfl) (fun _ _ _ h => h) (Or.inr ⟨by rfl, rfl⟩) (by assumption) ?_
            try simp only [List.getElem_toArray, List.getElem_cons_succ, List.getElem_cons_zero, Act.put, List.setIfInBounds_toArray, List.set_cons_zero, List.set_cons_succ]
            refine Reg.takeT (i := 13) (v := undef) rfl (by kernel_rfl) (by kernel_rfl) (by kernel_rfl) (by kernel_rfl) (fun _ _ _ h => h) (Or.inr ⟨by rfl, rfl⟩) (by assumption) ?_
            try simp only [List.getElem_toArray, List.getElem_cons_succ, List.getElem_cons_zero, Act.put, List.setIfInBounds_toArray, List.set_cons_zero, List.set_cons_succ]
            refine Reg.takeT (i := 14) (v := undef) rfl (by kernel_rfl) (by kernel_rfl) (by kernel_rfl) (by kernel_rfl) (fun _ _ _ h => h) (Or.inr ⟨by rfl, rfl⟩) (by assumption) ?_
            try simp only [List.getElem_toArray, List.getElem_cons_succ, List.getElem_cons_zero, Act.put, List.setIfInBounds_toArray, List.set_cons_zero, List.set_cons_succ]
            refine Reg.takeT (i := 15) (v := undef) rfl (by kernel_rfl) (by kernel_rfl) (by kernel_rfl) (by kernel_rfl) (fun _ _ _ h => h) (Or.inr ⟨by rfl, rfl⟩) (by assumption) ?_
            try simp only [List.getElem_toArray, List.getElem_cons_succ, List.getElem_cons_zero, Act.put, List.setIfInBounds_toArray, List.set_cons_zero, List.set_cons_succ]
            refine Reg.takeT (i := 16) (v := undef) rfl (by kernel_rfl) (by kernel_rfl) (by kernel_rfl) (by kernel_rfl) (fun _ _ _ h => h) (Or.inr ⟨by rfl, rfl⟩) (by assumption) ?_
            try simp only [List.getElem_toArray, List.getElem_cons_succ, List.getElem_cons_zero, Act.put, List.setIfInBounds_toArray, List.set_cons_zero, List.set_cons_succ]
            refine Reg.takeT (i := 17) (v := undef) rfl (by kernel_rfl) (by kernel_rfl) (by kernel_rfl) (by kernel_rfl) (fun _ _ _ h => h) (Or.inr ⟨by rfl, rfl⟩) (by assumption) ?_
            try simp only [List.getElem_toArray, List.getElem_cons_succ, List.getElem_cons_zero, Act.put, List.setIfInBounds_toArray, List.set_cons_zero, List.set_cons_succ]
            refine Reg.takeT (i := 18) (v := ?_) rfl (by kernel_rfl) (by kernel_rfl) (by kernel_rfl) (by kernel_rfl) (fun _ _ _ h => h) (Or.inl ⟨by rfl, ?_⟩) (by assumption) ?_
            rotate_left 1
            focus (intro w hSw; (try dsimp only at hSw); go_simp; (try with_reducible rfl))
            try simp only [List.getElem_toArray, List.getElem_cons_succ, List.getElem_cons_zero, Act.put, List.setIfInBounds_toArray, List.set_cons_zero, List.set_cons_succ]
            refine Reg.takeT (i := 19) (v := ?_) rfl (by kernel_rfl) (by kernel_rfl) (by kernel_rfl) (by kernel_rfl) (fun _ _ _ h => h) (Or.inl ⟨by rfl, ?_⟩) (by assumption) ?_
            rotate_left 1
            focus (intro w hSw; (try dsimp only at hSw); go_simp; (try with_reducible rfl))
            try simp only [List.getElem_toArray, List.getElem_cons_succ, List.getElem_cons_zero, Act.put, List.setIfInBounds_toArray, List.set_cons_zero, List.set_cons_succ]
            refine Reg.doneT (by kernel_rfl) ?_ _
            clear hHeld HSS
            have HX3 := hide (HX1.out.call HXB.out)
            go_wp2_with fail
            refine ⟨⟨k + 1, by omega, by go_num, HS'.out, HX3.out, HB3.out⟩, by simp [intOf]; omega⟩
          · have e1 : (zb != 0) = true := bne_iff_ne.2 hz
            rw [decide_eq_false hz] at HS HF
            clear hz
            rw [e1]
            have hky : k ≤ yc := by omega
            refine Reg.takeT (i := 9) (v := ?_) rfl (by kernel_rfl) (by kernel_rfl) (by kernel_rfl) (by kernel_rfl) (fun _ _ _ h => h) (Or.inl ⟨by rfl, ?_⟩) (by assumption) ?_
            rotate_left 1
            focus (intro w hSw; (try dsimp only at hSw); go_simp; (try with_reducible rfl))
            try simp only [List.getElem_toArray, List.getElem_cons_succ, List.getElem_cons_zero, Act.put, List.setIfInBounds_toArray, List.set_cons_zero, List.set_cons_succ]
            refine Reg.takeT (i := 10) (v := ?_) rfl (by kernel_rfl) (by kernel_rfl) (by kernel_rfl) (by kernel_rfl) (fun _ _ _ h => h) (Or.inl ⟨by rfl, ?_⟩) (by assumption) ?_
            rotate_left 1
            focus (intro w hSw; (try dsimp only at hSw); go_simp; (try with_reducible rfl))
            try simp only [List.getElem_toArray, List.getElem_cons_succ, List.getElem_cons_zero, Act.put, List.setIfInBounds_toArray, List.set_cons_zero, List.set_cons_succ]
            refine Reg.takeT (i := 11) (v := ?_) rfl (by kernel_rfl) (by kernel_rfl) (by kernel_rfl) (by kernel_rfl) (fun _ _ _ h => h) (Or.inl ⟨by rfl, ?_⟩) (by assumption) ?_
            rotate_left 1
            focus (intro w hSw; (try dsimp only at hSw); go_simp; (try with_reducible rfl))
            try simp only [List.getElem_toArray, List.getElem_cons_succ, List.getElem_cons_zero, Act.put, List.setIfInBounds_toArray, List.set_cons_zero, List.set_cons_succ]
            refine Reg.takeT (i := 12) (v := ?_) rfl (by kernel_rfl) (by kernel_rfl) (by kernel_rfl) (by kernel_rfl) (fun _ _ _ h => h) (Or.inl ⟨by rfl, ?_⟩) (by assumption) ?_
            rotate_left 1
            focus (intro w hSw; (try dsimp only at hSw); go_simp; (try with_reducible rfl))
            try simp only [List.getElem_toArray, List.getElem_cons_succ, List.getElem_cons_zero, Act.put, List.setIfInBounds_toArray, List.set_cons_zero, List.set_cons_succ]
            refine Reg.takeT (i := 13) (v := ?_) rfl (by kernel_rfl) (by kernel_rfl) (by kernel_rfl) (by kernel_rfl) (fun _ _ _ h => h) (Or.inl ⟨by rfl, ?_⟩) (by assumption) ?_
            rotate_left 1
            focus (intro w hSw; (try dsimp only at hSw); go_simp; (try with_reducible rfl))
            try simp only [List.getElem_toArray, List.getElem_cons_succ, List.getElem_cons_zero, Act.put, List.setIfInBounds_toArray, List.set_cons_zero, List.set_cons_succ]
            refine Reg.takeT (i := 14) (v := ?_) rfl (by kernel_rfl) (by kernel_rfl) (by kernel_rfl) (by kernel_rfl) (fun _ _ _ h => h) (Or.inl ⟨by rfl, ?_⟩) (by assumption) ?_
            rotate_left 1
            focus (intro w hSw; (try dsimp only at hSw); go_simp; (try with_reducible rfl))
            try simp only [List.getElem_toArray, List.getElem_cons_succ, List.getElem_cons_zero, Act.put, List.setIfInBounds_toArray, List.set_cons_zero, List.set_cons_succ]
            refine Reg.takeT (i := 15) (v := ?_) rfl (by kernel_rfl) (by kernel_rfl) (by kernel_rfl) (by kernel_rfl) (fun _ _ _ h => h) (Or.inl ⟨by rfl, ?_⟩) (by assumption) ?_
            rotate_left 1
            focus (intro w hSw; (try dsimp only at hSw); go_simp; (try with_reducible rfl))
            try simp only [List.getElem_toArray, List.getElem_cons_succ, List.getElem_cons_zero, Act.put, List.setIfInBounds_toArray, List.set_cons_zero, List.set_cons_succ]
            refine Reg.oneT (i := 16) rfl (by kernel_rfl) (fun K hK => ?_)
            go_simp
            have HGO := hide (globalOf_any zn (some ⟨b, off, none⟩) pre yc w3 ((HRP.out.below HB3.out).more HB3.out.size) HPL.out)
            rw [hkl] at HGO
            refine HGO.out.mono ?_
            rintro e w4 ⟨r, rfl, hr4, b4⟩
            have HB4 := hide (HB3.out.trans (b4.mono HB3.out.size))
            have HX4 := hide ((HX1.out.call HXB.out).call b4)
            have hHeld := HSS.out w4 (HXB.out.trans (b4.mono HXB.out.size))
            refine hK.out _ _ hHeld ?_
            clear hK K b4
            try simp only [List.getElem_toArray, List.getElem_cons_succ, List.getElem_cons_zero, Act.put, List.setIfInBounds_toArray, List.set_cons_zero, List.set_cons_succ]
            cases hq : pre.any (hit zn)
            · have HS' := hide (HS.out (by rw [hq]; rfl))
              rw [hq] at hr4
              clear HS HF hq
              refine Reg.takeT (i := 17) (v := ?_) rfl (by kernel_rfl) (by kernel_rfl) (by kernel_rfl) (by kernel_rfl) (fun _ _ _ h => h) (Or.inl ⟨by rfl, ?_⟩) (by assumption) ?_
              rotate_left 1
              focus (intro w hSw; (try dsimp only at hSw); go_simp; (try with_reducible rfl))
              try simp only [List.getElem_toArray, List.getElem_cons_succ, List.getElem_cons_zero, Act.put, List.setIfInBounds_toArray, List.set_cons_zero, List.set_cons_succ]
              refine Reg.takeT (i := 18) (v := ?_) rfl (by kernel_rfl) (by kernel_rfl) (by kernel_rfl) (by kernel_rfl) (fun _ _ _ h => h) (Or.inl ⟨by rfl, ?_⟩) (by assumption) ?_
              rotate_left 1
              focus (intro w hSw; (try dsimp only at hSw); go_simp; (try with_reducible rfl))
              try simp only [List.getElem_toArray, List.getElem_cons_succ, List.getElem_cons_zero, Act.put, List.setIfInBounds_toArray, List.set_cons_zero, List.set_cons_succ]
              refine Reg.takeT (i := 19) (v := ?_) rfl (by kernel_rfl) (by kernel_rfl) (by kernel_rfl) (by kernel_rfl) (fun _ _ _ h => h) (Or.inl ⟨by rfl, ?_⟩) (by assumption) ?_
              rotate_left 1
              focus (intro w hSw; (try dsimp only at hSw); go_simp; (try with_reducible rfl))
              try simp only [List.getElem_toArray, List.getElem_cons_succ, List.getElem_cons_zero, Act.put, List.setIfInBounds_toArray, List.set_cons_zero, List.set_cons_succ]
              refine Reg.doneT (by kernel_rfl) ?_ _
              clear hHeld HSS
              go_wp2_with fail
              refine ⟨⟨k + 1, by omega, by go_num, HS'.out, HX4.out, HB4.out⟩, by simp [intOf]; omega⟩
            · have HV := hide (HF.out (by rw [hq]; rfl))
              rw [hq] at hr4
              clear HS HF hq
              refine Reg.takeT (i := 17) (v := ?_) rfl (by kernel_rfl) (by kernel_rfl) (by kernel_rfl) (by kernel_rfl) (fun _ _ _ h => h) (Or.inl ⟨by rfl, ?_⟩) (by assumption) ?_
              rotate_left 1
              focus (intro w hSw; (try dsimp only at hSw); go_simp; (try with_reducible rfl))
              try simp only [List.getElem_toArray, List.getElem_cons_succ, List.getElem_cons_zero, Act.put, List.setIfInBounds_toArray, List.set_cons_zero, List.set_cons_succ]
              refine Reg.takeT (i := 18) (v := ?_) rfl (by kernel_rfl) (by kernel_rfl) (by kernel_rfl) (by kernel_rfl) (fun _ _ _ h => h) (Or.inl ⟨by rfl, ?_⟩) (by assumption) ?_
              rotate_left 1
              focus (intro w hSw; (try dsimp only at hSw); go_simp; (try with_reducible rfl))
              try simp only [List.getElem_toArray, List.getElem_cons_succ, List.getElem_cons_zero, Act.put, List.setIfInBounds_toArray, List.set_cons_zero, List.set_cons_succ]
              refine Reg.takeT (i := 19) (v := ?_) rfl (by kernel_rfl) (by kernel_rfl) (by kernel_rfl) (by kernel_rfl) (fun _ _ _ h => h) (Or.inl ⟨by rfl, ?_⟩) (by assumption) ?_
              rotate_left 1
              focus (intro w hSw; (try dsimp only at hSw); go_simp; (try with_reducible rfl))
              try simp only [List.getElem_toArray, List.getElem_cons_succ, List.getElem_cons_zero, Act.put, List.setIfInBounds_toArray, List.set_cons_zero, List.set_cons_succ]
              refine Reg.doneT (by kernel_rfl) ?_ _
              clear hHeld HSS
              go_wp2_with fail
              go_ret
              exact ⟨by rw [HV.out]; rfl, HB4.out⟩
        · have HV := hide (obj_yes (d := ⟨ps.map SV.d, ys⟩) (by simp; omega) (by simp; omega) HALL.out (fun j hj => HO.out j hj (Nat.lt_of_lt_of_le hj (show ys.length ≤ k by omega))))
          clear HO hok hx hb
          go_wp2_with fail
          go_ret
          exact ⟨by rw [HV.out]; rfl, HBI.out⟩
end Go.Proofs.Ytmglgjchemecjaa.CObjValid
