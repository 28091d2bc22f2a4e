/- DumpObject: the lines of an object; the program's. -/
import Derived.Test.YtepoiphmmjfbdaaGreatDoorFnDeskLoadM10
import Derived.OwnWalk
set_option linter.unusedSimpArgs false
set_option linter.unusedVariables false
namespace Go.Proofs.YtepoiphmmjfbdaaGreatDoor.CDumpI
set_option maxRecDepth 200000
open Go.ChangeShapes Go.WideShapes Go.ChangeAt Go.RowKit Kit CCode CName CFixups CSymbols PObj BObj PValid PClear CSecValid CObjValid CNumTxt PNum PDump CHexI CHexS CSorted CNames CWordsS BStore BDesk CLineI
theorem line_of (Wb nm : ByteArray) (W : List UInt8) (hWb : Wb = bs W) (NA : Option Addr) (ns : List Int) (nc : Nat) (w : World) (he : Env w) (hr : Rd w w.heap.size NA (ints .i64 ns)) (hW : W.length ≤ 1000) (hnm : (nmL nm).length ≤ 1000) (hn : ns.length ≤ 10) (hb : InR (-9223372036854775808) 9223372036854775807 ns) :
    Calls Tryz.prog 37 #[.string Wb, .string nm, .slice NA ns.length nc] w (Ret (.string (bs (lineW W (nmL nm) ns))) w) := by
  subst hWb
  exact line_any W (nmL nm) NA ns nc w he hr hW hnm hn hb
theorem nmW_ok {s : ByteArray} (h : nameOk s = true) : nmW (nmL s) = [nmL s] ∧ (nmL s).length ≤ 8 := by
  rw [nameOk, Bool.and_eq_true] at h
  have h2 := h.2
  simp only [inB, decide_eq_true_eq] at h2
  have hl : (nmL s).length = s.size := by rw [nmL, Array.length_toList]; rfl
  refine ⟨?_, by omega⟩
  unfold nmW
  rw [if_neg (by omega)]
theorem lineS_eq {s : SD} (h : nameOk s.nm = true) : lineS s = if s.zs.length = 0 then lineW secW (nmL s.nm) [s.kd, s.al, secSize s] else lineW secW (nmL s.nm) [s.kd, s.al, secSize s] ++ 32 :: hexL s.zs := by
  unfold lineS wordsS lineW
  rw [(nmW_ok h).1]
  split
  · rw [List.append_nil]
    rfl
  · rw [← join_snoc 32 _ _ (by simp)]
    rfl
theorem lineY_eq {y : YD} (h : nameOk y.1 = true) : lineY y = lineW symW (nmL y.1) [y.2.1, y.2.2.1, y.2.2.2] := by
  unfold lineY wordsY lineW
  rw [(nmW_ok h).1]
  rfl
/-- What the numbers of lines are within. -/
theorem num3 {a b c : Int} (ha : Num a) (hb : Num b) (hc : Num c) : InR (-9223372036854775808) 9223372036854775807 [a, b, c] := by
  unfold Num at *
  intro x hx
  simp only [List.mem_cons, List.not_mem_nil, or_false] at hx
  omega
theorem num4 {a b c d : Int} (ha : Num a) (hb : Num b) (hc : Num c) (hd : Num d) : InR (-9223372036854775808) 9223372036854775807 [a, b, c, d] := by
  unfold Num at *
  intro x hx
  simp only [List.mem_cons, List.not_mem_nil, or_false] at hx
  omega
theorem linesSs_snoc {ps : List SV} {k : Nat} (h : k < ps.length) : linesSs ((ps.take (k + 1)).map SV.d) = linesSs ((ps.take k).map SV.d) ++ linesS (ps[k]).d := by
  rw [take_succ h, List.map_append]
  simp [linesSs]
theorem join_len (c : UInt8) : ∀ (ws : List (List UInt8)) (m : Nat), (∀ w ∈ ws, w.length ≤ m) → (joinC c ws).length ≤ ws.length * (m + 1)
  | [], _, _ => by simp [joinC]
  | [x], m, h => by
    have := h x (by simp)
    simp only [joinC, List.length_singleton]
    omega
  | x :: y :: r, m, h => by
    have h1 := h x (by simp)
    have h2 := join_len c (y :: r) m (fun w hw => h w (by simp [List.mem_cons.1 hw]))
    rw [joinC, List.length_append, List.length_cons, List.length_cons, Nat.succ_mul]
    omega
theorem line_len {W nm : List UInt8} {ns : List Int} (hW : W.length ≤ 21) (hnm : nm.length ≤ 21) (hn : InR (-9223372036854775808) 9223372036854775807 ns) : (lineW W nm ns).length ≤ (2 + ns.length) * 22 := by
  have h1 := join_len 32 ((W :: nmW nm) ++ ns.map Lib.itoa) 21 (fun w hw => by
    rcases List.mem_append.1 hw with hw | hw
    · rcases List.mem_cons.1 hw with rfl | hw
      · exact hW
      · unfold nmW at hw
        split at hw
        · cases hw
        · rw [List.mem_singleton.1 hw]
          exact hnm
    · obtain ⟨x, hx, rfl⟩ := List.mem_map.1 hw
      exact Lib.itoa_length_le x (hn x hx).1 (hn x hx).2)
  refine Nat.le_trans h1 (Nat.mul_le_mul_right _ ?_)
  rw [List.length_append, List.length_cons, List.length_map]
  have : (nmW nm).length ≤ 1 := by
    unfold nmW
    split <;> simp
  omega
/-- A section's cells in its variable. -/
def Six (S : Nat) (p : SV) (W : World) : Prop := W.cell? ⟨S, 0, none⟩ = some (.string p.nm) ∧ W.cell? ⟨S, 1, none⟩ = some (.int .i64 p.kd) ∧ W.cell? ⟨S, 2, none⟩ = some (.int .i64 p.al) ∧ W.cell? ⟨S, 3, none⟩ = some (.slice p.A p.zs.length p.c) ∧ W.cell? ⟨S, 4, none⟩ = some (.int .i64 p.sz) ∧ W.cell? ⟨S, 5, none⟩ = some (.slice p.F p.fs.length p.fc)
theorem Six.of {W : World} {S : Nat} {p : SV} (h : Box W S 61 #[.string p.nm, .int .i64 p.kd, .int .i64 p.al, .slice p.A p.zs.length p.c, .int .i64 p.sz, .slice p.F p.fs.length p.fc]) : Six S p W := ⟨h.cell 0, h.cell 1, h.cell 2, h.cell 3, h.cell 4, h.cell 5⟩
theorem one_str (s : ByteArray) : ∀ u ∈ [Value.string s], u.oneCell' = true := fun u hu => by
  rw [List.mem_singleton] at hu
  subst hu
  rfl
set_option maxHeartbeats 8000000 in
theorem dumpObject_any (o : OV) (w : World) (hr : RdO w w.heap.size o) (hf : Fit o) (hz : InD o.d) (he : Env w) :
    Calls Tryz.prog 9 #[.agg #[.slice o.A o.ps.length o.c, .slice o.Y o.ys.length o.yc]] w (RetN ((dumpL o.d).map bs) w) := by
  obtain ⟨i0, hi1, hi2, hi3, hi4⟩ := info_parts infoStr
  have HI := hide (And.intro hi1 (And.intro hi2 (And.intro hi3 hi4)))
  clear hi1 hi2 hi3 hi4
  have HR := hide hr
  have HE := hide he
  have HZ := hide hz
  have HF := hide hf
  clear hr he hz hf
  have B0 : Below w.heap.size w ((w.alloc (.cells #[.slice o.A o.ps.length o.c, .slice o.Y o.ys.length o.yc] 26)).alloc (.cells #[] 9)) := (by repeat (first | exact Below.refl _ _ | with_reducible assumption | (refine Below.drew ?_) | (refine Below.drewN ?_ _) | (refine Below.alloc ?_ (by simp; try omega) _) | (refine Below.setCell ?_ (by simp; try omega) _)))
  have HB := hide B0
  have HX := hide ((Box.new w 26 #[.slice o.A o.ps.length o.c, .slice o.Y o.ys.length o.yc]).alloc (.cells #[] 9))
  have hsz : w.heap.size < ((w.alloc (.cells #[.slice o.A o.ps.length o.c, .slice o.Y o.ys.length o.yc] 26)).alloc (.cells #[] 9)).heap.size := by simp; omega
  have HSZ := hide hsz
  clear B0 hsz
  go_enter Tryz.func9, Tryz.ntmps9
  have x0 := HX.out.cell 0
  have x1 := HX.out.cell 1
  simp only [List.getElem?_toArray, List.getElem?_cons_zero, List.getElem?_cons_succ] at x0 x1
  have hxl := HX.out.lt
  go_wp2_with fail
  generalize (w.alloc (.cells #[.slice o.A o.ps.length o.c, .slice o.Y o.ys.length o.yc] 26)).alloc (.cells #[] 9) = w0 at *
  refine (objectValid_any o w0 ((HR.out.below HB.out).more HB.out.size) HF.out).mono ?_
  rintro e w1 ⟨rfl, b1⟩
  replace HB := hide (HB.out.trans (b1.mono HB.out.size))
  replace HX := hide (HX.out.call b1)
  clear b1
  clear x0 x1 hxl HSZ
  cases ho : objOk o.d
  · have HV := hide (show dumpL o.d = [] from by rw [dumpL, ho]; rfl)
    clear ho
    go_wp2_with fail
    go_ret
    rw [HV.out]
    exact ⟨_, 0, rfl, Row.empty _ _ _ _ _, HB.out⟩
  have HV := hide (dump_ok ho)
  have HG := hide (good_O ho HZ.out)
  have HALL := hide (obj_all ho)
  have hps : o.ps.length ≤ 8 := by have := HALL.out.1; simpa [OV.d] using this
  have hys : o.ys.length ≤ 12 := HALL.out.2.1
  clear ho
  have x0 := HX.out.cell 0
  have x1 := HX.out.cell 1
  simp only [List.getElem?_toArray, List.getElem?_cons_zero, List.getElem?_cons_succ] at x0 x1
  have hxl := HX.out.lt
  go_wp2_with fail
  clear x0 x1 hxl
  go_loopw [3, 19] (fun s i wi => ∃ (k : Nat) (A1 : Option Addr) (c1 : Nat) (ls : List (List UInt8)), k ≤ o.ps.length ∧ s = .slice A1 ls.length c1 ∧ i = .int .i64 k ∧ ls = linesSs ((o.ps.take k).map SV.d) ∧ ls.length ≤ 7 * k ∧ Row wi w.heap.size 9 1 A1 ls.length c1 (nmC (ls.map bs)) ∧ Box wi w.heap.size 26 #[.slice o.A o.ps.length o.c, .slice o.Y o.ys.length o.yc] ∧ Below w.heap.size w wi) (fun _ i _ => o.ps.length - (intOf i).toNat)
  case atStart => exact ⟨0, _, 0, [], Nat.zero_le _, rfl, rfl, rfl, Nat.le_refl _, Row.empty _ _ _ _ _, HX.out, HB.out⟩
  case round =>
    rename World => wk
    clear HX HB
    obtain ⟨k, A1, c1, ls, hk, rfl, rfl, hls, hll, hrow, hbox, hb⟩ := hrel
    have HLS := hide hls
    have HW := hide hrow
    have HX := hide hbox
    have HB := hide hb
    clear hls hrow hbox hb
    by_cases hlt : k < o.ps.length
    · obtain ⟨b, off, hA, hbb, hc⟩ := (HR.out.1.1.below HB.out).row secC_len (by decide) hlt
      have hc0 := hc 0 _ rfl
      have hc1 := hc 1 _ rfl
      have hc2 := hc 2 _ rfl
      have hc3 := hc 3 _ rfl
      have hc4 := hc 4 _ rfl
      have hc5 := hc 5 _ rfl
      simp only [Nat.add_zero] at hc0
      have HSN := hide (linesSs_snoc hlt)
      have HGS := hide (HG.out.1 (o.ps[k]).d (List.mem_map_of_mem (List.getElem_mem hlt)))
      have HIZ := hide (HZ.out (o.ps[k]).d (List.mem_map_of_mem (List.getElem_mem hlt)))
      have HAL := hide (HALL.out.2.2 (o.ps[k]).d (List.mem_map_of_mem (List.getElem_mem hlt)))
      have HRS := hide (HR.out.1.2 _ (List.getElem_mem hlt))
      have HA := hide hA
      rw [hA]
      clear hc hA
      generalize o.ps[k] = p at *
      have hzl : p.zs.length ≤ 48 := HAL.out.2.1
      have hfl : p.fs.length ≤ 6 := HAL.out.1
      have B1 : Below wk.heap.size wk (wk.alloc (.cells #[.string p.nm, .int .i64 p.kd, .int .i64 p.al, .slice p.A p.zs.length p.c, .int .i64 p.sz, .slice p.F p.fs.length p.fc] 61)) := (by repeat (first | exact Below.refl _ _ | with_reducible assumption | (refine Below.drew ?_) | (refine Below.drewN ?_ _) | (refine Below.alloc ?_ (by simp; try omega) _) | (refine Below.setCell ?_ (by simp; try omega) _)))
      have HS := hide (Box.new wk 61 #[.string p.nm, .int .i64 p.kd, .int .i64 p.al, .slice p.A p.zs.length p.c, .int .i64 p.sz, .slice p.F p.fs.length p.fc])
      replace HB := hide (HB.out.trans (B1.mono HB.out.size))
      replace HX := hide (HX.out.call B1)
      replace HW := hide (HW.out.call B1)
      clear B1
      go_wp2_with fail
      clear hc0 hc1 hc2 hc3 hc4 hc5
      generalize wk.alloc (.cells #[.string p.nm, .int .i64 p.kd, .int .i64 p.al, .slice p.A p.zs.length p.c, .int .i64 p.sz, .slice p.F p.fs.length p.fc] 61) = wa at *
      generalize hSS : wk.heap.size = S at *
      have HSS := hide hSS
      clear hSS
      have hnk := HGS.out.1.nm
      have HNM := hide hnk
      have HNU := hide (num3 HGS.out.1.kd HGS.out.1.al HGS.out.1.size)
      have HN8 := hide (nmW_ok HGS.out.1.nm).2
      have hsl := HS.out.lt
      clear hnk
      refine Reg.startT (fun W => W.cell? ⟨S, 0, none⟩ = some (.string p.nm) ∧ W.cell? ⟨S, 1, none⟩ = some (.int .i64 p.kd) ∧ W.cell? ⟨S, 2, none⟩ = some (.int .i64 p.al) ∧ W.cell? ⟨S, 3, none⟩ = some (.slice p.A p.zs.length p.c) ∧ W.cell? ⟨S, 4, none⟩ = some (.int .i64 p.sz) ∧ W.cell? ⟨S, 5, none⟩ = some (.slice p.F p.fs.length p.fc)) (fun _ => false) (by kernel_rfl) ?_
      have hHeld : wa.drew.cell? ⟨S, 0, none⟩ = some (.string p.nm) ∧ wa.drew.cell? ⟨S, 1, none⟩ = some (.int .i64 p.kd) ∧ wa.drew.cell? ⟨S, 2, none⟩ = some (.int .i64 p.al) ∧ wa.drew.cell? ⟨S, 3, none⟩ = some (.slice p.A p.zs.length p.c) ∧ wa.drew.cell? ⟨S, 4, none⟩ = some (.int .i64 p.sz) ∧ wa.drew.cell? ⟨S, 5, none⟩ = some (.slice p.F p.fs.length p.fc) := Six.of HS.out
      refine Reg.takeT (i := 0) (v := ?_) rfl (by kernel_rfl) (by kernel_rfl) (by kernel_rfl) (by kernel_rfl) (fun _ _ _ h => h) (Or.inl ⟨by rfl, ?_⟩) (by assumption) ?_
      rotate_left 1
      focus (intro w hSw; (try dsimp only at hSw); go_simp; (try with_reducible rfl))
      try simp only [List.getElem_toArray, List.getElem_cons_succ, List.getElem_cons_zero, Act.put, List.setIfInBounds_toArray, List.set_cons_zero, List.set_cons_succ]
      refine Reg.takeT (i := 1) (v := ?_) rfl (by kernel_rfl) (by kernel_rfl) (by kernel_rfl) (by kernel_rfl) (fun _ _ _ h => h) (Or.inl ⟨by rfl, ?_⟩) (by assumption) ?_
      rotate_left 1
      focus (intro w hSw; (try dsimp only at hSw); go_simp; (try with_reducible rfl))
      try simp only [List.getElem_toArray, List.getElem_cons_succ, List.getElem_cons_zero, Act.put, List.setIfInBounds_toArray, List.set_cons_zero, List.set_cons_succ]
      refine Reg.takeT (i := 2) (v := ?_) rfl (by kernel_rfl) (by kernel_rfl) (by kernel_rfl) (by kernel_rfl) (fun _ _ _ h => h) (Or.inl ⟨by rfl, ?_⟩) (by assumption) ?_
      rotate_left 1
      focus (intro w hSw; (try dsimp only at hSw); go_simp; (try with_reducible rfl))
      try simp only [List.getElem_toArray, List.getElem_cons_succ, List.getElem_cons_zero, Act.put, List.setIfInBounds_toArray, List.set_cons_zero, List.set_cons_succ]
      refine Reg.takeT (i := 3) (v := ?_) rfl (by kernel_rfl) (by kernel_rfl) (by kernel_rfl) (by kernel_rfl) (fun _ _ _ h => h) (Or.inl ⟨by rfl, ?_⟩) (by assumption) ?_
      rotate_left 1
      focus (intro w hSw; (try dsimp only at hSw); go_simp; (try with_reducible rfl))
      try simp only [List.getElem_toArray, List.getElem_cons_succ, List.getElem_cons_zero, Act.put, List.setIfInBounds_toArray, List.set_cons_zero, List.set_cons_succ]
      refine Reg.takeT (i := 4) (v := ?_) rfl (by kernel_rfl) (by kernel_rfl) (by kernel_rfl) (by kernel_rfl) (fun _ _ _ h => h) (Or.inl ⟨by rfl, ?_⟩) (by assumption) ?_
      rotate_left 1
      focus (intro w hSw; (try dsimp only at hSw); go_simp; (try with_reducible rfl))
      try simp only [List.getElem_toArray, List.getElem_cons_succ, List.getElem_cons_zero, Act.put, List.setIfInBounds_toArray, List.set_cons_zero, List.set_cons_succ]
      refine Reg.takeT (i := 5) (v := ?_) rfl (by kernel_rfl) (by kernel_rfl) (by kernel_rfl) (by kernel_rfl) (fun _ _ _ h => h) (Or.inl ⟨by rfl, ?_⟩) (by assumption) ?_
      rotate_left 1
      focus (intro w hSw; (try dsimp only at hSw); go_simp; (try with_reducible rfl))
      try simp only [List.getElem_toArray, List.getElem_cons_succ, List.getElem_cons_zero, Act.put, List.setIfInBounds_toArray, List.set_cons_zero, List.set_cons_succ]
      refine Reg.takeT (i := 6) (v := ?_) rfl (by kernel_rfl) (by kernel_rfl) (by kernel_rfl) (by kernel_rfl) (fun _ _ _ h => h) (Or.inl ⟨by rfl, ?_⟩) (by assumption) ?_
      rotate_left 1
      focus (intro w hSw; (try dsimp only at hSw); go_simp; (try with_reducible rfl))
      try simp only [List.getElem_toArray, List.getElem_cons_succ, List.getElem_cons_zero, Act.put, List.setIfInBounds_toArray, List.set_cons_zero, List.set_cons_succ]
      refine Reg.oneT (i := 7) rfl (by kernel_rfl) (fun K hK => ?_)
      go_simp
      refine (sectionSize_any p _ (by unfold maxLen; omega)).mono ?_
      rintro e w3 ⟨rfl, b3⟩
      have b3' := of_drew b3
      replace HB := hide (HB.out.trans (b3'.mono HB.out.size))
      replace HX := hide (HX.out.call b3')
      replace HW := hide (HW.out.call b3')
      replace HS := hide (HS.out.call b3')
      clear b3'
      have hHeld : w3.cell? ⟨S, 0, none⟩ = some (.string p.nm) ∧ w3.cell? ⟨S, 1, none⟩ = some (.int .i64 p.kd) ∧ w3.cell? ⟨S, 2, none⟩ = some (.int .i64 p.al) ∧ w3.cell? ⟨S, 3, none⟩ = some (.slice p.A p.zs.length p.c) ∧ w3.cell? ⟨S, 4, none⟩ = some (.int .i64 p.sz) ∧ w3.cell? ⟨S, 5, none⟩ = some (.slice p.F p.fs.length p.fc) := Six.of HS.out
      refine hK.out _ _ hHeld ?_
      clear hK K b3
      try simp only [List.getElem_toArray, List.getElem_cons_succ, List.getElem_cons_zero, Act.put, List.setIfInBounds_toArray, List.set_cons_zero, List.set_cons_succ]
      refine Reg.oneT (i := 8) rfl (by kernel_rfl) (fun K hK => ?_)
      go_simp
      have B4 : Below w3.heap.size w3 (w3.alloc (.cells #[.int .i64 p.kd, .int .i64 p.al, .int .i64 (secSize p.d)] 3)) := (by repeat (first | exact Below.refl _ _ | with_reducible assumption | (refine Below.drew ?_) | (refine Below.drewN ?_ _) | (refine Below.alloc ?_ (by simp; try omega) _) | (refine Below.setCell ?_ (by simp; try omega) _)))
      have HL4 := hide (show Rd (w3.alloc (.cells #[.int .i64 p.kd, .int .i64 p.al, .int .i64 (secSize p.d)] 3)) (w3.heap.size + 1) (some ⟨w3.heap.size, 0, none⟩) (ints .i64 [p.kd, p.al, secSize p.d]) from rd_lit w3 #[.int .i64 p.kd, .int .i64 p.al, .int .i64 (secSize p.d)] 3 _ rfl)
      have hz4 : (w3.alloc (.cells #[.int .i64 p.kd, .int .i64 p.al, .int .i64 (secSize p.d)] 3)).heap.size = w3.heap.size + 1 := by simp
      replace HB := hide (HB.out.trans (B4.mono HB.out.size))
      replace HX := hide (HX.out.call B4)
      replace HW := hide (HW.out.call B4)
      replace HS := hide (HS.out.call B4)
      clear B4
      generalize w3.alloc (.cells #[.int .i64 p.kd, .int .i64 p.al, .int .i64 (secSize p.d)] 3) = w4 at *
      have hHeld : w4.cell? ⟨S, 0, none⟩ = some (.string p.nm) ∧ w4.cell? ⟨S, 1, none⟩ = some (.int .i64 p.kd) ∧ w4.cell? ⟨S, 2, none⟩ = some (.int .i64 p.al) ∧ w4.cell? ⟨S, 3, none⟩ = some (.slice p.A p.zs.length p.c) ∧ w4.cell? ⟨S, 4, none⟩ = some (.int .i64 p.sz) ∧ w4.cell? ⟨S, 5, none⟩ = some (.slice p.F p.fs.length p.fc) := Six.of HS.out
      refine hK.out _ _ hHeld ?_
      clear hK K
      try simp only [List.getElem_toArray, List.getElem_cons_succ, List.getElem_cons_zero, Act.put, List.setIfInBounds_toArray, List.set_cons_zero, List.set_cons_succ]
      refine Reg.oneT (i := 9) rfl (by kernel_rfl) (fun K hK => ?_)
      go_simp
      refine (line_of ⟨#[115, 101, 99, 116, 105, 111, 110]⟩ p.nm secW rfl _ [p.kd, p.al, secSize p.d] 3 w4 (HE.out.below HB.out) (HL4.out.more (by rw [hz4]; exact Nat.le_refl _)) (by decide) (by have := HN8.out; exact Nat.le_trans this (by omega)) (by simp) HNU.out).mono ?_
      rintro e w5 ⟨rfl, b5⟩
      replace HB := hide (HB.out.trans (b5.mono HB.out.size))
      replace HX := hide (HX.out.call b5)
      replace HW := hide (HW.out.call b5)
      replace HS := hide (HS.out.call b5)
      clear b5
      have hHeld : w5.cell? ⟨S, 0, none⟩ = some (.string p.nm) ∧ w5.cell? ⟨S, 1, none⟩ = some (.int .i64 p.kd) ∧ w5.cell? ⟨S, 2, none⟩ = some (.int .i64 p.al) ∧ w5.cell? ⟨S, 3, none⟩ = some (.slice p.A p.zs.length p.c) ∧ w5.cell? ⟨S, 4, none⟩ = some (.int .i64 p.sz) ∧ w5.cell? ⟨S, 5, none⟩ = some (.slice p.F p.fs.length p.fc) := Six.of HS.out
      refine hK.out _ _ hHeld ?_
      clear hK K HL4 hz4
      try simp only [List.getElem_toArray, List.getElem_cons_succ, List.getElem_cons_zero, Act.put, List.setIfInBounds_toArray, List.set_cons_zero, List.set_cons_succ]
      refine Reg.takeT (i := 10) (v := ?_) rfl (by kernel_rfl) (by kernel_rfl) (by kernel_rfl) (by kernel_rfl) (fun _ _ _ h => h) (Or.inl ⟨by rfl, ?_⟩) (by assumption) ?_
      rotate_left 1
      focus (intro w hSw; (try dsimp only at hSw); go_simp; (try with_reducible rfl))
      try simp only [List.getElem_toArray, List.getElem_cons_succ, List.getElem_cons_zero, Act.put, List.setIfInBounds_toArray, List.set_cons_zero, List.set_cons_succ]
      clear hHeld
      refine Reg.doneT (by kernel_rfl) ?_ _
      have HLN := hide (lineS_eq HNM.out)
      have HLZ := hide (show (bs (lineW secW (nmL p.nm) [p.kd, p.al, secSize p.d])).size ≤ 1000000 from by
        rw [bs_size]
        have h := line_len (W := secW) (nm := nmL p.nm) (ns := [p.kd, p.al, secSize p.d]) (by decide) (by have := HN8.out; exact Nat.le_trans this (by omega)) HNU.out
        exact Nat.le_trans h (by simp))
      generalize hl1 : bs (lineW secW (nmL p.nm) [p.kd, p.al, secSize p.d]) = L1 at *
      have HL1 := hide hl1
      clear hl1
      have s3 := HS.out.cell 3
      simp only [List.getElem?_toArray, List.getElem?_cons_zero, List.getElem?_cons_succ] at s3
      have hsl := HS.out.lt
      go_upto_if 36 with (fail)
      go_cut [6] from 36 to 42 (fun v wx => v = .string (bs (lineS p.d)) ∧ Below w5.heap.size w5 wx)
      case first =>
        by_cases h0 : p.zs.length = 0
        · have hd : decide (0 < p.zs.length) = false := decide_eq_false (by omega)
          have HQ := hide (show bs (lineS p.d) = L1 from by
            rw [HLN.out, if_pos (show p.d.zs.length = 0 from h0)]
            exact HL1.out)
          clear h0
          simp only [hd]
          go_wp2_with fail
          go_meet
          exact ⟨by rw [HQ.out], Below.refl _ _⟩
        · have hd : decide (0 < p.zs.length) = true := decide_eq_true (by omega)
          have HQ := hide (show bs (lineS p.d) = L1 ++ ((⟨#[32]⟩ : ByteArray) ++ bs (hexL p.zs)) from by
            rw [HLN.out, if_neg (show ¬ p.d.zs.length = 0 from h0), sp_app, ← HL1.out, bs_app]
            rfl)
          have HHX := hide (hexText_any p.A p.zs p.c w5 ((HRS.out.1.below HB.out).more HB.out.size) HIZ.out (by omega))
          have hhl := bs_size (hexL p.zs)
          rw [hexL_len] at hhl
          have hlz : L1.size ≤ 1000000 := HLZ.out
          clear h0
          simp only [hd]
          generalize bs (hexL p.zs) = HXT at *
          have hq1 : ¬ 9223372036854775807 < 1 + HXT.size := by omega
          have hq2 : ¬ 9223372036854775807 < L1.size + (1 + HXT.size) := by omega
          go_wp2_with fail
          refine HHX.out.mono ?_
          rintro e w6 ⟨rfl, b6⟩
          have HB6 := hide b6
          clear b6 s3 hsl
          go_wp2_with fail
          go_meet
          exact ⟨by rw [HQ.out], HB6.out⟩
      case rest =>
        rename World => wc
        obtain ⟨rfl, hbc⟩ := hcut
        replace HB := hide (HB.out.trans (hbc.mono HB.out.size))
        replace HX := hide (HX.out.call hbc)
        replace HW := hide (HW.out.call hbc)
        replace HS := hide (HS.out.call hbc)
        clear hbc
        clear s3 hsl HLZ HLN HL1
        have hls : ls.length ≤ 56 := by omega
        have B6 : Below wc.heap.size wc (wc.alloc (.cells #[.string (bs (lineS p.d))] 9)) := (by repeat (first | exact Below.refl _ _ | with_reducible assumption | (refine Below.drew ?_) | (refine Below.drewN ?_ _) | (refine Below.alloc ?_ (by simp; try omega) _) | (refine Below.setCell ?_ (by simp; try omega) _)))
        replace HB := hide (HB.out.trans (B6.mono HB.out.size))
        replace HX := hide (HX.out.call B6)
        replace HW := hide (HW.out.call B6)
        replace HS := hide (HS.out.call B6)
        clear B6
        go_wp2_with (at_builtin; refine wpList_app (wc.alloc (.cells #[.string (bs (lineS p.d))] 9)) rfl (.tmp 43) (.tmp 45) 28 rfl 9 i0 (.string ByteArray.empty) 1 16 Tryz.underlying28 HI.out.1 HI.out.2.1 HI.out.2.2.1 HI.out.2.2.2 rfl (by decide) w.heap.size A1 ls.length c1 (nmC (ls.map bs)) rfl HW.out HB.out.size (some ⟨wc.heap.size, 0, none⟩) 1 1 [.string (bs (lineS p.d))] rfl (rd_lit wc #[.string (bs (lineS p.d))] 9 _ rfl) rfl (fun h => by cases h) (one_str _) ?n1 ?n2 ?_)
        case n1 => unfold maxLen; omega
        case n2 => omega
        intro A7 n7 c7 w7 hn7 o7 g7 k7
        subst hn7
        have HX7 := hide (HX.out.grown g7 (HW.out.box HX.out (by decide)))
        have HS7 := hide (HS.out.grown g7 (HW.out.box HS.out (by decide)))
        have HB7 := hide (HB.out.grown g7 HB.out.size (fun j hj => (HW.out.lt j hj).1))
        have HW7 := hide (show Row w7 w.heap.size 9 1 A7 (ls.length + 1) c7 (nmC ((ls ++ [lineS p.d]).map bs)) from by
          rw [nmC_snoc]
          exact o7)
        clear o7 g7 k7 HW HX HS HB
        have s5 := HS7.out.cell 5
        simp only [List.getElem?_toArray, List.getElem?_cons_zero, List.getElem?_cons_succ] at s5
        have hsl := HS7.out.lt
        go_wp2_with fail
        clear s5 hsl
        go_loopw [3, 50] (fun s i wi => ∃ (j : Nat) (A2 : Option Addr) (c2 : Nat) (ms : List (List UInt8)), j ≤ p.fs.length ∧ s = .slice A2 ms.length c2 ∧ i = .int .i64 j ∧ ms = (ls ++ [lineS p.d]) ++ (p.fs.take j).map lineF ∧ ms.length = ls.length + 1 + j ∧ Row wi w.heap.size 9 1 A2 ms.length c2 (nmC (ms.map bs)) ∧ Box wi w.heap.size 26 #[.slice o.A o.ps.length o.c, .slice o.Y o.ys.length o.yc] ∧ Below w.heap.size w wi) (fun _ i _ => p.fs.length - (intOf i).toNat)
        case atStart => exact ⟨0, A7, c7, ls ++ [lineS p.d], Nat.zero_le _, by simp, rfl, by simp, by simp, by simpa using HW7.out, HX7.out, HB7.out⟩
        case round =>
          rename World => wi
          clear HW7 HX7 HB7 HS7
          obtain ⟨j, A2, c2, ms, hj, rfl, rfl, hms, hml, hrow, hbox, hb⟩ := hrel
          have HMS := hide hms
          have HML := hide hml
          have hml2 : ms.length ≤ 63 := by omega
          have HW := hide hrow
          have HX := hide hbox
          have HB := hide hb
          clear hms hrow hbox hb hml
          by_cases hltj : j < p.fs.length
          · obtain ⟨fb, fo, hFA, hfb, hfc⟩ := (HRS.out.2.below HB.out).row fixupC_len (by decide) hltj
            have f0 := hfc 0 _ rfl
            have f1 := hfc 1 _ rfl
            have f2 := hfc 2 _ rfl
            have f3 := hfc 3 _ rfl
            simp only [Nat.add_zero] at f0
            have HFS := hide (show (p.fs.take (j + 1)).map lineF = (p.fs.take j).map lineF ++ [lineF p.fs[j]] from by rw [take_succ hltj, List.map_append]; rfl)
            have HGF := hide (HGS.out.2 p.fs[j] (List.getElem_mem hltj))
            rw [hFA]
            clear hfc hFA
            generalize p.fs[j] = f at *
            obtain ⟨f1', f2', f3', f4'⟩ := f
            simp only at f0 f1 f2 f3
            have HNF := hide (num4 HGF.out.1 HGF.out.2.1 HGF.out.2.2.1 HGF.out.2.2.2)
            simp only at HNF
            have BF : Below wi.heap.size wi (wi.alloc (.cells #[.int .i64 f1', .int .i64 f2', .int .i64 f3', .int .i64 f4'] 65)) := (by repeat (first | exact Below.refl _ _ | with_reducible assumption | (refine Below.drew ?_) | (refine Below.drewN ?_ _) | (refine Below.alloc ?_ (by simp; try omega) _) | (refine Below.setCell ?_ (by simp; try omega) _)))
            have HFB := hide (Box.new wi 65 #[.int .i64 f1', .int .i64 f2', .int .i64 f3', .int .i64 f4'])
            replace HB := hide (HB.out.trans (BF.mono HB.out.size))
            replace HX := hide (HX.out.call BF)
            replace HW := hide (HW.out.call BF)
            clear BF
            have BG : Below (wi.alloc (.cells #[.int .i64 f1', .int .i64 f2', .int .i64 f3', .int .i64 f4'] 65)).heap.size (wi.alloc (.cells #[.int .i64 f1', .int .i64 f2', .int .i64 f3', .int .i64 f4'] 65)) ((wi.alloc (.cells #[.int .i64 f1', .int .i64 f2', .int .i64 f3', .int .i64 f4'] 65)).alloc (.cells #[.int .i64 f1', .int .i64 f2', .int .i64 f3', .int .i64 f4'] 3)) := (by repeat (first | exact Below.refl _ _ | with_reducible assumption | (refine Below.drew ?_) | (refine Below.drewN ?_ _) | (refine Below.alloc ?_ (by simp; try omega) _) | (refine Below.setCell ?_ (by simp; try omega) _)))
            have hz : ((wi.alloc (.cells #[.int .i64 f1', .int .i64 f2', .int .i64 f3', .int .i64 f4'] 65)).alloc (.cells #[.int .i64 f1', .int .i64 f2', .int .i64 f3', .int .i64 f4'] 3)).heap.size = wi.heap.size + 2 := by simp
            have HL := hide (show Rd ((wi.alloc (.cells #[.int .i64 f1', .int .i64 f2', .int .i64 f3', .int .i64 f4'] 65)).alloc (.cells #[.int .i64 f1', .int .i64 f2', .int .i64 f3', .int .i64 f4'] 3)) ((wi.alloc (.cells #[.int .i64 f1', .int .i64 f2', .int .i64 f3', .int .i64 f4'] 65)).alloc (.cells #[.int .i64 f1', .int .i64 f2', .int .i64 f3', .int .i64 f4'] 3)).heap.size (some ⟨wi.heap.size + 1, 0, none⟩) (ints .i64 [f1', f2', f3', f4']) from by
              have h := rd_lit (wi.alloc (.cells #[.int .i64 f1', .int .i64 f2', .int .i64 f3', .int .i64 f4'] 65)) #[.int .i64 f1', .int .i64 f2', .int .i64 f3', .int .i64 f4'] 3 _ rfl
              have h2 := h.more (Nat.le_of_eq (show (wi.alloc (.cells #[.int .i64 f1', .int .i64 f2', .int .i64 f3', .int .i64 f4'] 65)).heap.size + 1 = ((wi.alloc (.cells #[.int .i64 f1', .int .i64 f2', .int .i64 f3', .int .i64 f4'] 65)).alloc (.cells #[.int .i64 f1', .int .i64 f2', .int .i64 f3', .int .i64 f4'] 3)).heap.size from by simp))
              have h3 : (wi.alloc (.cells #[.int .i64 f1', .int .i64 f2', .int .i64 f3', .int .i64 f4'] 65)).heap.size = wi.heap.size + 1 := by simp
              rw [h3] at h2
              exact h2)
            clear hz
            replace HB := hide (HB.out.trans (BG.mono HB.out.size))
            replace HX := hide (HX.out.call BG)
            replace HW := hide (HW.out.call BG)
            clear BG
            have f0 := HFB.out.cell 0
            have f1 := HFB.out.cell 1
            have f2 := HFB.out.cell 2
            have f3 := HFB.out.cell 3
            simp only [List.getElem?_toArray, List.getElem?_cons_zero, List.getElem?_cons_succ] at f0 f1 f2 f3
            go_wp2_with fail
            clear f0 f1 f2 f3
            generalize (wi.alloc (.cells #[.int .i64 f1', .int .i64 f2', .int .i64 f3', .int .i64 f4'] 65)).alloc (.cells #[.int .i64 f1', .int .i64 f2', .int .i64 f3', .int .i64 f4'] 3) = w8 at *
            refine (line_of ⟨#[102, 105, 120, 117, 112]⟩ ⟨#[]⟩ fixW rfl _ [f1', f2', f3', f4'] 4 w8 (HE.out.below HB.out) HL.out (by decide) (by decide) (by simp) HNF.out).mono ?_
            rintro e w9 ⟨rfl, b9⟩
            clear HL HFB
            replace HB := hide (HB.out.trans (b9.mono HB.out.size))
            replace HX := hide (HX.out.call b9)
            replace HW := hide (HW.out.call b9)
            clear b9
            have HLF := hide (show bs (lineW fixW (nmL ⟨#[]⟩) [f1', f2', f3', f4']) = bs (lineF (f1', f2', f3', f4')) from rfl)
            rw [HLF.out]
            have BA : Below w9.heap.size w9 (w9.alloc (.cells #[.string (bs (lineF (f1', f2', f3', f4')))] 9)) := (by repeat (first | exact Below.refl _ _ | with_reducible assumption | (refine Below.drew ?_) | (refine Below.drewN ?_ _) | (refine Below.alloc ?_ (by simp; try omega) _) | (refine Below.setCell ?_ (by simp; try omega) _)))
            replace HB := hide (HB.out.trans (BA.mono HB.out.size))
            replace HX := hide (HX.out.call BA)
            replace HW := hide (HW.out.call BA)
            clear BA
            go_wp2_with (at_builtin; refine wpList_app (w9.alloc (.cells #[.string (bs (lineF (f1', f2', f3', f4')))] 9)) rfl (.tmp 54) (.tmp 65) 28 rfl 9 i0 (.string ByteArray.empty) 1 16 Tryz.underlying28 HI.out.1 HI.out.2.1 HI.out.2.2.1 HI.out.2.2.2 rfl (by decide) w.heap.size A2 ms.length c2 (nmC (ms.map bs)) rfl HW.out HB.out.size (some ⟨w9.heap.size, 0, none⟩) 1 1 [.string (bs (lineF (f1', f2', f3', f4')))] rfl (rd_lit w9 #[.string (bs (lineF (f1', f2', f3', f4')))] 9 _ rfl) rfl (fun h => by cases h) (one_str _) ?n1 ?n2 ?_)
            case n1 => unfold maxLen; omega
            case n2 => omega
            intro A9 n9 c9 wz hn9 o9 g9 k9
            subst hn9
            have HX9 := hide (HX.out.grown g9 (HW.out.box HX.out (by decide)))
            have HB9 := hide (HB.out.grown g9 HB.out.size (fun j hj => (HW.out.lt j hj).1))
            have HW9 := hide (show Row wz w.heap.size 9 1 A9 (ms ++ [lineF (f1', f2', f3', f4')]).length c9 (nmC ((ms ++ [lineF (f1', f2', f3', f4')]).map bs)) from by
              rw [List.length_append, nmC_snoc]
              exact o9)
            have hq := HML.out
            have HLN9 := hide (show (ms ++ [lineF (f1', f2', f3', f4')]).length = ls.length + 1 + (j + 1) from by rw [List.length_append, hq]; rfl)
            have HMN9 := hide (show ms ++ [lineF (f1', f2', f3', f4')] = (ls ++ [lineS p.d]) ++ (p.fs.take (j + 1)).map lineF from by rw [HFS.out, HMS.out, List.append_assoc])
            clear o9 g9 k9 HW HX HB hq
            go_wp2_with fail
            refine ⟨⟨j + 1, A9, c9, _, by omega, by simp, by go_num, HMN9.out, HLN9.out, HW9.out, HX9.out, HB9.out⟩, by simp [intOf]; omega⟩
          · have hje : j = p.fs.length := by omega
            have HLK := hide (show ms = linesSs ((o.ps.take (k + 1)).map SV.d) from by
              rw [HSN.out, HMS.out, hje, List.take_length, HLS.out]
              simp [linesS, SV.d])
            have hmk : ms.length ≤ 7 * (k + 1) := by have := HML.out; omega
            have HMK := hide hmk
            clear hmk hje
            go_wp2_with fail
            refine ⟨⟨k + 1, A2, c2, ms, by omega, rfl, by go_num, HLK.out, HMK.out, HW.out, by rw [← HA.out]; exact HX.out, HB.out⟩, by simp [intOf]; omega⟩
    · have hke : k = o.ps.length := by omega
      have HL0 := hide (show ls = linesSs (o.ps.map SV.d) from by rw [HLS.out, hke, List.take_length])
      have hl56 : ls.length ≤ 56 := by omega
      clear hke
      have x1 := HX.out.cell 1
      simp only [List.getElem?_toArray, List.getElem?_cons_zero, List.getElem?_cons_succ] at x1
      have hxl := HX.out.lt
      go_wp2_with fail
      clear x1 hxl
      go_loopw [3, 72] (fun s i wi => ∃ (j : Nat) (A2 : Option Addr) (c2 : Nat) (ms : List (List UInt8)), j ≤ o.ys.length ∧ s = .slice A2 ms.length c2 ∧ i = .int .i64 j ∧ ms = ls ++ (o.ys.take j).map lineY ∧ ms.length = ls.length + j ∧ Row wi w.heap.size 9 1 A2 ms.length c2 (nmC (ms.map bs)) ∧ Below w.heap.size w wi) (fun _ i _ => o.ys.length - (intOf i).toNat)
      case atStart => exact ⟨0, A1, c1, ls, Nat.zero_le _, rfl, rfl, by simp, by simp, HW.out, HB.out⟩
      case round =>
        rename World => wi
        clear HW HX HB
        obtain ⟨j, A2, c2, ms, hj, rfl, rfl, hms, hml, hrow, hb⟩ := hrel
        have HMS := hide hms
        have HML := hide hml
        have hml2 : ms.length ≤ 68 := by omega
        have HW := hide hrow
        have HB := hide hb
        clear hms hrow hb hml
        by_cases hltj : j < o.ys.length
        · obtain ⟨fb, fo, hFA, hfb, hfc⟩ := (HR.out.2.below HB.out).row symbolC_len (by decide) hltj
          have f0 := hfc 0 _ rfl
          have f1 := hfc 1 _ rfl
          have f2 := hfc 2 _ rfl
          have f3 := hfc 3 _ rfl
          simp only [Nat.add_zero] at f0
          have HFS := hide (show (o.ys.take (j + 1)).map lineY = (o.ys.take j).map lineY ++ [lineY o.ys[j]] from by rw [take_succ hltj, List.map_append]; rfl)
          have HGF := hide (HG.out.2 o.ys[j] (List.getElem_mem hltj))
          rw [hFA]
          clear hfc hFA
          generalize o.ys[j] = f at *
          obtain ⟨y1, y2, y3, y4⟩ := f
          simp only at f0 f1 f2 f3
          have HNF := hide (num3 HGF.out.2.1 HGF.out.2.2.1 HGF.out.2.2.2)
          have HN8 := hide (nmW_ok HGF.out.1).2
          have HLY := hide (lineY_eq HGF.out.1)
          simp only at HNF HN8 HLY
          have BF : Below wi.heap.size wi (wi.alloc (.cells #[.string y1, .int .i64 y2, .int .i64 y3, .int .i64 y4] 67)) := (by repeat (first | exact Below.refl _ _ | with_reducible assumption | (refine Below.drew ?_) | (refine Below.drewN ?_ _) | (refine Below.alloc ?_ (by simp; try omega) _) | (refine Below.setCell ?_ (by simp; try omega) _)))
          have HFB := hide (Box.new wi 67 #[.string y1, .int .i64 y2, .int .i64 y3, .int .i64 y4])
          replace HB := hide (HB.out.trans (BF.mono HB.out.size))
          replace HW := hide (HW.out.call BF)
          clear BF
          have BG : Below (wi.alloc (.cells #[.string y1, .int .i64 y2, .int .i64 y3, .int .i64 y4] 67)).heap.size (wi.alloc (.cells #[.string y1, .int .i64 y2, .int .i64 y3, .int .i64 y4] 67)) ((wi.alloc (.cells #[.string y1, .int .i64 y2, .int .i64 y3, .int .i64 y4] 67)).alloc (.cells #[.int .i64 y2, .int .i64 y3, .int .i64 y4] 3)) := (by repeat (first | exact Below.refl _ _ | with_reducible assumption | (refine Below.drew ?_) | (refine Below.drewN ?_ _) | (refine Below.alloc ?_ (by simp; try omega) _) | (refine Below.setCell ?_ (by simp; try omega) _)))
          have hz : ((wi.alloc (.cells #[.string y1, .int .i64 y2, .int .i64 y3, .int .i64 y4] 67)).alloc (.cells #[.int .i64 y2, .int .i64 y3, .int .i64 y4] 3)).heap.size = wi.heap.size + 2 := by simp
          have HL := hide (show Rd ((wi.alloc (.cells #[.string y1, .int .i64 y2, .int .i64 y3, .int .i64 y4] 67)).alloc (.cells #[.int .i64 y2, .int .i64 y3, .int .i64 y4] 3)) ((wi.alloc (.cells #[.string y1, .int .i64 y2, .int .i64 y3, .int .i64 y4] 67)).alloc (.cells #[.int .i64 y2, .int .i64 y3, .int .i64 y4] 3)).heap.size (some ⟨wi.heap.size + 1, 0, none⟩) (ints .i64 [y2, y3, y4]) from by
            have h := rd_lit (wi.alloc (.cells #[.string y1, .int .i64 y2, .int .i64 y3, .int .i64 y4] 67)) #[.int .i64 y2, .int .i64 y3, .int .i64 y4] 3 _ rfl
            have h2 := h.more (Nat.le_of_eq (show (wi.alloc (.cells #[.string y1, .int .i64 y2, .int .i64 y3, .int .i64 y4] 67)).heap.size + 1 = ((wi.alloc (.cells #[.string y1, .int .i64 y2, .int .i64 y3, .int .i64 y4] 67)).alloc (.cells #[.int .i64 y2, .int .i64 y3, .int .i64 y4] 3)).heap.size from by simp))
            have h3 : (wi.alloc (.cells #[.string y1, .int .i64 y2, .int .i64 y3, .int .i64 y4] 67)).heap.size = wi.heap.size + 1 := by simp
            rw [h3] at h2
            exact h2)
          clear hz
          replace HB := hide (HB.out.trans (BG.mono HB.out.size))
          replace HW := hide (HW.out.call BG)
          clear BG
          have f0 := HFB.out.cell 0
          have f1 := HFB.out.cell 1
          have f2 := HFB.out.cell 2
          have f3 := HFB.out.cell 3
          simp only [List.getElem?_toArray, List.getElem?_cons_zero, List.getElem?_cons_succ] at f0 f1 f2 f3
          go_wp2_with fail
          clear f0 f1 f2 f3
          generalize ((wi.alloc (.cells #[.string y1, .int .i64 y2, .int .i64 y3, .int .i64 y4] 67)).alloc (.cells #[.int .i64 y2, .int .i64 y3, .int .i64 y4] 3)) = w8 at *
          refine (line_of ⟨#[115, 121, 109, 98, 111, 108]⟩ y1 symW rfl _ [y2, y3, y4] 3 w8 (HE.out.below HB.out) HL.out (by decide) (by have := HN8.out; exact Nat.le_trans this (by omega)) (by simp) HNF.out).mono ?_
          rintro e w9 ⟨rfl, b9⟩
          clear HL HFB
          replace HB := hide (HB.out.trans (b9.mono HB.out.size))
          replace HW := hide (HW.out.call b9)
          clear b9
          rw [← HLY.out]
          have BA : Below w9.heap.size w9 (w9.alloc (.cells #[.string (bs (lineY (y1, y2, y3, y4)))] 9)) := (by repeat (first | exact Below.refl _ _ | with_reducible assumption | (refine Below.drew ?_) | (refine Below.drewN ?_ _) | (refine Below.alloc ?_ (by simp; try omega) _) | (refine Below.setCell ?_ (by simp; try omega) _)))
          replace HB := hide (HB.out.trans (BA.mono HB.out.size))
          replace HW := hide (HW.out.call BA)
          clear BA
          go_wp2_with (at_builtin; refine wpList_app (w9.alloc (.cells #[.string (bs (lineY (y1, y2, y3, y4)))] 9)) rfl (.tmp 76) (.tmp 87) 28 rfl 9 i0 (.string ByteArray.empty) 1 16 Tryz.underlying28 HI.out.1 HI.out.2.1 HI.out.2.2.1 HI.out.2.2.2 rfl (by decide) w.heap.size A2 ms.length c2 (nmC (ms.map bs)) rfl HW.out HB.out.size (some ⟨w9.heap.size, 0, none⟩) 1 1 [.string (bs (lineY (y1, y2, y3, y4)))] rfl (rd_lit w9 #[.string (bs (lineY (y1, y2, y3, y4)))] 9 _ rfl) rfl (fun h => by cases h) (one_str _) ?n1 ?n2 ?_)
          case n1 => unfold maxLen; omega
          case n2 => omega
          intro A9 n9 c9 wz hn9 o9 g9 k9
          subst hn9
          have HB9 := hide (HB.out.grown g9 HB.out.size (fun j hj => (HW.out.lt j hj).1))
          have HW9 := hide (show Row wz w.heap.size 9 1 A9 (ms ++ [lineY (y1, y2, y3, y4)]).length c9 (nmC ((ms ++ [lineY (y1, y2, y3, y4)]).map bs)) from by
            rw [List.length_append, nmC_snoc]
            exact o9)
          have hq := HML.out
          have HLN9 := hide (show (ms ++ [lineY (y1, y2, y3, y4)]).length = ls.length + (j + 1) from by rw [List.length_append, hq]; rfl)
          have HMN9 := hide (show ms ++ [lineY (y1, y2, y3, y4)] = ls ++ (o.ys.take (j + 1)).map lineY from by rw [HFS.out, HMS.out, List.append_assoc])
          clear o9 g9 k9 HW HB hq
          go_wp2_with fail
          refine ⟨⟨j + 1, A9, c9, _, by omega, by simp, by go_num, HMN9.out, HLN9.out, HW9.out, HB9.out⟩, by simp [intOf]; omega⟩
        · have hje : j = o.ys.length := by omega
          have HEND := hide (show (dumpL o.d).map bs = ms.map bs from by
            rw [HV.out, linesO, HMS.out, hje, List.take_length, HL0.out]
            rfl)
          have hlm : (ms.map bs).length = ms.length := List.length_map ..
          clear hje
          go_wp2_with fail
          go_ret
          rw [HEND.out]
          exact ⟨A2, c2, by rw [hlm]; rfl, by rw [hlm]; exact HW.out, HB.out⟩
end Go.Proofs.YtepoiphmmjfbdaaGreatDoor.CDumpI
/- Rows of texts in the laws: copied, sized, compared, marked. -/
namespace Go.Proofs.YtepoiphmmjfbdaaGreatDoor.CStrRows
set_option maxRecDepth 200000
open Go.ChangeShapes Go.WideShapes Go.ChangeAt Go.RowKit Kit CMarkText CSorted CNames CWordsS BStore
theorem rd_nm {w : World} {B : Nat} {A : Option Addr} {xs : List ByteArray} (h : Rd w B A (nmC xs)) {k : Nat} (hk : k < xs.length) : ∃ b off, A = some ⟨b, off, none⟩ ∧ b < B ∧ w.cell? ⟨b, off + k, none⟩ = some (.string xs[k]) := by
  obtain ⟨b, off, h1, h2, h3⟩ := h k (.string xs[k]) (by simp [nmC, List.getElem?_eq_getElem hk])
  exact ⟨b, off, h1, h2, h3⟩
theorem sameTexts_same (A A' : Option Addr) (xs : List ByteArray) (c c' : Nat) (w : World) (hr : Rd w w.heap.size A (nmC xs)) (hr' : Rd w w.heap.size A' (nmC xs)) (hm : xs.length ≤ 2000000) :
    Calls Tryz.prog 10 #[.slice A xs.length c, .slice A' xs.length c'] w (Ret (.bool true) w) := by
  have HR := hide hr
  have HR' := hide hr'
  clear hr hr'
  go_enter Tryz.func10, Tryz.ntmps10
  go_wp2_with fail
  go_loopw [5] (fun i wi => ∃ k : Nat, k ≤ xs.length ∧ i = .int .i64 k ∧ Below w.heap.size w wi) (fun i _ => xs.length - (intOf i).toNat)
  case atStart => exact ⟨0, Nat.zero_le _, rfl, Below.refl _ _⟩
  case round =>
    obtain ⟨k, hk, rfl, hb⟩ := hrel
    have HB := hide hb
    by_cases hlt : k < xs.length
    · obtain ⟨b, off, rfl, hbg, hc⟩ := rd_nm (HR.out.below hb) hlt
      obtain ⟨b', off', rfl, hbg', hc'⟩ := rd_nm (HR'.out.below hb) hlt
      clear hb
      generalize xs[k] = x at *
      go_wp2_with fail
      go_quiet (fail)
      replace HB := hide (Kit.Below.drewN HB.out nq)
      go_wp2_with fail
      refine ⟨⟨k + 1, by omega, by go_num, HB.out⟩, by simp [intOf]; omega⟩
    · have hke : k = xs.length := by omega
      subst hke
      clear hb
      go_wp2_with fail
      go_ret
      exact ⟨rfl, HB.out⟩
end Go.Proofs.YtepoiphmmjfbdaaGreatDoor.CStrRows
/- slices.Equal on texts that are read, strings.Cut at a space. -/
namespace Go.Proofs.YtepoiphmmjfbdaaGreatDoor.CEqN
set_option maxRecDepth 200000
open Go.ChangeShapes Go.WideShapes Go.ChangeAt Go.RowKit Kit CNumTxt PNum PDump CHexI CHexS CSorted CNames CWordsS BStore BDesk PDesk CStrRows
theorem nm_cells {w : World} {B b off : Nat} {xs : List ByteArray} (h : Rd w B (some ⟨b, off, none⟩) (nmC xs)) : ∀ j, j < xs.length → w.cell? ⟨b, off + j, none⟩ = some (.string (xs.getD j ByteArray.empty)) := by
  intro j hj
  obtain ⟨b', off', h1, _, h3⟩ := rd_nm h hj
  injection h1 with h1
  injection h1 with h1 h2
  subst h1
  subst h2
  rw [h3, List.getD_eq_getElem?_getD, List.getElem?_eq_getElem hj]
  rfl
theorem equalN_any (A A' : Option Addr) (xs ys : List ByteArray) (c c' : Nat) (w : World) (hr : Rd w w.heap.size A (nmC xs)) (hr' : Rd w w.heap.size A' (nmC ys)) (h1 : xs.length ≤ 9223372036854775807) (h2 : ys.length ≤ 9223372036854775807) :
    Calls Tryz.prog 94 #[.slice A xs.length c, .slice A' ys.length c'] w (Ret (.bool (decide (xs = ys))) w) := by
  by_cases hl : xs.length = ys.length
  · by_cases h0 : xs.length = 0
    · have hx : xs = [] := List.eq_nil_of_length_eq_zero h0
      have hy : ys = [] := List.eq_nil_of_length_eq_zero (by omega)
      subst hx
      subst hy
      refine (XDesk.slices_Equal_string_empty A A' c 0 c' w (by omega)).mono ?_
      rintro e w' ⟨rfl, rfl⟩
      exact ⟨by simp, Below.refl _ _⟩
    · obtain ⟨b, off, rfl, _, _⟩ := rd_nm hr (k := 0) (by omega)
      obtain ⟨b', off', rfl, _, _⟩ := rd_nm hr' (k := 0) (by omega)
      refine (XDesk.slices_Equal_string b off xs.length c b' off' ys.length c' xs ys w (Nat.le_refl _) (Nat.le_refl _) (by omega) (by omega) (nm_cells hr) (nm_cells hr')).mono ?_
      rintro e w' ⟨rfl, q, rfl⟩
      rw [List.take_length, List.take_length]
      exact ⟨rfl, Kit.Below.drewN (Below.refl _ _) q⟩
  · refine (XDesk.slices_Equal_string_lens A A' xs.length c ys.length c' w hl).mono ?_
    rintro e w' ⟨rfl, rfl⟩
    have : ¬ xs = ys := fun h => hl (by rw [h])
    rw [decide_eq_false this]
    exact ⟨rfl, Below.refl _ _⟩
theorem cut_any (s : ByteArray) (hs : s.size ≤ 1048576) (w : World) (he : Env w) :
    Calls Tryz.prog 45 #[.string s, .string ⟨#[32]⟩] w fun e w' => (∃ b, e = .returned (.tuple #[.string (bs (cutW s.data.toList)), .string (bs (cutR s.data.toList)), .bool b])) ∧ Below w.heap.size w w' := by
  obtain ⟨m, hm⟩ := he.mx
  refine (XDesk.strings_Cut s ⟨#[32]⟩ m w (by omega) hm).mono ?_
  rintro e w' ⟨rfl, q, rfl⟩
  obtain ⟨h1, h2⟩ := lib_cut s.data.toList
  have e1 : (⟨#[32]⟩ : ByteArray).data.toList = [32] := rfl
  rw [e1, h1, h2]
  exact ⟨⟨_, rfl⟩, Kit.Below.drewN (Below.refl _ _) q⟩
end Go.Proofs.YtepoiphmmjfbdaaGreatDoor.CEqN
/- How large an object is that is read out of lines: plain. -/
namespace Go.Proofs.YtepoiphmmjfbdaaGreatDoor.PStep
set_option maxRecDepth 200000
open Go.ChangeShapes Go.WideShapes Go.ChangeAt Go.RowKit Kit CCode CName CNumTxt CFixups CSymbols PObj PValid PClear PNum PDump CWordsS
/-- After k lines of at most n bytes each. -/
def SzD (n k : Nat) (d : OD) : Prop := d.ss.length ≤ k ∧ d.ys.length ≤ k ∧ (∀ s ∈ d.ss, s.nm.size ≤ n ∧ s.zs.length ≤ n ∧ s.fs.length ≤ k) ∧ ∀ y ∈ d.ys, y.1.size ≤ n
theorem sz_more {n k : Nat} {d : OD} (h : SzD n k d) : SzD n (k + 1) d := ⟨by have := h.1; omega, by have := h.2.1; omega, fun s hs => ⟨(h.2.2.1 s hs).1, (h.2.2.1 s hs).2.1, by have := (h.2.2.1 s hs).2.2; omega⟩, h.2.2.2⟩
theorem sz_nil (n k : Nat) : SzD n k ⟨[], []⟩ := ⟨by simp, by simp, (fun s hs => absurd hs List.not_mem_nil), (fun s hs => absurd hs List.not_mem_nil)⟩
theorem bs_sz (l : List UInt8) : (bs l).size = l.length := by
  show l.toArray.size = _
  simp
theorem sz_addS {n k : Nat} {d : OD} {s : SD} (h : SzD n k d) (h1 : s.nm.size ≤ n) (h2 : s.zs.length ≤ n) (h3 : s.fs = []) : SzD n (k + 1) (addS d s) := by
  refine ⟨by simp only [addS, List.length_append, List.length_singleton]; have := h.1; omega, by have := h.2.1; show d.ys.length ≤ _; omega, fun x hx => ?_, h.2.2.2⟩
  rcases List.mem_append.1 hx with hx | hx
  · have := h.2.2.1 x hx
    exact ⟨this.1, this.2.1, by omega⟩
  · rw [List.mem_singleton.1 hx]
    exact ⟨h1, h2, by rw [h3]; simp⟩
theorem sz_addY {n k : Nat} {d : OD} {y : YD} (h : SzD n k d) (h1 : y.1.size ≤ n) : SzD n (k + 1) (addY d y) := by
  refine ⟨by have := h.1; show d.ss.length ≤ _; omega, by simp only [addY, List.length_append, List.length_singleton]; have := h.2.1; omega, fun s hs => (sz_more h).2.2.1 s hs, fun x hx => ?_⟩
  rcases List.mem_append.1 hx with hx | hx
  · exact h.2.2.2 x hx
  · rw [List.mem_singleton.1 hx]
    exact h1
theorem sz_addF {n k : Nat} {d d' : OD} {f : FD} (h : SzD n k d) (e : addF d f = some d') : SzD n (k + 1) d' := by
  unfold addF at e
  cases hl : d.ss.getLast? with
  | none => rw [hl] at e; cases e
  | some s =>
    rw [hl] at e
    simp only [Option.some.injEq] at e
    subst e
    have hs := h.2.2.1 s (List.mem_of_getLast? hl)
    refine ⟨?_, by have := h.2.1; show d.ys.length ≤ _; omega, fun x hx => ?_, h.2.2.2⟩
    · simp only [List.length_append, List.length_dropLast, List.length_singleton]
      have := h.1
      omega
    · rcases List.mem_append.1 hx with hx | hx
      · exact (sz_more h).2.2.1 x (List.dropLast_subset _ hx)
      · rw [List.mem_singleton.1 hx]
        refine ⟨hs.1, hs.2.1, ?_⟩
        show (s.fs ++ [f]).length ≤ _
        rw [List.length_append, List.length_singleton]
        omega
theorem splt_bd (c : UInt8) (l : List UInt8) (i : Nat) : ((splt c l).getD i []).length ≤ l.length := by
  rw [List.getD_eq_getElem?_getD]
  by_cases hi : i < (splt c l).length
  · rw [List.getElem?_eq_getElem hi]
    exact splt_mem c l _ (List.getElem_mem hi)
  · rw [List.getElem?_eq_none (by omega)]
    simp
theorem unhex_le {l : List UInt8} {zs : List Int} (h : unhex l = some zs) : zs.length ≤ l.length := by
  have := unhex_len h
  omega
theorem sz_wordI {n k : Nat} {d d' : OD} {ws : List (List UInt8)} {hx : List UInt8} (h : SzD n k d) (h1 : (ws.getD 1 []).length ≤ n) (h2 : hx.length ≤ n) (e : wordI d ws hx = some d') : SzD n (k + 1) d' := by
  unfold wordI at e
  split at e
  · cases e
  split at e
  · obtain ⟨ns, _, e⟩ := Option.bind_eq_some_iff.1 e
    exact sz_addF h e
  · obtain ⟨ns, _, e⟩ := Option.bind_eq_some_iff.1 e
    split at e
    · obtain ⟨zs, hz, rfl⟩ := Option.map_eq_some_iff.1 e
      exact sz_addS h (by show (bs _).size ≤ n; rw [bs_sz]; exact h1) (Nat.le_trans (unhex_le hz) h2) rfl
    · injection e with e
      subst e
      exact sz_addY h (by show (bs _).size ≤ n; rw [bs_sz]; exact h1)
theorem sz_stepI {n k : Nat} {d d' : OD} {l : List UInt8} (h : SzD n k d) (hl : l.length ≤ n) (e : stepI d l = some d') : SzD n (k + 1) d' := by
  unfold stepI at e
  have hb := splt_bd (32 : UInt8) l
  refine sz_wordI h ?_ ?_ e
  · unfold takeHex
    split
    · simp only
      rw [List.getD_eq_getElem?_getD]
      by_cases hi : 1 < ((splt 32 l).take 5).length
      · rw [List.getElem?_eq_getElem hi, List.getElem_take]
        have h2 := hb 1
        rw [List.getD_eq_getElem?_getD, List.getElem?_eq_getElem (by rw [List.length_take] at hi; omega)] at h2
        simp only [Option.getD_some] at h2 ⊢
        omega
      · rw [List.getElem?_eq_none (by omega)]
        simp
    · have := hb 1
      simp only
      omega
  · unfold takeHex
    split
    · have := hb 5
      simp only
      omega
    · simp
end Go.Proofs.YtepoiphmmjfbdaaGreatDoor.PStep
/- ReadDump: the object of lines; the program's. -/
namespace Go.Proofs.YtepoiphmmjfbdaaGreatDoor.CReadDI
set_option maxRecDepth 200000
open Go.ChangeShapes Go.WideShapes Go.ChangeAt Go.RowKit Kit CCode CName CFixups CSymbols PObj BObj PValid PClear CNumTxt PNum PDump CHexI CHexS CSorted CNames CWordsS BStore BDesk CNumsI CReadI CMarkRows BObj2 BObj3 CEqN PStep CObjValid CStrRows BRetO
theorem sz_fit {o : OV} {w : World} {base : Nat} (h : SzD 1048576 1048576 o.d) (ho : OwnO w base o) : Fit o := by
  refine ⟨by simpa [OV.d] using h.1, by simpa [OV.d] using h.2.1, ho.2.cap.1, fun p hp => ?_, fun y hy => ?_⟩
  · obtain ⟨h1, h2, h3⟩ := h.2.2.1 p.d (List.mem_map_of_mem hp)
    have h1' : p.nm.size ≤ 1048576 := h1
    refine ⟨by unfold maxLen; omega, h2, h3⟩
  · have := h.2.2.2 y hy
    unfold maxLen
    omega
theorem sz_up {n k m : Nat} {d : OD} (h : SzD n k d) (hk : k ≤ m) : SzD n m d := ⟨Nat.le_trans h.1 hk, Nat.le_trans h.2.1 hk, fun s hs => ⟨(h.2.2.1 s hs).1, (h.2.2.1 s hs).2.1, Nat.le_trans (h.2.2.1 s hs).2.2 hk⟩, h.2.2.2⟩
theorem map_bs {a b : List (List UInt8)} : a.map bs = b.map bs ↔ a = b := by
  constructor
  · intro h
    have := congrArg (List.map nmL) h
    rw [List.map_map, List.map_map] at this
    have e : nmL ∘ bs = id := by funext x; exact nm_bs x
    rwa [e, List.map_id, List.map_id] at this
  · rintro rfl
    rfl
set_option maxHeartbeats 8000000 in
theorem readDump_any (A : Option Addr) (ls : List (List UInt8)) (c : Nat) (w : World) (hr : Rd w w.heap.size A (nmC (ls.map bs))) (hm : ls.length ≤ 1048576) (hl : ∀ x ∈ ls, x.length ≤ 1048576) (he : Env w) :
    Calls Tryz.prog 47 #[.slice A ls.length c] w (RetOB (readI ls) w) := by
  have HR := hide hr
  have HE := hide he
  have HL := hide hl
  clear hr he hl
  have HB := hide (show Below w.heap.size w ((w.alloc (.cells #[.slice none 0 0, .slice none 0 0] 26)).alloc (.cells #[.slice none 0 0, .slice none 0 0] 26)) from (by repeat (first | exact Below.refl _ _ | with_reducible assumption | (refine Below.drew ?_) | (refine Below.drewN ?_ _) | (refine Below.alloc ?_ (by simp; try omega) _) | (refine Below.setCell ?_ (by simp; try omega) _))))
  have HRR := hide ((Box.new w 26 #[.slice none 0 0, .slice none 0 0]).alloc (.cells #[.slice none 0 0, .slice none 0 0] 26))
  have hx := Box.new (w.alloc (.cells #[.slice none 0 0, .slice none 0 0] 26)) 26 #[.slice none 0 0, .slice none 0 0]
  simp only [World.size_alloc] at hx
  have HX := hide hx
  have hwz : ((w.alloc (.cells #[.slice none 0 0, .slice none 0 0] 26)).alloc (.cells #[.slice none 0 0, .slice none 0 0] 26)).heap.size = w.heap.size + 2 := by simp only [World.size_alloc]
  clear hx
  go_enter Tryz.func47, Tryz.ntmps47
  go_wp2_with fail
  generalize (w.alloc (.cells #[.slice none 0 0, .slice none 0 0] 26)).alloc (.cells #[.slice none 0 0, .slice none 0 0] 26) = w0 at *
  generalize hg : w.heap.size + 1 = g at *
  have HG := hide (show w.heap.size < g from by omega)
  have HGW := hide (show g ≤ w0.heap.size from by omega)
  have HH := hide (show Held w0 g g nilO from ⟨HX.out, ⟨⟨Row.empty _ _ _ _ _, (fun p hp => by cases hp), List.Pairwise.nil⟩, Row.empty _ _ _ _ _⟩, by
    rintro k ((hk | ⟨p, hp, hk⟩) | hk)
    · cases hk
    · cases hp
    · cases hk⟩)
  clear HX hg hwz
  go_loopw [10] (fun i wi => ∃ (k : Nat) (o : OV), k ≤ ls.length ∧ i = .int .i64 k ∧ stepsI ⟨[], []⟩ ls = stepsI o.d (ls.drop k) ∧ SzD 1048576 k o.d ∧ InD o.d ∧ Held wi g g o ∧ Box wi w.heap.size 26 #[.slice none 0 0, .slice none 0 0] ∧ Below w.heap.size w wi ∧ g ≤ wi.heap.size) (fun i _ => ls.length - (intOf i).toNat)
  case atStart => exact ⟨0, nilO, Nat.zero_le _, rfl, rfl, sz_nil _ _, inD_nil, HH.out, HRR.out, HB.out, HGW.out⟩
  case round =>
    clear HH HRR HB HGW
    obtain ⟨k, o, hk, rfl, hst, hsz, hin, hh, hrr, hb, hgw⟩ := hrel
    have HST := hide hst
    have HSZ := hide hsz
    have HIN := hide hin
    have HH := hide hh
    have HRR := hide hrr
    have HB := hide hb
    clear hst hsz hin hh hrr
    by_cases hlt : k < ls.length
    · obtain ⟨b, off, rfl, hbg, hc⟩ := CNumsI.Rd.str (HR.out.below hb) hlt
      have HLX := hide (HL.out _ (List.getElem_mem hlt))
      have HST2 := hide (show stepsI ⟨[], []⟩ ls = (stepI o.d ls[k]).bind fun d' => stepsI d' (ls.drop (k + 1)) from by
        rw [HST.out, List.drop_eq_getElem_cons hlt]
        rfl)
      clear hb HST
      generalize ls[k] = x at *
      have hon1 : o.ps.length ≤ 4000000 := by have h := HSZ.out.1; simp [OV.d] at h; omega
      have hon2 : o.ys.length ≤ 4000000 := by have h : o.ys.length ≤ k := HSZ.out.2.1; omega
      have hon3 : Hid (∀ p ∈ o.ps, p.fs.length ≤ 4000000) := hide fun p hp => by
        have h : p.fs.length ≤ k := (HSZ.out.2.2.1 p.d (List.mem_map_of_mem hp)).2.2
        omega
      have HC := hide (readLine_any g g o (bs x) wr HH.out (Nat.le_refl _) hgw (by rw [bs_size]; exact HLX.out) (HE.out.below HB.out) hon1 hon2 hon3.out)
      rw [show (bs x).data.toList = x from by simp [bs]] at HC
      clear hon1 hon2 hon3
      go_wp2_with fail
      refine HC.out.mono ?_
      rintro e w2 ⟨bv, rfl, b2, hm2⟩
      have HM2 := hide hm2
      replace HB := hide (HB.out.trans (b2.mono (Nat.le_of_lt HG.out)))
      replace HRR := hide (HRR.out.below b2 HG.out)
      have hgw2 : g ≤ w2.heap.size := Nat.le_trans hgw b2.size
      clear HC hm2 b2 hc hgw
      cases hs : stepI o.d x with
      | none =>
        rw [hs] at HM2
        have hbv : bv = false := HM2.out
        subst hbv
        have HV := hide (show readI ls = none from by
          unfold readI
          rw [HST2.out, hs]
          rfl)
        clear hs HM2 HST2 HSZ HIN HH
        have y0 := HRR.out.cell 0
        have y1 := HRR.out.cell 1
        simp only [List.getElem?_toArray, List.getElem?_cons_zero, List.getElem?_cons_succ] at y0 y1
        have yf0 := HRR.out.frozen 0
        have yf1 := HRR.out.frozen 1
        have hrl := HRR.out.lt
        obtain ⟨k0, k1⟩ := cells2 (u := .slice none 0 0) (v := .slice none 0 0) HRR.out
        have HFB := hide (below2 HB.out (Nat.le_refl _) (.slice none 0 0) (.slice none 0 0))
        go_wp2_with fail
        (try simp only [Exit.inBlock, Exit.then])
        exact bodyPost_ret (v := .tuple #[.agg #[.slice none 0 0, .slice none 0 0], .bool false]) (by simp [results, Tryz.results47, go_sem, k0, k1]) rfl (by rw [HV.out]; exact ret_nilO HFB.out)
      | some d' =>
        rw [hs] at HM2
        obtain ⟨rfl, o2, rfl, hh2⟩ := HM2.out
        have HH2 := hide hh2
        have HS2 := hide (sz_stepI HSZ.out HLX.out hs)
        have HI2 := hide (inD_stepI HIN.out hs)
        have HT2 := hide (show stepsI ⟨[], []⟩ ls = stepsI o2.d (ls.drop (k + 1)) from by
          rw [HST2.out, hs]
          rfl)
        clear hs HM2 HST2 HSZ HIN HH hh2
        go_wp2_with fail
        refine ⟨⟨k + 1, o2, by omega, by go_num, HT2.out, HS2.out, HI2.out, HH2.out, HRR.out, HB.out, hgw2⟩, by simp [intOf]; omega⟩
    · obtain rfl : k = ls.length := by omega
      have HS := hide (show stepsI ⟨[], []⟩ ls = some o.d from by
        rw [HST.out, List.drop_eq_nil_of_le (Nat.le_refl _)]
        rfl)
      have HF := hide (sz_fit (sz_up HSZ.out hm) HH.out.own)
      have HRO := hide (HH.out.own.rd)
      clear HST HSZ hb
      have hx := HH.out.box
      have x0 := hx.cell 0
      have x1 := hx.cell 1
      simp only [List.getElem?_toArray, List.getElem?_cons_zero, List.getElem?_cons_succ] at x0 x1
      have hxl := hx.lt
      clear hx
      go_wp2_with fail
      refine (objectValid_any o wr HRO.out HF.out).mono ?_
      rintro e w2 ⟨rfl, b2⟩
      clear x0 x1 hxl
      replace HRO := hide ((HRO.out.below b2).more b2.size)
      replace HX := hide (HH.out.box.call b2)
      have HO := hide (HH.out.own.call b2)
      replace HB := hide (HB.out.trans (b2.mono HB.out.size))
      replace HRR := hide (HRR.out.call b2)
      clear b2
      cases hok : objOk o.d
      · have HV := hide (show readI ls = none from by
          unfold readI
          rw [HS.out]
          unfold fin
          simp only
          rw [if_neg (by rw [hok]; intro h; cases h.1)])
        clear hok
        have y0 := HRR.out.cell 0
        have y1 := HRR.out.cell 1
        simp only [List.getElem?_toArray, List.getElem?_cons_zero, List.getElem?_cons_succ] at y0 y1
        have yf0 := HRR.out.frozen 0
        have yf1 := HRR.out.frozen 1
        have hrl := HRR.out.lt
        obtain ⟨k0, k1⟩ := cells2 (u := .slice none 0 0) (v := .slice none 0 0) HRR.out
        have HFB := hide (below2 HB.out (Nat.le_refl _) (.slice none 0 0) (.slice none 0 0))
        go_wp2_with fail
        (try simp only [Exit.inBlock, Exit.then])
        exact bodyPost_ret (v := .tuple #[.agg #[.slice none 0 0, .slice none 0 0], .bool false]) (by simp [results, Tryz.results47, go_sem, k0, k1]) rfl (by rw [HV.out]; exact ret_nilO HFB.out)
      have HOK := hide hok
      clear hok
      have x0 := HX.out.cell 0
      have x1 := HX.out.cell 1
      simp only [List.getElem?_toArray, List.getElem?_cons_zero, List.getElem?_cons_succ] at x0 x1
      have hxl := HX.out.lt
      go_wp2_with fail
      refine (CDumpI.dumpObject_any o w2 HRO.out HF.out HIN.out (HE.out.below HB.out)).mono ?_
      rintro e w3 ⟨A9, c9, rfl, row9, b9⟩
      clear x0 x1 hxl
      replace HB := hide (HB.out.trans (b9.mono HB.out.size))
      replace HRR := hide (HRR.out.call b9)
      replace HX := hide (HX.out.call b9)
      replace HO := hide (HO.out.call b9)
      clear b9
      have HEQ := hide (equalN_any A9 A ((dumpL o.d).map bs) (ls.map bs) c9 c w3 row9.rd ((HR.out.below HB.out).more HB.out.size) (by have := row9.cap; unfold maxLen at this; omega) (by rw [List.length_map]; omega))
      rw [show (List.map bs ls).length = ls.length from by simp] at HEQ
      generalize ((dumpL o.d).map bs).length = dn at *
      have HQ := hide (show decide ((dumpL o.d).map bs = ls.map bs) = decide (dumpL o.d = ls) from by
        rw [decide_eq_decide]
        exact map_bs)
      rw [HQ.out] at HEQ
      clear HQ row9
      go_wp2_with fail
      refine HEQ.out.mono ?_
      rintro e w4 ⟨rfl, b4⟩
      clear HEQ
      replace HB := hide (HB.out.trans (b4.mono HB.out.size))
      replace HRR := hide (HRR.out.call b4)
      replace HX := hide (HX.out.call b4)
      replace HO := hide (HO.out.call b4)
      clear b4
      have y0 := HRR.out.cell 0
      have y1 := HRR.out.cell 1
      simp only [List.getElem?_toArray, List.getElem?_cons_zero, List.getElem?_cons_succ] at y0 y1
      have yf0 := HRR.out.frozen 0
      have yf1 := HRR.out.frozen 1
      have hrl := HRR.out.lt
      by_cases hd : dumpL o.d = ls
      · have HV := hide (show readI ls = some o.d from by
          unfold readI
          rw [HS.out]
          unfold fin
          simp only
          rw [if_pos ⟨HOK.out, hd⟩])
        rw [decide_eq_true hd]
        clear hd
        have x0 := HX.out.cell 0
        have x1 := HX.out.cell 1
        simp only [List.getElem?_toArray, List.getElem?_cons_zero, List.getElem?_cons_succ] at x0 x1
        have hxl := HX.out.lt
        obtain ⟨k0, k1⟩ := cells2 (u := .slice o.A o.ps.length o.c) (v := .slice o.Y o.ys.length o.yc) HRR.out
        have HFB := hide (below2 HB.out (Nat.le_refl _) (.slice o.A o.ps.length o.c) (.slice o.Y o.ys.length o.yc))
        go_wp2_with fail
        (try simp only [Exit.inBlock, Exit.then])
        exact bodyPost_ret (v := .tuple #[.agg #[.slice o.A o.ps.length o.c, .slice o.Y o.ys.length o.yc], .bool true]) (by simp [results, Tryz.results47, go_sem, k0, k1]) rfl (by
          rw [HV.out]
          exact ⟨o, rfl, HFB.out, fun d hd => by
            injection hd with hd
            refine ⟨hd, ?_⟩
            exact OwnO.set (a := ⟨w.heap.size, 1, none⟩) (OwnO.set (a := ⟨w.heap.size, 0, none⟩) (HO.out.down (Nat.le_of_lt HG.out)) (fun k hk e => by have := (HO.out.lt k hk).1; have := HG.out; have e' : k = w.heap.size := e; omega) _) (fun k hk e => by have := (HO.out.lt k hk).1; have := HG.out; have e' : k = w.heap.size := e; omega) _⟩)
      · have HV := hide (show readI ls = none from by
          unfold readI
          rw [HS.out]
          unfold fin
          simp only
          rw [if_neg (fun h => hd h.2)])
        rw [decide_eq_false hd]
        clear hd
        obtain ⟨k0, k1⟩ := cells2 (u := .slice none 0 0) (v := .slice none 0 0) HRR.out
        have HFB := hide (below2 HB.out (Nat.le_refl _) (.slice none 0 0) (.slice none 0 0))
        go_wp2_with fail
        (try simp only [Exit.inBlock, Exit.then])
        exact bodyPost_ret (v := .tuple #[.agg #[.slice none 0 0, .slice none 0 0], .bool false]) (by simp [results, Tryz.results47, go_sem, k0, k1]) rfl (by rw [HV.out]; exact ret_nilO HFB.out)
end Go.Proofs.YtepoiphmmjfbdaaGreatDoor.CReadDI
/- How long what a desk reads is, and that its objects stay objects of bytes; plain. -/
namespace Go.Proofs.YtepoiphmmjfbdaaGreatDoor.PDesk2
set_option maxRecDepth 200000
open Go.ChangeShapes Go.WideShapes Go.ChangeAt Go.RowKit Kit CCode CName CFixups CSymbols PObj PValid PClear PLink PNum PDump PJoin PDesk PLinkIn PStep
theorem cut_len (s : List UInt8) : (cutW s).length ≤ s.length ∧ (cutR s).length ≤ s.length ∧ (cutR s ≠ [] → (cutW s).length + 1 + (cutR s).length = s.length) := by
  rcases cut_or 32 s with h | ⟨x, r, rfl, h⟩
  · obtain ⟨e1, e2⟩ := cut_none h
    rw [e1, e2]
    exact ⟨Nat.le_refl _, Nat.zero_le _, fun h => absurd rfl h⟩
  · obtain ⟨e1, e2⟩ := cut_at (r := r) h
    rw [e1, e2, List.length_append, List.length_cons]
    exact ⟨by omega, by omega, fun _ => by omega⟩
theorem find_bd {l : List OD} {nm : ByteArray} {g : G} (h : objsOk l = true) (e : findN l nm = some g) : g.1 ≤ 4 ∧ g.2 ≤ 12 := by
  obtain ⟨h1, h2, _⟩ := find_ok e
  simp only [objsOk, Bool.and_eq_true, decide_eq_true_eq, List.all_eq_true] at h
  have h3 := h.2 (l[g.1]) (List.getElem_mem h1)
  have h4 := (obj_all h3).2.1
  rw [List.getD_eq_getElem?_getD, List.getElem?_eq_getElem h1] at h2
  simp only [Option.getD_some] at h2
  omega
end Go.Proofs.YtepoiphmmjfbdaaGreatDoor.PDesk2
/- DeskLine: a line of a session; the program's. -/
namespace Go.Proofs.YtepoiphmmjfbdaaGreatDoor.CDeskI
set_option maxRecDepth 200000
open Go.ChangeShapes Go.WideShapes Go.ChangeAt Go.RowKit Kit CCode CName CNumTxt CFixups CSymbols PObj BObj PValid PClear PNum PDump PLink PLinkL BList CMarkRows BObj2 BRetO CObjValid CCopyS CValids CSorted CNames CWordsS CObjL COwnL PJoin PJoin2 PDesk PDesk2 PLinkIn BDesk CHexI CHexS CJoinAI CDeskLI CReadDI CEqN CFind CStrRows
/-- Objects and an answer. -/
def RetDA (r : DA) (w : World) (e : Ending) (w' : World) : Prop := ∃ A c os, e = .returned (.tuple #[.slice A (os : List OV).length c, .string (bs r.2)]) ∧ os.map OV.d = r.1 ∧ OwnOs w' w.heap.size A c os ∧ Below w.heap.size w w'
theorem text_eq {x y : List UInt8} (h : x = y) : ((bs x).toList == y) = true := by
  rw [CDeskLI.bs_list, h]
  simp
theorem text_ne {x y : List UInt8} (h : ¬ x = y) : ((bs x).toList == y) = false := by
  rw [CDeskLI.bs_list]
  exact beq_eq_false_iff_ne.2 h
theorem own_one {w : World} {base : Nat} {o : OV} (h : OwnO w base o) (hb : base ≤ w.heap.size) : OwnOs (w.alloc (.cells #[.slice o.A o.ps.length o.c, .slice o.Y o.ys.length o.yc] 26)) base (some ⟨w.heap.size, 0, none⟩) 1 [o] := by
  refine ⟨.inr ?_, fun p hp => ?_, List.pairwise_singleton _ _⟩
  · have ho := World.ownsRow_lit (e := 26) (size := 2) (base := base) w #[.slice o.A o.ps.length o.c, .slice o.Y o.ys.length o.yc] 1 hb (by unfold maxLen; omega) rfl
    exact ho
  · rw [List.mem_singleton.1 hp]
    exact h.call ((Below.refl _ _).alloc (Nat.le_refl _) _)
set_option maxHeartbeats 40000000 in
theorem deskLine_any (A : Option Addr) (os : List OV) (c : Nat) (s : List UInt8) (w : World) (hr : RdOs w w.heap.size A os) (hf : Fits os) (hn : ∀ o ∈ os, Nils o) (hz : ∀ o ∈ os, InD o.d) (hc : os.length ≤ c) (hs : s.length ≤ 1048576) (he : Env w) :
    Calls Tryz.prog 13 #[.slice A os.length c, .string (bs s)] w (RetDA (deskA (os.map OV.d) s) w) := by
  obtain ⟨i0, hi1, hi2, hi3, hi4⟩ := info_parts infoO
  have HI := hide (And.intro hi1 (And.intro hi2 (And.intro hi3 hi4)))
  clear hi1 hi2 hi3 hi4
  have HR := hide hr
  have HF := hide hf
  have HN := hide hn
  have HE := hide he
  have HZ := hide hz
  clear hr hf hn he hz
  go_enter Tryz.func13, Tryz.ntmps13
  go_wp2_with fail
  refine (objectsValid_any A os c w HR.out HF.out).mono ?_
  rintro e w1 ⟨rfl, b1⟩
  have HB := hide b1
  clear b1
  cases hok : objsOk (os.map OV.d)
  · have HV := hide (show deskA (os.map OV.d) s = ([], []) from if_pos hok)
    clear hok
    go_wp2_with fail
    go_ret2
    rw [HV.out]
    exact ⟨none, 0, [], rfl, rfl, ⟨Row.empty _ _ _ _ _, (fun p hp => by cases hp), List.Pairwise.nil⟩, HB.out⟩
  obtain ⟨h4, hall⟩ := objs_all hok
  have HAL := hide (fun o (ho : o ∈ os) => valid_len (hall o ho))
  have HOK := hide hok
  have HDA := hide (show deskA (os.map OV.d) s = (if s = joinT then joinA (os.map OV.d) else if cutR s = [] then (os.map OV.d, whatT) else if cutW s = loadT then loadA (os.map OV.d) (cutR s) else if cutW s = linkT then (os.map OV.d, linkI (os.map OV.d) (cutR s)) else if cutW s = findT then (os.map OV.d, findA (os.map OV.d) (cutR s)) else (os.map OV.d, whatT)) from by
    unfold deskA
    rw [if_neg (by rw [hok]; decide)])
  clear hok hall
  go_wp2_with fail
  refine (copyObjects_any A os c w1 ((HR.out.below HB.out).more HB.out.size) HF.out HN.out (fun o ho => by have := HAL.out o ho; omega)).mono ?_
  rintro e w2 ⟨A2, c2, qs, rfl, hqd, o2, b2⟩
  have HQ := hide hqd
  have HC := hide (o2.down HB.out.size)
  have hql : qs.length = os.length := by
    have h := congrArg List.length hqd
    simpa using h
  have HQL := hide hql
  have hq4 : qs.length ≤ 4 := by omega
  replace HB := hide (HB.out.trans (b2.mono HB.out.size))
  clear b2
  clear hqd o2 hql
  have HCU := hide (cut_any (bs s) (by rw [bs_size]; exact hs) w2 (HE.out.below HB.out))
  rw [show (bs s).data.toList = s from by simp [bs]] at HCU
  go_wp2_with fail
  refine HCU.out.mono ?_
  clear HCU
  rintro e w3 ⟨⟨bt, rfl⟩, b3⟩
  replace HB := hide (HB.out.trans (b3.mono HB.out.size))
  replace HC := hide (HC.out.call b3)
  clear b3
  obtain ⟨hcw, hcr, hct⟩ := cut_len s
  have HCT := hide hct
  clear hct
  generalize cutW s = W at *
  generalize cutR s = T at *
  by_cases hj : s = joinT
  · have hq : ((bs s).toList == [106, 111, 105, 110]) = true := text_eq hj
    have HDJ := hide (HDA.out.trans (if_pos hj))
    clear hj HDA HCT
    go_wp2_with fail
    clear hq
    refine (joinAll_any A os c w3 ((HR.out.below HB.out).more HB.out.size) HF.out HN.out hc).mono ?_
    rintro e w4 ⟨q, rfl, b4, hq4'⟩
    have HQ4 := hide hq4'
    have hw34 := HB.out.size
    replace HB := hide (HB.out.trans (b4.mono HB.out.size))
    replace HC := hide (HC.out.call b4)
    clear b4
    clear hq4'
    have BA : Below w4.heap.size w4 (w4.alloc (.cells #[.slice q.A q.ps.length q.c, .slice q.Y q.ys.length q.yc] 26)) := (by repeat (first | exact Below.refl _ _ | with_reducible assumption | (refine Below.drew ?_) | (refine Below.drewN ?_ _) | (refine Below.alloc ?_ (by simp; try omega) _) | (refine Below.setCell ?_ (by simp; try omega) _)))
    have HX := hide (Box.new w4 26 #[.slice q.A q.ps.length q.c, .slice q.Y q.ys.length q.yc])
    have HO := hide (fun d (hd : joinAll (os.map OV.d) = some d) => And.intro (HQ4.out d hd).1 (((HQ4.out d hd).2.down hw34).call BA))
    replace HB := hide (HB.out.trans (BA.mono HB.out.size))
    replace HC := hide (HC.out.call BA)
    clear BA
    clear HQ4
    cases hja : joinAll (os.map OV.d) with
    | none =>
      have HV := hide (show deskA (os.map OV.d) s = (os.map OV.d, noT) from by
        rw [HDJ.out]
        unfold joinA
        rw [hja])
      clear HO hja HDJ
      simp only [Option.isSome]
      go_wp2_with fail
      go_ret2
      rw [HV.out]
      exact ⟨A2, c2, qs, rfl, HQ.out, HC.out, HB.out⟩
    | some d =>
      have HV := hide (show deskA (os.map OV.d) s = ([d], okT) from by
        rw [HDJ.out]
        unfold joinA
        rw [hja])
      obtain ⟨rfl, hoq⟩ := HO.out d hja
      have HOQ := hide hoq
      clear HO hoq HDJ hja
      simp only [Option.isSome]
      have x0 := HX.out.cell 0
      have x1 := HX.out.cell 1
      simp only [List.getElem?_toArray, List.getElem?_cons_zero, List.getElem?_cons_succ] at x0 x1
      have hxl := HX.out.lt
      go_upto_if 36 with (fail)
      generalize w4.alloc (.cells #[.slice q.A q.ps.length q.c, .slice q.Y q.ys.length q.yc] 26) = w5 at *
      generalize w4.heap.size = Z at *
      have B6 : Below w5.heap.size w5 (w5.alloc (.cells #[.slice q.A q.ps.length q.c, .slice q.Y q.ys.length q.yc] 26)) := (by repeat (first | exact Below.refl _ _ | with_reducible assumption | (refine Below.drew ?_) | (refine Below.drewN ?_ _) | (refine Below.alloc ?_ (by simp; try omega) _) | (refine Below.setCell ?_ (by simp; try omega) _)))
      have HONE := hide (own_one HOQ.out HB.out.size)
      replace HB := hide (HB.out.trans (B6.mono HB.out.size))
      clear B6
      go_wp2_with fail
      go_ret2
      rw [HV.out]
      exact ⟨_, 1, [q], rfl, rfl, HONE.out, HB.out⟩
  have hjq : ((bs s).toList == [106, 111, 105, 110]) = false := text_ne hj
  have HD1 := hide (HDA.out.trans (if_neg hj))
  clear hj HDA
  by_cases ht : T = []
  · have hq : (bs T).toList.isEmpty = true := by rw [CDeskLI.bs_list, ht]; rfl
    have HV := hide (HD1.out.trans (if_pos ht))
    clear ht HD1 HCT
    go_wp2_with fail
    go_ret2
    rw [HV.out]
    exact ⟨A2, c2, qs, rfl, HQ.out, HC.out, HB.out⟩
  have hq : (bs T).toList.isEmpty = false := by
    rw [CDeskLI.bs_list]
    cases T with
    | nil => exact absurd rfl ht
    | cons x r => rfl
  have hlen := HCT.out ht
  have HD2 := hide (HD1.out.trans (if_neg ht))
  clear ht HD1 HCT
  by_cases hw : W = loadT
  · have hwq : ((bs W).toList == [108, 111, 97, 100]) = true := text_eq hw
    have hw4 : W.length = 4 := by rw [hw]; rfl
    have HD3 := hide (HD2.out.trans (if_pos hw))
    have hT : T.length ≤ 1048571 := by omega
    clear hw HD2 hlen hw4
    have HSP := hide (split_any (124 : UInt8) (bs T) (by rw [bs_size]; omega) w3 (HE.out.below HB.out))
    rw [show (bs T).data.toList = T from by simp [bs]] at HSP
    have hsl := (splt_len (124 : UInt8) T).2
    have HSM := hide (splt_mem (124 : UInt8) T)
    have HLO := hide (show loadA (os.map OV.d) T = (match readI (splt 124 T) with
      | some o => if (os.map OV.d).length = 4 then (os.map OV.d, noT) else (os.map OV.d ++ [o], okT)
      | none => (os.map OV.d, noT)) from rfl)
    go_wp2_with fail
    refine HSP.out.mono ?_
    clear HSP
    rintro e w4 ⟨A4, c4, rfl, row4, b4⟩
    rw [show (List.map bs (splt 124 T)).length = (splt 124 T).length from by simp] at *
    have HRW := hide row4
    replace HB := hide (HB.out.trans (b4.mono HB.out.size))
    replace HC := hide (HC.out.call b4)
    clear b4
    clear row4
    generalize splt 124 T = ls at *
    have HRD := hide (readDump_any A4 ls c4 w4 HRW.out.rd (by omega) (fun x hx => by have := HSM.out x hx; omega) (HE.out.below HB.out))
    go_wp2_with fail
    refine HRD.out.mono ?_
    clear HRD HRW HSM
    rintro e w5 ⟨q, rfl, b5, hq5⟩
    have HQ5 := hide hq5
    have hw45 := HB.out.size
    have HOLD := hide (fun x (hx : x ∈ qs) j (hj : oblk x j) => (show j < w4.heap.size from ((HC.out.2.1 x hx).lt j hj).2))
    replace HB := hide (HB.out.trans (b5.mono HB.out.size))
    replace HC := hide (HC.out.call b5)
    clear b5
    clear hq5
    have BA : Below w5.heap.size w5 (w5.alloc (.cells #[.slice q.A q.ps.length q.c, .slice q.Y q.ys.length q.yc] 26)) := (by repeat (first | exact Below.refl _ _ | with_reducible assumption | (refine Below.drew ?_) | (refine Below.drewN ?_ _) | (refine Below.alloc ?_ (by simp; try omega) _) | (refine Below.setCell ?_ (by simp; try omega) _)))
    have HX := hide (Box.new w5 26 #[.slice q.A q.ps.length q.c, .slice q.Y q.ys.length q.yc])
    have HO := hide (fun d (hd : readI ls = some d) => And.intro (HQ5.out d hd).1 (And.intro (((HQ5.out d hd).2.down hw45).call BA) (fun j (hj : oblk q j) => (show w4.heap.size ≤ j from ((HQ5.out d hd).2.lt j hj).1))))
    replace HB := hide (HB.out.trans (BA.mono HB.out.size))
    replace HC := hide (HC.out.call BA)
    clear BA
    clear HQ5
    cases hri : readI ls with
    | none =>
      have HV := hide (show deskA (os.map OV.d) s = (os.map OV.d, noT) from by
        rw [HD3.out, HLO.out, hri])
      clear HO hri HD3 HLO hwq hq hjq
      simp only [Option.isSome]
      go_wp2_with fail
      go_ret2
      rw [HV.out]
      exact ⟨A2, c2, qs, rfl, HQ.out, HC.out, HB.out⟩
    | some d =>
      obtain ⟨rfl, hoq, hnew⟩ := HO.out d hri
      have HOQ := hide hoq
      have HNEW := hide hnew
      clear HO hoq hnew
      simp only [Option.isSome]
      by_cases h44 : os.length = 4
      · have HV := hide (show deskA (os.map OV.d) s = (os.map OV.d, noT) from by
          rw [HD3.out, HLO.out, hri]
          simp only
          rw [if_pos (by rw [List.length_map]; exact h44)])
        have hqq : ((os.length : Int) == 4) = true := beq_iff_eq.2 (by omega)
        clear hri HD3 HLO h44 hwq hq hjq
        go_wp2_with fail
        go_ret2
        rw [HV.out]
        exact ⟨A2, c2, qs, rfl, HQ.out, HC.out, HB.out⟩
      · have HV := hide (show deskA (os.map OV.d) s = (os.map OV.d ++ [q.d], okT) from by
          rw [HD3.out, HLO.out, hri]
          simp only
          rw [if_neg (by rw [List.length_map]; exact h44)])
        have hqq : ((os.length : Int) == 4) = false := beq_eq_false_iff_ne.2 (by omega)
        clear hri HD3 HLO h44 hwq hq hjq
        have x0 := HX.out.cell 0
        have x1 := HX.out.cell 1
        simp only [List.getElem?_toArray, List.getElem?_cons_zero, List.getElem?_cons_succ] at x0 x1
        have hxl := HX.out.lt
        go_upto_if 58 with (fail)
        generalize w5.alloc (.cells #[.slice q.A q.ps.length q.c, .slice q.Y q.ys.length q.yc] 26) = w6 at *
        generalize w5.heap.size = Z at *
        have B7 : Below w6.heap.size w6 (w6.alloc (.cells (objC q).toArray 26)) := (by repeat (first | exact Below.refl _ _ | with_reducible assumption | (refine Below.drew ?_) | (refine Below.drewN ?_ _) | (refine Below.alloc ?_ (by simp; try omega) _) | (refine Below.setCell ?_ (by simp; try omega) _)))
        have HC7 := hide (HC.out.call B7)
        have HOQ7 := hide (HOQ.out.call B7)
        replace HB := hide (HB.out.trans (B7.mono HB.out.size))
        clear B7
        clear HC HOQ
        simp only [objC] at HC7 HOQ7 HB ⊢
        go_wp2_with (at_builtin; refine wpList_app _ rfl (.tmp 60) (.tmp 62) 32 rfl 26 i0 (.agg #[.slice none 0 0, .slice none 0 0]) 2 48 Tryz.underlying32 HI.out.1 HI.out.2.1 HI.out.2.2.1 HI.out.2.2.2 rfl (by decide) w.heap.size A2 qs.length c2 (cellsOf objC qs) rfl HC7.out.1 HB.out.size (some ⟨w6.heap.size, 0, none⟩) 1 1 (objC q) rfl (rd_lit w6 (objC q).toArray 26 _ rfl) rfl (fun h => by cases h) (one_objC q) ?n1 ?n2 ?_)
        case n1 => unfold maxLen; omega
        case n2 => omega
        intro A8 n8 c8 w8 hn8 o8 g8 k8
        have HOW := hide (OwnOs.snoc HC7.out HOQ7.out HOLD.out HNEW.out hn8 o8 g8)
        have HB8 := hide (HB.out.grown g8 HB.out.size (fun j hj => (HC7.out.1.lt j hj).1))
        have hn8' : n8 = (qs ++ [q]).length := by rw [hn8, List.length_append]; rfl
        subst hn8'
        clear hn8 o8 g8 k8 HC7 HOQ7
        go_wp2_with fail
        go_ret2
        rw [HV.out]
        exact ⟨A8, c8, qs ++ [q], rfl, by rw [List.map_append, HQ.out]; rfl, HOW.out, HB8.out⟩
  have hwq : ((bs W).toList == [108, 111, 97, 100]) = false := text_ne hw
  have HD3 := hide (HD2.out.trans (if_neg hw))
  clear hw HD2
  by_cases hw : W = linkT
  · have hwq2 : ((bs W).toList == [108, 105, 110, 107]) = true := text_eq hw
    have HV := hide (HD3.out.trans (if_pos hw))
    clear hw HD3
    have HDL := hide (deskLink_any A os c T w3 ((HR.out.below HB.out).more HB.out.size) HF.out HN.out HZ.out (by omega) (HE.out.below HB.out))
    go_wp2_with fail
    clear hwq2 hwq hq hjq
    refine HDL.out.mono ?_
    rintro e w4 ⟨rfl, b4⟩
    replace HB := hide (HB.out.trans (b4.mono HB.out.size))
    replace HC := hide (HC.out.call b4)
    clear b4
    go_wp2_with fail
    go_ret2
    rw [HV.out]
    exact ⟨A2, c2, qs, rfl, HQ.out, HC.out, HB.out⟩
  have hwq2 : ((bs W).toList == [108, 105, 110, 107]) = false := text_ne hw
  have HD4 := hide (HD3.out.trans (if_neg hw))
  clear hw HD3
  by_cases hw : W = findT
  · have hwq3 : ((bs W).toList == [102, 105, 110, 100]) = true := text_eq hw
    have HD5 := hide (HD4.out.trans (if_pos hw))
    clear hw HD4
    have HFN := hide (findName_any A os c (bs T) w3 ((HR.out.below HB.out).more HB.out.size) ⟨by omega, fun o ho => by have := HAL.out o ho; omega⟩)
    go_wp2_with fail
    clear hwq3 hwq2 hwq hq hjq
    refine HFN.out.mono ?_
    clear HFN
    rintro e w4 ⟨rfl, b4⟩
    replace HB := hide (HB.out.trans (b4.mono HB.out.size))
    replace HC := hide (HC.out.call b4)
    clear b4
    have HFA := hide (show findA (os.map OV.d) T = (match findN (os.map OV.d) (bs T) with
      | some g => Lib.itoa g.1 ++ 46 :: Lib.itoa g.2
      | none => noT) from rfl)
    have BA : Below w4.heap.size w4 (w4.alloc (.cells #[.int .i64 (gin (findN (os.map OV.d) (bs T))), .int .i64 (gat (findN (os.map OV.d) (bs T)))] 79)) := (by repeat (first | exact Below.refl _ _ | with_reducible assumption | (refine Below.drew ?_) | (refine Below.drewN ?_ _) | (refine Below.alloc ?_ (by simp; try omega) _) | (refine Below.setCell ?_ (by simp; try omega) _)))
    have HX := hide (Box.new w4 79 #[.int .i64 (gin (findN (os.map OV.d) (bs T))), .int .i64 (gat (findN (os.map OV.d) (bs T)))])
    replace HB := hide (HB.out.trans (BA.mono HB.out.size))
    replace HC := hide (HC.out.call BA)
    clear BA
    simp only [givV]
    cases hfn : findN (os.map OV.d) (bs T) with
    | none =>
      have HV := hide (show deskA (os.map OV.d) s = (os.map OV.d, noT) from by rw [HD5.out, HFA.out, hfn])
      rw [hfn] at HB HC HX
      clear hfn HD5 HFA
      simp only [Option.isSome]
      go_wp2_with fail
      go_ret2
      rw [HV.out]
      exact ⟨A2, c2, qs, rfl, HQ.out, HC.out, HB.out⟩
    | some g =>
      obtain ⟨hg1, hg2⟩ := find_bd HOK.out hfn
      have HV := hide (show deskA (os.map OV.d) s = (os.map OV.d, Lib.itoa g.1 ++ 46 :: Lib.itoa g.2) from by rw [HD5.out, HFA.out, hfn])
      rw [hfn] at HB HC HX
      clear hfn HD5 HFA
      obtain ⟨g1, g2⟩ := g
      simp only [Option.isSome, gin, gat] at HB HC HX HV hg1 hg2 ⊢
      have hi1 := Lib.itoa_length_le (g1 : Int) (by omega) (by omega)
      have hi2 := Lib.itoa_length_le (g2 : Int) (by omega) (by omega)
      have x0 := HX.out.cell 0
      have x1 := HX.out.cell 1
      simp only [List.getElem?_toArray, List.getElem?_cons_zero, List.getElem?_cons_succ] at x0 x1
      have hxl := HX.out.lt
      go_upto_if 81 with (fail)
      generalize w4.alloc (.cells #[.int .i64 g1, .int .i64 g2] 79) = w5 at *
      generalize w4.heap.size = Z at *
      go_wp2_with fail
      refine Reg.startT (fun V => V.cell? ⟨Z, 0, none⟩ = some (.int .i64 g1) ∧ V.cell? ⟨Z, 1, none⟩ = some (.int .i64 g2)) (fun _ => false) (by kernel_rfl) ?_
      have hHeld : w5.drew.cell? ⟨Z, 0, none⟩ = some (.int .i64 g1) ∧ w5.drew.cell? ⟨Z, 1, none⟩ = some (.int .i64 g2) := ⟨x0, x1⟩
      refine Reg.takeT (i := 0) (v := ?_) rfl (by kernel_rfl) (by kernel_rfl) (by kernel_rfl) (by kernel_rfl) (fun _ _ _ h => h) (Or.inl ⟨by rfl, ?_⟩) (by assumption) ?_
      rotate_left 1
      focus (intro w hSw; (try dsimp only at hSw); go_simp; (try with_reducible rfl))
      try simp only [List.getElem_toArray, List.getElem_cons_succ, List.getElem_cons_zero, Act.put, List.setIfInBounds_toArray, List.set_cons_zero, List.set_cons_succ]
      refine Reg.takeT (i := 1) (v := ?_) rfl (by kernel_rfl) (by kernel_rfl) (by kernel_rfl) (by kernel_rfl) (fun _ _ _ h => h) (Or.inl ⟨by rfl, ?_⟩) (by assumption) ?_
      rotate_left 1
      focus (intro w hSw; (try dsimp only at hSw); go_simp; (try with_reducible rfl))
      try simp only [List.getElem_toArray, List.getElem_cons_succ, List.getElem_cons_zero, Act.put, List.setIfInBounds_toArray, List.set_cons_zero, List.set_cons_succ]
      refine Reg.takeT (i := 2) (v := ?_) rfl (by kernel_rfl) (by kernel_rfl) (by kernel_rfl) (by kernel_rfl) (fun _ _ _ h => h) (Or.inl ⟨by rfl, ?_⟩) (by assumption) ?_
      rotate_left 1
      focus (intro w hSw; (try dsimp only at hSw); go_simp; (try with_reducible rfl))
      try simp only [List.getElem_toArray, List.getElem_cons_succ, List.getElem_cons_zero, Act.put, List.setIfInBounds_toArray, List.set_cons_zero, List.set_cons_succ]
      refine Reg.takeT (i := 5) (v := ?_) rfl (by kernel_rfl) (by kernel_rfl) (by kernel_rfl) (by kernel_rfl) (fun _ _ _ h => h) (Or.inl ⟨by rfl, ?_⟩) (by assumption) ?_
      rotate_left 1
      focus (intro w hSw; (try dsimp only at hSw); go_simp; (try with_reducible rfl))
      try simp only [List.getElem_toArray, List.getElem_cons_succ, List.getElem_cons_zero, Act.put, List.setIfInBounds_toArray, List.set_cons_zero, List.set_cons_succ]
      refine Reg.takeT (i := 6) (v := ?_) rfl (by kernel_rfl) (by kernel_rfl) (by kernel_rfl) (by kernel_rfl) (fun _ _ _ h => h) (Or.inl ⟨by rfl, ?_⟩) (by assumption) ?_
      rotate_left 1
      focus (intro w hSw; (try dsimp only at hSw); go_simp; (try with_reducible rfl))
      try simp only [List.getElem_toArray, List.getElem_cons_succ, List.getElem_cons_zero, Act.put, List.setIfInBounds_toArray, List.set_cons_zero, List.set_cons_succ]
      refine Reg.oneT (i := 3) rfl (by kernel_rfl) (fun K hK => ?_)
      go_simp
      refine (itoa_any (g1 : Int) (by omega) (by omega) _ (HE.out.below (below_dr HB.out))).mono ?_
      rintro e w6 ⟨rfl, b6⟩
      have b6' := of_drew b6
      have hHeld : w6.cell? ⟨Z, 0, none⟩ = some (.int .i64 g1) ∧ w6.cell? ⟨Z, 1, none⟩ = some (.int .i64 g2) := ⟨(b6'.cell (p := ⟨Z, 0, none⟩) hxl).trans x0, (b6'.cell (p := ⟨Z, 1, none⟩) hxl).trans x1⟩
      have hxl6 : Z < w6.heap.size := Nat.lt_of_lt_of_le hxl b6'.size
      replace HB := hide (HB.out.trans (b6'.mono HB.out.size))
      replace HC := hide (HC.out.call b6')
      clear b6'
      refine hK.out _ _ hHeld ?_
      clear hK K b6
      try simp only [List.getElem_toArray, List.getElem_cons_succ, List.getElem_cons_zero, Act.put, List.setIfInBounds_toArray, List.set_cons_zero, List.set_cons_succ]
      have hs1 : ¬ 9223372036854775807 < (bs (Lib.itoa (g1 : Int))).size + 1 := by rw [bs_size]; omega
      refine Reg.takeT (i := 4) (v := ?_) rfl (by kernel_rfl) (by kernel_rfl) (by kernel_rfl) (by kernel_rfl) (fun _ _ _ h => h) (Or.inl ⟨by rfl, ?_⟩) (by assumption) ?_
      rotate_left 1
      focus (intro w hSw; (try dsimp only at hSw); go_simp; (try with_reducible rfl))
      try simp only [List.getElem_toArray, List.getElem_cons_succ, List.getElem_cons_zero, Act.put, List.setIfInBounds_toArray, List.set_cons_zero, List.set_cons_succ]
      refine Reg.oneT (i := 7) rfl (by kernel_rfl) (fun K hK => ?_)
      go_simp
      refine (itoa_any (g2 : Int) (by omega) (by omega) _ (HE.out.below HB.out)).mono ?_
      rintro e w7 ⟨rfl, b7⟩
      have hHeld : w7.cell? ⟨Z, 0, none⟩ = some (.int .i64 g1) ∧ w7.cell? ⟨Z, 1, none⟩ = some (.int .i64 g2) := ⟨(b7.cell (p := ⟨Z, 0, none⟩) hxl6).trans hHeld.1, (b7.cell (p := ⟨Z, 1, none⟩) hxl6).trans hHeld.2⟩
      replace HB := hide (HB.out.trans (b7.mono HB.out.size))
      replace HC := hide (HC.out.call b7)
      clear b7
      refine hK.out _ _ hHeld ?_
      clear hK K
      try simp only [List.getElem_toArray, List.getElem_cons_succ, List.getElem_cons_zero, Act.put, List.setIfInBounds_toArray, List.set_cons_zero, List.set_cons_succ]
      have hs2 : ¬ 9223372036854775807 < (bs (Lib.itoa (g1 : Int))).size + 1 + (bs (Lib.itoa (g2 : Int))).size := by rw [bs_size, bs_size]; omega
      refine Reg.takeT (i := 8) (v := ?_) rfl (by kernel_rfl) (by kernel_rfl) (by kernel_rfl) (by kernel_rfl) (fun _ _ _ h => h) (Or.inl ⟨by rfl, ?_⟩) (by assumption) ?_
      rotate_left 1
      focus (intro w hSw; (try dsimp only at hSw); go_simp; (try with_reducible rfl))
      try simp only [List.getElem_toArray, List.getElem_cons_succ, List.getElem_cons_zero, Act.put, List.setIfInBounds_toArray, List.set_cons_zero, List.set_cons_succ]
      refine Reg.takeT (i := 9) (v := ?_) rfl (by kernel_rfl) (by kernel_rfl) (by kernel_rfl) (by kernel_rfl) (fun _ _ _ h => h) (Or.inl ⟨by rfl, ?_⟩) (by assumption) ?_
      rotate_left 1
      focus (intro w hSw; (try dsimp only at hSw); go_simp; (try with_reducible rfl))
      try simp only [List.getElem_toArray, List.getElem_cons_succ, List.getElem_cons_zero, Act.put, List.setIfInBounds_toArray, List.set_cons_zero, List.set_cons_succ]
      refine Reg.takeT (i := 10) (v := ?_) rfl (by kernel_rfl) (by kernel_rfl) (by kernel_rfl) (by kernel_rfl) (fun _ _ _ h => h) (Or.inl ⟨by rfl, ?_⟩) (by assumption) ?_
      rotate_left 1
      focus (intro w hSw; (try dsimp only at hSw); go_simp; (try with_reducible rfl))
      try simp only [List.getElem_toArray, List.getElem_cons_succ, List.getElem_cons_zero, Act.put, List.setIfInBounds_toArray, List.set_cons_zero, List.set_cons_succ]
      refine Reg.doneT (by kernel_rfl) ?_ _
      have HTX := hide (show bs (Lib.itoa (g1 : Int)) ++ (⟨#[46]⟩ : ByteArray) ++ bs (Lib.itoa (g2 : Int)) = bs (Lib.itoa (g1 : Int) ++ 46 :: Lib.itoa (g2 : Int)) from by
        rw [show (⟨#[46]⟩ : ByteArray) = bs [46] from rfl, bs_app, bs_app]
        simp)
      clear hHeld x0 x1 hxl
      go_wp2_with fail
      go_ret2
      rw [HV.out]
      exact ⟨A2, c2, qs, by rw [HTX.out]; rfl, HQ.out, HC.out, HB.out⟩
  have hwq3 : ((bs W).toList == [102, 105, 110, 100]) = false := text_ne hw
  have HV := hide (HD4.out.trans (if_neg hw))
  clear hw HD4
  go_wp2_with fail
  go_ret2
  rw [HV.out]
  exact ⟨A2, c2, qs, rfl, HQ.out, HC.out, HB.out⟩
end Go.Proofs.YtepoiphmmjfbdaaGreatDoor.CDeskI
