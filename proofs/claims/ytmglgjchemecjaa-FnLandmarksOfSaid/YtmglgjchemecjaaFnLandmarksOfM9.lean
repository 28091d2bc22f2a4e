/- LandmarksOf: the reference's. -/
import Derived.Test.YtmglgjchemecjaaFnLandmarksOfM8
set_option linter.unusedSimpArgs false
set_option linter.unusedVariables false
namespace Go.Proofs.Ytmglgjchemecjaa.CLmkS
set_option maxRecDepth 200000
open Go.ChangeShapes Go.WideShapes Go.ChangeAt Go.RowKit Kit CCode CName CFixups CSymbols PObj BObj PValid CObjValid BStore CMarkRows BList PLink CFind CSorted CNames CObjL COwnL CPlaceS CNPlS PIns CInsS CNGS CLandmarks PLmk
theorem one_lmk (l : List LD) : ∀ u ∈ cellsOf landmarkC l, u.oneCell' = true := by
  intro u hu
  obtain ⟨z, _, hz⟩ := List.mem_flatMap.1 hu
  simp only [landmarkC, List.mem_cons, List.not_mem_nil, or_false] at hz
  rcases hz with rfl | rfl <;> rfl
theorem one_lmk1 (nm : ByteArray) (pl : Int) : ∀ u ∈ [Value.string nm, .int .i64 pl], u.oneCell' = true := by
  intro u hu
  simp only [List.mem_cons, List.not_mem_nil, or_false] at hu
  rcases hu with rfl | rfl <;> rfl
theorem cells_take {α : Type} {f : α → List Value} {m : Nat} (l : List α) (a : Nat) (hf : ∀ x, (f x).length = m := by exact fun _ => rfl) : (cellsOf f l).take (a * m) = cellsOf f (l.take a) := by
  induction l generalizing a with
  | nil => simp [cellsOf]
  | cons x xs ih =>
    cases a with
    | zero => simp [cellsOf]
    | succ a =>
      have h1 := ih a
      simp only [cellsOf, List.flatMap_cons, List.take_succ_cons] at h1 ⊢
      rw [List.take_append, hf, h1.symm]
      congr 1
      · rw [List.take_of_length_le]
        rw [hf, Nat.add_mul]
        omega
      · rw [Nat.add_mul, Nat.one_mul, Nat.add_sub_cancel]
theorem cells_drop {α : Type} {f : α → List Value} {m : Nat} (l : List α) (a : Nat) (hf : ∀ x, (f x).length = m := by exact fun _ => rfl) : (cellsOf f l).drop (a * m) = cellsOf f (l.drop a) := by
  induction l generalizing a with
  | nil => simp [cellsOf]
  | cons x xs ih =>
    cases a with
    | zero => simp [cellsOf]
    | succ a =>
      have h1 := ih a
      simp only [cellsOf, List.flatMap_cons, List.drop_succ_cons] at h1 ⊢
      rw [List.drop_append, hf, h1.symm, List.drop_of_length_le, List.nil_append, Nat.add_mul, Nat.one_mul, Nat.add_sub_cancel]
      rw [hf, Nat.add_mul]
      omega
def RetK (xs : List LD) (w : World) (e : Ending) (w' : World) : Prop := ∃ A c, e = .returned (.slice A xs.length c) ∧ Row w' w.heap.size 63 2 A xs.length c (cellsOf landmarkC xs) ∧ Below w.heap.size w w'
theorem lst_objs {os : List OV} (h : objsOk (os.map OV.d) = true) : os.length ≤ 4 ∧ ∀ o ∈ os, objOk o.d = true ∧ o.ys.length ≤ 12 := by
  simp only [objsOk, Bool.and_eq_true, decide_eq_true_eq, List.all_eq_true, List.length_map] at h
  exact ⟨h.1, fun o ho => ⟨h.2 _ (List.mem_map_of_mem ho), (PClear.obj_all (h.2 _ (List.mem_map_of_mem ho))).2.1⟩⟩
theorem givN_len {o : OV} (h : o.ys.length ≤ 12) : (givN o.d).length ≤ 12 := by
  unfold givN
  cases objOk o.d
  · simp
  · have h1 := insAll_len (givS o.d.ys)
    have h2 := givS_len o.d.ys
    have h3 : o.d.ys.length = o.ys.length := rfl
    simp only [cond_true]
    omega
theorem plcs_len (l : List OD) (base : Int) (ns : List ByteArray) (zs : List Int) (h : plcs l base ns = some zs) : zs.length = ns.length := by
  unfold plcs at h
  split at h
  · rw [← Option.some.inj h, List.length_map]
  · cases h
set_option maxHeartbeats 8000000 in
theorem landmarksOfS_any (A : Option Addr) (os : List OV) (c : Nat) (base : Int) (w : World) (hr : RdOs w w.heap.size A os) (hf : Lst os) :
    Calls Try.prog 38 #[.slice A os.length c, .int .i64 base] w (RetK (lmkS (os.map OV.d) base) w) := by
  obtain ⟨i0, hi1, hi2, hi3, hi4⟩ := info_parts CLandmarks.info
  have HI := hide (And.intro hi1 (And.intro hi2 (And.intro hi3 hi4)))
  clear hi1 hi2 hi3 hi4
  have HR := hide hr
  have HF := hide hf
  have hn20 := hf.n
  clear hr hf
  have HB := hide (show Below w.heap.size w ((w.alloc (.cells #[] 63)).alloc (.cells #[] 9)) from (by repeat (first | exact Below.refl _ _ | with_reducible assumption | (refine Below.drew ?_) | (refine Below.drewN ?_ _) | (refine Below.alloc ?_ (by simp; try omega) _) | (refine Below.setCell ?_ (by simp; try omega) _))))
  go_enter Try.func38, Try.ntmps38
  go_wp2_with fail
  generalize (w.alloc (.cells #[] 63)).alloc (.cells #[] 9) = w0 at *
  generalize w.heap.size + 1 = G0 at *
  go_loopw [6, 7] (fun s i wi => ∃ (k g c1 : Nat) (ns : List ByteArray), k ≤ os.length ∧ s = .slice (some ⟨g, 0, none⟩) ns.length c1 ∧ i = .int .i64 k ∧ ns = insAll ((os.take k).flatMap fun o => givN o.d) ∧ (k = 0 ∨ objsOk (os.map OV.d) = true) ∧ ns.length ≤ 12 * k ∧ Row wi w.heap.size 9 1 (some ⟨g, 0, none⟩) ns.length c1 (nmC ns) ∧ Below w.heap.size w wi) (fun _ i _ => os.length - (intOf i).toNat)
  case atStart => exact ⟨0, G0, 0, [], Nat.zero_le _, rfl, rfl, rfl, .inl rfl, Nat.le_refl _, Row.empty _ _ _ _ _, HB.out⟩
  case round =>
    rename World => wk
    clear HB
    obtain ⟨k, g, c1, ns, hk, rfl, rfl, hns, hok, hnl, hrow, hb⟩ := hrel
    have HNS := hide hns
    have HOK := hide hok
    have HW := hide hrow
    have HB := hide hb
    clear hns hok hrow hb
    have HEND := hide (show k = os.length ∨ (k < os.length ∧ objsOk (os.map OV.d) = false) → namesL (os.map OV.d) = ns from by
      rintro (h | ⟨h, h2⟩)
      · unfold namesL
        rcases HOK.out with h0 | h0
        · have e : os = [] := List.eq_nil_of_length_eq_zero (by omega)
          rw [HNS.out, h0, e]
          split <;> rfl
        · rw [if_pos h0, HNS.out, h, List.take_length, List.flatMap_map]
      · have hk0 : k = 0 := by
          rcases HOK.out with h0 | h0
          · exact h0
          · rw [h2] at h0
            cases h0
        unfold namesL
        rw [if_neg (by rw [h2]; decide), HNS.out, hk0]
        rfl)
    have h48 : ns.length ≤ 48 := by
      rcases HOK.out with h0 | h0
      · omega
      · have := (lst_objs h0).1
        omega
    by_cases hlt : k < os.length
    · go_wp2_with fail
      refine (objectsValidS_any A os c wk ((HR.out.below HB.out).more HB.out.size) HF.out.fits).mono ?_
      rintro e w2 ⟨rfl, b2⟩
      have HW2 := hide (HW.out.call b2)
      replace HB := hide (HB.out.trans (b2.mono HB.out.size))
      clear b2
      clear HW
      cases ho : objsOk (os.map OV.d)
      · have HNL := hide (HEND.out (.inr ⟨hlt, ho⟩))
        clear ho HEND HOK HNS
        have HW := hide HW2.out
        clear HW2
        go_wp2_with fail
        refine (namePlaces_any A os c base (some ⟨g, 0, none⟩) ns c1 w2 ((HR.out.below HB.out).more HB.out.size) HF.out HW.out.rd (by omega)).mono ?_
        rintro e w4 ⟨PA, pc, zs, rfl, hz, hp, b4⟩
        have HW4 := hide (HW.out.call b4)
        have HP4 := hide (hp.down HB.out.size)
        have HZ := hide hz
        replace HB := hide (HB.out.trans (b4.mono HB.out.size))
        clear b4
        clear hz hp HW
        have HLS := hide (show lmkS (os.map OV.d) base = lmkO (plcs (os.map OV.d) base ns) ns from by
          unfold lmkS
          rw [HNL.out])
        have HZL := hide (plcs_len (os.map OV.d) base ns)
        generalize plcs (os.map OV.d) base ns = r at *
        clear HNL
        cases r with
        | none =>
          simp only [Option.isSome_none]
          clear HZ HZL
          go_wp2_with fail
          go_loopw [5, 12] (fun s i wi => s = .slice (some ⟨w.heap.size, 0, none⟩) 0 0 ∧ i = .int .i64 0 ∧ wi = w4) (fun _ _ _ => 0)
          case atStart => exact ⟨rfl, rfl, rfl⟩
          case round =>
            obtain ⟨rfl, rfl, rfl⟩ := hrel
            by_cases h0 : 0 < ns.length
            · go_wp2_with fail
              go_ret
              rw [show lmkS (os.map OV.d) base = [] from HLS.out]
              exact ⟨_, _, rfl, Row.empty _ _ _ _ _, HB.out⟩
            · go_wp2_with fail
              go_ret
              rw [show lmkS (os.map OV.d) base = [] from HLS.out]
              exact ⟨_, _, rfl, Row.empty _ _ _ _ _, HB.out⟩
        | some zs' =>
          have hzz : zs' = zs := by
            rcases HZ.out with h | ⟨h, _⟩
            · exact Option.some.inj h
            · cases h
          subst hzz
          have HZE := hide (show zs'.length = ns.length from HZL.out zs' rfl)
          have HLS2 := hide (show lmkS (os.map OV.d) base = (ns.zip zs').foldl insL [] from HLS.out)
          simp only [Option.isSome_some]
          clear HZ HZL HLS
          go_wp2_with fail
          go_loopw [5, 12] (fun s i wi => ∃ (k ga cl : Nat) (L : List LD), k ≤ ns.length ∧ s = .slice (some ⟨ga, 0, none⟩) L.length cl ∧ i = .int .i64 k ∧ L = ((ns.zip zs').take k).foldl insL [] ∧ L.length = k ∧ Row wi w.heap.size 63 2 (some ⟨ga, 0, none⟩) L.length cl (cellsOf landmarkC L) ∧ Row wi w.heap.size 9 1 (some ⟨g, 0, none⟩) ns.length c1 (nmC ns) ∧ Row wi w.heap.size 3 1 PA zs'.length pc (ints .i64 zs') ∧ Below w.heap.size w wi) (fun _ i _ => ns.length - (intOf i).toNat)
          case atStart => exact ⟨0, w.heap.size, 0, [], Nat.zero_le _, rfl, rfl, rfl, rfl, Row.empty _ _ _ _ _, HW4.out, HP4.out, HB.out⟩
          case round =>
            rename World => wj
            clear HB HW4 HP4
            obtain ⟨k, ga, cl, L, hk, rfl, rfl, hL, hLk, hrow, hnw, hpw, hb⟩ := hrel
            have HL := hide hL
            have HLk := hide hLk
            have hL48 : L.length ≤ 48 := by omega
            clear hLk
            have HW := hide hrow
            have HNW := hide hnw
            have HPW := hide hpw
            have HB := hide hb
            have HBL := hide hb.size
            clear hL hrow hnw hpw hb
            by_cases hlt : k < ns.length
            · have hkz : k < zs'.length := by rw [HZE.out]; exact hlt
              obtain ⟨gn, on, hgA, hgn, hcn⟩ := HNW.out.rd k (.string ns[k]) (by simp [nmC, List.getElem?_eq_getElem hlt])
              simp only [Option.some.injEq, Addr.mk.injEq, and_true] at hgA
              obtain ⟨rfl, rfl⟩ := hgA
              rw [Nat.zero_add] at hcn
              obtain ⟨pb, po, hPA, hpb, hcp⟩ := HPW.out.rd k (.int .i64 (zs'[k]'hkz)) (by simp [ints, List.getElem?_eq_getElem hkz])
              have HNX := hide (show ((ns.zip zs').take (k + 1)).foldl insL [] = insL L (ns[k], zs'[k]'hkz) from by
                rw [lfold_take (by rw [List.length_zip, HZE.out]; omega) (xs := ns.zip zs'), ← HL.out, List.getElem_zip])
              have HPR := hide (HPW.out.rd)
              subst hPA
              generalize ns[k] = nm at *
              generalize zs'[k]'hkz = pl at *
              clear HPR HL
              go_wp2_with fail
              go_loopw [13] (fun i wi => ∃ a : Nat, a ≤ L.length ∧ i = .int .i64 a ∧ lpos L pl L.length = lpos L pl a ∧ Below wj.heap.size wj wi) (fun i _ => (intOf i).toNat)
              case atStart => exact ⟨L.length, Nat.le_refl _, rfl, rfl, Below.refl _ _⟩
              case round =>
                rename World => wi
                obtain ⟨a, haL, rfl, hp, hbi⟩ := hrel
                have HBI := hide hbi
                have hcnI := (hbi.cell (p := ⟨g, k, none⟩) hgn).trans hcn
                have hcpI := (hbi.cell (p := ⟨pb, po + k, none⟩) hpb).trans hcp
                clear hbi
                have HPOS := hide hp
                clear hp
                by_cases ha : a = 0
                · have HST := hide (show insL L (nm, pl) = L.take a ++ [(nm, pl)] ++ L.drop a from by
                    have : lpos L pl a = a := by
                      rw [ha]
                      rfl
                    unfold insL
                    rw [HPOS.out, this])
                  clear HPOS
                  have hd : decide ((a : Int) > 0) = false := decide_eq_false (by omega)
                  have hd2 : decide (0 < a) = false := decide_eq_false (by omega)
                  have hd3 : ¬ 0 < a := by omega
                  clear ha
                  go_wp2_with fail
                  go_quiet (fail)
                  go_wp2_with fail
                  clear hd hd2 hd3
                  have HBV := hide (Kit.Below.drewN HBI.out nq)
                  have HW := hide (HW.out.call HBV.out)
                  have HNW := hide (HNW.out.call HBV.out)
                  have HPW := hide (HPW.out.call HBV.out)
                  have hcn := (HBV.out.cell (p := ⟨g, k, none⟩) hgn).trans hcn
                  have hcp := (HBV.out.cell (p := ⟨pb, po + k, none⟩) hpb).trans hcp
                  have HB := hide (HB.out.trans (HBV.out.mono HB.out.size))
                  have HBL := hide HB.out.size
                  have hgn := Nat.lt_of_lt_of_le hgn HBV.out.size
                  have hpb := Nat.lt_of_lt_of_le hpb HBV.out.size
                  clear HBI HBV hcnI hcpI
                  generalize wi.drewN nq = wV at *
                  have HLK := hide (show (cellsOf landmarkC (L.take a)).length = a * 2 ∧ (cellsOf landmarkC (L.drop a)).length = (L.length - a) * 2 from ⟨by rw [cellsOf_len landmarkC_len, List.length_take]; congr 1; omega, by rw [cellsOf_len landmarkC_len, List.length_drop]⟩)
                  have HP1 := hide (fun V (hV : Below wV.heap.size wV V) => (show Rd V V.heap.size (some ⟨ga, 0, none⟩) (cellsOf landmarkC (L.take a)) from by
                    have h := ((HW.out.prefix haL).rd.below hV).more hV.size
                    rw [cells_take] at h
                    exact h))
                  have HP2 := hide (fun V (hV : Below wV.heap.size wV V) => (show Rd V V.heap.size (if cl = a then some ⟨ga, 0, none⟩ else some ⟨ga, a * 2, none⟩) (cellsOf landmarkC (L.drop a)) from by
                    have h := CSortS.rd_tail (j := a) (jj := a * 2) (size := 2) ((HW.out.rd.below hV).more hV.size) (cellsOf_len landmarkC_len L) HW.out.cap.1 rfl
                    rw [cells_drop] at h
                    exact h))
                  have HA2 := hide (show (if cl = a then some (⟨ga, 0, none⟩ : Addr) else some ⟨ga, a * 2, none⟩) = none → cl - a = 0 from fun h => by split at h <;> cases h)
                  have hac : a ≤ cl := Nat.le_trans haL HW.out.cap.1
                  have hlc : L.length ≤ cl := HW.out.cap.1
                  have HSS := hide (fun V (hV : Below wV.heap.size wV V) => (show V.cell? ⟨g, k, none⟩ = some (.string nm) ∧ V.cell? ⟨pb, po + k, none⟩ = some (.int .i64 pl) from ⟨(hV.cell (p := ⟨g, k, none⟩) hgn).trans hcn, (hV.cell (p := ⟨pb, po + k, none⟩) hpb).trans hcp⟩))
                  have HFL := hide (show (insL L (nm, pl)).length = L.length + 1 from insL_len _ _)
                  clear hcn hcp
                  generalize hnl : L.length = n at *
                  clear hnl
                  refine Rv.start (fun V => V.cell? ⟨g, k, none⟩ = some (.string nm) ∧ V.cell? ⟨pb, po + k, none⟩ = some (.int .i64 pl)) (fun _ => false) (by kernel_rfl) ?_
                  have hHeld := HSS.out wV.drew (below_dr (Below.refl _ _))
                  refine Rv.comp (i := 1) (v := ?_) rfl (by kernel_rfl) (by kernel_rfl) (by kernel_rfl) (fun _ _ _ h => h) (Or.inl ⟨by rfl, ?_⟩) ?_
                  rotate_left 1
                  focus (intro w hSw; (try dsimp only at hSw); go_simp; (try with_reducible rfl))
                  try simp only [List.getElem_toArray, List.getElem_cons_succ, List.getElem_cons_zero, Act.put, List.setIfInBounds_toArray, List.set_cons_zero, List.set_cons_succ]
                  refine Rv.comp (i := 2) (v := ?_) rfl (by kernel_rfl) (by kernel_rfl) (by kernel_rfl) (fun _ _ _ h => h) (Or.inl ⟨by rfl, ?_⟩) ?_
                  rotate_left 1
                  focus (intro w hSw; (try dsimp only at hSw); go_simp; (try with_reducible rfl))
                  try simp only [List.getElem_toArray, List.getElem_cons_succ, List.getElem_cons_zero, Act.put, List.setIfInBounds_toArray, List.set_cons_zero, List.set_cons_succ]
                  refine Rv.comp (i := 3) (v := ?_) rfl (by kernel_rfl) (by kernel_rfl) (by kernel_rfl) (fun _ _ _ h => h) (Or.inl ⟨by rfl, ?_⟩) ?_
                  rotate_left 1
                  focus (intro w hSw; (try dsimp only at hSw); go_simp; (try with_reducible rfl))
                  try simp only [List.getElem_toArray, List.getElem_cons_succ, List.getElem_cons_zero, Act.put, List.setIfInBounds_toArray, List.set_cons_zero, List.set_cons_succ]
                  refine Rv.comp (i := 5) (v := ?_) rfl (by kernel_rfl) (by kernel_rfl) (by kernel_rfl) (fun _ _ _ h => h) (Or.inl ⟨by rfl, ?_⟩) ?_
                  rotate_left 1
                  focus (intro w hSw; (try dsimp only at hSw); go_simp; (try with_reducible rfl))
                  try simp only [List.getElem_toArray, List.getElem_cons_succ, List.getElem_cons_zero, Act.put, List.setIfInBounds_toArray, List.set_cons_zero, List.set_cons_succ]
                  refine Rv.comp (i := 6) (v := ?_) rfl (by kernel_rfl) (by kernel_rfl) (by kernel_rfl) (fun _ _ _ h => h) (Or.inl ⟨by rfl, ?_⟩) ?_
                  rotate_left 1
                  focus (intro w hSw; (try dsimp only at hSw); go_simp; (try with_reducible rfl))
                  try simp only [List.getElem_toArray, List.getElem_cons_succ, List.getElem_cons_zero, Act.put, List.setIfInBounds_toArray, List.set_cons_zero, List.set_cons_succ]
                  refine Rv.comp (i := 7) (v := ?_) rfl (by kernel_rfl) (by kernel_rfl) (by kernel_rfl) (fun _ _ _ h => h) (Or.inl ⟨by rfl, ?_⟩) ?_
                  rotate_left 1
                  focus (intro w hSw; (try dsimp only at hSw); go_simp; (try with_reducible rfl))
                  try simp only [List.getElem_toArray, List.getElem_cons_succ, List.getElem_cons_zero, Act.put, List.setIfInBounds_toArray, List.set_cons_zero, List.set_cons_succ]
                  refine Rv.take (i := 8) (v := ?_) rfl (by kernel_rfl) (by kernel_rfl) (by kernel_rfl) (by kernel_rfl) (fun _ _ _ h => h) (Or.inl ⟨by rfl, ?_⟩) (by assumption) ?_
                  rotate_left 1
                  focus (intro w hSw; (try dsimp only at hSw); go_simp; (try with_reducible rfl))
                  try simp only [List.getElem_toArray, List.getElem_cons_succ, List.getElem_cons_zero, Act.put, List.setIfInBounds_toArray, List.set_cons_zero, List.set_cons_succ]
                  refine Rv.comp (i := 9) (v := ?_) rfl (by kernel_rfl) (by kernel_rfl) (by kernel_rfl) (fun _ _ _ h => h) (Or.inl ⟨by rfl, ?_⟩) ?_
                  rotate_left 1
                  focus (intro w hSw; (try dsimp only at hSw); go_simp; (try with_reducible rfl))
                  try simp only [List.getElem_toArray, List.getElem_cons_succ, List.getElem_cons_zero, Act.put, List.setIfInBounds_toArray, List.set_cons_zero, List.set_cons_succ]
                  refine Rv.comp (i := 10) (v := ?_) rfl (by kernel_rfl) (by kernel_rfl) (by kernel_rfl) (fun _ _ _ h => h) (Or.inl ⟨by rfl, ?_⟩) ?_
                  rotate_left 1
                  focus (intro w hSw; (try dsimp only at hSw); go_simp; (try with_reducible rfl))
                  try simp only [List.getElem_toArray, List.getElem_cons_succ, List.getElem_cons_zero, Act.put, List.setIfInBounds_toArray, List.set_cons_zero, List.set_cons_succ]
                  refine Rv.comp (i := 11) (v := ?_) rfl (by kernel_rfl) (by kernel_rfl) (by kernel_rfl) (fun _ _ _ h => h) (Or.inl ⟨by rfl, ?_⟩) ?_
                  rotate_left 1
                  focus (intro w hSw; (try dsimp only at hSw); go_simp; (try with_reducible rfl))
                  try simp only [List.getElem_toArray, List.getElem_cons_succ, List.getElem_cons_zero, Act.put, List.setIfInBounds_toArray, List.set_cons_zero, List.set_cons_succ]
                  refine Rv.take (i := 12) (v := ?_) rfl (by kernel_rfl) (by kernel_rfl) (by kernel_rfl) (by kernel_rfl) (fun _ _ _ h => h) (Or.inl ⟨by rfl, ?_⟩) (by assumption) ?_
                  rotate_left 1
                  focus (intro w hSw; (try dsimp only at hSw); go_simp; (try with_reducible rfl))
                  try simp only [List.getElem_toArray, List.getElem_cons_succ, List.getElem_cons_zero, Act.put, List.setIfInBounds_toArray, List.set_cons_zero, List.set_cons_succ]
                  refine Rv.comp (i := 13) (v := ?_) rfl (by kernel_rfl) (by kernel_rfl) (by kernel_rfl) (fun _ _ _ h => h) (Or.inl ⟨by rfl, ?_⟩) ?_
                  rotate_left 1
                  focus (intro w hSw; (try dsimp only at hSw); go_simp; (try with_reducible rfl))
                  try simp only [List.getElem_toArray, List.getElem_cons_succ, List.getElem_cons_zero, Act.put, List.setIfInBounds_toArray, List.set_cons_zero, List.set_cons_succ]
                  refine Rv.comp (i := 16) (v := ?_) rfl (by kernel_rfl) (by kernel_rfl) (by kernel_rfl) (fun _ _ _ h => h) (Or.inl ⟨by rfl, ?_⟩) ?_
                  rotate_left 1
                  focus (intro w hSw; (try dsimp only at hSw); go_simp; (try with_reducible rfl))
                  try simp only [List.getElem_toArray, List.getElem_cons_succ, List.getElem_cons_zero, Act.put, List.setIfInBounds_toArray, List.set_cons_zero, List.set_cons_succ]
                  refine Rv.comp (i := 17) (v := ?_) rfl (by kernel_rfl) (by kernel_rfl) (by kernel_rfl) (fun _ _ _ h => h) (Or.inl ⟨by rfl, ?_⟩) ?_
                  rotate_left 1
                  focus (intro w hSw; (try dsimp only at hSw); go_simp; (try with_reducible rfl))
                  try simp only [List.getElem_toArray, List.getElem_cons_succ, List.getElem_cons_zero, Act.put, List.setIfInBounds_toArray, List.set_cons_zero, List.set_cons_succ]
                  refine Rv.comp (i := 18) (v := ?_) rfl (by kernel_rfl) (by kernel_rfl) (by kernel_rfl) (fun _ _ _ h => h) (Or.inl ⟨by rfl, ?_⟩) ?_
                  rotate_left 1
                  focus (intro w hSw; (try dsimp only at hSw); go_simp; (try with_reducible rfl))
                  try simp only [List.getElem_toArray, List.getElem_cons_succ, List.getElem_cons_zero, Act.put, List.setIfInBounds_toArray, List.set_cons_zero, List.set_cons_succ]
                  generalize (if cl = a then some (⟨ga, 0, none⟩ : Addr) else some ⟨ga, a * 2, none⟩) = A2 at *
                  refine Rv.two (i := 0) (j := 14) rfl rfl (by kernel_rfl) (fun K hK => ?p0) (fun K hK => ?p6)
                  case' p0 =>
                    go_simp
                    clear hHeld
                    have hHeld := HSS.out (wV.alloc (.cells #[] 63)).drew (by (repeat (first | with_reducible assumption | with_reducible exact Below.refl _ _ | with_reducible apply below_al | with_reducible apply below_dr | with_reducible apply below_dn)); done)
                    refine hK.out _ _ hHeld ?_
                    clear hK K
                    try simp only [List.getElem_toArray, List.getElem_cons_succ, List.getElem_cons_zero, Act.put, List.setIfInBounds_toArray, List.set_cons_zero, List.set_cons_succ]
                    refine Rv.two (i := 4) (j := 14) rfl rfl (by kernel_rfl) (fun K hK => ?q4) (fun K hK => ?q6)
                  case' q4 =>
                    refine step_app (by rfl) _ _ 57 rfl 63 i0 (.agg #[.string ByteArray.empty, .int .i64 0]) 2 24 Try.underlying57 HI.out.1 HI.out.2.1 HI.out.2.2.1 HI.out.2.2.2 rfl (by decide) wV.heap.size _ 0 0 [] (by rfl) (Row.empty _ _ _ _ _) (Below.size (B := wV.heap.size) (by (repeat (first | with_reducible assumption | with_reducible exact Below.refl _ _ | with_reducible apply below_al | with_reducible apply below_dr | with_reducible apply below_dn)); done)) (some ⟨ga, 0, none⟩) a cl (cellsOf landmarkC (L.take a)) (by rfl) (HP1.out _ (by (repeat (first | with_reducible assumption | with_reducible exact Below.refl _ _ | with_reducible apply below_al | with_reducible apply below_dr | with_reducible apply below_dn)); done)) HLK.out.1 (fun h => by cases h) (one_lmk _) (by unfold maxLen; omega) (by omega) ?_
                    intro A5 n5 c5 w5 hn5 o5 g5 k5
                    have hn5' : n5 = a := by omega
                    clear hn5
                    subst hn5'
                    have HA5 := hide (show Row w5 wV.heap.size 63 2 A5 n5 c5 (cellsOf landmarkC (L.take n5)) from by simpa using o5)
                    have HWX := hide (show Below wV.heap.size wV w5 from below_tr (by (repeat (first | with_reducible assumption | with_reducible exact Below.refl _ _ | with_reducible apply below_al | with_reducible apply below_dr | with_reducible apply below_dn)); done) g5)
                    clear o5 g5 k5 hHeld
                    have hHeld := HSS.out w5 HWX.out
                    refine hK.out _ _ hHeld ?_
                    clear hK K
                    try simp only [List.getElem_toArray, List.getElem_cons_succ, List.getElem_cons_zero, Act.put, List.setIfInBounds_toArray, List.set_cons_zero, List.set_cons_succ]
                    refine Rv.one (i := 14) rfl (by kernel_rfl) (fun K hK => ?_)
                    go_simp
                    clear hHeld
                    have hHeld := HSS.out _ (HWX.out.alloc HWX.out.size (.cells #[.string nm, .int .i64 pl] 63))
                    refine hK.out _ _ hHeld ?_
                    clear hK K
                    try simp only [List.getElem_toArray, List.getElem_cons_succ, List.getElem_cons_zero, Act.put, List.setIfInBounds_toArray, List.set_cons_zero, List.set_cons_succ]
                    have HNC := hide (show Box (w5.alloc (.cells #[.string nm, .int .i64 pl] 63)) w5.heap.size 63 #[.string nm, .int .i64 pl] from Box.new w5 63 #[.string nm, .int .i64 pl])
                    have B6 : Below w5.heap.size w5 (w5.alloc (.cells #[.string nm, .int .i64 pl] 63)) := (by repeat (first | exact Below.refl _ _ | with_reducible assumption | (refine Below.drew ?_) | (refine Below.drewN ?_ _) | (refine Below.alloc ?_ (by simp; try omega) _) | (refine Below.setCell ?_ (by simp; try omega) _)))
                    replace HWX := hide (HWX.out.trans (B6.mono HWX.out.size))
                    replace HA5 := hide (HA5.out.call B6)
                    clear B6
                    generalize w5.alloc (.cells #[.string nm, .int .i64 pl] 63) = wX at *
                    generalize w5.heap.size = N at *
                  case' q6 =>
                    go_simp
                    clear hHeld
                    have hHeld := HSS.out ((wV.alloc (.cells #[] 63)).alloc (.cells #[.string nm, .int .i64 pl] 63)).drew (by (repeat (first | with_reducible assumption | with_reducible exact Below.refl _ _ | with_reducible apply below_al | with_reducible apply below_dr | with_reducible apply below_dn)); done)
                    refine hK.out _ _ hHeld ?_
                    clear hK K
                    try simp only [List.getElem_toArray, List.getElem_cons_succ, List.getElem_cons_zero, Act.put, List.setIfInBounds_toArray, List.set_cons_zero, List.set_cons_succ]
                    have HNN := hide (show Box ((wV.alloc (.cells #[] 63)).alloc (.cells #[.string nm, .int .i64 pl] 63)).drew (wV.heap.size + 1) 63 #[.string nm, .int .i64 pl] from by
                      have h := Box.new (wV.alloc (.cells #[] 63)) 63 #[.string nm, .int .i64 pl]
                      rw [World.size_alloc] at h
                      exact h.call (below_dr (Below.refl _ _)))
                    refine Rv.one (i := 4) rfl (by kernel_rfl) (fun K hK => ?_)
                    refine step_app (by rfl) _ _ 57 rfl 63 i0 (.agg #[.string ByteArray.empty, .int .i64 0]) 2 24 Try.underlying57 HI.out.1 HI.out.2.1 HI.out.2.2.1 HI.out.2.2.2 rfl (by decide) wV.heap.size _ 0 0 [] (by rfl) (Row.empty _ _ _ _ _) (Below.size (B := wV.heap.size) (by (repeat (first | with_reducible assumption | with_reducible exact Below.refl _ _ | with_reducible apply below_al | with_reducible apply below_dr | with_reducible apply below_dn)); done)) (some ⟨ga, 0, none⟩) a cl (cellsOf landmarkC (L.take a)) (by rfl) (HP1.out _ (by (repeat (first | with_reducible assumption | with_reducible exact Below.refl _ _ | with_reducible apply below_al | with_reducible apply below_dr | with_reducible apply below_dn)); done)) HLK.out.1 (fun h => by cases h) (one_lmk _) (by unfold maxLen; omega) (by omega) ?_
                    intro A5 n5 c5 wX hn5 o5 g5 k5
                    have hn5' : n5 = a := by omega
                    clear hn5
                    subst hn5'
                    have HA5 := hide (show Row wX wV.heap.size 63 2 A5 n5 c5 (cellsOf landmarkC (L.take n5)) from by simpa using o5)
                    have HWX := hide (show Below wV.heap.size wV wX from below_tr (by (repeat (first | with_reducible assumption | with_reducible exact Below.refl _ _ | with_reducible apply below_al | with_reducible apply below_dr | with_reducible apply below_dn)); done) g5)
                    have HNC := hide (HNN.out.call (below_tr (Below.refl _ _) g5))
                    clear o5 g5 k5 HNN hHeld
                    have hHeld := HSS.out wX HWX.out
                    refine hK.out _ _ hHeld ?_
                    clear hK K
                    try simp only [List.getElem_toArray, List.getElem_cons_succ, List.getElem_cons_zero, Act.put, List.setIfInBounds_toArray, List.set_cons_zero, List.set_cons_succ]
                    generalize wV.heap.size + 1 = N at *
                  case' p6 =>
                    go_simp
                    clear hHeld
                    have hHeld := HSS.out (wV.alloc (.cells #[.string nm, .int .i64 pl] 63)).drew (by (repeat (first | with_reducible assumption | with_reducible exact Below.refl _ _ | with_reducible apply below_al | with_reducible apply below_dr | with_reducible apply below_dn)); done)
                    refine hK.out _ _ hHeld ?_
                    clear hK K
                    try simp only [List.getElem_toArray, List.getElem_cons_succ, List.getElem_cons_zero, Act.put, List.setIfInBounds_toArray, List.set_cons_zero, List.set_cons_succ]
                    refine Rv.one (i := 0) rfl (by kernel_rfl) (fun K hK => ?_)
                    go_simp
                    clear hHeld
                    have hHeld := HSS.out ((wV.alloc (.cells #[.string nm, .int .i64 pl] 63)).alloc (.cells #[] 63)).drew (by (repeat (first | with_reducible assumption | with_reducible exact Below.refl _ _ | with_reducible apply below_al | with_reducible apply below_dr | with_reducible apply below_dn)); done)
                    refine hK.out _ _ hHeld ?_
                    clear hK K
                    try simp only [List.getElem_toArray, List.getElem_cons_succ, List.getElem_cons_zero, Act.put, List.setIfInBounds_toArray, List.set_cons_zero, List.set_cons_succ]
                    have HNN := hide (show Box ((wV.alloc (.cells #[.string nm, .int .i64 pl] 63)).alloc (.cells #[] 63)).drew wV.heap.size 63 #[.string nm, .int .i64 pl] from by
                      have h := (Box.new wV 63 #[.string nm, .int .i64 pl]).alloc (.cells #[] 63)
                      exact h.call (below_dr (Below.refl _ _)))
                    refine Rv.one (i := 4) rfl (by kernel_rfl) (fun K hK => ?_)
                    refine step_app (by rfl) _ _ 57 rfl 63 i0 (.agg #[.string ByteArray.empty, .int .i64 0]) 2 24 Try.underlying57 HI.out.1 HI.out.2.1 HI.out.2.2.1 HI.out.2.2.2 rfl (by decide) wV.heap.size _ 0 0 [] (by rfl) (Row.empty _ _ _ _ _) (Below.size (B := wV.heap.size) (by (repeat (first | with_reducible assumption | with_reducible exact Below.refl _ _ | with_reducible apply below_al | with_reducible apply below_dr | with_reducible apply below_dn)); done)) (some ⟨ga, 0, none⟩) a cl (cellsOf landmarkC (L.take a)) (by rfl) (HP1.out _ (by (repeat (first | with_reducible assumption | with_reducible exact Below.refl _ _ | with_reducible apply below_al | with_reducible apply below_dr | with_reducible apply below_dn)); done)) HLK.out.1 (fun h => by cases h) (one_lmk _) (by unfold maxLen; omega) (by omega) ?_
                    intro A5 n5 c5 wX hn5 o5 g5 k5
                    have hn5' : n5 = a := by omega
                    clear hn5
                    subst hn5'
                    have HA5 := hide (show Row wX wV.heap.size 63 2 A5 n5 c5 (cellsOf landmarkC (L.take n5)) from by simpa using o5)
                    have HWX := hide (show Below wV.heap.size wV wX from below_tr (by (repeat (first | with_reducible assumption | with_reducible exact Below.refl _ _ | with_reducible apply below_al | with_reducible apply below_dr | with_reducible apply below_dn)); done) g5)
                    have HNC := hide (HNN.out.call (below_tr (Below.refl _ _) g5))
                    clear o5 g5 k5 HNN hHeld
                    have hHeld := HSS.out wX HWX.out
                    refine hK.out _ _ hHeld ?_
                    clear hK K
                    try simp only [List.getElem_toArray, List.getElem_cons_succ, List.getElem_cons_zero, Act.put, List.setIfInBounds_toArray, List.set_cons_zero, List.set_cons_succ]
                    generalize hN : wV.heap.size = N at HNC ⊢
                  all_goals
                    refine Rv.one (i := 15) rfl (by kernel_rfl) (fun K hK => ?_)
                    have hgeA := (fun q hq => (HA5.out.lt q hq).1)
                    have HGA := hide hgeA
                    clear hgeA
                    refine step_app (by rfl) _ _ 57 rfl 63 i0 (.agg #[.string ByteArray.empty, .int .i64 0]) 2 24 Try.underlying57 HI.out.1 HI.out.2.1 HI.out.2.2.1 HI.out.2.2.2 rfl (by decide) wV.heap.size A5 n5 c5 (cellsOf landmarkC (L.take n5)) (by rfl) HA5.out HWX.out.size (some ⟨N, 0, none⟩) 1 1 [.string nm, .int .i64 pl] (by rfl) (B := N + 1) (fun i u hi => by
                      refine ⟨N, 0, rfl, Nat.lt_succ_self _, ?_⟩
                      rw [Nat.zero_add, HNC.out.cell i]
                      simpa using hi) rfl (fun h => by cases h) (one_lmk1 nm pl) (by unfold maxLen; omega) (by omega) ?_
                    intro A7 n7 c7 w7 hn7 o7 g7 k7
                    have hn7' : n7 = n5 + 1 := hn7
                    clear hn7
                    subst hn7'
                    have HW7 := hide (show Below wV.heap.size wV w7 from HWX.out.grown g7 HWX.out.size (fun q hq => HGA.out q hq))
                    have HA7 := hide o7
                    clear o7 g7 k7 HA5 HWX HGA HNC hHeld
                    have hHeld := HSS.out w7 HW7.out
                    refine hK.out _ _ hHeld ?_
                    clear hK K
                    try simp only [List.getElem_toArray, List.getElem_cons_succ, List.getElem_cons_zero, Act.put, List.setIfInBounds_toArray, List.set_cons_zero, List.set_cons_succ]
                    refine Rv.one (i := 19) rfl (by kernel_rfl) (fun K hK => ?_)
                    refine step_app (by rfl) _ _ 57 rfl 63 i0 (.agg #[.string ByteArray.empty, .int .i64 0]) 2 24 Try.underlying57 HI.out.1 HI.out.2.1 HI.out.2.2.1 HI.out.2.2.2 rfl (by decide) wV.heap.size A7 (n5 + 1) c7 _ (by rfl) HA7.out HW7.out.size A2 (n - n5) (cl - n5) (cellsOf landmarkC (L.drop n5)) (by rfl) (HP2.out _ HW7.out) HLK.out.2 HA2.out (one_lmk _) (by unfold maxLen; omega) (by omega) ?_
                    intro A9 n9 c9 w9 hn9 o9 g9 k9
                    have hn9' : n9 = n + 1 := by omega
                    clear hn9
                    subst hn9'
                    have HA9 := hide (show Row w9 wV.heap.size 63 2 A9 (n + 1) c9 (cellsOf landmarkC (insL L (nm, pl))) from by
                      rw [HST.out]
                      simpa [cellsOf, landmarkC] using o9)
                    have HW9 := hide (show Below wV.heap.size wV w9 from HW7.out.grown g9 HW7.out.size (fun q hq => (HA7.out.lt q hq).1))
                    clear o9 g9 k9 HA7 HW7 hHeld
                    have hHeld := HSS.out w9 HW9.out
                    refine hK.out _ _ hHeld ?_
                    clear hK K
                    try simp only [List.getElem_toArray, List.getElem_cons_succ, List.getElem_cons_zero, Act.put, List.setIfInBounds_toArray, List.set_cons_zero, List.set_cons_succ]
                    refine Rv.comp (i := 20) (v := ?_) rfl (by kernel_rfl) (by kernel_rfl) (by kernel_rfl) (fun _ _ _ h => h) (Or.inl ⟨by rfl, ?_⟩) ?_
                    rotate_left 1
                    focus (intro w hSw; (try dsimp only at hSw); go_simp; (try with_reducible rfl))
                    try simp only [List.getElem_toArray, List.getElem_cons_succ, List.getElem_cons_zero, Act.put, List.setIfInBounds_toArray, List.set_cons_zero, List.set_cons_succ]
                    refine Rv.done (by kernel_rfl) ?_ _
                    clear hHeld
                    obtain ⟨g', hA', _, _, _, _⟩ := own_of HA9.out (by omega)
                    subst hA'
                    have HWE := hide (HA9.out.down HBL.out)
                    have HN9 := hide (HNW.out.call HW9.out)
                    have HPW9 := hide (HPW.out.call HW9.out)
                    have HB9 := hide (HB.out.trans (HW9.out.mono HB.out.size))
                    go_wp2_with fail
                    refine ⟨⟨k + 1, g', c9, insL L (nm, pl), by omega, by rw [HFL.out], by go_num, HNX.out.symm, by rw [HFL.out]; have := HLk.out; omega, by rw [HFL.out]; exact HWE.out, HN9.out, HPW9.out, HB9.out⟩, by first | (simp [intOf]; done) | (simp [intOf]; omega)⟩
                · have haL' : a - 1 < L.length := by omega
                  have HX1 := hide (show L.getD (a - 1) (ByteArray.empty, 0) = L[a - 1] from by rw [List.getD_eq_getElem?_getD, List.getElem?_eq_getElem haL']; rfl)
                  have HGO := hide (fun h : pl < (L[a - 1]).2 => (show lpos L pl L.length = lpos L pl (a - 1) from by
                    rw [HPOS.out, show a = (a - 1) + 1 from by omega]
                    show (if _ then _ else _) = _
                    rw [Nat.add_sub_cancel, HX1.out, if_pos h]))
                  have HSTOP := hide (fun h : ¬ pl < (L[a - 1]).2 => (show insL L (nm, pl) = L.take a ++ [(nm, pl)] ++ L.drop a from by
                    have : lpos L pl L.length = a := by
                      rw [HPOS.out, show a = (a - 1) + 1 from by omega]
                      show (if _ then _ else _) = _
                      rw [HX1.out, if_neg h]
                    unfold insL
                    rw [this]))
                  obtain ⟨b, off, hA, _, hc⟩ := (HW.out.call HBI.out).rd ((a - 1) * 2 + 1) (.int .i64 (L[a - 1]).2) (by rw [cellsOf_at landmarkC_len L (a - 1) 1 haL' (by decide)]; rfl)
                  simp only [Option.some.injEq, Addr.mk.injEq, and_true] at hA
                  obtain ⟨rfl, rfl⟩ := hA
                  rw [Nat.zero_add] at hc
                  clear HPOS HX1
                  generalize (L[a - 1]).2 = q at *
                  have ht : (IntKind.i64.wrap ((a : Int) - 1)) = ((a - 1 : Nat) : Int) := by
                    rw [IntWalk.i64_in _ (by omega)]
                    omega
                  have h0 : (0 : Int) < a := by omega
                  have h0N : 0 < a := by omega
                  have hd0 : decide ((a : Int) > 0) = true := decide_eq_true h0
                  by_cases hq : pl < q
                  · have HNX2 := hide (HGO.out hq)
                    clear HGO HSTOP
                    go_wp2_with fail
                    go_quiet (fail)
                    go_wp2_with fail
                    refine ⟨⟨a - 1, by omega, by go_num, HNX2.out, Kit.Below.drewN HBI.out _⟩, by simp [intOf]; omega⟩
                  · have HST := hide (HSTOP.out hq)
                    have hd : decide (q > pl) = false := decide_eq_false hq
                    clear HGO HSTOP
                    go_wp2_with fail
                    go_quiet (fail)
                    go_wp2_with fail
                    clear hd hc ht h0 h0N hd0
                    have HBV := hide (Kit.Below.drewN HBI.out nq)
                    have HW := hide (HW.out.call HBV.out)
                    have HNW := hide (HNW.out.call HBV.out)
                    have HPW := hide (HPW.out.call HBV.out)
                    have hcn := (HBV.out.cell (p := ⟨g, k, none⟩) hgn).trans hcn
                    have hcp := (HBV.out.cell (p := ⟨pb, po + k, none⟩) hpb).trans hcp
                    have HB := hide (HB.out.trans (HBV.out.mono HB.out.size))
                    have HBL := hide HB.out.size
                    have hgn := Nat.lt_of_lt_of_le hgn HBV.out.size
                    have hpb := Nat.lt_of_lt_of_le hpb HBV.out.size
                    clear HBI HBV hcnI hcpI
                    generalize wi.drewN nq = wV at *
                    have HLK := hide (show (cellsOf landmarkC (L.take a)).length = a * 2 ∧ (cellsOf landmarkC (L.drop a)).length = (L.length - a) * 2 from ⟨by rw [cellsOf_len landmarkC_len, List.length_take]; congr 1; omega, by rw [cellsOf_len landmarkC_len, List.length_drop]⟩)
                    have HP1 := hide (fun V (hV : Below wV.heap.size wV V) => (show Rd V V.heap.size (some ⟨ga, 0, none⟩) (cellsOf landmarkC (L.take a)) from by
                      have h := ((HW.out.prefix haL).rd.below hV).more hV.size
                      rw [cells_take] at h
                      exact h))
                    have HP2 := hide (fun V (hV : Below wV.heap.size wV V) => (show Rd V V.heap.size (if cl = a then some ⟨ga, 0, none⟩ else some ⟨ga, a * 2, none⟩) (cellsOf landmarkC (L.drop a)) from by
                      have h := CSortS.rd_tail (j := a) (jj := a * 2) (size := 2) ((HW.out.rd.below hV).more hV.size) (cellsOf_len landmarkC_len L) HW.out.cap.1 rfl
                      rw [cells_drop] at h
                      exact h))
                    have HA2 := hide (show (if cl = a then some (⟨ga, 0, none⟩ : Addr) else some ⟨ga, a * 2, none⟩) = none → cl - a = 0 from fun h => by split at h <;> cases h)
                    have hac : a ≤ cl := Nat.le_trans haL HW.out.cap.1
                    have hlc : L.length ≤ cl := HW.out.cap.1
                    have HSS := hide (fun V (hV : Below wV.heap.size wV V) => (show V.cell? ⟨g, k, none⟩ = some (.string nm) ∧ V.cell? ⟨pb, po + k, none⟩ = some (.int .i64 pl) from ⟨(hV.cell (p := ⟨g, k, none⟩) hgn).trans hcn, (hV.cell (p := ⟨pb, po + k, none⟩) hpb).trans hcp⟩))
                    have HFL := hide (show (insL L (nm, pl)).length = L.length + 1 from insL_len _ _)
                    clear hcn hcp
                    generalize hnl : L.length = n at *
                    clear hnl
                    refine Rv.start (fun V => V.cell? ⟨g, k, none⟩ = some (.string nm) ∧ V.cell? ⟨pb, po + k, none⟩ = some (.int .i64 pl)) (fun _ => false) (by kernel_rfl) ?_
                    have hHeld := HSS.out wV.drew (below_dr (Below.refl _ _))
                    refine Rv.comp (i := 1) (v := ?_) rfl (by kernel_rfl) (by kernel_rfl) (by kernel_rfl) (fun _ _ _ h => h) (Or.inl ⟨by rfl, ?_⟩) ?_
                    rotate_left 1
                    focus (intro w hSw; (try dsimp only at hSw); go_simp; (try with_reducible rfl))
                    try simp only [List.getElem_toArray, List.getElem_cons_succ, List.getElem_cons_zero, Act.put, List.setIfInBounds_toArray, List.set_cons_zero, List.set_cons_succ]
                    refine Rv.comp (i := 2) (v := ?_) rfl (by kernel_rfl) (by kernel_rfl) (by kernel_rfl) (fun _ _ _ h => h) (Or.inl ⟨by rfl, ?_⟩) ?_
                    rotate_left 1
                    focus (intro w hSw; (try dsimp only at hSw); go_simp; (try with_reducible rfl))
                    try simp only [List.getElem_toArray, List.getElem_cons_succ, List.getElem_cons_zero, Act.put, List.setIfInBounds_toArray, List.set_cons_zero, List.set_cons_succ]
                    refine Rv.comp (i := 3) (v := ?_) rfl (by kernel_rfl) (by kernel_rfl) (by kernel_rfl) (fun _ _ _ h => h) (Or.inl ⟨by rfl, ?_⟩) ?_
                    rotate_left 1
                    focus (intro w hSw; (try dsimp only at hSw); go_simp; (try with_reducible rfl))
                    try simp only [List.getElem_toArray, List.getElem_cons_succ, List.getElem_cons_zero, Act.put, List.setIfInBounds_toArray, List.set_cons_zero, List.set_cons_succ]
                    refine Rv.comp (i := 5) (v := ?_) rfl (by kernel_rfl) (by kernel_rfl) (by kernel_rfl) (fun _ _ _ h => h) (Or.inl ⟨by rfl, ?_⟩) ?_
                    rotate_left 1
                    focus (intro w hSw; (try dsimp only at hSw); go_simp; (try with_reducible rfl))
                    try simp only [List.getElem_toArray, List.getElem_cons_succ, List.getElem_cons_zero, Act.put, List.setIfInBounds_toArray, List.set_cons_zero, List.set_cons_succ]
                    refine Rv.comp (i := 6) (v := ?_) rfl (by kernel_rfl) (by kernel_rfl) (by kernel_rfl) (fun _ _ _ h => h) (Or.inl ⟨by rfl, ?_⟩) ?_
                    rotate_left 1
                    focus (intro w hSw; (try dsimp only at hSw); go_simp; (try with_reducible rfl))
                    try simp only [List.getElem_toArray, List.getElem_cons_succ, List.getElem_cons_zero, Act.put, List.setIfInBounds_toArray, List.set_cons_zero, List.set_cons_succ]
                    refine Rv.comp (i := 7) (v := ?_) rfl (by kernel_rfl) (by kernel_rfl) (by kernel_rfl) (fun _ _ _ h => h) (Or.inl ⟨by rfl, ?_⟩) ?_
                    rotate_left 1
                    focus (intro w hSw; (try dsimp only at hSw); go_simp; (try with_reducible rfl))
                    try simp only [List.getElem_toArray, List.getElem_cons_succ, List.getElem_cons_zero, Act.put, List.setIfInBounds_toArray, List.set_cons_zero, List.set_cons_succ]
                    refine Rv.take (i := 8) (v := ?_) rfl (by kernel_rfl) (by kernel_rfl) (by kernel_rfl) (by kernel_rfl) (fun _ _ _ h => h) (Or.inl ⟨by rfl, ?_⟩) (by assumption) ?_
                    rotate_left 1
                    focus (intro w hSw; (try dsimp only at hSw); go_simp; (try with_reducible rfl))
                    try simp only [List.getElem_toArray, List.getElem_cons_succ, List.getElem_cons_zero, Act.put, List.setIfInBounds_toArray, List.set_cons_zero, List.set_cons_succ]
                    refine Rv.comp (i := 9) (v := ?_) rfl (by kernel_rfl) (by kernel_rfl) (by kernel_rfl) (fun _ _ _ h => h) (Or.inl ⟨by rfl, ?_⟩) ?_
                    rotate_left 1
                    focus (intro w hSw; (try dsimp only at hSw); go_simp; (try with_reducible rfl))
                    try simp only [List.getElem_toArray, List.getElem_cons_succ, List.getElem_cons_zero, Act.put, List.setIfInBounds_toArray, List.set_cons_zero, List.set_cons_succ]
                    refine Rv.comp (i := 10) (v := ?_) rfl (by kernel_rfl) (by kernel_rfl) (by kernel_rfl) (fun _ _ _ h => h) (Or.inl ⟨by rfl, ?_⟩) ?_
                    rotate_left 1
                    focus (intro w hSw; (try dsimp only at hSw); go_simp; (try with_reducible rfl))
                    try simp only [List.getElem_toArray, List.getElem_cons_succ, List.getElem_cons_zero, Act.put, List.setIfInBounds_toArray, List.set_cons_zero, List.set_cons_succ]
                    refine Rv.comp (i := 11) (v := ?_) rfl (by kernel_rfl) (by kernel_rfl) (by kernel_rfl) (fun _ _ _ h => h) (Or.inl ⟨by rfl, ?_⟩) ?_
                    rotate_left 1
                    focus (intro w hSw; (try dsimp only at hSw); go_simp; (try with_reducible rfl))
                    try simp only [List.getElem_toArray, List.getElem_cons_succ, List.getElem_cons_zero, Act.put, List.setIfInBounds_toArray, List.set_cons_zero, List.set_cons_succ]
                    refine Rv.take (i := 12) (v := ?_) rfl (by kernel_rfl) (by kernel_rfl) (by kernel_rfl) (by kernel_rfl) (fun _ _ _ h => h) (Or.inl ⟨by rfl, ?_⟩) (by assumption) ?_
                    rotate_left 1
                    focus (intro w hSw; (try dsimp only at hSw); go_simp; (try with_reducible rfl))
                    try simp only [List.getElem_toArray, List.getElem_cons_succ, List.getElem_cons_zero, Act.put, List.setIfInBounds_toArray, List.set_cons_zero, List.set_cons_succ]
                    refine Rv.comp (i := 13) (v := ?_) rfl (by kernel_rfl) (by kernel_rfl) (by kernel_rfl) (fun _ _ _ h => h) (Or.inl ⟨by rfl, ?_⟩) ?_
                    rotate_left 1
                    focus (intro w hSw; (try dsimp only at hSw); go_simp; (try with_reducible rfl))
                    try simp only [List.getElem_toArray, List.getElem_cons_succ, List.getElem_cons_zero, Act.put, List.setIfInBounds_toArray, List.set_cons_zero, List.set_cons_succ]
                    refine Rv.comp (i := 16) (v := ?_) rfl (by kernel_rfl) (by kernel_rfl) (by kernel_rfl) (fun _ _ _ h => h) (Or.inl ⟨by rfl, ?_⟩) ?_
                    rotate_left 1
                    focus (intro w hSw; (try dsimp only at hSw); go_simp; (try with_reducible rfl))
                    try simp only [List.getElem_toArray, List.getElem_cons_succ, List.getElem_cons_zero, Act.put, List.setIfInBounds_toArray, List.set_cons_zero, List.set_cons_succ]
                    refine Rv.comp (i := 17) (v := ?_) rfl (by kernel_rfl) (by kernel_rfl) (by kernel_rfl) (fun _ _ _ h => h) (Or.inl ⟨by rfl, ?_⟩) ?_
                    rotate_left 1
                    focus (intro w hSw; (try dsimp only at hSw); go_simp; (try with_reducible rfl))
                    try simp only [List.getElem_toArray, List.getElem_cons_succ, List.getElem_cons_zero, Act.put, List.setIfInBounds_toArray, List.set_cons_zero, List.set_cons_succ]
                    refine Rv.comp (i := 18) (v := ?_) rfl (by kernel_rfl) (by kernel_rfl) (by kernel_rfl) (fun _ _ _ h => h) (Or.inl ⟨by rfl, ?_⟩) ?_
                    rotate_left 1
                    focus (intro w hSw; (try dsimp only at hSw); go_simp; (try with_reducible rfl))
                    try simp only [List.getElem_toArray, List.getElem_cons_succ, List.getElem_cons_zero, Act.put, List.setIfInBounds_toArray, List.set_cons_zero, List.set_cons_succ]
                    generalize (if cl = a then some (⟨ga, 0, none⟩ : Addr) else some ⟨ga, a * 2, none⟩) = A2 at *
                    refine Rv.two (i := 0) (j := 14) rfl rfl (by kernel_rfl) (fun K hK => ?s0) (fun K hK => ?s6)
                    case' s0 =>
                      go_simp
                      clear hHeld
                      have hHeld := HSS.out (wV.alloc (.cells #[] 63)).drew (by (repeat (first | with_reducible assumption | with_reducible exact Below.refl _ _ | with_reducible apply below_al | with_reducible apply below_dr | with_reducible apply below_dn)); done)
                      refine hK.out _ _ hHeld ?_
                      clear hK K
                      try simp only [List.getElem_toArray, List.getElem_cons_succ, List.getElem_cons_zero, Act.put, List.setIfInBounds_toArray, List.set_cons_zero, List.set_cons_succ]
                      refine Rv.two (i := 4) (j := 14) rfl rfl (by kernel_rfl) (fun K hK => ?t4) (fun K hK => ?t6)
                    case' t4 =>
                      refine step_app (by rfl) _ _ 57 rfl 63 i0 (.agg #[.string ByteArray.empty, .int .i64 0]) 2 24 Try.underlying57 HI.out.1 HI.out.2.1 HI.out.2.2.1 HI.out.2.2.2 rfl (by decide) wV.heap.size _ 0 0 [] (by rfl) (Row.empty _ _ _ _ _) (Below.size (B := wV.heap.size) (by (repeat (first | with_reducible assumption | with_reducible exact Below.refl _ _ | with_reducible apply below_al | with_reducible apply below_dr | with_reducible apply below_dn)); done)) (some ⟨ga, 0, none⟩) a cl (cellsOf landmarkC (L.take a)) (by rfl) (HP1.out _ (by (repeat (first | with_reducible assumption | with_reducible exact Below.refl _ _ | with_reducible apply below_al | with_reducible apply below_dr | with_reducible apply below_dn)); done)) HLK.out.1 (fun h => by cases h) (one_lmk _) (by unfold maxLen; omega) (by omega) ?_
                      intro A5 n5 c5 w5 hn5 o5 g5 k5
                      have hn5' : n5 = a := by omega
                      clear hn5
                      subst hn5'
                      have HA5 := hide (show Row w5 wV.heap.size 63 2 A5 n5 c5 (cellsOf landmarkC (L.take n5)) from by simpa using o5)
                      have HWX := hide (show Below wV.heap.size wV w5 from below_tr (by (repeat (first | with_reducible assumption | with_reducible exact Below.refl _ _ | with_reducible apply below_al | with_reducible apply below_dr | with_reducible apply below_dn)); done) g5)
                      clear o5 g5 k5 hHeld
                      have hHeld := HSS.out w5 HWX.out
                      refine hK.out _ _ hHeld ?_
                      clear hK K
                      try simp only [List.getElem_toArray, List.getElem_cons_succ, List.getElem_cons_zero, Act.put, List.setIfInBounds_toArray, List.set_cons_zero, List.set_cons_succ]
                      refine Rv.one (i := 14) rfl (by kernel_rfl) (fun K hK => ?_)
                      go_simp
                      clear hHeld
                      have hHeld := HSS.out _ (HWX.out.alloc HWX.out.size (.cells #[.string nm, .int .i64 pl] 63))
                      refine hK.out _ _ hHeld ?_
                      clear hK K
                      try simp only [List.getElem_toArray, List.getElem_cons_succ, List.getElem_cons_zero, Act.put, List.setIfInBounds_toArray, List.set_cons_zero, List.set_cons_succ]
                      have HNC := hide (show Box (w5.alloc (.cells #[.string nm, .int .i64 pl] 63)) w5.heap.size 63 #[.string nm, .int .i64 pl] from Box.new w5 63 #[.string nm, .int .i64 pl])
                      have B6 : Below w5.heap.size w5 (w5.alloc (.cells #[.string nm, .int .i64 pl] 63)) := (by repeat (first | exact Below.refl _ _ | with_reducible assumption | (refine Below.drew ?_) | (refine Below.drewN ?_ _) | (refine Below.alloc ?_ (by simp; try omega) _) | (refine Below.setCell ?_ (by simp; try omega) _)))
                      replace HWX := hide (HWX.out.trans (B6.mono HWX.out.size))
                      replace HA5 := hide (HA5.out.call B6)
                      clear B6
                      generalize w5.alloc (.cells #[.string nm, .int .i64 pl] 63) = wX at *
                      generalize w5.heap.size = N at *
                    case' t6 =>
                      go_simp
                      clear hHeld
                      have hHeld := HSS.out ((wV.alloc (.cells #[] 63)).alloc (.cells #[.string nm, .int .i64 pl] 63)).drew (by (repeat (first | with_reducible assumption | with_reducible exact Below.refl _ _ | with_reducible apply below_al | with_reducible apply below_dr | with_reducible apply below_dn)); done)
                      refine hK.out _ _ hHeld ?_
                      clear hK K
                      try simp only [List.getElem_toArray, List.getElem_cons_succ, List.getElem_cons_zero, Act.put, List.setIfInBounds_toArray, List.set_cons_zero, List.set_cons_succ]
                      have HNN := hide (show Box ((wV.alloc (.cells #[] 63)).alloc (.cells #[.string nm, .int .i64 pl] 63)).drew (wV.heap.size + 1) 63 #[.string nm, .int .i64 pl] from by
                        have h := Box.new (wV.alloc (.cells #[] 63)) 63 #[.string nm, .int .i64 pl]
                        rw [World.size_alloc] at h
                        exact h.call (below_dr (Below.refl _ _)))
                      refine Rv.one (i := 4) rfl (by kernel_rfl) (fun K hK => ?_)
                      refine step_app (by rfl) _ _ 57 rfl 63 i0 (.agg #[.string ByteArray.empty, .int .i64 0]) 2 24 Try.underlying57 HI.out.1 HI.out.2.1 HI.out.2.2.1 HI.out.2.2.2 rfl (by decide) wV.heap.size _ 0 0 [] (by rfl) (Row.empty _ _ _ _ _) (Below.size (B := wV.heap.size) (by (repeat (first | with_reducible assumption | with_reducible exact Below.refl _ _ | with_reducible apply below_al | with_reducible apply below_dr | with_reducible apply below_dn)); done)) (some ⟨ga, 0, none⟩) a cl (cellsOf landmarkC (L.take a)) (by rfl) (HP1.out _ (by (repeat (first | with_reducible assumption | with_reducible exact Below.refl _ _ | with_reducible apply below_al | with_reducible apply below_dr | with_reducible apply below_dn)); done)) HLK.out.1 (fun h => by cases h) (one_lmk _) (by unfold maxLen; omega) (by omega) ?_
                      intro A5 n5 c5 wX hn5 o5 g5 k5
                      have hn5' : n5 = a := by omega
                      clear hn5
                      subst hn5'
                      have HA5 := hide (show Row wX wV.heap.size 63 2 A5 n5 c5 (cellsOf landmarkC (L.take n5)) from by simpa using o5)
                      have HWX := hide (show Below wV.heap.size wV wX from below_tr (by (repeat (first | with_reducible assumption | with_reducible exact Below.refl _ _ | with_reducible apply below_al | with_reducible apply below_dr | with_reducible apply below_dn)); done) g5)
                      have HNC := hide (HNN.out.call (below_tr (Below.refl _ _) g5))
                      clear o5 g5 k5 HNN hHeld
                      have hHeld := HSS.out wX HWX.out
                      refine hK.out _ _ hHeld ?_
                      clear hK K
                      try simp only [List.getElem_toArray, List.getElem_cons_succ, List.getElem_cons_zero, Act.put, List.setIfInBounds_toArray, List.set_cons_zero, List.set_cons_succ]
                      generalize wV.heap.size + 1 = N at *
                    case' s6 =>
                      go_simp
                      clear hHeld
                      have hHeld := HSS.out (wV.alloc (.cells #[.string nm, .int .i64 pl] 63)).drew (by (repeat (first | with_reducible assumption | with_reducible exact Below.refl _ _ | with_reducible apply below_al | with_reducible apply below_dr | with_reducible apply below_dn)); done)
                      refine hK.out _ _ hHeld ?_
                      clear hK K
                      try simp only [List.getElem_toArray, List.getElem_cons_succ, List.getElem_cons_zero, Act.put, List.setIfInBounds_toArray, List.set_cons_zero, List.set_cons_succ]
                      refine Rv.one (i := 0) rfl (by kernel_rfl) (fun K hK => ?_)
                      go_simp
                      clear hHeld
                      have hHeld := HSS.out ((wV.alloc (.cells #[.string nm, .int .i64 pl] 63)).alloc (.cells #[] 63)).drew (by (repeat (first | with_reducible assumption | with_reducible exact Below.refl _ _ | with_reducible apply below_al | with_reducible apply below_dr | with_reducible apply below_dn)); done)
                      refine hK.out _ _ hHeld ?_
                      clear hK K
                      try simp only [List.getElem_toArray, List.getElem_cons_succ, List.getElem_cons_zero, Act.put, List.setIfInBounds_toArray, List.set_cons_zero, List.set_cons_succ]
                      have HNN := hide (show Box ((wV.alloc (.cells #[.string nm, .int .i64 pl] 63)).alloc (.cells #[] 63)).drew wV.heap.size 63 #[.string nm, .int .i64 pl] from by
                        have h := (Box.new wV 63 #[.string nm, .int .i64 pl]).alloc (.cells #[] 63)
                        exact h.call (below_dr (Below.refl _ _)))
                      refine Rv.one (i := 4) rfl (by kernel_rfl) (fun K hK => ?_)
                      refine step_app (by rfl) _ _ 57 rfl 63 i0 (.agg #[.string ByteArray.empty, .int .i64 0]) 2 24 Try.underlying57 HI.out.1 HI.out.2.1 HI.out.2.2.1 HI.out.2.2.2 rfl (by decide) wV.heap.size _ 0 0 [] (by rfl) (Row.empty _ _ _ _ _) (Below.size (B := wV.heap.size) (by (repeat (first | with_reducible assumption | with_reducible exact Below.refl _ _ | with_reducible apply below_al | with_reducible apply below_dr | with_reducible apply below_dn)); done)) (some ⟨ga, 0, none⟩) a cl (cellsOf landmarkC (L.take a)) (by rfl) (HP1.out _ (by (repeat (first | with_reducible assumption | with_reducible exact Below.refl _ _ | with_reducible apply below_al | with_reducible apply below_dr | with_reducible apply below_dn)); done)) HLK.out.1 (fun h => by cases h) (one_lmk _) (by unfold maxLen; omega) (by omega) ?_
                      intro A5 n5 c5 wX hn5 o5 g5 k5
                      have hn5' : n5 = a := by omega
                      clear hn5
                      subst hn5'
                      have HA5 := hide (show Row wX wV.heap.size 63 2 A5 n5 c5 (cellsOf landmarkC (L.take n5)) from by simpa using o5)
                      have HWX := hide (show Below wV.heap.size wV wX from below_tr (by (repeat (first | with_reducible assumption | with_reducible exact Below.refl _ _ | with_reducible apply below_al | with_reducible apply below_dr | with_reducible apply below_dn)); done) g5)
                      have HNC := hide (HNN.out.call (below_tr (Below.refl _ _) g5))
                      clear o5 g5 k5 HNN hHeld
                      have hHeld := HSS.out wX HWX.out
                      refine hK.out _ _ hHeld ?_
                      clear hK K
                      try simp only [List.getElem_toArray, List.getElem_cons_succ, List.getElem_cons_zero, Act.put, List.setIfInBounds_toArray, List.set_cons_zero, List.set_cons_succ]
                      generalize hN : wV.heap.size = N at HNC ⊢
                    all_goals
                      refine Rv.one (i := 15) rfl (by kernel_rfl) (fun K hK => ?_)
                      have hgeA := (fun q hq => (HA5.out.lt q hq).1)
                      have HGA := hide hgeA
                      clear hgeA
                      refine step_app (by rfl) _ _ 57 rfl 63 i0 (.agg #[.string ByteArray.empty, .int .i64 0]) 2 24 Try.underlying57 HI.out.1 HI.out.2.1 HI.out.2.2.1 HI.out.2.2.2 rfl (by decide) wV.heap.size A5 n5 c5 (cellsOf landmarkC (L.take n5)) (by rfl) HA5.out HWX.out.size (some ⟨N, 0, none⟩) 1 1 [.string nm, .int .i64 pl] (by rfl) (B := N + 1) (fun i u hi => by
                        refine ⟨N, 0, rfl, Nat.lt_succ_self _, ?_⟩
                        rw [Nat.zero_add, HNC.out.cell i]
                        simpa using hi) rfl (fun h => by cases h) (one_lmk1 nm pl) (by unfold maxLen; omega) (by omega) ?_
                      intro A7 n7 c7 w7 hn7 o7 g7 k7
                      have hn7' : n7 = n5 + 1 := hn7
                      clear hn7
                      subst hn7'
                      have HW7 := hide (show Below wV.heap.size wV w7 from HWX.out.grown g7 HWX.out.size (fun q hq => HGA.out q hq))
                      have HA7 := hide o7
                      clear o7 g7 k7 HA5 HWX HGA HNC hHeld
                      have hHeld := HSS.out w7 HW7.out
                      refine hK.out _ _ hHeld ?_
                      clear hK K
                      try simp only [List.getElem_toArray, List.getElem_cons_succ, List.getElem_cons_zero, Act.put, List.setIfInBounds_toArray, List.set_cons_zero, List.set_cons_succ]
                      refine Rv.one (i := 19) rfl (by kernel_rfl) (fun K hK => ?_)
                      refine step_app (by rfl) _ _ 57 rfl 63 i0 (.agg #[.string ByteArray.empty, .int .i64 0]) 2 24 Try.underlying57 HI.out.1 HI.out.2.1 HI.out.2.2.1 HI.out.2.2.2 rfl (by decide) wV.heap.size A7 (n5 + 1) c7 _ (by rfl) HA7.out HW7.out.size A2 (n - n5) (cl - n5) (cellsOf landmarkC (L.drop n5)) (by rfl) (HP2.out _ HW7.out) HLK.out.2 HA2.out (one_lmk _) (by unfold maxLen; omega) (by omega) ?_
                      intro A9 n9 c9 w9 hn9 o9 g9 k9
                      have hn9' : n9 = n + 1 := by omega
                      clear hn9
                      subst hn9'
                      have HA9 := hide (show Row w9 wV.heap.size 63 2 A9 (n + 1) c9 (cellsOf landmarkC (insL L (nm, pl))) from by
                        rw [HST.out]
                        simpa [cellsOf, landmarkC] using o9)
                      have HW9 := hide (show Below wV.heap.size wV w9 from HW7.out.grown g9 HW7.out.size (fun q hq => (HA7.out.lt q hq).1))
                      clear o9 g9 k9 HA7 HW7 hHeld
                      have hHeld := HSS.out w9 HW9.out
                      refine hK.out _ _ hHeld ?_
                      clear hK K
                      try simp only [List.getElem_toArray, List.getElem_cons_succ, List.getElem_cons_zero, Act.put, List.setIfInBounds_toArray, List.set_cons_zero, List.set_cons_succ]
                      refine Rv.comp (i := 20) (v := ?_) rfl (by kernel_rfl) (by kernel_rfl) (by kernel_rfl) (fun _ _ _ h => h) (Or.inl ⟨by rfl, ?_⟩) ?_
                      rotate_left 1
                      focus (intro w hSw; (try dsimp only at hSw); go_simp; (try with_reducible rfl))
                      try simp only [List.getElem_toArray, List.getElem_cons_succ, List.getElem_cons_zero, Act.put, List.setIfInBounds_toArray, List.set_cons_zero, List.set_cons_succ]
                      refine Rv.done (by kernel_rfl) ?_ _
                      clear hHeld
                      obtain ⟨g', hA', _, _, _, _⟩ := own_of HA9.out (by omega)
                      subst hA'
                      have HWE := hide (HA9.out.down HBL.out)
                      have HN9 := hide (HNW.out.call HW9.out)
                      have HPW9 := hide (HPW.out.call HW9.out)
                      have HB9 := hide (HB.out.trans (HW9.out.mono HB.out.size))
                      go_wp2_with fail
                      refine ⟨⟨k + 1, g', c9, insL L (nm, pl), by omega, by rw [HFL.out], by go_num, HNX.out.symm, by rw [HFL.out]; have := HLk.out; omega, by rw [HFL.out]; exact HWE.out, HN9.out, HPW9.out, HB9.out⟩, by first | (simp [intOf]; done) | (simp [intOf]; omega)⟩
            · have hke : k = ns.length := by omega
              have HFIN := hide (show lmkS (os.map OV.d) base = L from by
                rw [HLS2.out, HL.out, hke, List.take_of_length_le]
                rw [List.length_zip]
                have := HZE.out
                omega)
              clear HL HLS2
              go_wp2_with fail
              go_ret
              rw [HFIN.out]
              exact ⟨_, _, rfl, HW.out, HB.out⟩
      · have HO := hide ho
        obtain ⟨h4, hy⟩ := lst_objs ho
        obtain ⟨bb, off, hA, hbb, hc0, hc1⟩ := (HR.out.below HB.out).at hlt
        have HTK := hide (show (os.take (k + 1)).flatMap (fun o => givN o.d) = ((os.take k).flatMap fun o => givN o.d) ++ givN os[k].d from by rw [take_succ hlt, List.flatMap_append]; simp)
        have HRO := hide (((HR.out.2 _ (List.getElem_mem hlt)).below HB.out).more HB.out.size)
        have HFO := hide (HF.out.f _ (List.getElem_mem hlt))
        have hgl := givN_len (hy _ (List.getElem_mem hlt)).2
        clear ho hy
        subst hA
        generalize os[k] = o at *
        go_wp2_with fail
        refine (namesGivenS_any o w2 HRO.out HFO.out).mono ?_
        rintro e w3 ⟨GA, gc, rfl, rg, b3⟩
        have HG := hide rg
        have HB3 := hide b3
        have HW3 := hide (HW2.out.call b3)
        replace HB := hide (HB.out.trans (b3.mono HB.out.size))
        have HHB := hide HB.out.size
        generalize hgv : givN o.d = gs at *
        clear rg b3 hc0 hc1 HRO HFO HW2 hgv
        go_wp2_with fail
        go_loopw [6, 9] (fun s i wi => ∃ (j g c1 : Nat) (ms : List ByteArray), j ≤ gs.length ∧ s = .slice (some ⟨g, 0, none⟩) ms.length c1 ∧ i = .int .i64 j ∧ ms = insAll (((os.take k).flatMap fun o => givN o.d) ++ gs.take j) ∧ ms.length ≤ 12 * k + j ∧ Row wi w.heap.size 9 1 (some ⟨g, 0, none⟩) ms.length c1 (nmC ms) ∧ Rd wi wi.heap.size GA (nmC gs) ∧ Below w.heap.size w wi) (fun _ i _ => gs.length - (intOf i).toNat)
        case atStart => exact ⟨0, g, c1, ns, Nat.zero_le _, rfl, rfl, by simpa using HNS.out, by omega, HW3.out, HG.out.rd, HB.out⟩
        case round =>
          rename World => wi
          clear HG HW3 HB HHB HB3
          obtain ⟨j, g, c1, ms, hj, rfl, rfl, hms, hml, hrow, hrg, hb⟩ := hrel
          have HMS := hide hms
          have HW := hide hrow
          have HRG := hide hrg
          have HB := hide hb
          clear hms hrow hb
          by_cases hjl : j < gs.length
          · obtain ⟨b, off, hA, hbb, hc⟩ := hrg j (.string gs[j]) (by simp [nmC, List.getElem?_eq_getElem hjl])
            have HNX := hide (show insN ms gs[j] = insAll (((os.take k).flatMap fun o => givN o.d) ++ gs.take (j + 1)) from by rw [take_succ hjl, ← List.append_assoc, insAll_snoc, ← HMS.out])
            clear hrg
            subst hA
            generalize gs[j] = nm at *
            have hl2 := insN_len ms nm
            have HINS := hide (l2Insert_any g ms nm c1 w.heap.size wi HW.out HB.out.size (by omega))
            go_wp2_with fail
            refine HINS.out.mono ?_
            rintro e w5 ⟨g5, c5, rfl, r5, b5⟩
            have HR5 := hide r5
            have HRG5 := hide ((HRG.out.below b5).more b5.size)
            replace HB := hide (HB.out.trans (b5.mono HB.out.size))
            clear b5
            clear r5 HINS hc
            generalize insN ms nm = qs at *
            go_wp2_with fail
            refine ⟨⟨j + 1, g5, c5, qs, by omega, rfl, by go_num, HNX.out, by omega, HR5.out, HRG5.out, HB.out⟩, by simp [intOf]; omega⟩
          · have hje : j = gs.length := by omega
            have HF2 := hide (show ms = insAll ((os.take (k + 1)).flatMap fun o => givN o.d) from by rw [HTK.out, HMS.out, hje, List.take_length])
            clear hrg
            go_wp2_with fail
            refine ⟨⟨k + 1, g, c1, ms, by omega, rfl, by go_num, HF2.out, .inr HO.out, by omega, HW.out, HB.out⟩, by simp [intOf]; omega⟩
    · have hke : k = os.length := by omega
      have HNL := hide (HEND.out (.inl hke))
      clear HEND HOK HNS hke
      go_wp2_with fail
      refine (namePlaces_any A os c base (some ⟨g, 0, none⟩) ns c1 wk ((HR.out.below HB.out).more HB.out.size) HF.out HW.out.rd (by omega)).mono ?_
      rintro e w4 ⟨PA, pc, zs, rfl, hz, hp, b4⟩
      have HW4 := hide (HW.out.call b4)
      have HP4 := hide (hp.down HB.out.size)
      have HZ := hide hz
      replace HB := hide (HB.out.trans (b4.mono HB.out.size))
      clear b4
      clear hz hp HW
      have HLS := hide (show lmkS (os.map OV.d) base = lmkO (plcs (os.map OV.d) base ns) ns from by
        unfold lmkS
        rw [HNL.out])
      have HZL := hide (plcs_len (os.map OV.d) base ns)
      generalize plcs (os.map OV.d) base ns = r at *
      clear HNL
      cases r with
      | none =>
        simp only [Option.isSome_none]
        clear HZ HZL
        go_wp2_with fail
        go_loopw [5, 12] (fun s i wi => s = .slice (some ⟨w.heap.size, 0, none⟩) 0 0 ∧ i = .int .i64 0 ∧ wi = w4) (fun _ _ _ => 0)
        case atStart => exact ⟨rfl, rfl, rfl⟩
        case round =>
          obtain ⟨rfl, rfl, rfl⟩ := hrel
          by_cases h0 : 0 < ns.length
          · go_wp2_with fail
            go_ret
            rw [show lmkS (os.map OV.d) base = [] from HLS.out]
            exact ⟨_, _, rfl, Row.empty _ _ _ _ _, HB.out⟩
          · go_wp2_with fail
            go_ret
            rw [show lmkS (os.map OV.d) base = [] from HLS.out]
            exact ⟨_, _, rfl, Row.empty _ _ _ _ _, HB.out⟩
      | some zs' =>
        have hzz : zs' = zs := by
          rcases HZ.out with h | ⟨h, _⟩
          · exact Option.some.inj h
          · cases h
        subst hzz
        have HZE := hide (show zs'.length = ns.length from HZL.out zs' rfl)
        have HLS2 := hide (show lmkS (os.map OV.d) base = (ns.zip zs').foldl insL [] from HLS.out)
        simp only [Option.isSome_some]
        clear HZ HZL HLS
        go_wp2_with fail
        go_loopw [5, 12] (fun s i wi => ∃ (k ga cl : Nat) (L : List LD), k ≤ ns.length ∧ s = .slice (some ⟨ga, 0, none⟩) L.length cl ∧ i = .int .i64 k ∧ L = ((ns.zip zs').take k).foldl insL [] ∧ L.length = k ∧ Row wi w.heap.size 63 2 (some ⟨ga, 0, none⟩) L.length cl (cellsOf landmarkC L) ∧ Row wi w.heap.size 9 1 (some ⟨g, 0, none⟩) ns.length c1 (nmC ns) ∧ Row wi w.heap.size 3 1 PA zs'.length pc (ints .i64 zs') ∧ Below w.heap.size w wi) (fun _ i _ => ns.length - (intOf i).toNat)
        case atStart => exact ⟨0, w.heap.size, 0, [], Nat.zero_le _, rfl, rfl, rfl, rfl, Row.empty _ _ _ _ _, HW4.out, HP4.out, HB.out⟩
        case round =>
          rename World => wj
          clear HB HW4 HP4
          obtain ⟨k, ga, cl, L, hk, rfl, rfl, hL, hLk, hrow, hnw, hpw, hb⟩ := hrel
          have HL := hide hL
          have HLk := hide hLk
          have hL48 : L.length ≤ 48 := by omega
          clear hLk
          have HW := hide hrow
          have HNW := hide hnw
          have HPW := hide hpw
          have HB := hide hb
          have HBL := hide hb.size
          clear hL hrow hnw hpw hb
          by_cases hlt : k < ns.length
          · have hkz : k < zs'.length := by rw [HZE.out]; exact hlt
            obtain ⟨gn, on, hgA, hgn, hcn⟩ := HNW.out.rd k (.string ns[k]) (by simp [nmC, List.getElem?_eq_getElem hlt])
            simp only [Option.some.injEq, Addr.mk.injEq, and_true] at hgA
            obtain ⟨rfl, rfl⟩ := hgA
            rw [Nat.zero_add] at hcn
            obtain ⟨pb, po, hPA, hpb, hcp⟩ := HPW.out.rd k (.int .i64 (zs'[k]'hkz)) (by simp [ints, List.getElem?_eq_getElem hkz])
            have HNX := hide (show ((ns.zip zs').take (k + 1)).foldl insL [] = insL L (ns[k], zs'[k]'hkz) from by
              rw [lfold_take (by rw [List.length_zip, HZE.out]; omega) (xs := ns.zip zs'), ← HL.out, List.getElem_zip])
            have HPR := hide (HPW.out.rd)
            subst hPA
            generalize ns[k] = nm at *
            generalize zs'[k]'hkz = pl at *
            clear HPR HL
            go_wp2_with fail
            go_loopw [13] (fun i wi => ∃ a : Nat, a ≤ L.length ∧ i = .int .i64 a ∧ lpos L pl L.length = lpos L pl a ∧ Below wj.heap.size wj wi) (fun i _ => (intOf i).toNat)
            case atStart => exact ⟨L.length, Nat.le_refl _, rfl, rfl, Below.refl _ _⟩
            case round =>
              rename World => wi
              obtain ⟨a, haL, rfl, hp, hbi⟩ := hrel
              have HBI := hide hbi
              have hcnI := (hbi.cell (p := ⟨g, k, none⟩) hgn).trans hcn
              have hcpI := (hbi.cell (p := ⟨pb, po + k, none⟩) hpb).trans hcp
              clear hbi
              have HPOS := hide hp
              clear hp
              by_cases ha : a = 0
              · have HST := hide (show insL L (nm, pl) = L.take a ++ [(nm, pl)] ++ L.drop a from by
                  have : lpos L pl a = a := by
                    rw [ha]
                    rfl
                  unfold insL
                  rw [HPOS.out, this])
                clear HPOS
                have hd : decide ((a : Int) > 0) = false := decide_eq_false (by omega)
                have hd2 : decide (0 < a) = false := decide_eq_false (by omega)
                have hd3 : ¬ 0 < a := by omega
                clear ha
                go_wp2_with fail
                go_quiet (fail)
                go_wp2_with fail
                clear hd hd2 hd3
                have HBV := hide (Kit.Below.drewN HBI.out nq)
                have HW := hide (HW.out.call HBV.out)
                have HNW := hide (HNW.out.call HBV.out)
                have HPW := hide (HPW.out.call HBV.out)
                have hcn := (HBV.out.cell (p := ⟨g, k, none⟩) hgn).trans hcn
                have hcp := (HBV.out.cell (p := ⟨pb, po + k, none⟩) hpb).trans hcp
                have HB := hide (HB.out.trans (HBV.out.mono HB.out.size))
                have HBL := hide HB.out.size
                have hgn := Nat.lt_of_lt_of_le hgn HBV.out.size
                have hpb := Nat.lt_of_lt_of_le hpb HBV.out.size
                clear HBI HBV hcnI hcpI
                generalize wi.drewN nq = wV at *
                have HLK := hide (show (cellsOf landmarkC (L.take a)).length = a * 2 ∧ (cellsOf landmarkC (L.drop a)).length = (L.length - a) * 2 from ⟨by rw [cellsOf_len landmarkC_len, List.length_take]; congr 1; omega, by rw [cellsOf_len landmarkC_len, List.length_drop]⟩)
                have HP1 := hide (fun V (hV : Below wV.heap.size wV V) => (show Rd V V.heap.size (some ⟨ga, 0, none⟩) (cellsOf landmarkC (L.take a)) from by
                  have h := ((HW.out.prefix haL).rd.below hV).more hV.size
                  rw [cells_take] at h
                  exact h))
                have HP2 := hide (fun V (hV : Below wV.heap.size wV V) => (show Rd V V.heap.size (if cl = a then some ⟨ga, 0, none⟩ else some ⟨ga, a * 2, none⟩) (cellsOf landmarkC (L.drop a)) from by
                  have h := CSortS.rd_tail (j := a) (jj := a * 2) (size := 2) ((HW.out.rd.below hV).more hV.size) (cellsOf_len landmarkC_len L) HW.out.cap.1 rfl
                  rw [cells_drop] at h
                  exact h))
                have HA2 := hide (show (if cl = a then some (⟨ga, 0, none⟩ : Addr) else some ⟨ga, a * 2, none⟩) = none → cl - a = 0 from fun h => by split at h <;> cases h)
                have hac : a ≤ cl := Nat.le_trans haL HW.out.cap.1
                have hlc : L.length ≤ cl := HW.out.cap.1
                have HSS := hide (fun V (hV : Below wV.heap.size wV V) => (show V.cell? ⟨g, k, none⟩ = some (.string nm) ∧ V.cell? ⟨pb, po + k, none⟩ = some (.int .i64 pl) from ⟨(hV.cell (p := ⟨g, k, none⟩) hgn).trans hcn, (hV.cell (p := ⟨pb, po + k, none⟩) hpb).trans hcp⟩))
                have HFL := hide (show (insL L (nm, pl)).length = L.length + 1 from insL_len _ _)
                clear hcn hcp
                generalize hnl : L.length = n at *
                clear hnl
                refine Rv.start (fun V => V.cell? ⟨g, k, none⟩ = some (.string nm) ∧ V.cell? ⟨pb, po + k, none⟩ = some (.int .i64 pl)) (fun _ => false) (by kernel_rfl) ?_
                have hHeld := HSS.out wV.drew (below_dr (Below.refl _ _))
                refine Rv.comp (i := 1) (v := ?_) rfl (by kernel_rfl) (by kernel_rfl) (by kernel_rfl) (fun _ _ _ h => h) (Or.inl ⟨by rfl, ?_⟩) ?_
                rotate_left 1
                focus (intro w hSw; (try dsimp only at hSw); go_simp; (try with_reducible rfl))
                try simp only [List.getElem_toArray, List.getElem_cons_succ, List.getElem_cons_zero, Act.put, List.setIfInBounds_toArray, List.set_cons_zero, List.set_cons_succ]
                refine Rv.comp (i := 2) (v := ?_) rfl (by kernel_rfl) (by kernel_rfl) (by kernel_rfl) (fun _ _ _ h => h) (Or.inl ⟨by rfl, ?_⟩) ?_
                rotate_left 1
                focus (intro w hSw; (try dsimp only at hSw); go_simp; (try with_reducible rfl))
                try simp only [List.getElem_toArray, List.getElem_cons_succ, List.getElem_cons_zero, Act.put, List.setIfInBounds_toArray, List.set_cons_zero, List.set_cons_succ]
                refine Rv.comp (i := 3) (v := ?_) rfl (by kernel_rfl) (by kernel_rfl) (by kernel_rfl) (fun _ _ _ h => h) (Or.inl ⟨by rfl, ?_⟩) ?_
                rotate_left 1
                focus (intro w hSw; (try dsimp only at hSw); go_simp; (try with_reducible rfl))
                try simp only [List.getElem_toArray, List.getElem_cons_succ, List.getElem_cons_zero, Act.put, List.setIfInBounds_toArray, List.set_cons_zero, List.set_cons_succ]
                refine Rv.comp (i := 5) (v := ?_) rfl (by kernel_rfl) (by kernel_rfl) (by kernel_rfl) (fun _ _ _ h => h) (Or.inl ⟨by rfl, ?_⟩) ?_
                rotate_left 1
                focus (intro w hSw; (try dsimp only at hSw); go_simp; (try with_reducible rfl))
                try simp only [List.getElem_toArray, List.getElem_cons_succ, List.getElem_cons_zero, Act.put, List.setIfInBounds_toArray, List.set_cons_zero, List.set_cons_succ]
                refine Rv.comp (i := 6) (v := ?_) rfl (by kernel_rfl) (by kernel_rfl) (by kernel_rfl) (fun _ _ _ h => h) (Or.inl ⟨by rfl, ?_⟩) ?_
                rotate_left 1
                focus (intro w hSw; (try dsimp only at hSw); go_simp; (try with_reducible rfl))
                try simp only [List.getElem_toArray, List.getElem_cons_succ, List.getElem_cons_zero, Act.put, List.setIfInBounds_toArray, List.set_cons_zero, List.set_cons_succ]
                refine Rv.comp (i := 7) (v := ?_) rfl (by kernel_rfl) (by kernel_rfl) (by kernel_rfl) (fun _ _ _ h => h) (Or.inl ⟨by rfl, ?_⟩) ?_
                rotate_left 1
                focus (intro w hSw; (try dsimp only at hSw); go_simp; (try with_reducible rfl))
                try simp only [List.getElem_toArray, List.getElem_cons_succ, List.getElem_cons_zero, Act.put, List.setIfInBounds_toArray, List.set_cons_zero, List.set_cons_succ]
                refine Rv.take (i := 8) (v := ?_) rfl (by kernel_rfl) (by kernel_rfl) (by kernel_rfl) (by kernel_rfl) (fun _ _ _ h => h) (Or.inl ⟨by rfl, ?_⟩) (by assumption) ?_
                rotate_left 1
                focus (intro w hSw; (try dsimp only at hSw); go_simp; (try with_reducible rfl))
                try simp only [List.getElem_toArray, List.getElem_cons_succ, List.getElem_cons_zero, Act.put, List.setIfInBounds_toArray, List.set_cons_zero, List.set_cons_succ]
                refine Rv.comp (i := 9) (v := ?_) rfl (by kernel_rfl) (by kernel_rfl) (by kernel_rfl) (fun _ _ _ h => h) (Or.inl ⟨by rfl, ?_⟩) ?_
                rotate_left 1
                focus (intro w hSw; (try dsimp only at hSw); go_simp; (try with_reducible rfl))
                try simp only [List.getElem_toArray, List.getElem_cons_succ, List.getElem_cons_zero, Act.put, List.setIfInBounds_toArray, List.set_cons_zero, List.set_cons_succ]
                refine Rv.comp (i := 10) (v := ?_) rfl (by kernel_rfl) (by kernel_rfl) (by kernel_rfl) (fun _ _ _ h => h) (Or.inl ⟨by rfl, ?_⟩) ?_
                rotate_left 1
                focus (intro w hSw; (try dsimp only at hSw); go_simp; (try with_reducible rfl))
                try simp only [List.getElem_toArray, List.getElem_cons_succ, List.getElem_cons_zero, Act.put, List.setIfInBounds_toArray, List.set_cons_zero, List.set_cons_succ]
                refine Rv.comp (i := 11) (v := ?_) rfl (by kernel_rfl) (by kernel_rfl) (by kernel_rfl) (fun _ _ _ h => h) (Or.inl ⟨by rfl, ?_⟩) ?_
                rotate_left 1
                focus (intro w hSw; (try dsimp only at hSw); go_simp; (try with_reducible rfl))
                try simp only [List.getElem_toArray, List.getElem_cons_succ, List.getElem_cons_zero, Act.put, List.setIfInBounds_toArray, List.set_cons_zero, List.set_cons_succ]
                refine Rv.take (i := 12) (v := ?_) rfl (by kernel_rfl) (by kernel_rfl) (by kernel_rfl) (by kernel_rfl) (fun _ _ _ h => h) (Or.inl ⟨by rfl, ?_⟩) (by assumption) ?_
                rotate_left 1
                focus (intro w hSw; (try dsimp only at hSw); go_simp; (try with_reducible rfl))
                try simp only [List.getElem_toArray, List.getElem_cons_succ, List.getElem_cons_zero, Act.put, List.setIfInBounds_toArray, List.set_cons_zero, List.set_cons_succ]
                refine Rv.comp (i := 13) (v := ?_) rfl (by kernel_rfl) (by kernel_rfl) (by kernel_rfl) (fun _ _ _ h => h) (Or.inl ⟨by rfl, ?_⟩) ?_
                rotate_left 1
                focus (intro w hSw; (try dsimp only at hSw); go_simp; (try with_reducible rfl))
                try simp only [List.getElem_toArray, List.getElem_cons_succ, List.getElem_cons_zero, Act.put, List.setIfInBounds_toArray, List.set_cons_zero, List.set_cons_succ]
                refine Rv.comp (i := 16) (v := ?_) rfl (by kernel_rfl) (by kernel_rfl) (by kernel_rfl) (fun _ _ _ h => h) (Or.inl ⟨by rfl, ?_⟩) ?_
                rotate_left 1
                focus (intro w hSw; (try dsimp only at hSw); go_simp; (try with_reducible rfl))
                try simp only [List.getElem_toArray, List.getElem_cons_succ, List.getElem_cons_zero, Act.put, List.setIfInBounds_toArray, List.set_cons_zero, List.set_cons_succ]
                refine Rv.comp (i := 17) (v := ?_) rfl (by kernel_rfl) (by kernel_rfl) (by kernel_rfl) (fun _ _ _ h => h) (Or.inl ⟨by rfl, ?_⟩) ?_
                rotate_left 1
                focus (intro w hSw; (try dsimp only at hSw); go_simp; (try with_reducible rfl))
                try simp only [List.getElem_toArray, List.getElem_cons_succ, List.getElem_cons_zero, Act.put, List.setIfInBounds_toArray, List.set_cons_zero, List.set_cons_succ]
                refine Rv.comp (i := 18) (v := ?_) rfl (by kernel_rfl) (by kernel_rfl) (by kernel_rfl) (fun _ _ _ h => h) (Or.inl ⟨by rfl, ?_⟩) ?_
                rotate_left 1
                focus (intro w hSw; (try dsimp only at hSw); go_simp; (try with_reducible rfl))
                try simp only [List.getElem_toArray, List.getElem_cons_succ, List.getElem_cons_zero, Act.put, List.setIfInBounds_toArray, List.set_cons_zero, List.set_cons_succ]
                generalize (if cl = a then some (⟨ga, 0, none⟩ : Addr) else some ⟨ga, a * 2, none⟩) = A2 at *
                refine Rv.two (i := 0) (j := 14) rfl rfl (by kernel_rfl) (fun K hK => ?p0b) (fun K hK => ?p6b)
                case' p0b =>
                  go_simp
                  clear hHeld
                  have hHeld := HSS.out (wV.alloc (.cells #[] 63)).drew (by (repeat (first | with_reducible assumption | with_reducible exact Below.refl _ _ | with_reducible apply below_al | with_reducible apply below_dr | with_reducible apply below_dn)); done)
                  refine hK.out _ _ hHeld ?_
                  clear hK K
                  try simp only [List.getElem_toArray, List.getElem_cons_succ, List.getElem_cons_zero, Act.put, List.setIfInBounds_toArray, List.set_cons_zero, List.set_cons_succ]
                  refine Rv.two (i := 4) (j := 14) rfl rfl (by kernel_rfl) (fun K hK => ?q4b) (fun K hK => ?q6b)
                case' q4b =>
                  refine step_app (by rfl) _ _ 57 rfl 63 i0 (.agg #[.string ByteArray.empty, .int .i64 0]) 2 24 Try.underlying57 HI.out.1 HI.out.2.1 HI.out.2.2.1 HI.out.2.2.2 rfl (by decide) wV.heap.size _ 0 0 [] (by rfl) (Row.empty _ _ _ _ _) (Below.size (B := wV.heap.size) (by (repeat (first | with_reducible assumption | with_reducible exact Below.refl _ _ | with_reducible apply below_al | with_reducible apply below_dr | with_reducible apply below_dn)); done)) (some ⟨ga, 0, none⟩) a cl (cellsOf landmarkC (L.take a)) (by rfl) (HP1.out _ (by (repeat (first | with_reducible assumption | with_reducible exact Below.refl _ _ | with_reducible apply below_al | with_reducible apply below_dr | with_reducible apply below_dn)); done)) HLK.out.1 (fun h => by cases h) (one_lmk _) (by unfold maxLen; omega) (by omega) ?_
                  intro A5 n5 c5 w5 hn5 o5 g5 k5
                  have hn5' : n5 = a := by omega
                  clear hn5
                  subst hn5'
                  have HA5 := hide (show Row w5 wV.heap.size 63 2 A5 n5 c5 (cellsOf landmarkC (L.take n5)) from by simpa using o5)
                  have HWX := hide (show Below wV.heap.size wV w5 from below_tr (by (repeat (first | with_reducible assumption | with_reducible exact Below.refl _ _ | with_reducible apply below_al | with_reducible apply below_dr | with_reducible apply below_dn)); done) g5)
                  clear o5 g5 k5 hHeld
                  have hHeld := HSS.out w5 HWX.out
                  refine hK.out _ _ hHeld ?_
                  clear hK K
                  try simp only [List.getElem_toArray, List.getElem_cons_succ, List.getElem_cons_zero, Act.put, List.setIfInBounds_toArray, List.set_cons_zero, List.set_cons_succ]
                  refine Rv.one (i := 14) rfl (by kernel_rfl) (fun K hK => ?_)
                  go_simp
                  clear hHeld
                  have hHeld := HSS.out _ (HWX.out.alloc HWX.out.size (.cells #[.string nm, .int .i64 pl] 63))
                  refine hK.out _ _ hHeld ?_
                  clear hK K
                  try simp only [List.getElem_toArray, List.getElem_cons_succ, List.getElem_cons_zero, Act.put, List.setIfInBounds_toArray, List.set_cons_zero, List.set_cons_succ]
                  have HNC := hide (show Box (w5.alloc (.cells #[.string nm, .int .i64 pl] 63)) w5.heap.size 63 #[.string nm, .int .i64 pl] from Box.new w5 63 #[.string nm, .int .i64 pl])
                  have B6 : Below w5.heap.size w5 (w5.alloc (.cells #[.string nm, .int .i64 pl] 63)) := (by repeat (first | exact Below.refl _ _ | with_reducible assumption | (refine Below.drew ?_) | (refine Below.drewN ?_ _) | (refine Below.alloc ?_ (by simp; try omega) _) | (refine Below.setCell ?_ (by simp; try omega) _)))
                  replace HWX := hide (HWX.out.trans (B6.mono HWX.out.size))
                  replace HA5 := hide (HA5.out.call B6)
                  clear B6
                  generalize w5.alloc (.cells #[.string nm, .int .i64 pl] 63) = wX at *
                  generalize w5.heap.size = N at *
                case' q6b =>
                  go_simp
                  clear hHeld
                  have hHeld := HSS.out ((wV.alloc (.cells #[] 63)).alloc (.cells #[.string nm, .int .i64 pl] 63)).drew (by (repeat (first | with_reducible assumption | with_reducible exact Below.refl _ _ | with_reducible apply below_al | with_reducible apply below_dr | with_reducible apply below_dn)); done)
                  refine hK.out _ _ hHeld ?_
                  clear hK K
                  try simp only [List.getElem_toArray, List.getElem_cons_succ, List.getElem_cons_zero, Act.put, List.setIfInBounds_toArray, List.set_cons_zero, List.set_cons_succ]
                  have HNN := hide (show Box ((wV.alloc (.cells #[] 63)).alloc (.cells #[.string nm, .int .i64 pl] 63)).drew (wV.heap.size + 1) 63 #[.string nm, .int .i64 pl] from by
                    have h := Box.new (wV.alloc (.cells #[] 63)) 63 #[.string nm, .int .i64 pl]
                    rw [World.size_alloc] at h
                    exact h.call (below_dr (Below.refl _ _)))
                  refine Rv.one (i := 4) rfl (by kernel_rfl) (fun K hK => ?_)
                  refine step_app (by rfl) _ _ 57 rfl 63 i0 (.agg #[.string ByteArray.empty, .int .i64 0]) 2 24 Try.underlying57 HI.out.1 HI.out.2.1 HI.out.2.2.1 HI.out.2.2.2 rfl (by decide) wV.heap.size _ 0 0 [] (by rfl) (Row.empty _ _ _ _ _) (Below.size (B := wV.heap.size) (by (repeat (first | with_reducible assumption | with_reducible exact Below.refl _ _ | with_reducible apply below_al | with_reducible apply below_dr | with_reducible apply below_dn)); done)) (some ⟨ga, 0, none⟩) a cl (cellsOf landmarkC (L.take a)) (by rfl) (HP1.out _ (by (repeat (first | with_reducible assumption | with_reducible exact Below.refl _ _ | with_reducible apply below_al | with_reducible apply below_dr | with_reducible apply below_dn)); done)) HLK.out.1 (fun h => by cases h) (one_lmk _) (by unfold maxLen; omega) (by omega) ?_
                  intro A5 n5 c5 wX hn5 o5 g5 k5
                  have hn5' : n5 = a := by omega
                  clear hn5
                  subst hn5'
                  have HA5 := hide (show Row wX wV.heap.size 63 2 A5 n5 c5 (cellsOf landmarkC (L.take n5)) from by simpa using o5)
                  have HWX := hide (show Below wV.heap.size wV wX from below_tr (by (repeat (first | with_reducible assumption | with_reducible exact Below.refl _ _ | with_reducible apply below_al | with_reducible apply below_dr | with_reducible apply below_dn)); done) g5)
                  have HNC := hide (HNN.out.call (below_tr (Below.refl _ _) g5))
                  clear o5 g5 k5 HNN hHeld
                  have hHeld := HSS.out wX HWX.out
                  refine hK.out _ _ hHeld ?_
                  clear hK K
                  try simp only [List.getElem_toArray, List.getElem_cons_succ, List.getElem_cons_zero, Act.put, List.setIfInBounds_toArray, List.set_cons_zero, List.set_cons_succ]
                  generalize wV.heap.size + 1 = N at *
                case' p6b =>
                  go_simp
                  clear hHeld
                  have hHeld := HSS.out (wV.alloc (.cells #[.string nm, .int .i64 pl] 63)).drew (by (repeat (first | with_reducible assumption | with_reducible exact Below.refl _ _ | with_reducible apply below_al | with_reducible apply below_dr | with_reducible apply below_dn)); done)
                  refine hK.out _ _ hHeld ?_
                  clear hK K
                  try simp only [List.getElem_toArray, List.getElem_cons_succ, List.getElem_cons_zero, Act.put, List.setIfInBounds_toArray, List.set_cons_zero, List.set_cons_succ]
                  refine Rv.one (i := 0) rfl (by kernel_rfl) (fun K hK => ?_)
                  go_simp
                  clear hHeld
                  have hHeld := HSS.out ((wV.alloc (.cells #[.string nm, .int .i64 pl] 63)).alloc (.cells #[] 63)).drew (by (repeat (first | with_reducible assumption | with_reducible exact Below.refl _ _ | with_reducible apply below_al | with_reducible apply below_dr | with_reducible apply below_dn)); done)
                  refine hK.out _ _ hHeld ?_
                  clear hK K
                  try simp only [List.getElem_toArray, List.getElem_cons_succ, List.getElem_cons_zero, Act.put, List.setIfInBounds_toArray, List.set_cons_zero, List.set_cons_succ]
                  have HNN := hide (show Box ((wV.alloc (.cells #[.string nm, .int .i64 pl] 63)).alloc (.cells #[] 63)).drew wV.heap.size 63 #[.string nm, .int .i64 pl] from by
                    have h := (Box.new wV 63 #[.string nm, .int .i64 pl]).alloc (.cells #[] 63)
                    exact h.call (below_dr (Below.refl _ _)))
                  refine Rv.one (i := 4) rfl (by kernel_rfl) (fun K hK => ?_)
                  refine step_app (by rfl) _ _ 57 rfl 63 i0 (.agg #[.string ByteArray.empty, .int .i64 0]) 2 24 Try.underlying57 HI.out.1 HI.out.2.1 HI.out.2.2.1 HI.out.2.2.2 rfl (by decide) wV.heap.size _ 0 0 [] (by rfl) (Row.empty _ _ _ _ _) (Below.size (B := wV.heap.size) (by (repeat (first | with_reducible assumption | with_reducible exact Below.refl _ _ | with_reducible apply below_al | with_reducible apply below_dr | with_reducible apply below_dn)); done)) (some ⟨ga, 0, none⟩) a cl (cellsOf landmarkC (L.take a)) (by rfl) (HP1.out _ (by (repeat (first | with_reducible assumption | with_reducible exact Below.refl _ _ | with_reducible apply below_al | with_reducible apply below_dr | with_reducible apply below_dn)); done)) HLK.out.1 (fun h => by cases h) (one_lmk _) (by unfold maxLen; omega) (by omega) ?_
                  intro A5 n5 c5 wX hn5 o5 g5 k5
                  have hn5' : n5 = a := by omega
                  clear hn5
                  subst hn5'
                  have HA5 := hide (show Row wX wV.heap.size 63 2 A5 n5 c5 (cellsOf landmarkC (L.take n5)) from by simpa using o5)
                  have HWX := hide (show Below wV.heap.size wV wX from below_tr (by (repeat (first | with_reducible assumption | with_reducible exact Below.refl _ _ | with_reducible apply below_al | with_reducible apply below_dr | with_reducible apply below_dn)); done) g5)
                  have HNC := hide (HNN.out.call (below_tr (Below.refl _ _) g5))
                  clear o5 g5 k5 HNN hHeld
                  have hHeld := HSS.out wX HWX.out
                  refine hK.out _ _ hHeld ?_
                  clear hK K
                  try simp only [List.getElem_toArray, List.getElem_cons_succ, List.getElem_cons_zero, Act.put, List.setIfInBounds_toArray, List.set_cons_zero, List.set_cons_succ]
                  generalize hN : wV.heap.size = N at HNC ⊢
                all_goals
                  refine Rv.one (i := 15) rfl (by kernel_rfl) (fun K hK => ?_)
                  have hgeA := (fun q hq => (HA5.out.lt q hq).1)
                  have HGA := hide hgeA
                  clear hgeA
                  refine step_app (by rfl) _ _ 57 rfl 63 i0 (.agg #[.string ByteArray.empty, .int .i64 0]) 2 24 Try.underlying57 HI.out.1 HI.out.2.1 HI.out.2.2.1 HI.out.2.2.2 rfl (by decide) wV.heap.size A5 n5 c5 (cellsOf landmarkC (L.take n5)) (by rfl) HA5.out HWX.out.size (some ⟨N, 0, none⟩) 1 1 [.string nm, .int .i64 pl] (by rfl) (B := N + 1) (fun i u hi => by
                    refine ⟨N, 0, rfl, Nat.lt_succ_self _, ?_⟩
                    rw [Nat.zero_add, HNC.out.cell i]
                    simpa using hi) rfl (fun h => by cases h) (one_lmk1 nm pl) (by unfold maxLen; omega) (by omega) ?_
                  intro A7 n7 c7 w7 hn7 o7 g7 k7
                  have hn7' : n7 = n5 + 1 := hn7
                  clear hn7
                  subst hn7'
                  have HW7 := hide (show Below wV.heap.size wV w7 from HWX.out.grown g7 HWX.out.size (fun q hq => HGA.out q hq))
                  have HA7 := hide o7
                  clear o7 g7 k7 HA5 HWX HGA HNC hHeld
                  have hHeld := HSS.out w7 HW7.out
                  refine hK.out _ _ hHeld ?_
                  clear hK K
                  try simp only [List.getElem_toArray, List.getElem_cons_succ, List.getElem_cons_zero, Act.put, List.setIfInBounds_toArray, List.set_cons_zero, List.set_cons_succ]
                  refine Rv.one (i := 19) rfl (by kernel_rfl) (fun K hK => ?_)
                  refine step_app (by rfl) _ _ 57 rfl 63 i0 (.agg #[.string ByteArray.empty, .int .i64 0]) 2 24 Try.underlying57 HI.out.1 HI.out.2.1 HI.out.2.2.1 HI.out.2.2.2 rfl (by decide) wV.heap.size A7 (n5 + 1) c7 _ (by rfl) HA7.out HW7.out.size A2 (n - n5) (cl - n5) (cellsOf landmarkC (L.drop n5)) (by rfl) (HP2.out _ HW7.out) HLK.out.2 HA2.out (one_lmk _) (by unfold maxLen; omega) (by omega) ?_
                  intro A9 n9 c9 w9 hn9 o9 g9 k9
                  have hn9' : n9 = n + 1 := by omega
                  clear hn9
                  subst hn9'
                  have HA9 := hide (show Row w9 wV.heap.size 63 2 A9 (n + 1) c9 (cellsOf landmarkC (insL L (nm, pl))) from by
                    rw [HST.out]
                    simpa [cellsOf, landmarkC] using o9)
                  have HW9 := hide (show Below wV.heap.size wV w9 from HW7.out.grown g9 HW7.out.size (fun q hq => (HA7.out.lt q hq).1))
                  clear o9 g9 k9 HA7 HW7 hHeld
                  have hHeld := HSS.out w9 HW9.out
                  refine hK.out _ _ hHeld ?_
                  clear hK K
                  try simp only [List.getElem_toArray, List.getElem_cons_succ, List.getElem_cons_zero, Act.put, List.setIfInBounds_toArray, List.set_cons_zero, List.set_cons_succ]
                  refine Rv.comp (i := 20) (v := ?_) rfl (by kernel_rfl) (by kernel_rfl) (by kernel_rfl) (fun _ _ _ h => h) (Or.inl ⟨by rfl, ?_⟩) ?_
                  rotate_left 1
                  focus (intro w hSw; (try dsimp only at hSw); go_simp; (try with_reducible rfl))
                  try simp only [List.getElem_toArray, List.getElem_cons_succ, List.getElem_cons_zero, Act.put, List.setIfInBounds_toArray, List.set_cons_zero, List.set_cons_succ]
                  refine Rv.done (by kernel_rfl) ?_ _
                  clear hHeld
                  obtain ⟨g', hA', _, _, _, _⟩ := own_of HA9.out (by omega)
                  subst hA'
                  have HWE := hide (HA9.out.down HBL.out)
                  have HN9 := hide (HNW.out.call HW9.out)
                  have HPW9 := hide (HPW.out.call HW9.out)
                  have HB9 := hide (HB.out.trans (HW9.out.mono HB.out.size))
                  go_wp2_with fail
                  refine ⟨⟨k + 1, g', c9, insL L (nm, pl), by omega, by rw [HFL.out], by go_num, HNX.out.symm, by rw [HFL.out]; have := HLk.out; omega, by rw [HFL.out]; exact HWE.out, HN9.out, HPW9.out, HB9.out⟩, by first | (simp [intOf]; done) | (simp [intOf]; omega)⟩
              · have haL' : a - 1 < L.length := by omega
                have HX1 := hide (show L.getD (a - 1) (ByteArray.empty, 0) = L[a - 1] from by rw [List.getD_eq_getElem?_getD, List.getElem?_eq_getElem haL']; rfl)
                have HGO := hide (fun h : pl < (L[a - 1]).2 => (show lpos L pl L.length = lpos L pl (a - 1) from by
                  rw [HPOS.out, show a = (a - 1) + 1 from by omega]
                  show (if _ then _ else _) = _
                  rw [Nat.add_sub_cancel, HX1.out, if_pos h]))
                have HSTOP := hide (fun h : ¬ pl < (L[a - 1]).2 => (show insL L (nm, pl) = L.take a ++ [(nm, pl)] ++ L.drop a from by
                  have : lpos L pl L.length = a := by
                    rw [HPOS.out, show a = (a - 1) + 1 from by omega]
                    show (if _ then _ else _) = _
                    rw [HX1.out, if_neg h]
                  unfold insL
                  rw [this]))
                obtain ⟨b, off, hA, _, hc⟩ := (HW.out.call HBI.out).rd ((a - 1) * 2 + 1) (.int .i64 (L[a - 1]).2) (by rw [cellsOf_at landmarkC_len L (a - 1) 1 haL' (by decide)]; rfl)
                simp only [Option.some.injEq, Addr.mk.injEq, and_true] at hA
                obtain ⟨rfl, rfl⟩ := hA
                rw [Nat.zero_add] at hc
                clear HPOS HX1
                generalize (L[a - 1]).2 = q at *
                have ht : (IntKind.i64.wrap ((a : Int) - 1)) = ((a - 1 : Nat) : Int) := by
                  rw [IntWalk.i64_in _ (by omega)]
                  omega
                have h0 : (0 : Int) < a := by omega
                have h0N : 0 < a := by omega
                have hd0 : decide ((a : Int) > 0) = true := decide_eq_true h0
                by_cases hq : pl < q
                · have HNX2 := hide (HGO.out hq)
                  clear HGO HSTOP
                  go_wp2_with fail
                  go_quiet (fail)
                  go_wp2_with fail
                  refine ⟨⟨a - 1, by omega, by go_num, HNX2.out, Kit.Below.drewN HBI.out _⟩, by simp [intOf]; omega⟩
                · have HST := hide (HSTOP.out hq)
                  have hd : decide (q > pl) = false := decide_eq_false hq
                  clear HGO HSTOP
                  go_wp2_with fail
                  go_quiet (fail)
                  go_wp2_with fail
                  clear hd hc ht h0 h0N hd0
                  have HBV := hide (Kit.Below.drewN HBI.out nq)
                  have HW := hide (HW.out.call HBV.out)
                  have HNW := hide (HNW.out.call HBV.out)
                  have HPW := hide (HPW.out.call HBV.out)
                  have hcn := (HBV.out.cell (p := ⟨g, k, none⟩) hgn).trans hcn
                  have hcp := (HBV.out.cell (p := ⟨pb, po + k, none⟩) hpb).trans hcp
                  have HB := hide (HB.out.trans (HBV.out.mono HB.out.size))
                  have HBL := hide HB.out.size
                  have hgn := Nat.lt_of_lt_of_le hgn HBV.out.size
                  have hpb := Nat.lt_of_lt_of_le hpb HBV.out.size
                  clear HBI HBV hcnI hcpI
                  generalize wi.drewN nq = wV at *
                  have HLK := hide (show (cellsOf landmarkC (L.take a)).length = a * 2 ∧ (cellsOf landmarkC (L.drop a)).length = (L.length - a) * 2 from ⟨by rw [cellsOf_len landmarkC_len, List.length_take]; congr 1; omega, by rw [cellsOf_len landmarkC_len, List.length_drop]⟩)
                  have HP1 := hide (fun V (hV : Below wV.heap.size wV V) => (show Rd V V.heap.size (some ⟨ga, 0, none⟩) (cellsOf landmarkC (L.take a)) from by
                    have h := ((HW.out.prefix haL).rd.below hV).more hV.size
                    rw [cells_take] at h
                    exact h))
                  have HP2 := hide (fun V (hV : Below wV.heap.size wV V) => (show Rd V V.heap.size (if cl = a then some ⟨ga, 0, none⟩ else some ⟨ga, a * 2, none⟩) (cellsOf landmarkC (L.drop a)) from by
                    have h := CSortS.rd_tail (j := a) (jj := a * 2) (size := 2) ((HW.out.rd.below hV).more hV.size) (cellsOf_len landmarkC_len L) HW.out.cap.1 rfl
                    rw [cells_drop] at h
                    exact h))
                  have HA2 := hide (show (if cl = a then some (⟨ga, 0, none⟩ : Addr) else some ⟨ga, a * 2, none⟩) = none → cl - a = 0 from fun h => by split at h <;> cases h)
                  have hac : a ≤ cl := Nat.le_trans haL HW.out.cap.1
                  have hlc : L.length ≤ cl := HW.out.cap.1
                  have HSS := hide (fun V (hV : Below wV.heap.size wV V) => (show V.cell? ⟨g, k, none⟩ = some (.string nm) ∧ V.cell? ⟨pb, po + k, none⟩ = some (.int .i64 pl) from ⟨(hV.cell (p := ⟨g, k, none⟩) hgn).trans hcn, (hV.cell (p := ⟨pb, po + k, none⟩) hpb).trans hcp⟩))
                  have HFL := hide (show (insL L (nm, pl)).length = L.length + 1 from insL_len _ _)
                  clear hcn hcp
                  generalize hnl : L.length = n at *
                  clear hnl
                  refine Rv.start (fun V => V.cell? ⟨g, k, none⟩ = some (.string nm) ∧ V.cell? ⟨pb, po + k, none⟩ = some (.int .i64 pl)) (fun _ => false) (by kernel_rfl) ?_
                  have hHeld := HSS.out wV.drew (below_dr (Below.refl _ _))
                  refine Rv.comp (i := 1) (v := ?_) rfl (by kernel_rfl) (by kernel_rfl) (by kernel_rfl) (fun _ _ _ h => h) (Or.inl ⟨by rfl, ?_⟩) ?_
                  rotate_left 1
                  focus (intro w hSw; (try dsimp only at hSw); go_simp; (try with_reducible rfl))
                  try simp only [List.getElem_toArray, List.getElem_cons_succ, List.getElem_cons_zero, Act.put, List.setIfInBounds_toArray, List.set_cons_zero, List.set_cons_succ]
                  refine Rv.comp (i := 2) (v := ?_) rfl (by kernel_rfl) (by kernel_rfl) (by kernel_rfl) (fun _ _ _ h => h) (Or.inl ⟨by rfl, ?_⟩) ?_
                  rotate_left 1
                  focus (intro w hSw; (try dsimp only at hSw); go_simp; (try with_reducible rfl))
                  try simp only [List.getElem_toArray, List.getElem_cons_succ, List.getElem_cons_zero, Act.put, List.setIfInBounds_toArray, List.set_cons_zero, List.set_cons_succ]
                  refine Rv.comp (i := 3) (v := ?_) rfl (by kernel_rfl) (by kernel_rfl) (by kernel_rfl) (fun _ _ _ h => h) (Or.inl ⟨by rfl, ?_⟩) ?_
                  rotate_left 1
                  focus (intro w hSw; (try dsimp only at hSw); go_simp; (try with_reducible rfl))
                  try simp only [List.getElem_toArray, List.getElem_cons_succ, List.getElem_cons_zero, Act.put, List.setIfInBounds_toArray, List.set_cons_zero, List.set_cons_succ]
                  refine Rv.comp (i := 5) (v := ?_) rfl (by kernel_rfl) (by kernel_rfl) (by kernel_rfl) (fun _ _ _ h => h) (Or.inl ⟨by rfl, ?_⟩) ?_
                  rotate_left 1
                  focus (intro w hSw; (try dsimp only at hSw); go_simp; (try with_reducible rfl))
                  try simp only [List.getElem_toArray, List.getElem_cons_succ, List.getElem_cons_zero, Act.put, List.setIfInBounds_toArray, List.set_cons_zero, List.set_cons_succ]
                  refine Rv.comp (i := 6) (v := ?_) rfl (by kernel_rfl) (by kernel_rfl) (by kernel_rfl) (fun _ _ _ h => h) (Or.inl ⟨by rfl, ?_⟩) ?_
                  rotate_left 1
                  focus (intro w hSw; (try dsimp only at hSw); go_simp; (try with_reducible rfl))
                  try simp only [List.getElem_toArray, List.getElem_cons_succ, List.getElem_cons_zero, Act.put, List.setIfInBounds_toArray, List.set_cons_zero, List.set_cons_succ]
                  refine Rv.comp (i := 7) (v := ?_) rfl (by kernel_rfl) (by kernel_rfl) (by kernel_rfl) (fun _ _ _ h => h) (Or.inl ⟨by rfl, ?_⟩) ?_
                  rotate_left 1
                  focus (intro w hSw; (try dsimp only at hSw); go_simp; (try with_reducible rfl))
                  try simp only [List.getElem_toArray, List.getElem_cons_succ, List.getElem_cons_zero, Act.put, List.setIfInBounds_toArray, List.set_cons_zero, List.set_cons_succ]
                  refine Rv.take (i := 8) (v := ?_) rfl (by kernel_rfl) (by kernel_rfl) (by kernel_rfl) (by kernel_rfl) (fun _ _ _ h => h) (Or.inl ⟨by rfl, ?_⟩) (by assumption) ?_
                  rotate_left 1
                  focus (intro w hSw; (try dsimp only at hSw); go_simp; (try with_reducible rfl))
                  try simp only [List.getElem_toArray, List.getElem_cons_succ, List.getElem_cons_zero, Act.put, List.setIfInBounds_toArray, List.set_cons_zero, List.set_cons_succ]
                  refine Rv.comp (i := 9) (v := ?_) rfl (by kernel_rfl) (by kernel_rfl) (by kernel_rfl) (fun _ _ _ h => h) (Or.inl ⟨by rfl, ?_⟩) ?_
                  rotate_left 1
                  focus (intro w hSw; (try dsimp only at hSw); go_simp; (try with_reducible rfl))
                  try simp only [List.getElem_toArray, List.getElem_cons_succ, List.getElem_cons_zero, Act.put, List.setIfInBounds_toArray, List.set_cons_zero, List.set_cons_succ]
                  refine Rv.comp (i := 10) (v := ?_) rfl (by kernel_rfl) (by kernel_rfl) (by kernel_rfl) (fun _ _ _ h => h) (Or.inl ⟨by rfl, ?_⟩) ?_
                  rotate_left 1
                  focus (intro w hSw; (try dsimp only at hSw); go_simp; (try with_reducible rfl))
                  try simp only [List.getElem_toArray, List.getElem_cons_succ, List.getElem_cons_zero, Act.put, List.setIfInBounds_toArray, List.set_cons_zero, List.set_cons_succ]
                  refine Rv.comp (i := 11) (v := ?_) rfl (by kernel_rfl) (by kernel_rfl) (by kernel_rfl) (fun _ _ _ h => h) (Or.inl ⟨by rfl, ?_⟩) ?_
                  rotate_left 1
                  focus (intro w hSw; (try dsimp only at hSw); go_simp; (try with_reducible rfl))
                  try simp only [List.getElem_toArray, List.getElem_cons_succ, List.getElem_cons_zero, Act.put, List.setIfInBounds_toArray, List.set_cons_zero, List.set_cons_succ]
                  refine Rv.take (i := 12) (v := ?_) rfl (by kernel_rfl) (by kernel_rfl) (by kernel_rfl) (by kernel_rfl) (fun _ _ _ h => h) (Or.inl ⟨by rfl, ?_⟩) (by assumption) ?_
                  rotate_left 1
                  focus (intro w hSw; (try dsimp only at hSw); go_simp; (try with_reducible rfl))
                  try simp only [List.getElem_toArray, List.getElem_cons_succ, List.getElem_cons_zero, Act.put, List.setIfInBounds_toArray, List.set_cons_zero, List.set_cons_succ]
                  refine Rv.comp (i := 13) (v := ?_) rfl (by kernel_rfl) (by kernel_rfl) (by kernel_rfl) (fun _ _ _ h => h) (Or.inl ⟨by rfl, ?_⟩) ?_
                  rotate_left 1
                  focus (intro w hSw; (try dsimp only at hSw); go_simp; (try with_reducible rfl))
                  try simp only [List.getElem_toArray, List.getElem_cons_succ, List.getElem_cons_zero, Act.put, List.setIfInBounds_toArray, List.set_cons_zero, List.set_cons_succ]
                  refine Rv.comp (i := 16) (v := ?_) rfl (by kernel_rfl) (by kernel_rfl) (by kernel_rfl) (fun _ _ _ h => h) (Or.inl ⟨by rfl, ?_⟩) ?_
                  rotate_left 1
                  focus (intro w hSw; (try dsimp only at hSw); go_simp; (try with_reducible rfl))
                  try simp only [List.getElem_toArray, List.getElem_cons_succ, List.getElem_cons_zero, Act.put, List.setIfInBounds_toArray, List.set_cons_zero, List.set_cons_succ]
                  refine Rv.comp (i := 17) (v := ?_) rfl (by kernel_rfl) (by kernel_rfl) (by kernel_rfl) (fun _ _ _ h => h) (Or.inl ⟨by rfl, ?_⟩) ?_
                  rotate_left 1
                  focus (intro w hSw; (try dsimp only at hSw); go_simp; (try with_reducible rfl))
                  try simp only [List.getElem_toArray, List.getElem_cons_succ, List.getElem_cons_zero, Act.put, List.setIfInBounds_toArray, List.set_cons_zero, List.set_cons_succ]
                  refine Rv.comp (i := 18) (v := ?_) rfl (by kernel_rfl) (by kernel_rfl) (by kernel_rfl) (fun _ _ _ h => h) (Or.inl ⟨by rfl, ?_⟩) ?_
                  rotate_left 1
                  focus (intro w hSw; (try dsimp only at hSw); go_simp; (try with_reducible rfl))
                  try simp only [List.getElem_toArray, List.getElem_cons_succ, List.getElem_cons_zero, Act.put, List.setIfInBounds_toArray, List.set_cons_zero, List.set_cons_succ]
                  generalize (if cl = a then some (⟨ga, 0, none⟩ : Addr) else some ⟨ga, a * 2, none⟩) = A2 at *
                  refine Rv.two (i := 0) (j := 14) rfl rfl (by kernel_rfl) (fun K hK => ?s0b) (fun K hK => ?s6b)
                  case' s0b =>
                    go_simp
                    clear hHeld
                    have hHeld := HSS.out (wV.alloc (.cells #[] 63)).drew (by (repeat (first | with_reducible assumption | with_reducible exact Below.refl _ _ | with_reducible apply below_al | with_reducible apply below_dr | with_reducible apply below_dn)); done)
                    refine hK.out _ _ hHeld ?_
                    clear hK K
                    try simp only [List.getElem_toArray, List.getElem_cons_succ, List.getElem_cons_zero, Act.put, List.setIfInBounds_toArray, List.set_cons_zero, List.set_cons_succ]
                    refine Rv.two (i := 4) (j := 14) rfl rfl (by kernel_rfl) (fun K hK => ?t4b) (fun K hK => ?t6b)
                  case' t4b =>
                    refine step_app (by rfl) _ _ 57 rfl 63 i0 (.agg #[.string ByteArray.empty, .int .i64 0]) 2 24 Try.underlying57 HI.out.1 HI.out.2.1 HI.out.2.2.1 HI.out.2.2.2 rfl (by decide) wV.heap.size _ 0 0 [] (by rfl) (Row.empty _ _ _ _ _) (Below.size (B := wV.heap.size) (by (repeat (first | with_reducible assumption | with_reducible exact Below.refl _ _ | with_reducible apply below_al | with_reducible apply below_dr | with_reducible apply below_dn)); done)) (some ⟨ga, 0, none⟩) a cl (cellsOf landmarkC (L.take a)) (by rfl) (HP1.out _ (by (repeat (first | with_reducible assumption | with_reducible exact Below.refl _ _ | with_reducible apply below_al | with_reducible apply below_dr | with_reducible apply below_dn)); done)) HLK.out.1 (fun h => by cases h) (one_lmk _) (by unfold maxLen; omega) (by omega) ?_
                    intro A5 n5 c5 w5 hn5 o5 g5 k5
                    have hn5' : n5 = a := by omega
                    clear hn5
                    subst hn5'
                    have HA5 := hide (show Row w5 wV.heap.size 63 2 A5 n5 c5 (cellsOf landmarkC (L.take n5)) from by simpa using o5)
                    have HWX := hide (show Below wV.heap.size wV w5 from below_tr (by (repeat (first | with_reducible assumption | with_reducible exact Below.refl _ _ | with_reducible apply below_al | with_reducible apply below_dr | with_reducible apply below_dn)); done) g5)
                    clear o5 g5 k5 hHeld
                    have hHeld := HSS.out w5 HWX.out
                    refine hK.out _ _ hHeld ?_
                    clear hK K
                    try simp only [List.getElem_toArray, List.getElem_cons_succ, List.getElem_cons_zero, Act.put, List.setIfInBounds_toArray, List.set_cons_zero, List.set_cons_succ]
                    refine Rv.one (i := 14) rfl (by kernel_rfl) (fun K hK => ?_)
                    go_simp
                    clear hHeld
                    have hHeld := HSS.out _ (HWX.out.alloc HWX.out.size (.cells #[.string nm, .int .i64 pl] 63))
                    refine hK.out _ _ hHeld ?_
                    clear hK K
                    try simp only [List.getElem_toArray, List.getElem_cons_succ, List.getElem_cons_zero, Act.put, List.setIfInBounds_toArray, List.set_cons_zero, List.set_cons_succ]
                    have HNC := hide (show Box (w5.alloc (.cells #[.string nm, .int .i64 pl] 63)) w5.heap.size 63 #[.string nm, .int .i64 pl] from Box.new w5 63 #[.string nm, .int .i64 pl])
                    have B6 : Below w5.heap.size w5 (w5.alloc (.cells #[.string nm, .int .i64 pl] 63)) := (by repeat (first | exact Below.refl _ _ | with_reducible assumption | (refine Below.drew ?_) | (refine Below.drewN ?_ _) | (refine Below.alloc ?_ (by simp; try omega) _) | (refine Below.setCell ?_ (by simp; try omega) _)))
                    replace HWX := hide (HWX.out.trans (B6.mono HWX.out.size))
                    replace HA5 := hide (HA5.out.call B6)
                    clear B6
                    generalize w5.alloc (.cells #[.string nm, .int .i64 pl] 63) = wX at *
                    generalize w5.heap.size = N at *
                  case' t6b =>
                    go_simp
                    clear hHeld
                    have hHeld := HSS.out ((wV.alloc (.cells #[] 63)).alloc (.cells #[.string nm, .int .i64 pl] 63)).drew (by (repeat (first | with_reducible assumption | with_reducible exact Below.refl _ _ | with_reducible apply below_al | with_reducible apply below_dr | with_reducible apply below_dn)); done)
                    refine hK.out _ _ hHeld ?_
                    clear hK K
                    try simp only [List.getElem_toArray, List.getElem_cons_succ, List.getElem_cons_zero, Act.put, List.setIfInBounds_toArray, List.set_cons_zero, List.set_cons_succ]
                    have HNN := hide (show Box ((wV.alloc (.cells #[] 63)).alloc (.cells #[.string nm, .int .i64 pl] 63)).drew (wV.heap.size + 1) 63 #[.string nm, .int .i64 pl] from by
                      have h := Box.new (wV.alloc (.cells #[] 63)) 63 #[.string nm, .int .i64 pl]
                      rw [World.size_alloc] at h
                      exact h.call (below_dr (Below.refl _ _)))
                    refine Rv.one (i := 4) rfl (by kernel_rfl) (fun K hK => ?_)
                    refine step_app (by rfl) _ _ 57 rfl 63 i0 (.agg #[.string ByteArray.empty, .int .i64 0]) 2 24 Try.underlying57 HI.out.1 HI.out.2.1 HI.out.2.2.1 HI.out.2.2.2 rfl (by decide) wV.heap.size _ 0 0 [] (by rfl) (Row.empty _ _ _ _ _) (Below.size (B := wV.heap.size) (by (repeat (first | with_reducible assumption | with_reducible exact Below.refl _ _ | with_reducible apply below_al | with_reducible apply below_dr | with_reducible apply below_dn)); done)) (some ⟨ga, 0, none⟩) a cl (cellsOf landmarkC (L.take a)) (by rfl) (HP1.out _ (by (repeat (first | with_reducible assumption | with_reducible exact Below.refl _ _ | with_reducible apply below_al | with_reducible apply below_dr | with_reducible apply below_dn)); done)) HLK.out.1 (fun h => by cases h) (one_lmk _) (by unfold maxLen; omega) (by omega) ?_
                    intro A5 n5 c5 wX hn5 o5 g5 k5
                    have hn5' : n5 = a := by omega
                    clear hn5
                    subst hn5'
                    have HA5 := hide (show Row wX wV.heap.size 63 2 A5 n5 c5 (cellsOf landmarkC (L.take n5)) from by simpa using o5)
                    have HWX := hide (show Below wV.heap.size wV wX from below_tr (by (repeat (first | with_reducible assumption | with_reducible exact Below.refl _ _ | with_reducible apply below_al | with_reducible apply below_dr | with_reducible apply below_dn)); done) g5)
                    have HNC := hide (HNN.out.call (below_tr (Below.refl _ _) g5))
                    clear o5 g5 k5 HNN hHeld
                    have hHeld := HSS.out wX HWX.out
                    refine hK.out _ _ hHeld ?_
                    clear hK K
                    try simp only [List.getElem_toArray, List.getElem_cons_succ, List.getElem_cons_zero, Act.put, List.setIfInBounds_toArray, List.set_cons_zero, List.set_cons_succ]
                    generalize wV.heap.size + 1 = N at *
                  case' s6b =>
                    go_simp
                    clear hHeld
                    have hHeld := HSS.out (wV.alloc (.cells #[.string nm, .int .i64 pl] 63)).drew (by (repeat (first | with_reducible assumption | with_reducible exact Below.refl _ _ | with_reducible apply below_al | with_reducible apply below_dr | with_reducible apply below_dn)); done)
                    refine hK.out _ _ hHeld ?_
                    clear hK K
                    try simp only [List.getElem_toArray, List.getElem_cons_succ, List.getElem_cons_zero, Act.put, List.setIfInBounds_toArray, List.set_cons_zero, List.set_cons_succ]
                    refine Rv.one (i := 0) rfl (by kernel_rfl) (fun K hK => ?_)
                    go_simp
                    clear hHeld
                    have hHeld := HSS.out ((wV.alloc (.cells #[.string nm, .int .i64 pl] 63)).alloc (.cells #[] 63)).drew (by (repeat (first | with_reducible assumption | with_reducible exact Below.refl _ _ | with_reducible apply below_al | with_reducible apply below_dr | with_reducible apply below_dn)); done)
                    refine hK.out _ _ hHeld ?_
                    clear hK K
                    try simp only [List.getElem_toArray, List.getElem_cons_succ, List.getElem_cons_zero, Act.put, List.setIfInBounds_toArray, List.set_cons_zero, List.set_cons_succ]
                    have HNN := hide (show Box ((wV.alloc (.cells #[.string nm, .int .i64 pl] 63)).alloc (.cells #[] 63)).drew wV.heap.size 63 #[.string nm, .int .i64 pl] from by
                      have h := (Box.new wV 63 #[.string nm, .int .i64 pl]).alloc (.cells #[] 63)
                      exact h.call (below_dr (Below.refl _ _)))
                    refine Rv.one (i := 4) rfl (by kernel_rfl) (fun K hK => ?_)
                    refine step_app (by rfl) _ _ 57 rfl 63 i0 (.agg #[.string ByteArray.empty, .int .i64 0]) 2 24 Try.underlying57 HI.out.1 HI.out.2.1 HI.out.2.2.1 HI.out.2.2.2 rfl (by decide) wV.heap.size _ 0 0 [] (by rfl) (Row.empty _ _ _ _ _) (Below.size (B := wV.heap.size) (by (repeat (first | with_reducible assumption | with_reducible exact Below.refl _ _ | with_reducible apply below_al | with_reducible apply below_dr | with_reducible apply below_dn)); done)) (some ⟨ga, 0, none⟩) a cl (cellsOf landmarkC (L.take a)) (by rfl) (HP1.out _ (by (repeat (first | with_reducible assumption | with_reducible exact Below.refl _ _ | with_reducible apply below_al | with_reducible apply below_dr | with_reducible apply below_dn)); done)) HLK.out.1 (fun h => by cases h) (one_lmk _) (by unfold maxLen; omega) (by omega) ?_
                    intro A5 n5 c5 wX hn5 o5 g5 k5
                    have hn5' : n5 = a := by omega
                    clear hn5
                    subst hn5'
                    have HA5 := hide (show Row wX wV.heap.size 63 2 A5 n5 c5 (cellsOf landmarkC (L.take n5)) from by simpa using o5)
                    have HWX := hide (show Below wV.heap.size wV wX from below_tr (by (repeat (first | with_reducible assumption | with_reducible exact Below.refl _ _ | with_reducible apply below_al | with_reducible apply below_dr | with_reducible apply below_dn)); done) g5)
                    have HNC := hide (HNN.out.call (below_tr (Below.refl _ _) g5))
                    clear o5 g5 k5 HNN hHeld
                    have hHeld := HSS.out wX HWX.out
                    refine hK.out _ _ hHeld ?_
                    clear hK K
                    try simp only [List.getElem_toArray, List.getElem_cons_succ, List.getElem_cons_zero, Act.put, List.setIfInBounds_toArray, List.set_cons_zero, List.set_cons_succ]
                    generalize hN : wV.heap.size = N at HNC ⊢
                  all_goals
                    refine Rv.one (i := 15) rfl (by kernel_rfl) (fun K hK => ?_)
                    have hgeA := (fun q hq => (HA5.out.lt q hq).1)
                    have HGA := hide hgeA
                    clear hgeA
                    refine step_app (by rfl) _ _ 57 rfl 63 i0 (.agg #[.string ByteArray.empty, .int .i64 0]) 2 24 Try.underlying57 HI.out.1 HI.out.2.1 HI.out.2.2.1 HI.out.2.2.2 rfl (by decide) wV.heap.size A5 n5 c5 (cellsOf landmarkC (L.take n5)) (by rfl) HA5.out HWX.out.size (some ⟨N, 0, none⟩) 1 1 [.string nm, .int .i64 pl] (by rfl) (B := N + 1) (fun i u hi => by
                      refine ⟨N, 0, rfl, Nat.lt_succ_self _, ?_⟩
                      rw [Nat.zero_add, HNC.out.cell i]
                      simpa using hi) rfl (fun h => by cases h) (one_lmk1 nm pl) (by unfold maxLen; omega) (by omega) ?_
                    intro A7 n7 c7 w7 hn7 o7 g7 k7
                    have hn7' : n7 = n5 + 1 := hn7
                    clear hn7
                    subst hn7'
                    have HW7 := hide (show Below wV.heap.size wV w7 from HWX.out.grown g7 HWX.out.size (fun q hq => HGA.out q hq))
                    have HA7 := hide o7
                    clear o7 g7 k7 HA5 HWX HGA HNC hHeld
                    have hHeld := HSS.out w7 HW7.out
                    refine hK.out _ _ hHeld ?_
                    clear hK K
                    try simp only [List.getElem_toArray, List.getElem_cons_succ, List.getElem_cons_zero, Act.put, List.setIfInBounds_toArray, List.set_cons_zero, List.set_cons_succ]
                    refine Rv.one (i := 19) rfl (by kernel_rfl) (fun K hK => ?_)
                    refine step_app (by rfl) _ _ 57 rfl 63 i0 (.agg #[.string ByteArray.empty, .int .i64 0]) 2 24 Try.underlying57 HI.out.1 HI.out.2.1 HI.out.2.2.1 HI.out.2.2.2 rfl (by decide) wV.heap.size A7 (n5 + 1) c7 _ (by rfl) HA7.out HW7.out.size A2 (n - n5) (cl - n5) (cellsOf landmarkC (L.drop n5)) (by rfl) (HP2.out _ HW7.out) HLK.out.2 HA2.out (one_lmk _) (by unfold maxLen; omega) (by omega) ?_
                    intro A9 n9 c9 w9 hn9 o9 g9 k9
                    have hn9' : n9 = n + 1 := by omega
                    clear hn9
                    subst hn9'
                    have HA9 := hide (show Row w9 wV.heap.size 63 2 A9 (n + 1) c9 (cellsOf landmarkC (insL L (nm, pl))) from by
                      rw [HST.out]
                      simpa [cellsOf, landmarkC] using o9)
                    have HW9 := hide (show Below wV.heap.size wV w9 from HW7.out.grown g9 HW7.out.size (fun q hq => (HA7.out.lt q hq).1))
                    clear o9 g9 k9 HA7 HW7 hHeld
                    have hHeld := HSS.out w9 HW9.out
                    refine hK.out _ _ hHeld ?_
                    clear hK K
                    try simp only [List.getElem_toArray, List.getElem_cons_succ, List.getElem_cons_zero, Act.put, List.setIfInBounds_toArray, List.set_cons_zero, List.set_cons_succ]
                    refine Rv.comp (i := 20) (v := ?_) rfl (by kernel_rfl) (by kernel_rfl) (by kernel_rfl) (fun _ _ _ h => h) (Or.inl ⟨by rfl, ?_⟩) ?_
                    rotate_left 1
                    focus (intro w hSw; (try dsimp only at hSw); go_simp; (try with_reducible rfl))
                    try simp only [List.getElem_toArray, List.getElem_cons_succ, List.getElem_cons_zero, Act.put, List.setIfInBounds_toArray, List.set_cons_zero, List.set_cons_succ]
                    refine Rv.done (by kernel_rfl) ?_ _
                    clear hHeld
                    obtain ⟨g', hA', _, _, _, _⟩ := own_of HA9.out (by omega)
                    subst hA'
                    have HWE := hide (HA9.out.down HBL.out)
                    have HN9 := hide (HNW.out.call HW9.out)
                    have HPW9 := hide (HPW.out.call HW9.out)
                    have HB9 := hide (HB.out.trans (HW9.out.mono HB.out.size))
                    go_wp2_with fail
                    refine ⟨⟨k + 1, g', c9, insL L (nm, pl), by omega, by rw [HFL.out], by go_num, HNX.out.symm, by rw [HFL.out]; have := HLk.out; omega, by rw [HFL.out]; exact HWE.out, HN9.out, HPW9.out, HB9.out⟩, by first | (simp [intOf]; done) | (simp [intOf]; omega)⟩
          · have hke : k = ns.length := by omega
            have HFIN := hide (show lmkS (os.map OV.d) base = L from by
              rw [HLS2.out, HL.out, hke, List.take_of_length_le]
              rw [List.length_zip]
              have := HZE.out
              omega)
            clear HL HLS2
            go_wp2_with fail
            go_ret
            rw [HFIN.out]
            exact ⟨_, _, rfl, HW.out, HB.out⟩
end Go.Proofs.Ytmglgjchemecjaa.CLmkS

