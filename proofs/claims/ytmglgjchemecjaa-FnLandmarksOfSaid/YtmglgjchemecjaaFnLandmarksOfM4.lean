/- findBound and findName: which symbol a name means. -/
import Derived.Test.YtmglgjchemecjaaFnLandmarksOfM3
import Derived.Lib.AppendStr
import Derived.Test.YtmglgjchemecjaaRows
import Derived.StillTailTactics
set_option linter.unusedSimpArgs false
set_option linter.unusedVariables false
namespace Go.Proofs.Ytmglgjchemecjaa.CFind
set_option maxRecDepth 200000
open Go.ChangeShapes Go.WideShapes Go.ChangeAt Go.RowKit Kit CCode CName CFixups CSymbols PObj BObj PValid CGlobalOf BList PLink
theorem find_name (l : List OD) (nm : ByteArray) : findN l nm = orG (fiO (gives nm 1) 0 l) (fiO (gives nm 2) 0 l) := rfl
/-- What is given back: where, and whether there is one. -/
def givV (r : Option G) : Value := .tuple #[.agg #[.int .i64 (gin r), .int .i64 (gat r)], .bool r.isSome]
def Lens (os : List OV) : Prop := os.length ≤ 1048576 ∧ ∀ o ∈ os, o.ys.length ≤ 1048576
set_option maxHeartbeats 2000000 in
theorem findBound_any (A : Option Addr) (os : List OV) (c : Nat) (nm : ByteArray) (b : Int) (w : World) (hr : RdOs w w.heap.size A os) (hm : Lens os) :
    Calls Try.prog 157 #[.slice A os.length c, .string nm, .int .i64 b] w (Ret (givV (fiO (gives nm b) 0 (os.map OV.d))) w) := by
  obtain ⟨hm1, hm2⟩ := hm
  have HY := hide hm2
  clear hm2
  have HB := hide (show Below w.heap.size w (w.alloc (.cells #[.int .i64 0, .int .i64 0] 117)) from (by repeat (first | exact Below.refl _ _ | with_reducible assumption | (refine Below.drew ?_) | (refine Below.drewN ?_ _) | (refine Below.alloc ?_ (by simp; try omega) _) | (refine Below.setCell ?_ (by simp; try omega) _))))
  have HX := hide (Box.new w 117 #[.int .i64 0, .int .i64 0])
  have HR := hide hr
  clear hr
  go_enter Try.func157, Try.ntmps157
  go_wp2_with fail
  generalize w.alloc (.cells #[.int .i64 0, .int .i64 0] 117) = w0 at *
  go_loopw [14] (fun i wi => ∃ k : Nat, k ≤ os.length ∧ i = .int .i64 k ∧ fiO (gives nm b) 0 (os.map OV.d) = fiO (gives nm b) k ((os.map OV.d).drop k) ∧ Box wi w.heap.size 117 #[.int .i64 0, .int .i64 0] ∧ Below w.heap.size w wi) (fun i _ => os.length - (intOf i).toNat)
  case atStart => exact ⟨0, Nat.zero_le _, rfl, rfl, HX.out, HB.out⟩
  case round =>
    clear HX HB
    obtain ⟨k, hk, rfl, hf, hx, hb⟩ := hrel
    have HX := hide hx
    have HB := hide hb
    by_cases hlt : k < os.length
    · obtain ⟨bb, off, hA, hbb, hc0, hc1⟩ := (HR.out.below hb).at hlt
      have hlm : k < (os.map OV.d).length := by simpa using hlt
      have HF := hide (hf.trans (fiO_drop hlm k))
      have HRO := hide (HR.out.2 _ (List.getElem_mem hlt))
      have hyl := HY.out _ (List.getElem_mem hlt)
      have HE := hide (show (os.map OV.d)[k].ys = os[k].ys by simp [OV.d])
      clear hf hx hb
      subst hA
      rw [HE.out] at HF
      clear HE
      generalize hrest : fiO (gives nm b) (k + 1) ((os.map OV.d).drop (k + 1)) = rest at *
      have HRS := hide hrest
      clear hrest
      generalize os[k] = o at *
      go_wp2_with fail
      have B1 : Below wr.heap.size wr (wr.alloc (.cells #[.slice o.A o.ps.length o.c, .slice o.Y o.ys.length o.yc] 26)) := (by repeat (first | exact Below.refl _ _ | with_reducible assumption | (refine Below.drew ?_) | (refine Below.drewN ?_ _) | (refine Below.alloc ?_ (by simp; try omega) _) | (refine Below.setCell ?_ (by simp; try omega) _)))
      have HO := hide (Box.new wr 26 #[.slice o.A o.ps.length o.c, .slice o.Y o.ys.length o.yc])
      replace HB := hide (HB.out.trans (B1.mono HB.out.size))
      replace HX := hide (HX.out.call B1)
      clear B1
      generalize wr.alloc (.cells #[.slice o.A o.ps.length o.c, .slice o.Y o.ys.length o.yc] 26) = w1 at *
      generalize wr.heap.size = X at *
      clear hc0 hc1
      have x1 := HO.out.cell 1
      simp only [List.getElem?_toArray, List.getElem?_cons_zero, List.getElem?_cons_succ] at x1
      have hxl := HO.out.lt
      go_wp2_with fail
      clear x1 hxl
      go_loopw [22] (fun i wi => ∃ j : Nat, j ≤ o.ys.length ∧ i = .int .i64 j ∧ fiO (gives nm b) 0 (os.map OV.d) = fiR (gives nm b) k (fiS (gives nm b) j (o.ys.drop j)) rest ∧ Box wi w.heap.size 117 #[.int .i64 0, .int .i64 0] ∧ Below w.heap.size w wi) (fun i _ => o.ys.length - (intOf i).toNat)
      case atStart => exact ⟨0, Nat.zero_le _, rfl, HF.out, HX.out, HB.out⟩
      case round =>
        clear HX HB HF HO
        obtain ⟨j, hj, rfl, hf, hx, hb⟩ := hrel
        have HX := hide hx
        have HB := hide hb
        by_cases hlj : j < o.ys.length
        · obtain ⟨b2, off2, hY, hb2, hc⟩ := (HRO.out.2.below hb).row symbolC_len (by decide) hlj
          have hc0 := hc 0 _ rfl
          have hc1 := hc 1 _ rfl
          have hc2 := hc 2 _ rfl
          have hc3 := hc 3 _ rfl
          simp only [Nat.add_zero] at hc0
          have HF := hide (hf.trans (by rw [fiS_drop hlj]))
          clear hf hx hb hc
          rw [hY]
          clear hY
          generalize o.ys[j] = z at *
          have HG := hide (show gives nm b z = ((z.1.toList == nm.toList) && (z.2.1 == b) && (z.2.2.1 != -1)) from by
            rw [str_eq]
            rfl)
          obtain ⟨z1, z2, z3, z4⟩ := z
          simp only at hc0 hc1 hc2 hc3 HG
          have HB2 := hide (HB.out.alloc HB.out.size (.cells #[.string z1, .int .i64 z2, .int .i64 z3, .int .i64 z4] 69))
          have HX2 := hide (HX.out.alloc (.cells #[.string z1, .int .i64 z2, .int .i64 z3, .int .i64 z4] 69))
          cases q1 : (z1.toList == nm.toList)
          · rw [q1, Bool.false_and, Bool.false_and] at HG
            have HF' := hide (HF.out.trans (by rw [HG.out]; try rfl))
            clear HF HG
            go_wp2_with fail
            refine ⟨⟨j + 1, by omega, by go_num, HF'.out, HX2.out, HB2.out⟩, by simp [intOf]; omega⟩
          cases q2 : (z2 == b)
          · rw [q1, q2, Bool.and_false, Bool.false_and] at HG
            have HF' := hide (HF.out.trans (by rw [HG.out]; try rfl))
            clear HF HG
            go_wp2_with fail
            refine ⟨⟨j + 1, by omega, by go_num, HF'.out, HX2.out, HB2.out⟩, by simp [intOf]; omega⟩
          cases q3 : (z3 != -1)
          · rw [q1, q2, q3, Bool.and_false] at HG
            have HF' := hide (HF.out.trans (by rw [HG.out]; try rfl))
            clear HF HG
            go_wp2_with fail
            refine ⟨⟨j + 1, by omega, by go_num, HF'.out, HX2.out, HB2.out⟩, by simp [intOf]; omega⟩
          rw [q1, q2, q3, Bool.and_true, Bool.and_true] at HG
          have HF' := hide (HF.out.trans (by rw [HG.out]; try rfl))
          clear HF HG
          have kk := (HX2.out.set 0 (.int .i64 k)).set 1 (.int .i64 j)
          have k0 := kk.cell 0
          have k1 := kk.cell 1
          simp only [List.setIfInBounds_toArray, List.set_cons_zero, List.set_cons_succ, List.getElem?_toArray, List.getElem?_cons_zero, List.getElem?_cons_succ] at k0 k1
          clear kk
          have hxl := HX2.out.lt
          have x0 := HX2.out.cell 0
          have x1 := HX2.out.cell 1
          simp only [List.getElem?_toArray, List.getElem?_cons_zero, List.getElem?_cons_succ] at x0 x1
          have xf0 := HX2.out.frozen 0
          have xf1 := HX2.out.frozen 1
          have HFB := hide (two_below (Y := w.heap.size) HB2.out (Nat.le_refl _) (.int .i64 k) (.int .i64 j))
          go_wp2_with fail
          (try simp only [Exit.inBlock, Exit.then])
          exact bodyPost_ret (v := givV (some (k, j))) (by simp [results, Try.results157, go_sem, givV, gin, gat, k0, k1]) rfl (by rw [HF'.out]; exact ⟨rfl, HFB.out⟩)
        · obtain rfl : j = o.ys.length := by omega
          have HF := hide (hf.trans (by rw [List.drop_length]; rfl : _ = rest))
          have HX := hide hx
          have HB := hide hb
          clear hf hx hb
          go_wp2_with fail
          refine ⟨⟨k + 1, by omega, by go_num, by rw [HRS.out]; exact HF.out, HX.out, HB.out⟩, by simp [intOf]; omega⟩
    · obtain rfl : k = os.length := by omega
      have HF := hide (hf.trans (by rw [List.drop_of_length_le (by simp)]; rfl : _ = none))
      clear hf hx hb
      have kk := (HX.out.set 0 (.int .i64 0)).set 1 (.int .i64 0)
      have k0 := kk.cell 0
      have k1 := kk.cell 1
      simp only [List.setIfInBounds_toArray, List.set_cons_zero, List.set_cons_succ, List.getElem?_toArray, List.getElem?_cons_zero, List.getElem?_cons_succ] at k0 k1
      clear kk
      have hxl := HX.out.lt
      have x0 := HX.out.cell 0
      have x1 := HX.out.cell 1
      simp only [List.getElem?_toArray, List.getElem?_cons_zero, List.getElem?_cons_succ] at x0 x1
      have xf0 := HX.out.frozen 0
      have xf1 := HX.out.frozen 1
      have HFB := hide (two_below (Y := w.heap.size) HB.out (Nat.le_refl _) (.int .i64 0) (.int .i64 0))
      go_wp2_with fail
      (try simp only [Exit.inBlock, Exit.then])
      exact bodyPost_ret (v := givV none) (by simp [results, Try.results157, go_sem, givV, gin, gat, k0, k1]) rfl (by rw [HF.out]; exact ⟨rfl, HFB.out⟩)
/-- The name's symbol: one that is given strongly, else one that is given weakly. -/
theorem findName_any (A : Option Addr) (os : List OV) (c : Nat) (nm : ByteArray) (w : World) (hr : RdOs w w.heap.size A os) (hm : Lens os) :
    Calls Try.prog 95 #[.slice A os.length c, .string nm] w (Ret (givV (findN (os.map OV.d) nm)) w) := by
  have HB := hide (show Below w.heap.size w (w.alloc (.cells #[.int .i64 0, .int .i64 0] 117)) from (by repeat (first | exact Below.refl _ _ | with_reducible assumption | (refine Below.drew ?_) | (refine Below.drewN ?_ _) | (refine Below.alloc ?_ (by simp; try omega) _) | (refine Below.setCell ?_ (by simp; try omega) _))))
  have HX := hide (Box.new w 117 #[.int .i64 0, .int .i64 0])
  have HR := hide hr
  clear hr
  go_enter Try.func95, Try.ntmps95
  go_wp2_with fail
  generalize w.alloc (.cells #[.int .i64 0, .int .i64 0] 117) = w0 at *
  refine (findBound_any A os c nm 1 w0 ((HR.out.below HB.out).more HB.out.size) hm).mono ?_
  rintro e w1 ⟨rfl, b1⟩
  replace HB := hide (HB.out.trans (b1.mono HB.out.size))
  replace HX := hide (HX.out.call b1)
  clear b1
  generalize hr1 : fiO (gives nm 1) 0 (os.map OV.d) = r at *
  have HR1 := hide hr1
  clear hr1
  cases r with
  | some g =>
    simp only [givV, gin, gat, Option.isSome]
    have kk := (((HX.out.alloc (.cells #[.int .i64 g.1, .int .i64 g.2] 117)).set 0 (.int .i64 g.1)).set 1 (.int .i64 g.2))
    have k0 := kk.cell 0
    have k1 := kk.cell 1
    simp only [List.setIfInBounds_toArray, List.set_cons_zero, List.set_cons_succ, List.getElem?_toArray, List.getElem?_cons_zero, List.getElem?_cons_succ] at k0 k1
    clear kk
    have HFB := hide (two_below (Y := w.heap.size) (HB.out.alloc HB.out.size (.cells #[.int .i64 g.1, .int .i64 g.2] 117)) (Nat.le_refl _) (.int .i64 g.1) (.int .i64 g.2))
    have HX2 := HX.out.alloc (.cells #[.int .i64 g.1, .int .i64 g.2] 117)
    have hxl := HX2.lt
    have x0 := HX2.cell 0
    have x1 := HX2.cell 1
    simp only [List.getElem?_toArray, List.getElem?_cons_zero, List.getElem?_cons_succ] at x0 x1
    have xf0 := HX2.frozen 0
    have xf1 := HX2.frozen 1
    clear HX2
    go_wp2_with fail
    exact bodyPost_ret (v := givV (some g)) (by simp [results, Try.results95, go_sem, givV, gin, gat, k0, k1]) rfl (by rw [find_name, HR1.out]; exact ⟨rfl, HFB.out⟩)
  | none =>
    simp only [givV, gin, gat, Option.isSome]
    go_wp2_with fail
    have B1 : Below w1.heap.size w1 (w1.alloc (.cells #[.int .i64 0, .int .i64 0] 117)) := (by repeat (first | exact Below.refl _ _ | with_reducible assumption | (refine Below.drew ?_) | (refine Below.drewN ?_ _) | (refine Below.alloc ?_ (by simp; try omega) _) | (refine Below.setCell ?_ (by simp; try omega) _)))
    replace HB := hide (HB.out.trans (B1.mono HB.out.size))
    replace HX := hide (HX.out.call B1)
    clear B1
    generalize w1.alloc (.cells #[.int .i64 0, .int .i64 0] 117) = w2 at *
    refine (findBound_any A os c nm 2 w2 ((HR.out.below HB.out).more HB.out.size) hm).mono ?_
    rintro e w3 ⟨rfl, b3⟩
    replace HB := hide (HB.out.trans (b3.mono HB.out.size))
    replace HX := hide (HX.out.call b3)
    clear b3
    generalize hr2 : fiO (gives nm 2) 0 (os.map OV.d) = r at *
    have HR2 := hide hr2
    clear hr2
    simp only [givV]
    have kk := ((HX.out.set 0 (.int .i64 (gin r))).set 1 (.int .i64 (gat r)))
    have k0 := kk.cell 0
    have k1 := kk.cell 1
    simp only [List.setIfInBounds_toArray, List.set_cons_zero, List.set_cons_succ, List.getElem?_toArray, List.getElem?_cons_zero, List.getElem?_cons_succ] at k0 k1
    clear kk
    have HFB := hide (two_below (Y := w.heap.size) HB.out (Nat.le_refl _) (.int .i64 (gin r)) (.int .i64 (gat r)))
    have hxl := HX.out.lt
    have x0 := HX.out.cell 0
    have x1 := HX.out.cell 1
    simp only [List.getElem?_toArray, List.getElem?_cons_zero, List.getElem?_cons_succ] at x0 x1
    have xf0 := HX.out.frozen 0
    have xf1 := HX.out.frozen 1
    go_wp2_with fail
    exact bodyPost_ret (v := givV r) (by simp [results, Try.results95, go_sem, givV, k0, k1]) rfl (by rw [find_name, HR1.out, HR2.out]; exact ⟨rfl, HFB.out⟩)
end Go.Proofs.Ytmglgjchemecjaa.CFind
/- namesTwice and namesMissing. -/
namespace Go.Proofs.Ytmglgjchemecjaa.CNames
set_option maxRecDepth 200000
open Go.ChangeShapes Go.WideShapes Go.ChangeAt Go.RowKit Kit CCode CName CFixups CSymbols PObj BObj CGlobalOf BStore BList PLink CFind CSorted
theorem infoStr : (Try.prog.info? 9).map (fun i => (i.zero, i.size, i.bytes)) = some (some (.string ByteArray.empty), 1, 16) := by kernel_rfl
theorem strs_snoc (xs : List ByteArray) (x : ByteArray) : nmC xs ++ [.string x] = nmC (xs ++ [x]) := by simp [nmC]
theorem one_str (x : ByteArray) : ∀ u ∈ [Value.string x], u.oneCell' = true := by
  intro u hu
  rw [List.mem_singleton.1 hu]
  rfl
/-- The two rows of namesTwice. -/
structure TI (w0 : World) (A1 : Option Addr) (c1 : Nat) (xs : List ByteArray) (A2 : Option Addr) (c2 : Nat) (ys : List ByteArray) (w : World) : Prop where
  x : Row w w0.heap.size 9 1 A1 xs.length c1 (nmC xs)
  y : Row w w0.heap.size 9 1 A2 ys.length c2 (nmC ys)
  ap : Apart A1 c1 A2 c2
  b : Below w0.heap.size w0 w
theorem TI.call {w0 w w' : World} {A1 A2 : Option Addr} {c1 c2 : Nat} {xs ys : List ByteArray} (h : TI w0 A1 c1 xs A2 c2 ys w) (hb : Below w.heap.size w w') : TI w0 A1 c1 xs A2 c2 ys w' := ⟨h.x.call hb, h.y.call hb, h.ap, h.b.trans (hb.mono h.b.size)⟩
theorem TI.addY {w0 w w' : World} {A1 A2 A' : Option Addr} {c1 c2 n' c' : Nat} {xs ys : List ByteArray} {x : ByteArray} (h : TI w0 A1 c1 xs A2 c2 ys w) (hn : n' = ys.length + 1) (o : Row w' w0.heap.size 9 1 A' n' c' (nmC ys ++ [.string x])) (g : w.grownBy w' (blk A2 c2)) (hk : ∀ k, blk A' c' = some k → blk A2 c2 = some k ∨ w.heap.size ≤ k) :
    TI w0 A1 c1 xs A' c' (ys ++ [x]) w' := by
  subst hn
  refine ⟨h.x.grown g (fun k hk e => h.ap k hk e), ?_, ?_, h.b.grown g h.b.size (fun j hj => (h.y.lt j hj).1)⟩
  · rw [List.length_append, ← strs_snoc]
    exact o
  · intro k h1 h2
    rcases hk k h2 with h3 | h3
    · exact h.ap k h1 h3
    · have := (h.x.lt k h1).2
      omega
end Go.Proofs.Ytmglgjchemecjaa.CNames
/- NameTable: the bytes of a table of names; the program's. -/
namespace Go.Proofs.Ytmglgjchemecjaa.CNameTab
set_option maxRecDepth 200000
open Go.ChangeShapes Go.WideShapes Go.ChangeAt Go.RowKit Kit CCode CName CFixups CSymbols PObj BObj CGlobalOf BStore BList PLink CSorted CNames
def badP (x : ByteArray) : Bool := !nameOk x
theorem badF_any (x : ByteArray) (w : World) (hx : x.size ≤ maxLen) : Calls Try.prog 213 #[.string x] w (Ret (.bool (badP x)) w) := by
  go_enter Try.func213, Try.ntmps213
  go_wp2_with fail
  refine (nameValid_any x hx w).mono ?_
  rintro e w' ⟨rfl, rfl⟩
  go_wp2_with fail
  go_ret
  exact ⟨rfl, Below.refl _ _⟩
theorem indexBad_any (A : Option Addr) (xs : List ByteArray) (c : Nat) (w : World) (hr : Rd w w.heap.size A (nmC xs)) (hm : xs.length ≤ 1000) (hs : ∀ x ∈ xs, x.size ≤ maxLen) :
    Calls Try.prog 214 #[.slice A xs.length c, .func (.func 213) #[] #[]] w fun e w' => ∃ r : Int, e = .returned (.int .i64 r) ∧ decide (0 ≤ r) = xs.any (badP) ∧ Below w.heap.size w w' := by
  have HR := hide hr
  have HSZ := hide hs
  clear hr hs
  go_enter Try.func214, Try.ntmps214
  go_wp2_with fail
  go_loopw [8] (fun i wr => ∃ k : Nat, k ≤ xs.length ∧ i = .int .i64 k ∧ (xs.take k).any (badP) = false ∧ Below w.heap.size w wr) (fun i _ => xs.length - (intOf i).toNat)
  case atStart => exact ⟨0, Nat.zero_le _, rfl, rfl, Below.refl _ _⟩
  case round =>
    obtain ⟨k, hk, rfl, hn, hb⟩ := hrel
    have HB := hide hb
    by_cases hlt : k < xs.length
    · obtain ⟨b, off, hA, hbb, hc⟩ := (HR.out.below hb) k (.string xs[k]) (by simp [nmC, List.getElem?_eq_getElem hlt])
      have HS := hide (show (xs.take (k + 1)).any (badP) = (badP) xs[k] by rw [take_succ hlt, List.any_append, hn]; simp)
      have HT := hide (show (badP) xs[k] = true → xs.any (badP) = true from fun h => List.any_eq_true.2 ⟨_, List.getElem_mem hlt, h⟩)
      have HP := hide (fun x (hx : x.size ≤ maxLen) => badF_any x wr hx)
      have hsz := HSZ.out _ (List.getElem_mem hlt)
      clear hb hn
      subst hA
      generalize xs[k] = x at *
      have hpred := HP.out x hsz
      cases h : (badP) x
      · have HS' := hide (HS.out.trans h)
        rw [h] at hpred
        clear HT HS h HP
        go_wp2_with fail
        refine hpred.mono ?_
        rintro e w2 ⟨rfl, b2⟩
        have HB' := hide (HB.out.trans (b2.mono HB.out.size))
        clear b2 hc
        go_wp2_with fail
        refine ⟨⟨k + 1, by omega, by go_num, HS'.out, HB'.out⟩, by simp [intOf]; omega⟩
      · have HT' := hide (HT.out h)
        rw [h] at hpred
        clear HT HS h HP
        go_wp2_with fail
        refine hpred.mono ?_
        rintro e w2 ⟨rfl, b2⟩
        have HB' := hide (HB.out.trans (b2.mono HB.out.size))
        clear b2 hc
        go_wp2_with fail
        go_ret
        exact ⟨k, rfl, by rw [HT'.out]; simp, HB'.out⟩
    · have HN := hide (show xs.any (badP) = false by rw [← hn, List.take_of_length_le (by omega)])
      clear hb hn
      go_wp2_with fail
      go_ret
      exact ⟨-1, rfl, by rw [HN.out]; rfl, HB.out⟩
theorem containsBad_any (A : Option Addr) (xs : List ByteArray) (c : Nat) (w : World) (hr : Rd w w.heap.size A (nmC xs)) (hm : xs.length ≤ 1000) (hs : ∀ x ∈ xs, x.size ≤ maxLen) :
    Calls Try.prog 194 #[.slice A xs.length c, .func (.func 213) #[] #[]] w (Ret (.bool (xs.any (badP))) w) := by
  have HQ := hide (indexBad_any A xs c w hr hm hs )
  clear hr hm hs
  go_enter Try.func194, Try.ntmps194
  go_wp2_with fail
  refine HQ.out.mono ?_
  rintro e w2 ⟨r, rfl, hr2, b2⟩
  have HR := hide hr2
  have HB := hide b2
  clear hr2 b2
  go_wp2_with fail
  go_ret
  exact ⟨by rw [← HR.out]; rfl, HB.out⟩
end Go.Proofs.Ytmglgjchemecjaa.CNameTab
/- Names put in one by one, each once: the same list as sorted gives; plain. -/
namespace Go.Proofs.Ytmglgjchemecjaa.PIns
set_option maxRecDepth 200000
open Go.ChangeShapes Go.WideShapes Go.ChangeAt Go.RowKit Kit CSorted CNames CNameTab PSort
theorem bl_eq : ∀ x y : List UInt8, Op.bytesLess x y = decide (x < y)
  | [], [] => by simp [Op.bytesLess]
  | _ :: _, [] => by simp [Op.bytesLess]
  | [], _ :: _ => by simp [Op.bytesLess]
  | a :: x, b :: y => by
    rw [Op.bytesLess, bl_eq x y]
    simp only [List.cons_lt_cons_iff]
    by_cases h1 : a < b <;> by_cases h2 : a = b <;> by_cases h3 : x < y <;> simp [h1, h2, h3]
theorem toL_eq (a : ByteArray) : a.toList = a.data.toList := ByteArray.toList_eq a
theorem toL_inj {a b : ByteArray} (h : a.toList = b.toList) : a = b := by
  rw [toL_eq, toL_eq] at h
  exact ByteArray.ext (Array.toList_inj.1 h)
theorem sl_irr (a : ByteArray) : sl a a = false := by
  unfold sl
  rw [bl_eq]
  exact decide_eq_false (List.lt_irrefl _)
theorem sl_tr {a b c : ByteArray} (h1 : sl a b = true) (h2 : sl b c = true) : sl a c = true := by
  unfold sl at *
  rw [bl_eq] at *
  exact decide_eq_true (List.lt_trans (of_decide_eq_true h1) (of_decide_eq_true h2))
theorem sl_as {a b : ByteArray} (h : sl a b = true) : sl b a = false := by
  cases h2 : sl b a
  · rfl
  · have := sl_tr h h2
    rw [sl_irr] at this
    cases this
theorem sl_tri {a b : ByteArray} (h1 : sl a b = false) (h2 : a ≠ b) : sl b a = true := by
  unfold sl at *
  rw [bl_eq] at *
  refine decide_eq_true ?_
  have h := List.not_lt.1 (of_decide_eq_false h1)
  by_cases hlt : b.toList < a.toList
  · exact hlt
  · exact absurd (toL_inj (List.le_antisymm (List.not_lt.1 hlt) h)) h2
def SS (xs : List ByteArray) : Prop := xs.Pairwise fun a b => sl a b = true
theorem uniq : ∀ {xs ys : List ByteArray}, SS xs → SS ys → (∀ x, x ∈ xs ↔ x ∈ ys) → xs = ys
  | [], [], _, _, _ => rfl
  | [], y :: ys, _, _, h => by have := (h y).2 List.mem_cons_self; cases this
  | x :: xs, [], _, _, h => by have := (h x).1 List.mem_cons_self; cases this
  | x :: xs, y :: ys, h1, h2, h => by
    obtain ⟨a1, b1⟩ := List.pairwise_cons.1 h1
    obtain ⟨a2, b2⟩ := List.pairwise_cons.1 h2
    have e : x = y := by
      rcases List.mem_cons.1 ((h x).1 List.mem_cons_self) with e | e
      · exact e
      · rcases List.mem_cons.1 ((h y).2 List.mem_cons_self) with e2 | e2
        · exact e2.symm
        · have p := a2 x e
          have q := sl_as (a1 y e2)
          rw [p] at q
          cases q
    subst e
    have hx : x ∉ xs := fun hm => by have := a1 x hm; rw [sl_irr] at this; cases this
    have hy : x ∉ ys := fun hm => by have := a2 x hm; rw [sl_irr] at this; cases this
    rw [uniq b1 b2 fun z => ?_]
    constructor
    · intro hz
      rcases List.mem_cons.1 ((h z).1 (List.mem_cons_of_mem _ hz)) with rfl | hz2
      · exact absurd hz hx
      · exact hz2
    · intro hz
      rcases List.mem_cons.1 ((h z).2 (List.mem_cons_of_mem _ hz)) with rfl | hz2
      · exact absurd hz hy
      · exact hz2
/-- Where a name is put in. -/
def insP (s : ByteArray) : List ByteArray → Nat
  | [] => 0
  | x :: xs => if sl x s = true then insP s xs + 1 else 0
def insN (xs : List ByteArray) (s : ByteArray) : List ByteArray := if xs[insP s xs]? = some s then xs else xs.take (insP s xs) ++ [s] ++ xs.drop (insP s xs)
def insR (s : ByteArray) : List ByteArray → List ByteArray
  | [] => [s]
  | x :: xs => if sl x s = true then x :: insR s xs else if x = s then x :: xs else s :: x :: xs
theorem ins_eq (s : ByteArray) : ∀ xs, insN xs s = insR s xs
  | [] => by simp [insN, insP, insR]
  | x :: xs => by
    have ih := ins_eq s xs
    unfold insN at ih
    unfold insN insP insR
    by_cases h : sl x s = true
    · simp only [h, if_true, List.getElem?_cons_succ, List.take_succ_cons, List.drop_succ_cons]
      rw [← ih]
      split <;> rfl
    · simp only [h, Bool.false_eq_true, if_false, List.getElem?_cons_zero, Option.some.injEq, List.take_zero, List.drop_zero]
      rfl
theorem insR_mem (s y : ByteArray) : ∀ xs, y ∈ insR s xs ↔ y = s ∨ y ∈ xs
  | [] => by simp [insR]
  | x :: xs => by
    unfold insR
    split
    · rw [List.mem_cons, insR_mem s y xs, List.mem_cons]
      constructor
      · rintro (h | h | h) <;> simp [h]
      · rintro (h | h | h) <;> simp [h]
    · split
      · rename_i h
        subst h
        simp
      · simp
theorem insR_ss (s : ByteArray) : ∀ {xs}, SS xs → SS (insR s xs)
  | [], _ => by simp [insR, SS]
  | x :: xs, h => by
    obtain ⟨h1, h2⟩ := List.pairwise_cons.1 h
    unfold insR
    split
    · rename_i hx
      refine List.pairwise_cons.2 ⟨fun y hy => ?_, insR_ss s h2⟩
      rcases (insR_mem s y xs).1 hy with rfl | hy
      · exact hx
      · exact h1 y hy
    · rename_i hx
      split
      · exact h
      · rename_i hne
        have hsx := sl_tri (Bool.not_eq_true _ ▸ hx) hne
        refine List.pairwise_cons.2 ⟨fun y hy => ?_, h⟩
        rcases List.mem_cons.1 hy with rfl | hy
        · exact hsx
        · exact sl_tr hsx (h1 y hy)
theorem insR_len (s : ByteArray) : ∀ xs, (insR s xs).length ≤ xs.length + 1
  | [] => by simp [insR]
  | x :: xs => by
    have := insR_len s xs
    unfold insR
    split
    · simp only [List.length_cons]
      omega
    · split <;> simp
theorem insN_len (xs : List ByteArray) (s : ByteArray) : (insN xs s).length ≤ xs.length + 1 := by
  rw [ins_eq]
  exact insR_len s xs
def insAll (ns : List ByteArray) : List ByteArray := ns.foldl insN []
theorem insAll_snoc (ns : List ByteArray) (s : ByteArray) : insAll (ns ++ [s]) = insN (insAll ns) s := by simp [insAll]
theorem insAll_spec (ns : List ByteArray) : SS (insAll ns) ∧ ∀ x, x ∈ insAll ns ↔ x ∈ ns := by
  suffices H : ∀ (ns acc : List ByteArray), SS acc → SS (ns.foldl insN acc) ∧ ∀ x, x ∈ ns.foldl insN acc ↔ x ∈ acc ∨ x ∈ ns by
    have := H ns [] List.Pairwise.nil
    exact ⟨this.1, fun x => by rw [insAll, this.2]; simp⟩
  intro ns
  induction ns with
  | nil => intro acc h; exact ⟨h, fun x => by simp⟩
  | cons n ns ih =>
    intro acc h
    have h2 : SS (insN acc n) := by rw [ins_eq]; exact insR_ss n h
    obtain ⟨i1, i2⟩ := ih _ h2
    refine ⟨i1, fun x => ?_⟩
    rw [List.foldl_cons, i2, ins_eq, insR_mem, List.mem_cons]
    constructor
    · rintro ((h | h) | h) <;> simp [h]
    · rintro (h | h | h) <;> simp [h]
section
variable {d : Array (List UInt8)}
theorem cpt_spec (hs : ∀ i j, i ≤ j → j < d.size → d[i]! ≤ d[j]!) : ∀ m, m ≤ d.size →
    (Lib.compactUpTo d m).Pairwise (· < ·) ∧ (∀ x ∈ Lib.compactUpTo d m, 0 < m ∧ x ≤ d[m - 1]!) ∧ ∀ x, x ∈ Lib.compactUpTo d m ↔ ∃ j, j < m ∧ d[j]! = x
  | 0, _ => by
    refine ⟨?_, ?_, ?_⟩ <;> simp [Lib.compactUpTo]
  | m + 1, hm => by
    obtain ⟨h1, h2, h3⟩ := cpt_spec hs m (by omega)
    rw [Lib.compactUpTo_succ]
    cases hk : Lib.keeps d m
    · simp only [Bool.false_eq_true, if_false, List.append_nil]
      have hk2 := of_decide_eq_false hk
      have hm0 : m ≠ 0 := fun e => hk2 (.inl e)
      have heq : d[m]! = d[m - 1]! := Classical.byContradiction fun e => hk2 (.inr e)
      refine ⟨h1, fun x hx => ⟨by omega, ?_⟩, fun x => ?_⟩
      · rw [Nat.add_sub_cancel, heq]
        exact (h2 x hx).2
      · rw [h3]
        constructor
        · rintro ⟨j, hj, e⟩
          exact ⟨j, by omega, e⟩
        · rintro ⟨j, hj, e⟩
          rcases Nat.lt_or_ge j m with h | h
          · exact ⟨j, h, e⟩
          · have : j = m := by omega
            subst this
            exact ⟨j - 1, by omega, heq ▸ e⟩
    · simp only [if_true]
      have hk2 := of_decide_eq_true hk
      refine ⟨List.pairwise_append.2 ⟨h1, List.pairwise_singleton _ _, fun x hx y hy => ?_⟩, fun x hx => ⟨by omega, ?_⟩, fun x => ?_⟩
      · rw [List.mem_singleton.1 hy]
        obtain ⟨p0, p1⟩ := h2 x hx
        have hne : d[m]! ≠ d[m - 1]! := hk2.resolve_left (by omega)
        have hle : d[m - 1]! ≤ d[m]! := hs (m - 1) m (by omega) (by omega)
        have hlt : d[m - 1]! < d[m]! := by
          by_cases hlt : d[m - 1]! < d[m]!
          · exact hlt
          · exact absurd (List.le_antisymm (List.not_lt.1 hlt) hle) hne
        by_cases h : x < d[m]!
        · exact h
        · exact absurd (List.le_trans (List.not_lt.1 h) p1) (List.not_le.2 hlt)
      · rw [Nat.add_sub_cancel]
        rcases List.mem_append.1 hx with hx | hx
        · obtain ⟨p0, p1⟩ := h2 x hx
          exact List.le_trans p1 (hs (m - 1) m (by omega) (by omega))
        · rw [List.mem_singleton.1 hx]
          exact List.le_refl _
      · rw [List.mem_append, h3, List.mem_singleton]
        constructor
        · rintro (⟨j, hj, e⟩ | e)
          · exact ⟨j, by omega, e⟩
          · exact ⟨m, by omega, e.symm⟩
        · rintro ⟨j, hj, e⟩
          rcases Nat.lt_or_ge j m with h | h
          · exact .inl ⟨j, h, e⟩
          · have : j = m := by omega
            subst this
            exact .inr e.symm
end
theorem srt_spec (ns : List ByteArray) : SS (srtN ns) ∧ ∀ x, x ∈ srtN ns ↔ x ∈ ns := by
  have hp := List.pairwise_mergeSort (le := fun x y : List UInt8 => decide (x ≤ y)) (fun a b c h1 h2 => decide_eq_true (List.le_trans (of_decide_eq_true h1) (of_decide_eq_true h2))) (fun a b => by
    rcases List.le_total a b with h | h
    · simp [h]
    · simp [h]) (bytesOf ns)
  have hm : ∀ x, x ∈ (bytesOf ns).mergeSort (fun x y => decide (x ≤ y)) ↔ x ∈ bytesOf ns := fun x => List.mem_mergeSort
  unfold srtN sortB Lib.compact
  generalize (bytesOf ns).mergeSort (fun x y => decide (x ≤ y)) = M at *
  have hs : ∀ i j, i ≤ j → j < M.toArray.size → M.toArray[i]! ≤ M.toArray[j]! := by
    intro i j hij hj
    have hj' : j < M.length := by simpa using hj
    have hi' : i < M.length := by omega
    have e1 : M.toArray[i]! = M[i] := by simp [hi']
    have e2 : M.toArray[j]! = M[j] := by simp [hj']
    rw [e1, e2]
    rcases Nat.lt_or_ge i j with h | h
    · exact of_decide_eq_true (List.pairwise_iff_getElem.1 hp i j hi' hj' h)
    · have : i = j := by omega
      subst this
      exact List.le_refl _
  obtain ⟨h1, _, h3⟩ := cpt_spec hs M.length (by simp)
  refine ⟨?_, fun x => ?_⟩
  · refine List.pairwise_map.2 (List.Pairwise.imp (fun {a b} h => ?_) h1)
    unfold sl
    rw [bl_eq, toL_eq, toL_eq]
    exact decide_eq_true (by simpa using h)
  · rw [List.mem_map]
    constructor
    · rintro ⟨l, hl, rfl⟩
      obtain ⟨j, hj, rfl⟩ := (h3 l).1 hl
      have e1 : M.toArray[j]! = M[j] := by simp [hj]
      rw [e1]
      have := (hm M[j]).1 (List.getElem_mem hj)
      obtain ⟨y, hy, e⟩ := List.mem_map.1 this
      have e2 : (⟨M[j].toArray⟩ : ByteArray) = y := by rw [← e]
      rw [e2]
      exact hy
    · intro hx
      obtain ⟨j, hj, e⟩ := List.mem_iff_getElem.1 ((hm x.data.toList).2 (List.mem_map_of_mem hx))
      refine ⟨x.data.toList, (h3 _).2 ⟨j, hj, ?_⟩, rfl⟩
      have e1 : M.toArray[j]! = M[j] := by simp [hj]
      rw [e1]
      exact e
theorem all_srt (ns : List ByteArray) : insAll ns = srtN ns := by
  obtain ⟨a1, a2⟩ := insAll_spec ns
  obtain ⟨b1, b2⟩ := srt_spec ns
  exact uniq a1 b1 fun x => (a2 x).trans (b2 x).symm
end Go.Proofs.Ytmglgjchemecjaa.PIns
/- Contracts of the laws' helpers on Landmark: the copy, the comparison of equal data, the marks. Written by a program. -/
namespace Go.Proofs.Ytmglgjchemecjaa.CLandmarks
set_option maxRecDepth 200000
open Go.ChangeShapes Go.WideShapes Go.ChangeAt Go.RowKit Kit
theorem info : (Try.prog.info? 63).map (fun i => (i.zero, i.size, i.bytes)) = some (some (.agg #[.string ByteArray.empty, .int .i64 0]), 2, 24) := by kernel_rfl
abbrev D := ByteArray × Int
def landmarkC (r : D) : List Value := [.string r.1, .int .i64 r.2]
theorem landmarkC_len (r : D) : (landmarkC r).length = 2 := rfl
end Go.Proofs.Ytmglgjchemecjaa.CLandmarks
/- A region that draws its order, taken operation by operation: what only computes at once; loads under a condition on the world that all keep but those of T; those of T come up alone. -/
namespace Go.Proofs.Ytmglgjchemecjaa.Rv
set_option maxRecDepth 200000
open Go Reg
section
variable {P : Program} {ops : Array Oper} {Q : Exit → Act → World → Prop} {md : Region.Mode} {S : World → Prop} {T : Nat → Bool}
/-- Whatever order is picked from here on, and S stands over every operation that is carried out, but for those of T. -/
def wpAnyV (P : Program) (md : Region.Mode) (ops : Array Oper) (Q : Exit → Act → World → Prop) (S : World → Prop) (T : Nat → Bool) : Nat → Array Bool → Act → World → Prop
  | 0, listed, a, w => Region.ready md ops listed = [] ∧ Q .normal a w
  | fuel + 1, listed, a, w =>
    (Region.ready md ops listed = [] → Q .normal a w) ∧
    ∀ i ∈ Region.ready md ops listed, wpOp P ops Q i (fun a' w' => (T i = false → S w → S w') ∧ wpAnyV P md ops Q S T fuel (listed.setIfInBounds i true) a' w') a w
theorem wpAny_of_V : ∀ (fuel : Nat) (listed : Array Bool) (a : Act) (w : World), wpAnyV P md ops Q S T fuel listed a w → wpAny P md ops Q fuel listed a w
  | 0, _, _, _, h => h
  | fuel + 1, _, _, _, h => ⟨h.1, fun i hi => wpOp_mono (fun a' w' h' => wpAny_of_V fuel _ a' w' h'.2) (h.2 i hi)⟩
/-- All that waits for number i, directly or through others (n rounds). -/
def cl (md : Region.Mode) (ops : Array Oper) (listed : Array Bool) (i : Nat) : Nat → List Nat
  | 0 => (List.range ops.size).filter fun j => !listed.getD j true && (match ops[j]? with | some o => waits md o i | none => false)
  | n + 1 => (List.range ops.size).filter fun j => !listed.getD j true && (match ops[j]? with | some o => waits md o i || o.after.any (fun e => Region.binds md e && (cl md ops listed i n).contains e.on) | none => false)
/-- No member of C is taken while number i is not. -/
def closedB (md : Region.Mode) (ops : Array Oper) (listed : Array Bool) (i : Nat) (C : List Nat) (T : Nat → Bool) : Bool :=
  (C.all fun j => j != i && !listed.getD j true && (match ops[j]? with | some o => waits md o i || o.after.any (fun e => Region.binds md e && C.contains e.on) | none => false)) &&
  (List.range ops.size).all fun j => !T j || j == i || C.contains j
theorem closed_spec {i : Nat} {listed : Array Bool} {C : List Nat} (h : closedB md ops listed i C T = true) :
    (∀ j ∈ C, j ≠ i ∧ listed.getD j true = false ∧ ∃ o, ops[j]? = some o ∧ ∃ e ∈ o.after, Region.binds md e = true ∧ (e.on = i ∨ e.on ∈ C)) ∧ (∀ (j : Nat) (o : Oper), ops[j]? = some o → T j = true → j ≠ i → j ∈ C) := by
  unfold closedB at h
  rw [Bool.and_eq_true] at h
  obtain ⟨h1, h2⟩ := h
  refine ⟨fun j hj => ?_, fun j o ho ht hne => ?_⟩
  · have := List.all_eq_true.1 h1 j hj
    simp only [Bool.and_eq_true, bne_iff_ne, ne_eq, Bool.not_eq_true'] at this
    obtain ⟨⟨a, b⟩, c⟩ := this
    refine ⟨a, b, ?_⟩
    split at c
    · rename_i o ho
      refine ⟨o, ho, ?_⟩
      rcases Bool.or_eq_true_iff.1 c with c | c
      · unfold waits at c
        rw [Array.any_eq_true] at c
        obtain ⟨k, hk, he⟩ := c
        simp only [Bool.and_eq_true, beq_iff_eq] at he
        exact ⟨_, Array.getElem_mem hk, he.1, .inl he.2⟩
      · rw [Array.any_eq_true] at c
        obtain ⟨k, hk, he⟩ := c
        simp only [Bool.and_eq_true, List.contains_iff_mem] at he
        exact ⟨_, Array.getElem_mem hk, he.1, .inr he.2⟩
    · cases c
  · have hj : j < ops.size := (Array.getElem?_eq_some_iff.1 ho).1
    have := List.all_eq_true.1 h2 j (List.mem_range.2 hj)
    simp only [Bool.or_eq_true, Bool.not_eq_true', beq_iff_eq, List.contains_iff_mem] at this
    rcases this with (this | this) | this
    · rw [ht] at this
      cases this
    · exact absurd this hne
    · exact this
theorem first {i : Nat} {oi : Oper} {v : Value} {C : List Nat} {R : World → Prop} (hi : ops[i]? = some oi) (hsel : ∀ (j : Nat) (o : Oper) cs b, ops[j]? = some o → o.op ≠ .select cs b)
    (hQ : ∀ c a w, Q (.panic c) (a.put oi.dst v) w → Q (.panic c) a w) (hR : (∀ w, R w) ∨ ((∀ w, R w ↔ S w) ∧ ∀ (j : Nat) (o : Oper), ops[j]? = some o → T j = true → j ≠ i → j ∈ C)) :
    ∀ (fuel : Nat) (listed : Array Bool) (a : Act) (w : World),
      (∀ j ∈ C, j ≠ i ∧ listed.getD j true = false ∧ ∃ o, ops[j]? = some o ∧ ∃ e ∈ o.after, Region.binds md e = true ∧ (e.on = i ∨ e.on ∈ C)) →
      (∀ j oj, ops[j]? = some oj → j ≠ i → listed.getD j true = false → (∀ e ∈ oj.after, Region.binds md e = true → e.on ≠ i) → oi.apart ops oj = true) →
      i ∈ Region.ready md ops listed → YieldsIf P ops R oi v a → R w →
      wpAnyV P md ops Q S T fuel (listed.setIfInBounds i true) (a.put oi.dst v) w → wpAnyV P md ops Q S T (fuel + 1) listed a w := by
  intro fuel
  induction fuel with
  | zero =>
    intro listed a w _ _ hr hy hS H
    refine ⟨fun h => (by rw [h] at hr; cases hr), fun j hj => ?_⟩
    by_cases hji : j = i
    · subst hji
      exact hy.wpOp hi hS ⟨fun _ h => h, H⟩
    · have := ready_mono hj hji
      rw [H.1] at this
      cases this
  | succ fuel ih =>
    intro listed a w hC hfree hr hy hS H
    refine ⟨fun h => (by rw [h] at hr; cases hr), fun j hj => ?_⟩
    by_cases hji : j = i
    · subst hji
      exact hy.wpOp hi hS ⟨fun _ h => h, H⟩
    · have h1 := H.2 j (ready_mono hj hji)
      obtain ⟨hjun, oj, hoj, hall⟩ := mem_ready.1 hj
      have hun : ∀ k, listed.getD k true = false → ∀ e ∈ oj.after, Region.binds md e = true → e.on ≠ k := fun k h0 e he hb heq => by
        have h1 := hall e he hb
        rw [heq] at h1
        rcases Nat.lt_or_ge k listed.size with h' | h'
        · simp [h'] at h0 h1
          rw [h0] at h1
          cases h1
        · simp [Array.getElem?_eq_none h'] at h1
      have hnot : ∀ e ∈ oj.after, Region.binds md e = true → e.on ≠ i := hun i (mem_ready.1 hr).1
      have hjC : j ∉ C := fun hjc => by
        obtain ⟨_, _, o, ho, e, he, hb, hor⟩ := hC j hjc
        rw [hoj] at ho
        injection ho with ho
        subst ho
        rcases hor with hor | hor
        · exact hnot e he hb hor
        · exact hun _ (hC _ hor).2.1 e he hb rfl
      have h2 := wpOp_putIf hoj (hfree j oj hoj hji hjun hnot) (fun cs b => hsel i oi cs b hi) (fun cs b => hsel j oj cs b hoj) hQ hy h1
      have hfree' : ∀ k ok, ops[k]? = some ok → k ≠ i → (listed.setIfInBounds j true).getD k true = false →
          (∀ e ∈ ok.after, Region.binds md e = true → e.on ≠ i) → oi.apart ops ok = true := fun k ok hk hki hun hno => by
        refine hfree k ok hk hki ?_ hno
        by_cases hjk : j = k
        · subst hjk
          exact hjun
        · rw [getD_set_ne true hjk] at hun
          exact hun
      have hC' : ∀ k ∈ C, k ≠ i ∧ (listed.setIfInBounds j true).getD k true = false ∧ ∃ o, ops[k]? = some o ∧ ∃ e ∈ o.after, Region.binds md e = true ∧ (e.on = i ∨ e.on ∈ C) := fun k hk => by
        obtain ⟨a1, a2, a3⟩ := hC k hk
        refine ⟨a1, ?_, a3⟩
        have hjk : j ≠ k := by
          rintro rfl
          exact hjC hk
        rw [getD_set_ne true hjk]
        exact a2
      have hRk : ∀ w', (T j = false → S w → S w') → R w' := fun w' hk => by
        rcases hR with hR | ⟨hR, hT⟩
        · exact hR w'
        · have hTj : T j = false := by
            cases hT' : T j
            · rfl
            · exact absurd (hT j oj hoj hT' hji) hjC
          exact (hR w').2 (hk hTj ((hR w).1 hS))
      refine wpOp_mono (fun a' w' h3 => ⟨h3.2.1, ih (listed.setIfInBounds j true) a' w' hC' hfree' (ready_mono hr (Ne.symm hji)) h3.1 (hRk w' h3.2.1) ?_⟩) h2
      rw [Array.setIfInBounds_comm _ _ hji]
      exact h3.2.2
/-- A load (what reads the world): take it first, under S. -/
theorem take {i : Nat} {oi : Oper} {v : Value} {fuel : Nat} {listed : Array Bool} {a : Act} {w : World} (hi : ops[i]? = some oi)
    (hs : Region.noSelect ops = true) (hf : Region.free md ops listed i = true) (hr : (Region.ready md ops listed).contains i = true) (hT : closedB md ops listed i (cl md ops listed i 3) T = true)
    (hQ : ∀ c a w, Q (.panic c) (a.put oi.dst v) w → Q (.panic c) a w) (hy : YieldsIf P ops S oi v a) (hS : S w)
    (h : wpAnyV P md ops Q S T fuel (listed.setIfInBounds i true) (a.put oi.dst v) w) : wpAnyV P md ops Q S T (fuel + 1) listed a w :=
  first (R := S) hi (Region.noSelect_spec hs) hQ (.inr ⟨fun _ => Iff.rfl, (closed_spec hT).2⟩) fuel listed a w (closed_spec hT).1 (Region.free_spec hi hf) (by simpa using hr) hy hS h
/-- What only computes: take it first. -/
theorem comp {i : Nat} {oi : Oper} {v : Value} {fuel : Nat} {listed : Array Bool} {a : Act} {w : World} (hi : ops[i]? = some oi)
    (hs : Region.noSelect ops = true) (hf : Region.free md ops listed i = true) (hr : (Region.ready md ops listed).contains i = true)
    (hQ : ∀ c a w, Q (.panic c) (a.put oi.dst v) w → Q (.panic c) a w) (hy : YieldsIf P ops (fun _ => True) oi v a)
    (h : wpAnyV P md ops Q S T fuel (listed.setIfInBounds i true) (a.put oi.dst v) w) : wpAnyV P md ops Q S T (fuel + 1) listed a w :=
  first (R := fun _ => True) (C := []) hi (Region.noSelect_spec hs) hQ (.inl fun _ => trivial) fuel listed a w (fun _ h => by cases h) (Region.free_spec hi hf) (by simpa using hr) hy trivial h
/-- One alone may come up, and it is none of T: S is shown anew behind it. -/
theorem one {i : Nat} {o : Oper} {fuel : Nat} {listed : Array Bool} {a : Act} {w : World} (ho : ops[i]? = some o) (hr : Region.ready md ops listed = [i])
    (h : ∀ K : Act → World → Prop, Shut (∀ a w, S w → wpAnyV P md ops Q S T fuel (listed.setIfInBounds i true) a w → K a w) → if Region.wanted o (yielded ops a.tmps) = true then Oper.wp P o a w K Q else K (a.put o.dst undef) w) :
    wpAnyV P md ops Q S T (fuel + 1) listed a w :=
  ⟨fun h0 => (by rw [hr] at h0; cases h0), fun j hj => by
    rw [hr] at hj
    simp only [List.mem_singleton] at hj
    subst hj
    exact wpOp_step ho (fun K' hK => h K' (fun a w hS hW => hK a w ⟨fun _ _ => hS, hW⟩))⟩
/-- One of T comes up alone. -/
theorem last {i : Nat} {o : Oper} {fuel : Nat} {listed : Array Bool} {a : Act} {w : World} (ho : ops[i]? = some o) (hr : Region.ready md ops listed = [i]) (hT : T i = true)
    (h : ∀ K : Act → World → Prop, Shut (∀ a w, wpAnyV P md ops Q S T fuel (listed.setIfInBounds i true) a w → K a w) → if Region.wanted o (yielded ops a.tmps) = true then Oper.wp P o a w K Q else K (a.put o.dst undef) w) :
    wpAnyV P md ops Q S T (fuel + 1) listed a w :=
  ⟨fun h0 => (by rw [hr] at h0; cases h0), fun j hj => by
    rw [hr] at hj
    simp only [List.mem_singleton] at hj
    subst hj
    exact wpOp_step ho (fun K' hK => h K' (fun a w hW => hK a w ⟨fun hF => (by rw [hT] at hF; cases hF), hW⟩))⟩
/-- Two may come up, neither of T: the one or the other is carried out. -/
theorem two {i j : Nat} {oi oj : Oper} {fuel : Nat} {listed : Array Bool} {a : Act} {w : World} (hoi : ops[i]? = some oi) (hoj : ops[j]? = some oj) (hr : Region.ready md ops listed = [i, j])
    (h : ∀ K : Act → World → Prop, Shut (∀ a w, S w → wpAnyV P md ops Q S T fuel (listed.setIfInBounds i true) a w → K a w) → if Region.wanted oi (yielded ops a.tmps) = true then Oper.wp P oi a w K Q else K (a.put oi.dst undef) w)
    (h' : ∀ K : Act → World → Prop, Shut (∀ a w, S w → wpAnyV P md ops Q S T fuel (listed.setIfInBounds j true) a w → K a w) → if Region.wanted oj (yielded ops a.tmps) = true then Oper.wp P oj a w K Q else K (a.put oj.dst undef) w) :
    wpAnyV P md ops Q S T (fuel + 1) listed a w :=
  ⟨fun h0 => (by rw [hr] at h0; cases h0), fun k hk => by
    rw [hr] at hk
    simp only [List.mem_cons, List.not_mem_nil, or_false] at hk
    rcases hk with rfl | rfl
    · exact wpOp_step hoi (fun K' hK => h K' (fun a w hS hW => hK a w ⟨fun _ _ => hS, hW⟩))
    · exact wpOp_step hoj (fun K' hK => h' K' (fun a w hS hW => hK a w ⟨fun _ _ => hS, hW⟩))⟩
theorem done {listed : Array Bool} {a : Act} {w : World} (hr : Region.ready md ops listed = []) (h : Q .normal a w) : ∀ fuel, wpAnyV P md ops Q S T fuel listed a w
  | 0 => ⟨hr, h⟩
  | _ + 1 => ⟨fun _ => h, by rw [hr]; simp⟩
/-- The beginning. -/
theorem start {id : Nat} {a : Act} {w : World} (S : World → Prop) (T : Nat → Bool) (hm : P.follows .mixedOrders = true)
    (h : wpAnyV P .any ops Q S T ops.size (Array.replicate ops.size false) a w.drew) : (Code.region id ops true).wp P Q a w :=
  wp_region_any hm (wpAny_of_V _ _ _ _ h)
end
end Go.Proofs.Ytmglgjchemecjaa.Rv
/- NameTable and tableOf; the program's. -/
namespace Go.Proofs.Ytmglgjchemecjaa.CTable
set_option maxRecDepth 200000
open Go.ChangeShapes Go.WideShapes Go.ChangeAt Go.RowKit Kit CCode CName CFixups CSymbols PObj BObj CGlobalOf BStore BList PLink CSorted CNames CNameTab
end Go.Proofs.Ytmglgjchemecjaa.CTable
/- l2Insert: the reference's putting of a name into sorted names. -/
namespace Go.Proofs.Ytmglgjchemecjaa.CInsS
set_option maxRecDepth 200000
open Go.ChangeShapes Go.WideShapes Go.ChangeAt Go.RowKit Kit CCode CFixups CSymbols PObj BObj CMarkRows CGlobalOf BStore BList PSort PLink CSorted CNames CNameTab CTable PIns
theorem one_nm (l : List ByteArray) : ∀ u ∈ nmC l, u.oneCell' = true := fun u hu => by
  obtain ⟨x, _, rfl⟩ := List.mem_map.1 hu
  rfl
theorem insP_go {s : ByteArray} {xs : List ByteArray} {k : Nat} (hk : k < xs.length) (h : insP s xs = k + insP s (xs.drop k)) (hl : sl xs[k] s = true) : insP s xs = k + 1 + insP s (xs.drop (k + 1)) := by
  rw [List.drop_eq_getElem_cons hk, insP, if_pos hl] at h
  omega
theorem insP_stop {s : ByteArray} {xs : List ByteArray} {k : Nat} (hk : k < xs.length) (h : insP s xs = k + insP s (xs.drop k)) (hl : sl xs[k] s = false) : insP s xs = k := by
  rw [List.drop_eq_getElem_cons hk, insP, if_neg (by rw [hl]; decide)] at h
  omega
theorem rd_tail1 {w : World} {B ga k c j : Nat} {xs : List Value} (h : Rd w B (some ⟨ga, 0, none⟩) xs) (hl : xs.length = k) (hk : k ≤ c) :
    Rd w B (if c = j then some ⟨ga, 0, none⟩ else some ⟨ga, j, none⟩) (xs.drop j) := by
  split
  · have : xs.drop j = [] := List.drop_of_length_le (by omega)
    rw [this]
    exact Rd.nil _
  · intro i u hi
    rw [List.getElem?_drop] at hi
    obtain ⟨b, off, e, hb, hc⟩ := h (j + i) u hi
    simp only [Option.some.injEq, Addr.mk.injEq, and_true] at e
    obtain ⟨rfl, rfl⟩ := e
    exact ⟨_, j, rfl, hb, by rw [Nat.zero_add] at hc; exact hc⟩
/-- What is handed back: the names' row, old or new. -/
def RetL (base : Nat) (ys : List ByteArray) (w : World) (e : Ending) (w' : World) : Prop := ∃ g c, e = .returned (.slice (some ⟨g, 0, none⟩) ys.length c) ∧ Row w' base 9 1 (some ⟨g, 0, none⟩) ys.length c (nmC ys) ∧ Below w.heap.size w w'
set_option maxHeartbeats 4000000 in
theorem l2Insert_any (ga : Nat) (xs : List ByteArray) (s : ByteArray) (c base : Nat) (w : World) (h : Row w base 9 1 (some ⟨ga, 0, none⟩) xs.length c (nmC xs)) (hbase : base ≤ w.heap.size) (hm : xs.length ≤ 1000) :
    Calls Try.prog 101 #[.slice (some ⟨ga, 0, none⟩) xs.length c, .string s] w (RetL base (insN xs s) w) := by
  obtain ⟨i0, hi1, hi2, hi3, hi4⟩ := info_parts infoStr
  have HI := hide (And.intro hi1 (And.intro hi2 (And.intro hi3 hi4)))
  clear hi1 hi2 hi3 hi4
  have HR := hide h
  clear h
  have hkc := HR.out.cap.1
  go_enter Try.func101, Try.ntmps101
  go_wp2_with fail
  go_loopw [5] (fun i wi => ∃ k : Nat, k ≤ xs.length ∧ i = .int .i64 k ∧ insP s xs = k + insP s (xs.drop k) ∧ wi = w) (fun i _ => xs.length - (intOf i).toNat)
  case atStart => exact ⟨0, Nat.zero_le _, rfl, by simp, rfl⟩
  case round =>
    obtain ⟨k, hk, rfl, hp, rfl⟩ := hrel
    have HP := hide hp
    clear hp
    by_cases hlt : k < xs.length
    · obtain ⟨b, off, hA, _, hc⟩ := HR.out.rd k (.string xs[k]) (by simp [nmC, List.getElem?_eq_getElem hlt])
      simp only [Option.some.injEq, Addr.mk.injEq, and_true] at hA
      obtain ⟨rfl, rfl⟩ := hA
      rw [Nat.zero_add] at hc
      have HGO := hide (fun h => insP_go hlt HP.out h)
      have HSTOP := hide (fun h => insP_stop hlt HP.out h)
      have HXK := hide (show xs[k]? = some xs[k] from List.getElem?_eq_getElem hlt)
      clear HP
      generalize xs[k] = x at *
      cases hl : sl x s
      · have HI2 := hide (HSTOP.out hl)
        have hl2 : Op.bytesLess x.toList s.toList = false := hl
        clear HGO HSTOP hl
        cases he : (x.toList == s.toList)
        · have HST := hide (show insN xs s = xs.take k ++ [s] ++ xs.drop k from by
            unfold insN
            rw [HI2.out, HXK.out, if_neg]
            intro e
            have e2 := Option.some.inj e
            rw [str_eq, e2] at he
            simp at he)
          clear HXK HI2
          go_wp2_with fail
          clear hl2 he hc hlt
          have HLK := hide (show (xs.take k).length = k ∧ (xs.drop k).length = xs.length - k from ⟨by rw [List.length_take]; omega, by rw [List.length_drop]⟩)
          have HP1 := hide (fun V (hV : Below wr.heap.size wr V) => (show Rd V V.heap.size (some ⟨ga, 0, none⟩) (nmC (xs.take k)) from by
            have h := ((HR.out.prefix hk).rd.below hV).more hV.size
            rw [Nat.mul_one] at h
            simpa only [nmC, List.map_take] using h))
          have HP2 := hide (fun V (hV : Below wr.heap.size wr V) => (show Rd V V.heap.size (if c = k then some ⟨ga, 0, none⟩ else some ⟨ga, k, none⟩) (nmC (xs.drop k)) from by
            have h := rd_tail1 (j := k) ((HR.out.rd.below hV).more hV.size) (by simp [nmC]) hkc
            simpa only [nmC, List.map_drop] using h))
          have HA2 := hide (show (if c = k then some (⟨ga, 0, none⟩ : Addr) else some ⟨ga, k, none⟩) = none → c - k = 0 from fun h => by split at h <;> cases h)
          have hkn : k ≤ c := by omega
          generalize hnl : xs.length = n at *
          have HNL := hide hnl
          clear hnl
          refine Rv.start (fun _ => True) (fun _ => false) (by kernel_rfl) ?_
          have hHeld : True := trivial
          refine Rv.comp (i := 1) (v := ?_) rfl (by kernel_rfl) (by kernel_rfl) (by kernel_rfl) (fun _ _ _ h => h) (Or.inl ⟨by rfl, ?_⟩) ?_
          rotate_left 1
          focus (intro w hSw; (try dsimp only at hSw); go_simp; (try with_reducible rfl))
          try simp only [List.getElem_toArray, List.getElem_cons_succ, List.getElem_cons_zero, Act.put, List.setIfInBounds_toArray, List.set_cons_zero, List.set_cons_succ]
          refine Rv.comp (i := 2) (v := ?_) rfl (by kernel_rfl) (by kernel_rfl) (by kernel_rfl) (fun _ _ _ h => h) (Or.inl ⟨by rfl, ?_⟩) ?_
          rotate_left 1
          focus (intro w hSw; (try dsimp only at hSw); go_simp; (try with_reducible rfl))
          try simp only [List.getElem_toArray, List.getElem_cons_succ, List.getElem_cons_zero, Act.put, List.setIfInBounds_toArray, List.set_cons_zero, List.set_cons_succ]
          refine Rv.comp (i := 3) (v := ?_) rfl (by kernel_rfl) (by kernel_rfl) (by kernel_rfl) (fun _ _ _ h => h) (Or.inl ⟨by rfl, ?_⟩) ?_
          rotate_left 1
          focus (intro w hSw; (try dsimp only at hSw); go_simp; (try with_reducible rfl))
          try simp only [List.getElem_toArray, List.getElem_cons_succ, List.getElem_cons_zero, Act.put, List.setIfInBounds_toArray, List.set_cons_zero, List.set_cons_succ]
          refine Rv.comp (i := 5) (v := ?_) rfl (by kernel_rfl) (by kernel_rfl) (by kernel_rfl) (fun _ _ _ h => h) (Or.inl ⟨by rfl, ?_⟩) ?_
          rotate_left 1
          focus (intro w hSw; (try dsimp only at hSw); go_simp; (try with_reducible rfl))
          try simp only [List.getElem_toArray, List.getElem_cons_succ, List.getElem_cons_zero, Act.put, List.setIfInBounds_toArray, List.set_cons_zero, List.set_cons_succ]
          refine Rv.comp (i := 8) (v := ?_) rfl (by kernel_rfl) (by kernel_rfl) (by kernel_rfl) (fun _ _ _ h => h) (Or.inl ⟨by rfl, ?_⟩) ?_
          rotate_left 1
          focus (intro w hSw; (try dsimp only at hSw); go_simp; (try with_reducible rfl))
          try simp only [List.getElem_toArray, List.getElem_cons_succ, List.getElem_cons_zero, Act.put, List.setIfInBounds_toArray, List.set_cons_zero, List.set_cons_succ]
          refine Rv.comp (i := 9) (v := ?_) rfl (by kernel_rfl) (by kernel_rfl) (by kernel_rfl) (fun _ _ _ h => h) (Or.inl ⟨by rfl, ?_⟩) ?_
          rotate_left 1
          focus (intro w hSw; (try dsimp only at hSw); go_simp; (try with_reducible rfl))
          try simp only [List.getElem_toArray, List.getElem_cons_succ, List.getElem_cons_zero, Act.put, List.setIfInBounds_toArray, List.set_cons_zero, List.set_cons_succ]
          refine Rv.comp (i := 10) (v := ?_) rfl (by kernel_rfl) (by kernel_rfl) (by kernel_rfl) (fun _ _ _ h => h) (Or.inl ⟨by rfl, ?_⟩) ?_
          rotate_left 1
          focus (intro w hSw; (try dsimp only at hSw); go_simp; (try with_reducible rfl))
          try simp only [List.getElem_toArray, List.getElem_cons_succ, List.getElem_cons_zero, Act.put, List.setIfInBounds_toArray, List.set_cons_zero, List.set_cons_succ]
          generalize (if c = k then some (⟨ga, 0, none⟩ : Addr) else some ⟨ga, k, none⟩) = A2 at *
          refine Rv.two (i := 0) (j := 6) rfl rfl (by kernel_rfl) (fun K hK => ?p0) (fun K hK => ?p6)
          case' p0 =>
            go_simp
            refine hK.out _ _ hHeld ?_
            clear hK K
            try simp only [List.getElem_toArray, List.getElem_cons_succ, List.getElem_cons_zero, Act.put, List.setIfInBounds_toArray, List.set_cons_zero, List.set_cons_succ]
            refine Rv.two (i := 4) (j := 6) rfl rfl (by kernel_rfl) (fun K hK => ?q4) (fun K hK => ?q6)
          case' q4 =>
            refine step_app (by rfl) _ _ 64 rfl 9 i0 (.string ByteArray.empty) 1 16 Try.underlying64 HI.out.1 HI.out.2.1 HI.out.2.2.1 HI.out.2.2.2 rfl (by decide) wr.heap.size _ 0 0 [] (by rfl) (Row.empty _ _ _ _ _) (Below.size (B := wr.heap.size) (by (repeat (first | with_reducible assumption | with_reducible exact Below.refl _ _ | with_reducible apply below_al | with_reducible apply below_dr | with_reducible apply below_dn)); done)) (some ⟨ga, 0, none⟩) k c (nmC (xs.take k)) (by rfl) (HP1.out _ (by (repeat (first | with_reducible assumption | with_reducible exact Below.refl _ _ | with_reducible apply below_al | with_reducible apply below_dr | with_reducible apply below_dn)); done)) (by rw [nmC, List.length_map, HLK.out.1, Nat.mul_one]) (fun h => by cases h) (one_nm _) (by unfold maxLen; omega) (by omega) ?_
            intro A5 n5 c5 w5 hn5 o5 g5 k5
            have hn5' : n5 = k := by omega
            clear hn5
            subst hn5'
            have HA5 := hide (show Row w5 wr.heap.size 9 1 A5 n5 c5 (nmC (xs.take n5)) from by simpa using o5)
            have HWX := hide (show Below wr.heap.size wr w5 from below_tr (by (repeat (first | with_reducible assumption | with_reducible exact Below.refl _ _ | with_reducible apply below_al | with_reducible apply below_dr | with_reducible apply below_dn)); done) g5)
            clear o5 g5 k5
            refine hK.out _ _ hHeld ?_
            clear hK K
            try simp only [List.getElem_toArray, List.getElem_cons_succ, List.getElem_cons_zero, Act.put, List.setIfInBounds_toArray, List.set_cons_zero, List.set_cons_succ]
            refine Rv.one (i := 6) rfl (by kernel_rfl) (fun K hK => ?_)
            go_simp
            refine hK.out _ _ hHeld ?_
            clear hK K
            try simp only [List.getElem_toArray, List.getElem_cons_succ, List.getElem_cons_zero, Act.put, List.setIfInBounds_toArray, List.set_cons_zero, List.set_cons_succ]
            have HNC := hide (show (w5.alloc (.cells #[.string s] 9)).cell? ⟨w5.heap.size, 0, none⟩ = some (.string s) ∧ w5.heap.size < (w5.alloc (.cells #[.string s] 9)).heap.size from ⟨(Box.new w5 9 #[.string s]).cell 0, (Box.new w5 9 #[.string s]).lt⟩)
            have B6 : Below w5.heap.size w5 (w5.alloc (.cells #[.string s] 9)) := (by repeat (first | exact Below.refl _ _ | with_reducible assumption | (refine Below.drew ?_) | (refine Below.drewN ?_ _) | (refine Below.alloc ?_ (by simp; try omega) _) | (refine Below.setCell ?_ (by simp; try omega) _)))
            replace HWX := hide (HWX.out.trans (B6.mono HWX.out.size))
            replace HA5 := hide (HA5.out.call B6)
            clear B6
            generalize w5.alloc (.cells #[.string s] 9) = wX at *
            generalize w5.heap.size = N at *
          case' q6 =>
            go_simp
            refine hK.out _ _ hHeld ?_
            clear hK K
            try simp only [List.getElem_toArray, List.getElem_cons_succ, List.getElem_cons_zero, Act.put, List.setIfInBounds_toArray, List.set_cons_zero, List.set_cons_succ]
            have HNN := hide (show ((wr.alloc (.cells #[] 9)).alloc (.cells #[.string s] 9)).drew.cell? ⟨wr.heap.size + 1, 0, none⟩ = some (.string s) ∧ wr.heap.size + 1 < ((wr.alloc (.cells #[] 9)).alloc (.cells #[.string s] 9)).drew.heap.size from by
              have h := Box.new (wr.alloc (.cells #[] 9)) 9 #[.string s]
              rw [World.size_alloc] at h
              exact ⟨h.cell 0, h.lt⟩)
            refine Rv.one (i := 4) rfl (by kernel_rfl) (fun K hK => ?_)
            refine step_app (by rfl) _ _ 64 rfl 9 i0 (.string ByteArray.empty) 1 16 Try.underlying64 HI.out.1 HI.out.2.1 HI.out.2.2.1 HI.out.2.2.2 rfl (by decide) wr.heap.size _ 0 0 [] (by rfl) (Row.empty _ _ _ _ _) (Below.size (B := wr.heap.size) (by (repeat (first | with_reducible assumption | with_reducible exact Below.refl _ _ | with_reducible apply below_al | with_reducible apply below_dr | with_reducible apply below_dn)); done)) (some ⟨ga, 0, none⟩) k c (nmC (xs.take k)) (by rfl) (HP1.out _ (by (repeat (first | with_reducible assumption | with_reducible exact Below.refl _ _ | with_reducible apply below_al | with_reducible apply below_dr | with_reducible apply below_dn)); done)) (by rw [nmC, List.length_map, HLK.out.1, Nat.mul_one]) (fun h => by cases h) (one_nm _) (by unfold maxLen; omega) (by omega) ?_
            intro A5 n5 c5 wX hn5 o5 g5 k5
            have hn5' : n5 = k := by omega
            clear hn5
            subst hn5'
            have HA5 := hide (show Row wX wr.heap.size 9 1 A5 n5 c5 (nmC (xs.take n5)) from by simpa using o5)
            have HWX := hide (show Below wr.heap.size wr wX from below_tr (by (repeat (first | with_reducible assumption | with_reducible exact Below.refl _ _ | with_reducible apply below_al | with_reducible apply below_dr | with_reducible apply below_dn)); done) g5)
            have HNC := hide (show wX.cell? ⟨wr.heap.size + 1, 0, none⟩ = some (.string s) ∧ wr.heap.size + 1 < wX.heap.size from ⟨((below_tr (Below.refl _ _) g5).cell (p := ⟨wr.heap.size + 1, 0, none⟩) HNN.out.2).trans HNN.out.1, Nat.lt_of_lt_of_le HNN.out.2 g5.size⟩)
            clear o5 g5 k5 HNN
            refine hK.out _ _ hHeld ?_
            clear hK K
            try simp only [List.getElem_toArray, List.getElem_cons_succ, List.getElem_cons_zero, Act.put, List.setIfInBounds_toArray, List.set_cons_zero, List.set_cons_succ]
            generalize wr.heap.size + 1 = N at *
          case' p6 =>
            go_simp
            refine hK.out _ _ hHeld ?_
            clear hK K
            try simp only [List.getElem_toArray, List.getElem_cons_succ, List.getElem_cons_zero, Act.put, List.setIfInBounds_toArray, List.set_cons_zero, List.set_cons_succ]
            refine Rv.one (i := 0) rfl (by kernel_rfl) (fun K hK => ?_)
            go_simp
            refine hK.out _ _ hHeld ?_
            clear hK K
            try simp only [List.getElem_toArray, List.getElem_cons_succ, List.getElem_cons_zero, Act.put, List.setIfInBounds_toArray, List.set_cons_zero, List.set_cons_succ]
            have HNN := hide (show ((wr.alloc (.cells #[.string s] 9)).alloc (.cells #[] 9)).drew.cell? ⟨wr.heap.size, 0, none⟩ = some (.string s) ∧ wr.heap.size < ((wr.alloc (.cells #[.string s] 9)).alloc (.cells #[] 9)).drew.heap.size from by
              have h := (Box.new wr 9 #[.string s]).alloc (.cells #[] 9)
              exact ⟨h.cell 0, h.lt⟩)
            refine Rv.one (i := 4) rfl (by kernel_rfl) (fun K hK => ?_)
            refine step_app (by rfl) _ _ 64 rfl 9 i0 (.string ByteArray.empty) 1 16 Try.underlying64 HI.out.1 HI.out.2.1 HI.out.2.2.1 HI.out.2.2.2 rfl (by decide) wr.heap.size _ 0 0 [] (by rfl) (Row.empty _ _ _ _ _) (Below.size (B := wr.heap.size) (by (repeat (first | with_reducible assumption | with_reducible exact Below.refl _ _ | with_reducible apply below_al | with_reducible apply below_dr | with_reducible apply below_dn)); done)) (some ⟨ga, 0, none⟩) k c (nmC (xs.take k)) (by rfl) (HP1.out _ (by (repeat (first | with_reducible assumption | with_reducible exact Below.refl _ _ | with_reducible apply below_al | with_reducible apply below_dr | with_reducible apply below_dn)); done)) (by rw [nmC, List.length_map, HLK.out.1, Nat.mul_one]) (fun h => by cases h) (one_nm _) (by unfold maxLen; omega) (by omega) ?_
            intro A5 n5 c5 wX hn5 o5 g5 k5
            have hn5' : n5 = k := by omega
            clear hn5
            subst hn5'
            have HA5 := hide (show Row wX wr.heap.size 9 1 A5 n5 c5 (nmC (xs.take n5)) from by simpa using o5)
            have HWX := hide (show Below wr.heap.size wr wX from below_tr (by (repeat (first | with_reducible assumption | with_reducible exact Below.refl _ _ | with_reducible apply below_al | with_reducible apply below_dr | with_reducible apply below_dn)); done) g5)
            have HNC := hide (show wX.cell? ⟨wr.heap.size, 0, none⟩ = some (.string s) ∧ wr.heap.size < wX.heap.size from ⟨((below_tr (Below.refl _ _) g5).cell (p := ⟨wr.heap.size, 0, none⟩) HNN.out.2).trans HNN.out.1, Nat.lt_of_lt_of_le HNN.out.2 g5.size⟩)
            clear o5 g5 k5 HNN
            refine hK.out _ _ hHeld ?_
            clear hK K
            try simp only [List.getElem_toArray, List.getElem_cons_succ, List.getElem_cons_zero, Act.put, List.setIfInBounds_toArray, List.set_cons_zero, List.set_cons_succ]
            generalize hN : wr.heap.size = N at HNC ⊢
          all_goals
            refine Rv.one (i := 7) rfl (by kernel_rfl) (fun K hK => ?_)
            have hgeA := (fun q hq => (HA5.out.lt q hq).1)
            have HGA := hide hgeA
            clear hgeA
            refine step_app (by rfl) _ _ 64 rfl 9 i0 (.string ByteArray.empty) 1 16 Try.underlying64 HI.out.1 HI.out.2.1 HI.out.2.2.1 HI.out.2.2.2 rfl (by decide) wr.heap.size A5 n5 c5 (nmC (xs.take n5)) (by rfl) HA5.out HWX.out.size (some ⟨N, 0, none⟩) 1 1 [.string s] (by rfl) (B := N + 1) (fun i u hi => by
              have hi0 : i = 0 := by
                rcases Nat.eq_zero_or_pos i with h | h
                · exact h
                · rw [List.getElem?_eq_none (by simp; omega)] at hi
                  cases hi
              subst hi0
              simp only [List.getElem?_cons_zero, Option.some.injEq] at hi
              subst hi
              exact ⟨N, 0, rfl, Nat.lt_succ_self _, HNC.out.1⟩) rfl (fun h => by cases h) (one_str s) (by unfold maxLen; omega) (by omega) ?_
            intro A7 n7 c7 w7 hn7 o7 g7 k7
            have hn7' : n7 = n5 + 1 := hn7
            clear hn7
            subst hn7'
            have HW7 := hide (show Below wr.heap.size wr w7 from HWX.out.grown g7 HWX.out.size (fun q hq => HGA.out q hq))
            have HA7 := hide o7
            clear o7 g7 k7 HA5 HWX HGA HNC
            refine hK.out _ _ hHeld ?_
            clear hK K
            try simp only [List.getElem_toArray, List.getElem_cons_succ, List.getElem_cons_zero, Act.put, List.setIfInBounds_toArray, List.set_cons_zero, List.set_cons_succ]
            refine Rv.one (i := 11) rfl (by kernel_rfl) (fun K hK => ?_)
            refine step_app (by rfl) _ _ 64 rfl 9 i0 (.string ByteArray.empty) 1 16 Try.underlying64 HI.out.1 HI.out.2.1 HI.out.2.2.1 HI.out.2.2.2 rfl (by decide) wr.heap.size A7 (n5 + 1) c7 _ (by rfl) HA7.out HW7.out.size A2 (n - n5) (c - n5) (nmC (xs.drop n5)) (by rfl) (HP2.out _ HW7.out) (by rw [nmC, List.length_map, HLK.out.2, Nat.mul_one]) HA2.out (one_nm _) (by unfold maxLen; omega) (by omega) ?_
            intro A9 n9 c9 w9 hn9 o9 g9 k9
            have hn9' : n9 = n + 1 := by omega
            clear hn9
            subst hn9'
            have HA9 := hide (show Row w9 wr.heap.size 9 1 A9 (n + 1) c9 (nmC (insN xs s)) from by
              rw [HST.out]
              simpa [nmC] using o9)
            have HW9 := hide (show Below wr.heap.size wr w9 from HW7.out.grown g9 HW7.out.size (fun q hq => (HA7.out.lt q hq).1))
            clear o9 g9 k9 HA7 HW7
            refine hK.out _ _ hHeld ?_
            clear hK K
            try simp only [List.getElem_toArray, List.getElem_cons_succ, List.getElem_cons_zero, Act.put, List.setIfInBounds_toArray, List.set_cons_zero, List.set_cons_succ]
            refine Rv.comp (i := 12) (v := ?_) rfl (by kernel_rfl) (by kernel_rfl) (by kernel_rfl) (fun _ _ _ h => h) (Or.inl ⟨by rfl, ?_⟩) ?_
            rotate_left 1
            focus (intro w hSw; (try dsimp only at hSw); go_simp; (try with_reducible rfl))
            try simp only [List.getElem_toArray, List.getElem_cons_succ, List.getElem_cons_zero, Act.put, List.setIfInBounds_toArray, List.set_cons_zero, List.set_cons_succ]
            refine Rv.done (by kernel_rfl) ?_ _
            clear hHeld
            obtain ⟨g', hA', _, _, _, _⟩ := own_of HA9.out (by omega)
            subst hA'
            have hlen : (insN xs s).length = n + 1 := by
              rw [HST.out, List.length_append, List.length_append, HLK.out.1, HLK.out.2, List.length_singleton]
              omega
            have HLEN := hide hlen
            clear hlen
            go_wp2_with fail
            go_ret
            exact ⟨g', c9, by rw [HLEN.out]; rfl, by rw [HLEN.out]; exact HA9.out.down hbase, HW9.out⟩
        · have HST := hide (show insN xs s = xs from by
            unfold insN
            rw [HI2.out, HXK.out, if_pos]
            rw [str_eq, decide_eq_true_iff] at he
            rw [he])
          clear HXK HI2
          go_wp2_with fail
          go_ret
          rw [HST.out]
          exact ⟨ga, c, rfl, HR.out, Below.refl _ _⟩
      · have HN := hide (HGO.out hl)
        have hl2 : Op.bytesLess x.toList s.toList = true := hl
        clear HGO HSTOP HXK hl
        go_wp2_with fail
        refine ⟨⟨k + 1, by omega, by go_num, HN.out, by first | rfl | trivial⟩, by simp [intOf]; omega⟩
    · have hke : k = xs.length := by omega
      have HST := hide (show insN xs s = xs.take k ++ [s] ++ xs.drop k from by
        have h := HP.out
        rw [hke, List.drop_length, insP, Nat.add_zero] at h
        unfold insN
        rw [h, List.getElem?_eq_none (Nat.le_refl _), if_neg (by simp), hke])
      have hlt' : ¬ (k : Int) < xs.length := by omega
      clear HP hke
      go_wp2_with fail
      clear hlt hlt'
      have HLK := hide (show (xs.take k).length = k ∧ (xs.drop k).length = xs.length - k from ⟨by rw [List.length_take]; omega, by rw [List.length_drop]⟩)
      have HP1 := hide (fun V (hV : Below wr.heap.size wr V) => (show Rd V V.heap.size (some ⟨ga, 0, none⟩) (nmC (xs.take k)) from by
        have h := ((HR.out.prefix hk).rd.below hV).more hV.size
        rw [Nat.mul_one] at h
        simpa only [nmC, List.map_take] using h))
      have HP2 := hide (fun V (hV : Below wr.heap.size wr V) => (show Rd V V.heap.size (if c = k then some ⟨ga, 0, none⟩ else some ⟨ga, k, none⟩) (nmC (xs.drop k)) from by
        have h := rd_tail1 (j := k) ((HR.out.rd.below hV).more hV.size) (by simp [nmC]) hkc
        simpa only [nmC, List.map_drop] using h))
      have HA2 := hide (show (if c = k then some (⟨ga, 0, none⟩ : Addr) else some ⟨ga, k, none⟩) = none → c - k = 0 from fun h => by split at h <;> cases h)
      have hkn : k ≤ c := by omega
      generalize hnl : xs.length = n at *
      have HNL := hide hnl
      clear hnl
      refine Rv.start (fun _ => True) (fun _ => false) (by kernel_rfl) ?_
      have hHeld : True := trivial
      refine Rv.comp (i := 1) (v := ?_) rfl (by kernel_rfl) (by kernel_rfl) (by kernel_rfl) (fun _ _ _ h => h) (Or.inl ⟨by rfl, ?_⟩) ?_
      rotate_left 1
      focus (intro w hSw; (try dsimp only at hSw); go_simp; (try with_reducible rfl))
      try simp only [List.getElem_toArray, List.getElem_cons_succ, List.getElem_cons_zero, Act.put, List.setIfInBounds_toArray, List.set_cons_zero, List.set_cons_succ]
      refine Rv.comp (i := 2) (v := ?_) rfl (by kernel_rfl) (by kernel_rfl) (by kernel_rfl) (fun _ _ _ h => h) (Or.inl ⟨by rfl, ?_⟩) ?_
      rotate_left 1
      focus (intro w hSw; (try dsimp only at hSw); go_simp; (try with_reducible rfl))
      try simp only [List.getElem_toArray, List.getElem_cons_succ, List.getElem_cons_zero, Act.put, List.setIfInBounds_toArray, List.set_cons_zero, List.set_cons_succ]
      refine Rv.comp (i := 3) (v := ?_) rfl (by kernel_rfl) (by kernel_rfl) (by kernel_rfl) (fun _ _ _ h => h) (Or.inl ⟨by rfl, ?_⟩) ?_
      rotate_left 1
      focus (intro w hSw; (try dsimp only at hSw); go_simp; (try with_reducible rfl))
      try simp only [List.getElem_toArray, List.getElem_cons_succ, List.getElem_cons_zero, Act.put, List.setIfInBounds_toArray, List.set_cons_zero, List.set_cons_succ]
      refine Rv.comp (i := 5) (v := ?_) rfl (by kernel_rfl) (by kernel_rfl) (by kernel_rfl) (fun _ _ _ h => h) (Or.inl ⟨by rfl, ?_⟩) ?_
      rotate_left 1
      focus (intro w hSw; (try dsimp only at hSw); go_simp; (try with_reducible rfl))
      try simp only [List.getElem_toArray, List.getElem_cons_succ, List.getElem_cons_zero, Act.put, List.setIfInBounds_toArray, List.set_cons_zero, List.set_cons_succ]
      refine Rv.comp (i := 8) (v := ?_) rfl (by kernel_rfl) (by kernel_rfl) (by kernel_rfl) (fun _ _ _ h => h) (Or.inl ⟨by rfl, ?_⟩) ?_
      rotate_left 1
      focus (intro w hSw; (try dsimp only at hSw); go_simp; (try with_reducible rfl))
      try simp only [List.getElem_toArray, List.getElem_cons_succ, List.getElem_cons_zero, Act.put, List.setIfInBounds_toArray, List.set_cons_zero, List.set_cons_succ]
      refine Rv.comp (i := 9) (v := ?_) rfl (by kernel_rfl) (by kernel_rfl) (by kernel_rfl) (fun _ _ _ h => h) (Or.inl ⟨by rfl, ?_⟩) ?_
      rotate_left 1
      focus (intro w hSw; (try dsimp only at hSw); go_simp; (try with_reducible rfl))
      try simp only [List.getElem_toArray, List.getElem_cons_succ, List.getElem_cons_zero, Act.put, List.setIfInBounds_toArray, List.set_cons_zero, List.set_cons_succ]
      refine Rv.comp (i := 10) (v := ?_) rfl (by kernel_rfl) (by kernel_rfl) (by kernel_rfl) (fun _ _ _ h => h) (Or.inl ⟨by rfl, ?_⟩) ?_
      rotate_left 1
      focus (intro w hSw; (try dsimp only at hSw); go_simp; (try with_reducible rfl))
      try simp only [List.getElem_toArray, List.getElem_cons_succ, List.getElem_cons_zero, Act.put, List.setIfInBounds_toArray, List.set_cons_zero, List.set_cons_succ]
      generalize (if c = k then some (⟨ga, 0, none⟩ : Addr) else some ⟨ga, k, none⟩) = A2 at *
      refine Rv.two (i := 0) (j := 6) rfl rfl (by kernel_rfl) (fun K hK => ?s0) (fun K hK => ?s6)
      case' s0 =>
        go_simp
        refine hK.out _ _ hHeld ?_
        clear hK K
        try simp only [List.getElem_toArray, List.getElem_cons_succ, List.getElem_cons_zero, Act.put, List.setIfInBounds_toArray, List.set_cons_zero, List.set_cons_succ]
        refine Rv.two (i := 4) (j := 6) rfl rfl (by kernel_rfl) (fun K hK => ?t4) (fun K hK => ?t6)
      case' t4 =>
        refine step_app (by rfl) _ _ 64 rfl 9 i0 (.string ByteArray.empty) 1 16 Try.underlying64 HI.out.1 HI.out.2.1 HI.out.2.2.1 HI.out.2.2.2 rfl (by decide) wr.heap.size _ 0 0 [] (by rfl) (Row.empty _ _ _ _ _) (Below.size (B := wr.heap.size) (by (repeat (first | with_reducible assumption | with_reducible exact Below.refl _ _ | with_reducible apply below_al | with_reducible apply below_dr | with_reducible apply below_dn)); done)) (some ⟨ga, 0, none⟩) k c (nmC (xs.take k)) (by rfl) (HP1.out _ (by (repeat (first | with_reducible assumption | with_reducible exact Below.refl _ _ | with_reducible apply below_al | with_reducible apply below_dr | with_reducible apply below_dn)); done)) (by rw [nmC, List.length_map, HLK.out.1, Nat.mul_one]) (fun h => by cases h) (one_nm _) (by unfold maxLen; omega) (by omega) ?_
        intro A5 n5 c5 w5 hn5 o5 g5 k5
        have hn5' : n5 = k := by omega
        clear hn5
        subst hn5'
        have HA5 := hide (show Row w5 wr.heap.size 9 1 A5 n5 c5 (nmC (xs.take n5)) from by simpa using o5)
        have HWX := hide (show Below wr.heap.size wr w5 from below_tr (by (repeat (first | with_reducible assumption | with_reducible exact Below.refl _ _ | with_reducible apply below_al | with_reducible apply below_dr | with_reducible apply below_dn)); done) g5)
        clear o5 g5 k5
        refine hK.out _ _ hHeld ?_
        clear hK K
        try simp only [List.getElem_toArray, List.getElem_cons_succ, List.getElem_cons_zero, Act.put, List.setIfInBounds_toArray, List.set_cons_zero, List.set_cons_succ]
        refine Rv.one (i := 6) rfl (by kernel_rfl) (fun K hK => ?_)
        go_simp
        refine hK.out _ _ hHeld ?_
        clear hK K
        try simp only [List.getElem_toArray, List.getElem_cons_succ, List.getElem_cons_zero, Act.put, List.setIfInBounds_toArray, List.set_cons_zero, List.set_cons_succ]
        have HNC := hide (show (w5.alloc (.cells #[.string s] 9)).cell? ⟨w5.heap.size, 0, none⟩ = some (.string s) ∧ w5.heap.size < (w5.alloc (.cells #[.string s] 9)).heap.size from ⟨(Box.new w5 9 #[.string s]).cell 0, (Box.new w5 9 #[.string s]).lt⟩)
        have B6 : Below w5.heap.size w5 (w5.alloc (.cells #[.string s] 9)) := (by repeat (first | exact Below.refl _ _ | with_reducible assumption | (refine Below.drew ?_) | (refine Below.drewN ?_ _) | (refine Below.alloc ?_ (by simp; try omega) _) | (refine Below.setCell ?_ (by simp; try omega) _)))
        replace HWX := hide (HWX.out.trans (B6.mono HWX.out.size))
        replace HA5 := hide (HA5.out.call B6)
        clear B6
        generalize w5.alloc (.cells #[.string s] 9) = wX at *
        generalize w5.heap.size = N at *
      case' t6 =>
        go_simp
        refine hK.out _ _ hHeld ?_
        clear hK K
        try simp only [List.getElem_toArray, List.getElem_cons_succ, List.getElem_cons_zero, Act.put, List.setIfInBounds_toArray, List.set_cons_zero, List.set_cons_succ]
        have HNN := hide (show ((wr.alloc (.cells #[] 9)).alloc (.cells #[.string s] 9)).drew.cell? ⟨wr.heap.size + 1, 0, none⟩ = some (.string s) ∧ wr.heap.size + 1 < ((wr.alloc (.cells #[] 9)).alloc (.cells #[.string s] 9)).drew.heap.size from by
          have h := Box.new (wr.alloc (.cells #[] 9)) 9 #[.string s]
          rw [World.size_alloc] at h
          exact ⟨h.cell 0, h.lt⟩)
        refine Rv.one (i := 4) rfl (by kernel_rfl) (fun K hK => ?_)
        refine step_app (by rfl) _ _ 64 rfl 9 i0 (.string ByteArray.empty) 1 16 Try.underlying64 HI.out.1 HI.out.2.1 HI.out.2.2.1 HI.out.2.2.2 rfl (by decide) wr.heap.size _ 0 0 [] (by rfl) (Row.empty _ _ _ _ _) (Below.size (B := wr.heap.size) (by (repeat (first | with_reducible assumption | with_reducible exact Below.refl _ _ | with_reducible apply below_al | with_reducible apply below_dr | with_reducible apply below_dn)); done)) (some ⟨ga, 0, none⟩) k c (nmC (xs.take k)) (by rfl) (HP1.out _ (by (repeat (first | with_reducible assumption | with_reducible exact Below.refl _ _ | with_reducible apply below_al | with_reducible apply below_dr | with_reducible apply below_dn)); done)) (by rw [nmC, List.length_map, HLK.out.1, Nat.mul_one]) (fun h => by cases h) (one_nm _) (by unfold maxLen; omega) (by omega) ?_
        intro A5 n5 c5 wX hn5 o5 g5 k5
        have hn5' : n5 = k := by omega
        clear hn5
        subst hn5'
        have HA5 := hide (show Row wX wr.heap.size 9 1 A5 n5 c5 (nmC (xs.take n5)) from by simpa using o5)
        have HWX := hide (show Below wr.heap.size wr wX from below_tr (by (repeat (first | with_reducible assumption | with_reducible exact Below.refl _ _ | with_reducible apply below_al | with_reducible apply below_dr | with_reducible apply below_dn)); done) g5)
        have HNC := hide (show wX.cell? ⟨wr.heap.size + 1, 0, none⟩ = some (.string s) ∧ wr.heap.size + 1 < wX.heap.size from ⟨((below_tr (Below.refl _ _) g5).cell (p := ⟨wr.heap.size + 1, 0, none⟩) HNN.out.2).trans HNN.out.1, Nat.lt_of_lt_of_le HNN.out.2 g5.size⟩)
        clear o5 g5 k5 HNN
        refine hK.out _ _ hHeld ?_
        clear hK K
        try simp only [List.getElem_toArray, List.getElem_cons_succ, List.getElem_cons_zero, Act.put, List.setIfInBounds_toArray, List.set_cons_zero, List.set_cons_succ]
        generalize wr.heap.size + 1 = N at *
      case' s6 =>
        go_simp
        refine hK.out _ _ hHeld ?_
        clear hK K
        try simp only [List.getElem_toArray, List.getElem_cons_succ, List.getElem_cons_zero, Act.put, List.setIfInBounds_toArray, List.set_cons_zero, List.set_cons_succ]
        refine Rv.one (i := 0) rfl (by kernel_rfl) (fun K hK => ?_)
        go_simp
        refine hK.out _ _ hHeld ?_
        clear hK K
        try simp only [List.getElem_toArray, List.getElem_cons_succ, List.getElem_cons_zero, Act.put, List.setIfInBounds_toArray, List.set_cons_zero, List.set_cons_succ]
        have HNN := hide (show ((wr.alloc (.cells #[.string s] 9)).alloc (.cells #[] 9)).drew.cell? ⟨wr.heap.size, 0, none⟩ = some (.string s) ∧ wr.heap.size < ((wr.alloc (.cells #[.string s] 9)).alloc (.cells #[] 9)).drew.heap.size from by
          have h := (Box.new wr 9 #[.string s]).alloc (.cells #[] 9)
          exact ⟨h.cell 0, h.lt⟩)
        refine Rv.one (i := 4) rfl (by kernel_rfl) (fun K hK => ?_)
        refine step_app (by rfl) _ _ 64 rfl 9 i0 (.string ByteArray.empty) 1 16 Try.underlying64 HI.out.1 HI.out.2.1 HI.out.2.2.1 HI.out.2.2.2 rfl (by decide) wr.heap.size _ 0 0 [] (by rfl) (Row.empty _ _ _ _ _) (Below.size (B := wr.heap.size) (by (repeat (first | with_reducible assumption | with_reducible exact Below.refl _ _ | with_reducible apply below_al | with_reducible apply below_dr | with_reducible apply below_dn)); done)) (some ⟨ga, 0, none⟩) k c (nmC (xs.take k)) (by rfl) (HP1.out _ (by (repeat (first | with_reducible assumption | with_reducible exact Below.refl _ _ | with_reducible apply below_al | with_reducible apply below_dr | with_reducible apply below_dn)); done)) (by rw [nmC, List.length_map, HLK.out.1, Nat.mul_one]) (fun h => by cases h) (one_nm _) (by unfold maxLen; omega) (by omega) ?_
        intro A5 n5 c5 wX hn5 o5 g5 k5
        have hn5' : n5 = k := by omega
        clear hn5
        subst hn5'
        have HA5 := hide (show Row wX wr.heap.size 9 1 A5 n5 c5 (nmC (xs.take n5)) from by simpa using o5)
        have HWX := hide (show Below wr.heap.size wr wX from below_tr (by (repeat (first | with_reducible assumption | with_reducible exact Below.refl _ _ | with_reducible apply below_al | with_reducible apply below_dr | with_reducible apply below_dn)); done) g5)
        have HNC := hide (show wX.cell? ⟨wr.heap.size, 0, none⟩ = some (.string s) ∧ wr.heap.size < wX.heap.size from ⟨((below_tr (Below.refl _ _) g5).cell (p := ⟨wr.heap.size, 0, none⟩) HNN.out.2).trans HNN.out.1, Nat.lt_of_lt_of_le HNN.out.2 g5.size⟩)
        clear o5 g5 k5 HNN
        refine hK.out _ _ hHeld ?_
        clear hK K
        try simp only [List.getElem_toArray, List.getElem_cons_succ, List.getElem_cons_zero, Act.put, List.setIfInBounds_toArray, List.set_cons_zero, List.set_cons_succ]
        generalize hN : wr.heap.size = N at HNC ⊢
      all_goals
        refine Rv.one (i := 7) rfl (by kernel_rfl) (fun K hK => ?_)
        have hgeA := (fun q hq => (HA5.out.lt q hq).1)
        have HGA := hide hgeA
        clear hgeA
        refine step_app (by rfl) _ _ 64 rfl 9 i0 (.string ByteArray.empty) 1 16 Try.underlying64 HI.out.1 HI.out.2.1 HI.out.2.2.1 HI.out.2.2.2 rfl (by decide) wr.heap.size A5 n5 c5 (nmC (xs.take n5)) (by rfl) HA5.out HWX.out.size (some ⟨N, 0, none⟩) 1 1 [.string s] (by rfl) (B := N + 1) (fun i u hi => by
          have hi0 : i = 0 := by
            rcases Nat.eq_zero_or_pos i with h | h
            · exact h
            · rw [List.getElem?_eq_none (by simp; omega)] at hi
              cases hi
          subst hi0
          simp only [List.getElem?_cons_zero, Option.some.injEq] at hi
          subst hi
          exact ⟨N, 0, rfl, Nat.lt_succ_self _, HNC.out.1⟩) rfl (fun h => by cases h) (one_str s) (by unfold maxLen; omega) (by omega) ?_
        intro A7 n7 c7 w7 hn7 o7 g7 k7
        have hn7' : n7 = n5 + 1 := hn7
        clear hn7
        subst hn7'
        have HW7 := hide (show Below wr.heap.size wr w7 from HWX.out.grown g7 HWX.out.size (fun q hq => HGA.out q hq))
        have HA7 := hide o7
        clear o7 g7 k7 HA5 HWX HGA HNC
        refine hK.out _ _ hHeld ?_
        clear hK K
        try simp only [List.getElem_toArray, List.getElem_cons_succ, List.getElem_cons_zero, Act.put, List.setIfInBounds_toArray, List.set_cons_zero, List.set_cons_succ]
        refine Rv.one (i := 11) rfl (by kernel_rfl) (fun K hK => ?_)
        refine step_app (by rfl) _ _ 64 rfl 9 i0 (.string ByteArray.empty) 1 16 Try.underlying64 HI.out.1 HI.out.2.1 HI.out.2.2.1 HI.out.2.2.2 rfl (by decide) wr.heap.size A7 (n5 + 1) c7 _ (by rfl) HA7.out HW7.out.size A2 (n - n5) (c - n5) (nmC (xs.drop n5)) (by rfl) (HP2.out _ HW7.out) (by rw [nmC, List.length_map, HLK.out.2, Nat.mul_one]) HA2.out (one_nm _) (by unfold maxLen; omega) (by omega) ?_
        intro A9 n9 c9 w9 hn9 o9 g9 k9
        have hn9' : n9 = n + 1 := by omega
        clear hn9
        subst hn9'
        have HA9 := hide (show Row w9 wr.heap.size 9 1 A9 (n + 1) c9 (nmC (insN xs s)) from by
          rw [HST.out]
          simpa [nmC] using o9)
        have HW9 := hide (show Below wr.heap.size wr w9 from HW7.out.grown g9 HW7.out.size (fun q hq => (HA7.out.lt q hq).1))
        clear o9 g9 k9 HA7 HW7
        refine hK.out _ _ hHeld ?_
        clear hK K
        try simp only [List.getElem_toArray, List.getElem_cons_succ, List.getElem_cons_zero, Act.put, List.setIfInBounds_toArray, List.set_cons_zero, List.set_cons_succ]
        refine Rv.comp (i := 12) (v := ?_) rfl (by kernel_rfl) (by kernel_rfl) (by kernel_rfl) (fun _ _ _ h => h) (Or.inl ⟨by rfl, ?_⟩) ?_
        rotate_left 1
        focus (intro w hSw; (try dsimp only at hSw); go_simp; (try with_reducible rfl))
        try simp only [List.getElem_toArray, List.getElem_cons_succ, List.getElem_cons_zero, Act.put, List.setIfInBounds_toArray, List.set_cons_zero, List.set_cons_succ]
        refine Rv.done (by kernel_rfl) ?_ _
        clear hHeld
        obtain ⟨g', hA', _, _, _, _⟩ := own_of HA9.out (by omega)
        subst hA'
        have hlen : (insN xs s).length = n + 1 := by
          rw [HST.out, List.length_append, List.length_append, HLK.out.1, HLK.out.2, List.length_singleton]
          omega
        have HLEN := hide hlen
        clear hlen
        go_wp2_with fail
        go_ret
        exact ⟨g', c9, by rw [HLEN.out]; rfl, by rw [HLEN.out]; exact HA9.out.down hbase, HW9.out⟩
end Go.Proofs.Ytmglgjchemecjaa.CInsS
/- NamesGiven: the reference's. -/
namespace Go.Proofs.Ytmglgjchemecjaa.CNGS
set_option maxRecDepth 200000
open Go.ChangeShapes Go.WideShapes Go.ChangeAt Go.RowKit Kit CCode CName CFixups CSymbols PObj BObj PValid CObjValid CObjValidS BStore BList PLink CSorted PIns CInsS
def givY (y : YD) : Bool := !decide (y.2.2.1 = -1) && !decide (y.2.1 = 0)
def givS (ys : List YD) : List ByteArray := (ys.filter givY).map (·.1)
def givN (d : OD) : List ByteArray := bif objOk d then insAll (givS d.ys) else []
theorem insAll_len (ns : List ByteArray) : (insAll ns).length ≤ ns.length := by
  suffices H : ∀ (ns acc : List ByteArray), (ns.foldl insN acc).length ≤ acc.length + ns.length by
    have := H ns []
    simpa [insAll] using this
  intro ns
  induction ns with
  | nil => intro acc; simp
  | cons n ns ih =>
    intro acc
    have h1 := ih (insN acc n)
    have h2 := insN_len acc n
    simp only [List.foldl_cons, List.length_cons]
    omega
theorem givS_len (ys : List YD) : (givS ys).length ≤ ys.length := by
  unfold givS
  rw [List.length_map]
  exact List.length_filter_le _ _
theorem givS_snoc {ys : List YD} {k : Nat} (h : k < ys.length) : givS (ys.take (k + 1)) = givS (ys.take k) ++ (bif givY ys[k] then [ys[k].1] else []) := by
  unfold givS
  rw [take_succ h, List.filter_append, List.map_append]
  cases hg : givY ys[k] <;> simp [hg]
set_option maxHeartbeats 4000000 in
theorem namesGivenS_any (o : OV) (w : World) (hr : RdO w w.heap.size o) (hf : Fit o) :
    Calls Try.prog 100 #[.agg #[.slice o.A o.ps.length o.c, .slice o.Y o.ys.length o.yc]] w (RetN (givN o.d) w) := by
  have HR := hide hr
  have HF := hide hf
  clear hr hf
  have HB := hide (show Below w.heap.size w ((w.alloc (.cells #[.slice o.A o.ps.length o.c, .slice o.Y o.ys.length o.yc] 26)).alloc (.cells #[] 9)) from (by repeat (first | exact Below.refl _ _ | with_reducible assumption | (refine Below.drew ?_) | (refine Below.drewN ?_ _) | (refine Below.alloc ?_ (by simp; try omega) _) | (refine Below.setCell ?_ (by simp; try omega) _))))
  have HX := hide ((Box.new w 26 #[.slice o.A o.ps.length o.c, .slice o.Y o.ys.length o.yc]).alloc (.cells #[] 9))
  go_enter Try.func100, Try.ntmps100
  go_wp2_with fail
  have hLg : (w.alloc (.cells #[.slice o.A o.ps.length o.c, .slice o.Y o.ys.length o.yc] 26)).heap.size = w.heap.size + 1 := by simp
  generalize (w.alloc (.cells #[.slice o.A o.ps.length o.c, .slice o.Y o.ys.length o.yc] 26)).alloc (.cells #[] 9) = w0 at *
  clear hLg
  go_loopw [3, 4] (fun s i wi => ∃ (k g c1 : Nat) (ns : List ByteArray), k ≤ o.ys.length ∧ s = .slice (some ⟨g, 0, none⟩) ns.length c1 ∧ i = .int .i64 k ∧ ns = insAll (givS (o.ys.take k)) ∧ (k = 0 ∨ objOk o.d = true) ∧ Row wi w.heap.size 9 1 (some ⟨g, 0, none⟩) ns.length c1 (nmC ns) ∧ Box wi w.heap.size 26 #[.slice o.A o.ps.length o.c, .slice o.Y o.ys.length o.yc] ∧ Below w.heap.size w wi) (fun _ i _ => o.ys.length - (intOf i).toNat)
  case atStart => exact ⟨0, w.heap.size + 1, 0, [], Nat.zero_le _, rfl, rfl, rfl, .inl rfl, Row.empty _ _ _ _ _, HX.out, HB.out⟩
  case round =>
    rename World => wk
    clear HX HB
    obtain ⟨k, g, c1, ns, hk, rfl, rfl, hns, hok, hrow, hx, hb⟩ := hrel
    have HNS := hide hns
    have HOK := hide hok
    have HW := hide hrow
    have HX := hide hx
    have HB := hide hb
    clear hns hok hrow hx hb
    have x0 := HX.out.cell 0
    have x1 := HX.out.cell 1
    simp only [List.getElem?_toArray, List.getElem?_cons_zero, List.getElem?_cons_succ] at x0 x1
    have hxl := HX.out.lt
    by_cases hlt : k < o.ys.length
    · go_wp2_with fail
      refine (objectValidS_any o wk ((HR.out.below HB.out).more HB.out.size) HF.out).mono ?_
      rintro e w2 ⟨rfl, b2⟩
      have HW2 := hide (HW.out.call b2)
      replace HB := hide (HB.out.trans (b2.mono HB.out.size))
      replace HX := hide (HX.out.call b2)
      clear b2
      clear x0 x1 hxl HW
      cases ho : objOk o.d
      · have hk0 : k = 0 := by
          rcases HOK.out with h | h
          · exact h
          · rw [ho] at h
            cases h
        have HV := hide (show givN o.d = ns from by
          unfold givN
          rw [ho, HNS.out, hk0]
          rfl)
        clear ho hk0
        go_wp2_with fail
        go_ret
        rw [HV.out]
        exact ⟨_, c1, rfl, HW2.out, HB.out⟩
      · have HO := hide ho
        have hy12 : o.ys.length ≤ 12 := by
          have h := (PClear.obj_all ho).2.1
          exact h
        obtain ⟨b, off, hA, hbb, hc⟩ := (HR.out.2.below HB.out).row symbolC_len (by decide) hlt
        have hc0 := hc 0 _ rfl
        have hc1 := hc 1 _ rfl
        have hc2 := hc 2 _ rfl
        simp only [Nat.add_zero] at hc0
        have HSN := hide (givS_snoc hlt)
        have HNL := hide (show ns.length ≤ k from by
          rw [HNS.out]
          have h1 := insAll_len (givS (o.ys.take k))
          have h2 := givS_len (o.ys.take k)
          rw [List.length_take] at h2
          omega)
        have x1 := HX.out.cell 1
        simp only [List.getElem?_toArray, List.getElem?_cons_zero, List.getElem?_cons_succ] at x1
        have hxl := HX.out.lt
        have HA := hide hA
        rw [hA] at x1
        clear ho hc hA
        generalize o.ys[k] = z at *
        obtain ⟨z1, z2, z3, z4⟩ := z
        simp only at hc0 hc1 hc2 HSN
        by_cases h3 : z3 = -1
        · have e3 : (z3 != -1) = false := by simp [h3]
          have HNX := hide (show ns = insAll (givS (o.ys.take (k + 1))) from by rw [HSN.out, HNS.out]; simp [givY, h3])
          clear h3 HSN
          go_wp2_with fail
          refine ⟨⟨k + 1, g, c1, ns, by omega, rfl, by go_num, HNX.out, .inr HO.out, HW2.out, HX.out, HB.out⟩, by simp [intOf]; omega⟩
        · have e3 : (z3 != -1) = true := bne_iff_ne.2 h3
          by_cases h2 : z2 = 0
          · have e2 : (z2 != 0) = false := by simp [h2]
            have HNX := hide (show ns = insAll (givS (o.ys.take (k + 1))) from by rw [HSN.out, HNS.out]; simp [givY, h2])
            clear h3 h2 HSN
            go_wp2_with fail
            refine ⟨⟨k + 1, g, c1, ns, by omega, rfl, by go_num, HNX.out, .inr HO.out, HW2.out, HX.out, HB.out⟩, by simp [intOf]; omega⟩
          · have e2 : (z2 != 0) = true := bne_iff_ne.2 h2
            have HNX := hide (show insN ns z1 = insAll (givS (o.ys.take (k + 1))) from by rw [HSN.out, HNS.out]; simp [givY, h2, h3, insAll_snoc])
            have HINS := hide (l2Insert_any g ns z1 c1 w.heap.size w2 HW2.out HB.out.size (by have := HNL.out; omega))
            clear h3 h2 HSN
            go_wp2_with fail
            refine HINS.out.mono ?_
            rintro e w3 ⟨g3, c3, rfl, r3, b3⟩
            have HR3 := hide r3
            replace HB := hide (HB.out.trans (b3.mono HB.out.size))
            replace HX := hide (HX.out.call b3)
            clear b3
            clear r3 HINS
            generalize insN ns z1 = ms at *
            go_wp2_with fail
            refine ⟨⟨k + 1, g3, c3, ms, by omega, rfl, by go_num, HNX.out, .inr HO.out, HR3.out, HX.out, HB.out⟩, by simp [intOf]; omega⟩
    · have hke : k = o.ys.length := by omega
      have HV := hide (show givN o.d = ns from by
        unfold givN
        rw [HNS.out, hke, List.take_length]
        rcases HOK.out with h | h
        · have h0 : o.ys = [] := List.eq_nil_of_length_eq_zero (by omega)
          have h1 : o.d.ys = [] := h0
          rw [h1, h0]
          cases objOk o.d <;> rfl
        · rw [h]
          rfl)
      clear hke
      go_wp2_with fail
      go_ret
      rw [HV.out]
      exact ⟨_, c1, rfl, HW.out, HB.out⟩
end Go.Proofs.Ytmglgjchemecjaa.CNGS
/- The size of an object out of what is left. -/
namespace Go.Proofs.Ytmglgjchemecjaa.CSzObj
set_option maxRecDepth 200000
open Go.ChangeShapes Go.WideShapes Go.ChangeAt Go.RowKit Kit CFixups CSymbols PObj BObj CSection CSections CMarkText CSymMarks CMarkRows CSecMarks CSecHeld CObject CObject2
end Go.Proofs.Ytmglgjchemecjaa.CSzObj
/- Lists of objects: what is the call's own; the laws' helpers on lists of objects. -/
namespace Go.Proofs.Ytmglgjchemecjaa.CObjL
set_option maxRecDepth 200000
open Go.ChangeShapes Go.WideShapes Go.ChangeAt Go.RowKit Kit CFixups CSymbols PObj BObj BObj2 BList CObjValid CSection CSections CMarkText CSymMarks CMarkRows CSecMarks CSecHeld CObject CObject2 CCopyS WObj CSzObj
theorem infoO : (Try.prog.info? 26).map (fun i => (i.zero, i.size, i.bytes)) = some (some (.agg #[.slice none 0 0, .slice none 0 0]), 2, 48) := by kernel_rfl
def ApO (o p : OV) : Prop := ∀ k, oblk o k → ¬ oblk p k
/-- A list of objects that is the call's own: its row, its objects, each apart from the others. -/
def OwnOs (w : World) (base : Nat) (A : Option Addr) (c : Nat) (os : List OV) : Prop := Row w base 26 2 A os.length c (cellsOf objC os) ∧ (∀ o ∈ os, OwnO w base o) ∧ os.Pairwise ApO
def lblk (A : Option Addr) (c : Nat) (os : List OV) (k : Nat) : Prop := blk A c = some k ∨ ∃ o ∈ os, oblk o k
def RetOs (l : List OD) (w : World) (e : Ending) (w' : World) : Prop := ∃ A c os, e = .returned (.slice A (os : List OV).length c) ∧ os.map OV.d = l ∧ OwnOs w' w.heap.size A c os ∧ Below w.heap.size w w'
section
variable {w w' : World} {base b N c : Nat} {A : Option Addr} {os : List OV}
theorem OwnOs.rd (h : OwnOs w base A c os) : RdOs w w.heap.size A os := ⟨h.1.rd, fun o ho => (h.2.1 o ho).rd⟩
theorem OwnOs.lt (h : OwnOs w base A c os) : ∀ k, lblk A c os k → base ≤ k ∧ k < w.heap.size := by
  rintro k (hk | ⟨o, ho, hk⟩)
  · exact h.1.lt k hk
  · exact (h.2.1 o ho).lt k hk
theorem OwnOs.keep (h : OwnOs w base A c os) (hk : ∀ k, lblk A c os k → w'.heap[k]? = w.heap[k]?) : OwnOs w' base A c os :=
  ⟨h.1.keep fun k hb => hk k (.inl hb), fun o ho => (h.2.1 o ho).keep fun k hb => hk k (.inr ⟨o, ho, hb⟩), h.2.2⟩
theorem OwnOs.call (h : OwnOs w base A c os) (hb : Below w.heap.size w w') : OwnOs w' base A c os := h.keep fun k hk => hb.block k (h.lt k hk).2
theorem OwnOs.down (h : OwnOs w base A c os) (hb : b ≤ base) : OwnOs w b A c os := ⟨h.1.down hb, fun o ho => (h.2.1 o ho).down hb, h.2.2⟩
theorem OwnOs.gp {q : Nat → Prop} (h : OwnOs w base A c os) (g : Gp q w w') (hq : ∀ k, lblk A c os k → ¬ q k) : OwnOs w' base A c os := h.keep fun k hk => g.block k (h.lt k hk).2 (hq k hk)
/-- The row of objects lies apart from their own rows. -/
theorem OwnOs.ne (h : OwnOs w base A c os) : ∀ o ∈ os, ∀ k, oblk o k → blk A c ≠ some k := by
  rintro o ho k ((hk | ⟨p, hp, hk | hk⟩) | hk) e
  · exact apartT (h.2.1 o ho).1.1 h.1 (by decide) k hk e
  · exact apartT ((h.2.1 o ho).1.2.1 p hp).1 h.1 (by decide) k hk e
  · exact apartT ((h.2.1 o ho).1.2.1 p hp).2 h.1 (by decide) k hk e
  · exact apartT (h.2.1 o ho).2 h.1 (by decide) k hk e
theorem objs_snoc (os : List OV) (q : OV) : cellsOf objC (os ++ [q]) = cellsOf objC os ++ objC q := by simp [cellsOf]
theorem ApO.snoc (h : os.Pairwise ApO) {q : OV} (hold : ∀ o ∈ os, ∀ k, oblk o k → k < N) (hnew : ∀ k, oblk q k → N ≤ k) : (os ++ [q]).Pairwise ApO := by
  refine List.pairwise_append.2 ⟨h, List.pairwise_singleton _ _, fun o ho p hp k h1 h2 => ?_⟩
  rw [List.mem_singleton.1 hp] at h2
  have := hold o ho k h1
  have := hnew k h2
  omega
/-- An object is put behind the last one. -/
theorem OwnOs.snoc (h : OwnOs w base A c os) {q : OV} (hq : OwnO w base q) (hold : ∀ o ∈ os, ∀ k, oblk o k → k < N) (hnew : ∀ k, oblk q k → N ≤ k) {A' : Option Addr} {n' c' : Nat} (hn : n' = os.length + 1)
    (row : Row w' base 26 2 A' n' c' (cellsOf objC os ++ objC q)) (g : w.grownBy w' (blk A c)) : OwnOs w' base A' c' (os ++ [q]) := by
  subst hn
  have hS : ∀ o : OV, OwnO w base o → OwnO w' base o := fun o ho => ho.keep fun k hk => g.block k (ho.lt k hk).2 (fun e' => by
    have e := e'.symm
    rcases hk with (hk | ⟨p, hp, hk | hk⟩) | hk
    · exact apartT ho.1.1 h.1 (by decide) k hk e
    · exact apartT (ho.1.2.1 p hp).1 h.1 (by decide) k hk e
    · exact apartT (ho.1.2.1 p hp).2 h.1 (by decide) k hk e
    · exact apartT ho.2 h.1 (by decide) k hk e)
  refine ⟨?_, fun o ho => ?_, ApO.snoc h.2.2 hold hnew⟩
  · rw [List.length_append, objs_snoc]
    exact row
  · rcases List.mem_append.1 ho with ho | ho
    · exact hS o (h.2.1 o ho)
    · rw [List.mem_singleton.1 ho]
      exact hS q hq
end
end Go.Proofs.Ytmglgjchemecjaa.CObjL
