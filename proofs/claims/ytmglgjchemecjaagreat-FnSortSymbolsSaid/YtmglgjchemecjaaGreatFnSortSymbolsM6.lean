/- findBound and findName: which symbol a name means. -/
import Derived.Test.YtmglgjchemecjaaGreatFnSortSymbolsM5
import Derived.Lib.AppendZerosOnto
import Derived.Shelf.Sort.Plain
import Derived.Shelf.Strings.Prefix
import Derived.Shelf.Slices.Turned
import Derived.Shelf.Slices.Clone
import Derived.Shelf.Slices.CompactS
import Derived.Shelf.Slices.Cells
import Derived.Shelf.Slices.In.SortNone
import Derived.Test.YtmglgjchemecjaaGreatProg
import Derived.Lib.OwnBridge
import Derived.Lib.SlicesS
set_option linter.unusedSimpArgs false
set_option linter.unusedVariables false
namespace Go.Proofs.YtmglgjchemecjaaGreat.CFind
set_option maxRecDepth 200000
open Go.ChangeShapes Go.WideShapes Go.ChangeAt Go.RowKit Kit CCode CName CFixups CSymbols PObj BObj PValid CGlobalOf BList PLink
theorem find_name (l : List OD) (nm : ByteArray) : findN l nm = orG (fiO (gives nm 1) 0 l) (fiO (gives nm 2) 0 l) := rfl
/-- What is given back: where, and whether there is one. -/
def givV (r : Option G) : Value := .tuple #[.agg #[.int .i64 (gin r), .int .i64 (gat r)], .bool r.isSome]
def Lens (os : List OV) : Prop := os.length ≤ 1048576 ∧ ∀ o ∈ os, o.ys.length ≤ 1048576
set_option maxHeartbeats 2000000 in
theorem findBound_any (A : Option Addr) (os : List OV) (c : Nat) (nm : ByteArray) (b : Int) (w : World) (hr : RdOs w w.heap.size A os) (hm : Lens os) :
    Calls Tryz.prog 131 #[.slice A os.length c, .string nm, .int .i64 b] w (Ret (givV (fiO (gives nm b) 0 (os.map OV.d))) w) := by
  obtain ⟨hm1, hm2⟩ := hm
  have HY := hide hm2
  clear hm2
  have HB := hide (show Below w.heap.size w (w.alloc (.cells #[.int .i64 0, .int .i64 0] 109)) from (by repeat (first | exact Below.refl _ _ | with_reducible assumption | (refine Below.drew ?_) | (refine Below.drewN ?_ _) | (refine Below.alloc ?_ (by simp; try omega) _) | (refine Below.setCell ?_ (by simp; try omega) _))))
  have HX := hide (Box.new w 109 #[.int .i64 0, .int .i64 0])
  have HR := hide hr
  clear hr
  go_enter Tryz.func131, Tryz.ntmps131
  go_wp2_with fail
  generalize w.alloc (.cells #[.int .i64 0, .int .i64 0] 109) = w0 at *
  go_loopw [14] (fun i wi => ∃ k : Nat, k ≤ os.length ∧ i = .int .i64 k ∧ fiO (gives nm b) 0 (os.map OV.d) = fiO (gives nm b) k ((os.map OV.d).drop k) ∧ Box wi w.heap.size 109 #[.int .i64 0, .int .i64 0] ∧ Below w.heap.size w wi) (fun i _ => os.length - (intOf i).toNat)
  case atStart => exact ⟨0, Nat.zero_le _, rfl, rfl, HX.out, HB.out⟩
  case round =>
    clear HX HB
    obtain ⟨k, hk, rfl, hf, hx, hb⟩ := hrel
    have HX := hide hx
    have HB := hide hb
    by_cases hlt : k < os.length
    · obtain ⟨bb, off, hA, hbb, hc0, hc1⟩ := (HR.out.below hb).at hlt
      have hlm : k < (os.map OV.d).length := by simpa using hlt
      have HF := hide (hf.trans (fiO_drop hlm k))
      have HRO := hide (HR.out.2 _ (List.getElem_mem hlt))
      have hyl := HY.out _ (List.getElem_mem hlt)
      have HE := hide (show (os.map OV.d)[k].ys = os[k].ys by simp [OV.d])
      clear hf hx hb
      subst hA
      rw [HE.out] at HF
      clear HE
      generalize hrest : fiO (gives nm b) (k + 1) ((os.map OV.d).drop (k + 1)) = rest at *
      have HRS := hide hrest
      clear hrest
      generalize os[k] = o at *
      go_wp2_with fail
      have B1 : Below wr.heap.size wr (wr.alloc (.cells #[.slice o.A o.ps.length o.c, .slice o.Y o.ys.length o.yc] 31)) := (by repeat (first | exact Below.refl _ _ | with_reducible assumption | (refine Below.drew ?_) | (refine Below.drewN ?_ _) | (refine Below.alloc ?_ (by simp; try omega) _) | (refine Below.setCell ?_ (by simp; try omega) _)))
      have HO := hide (Box.new wr 31 #[.slice o.A o.ps.length o.c, .slice o.Y o.ys.length o.yc])
      replace HB := hide (HB.out.trans (B1.mono HB.out.size))
      replace HX := hide (HX.out.call B1)
      clear B1
      generalize wr.alloc (.cells #[.slice o.A o.ps.length o.c, .slice o.Y o.ys.length o.yc] 31) = w1 at *
      generalize wr.heap.size = X at *
      clear hc0 hc1
      have x1 := HO.out.cell 1
      simp only [List.getElem?_toArray, List.getElem?_cons_zero, List.getElem?_cons_succ] at x1
      have hxl := HO.out.lt
      go_wp2_with fail
      clear x1 hxl
      go_loopw [22] (fun i wi => ∃ j : Nat, j ≤ o.ys.length ∧ i = .int .i64 j ∧ fiO (gives nm b) 0 (os.map OV.d) = fiR (gives nm b) k (fiS (gives nm b) j (o.ys.drop j)) rest ∧ Box wi w.heap.size 109 #[.int .i64 0, .int .i64 0] ∧ Below w.heap.size w wi) (fun i _ => o.ys.length - (intOf i).toNat)
      case atStart => exact ⟨0, Nat.zero_le _, rfl, HF.out, HX.out, HB.out⟩
      case round =>
        clear HX HB HF HO
        obtain ⟨j, hj, rfl, hf, hx, hb⟩ := hrel
        have HX := hide hx
        have HB := hide hb
        by_cases hlj : j < o.ys.length
        · obtain ⟨b2, off2, hY, hb2, hc⟩ := (HRO.out.2.below hb).row symbolC_len (by decide) hlj
          have hc0 := hc 0 _ rfl
          have hc1 := hc 1 _ rfl
          have hc2 := hc 2 _ rfl
          have hc3 := hc 3 _ rfl
          simp only [Nat.add_zero] at hc0
          have HF := hide (hf.trans (by rw [fiS_drop hlj]))
          clear hf hx hb hc
          rw [hY]
          clear hY
          generalize o.ys[j] = z at *
          have HG := hide (show gives nm b z = ((z.1.toList == nm.toList) && (z.2.1 == b) && (z.2.2.1 != -1)) from by
            rw [str_eq]
            rfl)
          obtain ⟨z1, z2, z3, z4⟩ := z
          simp only at hc0 hc1 hc2 hc3 HG
          have HB2 := hide (HB.out.alloc HB.out.size (.cells #[.string z1, .int .i64 z2, .int .i64 z3, .int .i64 z4] 69))
          have HX2 := hide (HX.out.alloc (.cells #[.string z1, .int .i64 z2, .int .i64 z3, .int .i64 z4] 69))
          cases q1 : (z1.toList == nm.toList)
          · rw [q1, Bool.false_and, Bool.false_and] at HG
            have HF' := hide (HF.out.trans (by rw [HG.out]; try rfl))
            clear HF HG
            go_wp2_with fail
            refine ⟨⟨j + 1, by omega, by go_num, HF'.out, HX2.out, HB2.out⟩, by simp [intOf]; omega⟩
          cases q2 : (z2 == b)
          · rw [q1, q2, Bool.and_false, Bool.false_and] at HG
            have HF' := hide (HF.out.trans (by rw [HG.out]; try rfl))
            clear HF HG
            go_wp2_with fail
            refine ⟨⟨j + 1, by omega, by go_num, HF'.out, HX2.out, HB2.out⟩, by simp [intOf]; omega⟩
          cases q3 : (z3 != -1)
          · rw [q1, q2, q3, Bool.and_false] at HG
            have HF' := hide (HF.out.trans (by rw [HG.out]; try rfl))
            clear HF HG
            go_wp2_with fail
            refine ⟨⟨j + 1, by omega, by go_num, HF'.out, HX2.out, HB2.out⟩, by simp [intOf]; omega⟩
          rw [q1, q2, q3, Bool.and_true, Bool.and_true] at HG
          have HF' := hide (HF.out.trans (by rw [HG.out]; try rfl))
          clear HF HG
          have kk := (HX2.out.set 0 (.int .i64 k)).set 1 (.int .i64 j)
          have k0 := kk.cell 0
          have k1 := kk.cell 1
          simp only [List.setIfInBounds_toArray, List.set_cons_zero, List.set_cons_succ, List.getElem?_toArray, List.getElem?_cons_zero, List.getElem?_cons_succ] at k0 k1
          clear kk
          have hxl := HX2.out.lt
          have x0 := HX2.out.cell 0
          have x1 := HX2.out.cell 1
          simp only [List.getElem?_toArray, List.getElem?_cons_zero, List.getElem?_cons_succ] at x0 x1
          have xf0 := HX2.out.frozen 0
          have xf1 := HX2.out.frozen 1
          have HFB := hide (two_below (Y := w.heap.size) HB2.out (Nat.le_refl _) (.int .i64 k) (.int .i64 j))
          go_wp2_with fail
          (try simp only [Exit.inBlock, Exit.then])
          exact bodyPost_ret (v := givV (some (k, j))) (by simp [results, Tryz.results131, go_sem, givV, gin, gat, k0, k1]) rfl (by rw [HF'.out]; exact ⟨rfl, HFB.out⟩)
        · obtain rfl : j = o.ys.length := by omega
          have HF := hide (hf.trans (by rw [List.drop_length]; rfl : _ = rest))
          have HX := hide hx
          have HB := hide hb
          clear hf hx hb
          go_wp2_with fail
          refine ⟨⟨k + 1, by omega, by go_num, by rw [HRS.out]; exact HF.out, HX.out, HB.out⟩, by simp [intOf]; omega⟩
    · obtain rfl : k = os.length := by omega
      have HF := hide (hf.trans (by rw [List.drop_of_length_le (by simp)]; rfl : _ = none))
      clear hf hx hb
      have kk := (HX.out.set 0 (.int .i64 0)).set 1 (.int .i64 0)
      have k0 := kk.cell 0
      have k1 := kk.cell 1
      simp only [List.setIfInBounds_toArray, List.set_cons_zero, List.set_cons_succ, List.getElem?_toArray, List.getElem?_cons_zero, List.getElem?_cons_succ] at k0 k1
      clear kk
      have hxl := HX.out.lt
      have x0 := HX.out.cell 0
      have x1 := HX.out.cell 1
      simp only [List.getElem?_toArray, List.getElem?_cons_zero, List.getElem?_cons_succ] at x0 x1
      have xf0 := HX.out.frozen 0
      have xf1 := HX.out.frozen 1
      have HFB := hide (two_below (Y := w.heap.size) HB.out (Nat.le_refl _) (.int .i64 0) (.int .i64 0))
      go_wp2_with fail
      (try simp only [Exit.inBlock, Exit.then])
      exact bodyPost_ret (v := givV none) (by simp [results, Tryz.results131, go_sem, givV, gin, gat, k0, k1]) rfl (by rw [HF.out]; exact ⟨rfl, HFB.out⟩)
/-- The name's symbol: one that is given strongly, else one that is given weakly. -/
theorem findName_any (A : Option Addr) (os : List OV) (c : Nat) (nm : ByteArray) (w : World) (hr : RdOs w w.heap.size A os) (hm : Lens os) :
    Calls Tryz.prog 72 #[.slice A os.length c, .string nm] w (Ret (givV (findN (os.map OV.d) nm)) w) := by
  have HB := hide (show Below w.heap.size w (w.alloc (.cells #[.int .i64 0, .int .i64 0] 109)) from (by repeat (first | exact Below.refl _ _ | with_reducible assumption | (refine Below.drew ?_) | (refine Below.drewN ?_ _) | (refine Below.alloc ?_ (by simp; try omega) _) | (refine Below.setCell ?_ (by simp; try omega) _))))
  have HX := hide (Box.new w 109 #[.int .i64 0, .int .i64 0])
  have HR := hide hr
  clear hr
  go_enter Tryz.func72, Tryz.ntmps72
  go_wp2_with fail
  generalize w.alloc (.cells #[.int .i64 0, .int .i64 0] 109) = w0 at *
  refine (findBound_any A os c nm 1 w0 ((HR.out.below HB.out).more HB.out.size) hm).mono ?_
  rintro e w1 ⟨rfl, b1⟩
  replace HB := hide (HB.out.trans (b1.mono HB.out.size))
  replace HX := hide (HX.out.call b1)
  clear b1
  generalize hr1 : fiO (gives nm 1) 0 (os.map OV.d) = r at *
  have HR1 := hide hr1
  clear hr1
  cases r with
  | some g =>
    simp only [givV, gin, gat, Option.isSome]
    have kk := (((HX.out.alloc (.cells #[.int .i64 g.1, .int .i64 g.2] 109)).set 0 (.int .i64 g.1)).set 1 (.int .i64 g.2))
    have k0 := kk.cell 0
    have k1 := kk.cell 1
    simp only [List.setIfInBounds_toArray, List.set_cons_zero, List.set_cons_succ, List.getElem?_toArray, List.getElem?_cons_zero, List.getElem?_cons_succ] at k0 k1
    clear kk
    have HFB := hide (two_below (Y := w.heap.size) (HB.out.alloc HB.out.size (.cells #[.int .i64 g.1, .int .i64 g.2] 109)) (Nat.le_refl _) (.int .i64 g.1) (.int .i64 g.2))
    have HX2 := HX.out.alloc (.cells #[.int .i64 g.1, .int .i64 g.2] 109)
    have hxl := HX2.lt
    have x0 := HX2.cell 0
    have x1 := HX2.cell 1
    simp only [List.getElem?_toArray, List.getElem?_cons_zero, List.getElem?_cons_succ] at x0 x1
    have xf0 := HX2.frozen 0
    have xf1 := HX2.frozen 1
    clear HX2
    go_wp2_with fail
    exact bodyPost_ret (v := givV (some g)) (by simp [results, Tryz.results72, go_sem, givV, gin, gat, k0, k1]) rfl (by rw [find_name, HR1.out]; exact ⟨rfl, HFB.out⟩)
  | none =>
    simp only [givV, gin, gat, Option.isSome]
    go_wp2_with fail
    have B1 : Below w1.heap.size w1 (w1.alloc (.cells #[.int .i64 0, .int .i64 0] 109)) := (by repeat (first | exact Below.refl _ _ | with_reducible assumption | (refine Below.drew ?_) | (refine Below.drewN ?_ _) | (refine Below.alloc ?_ (by simp; try omega) _) | (refine Below.setCell ?_ (by simp; try omega) _)))
    replace HB := hide (HB.out.trans (B1.mono HB.out.size))
    replace HX := hide (HX.out.call B1)
    clear B1
    generalize w1.alloc (.cells #[.int .i64 0, .int .i64 0] 109) = w2 at *
    refine (findBound_any A os c nm 2 w2 ((HR.out.below HB.out).more HB.out.size) hm).mono ?_
    rintro e w3 ⟨rfl, b3⟩
    replace HB := hide (HB.out.trans (b3.mono HB.out.size))
    replace HX := hide (HX.out.call b3)
    clear b3
    generalize hr2 : fiO (gives nm 2) 0 (os.map OV.d) = r at *
    have HR2 := hide hr2
    clear hr2
    simp only [givV]
    have kk := ((HX.out.set 0 (.int .i64 (gin r))).set 1 (.int .i64 (gat r)))
    have k0 := kk.cell 0
    have k1 := kk.cell 1
    simp only [List.setIfInBounds_toArray, List.set_cons_zero, List.set_cons_succ, List.getElem?_toArray, List.getElem?_cons_zero, List.getElem?_cons_succ] at k0 k1
    clear kk
    have HFB := hide (two_below (Y := w.heap.size) HB.out (Nat.le_refl _) (.int .i64 (gin r)) (.int .i64 (gat r)))
    have hxl := HX.out.lt
    have x0 := HX.out.cell 0
    have x1 := HX.out.cell 1
    simp only [List.getElem?_toArray, List.getElem?_cons_zero, List.getElem?_cons_succ] at x0 x1
    have xf0 := HX.out.frozen 0
    have xf1 := HX.out.frozen 1
    go_wp2_with fail
    exact bodyPost_ret (v := givV r) (by simp [results, Tryz.results72, go_sem, givV, k0, k1]) rfl (by rw [find_name, HR1.out, HR2.out]; exact ⟨rfl, HFB.out⟩)
end Go.Proofs.YtmglgjchemecjaaGreat.CFind
/- ObjectsValid and isBase, within, aligned. -/
namespace Go.Proofs.YtmglgjchemecjaaGreat.CValids
set_option maxRecDepth 200000
open Go.ChangeShapes Go.WideShapes Go.ChangeAt Go.RowKit Kit CCode CName CFixups CSymbols PObj BObj PValid CObjValid BList PLink
theorem bad_any (o : OV) (w : World) (hr : RdO w w.heap.size o) (hf : Fit o) :
    Calls Tryz.prog 168 #[.agg #[.slice o.A o.ps.length o.c, .slice o.Y o.ys.length o.yc]] w (Ret (.bool (!objOk o.d)) w) := by
  have HB := hide (show Below w.heap.size w (w.alloc (.cells #[.slice o.A o.ps.length o.c, .slice o.Y o.ys.length o.yc] 31)) from (by repeat (first | exact Below.refl _ _ | with_reducible assumption | (refine Below.drew ?_) | (refine Below.drewN ?_ _) | (refine Below.alloc ?_ (by simp; try omega) _) | (refine Below.setCell ?_ (by simp; try omega) _))))
  have HX := hide (Box.new w 31 #[.slice o.A o.ps.length o.c, .slice o.Y o.ys.length o.yc])
  have HR := hide hr
  clear hr
  have x0 := HX.out.cell 0
  have x1 := HX.out.cell 1
  simp only [List.getElem?_toArray, List.getElem?_cons_zero, List.getElem?_cons_succ] at x0 x1
  have hxl := HX.out.lt
  go_enter Tryz.func168, Tryz.ntmps168
  go_wp2_with fail
  generalize w.alloc (.cells #[.slice o.A o.ps.length o.c, .slice o.Y o.ys.length o.yc] 31) = w0 at *
  refine (objectValid_any o w0 ((HR.out.below HB.out).more HB.out.size) hf).mono ?_
  rintro e w1 ⟨rfl, b1⟩
  replace HB := hide (HB.out.trans (b1.mono HB.out.size))
  clear b1
  clear x0 x1 hxl HX
  go_wp2_with fail
  go_ret
  exact ⟨rfl, HB.out⟩
theorem indexBad_any (A : Option Addr) (os : List OV) (c : Nat) (w : World) (hr : RdOs w w.heap.size A os) (hf : Fits os) :
    Calls Tryz.prog 187 #[.slice A os.length c, .func (.func 168) #[] #[]] w fun e w' => ∃ r : Int, e = .returned (.int .i64 r) ∧ decide (0 ≤ r) = os.any (fun o => !objOk o.d) ∧ Below w.heap.size w w' := by
  obtain ⟨hm, hfo⟩ := hf
  have HR := hide hr
  have HFT := hide hfo
  clear hr hfo
  go_enter Tryz.func187, Tryz.ntmps187
  go_wp2_with fail
  go_loopw [8] (fun i wr => ∃ k : Nat, k ≤ os.length ∧ i = .int .i64 k ∧ (os.take k).any (fun o => !objOk o.d) = false ∧ Below w.heap.size w wr) (fun i _ => os.length - (intOf i).toNat)
  case atStart => exact ⟨0, Nat.zero_le _, rfl, rfl, Below.refl _ _⟩
  case round =>
    obtain ⟨k, hk, rfl, hn, hb⟩ := hrel
    have HB := hide hb
    by_cases hlt : k < os.length
    · obtain ⟨b, off, hA, hbb, hc0, hc1⟩ := (HR.out.below hb).at hlt
      have HS := hide (show (os.take (k + 1)).any (fun o => !objOk o.d) = !objOk os[k].d by rw [take_succ hlt, List.any_append, hn]; simp)
      have HT := hide (show objOk os[k].d = false → os.any (fun o => !objOk o.d) = true from fun h => List.any_eq_true.2 ⟨_, List.getElem_mem hlt, by rw [h]; rfl⟩)
      have HP := hide (bad_any os[k] wr (((HR.out.2 _ (List.getElem_mem hlt)).below hb).more hb.size) (HFT.out _ (List.getElem_mem hlt)))
      clear hb hn
      subst hA
      generalize os[k] = o at *
      have hpred := HP.out
      cases h : objOk o.d
      · have HT' := hide (HT.out h)
        rw [h] at hpred
        clear HT HS h HP
        go_wp2_with fail
        refine hpred.mono ?_
        rintro e w2 ⟨rfl, b2⟩
        have HB' := hide (HB.out.trans (b2.mono HB.out.size))
        clear b2 hc0 hc1 HB
        go_wp2_with fail
        go_ret
        exact ⟨k, rfl, by rw [HT'.out]; simp, HB'.out⟩
      · have HS' := hide (show (os.take (k + 1)).any (fun o => !objOk o.d) = false by rw [HS.out, h]; rfl)
        rw [h] at hpred
        clear HT HS h HP
        go_wp2_with fail
        refine hpred.mono ?_
        rintro e w2 ⟨rfl, b2⟩
        have HB' := hide (HB.out.trans (b2.mono HB.out.size))
        clear b2 hc0 hc1 HB
        go_wp2_with fail
        refine ⟨⟨k + 1, by omega, by go_num, HS'.out, HB'.out⟩, by simp [intOf]; omega⟩
    · have HN := hide (show os.any (fun o => !objOk o.d) = false by rw [← hn, List.take_of_length_le (by omega)])
      clear hb hn
      go_wp2_with fail
      go_ret
      exact ⟨-1, rfl, by rw [HN.out]; rfl, HB.out⟩
theorem containsBad_any (A : Option Addr) (os : List OV) (c : Nat) (w : World) (hr : RdOs w w.heap.size A os) (hf : Fits os) :
    Calls Tryz.prog 167 #[.slice A os.length c, .func (.func 168) #[] #[]] w (Ret (.bool (os.any (fun o => !objOk o.d))) w) := by
  have HQ := hide (indexBad_any A os c w hr hf)
  clear hr hf
  go_enter Tryz.func167, Tryz.ntmps167
  go_wp2_with fail
  refine HQ.out.mono ?_
  rintro e w2 ⟨r, rfl, hr2, b2⟩
  have HR := hide hr2
  have HB := hide b2
  clear hr2 b2
  go_wp2_with fail
  go_ret
  exact ⟨by rw [← HR.out]; rfl, HB.out⟩
theorem all_any (os : List OV) : (!(os.any fun o => !objOk o.d)) = (os.map OV.d).all objOk := by
  rw [List.all_map]
  induction os with
  | nil => rfl
  | cons o os ih =>
    simp only [List.any_cons, List.all_cons, Bool.not_or, Bool.not_not, ih]
    rfl
theorem allValid_any (A : Option Addr) (os : List OV) (c : Nat) (w : World) (hr : RdOs w w.heap.size A os) (hf : Fits os) :
    Calls Tryz.prog 152 #[.slice A os.length c] w (Ret (.bool ((os.map OV.d).all objOk)) w) := by
  have HQ := hide (containsBad_any A os c w hr hf)
  have HE := hide (all_any os)
  clear hr hf
  generalize (os.map OV.d).all objOk = v at *
  go_enter Tryz.func152, Tryz.ntmps152
  go_wp2_with fail
  refine HQ.out.mono ?_
  rintro e w2 ⟨rfl, b2⟩
  have HB := hide b2
  clear b2
  go_wp2_with fail
  go_ret
  exact ⟨by rw [← HE.out]; rfl, HB.out⟩
theorem objectsValid_any (A : Option Addr) (os : List OV) (c : Nat) (w : World) (hr : RdOs w w.heap.size A os) (hf : Fits os) :
    Calls Tryz.prog 116 #[.slice A os.length c] w (Ret (.bool (objsOk (os.map OV.d))) w) := by
  have HQ := hide (allValid_any A os c w hr hf)
  have hn := hf.n
  clear hr hf
  unfold objsOk
  rw [List.length_map]
  generalize (os.map OV.d).all objOk = v at *
  go_enter Tryz.func116, Tryz.ntmps116
  by_cases h4 : os.length ≤ 4
  · have e1 : decide ((os.length : Int) ≤ 4) = true := decide_eq_true (by omega)
    have HV := hide (show (decide (os.length ≤ 4) && v) = v by rw [decide_eq_true h4]; rfl)
    clear h4
    go_wp2_with fail
    refine HQ.out.mono ?_
    rintro e w2 ⟨rfl, b2⟩
    have HB := hide b2
    clear b2
    go_wp2_with fail
    go_ret
    exact ⟨by rw [HV.out]; rfl, HB.out⟩
  · have e1 : decide ((os.length : Int) ≤ 4) = false := decide_eq_false (by omega)
    have HV := hide (show (decide (os.length ≤ 4) && v) = false by rw [decide_eq_false h4]; rfl)
    clear h4
    go_wp2_with fail
    go_ret
    exact ⟨by rw [HV.out]; rfl, Below.refl _ _⟩
theorem isBase_any (b : Int) (w : World) : Calls Tryz.prog 117 #[.int .i64 b] w (Pure (.bool (baseOk b)) w) := by
  unfold baseOk
  cases h1 : inB b 0 4096
  · have HE := hide (show (decide (0 ≤ b ∧ b ≤ 4096) && decide (b % 8 = 0)) = false by unfold inB at h1; rw [h1]; rfl)
    generalize (decide (0 ≤ b ∧ b ≤ 4096) && decide (b % 8 = 0)) = v at *
    go_enter Tryz.func117, Tryz.ntmps117
    go_wp2_with fail
    refine (within_any _ _ _ _).mono ?_
    rintro e w' ⟨rfl, rfl⟩
    rw [h1]
    go_wp2_with fail
    go_ret
    exact ⟨ret_bool HE.out.symm, rfl⟩
  · have hb : 0 ≤ b ∧ b ≤ 4096 := by simpa [inB] using h1
    have HE := hide (show (decide (0 ≤ b ∧ b ≤ 4096) && decide (b % 8 = 0)) = decide (b % 8 = 0) by unfold inB at h1; rw [h1]; rfl)
    have HI := hide h1
    clear h1
    generalize (decide (0 ≤ b ∧ b ≤ 4096) && decide (b % 8 = 0)) = v at *
    by_cases h2 : b % 8 = 0
    · have h2' : (b % 8 == 0) = true := by simpa using h2
      go_enter Tryz.func117, Tryz.ntmps117
      go_wp2_with fail
      refine (within_any _ _ _ _).mono ?_
      rintro e w' ⟨rfl, rfl⟩
      rw [HI.out]
      go_wp2_with fail
      go_ret
      exact ⟨ret_bool (by rw [HE.out, decide_eq_true h2]), rfl⟩
    · have h2' : (b % 8 == 0) = false := by simpa using h2
      have HH := hide h2
      clear h2
      go_enter Tryz.func117, Tryz.ntmps117
      go_wp2_with fail
      refine (within_any _ _ _ _).mono ?_
      rintro e w' ⟨rfl, rfl⟩
      rw [HI.out]
      go_wp2_with fail
      go_ret
      exact ⟨ret_bool (by rw [HE.out, decide_eq_false HH.out]), rfl⟩
theorem tdiv_al (n q : Int) (hn : 0 ≤ n) (hq : 1 ≤ q) : Int.tdiv (n + q - 1) q * q = al n q := by
  unfold al
  rw [Int.tdiv_eq_ediv_of_nonneg (by omega)]
theorem aligned_any (n q : Int) (w : World) (hn : 0 ≤ n) (hb : n ≤ 1000000) (ht : alignOk q = true) : Calls Tryz.prog 115 #[.int .i64 n, .int .i64 q] w (Pure (.int .i64 (al n q)) w) := by
  obtain ⟨h1, h2⟩ := al_bd hn ht
  have hq8 : 1 ≤ q ∧ q ≤ 8 := by
    simp only [alignOk, Bool.or_eq_true, decide_eq_true_eq] at ht
    omega
  obtain ⟨q1, q2⟩ := hq8
  have HE := hide (tdiv_al n q hn q1)
  have e3 : 0 ≤ Int.tdiv (n + q - 1) q ∧ Int.tdiv (n + q - 1) q ≤ 1000008 := by
    rw [Int.tdiv_eq_ediv_of_nonneg (by omega)]
    have a1 : 0 ≤ (n + q - 1) / q := Int.ediv_nonneg (by omega) (by omega)
    have a2 := Int.ediv_le_self q (show 0 ≤ n + q - 1 by omega)
    omega
  generalize al n q = m at *
  have hq0 : (q == 0) = false := beq_eq_false_iff_ne.2 (by omega)
  have w1 : IntKind.i64.wrap (n + q) = n + q := IntWalk.i64_in _ (by omega)
  have w2 : IntKind.i64.wrap (n + q - 1) = n + q - 1 := IntWalk.i64_in _ (by omega)
  clear ht
  go_enter Tryz.func115, Tryz.ntmps115
  go_wp2_with fail
  go_ret
  refine ⟨?_, rfl⟩
  show Ending.returned (Value.int .i64 (wrap64 ((n + q - 1).tdiv q * q))) = _
  rw [HE.out, show wrap64 m = m from by unfold wrap64; omega]
end Go.Proofs.YtmglgjchemecjaaGreat.CValids
/- A slice that is made, in a region that draws its order; a box far from a store. -/
namespace Go.Proofs.YtmglgjchemecjaaGreat.BMake
set_option maxRecDepth 200000
open Go.ChangeShapes Go.WideShapes Go.ChangeAt Go.RowKit Kit CFixups CSymbols PObj BObj
theorem step_make {P : Program} {ops : Array Oper} {o : Oper} {a : Act} {K : Act → World → Prop} {Q : Exit → Act → World → Prop} {E : Prop} {w : World}
    (hg : o.guard = none) (l c : Operand) (t : TypeId) (hop : o.op = Op.makeSlice t l c)
    (base : Nat) (e : TypeId) (i : TypeInfo) (z : Value) (size : Nat) (h1 : P.underlying t = some (.slice e)) (h2 : P.info? e = some i) (h3 : i.zero = some z) (h4 : i.size = size)
    (kl kc : IntKind) (L C : Int) (n : Nat) (hl : a.eval l = .int kl L) (hc : a.eval c = .int kc C) (hL : L = (n : Int)) (hC : C = (n : Int)) (b2 : i.bytes * n ≤ 281474976710656) (b3 : n ≤ maxLen) (b4 : base ≤ w.heap.size)
    (hK : ∀ w', w'.ownsRow base e size (.slice (some ⟨w.heap.size, 0, none⟩) n n) n (madeCells z.cells (n * size)).toList → w.grownBy w' none → K (a.put o.dst (.slice (some ⟨w.heap.size, 0, none⟩) n n)) w') :
    if Region.wanted o (yielded ops a.tmps) = true then Oper.wp P o a w K Q else E := by
  have hw : Region.wanted o (yielded ops a.tmps) = true := by simp [Region.wanted, hg]
  rw [if_pos hw]
  obtain ⟨w', hrun, r1, r2⟩ := run_make_full (P := P) w base t e i z size h1 h2 h3 h4 kl kc n b2 b3 b4
  subst hL
  subst hC
  unfold Oper.wp
  simp [execOp, hop, hl, hc, hrun, Result.andThen]
  exact hK _ r1 r2
theorem box_setFar {w : World} {X g i : Nat} {t : TypeId} {cs : Array Value} {u : Value} (h : Box w X t cs) (hne : X ≠ g) : Box (w.setCell ⟨g, i, none⟩ u) X t cs := (Below.heap_setCell w ⟨g, i, none⟩ u X hne).trans h
end Go.Proofs.YtmglgjchemecjaaGreat.BMake
/- A layout in memory while it is laid out: the places, where the kinds end. -/
namespace Go.Proofs.YtmglgjchemecjaaGreat.BLay
set_option maxRecDepth 200000
open Go.ChangeShapes Go.WideShapes Go.ChangeAt Go.RowKit Kit CFixups CSymbols PObj BObj CMarkRows BStore BList PLink
structure LI (w0 : World) (X : Nat) (A : Option Addr) (c : Nat) (rs : List RV) (E : Option Addr) (ec : Nat) (es : List RV) (w : World) : Prop where
  hrs : OwnRs w w0.heap.size A c rs
  hes : OwnRs w w0.heap.size E ec es
  out : Apart A c E ec
  inn : ∀ p ∈ rs, ∀ q ∈ es, Apart p.A p.c q.A q.c
  x : Box w X 87 #[.slice A rs.length c, .slice E es.length ec]
  r : Box w w0.heap.size 87 #[.slice none 0 0, .slice none 0 0]
  b : Below w0.heap.size w0 w
  xr : w0.heap.size < X
theorem map_setP (rs : List RV) (k i : Nat) (v : Int) (hk : k < rs.length) : (rs.set k { rs[k] with zs := rs[k].zs.set i v }).map RV.zs = setP (rs.map RV.zs) k i v := by
  unfold setP
  rw [List.map_set, List.getD_eq_getElem?_getD, List.getElem?_map, List.getElem?_eq_getElem hk]
  rfl
section
variable {w0 w w' : World} {X : Nat} {A E : Option Addr} {c ec : Nat} {rs es : List RV}
theorem LI.call (h : LI w0 X A c rs E ec es w) (hb : Below w.heap.size w w') : LI w0 X A c rs E ec es w' :=
  ⟨h.hrs.call hb, h.hes.call hb, h.out, h.inn, h.x.call hb, h.r.call hb, h.b.trans (hb.mono h.b.size), h.xr⟩
theorem LI.put (h : LI w0 X A c rs E ec es w) {k : Nat} (hk : k < rs.length) {i : Nat} (hi : i < rs[k].zs.length) (v : Int) :
    ∃ g, rs[k].A = some ⟨g, 0, none⟩ ∧ g < w.heap.size ∧ (∀ (Y : Nat) (t : TypeId) (cs : Array Value), Box w Y t cs → 3 ≠ t → Y ≠ g) ∧ (w.frozen? ⟨g, i, none⟩ = false) ∧ (∃ u, w.cell? ⟨g, i, none⟩ = some (.int .i64 u)) ∧ LI w0 X A c (rs.set k { rs[k] with zs := rs[k].zs.set i v }) E ec es (w.setCell ⟨g, i, none⟩ (.int .i64 v)) := by
  obtain ⟨g, hA, hb1, hb2, hbk, ⟨cs, hbox⟩, hf, hu, hown⟩ := h.hrs.put hk hi v
  have hq := h.hrs.2.1 rs[k] (List.getElem_mem hk)
  refine ⟨g, hA, hb2, (fun Y t cs hY ht e => hq.box hY ht g hbk e.symm), hf, hu, hown, ?_, h.out, ?_, ?_, ?_, ?_, h.xr⟩
  · refine h.hes.keep fun j _ _ hj => Below.heap_setCell w ⟨g, i, none⟩ _ j ?_
    rintro rfl
    rcases hj with hj | ⟨q, hq2, hj⟩
    · exact apartT h.hes.1 hq (by decide) _ hj hbk
    · exact h.inn _ (List.getElem_mem hk) q hq2 _ hbk hj
  · intro p hp q hq2
    obtain ⟨j, hj, rfl⟩ := List.getElem_of_mem hp
    rw [List.length_set] at hj
    rw [List.getElem_set]
    by_cases hkj : k = j
    · subst hkj
      rw [if_pos rfl]
      exact h.inn _ (List.getElem_mem hk) q hq2
    · rw [if_neg hkj]
      exact h.inn _ (List.getElem_mem hj) q hq2
  · have hx := BMake.box_setFar (g := g) (i := i) (u := .int .i64 v) h.x (fun e => hq.box h.x (by decide) g hbk e.symm)
    rw [List.length_set]
    exact hx
  · exact BMake.box_setFar (g := g) (i := i) (u := .int .i64 v) h.r (fun e => hq.box h.r (by decide) g hbk e.symm)
  · exact h.b.setCell (p := ⟨g, i, none⟩) hb1 _
/-- A row of an end is put behind the last. -/
theorem LI.snoc (h : LI w0 X A c rs E ec es w) {q : RV} (hq : RwR w w0.heap.size q) {N : Nat} (hold : ∀ p ∈ es, ∀ k, blk p.A p.c = some k → k < N) (holdr : ∀ p ∈ rs, ∀ k, blk p.A p.c = some k → k < N) (hnew : ∀ k, blk q.A q.c = some k → N ≤ k)
    {E' : Option Addr} {n' c' : Nat} (hn : n' = es.length + 1) (row : Row w' w0.heap.size 67 1 E' n' c' (cellsOf rowC es ++ rowC q)) (g : w.grownBy w' (blk E ec)) (hk : ∀ k, blk E' c' = some k → blk E ec = some k ∨ w.heap.size ≤ k) :
    LI w0 X A c rs E' c' (es ++ [q]) (w'.setCell ⟨X, 1, none⟩ (.slice E' n' c')) := by
  have hes := OwnRs.snoc h.hes hq hold hnew hn row g
  have hx := h.x.grown g (h.hes.1.box h.x (by decide))
  have hr := h.r.grown g (h.hes.1.box h.r (by decide))
  have hrs : OwnRs w' w0.heap.size A c rs := ⟨h.hrs.1.grown g (fun j hj e => h.out j hj e), fun p hp => (h.hrs.2.1 p hp).grown g (fun j hj => apartT (h.hrs.2.1 p hp) h.hes.1 (by decide) j hj), h.hrs.2.2⟩
  have hb := h.b.grown g h.b.size (fun j hj => (h.hes.1.lt j hj).1)
  have hX := h.xr
  refine ⟨hrs.set hx (by decide) (by decide) 1 _, hes.set hx (by decide) (by decide) 1 _, ?_, ?_, ?_, BMake.box_setFar hr (by omega), hb.setCell (p := ⟨X, 1, none⟩) (show w0.heap.size ≤ X by omega) _, h.xr⟩
  · intro j h1 h2
    rcases hk j h2 with h3 | h3
    · exact h.out j h1 h3
    · have := (h.hrs.1.lt j h1).2
      omega
  · intro p hp q' hq'
    rcases List.mem_append.1 hq' with hq' | hq'
    · exact h.inn p hp q' hq'
    · have e := List.mem_singleton.1 hq'
      subst e
      intro j h1 h2
      have e1 := holdr p hp j h1
      have e2 := hnew j h2
      omega
  · subst hn
    have := hx.set 1 (.slice E' (es.length + 1) c')
    rw [List.length_append]
    exact this
end
end Go.Proofs.YtmglgjchemecjaaGreat.BLay
/- layoutOf: where the sections of objects lie. -/
namespace Go.Proofs.YtmglgjchemecjaaGreat.CLayout
set_option maxRecDepth 200000
open Go.ChangeShapes Go.WideShapes Go.ChangeAt Go.RowKit Kit CCode CName CFixups CSymbols PObj BObj PValid CSecValid CObjValid BStore CMarkRows BMake BList PLink CValids BLay
theorem infoR : (Tryz.prog.info? 67).map (fun i => (i.zero, i.size, i.bytes)) = some (some (.slice none 0 0), 1, 24) := by kernel_rfl
theorem rdRs_nil (w : World) (B : Nat) (A : Option Addr) : RdRs w B A [] := ⟨Rd.nil _, fun r hr => by cases hr⟩
/-- A layout: the places of all sections, and where the kinds end. -/
def LayV (l : List OD) (base : Int) (w : World) (e : Ending) (w' : World) : Prop :=
  ∃ A c rs E ec es, e = .returned (.tuple #[.agg #[.slice A (rs : List RV).length c, .slice E (es : List RV).length ec], .bool (objsOk l && baseOk base)]) ∧ ((objsOk l && baseOk base) = true → rs.map RV.zs = (lay l base).2 ∧ es.length = 3 ∧ ∃ x, (es.map RV.zs).getD 2 [] = [x, (lay l base).1]) ∧ RdRs w' w'.heap.size A rs ∧ RdRs w' w'.heap.size E es ∧ Below w.heap.size w w'
theorem lay_bad {l : List OD} {base : Int} {w w' : World} (h : (objsOk l && baseOk base) = false) (hb : Below w.heap.size w w') : LayV l base w (.returned (.tuple #[.agg #[.slice none 0 0, .slice none 0 0], .bool false])) w' :=
  ⟨none, 0, [], none, 0, [], by rw [h]; rfl, (fun h' => by rw [h] at h'; cases h'), rdRs_nil _ _ _, rdRs_nil _ _ _, hb⟩
theorem sec_size {many : Int} {d : SD} (h : secOk many d = true) : (0 ≤ secSize d ∧ secSize d ≤ 48) ∧ alignOk d.al = true ∧ 1 ≤ d.kd ∧ d.kd ≤ 3 := by
  rw [secOk, Bool.and_eq_true] at h
  obtain ⟨h1, h2⟩ := h
  simp only [headOk, Bool.and_eq_true, inB, decide_eq_true_eq] at h1
  refine ⟨?_, h1.2, h1.1.2.1, h1.1.2.2⟩
  unfold secSize
  by_cases hk : d.kd = 3
  · rw [if_pos hk] at h2 ⊢
    simp only [blankOk, Bool.and_eq_true, inB, decide_eq_true_eq] at h2
    exact h2.1.1
  · rw [if_neg hk] at h2 ⊢
    simp only [bodyOk, Bool.and_eq_true, decide_eq_true_eq] at h2
    omega
def Shp (l : List OD) (P : List (List Int)) : Prop := P.map List.length = l.map fun d => d.ss.length
theorem shp_set {l : List OD} {P : List (List Int)} (h : Shp l P) (k i : Nat) (v : Int) : Shp l (setP P k i v) := by
  unfold Shp at *
  rw [← h]
  unfold setP
  refine List.ext_getElem? fun j => ?_
  rw [List.getElem?_map, List.getElem?_map, List.getElem?_set]
  by_cases hkj : k = j
  · subst hkj
    rw [if_pos rfl]
    by_cases hk : k < P.length
    · rw [if_pos hk, List.getD_eq_getElem?_getD, List.getElem?_eq_getElem hk]
      simp
    · rw [if_neg hk, List.getElem?_eq_none (by omega)]
  · rw [if_neg hkj]
theorem shp_at {l : List OD} {P : List (List Int)} (h : Shp l P) {k : Nat} (hk : k < l.length) : ∃ hp : k < P.length, P[k].length = l[k].ss.length := by
  have hl : P.length = l.length := by simpa using congrArg List.length h
  refine ⟨by omega, ?_⟩
  have h2 : (P.map List.length)[k]? = (l.map fun d => d.ss.length)[k]? := by rw [h]
  rw [List.getElem?_map, List.getElem?_map, List.getElem?_eq_getElem hk, List.getElem?_eq_getElem (by omega)] at h2
  simpa using h2
theorem shp_zero (l : List OD) : Shp l (zeroP l) := by
  unfold Shp zeroP
  rw [List.map_map]
  exact List.map_congr_left fun d _ => List.length_replicate
/-- The kinds that are left. -/
def kindsS (l : List OD) (ks : List Int) (st : St) : St := ks.foldl (fun st kd => kindS l kd st) st
theorem lay_kinds (l : List OD) (base : Int) : lay l base = kindsS l [1, 2, 3] (base, zeroP l) := rfl
theorem kinds_drop (l : List OD) {j : Nat} (hj : j < 3) (st : St) : kindsS l (([1, 2, 3] : List Int).drop j) st = kindsS l (([1, 2, 3] : List Int).drop (j + 1)) (foldO (j + 1) 0 l (al st.1 8, st.2)) := by
  have h : j = 0 ∨ j = 1 ∨ j = 2 := by omega
  rcases h with rfl | rfl | rfl <;> rfl
theorem step_bd {kd a : Int} {k i : Nat} {s : SD} {P : List (List Int)} (h1 : 0 ≤ secSize s ∧ secSize s ≤ 48) (h2 : alignOk s.al = true) (h0 : 0 ≤ a) : 0 ≤ (stepS kd k i s (a, P)).1 ∧ (stepS kd k i s (a, P)).1 ≤ a + 60 := by
  obtain ⟨e1, e2⟩ := al_bd h0 h2
  unfold stepS
  by_cases hk : s.kd = kd
  · rw [decide_eq_true hk]
    simp only [cond_true]
    omega
  · rw [decide_eq_false hk]
    simp only [cond_false]
    omega
def Q (j k i : Nat) : Int := 4104 + 2000 * j + 490 * k + 60 * i
def Al8 (a : Int) : Int := al a 8
set_option maxHeartbeats 4000000 in
theorem layoutOf_any (A : Option Addr) (os : List OV) (c : Nat) (base : Int) (w : World) (hr : RdOs w w.heap.size A os) (hf : Fits os) :
    Calls Tryz.prog 55 #[.slice A os.length c, .int .i64 base] w (LayV (os.map OV.d) base w) := by
  obtain ⟨i0, hi1, hi2, hi3, hi4⟩ := info_parts infoR
  have HI := hide (And.intro hi1 (And.intro hi2 (And.intro hi3 hi4)))
  clear hi1 hi2 hi3 hi4
  obtain ⟨j0, hj1, hj2, hj3, hj4⟩ := info_parts CInts.info64
  have HJ := hide (And.intro hj1 (And.intro hj2 (And.intro hj3 hj4)))
  clear hj1 hj2 hj3 hj4
  have HR := hide hr
  have HF := hide hf
  clear hr hf
  have HB := hide (show Below w.heap.size w (w.alloc (.cells #[.slice none 0 0, .slice none 0 0] 87)) from (by repeat (first | exact Below.refl _ _ | with_reducible assumption | (refine Below.drew ?_) | (refine Below.drewN ?_ _) | (refine Below.alloc ?_ (by simp; try omega) _) | (refine Below.setCell ?_ (by simp; try omega) _))))
  have HRR := hide (Box.new w 87 #[.slice none 0 0, .slice none 0 0])
  go_enter Tryz.func55, Tryz.ntmps55
  go_wp2_with fail
  generalize w.alloc (.cells #[.slice none 0 0, .slice none 0 0] 87) = w0 at *
  refine (objectsValid_any A os c w0 ((HR.out.below HB.out).more HB.out.size) HF.out).mono ?_
  rintro e w1 ⟨rfl, b1⟩
  replace HB := hide (HB.out.trans (b1.mono HB.out.size))
  replace HRR := hide (HRR.out.call b1)
  clear b1
  have HL := hide (fun (w9 : World) => @lay_bad (os.map OV.d) base w w9)
  cases hok : objsOk (os.map OV.d)
  · have HV := hide (show (objsOk (os.map OV.d) && baseOk base) = false by rw [hok]; rfl)
    clear hok
    have y0 := HRR.out.cell 0
    have y1 := HRR.out.cell 1
    simp only [List.getElem?_toArray, List.getElem?_cons_zero, List.getElem?_cons_succ] at y0 y1
    have yf0 := HRR.out.frozen 0
    have yf1 := HRR.out.frozen 1
    have hrl := HRR.out.lt
    have kk := (HRR.out.set 0 (.slice none 0 0)).set 1 (.slice none 0 0)
    have k0 := kk.cell 0
    have k1 := kk.cell 1
    simp only [List.setIfInBounds_toArray, List.set_cons_zero, List.set_cons_succ, List.getElem?_toArray, List.getElem?_cons_zero, List.getElem?_cons_succ] at k0 k1
    clear kk
    have HFB := hide (two_below (Y := w.heap.size) HB.out (Nat.le_refl _) (.slice none 0 0) (.slice none 0 0))
    go_wp2_with fail
    (try simp only [Exit.inBlock, Exit.then])
    exact bodyPost_ret (v := .tuple #[.agg #[.slice none 0 0, .slice none 0 0], .bool false]) (by simp [results, Tryz.results55, go_sem, k0, k1]) rfl (HL.out _ HV.out HFB.out)
  go_wp2_with fail
  refine (isBase_any base w1).mono ?_
  rintro e w' ⟨rfl, rfl⟩
  cases hbs : baseOk base
  · have HV := hide (show (objsOk (os.map OV.d) && baseOk base) = false by rw [hok, hbs]; rfl)
    clear hok hbs
    have y0 := HRR.out.cell 0
    have y1 := HRR.out.cell 1
    simp only [List.getElem?_toArray, List.getElem?_cons_zero, List.getElem?_cons_succ] at y0 y1
    have yf0 := HRR.out.frozen 0
    have yf1 := HRR.out.frozen 1
    have hrl := HRR.out.lt
    have kk := (HRR.out.set 0 (.slice none 0 0)).set 1 (.slice none 0 0)
    have k0 := kk.cell 0
    have k1 := kk.cell 1
    simp only [List.setIfInBounds_toArray, List.set_cons_zero, List.set_cons_succ, List.getElem?_toArray, List.getElem?_cons_zero, List.getElem?_cons_succ] at k0 k1
    clear kk
    have HFB := hide (two_below (Y := w.heap.size) HB.out (Nat.le_refl _) (.slice none 0 0) (.slice none 0 0))
    go_wp2_with fail
    (try simp only [Exit.inBlock, Exit.then])
    exact bodyPost_ret (v := .tuple #[.agg #[.slice none 0 0, .slice none 0 0], .bool false]) (by simp [results, Tryz.results55, go_sem, k0, k1]) rfl (HL.out _ HV.out HFB.out)
  clear HL
  have HV := hide (show (objsOk (os.map OV.d) && baseOk base) = true by rw [hok, hbs]; rfl)
  have hb0 : 0 ≤ base ∧ base ≤ 4096 := by
    simp only [baseOk, Bool.and_eq_true, decide_eq_true_eq] at hbs
    exact hbs.1
  obtain ⟨hb1, hb2⟩ := hb0
  have hol : os.length ≤ 4 := by
    simp only [objsOk, Bool.and_eq_true, decide_eq_true_eq, List.length_map] at hok
    exact hok.1
  have HALL := hide (show ∀ o ∈ os, o.ps.length ≤ 8 ∧ ∀ p ∈ o.ps, (0 ≤ secSize p.d ∧ secSize p.d ≤ 48) ∧ alignOk p.d.al = true from fun o ho => by
    simp only [objsOk, Bool.and_eq_true, List.all_eq_true] at hok
    have h := hok.2 _ (List.mem_map_of_mem ho)
    simp only [objOk, Bool.and_eq_true, decide_eq_true_eq, List.all_eq_true] at h
    refine ⟨by simpa [OV.d] using h.1.1.1, fun p hp => ?_⟩
    have hs := sec_size (h.1.2 p.d (List.mem_map_of_mem hp))
    exact ⟨hs.1, hs.2.1⟩)
  clear hok hbs
  go_wp2_with fail
  have B2 : Below w1.heap.size w1 (w1.alloc (.cells #[.slice none 0 0, .slice none 0 0] 87)) := (by repeat (first | exact Below.refl _ _ | with_reducible assumption | (refine Below.drew ?_) | (refine Below.drewN ?_ _) | (refine Below.alloc ?_ (by simp; try omega) _) | (refine Below.setCell ?_ (by simp; try omega) _)))
  have HX := hide (Box.new w1 87 #[.slice none 0 0, .slice none 0 0])
  have hRX : w.heap.size < w1.heap.size := HRR.out.lt
  replace HB := hide (HB.out.trans (B2.mono HB.out.size))
  replace HRR := hide (HRR.out.call B2)
  clear B2
  generalize w1.alloc (.cells #[.slice none 0 0, .slice none 0 0] 87) = w2 at *
  generalize w1.heap.size = X at *
  go_loopw [29] (fun i wi => ∃ (k : Nat) (A1 : Option Addr) (c1 : Nat) (rs : List RV), k ≤ os.length ∧ i = .int .i64 k ∧ rs.length = k ∧ rs.map RV.zs = (zeroP (os.map OV.d)).take k ∧ OwnRs wi w.heap.size A1 c1 rs ∧ Box wi X 87 #[.slice A1 k c1, .slice none 0 0] ∧ Box wi w.heap.size 87 #[.slice none 0 0, .slice none 0 0] ∧ Below w.heap.size w wi) (fun i _ => os.length - (intOf i).toNat)
  case atStart => exact ⟨0, none, 0, [], Nat.zero_le _, rfl, rfl, rfl, ⟨Row.empty _ _ _ _ _, (fun p hp => by cases hp), List.Pairwise.nil⟩, HX.out, HRR.out, HB.out⟩
  case round =>
    clear HX HRR HB
    obtain ⟨k, A1, c1, rs, hk, rfl, hrl, hrz, hown, hx, hrr, hb⟩ := hrel
    have HX := hide hx
    have HRR := hide hrr
    have HB := hide hb
    have HRS := hide hown
    have HRZ := hide hrz
    clear hrz hown hx hrr
    subst hrl
    by_cases hlt : rs.length < os.length
    · obtain ⟨bb, off, hA, hbb, hc0, hc1⟩ := (HR.out.below hb).at hlt
      have HZN := hide (show (zeroP (os.map OV.d)).take (rs.length + 1) = (zeroP (os.map OV.d)).take rs.length ++ [List.replicate os[rs.length].ps.length 0] from by
        rw [take_succ (by simpa [zeroP] using hlt)]
        simp [zeroP, OV.d])
      have hpl := (HALL.out _ (List.getElem_mem hlt)).1
      clear hb
      subst hA
      generalize os[rs.length] = o at *
      have x0 := HX.out.cell 0
      simp only [List.getElem?_toArray, List.getElem?_cons_zero, List.getElem?_cons_succ] at x0
      have hxl := HX.out.lt
      go_wp2_with fail
      have B1 : Below wr.heap.size wr (wr.alloc (.cells #[.slice o.A o.ps.length o.c, .slice o.Y o.ys.length o.yc] 31)) := (by repeat (first | exact Below.refl _ _ | with_reducible assumption | (refine Below.drew ?_) | (refine Below.drewN ?_ _) | (refine Below.alloc ?_ (by simp; try omega) _) | (refine Below.setCell ?_ (by simp; try omega) _)))
      have HO := hide (Box.new wr 31 #[.slice o.A o.ps.length o.c, .slice o.Y o.ys.length o.yc])
      replace HB := hide (HB.out.trans (B1.mono HB.out.size))
      replace HX := hide (HX.out.call B1)
      replace HRR := hide (HRR.out.call B1)
      replace HRS := hide (HRS.out.call B1)
      clear B1
      have hXO : X < wr.heap.size := hxl
      generalize wr.alloc (.cells #[.slice o.A o.ps.length o.c, .slice o.Y o.ys.length o.yc] 31) = wa at *
      generalize wr.heap.size = Z at *
      clear hc0 hc1 x0 hxl
      have x0 := HX.out.cell 0
      simp only [List.getElem?_toArray, List.getElem?_cons_zero, List.getElem?_cons_succ] at x0
      have y0 := HO.out.cell 0
      simp only [List.getElem?_toArray, List.getElem?_cons_zero, List.getElem?_cons_succ] at y0
      have hZw := HO.out.lt
      have hWB := HB.out.size
      have Z0 : wa.cell? ⟨X, 0, none⟩ = some (.slice A1 rs.length c1) ∧ wa.cell? ⟨Z, 0, none⟩ = some (.slice o.A o.ps.length o.c) := ⟨x0, y0⟩
      refine Reg.startT (fun W => W.cell? ⟨X, 0, none⟩ = some (.slice A1 rs.length c1) ∧ W.cell? ⟨Z, 0, none⟩ = some (.slice o.A o.ps.length o.c)) (fun j => j == 9) (by kernel_rfl) ?_
      have hHeld : wa.drew.cell? ⟨X, 0, none⟩ = some (.slice A1 rs.length c1) ∧ wa.drew.cell? ⟨Z, 0, none⟩ = some (.slice o.A o.ps.length o.c) := Z0
      clear Z0 x0 y0
      refine Reg.takeT (i := 0) (v := ?_) rfl (by kernel_rfl) (by kernel_rfl) (by kernel_rfl) (by kernel_rfl) (fun _ _ _ h => h) (Or.inl ⟨by rfl, ?_⟩) (by assumption) ?_
      rotate_left 1
      focus (intro w hSw; (try dsimp only at hSw); go_simp; (try with_reducible rfl))
      try simp only [List.getElem_toArray, List.getElem_cons_succ, List.getElem_cons_zero, Act.put, List.setIfInBounds_toArray, List.set_cons_zero, List.set_cons_succ]
      refine Reg.takeT (i := 1) (v := ?_) rfl (by kernel_rfl) (by kernel_rfl) (by kernel_rfl) (by kernel_rfl) (fun _ _ _ h => h) (Or.inl ⟨by rfl, ?_⟩) (by assumption) ?_
      rotate_left 1
      focus (intro w hSw; (try dsimp only at hSw); go_simp; (try with_reducible rfl))
      try simp only [List.getElem_toArray, List.getElem_cons_succ, List.getElem_cons_zero, Act.put, List.setIfInBounds_toArray, List.set_cons_zero, List.set_cons_succ]
      refine Reg.takeT (i := 2) (v := ?_) rfl (by kernel_rfl) (by kernel_rfl) (by kernel_rfl) (by kernel_rfl) (fun _ _ _ h => h) (Or.inl ⟨by rfl, ?_⟩) (by assumption) ?_
      rotate_left 1
      focus (intro w hSw; (try dsimp only at hSw); go_simp; (try with_reducible rfl))
      try simp only [List.getElem_toArray, List.getElem_cons_succ, List.getElem_cons_zero, Act.put, List.setIfInBounds_toArray, List.set_cons_zero, List.set_cons_succ]
      refine Reg.takeT (i := 3) (v := ?_) rfl (by kernel_rfl) (by kernel_rfl) (by kernel_rfl) (by kernel_rfl) (fun _ _ _ h => h) (Or.inl ⟨by rfl, ?_⟩) (by assumption) ?_
      rotate_left 1
      focus (intro w hSw; (try dsimp only at hSw); go_simp; (try with_reducible rfl))
      try simp only [List.getElem_toArray, List.getElem_cons_succ, List.getElem_cons_zero, Act.put, List.setIfInBounds_toArray, List.set_cons_zero, List.set_cons_succ]
      refine Reg.takeT (i := 4) (v := ?_) rfl (by kernel_rfl) (by kernel_rfl) (by kernel_rfl) (by kernel_rfl) (fun _ _ _ h => h) (Or.inl ⟨by rfl, ?_⟩) (by assumption) ?_
      rotate_left 1
      focus (intro w hSw; (try dsimp only at hSw); go_simp; (try with_reducible rfl))
      try simp only [List.getElem_toArray, List.getElem_cons_succ, List.getElem_cons_zero, Act.put, List.setIfInBounds_toArray, List.set_cons_zero, List.set_cons_succ]
      have bd : Below wa.heap.size wa wa.drew := below_dr (Below.refl _ _)
      replace HB := hide (HB.out.trans (bd.mono HB.out.size))
      replace HX := hide (HX.out.call bd)
      replace HRR := hide (HRR.out.call bd)
      replace HRS := hide (HRS.out.call bd)
      replace HO := hide (HO.out.call bd)
      clear bd
      generalize wa.drew = wd at *
      clear hZw hWB
      have hZw := HO.out.lt
      refine Reg.oneT (i := 5) rfl (by kernel_rfl) (fun K hK => ?_)
      refine step_make rfl _ _ _ rfl w.heap.size 3 j0 (.int .i64 0) 1 Tryz.underlying67 HJ.out.1 HJ.out.2.1 HJ.out.2.2.1 .i64 .i64 _ _ o.ps.length rfl rfl rfl rfl (by rw [HJ.out.2.2.2]; omega) (by unfold maxLen; omega) HB.out.size ?_
      intro w5 r1 r2
      have b5 : Below wd.heap.size wd w5 := below_grown (Below.refl _ _) r2 (Nat.le_refl _) (fun k hk => by cases hk)
      have hXd : X < wd.heap.size := HX.out.lt
      replace hHeld : w5.cell? ⟨X, 0, none⟩ = some (.slice A1 rs.length c1) ∧ w5.cell? ⟨Z, 0, none⟩ = some (.slice o.A o.ps.length o.c) := ⟨(b5.cell (p := ⟨X, 0, none⟩) hXd).trans hHeld.1, (b5.cell (p := ⟨Z, 0, none⟩) hZw).trans hHeld.2⟩
      refine hK.out _ _ hHeld ?_
      clear hK K
      try simp only [List.getElem_toArray, List.getElem_cons_succ, List.getElem_cons_zero, Act.put, List.setIfInBounds_toArray, List.set_cons_zero, List.set_cons_succ]
      have HNW := hide (show RwR w5 w.heap.size ⟨some ⟨wd.heap.size, 0, none⟩, o.ps.length, List.replicate o.ps.length 0⟩ from by
        rw [zero_cells] at r1
        refine .inr ?_
        simpa using r1)
      have HOLD := hide (HRS.out.lt)
      have hlow : w.heap.size ≤ wd.heap.size := HB.out.size
      clear r1 r2
      replace HB := hide (HB.out.trans (b5.mono HB.out.size))
      replace HX := hide (HX.out.call b5)
      replace HRR := hide (HRR.out.call b5)
      replace HRS := hide (HRS.out.call b5)
      replace HO := hide (HO.out.call b5)
      clear b5
      generalize wd.heap.size = M at *
      refine Reg.oneT (i := 6) rfl (by kernel_rfl) (fun K hK => ?_)
      go_simp
      have b6 : Below w5.heap.size w5 (w5.alloc (.cells #[.slice (some ⟨M, 0, none⟩) o.ps.length o.ps.length] 67)) := (by repeat (first | exact Below.refl _ _ | with_reducible assumption | (refine Below.drew ?_) | (refine Below.drewN ?_ _) | (refine Below.alloc ?_ (by simp; try omega) _) | (refine Below.setCell ?_ (by simp; try omega) _)))
      have hXd := HX.out.lt
      have hZw := HO.out.lt
      replace hHeld := And.intro ((b6.cell (p := ⟨X, 0, none⟩) hXd).trans hHeld.1) ((b6.cell (p := ⟨Z, 0, none⟩) hZw).trans hHeld.2)
      refine hK.out _ _ hHeld ?_
      clear hK K
      try simp only [List.getElem_toArray, List.getElem_cons_succ, List.getElem_cons_zero, Act.put, List.setIfInBounds_toArray, List.set_cons_zero, List.set_cons_succ]
      have HLIT := hide (rd_lit w5 #[.slice (some ⟨M, 0, none⟩) o.ps.length o.ps.length] 67 _ rfl)
      replace HNW := hide (show RwR (w5.alloc (.cells #[.slice (some ⟨M, 0, none⟩) o.ps.length o.ps.length] 67)) w.heap.size ⟨some ⟨M, 0, none⟩, o.ps.length, List.replicate o.ps.length 0⟩ from HNW.out.call b6)
      replace HB := hide (HB.out.trans (b6.mono HB.out.size))
      replace HX := hide (HX.out.call b6)
      replace HRR := hide (HRR.out.call b6)
      replace HRS := hide (HRS.out.call b6)
      replace HO := hide (HO.out.call b6)
      clear b6
      generalize w5.alloc (.cells #[.slice (some ⟨M, 0, none⟩) o.ps.length o.ps.length] 67) = w6 at *
      generalize w5.heap.size = L at *
      have HOWN := hide HRS.out
      refine Reg.oneT (i := 7) rfl (by kernel_rfl) (fun K hK => ?_)
      refine step_app (by rfl) _ _ 85 rfl 67 i0 (.slice none 0 0) 1 24 Tryz.underlying85 HI.out.1 HI.out.2.1 HI.out.2.2.1 HI.out.2.2.2 rfl (by decide) w.heap.size A1 rs.length c1 (cellsOf rowC rs) (by rfl) HRS.out.1 HB.out.size (some ⟨L, 0, none⟩) 1 1 [.slice (some ⟨M, 0, none⟩) o.ps.length o.ps.length] (by rfl) HLIT.out rfl (fun h => by cases h) ?o1 (by unfold maxLen; omega) (by omega) ?_
      case o1 =>
        intro u hu
        obtain rfl := List.mem_singleton.1 hu
        rfl
      intro A2 n2 c2 w7 hn o7 g7 k7
      have HNEW := hide (OwnRs.snoc (N := M) HRS.out (q := ⟨some ⟨M, 0, none⟩, o.ps.length, List.replicate o.ps.length 0⟩) HNW.out HOLD.out (fun k hk => by
        unfold blk at hk
        split at hk
        · cases hk
        · injection hk with hk
          exact Nat.le_of_eq hk) hn (by simpa [rowC] using o7) g7)
      replace HX := hide (HX.out.grown g7 (HRS.out.1.box HX.out (by decide)))
      replace HRR := hide (HRR.out.grown g7 (HRS.out.1.box HRR.out (by decide)))
      replace HO := hide (HO.out.grown g7 (HRS.out.1.box HO.out (by decide)))
      replace HB := hide (HB.out.grown g7 HB.out.size (fun j hj => (HRS.out.1.lt j hj).1))
      clear o7 g7 k7 HRS HOWN HLIT hHeld HNW
      refine hK.out _ _ ⟨HX.out.cell 0, HO.out.cell 0⟩ ?_
      clear hK K
      try simp only [List.getElem_toArray, List.getElem_cons_succ, List.getElem_cons_zero, Act.put, List.setIfInBounds_toArray, List.set_cons_zero, List.set_cons_succ]
      have hHeld : w7.cell? ⟨X, 0, none⟩ = some (.slice A1 rs.length c1) ∧ w7.cell? ⟨Z, 0, none⟩ = some (.slice o.A o.ps.length o.c) := ⟨HX.out.cell 0, HO.out.cell 0⟩
      refine Reg.takeT (i := 8) (v := ?_) rfl (by kernel_rfl) (by kernel_rfl) (by kernel_rfl) (by kernel_rfl) (fun _ _ _ h => h) (Or.inl ⟨by rfl, ?_⟩) (by assumption) ?_
      rotate_left 1
      focus (intro w hSw; (try dsimp only at hSw); go_simp; (try with_reducible rfl))
      try simp only [List.getElem_toArray, List.getElem_cons_succ, List.getElem_cons_zero, Act.put, List.setIfInBounds_toArray, List.set_cons_zero, List.set_cons_succ]
      clear hHeld
      have x0 := HX.out.cell 0
      simp only [List.getElem?_toArray, List.getElem?_cons_zero, List.getElem?_cons_succ] at x0
      have xf0 := HX.out.frozen 0
      have hxl := HX.out.lt
      refine Reg.lastT (i := 9) rfl (by kernel_rfl) (by rfl) (fun K hK => ?_)
      go_simp
      refine hK.out _ _ ?_
      clear hK K
      try simp only [List.getElem_toArray, List.getElem_cons_succ, List.getElem_cons_zero, Act.put, List.setIfInBounds_toArray, List.set_cons_zero, List.set_cons_succ]
      have HNE2 := hide (HNEW.out.set HX.out (by decide) (by decide) 0 (.slice A2 n2 c2))
      have HXE := hide (HX.out.set 0 (.slice A2 n2 c2))
      have HRE := hide (show Box (w7.setCell ⟨X, 0, none⟩ (.slice A2 n2 c2)) w.heap.size 87 #[.slice none 0 0, .slice none 0 0] from BMake.box_setFar HRR.out (by omega))
      have HBE := hide (HB.out.setCell (p := ⟨X, 0, none⟩) (show w.heap.size ≤ X by omega) (.slice A2 n2 c2))
      clear HNEW HX HRR HB x0 xf0 hxl HO
      subst hn
      refine Reg.doneT (by kernel_rfl) ?_ _
      go_wp2_with fail
      refine ⟨⟨rs.length + 1, A2, c2, rs ++ [⟨some ⟨M, 0, none⟩, o.ps.length, List.replicate o.ps.length 0⟩], by omega, by go_num, by simp, by rw [HZN.out, List.map_append, HRZ.out]; rfl, HNE2.out, HXE.out, HRE.out, HBE.out⟩, by simp [intOf]; omega⟩
    · have hrl : rs.length = os.length := by omega
      have hrz : rs.map RV.zs = zeroP (os.map OV.d) := by rw [HRZ.out, hrl, List.take_of_length_le (by simp [zeroP])]
      have HLI := hide (show LI w X A1 c1 rs none 0 [] wr from ⟨HRS.out, ⟨Row.empty _ _ _ _ _, (fun p hp => by cases hp), List.Pairwise.nil⟩, (fun k h1 h2 => by cases h2), (fun p hp q hq => by cases hq), HX.out, HRR.out, HB.out, hRX⟩)
      have HSH := hide (show Shp (os.map OV.d) (rs.map RV.zs) from by rw [hrz]; exact shp_zero _)
      have HLAY := hide (show lay (os.map OV.d) base = kindsS (os.map OV.d) (([1, 2, 3] : List Int).drop 0) (base, rs.map RV.zs) from by rw [hrz]; rfl)
      clear HRS HX HRR HB HRZ hrz hlt hb
      rw [hrl]
      clear hrl hk
      generalize hLL : os.map OV.d = l at *
      have HLL := hide hLL
      clear hLL
      go_wp2_with fail
      go_loopw [10, 7] (fun kd at_ wi => ∃ (j : Nat) (a : Int) (rs : List RV) (E : Option Addr) (ec : Nat) (es : List RV), j ≤ 3 ∧ kd = .int .i64 ((j : Int) + 1) ∧ at_ = .int .i64 a ∧ lay l base = kindsS l (([1, 2, 3] : List Int).drop j) (a, rs.map RV.zs) ∧ Shp l (rs.map RV.zs) ∧ 0 ≤ a ∧ a ≤ 4096 + 2000 * j ∧ es.length = j ∧ (j = 0 ∨ ∃ x, (es.map RV.zs).getD (j - 1) [] = [x, a]) ∧ LI w X A1 c1 rs E ec es wi) (fun kd _ _ => 4 - (intOf kd).toNat)
      case atStart => exact ⟨0, base, rs, none, 0, [], Nat.zero_le _, rfl, rfl, HLAY.out, HSH.out, hb1, by omega, rfl, .inl rfl, HLI.out⟩
      case round =>
        clear HLAY HSH HLI
        obtain ⟨j, a, rs, E, ec, es, hj, rfl, rfl, hlay, hsh, ha0, ha1, hes, hend, hli⟩ := hrel
        have HLI := hide hli
        have HSH := hide hsh
        have HEND := hide hend
        have HES := hide hes
        have hes3 : es.length ≤ 3 := by omega
        clear hsh hend hes
        by_cases hj3 : j < 3
        · have HLAY := hide (show lay l base = kindsS l (([1, 2, 3] : List Int).drop (j + 1)) (foldO ((j : Int) + 1) 0 l (al a 8, rs.map RV.zs)) from hlay.trans (kinds_drop l hj3 _))
          have e3 : decide ((j : Int) + 1 ≤ 3) = true := decide_eq_true (by omega)
          clear hlay hli
          go_wp2_with fail
          refine (aligned_any a 8 wr ha0 (by omega) (by decide)).mono ?_
          rintro e w' ⟨rfl, rfl⟩
          obtain ⟨g1, g2⟩ := al_bd ha0 (show alignOk 8 = true by decide)
          generalize al a 8 = b at *
          generalize hT : foldO ((j : Int) + 1) 0 l (b, rs.map RV.zs) = T at *
          have HT := hide (show T = foldO ((j : Int) + 1) 0 (l.drop 0) (b, rs.map RV.zs) from hT.symm)
          clear hT e3
          go_wp2_with fail
          go_loopw [52, 7] (fun i at_ wi => ∃ (k : Nat) (d : Int) (rs : List RV), k ≤ os.length ∧ i = .int .i64 k ∧ at_ = .int .i64 d ∧ T = foldO ((j : Int) + 1) k (l.drop k) (d, rs.map RV.zs) ∧ Shp l (rs.map RV.zs) ∧ 0 ≤ d ∧ d ≤ 4104 + 2000 * j + 490 * k ∧ LI w X A1 c1 rs E ec es wi) (fun i _ _ => os.length - (intOf i).toNat)
          case atStart => exact ⟨0, b, rs, Nat.zero_le _, rfl, rfl, HT.out, HSH.out, by omega, by omega, HLI.out⟩
          case round =>
            clear HT HSH HLI
            obtain ⟨k, d, rs, hk, rfl, rfl, ht, hsh, hd0, hd1, hli⟩ := hrel
            have HLI := hide hli
            have HSH := hide hsh
            by_cases hlt : k < os.length
            · obtain ⟨bb, off, hA, hbb, hc0, hc1⟩ := (HR.out.below hli.b).at hlt
              have hll : k < l.length := by rw [← HLL.out, List.length_map]; exact hlt
              have HT := hide (ht.trans (foldO_drop hll k _))
              have HPS := hide (show l[k].ss = os[k].ps.map SV.d from by
                have := HLL.out
                subst this
                simp [OV.d])
              have HSP := hide (show ∀ P : List (List Int), Shp l P → ∃ hp : k < P.length, P[k].length = os[k].ps.length from fun P hP => by
                obtain ⟨h1, h2⟩ := shp_at hP hll
                refine ⟨h1, ?_⟩
                rw [h2, HPS.out, List.length_map])
              have HAO := hide (HALL.out _ (List.getElem_mem hlt))
              have hpl := HAO.out.1
              have HRO := hide (HR.out.2 _ (List.getElem_mem hlt)).1
              have HFO := hide (HF.out.o _ (List.getElem_mem hlt)).p
              clear hli ht hsh
              subst hA
              rw [HPS.out] at HT
              clear HPS
              generalize os[k] = o at *
              go_wp2_with fail
              have B1 : Below wr.heap.size wr (wr.alloc (.cells #[.slice o.A o.ps.length o.c, .slice o.Y o.ys.length o.yc] 31)) := (by repeat (first | exact Below.refl _ _ | with_reducible assumption | (refine Below.drew ?_) | (refine Below.drewN ?_ _) | (refine Below.alloc ?_ (by simp; try omega) _) | (refine Below.setCell ?_ (by simp; try omega) _)))
              have HO := hide (Box.new wr 31 #[.slice o.A o.ps.length o.c, .slice o.Y o.ys.length o.yc])
              replace HLI := hide (HLI.out.call B1)
              clear B1
              generalize wr.alloc (.cells #[.slice o.A o.ps.length o.c, .slice o.Y o.ys.length o.yc] 31) = wa at *
              generalize wr.heap.size = Z at *
              clear hc0 hc1
              have y0 := HO.out.cell 0
              simp only [List.getElem?_toArray, List.getElem?_cons_zero, List.getElem?_cons_succ] at y0
              have hol := HO.out.lt
              go_wp2_with fail
              clear y0 hol HO
              generalize hU : foldS ((j : Int) + 1) k 0 (o.ps.map SV.d) (d, rs.map RV.zs) = U at *
              have HU := hide (show U = foldS ((j : Int) + 1) k 0 ((o.ps.map SV.d).drop 0) (d, rs.map RV.zs) from hU.symm)
              clear hU
              go_loopw [60, 7] (fun i at_ wi => ∃ (m : Nat) (f : Int) (rs : List RV), m ≤ o.ps.length ∧ i = .int .i64 m ∧ at_ = .int .i64 f ∧ U = foldS ((j : Int) + 1) k m ((o.ps.map SV.d).drop m) (f, rs.map RV.zs) ∧ Shp l (rs.map RV.zs) ∧ 0 ≤ f ∧ f ≤ 4104 + 2000 * j + 490 * k + 60 * m ∧ LI w X A1 c1 rs E ec es wi) (fun i _ _ => o.ps.length - (intOf i).toNat)
              case atStart => exact ⟨0, d, rs, Nat.zero_le _, rfl, rfl, HU.out, HSH.out, by omega, by omega, HLI.out⟩
              case round =>
                clear HU HSH HLI
                obtain ⟨m, f, rs, hm, rfl, rfl, hu, hsh, hf0, hf1, hli⟩ := hrel
                have HLI := hide hli
                have HSH := hide hsh
                by_cases hlm : m < o.ps.length
                · obtain ⟨b2, off2, hPA, hb2, hc⟩ := (HRO.out.1.below hli.b).row secC_len (by decide) hlm
                  have hc0 := hc 0 _ rfl
                  have hc1 := hc 1 _ rfl
                  have hc2 := hc 2 _ rfl
                  have hc3 := hc 3 _ rfl
                  have hc4 := hc 4 _ rfl
                  have hc5 := hc 5 _ rfl
                  simp only [Nat.add_zero] at hc0
                  have HU := hide (hu.trans (foldS_drop (show m < (o.ps.map SV.d).length by simpa using hlm) m _))
                  have HSZ := hide (HAO.out.2 _ (List.getElem_mem hlm))
                  have hzl := (HFO.out _ (List.getElem_mem hlm)).2.1
                  have HRS := hide (step_bd (kd := (j : Int) + 1) (k := k) (i := m) (P := rs.map RV.zs) HSZ.out.1 HSZ.out.2 hf0)
                  clear hli hu hc
                  rw [List.getElem_map] at HU
                  rw [hPA]
                  clear hPA
                  generalize o.ps[m] = p at *
                  have B1 : Below wr.heap.size wr (wr.alloc (.cells #[.string p.nm, .int .i64 p.kd, .int .i64 p.al, .slice p.A p.zs.length p.c, .int .i64 p.sz, .slice p.F p.fs.length p.fc] 77)) := (by repeat (first | exact Below.refl _ _ | with_reducible assumption | (refine Below.drew ?_) | (refine Below.drewN ?_ _) | (refine Below.alloc ?_ (by simp; try omega) _) | (refine Below.setCell ?_ (by simp; try omega) _)))
                  replace HLI := hide (HLI.out.call B1)
                  have HS := hide (Box.new wr 77 #[.string p.nm, .int .i64 p.kd, .int .i64 p.al, .slice p.A p.zs.length p.c, .int .i64 p.sz, .slice p.F p.fs.length p.fc])
                  by_cases hkd : p.kd = (j : Int) + 1
                  · have e1 : (p.kd == (j : Int) + 1) = true := beq_iff_eq.2 hkd
                    have HKD := hide hkd
                    have HU2 := hide (show U = foldS ((j : Int) + 1) k (m + 1) ((o.ps.map SV.d).drop (m + 1)) (al f p.al + secSize p.d, setP (rs.map RV.zs) k m (al f p.al)) from by
                      rw [HU.out]
                      unfold stepS
                      rw [show decide (p.d.kd = (j : Int) + 1) = true from decide_eq_true hkd]
                      rfl)
                    clear hkd HU
                    go_wp2_with fail
                    clear e1 hc0 hc1 hc2 hc3 hc4 hc5 B1
                    generalize wr.alloc (.cells #[.string p.nm, .int .i64 p.kd, .int .i64 p.al, .slice p.A p.zs.length p.c, .int .i64 p.sz, .slice p.F p.fs.length p.fc] 77) = wa at *
                    generalize wr.heap.size = S at *
                    refine (aligned_any f p.al wa hf0 (by omega) HSZ.out.2).mono ?_
                    rintro e w' ⟨rfl, rfl⟩
                    obtain ⟨g1, g2⟩ := al_bd hf0 (show alignOk p.al = true from HSZ.out.2)
                    obtain ⟨q1, q2⟩ := HSZ.out.1
                    generalize al f p.al = v at *
                    obtain ⟨hp1, hp2⟩ := HSP.out _ HSH.out
                    rw [List.length_map] at hp1
                    rw [List.getElem_map] at hp2
                    obtain ⟨g, hgA, hgl, hfar, hfz, ⟨u, hcu⟩, hli2⟩ := HLI.out.put hp1 (i := m) (by omega) v
                    obtain ⟨pb, poff, hPP, hpb, hrow⟩ := HLI.out.hrs.rd.at hp1
                    have HLI2 := hide hli2
                    have HS2 := hide (BMake.box_setFar (g := g) (i := m) (u := .int .i64 v) HS.out (hfar _ _ _ HS.out (by decide)))
                    have HMP := hide (map_setP rs k m v hp1)
                    have HSH2 := hide (shp_set HSH.out k m v)
                    have x0 := HLI.out.x.cell 0
                    simp only [List.getElem?_toArray, List.getElem?_cons_zero] at x0
                    have hxl := HLI.out.x.lt
                    rw [hPP] at x0
                    rw [hgA, hp2] at hrow
                    have hmi : m < o.ps.length := hlm
                    clear hli2 hgA hp2 hPP HLI hfar HSH
                    generalize rs.set k { rs[k] with zs := rs[k].zs.set m v } = rs2 at *
                    have s0 := HS2.out.cell 0
                    have s1 := HS2.out.cell 1
                    have s2 := HS2.out.cell 2
                    have s3 := HS2.out.cell 3
                    have s4 := HS2.out.cell 4
                    have s5 := HS2.out.cell 5
                    simp only [List.getElem?_toArray, List.getElem?_cons_zero, List.getElem?_cons_succ] at s0 s1 s2 s3 s4 s5
                    have hsl := HS2.out.lt
                    go_wp2_with fail
                    refine (sectionSize_any p _ (by unfold maxLen; omega)).mono ?_
                    rintro e w3 ⟨rfl, b3⟩
                    replace HLI2 := hide (HLI2.out.call b3)
                    have hwr : IntKind.i64.wrap (v + secSize p.d) = v + secSize p.d := IntWalk.i64_in _ (by omega)
                    generalize secSize p.d = z at *
                    clear s0 s1 s2 s3 s4 s5 hsl HS2 b3 hrow x0 hxl hcu hfz
                    go_wp2_with fail
                    refine ⟨⟨m + 1, v + z, rs2, by omega, by go_num, rfl, by rw [HMP.out]; exact HU2.out, by rw [HMP.out]; exact HSH2.out, by omega, by omega, HLI2.out⟩, by simp [intOf]; omega⟩
                  · have e1 : (p.kd == (j : Int) + 1) = false := beq_eq_false_iff_ne.2 hkd
                    have HU2 := hide (show U = foldS ((j : Int) + 1) k (m + 1) ((o.ps.map SV.d).drop (m + 1)) (f, rs.map RV.zs) from by
                      rw [HU.out]
                      unfold stepS
                      rw [show decide (p.d.kd = (j : Int) + 1) = false from decide_eq_false hkd]
                      rfl)
                    clear hkd HU
                    go_wp2_with fail
                    refine ⟨⟨m + 1, f, rs, by omega, by go_num, rfl, HU2.out, HSH.out, hf0, by omega, HLI.out⟩, by simp [intOf]; omega⟩
                · obtain rfl : m = o.ps.length := by omega
                  have HT2 := hide (show T = foldO ((j : Int) + 1) (k + 1) (l.drop (k + 1)) (f, rs.map RV.zs) from by
                    have hu2 : U = (f, rs.map RV.zs) := by
                      rw [hu, List.drop_of_length_le (by simp)]
                      rfl
                    rw [HT.out, hu2])
                  clear hu hli hsh HT
                  go_wp2_with fail
                  refine ⟨⟨k + 1, f, rs, by omega, by go_num, rfl, HT2.out, HSH.out, hf0, by omega, HLI.out⟩, by simp [intOf]; omega⟩
            · obtain rfl : k = os.length := by omega
              have HT2 := hide (show T = (d, rs.map RV.zs) from by
                rw [ht, List.drop_of_length_le (by rw [← HLL.out]; simp)]
                rfl)
              have HLW := hide (show ∀ p ∈ es, ∀ k, blk p.A p.c = some k → k < wr.heap.size from hli.hes.lt)
              have HLR := hide (show ∀ p ∈ rs, ∀ k, blk p.A p.c = some k → k < wr.heap.size from hli.hrs.lt)
              have hlow : w.heap.size ≤ wr.heap.size := hli.b.size
              clear ht hli hsh
              have b1 : Below wr.heap.size wr (wr.alloc (.cells #[.int .i64 b, .int .i64 d] 3)) := (by repeat (first | exact Below.refl _ _ | with_reducible assumption | (refine Below.drew ?_) | (refine Below.drewN ?_ _) | (refine Below.alloc ?_ (by simp; try omega) _) | (refine Below.setCell ?_ (by simp; try omega) _)))
              have b2 : Below (wr.alloc (.cells #[.int .i64 b, .int .i64 d] 3)).heap.size (wr.alloc (.cells #[.int .i64 b, .int .i64 d] 3)) ((wr.alloc (.cells #[.int .i64 b, .int .i64 d] 3)).alloc (.cells #[.slice (some ⟨wr.heap.size, 0, none⟩) 2 2] 67)) := (by repeat (first | exact Below.refl _ _ | with_reducible assumption | (refine Below.drew ?_) | (refine Below.drewN ?_ _) | (refine Below.alloc ?_ (by simp; try omega) _) | (refine Below.setCell ?_ (by simp; try omega) _)))
              have HNW := hide (show RwR ((wr.alloc (.cells #[.int .i64 b, .int .i64 d] 3)).alloc (.cells #[.slice (some ⟨wr.heap.size, 0, none⟩) 2 2] 67)) w.heap.size ⟨some ⟨wr.heap.size, 0, none⟩, 2, [b, d]⟩ from by
                have h := World.ownsRow_lit (base := wr.heap.size) (e := 3) (size := 1) wr #[.int .i64 b, .int .i64 d] 2 (Nat.le_refl _) (by unfold maxLen; omega) rfl
                exact ((Row.own h).down hlow).call b2)
              have HLIT := hide (rd_lit (wr.alloc (.cells #[.int .i64 b, .int .i64 d] 3)) #[.slice (some ⟨wr.heap.size, 0, none⟩) 2 2] 67 _ rfl)
              have x1 := HLI.out.x.cell 1
              simp only [List.getElem?_toArray, List.getElem?_cons_zero, List.getElem?_cons_succ] at x1
              have hxl := HLI.out.x.lt
              have HLI2 := hide ((HLI.out.call b1).call b2)
              clear HLI b1 b2
              go_wp2_with (at_builtin; refine wpList_app ((wr.alloc (.cells #[.int .i64 b, .int .i64 d] 3)).alloc (.cells #[.slice (some ⟨wr.heap.size, 0, none⟩) 2 2] 67)) rfl (.tmp 88) (.tmp 92) 85 rfl 67 i0 (.slice none 0 0) 1 24 Tryz.underlying85 HI.out.1 HI.out.2.1 HI.out.2.2.1 HI.out.2.2.2 rfl (by decide) w.heap.size E es.length ec (cellsOf rowC es) rfl HLI2.out.hes.1 ?hb (some ⟨wr.heap.size + 1, 0, none⟩) 1 1 [.slice (some ⟨wr.heap.size, 0, none⟩) 2 2] rfl (by have h := HLIT.out; rw [World.size_alloc] at h; exact h) rfl (fun h => by cases h) ?o1 ?n1 ?n2 ?_)
              case hb =>
                have h := HLI2.out.b.size
                simp only [World.size_alloc] at h
                exact h
              case o1 => rfl
              case n1 => unfold maxLen; omega
              case n2 => omega
              intro E2 n2 c2 w3 hn o3 g3 k3
              have HXB := hide (HLI2.out.x.grown g3 (HLI2.out.hes.1.box HLI2.out.x (by decide)))
              have HNE := hide (LI.snoc (N := wr.heap.size) HLI2.out HNW.out HLW.out HLR.out (fun k hk => by
                unfold blk at hk
                split at hk
                · cases hk
                · injection hk with hk
                  exact Nat.le_of_eq hk) hn (by simpa [rowC] using o3) g3 (fun k hk => by have h := k3 k hk; simpa using h))
              subst hn
              clear o3 g3 k3 x1 hxl HLI2 HNW HLIT
              have x1 := HXB.out.cell 1
              simp only [List.getElem?_toArray, List.getElem?_cons_zero, List.getElem?_cons_succ] at x1
              have hxl := HXB.out.lt
              have xf1 := HXB.out.frozen 1
              have hwk : IntKind.i64.wrap ((j : Int) + 1 + 1) = (j : Int) + 1 + 1 := IntWalk.i64_in _ (by omega)
              go_wp2_with fail
              go_roundw
              case rel => exact ⟨j + 1, d, rs, E2, c2, es ++ [⟨some ⟨wr.heap.size, 0, none⟩, 2, [b, d]⟩], by omega, by simp, rfl, by rw [HLAY.out, HT2.out], HSH.out, hd0, by omega, by simp [HES.out], .inr ⟨b, by
                rw [List.map_append, List.getD_eq_getElem?_getD, List.getElem?_append_right (by have := HES.out; simp; omega)]
                simp [HES.out]⟩, HNE.out⟩
              case measure => simp [intOf]; omega
        · obtain rfl : j = 3 := by omega
          have HL3 := hide (show lay l base = (a, rs.map RV.zs) from hlay)
          have HE3 := hide (show ∃ x, (es.map RV.zs).getD 2 [] = [x, a] from by
            rcases HEND.out with h | h
            · cases h
            · exact h)
          clear hlay HEND hli
          have x0 := HLI.out.x.cell 0
          have x1 := HLI.out.x.cell 1
          have y0 := HLI.out.r.cell 0
          have y1 := HLI.out.r.cell 1
          have yf0 := HLI.out.r.frozen 0
          have yf1 := HLI.out.r.frozen 1
          have kk := (HLI.out.r.set 0 (.slice A1 rs.length c1)).set 1 (.slice E es.length ec)
          have k0 := kk.cell 0
          have k1 := kk.cell 1
          simp only [List.setIfInBounds_toArray, List.set_cons_zero, List.set_cons_succ, List.getElem?_toArray, List.getElem?_cons_zero, List.getElem?_cons_succ] at k0 k1 x0 x1 y0 y1
          clear kk
          have hxl := HLI.out.x.lt
          have hrl := HLI.out.r.lt
          have HFIN := hide (show LayV l base w (.returned (.tuple #[.agg #[.slice A1 rs.length c1, .slice E es.length ec], .bool true])) ((wr.setCell ⟨w.heap.size, 0, none⟩ (.slice A1 rs.length c1)).setCell ⟨w.heap.size, 1, none⟩ (.slice E es.length ec)) from by
            have r1 := HLI.out.r.set 0 (.slice A1 rs.length c1)
            refine ⟨A1, c1, rs, E, ec, es, by rw [HV.out], fun _ => ⟨by rw [HL3.out], HES.out, by rw [HL3.out]; exact HE3.out⟩, ?_, ?_, two_below (Y := w.heap.size) HLI.out.b (Nat.le_refl _) _ _⟩
            · exact ((HLI.out.hrs.set HLI.out.r (by decide) (by decide) 0 _).set r1 (by decide) (by decide) 1 _).rd
            · exact ((HLI.out.hes.set HLI.out.r (by decide) (by decide) 0 _).set r1 (by decide) (by decide) 1 _).rd)
          go_wp2_with fail
          (try simp only [Exit.inBlock, Exit.then])
          exact bodyPost_ret (v := .tuple #[.agg #[.slice A1 rs.length c1, .slice E es.length ec], .bool true]) (by simp [results, Tryz.results55, go_sem, k0, k1]) rfl HFIN.out
end Go.Proofs.YtmglgjchemecjaaGreat.CLayout
/- The library at []string, at this dump: printed by the kit's lay-plain. -/
namespace Go.Proofs.YtmglgjchemecjaaGreat.XNames
set_option maxRecDepth 200000
open Go.Shelf
def lays190_ren : Go.Shelf.Ren := ⟨fun | 190 => 129 | 125 => 156 | 258 => 155 | 128 => 179 | 129 => 180 | 302 => 170 | 303 => 171 | 304 => 172 | 305 => 173 | 306 => 174 | 307 => 175 | 308 => 176 | 309 => 177 | 310 => 178 | 333 => 189 | 329 => 190 | 330 => 191 | 334 => 192 | 335 => 193 | 336 => 105 | 344 => 196 | n => n, fun | 31 => 90 | 9 => 9 | 3 => 3 | 46 => 165 | 0 => 0 | 51 => 192 | 53 => 194 | 4 => 4 | 183 => 186 | 182 => 185 | 131 => 93 | 5 => 5 | 218 => 198 | 222 => 202 | 228 => 205 | 229 => 206 | n => n, fun | n => n⟩
theorem lays190 : Go.Proofs.Lays.n190 Tryz.prog lays190_ren := {
  mixed := by kernel_rfl
  f125 := Tryz.func156.trans (congrArg some (by kernel_rfl))
  f128 := Tryz.func179.trans (congrArg some (by kernel_rfl))
  f129 := Tryz.func180.trans (congrArg some (by kernel_rfl))
  f190 := Tryz.func129.trans (congrArg some (by kernel_rfl))
  f258 := Tryz.func155.trans (congrArg some (by kernel_rfl))
  f302 := Tryz.func170.trans (congrArg some (by kernel_rfl))
  f303 := Tryz.func171.trans (congrArg some (by kernel_rfl))
  f304 := Tryz.func172.trans (congrArg some (by kernel_rfl))
  f305 := Tryz.func173.trans (congrArg some (by kernel_rfl))
  f306 := Tryz.func174.trans (congrArg some (by kernel_rfl))
  f307 := Tryz.func175.trans (congrArg some (by kernel_rfl))
  f308 := Tryz.func176.trans (congrArg some (by kernel_rfl))
  f309 := Tryz.func177.trans (congrArg some (by kernel_rfl))
  f310 := Tryz.func178.trans (congrArg some (by kernel_rfl))
  f329 := Tryz.func190.trans (congrArg some (by kernel_rfl))
  f330 := Tryz.func191.trans (congrArg some (by kernel_rfl))
  f333 := Tryz.func189.trans (congrArg some (by kernel_rfl))
  f334 := Tryz.func192.trans (congrArg some (by kernel_rfl))
  f335 := Tryz.func193.trans (congrArg some (by kernel_rfl))
  f336 := Tryz.func105.trans (congrArg some (by kernel_rfl))
  f344 := Tryz.func196.trans (congrArg some (by kernel_rfl))
  t0 := Tryz.underlying0
  a0 := Tryz.isAgg0
  z0 := Tryz.sizeOf0
  v0 := Tryz.zeroValue0
  t3 := Tryz.underlying3
  a3 := Tryz.isAgg3
  z3 := Tryz.sizeOf3
  v3 := Tryz.zeroValue3
  t4 := Tryz.underlying4
  a4 := Tryz.isAgg4
  z4 := Tryz.sizeOf4
  v4 := Tryz.zeroValue4
  t5 := Tryz.underlying5
  a5 := Tryz.isAgg5
  z5 := Tryz.sizeOf5
  v5 := Tryz.zeroValue5
  t9 := Tryz.underlying9
  a9 := Tryz.isAgg9
  z9 := Tryz.sizeOf9
  v9 := Tryz.zeroValue9
  t31 := Tryz.underlying90
  a31 := Tryz.isAgg90
  z31 := Tryz.sizeOf90
  v31 := Tryz.zeroValue90
  t46 := Tryz.underlying165
  a46 := Tryz.isAgg165
  z46 := Tryz.sizeOf165
  v46 := Tryz.zeroValue165
  t51 := Tryz.underlying192
  a51 := Tryz.isAgg192
  z51 := Tryz.sizeOf192
  v51 := Tryz.zeroValue192
  t53 := Tryz.underlying194
  a53 := Tryz.isAgg194
  z53 := Tryz.sizeOf194
  v53 := Tryz.zeroValue194
  t131 := Tryz.underlying93
  a131 := Tryz.isAgg93
  z131 := Tryz.sizeOf93
  v131 := Tryz.zeroValue93
  t182 := Tryz.underlying185
  a182 := Tryz.isAgg185
  z182 := Tryz.sizeOf185
  v182 := Tryz.zeroValue185
  t183 := Tryz.underlying186
  a183 := Tryz.isAgg186
  z183 := Tryz.sizeOf186
  v183 := Tryz.zeroValue186
  t218 := Tryz.underlying198
  a218 := Tryz.isAgg198
  z218 := Tryz.sizeOf198
  v218 := Tryz.zeroValue198
  t222 := Tryz.underlying202
  a222 := Tryz.isAgg202
  z222 := Tryz.sizeOf202
  v222 := Tryz.zeroValue202
  t228 := Tryz.underlying205
  a228 := Tryz.isAgg205
  z228 := Tryz.sizeOf205
  v228 := Tryz.zeroValue205
  t229 := Tryz.underlying206
  a229 := Tryz.isAgg206
  z229 := Tryz.sizeOf206
  v229 := Tryz.zeroValue206 }
open Go.Sort Go.RowKit in
theorem slices_Sort_string (blk off cap : Nat) (ss : List (List UInt8)) (w : World) (hH : Holds encStr w blk off ss.toArray) (hblk : blk < w.heap.size) (hsz : ss.length < 4611686018427387904) :
    Calls Tryz.prog 129 #[.slice (some ⟨blk, off, none⟩) ss.length cap] w fun e w' =>
      e = .returned (.tuple #[]) ∧ ∃ n os, w' = grow (putRow encStr (Sort.ahead w n) blk off (ss.mergeSort fun x y => decide (x ≤ y)).toArray) os := Any.slices_Sort_string lays190 blk off cap ss w hH hblk hsz
def lays207_ren : Go.Shelf.Ren := ⟨fun | 207 => 184 | n => n, fun | 9 => 9 | 4 => 4 | 3 => 3 | n => n, fun | n => n⟩
theorem lays207 : Go.Proofs.Lays.n207 Tryz.prog lays207_ren := {
  mixed := by kernel_rfl
  f207 := Tryz.func184.trans (congrArg some (by kernel_rfl))
  t3 := Tryz.underlying3
  a3 := Tryz.isAgg3
  z3 := Tryz.sizeOf3
  v3 := Tryz.zeroValue3
  t4 := Tryz.underlying4
  a4 := Tryz.isAgg4
  z4 := Tryz.sizeOf4
  v4 := Tryz.zeroValue4
  t9 := Tryz.underlying9
  a9 := Tryz.isAgg9
  z9 := Tryz.sizeOf9
  v9 := Tryz.zeroValue9 }
open Go.RowKit Go.Lib in
theorem stringslite_HasSuffix (s p : ByteArray) (w : World) (hs : s.size ≤ 9223372036854775807) :
    Calls Tryz.prog 184 #[.string s, .string p] w fun e w' => e = .returned (.bool (Lib.hasSuffix s.data.toList p.data.toList)) ∧ w' = w := Any.stringslite_HasSuffix lays207 s p w hs
def lays100_ren : Go.Shelf.Ren := ⟨fun | 100 => 163 | 207 => 184 | n => n, fun | 9 => 9 | 4 => 4 | 3 => 3 | n => n, fun | n => n⟩
theorem lays100 : Go.Proofs.Lays.n100 Tryz.prog lays100_ren := {
  mixed := by kernel_rfl
  f100 := Tryz.func163.trans (congrArg some (by kernel_rfl))
  f207 := Tryz.func184.trans (congrArg some (by kernel_rfl))
  t3 := Tryz.underlying3
  a3 := Tryz.isAgg3
  z3 := Tryz.sizeOf3
  v3 := Tryz.zeroValue3
  t4 := Tryz.underlying4
  a4 := Tryz.isAgg4
  z4 := Tryz.sizeOf4
  v4 := Tryz.zeroValue4
  t9 := Tryz.underlying9
  a9 := Tryz.isAgg9
  z9 := Tryz.sizeOf9
  v9 := Tryz.zeroValue9 }
open Go.RowKit Go.Lib in
theorem strings_HasSuffix (s p : ByteArray) (w : World) (hs : s.size ≤ 9223372036854775807) :
    Calls Tryz.prog 163 #[.string s, .string p] w fun e w' => e = .returned (.bool (Lib.hasSuffix s.data.toList p.data.toList)) ∧ w' = w := Any.strings_HasSuffix lays100 s p w hs
def lays108_ren : Go.Shelf.Ren := ⟨fun | 108 => 48 | n => n, fun | 28 => 67 | 3 => 3 | 0 => 0 | 4 => 4 | n => n, fun | n => n⟩
theorem lays108 : Go.Proofs.Lays.n108 Tryz.prog lays108_ren := {
  mixed := by kernel_rfl
  f108 := Tryz.func48.trans (congrArg some (by kernel_rfl))
  t0 := Tryz.underlying0
  a0 := Tryz.isAgg0
  z0 := Tryz.sizeOf0
  v0 := Tryz.zeroValue0
  t3 := Tryz.underlying3
  a3 := Tryz.isAgg3
  z3 := Tryz.sizeOf3
  v3 := Tryz.zeroValue3
  t4 := Tryz.underlying4
  a4 := Tryz.isAgg4
  z4 := Tryz.sizeOf4
  v4 := Tryz.zeroValue4
  t28 := Tryz.underlying67
  a28 := Tryz.isAgg67
  z28 := Tryz.sizeOf67
  v28 := Tryz.zeroValue67 }
open Go.Lib in
theorem slices_Index_int (b off n c : Nat) (zs : List Int) (x : Int) (w : World) (hz : n ≤ zs.length) (hbig : n ≤ 9223372036854775807) (hc : ∀ j, j < zs.length → w.cell? ⟨b, off + j, none⟩ = some (.int .i64 (zs.getD j 0))) :
    Calls Tryz.prog 48 #[.slice (some ⟨b, off, none⟩) n c, .int .i64 x] w fun e w' => e = .returned (.int .i64 (Lib.idxOf (zs.take n) x)) ∧ w' = w := Any.slices_Index_int lays108 b off n c zs x w hz hbig hc
open Go.Lib in
theorem slices_Index_int_empty (a : Option Addr) (c : Nat) (x : Int) (w : World) :
    Calls Tryz.prog 48 #[.slice a 0 c, .int .i64 x] w fun e w' => e = .returned (.int .i64 (Lib.idxOf [] x)) ∧ w' = w := Any.slices_Index_int_empty lays108 a c x w
def lays109_ren : Go.Shelf.Ren := ⟨fun | 109 => 153 | n => n, fun | 31 => 90 | 9 => 9 | 3 => 3 | 0 => 0 | 4 => 4 | n => n, fun | n => n⟩
theorem lays109 : Go.Proofs.Lays.n109 Tryz.prog lays109_ren := {
  mixed := by kernel_rfl
  f109 := Tryz.func153.trans (congrArg some (by kernel_rfl))
  t0 := Tryz.underlying0
  a0 := Tryz.isAgg0
  z0 := Tryz.sizeOf0
  v0 := Tryz.zeroValue0
  t3 := Tryz.underlying3
  a3 := Tryz.isAgg3
  z3 := Tryz.sizeOf3
  v3 := Tryz.zeroValue3
  t4 := Tryz.underlying4
  a4 := Tryz.isAgg4
  z4 := Tryz.sizeOf4
  v4 := Tryz.zeroValue4
  t9 := Tryz.underlying9
  a9 := Tryz.isAgg9
  z9 := Tryz.sizeOf9
  v9 := Tryz.zeroValue9
  t31 := Tryz.underlying90
  a31 := Tryz.isAgg90
  z31 := Tryz.sizeOf90
  v31 := Tryz.zeroValue90 }
open Go.Lib in
theorem slices_Index_string (b off n c : Nat) (zs : List ByteArray) (x : ByteArray) (w : World) (hz : n ≤ zs.length) (hbig : n ≤ 9223372036854775807) (hc : ∀ j, j < zs.length → w.cell? ⟨b, off + j, none⟩ = some (.string (zs.getD j ByteArray.empty))) :
    Calls Tryz.prog 153 #[.slice (some ⟨b, off, none⟩) n c, .string x] w fun e w' => e = .returned (.int .i64 (Lib.idxOfS (zs.take n) x)) ∧ w' = w := Any.slices_Index_string lays109 b off n c zs x w hz hbig hc
open Go.Lib in
theorem slices_Index_string_empty (a : Option Addr) (c : Nat) (x : ByteArray) (w : World) :
    Calls Tryz.prog 153 #[.slice a 0 c, .string x] w fun e w' => e = .returned (.int .i64 (Lib.idxOfS [] x)) ∧ w' = w := Any.slices_Index_string_empty lays109 a c x w
def lays110_ren : Go.Shelf.Ren := ⟨fun | 110 => 118 | 109 => 153 | n => n, fun | 31 => 90 | 9 => 9 | 4 => 4 | 3 => 3 | 0 => 0 | n => n, fun | n => n⟩
theorem lays110 : Go.Proofs.Lays.n110 Tryz.prog lays110_ren := {
  mixed := by kernel_rfl
  f109 := Tryz.func153.trans (congrArg some (by kernel_rfl))
  f110 := Tryz.func118.trans (congrArg some (by kernel_rfl))
  t0 := Tryz.underlying0
  a0 := Tryz.isAgg0
  z0 := Tryz.sizeOf0
  v0 := Tryz.zeroValue0
  t3 := Tryz.underlying3
  a3 := Tryz.isAgg3
  z3 := Tryz.sizeOf3
  v3 := Tryz.zeroValue3
  t4 := Tryz.underlying4
  a4 := Tryz.isAgg4
  z4 := Tryz.sizeOf4
  v4 := Tryz.zeroValue4
  t9 := Tryz.underlying9
  a9 := Tryz.isAgg9
  z9 := Tryz.sizeOf9
  v9 := Tryz.zeroValue9
  t31 := Tryz.underlying90
  a31 := Tryz.isAgg90
  z31 := Tryz.sizeOf90
  v31 := Tryz.zeroValue90 }
open Go.Lib in
theorem slices_Contains_string (b off n c : Nat) (zs : List ByteArray) (x : ByteArray) (w : World) (hz : n ≤ zs.length) (hbig : n ≤ 9223372036854775807) (hc : ∀ j, j < zs.length → w.cell? ⟨b, off + j, none⟩ = some (.string (zs.getD j ByteArray.empty))) :
    Calls Tryz.prog 118 #[.slice (some ⟨b, off, none⟩) n c, .string x] w fun e w' => e = .returned (.bool (Lib.containsS (zs.take n) x)) ∧ w' = w := Any.slices_Contains_string lays110 b off n c zs x w hz hbig hc
open Go.Lib in
theorem slices_Contains_string_empty (a : Option Addr) (c : Nat) (x : ByteArray) (w : World) :
    Calls Tryz.prog 118 #[.slice a 0 c, .string x] w fun e w' => e = .returned (.bool false) ∧ w' = w := Any.slices_Contains_string_empty lays110 a c x w
def laysNm216_ren : Go.Shelf.Ren := ⟨fun | 16 => 128 | n => n, fun | 24 => 90 | 9 => 9 | 4 => 4 | n => n, fun | n => n⟩
theorem laysNm216 : Go.Proofs.Lays2.n16 Tryz.prog laysNm216_ren := {
  mixed := by kernel_rfl
  f16 := Tryz.func128.trans (congrArg some (by kernel_rfl))
  t4 := Tryz.underlying4
  a4 := Tryz.isAgg4
  z4 := Tryz.sizeOf4
  v4 := Tryz.zeroValue4
  t9 := Tryz.underlying9
  a9 := Tryz.isAgg9
  z9 := Tryz.sizeOf9
  v9 := Tryz.zeroValue9
  t24 := Tryz.underlying90
  a24 := Tryz.isAgg90
  z24 := Tryz.sizeOf90
  v24 := Tryz.zeroValue90
  i9 := by kernel_rfl }
open Go.RowKit Go.Lib in
theorem slices_Clone_string (b off n c : Nat) (zs : List ByteArray) (w : World) (hz : n ≤ zs.length) (hbig : n * 16 ≤ 140737488355328) (hc : ∀ j, j < zs.length → w.cell? ⟨b, off + j, none⟩ = some (.string (zs.getD j ByteArray.empty))) :
    Calls Tryz.prog 128 #[.slice (some ⟨b, off, none⟩) n c] w fun e w' => ∃ v', e = .returned v' ∧ w'.ownsRow w.heap.size 9 1 v' n ((zs.take n).map (Value.string)) ∧ v' ≠ .slice none 0 0 ∧ Below w.heap.size w w' := Any.slices_Clone_string laysNm216 b off n c zs w hz hbig hc
open Go.RowKit Go.Lib in
theorem slices_Clone_string_nil (n c : Nat) (w : World) :
    Calls Tryz.prog 128 #[.slice none n c] w fun e w' => e = .returned (.slice none 0 0) ∧ w' = w := Any.slices_Clone_string_nil laysNm216 n c w
open Go.RowKit Go.Lib in
theorem slices_Clone_string_zero (a : Addr) (c : Nat) (w : World) :
    Calls Tryz.prog 128 #[.slice (some a) 0 c] w fun e w' => ∃ v', e = .returned v' ∧ w'.ownsRow w.heap.size 9 1 v' 0 [] ∧ v' ≠ .slice none 0 0 ∧ Below w.heap.size w w' := Any.slices_Clone_string_zero laysNm216 a c w
def lays194_ren : Go.Shelf.Ren := ⟨fun | 194 => 130 | n => n, fun | 31 => 90 | 9 => 9 | 3 => 3 | 4 => 4 | 0 => 0 | n => n, fun | n => n⟩
theorem lays194 : Go.Proofs.Lays.n194 Tryz.prog lays194_ren := {
  mixed := by kernel_rfl
  f194 := Tryz.func130.trans (congrArg some (by kernel_rfl))
  t0 := Tryz.underlying0
  a0 := Tryz.isAgg0
  z0 := Tryz.sizeOf0
  v0 := Tryz.zeroValue0
  t3 := Tryz.underlying3
  a3 := Tryz.isAgg3
  z3 := Tryz.sizeOf3
  v3 := Tryz.zeroValue3
  t4 := Tryz.underlying4
  a4 := Tryz.isAgg4
  z4 := Tryz.sizeOf4
  v4 := Tryz.zeroValue4
  t9 := Tryz.underlying9
  a9 := Tryz.isAgg9
  z9 := Tryz.sizeOf9
  v9 := Tryz.zeroValue9
  t31 := Tryz.underlying90
  a31 := Tryz.isAgg90
  z31 := Tryz.sizeOf90
  v31 := Tryz.zeroValue90 }
open Go.RowKit Go.Lib Go.Sort in
theorem slices_Compact_string_arr (blk off cap : Nat) (d : Array (List UInt8)) (w : World) (hH : Holds encStr w blk off d) (hsz : d.size ≤ 9223372036854775807) (hcap : d.size ≤ cap) :
    Calls Tryz.prog 130 #[.slice (some ⟨blk, off, none⟩) d.size cap] w fun e w' => e = .returned (.slice (some ⟨blk, off, none⟩) (compactUpTo d d.size).length cap) ∧ ∃ q, w' = putRow encStr (Sort.ahead w q) blk off (compactUpTo d d.size ++ List.replicate (d.size - (compactUpTo d d.size).length) []).toArray := Any.slices_Compact_string_arr lays194 blk off cap d w hH hsz hcap
open Go.RowKit Go.Lib Go.Sort in
theorem slices_Compact_string (blk off cap : Nat) (zs : List (List UInt8)) (w : World) (hH : Holds encStr w blk off zs.toArray) (hsz : zs.length ≤ 9223372036854775807) (hcap : zs.length ≤ cap) :
    Calls Tryz.prog 130 #[.slice (some ⟨blk, off, none⟩) zs.length cap] w fun e w' => e = .returned (.slice (some ⟨blk, off, none⟩) (Lib.compact zs).length cap) ∧ ∃ q, w' = putRow encStr (Sort.ahead w q) blk off (Lib.compact zs ++ List.replicate (zs.length - (Lib.compact zs).length) []).toArray := Any.slices_Compact_string lays194 blk off cap zs w hH hsz hcap
open Go.RowKit Go.Lib Go.Sort in
theorem slices_Compact_string_empty (a : Option Addr) (cap : Nat) (w : World) :
    Calls Tryz.prog 130 #[.slice a 0 cap] w fun e w' => e = .returned (.slice a 0 cap) ∧ w' = w := Any.slices_Compact_string_empty lays194 a cap w
open Go.RowKit Go.Lib Go.Sort in
theorem slices_Compact_string_cells (b off n c : Nat) (Sx : Nat → ByteArray) (w : World) (hbig : n ≤ 9223372036854775807) (hcap : n ≤ c) (hc : ∀ i, i < n → w.cell? ⟨b, off + i, none⟩ = some (.string (Sx i))) (hf : ∀ j, j < n → w.frozen? ⟨b, off + j, none⟩ = false) :
    Calls Tryz.prog 130 #[.slice (some ⟨b, off, none⟩) n c] w fun e w' => e = .returned (.slice (some ⟨b, off, none⟩) (Lib.compact (Lib.strsOf Sx n)).length c) ∧ ∃ q, w' = (w.drewN q).setCells b off ((Lib.compact (Lib.strsOf Sx n) ++ List.replicate (n - (Lib.compact (Lib.strsOf Sx n)).length) []).map encStr) := Any.slices_Compact_string_cells lays194 b off n c Sx w hbig hcap hc hf
open Go.RowKit Go.Sort in
theorem slices_Sort_string_none (p : Option Addr) (cap : Nat) (w : World) :
    Calls Tryz.prog 129 #[.slice p 0 cap] w fun e w' => e = .returned (.tuple #[]) ∧ w' = w := Any.slices_Sort_string_none lays190 p cap w
end Go.Proofs.YtmglgjchemecjaaGreat.XNames
/- sorted: names by their bytes, each once. -/
namespace Go.Proofs.YtmglgjchemecjaaGreat.CSorted
set_option maxRecDepth 200000
open Go.ChangeShapes Go.WideShapes Go.ChangeAt Go.RowKit Kit CFixups CSymbols PObj BObj CMarkRows BStore
def nmC (xs : List ByteArray) : List Value := xs.map Value.string
def bytesOf (xs : List ByteArray) : List (List UInt8) := xs.map (·.data.toList)
def sortB (xs : List ByteArray) : List (List UInt8) := Lib.compact ((bytesOf xs).mergeSort fun x y => decide (x ≤ y))
def srtN (xs : List ByteArray) : List ByteArray := (sortB xs).map fun l => ⟨l.toArray⟩
theorem enc_strs (ls : List (List UInt8)) : ls.map encStr = nmC (ls.map fun l => ⟨l.toArray⟩) := by
  unfold nmC
  rw [List.map_map]
  rfl
theorem strs_enc (xs : List ByteArray) : nmC xs = (bytesOf xs).map encStr := (Lib.map_encStr xs).symm
theorem srtN_nil : srtN [] = [] := by
  simp [srtN, sortB, bytesOf, Lib.compact, Lib.compactUpTo]
theorem srtN_pos (xs : List ByteArray) : 0 < (srtN xs).length ↔ 0 < xs.length := by
  constructor
  · intro h
    rcases xs with _ | ⟨x, xs⟩
    · rw [srtN_nil] at h
      exact h
    · simp
  · intro h
    have hm : ((bytesOf xs).mergeSort fun x y => decide (x ≤ y)).length = xs.length := by rw [List.length_mergeSort]; simp [bytesOf]
    unfold srtN sortB Lib.compact Lib.compactUpTo
    rw [List.length_map, List.length_map, List.length_pos_iff_exists_mem]
    exact ⟨0, List.mem_filter.2 ⟨List.mem_range.2 (by rw [hm]; exact h), by simpa using Lib.keeps_lt_one _ 0 (by omega)⟩⟩
theorem below_grow (w : World) (os : Array Obj) : Below w.heap.size w (Sort.grow w os) := ⟨rfl, rfl, rfl, by simp, fun _ hk => Sort.heap_grow_old w os hk⟩
/-- A row of names handed back. -/
def RetN (xs : List ByteArray) (w : World) (e : Ending) (w' : World) : Prop := ∃ A c, e = .returned (.slice A xs.length c) ∧ Row w' w.heap.size 9 1 A xs.length c (nmC xs) ∧ Below w.heap.size w w'
theorem of_owns {w : World} {base n : Nat} {v : Value} {xs : List Value} (h : w.ownsRow base 9 1 v n xs) : ∃ A c, v = .slice A n c ∧ Row w base 9 1 A n c xs := by
  rcases h.2 with ⟨rfl, rfl⟩ | ⟨g, cap, cur, rfl, _⟩
  · exact ⟨none, 0, rfl, .inr h⟩
  · exact ⟨_, cap, rfl, .inr h⟩
theorem cloneN_any (xs : List ByteArray) (A : Option Addr) (c : Nat) (base : Nat) (w : World) (h : Row w base 9 1 A xs.length c (nmC xs)) (hm : xs.length ≤ 1048576) :
    Calls Tryz.prog 128 #[.slice A xs.length c] w (RetN xs w) := by
  by_cases h0 : xs.length = 0
  · obtain rfl := List.eq_nil_of_length_eq_zero h0
    cases A with
    | none =>
      refine (XNames.slices_Clone_string_nil 0 c w).mono ?_
      rintro e w' ⟨rfl, rfl⟩
      exact ⟨none, 0, rfl, Row.empty _ _ _ _ _, Below.refl _ _⟩
    | some a =>
      refine (XNames.slices_Clone_string_zero a c w).mono ?_
      rintro e w' ⟨v, rfl, ho, _, hb⟩
      obtain ⟨A', c', rfl, hr⟩ := of_owns ho
      exact ⟨A', c', rfl, hr, hb⟩
  · obtain ⟨g, rfl, _, _, _, hown⟩ := own_of h (by omega)
    refine (XNames.slices_Clone_string g 0 xs.length c xs w (Nat.le_refl _) (by omega) (fun j hj => ?_)).mono ?_
    · have h1 := World.ownsRow.cellAt hown j (by simpa [nmC] using hj)
      rw [Nat.zero_add, h1]
      simp [nmC, List.getD_eq_getElem?_getD, List.getElem?_eq_getElem hj]
    · rintro e w' ⟨v, rfl, ho, _, hb⟩
      rw [List.take_length] at ho
      obtain ⟨A', c', rfl, hr⟩ := of_owns ho
      exact ⟨A', c', rfl, hr, hb⟩
set_option maxHeartbeats 1000000 in
theorem sorted_any (xs : List ByteArray) (A : Option Addr) (c : Nat) (base : Nat) (w : World) (h : Row w base 9 1 A xs.length c (nmC xs)) (hm : xs.length ≤ 1048576) :
    Calls Tryz.prog 71 #[.slice A xs.length c] w (RetN (srtN xs) w) := by
  have HQ := hide (cloneN_any xs A c base w h hm)
  clear h
  go_enter Tryz.func71, Tryz.ntmps71
  go_wp2_with fail
  refine HQ.out.mono ?_
  rintro e w1 ⟨A1, c1, rfl, r1, b1⟩
  have HR := hide r1
  have HB := hide b1
  clear r1 b1 HQ
  go_wp2_with fail
  have HS : Calls Tryz.prog 129 #[.slice A1 xs.length c1] w1 fun e w' => e = .returned (.tuple #[]) ∧ Row w' w.heap.size 9 1 A1 xs.length c1 (((bytesOf xs).mergeSort fun x y => decide (x ≤ y)).map encStr) ∧ Below w.heap.size w w' := by
    by_cases h0 : xs.length = 0
    · obtain rfl := List.eq_nil_of_length_eq_zero h0
      refine (XNames.slices_Sort_string_none A1 c1 w1).mono ?_
      rintro e w' ⟨rfl, rfl⟩
      exact ⟨rfl, by simpa [nmC, bytesOf] using HR.out, HB.out⟩
    · obtain ⟨g, rfl, hb1, hb2, _, hown⟩ := own_of HR.out (by omega)
      rw [strs_enc] at hown
      obtain ⟨g', cap, hv, _, _, _, _, hl, hH⟩ := Lib.holds_of_ownsRow hown (by intro e; cases e)
      injection hv with e1 _ e3
      simp only [Option.some.injEq, Addr.mk.injEq, and_true] at e1
      subst e1 e3
      have hl' : (bytesOf xs).length = xs.length := by simp [bytesOf]
      have hC := XNames.slices_Sort_string g 0 c1 (bytesOf xs) w1 hH hb2 (by rw [hl']; omega)
      rw [hl'] at hC
      refine hC.mono ?_
      rintro e w' ⟨rfl, q, os, rfl⟩
      have hlen : ((bytesOf xs).mergeSort fun x y => decide (x ≤ y)).length = xs.length := by rw [List.length_mergeSort, hl']
      have ho := Lib.ownsRow_putRow (q := q) (k := xs.length) hown hlen (Nat.le_refl _)
      rw [List.take_of_length_le (by omega)] at ho
      exact ⟨rfl, .inr (own_call (below_grow _ os) ho), (Lib.below_putRow HB.out hb1).trans ((below_grow _ os).mono (Lib.below_putRow HB.out hb1).size)⟩
  refine HS.mono ?_
  rintro e w2 ⟨rfl, r2, b2⟩
  have HR2 := hide r2
  have HB2 := hide b2
  clear r2 b2 HS HR HB
  go_wp2_with fail
  have HC : Calls Tryz.prog 130 #[.slice A1 xs.length c1] w2 fun e w' => ∃ c', e = .returned (.slice A1 (srtN xs).length c') ∧ Row w' w.heap.size 9 1 A1 (srtN xs).length c' (nmC (srtN xs)) ∧ Below w.heap.size w w' := by
    have hlen : ((bytesOf xs).mergeSort fun x y => decide (x ≤ y)).length = xs.length := by rw [List.length_mergeSort]; simp [bytesOf]
    by_cases h0 : xs.length = 0
    · obtain rfl := List.eq_nil_of_length_eq_zero h0
      refine (XNames.slices_Compact_string_empty A1 c1 w2).mono ?_
      rintro e w' ⟨rfl, rfl⟩
      rw [srtN_nil]
      exact ⟨c1, rfl, by simpa [nmC, bytesOf] using HR2.out, HB2.out⟩
    · obtain ⟨g, rfl, hb1, hb2, _, hown⟩ := own_of HR2.out (by omega)
      have hcap := HR2.out.cap.1
      generalize hM : ((bytesOf xs).mergeSort fun x y => decide (x ≤ y)) = M at *
      have hsr : srtN xs = (Lib.compact M).map fun l => ⟨l.toArray⟩ := by unfold srtN sortB; rw [hM]
      obtain ⟨g', cap, hv, _, _, _, _, hl, hH⟩ := Lib.holds_of_ownsRow hown (by intro e; cases e)
      injection hv with e1 _ e3
      simp only [Option.some.injEq, Addr.mk.injEq, and_true] at e1
      subst e1 e3
      have hle := Lib.compact_length_le M
      have hC := XNames.slices_Compact_string g 0 c1 M w2 hH (by omega) (by omega)
      rw [hlen] at hC
      refine hC.mono ?_
      rintro e w' ⟨rfl, q, rfl⟩
      have ho := Lib.ownsRow_putRow (q := q) (k := (Lib.compact M).length) (ys := Lib.compact M ++ List.replicate (xs.length - (Lib.compact M).length) []) hown (by simp; omega) (by omega)
      rw [List.take_left] at ho
      refine ⟨c1, by rw [hsr, List.length_map], ?_, Lib.below_putRow HB2.out hb1⟩
      rw [hsr, ← enc_strs, List.length_map]
      exact .inr ho
  refine HC.mono ?_
  rintro e w3 ⟨c3, rfl, r3, b3⟩
  have HB3 := hide b3
  have hl : (srtN xs).length ≤ 1048576 := by
    have h1 := Lib.compact_length_le ((bytesOf xs).mergeSort fun x y => decide (x ≤ y))
    rw [List.length_mergeSort] at h1
    have h2 : (bytesOf xs).length = xs.length := by simp [bytesOf]
    have h3 : (srtN xs).length = (sortB xs).length := by simp [srtN]
    unfold sortB at h3
    omega
  have HQ := hide (cloneN_any (srtN xs) A1 c3 _ w3 r3 hl)
  clear r3 b3 HC HR2 HB2 hl
  generalize srtN xs = ys at *
  go_wp2_with fail
  refine HQ.out.mono ?_
  rintro e w4 ⟨A4, c4, rfl, r4, b4⟩
  have HF := hide (And.intro (r4.down HB3.out.size) (HB3.out.trans (b4.mono HB3.out.size)))
  clear r4 b4 HQ
  go_wp2_with fail
  go_ret
  exact ⟨A4, c4, rfl, HF.out.1, HF.out.2⟩
end Go.Proofs.YtmglgjchemecjaaGreat.CSorted
