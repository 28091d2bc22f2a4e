/- The draws of objects, and what their sizes give (without what StripWanted asks). -/
import Derived.Test.YtmglgjchemecjaaGreatFnSortSymbolsM11
import Derived.Laws.Cover1
set_option linter.unusedSimpArgs false
set_option linter.unusedVariables false
namespace Go.Proofs.YtmglgjchemecjaaGreat.DDrawB
set_option maxRecDepth 200000
open Go.ChangeShapes Go.WideShapes Go.ChangeAt Go.RowKit Kit CCode CFixups CSymbols PObj BObj PValid CObjValid PWarn PClear DPick DVar DSection DObject CCopyS CCopyI
/-- Sizes of what is drawn, stripped or cleared. -/
def Bnd (d : OD) : Prop := d.ss.length ≤ 8 ∧ d.ys.length ≤ 13 ∧ (∀ s ∈ d.ss, s.nm.size ≤ 9 ∧ s.zs.length ≤ 49 ∧ s.fs.length ≤ 6) ∧ ∀ y ∈ d.ys, y.1.size ≤ 9
theorem bnd_small {d : OD} (h : SmallO d) : Bnd d := ⟨by have := h.1; omega, h.2.1, fun s hs => by
  have := h.2.2.1 s hs
  exact ⟨this.1, this.2.1, by have := this.2.2.2.1; omega⟩, h.2.2.2⟩
theorem bnd_nil : Bnd ⟨[], []⟩ := ⟨by simp, by simp, (fun s hs => absurd hs List.not_mem_nil), (fun s hs => absurd hs List.not_mem_nil)⟩
theorem bnd_clear {d : OD} (h : Bnd d) : Bnd (clearD d) := by
  unfold clearD
  cases objOk d
  · exact bnd_nil
  · refine ⟨by simpa using h.1, h.2.1, fun s hs => ?_, h.2.2.2⟩
    obtain ⟨p, hp, rfl⟩ := List.mem_map.1 hs
    have := h.2.2.1 p hp
    exact ⟨this.1, by show (clrs p.zs p.fs).length ≤ 49; rw [clrs_len]; exact this.2.1, this.2.2⟩
theorem bnd_fit {o : OV} {w : World} {base : Nat} (h : Bnd o.d) (ho : OwnO w base o) : Fit o ∧ (∀ p ∈ o.ps, p.zs.length ≤ p.c) := by
  have h1 : o.ps.length ≤ 8 := by simpa [OV.d] using h.1
  have h2 : o.ys.length ≤ 13 := h.2.1
  refine ⟨⟨by omega, by omega, ho.2.cap.1, fun p hp => ?_, fun y hy => ?_⟩, fun p hp => ((ho.1.2.1 p hp).1).cap.1⟩
  · have := h.2.2.1 p.d (List.mem_map_of_mem hp)
    have h3 : p.nm.size ≤ 9 ∧ p.zs.length ≤ 49 ∧ p.fs.length ≤ 6 := this
    unfold maxLen
    omega
  · have := h.2.2.2 y hy
    unfold maxLen
    omega
set_option maxHeartbeats 4000000 in
set_option maxHeartbeats 4000000 in
theorem draw_DrawSortSymbols {A : Option Addr} {zs : List Int} {c : Nat} {w : World} (hr : Rd w w.heap.size A (ints .u8 zs)) (hz : InR 0 255 zs) (hc : zs.length ≤ c) (hcm : c ≤ maxLen) :
    Calls Tryz.prog 11 #[.slice A zs.length c] w (fun e w' => ∃ d, Bnd d ∧ RetO d w e w') := by
  have b0 : Below w.heap.size w (w.alloc (.cells #[.slice none 0 0, .slice none 0 0] 31)) := (by repeat (first | exact Below.refl _ _ | with_reducible assumption | (refine Below.drew ?_) | (refine Below.drewN ?_ _) | (refine Below.alloc ?_ (by simp; try omega) _) | (refine Below.setCell ?_ (by simp; try omega) _)))
  have HO := hide (open_any A zs c _ ((hr.below b0).more b0.size) hz hc hcm)
  have HX := hide (Box.new w 31 #[.slice none 0 0, .slice none 0 0])
  have HB0 := hide b0
  clear hr hz hc hcm b0
  go_enter Tryz.func11, Tryz.ntmps11
  go_wp2_with fail
  refine HO.out.mono ?_
  rintro e w1 ⟨R, rfl, T, b1⟩
  have T0 := Tp.start T
  have hRl := T.1
  have X1 := HX.out.call b1
  have B1 := HB0.out.trans (b1.mono HB0.out.size)
  have hY1 := X1.lt
  go_wp2_with fail
  refine (object_any T0 (by omega) (by omega) 9 (by omega) (by omega)).mono ?_
  rintro e w2 ⟨⟨A1, c1, ps, Y1, yc1, ys⟩, rfl, sm, own, T2, _⟩
  have hsz : (w.alloc (.cells #[.slice none 0 0, .slice none 0 0] 31)).heap.size = w.heap.size + 1 := by simp
  have X2 := X1.grown T2.2 (fun k hk => by injection hk with hk; omega)
  have B2 := B1.trans (T2.below B1.size (show w.heap.size ≤ R by omega))
  have HSM := hide (bnd_small sm)
  have HFIN := hide (CObject.ret_object (own.down B1.size) B2 (fun k hk e => by have := (own.lt k hk).1; omega) (Nat.le_refl _))
  have q0 := X2.cell 0
  have q1 := X2.cell 1
  have f0 := X2.frozen 0
  have f1 := X2.frozen 1
  have hxl := X2.lt
  have kk := (X2.set 0 (.slice A1 ps.length c1)).set 1 (.slice Y1 ys.length yc1)
  have k0 := kk.cell 0
  have k1 := kk.cell 1
  simp only [List.setIfInBounds_toArray, List.set_cons_zero, List.set_cons_succ, List.getElem?_toArray, List.getElem?_cons_zero, List.getElem?_cons_succ] at q0 q1 k0 k1
  clear X1 X2 T T0 T2 b1 B1 B2 hsz HX HO HB0 kk own sm hRl hY1
  simp only [OV.v]
  go_wp2_with fail
  exact bodyPost_ret (v := OV.v ⟨A1, c1, ps, Y1, yc1, ys⟩) (by simp [results, Tryz.results11, go_sem, OV.v, k0, k1]) rfl ⟨_, HSM.out, HFIN.out⟩
end Go.Proofs.YtmglgjchemecjaaGreat.DDrawB
/- cmp.Compare of ints and strings, cmp.Or of two ints, slices.Index of ints, l22Before. -/
namespace Go.Proofs.YtmglgjchemecjaaGreat.CCmp
set_option maxRecDepth 200000
open Go.ChangeShapes Go.WideShapes Go.ChangeAt Go.RowKit Kit CFixups CSymbols PObj BObj PSort
theorem nanS_any (a : ByteArray) (w : World) : Calls Tryz.prog 105 #[.string a] w (Pure (.bool false) w) := by
  go_enter Tryz.func105, Tryz.ntmps105
  go_wp2
  go_ret
  exact ⟨by simp, rfl⟩
theorem nanI_any (a : Int) (w : World) : Calls Tryz.prog 104 #[.int .i64 a] w (Pure (.bool false) w) := by
  go_enter Tryz.func104, Tryz.ntmps104
  go_wp2
  go_ret
  exact ⟨by simp, rfl⟩
theorem compareI_any (a b : Int) (w : World) : Calls Tryz.prog 45 #[.int .i64 a, .int .i64 b] w (Pure (.int .i64 (cmpN a b)) w) := by
  go_enter Tryz.func45, Tryz.ntmps45
  go_wp2_with fail
  refine (nanI_any a w).mono ?_
  rintro e w1 ⟨rfl, rfl⟩
  go_wp2_with fail
  refine (nanI_any b w).mono ?_
  rintro e w1 ⟨rfl, rfl⟩
  by_cases h1 : a < b
  · have HV := hide (show cmpN a b = -1 by rw [cmpN, if_pos h1])
    go_wp2_with fail
    go_ret
    exact ⟨by rw [HV.out]; rfl, rfl⟩
  · by_cases h2 : b < a
    · have HV := hide (show cmpN a b = 1 by rw [cmpN, if_neg h1, if_pos h2])
      go_wp2_with fail
      go_ret
      exact ⟨by rw [HV.out]; rfl, rfl⟩
    · have HV := hide (show cmpN a b = 0 by rw [cmpN, if_neg h1, if_neg h2])
      go_wp2_with fail
      go_ret
      exact ⟨by rw [HV.out]; rfl, rfl⟩
theorem compareS_any (a b : ByteArray) (w : World) : Calls Tryz.prog 46 #[.string a, .string b] w (Pure (.int .i64 (cmpS a b)) w) := by
  go_enter Tryz.func46, Tryz.ntmps46
  go_wp2_with fail
  refine (nanS_any a w).mono ?_
  rintro e w1 ⟨rfl, rfl⟩
  go_wp2_with fail
  refine (nanS_any b w).mono ?_
  rintro e w1 ⟨rfl, rfl⟩
  cases h1 : Op.bytesLess a.toList b.toList
  · cases h2 : (a.toList == b.toList)
    · have HV := hide (show cmpS a b = 1 by simp only [cmpS, sl, h1, h2]; rfl)
      go_wp2_with fail
      go_ret
      exact ⟨by rw [HV.out]; rfl, rfl⟩
    · have HV := hide (show cmpS a b = 0 by simp only [cmpS, sl, h1, h2]; rfl)
      go_wp2_with fail
      go_ret
      exact ⟨by rw [HV.out]; rfl, rfl⟩
  · have HV := hide (show cmpS a b = -1 by simp only [cmpS, sl, h1]; rfl)
    go_wp2_with fail
    go_ret
    exact ⟨by rw [HV.out]; rfl, rfl⟩
def or2 (a b : Int) : Int := if a ≠ 0 then a else b
theorem or_any (b off c : Nat) (x y : Int) (w : World) (h0 : w.cell? ⟨b, off, none⟩ = some (.int .i64 x)) (h1 : w.cell? ⟨b, off + 1, none⟩ = some (.int .i64 y)) :
    Calls Tryz.prog 44 #[.slice (some ⟨b, off, none⟩) 2 c] w (Pure (.int .i64 (or2 x y)) w) := by
  have HH := hide (And.intro h0 h1)
  clear h0 h1
  go_enter Tryz.func44, Tryz.ntmps44
  go_wp2
  go_loop [8] (fun i => ∃ k : Nat, k ≤ 2 ∧ i = .int .i64 k ∧ (0 < k → x = 0) ∧ (1 < k → y = 0)) (fun i => 2 - (intOf i).toNat)
  case atStart => exact ⟨0, Nat.zero_le _, rfl, fun h => by omega, fun h => by omega⟩
  case round =>
    obtain ⟨k, hk, rfl, hx, hy⟩ := hrel
    have hk : k = 0 ∨ k = 1 ∨ k = 2 := by omega
    have hh0 := HH.out.1
    have hh1 := HH.out.2
    rcases hk with rfl | rfl | rfl
    · by_cases hz : x = 0
      · subst hz
        go_wp2_with fail
        go_round
        case rel => exact ⟨1, by omega, by go_num, fun _ => by trivial, fun h => by omega⟩
        case measure => simp [intOf]
      · have e1 : (x != 0) = true := bne_iff_ne.2 hz
        have HV := hide (show or2 x y = x by rw [or2, if_pos hz])
        clear hx hy hz
        go_wp2_with fail
        go_ret
        exact ⟨by rw [HV.out]; rfl, rfl⟩
    · have hx0 := hx (by omega)
      subst hx0
      have HV := hide (show or2 0 y = y by rw [or2, if_neg (by simp)])
      by_cases hz : y = 0
      · subst hz
        clear hx hy
        go_wp2_with fail
        go_round
        case rel => exact ⟨2, by omega, by go_num, fun _ => by trivial, fun _ => by trivial⟩
        case measure => simp [intOf]
      · have e1 : (y != 0) = true := bne_iff_ne.2 hz
        clear hx hy hz
        go_wp2_with fail
        go_ret
        exact ⟨by rw [HV.out]; rfl, rfl⟩
    · have hx0 := hx (by omega)
      have hy0 := hy (by omega)
      subst hx0 hy0
      clear hx hy
      go_wp2_with fail
      go_ret
      exact ⟨rfl, rfl⟩
def toI (L : List Nat) : List Int := L.map fun (n : Nat) => (n : Int)
@[simp] theorem toI_len (L : List Nat) : (toI L).length = L.length := by simp [toI]
/-- slices.Index of ints. -/
theorem index_any (A : Option Addr) (L : List Nat) (c : Nat) (x : Nat) (w : World) (hr : Rd w w.heap.size A (ints .i64 (toI L))) (hm : L.length ≤ 1000000) (hx : x ∈ L) :
    Calls Tryz.prog 48 #[.slice A L.length c, .int .i64 x] w (Pure (.int .i64 (L.idxOf x : Nat)) w) := by
  have HR := hide hr
  have HX := hide hx
  clear hr hx
  go_enter Tryz.func48, Tryz.ntmps48
  go_wp2
  go_loop [8] (fun i => ∃ k : Nat, k ≤ L.length ∧ i = .int .i64 k ∧ x ∉ L.take k) (fun i => L.length - (intOf i).toNat)
  case atStart => exact ⟨0, Nat.zero_le _, rfl, by simp⟩
  case round =>
    obtain ⟨k, hk, rfl, hno⟩ := hrel
    by_cases hlt : k < L.length
    · obtain ⟨b, off, hA, hb, hc0⟩ := HR.out.int (show k < (toI L).length by simpa using hlt)
      have hc : w.cell? ⟨b, off + k, none⟩ = some (.int .i64 (L[k] : Nat)) := by simpa [toI] using hc0
      clear hc0
      subst hA
      have HS := hide (show L[k] ≠ x → x ∉ L.take (k + 1) from fun h => by
        rw [take_succ hlt, List.mem_append, List.mem_singleton]
        rintro (h' | h')
        · exact hno h'
        · exact h h'.symm)
      have HT := hide (show L[k] = x → L.idxOf x = k from fun h => by
        have e : L = L.take k ++ L[k] :: L.drop (k + 1) := by rw [← List.drop_eq_getElem_cons hlt, List.take_append_drop]
        rw [e, List.idxOf_append, if_neg hno, List.length_take, h]
        simp
        omega)
      clear hno
      generalize L[k] = y at *
      by_cases hy : y = x
      · have HV := hide (HT.out hy)
        clear HS HT
        subst hy
        go_wp2_with fail
        go_ret
        exact ⟨by rw [HV.out]; rfl, rfl⟩
      · have HV := hide (HS.out hy)
        have e1 : ((x : Int) == (y : Int)) = false := by
          rw [beq_eq_false_iff_ne]
          omega
        clear HS HT hy
        go_wp2_with fail
        go_round
        case rel => exact ⟨k + 1, by omega, by go_num, HV.out⟩
        case measure => simp [intOf]; omega
    · exact absurd HX.out (by rwa [List.take_of_length_le (by omega)] at hno)
theorem l22Before_any (a b : YD) (w : World) :
    Calls Tryz.prog 51 #[.agg #[.string a.1, .int .i64 a.2.1, .int .i64 a.2.2.1, .int .i64 a.2.2.2], .agg #[.string b.1, .int .i64 b.2.1, .int .i64 b.2.2.1, .int .i64 b.2.2.2]] w (Ret (.bool (bef a b)) w) := by
  have B0 : Below w.heap.size w ((w.alloc (.cells #[.string a.1, .int .i64 a.2.1, .int .i64 a.2.2.1, .int .i64 a.2.2.2] 69)).alloc (.cells #[.string b.1, .int .i64 b.2.1, .int .i64 b.2.2.1, .int .i64 b.2.2.2] 69)) := (by repeat (first | exact Below.refl _ _ | with_reducible assumption | (refine Below.drew ?_) | (refine Below.drewN ?_ _) | (refine Below.alloc ?_ (by simp; try omega) _) | (refine Below.setCell ?_ (by simp; try omega) _)))
  have HB := hide B0
  clear B0
  have HV := hide (show bef a b = bif ((a.2.1 == 0) != (b.2.1 == 0)) then (a.2.1 == 0) else Op.bytesLess a.1.toList b.1.toList from rfl)
  go_enter Tryz.func51, Tryz.ntmps51
  obtain ⟨an, ab, aw, av⟩ := a
  obtain ⟨bn, bb, bw, bv⟩ := b
  simp only at HB HV ⊢
  by_cases h1 : ab = 0
  · subst h1
    by_cases h2 : bb = 0
    · subst h2
      go_wp2_with fail
      go_ret
      exact ⟨by rw [HV.out]; rfl, HB.out⟩
    · have e2 : (bb == 0) = false := beq_eq_false_iff_ne.2 h2
      rw [e2] at HV
      clear h2
      go_wp2_with fail
      go_ret
      exact ⟨by rw [HV.out]; rfl, HB.out⟩
  · have e1 : (ab == 0) = false := beq_eq_false_iff_ne.2 h1
    rw [e1] at HV
    clear h1
    by_cases h2 : bb = 0
    · subst h2
      go_wp2_with fail
      go_ret
      exact ⟨by rw [HV.out]; rfl, HB.out⟩
    · have e2 : (bb == 0) = false := beq_eq_false_iff_ne.2 h2
      rw [e2] at HV
      clear h2
      go_wp2_with fail
      go_ret
      exact ⟨by rw [HV.out]; rfl, HB.out⟩
end Go.Proofs.YtmglgjchemecjaaGreat.CCmp
/- The comparer of symbols that SortSymbols hands to the library. -/
namespace Go.Proofs.YtmglgjchemecjaaGreat.CCmpY
set_option maxRecDepth 200000
open Go.ChangeShapes Go.WideShapes Go.ChangeAt Go.RowKit Kit CFixups CSymbols PObj BObj PSort CCmp
theorem group_any (V : Nat) (Y : Option Addr) (ys : List YD) (yc j : Nat) (hj : j < ys.length) (w : World) (hY : w.cell? ⟨V, 1, none⟩ = some (.slice Y ys.length yc)) (hr : Rd w w.heap.size Y (cellsOf symbolC ys)) (hm : ys.length ≤ 1000000) :
    Calls Tryz.prog 41 #[.int .i64 j, .pointer (some ⟨V, 0, none⟩)] w (Pure (.int .i64 (grp ys[j])) w) := by
  obtain ⟨b, off, hA, hb, hc⟩ := hr.row symbolC_len (by decide) hj
  have hc1 := hc 1 _ rfl
  subst hA
  clear hc hr
  have HV := hide (show grp ys[j] = if (ys[j].2.1 == 0) = true then 0 else 1 from rfl)
  generalize ys[j] = z at *
  go_enter Tryz.func41, Tryz.ntmps41
  by_cases h : z.2.1 = 0
  · have e1 : (z.2.1 == 0) = true := beq_iff_eq.2 h
    rw [e1] at HV
    go_wp2_with fail
    go_ret
    exact ⟨by rw [HV.out]; rfl, rfl⟩
  · have e1 : (z.2.1 == 0) = false := beq_eq_false_iff_ne.2 h
    rw [e1] at HV
    clear h
    go_wp2_with fail
    go_ret
    exact ⟨by rw [HV.out]; rfl, rfl⟩
/-- What the comparer reads. -/
def CmpInv (V G : Nat) (Y : Option Addr) (ys : List YD) (yc : Nat) (w : World) : Prop :=
  w.cell? ⟨V, 1, none⟩ = some (.slice Y ys.length yc) ∧ w.cell? ⟨G, 0, none⟩ = some (.func (.func 41) #[] #[.pointer (some ⟨V, 0, none⟩)]) ∧ Rd w w.heap.size Y (cellsOf symbolC ys) ∧ V < w.heap.size ∧ G < w.heap.size
theorem CmpInv.call {V G : Nat} {Y : Option Addr} {ys : List YD} {yc : Nat} {w w' : World} (h : CmpInv V G Y ys yc w) (hb : Below w.heap.size w w') : CmpInv V G Y ys yc w' :=
  ⟨(hb.cell (p := ⟨V, 1, none⟩) h.2.2.2.1).trans h.1, (hb.cell (p := ⟨G, 0, none⟩) h.2.2.2.2).trans h.2.1, (h.2.2.1.below hb).more hb.size, Nat.lt_of_lt_of_le h.2.2.2.1 hb.size, Nat.lt_of_lt_of_le h.2.2.2.2 hb.size⟩
set_option maxHeartbeats 2000000 in
theorem cmp_any (V G : Nat) (Y : Option Addr) (ys : List YD) (yc i j : Nat) (hi : i < ys.length) (hj : j < ys.length) (w : World) (h : CmpInv V G Y ys yc w) (hm : ys.length ≤ 1000000) :
    Calls Tryz.prog 43 #[.int .i64 i, .int .i64 j, .pointer (some ⟨G, 0, none⟩), .pointer (some ⟨V, 0, none⟩)] w (Ret (.int .i64 (cmpY ys[i] ys[j])) w) := by
  obtain ⟨hV, hG, hr, hVl, hGl⟩ := h
  obtain ⟨b, off, hA, hb, hc⟩ := hr.row symbolC_len (by decide) hi
  obtain ⟨b', off', hA', hb', hc'⟩ := hr.row symbolC_len (by decide) hj
  have e := hA.symm.trans hA'
  simp only [Option.some.injEq, Addr.mk.injEq, and_true] at e
  obtain ⟨rfl, rfl⟩ := e
  have hi0 := hc 0 _ rfl
  have hj0 := hc' 0 _ rfl
  simp only [Nat.add_zero] at hi0 hj0
  have HGA := hide (fun W (hW : Below w.heap.size w W) => group_any V Y ys yc i hi W ((hW.cell (p := ⟨V, 1, none⟩) hVl).trans hV) ((hr.below hW).more hW.size) hm)
  have HGB := hide (fun W (hW : Below w.heap.size w W) => group_any V Y ys yc j hj W ((hW.cell (p := ⟨V, 1, none⟩) hVl).trans hV) ((hr.below hW).more hW.size) hm)
  have HV := hide (show cmpY ys[i] ys[j] = or2 (cmpN (grp ys[i]) (grp ys[j])) (cmpS ys[i].1 ys[j].1) from rfl)
  subst hA
  clear hc hc' hr hA'
  generalize ys[i] = x at *
  generalize ys[j] = y at *
  generalize grp x = gx at *
  generalize grp y = gy at *
  obtain ⟨xn, xr⟩ := x
  obtain ⟨yn, yr⟩ := y
  simp only at hi0 hj0 HV
  go_enter Tryz.func43, Tryz.ntmps43
  go_wp2_with fail
  have HS := hide (fun W (hW : Below w.heap.size w W) => (show W.cell? ⟨G, 0, none⟩ = some (.func (.func 41) #[] #[.pointer (some ⟨V, 0, none⟩)]) ∧ W.cell? ⟨V, 1, none⟩ = some (.slice (some ⟨b, off, none⟩) ys.length yc) ∧ W.cell? ⟨b, off + i * 4, none⟩ = some (.string xn) ∧ W.cell? ⟨b, off + j * 4, none⟩ = some (.string yn) from ⟨(hW.cell (p := ⟨G, 0, none⟩) hGl).trans hG, (hW.cell (p := ⟨V, 1, none⟩) hVl).trans hV, (hW.cell (p := ⟨b, off + i * 4, none⟩) hb).trans hi0, (hW.cell (p := ⟨b, off + j * 4, none⟩) hb).trans hj0⟩))
  clear hi0 hj0 hG hV
  refine Reg.startT (fun W => W.cell? ⟨G, 0, none⟩ = some (.func (.func 41) #[] #[.pointer (some ⟨V, 0, none⟩)]) ∧ W.cell? ⟨V, 1, none⟩ = some (.slice (some ⟨b, off, none⟩) ys.length yc) ∧ W.cell? ⟨b, off + i * 4, none⟩ = some (.string xn) ∧ W.cell? ⟨b, off + j * 4, none⟩ = some (.string yn)) (fun _ => false) (by kernel_rfl) ?_
  have hHeld := HS.out w.drew (Below.drew (Below.refl _ _))
  refine Reg.takeT (i := 0) (v := ?_) rfl (by kernel_rfl) (by kernel_rfl) (by kernel_rfl) (by kernel_rfl) (fun _ _ _ h => h) (Or.inl ⟨by rfl, ?_⟩) (by assumption) ?_
  rotate_left 1
  focus (intro w hSw; (try dsimp only at hSw); go_simp; (try with_reducible rfl))
  try simp only [List.getElem_toArray, List.getElem_cons_succ, List.getElem_cons_zero, Act.put, List.setIfInBounds_toArray, List.set_cons_zero, List.set_cons_succ]
  refine Reg.takeT (i := 1) (v := ?_) rfl (by kernel_rfl) (by kernel_rfl) (by kernel_rfl) (by kernel_rfl) (fun _ _ _ h => h) (Or.inl ⟨by rfl, ?_⟩) (by assumption) ?_
  rotate_left 1
  focus (intro w hSw; (try dsimp only at hSw); go_simp; (try with_reducible rfl))
  try simp only [List.getElem_toArray, List.getElem_cons_succ, List.getElem_cons_zero, Act.put, List.setIfInBounds_toArray, List.set_cons_zero, List.set_cons_succ]
  refine Reg.takeT (i := 3) (v := ?_) rfl (by kernel_rfl) (by kernel_rfl) (by kernel_rfl) (by kernel_rfl) (fun _ _ _ h => h) (Or.inl ⟨by rfl, ?_⟩) (by assumption) ?_
  rotate_left 1
  focus (intro w hSw; (try dsimp only at hSw); go_simp; (try with_reducible rfl))
  try simp only [List.getElem_toArray, List.getElem_cons_succ, List.getElem_cons_zero, Act.put, List.setIfInBounds_toArray, List.set_cons_zero, List.set_cons_succ]
  refine Reg.takeT (i := 4) (v := ?_) rfl (by kernel_rfl) (by kernel_rfl) (by kernel_rfl) (by kernel_rfl) (fun _ _ _ h => h) (Or.inl ⟨by rfl, ?_⟩) (by assumption) ?_
  rotate_left 1
  focus (intro w hSw; (try dsimp only at hSw); go_simp; (try with_reducible rfl))
  try simp only [List.getElem_toArray, List.getElem_cons_succ, List.getElem_cons_zero, Act.put, List.setIfInBounds_toArray, List.set_cons_zero, List.set_cons_succ]
  refine Reg.takeT (i := 7) (v := ?_) rfl (by kernel_rfl) (by kernel_rfl) (by kernel_rfl) (by kernel_rfl) (fun _ _ _ h => h) (Or.inl ⟨by rfl, ?_⟩) (by assumption) ?_
  rotate_left 1
  focus (intro w hSw; (try dsimp only at hSw); go_simp; (try with_reducible rfl))
  try simp only [List.getElem_toArray, List.getElem_cons_succ, List.getElem_cons_zero, Act.put, List.setIfInBounds_toArray, List.set_cons_zero, List.set_cons_succ]
  refine Reg.takeT (i := 8) (v := ?_) rfl (by kernel_rfl) (by kernel_rfl) (by kernel_rfl) (by kernel_rfl) (fun _ _ _ h => h) (Or.inl ⟨by rfl, ?_⟩) (by assumption) ?_
  rotate_left 1
  focus (intro w hSw; (try dsimp only at hSw); go_simp; (try with_reducible rfl))
  try simp only [List.getElem_toArray, List.getElem_cons_succ, List.getElem_cons_zero, Act.put, List.setIfInBounds_toArray, List.set_cons_zero, List.set_cons_succ]
  refine Reg.takeT (i := 9) (v := ?_) rfl (by kernel_rfl) (by kernel_rfl) (by kernel_rfl) (by kernel_rfl) (fun _ _ _ h => h) (Or.inl ⟨by rfl, ?_⟩) (by assumption) ?_
  rotate_left 1
  focus (intro w hSw; (try dsimp only at hSw); go_simp; (try with_reducible rfl))
  try simp only [List.getElem_toArray, List.getElem_cons_succ, List.getElem_cons_zero, Act.put, List.setIfInBounds_toArray, List.set_cons_zero, List.set_cons_succ]
  refine Reg.takeT (i := 10) (v := ?_) rfl (by kernel_rfl) (by kernel_rfl) (by kernel_rfl) (by kernel_rfl) (fun _ _ _ h => h) (Or.inl ⟨by rfl, ?_⟩) (by assumption) ?_
  rotate_left 1
  focus (intro w hSw; (try dsimp only at hSw); go_simp; (try with_reducible rfl))
  try simp only [List.getElem_toArray, List.getElem_cons_succ, List.getElem_cons_zero, Act.put, List.setIfInBounds_toArray, List.set_cons_zero, List.set_cons_succ]
  refine Reg.takeT (i := 11) (v := ?_) rfl (by kernel_rfl) (by kernel_rfl) (by kernel_rfl) (by kernel_rfl) (fun _ _ _ h => h) (Or.inl ⟨by rfl, ?_⟩) (by assumption) ?_
  rotate_left 1
  focus (intro w hSw; (try dsimp only at hSw); go_simp; (try with_reducible rfl))
  try simp only [List.getElem_toArray, List.getElem_cons_succ, List.getElem_cons_zero, Act.put, List.setIfInBounds_toArray, List.set_cons_zero, List.set_cons_succ]
  refine Reg.takeT (i := 12) (v := ?_) rfl (by kernel_rfl) (by kernel_rfl) (by kernel_rfl) (by kernel_rfl) (fun _ _ _ h => h) (Or.inl ⟨by rfl, ?_⟩) (by assumption) ?_
  rotate_left 1
  focus (intro w hSw; (try dsimp only at hSw); go_simp; (try with_reducible rfl))
  try simp only [List.getElem_toArray, List.getElem_cons_succ, List.getElem_cons_zero, Act.put, List.setIfInBounds_toArray, List.set_cons_zero, List.set_cons_succ]
  refine Reg.takeT (i := 13) (v := ?_) rfl (by kernel_rfl) (by kernel_rfl) (by kernel_rfl) (by kernel_rfl) (fun _ _ _ h => h) (Or.inl ⟨by rfl, ?_⟩) (by assumption) ?_
  rotate_left 1
  focus (intro w hSw; (try dsimp only at hSw); go_simp; (try with_reducible rfl))
  try simp only [List.getElem_toArray, List.getElem_cons_succ, List.getElem_cons_zero, Act.put, List.setIfInBounds_toArray, List.set_cons_zero, List.set_cons_succ]
  refine Reg.takeT (i := 14) (v := ?_) rfl (by kernel_rfl) (by kernel_rfl) (by kernel_rfl) (by kernel_rfl) (fun _ _ _ h => h) (Or.inl ⟨by rfl, ?_⟩) (by assumption) ?_
  rotate_left 1
  focus (intro w hSw; (try dsimp only at hSw); go_simp; (try with_reducible rfl))
  try simp only [List.getElem_toArray, List.getElem_cons_succ, List.getElem_cons_zero, Act.put, List.setIfInBounds_toArray, List.set_cons_zero, List.set_cons_succ]
  refine Reg.takeT (i := 15) (v := ?_) rfl (by kernel_rfl) (by kernel_rfl) (by kernel_rfl) (by kernel_rfl) (fun _ _ _ h => h) (Or.inl ⟨by rfl, ?_⟩) (by assumption) ?_
  rotate_left 1
  focus (intro w hSw; (try dsimp only at hSw); go_simp; (try with_reducible rfl))
  try simp only [List.getElem_toArray, List.getElem_cons_succ, List.getElem_cons_zero, Act.put, List.setIfInBounds_toArray, List.set_cons_zero, List.set_cons_succ]
  refine Reg.takeT (i := 16) (v := ?_) rfl (by kernel_rfl) (by kernel_rfl) (by kernel_rfl) (by kernel_rfl) (fun _ _ _ h => h) (Or.inl ⟨by rfl, ?_⟩) (by assumption) ?_
  rotate_left 1
  focus (intro w hSw; (try dsimp only at hSw); go_simp; (try with_reducible rfl))
  try simp only [List.getElem_toArray, List.getElem_cons_succ, List.getElem_cons_zero, Act.put, List.setIfInBounds_toArray, List.set_cons_zero, List.set_cons_succ]
  refine Reg.takeT (i := 17) (v := ?_) rfl (by kernel_rfl) (by kernel_rfl) (by kernel_rfl) (by kernel_rfl) (fun _ _ _ h => h) (Or.inl ⟨by rfl, ?_⟩) (by assumption) ?_
  rotate_left 1
  focus (intro w hSw; (try dsimp only at hSw); go_simp; (try with_reducible rfl))
  try simp only [List.getElem_toArray, List.getElem_cons_succ, List.getElem_cons_zero, Act.put, List.setIfInBounds_toArray, List.set_cons_zero, List.set_cons_succ]
  refine Reg.takeT (i := 18) (v := ?_) rfl (by kernel_rfl) (by kernel_rfl) (by kernel_rfl) (by kernel_rfl) (fun _ _ _ h => h) (Or.inl ⟨by rfl, ?_⟩) (by assumption) ?_
  rotate_left 1
  focus (intro w hSw; (try dsimp only at hSw); go_simp; (try with_reducible rfl))
  try simp only [List.getElem_toArray, List.getElem_cons_succ, List.getElem_cons_zero, Act.put, List.setIfInBounds_toArray, List.set_cons_zero, List.set_cons_succ]
  refine Reg.oneT (i := 2) rfl (by kernel_rfl) (fun K hK => ?_)
  go_simp
  refine (HGA.out w.drew (Below.drew (Below.refl _ _))).mono ?_
  rintro e w1 ⟨rfl, rfl⟩
  refine hK.out _ _ hHeld ?_
  clear hK K
  try simp only [List.getElem_toArray, List.getElem_cons_succ, List.getElem_cons_zero, Act.put, List.setIfInBounds_toArray, List.set_cons_zero, List.set_cons_succ]
  refine Reg.oneT (i := 5) rfl (by kernel_rfl) (fun K hK => ?_)
  go_simp
  refine (HGB.out w.drew (Below.drew (Below.refl _ _))).mono ?_
  rintro e w1 ⟨rfl, rfl⟩
  refine hK.out _ _ hHeld ?_
  clear hK K
  try simp only [List.getElem_toArray, List.getElem_cons_succ, List.getElem_cons_zero, Act.put, List.setIfInBounds_toArray, List.set_cons_zero, List.set_cons_succ]
  refine Reg.oneT (i := 6) rfl (by kernel_rfl) (fun K hK => ?_)
  go_simp
  refine (compareI_any gx gy w.drew).mono ?_
  rintro e w1 ⟨rfl, rfl⟩
  refine hK.out _ _ hHeld ?_
  clear hK K
  try simp only [List.getElem_toArray, List.getElem_cons_succ, List.getElem_cons_zero, Act.put, List.setIfInBounds_toArray, List.set_cons_zero, List.set_cons_succ]
  refine Reg.oneT (i := 19) rfl (by kernel_rfl) (fun K hK => ?_)
  go_simp
  refine (compareS_any xn yn w.drew).mono ?_
  rintro e w1 ⟨rfl, rfl⟩
  refine hK.out _ _ hHeld ?_
  clear hK K
  try simp only [List.getElem_toArray, List.getElem_cons_succ, List.getElem_cons_zero, Act.put, List.setIfInBounds_toArray, List.set_cons_zero, List.set_cons_succ]
  generalize cmpN gx gy = ci at *
  generalize cmpS xn yn = cs at *
  refine Reg.oneT (i := 20) rfl (by kernel_rfl) (fun K hK => ?_)
  go_simp
  have B2 : Below w.heap.size w (w.alloc (.cells #[.int .i64 ci, .int .i64 cs] 3)).drew := (by repeat (first | exact Below.refl _ _ | with_reducible assumption | (refine Below.drew ?_) | (refine Below.drewN ?_ _) | (refine Below.alloc ?_ (by simp; try omega) _) | (refine Below.setCell ?_ (by simp; try omega) _)))
  have X2 := (Box.new w 3 #[.int .i64 ci, .int .i64 cs]).drew
  have hHeld := HS.out _ B2
  refine hK.out _ _ hHeld ?_
  clear hK K
  try simp only [List.getElem_toArray, List.getElem_cons_succ, List.getElem_cons_zero, Act.put, List.setIfInBounds_toArray, List.set_cons_zero, List.set_cons_succ]
  have HB2 := hide B2
  have HO := hide (or_any w.heap.size 0 2 ci cs _ (X2.cell 0) (X2.cell 1))
  clear B2 X2
  refine Reg.oneT (i := 21) rfl (by kernel_rfl) (fun K hK => ?_)
  go_simp
  refine HO.out.mono ?_
  rintro e w1 ⟨rfl, rfl⟩
  refine hK.out _ _ hHeld ?_
  clear hK K
  try simp only [List.getElem_toArray, List.getElem_cons_succ, List.getElem_cons_zero, Act.put, List.setIfInBounds_toArray, List.set_cons_zero, List.set_cons_succ]
  refine Reg.takeT (i := 22) (v := ?_) rfl (by kernel_rfl) (by kernel_rfl) (by kernel_rfl) (by kernel_rfl) (fun _ _ _ h => h) (Or.inl ⟨by rfl, ?_⟩) (by assumption) ?_
  rotate_left 1
  focus (intro w hSw; (try dsimp only at hSw); go_simp; (try with_reducible rfl))
  try simp only [List.getElem_toArray, List.getElem_cons_succ, List.getElem_cons_zero, Act.put, List.setIfInBounds_toArray, List.set_cons_zero, List.set_cons_succ]
  refine Reg.doneT (by kernel_rfl) ?_ _
  clear hHeld HS
  go_wp2_with fail
  go_ret
  exact ⟨by rw [HV.out]; rfl, HB2.out⟩
end Go.Proofs.YtmglgjchemecjaaGreat.CCmpY
/- The library's stable sort of at most 19 numbers that stand in order: the insertion sort, at whatever comparer. -/
namespace Go.Proofs.YtmglgjchemecjaaGreat.CIns
set_option maxRecDepth 200000
open Go.ChangeShapes Go.WideShapes Go.ChangeAt Go.RowKit Kit CFixups CSymbols PObj BObj PSort CCmp
/-- The row of numbers, sorted so far. -/
def RowI (w : World) (base g n c : Nat) (L : List Nat) : Prop := w.ownsRow base 3 1 (.slice (some ⟨g, 0, none⟩) n c) n (ints .i64 (toI L))
section
variable {w w' : World} {base g n c : Nat} {L : List Nat}
theorem RowI.len (h : RowI w base g n c L) : L.length = n := by
  have := h.1
  simpa using this
theorem RowI.put (h : RowI w base g n c L) (j x : Nat) : RowI (w.setCell ⟨g, j, none⟩ (.int .i64 x)) base g n c (L.set j x) := by
  have e : toI (L.set j x) = (toI L).set j (x : Int) := by simp [toI, List.map_set]
  unfold RowI
  rw [e, ← setInts]
  exact (World.ownsRow.stored h j _).1
theorem RowI.call (h : RowI w base g n c L) (hb : Below w.heap.size w w') : RowI w' base g n c L := own_call hb h
theorem RowI.cell (h : RowI w base g n c L) {j : Nat} (hj : j < n) : w.cell? ⟨g, j, none⟩ = some (.int .i64 (L.getD j 0 : Nat)) := by
  have hl := h.len
  have h1 := World.ownsRow.cellAt h j (by omega)
  rw [h1]
  simp [toI, List.getD_eq_getElem?_getD, List.getElem?_eq_getElem (show j < L.length by omega)]
theorem RowI.frozen (h : RowI w base g n c L) (j : Nat) : w.frozen? ⟨g, j, none⟩ = false := World.ownsRow.frozenAt h j
theorem RowI.lt (h : RowI w base g n c L) : base ≤ g ∧ g < w.heap.size := World.ownsRow.lt h g rfl
end
section
variable {w : World} {base n c : Nat} {A : Option Addr} {L : List Nat}
end
/-- What a sort leaves. -/
def Sorted (w : World) (base g n c : Nat) (L : List Nat) (e : Ending) (w' : World) : Prop := e = .returned (.tuple #[]) ∧ RowI w' base g n c L ∧ w.grownBy w' (some g)
set_option maxHeartbeats 2000000 in
theorem insertion_any (F : FuncId) (X : Array Value) (hF : ∀ zs W, (callFunc F zs).run Tryz.prog W = .ok (.enter F zs) W) (cv : Nat → Nat → Int) (base g n c : Nat) (w : World) (hrow : RowI w base g n c (List.range n)) (hn : n ≤ 100) (hn0 : 0 < n)
    (HC : ∀ W, w.grownBy W (some g) → ∀ i j, i < n → j < n → Calls Tryz.prog F (#[.int .i64 i, .int .i64 j] ++ X) W (Ret (.int .i64 (cv i j)) W)) (hbd : ∀ i j, -1 ≤ cv i j ∧ cv i j ≤ 1) :
    Calls Tryz.prog 150 #[.slice (some ⟨g, 0, none⟩) n c, .int .i64 0, .int .i64 n, .func (.func F) #[] X] w
      (Sorted w base g n c (ord (fun i j => decide (cv i j < 0)) n)) := by
  have HROW := hide (And.intro hrow (grown_refl w (some g)))
  have HCC := hide HC
  have HBD := hide hbd
  have HFF := hide hF
  clear HC hrow hbd hF
  have HST := hide (show ord (fun i j => decide (cv i j < 0)) 1 ++ (List.range n).drop 1 = List.range n by
    obtain ⟨m, rfl⟩ : ∃ m, n = m + 1 := ⟨n - 1, by omega⟩
    rw [List.range_succ_eq_map]
    rfl)
  have HEND := hide (fun (k : Nat) (hk : ¬ k < n) (hk' : k ≤ n) => (show ord (fun i j => decide (cv i j < 0)) k ++ (List.range n).drop k = ord (fun i j => decide (cv i j < 0)) n by
    have : k = n := by omega
    subst this
    rw [List.drop_of_length_le (by simp), List.append_nil]))
  have HSTEP := hide (fun (k : Nat) (hk : k < n) => (show (List.range n).drop k = k :: (List.range n).drop (k + 1) by
    rw [List.drop_eq_getElem_cons (by simpa using hk)]
    simp))
  have HLN := hide (fun k => (show (ord (fun i j => decide (cv i j < 0)) k).length = k from ord_len _ k))
  have HLT := hide (fun k x (h : x ∈ ord (fun i j => decide (cv i j < 0)) k) => (show x < k from ord_lt _ h))
  have HINS := hide (fun k => (show ord (fun i j => decide (cv i j < 0)) (k + 1) = ins (fun i j => decide (cv i j < 0)) (ord (fun i j => decide (cv i j < 0)) k) k from rfl))
  generalize hbf : (fun i j => decide (cv i j < 0)) = bf at *
  have HBF := hide hbf
  clear hbf
  go_enter Tryz.func150, Tryz.ntmps150
  go_wp2_with fail
  go_loopw [8] (fun i wi => ∃ (k : Nat), 1 ≤ k ∧ k ≤ n ∧ i = .int .i64 k ∧ RowI wi base g n c (ord bf k ++ (List.range n).drop k) ∧ w.grownBy wi (some g)) (fun i _ => n - (intOf i).toNat)
  case atStart => exact ⟨1, Nat.le_refl _, hn0, rfl, by rw [HST.out]; exact HROW.out.1, HROW.out.2⟩
  case round =>
    clear HROW
    obtain ⟨k, hk1, hk, rfl, hr, hg⟩ := hrel
    by_cases hlt : k < n
    · rw [HSTEP.out k hlt] at hr
      have HR := hide hr
      have HG := hide hg
      have HL := hide (HLN.out k)
      have HLL := hide (HLT.out k)
      have HIN := hide (HINS.out k)
      clear hr hg
      generalize ord bf k = L at *
      generalize hrest : (List.range n).drop (k + 1) = rest at *
      have HREST := hide hrest
      clear hrest
      go_wp2_with fail
      go_loopw [9] (fun i wi => ∃ (j : Nat), j ≤ k ∧ i = .int .i64 j ∧ pos bf L k L.length = pos bf L k j ∧ RowI wi base g n c (L.take j ++ k :: L.drop j ++ rest) ∧ w.grownBy wi (some g)) (fun i _ => (intOf i).toNat)
      case atStart =>
        refine ⟨k, Nat.le_refl _, rfl, by rw [HL.out], ?_, HG.out⟩
        rw [List.take_of_length_le (by rw [HL.out]; exact Nat.le_refl _), List.drop_of_length_le (by rw [HL.out]; exact Nat.le_refl _), List.append_assoc]
        exact HR.out
      case round =>
        clear HR HG
        obtain ⟨j, hj, rfl, hpos, hr, hg⟩ := hrel
        have HR := hide hr
        have HG := hide hg
        have HPOS := hide hpos
        cases j with
        | zero =>
          have HF := hide (show ord bf (k + 1) = L.take 0 ++ k :: L.drop 0 by rw [HIN.out, ins, hpos]; rfl)
          clear hr hg hpos
          have e0 : decide ((0 : Int) < 0) = false := rfl
          go_wp2_with fail
          refine Reg.startT (fun _ => True) (fun _ => false) (by kernel_rfl) ?_
          have hHeld : True := trivial
          refine Reg.takeT (i := 0) (v := ?_) rfl (by kernel_rfl) (by kernel_rfl) (by kernel_rfl) (by kernel_rfl) (fun _ _ _ h => h) (Or.inl ⟨by rfl, ?_⟩) (by assumption) ?_
          rotate_left 1
          focus (intro w hSw; (try dsimp only at hSw); go_simp; (try with_reducible rfl))
          try simp only [List.getElem_toArray, List.getElem_cons_succ, List.getElem_cons_zero, Act.put, List.setIfInBounds_toArray, List.set_cons_zero, List.set_cons_succ]
          refine Reg.takeT (i := 1) (v := ?_) rfl (by kernel_rfl) (by kernel_rfl) (by kernel_rfl) (by kernel_rfl) (fun _ _ _ h => h) (Or.inl ⟨by rfl, ?_⟩) (by assumption) ?_
          rotate_left 1
          focus (intro w hSw; (try dsimp only at hSw); go_simp; (try with_reducible rfl))
          try simp only [List.getElem_toArray, List.getElem_cons_succ, List.getElem_cons_zero, Act.put, List.setIfInBounds_toArray, List.set_cons_zero, List.set_cons_succ]
          refine Reg.takeT (i := 2) (v := ?_) rfl (by kernel_rfl) (by kernel_rfl) (by kernel_rfl) (by kernel_rfl) (fun _ _ _ h => h) (Or.inl ⟨by rfl, ?_⟩) (by assumption) ?_
          rotate_left 1
          focus (intro w hSw; (try dsimp only at hSw); go_simp; (try with_reducible rfl))
          try simp only [List.getElem_toArray, List.getElem_cons_succ, List.getElem_cons_zero, Act.put, List.setIfInBounds_toArray, List.set_cons_zero, List.set_cons_succ]
          refine Reg.takeT (i := 3) (v := ?_) rfl (by kernel_rfl) (by kernel_rfl) (by kernel_rfl) (by kernel_rfl) (fun _ _ _ h => h) (Or.inl ⟨by rfl, ?_⟩) (by assumption) ?_
          rotate_left 1
          focus (intro w hSw; (try dsimp only at hSw); go_simp; (try with_reducible rfl))
          try simp only [List.getElem_toArray, List.getElem_cons_succ, List.getElem_cons_zero, Act.put, List.setIfInBounds_toArray, List.set_cons_zero, List.set_cons_succ]
          refine Reg.takeT (i := 4) (v := undef) rfl (by kernel_rfl) (by kernel_rfl) (by kernel_rfl) (by kernel_rfl) (fun _ _ _ h => h) (Or.inr ⟨by rfl, rfl⟩) (by assumption) ?_
          try simp only [List.getElem_toArray, List.getElem_cons_succ, List.getElem_cons_zero, Act.put, List.setIfInBounds_toArray, List.set_cons_zero, List.set_cons_succ]
          refine Reg.takeT (i := 5) (v := undef) rfl (by kernel_rfl) (by kernel_rfl) (by kernel_rfl) (by kernel_rfl) (fun _ _ _ h => h) (Or.inr ⟨by rfl, rfl⟩) (by assumption) ?_
          try simp only [List.getElem_toArray, List.getElem_cons_succ, List.getElem_cons_zero, Act.put, List.setIfInBounds_toArray, List.set_cons_zero, List.set_cons_succ]
          refine Reg.takeT (i := 6) (v := undef) rfl (by kernel_rfl) (by kernel_rfl) (by kernel_rfl) (by kernel_rfl) (fun _ _ _ h => h) (Or.inr ⟨by rfl, rfl⟩) (by assumption) ?_
          try simp only [List.getElem_toArray, List.getElem_cons_succ, List.getElem_cons_zero, Act.put, List.setIfInBounds_toArray, List.set_cons_zero, List.set_cons_succ]
          refine Reg.takeT (i := 7) (v := undef) rfl (by kernel_rfl) (by kernel_rfl) (by kernel_rfl) (by kernel_rfl) (fun _ _ _ h => h) (Or.inr ⟨by rfl, rfl⟩) (by assumption) ?_
          try simp only [List.getElem_toArray, List.getElem_cons_succ, List.getElem_cons_zero, Act.put, List.setIfInBounds_toArray, List.set_cons_zero, List.set_cons_succ]
          refine Reg.takeT (i := 8) (v := undef) rfl (by kernel_rfl) (by kernel_rfl) (by kernel_rfl) (by kernel_rfl) (fun _ _ _ h => h) (Or.inr ⟨by rfl, rfl⟩) (by assumption) ?_
          try simp only [List.getElem_toArray, List.getElem_cons_succ, List.getElem_cons_zero, Act.put, List.setIfInBounds_toArray, List.set_cons_zero, List.set_cons_succ]
          refine Reg.takeT (i := 9) (v := undef) rfl (by kernel_rfl) (by kernel_rfl) (by kernel_rfl) (by kernel_rfl) (fun _ _ _ h => h) (Or.inr ⟨by rfl, rfl⟩) (by assumption) ?_
          try simp only [List.getElem_toArray, List.getElem_cons_succ, List.getElem_cons_zero, Act.put, List.setIfInBounds_toArray, List.set_cons_zero, List.set_cons_succ]
          refine Reg.takeT (i := 10) (v := undef) rfl (by kernel_rfl) (by kernel_rfl) (by kernel_rfl) (by kernel_rfl) (fun _ _ _ h => h) (Or.inr ⟨by rfl, rfl⟩) (by assumption) ?_
          try simp only [List.getElem_toArray, List.getElem_cons_succ, List.getElem_cons_zero, Act.put, List.setIfInBounds_toArray, List.set_cons_zero, List.set_cons_succ]
          refine Reg.takeT (i := 11) (v := undef) rfl (by kernel_rfl) (by kernel_rfl) (by kernel_rfl) (by kernel_rfl) (fun _ _ _ h => h) (Or.inr ⟨by rfl, rfl⟩) (by assumption) ?_
          try simp only [List.getElem_toArray, List.getElem_cons_succ, List.getElem_cons_zero, Act.put, List.setIfInBounds_toArray, List.set_cons_zero, List.set_cons_succ]
          refine Reg.takeT (i := 12) (v := undef) rfl (by kernel_rfl) (by kernel_rfl) (by kernel_rfl) (by kernel_rfl) (fun _ _ _ h => h) (Or.inr ⟨by rfl, rfl⟩) (by assumption) ?_
          try simp only [List.getElem_toArray, List.getElem_cons_succ, List.getElem_cons_zero, Act.put, List.setIfInBounds_toArray, List.set_cons_zero, List.set_cons_succ]
          refine Reg.takeT (i := 13) (v := undef) rfl (by kernel_rfl) (by kernel_rfl) (by kernel_rfl) (by kernel_rfl) (fun _ _ _ h => h) (Or.inr ⟨by rfl, rfl⟩) (by assumption) ?_
          try simp only [List.getElem_toArray, List.getElem_cons_succ, List.getElem_cons_zero, Act.put, List.setIfInBounds_toArray, List.set_cons_zero, List.set_cons_succ]
          refine Reg.takeT (i := 14) (v := undef) rfl (by kernel_rfl) (by kernel_rfl) (by kernel_rfl) (by kernel_rfl) (fun _ _ _ h => h) (Or.inr ⟨by rfl, rfl⟩) (by assumption) ?_
          try simp only [List.getElem_toArray, List.getElem_cons_succ, List.getElem_cons_zero, Act.put, List.setIfInBounds_toArray, List.set_cons_zero, List.set_cons_succ]
          refine Reg.takeT (i := 15) (v := undef) rfl (by kernel_rfl) (by kernel_rfl) (by kernel_rfl) (by kernel_rfl) (fun _ _ _ h => h) (Or.inr ⟨by rfl, rfl⟩) (by assumption) ?_
          try simp only [List.getElem_toArray, List.getElem_cons_succ, List.getElem_cons_zero, Act.put, List.setIfInBounds_toArray, List.set_cons_zero, List.set_cons_succ]
          refine Reg.takeT (i := 16) (v := ?_) rfl (by kernel_rfl) (by kernel_rfl) (by kernel_rfl) (by kernel_rfl) (fun _ _ _ h => h) (Or.inl ⟨by rfl, ?_⟩) (by assumption) ?_
          rotate_left 1
          focus (intro w hSw; (try dsimp only at hSw); go_simp; (try with_reducible rfl))
          try simp only [List.getElem_toArray, List.getElem_cons_succ, List.getElem_cons_zero, Act.put, List.setIfInBounds_toArray, List.set_cons_zero, List.set_cons_succ]
          refine Reg.doneT (by kernel_rfl) ?_ _
          go_wp2_with fail
          refine ⟨⟨k + 1, by omega, by omega, by go_num, by rw [HF.out, HREST.out]; exact HR.out.call (below_dr (Below.refl _ _)), grown_drew HG.out⟩, by simp [intOf]; omega⟩
        | succ j =>
          have hjl : j < L.length := by rw [HL.out]; omega
          have c1 := hr.cell (j := j + 1) (by omega)
          have c0 := hr.cell (j := j) (by omega)
          rw [row_x L k (j + 1) rest (by omega)] at c1
          rw [row_p L k j rest hjl] at c0
          have hpl : L.getD j 0 < n := by
            have := HLL.out (L.getD j 0) (by rw [List.getD_eq_getElem?_getD, List.getElem?_eq_getElem hjl]; exact List.getElem_mem hjl)
            omega
          have hbdj := HBD.out k (L.getD j 0)
          have HCALL := hide (fun V (hV : w.grownBy V (some g)) => HCC.out V hV k (L.getD j 0) hlt hpl)
          have HSW := hide (swap_row L k j rest hjl)
          have HP2 := hide (show pos bf L k (j + 1) = if bf k (L.getD j 0) = true then pos bf L k j else j + 1 from rfl)
          have f1 := hr.frozen (j + 1)
          have f0 := hr.frozen j
          have hgl := hr.lt.2
          have HBB := hide (show bf k (L.getD j 0) = decide (cv k (L.getD j 0) < 0) by rw [← HBF.out])
          generalize L.getD j 0 = p at *
          generalize cv k p = cvp at *
          clear hr hg hpos hjl
          have Z0 : wr.cell? ⟨g, j + 1, none⟩ = some (.int .i64 k) ∧ wr.cell? ⟨g, j, none⟩ = some (.int .i64 p) := ⟨c1, c0⟩
          clear c1 c0
          generalize hm : j + 1 = m at *
          have HM := hide hm
          have hm0 : 0 < m := by omega
          have hw1 : IntKind.i64.wrap ((m : Int) - 1) = (m : Int) - 1 := IntWalk.i64_in _ (by omega)
          have ht1 : ((m : Int) - 1).toNat = j := by omega
          have hq1 : (0 : Int) ≤ (m : Int) - 1 := by omega
          have hq2 : (1 : Int) ≤ (m : Int) := by omega
          have hq3 : 1 ≤ m := by omega
          have hjn : j < n := by omega
          have hq4 : (m : Int) - 1 < n := by omega
          have hmn : m < n := by omega
          clear hm
          cases hb : decide (cvp < 0)
          · have HP3 := hide (show pos bf L k m = m by rw [HP2.out, HBB.out, hb]; rfl)
            clear HP2 HBB
            go_wp2_with fail
            refine Reg.startT (fun W => W.cell? ⟨g, m, none⟩ = some (.int .i64 k) ∧ W.cell? ⟨g, j, none⟩ = some (.int .i64 p)) (fun _ => false) (by kernel_rfl) ?_
            have hHeld : wr.drew.cell? ⟨g, m, none⟩ = some (.int .i64 k) ∧ wr.drew.cell? ⟨g, j, none⟩ = some (.int .i64 p) := Z0
            refine Reg.takeT (i := 0) (v := ?_) rfl (by kernel_rfl) (by kernel_rfl) (by kernel_rfl) (by kernel_rfl) (fun _ _ _ h => h) (Or.inl ⟨by rfl, ?_⟩) (by assumption) ?_
            rotate_left 1
            focus (intro w hSw; (try dsimp only at hSw); go_simp; (try with_reducible rfl))
            try simp only [List.getElem_toArray, List.getElem_cons_succ, List.getElem_cons_zero, Act.put, List.setIfInBounds_toArray, List.set_cons_zero, List.set_cons_succ]
            refine Reg.takeT (i := 1) (v := ?_) rfl (by kernel_rfl) (by kernel_rfl) (by kernel_rfl) (by kernel_rfl) (fun _ _ _ h => h) (Or.inl ⟨by rfl, ?_⟩) (by assumption) ?_
            rotate_left 1
            focus (intro w hSw; (try dsimp only at hSw); go_simp; (try with_reducible rfl))
            try simp only [List.getElem_toArray, List.getElem_cons_succ, List.getElem_cons_zero, Act.put, List.setIfInBounds_toArray, List.set_cons_zero, List.set_cons_succ]
            refine Reg.takeT (i := 2) (v := ?_) rfl (by kernel_rfl) (by kernel_rfl) (by kernel_rfl) (by kernel_rfl) (fun _ _ _ h => h) (Or.inl ⟨by rfl, ?_⟩) (by assumption) ?_
            rotate_left 1
            focus (intro w hSw; (try dsimp only at hSw); go_simp; (try with_reducible rfl))
            try simp only [List.getElem_toArray, List.getElem_cons_succ, List.getElem_cons_zero, Act.put, List.setIfInBounds_toArray, List.set_cons_zero, List.set_cons_succ]
            refine Reg.takeT (i := 3) (v := ?_) rfl (by kernel_rfl) (by kernel_rfl) (by kernel_rfl) (by kernel_rfl) (fun _ _ _ h => h) (Or.inl ⟨by rfl, ?_⟩) (by assumption) ?_
            rotate_left 1
            focus (intro w hSw; (try dsimp only at hSw); go_simp; (try with_reducible rfl))
            try simp only [List.getElem_toArray, List.getElem_cons_succ, List.getElem_cons_zero, Act.put, List.setIfInBounds_toArray, List.set_cons_zero, List.set_cons_succ]
            refine Reg.takeT (i := 4) (v := ?_) rfl (by kernel_rfl) (by kernel_rfl) (by kernel_rfl) (by kernel_rfl) (fun _ _ _ h => h) (Or.inl ⟨by rfl, ?_⟩) (by assumption) ?_
            rotate_left 1
            focus (intro w hSw; (try dsimp only at hSw); go_simp; (try with_reducible rfl))
            try simp only [List.getElem_toArray, List.getElem_cons_succ, List.getElem_cons_zero, Act.put, List.setIfInBounds_toArray, List.set_cons_zero, List.set_cons_succ]
            refine Reg.takeT (i := 5) (v := ?_) rfl (by kernel_rfl) (by kernel_rfl) (by kernel_rfl) (by kernel_rfl) (fun _ _ _ h => h) (Or.inl ⟨by rfl, ?_⟩) (by assumption) ?_
            rotate_left 1
            focus (intro w hSw; (try dsimp only at hSw); go_simp; (try with_reducible rfl))
            try simp only [List.getElem_toArray, List.getElem_cons_succ, List.getElem_cons_zero, Act.put, List.setIfInBounds_toArray, List.set_cons_zero, List.set_cons_succ]
            refine Reg.takeT (i := 6) (v := ?_) rfl (by kernel_rfl) (by kernel_rfl) (by kernel_rfl) (by kernel_rfl) (fun _ _ _ h => h) (Or.inl ⟨by rfl, ?_⟩) (by assumption) ?_
            rotate_left 1
            focus (intro w hSw; (try dsimp only at hSw); go_simp; (try with_reducible rfl))
            try simp only [List.getElem_toArray, List.getElem_cons_succ, List.getElem_cons_zero, Act.put, List.setIfInBounds_toArray, List.set_cons_zero, List.set_cons_succ]
            refine Reg.takeT (i := 7) (v := ?_) rfl (by kernel_rfl) (by kernel_rfl) (by kernel_rfl) (by kernel_rfl) (fun _ _ _ h => h) (Or.inl ⟨by rfl, ?_⟩) (by assumption) ?_
            rotate_left 1
            focus (intro w hSw; (try dsimp only at hSw); go_simp; (try with_reducible rfl))
            try simp only [List.getElem_toArray, List.getElem_cons_succ, List.getElem_cons_zero, Act.put, List.setIfInBounds_toArray, List.set_cons_zero, List.set_cons_succ]
            refine Reg.takeT (i := 8) (v := ?_) rfl (by kernel_rfl) (by kernel_rfl) (by kernel_rfl) (by kernel_rfl) (fun _ _ _ h => h) (Or.inl ⟨by rfl, ?_⟩) (by assumption) ?_
            rotate_left 1
            focus (intro w hSw; (try dsimp only at hSw); go_simp; (try with_reducible rfl))
            try simp only [List.getElem_toArray, List.getElem_cons_succ, List.getElem_cons_zero, Act.put, List.setIfInBounds_toArray, List.set_cons_zero, List.set_cons_succ]
            refine Reg.takeT (i := 9) (v := ?_) rfl (by kernel_rfl) (by kernel_rfl) (by kernel_rfl) (by kernel_rfl) (fun _ _ _ h => h) (Or.inl ⟨by rfl, ?_⟩) (by assumption) ?_
            rotate_left 1
            focus (intro w hSw; (try dsimp only at hSw); go_simp; (try with_reducible rfl))
            try simp only [List.getElem_toArray, List.getElem_cons_succ, List.getElem_cons_zero, Act.put, List.setIfInBounds_toArray, List.set_cons_zero, List.set_cons_succ]
            refine Reg.takeT (i := 10) (v := ?_) rfl (by kernel_rfl) (by kernel_rfl) (by kernel_rfl) (by kernel_rfl) (fun _ _ _ h => h) (Or.inl ⟨by rfl, ?_⟩) (by assumption) ?_
            rotate_left 1
            focus (intro w hSw; (try dsimp only at hSw); go_simp; (try with_reducible rfl))
            try simp only [List.getElem_toArray, List.getElem_cons_succ, List.getElem_cons_zero, Act.put, List.setIfInBounds_toArray, List.set_cons_zero, List.set_cons_succ]
            refine Reg.takeT (i := 11) (v := ?_) rfl (by kernel_rfl) (by kernel_rfl) (by kernel_rfl) (by kernel_rfl) (fun _ _ _ h => h) (Or.inl ⟨by rfl, ?_⟩) (by assumption) ?_
            rotate_left 1
            focus (intro w hSw; (try dsimp only at hSw); go_simp; (try with_reducible rfl))
            try simp only [List.getElem_toArray, List.getElem_cons_succ, List.getElem_cons_zero, Act.put, List.setIfInBounds_toArray, List.set_cons_zero, List.set_cons_succ]
            refine Reg.takeT (i := 12) (v := ?_) rfl (by kernel_rfl) (by kernel_rfl) (by kernel_rfl) (by kernel_rfl) (fun _ _ _ h => h) (Or.inl ⟨by rfl, ?_⟩) (by assumption) ?_
            rotate_left 1
            focus (intro w hSw; (try dsimp only at hSw); go_simp; (try with_reducible rfl))
            try simp only [List.getElem_toArray, List.getElem_cons_succ, List.getElem_cons_zero, Act.put, List.setIfInBounds_toArray, List.set_cons_zero, List.set_cons_succ]
            refine Reg.takeT (i := 13) (v := ?_) rfl (by kernel_rfl) (by kernel_rfl) (by kernel_rfl) (by kernel_rfl) (fun _ _ _ h => h) (Or.inl ⟨by rfl, ?_⟩) (by assumption) ?_
            rotate_left 1
            focus (intro w hSw; (try dsimp only at hSw); go_simp; (try with_reducible rfl))
            try simp only [List.getElem_toArray, List.getElem_cons_succ, List.getElem_cons_zero, Act.put, List.setIfInBounds_toArray, List.set_cons_zero, List.set_cons_succ]
            refine Reg.oneT (i := 14) rfl (by kernel_rfl) (fun K hK => ?_)
            go_simp
            rw [HFF.out, Oper.upon_enter]
            refine (HCALL.out wr.drew (grown_drew HG.out)).mono ?_
            rintro e w2 ⟨rfl, b2⟩
            have b2' : Below wr.heap.size wr w2 := of_drew b2
            have HR2 := hide (HR.out.call b2')
            have HG2 := hide (grown_below HG.out b2')
            have hHeld : w2.cell? ⟨g, m, none⟩ = some (.int .i64 k) ∧ w2.cell? ⟨g, j, none⟩ = some (.int .i64 p) := ⟨(b2'.cell (p := ⟨g, m, none⟩) hgl).trans Z0.1, (b2'.cell (p := ⟨g, j, none⟩) hgl).trans Z0.2⟩
            clear b2 b2' Z0 HR HG
            refine hK.out _ _ hHeld ?_
            clear hK K
            try simp only [List.getElem_toArray, List.getElem_cons_succ, List.getElem_cons_zero, Act.put, List.setIfInBounds_toArray, List.set_cons_zero, List.set_cons_succ]
            refine Reg.takeT (i := 15) (v := ?_) rfl (by kernel_rfl) (by kernel_rfl) (by kernel_rfl) (by kernel_rfl) (fun _ _ _ h => h) (Or.inl ⟨by rfl, ?_⟩) (by assumption) ?_
            rotate_left 1
            focus (intro w hSw; (try dsimp only at hSw); go_simp; (try with_reducible rfl))
            try simp only [List.getElem_toArray, List.getElem_cons_succ, List.getElem_cons_zero, Act.put, List.setIfInBounds_toArray, List.set_cons_zero, List.set_cons_succ]
            refine Reg.takeT (i := 16) (v := ?_) rfl (by kernel_rfl) (by kernel_rfl) (by kernel_rfl) (by kernel_rfl) (fun _ _ _ h => h) (Or.inl ⟨by rfl, ?_⟩) (by assumption) ?_
            rotate_left 1
            focus (intro w hSw; (try dsimp only at hSw); go_simp; (try with_reducible rfl))
            try simp only [List.getElem_toArray, List.getElem_cons_succ, List.getElem_cons_zero, Act.put, List.setIfInBounds_toArray, List.set_cons_zero, List.set_cons_succ]
            refine Reg.doneT (by kernel_rfl) ?_ _
            clear hHeld
            go_wp2_with fail
            have HF := hide (show ord bf (k + 1) = L.take m ++ k :: L.drop m by rw [HIN.out, ins, HPOS.out, HP3.out])
            refine ⟨⟨k + 1, by omega, by omega, by go_num, by rw [HF.out, HREST.out]; exact HR2.out, HG2.out⟩, by simp [intOf]; omega⟩
          · have HP3 := hide (show pos bf L k m = pos bf L k j by rw [HP2.out, HBB.out, hb]; rfl)
            clear HP2 HBB
            go_wp2_with fail
            refine Reg.startT (fun W => W.cell? ⟨g, m, none⟩ = some (.int .i64 k) ∧ W.cell? ⟨g, j, none⟩ = some (.int .i64 p)) (fun _ => false) (by kernel_rfl) ?_
            have hHeld : wr.drew.cell? ⟨g, m, none⟩ = some (.int .i64 k) ∧ wr.drew.cell? ⟨g, j, none⟩ = some (.int .i64 p) := Z0
            refine Reg.takeT (i := 0) (v := ?_) rfl (by kernel_rfl) (by kernel_rfl) (by kernel_rfl) (by kernel_rfl) (fun _ _ _ h => h) (Or.inl ⟨by rfl, ?_⟩) (by assumption) ?_
            rotate_left 1
            focus (intro w hSw; (try dsimp only at hSw); go_simp; (try with_reducible rfl))
            try simp only [List.getElem_toArray, List.getElem_cons_succ, List.getElem_cons_zero, Act.put, List.setIfInBounds_toArray, List.set_cons_zero, List.set_cons_succ]
            refine Reg.takeT (i := 1) (v := ?_) rfl (by kernel_rfl) (by kernel_rfl) (by kernel_rfl) (by kernel_rfl) (fun _ _ _ h => h) (Or.inl ⟨by rfl, ?_⟩) (by assumption) ?_
            rotate_left 1
            focus (intro w hSw; (try dsimp only at hSw); go_simp; (try with_reducible rfl))
            try simp only [List.getElem_toArray, List.getElem_cons_succ, List.getElem_cons_zero, Act.put, List.setIfInBounds_toArray, List.set_cons_zero, List.set_cons_succ]
            refine Reg.takeT (i := 2) (v := ?_) rfl (by kernel_rfl) (by kernel_rfl) (by kernel_rfl) (by kernel_rfl) (fun _ _ _ h => h) (Or.inl ⟨by rfl, ?_⟩) (by assumption) ?_
            rotate_left 1
            focus (intro w hSw; (try dsimp only at hSw); go_simp; (try with_reducible rfl))
            try simp only [List.getElem_toArray, List.getElem_cons_succ, List.getElem_cons_zero, Act.put, List.setIfInBounds_toArray, List.set_cons_zero, List.set_cons_succ]
            refine Reg.takeT (i := 3) (v := ?_) rfl (by kernel_rfl) (by kernel_rfl) (by kernel_rfl) (by kernel_rfl) (fun _ _ _ h => h) (Or.inl ⟨by rfl, ?_⟩) (by assumption) ?_
            rotate_left 1
            focus (intro w hSw; (try dsimp only at hSw); go_simp; (try with_reducible rfl))
            try simp only [List.getElem_toArray, List.getElem_cons_succ, List.getElem_cons_zero, Act.put, List.setIfInBounds_toArray, List.set_cons_zero, List.set_cons_succ]
            refine Reg.takeT (i := 4) (v := ?_) rfl (by kernel_rfl) (by kernel_rfl) (by kernel_rfl) (by kernel_rfl) (fun _ _ _ h => h) (Or.inl ⟨by rfl, ?_⟩) (by assumption) ?_
            rotate_left 1
            focus (intro w hSw; (try dsimp only at hSw); go_simp; (try with_reducible rfl))
            try simp only [List.getElem_toArray, List.getElem_cons_succ, List.getElem_cons_zero, Act.put, List.setIfInBounds_toArray, List.set_cons_zero, List.set_cons_succ]
            refine Reg.takeT (i := 5) (v := ?_) rfl (by kernel_rfl) (by kernel_rfl) (by kernel_rfl) (by kernel_rfl) (fun _ _ _ h => h) (Or.inl ⟨by rfl, ?_⟩) (by assumption) ?_
            rotate_left 1
            focus (intro w hSw; (try dsimp only at hSw); go_simp; (try with_reducible rfl))
            try simp only [List.getElem_toArray, List.getElem_cons_succ, List.getElem_cons_zero, Act.put, List.setIfInBounds_toArray, List.set_cons_zero, List.set_cons_succ]
            refine Reg.takeT (i := 6) (v := ?_) rfl (by kernel_rfl) (by kernel_rfl) (by kernel_rfl) (by kernel_rfl) (fun _ _ _ h => h) (Or.inl ⟨by rfl, ?_⟩) (by assumption) ?_
            rotate_left 1
            focus (intro w hSw; (try dsimp only at hSw); go_simp; (try with_reducible rfl))
            try simp only [List.getElem_toArray, List.getElem_cons_succ, List.getElem_cons_zero, Act.put, List.setIfInBounds_toArray, List.set_cons_zero, List.set_cons_succ]
            refine Reg.takeT (i := 7) (v := ?_) rfl (by kernel_rfl) (by kernel_rfl) (by kernel_rfl) (by kernel_rfl) (fun _ _ _ h => h) (Or.inl ⟨by rfl, ?_⟩) (by assumption) ?_
            rotate_left 1
            focus (intro w hSw; (try dsimp only at hSw); go_simp; (try with_reducible rfl))
            try simp only [List.getElem_toArray, List.getElem_cons_succ, List.getElem_cons_zero, Act.put, List.setIfInBounds_toArray, List.set_cons_zero, List.set_cons_succ]
            refine Reg.takeT (i := 8) (v := ?_) rfl (by kernel_rfl) (by kernel_rfl) (by kernel_rfl) (by kernel_rfl) (fun _ _ _ h => h) (Or.inl ⟨by rfl, ?_⟩) (by assumption) ?_
            rotate_left 1
            focus (intro w hSw; (try dsimp only at hSw); go_simp; (try with_reducible rfl))
            try simp only [List.getElem_toArray, List.getElem_cons_succ, List.getElem_cons_zero, Act.put, List.setIfInBounds_toArray, List.set_cons_zero, List.set_cons_succ]
            refine Reg.takeT (i := 9) (v := ?_) rfl (by kernel_rfl) (by kernel_rfl) (by kernel_rfl) (by kernel_rfl) (fun _ _ _ h => h) (Or.inl ⟨by rfl, ?_⟩) (by assumption) ?_
            rotate_left 1
            focus (intro w hSw; (try dsimp only at hSw); go_simp; (try with_reducible rfl))
            try simp only [List.getElem_toArray, List.getElem_cons_succ, List.getElem_cons_zero, Act.put, List.setIfInBounds_toArray, List.set_cons_zero, List.set_cons_succ]
            refine Reg.takeT (i := 10) (v := ?_) rfl (by kernel_rfl) (by kernel_rfl) (by kernel_rfl) (by kernel_rfl) (fun _ _ _ h => h) (Or.inl ⟨by rfl, ?_⟩) (by assumption) ?_
            rotate_left 1
            focus (intro w hSw; (try dsimp only at hSw); go_simp; (try with_reducible rfl))
            try simp only [List.getElem_toArray, List.getElem_cons_succ, List.getElem_cons_zero, Act.put, List.setIfInBounds_toArray, List.set_cons_zero, List.set_cons_succ]
            refine Reg.takeT (i := 11) (v := ?_) rfl (by kernel_rfl) (by kernel_rfl) (by kernel_rfl) (by kernel_rfl) (fun _ _ _ h => h) (Or.inl ⟨by rfl, ?_⟩) (by assumption) ?_
            rotate_left 1
            focus (intro w hSw; (try dsimp only at hSw); go_simp; (try with_reducible rfl))
            try simp only [List.getElem_toArray, List.getElem_cons_succ, List.getElem_cons_zero, Act.put, List.setIfInBounds_toArray, List.set_cons_zero, List.set_cons_succ]
            refine Reg.takeT (i := 12) (v := ?_) rfl (by kernel_rfl) (by kernel_rfl) (by kernel_rfl) (by kernel_rfl) (fun _ _ _ h => h) (Or.inl ⟨by rfl, ?_⟩) (by assumption) ?_
            rotate_left 1
            focus (intro w hSw; (try dsimp only at hSw); go_simp; (try with_reducible rfl))
            try simp only [List.getElem_toArray, List.getElem_cons_succ, List.getElem_cons_zero, Act.put, List.setIfInBounds_toArray, List.set_cons_zero, List.set_cons_succ]
            refine Reg.takeT (i := 13) (v := ?_) rfl (by kernel_rfl) (by kernel_rfl) (by kernel_rfl) (by kernel_rfl) (fun _ _ _ h => h) (Or.inl ⟨by rfl, ?_⟩) (by assumption) ?_
            rotate_left 1
            focus (intro w hSw; (try dsimp only at hSw); go_simp; (try with_reducible rfl))
            try simp only [List.getElem_toArray, List.getElem_cons_succ, List.getElem_cons_zero, Act.put, List.setIfInBounds_toArray, List.set_cons_zero, List.set_cons_succ]
            refine Reg.oneT (i := 14) rfl (by kernel_rfl) (fun K hK => ?_)
            go_simp
            rw [HFF.out, Oper.upon_enter]
            refine (HCALL.out wr.drew (grown_drew HG.out)).mono ?_
            rintro e w2 ⟨rfl, b2⟩
            have b2' : Below wr.heap.size wr w2 := of_drew b2
            have HR2 := hide (HR.out.call b2')
            have HG2 := hide (grown_below HG.out b2')
            have hHeld : w2.cell? ⟨g, m, none⟩ = some (.int .i64 k) ∧ w2.cell? ⟨g, j, none⟩ = some (.int .i64 p) := ⟨(b2'.cell (p := ⟨g, m, none⟩) hgl).trans Z0.1, (b2'.cell (p := ⟨g, j, none⟩) hgl).trans Z0.2⟩
            clear b2 b2' Z0 HR HG
            refine hK.out _ _ hHeld ?_
            clear hK K
            try simp only [List.getElem_toArray, List.getElem_cons_succ, List.getElem_cons_zero, Act.put, List.setIfInBounds_toArray, List.set_cons_zero, List.set_cons_succ]
            refine Reg.takeT (i := 15) (v := ?_) rfl (by kernel_rfl) (by kernel_rfl) (by kernel_rfl) (by kernel_rfl) (fun _ _ _ h => h) (Or.inl ⟨by rfl, ?_⟩) (by assumption) ?_
            rotate_left 1
            focus (intro w hSw; (try dsimp only at hSw); go_simp; (try with_reducible rfl))
            try simp only [List.getElem_toArray, List.getElem_cons_succ, List.getElem_cons_zero, Act.put, List.setIfInBounds_toArray, List.set_cons_zero, List.set_cons_succ]
            refine Reg.takeT (i := 16) (v := ?_) rfl (by kernel_rfl) (by kernel_rfl) (by kernel_rfl) (by kernel_rfl) (fun _ _ _ h => h) (Or.inl ⟨by rfl, ?_⟩) (by assumption) ?_
            rotate_left 1
            focus (intro w hSw; (try dsimp only at hSw); go_simp; (try with_reducible rfl))
            try simp only [List.getElem_toArray, List.getElem_cons_succ, List.getElem_cons_zero, Act.put, List.setIfInBounds_toArray, List.set_cons_zero, List.set_cons_succ]
            refine Reg.doneT (by kernel_rfl) ?_ _
            have Z1 := hHeld
            clear hHeld
            go_wp2_with fail
            clear f0 f1 hgl
            have f1 := HR2.out.frozen m
            have f0 := HR2.out.frozen j
            have hgl := HR2.out.lt.2
            refine Rv.start (fun W => W.cell? ⟨g, m, none⟩ = some (.int .i64 k) ∧ W.cell? ⟨g, j, none⟩ = some (.int .i64 p)) (fun j => j == 15 || j == 17) (by kernel_rfl) ?_
            have hHeld : w2.drew.cell? ⟨g, m, none⟩ = some (.int .i64 k) ∧ w2.drew.cell? ⟨g, j, none⟩ = some (.int .i64 p) := Z1
            refine Rv.comp (i := 0) (v := ?_) rfl (by kernel_rfl) (by kernel_rfl) (by kernel_rfl) (fun _ _ _ h => h) (Or.inl ⟨by rfl, ?_⟩) ?_
            rotate_left 1
            focus (intro w hSw; (try dsimp only at hSw); go_simp; (try with_reducible rfl))
            try simp only [List.getElem_toArray, List.getElem_cons_succ, List.getElem_cons_zero, Act.put, List.setIfInBounds_toArray, List.set_cons_zero, List.set_cons_succ]
            refine Rv.comp (i := 1) (v := ?_) rfl (by kernel_rfl) (by kernel_rfl) (by kernel_rfl) (fun _ _ _ h => h) (Or.inl ⟨by rfl, ?_⟩) ?_
            rotate_left 1
            focus (intro w hSw; (try dsimp only at hSw); go_simp; (try with_reducible rfl))
            try simp only [List.getElem_toArray, List.getElem_cons_succ, List.getElem_cons_zero, Act.put, List.setIfInBounds_toArray, List.set_cons_zero, List.set_cons_succ]
            refine Rv.comp (i := 2) (v := ?_) rfl (by kernel_rfl) (by kernel_rfl) (by kernel_rfl) (fun _ _ _ h => h) (Or.inl ⟨by rfl, ?_⟩) ?_
            rotate_left 1
            focus (intro w hSw; (try dsimp only at hSw); go_simp; (try with_reducible rfl))
            try simp only [List.getElem_toArray, List.getElem_cons_succ, List.getElem_cons_zero, Act.put, List.setIfInBounds_toArray, List.set_cons_zero, List.set_cons_succ]
            refine Rv.comp (i := 3) (v := ?_) rfl (by kernel_rfl) (by kernel_rfl) (by kernel_rfl) (fun _ _ _ h => h) (Or.inl ⟨by rfl, ?_⟩) ?_
            rotate_left 1
            focus (intro w hSw; (try dsimp only at hSw); go_simp; (try with_reducible rfl))
            try simp only [List.getElem_toArray, List.getElem_cons_succ, List.getElem_cons_zero, Act.put, List.setIfInBounds_toArray, List.set_cons_zero, List.set_cons_succ]
            refine Rv.comp (i := 4) (v := ?_) rfl (by kernel_rfl) (by kernel_rfl) (by kernel_rfl) (fun _ _ _ h => h) (Or.inl ⟨by rfl, ?_⟩) ?_
            rotate_left 1
            focus (intro w hSw; (try dsimp only at hSw); go_simp; (try with_reducible rfl))
            try simp only [List.getElem_toArray, List.getElem_cons_succ, List.getElem_cons_zero, Act.put, List.setIfInBounds_toArray, List.set_cons_zero, List.set_cons_succ]
            refine Rv.comp (i := 5) (v := ?_) rfl (by kernel_rfl) (by kernel_rfl) (by kernel_rfl) (fun _ _ _ h => h) (Or.inl ⟨by rfl, ?_⟩) ?_
            rotate_left 1
            focus (intro w hSw; (try dsimp only at hSw); go_simp; (try with_reducible rfl))
            try simp only [List.getElem_toArray, List.getElem_cons_succ, List.getElem_cons_zero, Act.put, List.setIfInBounds_toArray, List.set_cons_zero, List.set_cons_succ]
            refine Rv.comp (i := 6) (v := ?_) rfl (by kernel_rfl) (by kernel_rfl) (by kernel_rfl) (fun _ _ _ h => h) (Or.inl ⟨by rfl, ?_⟩) ?_
            rotate_left 1
            focus (intro w hSw; (try dsimp only at hSw); go_simp; (try with_reducible rfl))
            try simp only [List.getElem_toArray, List.getElem_cons_succ, List.getElem_cons_zero, Act.put, List.setIfInBounds_toArray, List.set_cons_zero, List.set_cons_succ]
            refine Rv.comp (i := 7) (v := ?_) rfl (by kernel_rfl) (by kernel_rfl) (by kernel_rfl) (fun _ _ _ h => h) (Or.inl ⟨by rfl, ?_⟩) ?_
            rotate_left 1
            focus (intro w hSw; (try dsimp only at hSw); go_simp; (try with_reducible rfl))
            try simp only [List.getElem_toArray, List.getElem_cons_succ, List.getElem_cons_zero, Act.put, List.setIfInBounds_toArray, List.set_cons_zero, List.set_cons_succ]
            refine Rv.comp (i := 8) (v := ?_) rfl (by kernel_rfl) (by kernel_rfl) (by kernel_rfl) (fun _ _ _ h => h) (Or.inl ⟨by rfl, ?_⟩) ?_
            rotate_left 1
            focus (intro w hSw; (try dsimp only at hSw); go_simp; (try with_reducible rfl))
            try simp only [List.getElem_toArray, List.getElem_cons_succ, List.getElem_cons_zero, Act.put, List.setIfInBounds_toArray, List.set_cons_zero, List.set_cons_succ]
            refine Rv.take (i := 9) (v := ?_) rfl (by kernel_rfl) (by kernel_rfl) (by kernel_rfl) (by kernel_rfl) (fun _ _ _ h => h) (Or.inl ⟨by rfl, ?_⟩) (by assumption) ?_
            rotate_left 1
            focus (intro w hSw; (try dsimp only at hSw); go_simp; (try with_reducible rfl))
            try simp only [List.getElem_toArray, List.getElem_cons_succ, List.getElem_cons_zero, Act.put, List.setIfInBounds_toArray, List.set_cons_zero, List.set_cons_succ]
            refine Rv.comp (i := 10) (v := ?_) rfl (by kernel_rfl) (by kernel_rfl) (by kernel_rfl) (fun _ _ _ h => h) (Or.inl ⟨by rfl, ?_⟩) ?_
            rotate_left 1
            focus (intro w hSw; (try dsimp only at hSw); go_simp; (try with_reducible rfl))
            try simp only [List.getElem_toArray, List.getElem_cons_succ, List.getElem_cons_zero, Act.put, List.setIfInBounds_toArray, List.set_cons_zero, List.set_cons_succ]
            refine Rv.comp (i := 11) (v := ?_) rfl (by kernel_rfl) (by kernel_rfl) (by kernel_rfl) (fun _ _ _ h => h) (Or.inl ⟨by rfl, ?_⟩) ?_
            rotate_left 1
            focus (intro w hSw; (try dsimp only at hSw); go_simp; (try with_reducible rfl))
            try simp only [List.getElem_toArray, List.getElem_cons_succ, List.getElem_cons_zero, Act.put, List.setIfInBounds_toArray, List.set_cons_zero, List.set_cons_succ]
            refine Rv.comp (i := 12) (v := ?_) rfl (by kernel_rfl) (by kernel_rfl) (by kernel_rfl) (fun _ _ _ h => h) (Or.inl ⟨by rfl, ?_⟩) ?_
            rotate_left 1
            focus (intro w hSw; (try dsimp only at hSw); go_simp; (try with_reducible rfl))
            try simp only [List.getElem_toArray, List.getElem_cons_succ, List.getElem_cons_zero, Act.put, List.setIfInBounds_toArray, List.set_cons_zero, List.set_cons_succ]
            refine Rv.take (i := 13) (v := ?_) rfl (by kernel_rfl) (by kernel_rfl) (by kernel_rfl) (by kernel_rfl) (fun _ _ _ h => h) (Or.inl ⟨by rfl, ?_⟩) (by assumption) ?_
            rotate_left 1
            focus (intro w hSw; (try dsimp only at hSw); go_simp; (try with_reducible rfl))
            try simp only [List.getElem_toArray, List.getElem_cons_succ, List.getElem_cons_zero, Act.put, List.setIfInBounds_toArray, List.set_cons_zero, List.set_cons_succ]
            refine Rv.comp (i := 14) (v := ?_) rfl (by kernel_rfl) (by kernel_rfl) (by kernel_rfl) (fun _ _ _ h => h) (Or.inl ⟨by rfl, ?_⟩) ?_
            rotate_left 1
            focus (intro w hSw; (try dsimp only at hSw); go_simp; (try with_reducible rfl))
            try simp only [List.getElem_toArray, List.getElem_cons_succ, List.getElem_cons_zero, Act.put, List.setIfInBounds_toArray, List.set_cons_zero, List.set_cons_succ]
            have s1 : w2.cell? ⟨g, m, none⟩ = some (.int .i64 k) := hHeld.1
            have s0 : w2.cell? ⟨g, j, none⟩ = some (.int .i64 p) := hHeld.2
            clear hHeld Z1
            refine Rv.last (i := 15) rfl (by kernel_rfl) (by rfl) (fun K hK => ?_)
            go_simp
            refine hK.out _ _ ?_
            clear hK K
            try simp only [List.getElem_toArray, List.getElem_cons_succ, List.getElem_cons_zero, Act.put, List.setIfInBounds_toArray, List.set_cons_zero, List.set_cons_succ]
            refine Rv.comp (i := 16) (v := ?_) rfl (by kernel_rfl) (by kernel_rfl) (by kernel_rfl) (fun _ _ _ h => h) (Or.inl ⟨by rfl, ?_⟩) ?_
            rotate_left 1
            focus (intro w hSw; (try dsimp only at hSw); go_simp; (try with_reducible rfl))
            try simp only [List.getElem_toArray, List.getElem_cons_succ, List.getElem_cons_zero, Act.put, List.setIfInBounds_toArray, List.set_cons_zero, List.set_cons_succ]
            refine Rv.last (i := 17) rfl (by kernel_rfl) (by rfl) (fun K hK => ?_)
            go_simp
            refine hK.out _ _ ?_
            clear hK K
            try simp only [List.getElem_toArray, List.getElem_cons_succ, List.getElem_cons_zero, Act.put, List.setIfInBounds_toArray, List.set_cons_zero, List.set_cons_succ]
            refine Rv.done (by kernel_rfl) ?_ _
            go_wp2_with fail
            have HF := hide (show RowI ((w2.setCell ⟨g, m, none⟩ (.int .i64 p)).setCell ⟨g, j, none⟩ (.int .i64 k)) base g n c (L.take j ++ k :: L.drop j ++ rest) by
              rw [← HSW.out]
              exact (HR2.out.put m p).put j k)
            refine ⟨⟨j, by omega, by go_num, by rw [HPOS.out, HP3.out], HF.out.call (below_dr (Below.refl _ _)), grown_drew (grown_set (grown_set HG2.out _) _)⟩, by simp [intOf]; omega⟩
    · rw [HEND.out k hlt hk] at hr
      have HR := hide (And.intro hr hg)
      clear hr hg
      go_wp2_with fail
      exact bodyPost_ret (v := .tuple #[]) (by simp [results, Tryz.results150, go_sem]) rfl ⟨rfl, HR.out⟩
set_option maxHeartbeats 1000000 in
theorem stable_any (F : FuncId) (X : Array Value) (hF : ∀ zs W, (callFunc F zs).run Tryz.prog W = .ok (.enter F zs) W) (cv : Nat → Nat → Int) (base g n c : Nat) (w : World) (hrow : RowI w base g n c (List.range n)) (hn : n < 20) (hn0 : 0 < n)
    (HC : ∀ W, w.grownBy W (some g) → ∀ i j, i < n → j < n → Calls Tryz.prog F (#[.int .i64 i, .int .i64 j] ++ X) W (Ret (.int .i64 (cv i j)) W)) (hbd : ∀ i j, -1 ≤ cv i j ∧ cv i j ≤ 1) :
    Calls Tryz.prog 103 #[.slice (some ⟨g, 0, none⟩) n c, .int .i64 n, .func (.func F) #[] X] w
      (Sorted w base g n c (ord (fun i j => decide (cv i j < 0)) n)) := by
  have HI := hide (insertion_any F X hF cv base g n c w hrow (by omega) hn0 HC hbd)
  clear hrow HC hbd hF
  go_enter Tryz.func103, Tryz.ntmps103
  go_wp2_with fail
  go_loopw [7, 8] (fun a b wi => a = .int .i64 0 ∧ b = .int .i64 20 ∧ wi = w) (fun _ _ _ => 0)
  case atStart => exact ⟨rfl, rfl, rfl⟩
  case round =>
    obtain ⟨rfl, rfl, rfl⟩ := hrel
    have e1 : decide ((20 : Int) ≤ n) = false := decide_eq_false (by omega)
    go_wp2_with fail
    refine HI.out.mono ?_
    rintro e w2 ⟨rfl, hs⟩
    have HS := hide hs
    clear hs
    go_wp2_with fail
    go_loopw [6] (fun a wi => a = .int .i64 20 ∧ wi = w2) (fun _ _ => 0)
    case atStart => exact ⟨rfl, rfl⟩
    case round =>
      obtain ⟨rfl, rfl⟩ := hrel
      have e2 : decide ((20 : Int) < n) = false := decide_eq_false (by omega)
      go_wp2_with fail
      exact bodyPost_ret (v := .tuple #[]) (by simp [results, Tryz.results103, go_sem]) rfl ⟨rfl, HS.out⟩
theorem sortStable_any (F : FuncId) (X : Array Value) (hF : ∀ zs W, (callFunc F zs).run Tryz.prog W = .ok (.enter F zs) W) (cv : Nat → Nat → Int) (base g n c : Nat) (w : World) (hrow : RowI w base g n c (List.range n)) (hn : n < 20) (hn0 : 0 < n)
    (HC : ∀ W, w.grownBy W (some g) → ∀ i j, i < n → j < n → Calls Tryz.prog F (#[.int .i64 i, .int .i64 j] ++ X) W (Ret (.int .i64 (cv i j)) W)) (hbd : ∀ i j, -1 ≤ cv i j ∧ cv i j ≤ 1) :
    Calls Tryz.prog 42 #[.slice (some ⟨g, 0, none⟩) n c, .func (.func F) #[] X] w
      (Sorted w base g n c (ord (fun i j => decide (cv i j < 0)) n)) := by
  have HI := hide (stable_any F X hF cv base g n c w hrow hn hn0 HC hbd)
  clear hrow HC hbd hF
  go_enter Tryz.func42, Tryz.ntmps42
  go_wp2_with fail
  refine HI.out.mono ?_
  rintro e w2 ⟨rfl, hs⟩
  have HS := hide hs
  clear hs
  go_wp2_with fail
  exact bodyPost_ret (v := .tuple #[]) (by simp [results, Tryz.results42, go_sem]) rfl ⟨rfl, HS.out⟩
theorem insertion0_any (A : Option Addr) (c : Nat) (F : Value) (w : World) : Calls Tryz.prog 150 #[.slice A 0 c, .int .i64 0, .int .i64 0, F] w (Pure (.tuple #[]) w) := by
  go_enter Tryz.func150, Tryz.ntmps150
  go_wp2_with fail
  go_loopw [8] (fun a wi => a = .int .i64 1 ∧ wi = w) (fun _ _ => 0)
  case atStart => exact ⟨rfl, rfl⟩
  case round =>
    obtain ⟨rfl, rfl⟩ := hrel
    go_wp2_with fail
    exact bodyPost_ret (v := .tuple #[]) (by simp [results, Tryz.results150, go_sem]) rfl ⟨rfl, rfl⟩
theorem sortStable0_any (A : Option Addr) (c : Nat) (F : Value) (w : World) : Calls Tryz.prog 42 #[.slice A 0 c, F] w (Pure (.tuple #[]) w) := by
  have HQ : Hid (Calls Tryz.prog 103 #[.slice A 0 c, .int .i64 0, F] w (Pure (.tuple #[]) w)) := by
    refine hide ?_
    have HI := hide (insertion0_any A c F w)
    go_enter Tryz.func103, Tryz.ntmps103
    go_wp2_with fail
    go_loopw [7, 8] (fun a b wi => a = .int .i64 0 ∧ b = .int .i64 20 ∧ wi = w) (fun _ _ _ => 0)
    case atStart => exact ⟨rfl, rfl, rfl⟩
    case round =>
      obtain ⟨rfl, rfl, rfl⟩ := hrel
      go_wp2_with fail
      refine HI.out.mono ?_
      rintro e w2 ⟨rfl, rfl⟩
      go_wp2_with fail
      go_loopw [6] (fun a wi => a = .int .i64 20 ∧ wi = wr) (fun _ _ => 0)
      case atStart => exact ⟨rfl, rfl⟩
      case round =>
        obtain ⟨rfl, rfl⟩ := hrel
        go_wp2_with fail
        exact bodyPost_ret (v := .tuple #[]) (by simp [results, Tryz.results103, go_sem]) rfl ⟨rfl, rfl⟩
  go_enter Tryz.func42, Tryz.ntmps42
  go_wp2_with fail
  refine HQ.out.mono ?_
  rintro e w2 ⟨rfl, rfl⟩
  go_wp2_with fail
  exact bodyPost_ret (v := .tuple #[]) (by simp [results, Tryz.results42, go_sem]) rfl ⟨rfl, rfl⟩
end Go.Proofs.YtmglgjchemecjaaGreat.CIns
/- The program's ClearFixups. -/
namespace Go.Proofs.YtmglgjchemecjaaGreat.CClear
set_option maxRecDepth 200000
open Go.ChangeShapes Go.WideShapes Go.ChangeAt Go.RowKit Kit CCode CFixups CSymbols PObj BObj CMarkRows PValid CSecValid CUses CCovers CObjValid PWarn CCopyS CCopyI BStore PClear
end Go.Proofs.YtmglgjchemecjaaGreat.CClear
