/- The walk of FnExactWarningsOf. -/
import Derived.Test.YtmglgjchemecjaaCWarn
import Derived.Test.YtmglgjchemecjaaCWarnS
import Derived.Test.YtmglgjchemecjaaCObject2
import Derived.Test.YtmglgjchemecjaaIn3
namespace Go.Proofs.Ytmglgjchemecjaa.WFnExactWarningsOf
set_option maxRecDepth 200000
open Go.ChangeShapes Go.WideShapes Go.ChangeAt Go.RowKit Kit CCode CFixups CSymbols PObj BObj PValid CObjValid CSections CObject CObject2 CMarkRows PWarn CWarn CWarnS
theorem sum_d {o o' : OV} (h : o'.d = o.d) : sum o' = sum o := by
  have h1 : ∀ x : OV, sum x = (x.d.ss.length : Int) + tot x.d.ss + x.d.ys.length + toty x.d.ys := fun x => by simp [sum, OV.d]
  rw [h1, h1, h]
theorem fit_own {o : OV} {w : World} {base : Nat} (hs : sum o ≤ 1048576) (ho : OwnO w base o) : Fit o ∧ (∀ p ∈ o.ps, p.zs.length ≤ p.c) := by
  obtain ⟨⟨l1, l2, l3⟩, l4, l5⟩ := sum_lim hs
  have hmx : (1048576 : Nat) ≤ maxLen := by decide
  refine ⟨⟨l1, l2, ho.2.cap.1, fun p hp => ⟨Nat.le_trans (l4 p hp) hmx, (l3 p hp).1, (l3 p hp).2⟩, fun y hy => Nat.le_trans (l5 y hy) hmx⟩, fun p hp => ((ho.1.2.1 p hp).1).cap.1⟩
theorem warns_len (d : OD) : (warns d).length ≤ 28 := by
  unfold warns
  cases h : objOk d
  · simp
  · obtain ⟨h1, h2, _⟩ := obj_facts h
    simpa using list_len h1 h2
theorem _root_.Go.Proofs.Ytmglgjchemecjaa.BObj.RdO.call' {w w' : World} {o : OV} (h : RdO w w.heap.size o) (hb : Below w.heap.size w w') : RdO w' w'.heap.size o := (h.below hb).more hb.size
theorem markW_none (A : Option Addr) (k0 : Int) (w : World) : Calls Try.prog 21 #[.slice A 0 0, .int .i64 k0] w (Pure (.int .i64 k0) w) := by
  go_enter Try.func21, Try.ntmps21
  go_wp2
  go_loop [1, 5] (fun k i => i = .int .i64 0 ∧ k = .int .i64 k0) (fun _ _ => 0)
  case atStart => exact ⟨rfl, rfl⟩
  case round =>
    obtain ⟨rfl, rfl⟩ := hrel
    go_wp2
    go_ret
    exact ⟨rfl, rfl⟩
theorem markW_row (base : Nat) (A : Option Addr) (c m : Nat) (xs : List Value) (k0 : Int) (w : World) (h0 : 0 ≤ k0) (hk0 : k0 ≤ 4294967296) (hm : m ≤ 4294967296) (h : Row w base 31 2 A m c xs) :
    Calls Try.prog 21 #[.slice A m c, .int .i64 k0] w fun e w' => e = .returned (.int .i64 (k0 + 2 * m)) ∧ Row w' base 31 2 A m c (cellsOf CWarnings.warningC (CWarnings.marks k0 m)) ∧ w.grownBy w' (blk A c) := by
  by_cases hc : c = 0
  · subst hc
    obtain rfl : m = 0 := Nat.le_zero.1 h.cap.1
    refine (markW_none A k0 w).mono ?_
    rintro e w' ⟨rfl, rfl⟩
    exact ⟨by simp, .inl ⟨rfl, rfl, rfl⟩, World.grownBy.refl w _⟩
  · have hown : w.ownsRow base 31 2 (.slice A m c) m xs := h.elim (fun h => absurd h.2.1 hc) id
    refine (CWarnings.mark_any base A c m xs k0 w h0 hk0 hm hown).mono ?_
    rintro e w' ⟨rfl, o, g⟩
    exact ⟨rfl, .inr o, by rw [blk_own (n := m) hc]; exact g⟩
set_option maxHeartbeats 2000000 in
theorem walk (o : OV) (w : World) (hr : RdO w w.heap.size o) (h1 : o.ps.length ≤ maxLen) (h2 : o.ys.length ≤ maxLen) (h3 : ∀ p ∈ o.ps, p.nm.size ≤ maxLen ∧ p.zs.length ≤ maxLen ∧ p.fs.length ≤ maxLen) (h4 : ∀ y ∈ o.ys, y.1.size ≤ maxLen) :
    Calls Try.prog 4 #[o.v] w (LawEnds w) := by
  have HR := hide hr
  have HSZ := hide (fun V (hV : RdO V V.heap.size o) => szObject_any o V hV h1 h2 h3 h4)
  have HTO := hide (fun V (hV : RdO V V.heap.size o) (hl : LimO o) => toObject_any o V hV hl)
  clear hr h1 h2 h3 h4
  unfold OV.v
  have B0 : Below w.heap.size w (w.alloc (.cells #[.slice o.A o.ps.length o.c, .slice o.Y o.ys.length o.yc] 38)) := (by repeat (first | exact Below.refl _ _ | with_reducible assumption | (refine Below.drew ?_) | (refine Below.drewN ?_ _) | (refine Below.alloc ?_ (by simp; try omega) _) | (refine Below.setCell ?_ (by simp; try omega) _)))
  have HV0 := hide (Box.new w 38 #[.slice o.A o.ps.length o.c, .slice o.Y o.ys.length o.yc])
  have HB0 := hide B0
  clear B0
  go_enter Try.func4, Try.ntmps4
  go_wp2_with fail
  generalize w.alloc (.cells #[.slice o.A o.ps.length o.c, .slice o.Y o.ys.length o.yc] 38) = w0 at *
  refine (HSZ.out w0 (HR.out.call' HB0.out)).mono ?_
  rintro e w1 ⟨⟨r, rfl, hcase⟩, b1⟩
  have HB1 := hide (HB0.out.trans (b1.mono HB0.out.size))
  have HV1 := hide (HV0.out.call b1)
  clear b1 HB0 HV0
  rcases hcase with rfl | ⟨hr0, hsum⟩
  · go_wp2_with fail
    go_ret
    exact ⟨rfl, HB1.out⟩
  have HSUM := hide hsum
  have HLIM := hide (sum_lim hsum).1
  clear hsum
  have v0 := HV1.out.cell 0
  have v1 := HV1.out.cell 1
  simp only [List.getElem?_toArray, List.getElem?_cons_zero, List.getElem?_cons_succ] at v0 v1
  go_wp2_with fail
  refine (HTO.out w1 (HR.out.call' HB1.out) HLIM.out).mono ?_
  rintro e w2 ⟨o2, rfl, hd2, own2, b2⟩
  have HB2 := hide (HB1.out.trans (b2.mono HB1.out.size))
  have HV2 := hide (HV1.out.call b2)
  have HF2 := hide (fit_own (o := o2) (by rw [sum_d hd2]; exact HSUM.out) own2)
  have HD2 := hide hd2
  have HR2 := hide own2.rd
  clear b2 hd2 own2 v0 v1 HB1 HV1
  unfold OV.v
  go_wp2_with fail
  refine (warningsOfS_any o2 w2 HR2.out HF2.out.1 HF2.out.2).mono ?_
  rintro e w3 ⟨A3, c3, rfl, r3, b3⟩
  rw [HD2.out] at r3 ⊢
  have hll := warns_len o.d
  generalize hLW : warns o.d = L at *
  have HLW := hide hLW
  clear hLW
  have HB3 := hide (HB2.out.trans (b3.mono HB2.out.size))
  have HV3 := hide (HV2.out.call b3)
  have hs23 := b3.size
  have HW3 := hide r3
  clear r3 b3 HB2 HV2 HR2 HF2 HD2
  have v0 := HV3.out.cell 0
  have v1 := HV3.out.cell 1
  simp only [List.getElem?_toArray, List.getElem?_cons_zero, List.getElem?_cons_succ] at v0 v1
  go_wp2_with fail
  refine (HTO.out w3 (HR.out.call' HB3.out) HLIM.out).mono ?_
  rintro e w4 ⟨o4, rfl, hd4, own4, b4⟩
  have HB4 := hide (HB3.out.trans (b4.mono HB3.out.size))
  have HV4 := hide (HV3.out.call b4)
  have HW4 := hide (HW3.out.call b4)
  have HLT3 := hide (fun k hk => (HW3.out.lt k hk).2)
  have HO4 := hide own4
  have HD4 := hide hd4
  have HS4 := hide (show sum o4 ≤ 1048576 by rw [sum_d hd4]; exact HSUM.out)
  have HF4 := hide (fit_own HS4.out own4)
  have hs34 := b4.size
  have hs03 := HB3.out.size
  have hv3 := HV3.out.lt
  clear own4 hd4 b4 v0 v1 HB3 HV3 HW3
  unfold OV.v
  go_wp2_with fail
  -- the argument's variable
  have HX5 := hide (Box.new w4 26 #[.slice o4.A o4.ps.length o4.c, .slice o4.Y o4.ys.length o4.yc])
  have B5 : Below w4.heap.size w4 (w4.alloc (.cells #[.slice o4.A o4.ps.length o4.c, .slice o4.Y o4.ys.length o4.yc] 26)) := (by repeat (first | exact Below.refl _ _ | with_reducible assumption | (refine Below.drew ?_) | (refine Below.drewN ?_ _) | (refine Below.alloc ?_ (by simp; try omega) _) | (refine Below.setCell ?_ (by simp; try omega) _)))
  have HB5 := hide (HB4.out.trans (B5.mono HB4.out.size))
  have HV5 := hide (HV4.out.call B5)
  have HW5 := hide (HW4.out.call B5)
  have HO5 := hide (HO4.out.call B5)
  have hs5 : w4.heap.size < (w4.alloc (.cells #[.slice o4.A o4.ps.length o4.c, .slice o4.Y o4.ys.length o4.yc] 26)).heap.size := by simp
  have HXN := hide (fun k (hk : oblk o4 k) => (show k < w4.heap.size from (HO4.out.lt k hk).2))
  clear HB4 HV4 HW4 HO4 B5
  generalize w4.heap.size = X at *
  generalize w4.alloc (.cells #[.slice o4.A o4.ps.length o4.c, .slice o4.Y o4.ys.length o4.yc] 26) = w5 at *
  refine (warningsOf_any o4 w5 HO5.out.rd HF4.out.1 HF4.out.2).mono ?_
  rintro e w6 ⟨A6, c6, rfl, r6, b6⟩
  rw [HD4.out, HLW.out] at r6 ⊢
  have HB6 := hide (HB5.out.trans (b6.mono HB5.out.size))
  have HV6 := hide (HV5.out.call b6)
  have HX6 := hide (HX5.out.call b6)
  have HW6 := hide (HW5.out.call b6)
  have HO6 := hide (HO5.out.call b6)
  have HG6 := hide r6
  have hs56 := b6.size
  clear r6 b6 HB5 HV5 HX5 HW5 HO5
  have hlm : L.length ≤ maxLen := Nat.le_trans hll (by decide)
  go_wp2_with fail
  refine (CWarnings.eqWarningS_same A6 A3 L c6 c3 w6 HG6.out.rd HW6.out.rd hlm).mono ?_
  rintro e w7 ⟨rfl, b7⟩
  have HB7 := hide (HB6.out.trans (b7.mono HB6.out.size))
  have HV7 := hide (HV6.out.call b7)
  have HX7 := hide (HX6.out.call b7)
  have HW7 := hide (HW6.out.call b7)
  have HO7 := hide (HO6.out.call b7)
  have HG7 := hide (HG6.out.call b7)
  have hs67 := b7.size
  clear b7 HB6 HV6 HX6 HW6 HO6 HG6
  go_wp2_with fail
  have HSS : Hid (∀ V : World, Below w7.heap.size w7 V → (V.cell? ⟨w.heap.size, 0, none⟩ = some (.slice o.A o.ps.length o.c) ∧ V.cell? ⟨w.heap.size, 1, none⟩ = some (.slice o.Y o.ys.length o.yc) ∧ V.cell? ⟨X, 0, none⟩ = some (.slice o4.A o4.ps.length o4.c) ∧ V.cell? ⟨X, 1, none⟩ = some (.slice o4.Y o4.ys.length o4.yc))) := hide (fun V hV => ⟨(HV7.out.call hV).cell 0, (HV7.out.call hV).cell 1, (HX7.out.call hV).cell 0, (HX7.out.call hV).cell 1⟩)
  refine Reg.startT (fun V => V.cell? ⟨w.heap.size, 0, none⟩ = some (.slice o.A o.ps.length o.c) ∧ V.cell? ⟨w.heap.size, 1, none⟩ = some (.slice o.Y o.ys.length o.yc) ∧ V.cell? ⟨X, 0, none⟩ = some (.slice o4.A o4.ps.length o4.c) ∧ V.cell? ⟨X, 1, none⟩ = some (.slice o4.Y o4.ys.length o4.yc)) (fun _ => false) (by kernel_rfl) ?_
  have hHeld := HSS.out w7.drew (Below.drew (Below.refl _ _))
  refine Reg.takeT (i := 0) (v := ?_) rfl (by kernel_rfl) (by kernel_rfl) (by kernel_rfl) (by kernel_rfl) (fun _ _ _ h => h) (Or.inl ⟨by rfl, ?_⟩) (by assumption) ?_
  rotate_left 1
  focus (intro w hSw; (try dsimp only at hSw); go_simp; (try with_reducible rfl))
  try simp only [List.getElem_toArray, List.getElem_cons_succ, List.getElem_cons_zero, Act.put, List.setIfInBounds_toArray, List.set_cons_zero, List.set_cons_succ]
  refine Reg.takeT (i := 1) (v := ?_) rfl (by kernel_rfl) (by kernel_rfl) (by kernel_rfl) (by kernel_rfl) (fun _ _ _ h => h) (Or.inl ⟨by rfl, ?_⟩) (by assumption) ?_
  rotate_left 1
  focus (intro w hSw; (try dsimp only at hSw); go_simp; (try with_reducible rfl))
  try simp only [List.getElem_toArray, List.getElem_cons_succ, List.getElem_cons_zero, Act.put, List.setIfInBounds_toArray, List.set_cons_zero, List.set_cons_succ]
  refine Reg.oneT (i := 2) rfl (by kernel_rfl) (fun K hK => ?_)
  go_simp
  refine (HTO.out w7.drew (HR.out.call' (Below.drew HB7.out)) HLIM.out).mono ?_
  rintro e w8 ⟨o8, rfl, hd8, own8, b8⟩
  have b8' : Below w7.heap.size w7 w8 := of_drew b8
  have hHeld := HSS.out w8 b8'
  refine hK.out _ _ hHeld ?_
  clear hK K
  unfold OV.v
  try simp only [List.getElem_toArray, List.getElem_cons_succ, List.getElem_cons_zero, Act.put, List.setIfInBounds_toArray, List.set_cons_zero, List.set_cons_succ]
  have HB8 := hide (HB7.out.trans (b8'.mono HB7.out.size))
  have HV8 := hide (HV7.out.call b8')
  have HX8 := hide (HX7.out.call b8')
  have HW8 := hide (HW7.out.call b8')
  have HO8 := hide (HO7.out.call b8')
  have HG8 := hide (HG7.out.call b8')
  have HE8 := hide (And.intro own8.rd (show o4.d = o8.d by rw [HD4.out, hd8]))
  have hs78 := b8'.size
  have HXB := hide b8'
  clear b8 b8' own8 hd8 HB7 HV7 HX7 HW7 HO7 HG7
  refine Reg.oneT (i := 3) rfl (by kernel_rfl) (fun K hK => ?_)
  go_simp
  refine (eqObject_same o4 o8 w8 HO8.out.rd HE8.out.1 HE8.out.2 (sum_lim HS4.out).1).mono ?_
  rintro e w9 ⟨rfl, b9⟩
  have hHeld := HSS.out w9 (HXB.out.trans (b9.mono HXB.out.size))
  refine hK.out _ _ hHeld ?_
  clear hK K
  try simp only [List.getElem_toArray, List.getElem_cons_succ, List.getElem_cons_zero, Act.put, List.setIfInBounds_toArray, List.set_cons_zero, List.set_cons_succ]
  have HB9 := hide (HB8.out.trans (b9.mono HB8.out.size))
  have HV9 := hide (HV8.out.call b9)
  have HX9 := hide (HX8.out.call b9)
  have HW9 := hide (HW8.out.call b9)
  have HO9 := hide (HO8.out.call b9)
  have HG9 := hide (HG8.out.call b9)
  have hs89 := b9.size
  clear b9 HB8 HV8 HX8 HW8 HO8 HG8 HE8 HXB
  refine Reg.takeT (i := 4) (v := ?_) rfl (by kernel_rfl) (by kernel_rfl) (by kernel_rfl) (by kernel_rfl) (fun _ _ _ h => h) (Or.inl ⟨by rfl, ?_⟩) (by assumption) ?_
  rotate_left 1
  focus (intro w hSw; (try dsimp only at hSw); go_simp; (try with_reducible rfl))
  try simp only [List.getElem_toArray, List.getElem_cons_succ, List.getElem_cons_zero, Act.put, List.setIfInBounds_toArray, List.set_cons_zero, List.set_cons_succ]
  refine Reg.doneT (by kernel_rfl) ?_ _
  clear hHeld HSS
  have x0 := HX9.out.cell 0
  have x1 := HX9.out.cell 1
  simp only [List.getElem?_toArray, List.getElem?_cons_zero, List.getElem?_cons_succ] at x0 x1
  go_wp2_with fail
  refine (markObject_any w3.heap.size o4 1 w9 (by omega) (by omega) HS4.out HO9.out).mono ?_
  rintro e w10 ⟨rfl, own10, g10⟩
  have HRR := hide (show 0 ≤ 1 + CMarkRows.wds o4.ps + 4 * (o4.ys.length : Int) by have := CMarkRows.wds_nonneg o4.ps; omega)
  have HB10 := hide (Gp.below HB9.out g10 (Nat.le_trans HB9.out.size (Nat.le_refl _)) (fun k hk => Nat.le_trans hs03 (HO9.out.lt k hk).1))
  have HV10 := hide (g10.box HV9.out (fun h => by have := (HO9.out.lt _ h).1; have := HV9.out.lt; omega))
  have HW10 := hide (Gp.row g10 HW9.out (fun k hk h => by have h1 := HLT3.out k hk; have h2 := (HO9.out.lt k h).1; omega))
  have HG10 := hide (Gp.row g10 HG9.out (fun k hk h => by have h1 := (HG9.out.lt k hk).1; have h2 := HXN.out k h; omega))
  clear own10 g10 x0 x1 HB9 HV9 HX9 HW9 HO9 HG9
  generalize 1 + CMarkRows.wds o4.ps + 4 * (o4.ys.length : Int) = rr at *
  have hrr := HRR.out
  go_wp2_with fail
  refine (CWarnings.eqWarningS_same A6 A3 L c6 c3 w10 HG10.out.rd HW10.out.rd hlm).mono ?_
  rintro e w11 ⟨rfl, b11⟩
  have HB11 := hide (HB10.out.trans (b11.mono HB10.out.size))
  have HV11 := hide (HV10.out.call b11)
  have HW11 := hide (HW10.out.call b11)
  have HG11 := hide (HG10.out.call b11)
  clear b11 HB10 HV10 HW10 HG10
  go_wp2_with fail
  refine (markW_row _ A6 c6 L.length _ 1 w11 (by omega) (by omega) (by omega) HG11.out).mono ?_
  rintro e w12 ⟨rfl, r12, g12⟩
  have HB12 := hide (below_grown HB11.out g12 HB11.out.size (fun k hk => by have := (HG11.out.lt k hk).1; have := HB11.out.size; omega))
  have HV12 := hide (HV11.out.grown g12 (fun k hk => by have := (HG11.out.lt k hk).1; omega))
  have HW12 := hide (HW11.out.grown g12 (fun k hk h => by have h1 := HLT3.out k hk; have h2 := (HG11.out.lt k h).1; omega))
  have HG12 := hide r12
  clear r12 g12 HB11 HV11 HW11 HG11
  go_wp2_with fail
  refine (CWarnings.held_any _ A6 c6 L.length 1 w12 (by omega) (by omega) (by omega) HG12.out.rd).mono ?_
  rintro e w' ⟨rfl, rfl⟩
  have v0 := HV12.out.cell 0
  have v1 := HV12.out.cell 1
  simp only [List.getElem?_toArray, List.getElem?_cons_zero, List.getElem?_cons_succ] at v0 v1
  have hnn : ¬ (1 + 2 * (L.length : Int)) < 0 := by omega
  go_wp2_with fail
  refine (HTO.out w12 (HR.out.call' HB12.out) HLIM.out).mono ?_
  rintro e w13 ⟨o13, rfl, hd13, own13, b13⟩
  have HB13 := hide (HB12.out.trans (b13.mono HB12.out.size))
  have HW13 := hide (HW12.out.call b13)
  have HG13 := hide (HG12.out.call b13)
  have HF13 := hide (fit_own (o := o13) (by rw [sum_d hd13]; exact HSUM.out) own13)
  have HD13 := hide hd13
  have HR13 := hide own13.rd
  clear b13 hd13 own13 v0 v1 HB12 HV12 HW12 HG12
  unfold OV.v
  go_wp2_with fail
  refine (warningsOf_any o13 w13 HR13.out HF13.out.1 HF13.out.2).mono ?_
  rintro e w14 ⟨A14, c14, rfl, r14, b14⟩
  rw [HD13.out, HLW.out] at r14 ⊢
  have HB14 := hide (HB13.out.trans (b14.mono HB13.out.size))
  have HW14 := hide (HW13.out.call b14)
  have HG14 := hide (HG13.out.call b14)
  have HH14 := hide r14
  clear r14 b14 HB13 HW13 HG13 HR13 HF13 HD13
  go_wp2_with fail
  refine (CWarnings.eqWarningS_same A14 A3 L c14 c3 w14 HH14.out.rd HW14.out.rd hlm).mono ?_
  rintro e w15 ⟨rfl, b15⟩
  have HB15 := hide (HB14.out.trans (b15.mono HB14.out.size))
  have HG15 := hide (HG14.out.call b15)
  clear b15 HB14 HW14 HG14 HH14
  go_wp2_with fail
  refine (CWarnings.held_any _ A6 c6 L.length 1 w15 (by omega) (by omega) (by omega) HG15.out.rd).mono ?_
  rintro e w' ⟨rfl, rfl⟩
  go_wp2_with fail
  go_ret
  exact ⟨rfl, HB15.out⟩
end Go.Proofs.Ytmglgjchemecjaa.WFnExactWarningsOf
