/- What comes in: rows of cells that read as the laws' structs. -/
import Derived.Test.YtmglgjchemecjaaGreatFnExactSameObjectM10
import Derived.Test.YtmglgjchemecjaaGreatRows
set_option linter.unusedSimpArgs false
set_option linter.unusedVariables false
namespace Go.Proofs.YtmglgjchemecjaaGreat.In
set_option maxRecDepth 200000
open Go.ChangeShapes Go.WideShapes Go.ChangeAt Go.RowKit Kit
def I64 (x : Int) : Prop := -9223372036854775808 ≤ x ∧ x ≤ 9223372036854775807
def okRow (z : Int × Int) : Prop := I64 z.1 ∧ I64 z.2
def okFrame (z : Int × Int × Int) : Prop := I64 z.1 ∧ I64 z.2.1 ∧ I64 z.2.2
def okLandmark (z : ByteArray × Int) : Prop := z.1.size ≤ maxLen ∧ I64 z.2
end Go.Proofs.YtmglgjchemecjaaGreat.In
/- What comes in: objects. -/
namespace Go.Proofs.YtmglgjchemecjaaGreat.In
set_option maxRecDepth 200000
open Go.ChangeShapes Go.WideShapes Go.ChangeAt Go.RowKit Kit PObj BObj CFixups CSymbols
/-- A slice of structs inside a value. -/
theorem trd_slice {α : Type} {f : α → List Value} {p : α → Prop} {P : Program} {w : World} {t e : TypeId} {cs : List Value} (ht : P.underlying t = some (.slice e)) (hrow : ∀ cs, cs.length = P.cellsOf e → Trd P w e cs → ∃ x, cs = f x ∧ p x) (h : Trd P w t cs) :
    ∃ (A : Option Addr) (xs : List α) (c : Nat), cs = [.slice A xs.length c] ∧ xs.length ≤ c ∧ c ≤ maxLen ∧ (∀ x ∈ xs, p x) ∧ Rd w w.heap.size A (cellsOf f xs) := by
  obtain ⟨A, n, c, rows, rfl, h1, h2, h3, h4, h5⟩ := h.slice ht
  obtain ⟨xs, rfl, hx⟩ := rows_of (f := f) (p := p) fun r hr => hrow r (h4 r hr).1 (h4 r hr).2
  simp only [List.length_map] at h3
  subst h3
  refine ⟨_, xs, _, rfl, h1, h2, hx, ?_⟩
  simpa [cellsOf, List.flatMap] using h5
theorem fixup_in {w : World} {cs : List Value} (hl : cs.length = Tryz.prog.cellsOf 178) (h : Trd Tryz.prog w 178 cs) : ∃ z : FD, cs = fixupC z ∧ True := by
  rw [show Tryz.prog.cellsOf 178 = 4 by kernel_rfl] at hl
  obtain ⟨_, hf⟩ := Trd.fields Tryz.underlying178 (by kernel_rfl) h
  match cs, hl with
  | [u0, u1, u2, u3], _ =>
    obtain ⟨a, e0, _⟩ := (hf 0 _ rfl _ rfl).int Tryz.underlying3
    obtain ⟨b, e1, _⟩ := (hf 1 _ rfl _ rfl).int Tryz.underlying3
    obtain ⟨c, e2, _⟩ := (hf 2 _ rfl _ rfl).int Tryz.underlying3
    obtain ⟨d, e3, _⟩ := (hf 3 _ rfl _ rfl).int Tryz.underlying3
    simp at e0 e1 e2 e3
    exact ⟨(a, b, c, d), by rw [e0, e1, e2, e3]; rfl, trivial⟩
theorem symbol_in {w : World} {cs : List Value} (hl : cs.length = Tryz.prog.cellsOf 124) (h : Trd Tryz.prog w 124 cs) : ∃ z : YD, cs = symbolC z ∧ z.1.size ≤ maxLen := by
  rw [show Tryz.prog.cellsOf 124 = 4 by kernel_rfl] at hl
  obtain ⟨_, hf⟩ := Trd.fields Tryz.underlying124 (by kernel_rfl) h
  match cs, hl with
  | [u0, u1, u2, u3], _ =>
    obtain ⟨a, e0, h0⟩ := (hf 0 _ rfl _ rfl).str Tryz.underlying9
    obtain ⟨b, e1, _⟩ := (hf 1 _ rfl _ rfl).int Tryz.underlying3
    obtain ⟨c, e2, _⟩ := (hf 2 _ rfl _ rfl).int Tryz.underlying3
    obtain ⟨d, e3, _⟩ := (hf 3 _ rfl _ rfl).int Tryz.underlying3
    simp at e0 e1 e2 e3
    exact ⟨(a, b, c, d), by rw [e0, e1, e2, e3]; rfl, h0⟩
def okS (w : World) (p : SV) : Prop := p.nm.size ≤ maxLen ∧ p.zs.length ≤ maxLen ∧ p.fs.length ≤ maxLen ∧ RdS w w.heap.size p
theorem section_in {w : World} {cs : List Value} (hl : cs.length = Tryz.prog.cellsOf 122) (h : Trd Tryz.prog w 122 cs) : ∃ p : SV, cs = secC p ∧ okS w p := by
  rw [show Tryz.prog.cellsOf 122 = 6 by kernel_rfl] at hl
  obtain ⟨_, hf⟩ := Trd.fields Tryz.underlying122 (by kernel_rfl) h
  match cs, hl with
  | [u0, u1, u2, u3, u4, u5], _ =>
    obtain ⟨nm, e0, h0⟩ := (hf 0 _ rfl _ rfl).str Tryz.underlying9
    obtain ⟨kd, e1, _⟩ := (hf 1 _ rfl _ rfl).int Tryz.underlying3
    obtain ⟨al, e2, _⟩ := (hf 2 _ rfl _ rfl).int Tryz.underlying3
    obtain ⟨A, zs, c, e3, l3, c3, r3, _⟩ := (hf 3 _ rfl _ rfl).ints Tryz.underlying34 Tryz.underlying5
    obtain ⟨sz, e4, _⟩ := (hf 4 _ rfl _ rfl).int Tryz.underlying3
    obtain ⟨F, fs, fc, e5, l5, c5, _, r5⟩ := trd_slice Tryz.underlying120 (fun cs hl h => fixup_in hl h) (hf 5 _ rfl _ rfl)
    simp at e0 e1 e2 e3 e4 e5
    exact ⟨⟨nm, kd, al, A, c, zs, sz, F, fc, fs⟩, by rw [e0, e1, e2, e3, e4, e5]; rfl, h0, Nat.le_trans l3 c3, Nat.le_trans l5 c5, r3, r5⟩
theorem object_in {H : Type} {enc : TypeId × Value → H} {base b0 : Nat} {sp : Nat → Bool} {held : Bool} {r : Reach} {v : Value} {d : DataW H} {ps : List MemPlace} {w : World} (hv : Value.okWide Tryz.prog w r b0 25 v) (h : DataW.Trod enc Tryz.prog w base sp held 25 v d ps) :
    ∃ o : OV, v = o.v ∧ RdO w w.heap.size o ∧ o.ps.length ≤ maxLen ∧ o.ys.length ≤ maxLen ∧ (∀ p ∈ o.ps, p.nm.size ≤ maxLen ∧ p.zs.length ≤ maxLen ∧ p.fs.length ≤ maxLen) ∧ (∀ y ∈ o.ys, y.1.size ≤ maxLen) := by
  obtain ⟨cs, rfl, hsz⟩ := okWide_struct Tryz.underlying25 hv
  obtain ⟨hl, hf⟩ := Trd.fields Tryz.underlying25 (by kernel_rfl) (Trd.of_trod h)
  rw [show Tryz.prog.cellsOf 25 = 2 by kernel_rfl] at hl
  obtain ⟨l⟩ := cs
  simp only [Value.cells] at hl hf
  match l, hl with
  | [u0, u1], _ =>
    obtain ⟨A, qs, c, e0, l0, c0, k0, r0⟩ := trd_slice Tryz.underlying22 (fun cs hl h => section_in hl h) (hf 0 _ rfl _ rfl)
    obtain ⟨Y, ys, yc, e1, l1, c1, k1, r1⟩ := trd_slice Tryz.underlying23 (fun cs hl h => symbol_in hl h) (hf 1 _ rfl _ rfl)
    simp at e0 e1
    subst e0 e1
    exact ⟨⟨A, c, qs, Y, yc, ys⟩, rfl, ⟨⟨r0, fun p hp => (k0 p hp).2.2.2⟩, r1⟩, Nat.le_trans l0 c0, Nat.le_trans l1 c1, fun p hp => ⟨(k0 p hp).1, (k0 p hp).2.1, (k0 p hp).2.2.1⟩, k1⟩
end Go.Proofs.YtmglgjchemecjaaGreat.In
/- What comes in: objects, with what their bytes are within. -/
namespace Go.Proofs.YtmglgjchemecjaaGreat.In
set_option maxRecDepth 200000
open Go.ChangeShapes Go.WideShapes Go.ChangeAt Go.RowKit Kit PObj BObj CFixups CSymbols
theorem byte_wf {x : Int} (h : (Lit.int .u8 x).wf = true) : 0 ≤ x ∧ x ≤ 255 := by
  simpa [Lit.wf, IntKind.min, IntKind.max, IntKind.signed, IntKind.bits] using h
def okS4 (w : World) (p : SV) : Prop := p.nm.size ≤ maxLen ∧ p.zs.length ≤ maxLen ∧ p.fs.length ≤ maxLen ∧ RdS w w.heap.size p ∧ InR 0 255 p.zs
theorem section_in4 {w : World} {cs : List Value} (hl : cs.length = Tryz.prog.cellsOf 122) (h : Trd Tryz.prog w 122 cs) : ∃ p : SV, cs = secC p ∧ okS4 w p := by
  rw [show Tryz.prog.cellsOf 122 = 6 by kernel_rfl] at hl
  obtain ⟨_, hf⟩ := Trd.fields Tryz.underlying122 (by kernel_rfl) h
  match cs, hl with
  | [u0, u1, u2, u3, u4, u5], _ =>
    obtain ⟨nm, e0, h0⟩ := (hf 0 _ rfl _ rfl).str Tryz.underlying9
    obtain ⟨kd, e1, _⟩ := (hf 1 _ rfl _ rfl).int Tryz.underlying3
    obtain ⟨al, e2, _⟩ := (hf 2 _ rfl _ rfl).int Tryz.underlying3
    obtain ⟨A, zs, c, e3, l3, c3, r3, z3⟩ := (hf 3 _ rfl _ rfl).ints Tryz.underlying34 Tryz.underlying5
    obtain ⟨sz, e4, _⟩ := (hf 4 _ rfl _ rfl).int Tryz.underlying3
    obtain ⟨F, fs, fc, e5, l5, c5, _, r5⟩ := trd_slice Tryz.underlying120 (fun cs hl h => fixup_in hl h) (hf 5 _ rfl _ rfl)
    simp at e0 e1 e2 e3 e4 e5
    exact ⟨⟨nm, kd, al, A, c, zs, sz, F, fc, fs⟩, by rw [e0, e1, e2, e3, e4, e5]; rfl, h0, Nat.le_trans l3 c3, Nat.le_trans l5 c5, ⟨r3, r5⟩, fun x hx => byte_wf (z3 x hx)⟩
theorem object_in4 {H : Type} {enc : TypeId × Value → H} {base b0 : Nat} {sp : Nat → Bool} {held : Bool} {r : Reach} {v : Value} {d : DataW H} {ps : List MemPlace} {w : World} (hv : Value.okWide Tryz.prog w r b0 25 v) (h : DataW.Trod enc Tryz.prog w base sp held 25 v d ps) :
    ∃ o : OV, v = o.v ∧ RdO w w.heap.size o ∧ o.ps.length ≤ maxLen ∧ o.ys.length ≤ maxLen ∧ (∀ p ∈ o.ps, p.nm.size ≤ maxLen ∧ p.zs.length ≤ maxLen ∧ p.fs.length ≤ maxLen) ∧ (∀ y ∈ o.ys, y.1.size ≤ maxLen) ∧ (∀ p ∈ o.ps, InR 0 255 p.zs) := by
  obtain ⟨cs, rfl, hsz⟩ := okWide_struct Tryz.underlying25 hv
  obtain ⟨hl, hf⟩ := Trd.fields Tryz.underlying25 (by kernel_rfl) (Trd.of_trod h)
  rw [show Tryz.prog.cellsOf 25 = 2 by kernel_rfl] at hl
  obtain ⟨l⟩ := cs
  simp only [Value.cells] at hl hf
  match l, hl with
  | [u0, u1], _ =>
    obtain ⟨A, qs, c, e0, l0, c0, k0, r0⟩ := trd_slice Tryz.underlying22 (fun cs hl h => section_in4 hl h) (hf 0 _ rfl _ rfl)
    obtain ⟨Y, ys, yc, e1, l1, c1, k1, r1⟩ := trd_slice Tryz.underlying23 (fun cs hl h => symbol_in hl h) (hf 1 _ rfl _ rfl)
    simp at e0 e1
    subst e0 e1
    exact ⟨⟨A, c, qs, Y, yc, ys⟩, rfl, ⟨⟨r0, fun p hp => (k0 p hp).2.2.2.1⟩, r1⟩, Nat.le_trans l0 c0, Nat.le_trans l1 c1, fun p hp => ⟨(k0 p hp).1, (k0 p hp).2.1, (k0 p hp).2.2.1⟩, k1, fun p hp => (k0 p hp).2.2.2.2⟩
end Go.Proofs.YtmglgjchemecjaaGreat.In
/- The walk of FnExactSameObject. -/
namespace Go.Proofs.YtmglgjchemecjaaGreat.WFnExactSameObject
set_option maxRecDepth 200000
open Go.ChangeShapes Go.WideShapes Go.ChangeAt Go.RowKit Kit CCode CFixups CSymbols PObj BObj PValid CObjValid CSections CObject CObject2 CMarkRows CCopyS WObj CSameObj CSzObj
theorem inR_d {o o' : OV} (hd : o'.d = o.d) (h : ∀ p ∈ o.ps, InR 0 255 p.zs) : ∀ p ∈ o'.ps, InR 0 255 p.zs := by
  intro p hp
  have h1 : p.d ∈ o.d.ss := by
    rw [← hd]
    exact List.mem_map_of_mem hp
  obtain ⟨q, hq, e⟩ := List.mem_map.1 h1
  have e2 : q.zs = p.zs := congrArg SD.zs e
  rw [← e2]
  exact h q hq
theorem four {w w' : World} {a b : Nat} {u0 u1 v0 v1 : Value} (hb : Below w.heap.size w w') (ha : a < w.heap.size) (hb' : b < w.heap.size) (h : w.cell? ⟨a, 0, none⟩ = some u0 ∧ w.cell? ⟨a, 1, none⟩ = some u1 ∧ w.cell? ⟨b, 0, none⟩ = some v0 ∧ w.cell? ⟨b, 1, none⟩ = some v1) :
    w'.cell? ⟨a, 0, none⟩ = some u0 ∧ w'.cell? ⟨a, 1, none⟩ = some u1 ∧ w'.cell? ⟨b, 0, none⟩ = some v0 ∧ w'.cell? ⟨b, 1, none⟩ = some v1 :=
  ⟨(hb.cell ha).trans h.1, (hb.cell ha).trans h.2.1, (hb.cell hb').trans h.2.2.1, (hb.cell hb').trans h.2.2.2⟩
set_option maxHeartbeats 4000000 in
theorem walk (o q : OV) (w : World) (hr : RdO w w.heap.size o) (h1 : o.ps.length ≤ maxLen) (h2 : o.ys.length ≤ maxLen) (h3 : ∀ p ∈ o.ps, p.nm.size ≤ maxLen ∧ p.zs.length ≤ maxLen ∧ p.fs.length ≤ maxLen) (h4 : ∀ y ∈ o.ys, y.1.size ≤ maxLen) (h5 : ∀ p ∈ o.ps, InR 0 255 p.zs)
    (kr : RdO w w.heap.size q) (k1 : q.ps.length ≤ maxLen) (k2 : q.ys.length ≤ maxLen) (k3 : ∀ p ∈ q.ps, p.nm.size ≤ maxLen ∧ p.zs.length ≤ maxLen ∧ p.fs.length ≤ maxLen) (k4 : ∀ y ∈ q.ys, y.1.size ≤ maxLen) (k5 : ∀ p ∈ q.ps, InR 0 255 p.zs) :
    Calls Tryz.prog 3 #[o.v, q.v] w (LawEnds w) := by
  have HR := hide hr
  have HQ := hide kr
  have HI1 := hide h5
  have HI2 := hide k5
  have HSZ1 := hide (fun V (hV : RdO V V.heap.size o) => szObjectL_any o 1048576 V (by decide) (by decide) hV h1 h2 h3 h4)
  have HSZ2 := hide (fun L V (hL0 : 0 ≤ L) (hL1 : L ≤ 1048576) (hV : RdO V V.heap.size q) => szObjectL_any q L V hL0 hL1 hV k1 k2 k3 k4)
  have HTO1 := hide (fun V (hV : RdO V V.heap.size o) (hl : LimO o) => toObject_any o V hV hl)
  have HTO2 := hide (fun V (hV : RdO V V.heap.size q) (hl : LimO q) => toObject_any q V hV hl)
  clear hr h1 h2 h3 h4 h5 kr k1 k2 k3 k4 k5
  unfold OV.v
  have HB := hide (show Below w.heap.size w ((w.alloc (.cells #[.slice o.A o.ps.length o.c, .slice o.Y o.ys.length o.yc] 25)).alloc (.cells #[.slice q.A q.ps.length q.c, .slice q.Y q.ys.length q.yc] 25)) from (by repeat (first | exact Below.refl _ _ | with_reducible assumption | (refine Below.drew ?_) | (refine Below.drewN ?_ _) | (refine Below.alloc ?_ (by simp; try omega) _) | (refine Below.setCell ?_ (by simp; try omega) _))))
  have HV := hide ((Box.new w 25 #[.slice o.A o.ps.length o.c, .slice o.Y o.ys.length o.yc]).alloc (.cells #[.slice q.A q.ps.length q.c, .slice q.Y q.ys.length q.yc] 25))
  have HU0 := Box.new (w.alloc (.cells #[.slice o.A o.ps.length o.c, .slice o.Y o.ys.length o.yc] 25)) 25 #[.slice q.A q.ps.length q.c, .slice q.Y q.ys.length q.yc]
  rw [World.size_alloc] at HU0
  have HU := hide HU0
  clear HU0
  go_enter Tryz.func3, Tryz.ntmps3
  go_wp2_with fail
  generalize (w.alloc (.cells #[.slice o.A o.ps.length o.c, .slice o.Y o.ys.length o.yc] 25)).alloc (.cells #[.slice q.A q.ps.length q.c, .slice q.Y q.ys.length q.yc] 25) = w0 at *
  generalize hU : w.heap.size + 1 = U at *
  clear hU
  generalize hVV : w.heap.size = V at HV ⊢
  refine (HSZ1.out w0 (RdO.call2 HR.out HB.out)).mono ?_
  rintro e w1 ⟨⟨r, rfl, hcase⟩, b1⟩
  replace HB := hide (HB.out.trans (b1.mono HB.out.size))
  replace HV := hide (HV.out.call b1)
  replace HU := hide (HU.out.call b1)
  clear b1
  rcases hcase with rfl | ⟨hr0, hr1, hsum⟩
  · go_wp2_with fail
    go_ret
    exact ⟨rfl, HB.out⟩
  have HSUM1 := hide hsum
  have HLIM1 := hide (sum_lim hsum).1
  clear hsum
  have u0 := HU.out.cell 0
  have u1 := HU.out.cell 1
  simp only [List.getElem?_toArray, List.getElem?_cons_zero, List.getElem?_cons_succ] at u0 u1
  go_wp2_with fail
  clear u0 u1
  refine (HSZ2.out r w1 hr0 hr1 (RdO.call2 HQ.out HB.out)).mono ?_
  rintro e w2 ⟨⟨r2, rfl, hcase⟩, b2⟩
  replace HB := hide (HB.out.trans (b2.mono HB.out.size))
  replace HV := hide (HV.out.call b2)
  replace HU := hide (HU.out.call b2)
  clear b2
  rcases hcase with rfl | ⟨hs0, hs1, hsum⟩
  · go_wp2_with fail
    go_ret
    exact ⟨rfl, HB.out⟩
  have HSUM2 := hide hsum
  have HLIM2 := hide (sum_lim hsum).1
  clear hsum
  go_wp2_with fail
  clear hr0 hr1 hs0 hs1 HSZ1 HSZ2
  have v0 := HV.out.cell 0
  have v1 := HV.out.cell 1
  simp only [List.getElem?_toArray, List.getElem?_cons_zero, List.getElem?_cons_succ] at v0 v1
  have u0 := HU.out.cell 0
  have u1 := HU.out.cell 1
  simp only [List.getElem?_toArray, List.getElem?_cons_zero, List.getElem?_cons_succ] at u0 u1
  have hvl := HV.out.lt
  have hul := HU.out.lt
  have bd : Below w2.heap.size w2 w2.drew := below_dr (Below.refl _ _)
  have hHeld := four bd hvl hul ⟨v0, v1, u0, u1⟩
  clear v0 v1 u0 u1 hvl hul
  refine Reg.startT (fun W => W.cell? ⟨V, 0, none⟩ = some (.slice o.A o.ps.length o.c) ∧ W.cell? ⟨V, 1, none⟩ = some (.slice o.Y o.ys.length o.yc) ∧ W.cell? ⟨U, 0, none⟩ = some (.slice q.A q.ps.length q.c) ∧ W.cell? ⟨U, 1, none⟩ = some (.slice q.Y q.ys.length q.yc)) (fun _ => false) (by kernel_rfl) ?_
  replace HB := hide (HB.out.trans (bd.mono HB.out.size))
  replace HV := hide (HV.out.call bd)
  replace HU := hide (HU.out.call bd)
  clear bd
  generalize w2.drew = w3 at *
  refine Reg.takeT (i := 0) (v := ?_) rfl (by kernel_rfl) (by kernel_rfl) (by kernel_rfl) (by kernel_rfl) (fun _ _ _ h => h) (Or.inl ⟨by rfl, ?_⟩) (by assumption) ?_
  rotate_left 1
  focus (intro w hSw; (try dsimp only at hSw); go_simp; (try with_reducible rfl))
  try simp only [List.getElem_toArray, List.getElem_cons_succ, List.getElem_cons_zero, Act.put, List.setIfInBounds_toArray, List.set_cons_zero, List.set_cons_succ]
  refine Reg.takeT (i := 2) (v := ?_) rfl (by kernel_rfl) (by kernel_rfl) (by kernel_rfl) (by kernel_rfl) (fun _ _ _ h => h) (Or.inl ⟨by rfl, ?_⟩) (by assumption) ?_
  rotate_left 1
  focus (intro w hSw; (try dsimp only at hSw); go_simp; (try with_reducible rfl))
  try simp only [List.getElem_toArray, List.getElem_cons_succ, List.getElem_cons_zero, Act.put, List.setIfInBounds_toArray, List.set_cons_zero, List.set_cons_succ]
  refine Reg.oneT (i := 1) rfl (by kernel_rfl) (fun K hK => ?_)
  go_simp
  refine (HTO1.out w3 (RdO.call2 HR.out HB.out) HLIM1.out).mono ?_
  rintro e w4 ⟨a, rfl, hda, owna, b4⟩
  have HA := hide owna
  have HDA := hide hda
  clear owna hda
  replace hHeld := hide (four b4 HV.out.lt HU.out.lt hHeld)
  replace HB := hide (HB.out.trans (b4.mono HB.out.size))
  replace HV := hide (HV.out.call b4)
  replace HU := hide (HU.out.call b4)
  clear b4
  unfold OV.v
  refine hK.out _ _ hHeld.out ?_
  clear hK K
  try simp only [List.getElem_toArray, List.getElem_cons_succ, List.getElem_cons_zero, Act.put, List.setIfInBounds_toArray, List.set_cons_zero, List.set_cons_succ]
  refine Reg.oneT (i := 3) rfl (by kernel_rfl) (fun K hK => ?_)
  go_simp
  refine (HTO2.out w4 (RdO.call2 HQ.out HB.out) HLIM2.out).mono ?_
  rintro e w5 ⟨b, rfl, hdb, ownb, b5⟩
  have HBB := hide ownb
  have HDB := hide hdb
  clear ownb hdb
  replace hHeld := hide (four b5 HV.out.lt HU.out.lt hHeld.out)
  replace HB := hide (HB.out.trans (b5.mono HB.out.size))
  replace HV := hide (HV.out.call b5)
  replace HU := hide (HU.out.call b5)
  replace HA := hide (HA.out.call b5)
  clear b5
  unfold OV.v
  refine hK.out _ _ hHeld.out ?_
  clear hK K
  try simp only [List.getElem_toArray, List.getElem_cons_succ, List.getElem_cons_zero, Act.put, List.setIfInBounds_toArray, List.set_cons_zero, List.set_cons_succ]
  refine Reg.oneT (i := 4) rfl (by kernel_rfl) (fun K hK => ?_)
  go_simp
  have HF1 := hide (fit_own (o := a) (by rw [sum_d HDA.out]; exact HSUM1.out) HA.out).1
  have HF2 := hide (fit_own (o := b) (by rw [sum_d HDB.out]; exact HSUM2.out) HBB.out).1
  have HN1 := hide (show ∀ p ∈ a.ps, p.A = none → p.c = 0 from fun p hp => ((nils_own HA.out).2 p hp).1)
  have HN2 := hide (show ∀ p ∈ b.ps, p.A = none → p.c = 0 from fun p hp => ((nils_own HBB.out).2 p hp).1)
  refine (CSameObjS.sameObjectS_any a b w5 HA.out.rd HBB.out.rd HF1.out HF2.out HN1.out HN2.out (inR_d HDA.out HI1.out) (inR_d HDB.out HI2.out)).mono ?_
  rintro e w6 ⟨rfl, b6⟩
  replace hHeld := hide (four b6 HV.out.lt HU.out.lt hHeld.out)
  replace HB := hide (HB.out.trans (b6.mono HB.out.size))
  replace HV := hide (HV.out.call b6)
  replace HU := hide (HU.out.call b6)
  clear b6
  rw [HDA.out, HDB.out]
  clear HA HBB HDA HDB HF1 HF2 HN1 HN2
  refine hK.out _ _ hHeld.out ?_
  clear hK K
  try simp only [List.getElem_toArray, List.getElem_cons_succ, List.getElem_cons_zero, Act.put, List.setIfInBounds_toArray, List.set_cons_zero, List.set_cons_succ]
  generalize hsb : sameB o.d q.d = sb at *
  have HSB := hide hsb
  clear hsb
  have hHeld := hHeld.out
  refine Reg.takeT (i := 5) (v := ?_) rfl (by kernel_rfl) (by kernel_rfl) (by kernel_rfl) (by kernel_rfl) (fun _ _ _ h => h) (Or.inl ⟨by rfl, ?_⟩) (by assumption) ?_
  rotate_left 1
  focus (intro w hSw; (try dsimp only at hSw); go_simp; (try with_reducible rfl))
  try simp only [List.getElem_toArray, List.getElem_cons_succ, List.getElem_cons_zero, Act.put, List.setIfInBounds_toArray, List.set_cons_zero, List.set_cons_succ]
  clear hHeld
  refine Reg.doneT (by kernel_rfl) ?_ _
  have v0 := HV.out.cell 0
  have v1 := HV.out.cell 1
  simp only [List.getElem?_toArray, List.getElem?_cons_zero, List.getElem?_cons_succ] at v0 v1
  go_wp2_with fail
  clear v0 v1
  refine (HTO1.out w6 (RdO.call2 HR.out HB.out) HLIM1.out).mono ?_
  rintro e w7 ⟨c, rfl, hdc, ownc, b7⟩
  have HC := hide ownc
  have HDC := hide hdc
  clear ownc hdc
  replace HB := hide (HB.out.trans (b7.mono HB.out.size))
  replace HV := hide (HV.out.call b7)
  replace HU := hide (HU.out.call b7)
  clear b7
  unfold OV.v
  have B8 : Below w7.heap.size w7 (w7.alloc (.cells #[.slice c.A c.ps.length c.c, .slice c.Y c.ys.length c.yc] 31)) := (by repeat (first | exact Below.refl _ _ | with_reducible assumption | (refine Below.drew ?_) | (refine Below.drewN ?_ _) | (refine Below.alloc ?_ (by simp; try omega) _) | (refine Below.setCell ?_ (by simp; try omega) _)))
  have HX := hide (Box.new w7 31 #[.slice c.A c.ps.length c.c, .slice c.Y c.ys.length c.yc])
  replace HB := hide (HB.out.trans (B8.mono HB.out.size))
  replace HV := hide (HV.out.call B8)
  replace HU := hide (HU.out.call B8)
  replace HC := hide (HC.out.call B8)
  clear B8
  have u0 := HU.out.cell 0
  have u1 := HU.out.cell 1
  simp only [List.getElem?_toArray, List.getElem?_cons_zero, List.getElem?_cons_succ] at u0 u1
  go_wp2_with fail
  clear u0 u1
  generalize w7.alloc (.cells #[.slice c.A c.ps.length c.c, .slice c.Y c.ys.length c.yc] 31) = w8 at *
  generalize w7.heap.size = X at *
  refine (HTO2.out w8 (RdO.call2 HQ.out HB.out) HLIM2.out).mono ?_
  rintro e w9 ⟨d, rfl, hdd, ownd, b9⟩
  have HD := hide ownd
  have HDD := hide hdd
  clear ownd hdd
  replace HB := hide (HB.out.trans (b9.mono HB.out.size))
  replace HV := hide (HV.out.call b9)
  replace HU := hide (HU.out.call b9)
  replace HC := hide (HC.out.call b9)
  replace HX := hide (HX.out.call b9)
  clear b9
  unfold OV.v
  have B10 : Below w9.heap.size w9 (w9.alloc (.cells #[.slice d.A d.ps.length d.c, .slice d.Y d.ys.length d.yc] 31)) := (by repeat (first | exact Below.refl _ _ | with_reducible assumption | (refine Below.drew ?_) | (refine Below.drewN ?_ _) | (refine Below.alloc ?_ (by simp; try omega) _) | (refine Below.setCell ?_ (by simp; try omega) _)))
  have HY := hide (Box.new w9 31 #[.slice d.A d.ps.length d.c, .slice d.Y d.ys.length d.yc])
  replace HB := hide (HB.out.trans (B10.mono HB.out.size))
  replace HV := hide (HV.out.call B10)
  replace HU := hide (HU.out.call B10)
  replace HC := hide (HC.out.call B10)
  replace HX := hide (HX.out.call B10)
  replace HD := hide (HD.out.call B10)
  clear B10
  have x0 := HX.out.cell 0
  have x1 := HX.out.cell 1
  simp only [List.getElem?_toArray, List.getElem?_cons_zero, List.getElem?_cons_succ] at x0 x1
  have y0 := HY.out.cell 0
  have y1 := HY.out.cell 1
  simp only [List.getElem?_toArray, List.getElem?_cons_zero, List.getElem?_cons_succ] at y0 y1
  have hxl := HX.out.lt
  have hyl := HY.out.lt
  go_wp2_with fail
  clear x0 x1 y0 y1 hxl hyl
  generalize w9.alloc (.cells #[.slice d.A d.ps.length d.c, .slice d.Y d.ys.length d.yc] 31) = w10 at *
  generalize w9.heap.size = Y at *
  have HS1 := hide (show sum c ≤ 1048576 by rw [sum_d HDC.out]; exact HSUM1.out)
  have HS2 := hide (show sum d ≤ 1048576 by rw [sum_d HDD.out]; exact HSUM2.out)
  have HF1 := hide (fit_own HS1.out HC.out).1
  have HF2 := hide (fit_own HS2.out HD.out).1
  have HN1 := hide (show ∀ p ∈ c.ps, p.A = none → p.c = 0 from fun p hp => ((nils_own HC.out).2 p hp).1)
  have HN2 := hide (show ∀ p ∈ d.ps, p.A = none → p.c = 0 from fun p hp => ((nils_own HD.out).2 p hp).1)
  refine (sameObject_any c d w10 HC.out.rd HD.out.rd HF1.out HF2.out HN1.out HN2.out (inR_d HDC.out HI1.out) (inR_d HDD.out HI2.out)).mono ?_
  rintro e w11 ⟨rfl, b11⟩
  replace HB := hide (HB.out.trans (b11.mono HB.out.size))
  replace HV := hide (HV.out.call b11)
  replace HU := hide (HU.out.call b11)
  replace HC := hide (HC.out.call b11)
  replace HX := hide (HX.out.call b11)
  replace HD := hide (HD.out.call b11)
  replace HY := hide (HY.out.call b11)
  clear b11
  rw [HDC.out, HDD.out, HSB.out]
  have hbb : (sb != sb) = false := by cases sb <;> rfl
  go_wp2_with fail
  clear HF1 HF2 HN1 HN2 hbb
  have x0 := HX.out.cell 0
  have x1 := HX.out.cell 1
  simp only [List.getElem?_toArray, List.getElem?_cons_zero, List.getElem?_cons_succ] at x0 x1
  have v0 := HV.out.cell 0
  have v1 := HV.out.cell 1
  simp only [List.getElem?_toArray, List.getElem?_cons_zero, List.getElem?_cons_succ] at v0 v1
  have bd : Below w11.heap.size w11 w11.drew := below_dr (Below.refl _ _)
  have hHeld := four bd HX.out.lt HV.out.lt ⟨x0, x1, v0, v1⟩
  clear x0 x1 v0 v1
  refine Reg.startT (fun W => W.cell? ⟨X, 0, none⟩ = some (.slice c.A c.ps.length c.c) ∧ W.cell? ⟨X, 1, none⟩ = some (.slice c.Y c.ys.length c.yc) ∧ W.cell? ⟨V, 0, none⟩ = some (.slice o.A o.ps.length o.c) ∧ W.cell? ⟨V, 1, none⟩ = some (.slice o.Y o.ys.length o.yc)) (fun _ => false) (by kernel_rfl) ?_
  replace HB := hide (HB.out.trans (bd.mono HB.out.size))
  replace HV := hide (HV.out.call bd)
  replace HU := hide (HU.out.call bd)
  replace HC := hide (HC.out.call bd)
  replace HX := hide (HX.out.call bd)
  replace HD := hide (HD.out.call bd)
  replace HY := hide (HY.out.call bd)
  clear bd
  generalize w11.drew = w12 at *
  refine Reg.takeT (i := 0) (v := ?_) rfl (by kernel_rfl) (by kernel_rfl) (by kernel_rfl) (by kernel_rfl) (fun _ _ _ h => h) (Or.inl ⟨by rfl, ?_⟩) (by assumption) ?_
  rotate_left 1
  focus (intro w hSw; (try dsimp only at hSw); go_simp; (try with_reducible rfl))
  try simp only [List.getElem_toArray, List.getElem_cons_succ, List.getElem_cons_zero, Act.put, List.setIfInBounds_toArray, List.set_cons_zero, List.set_cons_succ]
  refine Reg.takeT (i := 1) (v := ?_) rfl (by kernel_rfl) (by kernel_rfl) (by kernel_rfl) (by kernel_rfl) (fun _ _ _ h => h) (Or.inl ⟨by rfl, ?_⟩) (by assumption) ?_
  rotate_left 1
  focus (intro w hSw; (try dsimp only at hSw); go_simp; (try with_reducible rfl))
  try simp only [List.getElem_toArray, List.getElem_cons_succ, List.getElem_cons_zero, Act.put, List.setIfInBounds_toArray, List.set_cons_zero, List.set_cons_succ]
  refine Reg.oneT (i := 2) rfl (by kernel_rfl) (fun K hK => ?_)
  go_simp
  refine (HTO1.out w12 (RdO.call2 HR.out HB.out) HLIM1.out).mono ?_
  rintro e w13 ⟨g, rfl, hdg, owng, b13⟩
  have HG := hide owng
  have HDG := hide (show c.d = g.d from by rw [HDC.out, hdg])
  clear owng hdg
  replace hHeld := hide (four b13 HX.out.lt HV.out.lt hHeld)
  replace HB := hide (HB.out.trans (b13.mono HB.out.size))
  replace HV := hide (HV.out.call b13)
  replace HU := hide (HU.out.call b13)
  replace HC := hide (HC.out.call b13)
  replace HX := hide (HX.out.call b13)
  replace HD := hide (HD.out.call b13)
  replace HY := hide (HY.out.call b13)
  clear b13
  unfold OV.v
  refine hK.out _ _ hHeld.out ?_
  clear hK K
  try simp only [List.getElem_toArray, List.getElem_cons_succ, List.getElem_cons_zero, Act.put, List.setIfInBounds_toArray, List.set_cons_zero, List.set_cons_succ]
  refine Reg.oneT (i := 3) rfl (by kernel_rfl) (fun K hK => ?_)
  go_simp
  refine (eqObject_same c g w13 HC.out.rd HG.out.rd HDG.out (sum_lim HS1.out).1).mono ?_
  rintro e w14 ⟨rfl, b14⟩
  replace hHeld := hide (four b14 HX.out.lt HV.out.lt hHeld.out)
  replace HB := hide (HB.out.trans (b14.mono HB.out.size))
  replace HV := hide (HV.out.call b14)
  replace HU := hide (HU.out.call b14)
  replace HC := hide (HC.out.call b14)
  replace HX := hide (HX.out.call b14)
  replace HD := hide (HD.out.call b14)
  replace HY := hide (HY.out.call b14)
  clear b14
  refine hK.out _ _ hHeld.out ?_
  clear hK K HG HDG
  try simp only [List.getElem_toArray, List.getElem_cons_succ, List.getElem_cons_zero, Act.put, List.setIfInBounds_toArray, List.set_cons_zero, List.set_cons_succ]
  have hHeld := hHeld.out
  refine Reg.takeT (i := 4) (v := ?_) rfl (by kernel_rfl) (by kernel_rfl) (by kernel_rfl) (by kernel_rfl) (fun _ _ _ h => h) (Or.inl ⟨by rfl, ?_⟩) (by assumption) ?_
  rotate_left 1
  focus (intro w hSw; (try dsimp only at hSw); go_simp; (try with_reducible rfl))
  try simp only [List.getElem_toArray, List.getElem_cons_succ, List.getElem_cons_zero, Act.put, List.setIfInBounds_toArray, List.set_cons_zero, List.set_cons_succ]
  clear hHeld
  refine Reg.doneT (by kernel_rfl) ?_ _
  go_wp2_with fail
  have y0 := HY.out.cell 0
  have y1 := HY.out.cell 1
  simp only [List.getElem?_toArray, List.getElem?_cons_zero, List.getElem?_cons_succ] at y0 y1
  have u0 := HU.out.cell 0
  have u1 := HU.out.cell 1
  simp only [List.getElem?_toArray, List.getElem?_cons_zero, List.getElem?_cons_succ] at u0 u1
  have bd : Below w14.heap.size w14 w14.drew := below_dr (Below.refl _ _)
  have hHeld := four bd HY.out.lt HU.out.lt ⟨y0, y1, u0, u1⟩
  clear y0 y1 u0 u1
  refine Reg.startT (fun W => W.cell? ⟨Y, 0, none⟩ = some (.slice d.A d.ps.length d.c) ∧ W.cell? ⟨Y, 1, none⟩ = some (.slice d.Y d.ys.length d.yc) ∧ W.cell? ⟨U, 0, none⟩ = some (.slice q.A q.ps.length q.c) ∧ W.cell? ⟨U, 1, none⟩ = some (.slice q.Y q.ys.length q.yc)) (fun _ => false) (by kernel_rfl) ?_
  replace HB := hide (HB.out.trans (bd.mono HB.out.size))
  replace HU := hide (HU.out.call bd)
  replace HD := hide (HD.out.call bd)
  replace HY := hide (HY.out.call bd)
  clear bd
  generalize w14.drew = w15 at *
  refine Reg.takeT (i := 0) (v := ?_) rfl (by kernel_rfl) (by kernel_rfl) (by kernel_rfl) (by kernel_rfl) (fun _ _ _ h => h) (Or.inl ⟨by rfl, ?_⟩) (by assumption) ?_
  rotate_left 1
  focus (intro w hSw; (try dsimp only at hSw); go_simp; (try with_reducible rfl))
  try simp only [List.getElem_toArray, List.getElem_cons_succ, List.getElem_cons_zero, Act.put, List.setIfInBounds_toArray, List.set_cons_zero, List.set_cons_succ]
  refine Reg.takeT (i := 1) (v := ?_) rfl (by kernel_rfl) (by kernel_rfl) (by kernel_rfl) (by kernel_rfl) (fun _ _ _ h => h) (Or.inl ⟨by rfl, ?_⟩) (by assumption) ?_
  rotate_left 1
  focus (intro w hSw; (try dsimp only at hSw); go_simp; (try with_reducible rfl))
  try simp only [List.getElem_toArray, List.getElem_cons_succ, List.getElem_cons_zero, Act.put, List.setIfInBounds_toArray, List.set_cons_zero, List.set_cons_succ]
  refine Reg.oneT (i := 2) rfl (by kernel_rfl) (fun K hK => ?_)
  go_simp
  refine (HTO2.out w15 (RdO.call2 HQ.out HB.out) HLIM2.out).mono ?_
  rintro e w16 ⟨g, rfl, hdg, owng, b16⟩
  have HG := hide owng
  have HDG := hide (show d.d = g.d from by rw [HDD.out, hdg])
  clear owng hdg
  replace hHeld := hide (four b16 HY.out.lt HU.out.lt hHeld)
  replace HB := hide (HB.out.trans (b16.mono HB.out.size))
  replace HU := hide (HU.out.call b16)
  replace HD := hide (HD.out.call b16)
  replace HY := hide (HY.out.call b16)
  clear b16
  unfold OV.v
  refine hK.out _ _ hHeld.out ?_
  clear hK K
  try simp only [List.getElem_toArray, List.getElem_cons_succ, List.getElem_cons_zero, Act.put, List.setIfInBounds_toArray, List.set_cons_zero, List.set_cons_succ]
  refine Reg.oneT (i := 3) rfl (by kernel_rfl) (fun K hK => ?_)
  go_simp
  refine (eqObject_same d g w16 HD.out.rd HG.out.rd HDG.out (sum_lim HS2.out).1).mono ?_
  rintro e w17 ⟨rfl, b17⟩
  replace hHeld := hide (four b17 HY.out.lt HU.out.lt hHeld.out)
  replace HB := hide (HB.out.trans (b17.mono HB.out.size))
  replace HU := hide (HU.out.call b17)
  replace HD := hide (HD.out.call b17)
  replace HY := hide (HY.out.call b17)
  clear b17
  refine hK.out _ _ hHeld.out ?_
  clear hK K HG HDG
  try simp only [List.getElem_toArray, List.getElem_cons_succ, List.getElem_cons_zero, Act.put, List.setIfInBounds_toArray, List.set_cons_zero, List.set_cons_succ]
  have hHeld := hHeld.out
  refine Reg.takeT (i := 4) (v := ?_) rfl (by kernel_rfl) (by kernel_rfl) (by kernel_rfl) (by kernel_rfl) (fun _ _ _ h => h) (Or.inl ⟨by rfl, ?_⟩) (by assumption) ?_
  rotate_left 1
  focus (intro w hSw; (try dsimp only at hSw); go_simp; (try with_reducible rfl))
  try simp only [List.getElem_toArray, List.getElem_cons_succ, List.getElem_cons_zero, Act.put, List.setIfInBounds_toArray, List.set_cons_zero, List.set_cons_succ]
  clear hHeld
  refine Reg.doneT (by kernel_rfl) ?_ _
  go_wp2_with fail
  go_ret
  exact ⟨rfl, HB.out⟩
end Go.Proofs.YtmglgjchemecjaaGreat.WFnExactSameObject
