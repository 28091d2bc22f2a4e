/- A region that draws its order, taken operation by operation: each load under a condition of its own, which all that may come before it keep. -/
import Derived.Test.YtmglgjchemecjaaFnClearFixupsM9
set_option linter.unusedSimpArgs false
set_option linter.unusedVariables false
namespace Go.Proofs.Ytmglgjchemecjaa.Rw
set_option maxRecDepth 200000
open Go Reg Rv
section
variable {P : Program} {ops : Array Oper} {Q : Exit → Act → World → Prop} {md : Region.Mode} {Ob : Nat → World → World → Prop}
/-- Whatever order is picked from here on; every operation that is carried out keeps what Ob asks of it. -/
def wpAnyW (P : Program) (md : Region.Mode) (ops : Array Oper) (Q : Exit → Act → World → Prop) (Ob : Nat → World → World → Prop) : Nat → Array Bool → Act → World → Prop
  | 0, listed, a, w => Region.ready md ops listed = [] ∧ Q .normal a w
  | fuel + 1, listed, a, w =>
    (Region.ready md ops listed = [] → Q .normal a w) ∧
    ∀ i ∈ Region.ready md ops listed, wpOp P ops Q i (fun a' w' => Ob i w w' ∧ wpAnyW P md ops Q Ob fuel (listed.setIfInBounds i true) a' w') a w
theorem wpAny_of_W : ∀ (fuel : Nat) (listed : Array Bool) (a : Act) (w : World), wpAnyW P md ops Q Ob fuel listed a w → wpAny P md ops Q fuel listed a w
  | 0, _, _, _, h => h
  | fuel + 1, _, _, _, h => ⟨h.1, fun i hi => wpOp_mono (fun a' w' h' => wpAny_of_W fuel _ a' w' h'.2) (h.2 i hi)⟩
theorem weaker {Ob' : Nat → World → World → Prop} (h : ∀ j w w', Ob' j w w' → Ob j w w') : ∀ (fuel : Nat) (listed : Array Bool) (a : Act) (w : World), wpAnyW P md ops Q Ob' fuel listed a w → wpAnyW P md ops Q Ob fuel listed a w
  | 0, _, _, _, H => H
  | fuel + 1, _, _, _, H => ⟨H.1, fun i hi => wpOp_mono (fun a' w' h' => ⟨h i _ w' h'.1, weaker h fuel _ a' w' h'.2⟩) (H.2 i hi)⟩
/-- What a load adds to what is asked. -/
def Plus (Ob : Nat → World → World → Prop) (C : List Nat) (R : World → Prop) (j : Nat) (w w' : World) : Prop := Ob j w w' ∧ (C.contains j = false → R w → R w')
theorem first {i : Nat} {oi : Oper} {v : Value} {C : List Nat} {R : World → Prop} (hi : ops[i]? = some oi) (hsel : ∀ (j : Nat) (o : Oper) cs b, ops[j]? = some o → o.op ≠ .select cs b)
    (hQ : ∀ c a w, Q (.panic c) (a.put oi.dst v) w → Q (.panic c) a w) (hre : ∀ j w, Ob j w w) :
    ∀ (fuel : Nat) (listed : Array Bool) (a : Act) (w : World),
      (∀ j ∈ C, j ≠ i ∧ listed.getD j true = false ∧ ∃ o, ops[j]? = some o ∧ ∃ e ∈ o.after, Region.binds md e = true ∧ (e.on = i ∨ e.on ∈ C)) →
      (∀ j oj, ops[j]? = some oj → j ≠ i → listed.getD j true = false → (∀ e ∈ oj.after, Region.binds md e = true → e.on ≠ i) → oi.apart ops oj = true) →
      i ∈ Region.ready md ops listed → YieldsIf P ops R oi v a → R w →
      wpAnyW P md ops Q (Plus Ob C R) fuel (listed.setIfInBounds i true) (a.put oi.dst v) w → wpAnyW P md ops Q Ob (fuel + 1) listed a w := by
  intro fuel
  induction fuel with
  | zero =>
    intro listed a w _ _ hr hy hS H
    refine ⟨fun h => (by rw [h] at hr; cases hr), fun j hj => ?_⟩
    by_cases hji : j = i
    · subst hji
      exact hy.wpOp hi hS ⟨hre _ _, weaker (fun _ _ _ h => h.1) _ _ _ _ H⟩
    · have := ready_mono hj hji
      rw [H.1] at this
      cases this
  | succ fuel ih =>
    intro listed a w hC hfree hr hy hS H
    refine ⟨fun h => (by rw [h] at hr; cases hr), fun j hj => ?_⟩
    by_cases hji : j = i
    · subst hji
      exact hy.wpOp hi hS ⟨hre _ _, weaker (fun _ _ _ h => h.1) _ _ _ _ H⟩
    · have h1 := H.2 j (ready_mono hj hji)
      obtain ⟨hjun, oj, hoj, hall⟩ := mem_ready.1 hj
      have hun : ∀ k, listed.getD k true = false → ∀ e ∈ oj.after, Region.binds md e = true → e.on ≠ k := fun k h0 e he hb heq => by
        have h1 := hall e he hb
        rw [heq] at h1
        rcases Nat.lt_or_ge k listed.size with h' | h'
        · simp [h'] at h0 h1
          rw [h0] at h1
          cases h1
        · simp [Array.getElem?_eq_none h'] at h1
      have hnot : ∀ e ∈ oj.after, Region.binds md e = true → e.on ≠ i := hun i (mem_ready.1 hr).1
      have hjC : j ∉ C := fun hjc => by
        obtain ⟨_, _, o, ho, e, he, hb, hor⟩ := hC j hjc
        rw [hoj] at ho
        injection ho with ho
        subst ho
        rcases hor with hor | hor
        · exact hnot e he hb hor
        · exact hun _ (hC _ hor).2.1 e he hb rfl
      have h2 := wpOp_putIf hoj (hfree j oj hoj hji hjun hnot) (fun cs b => hsel i oi cs b hi) (fun cs b => hsel j oj cs b hoj) hQ hy h1
      have hfree' : ∀ k ok, ops[k]? = some ok → k ≠ i → (listed.setIfInBounds j true).getD k true = false →
          (∀ e ∈ ok.after, Region.binds md e = true → e.on ≠ i) → oi.apart ops ok = true := fun k ok hk hki hun hno => by
        refine hfree k ok hk hki ?_ hno
        by_cases hjk : j = k
        · subst hjk
          exact hjun
        · rw [getD_set_ne true hjk] at hun
          exact hun
      have hC' : ∀ k ∈ C, k ≠ i ∧ (listed.setIfInBounds j true).getD k true = false ∧ ∃ o, ops[k]? = some o ∧ ∃ e ∈ o.after, Region.binds md e = true ∧ (e.on = i ∨ e.on ∈ C) := fun k hk => by
        obtain ⟨a1, a2, a3⟩ := hC k hk
        refine ⟨a1, ?_, a3⟩
        have hjk : j ≠ k := by
          rintro rfl
          exact hjC hk
        rw [getD_set_ne true hjk]
        exact a2
      have hjC2 : C.contains j = false := by
        cases h : C.contains j
        · rfl
        · exact absurd (List.contains_iff_mem.1 h) hjC
      refine wpOp_mono (fun a' w' h3 => ⟨h3.2.1.1, ih (listed.setIfInBounds j true) a' w' hC' hfree' (ready_mono hr (Ne.symm hji)) h3.1 (h3.2.1.2 hjC2 hS) ?_⟩) h2
      rw [Array.setIfInBounds_comm _ _ hji]
      exact h3.2.2
/-- A load (what reads the world): take it first, under R. -/
theorem take {i : Nat} {oi : Oper} {v : Value} {fuel : Nat} {listed : Array Bool} {a : Act} {w : World} (R : World → Prop) (hi : ops[i]? = some oi)
    (hs : Region.noSelect ops = true) (hf : Region.free md ops listed i = true) (hr : (Region.ready md ops listed).contains i = true) (hT : closedB md ops listed i (cl md ops listed i 4) (fun _ => false) = true)
    (hQ : ∀ c a w, Q (.panic c) (a.put oi.dst v) w → Q (.panic c) a w) (hre : ∀ j w, Ob j w w) (hy : YieldsIf P ops R oi v a) (hS : R w)
    (h : wpAnyW P md ops Q (Plus Ob (cl md ops listed i 4) R) fuel (listed.setIfInBounds i true) (a.put oi.dst v) w) : wpAnyW P md ops Q Ob (fuel + 1) listed a w :=
  first (R := R) hi (Region.noSelect_spec hs) hQ hre fuel listed a w (closed_spec hT).1 (Region.free_spec hi hf) (by simpa using hr) hy hS h
/-- What only computes: take it first. -/
theorem comp {i : Nat} {oi : Oper} {v : Value} {fuel : Nat} {listed : Array Bool} {a : Act} {w : World} (hi : ops[i]? = some oi)
    (hs : Region.noSelect ops = true) (hf : Region.free md ops listed i = true) (hr : (Region.ready md ops listed).contains i = true)
    (hQ : ∀ c a w, Q (.panic c) (a.put oi.dst v) w → Q (.panic c) a w) (hre : ∀ j w, Ob j w w) (hy : YieldsIf P ops (fun _ => True) oi v a)
    (h : wpAnyW P md ops Q Ob fuel (listed.setIfInBounds i true) (a.put oi.dst v) w) : wpAnyW P md ops Q Ob (fuel + 1) listed a w :=
  first (R := fun _ => True) (C := []) hi (Region.noSelect_spec hs) hQ hre fuel listed a w (fun _ h => by cases h) (Region.free_spec hi hf) (by simpa using hr) hy trivial (weaker (Ob' := Ob) (fun _ _ _ h => ⟨h, fun _ _ => trivial⟩) _ _ _ _ h)
/-- One alone may come up. -/
theorem one {i : Nat} {o : Oper} {fuel : Nat} {listed : Array Bool} {a : Act} {w : World} (ho : ops[i]? = some o) (hr : Region.ready md ops listed = [i])
    (h : ∀ K : Act → World → Prop, Shut (∀ a w', Ob i w w' → wpAnyW P md ops Q Ob fuel (listed.setIfInBounds i true) a w' → K a w') → if Region.wanted o (yielded ops a.tmps) = true then Oper.wp P o a w K Q else K (a.put o.dst undef) w) :
    wpAnyW P md ops Q Ob (fuel + 1) listed a w :=
  ⟨fun h0 => (by rw [hr] at h0; cases h0), fun j hj => by
    rw [hr] at hj
    simp only [List.mem_singleton] at hj
    subst hj
    exact wpOp_step ho (fun K' hK => h K' (fun a w hS hW => hK a w ⟨hS, hW⟩))⟩
theorem two {i j : Nat} {oi oj : Oper} {fuel : Nat} {listed : Array Bool} {a : Act} {w : World} (hoi : ops[i]? = some oi) (hoj : ops[j]? = some oj) (hr : Region.ready md ops listed = [i, j])
    (h : ∀ K : Act → World → Prop, Shut (∀ a w', Ob i w w' → wpAnyW P md ops Q Ob fuel (listed.setIfInBounds i true) a w' → K a w') → if Region.wanted oi (yielded ops a.tmps) = true then Oper.wp P oi a w K Q else K (a.put oi.dst undef) w)
    (h' : ∀ K : Act → World → Prop, Shut (∀ a w', Ob j w w' → wpAnyW P md ops Q Ob fuel (listed.setIfInBounds j true) a w' → K a w') → if Region.wanted oj (yielded ops a.tmps) = true then Oper.wp P oj a w K Q else K (a.put oj.dst undef) w) :
    wpAnyW P md ops Q Ob (fuel + 1) listed a w :=
  ⟨fun h0 => (by rw [hr] at h0; cases h0), fun k hk => by
    rw [hr] at hk
    simp only [List.mem_cons, List.not_mem_nil, or_false] at hk
    rcases hk with rfl | rfl
    · exact wpOp_step hoi (fun K' hK => h K' (fun a w hS hW => hK a w ⟨hS, hW⟩))
    · exact wpOp_step hoj (fun K' hK => h' K' (fun a w hS hW => hK a w ⟨hS, hW⟩))⟩
theorem three {i j l : Nat} {oi oj ol : Oper} {fuel : Nat} {listed : Array Bool} {a : Act} {w : World} (hoi : ops[i]? = some oi) (hoj : ops[j]? = some oj) (hol : ops[l]? = some ol) (hr : Region.ready md ops listed = [i, j, l])
    (h : ∀ K : Act → World → Prop, Shut (∀ a w', Ob i w w' → wpAnyW P md ops Q Ob fuel (listed.setIfInBounds i true) a w' → K a w') → if Region.wanted oi (yielded ops a.tmps) = true then Oper.wp P oi a w K Q else K (a.put oi.dst undef) w)
    (h' : ∀ K : Act → World → Prop, Shut (∀ a w', Ob j w w' → wpAnyW P md ops Q Ob fuel (listed.setIfInBounds j true) a w' → K a w') → if Region.wanted oj (yielded ops a.tmps) = true then Oper.wp P oj a w K Q else K (a.put oj.dst undef) w)
    (h'' : ∀ K : Act → World → Prop, Shut (∀ a w', Ob l w w' → wpAnyW P md ops Q Ob fuel (listed.setIfInBounds l true) a w' → K a w') → if Region.wanted ol (yielded ops a.tmps) = true then Oper.wp P ol a w K Q else K (a.put ol.dst undef) w) :
    wpAnyW P md ops Q Ob (fuel + 1) listed a w :=
  ⟨fun h0 => (by rw [hr] at h0; cases h0), fun k hk => by
    rw [hr] at hk
    simp only [List.mem_cons, List.not_mem_nil, or_false] at hk
    rcases hk with rfl | rfl | rfl
    · exact wpOp_step hoi (fun K' hK => h K' (fun a w hS hW => hK a w ⟨hS, hW⟩))
    · exact wpOp_step hoj (fun K' hK => h' K' (fun a w hS hW => hK a w ⟨hS, hW⟩))
    · exact wpOp_step hol (fun K' hK => h'' K' (fun a w hS hW => hK a w ⟨hS, hW⟩))⟩
theorem done {listed : Array Bool} {a : Act} {w : World} (hr : Region.ready md ops listed = []) (h : Q .normal a w) : ∀ fuel, wpAnyW P md ops Q Ob fuel listed a w
  | 0 => ⟨hr, h⟩
  | _ + 1 => ⟨fun _ => h, by rw [hr]; simp⟩
/-- What waits no more for a load asks nothing for it. -/
theorem relax {C : List Nat} {R : World → Prop} : ∀ {fuel : Nat} {listed : Array Bool} {a : Act} {w : World}, ((List.range ops.size).all fun j => listed.getD j true || C.contains j) = true → wpAnyW P md ops Q Ob fuel listed a w → wpAnyW P md ops Q (Plus Ob C R) fuel listed a w
  | 0, _, _, _, _, h => h
  | fuel + 1, listed, a, w, hc, h => ⟨h.1, fun i hi => by
    obtain ⟨hun, o, ho, _⟩ := mem_ready.1 hi
    have hil : i < ops.size := (Array.getElem?_eq_some_iff.1 ho).1
    have hC : C.contains i = true := by
      have := List.all_eq_true.1 hc i (List.mem_range.2 hil)
      rw [hun, Bool.false_or] at this
      exact this
    refine wpOp_mono (fun a' w' h' => ⟨⟨h'.1, fun hF => (by rw [hC] at hF; cases hF)⟩, relax ?_ h'.2⟩) (h.2 i hi)
    refine List.all_eq_true.2 fun j hj => ?_
    have := List.all_eq_true.1 hc j hj
    rcases Bool.or_eq_true_iff.1 this with h1 | h1
    · by_cases hij : i = j
      · subst hij
        rw [hun] at h1
        cases h1
      · rw [getD_set_ne true hij, h1]
        rfl
    · rw [h1, Bool.or_true]⟩
theorem canon {listed listed' : Array Bool} {fuel : Nat} {a : Act} {w : World} (h : listed = listed') (H : wpAnyW P md ops Q Ob fuel listed' a w) : wpAnyW P md ops Q Ob fuel listed a w := h ▸ H
/-- Nothing is asked at first. -/
def Ob0 (_ : Nat) (_ _ : World) : Prop := True
theorem re0 : ∀ j w, Ob0 j w w := fun _ _ => trivial
theorem rePlus {C : List Nat} {R : World → Prop} (h : ∀ j w, Ob j w w) : ∀ j w, Plus Ob C R j w w := fun j w => ⟨h j w, fun _ h => h⟩
theorem start {id : Nat} {a : Act} {w : World} (hm : P.follows .mixedOrders = true)
    (h : wpAnyW P .any ops Q Ob0 ops.size (Array.replicate ops.size false) a w.drew) : (Code.region id ops true).wp P Q a w :=
  wp_region_any hm (wpAny_of_W _ _ _ _ h)
end
theorem out_of {C : List Nat} {j : Nat} {p q : Prop} (h : C.contains j = true) : C.contains j = false → p → q := fun h' => by rw [h] at h'; cases h'
open Go.ChangeAt Go.RowKit Go.ChangeShapes Go.WideShapes
/-- A cell that is there stays over a call. -/
theorem cell_below {w w' : World} {p : Addr} {u : Value} (hb : Below w.heap.size w w') (h : w.cell? p = some u) : w'.cell? p = some u := by
  have hp : p.block < w.heap.size := by
    rcases Nat.lt_or_ge p.block w.heap.size with h' | h'
    · exact h'
    · exfalso
      unfold World.cell? at h
      rw [Array.getElem?_eq_none h'] at h
      cases h
  exact (hb.cell hp).trans h
theorem cell_grown {w w' : World} {p : Addr} {u : Value} {R : Nat} (g : w.grownBy w' (some R)) (hne : p.block ≠ R) (h : w.cell? p = some u) : w'.cell? p = some u := by
  have hp : p.block < w.heap.size := by
    rcases Nat.lt_or_ge p.block w.heap.size with h' | h'
    · exact h'
    · exfalso
      unfold World.cell? at h
      rw [Array.getElem?_eq_none h'] at h
      cases h
  exact (World.cell?_of_block (g.block p.block hp (fun e => hne (by injection e)))).trans h
/-- What follows a point that several orders come to is proved once. -/
theorem tail7 {α1 α2 α3 α4 α5 α6 α7 : Type} {F G : α1 → α2 → α3 → α4 → α5 → α6 → α7 → Prop} {A : Prop} (main : Shut (∀ x1 x2 x3 x4 x5 x6 x7, F x1 x2 x3 x4 x5 x6 x7 → G x1 x2 x3 x4 x5 x6 x7) → A) (tail : ∀ x1 x2 x3 x4 x5 x6 x7, F x1 x2 x3 x4 x5 x6 x7 → G x1 x2 x3 x4 x5 x6 x7) : A := main tail
end Go.Proofs.Ytmglgjchemecjaa.Rw
/- The program's WarningsOf. -/
namespace Go.Proofs.Ytmglgjchemecjaa.CWarn
set_option maxRecDepth 200000
open Go.ChangeShapes Go.WideShapes Go.ChangeAt Go.RowKit Kit CCode CFixups CSymbols PObj BObj PValid CSecValid CUses CCovers CObjValid PWarn
set_option maxHeartbeats 4000000 in
theorem warningsOf_any (o : OV) (w : World) (hr : RdO w w.heap.size o) (hf : Fit o) (hcz : ∀ p ∈ o.ps, p.zs.length ≤ p.c) :
    Calls Try.prog 11 #[.agg #[.slice o.A o.ps.length o.c, .slice o.Y o.ys.length o.yc]] w (RetW (warns o.d) w) := by
  obtain ⟨i0, hi, hz0, hz1, hz2⟩ := info_parts CWarnings.info
  have HI := hide (And.intro hi (And.intro hz0 (And.intro hz1 hz2)))
  clear hi hz0 hz1 hz2
  obtain ⟨A, c, ps, Y, yc, ys⟩ := o
  have HF := hide hf
  obtain ⟨np, ny, cy, hp, hy⟩ := hf
  simp only at np ny cy hp hy hcz ⊢
  have HR := hide hr
  have HL := hide (And.intro hp (And.intro hy hcz))
  clear hr hp hy hcz
  have B0 : Below w.heap.size w ((w.alloc (.cells #[.slice A ps.length c, .slice Y ys.length yc] 26)).alloc (.cells #[] 31)) := (by repeat (first | exact Below.refl _ _ | with_reducible assumption | (refine Below.drew ?_) | (refine Below.drewN ?_ _) | (refine Below.alloc ?_ (by simp; try omega) _) | (refine Below.setCell ?_ (by simp; try omega) _)))
  have HX0 := hide ((Box.new w 26 #[.slice A ps.length c, .slice Y ys.length yc]).alloc (.cells #[] 31))
  have HB0 := hide B0
  clear B0
  go_enter Try.func11, Try.ntmps11
  go_wp2_with fail
  generalize (w.alloc (.cells #[.slice A ps.length c, .slice Y ys.length yc] 26)).alloc (.cells #[] 31) = w0 at *
  refine (objectValid_any ⟨A, c, ps, Y, yc, ys⟩ w0 ((HR.out.below HB0.out).more HB0.out.size) HF.out).mono ?_
  rintro e w1 ⟨rfl, b1⟩
  have HX := hide (HX0.out.call b1)
  have HB := hide (HB0.out.trans (b1.mono HB0.out.size))
  clear b1 HX0 HB0
  cases hok : objOk (OV.d ⟨A, c, ps, Y, yc, ys⟩)
  · have HV := hide (show warns (OV.d ⟨A, c, ps, Y, yc, ys⟩) = [] by rw [warns, hok]; rfl)
    go_wp2_with fail
    go_ret
    rw [HV.out]
    exact ⟨some ⟨w.heap.size + 1, 0, none⟩, 0, rfl, Row.empty _ _ _ _ _, HB.out⟩
  have HV := hide (show warns (OV.d ⟨A, c, ps, Y, yc, ys⟩) = list (OV.d ⟨A, c, ps, Y, yc, ys⟩) by rw [warns, hok]; rfl)
  obtain ⟨b1, b2, hin⟩ := obj_facts hok
  simp only [OV.d, List.length_map] at b1 b2
  have HIN := hide (show ∀ p ∈ ps, InB p.zs p.fs from fun p hp => hin p.d (List.mem_map_of_mem hp))
  clear hin hok
  have hx := HX.out
  have x0 := hx.cell 0
  have x1 := hx.cell 1
  simp only [List.getElem?_toArray, List.getElem?_cons_zero, List.getElem?_cons_succ] at x0 x1
  clear hx
  go_wp2_with fail
  clear x0 x1
  have hL1 : ∀ n, (upto (at1 ⟨ps.map SV.d, ys⟩) n).length ≤ n := upto_len (at1_len _)
  have hL2 : ∀ n, (upto (at2 ⟨ps.map SV.d, ys⟩) n).length ≤ n := upto_len (at2_len _)
  have hL3 : ∀ n, (upto (at3 ⟨ps.map SV.d, ys⟩) n).length ≤ n := upto_len (at3_len _)
  have HL1 := hide hL1
  have HL2 := hide hL2
  have HL3 := hide hL3
  clear hL1 hL2 hL3
  go_loopw [3, 18] (fun sl i wi => ∃ (k : Nat) (A1 : Option Addr) (c1 : Nat) (L : List WD), k ≤ ys.length ∧ i = .int .i64 k ∧ sl = .slice A1 L.length c1 ∧ L = upto (at1 ⟨ps.map SV.d, ys⟩) k ∧ Row wi w.heap.size 31 2 A1 L.length c1 (cellsOf CWarnings.warningC L) ∧ Box wi w.heap.size 26 #[.slice A ps.length c, .slice Y ys.length yc] ∧ Below w.heap.size w wi) (fun _ i _ => ys.length - (intOf i).toNat)
  case atStart => exact ⟨0, some ⟨w.heap.size + 1, 0, none⟩, 0, [], Nat.zero_le _, rfl, rfl, rfl, Row.empty _ _ _ _ _, HX.out, HB.out⟩
  case round =>
    clear HX HB
    obtain ⟨k, A1, c1, L, hk, rfl, rfl, hLe, ho, hx, hb⟩ := hrel
    have hLl : L.length ≤ 28 := by have := HL1.out k; rw [hLe]; omega
    have HLE := hide hLe
    have HO := hide ho
    have HX := hide hx
    have HB := hide hb
    have x0 := hx.cell 0
    have x1 := hx.cell 1
    simp only [List.getElem?_toArray, List.getElem?_cons_zero, List.getElem?_cons_succ] at x0 x1
    have hxl := hx.lt
    by_cases hlt : k < ys.length
    · obtain ⟨b, off, hY, hbg, hc⟩ := (HR.out.2.below hb).row symbolC_len (by decide) hlt
      have hc0 := hc 0 _ rfl
      have hc1 := hc 1 _ rfl
      have hc2 := hc 2 _ rfl
      have hc3 := hc 3 _ rfl
      simp only [Nat.add_zero] at hc0
      have HA := hide (show at1 ⟨ps.map SV.d, ys⟩ k = if ys[k].2.2.1 = -1 ∧ used (ps.map SV.d) k = false then [((1 : Int), (k : Int))] else [] by unfold at1; rw [getD_at hlt])
      have HU := hide (show upto (at1 ⟨ps.map SV.d, ys⟩) (k + 1) = L ++ at1 ⟨ps.map SV.d, ys⟩ k by rw [upto_succ, hLe])
      clear hLe ho hx hb hc
      subst hY
      generalize ys[k] = z at *
      obtain ⟨zn, zb, zw, zv⟩ := z
      simp only at hc0 hc1 hc2 hc3 HA
      by_cases h1 : zw = -1
      · have e1 : (zw == -1) = true := beq_iff_eq.2 h1
        have H1 := hide h1
        clear h1
        go_wp2_with fail
        have HX1 := hide (HX.out.alloc (.cells #[.string zn, .int .i64 zb, .int .i64 zw, .int .i64 zv] 69))
        have HB1 := hide (HB.out.alloc HB.out.size (.cells #[.string zn, .int .i64 zb, .int .i64 zw, .int .i64 zv] 69))
        have HO1 := hide (HO.out.alloc (.cells #[.string zn, .int .i64 zb, .int .i64 zw, .int .i64 zv] 69))
        clear HX HB HO hc0 hc1 hc2 hc3 x0 x1
        generalize wr.alloc (.cells #[.string zn, .int .i64 zb, .int .i64 zw, .int .i64 zv] 69) = wa at *
        refine (uses_any ⟨A, c, ps, some ⟨b, off, none⟩, yc, ys⟩ k wa ((HR.out.below HB1.out).more HB1.out.size) (Nat.le_trans np (by decide)) (fun p hp => Nat.le_trans (HL.out.1 p hp).2.2 (by decide))).mono ?_
        rintro e w2 ⟨rfl, bb⟩
        have HX := hide (HX1.out.call bb)
        have HB := hide (HB1.out.trans (bb.mono HB1.out.size))
        have HO := hide (HO1.out.call bb)
        clear bb HX1 HB1 HO1
        simp only [OV.d]
        cases hu : used (ps.map SV.d) k
        · rw [hu, if_pos ⟨H1.out, rfl⟩] at HA
          clear H1 e1 hu
          go_wp2_with (at_builtin; refine wpList_app (w2.alloc (.cells #[.int .i64 1, .int .i64 k] 31)) rfl (.tmp 32) (.tmp 35) 28 rfl 31 i0 (.agg #[.int .i64 0, .int .i64 0]) 2 16 Try.underlying28 HI.out.1 HI.out.2.1 HI.out.2.2.1 HI.out.2.2.2 rfl (by decide) w.heap.size A1 L.length c1 (cellsOf CWarnings.warningC L) rfl (HO.out.alloc _) ?hb (some ⟨w2.heap.size, 0, none⟩) 1 1 [.int .i64 1, .int .i64 k] rfl (rd_lit w2 #[.int .i64 1, .int .i64 k] 31 _ rfl) rfl (fun h => by cases h) ?o1 ?n1 ?n2 ?_)
          case hb => exact (HB.out.alloc HB.out.size _).size
          case o1 => intro u hu; simp only [List.mem_cons, List.not_mem_nil, or_false] at hu; rcases hu with rfl | rfl <;> rfl
          case n1 => unfold maxLen; omega
          case n2 => omega
          intro A3 n3 c3 w3 hn3 o3 g3 k3
          subst hn3
          have HB3 := hide (show Below w.heap.size w w3 from (HB.out.alloc HB.out.size _).grown g3 (HB.out.alloc HB.out.size _).size (fun j hj => (HO.out.lt j hj).1))
          have HX3 := hide ((HX.out.alloc (.cells #[.int .i64 1, .int .i64 k] 31)).grown g3 (fun j hj => (HO.out.alloc (.cells #[.int .i64 1, .int .i64 k] 31)).box (HX.out.alloc _) (by decide) j hj))
          have HO3 := hide (show Row w3 w.heap.size 31 2 A3 (L ++ [((1 : Int), (k : Int))]).length c3 (cellsOf CWarnings.warningC (L ++ [((1 : Int), (k : Int))])) by rw [List.length_append]; simpa [cellsOf, CWarnings.warningC] using o3)
          clear o3 g3 k3 HO HB HX
          go_wp2_with fail
          refine ⟨⟨k + 1, A3, c3, L ++ [(1, (k : Int))], by omega, by go_num, by simp, by rw [HU.out, HA.out], HO3.out, HX3.out, HB3.out⟩, by simp [intOf]; omega⟩
        · rw [hu, if_neg (fun h => by cases h.2)] at HA
          clear H1 e1 hu
          go_wp2_with fail
          refine ⟨⟨k + 1, A1, c1, L, by omega, by go_num, rfl, by rw [HU.out, HA.out, List.append_nil], HO.out, HX.out, HB.out⟩, by simp [intOf]; omega⟩
      · have e1 : (zw == -1) = false := beq_eq_false_iff_ne.2 h1
        rw [if_neg (fun h => h1 h.1)] at HA
        clear h1
        go_wp2_with fail
        refine ⟨⟨k + 1, A1, c1, L, by omega, by go_num, rfl, by rw [HU.out, HA.out, List.append_nil], HO.out.alloc _, HX.out.alloc _, HB.out.alloc HB.out.size _⟩, by simp [intOf]; omega⟩
    · have e : k = ys.length := by omega
      subst e
      clear ho hx hb
      go_wp2_with fail
      clear x0 x1
      have HP := hide HLE.out
      generalize hP : L = P at *
      have hPl : P.length ≤ 12 := by have := HL1.out ys.length; rw [hLe]; omega
      clear hLe HLE hLl hP
      go_loopw [3, 41] (fun sl i wi => ∃ (k : Nat) (A1 : Option Addr) (c1 : Nat) (L : List WD), k ≤ ps.length ∧ i = .int .i64 k ∧ sl = .slice A1 L.length c1 ∧ L = P ++ upto (at2 ⟨ps.map SV.d, ys⟩) k ∧ Row wi w.heap.size 31 2 A1 L.length c1 (cellsOf CWarnings.warningC L) ∧ Box wi w.heap.size 26 #[.slice A ps.length c, .slice Y ys.length yc] ∧ Below w.heap.size w wi) (fun _ i _ => ps.length - (intOf i).toNat)
      case atStart => exact ⟨0, A1, c1, P, Nat.zero_le _, rfl, rfl, by simp [upto], HO.out, HX.out, HB.out⟩
      case round =>
        clear HX HB HO
        obtain ⟨k, A1, c1, L, hk, rfl, rfl, hLe, ho, hx, hb⟩ := hrel
        have hLl : L.length ≤ 28 := by have := HL2.out k; rw [hLe, List.length_append]; omega
        have HLE := hide hLe
        have HO := hide ho
        have HX := hide hx
        have HB := hide hb
        have x0 := hx.cell 0
        have x1 := hx.cell 1
        simp only [List.getElem?_toArray, List.getElem?_cons_zero, List.getElem?_cons_succ] at x0 x1
        have hxl := hx.lt
        by_cases hlt : k < ps.length
        · obtain ⟨b, off, hA, hbg, hc⟩ := (HR.out.1.1.below hb).row secC_len (by decide) hlt
          have hc0 := hc 0 _ rfl
          have hc1 := hc 1 _ rfl
          have hc2 := hc 2 _ rfl
          have hc3 := hc 3 _ rfl
          have hc4 := hc 4 _ rfl
          have hc5 := hc 5 _ rfl
          simp only [Nat.add_zero] at hc0
          have HA := hide (show at2 ⟨ps.map SV.d, ys⟩ k = if secSize ps[k].d = 0 then [((2 : Int), (k : Int))] else [] by unfold at2; rw [getS hlt])
          have HU := hide (show P ++ upto (at2 ⟨ps.map SV.d, ys⟩) (k + 1) = L ++ at2 ⟨ps.map SV.d, ys⟩ k by rw [upto_succ, hLe, List.append_assoc])
          have HM := hide (HL.out.1 _ (List.getElem_mem hlt))
          have HCZ := hide (HL.out.2.2 _ (List.getElem_mem hlt))
          have HRS := hide (HR.out.1.2 _ (List.getElem_mem hlt))
          have HINP := hide (HIN.out _ (List.getElem_mem hlt))
          clear hLe ho hx hb hc
          subst hA
          generalize ps[k] = p at *
          go_wp2_with fail
          have HX1 := hide (HX.out.alloc (.cells #[.string p.nm, .int .i64 p.kd, .int .i64 p.al, .slice p.A p.zs.length p.c, .int .i64 p.sz, .slice p.F p.fs.length p.fc] 73))
          have HB1 := hide (HB.out.alloc HB.out.size (.cells #[.string p.nm, .int .i64 p.kd, .int .i64 p.al, .slice p.A p.zs.length p.c, .int .i64 p.sz, .slice p.F p.fs.length p.fc] 73))
          have HO1 := hide (HO.out.alloc (.cells #[.string p.nm, .int .i64 p.kd, .int .i64 p.al, .slice p.A p.zs.length p.c, .int .i64 p.sz, .slice p.F p.fs.length p.fc] 73))
          clear HX HB HO hc0 hc1 hc2 hc3 hc4 hc5 x0 x1
          generalize wr.alloc (.cells #[.string p.nm, .int .i64 p.kd, .int .i64 p.al, .slice p.A p.zs.length p.c, .int .i64 p.sz, .slice p.F p.fs.length p.fc] 73) = wa at *
          refine (sectionSize_any p wa (Nat.le_trans HM.out.2.1 (by decide))).mono ?_
          rintro e w2 ⟨rfl, bb⟩
          have HX := hide (HX1.out.call bb)
          have HB := hide (HB1.out.trans (bb.mono HB1.out.size))
          have HO := hide (HO1.out.call bb)
          clear bb HX1 HB1 HO1
          generalize secSize p.d = q at *
          by_cases h1 : q = 0
          · have e1 : (q == 0) = true := beq_iff_eq.2 h1
            rw [if_pos h1] at HA
            clear h1
            go_wp2_with (at_builtin; refine wpList_app (w2.alloc (.cells #[.int .i64 2, .int .i64 k] 31)) rfl (.tmp 49) (.tmp 52) 28 rfl 31 i0 (.agg #[.int .i64 0, .int .i64 0]) 2 16 Try.underlying28 HI.out.1 HI.out.2.1 HI.out.2.2.1 HI.out.2.2.2 rfl (by decide) w.heap.size A1 L.length c1 (cellsOf CWarnings.warningC L) rfl (HO.out.alloc _) ?hb (some ⟨w2.heap.size, 0, none⟩) 1 1 [.int .i64 2, .int .i64 k] rfl (rd_lit w2 #[.int .i64 2, .int .i64 k] 31 _ rfl) rfl (fun h => by cases h) ?o1 ?n1 ?n2 ?_)
            case hb => exact (HB.out.alloc HB.out.size _).size
            case o1 => intro u hu; simp only [List.mem_cons, List.not_mem_nil, or_false] at hu; rcases hu with rfl | rfl <;> rfl
            case n1 => unfold maxLen; omega
            case n2 => omega
            intro A3 n3 c3 w3 hn3 o3 g3 k3
            subst hn3
            have HB3 := hide (show Below w.heap.size w w3 from (HB.out.alloc HB.out.size _).grown g3 (HB.out.alloc HB.out.size _).size (fun j hj => (HO.out.lt j hj).1))
            have HX3 := hide ((HX.out.alloc (.cells #[.int .i64 2, .int .i64 k] 31)).grown g3 (fun j hj => (HO.out.alloc (.cells #[.int .i64 2, .int .i64 k] 31)).box (HX.out.alloc _) (by decide) j hj))
            have HO3 := hide (show Row w3 w.heap.size 31 2 A3 (L ++ [((2 : Int), (k : Int))]).length c3 (cellsOf CWarnings.warningC (L ++ [((2 : Int), (k : Int))])) by rw [List.length_append]; simpa [cellsOf, CWarnings.warningC] using o3)
            clear o3 g3 k3 HO HB HX
            go_wp2_with fail
            refine ⟨⟨k + 1, A3, c3, L ++ [(2, (k : Int))], by omega, by go_num, by simp, by rw [HU.out, HA.out], HO3.out, HX3.out, HB3.out⟩, by simp [intOf]; omega⟩
          · have e1 : (q == 0) = false := beq_eq_false_iff_ne.2 h1
            rw [if_neg h1] at HA
            clear h1
            go_wp2_with fail
            refine ⟨⟨k + 1, A1, c1, L, by omega, by go_num, rfl, by rw [HU.out, HA.out, List.append_nil], HO.out, HX.out, HB.out⟩, by simp [intOf]; omega⟩
        · have e : k = ps.length := by omega
          subst e
          clear ho hx hb
          go_wp2_with fail
          clear x0 x1
          have HP2 := hide (show L = upto (at1 ⟨ps.map SV.d, ys⟩) ys.length ++ upto (at2 ⟨ps.map SV.d, ys⟩) ps.length by rw [HLE.out, HP.out])
          have hPl2 : L.length ≤ 20 := by have := HL2.out ps.length; rw [HLE.out, List.length_append]; omega
          clear HLE hLl HP hPl hLe
          generalize hP : L = P2 at *
          clear hP
          go_loopw [3, 58] (fun sl i wi => ∃ (k : Nat) (A1 : Option Addr) (c1 : Nat) (L : List WD), k ≤ ps.length ∧ i = .int .i64 k ∧ sl = .slice A1 L.length c1 ∧ L = P2 ++ upto (at3 ⟨ps.map SV.d, ys⟩) k ∧ Row wi w.heap.size 31 2 A1 L.length c1 (cellsOf CWarnings.warningC L) ∧ Box wi w.heap.size 26 #[.slice A ps.length c, .slice Y ys.length yc] ∧ Below w.heap.size w wi) (fun _ i _ => ps.length - (intOf i).toNat)
          case atStart => exact ⟨0, A1, c1, P2, Nat.zero_le _, rfl, rfl, by simp [upto], HO.out, HX.out, HB.out⟩
          case round =>
            clear HX HB HO
            obtain ⟨k, A1, c1, L, hk, rfl, rfl, hLe, ho, hx, hb⟩ := hrel
            have hLl : L.length ≤ 28 := by have := HL3.out k; rw [hLe, List.length_append]; omega
            have HLE := hide hLe
            have HO := hide ho
            have HX := hide hx
            have HB := hide hb
            have x0 := hx.cell 0
            have x1 := hx.cell 1
            simp only [List.getElem?_toArray, List.getElem?_cons_zero, List.getElem?_cons_succ] at x0 x1
            have hxl := hx.lt
            by_cases hlt : k < ps.length
            · obtain ⟨b, off, hA, hbg, hc⟩ := (HR.out.1.1.below hb).row secC_len (by decide) hlt
              have hc0 := hc 0 _ rfl
              have hc1 := hc 1 _ rfl
              have hc2 := hc 2 _ rfl
              have hc3 := hc 3 _ rfl
              have hc4 := hc 4 _ rfl
              have hc5 := hc 5 _ rfl
              simp only [Nat.add_zero] at hc0
              have HA := hide (show at3 ⟨ps.map SV.d, ys⟩ k = if coverB ps[k].d = true then [((3 : Int), (k : Int))] else [] by unfold at3; rw [getS hlt])
              have HU := hide (show P2 ++ upto (at3 ⟨ps.map SV.d, ys⟩) (k + 1) = L ++ at3 ⟨ps.map SV.d, ys⟩ k by rw [upto_succ, hLe, List.append_assoc])
              have HM := hide (HL.out.1 _ (List.getElem_mem hlt))
              have HCZ := hide (HL.out.2.2 _ (List.getElem_mem hlt))
              have HRS := hide (HR.out.1.2 _ (List.getElem_mem hlt))
              have HINP := hide (HIN.out _ (List.getElem_mem hlt))
              clear hLe ho hx hb hc
              subst hA
              generalize ps[k] = p at *
              go_wp2_with fail
              have HX1 := hide (HX.out.alloc (.cells #[.string p.nm, .int .i64 p.kd, .int .i64 p.al, .slice p.A p.zs.length p.c, .int .i64 p.sz, .slice p.F p.fs.length p.fc] 73))
              have HB1 := hide (HB.out.alloc HB.out.size (.cells #[.string p.nm, .int .i64 p.kd, .int .i64 p.al, .slice p.A p.zs.length p.c, .int .i64 p.sz, .slice p.F p.fs.length p.fc] 73))
              have HO1 := hide (HO.out.alloc (.cells #[.string p.nm, .int .i64 p.kd, .int .i64 p.al, .slice p.A p.zs.length p.c, .int .i64 p.sz, .slice p.F p.fs.length p.fc] 73))
              clear HX HB HO hc0 hc1 hc2 hc3 hc4 hc5 x0 x1
              generalize wr.alloc (.cells #[.string p.nm, .int .i64 p.kd, .int .i64 p.al, .slice p.A p.zs.length p.c, .int .i64 p.sz, .slice p.F p.fs.length p.fc] 73) = wa at *
              refine (covers_any p wa ((HRS.out.below HB1.out).more HB1.out.size) HM.out.2.1 HM.out.2.2 HCZ.out HINP.out).mono ?_
              rintro e w2 ⟨rfl, bb⟩
              have HX := hide (HX1.out.call bb)
              have HB := hide (HB1.out.trans (bb.mono HB1.out.size))
              have HO := hide (HO1.out.call bb)
              clear bb HX1 HB1 HO1
              cases h1 : coverB p.d
              · rw [h1, if_neg (by decide)] at HA
                clear h1
                go_wp2_with fail
                refine ⟨⟨k + 1, A1, c1, L, by omega, by go_num, rfl, by rw [HU.out, HA.out, List.append_nil], HO.out, HX.out, HB.out⟩, by simp [intOf]; omega⟩
              · rw [h1, if_pos rfl] at HA
                clear h1
                go_wp2_with (at_builtin; refine wpList_app (w2.alloc (.cells #[.int .i64 3, .int .i64 k] 31)) rfl (.tmp 65) (.tmp 68) 28 rfl 31 i0 (.agg #[.int .i64 0, .int .i64 0]) 2 16 Try.underlying28 HI.out.1 HI.out.2.1 HI.out.2.2.1 HI.out.2.2.2 rfl (by decide) w.heap.size A1 L.length c1 (cellsOf CWarnings.warningC L) rfl (HO.out.alloc _) ?hb (some ⟨w2.heap.size, 0, none⟩) 1 1 [.int .i64 3, .int .i64 k] rfl (rd_lit w2 #[.int .i64 3, .int .i64 k] 31 _ rfl) rfl (fun h => by cases h) ?o1 ?n1 ?n2 ?_)
                case hb => exact (HB.out.alloc HB.out.size _).size
                case o1 => intro u hu; simp only [List.mem_cons, List.not_mem_nil, or_false] at hu; rcases hu with rfl | rfl <;> rfl
                case n1 => unfold maxLen; omega
                case n2 => omega
                intro A3 n3 c3 w3 hn3 o3 g3 k3
                subst hn3
                have HB3 := hide (show Below w.heap.size w w3 from (HB.out.alloc HB.out.size _).grown g3 (HB.out.alloc HB.out.size _).size (fun j hj => (HO.out.lt j hj).1))
                have HX3 := hide ((HX.out.alloc (.cells #[.int .i64 3, .int .i64 k] 31)).grown g3 (fun j hj => (HO.out.alloc (.cells #[.int .i64 3, .int .i64 k] 31)).box (HX.out.alloc _) (by decide) j hj))
                have HO3 := hide (show Row w3 w.heap.size 31 2 A3 (L ++ [((3 : Int), (k : Int))]).length c3 (cellsOf CWarnings.warningC (L ++ [((3 : Int), (k : Int))])) by rw [List.length_append]; simpa [cellsOf, CWarnings.warningC] using o3)
                clear o3 g3 k3 HO HB HX
                go_wp2_with fail
                refine ⟨⟨k + 1, A3, c3, L ++ [(3, (k : Int))], by omega, by go_num, by simp, by rw [HU.out, HA.out], HO3.out, HX3.out, HB3.out⟩, by simp [intOf]; omega⟩
            · have e : k = ps.length := by omega
              subst e
              clear ho hx hb
              go_wp2_with fail
              clear x0 x1
              have HV2 := hide (show L = warns (OV.d ⟨A, c, ps, Y, yc, ys⟩) by rw [HLE.out, HP2.out]; refine Eq.trans ?_ HV.out.symm; simp [list, OV.d])
              go_ret
              exact ⟨A1, c1, by rw [← HV2.out]; rfl, by rw [← HV2.out]; exact HO.out, HB.out⟩

end Go.Proofs.Ytmglgjchemecjaa.CWarn
