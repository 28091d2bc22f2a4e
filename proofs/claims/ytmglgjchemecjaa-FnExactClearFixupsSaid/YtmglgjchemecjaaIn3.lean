/- What comes in: objects. -/
import Derived.Test.YtmglgjchemecjaaIn
import Derived.Test.YtmglgjchemecjaaBObj
namespace Go.Proofs.Ytmglgjchemecjaa.In
set_option maxRecDepth 200000
open Go.ChangeShapes Go.WideShapes Go.ChangeAt Go.RowKit Kit PObj BObj CFixups CSymbols
/-- A slice of structs inside a value. -/
theorem trd_slice {α : Type} {f : α → List Value} {p : α → Prop} {P : Program} {w : World} {t e : TypeId} {cs : List Value} (ht : P.underlying t = some (.slice e)) (hrow : ∀ cs, cs.length = P.cellsOf e → Trd P w e cs → ∃ x, cs = f x ∧ p x) (h : Trd P w t cs) :
    ∃ (A : Option Addr) (xs : List α) (c : Nat), cs = [.slice A xs.length c] ∧ xs.length ≤ c ∧ c ≤ maxLen ∧ (∀ x ∈ xs, p x) ∧ Rd w w.heap.size A (cellsOf f xs) := by
  obtain ⟨A, n, c, rows, rfl, h1, h2, h3, h4, h5⟩ := h.slice ht
  obtain ⟨xs, rfl, hx⟩ := rows_of (f := f) (p := p) fun r hr => hrow r (h4 r hr).1 (h4 r hr).2
  simp only [List.length_map] at h3
  subst h3
  refine ⟨_, xs, _, rfl, h1, h2, hx, ?_⟩
  simpa [cellsOf, List.flatMap] using h5
theorem fixup_in {w : World} {cs : List Value} (hl : cs.length = Try.prog.cellsOf 192) (h : Trd Try.prog w 192 cs) : ∃ z : FD, cs = fixupC z ∧ True := by
  rw [show Try.prog.cellsOf 192 = 4 by kernel_rfl] at hl
  obtain ⟨_, hf⟩ := Trd.fields Try.underlying192 (by kernel_rfl) h
  match cs, hl with
  | [u0, u1, u2, u3], _ =>
    obtain ⟨a, e0, _⟩ := (hf 0 _ rfl _ rfl).int Try.underlying3
    obtain ⟨b, e1, _⟩ := (hf 1 _ rfl _ rfl).int Try.underlying3
    obtain ⟨c, e2, _⟩ := (hf 2 _ rfl _ rfl).int Try.underlying3
    obtain ⟨d, e3, _⟩ := (hf 3 _ rfl _ rfl).int Try.underlying3
    simp at e0 e1 e2 e3
    exact ⟨(a, b, c, d), by rw [e0, e1, e2, e3]; rfl, trivial⟩
theorem symbol_in {w : World} {cs : List Value} (hl : cs.length = Try.prog.cellsOf 143) (h : Trd Try.prog w 143 cs) : ∃ z : YD, cs = symbolC z ∧ z.1.size ≤ maxLen := by
  rw [show Try.prog.cellsOf 143 = 4 by kernel_rfl] at hl
  obtain ⟨_, hf⟩ := Trd.fields Try.underlying143 (by kernel_rfl) h
  match cs, hl with
  | [u0, u1, u2, u3], _ =>
    obtain ⟨a, e0, h0⟩ := (hf 0 _ rfl _ rfl).str Try.underlying9
    obtain ⟨b, e1, _⟩ := (hf 1 _ rfl _ rfl).int Try.underlying3
    obtain ⟨c, e2, _⟩ := (hf 2 _ rfl _ rfl).int Try.underlying3
    obtain ⟨d, e3, _⟩ := (hf 3 _ rfl _ rfl).int Try.underlying3
    simp at e0 e1 e2 e3
    exact ⟨(a, b, c, d), by rw [e0, e1, e2, e3]; rfl, h0⟩
def okS (w : World) (p : SV) : Prop := p.nm.size ≤ maxLen ∧ p.zs.length ≤ maxLen ∧ p.fs.length ≤ maxLen ∧ RdS w w.heap.size p
theorem section_in {w : World} {cs : List Value} (hl : cs.length = Try.prog.cellsOf 141) (h : Trd Try.prog w 141 cs) : ∃ p : SV, cs = secC p ∧ okS w p := by
  rw [show Try.prog.cellsOf 141 = 6 by kernel_rfl] at hl
  obtain ⟨_, hf⟩ := Trd.fields Try.underlying141 (by kernel_rfl) h
  match cs, hl with
  | [u0, u1, u2, u3, u4, u5], _ =>
    obtain ⟨nm, e0, h0⟩ := (hf 0 _ rfl _ rfl).str Try.underlying9
    obtain ⟨kd, e1, _⟩ := (hf 1 _ rfl _ rfl).int Try.underlying3
    obtain ⟨al, e2, _⟩ := (hf 2 _ rfl _ rfl).int Try.underlying3
    obtain ⟨A, zs, c, e3, l3, c3, r3, _⟩ := (hf 3 _ rfl _ rfl).ints Try.underlying22 Try.underlying5
    obtain ⟨sz, e4, _⟩ := (hf 4 _ rfl _ rfl).int Try.underlying3
    obtain ⟨F, fs, fc, e5, l5, c5, _, r5⟩ := trd_slice Try.underlying139 (fun cs hl h => fixup_in hl h) (hf 5 _ rfl _ rfl)
    simp at e0 e1 e2 e3 e4 e5
    exact ⟨⟨nm, kd, al, A, c, zs, sz, F, fc, fs⟩, by rw [e0, e1, e2, e3, e4, e5]; rfl, h0, Nat.le_trans l3 c3, Nat.le_trans l5 c5, r3, r5⟩
theorem object_in {H : Type} {enc : TypeId × Value → H} {base b0 : Nat} {sp : Nat → Bool} {held : Bool} {r : Reach} {v : Value} {d : DataW H} {ps : List MemPlace} {w : World} (hv : Value.okWide Try.prog w r b0 38 v) (h : DataW.Trod enc Try.prog w base sp held 38 v d ps) :
    ∃ o : OV, v = o.v ∧ RdO w w.heap.size o ∧ o.ps.length ≤ maxLen ∧ o.ys.length ≤ maxLen ∧ (∀ p ∈ o.ps, p.nm.size ≤ maxLen ∧ p.zs.length ≤ maxLen ∧ p.fs.length ≤ maxLen) ∧ (∀ y ∈ o.ys, y.1.size ≤ maxLen) := by
  obtain ⟨cs, rfl, hsz⟩ := okWide_struct Try.underlying38 hv
  obtain ⟨hl, hf⟩ := Trd.fields Try.underlying38 (by kernel_rfl) (Trd.of_trod h)
  rw [show Try.prog.cellsOf 38 = 2 by kernel_rfl] at hl
  obtain ⟨l⟩ := cs
  simp only [Value.cells] at hl hf
  match l, hl with
  | [u0, u1], _ =>
    obtain ⟨A, qs, c, e0, l0, c0, k0, r0⟩ := trd_slice Try.underlying35 (fun cs hl h => section_in hl h) (hf 0 _ rfl _ rfl)
    obtain ⟨Y, ys, yc, e1, l1, c1, k1, r1⟩ := trd_slice Try.underlying36 (fun cs hl h => symbol_in hl h) (hf 1 _ rfl _ rfl)
    simp at e0 e1
    subst e0 e1
    exact ⟨⟨A, c, qs, Y, yc, ys⟩, rfl, ⟨⟨r0, fun p hp => (k0 p hp).2.2.2⟩, r1⟩, Nat.le_trans l0 c0, Nat.le_trans l1 c1, fun p hp => ⟨(k0 p hp).1, (k0 p hp).2.1, (k0 p hp).2.2.1⟩, k1⟩
end Go.Proofs.Ytmglgjchemecjaa.In
