/- What comes in: images and patches. -/
import Derived.Test.YtjnnjgogpapbhaaIn
import Derived.Test.YtjnnjgogpapbhaaPPatch
namespace Go.Proofs.Ytjnnjgogpapbhaa.In
set_option maxRecDepth 200000
open Go.ChangeShapes Go.WideShapes Go.ChangeAt Go.RowKit Kit PPatch
theorem image_in {H : Type} {enc : TypeId × Value → H} {base b0 : Nat} {sp : Nat → Bool} {held : Bool} {r : Reach} {v : Value} {d : DataW H} {ps : List MemPlace} {w : World} (hv : Value.okWide Try.prog w r b0 31 v) (h : DataW.Trod enc Try.prog w base sp held 31 v d ps) :
    ∃ (b : Int) (A : Option Addr) (zs : List Int) (c : Nat), v = .agg #[.int .i64 b, .slice A zs.length c] ∧ zs.length ≤ c ∧ c ≤ maxLen ∧ I64 b ∧ InR 0 255 zs ∧ Rd w w.heap.size A (ints .u8 zs) := by
  obtain ⟨cs, rfl, hsz⟩ := okWide_struct Try.underlying31 hv
  obtain ⟨hl, hf⟩ := Trd.fields Try.underlying31 (by kernel_rfl) (Trd.of_trod h)
  rw [show Try.prog.cellsOf 31 = 2 by kernel_rfl] at hl
  obtain ⟨l⟩ := cs
  simp only [Value.cells] at hl hf
  match l, hl with
  | [u0, u1], _ =>
    obtain ⟨a, e0, h0⟩ := (hf 0 _ rfl _ rfl).int Try.underlying3
    obtain ⟨S, st, cs, e1, l1, c1, r1, k1⟩ := (hf 1 _ rfl _ rfl).ints Try.underlying22 Try.underlying5
    simp at e0 e1
    subst e0 e1
    exact ⟨a, S, st, cs, rfl, l1, c1, wf_bounds h0, wf_u8 k1, r1⟩
def okPatch (w : World) (p : PV) : Prop := I64 p.at_ ∧ p.zs.length ≤ p.c ∧ p.c ≤ maxLen ∧ InR 0 255 p.zs ∧ Rd w w.heap.size p.A (ints .u8 p.zs)
theorem patch_in {w : World} {cs : List Value} (hl : cs.length = Try.prog.cellsOf 68) (h : Trd Try.prog w 68 cs) : ∃ p : PV, cs = patchC p ∧ okPatch w p := by
  rw [show Try.prog.cellsOf 68 = 2 by kernel_rfl] at hl
  obtain ⟨_, hf⟩ := Trd.fields Try.underlying68 (by kernel_rfl) h
  match cs, hl with
  | [u0, u1], _ =>
    obtain ⟨a, e0, h0⟩ := (hf 0 _ rfl _ rfl).int Try.underlying3
    obtain ⟨S, st, cs, e1, l1, c1, r1, k1⟩ := (hf 1 _ rfl _ rfl).ints Try.underlying22 Try.underlying5
    simp at e0 e1
    subst e0 e1
    exact ⟨⟨a, S, cs, st⟩, rfl, wf_bounds h0, l1, c1, wf_u8 k1, r1⟩
end Go.Proofs.Ytjnnjgogpapbhaa.In
