/- What comes in: rows of cells that read as the laws' structs. -/
import Derived.Test.YtjnnjgogpapbhaaBase
import Derived.Test.YtjnnjgogpapbhaaRows
namespace Go.Proofs.Ytjnnjgogpapbhaa.In
set_option maxRecDepth 200000
open Go.ChangeShapes Go.WideShapes Go.ChangeAt Go.RowKit Kit
def I64 (x : Int) : Prop := -9223372036854775808 ≤ x ∧ x ≤ 9223372036854775807
def okRow (z : Int × Int) : Prop := I64 z.1 ∧ I64 z.2
def okFrame (z : Int × Int × Int) : Prop := I64 z.1 ∧ I64 z.2.1 ∧ I64 z.2.2
def okLandmark (z : ByteArray × Int) : Prop := z.1.size ≤ maxLen ∧ I64 z.2
theorem machine_in {H : Type} {enc : TypeId × Value → H} {base b0 : Nat} {sp : Nat → Bool} {held : Bool} {r : Reach} {v : Value} {d : DataW H} {ps : List MemPlace} {w : World} (hv : Value.okWide Try.prog w r b0 46 v) (h : DataW.Trod enc Try.prog w base sp held 46 v d ps) :
    ∃ (at_ : Int) (S C : Option Addr) (st ca : List Int) (cs cc : Nat), v = .agg #[.int .i64 at_, .slice S st.length cs, .slice C ca.length cc] ∧ st.length ≤ cs ∧ ca.length ≤ cc ∧ cs ≤ maxLen ∧ cc ≤ maxLen ∧ I64 at_ ∧ InR (-9223372036854775808) 9223372036854775807 st ∧ InR (-9223372036854775808) 9223372036854775807 ca ∧ Rd w w.heap.size S (ints .i64 st) ∧ Rd w w.heap.size C (ints .i64 ca) := by
  obtain ⟨cs, rfl, hsz⟩ := okWide_struct Try.underlying46 hv
  obtain ⟨hl, hf⟩ := Trd.fields Try.underlying46 (by kernel_rfl) (Trd.of_trod h)
  rw [show Try.prog.cellsOf 46 = 3 by kernel_rfl] at hl
  obtain ⟨l⟩ := cs
  simp only [Value.cells] at hl hf
  match l, hl with
  | [u0, u1, u2], _ =>
    obtain ⟨a, e0, h0⟩ := (hf 0 _ rfl _ rfl).int Try.underlying3
    obtain ⟨S, st, cs, e1, l1, c1, r1, k1⟩ := (hf 1 _ rfl _ rfl).ints Try.underlying23 Try.underlying3
    obtain ⟨C, ca, cc, e2, l2, c2, r2, k2⟩ := (hf 2 _ rfl _ rfl).ints Try.underlying23 Try.underlying3
    simp at e0 e1 e2
    subst e0 e1 e2
    exact ⟨a, S, C, st, ca, cs, cc, rfl, l1, l2, c1, c2, wf_bounds h0, wf_i64s k1, wf_i64s k2, r1, r2⟩
end Go.Proofs.Ytjnnjgogpapbhaa.In
