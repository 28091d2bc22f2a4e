/- What comes in: rows of cells that read as the laws' structs. -/
import Derived.Test.YtjnnjgogpapbhaaDoorBase
import Derived.Test.YtjnnjgogpapbhaaDoorRows
namespace Go.Proofs.YtjnnjgogpapbhaaDoor.In
set_option maxRecDepth 200000
open Go.ChangeShapes Go.WideShapes Go.ChangeAt Go.RowKit Kit
def I64 (x : Int) : Prop := -9223372036854775808 ≤ x ∧ x ≤ 9223372036854775807
def okRow (z : Int × Int) : Prop := I64 z.1 ∧ I64 z.2
def okFrame (z : Int × Int × Int) : Prop := I64 z.1 ∧ I64 z.2.1 ∧ I64 z.2.2
def okLandmark (z : ByteArray × Int) : Prop := z.1.size ≤ maxLen ∧ I64 z.2
theorem landmark_in {w : World} {cs : List Value} (hl : cs.length = Tryd.prog.cellsOf 57) (h : Trd Tryd.prog w 57 cs) : ∃ z : ByteArray × Int, cs = [.string z.1, .int .i64 z.2] ∧ okLandmark z := by
  rw [show Tryd.prog.cellsOf 57 = 2 by kernel_rfl] at hl
  obtain ⟨_, hf⟩ := Trd.fields Tryd.underlying57 (by kernel_rfl) h
  match cs, hl with
  | [u0, u1], _ =>
    obtain ⟨a, e0, h0⟩ := (hf 0 _ rfl _ rfl).str Tryd.underlying9
    obtain ⟨b, e1, h1⟩ := (hf 1 _ rfl _ rfl).int Tryd.underlying3
    simp at e0 e1
    exact ⟨(a, b), by rw [e0, e1], h0, wf_bounds h1⟩
end Go.Proofs.YtjnnjgogpapbhaaDoor.In
