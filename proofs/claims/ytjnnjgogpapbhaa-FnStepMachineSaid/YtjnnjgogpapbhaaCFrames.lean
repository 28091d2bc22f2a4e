/- Contracts of the laws' helpers on Frame: the copy, the comparison of equal data, the marks. Written by a program. -/
import Derived.Test.YtjnnjgogpapbhaaBase
import Derived.Test.YtjnnjgogpapbhaaRows
import Derived.StillTailTactics
namespace Go.Proofs.Ytjnnjgogpapbhaa.CFrames
set_option maxRecDepth 200000
open Go.ChangeShapes Go.WideShapes Go.ChangeAt Go.RowKit Kit
abbrev D := Int × Int × Int
def frameC (r : D) : List Value := [.int .i64 r.1, .int .i64 r.2.1, .int .i64 r.2.2]
theorem frameC_len (r : D) : (frameC r).length = 3 := rfl
def marks (k0 : Int) (m : Nat) : List D := (List.range m).map fun (i : Nat) => (k0 + 3 * (i : Int), k0 + 3 * (i : Int) + 1, k0 + 3 * (i : Int) + 1 + 1)
theorem marks_len (k0 : Int) (m : Nat) : (marks k0 m).length = m := by simp [marks]
theorem marks_at (k0 : Int) (m i : Nat) (h : i < m) : (marks k0 m)[i]'(by rw [marks_len]; exact h) = (k0 + 3 * (i : Int), k0 + 3 * (i : Int) + 1, k0 + 3 * (i : Int) + 1 + 1) := by simp [marks]
theorem marks_succ (k0 : Int) (i : Nat) : marks k0 (i + 1) = marks k0 i ++ [(k0 + 3 * (i : Int), k0 + 3 * (i : Int) + 1, k0 + 3 * (i : Int) + 1 + 1)] := by simp [marks, List.range_succ]
end Go.Proofs.Ytjnnjgogpapbhaa.CFrames
