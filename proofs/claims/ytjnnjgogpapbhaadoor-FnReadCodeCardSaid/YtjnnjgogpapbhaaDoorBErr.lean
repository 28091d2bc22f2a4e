/- The two sentinels of the library as the listed variables give them. -/
import Derived.Test.YtjnnjgogpapbhaaDoorBLaid
import Derived.Test.YtjnnjgogpapbhaaDoorCReadCode
namespace Go.Proofs.YtjnnjgogpapbhaaDoor.BErr
set_option maxRecDepth 200000
open Go.ChangeShapes Go.WideShapes Go.ChangeAt Go.RowKit Kit BWords CReadCode
theorem star : "*" ++ "errors.errorString" = "*errors.errorString" := by decide
theorem rowT (u : TypeId) (h : Tryd.prog.typeName? 3 u = some "*errors.errorString") : u = 107 :=
  typeName_ptr_named (nm := "errors.errorString") (by rw [star]; kernel_rfl) (by kernel_rfl) (by decide) u (by rw [star]; exact h)
theorem global_lt {W : World} {n : String} {g : Nat} {cs : Array Value} (hg : Tryd.prog.globalNamed n = some g) (hv : W.var? Tryd.prog n = some cs) : g < W.heap.size := by
  unfold World.var? at hv
  rw [hg] at hv
  simp only [Option.bind_some] at hv
  rcases Nat.lt_or_ge g W.heap.size with h' | h'
  · exact h'
  · simp [Array.getElem?_eq_none h'] at hv
theorem range_of {W : World} {rest : List (String × DataW Unit)} (h : laidMet Tryd.prog (("strconv.ErrRange", Rows.laid_strconv_ErrRange) :: rest) W) : ER W := by
  have hg : Tryd.prog.globalNamed "strconv.ErrRange" = some 2 := by kernel_rfl
  obtain ⟨a, s, hv, _, _, _⟩ := laid_sentinel (ti := 70) (tp := 107) (te := 109) (ts := 9) h hg (by kernel_rfl) Tryd.underlying70 rowT Tryd.underlying107 Tryd.underlying109 rfl rfl Tryd.underlying9 (by kernel_rfl) (by kernel_rfl)
  exact ⟨global_lt hg hv, _, _, hv⟩
theorem wrong_of {W : World} {rest : List (String × DataW Unit)} (h : laidMet Tryd.prog (("strconv.ErrSyntax", Rows.laid_strconv_ErrSyntax) :: rest) W) : ES W := by
  have hg : Tryd.prog.globalNamed "strconv.ErrSyntax" = some 1 := by kernel_rfl
  obtain ⟨a, s, hv, _, _, _⟩ := laid_sentinel (ti := 70) (tp := 107) (te := 109) (ts := 9) h hg (by kernel_rfl) Tryd.underlying70 rowT Tryd.underlying107 Tryd.underlying109 rfl rfl Tryd.underlying9 (by kernel_rfl) (by kernel_rfl)
  exact ⟨global_lt hg hv, _, _, hv⟩
end Go.Proofs.YtjnnjgogpapbhaaDoor.BErr
