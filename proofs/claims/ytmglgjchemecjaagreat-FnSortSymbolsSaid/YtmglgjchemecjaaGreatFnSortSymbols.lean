/- FnSortSymbols: Sorted symbols change no image. The statement is closed here out of its walk. No condition: for every input. -/
import Derived.Test.YtmglgjchemecjaaGreatFnSortSymbolsM15
import Derived.Test.YtmglgjchemecjaaGreatRows
set_option linter.unusedSimpArgs false
set_option linter.unusedVariables false
namespace Go.Proofs.YtmglgjchemecjaaGreat.fnSortSymbols
set_option maxRecDepth 200000
open Go.ChangeShapes Go.WideShapes Go.ChangeAt Go.RowKit

theorem own : ownKnob Tryz.prog.godebug = none := by kernel_rfl
theorem laid : laidOutB Tryz.prog = true := by kernel_rfl
theorem reads : ∀ t ∈ Tryz.f4.params.toList, Tryz.prog.readableRec t = true ∧ t < Tryz.prog.types.size := by
  rw [Tryz.params4]
  intro t ht
  simp only [List.mem_cons, List.not_mem_nil, or_false] at ht
  subst ht
  exact ⟨by kernel_rfl, of_decide_eq_true (by kernel_rfl)⟩

set_option maxRecDepth 100000 in
theorem lifted (os : Os) (started : os.Started) (H : Type) (enc : TypeId × Value → H) :
    ReturnsInHanded {} Tryz.checked os 4 .any (Rows.fnSortSymbolsSpec.pre6 enc Tryz.prog Tryz.f4 Rows.fnSortSymbolsRow.domain false) (Rows.fnSortSymbolsSpec.post enc Tryz.prog Tryz.f4 false true false false) := by
  refine returnsInHanded_of_change (C := Tryz.checked) own started (by kernel_rfl) Tryz.func4
    (ChangeSpec.witness6 (enc := enc) (C := Tryz.checked) false ⟨#[], #[.slice none 0 0], []⟩ 8 (by kernel_rfl) (by kernel_rfl) (by kernel_rfl) (by kernel_rfl)) ?_
  intro W base args ds gs before hval hW _ _
  refine Calls.mono (R := Kit.LawEnds W) ?_ fun e W' h => Kit.law_post laid reads Tryz.underlying4 rfl rfl ?_ hW h
  · obtain ⟨p, q, hA, _⟩ := hW
    have hA' : DataW.TrodAll enc Tryz.prog W 0 (fun _ => true) true Tryz.f4.params.toList args.toList ds p := hA
    rw [Tryz.params4] at hA' hval
    obtain ⟨v0, vs0, d0, ds0, p0, q0, hargs, rfl, _, h0, r0⟩ := trodAll_cons hA'
    obtain ⟨rfl, rfl, _⟩ := trodAll_nil r0
    obtain rfl : args = #[v0] := by cases args; simp_all
    obtain ⟨A0, zs0, c0, rfl, hl0, hc0, hr0, hz0⟩ := Kit.arg_bytes Tryz.underlying34 Tryz.underlying5 (hval 0 34 _ rfl rfl) h0
    exact WFnSortSymbols.walk (w := W) A0 zs0 c0 hl0 hc0 hz0 hr0
  · intro ds hd
    rw [Tryz.params4] at hd
    match ds, hd with
    | [d0], _ => rfl

theorem closed : joinedFacts Tryz.prog 4 Tryz.f4 Rows.fnSortSymbolsSpec Rows.fnSortSymbolsRow = true := by
  unfold joinedFacts
  rw [Words.mayEnter, Words.lifted, Words.make]
  kernel_rfl
theorem over : Rows.fnSortSymbolsRow.holds Tryz.pinned (OpenSpec.ofChange Rows.fnSortSymbolsSpec) :=
  OpenClaim.holds_of_wide 4 Tryz.f4 rfl rfl rfl rfl rfl rfl rfl ⟨rfl, rfl, rfl, rfl, rfl⟩ rfl rfl rfl rfl rfl (by kernel_rfl) Tryz.func4 closed
    (of_decide_eq_true (by kernel_rfl)) (by unfold Func.isWrapper; first | (rw [if_pos (by decide +kernel)]; kernel_rfl) | (rw [if_neg (by decide +kernel)]; exact ⟨rfl, rfl⟩))
    (fun os started H enc _ => lifted os started H enc)

/-- The statement. -/
theorem proved : Rows.FnSortSymbolsSaid :=
  over
#print axioms proved
end Go.Proofs.YtmglgjchemecjaaGreat.fnSortSymbols
