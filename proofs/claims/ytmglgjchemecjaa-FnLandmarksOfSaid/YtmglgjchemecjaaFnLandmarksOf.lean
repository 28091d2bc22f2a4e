/- FnLandmarksOf: Landmarks are in order. The statement is closed here out of its walk. No condition: for every input. -/
import Derived.Test.YtmglgjchemecjaaFnLandmarksOfM13
import Derived.Test.YtmglgjchemecjaaRows
set_option linter.unusedSimpArgs false
set_option linter.unusedVariables false
namespace Go.Proofs.Ytmglgjchemecjaa.fnLandmarksOf
set_option maxRecDepth 200000
open Go.ChangeShapes Go.WideShapes Go.ChangeAt Go.RowKit

theorem own : ownKnob Try.prog.godebug = none := by kernel_rfl
theorem laid : laidOutB Try.prog = true := by kernel_rfl
theorem reads : ∀ t ∈ Try.f9.params.toList, Try.prog.readableRec t = true ∧ t < Try.prog.types.size := by
  rw [Try.params9]
  intro t ht
  simp only [List.mem_cons, List.not_mem_nil, or_false] at ht
  subst ht
  exact ⟨by kernel_rfl, of_decide_eq_true (by kernel_rfl)⟩

set_option maxRecDepth 100000 in
theorem lifted (os : Os) (started : os.Started) (H : Type) (enc : TypeId × Value → H) :
    ReturnsInHanded {} Try.checked os 9 .any (Rows.fnLandmarksOfSpec.pre6 enc Try.prog Try.f9 Rows.fnLandmarksOfRow.domain false) (Rows.fnLandmarksOfSpec.post enc Try.prog Try.f9 false true false false) := by
  refine returnsInHanded_of_change (C := Try.checked) own started (by kernel_rfl) Try.func9
    (ChangeSpec.witness6 (enc := enc) (C := Try.checked) false ⟨#[], #[.slice none 0 0], []⟩ 8 (by kernel_rfl) (by kernel_rfl) (by kernel_rfl) (by kernel_rfl)) ?_
  intro W base args ds gs before hval hW _ _
  refine Calls.mono (R := Kit.LawEnds W) ?_ fun e W' h => Kit.law_post laid reads Try.underlying4 rfl rfl ?_ hW h
  · obtain ⟨p, q, hA, _⟩ := hW
    have hA' : DataW.TrodAll enc Try.prog W 0 (fun _ => true) true Try.f9.params.toList args.toList ds p := hA
    rw [Try.params9] at hA' hval
    obtain ⟨v0, vs0, d0, ds0, p0, q0, hargs, rfl, _, h0, r0⟩ := trodAll_cons hA'
    obtain ⟨rfl, rfl, _⟩ := trodAll_nil r0
    obtain rfl : args = #[v0] := by cases args; simp_all
    obtain ⟨A0, zs0, c0, rfl, hl0, hc0, hr0, hz0⟩ := Kit.arg_bytes Try.underlying22 Try.underlying5 (hval 0 22 _ rfl rfl) h0
    exact WFnLandmarksOf.walk (w := W) A0 zs0 c0 hl0 hc0 hz0 hr0
  · intro ds hd
    rw [Try.params9] at hd
    match ds, hd with
    | [d0], _ => rfl

theorem closed : joinedFacts Try.prog 9 Try.f9 Rows.fnLandmarksOfSpec Rows.fnLandmarksOfRow = true := by
  unfold joinedFacts
  rw [Words.mayEnter, Words.lifted, Words.make]
  kernel_rfl
theorem over : Rows.fnLandmarksOfRow.holds Try.pinned (OpenSpec.ofChange Rows.fnLandmarksOfSpec) :=
  OpenClaim.holds_of_wide 9 Try.f9 rfl rfl rfl rfl rfl rfl rfl ⟨rfl, rfl, rfl, rfl, rfl⟩ rfl rfl rfl rfl rfl (by kernel_rfl) Try.func9 closed
    (of_decide_eq_true (by kernel_rfl)) (by unfold Func.isWrapper; first | (rw [if_pos (by decide +kernel)]; kernel_rfl) | (rw [if_neg (by decide +kernel)]; exact ⟨rfl, rfl⟩))
    (fun os started H enc _ => lifted os started H enc)

/-- The statement. -/
theorem proved : Rows.FnLandmarksOfSaid :=
  over
#print axioms proved
end Go.Proofs.Ytmglgjchemecjaa.fnLandmarksOf
