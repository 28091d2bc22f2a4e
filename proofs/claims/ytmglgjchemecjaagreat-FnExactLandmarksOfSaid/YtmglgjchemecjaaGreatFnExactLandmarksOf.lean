/- FnExactLandmarksOf: The program's LandmarksOf returns what the reference's returns, for all arguments, and hands back memory of its own. The statement is closed here out of its walk. No condition: for every input. -/
import Derived.Test.YtmglgjchemecjaaGreatFnExactLandmarksOfM15
import Derived.Test.YtmglgjchemecjaaGreatRows
set_option linter.unusedSimpArgs false
set_option linter.unusedVariables false
namespace Go.Proofs.YtmglgjchemecjaaGreat.fnExactLandmarksOf
set_option maxRecDepth 200000
open Go.ChangeShapes Go.WideShapes Go.ChangeAt Go.RowKit

theorem own : ownKnob Tryz.prog.godebug = none := by kernel_rfl
theorem laid : laidOutB Tryz.prog = true := by kernel_rfl
theorem reads : ∀ t ∈ Tryz.f5.params.toList, Tryz.prog.readableRec t = true ∧ t < Tryz.prog.types.size := by
  rw [Tryz.params5]
  intro t ht
  simp only [List.mem_cons, List.not_mem_nil, or_false] at ht
  rcases ht with rfl | rfl
  · exact ⟨by kernel_rfl, of_decide_eq_true (by kernel_rfl)⟩
  · exact ⟨by kernel_rfl, of_decide_eq_true (by kernel_rfl)⟩

set_option maxRecDepth 100000 in
theorem lifted (os : Os) (started : os.Started) (H : Type) (enc : TypeId × Value → H) :
    ReturnsInHanded {} Tryz.checked os 5 .any (Rows.fnExactLandmarksOfSpec.pre6 enc Tryz.prog Tryz.f5 Rows.fnExactLandmarksOfRow.domain false) (Rows.fnExactLandmarksOfSpec.post enc Tryz.prog Tryz.f5 false true false false) := by
  refine returnsInHanded_of_change (C := Tryz.checked) own started (by kernel_rfl) Tryz.func5
    (ChangeSpec.witness6 (enc := enc) (C := Tryz.checked) false ⟨#[], #[.slice none 0 0, .int .i64 0], []⟩ 8 (by kernel_rfl) (by kernel_rfl) (by kernel_rfl) (by kernel_rfl)) ?_
  intro W base args ds gs before hval hW _ _
  refine Calls.mono (R := Kit.LawEnds W) ?_ fun e W' h => Kit.law_post laid reads Tryz.underlying4 rfl rfl ?_ hW h
  · obtain ⟨p, q, hA, _⟩ := hW
    have hA' : DataW.TrodAll enc Tryz.prog W 0 (fun _ => true) true Tryz.f5.params.toList args.toList ds p := hA
    rw [Tryz.params5] at hA' hval
    obtain ⟨v0, vs0, d0, ds0, p0, q0, hargs, rfl, _, h0, r0⟩ := trodAll_cons hA'
    obtain ⟨v1, vs1, d1, ds1, p1, q1, rfl, rfl, _, h1, r1⟩ := trodAll_cons r0
    obtain ⟨rfl, rfl, _⟩ := trodAll_nil r1
    obtain rfl : args = #[v0, v1] := by cases args; simp_all
    obtain ⟨A0, zs0, c0, rfl, hl0, hc0, hz0, hr0⟩ := Kit.arg_slice (f := BList.objC) Tryz.underlying46 (fun cs hl h => In.objc_in hl h) (hval 0 46 _ rfl rfl) h0
    obtain ⟨a1, rfl, _, _, wf1⟩ := open_int Tryz.underlying3 (hval 1 3 _ rfl rfl) h1
    obtain ⟨lo1, hi1⟩ := Kit.wf_bounds wf1
    exact WFnExactLandmarksOf.walk (w := W) A0 zs0 c0 (hr := ⟨hr0, fun o ho => (hz0 o ho).1⟩) (hn := Nat.le_trans hl0 hc0) (hl := fun o ho => (hz0 o ho).2) a1
  · intro ds hd
    rw [Tryz.params5] at hd
    match ds, hd with
    | [d0, d1], _ => rfl

theorem closed : joinedFacts Tryz.prog 5 Tryz.f5 Rows.fnExactLandmarksOfSpec Rows.fnExactLandmarksOfRow = true := by
  unfold joinedFacts
  rw [Words.mayEnter, Words.lifted, Words.make]
  kernel_rfl
theorem over : Rows.fnExactLandmarksOfRow.holds Tryz.pinned (OpenSpec.ofChange Rows.fnExactLandmarksOfSpec) :=
  OpenClaim.holds_of_wide 5 Tryz.f5 rfl rfl rfl rfl rfl rfl rfl ⟨rfl, rfl, rfl, rfl, rfl⟩ rfl rfl rfl rfl rfl (by kernel_rfl) Tryz.func5 closed
    (of_decide_eq_true (by kernel_rfl)) (by unfold Func.isWrapper; first | (rw [if_pos (by decide +kernel)]; kernel_rfl) | (rw [if_neg (by decide +kernel)]; exact ⟨rfl, rfl⟩))
    (fun os started H enc _ => lifted os started H enc)

/-- The statement. -/
theorem proved : Rows.FnExactLandmarksOfSaid :=
  over
#print axioms proved
end Go.Proofs.YtmglgjchemecjaaGreat.fnExactLandmarksOf
