/- FnExactApplyPatches: The program's ApplyPatches returns what the reference's returns, for all arguments. The statement is closed here out of its walk. No condition: for every input. -/
import Derived.Test.YtjnnjgogpapbhaaRows
import Derived.Test.YtjnnjgogpapbhaaBase
import Derived.Test.YtjnnjgogpapbhaaWords
import Derived.Test.YtjnnjgogpapbhaaWFnExactApplyPatches
import Derived.Test.YtjnnjgogpapbhaaIn
namespace Go.Proofs.Ytjnnjgogpapbhaa.fnExactApplyPatches
set_option maxRecDepth 200000
open Go.ChangeShapes Go.WideShapes Go.ChangeAt Go.RowKit

theorem own : ownKnob Try.prog.godebug = none := by kernel_rfl
theorem laid : laidOutB Try.prog = true := by kernel_rfl
theorem reads : ∀ t ∈ Try.f4.params.toList, Try.prog.readableRec t = true ∧ t < Try.prog.types.size := by
  rw [Try.params4]
  intro t ht
  simp only [List.mem_cons, List.not_mem_nil, or_false] at ht
  rcases ht with rfl | rfl
  · exact ⟨by kernel_rfl, of_decide_eq_true (by kernel_rfl)⟩
  · exact ⟨by kernel_rfl, of_decide_eq_true (by kernel_rfl)⟩

set_option maxRecDepth 100000 in
theorem lifted (os : Os) (started : os.Started) (H : Type) (enc : TypeId × Value → H) :
    ReturnsInHanded {} Try.checked os 4 .any (Rows.fnExactApplyPatchesSpec.pre6 enc Try.prog Try.f4 Rows.fnExactApplyPatchesRow.domain false) (Rows.fnExactApplyPatchesSpec.post enc Try.prog Try.f4 false true false false) := by
  refine returnsInHanded_of_change (C := Try.checked) own started (by kernel_rfl) Try.func4
    (ChangeSpec.witness6 (enc := enc) (C := Try.checked) false ⟨#[], #[.agg #[.int .i64 0, .slice none 0 0], .slice none 0 0], []⟩ 8 (by kernel_rfl) (by kernel_rfl) (by kernel_rfl) (by kernel_rfl)) ?_
  intro W base args ds gs before hval hW _ _
  refine Calls.mono (R := Kit.LawEnds W) ?_ fun e W' h => Kit.law_post laid reads Try.underlying4 rfl rfl ?_ hW h
  · obtain ⟨p, q, hA, _⟩ := hW
    have hA' : DataW.TrodAll enc Try.prog W 0 (fun _ => true) true Try.f4.params.toList args.toList ds p := hA
    rw [Try.params4] at hA' hval
    obtain ⟨v0, vs0, d0, ds0, p0, q0, hargs, rfl, _, h0, r0⟩ := trodAll_cons hA'
    obtain ⟨v1, vs1, d1, ds1, p1, q1, rfl, rfl, _, h1, r1⟩ := trodAll_cons r0
    obtain ⟨rfl, rfl, _⟩ := trodAll_nil r1
    obtain rfl : args = #[v0, v1] := by cases args; simp_all
    obtain ⟨b0, A0, zs0, c0, rfl, hl0, hc0, wi0, hz0, hr0⟩ := In.image_in (hval 0 31 _ rfl rfl) h0
    obtain ⟨A1, zs1, c1, rfl, hl1, hc1, hz1, hr1⟩ := Kit.arg_slice (f := PPatch.patchC) Try.underlying32 (fun cs hl h => In.patch_in hl h) (hval 1 32 _ rfl rfl) h1
    exact WFnExactApplyPatches.walk (w := W) b0 A0 zs0 c0 hl0 hc0 (hr := hr0) A1 zs1 c1 hl1 hc1 (hz := hz1) (hrl := hr1)
  · intro ds hd
    rw [Try.params4] at hd
    match ds, hd with
    | [d0, d1], _ => rfl

theorem closed : joinedFacts Try.prog 4 Try.f4 Rows.fnExactApplyPatchesSpec Rows.fnExactApplyPatchesRow = true := by
  unfold joinedFacts
  rw [Words.mayEnter, Words.lifted, Words.make]
  kernel_rfl
theorem over : Rows.fnExactApplyPatchesRow.holds Try.pinned (OpenSpec.ofChange Rows.fnExactApplyPatchesSpec) :=
  OpenClaim.holds_of_wide 4 Try.f4 rfl rfl rfl rfl rfl rfl rfl ⟨rfl, rfl, rfl, rfl, rfl⟩ rfl rfl rfl rfl rfl (by kernel_rfl) Try.func4 closed
    (of_decide_eq_true (by kernel_rfl)) (by unfold Func.isWrapper; first | (rw [if_pos (by decide +kernel)]; kernel_rfl) | (rw [if_neg (by decide +kernel)]; exact ⟨rfl, rfl⟩))
    (fun os started H enc _ => lifted os started H enc)

/-- The statement. -/
theorem proved : Rows.FnExactApplyPatchesSaid :=
  over
#print axioms proved
end Go.Proofs.Ytjnnjgogpapbhaa.fnExactApplyPatches
