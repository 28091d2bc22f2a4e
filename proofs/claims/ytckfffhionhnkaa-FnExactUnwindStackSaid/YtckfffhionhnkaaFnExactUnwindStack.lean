/- FnExactUnwindStack: The program's UnwindStack returns what the reference's returns, for all arguments. The statement is closed here out of its walk. No condition: for every input. -/
import Derived.Test.YtckfffhionhnkaaRows
import Derived.Test.YtckfffhionhnkaaBase
import Derived.Test.YtckfffhionhnkaaWords
import Derived.Test.YtckfffhionhnkaaWFnExactUnwindStack
import Derived.Test.YtckfffhionhnkaaBase3
import Derived.Test.YtckfffhionhnkaaIn
namespace Go.Proofs.Ytckfffhionhnkaa.fnExactUnwindStack
set_option maxRecDepth 200000
open Go.ChangeShapes Go.WideShapes Go.ChangeAt Go.RowKit

theorem own : ownKnob Try.prog.godebug = none := by kernel_rfl
theorem laid : laidOutB Try.prog = true := by kernel_rfl
theorem reads : ∀ t ∈ Try.f3.params.toList, Try.prog.readableRec t = true ∧ t < Try.prog.types.size := by
  rw [Try.params3]
  intro t ht
  simp only [List.mem_cons, List.not_mem_nil, or_false] at ht
  rcases ht with rfl | rfl | rfl
  · exact ⟨by kernel_rfl, of_decide_eq_true (by kernel_rfl)⟩
  · exact ⟨by kernel_rfl, of_decide_eq_true (by kernel_rfl)⟩
  · exact ⟨by kernel_rfl, of_decide_eq_true (by kernel_rfl)⟩

set_option maxRecDepth 100000 in
theorem lifted (os : Os) (started : os.Started) (H : Type) (enc : TypeId × Value → H) :
    ReturnsInHanded {} Try.checked os 3 .any (Rows.fnExactUnwindStackSpec.pre6 enc Try.prog Try.f3 Rows.fnExactUnwindStackRow.domain false) (Rows.fnExactUnwindStackSpec.post enc Try.prog Try.f3 false true false false) := by
  refine returnsInHanded_of_change (C := Try.checked) own started (by kernel_rfl) Try.func3
    (ChangeSpec.witness6 (enc := enc) (C := Try.checked) false ⟨#[], #[.slice none 0 0, .slice none 0 0, .int .i64 0], []⟩ 8 (by kernel_rfl) (by kernel_rfl) (by kernel_rfl) (by kernel_rfl)) ?_
  intro W base args ds gs before hval hW _ _
  refine Calls.mono (R := Kit.LawEnds W) ?_ fun e W' h => Kit.law_post laid reads Try.underlying4 rfl rfl ?_ hW h
  · obtain ⟨p, q, hA, _⟩ := hW
    have hA' : DataW.TrodAll enc Try.prog W 0 (fun _ => true) true Try.f3.params.toList args.toList ds p := hA
    rw [Try.params3] at hA' hval
    obtain ⟨v0, vs0, d0, ds0, p0, q0, hargs, rfl, _, h0, r0⟩ := trodAll_cons hA'
    obtain ⟨v1, vs1, d1, ds1, p1, q1, rfl, rfl, _, h1, r1⟩ := trodAll_cons r0
    obtain ⟨v2, vs2, d2, ds2, p2, q2, rfl, rfl, _, h2, r2⟩ := trodAll_cons r1
    obtain ⟨rfl, rfl, _⟩ := trodAll_nil r2
    obtain rfl : args = #[v0, v1, v2] := by cases args; simp_all
    obtain ⟨A0, zs0, c0, rfl, hl0, hc0, hz0, hr0⟩ := Kit.arg_slice Try.underlying22 (fun cs hl h => In.frame_in hl h) (hval 0 22 _ rfl rfl) h0
    obtain ⟨A1, zs1, c1, rfl, hl1, hc1, hr1, hz1⟩ := Kit.arg_ints Try.underlying23 Try.underlying3 (hval 1 23 _ rfl rfl) h1
    obtain ⟨a2, rfl, _, _, wf2⟩ := open_int Try.underlying3 (hval 2 3 _ rfl rfl) h2
    obtain ⟨lo2, hi2⟩ := Kit.wf_bounds wf2
    exact WFnExactUnwindStack.walk (w := W) A0 zs0 c0 hl0 hc0 hz0 (hr0 := hr0) A1 zs1 c1 hl1 hc1 hz1 (hr1 := hr1) a2 lo2 hi2
  · intro ds hd
    rw [Try.params3] at hd
    match ds, hd with
    | [d0, d1, d2], _ => rfl

theorem closed : joinedFacts Try.prog 3 Try.f3 Rows.fnExactUnwindStackSpec Rows.fnExactUnwindStackRow = true := by
  unfold joinedFacts
  rw [Words.mayEnter, Words.lifted, Words.make]
  kernel_rfl
theorem over : Rows.fnExactUnwindStackRow.holds Try.pinned (OpenSpec.ofChange Rows.fnExactUnwindStackSpec) :=
  OpenClaim.holds_of_wide 3 Try.f3 rfl rfl rfl rfl rfl rfl rfl ⟨rfl, rfl, rfl, rfl, rfl⟩ rfl rfl rfl rfl rfl (by kernel_rfl) Try.func3 closed
    (of_decide_eq_true (by kernel_rfl)) (by unfold Func.isWrapper; first | (rw [if_pos (by decide +kernel)]; kernel_rfl) | (rw [if_neg (by decide +kernel)]; exact ⟨rfl, rfl⟩))
    (fun os started H enc _ => lifted os started H enc)

/-- The statement. -/
theorem proved : Rows.FnExactUnwindStackSaid :=
  over
#print axioms proved
end Go.Proofs.Ytckfffhionhnkaa.fnExactUnwindStack
