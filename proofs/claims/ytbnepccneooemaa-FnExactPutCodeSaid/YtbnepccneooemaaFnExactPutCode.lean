/- FnExactPutCode: The program's PutCode returns what the reference's returns, for all arguments. The statement is closed here out of its walk. No condition: for every input. -/
import Derived.Test.YtbnepccneooemaaRows
import Derived.Test.YtbnepccneooemaaBase
import Derived.Test.YtbnepccneooemaaWFnExactPutCode
namespace Go.Proofs.Ytbnepccneooemaa.fnExactPutCode
set_option maxRecDepth 200000
open Go.ChangeShapes Go.WideShapes Go.ChangeAt Go.RowKit

theorem own : ownKnob Try.prog.godebug = none := by kernel_rfl
theorem laid : laidOutB Try.prog = true := by kernel_rfl
theorem reads : ∀ t ∈ Try.f11.params.toList, Try.prog.readableRec t = true ∧ t < Try.prog.types.size := by
  rw [Try.params11]
  intro t ht
  simp only [List.mem_cons, List.not_mem_nil, or_false] at ht
  subst ht
  exact ⟨by kernel_rfl, of_decide_eq_true (by kernel_rfl)⟩

set_option maxRecDepth 100000 in
theorem lifted (os : Os) (started : os.Started) (H : Type) (enc : TypeId × Value → H) :
    ReturnsInHanded {} Try.checked os 11 .any (Rows.fnExactPutCodeSpec.pre6 enc Try.prog Try.f11 Rows.fnExactPutCodeRow.domain false) (Rows.fnExactPutCodeSpec.post enc Try.prog Try.f11 false true false false) := by
  refine returnsInHanded_of_change (C := Try.checked) own started (by kernel_rfl) Try.func11
    (ChangeSpec.witness6 (enc := enc) (C := Try.checked) false ⟨#[], #[.agg #[.int .i64 0, .int .i64 0]], []⟩ 8 (by kernel_rfl) (by kernel_rfl) (by kernel_rfl) (by kernel_rfl)) ?_
  intro W base args ds gs before hval hW _ _
  refine Calls.mono (R := Kit.LawEnds W) ?_ fun e W' h => Kit.law_post laid reads Try.underlying4 rfl rfl ?_ hW h
  · obtain ⟨p, q, hA, _⟩ := hW
    have hA' : DataW.TrodAll enc Try.prog W 0 (fun _ => true) true Try.f11.params.toList args.toList ds p := hA
    rw [Try.params11] at hA' hval
    obtain ⟨v0, vs0, d0, ds0, p0, q0, hargs, rfl, _, h0, r0⟩ := trodAll_cons hA'
    obtain ⟨rfl, rfl, _⟩ := trodAll_nil r0
    obtain rfl : args = #[v0] := by cases args; simp_all
    obtain ⟨a0, b0, rfl, la0, ha0, lb0, hb0⟩ := Kit.open_ints2 Try.underlying71 Try.underlying3 (by kernel_rfl) (by kernel_rfl) (hval 0 71 _ rfl rfl) h0
    exact WFnExactPutCode.walk (w := W) a0 b0 la0 ha0 lb0 hb0
  · intro ds hd
    rw [Try.params11] at hd
    match ds, hd with
    | [d0], _ => rfl

theorem over : Rows.fnExactPutCodeRow.holds Try.pinned (OpenSpec.ofChange Rows.fnExactPutCodeSpec) :=
  OpenClaim.holds_of_wide 11 Try.f11 rfl rfl rfl rfl rfl rfl rfl ⟨rfl, rfl, rfl, rfl, rfl⟩ rfl rfl rfl rfl rfl (by kernel_rfl) Try.func11 (by kernel_rfl)
    (of_decide_eq_true (by kernel_rfl)) (by unfold Func.isWrapper; first | (rw [if_pos (by decide +kernel)]; kernel_rfl) | (rw [if_neg (by decide +kernel)]; exact ⟨rfl, rfl⟩))
    (fun os started H enc _ => lifted os started H enc)

/-- The statement. -/
theorem proved : Rows.FnExactPutCodeSaid :=
  over
#print axioms proved
end Go.Proofs.Ytbnepccneooemaa.fnExactPutCode
