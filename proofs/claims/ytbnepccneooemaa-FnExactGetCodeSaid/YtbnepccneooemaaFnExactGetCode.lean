/- FnExactGetCode: The program's GetCode returns what the reference's returns, for all arguments. The statement is closed here out of its walk. No condition: for every input. -/
import Derived.Test.YtbnepccneooemaaRows
import Derived.Test.YtbnepccneooemaaBase
import Derived.Test.YtbnepccneooemaaWFnExactGetCode
namespace Go.Proofs.Ytbnepccneooemaa.fnExactGetCode
set_option maxRecDepth 200000
open Go.ChangeShapes Go.WideShapes Go.ChangeAt Go.RowKit

theorem own : ownKnob Try.prog.godebug = none := by kernel_rfl
theorem laid : laidOutB Try.prog = true := by kernel_rfl
theorem reads : ∀ t ∈ Try.f10.params.toList, Try.prog.readableRec t = true ∧ t < Try.prog.types.size := by
  rw [Try.params10]
  intro t ht
  simp only [List.mem_cons, List.not_mem_nil, or_false] at ht
  rcases ht with rfl | rfl
  · exact ⟨by kernel_rfl, of_decide_eq_true (by kernel_rfl)⟩
  · exact ⟨by kernel_rfl, of_decide_eq_true (by kernel_rfl)⟩

set_option maxRecDepth 100000 in
theorem lifted (os : Os) (started : os.Started) (H : Type) (enc : TypeId × Value → H) :
    ReturnsInHanded {} Try.checked os 10 .any (Rows.fnExactGetCodeSpec.pre6 enc Try.prog Try.f10 Rows.fnExactGetCodeRow.domain false) (Rows.fnExactGetCodeSpec.post enc Try.prog Try.f10 false true false false) := by
  refine returnsInHanded_of_change (C := Try.checked) own started (by kernel_rfl) Try.func10
    (ChangeSpec.witness6 (enc := enc) (C := Try.checked) false ⟨#[], #[.slice none 0 0, .int .i64 0], []⟩ 8 (by kernel_rfl) (by kernel_rfl) (by kernel_rfl) (by kernel_rfl)) ?_
  intro W base args ds gs before hval hW _ _
  refine Calls.mono (R := Kit.LawEnds W) ?_ fun e W' h => Kit.law_post laid reads Try.underlying4 rfl rfl ?_ hW h
  · obtain ⟨p, q, hA, _⟩ := hW
    have hA' : DataW.TrodAll enc Try.prog W 0 (fun _ => true) true Try.f10.params.toList args.toList ds p := hA
    rw [Try.params10] at hA' hval
    obtain ⟨v0, vs0, d0, ds0, p0, q0, hargs, rfl, _, h0, r0⟩ := trodAll_cons hA'
    obtain ⟨v1, vs1, d1, ds1, p1, q1, rfl, rfl, _, h1, r1⟩ := trodAll_cons r0
    obtain ⟨rfl, rfl, _⟩ := trodAll_nil r1
    obtain rfl : args = #[v0, v1] := by cases args; simp_all
    obtain ⟨A0, zs0, c0, rfl, hl0, hc0, hr0, hz0⟩ := Kit.arg_bytes Try.underlying29 Try.underlying5 (hval 0 29 _ rfl rfl) h0
    obtain ⟨a1, rfl, _, _, wf1⟩ := open_int Try.underlying3 (hval 1 3 _ rfl rfl) h1
    obtain ⟨lo1, hi1⟩ := Kit.wf_bounds wf1
    exact WFnExactGetCode.walk (w := W) A0 zs0 c0 hl0 hc0 hz0 hr0 a1 lo1 hi1
  · intro ds hd
    rw [Try.params10] at hd
    match ds, hd with
    | [d0, d1], _ => rfl

theorem over : Rows.fnExactGetCodeRow.holds Try.pinned (OpenSpec.ofChange Rows.fnExactGetCodeSpec) :=
  OpenClaim.holds_of_wide 10 Try.f10 rfl rfl rfl rfl rfl rfl rfl ⟨rfl, rfl, rfl, rfl, rfl⟩ rfl rfl rfl rfl rfl (by kernel_rfl) Try.func10 (by kernel_rfl)
    (of_decide_eq_true (by kernel_rfl)) (by unfold Func.isWrapper; first | (rw [if_pos (by decide +kernel)]; kernel_rfl) | (rw [if_neg (by decide +kernel)]; exact ⟨rfl, rfl⟩))
    (fun os started H enc _ => lifted os started H enc)

/-- The statement. -/
theorem proved : Rows.FnExactGetCodeSaid :=
  over
#print axioms proved
end Go.Proofs.Ytbnepccneooemaa.fnExactGetCode
