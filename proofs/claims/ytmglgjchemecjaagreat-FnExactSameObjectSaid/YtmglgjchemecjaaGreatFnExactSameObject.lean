/- FnExactSameObject: The program's SameObject returns what the reference's returns, for all arguments. The statement is closed here out of its walk. No condition: for every input. -/
import Derived.Test.YtmglgjchemecjaaGreatFnExactSameObjectM11
import Derived.Test.YtmglgjchemecjaaGreatRows
set_option linter.unusedSimpArgs false
set_option linter.unusedVariables false
namespace Go.Proofs.YtmglgjchemecjaaGreat.fnExactSameObject
set_option maxRecDepth 200000
open Go.ChangeShapes Go.WideShapes Go.ChangeAt Go.RowKit

theorem own : ownKnob Tryz.prog.godebug = none := by kernel_rfl
theorem laid : laidOutB Tryz.prog = true := by kernel_rfl
theorem reads : ∀ t ∈ Tryz.f3.params.toList, Tryz.prog.readableRec t = true ∧ t < Tryz.prog.types.size := by
  rw [Tryz.params3]
  intro t ht
  simp only [List.mem_cons, List.not_mem_nil, or_false] at ht
  rcases ht with rfl | rfl
  · exact ⟨by kernel_rfl, of_decide_eq_true (by kernel_rfl)⟩
  · exact ⟨by kernel_rfl, of_decide_eq_true (by kernel_rfl)⟩

set_option maxRecDepth 100000 in
theorem lifted (os : Os) (started : os.Started) (H : Type) (enc : TypeId × Value → H) :
    ReturnsInHanded {} Tryz.checked os 3 .any (Rows.fnExactSameObjectSpec.pre6 enc Tryz.prog Tryz.f3 Rows.fnExactSameObjectRow.domain false) (Rows.fnExactSameObjectSpec.post enc Tryz.prog Tryz.f3 false true false false) := by
  refine returnsInHanded_of_change (C := Tryz.checked) own started (by kernel_rfl) Tryz.func3
    (ChangeSpec.witness6 (enc := enc) (C := Tryz.checked) false ⟨#[], #[.agg #[.slice none 0 0, .slice none 0 0], .agg #[.slice none 0 0, .slice none 0 0]], []⟩ 8 (by kernel_rfl) (by kernel_rfl) (by kernel_rfl) (by kernel_rfl)) ?_
  intro W base args ds gs before hval hW _ _
  refine Calls.mono (R := Kit.LawEnds W) ?_ fun e W' h => Kit.law_post laid reads Tryz.underlying4 rfl rfl ?_ hW h
  · obtain ⟨p, q, hA, _⟩ := hW
    have hA' : DataW.TrodAll enc Tryz.prog W 0 (fun _ => true) true Tryz.f3.params.toList args.toList ds p := hA
    rw [Tryz.params3] at hA' hval
    obtain ⟨v0, vs0, d0, ds0, p0, q0, hargs, rfl, _, h0, r0⟩ := trodAll_cons hA'
    obtain ⟨v1, vs1, d1, ds1, p1, q1, rfl, rfl, _, h1, r1⟩ := trodAll_cons r0
    obtain ⟨rfl, rfl, _⟩ := trodAll_nil r1
    obtain rfl : args = #[v0, v1] := by cases args; simp_all
    obtain ⟨o0, rfl, ro0, no0, mo0, po0, yo0, zo0⟩ := In.object_in4 (hval 0 25 _ rfl rfl) h0
    obtain ⟨o1, rfl, ro1, no1, mo1, po1, yo1, zo1⟩ := In.object_in4 (hval 1 25 _ rfl rfl) h1
    exact WFnExactSameObject.walk (w := W) o0 o1 (hr := ro0) (h1 := no0) (h2 := mo0) (h3 := po0) (h4 := yo0) (h5 := zo0) (kr := ro1) (k1 := no1) (k2 := mo1) (k3 := po1) (k4 := yo1) (k5 := zo1)
  · intro ds hd
    rw [Tryz.params3] at hd
    match ds, hd with
    | [d0, d1], _ => rfl

theorem closed : joinedFacts Tryz.prog 3 Tryz.f3 Rows.fnExactSameObjectSpec Rows.fnExactSameObjectRow = true := by
  unfold joinedFacts
  rw [Words.mayEnter, Words.lifted, Words.make]
  kernel_rfl
theorem over : Rows.fnExactSameObjectRow.holds Tryz.pinned (OpenSpec.ofChange Rows.fnExactSameObjectSpec) :=
  OpenClaim.holds_of_wide 3 Tryz.f3 rfl rfl rfl rfl rfl rfl rfl ⟨rfl, rfl, rfl, rfl, rfl⟩ rfl rfl rfl rfl rfl (by kernel_rfl) Tryz.func3 closed
    (of_decide_eq_true (by kernel_rfl)) (by unfold Func.isWrapper; first | (rw [if_pos (by decide +kernel)]; kernel_rfl) | (rw [if_neg (by decide +kernel)]; exact ⟨rfl, rfl⟩))
    (fun os started H enc _ => lifted os started H enc)

/-- The statement. -/
theorem proved : Rows.FnExactSameObjectSaid :=
  over
#print axioms proved
end Go.Proofs.YtmglgjchemecjaaGreat.fnExactSameObject
