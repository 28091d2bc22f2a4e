/- FnReadCode: accepted texts are canonical. The statement is closed here out of its walk. Its card with the given tie: the listed variables read as the text of the program lays them. -/
import Derived.Test.YtjnnjgogpapbhaaDoorRows
import Derived.Test.YtjnnjgogpapbhaaDoorBase
import Derived.Test.YtjnnjgogpapbhaaDoorCards
import Derived.Test.YtjnnjgogpapbhaaDoorTie
import Derived.Test.YtjnnjgogpapbhaaDoorBErr
import Derived.ProofKit
import Derived.SevenTiedAt
import Derived.Test.YtjnnjgogpapbhaaDoorWFnReadCode
namespace Go.Proofs.YtjnnjgogpapbhaaDoor.fnReadCode
set_option maxRecDepth 200000
open Go Go.ChangeShapes Go.WideShapes Go.ChangeAt Go.RowKit

theorem own : ownKnob Tryd.prog.godebug = none := by kernel_rfl
theorem laid : laidOutB Tryd.prog = true := by kernel_rfl
theorem reads : ∀ t ∈ Tryd.f8.params.toList, Tryd.prog.readableRec t = true ∧ t < Tryd.prog.types.size := by
  rw [Tryd.params8]
  intro t ht
  simp only [List.mem_cons, List.not_mem_nil, or_false] at ht
  subst ht
  exact ⟨by kernel_rfl, of_decide_eq_true (by kernel_rfl)⟩

/-- What the row lists. -/
def laidList : List (String × DataW Unit) := [("math/bits.deBruijn32tab", Rows.laid_math_bits_deBruijn32tab), ("math/bits.deBruijn64tab", Rows.laid_math_bits_deBruijn64tab), ("internal/strconv.uint64pow10", Rows.laid_internal_strconv_uint64pow10), ("strconv.ErrRange", Rows.laid_strconv_ErrRange), ("strconv.ErrSyntax", Rows.laid_strconv_ErrSyntax), ("loop.example/objectlinker/impl.codeWords", Rows.laid_loop_example_objectlinker_impl_codeWords)]
set_option maxRecDepth 100000 in
theorem door_met (os : Os) (args : Array Value) : laidMetH Tryd.prog laidList ((World.doorLaid Tryd.prog 67 os).forCall (fun _ _ => 0) ⟨#[], args, []⟩).memory :=
  laidMetH_of_parts3 (fuel := 8) (laidMet_of_run' 8 (by kernel_rfl) (by kernel_rfl)) (by kernel_rfl) (by kernel_rfl)

set_option maxRecDepth 100000 in
theorem lifted (os : Os) (started : os.Started) (H : Type) (enc : TypeId × Value → H) :
    ReturnsInHanded {} Tryd.checked os 8 .any (fun w args => (Rows.fnReadCodeSpec.pre enc Tryd.prog Tryd.f8 [] false w args ∧ laidMetH Tryd.prog laidList w) ∧ sizedMet enc Tryd.prog Tryd.f8 (OpenSpec.ofChange Rows.fnReadCodeSpec) false w args)
      (Rows.fnReadCodeSpec.post enc Tryd.prog Tryd.f8 false true false false) := by
  refine returnsInHanded_of_change_and (C := Tryd.checked) (X := fun w _ => laidMetH Tryd.prog laidList w) (fun _ _ _ hh h => h.of_heap hh) own started (by kernel_rfl) Tryd.func8
    (ChangeSpec.witness_shaped (enc := enc) (C := Tryd.checked) (os := os) (X := fun w _ => laidMetH Tryd.prog laidList w) false (World.doorLaid Tryd.prog 67 os) #[.slice none 0 0] 8 rfl (World.shaped_of_RefB (by kernel_rfl) (by kernel_rfl)) (by kernel_rfl) (by kernel_rfl) (by kernel_rfl) (door_met os _)) ?_
  intro W base args ds gs before hval hW _ _ hX _
  refine Calls.mono (R := Kit.LawEnds W) ?_ fun e W' h => BLaid.law_post_vars laid reads Tryd.underlying4 rfl (by kernel_rfl) ?_ hW h
  · have hL : laidMet Tryd.prog laidList W := by
      have h := hX
      rw [MakeChecks.laidMetH_plain _ _ _ (by kernel_rfl)] at h
      exact h
    obtain ⟨p, q, hA, _⟩ := hW
    have hA' : DataW.TrodAll enc Tryd.prog W 0 (fun _ => true) true Tryd.f8.params.toList args.toList ds p := hA
    rw [Tryd.params8] at hA' hval
    obtain ⟨v0, vs0, d0, ds0, p0, q0, hargs, rfl, _, h0, r0⟩ := trodAll_cons hA'
    obtain ⟨rfl, rfl, _⟩ := trodAll_nil r0
    obtain rfl : args = #[v0] := by cases args; simp_all
    obtain ⟨A0, zs0, c0, rfl, hl0, hc0, hr0, hz0⟩ := Kit.arg_bytes Tryd.underlying35 Tryd.underlying5 (hval 0 35 _ rfl rfl) h0
    exact WFnReadCode.walk (w := W) A0 zs0 c0 hl0 hc0 hz0 hr0 (hT := BLaid.tab_of hL.tail.tail) (hR := BErr.range_of hL.tail.tail.tail) (hS := BErr.wrong_of hL.tail.tail.tail.tail) (hL := BLaid.lw_of hL.tail.tail.tail.tail.tail)
  · intro ds gs hd hg
    rw [Tryd.params8] at hd
    match ds, hd, gs, hg with
    | [d0], _, [g0], _ => rfl

theorem over : Rows.fnReadCodeRow.holds Tryd.pinned (OpenSpec.ofChange Rows.fnReadCodeSpec) :=
  OpenClaim.holds_of_wide 8 Tryd.f8 rfl rfl rfl rfl rfl rfl rfl ⟨rfl, rfl, rfl, rfl, rfl⟩ rfl rfl rfl rfl rfl (by kernel_rfl) Tryd.func8 (by kernel_rfl)
    (of_decide_eq_true (by kernel_rfl)) (by unfold Func.isWrapper; first | (rw [if_pos (by decide +kernel)]; kernel_rfl) | (rw [if_neg (by decide +kernel)]; exact ⟨rfl, rfl⟩))
    (fun os started H enc _ => lifted os started H enc)

/-- The statement. -/
theorem proved : Rows.FnReadCodeCardSaid :=
  Claim7.holds_tied_plain_at .later [] [.data, .data, .data, .sentinel, .sentinel, .data] true (true, "6166115977c2bbf71b48d621c1e15715c29496045f54e4c9683462fc4c4a1d8e") true
    over (fun _ h => by cases h) (by kernel_rfl) (fun _ h => by cases h) fnReadCode_row_tie rfl ⟨rfl, rfl⟩ (by kernel_rfl) rfl
    (fun f fn hf hfn => by
      obtain rfl : f = 8 := Option.some.inj ((show Tryd.prog.funcNamed "loop.example/objectlinker/laws.FnReadCode" = some 8 by kernel_rfl).symm.trans hf) |>.symm
      obtain rfl : fn = Tryd.f8 := (Option.some.inj (Tryd.func8.symm.trans hfn)).symm
      exact ⟨by kernel_rfl, fun j t ht => by
        rw [Tryd.params8] at ht
        have hm : t ∈ [35] := by simpa using Array.mem_of_getElem? ht
        have hall : ([35].all fun u => !Tryd.prog.wantsStandIn u) = true := by kernel_rfl
        exact (show Tryd.prog.wantsStandIn t = false by simpa using List.all_eq_true.1 hall t hm)⟩)
    (by kernel_rfl)
#print axioms proved
end Go.Proofs.YtjnnjgogpapbhaaDoor.fnReadCode
