/- FnDeskRun: two parts of the lines lead to the same objects, with all answers; there is an answer for every line. The statement is closed here out of its walk. Its card with the given tie: the listed variables read as the text of the program lays them. -/
import Derived.Test.YtepoiphmmjfbdaaGreatDoorFnDeskRunM18
import Derived.Test.YtepoiphmmjfbdaaGreatDoorRows
import Derived.Test.YtepoiphmmjfbdaaGreatDoorCards
import Derived.Test.YtepoiphmmjfbdaaGreatDoorTie
import Derived.ProofKit
import Derived.SevenTiedAt
set_option linter.unusedSimpArgs false
set_option linter.unusedVariables false
namespace Go.Proofs.YtepoiphmmjfbdaaGreatDoor.fnDeskRun
set_option maxRecDepth 200000
open Go Go.ChangeShapes Go.WideShapes Go.ChangeAt Go.RowKit

theorem own : ownKnob Tryz.prog.godebug = none := by kernel_rfl
theorem laid : laidOutB Tryz.prog = true := by kernel_rfl
theorem reads : ∀ t ∈ Tryz.f5.params.toList, Tryz.prog.readableRec t = true ∧ t < Tryz.prog.types.size := by
 rw [Tryz.params5];intro t ht;simp only [List.mem_cons, List.not_mem_nil, or_false] at ht;subst ht;exact ⟨by kernel_rfl, of_decide_eq_true (by kernel_rfl)⟩

set_option maxRecDepth 100000 in
theorem lifted (os : Os) (started : os.Started) (H : Type) (enc : TypeId × Value → H) :
  ReturnsInHanded {} Tryz.checked os 5 .any (fun w args => (Rows.fnDeskRunSpec.pre enc Tryz.prog Tryz.f5 [] false w args ∧ laidMetH Tryz.prog BDoor.laidList w) ∧ sizedMet enc Tryz.prog Tryz.f5 (OpenSpec.ofChange Rows.fnDeskRunSpec) false w args)
   (Rows.fnDeskRunSpec.post enc Tryz.prog Tryz.f5 false true false false) := by
 refine returnsInHanded_of_calls own started (by kernel_rfl)
  (ChangeSpec.witness_shaped (enc := enc) (C := Tryz.checked) (os := os) (X := fun w _ => laidMetH Tryz.prog BDoor.laidList w) false (World.laidAll Tryz.prog os BDoor.laidList) #[.slice none 0 0] 8 (World.laidAll_os _ _ _) (World.shaped_of_ZipB (by kernel_rfl) (by kernel_rfl)) (by kernel_rfl) (by kernel_rfl) (by kernel_rfl) (BDoor.door_met os _)) ?_
 intro w tape i _ hsh _ hok hpre _;obtain ⟨_, _, _, fn', hfn', _, _, _, _, hval⟩ := hok;obtain rfl : fn' = Tryz.f5 := Option.some.inj (hfn'.symm.trans Tryz.func5);obtain ⟨⟨⟨ds, gs, before, hw, _⟩, hx⟩, _⟩ := hpre;have hW := DataW.Whole.of_heap (w' := w.forCall tape i) (by rfl) hw;have HEnv := BDoor.env_of (W := w.forCall tape i) (hx.of_heap (by rfl)) hsh
 refine Calls.mono (R := fun e W' => ∃ v, e = .returned v ∧ Rows.fnDeskRunSpec.post enc Tryz.prog Tryz.f5 false true false false (w.forCall tape i) i.args v W') ?_ (fun e W' h => by
  obtain ⟨v, he, hp⟩ := h;subst he
  exact ChangeSpec.post_blind hp)
 generalize i.args = args at *;generalize hWW : w.forCall tape i = W at *;clear hw hx hsh hWW;refine Calls.mono (R := Kit.LawEnds W) ?_ fun e W' h => Kit.law_post laid reads Tryz.underlying4 rfl rfl ?_ hW h
 ·obtain ⟨p, q, hA, _⟩ := hW;have hA' : DataW.TrodAll enc Tryz.prog W 0 (fun _ => true) true Tryz.f5.params.toList args.toList ds p := hA;rw [Tryz.params5] at hA' hval;obtain ⟨v0, vs0, d0, ds0, p0, q0, hargs, rfl, _, h0, r0⟩ := trodAll_cons hA';obtain ⟨rfl, rfl, _⟩ := trodAll_nil r0
  obtain rfl : args = #[v0] := by cases args; simp_all
  obtain ⟨A0, zs0, c0, rfl, hl0, hc0, hr0, hz0⟩ := Kit.arg_bytes Tryz.underlying22 Tryz.underlying5 (hval 0 22 _ rfl rfl) h0;exact WFnDeskRun.walk (w := W) A0 zs0 c0 hl0 hc0 hz0 hr0 (he := HEnv)
 ·intro ds hd;rw [Tryz.params5] at hd
  match ds, hd with
  | [d0], _ => rfl

theorem over : Rows.fnDeskRunRow.holds Tryz.pinned (OpenSpec.ofChange Rows.fnDeskRunSpec) :=
 OpenClaim.holds_of_wide 5 Tryz.f5 rfl rfl rfl rfl rfl rfl rfl ⟨rfl, rfl, rfl, rfl, rfl⟩ rfl rfl rfl rfl rfl (by kernel_rfl) Tryz.func5 (by kernel_rfl)
  (of_decide_eq_true (by kernel_rfl)) (by unfold Func.isWrapper; first | (rw [if_pos (by decide +kernel)]; kernel_rfl) | (rw [if_neg (by decide +kernel)]; exact ⟨rfl, rfl⟩))
  (fun os started H enc _ => lifted os started H enc)

theorem proved : Rows.FnDeskRunCardSaid :=
 Claim7.holds_tied_plain_at .later [] [.data, .data, .data, .data, .sentinel, .sentinel, .pinned] true (true, "2344b82d880c561603bcf953aeee54f158b9bdc5546bd77c1b4e85c88555ca10") true
  over (fun _ h => by cases h) (by kernel_rfl) (fun _ h => by cases h) fnDeskRun_row_tie rfl ⟨rfl, rfl⟩ (by kernel_rfl) rfl
  (fun f fn hf hfn => by
   obtain rfl : f = 5 := Option.some.inj ((show Tryz.prog.funcNamed "loop.example/objectlinker/laws.FnDeskRun" = some 5 by kernel_rfl).symm.trans hf) |>.symm;obtain rfl : fn = Tryz.f5 := (Option.some.inj (Tryz.func5.symm.trans hfn)).symm
   exact ⟨by kernel_rfl, fun j t ht => by
    rw [Tryz.params5] at ht
    have hm : t ∈ [22] := by simpa using Array.mem_of_getElem? ht
    have hall : ([22].all fun u => !Tryz.prog.wantsStandIn u) = true := by kernel_rfl
    exact (show Tryz.prog.wantsStandIn t = false by simpa using List.all_eq_true.1 hall t hm)⟩)
  (by kernel_rfl)
#print axioms proved
end Go.Proofs.YtepoiphmmjfbdaaGreatDoor.fnDeskRun
