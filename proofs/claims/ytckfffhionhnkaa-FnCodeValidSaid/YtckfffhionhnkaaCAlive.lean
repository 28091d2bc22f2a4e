/- The laws' question whether the program is there at all: it answers true. -/
import Derived.Test.YtckfffhionhnkaaCCode
namespace Go.Proofs.Ytckfffhionhnkaa.CAlive
set_option maxRecDepth 200000
open Go.ChangeShapes Go.WideShapes Go.ChangeAt Go.RowKit Kit CCode
theorem isAlign4 (w : World) : Calls Try.prog 162 #[.int .i64 4] w (Pure (.bool true) w) := by
  go_enter Try.func162, Try.ntmps162
  go_wp2
  go_ret
  exact ⟨rfl, rfl⟩
theorem aligned54 (w : World) : Calls Try.prog 163 #[.int .i64 5, .int .i64 4] w (Pure (.int .i64 8) w) := by
  go_enter Try.func163, Try.ntmps163
  go_wp2
  go_ret
  exact ⟨rfl, rfl⟩
theorem alignUp54 (w : World) : Calls Try.prog 140 #[.int .i64 5, .int .i64 4] w (Pure (.int .i64 8) w) := by
  have hb : inB 5 0 1000000 = true := by decide
  go_enter Try.func140, Try.ntmps140
  go_wp2_with (first | (go_at_call 162; refine (isAlign4 _).mono ?_; rintro e w' ⟨rfl, rfl⟩) | (go_at_call 163; refine (aligned54 _).mono ?_; rintro e w' ⟨rfl, rfl⟩) | (first | (go_at_call 121; refine (within_any _ _ _ _).mono ?_; rintro e w' ⟨rfl, rfl⟩) | (go_at_call 142; refine (hasArg_any _ _).mono ?_; rintro e w' ⟨rfl, rfl⟩) | (go_at_call 143; refine (l1In_any _ _ _ _).mono ?_; rintro e w' ⟨rfl, rfl⟩) | (go_at_call 144; refine (l29Has_any _ _).mono ?_; rintro e w' ⟨rfl, rfl⟩) | fail))
  go_ret
  exact ⟨rfl, rfl⟩
theorem alive_any (w : World) : Calls Try.prog 72 #[] w (Pure (.bool true) w) := by
  go_enter Try.func72, Try.ntmps72
  go_wp2_with (go_at_call 140; refine (alignUp54 _).mono ?_; rintro e w' ⟨rfl, rfl⟩)
  go_ret
  exact ⟨rfl, rfl⟩
end Go.Proofs.Ytckfffhionhnkaa.CAlive
