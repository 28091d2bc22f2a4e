/- Draws that hand back one number. -/
import Derived.Test.YtckfffhionhnkaaDVar
namespace Go.Proofs.Ytckfffhionhnkaa.DInts
set_option maxRecDepth 200000
open Go.ChangeShapes Go.WideShapes Go.ChangeAt Go.RowKit Kit DPick DVar
def DrawnInt (lo hi : Int) (w : World) (e : Ending) (w' : World) : Prop := ∃ x : Int, e = .returned (.int .i64 x) ∧ lo ≤ x ∧ x ≤ hi ∧ Below w.heap.size w w'
section
variable {A : Option Addr} {zs : List Int} {c : Nat} {w : World} (hr : Rd w w.heap.size A (ints .u8 zs)) (hz : InR 0 255 zs) (hc : zs.length ≤ c) (hcm : c ≤ maxLen)
include hr hz hc hcm
theorem drawVarSize_any : Calls Try.prog 88 #[.slice A zs.length c] w (DrawnInt (-1) 268435456 w) := by
  have HO := hide (open_any A zs c w hr hz hc hcm)
  clear hr hz hc hcm
  go_enter Try.func88, Try.ntmps88
  go_wp2_with fail
  refine HO.out.mono ?_
  rintro e w1 ⟨R, rfl, T, b1⟩
  have T0 := Tp.start T
  go_wp2_with fail
  refine (var_any T0 (by omega) _ (by omega) (by omega)).mono ?_
  rintro e w2 ⟨x, rfl, x0, x1, T2⟩
  go_wp2_with fail
  go_ret
  exact ⟨x, rfl, x0, x1, b1.trans (T2.below b1.size T.1)⟩
theorem drawPutVar_any : Calls Try.prog 104 #[.slice A zs.length c] w (DrawnInt (-1) 268435456 w) := by
  have HO := hide (open_any A zs c w hr hz hc hcm)
  clear hr hz hc hcm
  go_enter Try.func104, Try.ntmps104
  go_wp2_with fail
  refine HO.out.mono ?_
  rintro e w1 ⟨R, rfl, T, b1⟩
  have T0 := Tp.start T
  go_wp2_with fail
  refine (var_any T0 (by omega) _ (by omega) (by omega)).mono ?_
  rintro e w2 ⟨x, rfl, x0, x1, T2⟩
  go_wp2_with fail
  go_ret
  exact ⟨x, rfl, x0, x1, b1.trans (T2.below b1.size T.1)⟩
theorem drawZigZag_any : Calls Try.prog 83 #[.slice A zs.length c] w (DrawnInt (-134217728) 134217728 w) := by
  have HO := hide (open_any A zs c w hr hz hc hcm)
  clear hr hz hc hcm
  go_enter Try.func83, Try.ntmps83
  go_wp2_with fail
  refine HO.out.mono ?_
  rintro e w1 ⟨R, rfl, T', b1⟩
  have T := Tp.start T'
  have HT := hide T'
  clear T'
  go_wp2_with (first | (go_at_call 154; refine (odd_tp (by first | with_reducible assumption | exact Tp.alloc (by with_reducible assumption) _ | exact Tp.alloc (Tp.alloc (by with_reducible assumption) _) _ | exact Tp.drewN (by with_reducible assumption) _ | exact Tp.drew (by with_reducible assumption) | exact Tp.drawn (by with_reducible assumption) | exact Tp.alloc (Tp.drewN (by with_reducible assumption) _) _ | exact Tp.alloc (Tp.drew (by with_reducible assumption)) _ | exact Tp.alloc (Tp.alloc (Tp.alloc (by with_reducible assumption) _) _) _) (by omega) _ (by omega) (by omega)).mono ?_; rintro e w1 ⟨bo, rfl, T⟩) | (go_at_call 145; refine (pick_lit2 (by with_reducible assumption) (by omega) _ (by omega) (by omega) (by repeat (first | exact List.forall_mem_nil _ | refine List.forall_mem_cons.2 ⟨⟨_, rfl⟩, ?_⟩)) (by repeat (first | exact List.forall_mem_nil _ | refine List.forall_mem_cons.2 ⟨⟨_, rfl, by simp, by simp⟩, ?_⟩)) (by simp)).mono ?_; rintro e w1 ⟨x, rfl, x0, x1, T, g, z, y, hm, hz, z0, z1, hn, hy⟩; simp only [List.mem_cons, Value.int.injEq, true_and, List.not_mem_nil, or_false] at hm hn) | (go_at_call 145; refine (pick_lit (by with_reducible assumption) (by omega) _ (by omega) (by omega) (by repeat (first | exact List.forall_mem_nil _ | refine List.forall_mem_cons.2 ⟨⟨_, rfl⟩, ?_⟩)) (by simp)).mono ?_; rintro e w1 ⟨x, rfl, x0, x1, T, g, z, hm, hz⟩; simp only [List.mem_cons, Value.int.injEq, true_and, List.not_mem_nil, or_false] at hm) | (go_at_call 145; refine (pick_tp (by first | with_reducible assumption | exact Tp.alloc (by with_reducible assumption) _ | exact Tp.alloc (Tp.alloc (by with_reducible assumption) _) _ | exact Tp.drewN (by with_reducible assumption) _ | exact Tp.drew (by with_reducible assumption) | exact Tp.drawn (by with_reducible assumption) | exact Tp.alloc (Tp.drewN (by with_reducible assumption) _) _ | exact Tp.alloc (Tp.drew (by with_reducible assumption)) _ | exact Tp.alloc (Tp.alloc (Tp.alloc (by with_reducible assumption) _) _) _) (by omega) _ (by omega) (by omega)).mono ?_; rintro e w1 ⟨x, rfl, x0, x1, T, g⟩))
  all_goals (go_ret; exact ⟨_, rfl, by omega, by omega, b1.trans (T.below b1.size HT.out.1)⟩)
theorem drawUnZigZag_any : Calls Try.prog 76 #[.slice A zs.length c] w (DrawnInt (-1) 268435455 w) := by
  have HO := hide (open_any A zs c w hr hz hc hcm)
  clear hr hz hc hcm
  go_enter Try.func76, Try.ntmps76
  go_wp2_with fail
  refine HO.out.mono ?_
  rintro e w1 ⟨R, rfl, T', b1⟩
  have T := Tp.start T'
  have HT := hide T'
  clear T'
  go_wp2_with (first | (go_at_call 154; refine (odd_tp (by first | with_reducible assumption | exact Tp.alloc (by with_reducible assumption) _ | exact Tp.alloc (Tp.alloc (by with_reducible assumption) _) _ | exact Tp.drewN (by with_reducible assumption) _ | exact Tp.drew (by with_reducible assumption) | exact Tp.drawn (by with_reducible assumption) | exact Tp.alloc (Tp.drewN (by with_reducible assumption) _) _ | exact Tp.alloc (Tp.drew (by with_reducible assumption)) _ | exact Tp.alloc (Tp.alloc (Tp.alloc (by with_reducible assumption) _) _) _) (by omega) _ (by omega) (by omega)).mono ?_; rintro e w1 ⟨bo, rfl, T⟩) | (go_at_call 145; refine (pick_lit2 (by with_reducible assumption) (by omega) _ (by omega) (by omega) (by repeat (first | exact List.forall_mem_nil _ | refine List.forall_mem_cons.2 ⟨⟨_, rfl⟩, ?_⟩)) (by repeat (first | exact List.forall_mem_nil _ | refine List.forall_mem_cons.2 ⟨⟨_, rfl, by simp, by simp⟩, ?_⟩)) (by simp)).mono ?_; rintro e w1 ⟨x, rfl, x0, x1, T, g, z, y, hm, hz, z0, z1, hn, hy⟩; simp only [List.mem_cons, Value.int.injEq, true_and, List.not_mem_nil, or_false] at hm hn) | (go_at_call 145; refine (pick_lit (by with_reducible assumption) (by omega) _ (by omega) (by omega) (by repeat (first | exact List.forall_mem_nil _ | refine List.forall_mem_cons.2 ⟨⟨_, rfl⟩, ?_⟩)) (by simp)).mono ?_; rintro e w1 ⟨x, rfl, x0, x1, T, g, z, hm, hz⟩; simp only [List.mem_cons, Value.int.injEq, true_and, List.not_mem_nil, or_false] at hm) | (go_at_call 145; refine (pick_tp (by first | with_reducible assumption | exact Tp.alloc (by with_reducible assumption) _ | exact Tp.alloc (Tp.alloc (by with_reducible assumption) _) _ | exact Tp.drewN (by with_reducible assumption) _ | exact Tp.drew (by with_reducible assumption) | exact Tp.drawn (by with_reducible assumption) | exact Tp.alloc (Tp.drewN (by with_reducible assumption) _) _ | exact Tp.alloc (Tp.drew (by with_reducible assumption)) _ | exact Tp.alloc (Tp.alloc (Tp.alloc (by with_reducible assumption) _) _) _) (by omega) _ (by omega) (by omega)).mono ?_; rintro e w1 ⟨x, rfl, x0, x1, T, g⟩))
  all_goals (go_ret; exact ⟨_, rfl, by omega, by omega, b1.trans (T.below b1.size HT.out.1)⟩)
end
end Go.Proofs.Ytckfffhionhnkaa.DInts
