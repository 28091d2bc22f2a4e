/- The walk of FnPutVar: short numbers can be read. -/
import Derived.Test.YtndnmbhhfiacaaaDInts
import Derived.Test.YtndnmbhhfiacaaaCGetVar
import Derived.Test.YtndnmbhhfiacaaaPRows
import Derived.Test.YtndnmbhhfiacaaaCSame
import Derived.Test.YtndnmbhhfiacaaaCAlive
namespace Go.Proofs.Ytndnmbhhfiacaaa.WFnPutVar
set_option maxRecDepth 200000
open Go.ChangeShapes Go.WideShapes Go.ChangeAt Go.RowKit Kit CCode PVar CPutVar CGetVar PRows CSame DPick DVar DInts CAlive
theorem walk (A : Option Addr) (zs : List Int) (c : Nat) (hl : zs.length ≤ c) (hc : c ≤ maxLen) (hz : InR 0 255 zs) (w : World) (hr : Rd w w.heap.size A (ints .u8 zs)) :
    Calls Try.prog 10 #[.slice A zs.length c] w (LawEnds w) := by
  obtain ⟨i0, hi, hz0, hz1, hz2⟩ := info_parts CPutVar.info8
  have hcm := hc
  unfold maxLen at hcm
  have HD := hide (drawPutVar_any hr hz hl hc)
  clear hr hz hc
  by_cases hbig : 1048576 < zs.length
  · go_enter Try.func10, Try.ntmps10
    go_wp2_with fail
    go_ret
    exact ⟨rfl, Below.refl _ _⟩
  go_enter Try.func10, Try.ntmps10
  go_wp2_with fail
  refine HD.out.mono ?_
  rintro e w1 ⟨n, rfl, n0, n1, b1⟩
  have HB := hide b1
  clear b1
  go_wp2_with fail
  refine (putVar_any n w1).mono ?_
  rintro e w2 ⟨A2, c2, rfl, o2, b2⟩
  have HO2 := hide (own_base o2 HB.out.size)
  have HB2 := hide (HB.out.trans (b2.mono HB.out.size))
  clear b2 o2 HB
  go_wp2_with fail
  refine (putVarS_any n w2).mono ?_
  rintro e w3 ⟨A3, c3, rfl, o3, b3⟩
  have HO3 := hide (own_call b3 HO2.out)
  have HR3 := hide (Rd.of_own o3)
  have HB3 := hide (HB2.out.trans (b3.mono HB2.out.size))
  have hl4 := var_len4 n
  clear b3 o3 HO2 HB2
  go_wp2_with fail
  refine (sameBytes_any A2 A3 (var n) (var n) c2 c3 w3.heap.size w3 (Rd.of_own HO3.out) HR3.out (by unfold maxLen; omega) (by unfold maxLen; omega)).mono ?_
  rintro e w' ⟨rfl, m, rfl⟩
  rw [beq_self_eq_true]
  have HB4 := hide (Kit.Below.drewN HB3.out m)
  have HO4 := hide (own_drawn (w' := w3.drewN m) HO3.out rfl)
  generalize w3.drewN m = w4 at *
  clear HR3 HB3 HO3
  by_cases hn : 0 ≤ n ∧ n ≤ 268435455
  · obtain ⟨k, rfl⟩ := Int.eq_ofNat_of_zero_le hn.1
    have hk : k ≤ 268435455 := by omega
    rw [var_nat hk] at hl4 HO4 ⊢
    have hp := varN_pos0 k
    have HG := hide (getV_put (pre := [200, 7]) (n := k) (r := [9]) hk)
    have HI := hide (varN_bd k).2
    generalize varN k = v at *
    have hne : ((v.length : Int) == 0) = false := beq_eq_false_iff_ne.2 (by omega)
    have hd0 : decide ((v.length : Int) ≤ 4) = true := decide_eq_true (by omega)
    clear hn n0 n1
    have HO5 := hide (HO4.out.alloc (.cells #[.int .u8 200, .int .u8 7] 5))
    have HE5 : Hid ((w4.alloc (.cells #[.int .u8 200, .int .u8 7] 5)).ownsRow w.heap.size 5 1 (.slice (some ⟨w4.heap.size, 0, none⟩) 2 2) 2 (ints .u8 [200, 7])) := World.ownsRow_lit (base := w.heap.size) (e := 5) (size := 1) w4 #[.int .u8 200, .int .u8 7] 2 HB4.out.size (by unfold maxLen; omega) rfl
    have HB5 := hide (HB4.out.alloc HB4.out.size (.cells #[.int .u8 200, .int .u8 7] 5))
    clear HO4 HB4
    go_wp2_with (at_builtin; refine wpList_appO _ rfl (.tmp 32) (.tmp 33) 22 rfl w.heap.size _ 5 i0 (.int .u8 0) 1 1 Try.underlying22 hi hz0 hz1 hz2 rfl (by decide) _ _ _ _ rfl HO5.out oneI _ _ _ rfl HE5.out ?n1 ?n2 ?n3 ?_)
    case n1 => unfold maxLen; omega
    case n2 => omega
    case n3 => exact HB5.out.size
    intro A6 n6 c6 w6 hn6 o6 g6
    subst hn6
    have HB6 := hide (HB5.out.grown g6 HB5.out.size (fun k hk => (HE5.out.lt k hk).1))
    have o6 : w6.ownsRow w.heap.size 5 1 (.slice A6 (2 + v.length) c6) (2 + v.length) (ints .u8 ([200, 7] ++ v)) := o6
    have HO6 := hide o6
    have hs6 := HB6.out.size
    clear o6 g6 HO5 HE5 HB5
    go_wp2_with (at_builtin; refine wpList_app1 w6 rfl (.tmp 34) (.tmp 35) 22 rfl w.heap.size 5 i0 (.int .u8 0) 1 1 Try.underlying22 hi hz0 hz1 hz2 rfl (by decide) _ rfl rfl ?o1 _ _ _ rfl HO6.out ?n1 ?n2 ?n3 ?_)
    case o1 => rfl
    case n1 => unfold maxLen; omega
    case n2 => omega
    case n3 => exact hs6
    intro A7 n7 c7 w7 hn7 o7 g7
    have HB7 := hide (HB6.out.grown g7 hs6 (fun k hk => (HO6.out.lt k hk).1))
    have o7 : w7.ownsRow w.heap.size 5 1 (.slice A7 n7 c7) n7 (ints .u8 ([200, 7] ++ (v ++ [9]))) := by
      have e : ints .u8 ([200, 7] ++ (v ++ [9])) = ints .u8 ([200, 7] ++ v) ++ [Value.int .u8 9] := by simp [ints]
      rw [e]
      exact o7
    have hn7' : n7 = ([200, 7] ++ (v ++ [9]) : List Int).length := by rw [hn7]; simp; omega
    clear hn7 g7 HO6 HB6
    subst hn7'
    have hcap := own_cap o7
    have HO7 := hide o7
    clear o7
    have HZ7 : Hid (InR 0 255 ([200, 7] ++ (v ++ [9]))) := fun x hx => by
      simp only [List.mem_append, List.mem_cons, List.not_mem_nil, or_false] at hx
      rcases hx with (rfl | rfl) | hx | rfl
      · omega
      · omega
      · exact HI.out x hx
      · omega
    have hl7 : ([200, 7] ++ (v ++ [9]) : List Int).length ≤ 1048576 := by simp; omega
    have HGV := hide (getVar_any A7 ([200, 7] ++ (v ++ [9])) c7 2 w7 (Rd.of_own HO7.out) HZ7.out hl7 hcap (by omega) (by omega))
    generalize ([200, 7] ++ (v ++ [9]) : List Int) = zs7 at *
    have e2 : getV zs7 2 = ((k : Int), 2 + (v.length : Int)) := by
      have h := HG.out
      have e : (([200, 7] : List Int).length : Int) = 2 := rfl
      rw [e] at h
      rw [h]
      simp
    rw [e2] at HGV
    clear e2 HG hcap HO7 HZ7 hl7 HI
    go_wp2_with fail
    refine HGV.out.mono ?_
    rintro e w8 ⟨rfl, b8⟩
    have HB8 := hide (HB7.out.trans (b8.mono HB7.out.size))
    clear b8 HB7 HGV
    go_wp2_with fail
    all_goals (go_ret; exact ⟨ret_bool (by first | rfl | (simp; done) | (simp; omega) | omega), HB8.out⟩)
  · have e : var n = [] := by rw [var, inB_f hn]; rfl
    rw [e]
    clear e HO4
    by_cases hneg : n < 0
    · clear hn
      go_wp2_with fail
      refine (alive_any _).mono ?_
      rintro e w' ⟨rfl, rfl⟩
      go_wp2_with fail
      go_ret
      exact ⟨rfl, HB4.out⟩
    · have hgt : 268435455 < n := by omega
      have h0 : decide (n < 0) = false := decide_eq_false hneg
      clear hn hneg
      go_wp2_with fail
      refine (alive_any _).mono ?_
      rintro e w' ⟨rfl, rfl⟩
      go_wp2_with fail
      go_ret
      exact ⟨rfl, HB4.out⟩
end Go.Proofs.Ytndnmbhhfiacaaa.WFnPutVar
