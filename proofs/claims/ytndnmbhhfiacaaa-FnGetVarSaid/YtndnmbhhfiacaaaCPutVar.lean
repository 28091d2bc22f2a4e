/- Contracts of PutVar and VarSize, the program's and the reference's. -/
import Derived.Test.YtndnmbhhfiacaaaCCode
import Derived.Test.YtndnmbhhfiacaaaPVar
namespace Go.Proofs.Ytndnmbhhfiacaaa.CPutVar
set_option maxRecDepth 200000
open Go.ChangeShapes Go.WideShapes Go.ChangeAt Go.RowKit Kit CCode PVar
theorem info8 : (Try.prog.info? 5).map (fun i => (i.zero, i.size, i.bytes)) = some (some (.int .u8 0), 1, 1) := by kernel_rfl
theorem putVar_yes (n : Nat) (hn : n ≤ 268435455) (w : World) :
    Calls Try.prog 48 #[.int .i64 n] w (RetInts 5 .u8 (varN n) w) := by
  obtain ⟨i0, hi, hz0, hz1, hz2⟩ := info_parts info8
  have hb := inB_t (n := n) (lo := 0) (hi := 268435455) (by omega)
  go_enter Try.func48, Try.ntmps48
  go_wp2_with (first | (go_at_call 109; refine (within_any _ _ _ _).mono ?_; rintro e w' ⟨rfl, rfl⟩) | (go_at_call 128; refine (hasArg_any _ _).mono ?_; rintro e w' ⟨rfl, rfl⟩) | (go_at_call 110; refine (l1In_any _ _ _ _).mono ?_; rintro e w' ⟨rfl, rfl⟩) | (go_at_call 129; refine (l29Has_any _ _).mono ?_; rintro e w' ⟨rfl, rfl⟩) | fail)
  clear hb
  have ho0 := own_empty (w := w) (E := 5)
  have hb0 : Below w.heap.size w (w.alloc (.cells #[] 5)) := (by repeat (first | exact Below.refl _ _ | with_reducible assumption | (refine Below.drew ?_) | (refine Below.drewN ?_ _) | (refine Below.alloc ?_ (by simp; try omega) _) | (refine Below.setCell ?_ (by simp; try omega) _)))
  go_loopw [0, 3] (fun n' v wr => ∃ (m : Nat) (pre : List Int) (A : Option Addr) (l c : Nat), l = pre.length ∧ m ≤ n ∧ l + m ≤ n + 1 ∧ n' = .int .i64 m ∧ v = .slice A l c ∧ pre ++ varN m = varN n ∧ wr.ownsRow w.heap.size 5 1 (.slice A l c) l (ints .u8 pre) ∧ Below w.heap.size w wr) (fun n' _ _ => (intOf n').toNat)
  case atStart => exact ⟨n, [], _, _, _, rfl, Nat.le_refl _, by simp, rfl, rfl, rfl, ho0, hb0⟩
  case round =>
    obtain ⟨m, pre, A, l, c, hl, hm, hlm, rfl, rfl, hpre, ho, hb⟩ := hrel
    have HL := hide hl
    have HP := hide hpre
    have HO := hide ho
    have HB := hide hb
    clear hl hpre ho hb ho0 hb0
    by_cases h : 127 < m
    · have hbyte : bits BinOp.or .i64 (bits .and .i64 (m : Int) 127) 128 % 256 = (m : Int) % 128 + 128 := by
        rw [and127 m (by omega), or128 _ (by omega)]; omega
      go_wp2_with (at_builtin; refine wpList_app1 wr rfl (.tmp 10) (.tmp 15) 22 rfl w.heap.size 5 i0 (.int .u8 0) 1 1 Try.underlying22 hi hz0 hz1 hz2 rfl (by decide) _ rfl rfl ?o1 _ _ _ rfl HO.out ?n1 ?n2 ?n3 ?_)
      case o1 => first | rfl | (simp; done) | (intro u hu; simp at hu; subst hu; rfl)
      case n1 => unfold maxLen; omega
      case n2 => omega
      case n3 => exact HB.out.size
      intro A' n' c' w' hn' ho' hg'
      subst hn'
      have HO' := hide ho'
      have HB' := hide (HB.out.grown hg' HB.out.size (fun k hk => (HO.out.lt k hk).1))
      clear ho' hg'
      go_wp2
      refine ⟨⟨m / 128, pre ++ [((m % 128 + 128 : Nat) : Int)], A', l + 1, c', ?_, by omega, by omega, by go_num, rfl, ?_, ?_, HB'.out⟩, by simp [intOf]; omega⟩
      · rw [HL.out]; simp
      · rw [List.append_assoc, ← HP.out]
        conv => rhs; rw [varN, if_pos h]
        rfl
      · rw [← ints_snoc]
        exact HO'.out
    · go_wp2_with (at_builtin; refine wpList_app1 wr rfl (.tmp 19) (.tmp 22) 22 rfl w.heap.size 5 i0 (.int .u8 0) 1 1 Try.underlying22 hi hz0 hz1 hz2 rfl (by decide) _ rfl rfl ?o1 _ _ _ rfl HO.out ?n1 ?n2 ?n3 ?_)
      case o1 => first | rfl | (simp; done) | (intro u hu; simp at hu; subst hu; rfl)
      case n1 => unfold maxLen; omega
      case n2 => omega
      case n3 => exact HB.out.size
      intro A' n' c' w' hn' ho' hg'
      subst hn'
      have HO' := hide ho'
      have HB' := hide (HB.out.grown hg' HB.out.size (fun k hk => (HO.out.lt k hk).1))
      clear ho' hg'
      have HV := hide (show varN n = pre ++ [(m : Int)] by rw [← HP.out, varN, if_neg h])
      go_wp2
      go_ret
      refine HV.out ▸ RetInts.mk (by rw [HL.out]; simp) ?_ HB'.out
      rw [← ints_snoc]
      exact HO'.out
theorem putVarS_yes (n : Nat) (hn : n ≤ 268435455) (w : World) :
    Calls Try.prog 50 #[.int .i64 n] w (RetInts 5 .u8 (varN n) w) := by
  obtain ⟨i0, hi, hz0, hz1, hz2⟩ := info_parts info8
  have hb := inB_t (n := n) (lo := 0) (hi := 268435455) (by omega)
  go_enter Try.func50, Try.ntmps50
  go_wp2_with (first | (go_at_call 109; refine (within_any _ _ _ _).mono ?_; rintro e w' ⟨rfl, rfl⟩) | (go_at_call 128; refine (hasArg_any _ _).mono ?_; rintro e w' ⟨rfl, rfl⟩) | (go_at_call 110; refine (l1In_any _ _ _ _).mono ?_; rintro e w' ⟨rfl, rfl⟩) | (go_at_call 129; refine (l29Has_any _ _).mono ?_; rintro e w' ⟨rfl, rfl⟩) | fail)
  clear hb
  have ho0 := own_empty (w := w) (E := 5)
  have hb0 : Below w.heap.size w (w.alloc (.cells #[] 5)) := (by repeat (first | exact Below.refl _ _ | with_reducible assumption | (refine Below.drew ?_) | (refine Below.drewN ?_ _) | (refine Below.alloc ?_ (by simp; try omega) _) | (refine Below.setCell ?_ (by simp; try omega) _)))
  go_loopw [0, 3] (fun n' v wr => ∃ (m : Nat) (pre : List Int) (A : Option Addr) (l c : Nat), l = pre.length ∧ m ≤ n ∧ l + m ≤ n + 1 ∧ n' = .int .i64 m ∧ v = .slice A l c ∧ pre ++ varN m = varN n ∧ wr.ownsRow w.heap.size 5 1 (.slice A l c) l (ints .u8 pre) ∧ Below w.heap.size w wr) (fun n' _ _ => (intOf n').toNat)
  case atStart => exact ⟨n, [], _, _, _, rfl, Nat.le_refl _, by simp, rfl, rfl, rfl, ho0, hb0⟩
  case round =>
    obtain ⟨m, pre, A, l, c, hl, hm, hlm, rfl, rfl, hpre, ho, hb⟩ := hrel
    have HL := hide hl
    have HP := hide hpre
    have HO := hide ho
    have HB := hide hb
    clear hl hpre ho hb ho0 hb0
    by_cases h : 127 < m
    · have hbyte : ((128 : Int) + (m : Int) % 128) % 256 = (m : Int) % 128 + 128 := by
        omega
      go_wp2_with (at_builtin; refine wpList_app1 wr rfl (.tmp 11) (.tmp 16) 22 rfl w.heap.size 5 i0 (.int .u8 0) 1 1 Try.underlying22 hi hz0 hz1 hz2 rfl (by decide) _ rfl rfl ?o1 _ _ _ rfl HO.out ?n1 ?n2 ?n3 ?_)
      case o1 => first | rfl | (simp; done) | (intro u hu; simp at hu; subst hu; rfl)
      case n1 => unfold maxLen; omega
      case n2 => omega
      case n3 => exact HB.out.size
      intro A' n' c' w' hn' ho' hg'
      subst hn'
      have HO' := hide ho'
      have HB' := hide (HB.out.grown hg' HB.out.size (fun k hk => (HO.out.lt k hk).1))
      clear ho' hg'
      go_wp2
      refine ⟨⟨m / 128, pre ++ [((m % 128 + 128 : Nat) : Int)], A', l + 1, c', ?_, by omega, by omega, by go_num, rfl, ?_, ?_, HB'.out⟩, by simp [intOf]; omega⟩
      · rw [HL.out]; simp
      · rw [List.append_assoc, ← HP.out]
        conv => rhs; rw [varN, if_pos h]
        rfl
      · rw [← ints_snoc, show ((m % 128 + 128 : Nat) : Int) = 128 + (m : Int) % 128 from by omega]
        exact HO'.out
    · go_wp2_with (at_builtin; refine wpList_app1 wr rfl (.tmp 20) (.tmp 23) 22 rfl w.heap.size 5 i0 (.int .u8 0) 1 1 Try.underlying22 hi hz0 hz1 hz2 rfl (by decide) _ rfl rfl ?o1 _ _ _ rfl HO.out ?n1 ?n2 ?n3 ?_)
      case o1 => first | rfl | (simp; done) | (intro u hu; simp at hu; subst hu; rfl)
      case n1 => unfold maxLen; omega
      case n2 => omega
      case n3 => exact HB.out.size
      intro A' n' c' w' hn' ho' hg'
      subst hn'
      have HO' := hide ho'
      have HB' := hide (HB.out.grown hg' HB.out.size (fun k hk => (HO.out.lt k hk).1))
      clear ho' hg'
      have HV := hide (show varN n = pre ++ [(m : Int)] by rw [← HP.out, varN, if_neg h])
      go_wp2
      go_ret
      refine HV.out ▸ RetInts.mk (by rw [HL.out]; simp) ?_ HB'.out
      rw [← ints_snoc]
      exact HO'.out
def var (n : Int) : List Int := if inB n 0 268435455 then varN n.toNat else []
theorem putVar_any (n : Int) (w : World) : Calls Try.prog 48 #[.int .i64 n] w (RetInts 5 .u8 (var n) w) := by
  by_cases h : 0 ≤ n ∧ n ≤ 268435455
  · obtain ⟨m, rfl⟩ := Int.eq_ofNat_of_zero_le h.1
    rw [show var (m : Int) = varN m by rw [var, if_pos (inB_t h)]; rfl]
    exact putVar_yes m (by omega) w
  · have hb := inB_f h
    rw [show var n = [] by rw [var, hb]; rfl]
    go_enter Try.func48, Try.ntmps48
    go_wp2_with (first | (go_at_call 109; refine (within_any _ _ _ _).mono ?_; rintro e w' ⟨rfl, rfl⟩) | (go_at_call 128; refine (hasArg_any _ _).mono ?_; rintro e w' ⟨rfl, rfl⟩) | (go_at_call 110; refine (l1In_any _ _ _ _).mono ?_; rintro e w' ⟨rfl, rfl⟩) | (go_at_call 129; refine (l29Has_any _ _).mono ?_; rintro e w' ⟨rfl, rfl⟩) | fail)
    go_ret
    exact RetInts.nil (Below.refl _ _)
theorem putVarS_any (n : Int) (w : World) : Calls Try.prog 50 #[.int .i64 n] w (RetInts 5 .u8 (var n) w) := by
  by_cases h : 0 ≤ n ∧ n ≤ 268435455
  · obtain ⟨m, rfl⟩ := Int.eq_ofNat_of_zero_le h.1
    rw [show var (m : Int) = varN m by rw [var, if_pos (inB_t h)]; rfl]
    exact putVarS_yes m (by omega) w
  · have hb := inB_f h
    rw [show var n = [] by rw [var, hb]; rfl]
    go_enter Try.func50, Try.ntmps50
    go_wp2_with (first | (go_at_call 109; refine (within_any _ _ _ _).mono ?_; rintro e w' ⟨rfl, rfl⟩) | (go_at_call 128; refine (hasArg_any _ _).mono ?_; rintro e w' ⟨rfl, rfl⟩) | (go_at_call 110; refine (l1In_any _ _ _ _).mono ?_; rintro e w' ⟨rfl, rfl⟩) | (go_at_call 129; refine (l29Has_any _ _).mono ?_; rintro e w' ⟨rfl, rfl⟩) | fail)
    go_ret
    exact RetInts.mk rfl own_empty (by repeat (first | exact Below.refl _ _ | with_reducible assumption | (refine Below.drew ?_) | (refine Below.drewN ?_ _) | (refine Below.alloc ?_ (by simp; try omega) _) | (refine Below.setCell ?_ (by simp; try omega) _)))
theorem varN_bd (n : Nat) : (varN n).length ≤ n + 1 ∧ InR 0 255 (varN n) := by
  induction n using Nat.strongRecOn with
  | _ n ih =>
    rw [varN]
    by_cases h : 127 < n
    · rw [if_pos h]
      obtain ⟨h1, h2⟩ := ih (n / 128) (by omega)
      refine ⟨by simp; omega, ?_⟩
      intro x hx
      rcases List.mem_cons.1 hx with rfl | hx
      · omega
      · exact h2 x hx
    · rw [if_neg h]
      refine ⟨by simp, ?_⟩
      intro x hx
      simp at hx
      omega
theorem var_bd (n : Int) : (var n).length ≤ 268435456 ∧ InR 0 255 (var n) := by
  unfold var
  by_cases h : 0 ≤ n ∧ n ≤ 268435455
  · rw [if_pos (inB_t h)]
    have := varN_bd n.toNat
    exact ⟨by omega, this.2⟩
  · rw [inB_f h]
    exact ⟨by simp, fun x hx => by simp at hx⟩
end Go.Proofs.Ytndnmbhhfiacaaa.CPutVar
