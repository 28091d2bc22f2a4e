/- The walk of FnGetVar: read numbers are written so. -/
import Derived.Test.YtndnmbhhfiacaaaDBytes
import Derived.Test.YtndnmbhhfiacaaaDRows
import Derived.Test.YtndnmbhhfiacaaaDName
import Derived.Test.YtndnmbhhfiacaaaPRows
import Derived.Test.YtndnmbhhfiacaaaCGetVar
import Derived.Test.YtndnmbhhfiacaaaCSame
import Derived.Test.YtndnmbhhfiacaaaCAlive
import Derived.Test.YtndnmbhhfiacaaaBase4
import Derived.Deep.RegionHeld3
import Derived.IntWalk
namespace Go.Proofs.Ytndnmbhhfiacaaa.WFnGetVar
set_option maxRecDepth 200000
open Go.ChangeShapes Go.WideShapes Go.ChangeAt Go.RowKit Kit CCode CPutVar PVar PRows CGetVar CSame DPick DVar DBytes DRows DName CAlive
theorem Tp.compose {w0 w w' : World} {B R : Nat} {N N' : Int} (h : Tp w0 w B R N) (h' : Tp w w' B R N') : Tp w0 w' B R N' := ⟨h'.1, grown_trans h.2 h'.2⟩
theorem ofInt_u8' (a : Nat) (ha : a < 256) : (BitVec.ofInt 8 (a : Int)).toNat = a := by
  rw [BitVec.ofInt_natCast, BitVec.toNat_ofNat]; exact Nat.mod_eq_of_lt (by omega)
theorem or_bd (z : Int) : 0 ≤ bits .or .u8 z 128 ∧ bits .or .u8 z 128 ≤ 255 := by
  have h : bits .or .u8 z 128 = IntKind.u8.wrap ((BitVec.ofInt 8 z ||| BitVec.ofInt 8 128).toNat : Int) := rfl
  rw [h, IntKind.wrap_u8]
  omega
theorem inR_set {zs : List Int} (h : InR 0 255 zs) (k : Nat) {v : Int} (h0 : 0 ≤ v) (h1 : v ≤ 255) : InR 0 255 (zs.set k v) := fun x hx => by
  rcases List.mem_or_eq_of_mem_set hx with hx | rfl
  · exact h x hx
  · exact ⟨h0, h1⟩
theorem zero_any {w0 w : World} {B R : Nat} {N : Int} (T : Tp w0 w B R N) (hN : N ≤ 1000000) :
    Calls Try.prog 118 #[.pointer (some ⟨R, 0, none⟩), .int .i64 0] w (DrewInt w0 B R (N + 8) 0 268435455) := by
  go_enter Try.func118, Try.ntmps118
  go_wp2_with fail
  refine odd_zero.mono ?_
  rintro e w' ⟨rfl, rfl⟩
  go_wp2_with (first | (go_at_call 125; refine (odd_tp (by first | with_reducible assumption | exact Tp.alloc (by with_reducible assumption) _ | exact Tp.alloc (Tp.alloc (by with_reducible assumption) _) _ | exact Tp.drewN (by with_reducible assumption) _ | exact Tp.drew (by with_reducible assumption) | exact Tp.drawn (by with_reducible assumption) | exact Tp.alloc (Tp.drewN (by with_reducible assumption) _) _ | exact Tp.alloc (Tp.drew (by with_reducible assumption)) _ | exact Tp.alloc (Tp.alloc (Tp.alloc (by with_reducible assumption) _) _) _) (by omega) _ (by omega) (by omega)).mono ?_; rintro e w1 ⟨bo, rfl, T, g⟩) | (go_at_call 113; refine (pick_lit2 (by with_reducible assumption) (by omega) _ (by omega) (by omega) (by repeat (first | exact List.forall_mem_nil _ | refine List.forall_mem_cons.2 ⟨⟨_, rfl⟩, ?_⟩)) (by repeat (first | exact List.forall_mem_nil _ | refine List.forall_mem_cons.2 ⟨⟨_, rfl, by simp, by simp⟩, ?_⟩)) (by simp)).mono ?_; rintro e w1 ⟨x, rfl, x0, x1, T, g, z, y, hm, hz, z0, z1, hn, hy⟩; simp only [List.mem_cons, Value.int.injEq, true_and, List.not_mem_nil, or_false] at hm hn) | (go_at_call 113; refine (pick_lit (by with_reducible assumption) (by omega) _ (by omega) (by omega) (by repeat (first | exact List.forall_mem_nil _ | refine List.forall_mem_cons.2 ⟨⟨_, rfl⟩, ?_⟩)) (by simp)).mono ?_; rintro e w1 ⟨x, rfl, x0, x1, T, g, z, hm, hz⟩; simp only [List.mem_cons, Value.int.injEq, true_and, List.not_mem_nil, or_false] at hm) | (go_at_call 113; refine (pick_tp (by first | with_reducible assumption | exact Tp.alloc (by with_reducible assumption) _ | exact Tp.alloc (Tp.alloc (by with_reducible assumption) _) _ | exact Tp.drewN (by with_reducible assumption) _ | exact Tp.drew (by with_reducible assumption) | exact Tp.drawn (by with_reducible assumption) | exact Tp.alloc (Tp.drewN (by with_reducible assumption) _) _ | exact Tp.alloc (Tp.drew (by with_reducible assumption)) _ | exact Tp.alloc (Tp.alloc (Tp.alloc (by with_reducible assumption) _) _) _) (by omega) _ (by omega) (by omega)).mono ?_; rintro e w1 ⟨x, rfl, x0, x1, T, g⟩))
  all_goals (go_ret; exact ⟨_, rfl, by omega, by omega, T.more (by omega)⟩)
theorem var_pos {n : Int} (h0 : 0 ≤ n) (h1 : n ≤ 268435455) : 0 < (var n).length := by
  obtain ⟨m, rfl⟩ := Int.eq_ofNat_of_zero_le h0
  rw [var_nat (by omega)]
  exact varN_pos0 m
theorem app_bd {zs v : List Int} (hz : InR 0 255 zs) (hv : InR 0 255 v) : InR 0 255 (zs ++ v) := fun x hx => by
  rcases List.mem_append.1 hx with hx | hx
  · exact hz x hx
  · exact hv x hx
def DrewBA (w : World) (e : Ending) (w' : World) : Prop := ∃ (A' : Option Addr) (ys : List Int) (c' : Nat) (a : Int), e = .returned (.tuple #[.slice A' ys.length c', .int .i64 a]) ∧ ys.length ≤ 100 ∧ InR 0 255 ys ∧ -100 ≤ a ∧ a ≤ 100 ∧ w'.ownsRow w.heap.size 5 1 (.slice A' ys.length c') ys.length (ints .u8 ys) ∧ Below w.heap.size w w'
set_option maxHeartbeats 4000000 in
theorem draw_any {A : Option Addr} {zs : List Int} {c : Nat} {w : World} (hr : Rd w w.heap.size A (ints .u8 zs)) (hz : InR 0 255 zs) (hc : zs.length ≤ c) (hcm : c ≤ maxLen) :
    Calls Try.prog 60 #[.slice A zs.length c] w (DrewBA w) := by
  obtain ⟨i0, hi, hz0, hz1, hz2⟩ := info_parts CPutVar.info8
  have HO := hide (open_any A zs c w hr hz hc hcm)
  clear hr hz hc hcm
  go_enter Try.func60, Try.ntmps60
  go_wp2_with fail
  refine HO.out.mono ?_
  rintro e w1 ⟨R, rfl, T, b1⟩
  have T0 := Tp.start T
  have hRl := T.1
  have hR1 := (Tp.start T).lt
  have HB := hide b1
  clear T b1 HO
  go_wp2_with fail
  refine (bytes_any T0 (by omega) (by omega) 3 (by omega)).mono ?_
  rintro e w2 ⟨A2, xs, c2, rfl, l2, r2, o2, T2⟩
  have HO2 := hide o2
  have HX := hide r2
  have hs2 := T2.2.size
  clear T0 o2 r2
  obtain ⟨a, ha⟩ : ∃ a, xs.length = a := ⟨_, rfl⟩
  have HA := hide ha
  rw [ha] at l2 HO2
  rw [ha]
  clear ha
  go_wp2_with fail
  refine (zero_any (Tp.start T2.1) (by omega)).mono ?_
  rintro e w3 ⟨n, rfl, n0, n1, T3⟩
  have t3 := Tp.compose T2 T3
  have HO3 := hide (own_pick HO2.out T3.2 hR1)
  clear T2 T3 HO2
  have hvp := var_pos n0 n1
  have hvl := var_len4 n
  have HVI := hide (var_bd n).2
  go_wp2_with fail
  refine (putVarS_any n w3).mono ?_
  rintro e w4 ⟨A4, c4, rfl, o4, b4⟩
  have HO4 := hide (own_call b4 HO3.out)
  have HE4 := hide o4
  have t4 := t3.call b4
  have HT4 := hide t4
  have hs4 := t4.2.size
  clear t3 o4 b4 HO3 t4
  generalize var n = v at *
  go_wp2_with (at_builtin; refine wpList_appO w4 rfl (.tmp 13) (.tmp 16) 22 rfl w1.heap.size _ 5 i0 (.int .u8 0) 1 1 Try.underlying22 hi hz0 hz1 hz2 rfl (by decide) _ _ _ _ rfl HE4.out oneI _ _ _ rfl HO4.out ?n1 ?n2 hs4 ?_)
  case n1 => unfold maxLen; omega
  case n2 => omega
  intro A5 n5 c5 w5 hn5 o5 g5
  subst hn5
  rw [ints_app] at o5
  have HO5 := hide o5
  have t5 := HT4.out.own g5 (fun k hk => ⟨(HO4.out.lt k hk).1, Nat.lt_of_lt_of_le hR1 (HO4.out.lt k hk).1⟩)
  have HT5 := hide t5
  have hs5 := Nat.le_trans hs4 g5.size
  have T5 := Tp.start t5.1
  clear o5 g5 HO4 HT4 HE4 t5
  go_wp2_with fail
  refine (bytes_any T5 (by omega) (by omega) 3 (by omega)).mono ?_
  rintro e w6 ⟨A6, ys, c6, rfl, l6, r6, o6, T6⟩
  have HO6 := hide (own_pick HO5.out T6.2 hR1)
  have HE6 := hide o6
  have HY := hide r6
  have t6 := Tp.compose HT5.out T6
  have HT6 := hide t6
  have hs6 := t6.2.size
  clear T5 T6 o6 r6 HO5 HT5 t6
  go_wp2_with (at_builtin; refine wpList_appO w6 rfl (.tmp 17) (.tmp 19) 22 rfl w1.heap.size _ 5 i0 (.int .u8 0) 1 1 Try.underlying22 hi hz0 hz1 hz2 rfl (by decide) _ _ _ _ rfl HE6.out oneI _ _ _ rfl HO6.out ?n1 ?n2 hs6 ?_)
  case n1 => unfold maxLen; omega
  case n2 => omega
  intro A7 n7 c7 w7 hn7 o7 g7
  have o7 : w7.ownsRow w1.heap.size 5 1 (.slice A7 n7 c7) n7 (ints .u8 (xs ++ v ++ ys)) := by simpa [ints, List.append_assoc] using o7
  have t7 := HT6.out.own g7 (fun k hk => ⟨(HO6.out.lt k hk).1, Nat.lt_of_lt_of_le hR1 (HO6.out.lt k hk).1⟩)
  have HZ := hide (app_bd (app_bd HX.out HVI.out) HY.out)
  have hl : (xs ++ v ++ ys).length = n7 := by rw [List.length_append, List.length_append, HA.out, hn7]
  have hlt : a < n7 := by omega
  have hle : n7 ≤ 10 := by omega
  have hs7 := t7.2.size
  clear g7 HO6 HT6 HE6 hn7 HX HVI HY hvp hvl l2 l6 HA hs2 hs4 hs5 hs6 n0 n1
  generalize xs ++ v ++ ys = zs at *
  subst hl
  have HO7 := hide o7
  have T7 := t7.more (show _ ≤ (100 : Int) by omega)
  clear t7 o7
  go_wp2_with fail
  refine (odd_tp (by first | with_reducible assumption | exact Tp.alloc (by with_reducible assumption) _ | exact Tp.alloc (Tp.alloc (by with_reducible assumption) _) _ | exact Tp.drewN (by with_reducible assumption) _ | exact Tp.drew (by with_reducible assumption) | exact Tp.drawn (by with_reducible assumption) | exact Tp.alloc (Tp.drewN (by with_reducible assumption) _) _ | exact Tp.alloc (Tp.drew (by with_reducible assumption)) _ | exact Tp.alloc (Tp.alloc (Tp.alloc (by with_reducible assumption) _) _) _) (by omega) _ (by omega) (by omega)).mono ?_
  rintro e w8 ⟨bo, rfl, T8, g8⟩
  have HO8 := hide (own_pick HO7.out g8 hR1)
  clear T7 g8 HO7
  cases bo
  · have HT8 := hide T8
    clear T8
    go_wp2_with fail
    go_ret2
    exact ⟨A7, zs, c7, _, rfl, by omega, HZ.out, by omega, by omega, own_base HO8.out HB.out.size, HB.out.trans (HT8.out.below HB.out.size hRl)⟩
  · go_wp2_with fail
    refine (pick_tp (by first | with_reducible assumption | exact Tp.alloc (by with_reducible assumption) _ | exact Tp.alloc (Tp.alloc (by with_reducible assumption) _) _ | exact Tp.drewN (by with_reducible assumption) _ | exact Tp.drew (by with_reducible assumption) | exact Tp.drawn (by with_reducible assumption) | exact Tp.alloc (Tp.drewN (by with_reducible assumption) _) _ | exact Tp.alloc (Tp.drew (by with_reducible assumption)) _ | exact Tp.alloc (Tp.alloc (Tp.alloc (by with_reducible assumption) _) _) _) (by omega) _ (by omega) (by omega)).mono ?_
    rintro e w9 ⟨p, rfl, p0, p1, T9, g9⟩
    have HO9 := hide (own_pick HO8.out g9 hR1)
    clear T8 g9 HO8
    by_cases hp0 : p = 0
    · subst hp0
      clear p0 p1
      have HT9 := hide T9
      obtain ⟨g, rfl⟩ := own_form HO9.out (by omega)
      have hcell := HO9.out.cellAt a (by omega)
      have hold : (ints IntKind.u8 zs)[a]? = some (Value.int .u8 zs[a]) := by
        rw [List.getElem?_eq_getElem (by simpa using hlt)]; simp
      rw [hold] at hcell
      have hgR := Nat.lt_of_lt_of_le hR1 (HO9.out.lt g rfl).1
      have hgw := (HO9.out.lt g rfl).1
      have hfz := HO9.out.frozenAt a
      clear T9 hold
      generalize zs[a] = z at *
      go_wp2_with fail
      go_ret2
      have hb := or_bd z
      have ho := (HO9.out.stored a (.int .u8 (bits .or .u8 z 128))).1
      rw [setInts] at ho
      refine ⟨some ⟨g, 0, none⟩, zs.set a (bits .or .u8 z 128), c7, _, (by rw [List.length_set]; rfl), by rw [List.length_set]; omega, inR_set HZ.out a hb.1 hb.2, by omega, by omega, by rw [List.length_set]; exact own_base ho HB.out.size, HB.out.trans ((HT9.out.set (a := ⟨g, a, none⟩) hgw hgR _).below HB.out.size hRl)⟩
    · by_cases hp1 : p = 1
      · subst hp1
        clear p0 p1 hp0
        obtain ⟨g, rfl⟩ := own_form HO9.out (by omega)
        go_wp2_with fail
        refine (pick_tp (by first | with_reducible assumption | exact Tp.alloc (by with_reducible assumption) _ | exact Tp.alloc (Tp.alloc (by with_reducible assumption) _) _ | exact Tp.drewN (by with_reducible assumption) _ | exact Tp.drew (by with_reducible assumption) | exact Tp.drawn (by with_reducible assumption) | exact Tp.alloc (Tp.drewN (by with_reducible assumption) _) _ | exact Tp.alloc (Tp.drew (by with_reducible assumption)) _ | exact Tp.alloc (Tp.alloc (Tp.alloc (by with_reducible assumption) _) _) _) (by omega) _ (by omega) (by omega)).mono ?_
        rintro e w10 ⟨k, rfl, k0, k1, T10, g10⟩
        have HO10 := hide (own_pick HO9.out g10 hR1)
        have HT10 := hide T10
        obtain ⟨k, rfl⟩ := Int.eq_ofNat_of_zero_le k0
        have hcc := own_cap HO10.out
        have hcm := own_capm HO10.out
        unfold maxLen at hcm
        have hk : a + k < zs.length := by omega
        clear T9 g10 HO9 T10
        have HP := hide (own_prefix HO10.out (show a + k ≤ zs.length by omega))
        have hl : (zs.take (a + k)).length = a + k := by rw [List.length_take]; omega
        have HL := hide hl
        clear hl
        obtain ⟨m, hm⟩ : ∃ m, a + k = m := ⟨_, rfl⟩
        have hmz : (a : Int) + (k : Int) = (m : Int) := by omega
        rw [hm] at HP HL hk
        have hmc : m ≤ c7 := by omega
        go_wp2_with fail
        go_ret2
        refine ⟨some ⟨g, 0, none⟩, zs.take m, c7, _, (by rw [HL.out]; rfl), by rw [HL.out]; omega, fun x hx => HZ.out x (List.mem_of_mem_take hx), by omega, by omega, ?_, HB.out.trans (HT10.out.below HB.out.size hRl)⟩
        rw [HL.out]
        have := own_base HP.out HB.out.size
        rwa [Nat.mul_one, ← List.map_take] at this
      · have hp2 : p = 2 := by omega
        subst hp2
        clear p0 p1 hp0 hp1
        go_wp2_with fail
        refine (pick_lit T9 (by omega) _ (by omega) (by omega) (by repeat (first | exact List.forall_mem_nil _ | refine List.forall_mem_cons.2 ⟨⟨_, rfl⟩, ?_⟩)) (by simp)).mono ?_
        rintro e w10 ⟨v, rfl, v0, v1, T10, g10, z, hm, hz⟩
        simp only [List.mem_cons, Value.int.injEq, true_and, List.not_mem_nil, or_false] at hm
        have HO10 := hide (own_pick (HO9.out.alloc _) g10 hR1)
        have HT10 := hide T10
        clear T9 g10 HO9 T10
        have hzb : -1 ≤ z ∧ z ≤ 10 := by omega
        clear hm
        go_wp2_with fail
        go_ret2
        exact ⟨A7, zs, c7, _, rfl, by omega, HZ.out, by omega, by omega, own_base HO10.out HB.out.size, HB.out.trans (HT10.out.below HB.out.size hRl)⟩
theorem getV_at {zs : List Int} {a : Int} (h : 0 ≤ (getV zs a).1) : 0 ≤ a := by
  unfold getV at h
  split at h
  · rename_i hr
    exact hr.1
  · simp at h
set_option maxHeartbeats 4000000 in
theorem walk (A : Option Addr) (zs : List Int) (c : Nat) (hl : zs.length ≤ c) (hc : c ≤ maxLen) (hz : InR 0 255 zs) (w : World) (hr : Rd w w.heap.size A (ints .u8 zs)) :
    Calls Try.prog 13 #[.slice A zs.length c] w (LawEnds w) := by
  have hcm := hc
  unfold maxLen at hcm
  have HD := hide (draw_any hr hz hl hc)
  clear hr hz hc
  by_cases hbig : 1048576 < zs.length
  · go_enter Try.func13, Try.ntmps13
    go_wp2_with fail
    go_ret
    exact ⟨rfl, Below.refl _ _⟩
  go_enter Try.func13, Try.ntmps13
  go_wp2_with fail
  refine HD.out.mono ?_
  rintro e w1 ⟨A1, ys, c1, a, rfl, l1, r1, a0, a1, o1, b1⟩
  have HB := hide b1
  have HO := hide o1
  have hcap := own_cap o1
  have HNO := hide (getV_no (zs := ys) (a := a))
  have HYES := hide (fun (h : 0 ≤ (getV ys a).1) => (show ∃ k j n : Nat, a = k ∧ k + j ≤ ys.length ∧ 0 < j ∧ getV ys a = ((n : Int), ((k + j : Nat) : Int)) ∧ var (n : Int) = (ys.drop k).take j from by
    obtain ⟨k, rfl⟩ := Int.eq_ofNat_of_zero_le (getV_at h)
    obtain ⟨j, n, h1, h2, _, h4, h5, h6⟩ := getV_yes r1 h
    exact ⟨k, j, n, rfl, h1, h2, h4, by rw [var_nat h6]; exact h5⟩))
  have HG1 := hide (fun (w : World) hr => getVar_any A1 ys c1 a w hr r1 (by omega) hcap (by omega) (by omega))
  have HG2 := hide (fun (w : World) hr => getVarS_any A1 ys c1 a w hr r1 (by omega) (by omega) (by omega))
  clear b1 o1 r1
  generalize getV ys a = r at *
  obtain ⟨x, nx⟩ := r
  dsimp only at HNO HYES HG1 HG2
  go_wp2_with fail
  refine (HG1.out w1 (Rd.of_own HO.out)).mono ?_
  rintro e w2 ⟨rfl, b2⟩
  have hb2 := HB.out.trans (b2.mono HB.out.size)
  have HO2 := hide (own_call b2 HO.out)
  have HB2 := hide hb2
  clear b2 hb2 HO HB HG1
  go_wp2_with fail
  refine (HG2.out _ (Rd.of_own HO2.out)).mono ?_
  rintro e w3 ⟨rfl, b3⟩
  have hb3 := HB2.out.trans (b3.mono HB2.out.size)
  have HO3 := hide (own_call b3 HO2.out)
  have HB3 := hide hb3
  clear b3 hb3 HO2 HB2 HG2
  by_cases hneg : x < 0
  · have he := HNO.out hneg
    simp only [Prod.mk.injEq] at he
    obtain ⟨rfl, rfl⟩ := he
    clear HNO HYES hneg HO3
    go_wp2_with fail
    refine (alive_any _).mono ?_
    rintro e w' ⟨rfl, rfl⟩
    go_wp2_with fail
    go_ret
    exact ⟨rfl, HB3.out⟩
  · obtain ⟨k, j, n, rfl, hkj, hj, he, hpc⟩ := HYES.out (by omega)
    simp only [Prod.mk.injEq] at he
    obtain ⟨rfl, rfl⟩ := he
    have HPC := hide hpc
    clear HNO HYES hneg hpc a0 a1
    obtain ⟨g, rfl⟩ := own_form HO3.out (by omega)
    obtain ⟨hrs, hls⟩ := (Rd.of_own HO3.out).slice k j (by omega)
    simp only [Nat.zero_add] at hrs
    obtain ⟨m, hm⟩ : ∃ m, k + j = m := ⟨_, rfl⟩
    rw [hm] at hkj ⊢
    have hj' : j = m - k := by omega
    subst hj'
    have HLV := hide hls
    have HRS := hide hrs
    generalize (ys.drop k).take (m - k) = v at *
    clear hrs hls hm
    have hkm : k < m := by omega
    have hvM : v.length ≤ maxLen := by rw [HLV.out]; unfold maxLen; omega
    have HVM := hide hvM
    have d0 : decide (k < m) = true := decide_eq_true hkm
    have d1 : decide (m ≤ ys.length) = true := decide_eq_true hkj
    have f1 : (k : Int) ≤ (m : Int) := by omega
    have f2 : (m : Int) ≤ (c1 : Int) := by omega
    have f3 : m ≤ c1 := by omega
    have f4 : k ≤ m := by omega
    have f6 : k < c1 := by omega
    have HS0 := hide (fun (A5 : Option Addr) (c5 c' : Nat) (w : World) hr hr' => sameBytes_any A5 (some ⟨g, k, none⟩) v v c5 c' w.heap.size w hr hr' HVM.out HVM.out)
    rw [HLV.out] at HS0
    clear hvM hj
    go_wp2_with fail
    go_region_held3 (fun (_ : World) => True) (first | trivial) (first | (go_at_call 48; refine (putVar_any n _).mono ?_; rw [HPC.out]; rintro e w5 ⟨A5, c5, rfl, o5, b5⟩; rw [HLV.out]; have HB5 := hide (below_drawn b5); have HR5 := hide (Rd.of_own o5); clear o5 b5) | (go_at_call 49; refine (HS0.out A5 c5 _ _ (by exact HR5.out) (by exact (HRS.out.below HB5.out).more HB5.out.size)).mono ?_; rintro e w' ⟨rfl, n, rfl⟩; rw [beq_self_eq_true]))
    have HB6 := hide (Kit.Below.drewN (HB3.out.trans (HB5.out.mono HB3.out.size)) n)
    clear d0 d1 f1 f2 f3 f4 f6
    go_wp2_with fail
    go_ret
    exact ⟨rfl, HB6.out⟩
end Go.Proofs.Ytndnmbhhfiacaaa.WFnGetVar
