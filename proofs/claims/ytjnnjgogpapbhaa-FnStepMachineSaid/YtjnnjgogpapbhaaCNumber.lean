/- Contracts of PutNumber and GetNumber, the program's and the reference's. -/
import Derived.Test.YtjnnjgogpapbhaaCCode
namespace Go.Proofs.Ytjnnjgogpapbhaa.CNumber
set_option maxRecDepth 200000
open Go.ChangeShapes Go.WideShapes Go.ChangeAt Go.RowKit Kit CCode
theorem info8 : (Try.prog.info? 5).map (fun i => (i.zero, i.size, i.bytes)) = some (some (.int .u8 0), 1, 1) := by kernel_rfl
/-- The w lowest bytes of a number, the lowest one first. -/
def putL : Nat → Int → List Int
  | 0, _ => []
  | w + 1, n => n % 256 :: putL w (n / 256)
theorem putL_len : ∀ (w : Nat) (n : Int), (putL w n).length = w
  | 0, _ => rfl
  | w + 1, n => by simp [putL, putL_len w]
theorem putL_bd : ∀ (w : Nat) (n : Int), InR 0 255 (putL w n)
  | 0, _ => fun x hx => by simp [putL] at hx
  | w + 1, n => fun x hx => by
    rcases List.mem_cons.1 hx with rfl | hx
    · omega
    · exact putL_bd w _ x hx
def all : Int → Int := fun w => if w = 1 then 255 else if w = 2 then 65535 else if w = 3 then 16777215 else 4294967295
def pnum (n wide : Int) : List Int := if inB wide 1 4 = true ∧ inB n 0 (all wide) = true then putL wide.toNat n else []
theorem putL_step {w w' : Nat} {m : Int} (h : w = w' + 1) : putL w m = m % 256 :: putL w' (m / 256) := by rw [h]; rfl
def powI : Int → Int := fun w => if w = 1 then 256 else if w = 2 then 65536 else if w = 3 then 16777216 else 4294967296
def p256 : Nat → Int
  | 0 => 1
  | k + 1 => 256 * p256 k
theorem p256_bd {k : Nat} (h : k < 4) : 0 ≤ p256 k ∧ p256 k ≤ 16777216 := by
  obtain rfl | rfl | rfl | rfl : k = 0 ∨ k = 1 ∨ k = 2 ∨ k = 3 := by omega
  all_goals simp [p256]
theorem p256_pow {k : Nat} (h : 1 ≤ k ∧ k ≤ 4) : p256 k = powI k := by
  obtain rfl | rfl | rfl | rfl : k = 1 ∨ k = 2 ∨ k = 3 ∨ k = 4 := by omega
  all_goals simp [p256, powI]
theorem power_any (W : Nat) (hW : 1 ≤ W ∧ W ≤ 4) (w : World) : Calls Try.prog 84 #[.int .i64 W] w (Pure (.int .i64 (powI W)) w) := by
  go_enter Try.func84, Try.ntmps84
  go_wp2_with fail
  go_loop [3, 4] (fun n i => ∃ k : Nat, k ≤ W ∧ i = .int .i64 k ∧ n = .int .i64 (p256 k)) (fun _ i => W - (intOf i).toNat)
  case atStart => exact ⟨0, by omega, rfl, rfl⟩
  case round =>
    obtain ⟨k, hk, rfl, rfl⟩ := hrel
    by_cases hlt : k < W
    · obtain ⟨b0, b1⟩ := p256_bd (k := k) (by omega)
      have HS := hide (show p256 (k + 1) = 256 * p256 k from rfl)
      generalize p256 k = q at *
      go_wp2_with fail
      go_round
      case rel => exact ⟨k + 1, by omega, by go_num, by rw [HS.out]⟩
      case measure => simp [intOf]; omega
    · have e : k = W := by omega
      subst e
      have HS := hide (p256_pow hW)
      go_wp2_with fail
      go_ret
      exact ⟨ret_int HS.out, rfl⟩
theorem putNumberS_go (n : Int) (W : Nat) (w : World) (hW : 1 ≤ W ∧ W ≤ 4) (h0 : 0 ≤ n) (h1 : n ≤ all W) : Calls Try.prog 83 #[.int .i64 n, .int .i64 W] w (RetInts 5 .u8 (putL W n) w) := by
  obtain ⟨i0, hi, hz0, hz1, hz2⟩ := info_parts info8
  have hn : n ≤ 4294967295 := by unfold all at h1; split at h1 <;> (try split at h1) <;> (try split at h1) <;> omega
  have hA := inB_t (n := n) (lo := 0) (hi := all W) ⟨h0, h1⟩
  have ho0 := hide (own_empty (w := w) (E := 5))
  have hb0 : Hid (Below w.heap.size w (w.alloc (.cells #[] 5))) := (by repeat (first | exact Below.refl _ _ | with_reducible assumption | (refine Below.drew ?_) | (refine Below.drewN ?_ _) | (refine Below.alloc ?_ (by simp; try omega) _) | (refine Below.setCell ?_ (by simp; try omega) _)))
  obtain rfl | rfl | rfl | rfl : W = 1 ∨ W = 2 ∨ W = 3 ∨ W = 4 := by omega
  · have hb : inB 1 1 4 = true := by decide
    have hA' : inB n 0 255 = true := hA
    have hpw : powI 1 = 256 := rfl
    clear hA h1
    go_enter Try.func83, Try.ntmps83
    go_wp2_with (first | (go_at_call 40; refine (l1In_any _ _ _ _).mono ?_; rintro e w' ⟨rfl, rfl⟩) | (go_at_call 84; refine (power_any 1 (by omega) _).mono ?_; rintro e w' ⟨rfl, rfl⟩))
    clear hb hA'
    go_loopw [0, 5, 6] (fun n' v i wr => ∃ (k : Nat) (m : Int) (pre : List Int) (A : Option Addr) (l c : Nat), k ≤ 1 ∧ i = .int .i64 k ∧ n' = .int .i64 m ∧ 0 ≤ m ∧ m ≤ 4294967295 ∧ v = .slice A l c ∧ l = pre.length ∧ l = k ∧ pre ++ putL (1 - k) m = putL 1 n ∧ wr.ownsRow w.heap.size 5 1 (.slice A l c) l (ints .u8 pre) ∧ Below w.heap.size w wr) (fun _ _ i _ => 1 - (intOf i).toNat)
    case atStart => exact ⟨0, n, [], _, _, _, by omega, rfl, rfl, h0, hn, rfl, rfl, rfl, rfl, ho0.out, hb0.out⟩
    case round =>
      obtain ⟨k, m, pre, A, l, c, hk, rfl, rfl, m0, m1, rfl, hl, hlk, hpre, ho, hb⟩ := hrel
      have HL := hide hl
      have HP := hide hpre
      have HO := hide ho
      have HB := hide hb
      have HK := hide hlk
      have hl4 : l ≤ 4 := by omega
      clear hl hpre ho hb hlk h0 hn
      by_cases hlt : k < 1
      · have HS := hide (putL_step (m := m) (show 1 - k = (1 - (k + 1)) + 1 by omega))
        go_wp2_with (at_builtin; refine wpList_app1 wr rfl (.tmp 25) (.tmp 29) 22 rfl w.heap.size 5 i0 (.int .u8 0) 1 1 Try.underlying22 hi hz0 hz1 hz2 rfl (by decide) _ rfl rfl ?o1 _ _ _ rfl HO.out ?n1 ?n2 ?n3 ?_)
        case o1 => first | rfl | (simp; done) | (intro u hu; simp at hu; subst hu; rfl)
        case n1 => unfold maxLen; omega
        case n2 => omega
        case n3 => exact HB.out.size
        intro A' n' c' w' hn' ho' hg'
        subst hn'
        have HO' := hide ho'
        have HB' := hide (HB.out.grown hg' HB.out.size (fun k hk => (HO.out.lt k hk).1))
        clear ho' hg'
        go_wp2_with fail
        refine ⟨⟨k + 1, m / 256, pre ++ [m % 256], A', l + 1, c', by omega, by go_num, rfl, by omega, by omega, rfl, ?_, ?_, ?_, ?_, HB'.out⟩, by simp [intOf]; omega⟩
        · rw [HL.out]; simp
        · rw [HK.out]
        · rw [List.append_assoc, ← HP.out, HS.out]; rfl
        · rw [← ints_snoc]
          first | exact HO'.out | (simpa using HO'.out)
      · have e : 1 - k = 0 := by omega
        have HV := hide (show putL 1 n = pre by rw [← HP.out, e]; simp [putL])
        clear e
        go_wp2_with fail
        go_ret
        exact HV.out ▸ RetInts.mk HL.out HO.out HB.out
  · have hb : inB 2 1 4 = true := by decide
    have hA' : inB n 0 65535 = true := hA
    have hpw : powI 2 = 65536 := rfl
    clear hA h1
    go_enter Try.func83, Try.ntmps83
    go_wp2_with (first | (go_at_call 40; refine (l1In_any _ _ _ _).mono ?_; rintro e w' ⟨rfl, rfl⟩) | (go_at_call 84; refine (power_any 2 (by omega) _).mono ?_; rintro e w' ⟨rfl, rfl⟩))
    clear hb hA'
    go_loopw [0, 5, 6] (fun n' v i wr => ∃ (k : Nat) (m : Int) (pre : List Int) (A : Option Addr) (l c : Nat), k ≤ 2 ∧ i = .int .i64 k ∧ n' = .int .i64 m ∧ 0 ≤ m ∧ m ≤ 4294967295 ∧ v = .slice A l c ∧ l = pre.length ∧ l = k ∧ pre ++ putL (2 - k) m = putL 2 n ∧ wr.ownsRow w.heap.size 5 1 (.slice A l c) l (ints .u8 pre) ∧ Below w.heap.size w wr) (fun _ _ i _ => 2 - (intOf i).toNat)
    case atStart => exact ⟨0, n, [], _, _, _, by omega, rfl, rfl, h0, hn, rfl, rfl, rfl, rfl, ho0.out, hb0.out⟩
    case round =>
      obtain ⟨k, m, pre, A, l, c, hk, rfl, rfl, m0, m1, rfl, hl, hlk, hpre, ho, hb⟩ := hrel
      have HL := hide hl
      have HP := hide hpre
      have HO := hide ho
      have HB := hide hb
      have HK := hide hlk
      have hl4 : l ≤ 4 := by omega
      clear hl hpre ho hb hlk h0 hn
      by_cases hlt : k < 2
      · have HS := hide (putL_step (m := m) (show 2 - k = (2 - (k + 1)) + 1 by omega))
        go_wp2_with (at_builtin; refine wpList_app1 wr rfl (.tmp 25) (.tmp 29) 22 rfl w.heap.size 5 i0 (.int .u8 0) 1 1 Try.underlying22 hi hz0 hz1 hz2 rfl (by decide) _ rfl rfl ?o1 _ _ _ rfl HO.out ?n1 ?n2 ?n3 ?_)
        case o1 => first | rfl | (simp; done) | (intro u hu; simp at hu; subst hu; rfl)
        case n1 => unfold maxLen; omega
        case n2 => omega
        case n3 => exact HB.out.size
        intro A' n' c' w' hn' ho' hg'
        subst hn'
        have HO' := hide ho'
        have HB' := hide (HB.out.grown hg' HB.out.size (fun k hk => (HO.out.lt k hk).1))
        clear ho' hg'
        go_wp2_with fail
        refine ⟨⟨k + 1, m / 256, pre ++ [m % 256], A', l + 1, c', by omega, by go_num, rfl, by omega, by omega, rfl, ?_, ?_, ?_, ?_, HB'.out⟩, by simp [intOf]; omega⟩
        · rw [HL.out]; simp
        · rw [HK.out]
        · rw [List.append_assoc, ← HP.out, HS.out]; rfl
        · rw [← ints_snoc]
          first | exact HO'.out | (simpa using HO'.out)
      · have e : 2 - k = 0 := by omega
        have HV := hide (show putL 2 n = pre by rw [← HP.out, e]; simp [putL])
        clear e
        go_wp2_with fail
        go_ret
        exact HV.out ▸ RetInts.mk HL.out HO.out HB.out
  · have hb : inB 3 1 4 = true := by decide
    have hA' : inB n 0 16777215 = true := hA
    have hpw : powI 3 = 16777216 := rfl
    clear hA h1
    go_enter Try.func83, Try.ntmps83
    go_wp2_with (first | (go_at_call 40; refine (l1In_any _ _ _ _).mono ?_; rintro e w' ⟨rfl, rfl⟩) | (go_at_call 84; refine (power_any 3 (by omega) _).mono ?_; rintro e w' ⟨rfl, rfl⟩))
    clear hb hA'
    go_loopw [0, 5, 6] (fun n' v i wr => ∃ (k : Nat) (m : Int) (pre : List Int) (A : Option Addr) (l c : Nat), k ≤ 3 ∧ i = .int .i64 k ∧ n' = .int .i64 m ∧ 0 ≤ m ∧ m ≤ 4294967295 ∧ v = .slice A l c ∧ l = pre.length ∧ l = k ∧ pre ++ putL (3 - k) m = putL 3 n ∧ wr.ownsRow w.heap.size 5 1 (.slice A l c) l (ints .u8 pre) ∧ Below w.heap.size w wr) (fun _ _ i _ => 3 - (intOf i).toNat)
    case atStart => exact ⟨0, n, [], _, _, _, by omega, rfl, rfl, h0, hn, rfl, rfl, rfl, rfl, ho0.out, hb0.out⟩
    case round =>
      obtain ⟨k, m, pre, A, l, c, hk, rfl, rfl, m0, m1, rfl, hl, hlk, hpre, ho, hb⟩ := hrel
      have HL := hide hl
      have HP := hide hpre
      have HO := hide ho
      have HB := hide hb
      have HK := hide hlk
      have hl4 : l ≤ 4 := by omega
      clear hl hpre ho hb hlk h0 hn
      by_cases hlt : k < 3
      · have HS := hide (putL_step (m := m) (show 3 - k = (3 - (k + 1)) + 1 by omega))
        go_wp2_with (at_builtin; refine wpList_app1 wr rfl (.tmp 25) (.tmp 29) 22 rfl w.heap.size 5 i0 (.int .u8 0) 1 1 Try.underlying22 hi hz0 hz1 hz2 rfl (by decide) _ rfl rfl ?o1 _ _ _ rfl HO.out ?n1 ?n2 ?n3 ?_)
        case o1 => first | rfl | (simp; done) | (intro u hu; simp at hu; subst hu; rfl)
        case n1 => unfold maxLen; omega
        case n2 => omega
        case n3 => exact HB.out.size
        intro A' n' c' w' hn' ho' hg'
        subst hn'
        have HO' := hide ho'
        have HB' := hide (HB.out.grown hg' HB.out.size (fun k hk => (HO.out.lt k hk).1))
        clear ho' hg'
        go_wp2_with fail
        refine ⟨⟨k + 1, m / 256, pre ++ [m % 256], A', l + 1, c', by omega, by go_num, rfl, by omega, by omega, rfl, ?_, ?_, ?_, ?_, HB'.out⟩, by simp [intOf]; omega⟩
        · rw [HL.out]; simp
        · rw [HK.out]
        · rw [List.append_assoc, ← HP.out, HS.out]; rfl
        · rw [← ints_snoc]
          first | exact HO'.out | (simpa using HO'.out)
      · have e : 3 - k = 0 := by omega
        have HV := hide (show putL 3 n = pre by rw [← HP.out, e]; simp [putL])
        clear e
        go_wp2_with fail
        go_ret
        exact HV.out ▸ RetInts.mk HL.out HO.out HB.out
  · have hb : inB 4 1 4 = true := by decide
    have hA' : inB n 0 4294967295 = true := hA
    have hpw : powI 4 = 4294967296 := rfl
    clear hA h1
    go_enter Try.func83, Try.ntmps83
    go_wp2_with (first | (go_at_call 40; refine (l1In_any _ _ _ _).mono ?_; rintro e w' ⟨rfl, rfl⟩) | (go_at_call 84; refine (power_any 4 (by omega) _).mono ?_; rintro e w' ⟨rfl, rfl⟩))
    clear hb hA'
    go_loopw [0, 5, 6] (fun n' v i wr => ∃ (k : Nat) (m : Int) (pre : List Int) (A : Option Addr) (l c : Nat), k ≤ 4 ∧ i = .int .i64 k ∧ n' = .int .i64 m ∧ 0 ≤ m ∧ m ≤ 4294967295 ∧ v = .slice A l c ∧ l = pre.length ∧ l = k ∧ pre ++ putL (4 - k) m = putL 4 n ∧ wr.ownsRow w.heap.size 5 1 (.slice A l c) l (ints .u8 pre) ∧ Below w.heap.size w wr) (fun _ _ i _ => 4 - (intOf i).toNat)
    case atStart => exact ⟨0, n, [], _, _, _, by omega, rfl, rfl, h0, hn, rfl, rfl, rfl, rfl, ho0.out, hb0.out⟩
    case round =>
      obtain ⟨k, m, pre, A, l, c, hk, rfl, rfl, m0, m1, rfl, hl, hlk, hpre, ho, hb⟩ := hrel
      have HL := hide hl
      have HP := hide hpre
      have HO := hide ho
      have HB := hide hb
      have HK := hide hlk
      have hl4 : l ≤ 4 := by omega
      clear hl hpre ho hb hlk h0 hn
      by_cases hlt : k < 4
      · have HS := hide (putL_step (m := m) (show 4 - k = (4 - (k + 1)) + 1 by omega))
        go_wp2_with (at_builtin; refine wpList_app1 wr rfl (.tmp 25) (.tmp 29) 22 rfl w.heap.size 5 i0 (.int .u8 0) 1 1 Try.underlying22 hi hz0 hz1 hz2 rfl (by decide) _ rfl rfl ?o1 _ _ _ rfl HO.out ?n1 ?n2 ?n3 ?_)
        case o1 => first | rfl | (simp; done) | (intro u hu; simp at hu; subst hu; rfl)
        case n1 => unfold maxLen; omega
        case n2 => omega
        case n3 => exact HB.out.size
        intro A' n' c' w' hn' ho' hg'
        subst hn'
        have HO' := hide ho'
        have HB' := hide (HB.out.grown hg' HB.out.size (fun k hk => (HO.out.lt k hk).1))
        clear ho' hg'
        go_wp2_with fail
        refine ⟨⟨k + 1, m / 256, pre ++ [m % 256], A', l + 1, c', by omega, by go_num, rfl, by omega, by omega, rfl, ?_, ?_, ?_, ?_, HB'.out⟩, by simp [intOf]; omega⟩
        · rw [HL.out]; simp
        · rw [HK.out]
        · rw [List.append_assoc, ← HP.out, HS.out]; rfl
        · rw [← ints_snoc]
          first | exact HO'.out | (simpa using HO'.out)
      · have e : 4 - k = 0 := by omega
        have HV := hide (show putL 4 n = pre by rw [← HP.out, e]; simp [putL])
        clear e
        go_wp2_with fail
        go_ret
        exact HV.out ▸ RetInts.mk HL.out HO.out HB.out
theorem putNumberS_any (n wide : Int) (w : World) : Calls Try.prog 83 #[.int .i64 n, .int .i64 wide] w (RetInts 5 .u8 (pnum n wide) w) := by
  by_cases hw : 1 ≤ wide ∧ wide ≤ 4
  · obtain ⟨W, rfl⟩ := Int.eq_ofNat_of_zero_le (show 0 ≤ wide by omega)
    by_cases hn : 0 ≤ n ∧ n ≤ all W
    · rw [show pnum n W = putL W n by rw [pnum, if_pos ⟨inB_t hw, inB_t hn⟩]; rfl]
      exact putNumberS_go n W w (by omega) hn.1 hn.2
    · rw [show pnum n W = [] by rw [pnum, if_neg (by rw [inB_f hn]; simp)]]
      have hA := inB_f (n := n) (lo := 0) (hi := all W) hn
      obtain rfl | rfl | rfl | rfl : W = 1 ∨ W = 2 ∨ W = 3 ∨ W = 4 := by omega
      · have hb : inB 1 1 4 = true := by decide
        have hA' : inB n 0 255 = false := hA
        have hpw : powI 1 = 256 := rfl
        clear hA hn hw
        go_enter Try.func83, Try.ntmps83
        go_wp2_with (first | (go_at_call 40; refine (l1In_any _ _ _ _).mono ?_; rintro e w' ⟨rfl, rfl⟩) | (go_at_call 84; refine (power_any 1 (by omega) _).mono ?_; rintro e w' ⟨rfl, rfl⟩))
        go_ret
        exact RetInts.mk rfl own_empty (by repeat (first | exact Below.refl _ _ | with_reducible assumption | (refine Below.drew ?_) | (refine Below.drewN ?_ _) | (refine Below.alloc ?_ (by simp; try omega) _) | (refine Below.setCell ?_ (by simp; try omega) _)))
      · have hb : inB 2 1 4 = true := by decide
        have hA' : inB n 0 65535 = false := hA
        have hpw : powI 2 = 65536 := rfl
        clear hA hn hw
        go_enter Try.func83, Try.ntmps83
        go_wp2_with (first | (go_at_call 40; refine (l1In_any _ _ _ _).mono ?_; rintro e w' ⟨rfl, rfl⟩) | (go_at_call 84; refine (power_any 2 (by omega) _).mono ?_; rintro e w' ⟨rfl, rfl⟩))
        go_ret
        exact RetInts.mk rfl own_empty (by repeat (first | exact Below.refl _ _ | with_reducible assumption | (refine Below.drew ?_) | (refine Below.drewN ?_ _) | (refine Below.alloc ?_ (by simp; try omega) _) | (refine Below.setCell ?_ (by simp; try omega) _)))
      · have hb : inB 3 1 4 = true := by decide
        have hA' : inB n 0 16777215 = false := hA
        have hpw : powI 3 = 16777216 := rfl
        clear hA hn hw
        go_enter Try.func83, Try.ntmps83
        go_wp2_with (first | (go_at_call 40; refine (l1In_any _ _ _ _).mono ?_; rintro e w' ⟨rfl, rfl⟩) | (go_at_call 84; refine (power_any 3 (by omega) _).mono ?_; rintro e w' ⟨rfl, rfl⟩))
        go_ret
        exact RetInts.mk rfl own_empty (by repeat (first | exact Below.refl _ _ | with_reducible assumption | (refine Below.drew ?_) | (refine Below.drewN ?_ _) | (refine Below.alloc ?_ (by simp; try omega) _) | (refine Below.setCell ?_ (by simp; try omega) _)))
      · have hb : inB 4 1 4 = true := by decide
        have hA' : inB n 0 4294967295 = false := hA
        have hpw : powI 4 = 4294967296 := rfl
        clear hA hn hw
        go_enter Try.func83, Try.ntmps83
        go_wp2_with (first | (go_at_call 40; refine (l1In_any _ _ _ _).mono ?_; rintro e w' ⟨rfl, rfl⟩) | (go_at_call 84; refine (power_any 4 (by omega) _).mono ?_; rintro e w' ⟨rfl, rfl⟩))
        go_ret
        exact RetInts.mk rfl own_empty (by repeat (first | exact Below.refl _ _ | with_reducible assumption | (refine Below.drew ?_) | (refine Below.drewN ?_ _) | (refine Below.alloc ?_ (by simp; try omega) _) | (refine Below.setCell ?_ (by simp; try omega) _)))
  · rw [show pnum n wide = [] by rw [pnum, if_neg (by rw [inB_f hw]; simp)]]
    have hb := inB_f hw
    clear hw
    go_enter Try.func83, Try.ntmps83
    go_wp2_with (first | (go_at_call 38; refine (within_any _ _ _ _).mono ?_; rintro e w' ⟨rfl, rfl⟩) | (go_at_call 76; refine (hasArg_any _ _).mono ?_; rintro e w' ⟨rfl, rfl⟩) | (go_at_call 40; refine (l1In_any _ _ _ _).mono ?_; rintro e w' ⟨rfl, rfl⟩) | (go_at_call 73; refine (l29Has_any _ _).mono ?_; rintro e w' ⟨rfl, rfl⟩) | fail)
    go_ret
    exact RetInts.mk rfl own_empty (by repeat (first | exact Below.refl _ _ | with_reducible assumption | (refine Below.drew ?_) | (refine Below.drewN ?_ _) | (refine Below.alloc ?_ (by simp; try omega) _) | (refine Below.setCell ?_ (by simp; try omega) _)))
/-- The number of bytes, the lowest one first. -/
def numL : List Int → Int
  | [] => 0
  | x :: r => x + 256 * numL r
theorem numL_bd : ∀ {l : List Int}, InR 0 255 l → l.length ≤ 4 → 0 ≤ numL l ∧ numL l ≤ 4294967295
  | [], _, _ => by simp [numL]
  | [a], h, _ => by have := h a (by simp); simp [numL]; omega
  | [a, b], h, _ => by have := h a (by simp); have := h b (by simp); simp [numL]; omega
  | [a, b, c], h, _ => by have := h a (by simp); have := h b (by simp); have := h c (by simp); simp [numL]; omega
  | [a, b, c, d], h, _ => by have := h a (by simp); have := h b (by simp); have := h c (by simp); have := h d (by simp); simp [numL]; omega
  | _ :: _ :: _ :: _ :: _ :: _, _, h => by simp at h
def gnum (b : List Int) (at_ wide : Int) : Int := if inB wide 1 4 = true ∧ inB at_ 0 (b.length - wide) = true then numL ((b.drop at_.toNat).take wide.toNat) else -1
theorem num_step {zs : List Int} {a k W : Nat} (hk : k < W) (hl : a + W ≤ zs.length) : numL (((zs.drop a).take W).drop k) = zs[a + k]'(by omega) + 256 * numL (((zs.drop a).take W).drop (k + 1)) := by
  have hlen : k < ((zs.drop a).take W).length := by rw [List.length_take, List.length_drop]; omega
  rw [List.drop_eq_getElem_cons hlen]
  simp [numL]
theorem rel_num {a x n : Int} (h : a = x + 256 * n) : Value.int .i64 (256 * n + x) = .int .i64 a := by rw [h, Int.add_comm]
theorem num3 {l : List Int} (h : InR 0 255 l) (hl : l.length ≤ 3) : 0 ≤ numL l ∧ numL l ≤ 16777215 := by
  match l, hl, h with
  | [], _, _ => simp [numL]
  | [a], _, h => have := h a (by simp); simp [numL]; omega
  | [a, b], _, h => have := h a (by simp); have := h b (by simp); simp [numL]; omega
  | [a, b, c], _, h => have := h a (by simp); have := h b (by simp); have := h c (by simp); simp [numL]; omega
theorem getNumber_any (A : Option Addr) (zs : List Int) (c B : Nat) (at_ wide : Int) (w : World) (hr : Rd w B A (ints .u8 zs)) (hz : InR 0 255 zs) (hm : zs.length ≤ 1099511627776) :
    Calls Try.prog 77 #[.slice A zs.length c, .int .i64 at_, .int .i64 wide] w (Pure (.int .i64 (gnum zs at_ wide)) w) := by
  by_cases hw : 1 ≤ wide ∧ wide ≤ 4
  · have hb := inB_t hw
    by_cases ha : 0 ≤ at_ ∧ at_ ≤ zs.length - wide
    · have hA := inB_t ha
      obtain ⟨W, rfl⟩ := Int.eq_ofNat_of_zero_le (show 0 ≤ wide by omega)
      obtain ⟨a, rfl⟩ := Int.eq_ofNat_of_zero_le ha.1
      have HG := hide (show gnum zs a W = numL ((zs.drop a).take W) by rw [gnum, if_pos ⟨hb, hA⟩]; rfl)
      have hW1 : 1 ≤ W := by omega
      have hW4 : W ≤ 4 := by omega
      have hal : a + W ≤ zs.length := by omega
      clear hw ha
      go_enter Try.func77, Try.ntmps77
      go_wp2_with (first | (go_at_call 38; refine (within_any _ _ _ _).mono ?_; rintro e w' ⟨rfl, rfl⟩) | (go_at_call 76; refine (hasArg_any _ _).mono ?_; rintro e w' ⟨rfl, rfl⟩) | (go_at_call 40; refine (l1In_any _ _ _ _).mono ?_; rintro e w' ⟨rfl, rfl⟩) | (go_at_call 73; refine (l29Has_any _ _).mono ?_; rintro e w' ⟨rfl, rfl⟩) | fail)
      clear hb hA
      go_loop [7, 8] (fun n i => ∃ k : Nat, k ≤ W ∧ i = .int .i64 ((k : Int) - 1) ∧ n = .int .i64 (numL (((zs.drop a).take W).drop k))) (fun _ i => (intOf i + 1).toNat)
      case atStart =>
        refine ⟨W, Nat.le_refl _, rfl, ?_⟩
        rw [List.drop_of_length_le (by rw [List.length_take]; omega)]
        rfl
      case round =>
        obtain ⟨k, hk, rfl, rfl⟩ := hrel
        by_cases hk0 : k = 0
        · subst hk0
          have HZ := hide (show numL (((zs.drop a).take W).drop 0) = numL ((zs.drop a).take W) from rfl)
          clear hr hz
          go_wp2_with fail
          go_ret
          exact ⟨ret_int HG.out.symm, rfl⟩
        · obtain ⟨j, rfl⟩ : ∃ j, k = j + 1 := ⟨k - 1, by omega⟩
          have hj : a + j < zs.length := by omega
          obtain ⟨b, off, rfl, _, hc0⟩ := hr.int hj
          obtain ⟨x0, x1⟩ := hz.at_ hj
          have HS := hide (num_step (k := j) (by omega) hal)
          have hbd := numL_bd (l := ((zs.drop a).take W).drop (j + 1)) (fun x hx => hz x (List.mem_of_mem_drop (List.mem_of_mem_take (List.mem_of_mem_drop hx)))) (by rw [List.length_drop, List.length_take]; omega)
          have hbd3 := num3 (l := ((zs.drop a).take W).drop (j + 1)) (fun x hx => hz x (List.mem_of_mem_drop (List.mem_of_mem_take (List.mem_of_mem_drop hx)))) (by rw [List.length_drop, List.length_take]; omega)
          clear hr hz hbd
          generalize numL (((zs.drop a).take W).drop (j + 1)) = n at *
          generalize zs[a + j] = x at *
          obtain ⟨n0, n1⟩ := hbd3
          go_wp2_with fail
          go_round
          case rel => exact ⟨j, by omega, by go_num, rel_num HS.out⟩
          case measure => simp [intOf] <;> omega
    · have hA := inB_f ha
      have HG := hide (show gnum zs at_ wide = -1 by rw [gnum, if_neg (by rw [hA]; simp)])
      obtain ⟨hw1, hw2⟩ := hw
      clear ha hr hz
      go_enter Try.func77, Try.ntmps77
      go_wp2_with (first | (go_at_call 38; refine (within_any _ _ _ _).mono ?_; rintro e w' ⟨rfl, rfl⟩) | (go_at_call 76; refine (hasArg_any _ _).mono ?_; rintro e w' ⟨rfl, rfl⟩) | (go_at_call 40; refine (l1In_any _ _ _ _).mono ?_; rintro e w' ⟨rfl, rfl⟩) | (go_at_call 73; refine (l29Has_any _ _).mono ?_; rintro e w' ⟨rfl, rfl⟩) | fail)
      all_goals go_ret
      all_goals exact ⟨ret_int HG.out.symm, rfl⟩
  · have hb := inB_f hw
    have HG := hide (show gnum zs at_ wide = -1 by rw [gnum, if_neg (by rw [hb]; simp)])
    clear hw hr hz
    go_enter Try.func77, Try.ntmps77
    go_wp2_with (first | (go_at_call 38; refine (within_any _ _ _ _).mono ?_; rintro e w' ⟨rfl, rfl⟩) | (go_at_call 76; refine (hasArg_any _ _).mono ?_; rintro e w' ⟨rfl, rfl⟩) | (go_at_call 40; refine (l1In_any _ _ _ _).mono ?_; rintro e w' ⟨rfl, rfl⟩) | (go_at_call 73; refine (l29Has_any _ _).mono ?_; rintro e w' ⟨rfl, rfl⟩) | fail)
    go_ret
    exact ⟨ret_int HG.out.symm, rfl⟩
theorem getNumberS_any (A : Option Addr) (zs : List Int) (c B : Nat) (at_ wide : Int) (w : World) (hr : Rd w B A (ints .u8 zs)) (hz : InR 0 255 zs) (hm : zs.length ≤ 1099511627776) :
    Calls Try.prog 74 #[.slice A zs.length c, .int .i64 at_, .int .i64 wide] w (Pure (.int .i64 (gnum zs at_ wide)) w) := by
  by_cases hw : 1 ≤ wide ∧ wide ≤ 4
  · have hb := inB_t hw
    by_cases ha : 0 ≤ at_ ∧ at_ ≤ zs.length - wide
    · have hA := inB_t ha
      obtain ⟨W, rfl⟩ := Int.eq_ofNat_of_zero_le (show 0 ≤ wide by omega)
      obtain ⟨a, rfl⟩ := Int.eq_ofNat_of_zero_le ha.1
      have HG := hide (show gnum zs a W = numL ((zs.drop a).take W) by rw [gnum, if_pos ⟨hb, hA⟩]; rfl)
      have hW1 : 1 ≤ W := by omega
      have hW4 : W ≤ 4 := by omega
      have hal : a + W ≤ zs.length := by omega
      have hgt : decide ((zs.length : Int) - W < a) = false := by simp; omega
      clear hw ha
      go_enter Try.func74, Try.ntmps74
      go_wp2_with (first | (go_at_call 38; refine (within_any _ _ _ _).mono ?_; rintro e w' ⟨rfl, rfl⟩) | (go_at_call 76; refine (hasArg_any _ _).mono ?_; rintro e w' ⟨rfl, rfl⟩) | (go_at_call 40; refine (l1In_any _ _ _ _).mono ?_; rintro e w' ⟨rfl, rfl⟩) | (go_at_call 73; refine (l29Has_any _ _).mono ?_; rintro e w' ⟨rfl, rfl⟩) | fail)
      clear hb hA
      go_loop [7, 8] (fun n i => ∃ k : Nat, k ≤ W ∧ i = .int .i64 ((k : Int) - 1) ∧ n = .int .i64 (numL (((zs.drop a).take W).drop k))) (fun _ i => (intOf i + 1).toNat)
      case atStart =>
        refine ⟨W, Nat.le_refl _, rfl, ?_⟩
        rw [List.drop_of_length_le (by rw [List.length_take]; omega)]
        rfl
      case round =>
        obtain ⟨k, hk, rfl, rfl⟩ := hrel
        by_cases hk0 : k = 0
        · subst hk0
          have HZ := hide (show numL (((zs.drop a).take W).drop 0) = numL ((zs.drop a).take W) from rfl)
          clear hr hz
          go_wp2_with fail
          go_ret
          exact ⟨ret_int HG.out.symm, rfl⟩
        · obtain ⟨j, rfl⟩ : ∃ j, k = j + 1 := ⟨k - 1, by omega⟩
          have hj : a + j < zs.length := by omega
          obtain ⟨b, off, rfl, _, hc0⟩ := hr.int hj
          obtain ⟨x0, x1⟩ := hz.at_ hj
          have HS := hide (num_step (k := j) (by omega) hal)
          have hbd := numL_bd (l := ((zs.drop a).take W).drop (j + 1)) (fun x hx => hz x (List.mem_of_mem_drop (List.mem_of_mem_take (List.mem_of_mem_drop hx)))) (by rw [List.length_drop, List.length_take]; omega)
          have hbd3 := num3 (l := ((zs.drop a).take W).drop (j + 1)) (fun x hx => hz x (List.mem_of_mem_drop (List.mem_of_mem_take (List.mem_of_mem_drop hx)))) (by rw [List.length_drop, List.length_take]; omega)
          clear hr hz hbd
          generalize numL (((zs.drop a).take W).drop (j + 1)) = n at *
          generalize zs[a + j] = x at *
          obtain ⟨n0, n1⟩ := hbd3
          go_wp2_with fail
          go_round
          case rel => exact ⟨j, by omega, by go_num, rel_num HS.out⟩
          case measure => simp [intOf] <;> omega
    · have hA := inB_f ha
      have HG := hide (show gnum zs at_ wide = -1 by rw [gnum, if_neg (by rw [hA]; simp)])
      clear hr hz
      by_cases hneg : at_ < 0
      · clear hw ha
        go_enter Try.func74, Try.ntmps74
        go_wp2_with (first | (go_at_call 38; refine (within_any _ _ _ _).mono ?_; rintro e w' ⟨rfl, rfl⟩) | (go_at_call 76; refine (hasArg_any _ _).mono ?_; rintro e w' ⟨rfl, rfl⟩) | (go_at_call 40; refine (l1In_any _ _ _ _).mono ?_; rintro e w' ⟨rfl, rfl⟩) | (go_at_call 73; refine (l29Has_any _ _).mono ?_; rintro e w' ⟨rfl, rfl⟩) | fail)
        go_ret
        exact ⟨ret_int HG.out.symm, rfl⟩
      · have hgt : decide ((zs.length : Int) - wide < at_) = true := by simp; omega
        have hgt' : (zs.length : Int) - wide < at_ := by omega
        obtain ⟨hw1, hw2⟩ := hw
        clear ha
        go_enter Try.func74, Try.ntmps74
        go_wp2_with (first | (go_at_call 38; refine (within_any _ _ _ _).mono ?_; rintro e w' ⟨rfl, rfl⟩) | (go_at_call 76; refine (hasArg_any _ _).mono ?_; rintro e w' ⟨rfl, rfl⟩) | (go_at_call 40; refine (l1In_any _ _ _ _).mono ?_; rintro e w' ⟨rfl, rfl⟩) | (go_at_call 73; refine (l29Has_any _ _).mono ?_; rintro e w' ⟨rfl, rfl⟩) | fail)
        go_ret
        exact ⟨ret_int HG.out.symm, rfl⟩
  · have hb := inB_f hw
    have HG := hide (show gnum zs at_ wide = -1 by rw [gnum, if_neg (by rw [hb]; simp)])
    clear hw hr hz
    go_enter Try.func74, Try.ntmps74
    go_wp2_with (first | (go_at_call 38; refine (within_any _ _ _ _).mono ?_; rintro e w' ⟨rfl, rfl⟩) | (go_at_call 76; refine (hasArg_any _ _).mono ?_; rintro e w' ⟨rfl, rfl⟩) | (go_at_call 40; refine (l1In_any _ _ _ _).mono ?_; rintro e w' ⟨rfl, rfl⟩) | (go_at_call 73; refine (l29Has_any _ _).mono ?_; rintro e w' ⟨rfl, rfl⟩) | fail)
    go_ret
    exact ⟨ret_int HG.out.symm, rfl⟩
end Go.Proofs.Ytjnnjgogpapbhaa.CNumber
