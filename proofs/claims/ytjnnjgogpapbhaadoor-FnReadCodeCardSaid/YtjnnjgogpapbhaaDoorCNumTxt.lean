/- The reference's decimal numbers: they are the library's. -/
import Derived.Test.YtjnnjgogpapbhaaDoorCEqual
import Derived.Lib.ItoaNum
import Derived.Lib.ItoaLen
import Derived.Deep.CutRange
namespace Go.Proofs.YtjnnjgogpapbhaaDoor.CNumTxt
set_option maxRecDepth 200000
open Go.ChangeShapes Go.WideShapes Go.ChangeAt Go.RowKit Kit CEqual
def dch (v : Nat) : UInt8 := UInt8.ofNat (48 + v % 10)
/-- What stands before a number's last digit. -/
def dpre (v : Nat) : List UInt8 := if v < 10 then [] else Lib.decDigits (v / 10)
theorem dec_pre (v : Nat) : Lib.decDigits v = dpre v ++ [dch v] := by
  rw [Lib.decDigits]
  unfold dpre dch
  split
  · rename_i h
    rw [show v % 10 = v by omega]
    rfl
  · rfl
theorem dpre_next {v : Nat} (h : ¬ v < 10) : dpre v = dpre (v / 10) ++ [dch (v / 10)] := by
  rw [← dec_pre]
  unfold dpre
  rw [if_neg h]
theorem str_add (a b : List UInt8) : ((⟨a.toArray⟩ : ByteArray) ++ (⟨b.toArray⟩ : ByteArray)) = ⟨(a ++ b).toArray⟩ := by
  apply ByteArray.ext
  simp
theorem conv_digit (W : World) (v : Nat) : (convert 35 9 (.slice (some ⟨W.heap.size, 0, none⟩) 1 1)).run Tryd.prog (W.alloc (.cells #[.int .u8 (48 + (v : Int) % 10)] 5)) = .ok (.string ⟨[dch v].toArray⟩) (W.alloc (.cells #[.int .u8 (48 + (v : Int) % 10)] 5)) := by
  have h : Rd (W.alloc (.cells #[.int .u8 (48 + (v : Int) % 10)] 5)) (W.heap.size + 1) (some ⟨W.heap.size, 0, none⟩) (ints .u8 [48 + (v : Int) % 10]) := by
    intro i u hi
    match i, hi with
    | 0, hi =>
      simp at hi
      subst hi
      exact ⟨_, _, rfl, Nat.lt_succ_self _, (Box.new W 5 #[.int .u8 (48 + (v : Int) % 10)]).cell 0⟩
    | i + 1, hi => simp at hi
  have := conv_run h 1
  rw [show strOfNums [48 + (v : Int) % 10] = ⟨[dch v].toArray⟩ from by
    unfold strOfNums dch
    simp only [List.map_cons, List.map_nil]
    rw [show (48 + (v : Int) % 10).toNat = 48 + v % 10 by omega]] at this
  exact this
theorem l8Number_any (n : Int) (w : World) (h0 : -1000000000 ≤ n) (h1 : n ≤ 1000000000) :
    Calls Tryd.prog 28 #[.int .i64 n] w (Ret (.string ⟨(Lib.itoa n).toArray⟩) w) := by
  by_cases hn : n < 0
  · obtain ⟨u, rfl⟩ : ∃ u : Nat, n = -(u : Int) := ⟨n.natAbs, by omega⟩
    have w1 : IntKind.i64.wrap (u : Int) = u := by rw [IntKind.wrap_i64]; omega
    have hu1 : 1 ≤ u := by omega
    have e1 := conv_digit w u
    go_enter Tryd.func28, Tryd.ntmps28
    go_wp2_with fail
    clear e1
    go_loopw [0, 4] (fun x s wr => ∃ (v : Nat) (l : List UInt8), x = .int .i64 v ∧ s = .string ⟨l.toArray⟩ ∧ v ≤ u ∧ Lib.decDigits u = dpre v ++ l ∧ Below w.heap.size w wr) (fun x _ _ => (intOf x).toNat)
    case atStart => exact ⟨u, _, rfl, rfl, Nat.le_refl _, dec_pre u, (by repeat (first | exact Below.refl _ _ | with_reducible assumption | (refine Below.drew ?_) | (refine Below.drewN ?_ _) | (refine Below.alloc ?_ (by simp; try omega) _) | (refine Below.setCell ?_ (by simp; try omega) _)))⟩
    case round =>
      obtain ⟨v, l, rfl, rfl, hv, hd, hb⟩ := hrel
      have hll : l.length ≤ 20 := by
        have h := congrArg List.length hd
        rw [Lib.decDigits_length, List.length_append] at h
        have := Lib.nDigits_le20 u (by omega)
        omega
      have hl1 : ¬ 9223372036854775807 < l.length := by omega
      have hl2 : ¬ 9223372036854775807 < 1 + l.length := by omega
      have hl3 : ¬ 9223372036854775807 < l.length + 1 := by omega
      have HD := hide hd
      have HB := hide hb
      clear hd hb
      by_cases h9 : v < 10
      · have HV := hide (show ((⟨#[45]⟩ : ByteArray) ++ (⟨l.toArray⟩ : ByteArray)) = ⟨(Lib.itoa (-(u : Int))).toArray⟩ from by
          rw [show ((⟨#[45]⟩ : ByteArray) ++ (⟨l.toArray⟩ : ByteArray)) = ⟨([45] ++ l).toArray⟩ from str_add [45] l]
          have h := HD.out
          rw [dpre, if_pos h9, List.nil_append] at h
          rw [Lib.itoa_neg u hu1, h]
          rfl)
        go_wp2_with fail
        rw [HV.out]
        go_ret
        exact ⟨rfl, HB.out⟩
      · have e1 := conv_digit wr (v / 10)
        rw [show ((v / 10 : Nat) : Int) = (v : Int) / 10 from by omega] at e1
        have HV := hide (str_add [dch (v / 10)] l)
        have HN := hide (show (v : Int) / 10 = ((v / 10 : Nat) : Int) from by omega)
        have HP := hide (dpre_next h9)
        go_wp2_with fail
        go_roundw
        case rel =>
          refine ⟨v / 10, [dch (v / 10)] ++ l, by rw [HN.out], by rw [← HV.out], by omega, ?_, HB.out.alloc HB.out.size _⟩
          rw [HD.out, HP.out, List.append_assoc]
        case measure => simp [intOf]; omega
  · obtain ⟨u, rfl⟩ : ∃ u : Nat, n = u := ⟨n.toNat, by omega⟩
    have e1 := conv_digit w u
    go_enter Tryd.func28, Tryd.ntmps28
    go_wp2_with fail
    clear e1
    go_loopw [0, 4] (fun x s wr => ∃ (v : Nat) (l : List UInt8), x = .int .i64 v ∧ s = .string ⟨l.toArray⟩ ∧ v ≤ u ∧ Lib.decDigits u = dpre v ++ l ∧ Below w.heap.size w wr) (fun x _ _ => (intOf x).toNat)
    case atStart => exact ⟨u, _, rfl, rfl, Nat.le_refl _, dec_pre u, (by repeat (first | exact Below.refl _ _ | with_reducible assumption | (refine Below.drew ?_) | (refine Below.drewN ?_ _) | (refine Below.alloc ?_ (by simp; try omega) _) | (refine Below.setCell ?_ (by simp; try omega) _)))⟩
    case round =>
      obtain ⟨v, l, rfl, rfl, hv, hd, hb⟩ := hrel
      have hll : l.length ≤ 20 := by
        have h := congrArg List.length hd
        rw [Lib.decDigits_length, List.length_append] at h
        have := Lib.nDigits_le20 u (by omega)
        omega
      have hl1 : ¬ 9223372036854775807 < l.length := by omega
      have hl2 : ¬ 9223372036854775807 < 1 + l.length := by omega
      have hl3 : ¬ 9223372036854775807 < l.length + 1 := by omega
      have HD := hide hd
      have HB := hide hb
      clear hd hb
      by_cases h9 : v < 10
      · have HV := hide (show ((⟨#[]⟩ : ByteArray) ++ (⟨l.toArray⟩ : ByteArray)) = ⟨(Lib.itoa (u : Int)).toArray⟩ from by
          rw [show ((⟨#[]⟩ : ByteArray) ++ (⟨l.toArray⟩ : ByteArray)) = ⟨l.toArray⟩ from str_add [] l]
          have h := HD.out
          rw [dpre, if_pos h9, List.nil_append] at h
          rw [Lib.itoa, if_neg (by omega), show (u : Int).toNat = u from rfl, h])
        go_wp2_with fail
        rw [HV.out]
        go_ret
        exact ⟨rfl, HB.out⟩
      · have e1 := conv_digit wr (v / 10)
        rw [show ((v / 10 : Nat) : Int) = (v : Int) / 10 from by omega] at e1
        have HV := hide (str_add [dch (v / 10)] l)
        have HN := hide (show (v : Int) / 10 = ((v / 10 : Nat) : Int) from by omega)
        have HP := hide (dpre_next h9)
        go_wp2_with fail
        go_roundw
        case rel =>
          refine ⟨v / 10, [dch (v / 10)] ++ l, by rw [HN.out], by rw [← HV.out], by omega, ?_, HB.out.alloc HB.out.size _⟩
          rw [HD.out, HP.out, List.append_assoc]
        case measure => simp [intOf]; omega
end Go.Proofs.YtjnnjgogpapbhaaDoor.CNumTxt
