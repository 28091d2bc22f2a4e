/- The texts that the laws' marks write. -/
import Derived.Test.YtmglgjchemecjaaCNumTxt
import Derived.Test.YtmglgjchemecjaaRows
namespace Go.Proofs.Ytmglgjchemecjaa.CMarkText
set_option maxRecDepth 200000
open Go.ChangeShapes Go.WideShapes Go.ChangeAt Go.RowKit Kit CNumTxt
def mpre (v : Nat) : List UInt8 := if v = 0 then [] else Lib.decDigits v
theorem mpre_next {v : Nat} (h : v ≠ 0) : mpre v = mpre (v / 10) ++ [dch v] := by
  unfold mpre
  rw [if_neg h, dec_pre]
  congr 1
  unfold dpre
  by_cases h9 : v < 10
  · rw [if_pos h9, if_pos (by omega)]
  · rw [if_neg h9, if_neg (by omega)]
/-- The letter m and the number's digits. -/
def mtx (k : Int) : ByteArray := if k ≤ 0 then ⟨#[109, 48]⟩ else ⟨(109 :: Lib.decDigits k.toNat).toArray⟩
theorem markText_any (k : Int) (w : World) (h1 : k ≤ 9000000000000) :
    Calls Try.prog 123 #[.int .i64 k] w (Ret (.string (mtx k)) w) := by
  by_cases h0 : k ≤ 0
  · have HV := hide (show mtx k = ⟨#[109, 48]⟩ from if_pos h0)
    go_enter Try.func123, Try.ntmps123
    go_wp2_with fail
    go_ret
    exact ⟨by rw [HV.out]; rfl, Below.refl _ _⟩
  · obtain ⟨u, rfl⟩ : ∃ u : Nat, k = u := ⟨k.toNat, by omega⟩
    have HV := hide (show mtx (u : Int) = ⟨(109 :: Lib.decDigits u).toArray⟩ from if_neg h0)
    have hm := Lib.nDigits_le20 u (by omega)
    go_enter Try.func123, Try.ntmps123
    go_wp2_with fail
    go_loopw [0, 3] (fun x s wr => ∃ (v : Nat) (l : List UInt8), x = .int .i64 v ∧ s = .string ⟨l.toArray⟩ ∧ v ≤ u ∧ mpre u = mpre v ++ l ∧ Below w.heap.size w wr) (fun x _ _ => (intOf x).toNat)
    case atStart => exact ⟨u, [], rfl, rfl, Nat.le_refl _, by simp, Below.refl _ _⟩
    case round =>
      obtain ⟨v, l, rfl, rfl, hv, hd, hb⟩ := hrel
      have hll : l.length ≤ 20 := by
        have h := congrArg List.length hd
        rw [List.length_append] at h
        have : (mpre u).length ≤ 20 := by
          unfold mpre
          split
          · simp
          · rw [Lib.decDigits_length]; omega
        omega
      have hl1 : ¬ 9223372036854775807 < l.length := by omega
      have hl2 : ¬ 9223372036854775807 < 1 + l.length := by omega
      have hl3 : ¬ 9223372036854775807 < l.length + 1 := by omega
      have HD := hide hd
      have HB := hide hb
      clear hd hb
      by_cases hz : v = 0
      · subst hz
        have HF := hide (show ((⟨#[109]⟩ : ByteArray) ++ (⟨l.toArray⟩ : ByteArray)) = mtx (u : Int) by
          rw [HV.out, show ((⟨#[109]⟩ : ByteArray) ++ (⟨l.toArray⟩ : ByteArray)) = ⟨([109] ++ l).toArray⟩ from str_add [109] l]
          have h := HD.out
          have hu : u ≠ 0 := by omega
          have h2 : mpre u = Lib.decDigits u := if_neg hu
          rw [h2] at h
          rw [h]
          rfl)
        go_wp2_with fail
        rw [HF.out]
        go_ret
        exact ⟨rfl, HB.out⟩
      · have hv0 : (0 : Int) < v := by omega
        have e1 := conv_digit wr v
        have HA := hide (str_add [dch v] l)
        have HN := hide (show (v : Int) / 10 = ((v / 10 : Nat) : Int) from by omega)
        have HP := hide (mpre_next hz)
        go_wp2_with fail
        go_roundw
        case rel =>
          refine ⟨v / 10, [dch v] ++ l, by rw [HN.out], by rw [← HA.out], by omega, ?_, HB.out.alloc HB.out.size _⟩
          rw [HD.out, HP.out, List.append_assoc]
        case measure => simp [intOf]; omega
end Go.Proofs.Ytmglgjchemecjaa.CMarkText
