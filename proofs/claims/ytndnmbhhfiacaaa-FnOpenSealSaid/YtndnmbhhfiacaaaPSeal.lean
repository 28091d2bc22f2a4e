/- Plain mathematics of seals: the bytes of a number and the number of bytes; what is sealed can be opened, what was opened was sealed, and a changed byte is noticed. -/
import Derived.Test.YtndnmbhhfiacaaaPSums
import Derived.Test.YtndnmbhhfiacaaaCNumber
namespace Go.Proofs.Ytndnmbhhfiacaaa.PSeal
set_option maxRecDepth 200000
open Go.ChangeShapes Go.WideShapes Go.ChangeAt Go.RowKit Kit CCode CSumOf CNumber PSums
def sealed (zs : List Int) : List Int := if zs.length ≤ 2000 then zs ++ putL 2 (sumOf zs) else []
def openOk (zs : List Int) : Bool := decide (2 ≤ zs.length) && decide (zs.length ≤ 2002) && decide (sealed (zs.take (zs.length - 2)) = zs)
def opened (zs : List Int) : List Int × Bool := if openOk zs then (zs.take (zs.length - 2), true) else ([], false)
theorem putL2 (x : Int) (h0 : 0 ≤ x) (h1 : x ≤ 65535) : ∃ a b : Int, putL 2 x = [a, b] ∧ 0 ≤ a ∧ a ≤ 255 ∧ 0 ≤ b ∧ b ≤ 255 ∧ x = a + 256 * b := ⟨x % 256, x / 256 % 256, rfl, by omega, by omega, by omega, by omega, by omega⟩
theorem num_put {a b x : Int} (ha : 0 ≤ a ∧ a ≤ 255) (hb : 0 ≤ b ∧ b ≤ 255) (h0 : 0 ≤ x) (h1 : x ≤ 65535) : (putL 2 x = [a, b]) ↔ numL [a, b] = x := by
  simp only [putL, numL, List.cons.injEq, and_true]
  constructor
  · rintro ⟨h2, h3⟩; omega
  · intro h; constructor <;> omega
theorem sealed_bd (zs : List Int) (hz : InR 0 255 zs) : (sealed zs).length ≤ 2002 ∧ InR 0 255 (sealed zs) := by
  unfold sealed
  split
  · refine ⟨by simp [putL_len]; omega, fun x hx => ?_⟩
    rcases List.mem_append.1 hx with hx | hx
    · exact hz x hx
    · exact putL_bd 2 _ x hx
  · exact ⟨by simp, fun x hx => by simp at hx⟩
theorem opened_bd (zs : List Int) (hz : InR 0 255 zs) : (opened zs).1.length ≤ 2000 ∧ InR 0 255 (opened zs).1 := by
  unfold opened
  cases h : openOk zs
  · exact ⟨by simp, fun x hx => by simp at hx⟩
  · simp only [openOk, Bool.and_eq_true, decide_eq_true_eq] at h
    refine ⟨by simp; omega, fun x hx => hz x (List.mem_of_mem_take hx)⟩
theorem two_left {zs : List Int} (h : 2 ≤ zs.length) : ∃ a b, zs.drop (zs.length - 2) = [a, b] := by
  have hl : (zs.drop (zs.length - 2)).length = 2 := by rw [List.length_drop]; omega
  match zs.drop (zs.length - 2), hl with
  | [a, b], _ => exact ⟨a, b, rfl⟩
/-- What the reference tests is what the program tests. -/
theorem open_test {zs : List Int} (hz : InR 0 255 zs) (h2 : 2 ≤ zs.length) (hm : zs.length ≤ 2002) : (sealed (zs.take (zs.length - 2)) = zs) ↔ gnum zs ((zs.length : Int) - 2) 2 = sumOf (zs.take (zs.length - 2)) := by
  obtain ⟨a, b, hd⟩ := two_left h2
  have ha := hz a (List.mem_of_mem_drop (i := zs.length - 2) (by rw [hd]; simp))
  have hb := hz b (List.mem_of_mem_drop (i := zs.length - 2) (by rw [hd]; simp))
  have hs := sumOf_bd (zs.take (zs.length - 2))
  have hg : gnum zs ((zs.length : Int) - 2) 2 = numL [a, b] := by
    unfold gnum
    rw [if_pos ⟨inB_t (by omega), inB_t (by omega)⟩, show ((zs.length : Int) - 2).toNat = zs.length - 2 by omega, hd]
    rfl
  rw [hg, ← num_put ha hb hs.1 (by omega), ← hd]
  unfold sealed
  rw [if_pos (by rw [List.length_take]; omega)]
  conv => lhs; rhs; rw [← List.take_append_drop (zs.length - 2) zs]
  exact ⟨fun h => List.append_cancel_left h, fun h => by rw [h]⟩
end Go.Proofs.Ytndnmbhhfiacaaa.PSeal
