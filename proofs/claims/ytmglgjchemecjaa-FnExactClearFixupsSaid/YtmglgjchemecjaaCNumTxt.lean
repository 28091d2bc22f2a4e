/- The reference's decimal numbers: they are the library's. -/
import Derived.Test.YtmglgjchemecjaaCEqual
import Derived.Lib.ItoaNum
import Derived.Lib.ItoaLen
import Derived.Deep.CutRange
namespace Go.Proofs.Ytmglgjchemecjaa.CNumTxt
set_option maxRecDepth 200000
open Go.ChangeShapes Go.WideShapes Go.ChangeAt Go.RowKit Kit CEqual
def dch (v : Nat) : UInt8 := UInt8.ofNat (48 + v % 10)
/-- What stands before a number's last digit. -/
def dpre (v : Nat) : List UInt8 := if v < 10 then [] else Lib.decDigits (v / 10)
theorem dec_pre (v : Nat) : Lib.decDigits v = dpre v ++ [dch v] := by
  rw [Lib.decDigits]
  unfold dpre dch
  split
  · rename_i h
    rw [show v % 10 = v by omega]
    rfl
  · rfl
theorem dpre_next {v : Nat} (h : ¬ v < 10) : dpre v = dpre (v / 10) ++ [dch (v / 10)] := by
  rw [← dec_pre]
  unfold dpre
  rw [if_neg h]
theorem str_add (a b : List UInt8) : ((⟨a.toArray⟩ : ByteArray) ++ (⟨b.toArray⟩ : ByteArray)) = ⟨(a ++ b).toArray⟩ := by
  apply ByteArray.ext
  simp
theorem conv_digit (W : World) (v : Nat) : (convert 22 9 (.slice (some ⟨W.heap.size, 0, none⟩) 1 1)).run Try.prog (W.alloc (.cells #[.int .u8 (48 + (v : Int) % 10)] 5)) = .ok (.string ⟨[dch v].toArray⟩) (W.alloc (.cells #[.int .u8 (48 + (v : Int) % 10)] 5)) := by
  have h : Rd (W.alloc (.cells #[.int .u8 (48 + (v : Int) % 10)] 5)) (W.heap.size + 1) (some ⟨W.heap.size, 0, none⟩) (ints .u8 [48 + (v : Int) % 10]) := by
    intro i u hi
    match i, hi with
    | 0, hi =>
      simp at hi
      subst hi
      exact ⟨_, _, rfl, Nat.lt_succ_self _, (Box.new W 5 #[.int .u8 (48 + (v : Int) % 10)]).cell 0⟩
    | i + 1, hi => simp at hi
  have := conv_run h 1
  rw [show strOfNums [48 + (v : Int) % 10] = ⟨[dch v].toArray⟩ from by
    unfold strOfNums dch
    simp only [List.map_cons, List.map_nil]
    rw [show (48 + (v : Int) % 10).toNat = 48 + v % 10 by omega]] at this
  exact this
end Go.Proofs.Ytmglgjchemecjaa.CNumTxt
