/- What the door's laws read: the words of instructions and the library's table of powers; and the texts of instructions in plain. -/
import Derived.Test.YtjnnjgogpapbhaaDoorCNumTxt
import Derived.Test.YtjnnjgogpapbhaaDoorCCode
import Derived.Test.YtjnnjgogpapbhaaDoorXShelf
import Derived.Lib.AppendIntMem
namespace Go.Proofs.YtjnnjgogpapbhaaDoor.BWords
set_option maxRecDepth 200000
open Go.ChangeShapes Go.WideShapes Go.ChangeAt Go.RowKit Kit CCode CNumTxt
def words : List (List UInt8) := [[104, 97, 108, 116], [112, 117, 115, 104], [97, 100, 100], [115, 117, 98], [106, 117, 109, 112], [122, 101, 114, 111], [99, 97, 108, 108], [114, 101, 116, 117, 114, 110]]
def wordL (d : Nat) : List UInt8 := words.getD d []
def word (d : Nat) : ByteArray := ⟨(wordL d).toArray⟩
theorem word_len {d : Nat} : (wordL d).length ≤ 6 := by
  unfold wordL words
  match d with
  | 0 | 1 | 2 | 3 | 4 | 5 | 6 | 7 => decide
  | d + 8 => simp
theorem word_size (d : Nat) : (word d).size ≤ 6 := by
  have := word_len (d := d)
  simpa [word, ByteArray.size] using this
/-- The text of an instruction. -/
def codeL (a b : Int) : List UInt8 := bif codeOk a b then (bif hasArgB a then wordL a.toNat ++ [32] ++ Lib.itoa b else wordL a.toNat) else []
/-- The two variables as the program's text lays them. -/
structure LW (w : World) : Prop where
  pos : 0 < w.heap.size
  word : ∀ d, d < 8 → w.cell? ⟨0, d, none⟩ = some (.string (word d))
def Tab (w : World) : Prop := Lib.TabIs Tryd.prog w "internal/strconv.uint64pow10" .u64 Lib.pow10Tab
theorem Tab.below {w w' : World} (h : Tab w) (hb : Below w.heap.size w w') : Tab w' := Lib.tabBelow_of_tabIs h w' hb
theorem LW.below {w w' : World} (h : LW w) (hb : Below w.heap.size w w') : LW w' := ⟨Nat.lt_of_lt_of_le h.pos hb.size, fun d hd => (hb.cell (p := ⟨0, d, none⟩) h.pos).trans (h.word d hd)⟩
theorem itoa_any (n : Int) (h0 : -9223372036854775808 ≤ n) (h1 : n ≤ 9223372036854775807) (w : World) (ht : Tab w) :
    Calls Tryd.prog 31 #[.int .i64 n] w (Ret (.string ⟨(Lib.itoa n).toArray⟩) w) := by
  refine (Shelf.strconv_Itoa n h0 h1 w ht).mono ?_
  rintro e w' ⟨rfl, k, os, rfl⟩
  exact ⟨rfl, Lib.below_grow w.heap.size w (Nat.le_refl _) k os⟩
end Go.Proofs.YtjnnjgogpapbhaaDoor.BWords
