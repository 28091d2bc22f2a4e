/- What ApplyPatches turns: the image under way, and rows of bytes with others put in. -/
import Derived.Test.YtjnnjgogpapbhaaCPatValid
import Derived.Test.YtjnnjgogpapbhaaBReg
import Derived.Laws.CopyOwn
namespace Go.Proofs.Ytjnnjgogpapbhaa.BApply
set_option maxRecDepth 200000
open Go.ChangeShapes Go.WideShapes Go.ChangeAt Go.RowKit Kit CCode CImage CPatch PPatch BPatch CPatches CPatValid
/-- A call that hands back an image, its bytes its own, and a bool. -/
def RetImg (b : Int) (zs : List Int) (ok : Bool) (w : World) (e : Ending) (w' : World) : Prop :=
  ∃ A c, e = .returned (.tuple #[.agg #[.int .i64 b, .slice A zs.length c], .bool ok]) ∧ Row w' w.heap.size 5 1 A zs.length c (ints .u8 zs) ∧ Below w.heap.size w w'
def outB (ok : Bool) (b : Int) : Int := bif ok then b else 0
def outZ (ok : Bool) (zs : List Int) : List Int := bif ok then zs else []
/-- The image under way: its variable, its bytes, and nothing else that turned since w0. -/
def Inv (w0 : World) (N Y : Nat) (b : Int) (A : Option Addr) (n c : Nat) (cur : List Int) (wr : World) : Prop :=
  Box wr Y 35 #[.int .i64 b, .slice A n c] ∧ N ≤ Y ∧ cur.length = n ∧ Row wr N 5 1 A n c (ints .u8 cur) ∧ Below N w0 wr
section
variable {w0 wr : World} {N Y : Nat} {b : Int} {A : Option Addr} {n c : Nat} {cur : List Int}
theorem Inv.own (h : Inv w0 N Y b A n c cur wr) {i : Nat} (hi : i < n) : ∃ g, A = some ⟨g, 0, none⟩ ∧ N ≤ g ∧ wr.ownsRow N 5 1 (.slice (some ⟨g, 0, none⟩) n c) n (ints .u8 cur) := by
  have hc : c ≠ 0 := by
    have := h.2.2.2.1.cap.1
    omega
  have hown : wr.ownsRow N 5 1 (.slice A n c) n (ints .u8 cur) := h.2.2.2.1.elim (fun h => absurd h.2.1 hc) id
  rcases hown.2 with ⟨hv, h0⟩ | ⟨g, cap, c', hv, hN, _⟩
  · omega
  · injection hv with hA
    subst hA
    exact ⟨g, rfl, hN, hown⟩
theorem Inv.store {g : Nat} (h : Inv w0 N Y b (some ⟨g, 0, none⟩) n c cur wr) (hg : N ≤ g) (ho : wr.ownsRow N 5 1 (.slice (some ⟨g, 0, none⟩) n c) n (ints .u8 cur)) (j : Nat) (x : Int) :
    Inv w0 N Y b (some ⟨g, 0, none⟩) n c (cur.set j x) (wr.setCell ⟨g, j, none⟩ (.int .u8 x)) := by
  refine ⟨h.1.far (p := ⟨g, j, none⟩) ?_ _, h.2.1, by rw [List.length_set]; exact h.2.2.1, .inr ?_, h.2.2.2.2.setCell (p := ⟨g, j, none⟩) hg _⟩
  · intro e
    obtain ⟨cs, hb⟩ : ∃ cs, Box wr g 5 cs := box_of_own ho
    subst e
    have := hb.symm.trans h.1
    simp at this
  · rw [← setInts]
    exact (ho.stored j _).1
theorem Inv.call {w' : World} (h : Inv w0 N Y b A n c cur wr) (hb : Below wr.heap.size wr w') : Inv w0 N Y b A n c cur w' :=
  ⟨h.1.call hb, h.2.1, h.2.2.1, h.2.2.2.1.call hb, h.2.2.2.2.trans (hb.mono (Nat.le_of_lt (Nat.lt_of_le_of_lt h.2.1 h.1.lt)))⟩
end
/-- A row into which others are copied. -/
theorem take_splice {A cs : List Value} {i n : Nat} (hin : i + cs.length ≤ n) (hn : n ≤ A.length) : (Go.splice A i cs).take n = Go.splice (A.take n) i cs := by
  unfold Go.splice
  have h1 : (A.take i).length = i := by rw [List.length_take]; omega
  have h2 : (A.take n).take i = A.take i := by rw [List.take_take]; congr 1; omega
  have h3 : (A.take i).take n = A.take i := by rw [List.take_take]; congr 1; omega
  have h4 : cs.take (n - i) = cs := List.take_of_length_le (by omega)
  rw [List.take_append, h1, h2, h3, List.take_append, h4, List.drop_take, show n - i - cs.length = n - (i + cs.length) by omega]
theorem splice_ints (l zs : List Int) (i : Nat) : Go.splice (ints .u8 l) i (ints .u8 zs) = ints .u8 (PPatch.splice l i zs) := by
  simp [Go.splice, PPatch.splice, ints]
theorem own_splice {w : World} {base g n c : Nat} {e : TypeId} {xs : List Value} (h : w.ownsRow base e 1 (.slice (some ⟨g, 0, none⟩) n c) n xs) :
    ∃ cur : List Value, w.heap[g]? = some (.cells cur.toArray e (0, 0)) ∧ base ≤ g ∧ n ≤ cur.length ∧ ∀ (w' : World) (i : Nat) (cs : List Value), i + cs.length ≤ n → w'.heap[g]? = some (.cells (Go.splice cur i cs).toArray e (0, 0)) → w'.ownsRow base e 1 (.slice (some ⟨g, 0, none⟩) n c) n (Go.splice xs i cs) := by
  have hl := h.1
  rcases h.2 with ⟨hv, _⟩ | ⟨g', cap, cur, hv, hb, hg, hn, hc, hs, ht⟩
  · cases hv
  · injection hv with hA _ hcap
    simp only [Option.some.injEq, Addr.mk.injEq, and_true] at hA
    subst hA hcap
    simp only [Nat.mul_one] at hs ht hl
    have hcl : cur.toList.length = c := by simpa using hs
    refine ⟨cur.toList, by simpa using hg, hb, by omega, fun w' i cs hi hw => ⟨?_, .inr ⟨g, c, _, rfl, hb, hw, hn, hc, ?_, ?_⟩⟩⟩
    · rw [Go.length_splice _ _ _ (by omega)]
      omega
    · simp only [Nat.mul_one, List.size_toArray]
      rw [Go.length_splice _ _ _ (by omega)]
      exact hcl
    · simp only [Nat.mul_one]
      rw [take_splice hi (by omega), ht]
end Go.Proofs.Ytjnnjgogpapbhaa.BApply
