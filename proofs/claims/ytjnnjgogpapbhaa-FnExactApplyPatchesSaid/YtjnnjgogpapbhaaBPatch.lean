/- Lists of patches in memory: what is read, what is the call's own. -/
import Derived.Test.YtjnnjgogpapbhaaCPatch
import Derived.Test.YtjnnjgogpapbhaaPPatch
namespace Go.Proofs.Ytjnnjgogpapbhaa.BPatch
set_option maxRecDepth 200000
open Go.ChangeShapes Go.WideShapes Go.ChangeAt Go.RowKit Kit CImage CPatch PPatch
theorem info : (Try.prog.info? 72).map (fun i => (i.zero, i.size, i.bytes)) = some (some (.agg #[.int .i64 0, .slice none 0 0]), 2, 32) := by kernel_rfl
/-- The patches' bytes are rows. -/
def RwPs (w : World) (base : Nat) (ps : List PV) : Prop := ∀ p ∈ ps, Row w base 5 1 p.A p.zs.length p.c (ints .u8 p.zs)
def PwPs (ps : List PV) : Prop := ps.Pairwise fun p q => Apart p.A p.c q.A q.c
def RdPs (w : World) (B : Nat) (A : Option Addr) (ps : List PV) : Prop := Rd w B A (cellsOf patchC ps) ∧ ∀ p ∈ ps, Rd w B p.A (ints .u8 p.zs)
def OwnPs (w : World) (base : Nat) (A : Option Addr) (c : Nat) (ps : List PV) : Prop := Row w base 72 2 A ps.length c (cellsOf patchC ps) ∧ RwPs w base ps ∧ PwPs ps
/-- The blocks of patches. -/
def pblk (A : Option Addr) (c : Nat) (ps : List PV) (k : Nat) : Prop := blk A c = some k ∨ ∃ p ∈ ps, blk p.A p.c = some k
section
variable {w w' : World} {B B' base : Nat} {A : Option Addr} {c : Nat} {ps : List PV}
theorem RdPs.below (h : RdPs w B A ps) (hb : Below B w w') : RdPs w' B A ps := ⟨h.1.below hb, fun p hp => (h.2 p hp).below hb⟩
theorem RdPs.more (h : RdPs w B A ps) (hB : B ≤ B') : RdPs w B' A ps := ⟨h.1.more hB, fun p hp => (h.2 p hp).more hB⟩
theorem OwnPs.rd (h : OwnPs w base A c ps) : RdPs w w.heap.size A ps := ⟨h.1.rd, fun p hp => (h.2.1 p hp).rd⟩
theorem OwnPs.lt (h : OwnPs w base A c ps) : ∀ k, pblk A c ps k → base ≤ k ∧ k < w.heap.size := by
  rintro k (hk | ⟨p, hp, hk⟩)
  · exact h.1.lt k hk
  · exact (h.2.1 p hp).lt k hk
theorem OwnPs.keep (h : OwnPs w base A c ps) (hk : ∀ k, pblk A c ps k → w'.heap[k]? = w.heap[k]?) : OwnPs w' base A c ps :=
  ⟨h.1.keep fun k hb => hk k (.inl hb), fun p hp => (h.2.1 p hp).keep fun k hb => hk k (.inr ⟨p, hp, hb⟩), h.2.2⟩
theorem OwnPs.call (h : OwnPs w base A c ps) (hb : Below w.heap.size w w') : OwnPs w' base A c ps := h.keep fun k hk => hb.block k (h.lt k hk).2
theorem OwnPs.down {b : Nat} (h : OwnPs w base A c ps) (hb : b ≤ base) : OwnPs w b A c ps := ⟨h.1.down hb, fun p hp => (h.2.1 p hp).down hb, h.2.2⟩
theorem OwnPs.nil (h : OwnPs w base A c ps) : A = none → c = 0 := h.1.nil
theorem RwPs.keep (h : RwPs w base ps) (hk : ∀ k p, p ∈ ps → blk p.A p.c = some k → w'.heap[k]? = w.heap[k]?) : RwPs w' base ps := fun p hp => (h p hp).keep fun k hb => hk k p hp hb
theorem RwPs.call (h : RwPs w base ps) (hb : Below w.heap.size w w') : RwPs w' base ps := h.keep fun k p hp hk => hb.block k ((h p hp).lt k hk).2
theorem RwPs.snoc {q : PV} (h : RwPs w base ps) (hq : Row w base 5 1 q.A q.zs.length q.c (ints .u8 q.zs)) : RwPs w base (ps ++ [q]) := by
  intro p hp
  rcases List.mem_append.1 hp with hp | hp
  · exact h p hp
  · obtain rfl := List.mem_singleton.1 hp
    exact hq
theorem PwPs.snoc {q : PV} {N : Nat} (h : PwPs ps) (h1 : ∀ p ∈ ps, ∀ k, blk p.A p.c = some k → k < N) (h2 : ∀ k, blk q.A q.c = some k → N ≤ k) : PwPs (ps ++ [q]) := by
  refine List.pairwise_append.2 ⟨h, List.pairwise_singleton _ _, fun a ha b hb => ?_⟩
  obtain rfl := List.mem_singleton.1 hb
  intro k hk hk'
  have e1 := h1 a ha k hk
  have e2 := h2 k hk'
  omega
end
theorem box_of_own {w : World} {base g n c size : Nat} {e : TypeId} {xs : List Value} (h : w.ownsRow base e size (.slice (some ⟨g, 0, none⟩) n c) n xs) : ∃ cs, Box w g e cs := by
  rcases h.2 with ⟨hv, _⟩ | ⟨g', cap, cur, hv, _, hg, _⟩
  · cases hv
  · injection hv with hA
    simp only [Option.some.injEq, Addr.mk.injEq, and_true] at hA
    subst hA
    exact ⟨cur, hg⟩
theorem _root_.Go.Proofs.Ytjnnjgogpapbhaa.Kit.Row.apart_type {w : World} {base base' : Nat} {e e' : TypeId} {size size' n n' c c' : Nat} {A A' : Option Addr} {xs xs' : List Value} (h : Row w base e size A n c xs) (h' : Row w base' e' size' A' n' c' xs') (hne : e ≠ e') : ∀ k, blk A c = some k → blk A' c' ≠ some k := by
  intro k hk hk'
  have hc : c' ≠ 0 := by
    intro h0
    rw [h0] at hk'
    cases hk'
  have hown : w.ownsRow base' e' size' (.slice A' n' c') n' xs' := h'.elim (fun h => absurd h.2.1 hc) id
  rcases hown.2 with ⟨hv, h0⟩ | ⟨g, cap, cur, hv, _, hg, _⟩
  · injection hv with hA
    subst hA
    unfold blk at hk'
    split at hk' <;> cases hk'
  · injection hv with hA
    subst hA
    have hkg : g = k := by
      unfold blk at hk'
      rw [if_neg hc] at hk'
      simpa using hk'
    subst hkg
    exact h.box (show Box w g e' cur from hg) hne g hk rfl
/-- Rows of bytes lie apart from the row of patches. -/
theorem RwPs.far {w : World} {base base' g n c : Nat} {ps : List PV} {xs : List Value} (h : RwPs w base ps) (ho : w.ownsRow base' 72 2 (.slice (some ⟨g, 0, none⟩) n c) n xs) : ∀ p ∈ ps, ∀ k, blk p.A p.c = some k → k ≠ g := by
  obtain ⟨cs, hb⟩ := box_of_own ho
  exact fun p hp => (h p hp).box hb (by decide)
theorem RwPs.set2 {w : World} {base g i j : Nat} {ps : List PV} (h : RwPs w base ps) (hf : ∀ p ∈ ps, ∀ k, blk p.A p.c = some k → k ≠ g) (u v : Value) : RwPs ((w.setCell ⟨g, i, none⟩ u).setCell ⟨g, j, none⟩ v) base ps :=
  fun p hp => ((h p hp).set (a := ⟨g, i, none⟩) (hf p hp) u).set (a := ⟨g, j, none⟩) (hf p hp) v
theorem cells_snoc (qs : List PV) (q : PV) : cellsOf patchC (qs ++ [q]) = cellsOf patchC qs ++ [.int .i64 q.at_, .slice q.A q.zs.length q.c] := by simp [cellsOf, patchC]
end Go.Proofs.Ytjnnjgogpapbhaa.BPatch
