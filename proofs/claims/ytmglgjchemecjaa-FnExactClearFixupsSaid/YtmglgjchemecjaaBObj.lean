/- Objects in memory: what is read, what is the call's own. -/
import Derived.Test.YtmglgjchemecjaaPObj
import Derived.Test.YtmglgjchemecjaaBGp
import Derived.Test.YtmglgjchemecjaaCBytes
namespace Go.Proofs.Ytmglgjchemecjaa.BObj
set_option maxRecDepth 200000
open Go.ChangeShapes Go.WideShapes Go.ChangeAt Go.RowKit Kit CFixups CSymbols PObj
theorem info : (Try.prog.info? 73).map (fun i => (i.zero, i.size, i.bytes)) = some (some (.agg #[.string ByteArray.empty, .int .i64 0, .int .i64 0, .slice none 0 0, .int .i64 0, .slice none 0 0]), 6, 88) := by kernel_rfl
/-- A section's rows. -/
def RwS (w : World) (base : Nat) (p : SV) : Prop := Row w base 5 1 p.A p.zs.length p.c (ints .u8 p.zs) ∧ Row w base 77 4 p.F p.fs.length p.fc (cellsOf fixupC p.fs)
def RdS (w : World) (B : Nat) (p : SV) : Prop := Rd w B p.A (ints .u8 p.zs) ∧ Rd w B p.F (cellsOf fixupC p.fs)
def ApS (p q : SV) : Prop := Apart p.A p.c q.A q.c ∧ Apart p.F p.fc q.F q.fc
def RwSs (w : World) (base : Nat) (ps : List SV) : Prop := ∀ p ∈ ps, RwS w base p
def RdSs (w : World) (B : Nat) (A : Option Addr) (ps : List SV) : Prop := Rd w B A (cellsOf secC ps) ∧ ∀ p ∈ ps, RdS w B p
def PwSs (ps : List SV) : Prop := ps.Pairwise ApS
def OwnSs (w : World) (base : Nat) (A : Option Addr) (c : Nat) (ps : List SV) : Prop := Row w base 73 6 A ps.length c (cellsOf secC ps) ∧ RwSs w base ps ∧ PwSs ps
def RdO (w : World) (B : Nat) (o : OV) : Prop := RdSs w B o.A o.ps ∧ Rd w B o.Y (cellsOf symbolC o.ys)
def OwnO (w : World) (base : Nat) (o : OV) : Prop := OwnSs w base o.A o.c o.ps ∧ Row w base 69 4 o.Y o.ys.length o.yc (cellsOf symbolC o.ys)
/-- The blocks of a section, of sections, of an object. -/
def sblk (p : SV) (k : Nat) : Prop := blk p.A p.c = some k ∨ blk p.F p.fc = some k
def ssblk (A : Option Addr) (c : Nat) (ps : List SV) (k : Nat) : Prop := blk A c = some k ∨ ∃ p ∈ ps, sblk p k
def oblk (o : OV) (k : Nat) : Prop := ssblk o.A o.c o.ps k ∨ blk o.Y o.yc = some k
section
variable {w w' : World} {B B' base : Nat} {A : Option Addr} {c : Nat} {ps : List SV} {p : SV} {o : OV}
theorem RdS.below (h : RdS w B p) (hb : Below B w w') : RdS w' B p := ⟨h.1.below hb, h.2.below hb⟩
theorem RdS.more (h : RdS w B p) (hB : B ≤ B') : RdS w B' p := ⟨h.1.more hB, h.2.more hB⟩
theorem RdSs.below (h : RdSs w B A ps) (hb : Below B w w') : RdSs w' B A ps := ⟨h.1.below hb, fun p hp => (h.2 p hp).below hb⟩
theorem RdSs.more (h : RdSs w B A ps) (hB : B ≤ B') : RdSs w B' A ps := ⟨h.1.more hB, fun p hp => (h.2 p hp).more hB⟩
theorem RdO.below (h : RdO w B o) (hb : Below B w w') : RdO w' B o := ⟨h.1.below hb, h.2.below hb⟩
theorem RdO.more (h : RdO w B o) (hB : B ≤ B') : RdO w B' o := ⟨h.1.more hB, h.2.more hB⟩
theorem RdO.call (h : RdO w w.heap.size o) (hb : Below w.heap.size w w') : RdO w' w'.heap.size o := (h.below hb).more hb.size
theorem RwS.rd (h : RwS w base p) : RdS w w.heap.size p := ⟨h.1.rd, h.2.rd⟩
theorem OwnSs.rd (h : OwnSs w base A c ps) : RdSs w w.heap.size A ps := ⟨h.1.rd, fun p hp => (h.2.1 p hp).rd⟩
theorem OwnO.rd (h : OwnO w base o) : RdO w w.heap.size o := ⟨h.1.rd, h.2.rd⟩
theorem RwS.lt (h : RwS w base p) : ∀ k, sblk p k → base ≤ k ∧ k < w.heap.size := by
  rintro k (hk | hk)
  · exact h.1.lt k hk
  · exact h.2.lt k hk
theorem OwnSs.lt (h : OwnSs w base A c ps) : ∀ k, ssblk A c ps k → base ≤ k ∧ k < w.heap.size := by
  rintro k (hk | ⟨p, hp, hk⟩)
  · exact h.1.lt k hk
  · exact (h.2.1 p hp).lt k hk
theorem OwnO.lt (h : OwnO w base o) : ∀ k, oblk o k → base ≤ k ∧ k < w.heap.size := by
  rintro k (hk | hk)
  · exact h.1.lt k hk
  · exact h.2.lt k hk
theorem RwS.keep (h : RwS w base p) (hk : ∀ k, sblk p k → w'.heap[k]? = w.heap[k]?) : RwS w' base p := ⟨h.1.keep fun k hb => hk k (.inl hb), h.2.keep fun k hb => hk k (.inr hb)⟩
theorem RwS.call (h : RwS w base p) (hb : Below w.heap.size w w') : RwS w' base p := h.keep fun k hk => hb.block k (h.lt k hk).2
theorem RwS.down {b : Nat} (h : RwS w base p) (hb : b ≤ base) : RwS w b p := ⟨h.1.down hb, h.2.down hb⟩
theorem RwS.set (h : RwS w base p) {a : Addr} (ha : ∀ k, sblk p k → k ≠ a.block) (u : Value) : RwS (w.setCell a u) base p := h.keep fun k hk => Below.heap_setCell w a u k (ha k hk)
theorem RwS.gp {q : Nat → Prop} (g : Gp q w w') (h : RwS w base p) (hp : ∀ k, sblk p k → ¬ q k) : RwS w' base p := h.keep fun k hk => g.block k (h.lt k hk).2 (hp k hk)
theorem RwSs.call (h : RwSs w base ps) (hb : Below w.heap.size w w') : RwSs w' base ps := fun p hp => (h p hp).call hb
theorem RwSs.down {b : Nat} (h : RwSs w base ps) (hb : b ≤ base) : RwSs w b ps := fun p hp => (h p hp).down hb
theorem OwnSs.keep (h : OwnSs w base A c ps) (hk : ∀ k, ssblk A c ps k → w'.heap[k]? = w.heap[k]?) : OwnSs w' base A c ps :=
  ⟨h.1.keep fun k hb => hk k (.inl hb), fun p hp => (h.2.1 p hp).keep fun k hb => hk k (.inr ⟨p, hp, hb⟩), h.2.2⟩
theorem OwnSs.call (h : OwnSs w base A c ps) (hb : Below w.heap.size w w') : OwnSs w' base A c ps := h.keep fun k hk => hb.block k (h.lt k hk).2
theorem OwnSs.down {b : Nat} (h : OwnSs w base A c ps) (hb : b ≤ base) : OwnSs w b A c ps := ⟨h.1.down hb, h.2.1.down hb, h.2.2⟩
theorem OwnO.keep (h : OwnO w base o) (hk : ∀ k, oblk o k → w'.heap[k]? = w.heap[k]?) : OwnO w' base o := ⟨h.1.keep fun k hb => hk k (.inl hb), h.2.keep fun k hb => hk k (.inr hb)⟩
theorem OwnO.call (h : OwnO w base o) (hb : Below w.heap.size w w') : OwnO w' base o := h.keep fun k hk => hb.block k (h.lt k hk).2
theorem OwnO.down {b : Nat} (h : OwnO w base o) (hb : b ≤ base) : OwnO w b o := ⟨h.1.down hb, h.2.down hb⟩
theorem OwnO.gp {q : Nat → Prop} (g : Gp q w w') (h : OwnO w base o) (hp : ∀ k, oblk o k → ¬ q k) : OwnO w' base o := h.keep fun k hk => g.block k (h.lt k hk).2 (hp k hk)
theorem RwSs.snoc {q : SV} (h : RwSs w base ps) (hq : RwS w base q) : RwSs w base (ps ++ [q]) := by
  intro p hp
  rcases List.mem_append.1 hp with hp | hp
  · exact h p hp
  · obtain rfl := List.mem_singleton.1 hp
    exact hq
theorem PwSs.snoc {q : SV} {N : Nat} (h : PwSs ps) (h1 : ∀ p ∈ ps, ∀ k, sblk p k → k < N) (h2 : ∀ k, sblk q k → N ≤ k) : PwSs (ps ++ [q]) := by
  refine List.pairwise_append.2 ⟨h, List.pairwise_singleton _ _, fun a ha b hb => ?_⟩
  obtain rfl := List.mem_singleton.1 hb
  refine ⟨fun k hk hk' => ?_, fun k hk hk' => ?_⟩
  · have e1 := h1 a ha k (.inl hk)
    have e2 := h2 k (.inl hk')
    omega
  · have e1 := h1 a ha k (.inr hk)
    have e2 := h2 k (.inr hk')
    omega
/-- A section's rows lie apart from a block of another type. -/
theorem RwS.box (h : RwS w base p) {X : Nat} {t : TypeId} {cs : Array Value} (hb : Box w X t cs) (h1 : 5 ≠ t) (h2 : 77 ≠ t) : ∀ k, sblk p k → k ≠ X := by
  rintro k (hk | hk)
  · exact h.1.box hb h1 k hk
  · exact h.2.box hb h2 k hk
end
theorem box_of_own {w : World} {base g n c size : Nat} {e : TypeId} {xs : List Value} (h : w.ownsRow base e size (.slice (some ⟨g, 0, none⟩) n c) n xs) : ∃ cs, Box w g e cs := by
  rcases h.2 with ⟨hv, _⟩ | ⟨g', cap, cur, hv, _, hg, _⟩
  · cases hv
  · injection hv with hA
    simp only [Option.some.injEq, Addr.mk.injEq, and_true] at hA
    subst hA
    exact ⟨cur, hg⟩
theorem cells_snoc (qs : List SV) (q : SV) : cellsOf secC (qs ++ [q]) = cellsOf secC qs ++ secC q := by simp [cellsOf]
/-- Six cells put one by one. -/
def put6 (w : World) (Y : Nat) (i : Nat) (v0 v1 v2 v3 v4 v5 : Value) : World := (((((w.setCell ⟨Y, i, none⟩ v0).setCell ⟨Y, i + 1, none⟩ v1).setCell ⟨Y, i + 2, none⟩ v2).setCell ⟨Y, i + 3, none⟩ v3).setCell ⟨Y, i + 4, none⟩ v4).setCell ⟨Y, i + 5, none⟩ v5
section
variable {w a : World} {B Y i : Nat} {v0 v1 v2 v3 v4 v5 : Value}
theorem put6_below (h : Below B a w) (hY : B ≤ Y) : Below B a (put6 w Y i v0 v1 v2 v3 v4 v5) :=
  (((((h.setCell (p := ⟨Y, i, none⟩) hY v0).setCell (p := ⟨Y, i + 1, none⟩) hY v1).setCell (p := ⟨Y, i + 2, none⟩) hY v2).setCell (p := ⟨Y, i + 3, none⟩) hY v3).setCell (p := ⟨Y, i + 4, none⟩) hY v4).setCell (p := ⟨Y, i + 5, none⟩) hY v5
theorem put6_rwS {base : Nat} {p : SV} (h : RwS w base p) (hk : ∀ k, sblk p k → k ≠ Y) : RwS (put6 w Y i v0 v1 v2 v3 v4 v5) base p :=
  (((((h.set (a := ⟨Y, i, none⟩) hk v0).set (a := ⟨Y, i + 1, none⟩) hk v1).set (a := ⟨Y, i + 2, none⟩) hk v2).set (a := ⟨Y, i + 3, none⟩) hk v3).set (a := ⟨Y, i + 4, none⟩) hk v4).set (a := ⟨Y, i + 5, none⟩) hk v5
theorem put6_box {t : TypeId} {u0 u1 u2 u3 u4 u5 : Value} (h : Box w Y t #[u0, u1, u2, u3, u4, u5]) : Box (put6 w Y 0 v0 v1 v2 v3 v4 v5) Y t #[v0, v1, v2, v3, v4, v5] :=
  (((((h.set 0 v0).set 1 v1).set 2 v2).set 3 v3).set 4 v4).set 5 v5
end
/-- The same, written out. -/
theorem six_box {w : World} {Y : Nat} {t : TypeId} {u0 u1 u2 u3 u4 u5 : Value} (h : Box w Y t #[u0, u1, u2, u3, u4, u5]) (v0 v1 v2 v3 v4 v5 : Value) :
    Box ((((((w.setCell ⟨Y, 0, none⟩ v0).setCell ⟨Y, 1, none⟩ v1).setCell ⟨Y, 2, none⟩ v2).setCell ⟨Y, 3, none⟩ v3).setCell ⟨Y, 4, none⟩ v4).setCell ⟨Y, 5, none⟩ v5) Y t #[v0, v1, v2, v3, v4, v5] :=
  (((((h.set 0 v0).set 1 v1).set 2 v2).set 3 v3).set 4 v4).set 5 v5
/-- What a call hands back. -/
def RetS (p : SD) (w : World) (e : Ending) (w' : World) : Prop := ∃ q : SV, e = .returned (.agg (secC q).toArray) ∧ q.d = p ∧ RwS w' w.heap.size q ∧ Below w.heap.size w w'
def RetSs (ds : List SD) (w : World) (e : Ending) (w' : World) : Prop := ∃ A c qs, e = .returned (.slice A qs.length c) ∧ qs.map SV.d = ds ∧ OwnSs w' w.heap.size A c qs ∧ Below w.heap.size w w'
def RetO (d : OD) (w : World) (e : Ending) (w' : World) : Prop := ∃ o : OV, e = .returned o.v ∧ o.d = d ∧ OwnO w' w.heap.size o ∧ Below w.heap.size w w'
end Go.Proofs.Ytmglgjchemecjaa.BObj
