/- Small general lemmas, over any program: how a law (a function that answers one bool) is closed out of its walk; hiding of facts. -/
import Derived.WalkKit
import Derived.ProofKit
import Derived.OpenShut
import Derived.Lib.SmallJoins
import Derived.Deep.Slices
import Derived.Deep.Fields
import Derived.Laws.AppendOwnNone
import Derived.Shelf.Small.Bits
import Derived.Shelf.Small.Strs
import Derived.Shelf.Strconv.Atoi
import Derived.Shelf.Strconv.Itoa0
import Derived.Shelf.Strconv.Itoa1
import Derived.Shelf.LaysM
import Derived.Shelf.Strconv.Itoa2
import Derived.Shelf.Strconv.Itoa3
import Derived.Shelf.Strconv.AtoiErrFast
import Derived.Shelf.Strconv.ParseIntEmpty
import Derived.Shelf.Strconv.AtoiFail
import Derived.Shelf.Strconv.Clone
import Derived.Shelf.Strconv.SyntaxError
import Derived.Shelf.LaysC
import Derived.Shelf.Strconv.ToError
import Derived.Shelf.Strconv.Lower
import Derived.Shelf.Strconv.ParseUint10
import Derived.Shelf.Strconv.ParseUint10Empty
import Derived.Shelf.Strconv.ParseUint10Any
import Derived.Shelf.Strconv.ParseInt10
import Derived.Shelf.Strconv.AtoiLong
import Derived.Shelf.Strconv.AtoiInnerAll
import Derived.Shelf.Strconv.RangeError
import Derived.Shelf.Strconv.ToErrorRange
import Derived.Shelf.Strconv.AtoiAll
import Derived.Shelf.Strconv.ErrVarAll
import Derived.Shelf.Strings.Search1
import Derived.Shelf.Strings.Search2
import Derived.Shelf.Strings.Search3
import Derived.Shelf.Strings.Cut
import Derived.Shelf.Strings.Count
import Derived.Shelf.Strings.Shaped
import Derived.Shelf.Sort.Plain
import Derived.Shelf.Strings.Split
import Derived.Shelf.Unicode.DecodeSlow
import Derived.Shelf.Slices.Turned
import Derived.Shelf.Slices.Equal
import Derived.Shelf.Slices.Clone
import Derived.Shelf.Slices.CompactS
import Derived.Shelf.Slices.Delete
import Derived.Shelf.Slices.Cells
import Derived.Shelf.Slices.In.SortNone
import Derived.Shelf.Slices.Empties
import Derived.Shelf.Slices.Empties2
import Derived.Ground.SlgnProg
import Derived.Shelf.SlicesE.Clone
import Derived.Test.YtepoiphmmjfbdaaGreatDoorProg
import Derived.Test.YtepoiphmmjfbdaaGreatDoorRows
import Derived.Laws.BytesArg
import Derived.Lib.Bytes
import Derived.Lib.ItoaNum
import Derived.Lib.ItoaLen
import Derived.Deep.CutRange
import Derived.Lib.AtoiAllCases
import Derived.Lib.SplitLaws
import Derived.Laws.OwnMore
import Derived.Deep.RegionLawGrows
import Derived.Deep.Upon
import Derived.Deep.AppendLies
import Derived.StillTailTactics
import Derived.Deep.QuietTactic
import Derived.BigQuiet
set_option linter.unusedSimpArgs false
set_option linter.unusedVariables false
namespace Go.Proofs.YtepoiphmmjfbdaaGreatDoor.Kit
set_option maxRecDepth 200000
open Go.ChangeShapes Go.WideShapes Go.ChangeAt Go.RowKit Go.Deep

theorem hide {p : Prop} (h : p) : Hid p := h
/-- What a law's walk says: it returns true, and nothing that was there has turned. -/
def LawEnds (w : World) (e : Ending) (w' : World) : Prop := e = .returned (.bool true) ∧ Below w.heap.size w w'

/-- A call that hands back v and turns nothing that was there. -/
def Ret (v : Value) (w : World) (e : Ending) (w' : World) : Prop := e = .returned v ∧ Below w.heap.size w w'
/-- A call that hands back v and leaves the world as it is. -/
def Pure (v : Value) (w : World) (e : Ending) (w' : World) : Prop := e = .returned v ∧ w = w'
/-- What was there before a call reads behind it as it did: laid for the walk. -/
theorem bcell {w w' : World} (hb : Below w.heap.size w w') : (∀ b o, b < w.heap.size → w'.cell? ⟨b, o, none⟩ = w.cell? ⟨b, o, none⟩) ∧ (∀ b o, b < w.heap.size → w'.frozen? ⟨b, o, none⟩ = w.frozen? ⟨b, o, none⟩) :=
  ⟨fun b o h => hb.cell (p := ⟨b, o, none⟩) h, fun b o h => hb.frozen (p := ⟨b, o, none⟩) h⟩
theorem ret_bool {a b : Bool} (h : a = b) : Ending.returned (.bool a) = .returned (.bool b) := by rw [h]
theorem Below.drewN {B : Nat} {a w : World} (h : Below B a w) (n : Nat) : Below B a (w.drewN n) := ⟨h.os, h.tape, h.output, h.size, h.block⟩

theorem of_drew {w w' : World} (h : Below w.drew.heap.size w.drew w') : Below w.heap.size w w' := ⟨h.os, h.tape, h.output, h.size, h.block⟩
theorem below_drawn {B : Nat} {w w' : World} {os tape out} {d : Nat} (h : Below B { heap := w.heap, tape := tape, drawn := d, os := os, output := out } w') (ho : os = w.os := by rfl) (ht : tape = w.tape := by rfl) (hu : out = w.output := by rfl) : Below B w w' := by
  subst ho ht hu
  exact ⟨h.os, h.tape, h.output, h.size, h.block⟩
/-- A pure callee inside a region that draws its order. -/
theorem Pure.quiet {P : Program} {f : FuncId} {args : Array Value} {w : World} {n : Nat} {v : Value} (h : Calls P f args (w.drewN n) (Pure v (w.drewN n))) :
    Calls P f args (w.drewN n) fun e w'' => e = .returned v ∧ ∃ m, w'' = w.drewN m := h.mono fun _ _ ⟨he, hm⟩ => ⟨he, n, hm.symm⟩
section
variable {H : Type} {enc : TypeId × Value → H} {P : Program}

theorem trodAll_len {w : World} {base : Nat} {sp : Nat → Bool} {held : Bool} : ∀ (ts : List TypeId) (vs : List Value) (ds : List (DataW H)) (ps : List MemPlace),
    DataW.TrodAll enc P w base sp held ts vs ds ps → vs.length = ts.length ∧ ds.length = ts.length
  | [], vs, ds, ps, h => by obtain ⟨rfl, rfl, _⟩ := trodAll_nil h; exact ⟨rfl, rfl⟩
  | t :: ts, vs, ds, ps, h => by
    obtain ⟨v, vs', d, ds', p, q, rfl, rfl, rfl, _, h2⟩ := trodAll_cons h
    obtain ⟨a, b⟩ := trodAll_len ts vs' ds' q h2
    simp [a, b]

theorem below_trodAll (hl : laidOutB P = true) {W W' : World} (hb : Below W.heap.size W W') :
    ∀ (ts : List TypeId) (vs : List Value) (ds : List (DataW H)) (ps : List MemPlace), (∀ t ∈ ts, P.readableRec t = true ∧ t < P.types.size) →
      (∀ x ∈ ps, x.block < W.heap.size) → DataW.TrodAll enc P W 0 (fun _ => true) true ts vs ds ps →
      DataW.TrodAll enc P W' 0 (fun b => decide (b < W.heap.size)) true ts vs ds ps
  | [], vs, ds, ps, _, _, h => by obtain ⟨rfl, rfl, rfl⟩ := trodAll_nil h; exact trodAll_mk0
  | t :: ts, vs, ds, ps, hr, hlt, h => by
    obtain ⟨v, vs', d, ds', p, q, rfl, rfl, rfl, h1, h2⟩ := trodAll_cons h
    refine trodAll_cons_mk ?_ (below_trodAll hl hb ts vs' ds' q (fun t ht => hr t (by simp [ht])) (fun x hx => hlt x (by simp [hx])) h2)
    exact Below.trod hl (hr t (by simp)).1 (hr t (by simp)).2 h1 hb (fun x hx => hlt x (by simp [hx]))

/-- The last step of a law: its specification answers true and hands the arguments back; its walk says that, and that nothing below the heap's old size has turned. -/
theorem law_post (hl : laidOutB P = true) {f : Func} {s : ChangeSpec} {W : World} {args : Array Value} {ds gs : List (DataW H)} {before : List MemPlace} {e : Ending} {W' : World} {tb : TypeId}
    (hr : ∀ t ∈ f.params.toList, P.readableRec t = true ∧ t < P.types.size) (htb : P.underlying tb = some .bool) (hres : f.resultTypes = #[tb]) (hv : s.vars = [])
    (hs : ∀ ds : List (DataW H), ds.length = f.params.toList.length → s.fn H ds = { results := [.lit (.bool true)], args := ds })
    (hW : DataW.Whole enc P f.params.toList s.vars false W args.toList ds gs before) (h : LawEnds W e W') :
    ∃ v, e = .returned v ∧ s.post enc P f false true false false W args v W' := by
  obtain ⟨he, hb⟩ := h
  have hlt : ∀ p ∈ before, p.block < W.heap.size := fun p hp => hW.lt p hp
  have hW' := hW
  obtain ⟨p, q, hA, hV, rfl, hfz, hnd⟩ := hW
  rw [hv] at hV
  obtain ⟨rfl, rfl⟩ := trodVars_none hV
  obtain ⟨_, hdl⟩ := trodAll_len _ _ _ _ hA
  have hsd := hs ds hdl
  refine ⟨_, he, ds, [], p ++ [], [], p, [], hW', ?_, ?_, ?_, ?_, fun h => by cases h⟩
  · rw [List.append_nil, hsd, hres]
    exact trodAll_mk1 (shut_bool htb true)
  · rw [List.append_nil, hsd]
    exact below_trodAll hl hb _ _ _ _ hr (fun x hx => hlt x (by simp [hx])) hA
  · rw [hv]
    rw [List.append_nil, hsd]
    trivial
  · exact hb.frame _
end

/-! ### Slices that are read -/
/-- The slice value that begins at A holds (at least) the cells xs, below block B. -/
def Rd (w : World) (B : Nat) (A : Option Addr) (xs : List Value) : Prop :=
  ∀ (i : Nat) (u : Value), xs[i]? = some u → ∃ b off, A = some ⟨b, off, none⟩ ∧ b < B ∧ w.cell? ⟨b, off + i, none⟩ = some u

section
variable {w w' : World} {B B' : Nat} {A : Option Addr} {xs : List Value}
theorem Rd.nil (A : Option Addr) : Rd w B A [] := fun i u h => by simp at h
theorem Rd.keep (h : Rd w B A xs) (hk : ∀ p : Addr, p.block < B → w'.cell? p = w.cell? p) : Rd w' B A xs := fun i u hi => by
  obtain ⟨b, off, e, hb, hc⟩ := h i u hi
  exact ⟨b, off, e, hb, (hk _ hb).trans hc⟩
theorem Rd.more (h : Rd w B A xs) (hB : B ≤ B') : Rd w B' A xs := fun i u hi => by
  obtain ⟨b, off, e, hb, hc⟩ := h i u hi
  exact ⟨b, off, e, by omega, hc⟩
theorem Rd.below (h : Rd w B A xs) (hb : Below B w w') : Rd w' B A xs := h.keep fun _ hp => hb.cell hp
theorem Rd.at_ (h : Rd w B A xs) {i : Nat} (hi : i < xs.length) : ∃ b off, A = some ⟨b, off, none⟩ ∧ b < B ∧ w.cell? ⟨b, off + i, none⟩ = some xs[i] := h i _ (List.getElem?_eq_getElem hi)
theorem Rd.of_own {base : Nat} {e : TypeId} {size n c : Nat} (h : w.ownsRow base e size (.slice A n c) n xs) : Rd w w.heap.size A xs := fun i u hi => by
  rcases h.2 with ⟨hv, rfl⟩ | ⟨g, cap, cur, hv, _, hg, _⟩
  · have := h.1
    have hl : xs = [] := List.eq_nil_of_length_eq_zero (by simpa using this)
    subst hl
    simp at hi
  · injection hv with hA
    subst hA
    refine ⟨g, 0, rfl, (Array.getElem?_eq_some_iff.1 hg).1, ?_⟩
    have := h.cells (g := g) rfl i u hi
    have hadd : (⟨g, 0, none⟩ : Addr).add i = ⟨g, 0 + i, none⟩ := by unfold Addr.add; split <;> simp_all
    rwa [hadd] at this
end

/-- A part of a slice. -/
theorem Rd.part {w : World} {B : Nat} {A : Option Addr} {xs : List Value} (h : Rd w B A xs) (k n : Nat) : Rd w B (A.map fun a => ⟨a.block, a.off + k, none⟩) ((xs.drop k).take n) := fun i u hi => by
  rw [List.getElem?_take] at hi
  split at hi
  · rw [List.getElem?_drop] at hi
    obtain ⟨b, off, rfl, hb, hc⟩ := h (k + i) u hi
    exact ⟨b, off + k, rfl, hb, by rw [Nat.add_assoc]; exact hc⟩
  · cases hi
/-- A list of ints as cells. -/
abbrev ints (k : IntKind) (zs : List Int) : List Value := zs.map (Value.int k)
theorem Rd.int {w : World} {B : Nat} {A : Option Addr} {k : IntKind} {zs : List Int} (h : Rd w B A (ints k zs)) {i : Nat} (hi : i < zs.length) :
    ∃ b off, A = some ⟨b, off, none⟩ ∧ b < B ∧ w.cell? ⟨b, off + i, none⟩ = some (.int k zs[i]) := by
  obtain ⟨b, off, e, hb, hc⟩ := h.at_ (i := i) (by simpa using hi)
  exact ⟨b, off, e, hb, by simpa using hc⟩
theorem Rd.slice {w : World} {B b off : Nat} {k : IntKind} {zs : List Int} (h : Rd w B (some ⟨b, off, none⟩) (ints k zs)) (lo n : Nat) (hl : lo + n ≤ zs.length) :
    Rd w B (some ⟨b, off + lo, none⟩) (ints k ((zs.drop lo).take n)) ∧ ((zs.drop lo).take n).length = n := by
  refine ⟨?_, by rw [List.length_take, List.length_drop]; omega⟩
  have := h.part lo n
  simpa [ints, List.map_take, List.map_drop] using this
/-- All of a list lie in lo..hi. -/
def InR (lo hi : Int) (zs : List Int) : Prop := ∀ x ∈ zs, lo ≤ x ∧ x ≤ hi
theorem InR.at_ {lo hi : Int} {zs : List Int} (h : InR lo hi zs) {i : Nat} (hi' : i < zs.length) : lo ≤ zs[i] ∧ zs[i] ≤ hi := h _ (List.getElem_mem hi')
theorem zero_cells (k : IntKind) (n : Nat) : (madeCells (Value.int k 0).cells (n * 1)).toList = ints k (List.replicate n 0) := by
  rw [show (Value.int k 0).cells = #[Value.int k 0] from rfl, toList_madeCells_one]
  simp [ints]
theorem zero_cells' (k : IntKind) (n : Nat) : (madeCells #[Value.int k 0] n).toList = ints k (List.replicate n 0) := by
  rw [toList_madeCells_one]
  simp [ints]
theorem take_succ {α : Type} {zs : List α} {i : Nat} (h : i < zs.length) : zs.take (i + 1) = zs.take i ++ [zs[i]] := by
  rw [List.take_succ_eq_append_getElem h]

/-! ### Appending one element to a row of the call's own -/
theorem cells_new (w : World) (cs : Array Value) (e : TypeId) : ∀ j u, cs.toList[j]? = some u → (w.alloc (.cells cs e)).cell? ((⟨w.heap.size, 0, none⟩ : Addr).add j) = some u := by
  intro j u hj
  have hadd : (⟨w.heap.size, 0, none⟩ : Addr).add j = ⟨w.heap.size, j, none⟩ := by unfold Addr.add; split <;> simp_all
  rw [hadd, cell_of_row (w.alloc (.cells cs e)) w.heap.size j cs e (0, 0) (heap_alloc_new w _)]
  simpa using hj
/-- 'out = append(out, x)': x has just been laid in a new block. -/
theorem wpList_app1 {P : Program} (w : World) {ops : Array Oper} {rest : List Oper} {o : Oper} {a : Act} {Q : Exit → Act → World → Prop} (hgd : o.guard = none) (s x : Operand) (t : TypeId)
    (ho : o.op = .call { callee := .builtin .append, args := #[s, x], argTypes := #[t, t] })
    (base : Nat) (e : TypeId) (i : TypeInfo) (z : Value) (size bytes : Nat) (ht : P.underlying t = some (.slice e)) (hi : P.info? e = some i) (hz : i.zero = some z)
    (hsize : i.size = size) (hby : i.bytes = bytes) (hzs : z.cells.size = size) (hsz : 0 < size)
    (cs : Array Value) (hx : a.eval x = .slice (some ⟨w.heap.size, 0, none⟩) 1 1) (hcs : cs.size = size) (h1 : ∀ u ∈ cs.toList, u.oneCell' = true)
    (v : Value) (n : Nat) (xs : List Value) (hs : a.eval s = v) (hown : w.ownsRow base e size v n xs) (hn : n + 1 ≤ maxLen) (hbytes : (n + 1) * bytes ≤ 140737488355328) (hbase : base ≤ w.heap.size)
    (h : ∀ A' n' c' w', n' = n + 1 → w'.ownsRow base e size (.slice A' n' c') n' (xs ++ cs.toList) → w.grownBy w' v.ownBlock → wpList P ops Q rest (a.put o.dst (.slice A' n' c')) w') :
    wpList P ops Q (o :: rest) a (w.alloc (.cells cs e)) := by
  refine wpList_append_own _ hgd s x t ho base e i z size bytes ht hi hz hsize hby hzs hsz v n xs hs (hown.alloc _) ⟨w.heap.size, 0, none⟩ 1 1 cs.toList hx (by simpa using hcs) (cells_new w cs e) h1 hn hbytes (by simp; omega) ?_
  intro v' w' hown' hg hnil
  have hg' : w.grownBy w' v.ownBlock := ⟨hg.os, hg.tape, hg.output, Nat.le_trans (by simp) hg.size, fun k hk hne => (hg.block k (by simp; omega) hne).trans (Below.heap_alloc w _ k hk)⟩
  rcases hown'.2 with ⟨rfl, h0⟩ | ⟨g, cap, cur, rfl, r⟩
  · omega
  · exact h _ _ _ w' rfl hown' hg'

/-- A call hands back a slice of ints in memory of its own, and turns nothing that was there. -/
def RetInts (E : TypeId) (k : IntKind) (zs : List Int) (w : World) (e : Ending) (w' : World) : Prop :=
  ∃ A c, e = .returned (.slice A zs.length c) ∧ w'.ownsRow w.heap.size E 1 (.slice A zs.length c) zs.length (ints k zs) ∧ Below w.heap.size w w'
theorem RetInts.mk {E : TypeId} {k : IntKind} {zs : List Int} {w w' : World} {A : Option Addr} {n c : Nat} (hn : n = zs.length) (ho : w'.ownsRow w.heap.size E 1 (.slice A n c) n (ints k zs)) (hb : Below w.heap.size w w') :
    RetInts E k zs w (.returned (.slice A n c)) w' := by
  subst hn
  exact ⟨A, c, rfl, ho, hb⟩
theorem RetInts.nil {E : TypeId} {k : IntKind} {w w' : World} (hb : Below w.heap.size w w') : RetInts E k [] w (.returned (.slice none 0 0)) w' := ⟨none, 0, rfl, World.ownsRow_nil _ _ _ _, hb⟩
theorem own_empty {w : World} {E : TypeId} : (w.alloc (.cells #[] E)).ownsRow w.heap.size E 1 (.slice (some ⟨w.heap.size, 0, none⟩) 0 0) 0 [] :=
  World.ownsRow_lit (base := w.heap.size) (e := E) (size := 1) w #[] 0 (Nat.le_refl _) (Nat.zero_le _) rfl
def Box (w : World) (g : Nat) (t : TypeId) (cs : Array Value) : Prop := w.heap[g]? = some (.cells cs t (0, 0))
section
variable {w w' : World} {g : Nat} {t : TypeId} {cs : Array Value}
theorem Box.lt (h : Box w g t cs) : g < w.heap.size := (Array.getElem?_eq_some_iff.1 h).1
theorem Box.cell (h : Box w g t cs) (i : Nat) : w.cell? ⟨g, i, none⟩ = cs[i]? := cell_of_row w g i cs t (0, 0) h
theorem Box.frozen (h : Box w g t cs) (i : Nat) : w.frozen? ⟨g, i, none⟩ = false := frozen_of_row w g i cs t h
theorem Box.new (w : World) (t : TypeId) (cs : Array Value) : Box (w.alloc (.cells cs t)) w.heap.size t cs := heap_alloc_new w _
theorem Box.drew (h : Box w g t cs) : Box w.drew g t cs := h
theorem Box.drewN (h : Box w g t cs) (n : Nat) : Box (w.drewN n) g t cs := h
theorem Box.alloc (h : Box w g t cs) (o : Obj) : Box (w.alloc o) g t cs := (Below.heap_alloc w o g h.lt).trans h
theorem Box.set (h : Box w g t cs) (i : Nat) (u : Value) : Box (w.setCell ⟨g, i, none⟩ u) g t (cs.setIfInBounds i u) := heap_setCell_same w g i cs t u h
theorem Box.far (h : Box w g t cs) {p : Addr} (hp : g ≠ p.block) (u : Value) : Box (w.setCell p u) g t cs := (Below.heap_setCell w p u g hp).trans h
theorem Box.below {B : Nat} (h : Box w g t cs) (hb : Below B w w') (hg : g < B) : Box w' g t cs := (hb.block g hg).trans h
theorem Box.call (h : Box w g t cs) (hb : Below w.heap.size w w') : Box w' g t cs := h.below hb h.lt
end

/-! ### Bits -/
theorem ofInt_i64 (a : Nat) (ha : a < 9223372036854775808) : (BitVec.ofInt 64 (a : Int)).toNat = a := by
  rw [BitVec.ofInt_natCast, BitVec.toNat_ofNat]; exact Nat.mod_eq_of_lt (by omega)
theorem ints_snoc (k : IntKind) (zs : List Int) (x : Int) : ints k zs ++ [Value.int k x] = ints k (zs ++ [x]) := by simp [ints]
/-- The cells of a list of structs. -/
abbrev cellsOf {α : Type} (f : α → List Value) (xs : List α) : List Value := xs.flatMap f
theorem cellsOf_len {α : Type} {f : α → List Value} {C : Nat} (hf : ∀ x, (f x).length = C) (xs : List α) : (cellsOf f xs).length = xs.length * C := by
  induction xs with
  | nil => simp [cellsOf]
  | cons x r ih => simp only [cellsOf, List.flatMap_cons, List.length_append, hf] at *; rw [ih, List.length_cons, Nat.add_mul]; omega
theorem cellsOf_at {α : Type} {f : α → List Value} {C : Nat} (hf : ∀ x, (f x).length = C) (xs : List α) (k j : Nat) (hk : k < xs.length) (hj : j < C) : (cellsOf f xs)[k * C + j]? = (f xs[k])[j]? := by
  induction xs generalizing k with
  | nil => simp at hk
  | cons x r ih =>
    simp only [cellsOf, List.flatMap_cons]
    cases k with
    | zero => rw [List.getElem?_append_left (by rw [hf]; omega)]; simp
    | succ k =>
      rw [List.getElem?_append_right (by rw [hf, Nat.add_mul]; omega), hf, show (k + 1) * C + j - C = k * C + j by rw [Nat.add_mul]; omega]
      exact ih k (by simpa using hk)
theorem Rd.row {α : Type} {f : α → List Value} {C : Nat} {w : World} {B : Nat} {A : Option Addr} {xs : List α} (hf : ∀ x, (f x).length = C) (hC : 0 < C) (h : Rd w B A (cellsOf f xs)) {k : Nat} (hk : k < xs.length) :
    ∃ b off, A = some ⟨b, off, none⟩ ∧ b < B ∧ ∀ j u, (f xs[k])[j]? = some u → w.cell? ⟨b, off + k * C + j, none⟩ = some u := by
  have h0 : (f xs[k])[0]? = some ((f xs[k])[0]'(by rw [hf]; exact hC)) := List.getElem?_eq_getElem _
  obtain ⟨b, off, rfl, hb, _⟩ := h (k * C + 0) _ ((cellsOf_at hf xs k 0 hk hC).trans h0)
  refine ⟨b, off, rfl, hb, fun j u hu => ?_⟩
  have hj : j < C := by
    have := (List.getElem?_eq_some_iff.1 hu).1
    rwa [hf] at this
  obtain ⟨b', off', e, _, hc⟩ := h (k * C + j) u ((cellsOf_at hf xs k j hk hj).trans hu)
  simp only [Option.some.injEq, Addr.mk.injEq, and_true] at e
  obtain ⟨rfl, rfl⟩ := e
  rw [Nat.add_assoc]
  exact hc
theorem own_cap {w : World} {base : Nat} {e : TypeId} {size n c : Nat} {A : Option Addr} {xs : List Value} (h : w.ownsRow base e size (.slice A n c) n xs) : n ≤ c := by
  rcases h.2 with ⟨_, h0⟩ | ⟨g, cap, cur, hv, _, _, hn, _⟩
  · omega
  · injection hv with _ _ hc
    omega
/-- What the call owns stays its own over a call that turns nothing that was there. -/
theorem own_call {w w' : World} {base : Nat} {e : TypeId} {size n : Nat} {v : Value} {xs : List Value} (hb : Below w.heap.size w w') (h : w.ownsRow base e size v n xs) : w'.ownsRow base e size v n xs := by
  refine ⟨h.1, ?_⟩
  rcases h.2 with hn | ⟨g, cap, cur, rfl, hbg, hg, rest⟩
  · exact .inl hn
  · exact .inr ⟨g, cap, cur, rfl, hbg, (hb.block g (Array.getElem?_eq_some_iff.1 hg).1).trans hg, rest⟩
/-- An owned row's cell: there is one, and it may be written. -/
theorem own_old {w : World} {base : Nat} {e : TypeId} {size g n cap : Nat} {xs : List Value} (h : w.ownsRow base e size (.slice (some ⟨g, 0, none⟩) n cap) n xs) {j : Nat} (hj : j < n * size) :
    (∃ u, w.cell? ⟨g, j, none⟩ = some u) ∧ w.frozen? ⟨g, j, none⟩ = false := by
  refine ⟨⟨xs[j]'(by rw [h.1]; exact hj), ?_⟩, h.frozenAt j⟩
  rw [h.cellAt j hj]
  exact List.getElem?_eq_getElem _
/-- The cells cs read as data of type t. -/
def Trd (P : Program) (w : World) (t : TypeId) (cs : List Value) : Prop :=
  ∃ (H : Type) (enc : TypeId × Value → H) (base : Nat) (sp : Nat → Bool) (held : Bool) (fuel : Nat) (x : DataW H × List MemPlace), DataW.trod enc P w base sp held fuel t cs = some x

section
variable {P : Program} {w : World} {t e : TypeId} {cs : List Value}
theorem Trd.of_trod {H : Type} {enc : TypeId × Value → H} {base : Nat} {sp : Nat → Bool} {held : Bool} {v : Value} {d : DataW H} {ps : List MemPlace} (h : DataW.Trod enc P w base sp held t v d ps) : Trd P w t v.cells.toList := by
  obtain ⟨fuel, h⟩ := h
  exact ⟨H, enc, base, sp, held, fuel, _, h⟩
theorem Trd.int {k : IntKind} (ht : P.underlying t = some (.int k)) (h : Trd P w t cs) : ∃ n, cs = [.int k n] ∧ (Lit.int k n).wf = true := by
  obtain ⟨H, enc, base, sp, held, fuel, x, h⟩ := h
  obtain ⟨n, h1, _, h2⟩ := DataW.trod_int ht h
  exact ⟨n, h1, h2⟩
theorem Trd.str (ht : P.underlying t = some .string) (h : Trd P w t cs) : ∃ s : ByteArray, cs = [.string s] ∧ s.size ≤ maxLen := by
  obtain ⟨H, enc, base, sp, held, fuel, x, h⟩ := h
  obtain ⟨s, h1, _, h2⟩ := DataW.trod_string ht h
  exact ⟨s, h1, h2⟩
theorem Trd.bool (ht : P.underlying t = some .bool) (h : Trd P w t cs) : ∃ b, cs = [.bool b] := by
  obtain ⟨H, enc, base, sp, held, fuel, x, h⟩ := h
  obtain ⟨b, h1, _⟩ := DataW.trod_bool ht h
  exact ⟨b, h1⟩
/-- Rows of cells, laid one behind the other: the reading of one place. -/
theorem flatten_at {rows : List (List Value)} {C : Nat} (hC : ∀ r ∈ rows, r.length = C) : ∀ (i : Nat) (u : Value), rows.flatten[i]? = some u →
    ∃ q j r, i = q * C + j ∧ j < C ∧ rows[q]? = some r ∧ r[j]? = some u := by
  induction rows with
  | nil => intro i u h; simp at h
  | cons r rs ih =>
    intro i u h
    have hr := hC r (by simp)
    rw [List.flatten_cons] at h
    by_cases hi : i < r.length
    · rw [List.getElem?_append_left hi] at h
      exact ⟨0, i, r, by omega, by omega, rfl, h⟩
    · rw [List.getElem?_append_right (by omega)] at h
      obtain ⟨q, j, r', h1, h2, h3, h4⟩ := ih (fun x hx => hC x (by simp [hx])) _ u h
      exact ⟨q + 1, j, r', by rw [Nat.add_mul]; omega, h2, by simpa using h3, h4⟩

theorem addr_form {a : Addr} (hs : a.spot = none) (i : Nat) : a = ⟨a.block, a.off, none⟩ ∧ a.add i = ⟨a.block, a.off + i, none⟩ := by
  obtain ⟨b, off, sp⟩ := a
  subst hs
  refine ⟨rfl, ?_⟩
  unfold Addr.add
  split <;> simp_all

theorem Trd.slice (ht : P.underlying t = some (.slice e)) (h : Trd P w t cs) :
    ∃ (A : Option Addr) (n c : Nat) (rows : List (List Value)), cs = [.slice A n c] ∧ n ≤ c ∧ c ≤ maxLen ∧ rows.length = n ∧ (∀ r ∈ rows, r.length = P.cellsOf e ∧ Trd P w e r) ∧ Rd w w.heap.size A rows.flatten := by
  obtain ⟨H, enc, base, sp, held, fuel, x, h⟩ := h
  rcases Go.Deep.open_slice ht h with ⟨rfl, _⟩ | ⟨a, len, cap, m, n, D, Pl, rfl, _, hl, hm, hmm, _, hi⟩
  · exact ⟨none, 0, 0, [], rfl, Nat.le_refl _, Nat.zero_le _, rfl, by simp, Rd.nil _⟩
  · have hlm : len ≤ m := by rw [hmm]; split <;> omega
    have hex : ∀ i : Fin len, ∃ cs', w.cells? base (a.add (i * P.cellsOf e)) (P.cellsOf e) = some cs' ∧ DataW.trod enc P w base sp held n e cs' = some (D i, Pl i) := fun i => hi i (by omega)
    refine ⟨some a, len, cap, List.ofFn fun i => (hex i).choose, rfl, hl, hm, by simp, ?_, ?_⟩
    · intro r hr
      obtain ⟨i, rfl⟩ := List.mem_ofFn.1 hr
      obtain ⟨h1, h2⟩ := (hex i).choose_spec
      exact ⟨(World.cells?_some h1).2.1, H, enc, base, sp, held, n, _, h2⟩
    · intro i u hu
      have hC : ∀ r ∈ List.ofFn fun i => (hex i).choose, r.length = P.cellsOf e := by
        intro r hr
        obtain ⟨i, rfl⟩ := List.mem_ofFn.1 hr
        exact (World.cells?_some (hex i).choose_spec.1).2.1
      obtain ⟨q, j, r, rfl, hj, hq, hu'⟩ := flatten_at hC i u hu
      have hql : q < len := by have := (List.getElem?_eq_some_iff.1 hq).1; simpa using this
      have hr : (hex ⟨q, hql⟩).choose = r := by
        rw [List.getElem?_eq_getElem (by simpa using hql)] at hq
        simpa using hq
      have h1 := (World.cells?_some (hex ⟨q, hql⟩).choose_spec.1).2.2 j hj
      rw [hr, hu', Go.Deep.add_add] at h1
      have h0 := (World.cells?_some (hex ⟨0, by omega⟩).choose_spec.1).2.2 0 (by omega)
      have hc0 := (World.cells?_some (hex ⟨0, by omega⟩).choose_spec.1).2.1
      rw [List.getElem?_eq_getElem (by omega), Go.Deep.add_add] at h0
      have hsp : a.spot = none := by simpa [Addr.add] using World.cell?_spot h0
      obtain ⟨e1, e2⟩ := addr_form hsp (q * P.cellsOf e + j)
      have hb := World.block_lt_of_cell? _ _ h1
      rw [e2] at h1 hb
      exact ⟨a.block, a.off, by rw [← e1], hb, h1⟩

theorem rows_of {α : Type} {rows : List (List Value)} {f : α → List Value} {p : α → Prop} (h : ∀ r ∈ rows, ∃ x, r = f x ∧ p x) : ∃ xs : List α, rows = xs.map f ∧ ∀ x ∈ xs, p x := by
  induction rows with
  | nil => exact ⟨[], rfl, by simp⟩
  | cons r rs ih =>
    obtain ⟨xs, rfl, hx⟩ := ih fun r hr => h r (by simp [hr])
    obtain ⟨x, rfl, hp⟩ := h r (by simp)
    exact ⟨x :: xs, rfl, by simpa using ⟨hp, hx⟩⟩
theorem flatten_one (k : IntKind) (zs : List Int) : (zs.map fun z => [Value.int k z]).flatten = ints k zs := by
  induction zs with
  | nil => rfl
  | cons z r ih => simp_all [ints]

/-- A slice of ints that comes in. -/
theorem Trd.ints {k : IntKind} (ht : P.underlying t = some (.slice e)) (he : P.underlying e = some (.int k)) (h : Trd P w t cs) :
    ∃ (A : Option Addr) (zs : List Int) (c : Nat), cs = [.slice A zs.length c] ∧ zs.length ≤ c ∧ c ≤ maxLen ∧ Rd w w.heap.size A (ints k zs) ∧ ∀ z ∈ zs, (Lit.int k z).wf = true := by
  obtain ⟨A, n, c, rows, rfl, hn, hc, rfl, hr, hrd⟩ := Trd.slice ht h
  obtain ⟨zs, rfl, hz⟩ := rows_of (f := fun z => [Value.int k z]) (p := fun z => (Lit.int k z).wf = true) fun r hr' => (hr r hr').2.int he
  rw [flatten_one] at hrd
  simp only [List.length_map] at hn ⊢
  exact ⟨A, zs, c, rfl, hn, hc, hrd, hz⟩
theorem wf_u8 {zs : List Int} (h : ∀ z ∈ zs, (Lit.int .u8 z).wf = true) : InR 0 255 zs := fun z hz => by
  have := h z hz
  simpa [Lit.wf, IntKind.min, IntKind.max, IntKind.signed, IntKind.bits] using this
/-- A []byte that comes in. -/
theorem arg_bytes {H : Type} {enc : TypeId × Value → H} {base b0 : Nat} {sp : Nat → Bool} {held : Bool} {r : Reach} {v : Value} {d : DataW H} {ps : List MemPlace} (ht : P.underlying t = some (.slice e)) (he : P.underlying e = some (.int .u8))
    (hv : Value.okWide P w r b0 t v) (h : DataW.Trod enc P w base sp held t v d ps) :
    ∃ (A : Option Addr) (zs : List Int) (c : Nat), v = .slice A zs.length c ∧ zs.length ≤ c ∧ c ≤ maxLen ∧ Rd w w.heap.size A (Kit.ints .u8 zs) ∧ InR 0 255 zs := by
  obtain ⟨a, l, c, rfl⟩ := okWide_slice ht hv
  obtain ⟨A, zs, c', e1, h1, h2, h3, h4⟩ := (Trd.of_trod h).ints ht he
  simp [Value.cells] at e1
  obtain ⟨rfl, rfl, rfl⟩ := e1
  exact ⟨_, zs, _, rfl, h1, h2, h3, wf_u8 h4⟩
end
end Go.Proofs.YtepoiphmmjfbdaaGreatDoor.Kit
/- The library at []string, at this dump: printed by the kit's lay-plain. -/
namespace Go.Proofs.YtepoiphmmjfbdaaGreatDoor.XDesk
set_option maxRecDepth 200000
open Go.Shelf
def lays137_ren : Go.Shelf.Ren := ⟨fun | 137 => 178 | 217 => 174 | 266 => 201 | n => n, fun | 9 => 9 | 5 => 5 | 3 => 3 | n => n, fun | n => n⟩
theorem lays137 : Go.Proofs.Lays.n137 Tryz.prog lays137_ren := {
  mixed := by kernel_rfl
  f137 := Tryz.func178.trans (congrArg some (by kernel_rfl))
  f217 := Tryz.func174.trans (congrArg some (by kernel_rfl))
  f266 := Tryz.func201.trans (congrArg some (by kernel_rfl))
  t3 := Tryz.underlying3
  a3 := Tryz.isAgg3
  z3 := Tryz.sizeOf3
  v3 := Tryz.zeroValue3
  t5 := Tryz.underlying5
  a5 := Tryz.isAgg5
  z5 := Tryz.sizeOf5
  v5 := Tryz.zeroValue5
  t9 := Tryz.underlying9
  a9 := Tryz.isAgg9
  z9 := Tryz.sizeOf9
  v9 := Tryz.zeroValue9 }
open Go.RowKit in
theorem strings_IndexByte (s : ByteArray) (c : Int) (w : World) :
    Calls Tryz.prog 178 #[.string s, .int .u8 c] w fun e w' => e = .returned (.int .i64 (Lib.indexByte s.data.toList c.toNat.toUInt8)) ∧ w' = w := Any.strings_IndexByte lays137 s c w
def laysM171_ren : Go.Shelf.Ren := ⟨fun | 171 => 51 | 243 => 98 | 246 => 154 | 283 => 187 | 284 => 188 | 285 => 189 | 286 => 190 | 129 => 208 | 317 => 207 | 318 => 209 | 319 => 210 | 320 => 211 | 337 => 227 | 338 => 228 | n => n, fun | 3 => 3 | 9 => 9 | 2 => 2 | 4 => 4 | 171 => 189 | 0 => 0 | 53 => 190 | 37 => 22 | 5 => 5 | 173 => 193 | 212 => 211 | 51 => 201 | 20 => 20 | 213 => 212 | 46 => 94 | 232 => 241 | 233 => 242 | n => n, fun | 17 => 3 | 18 => 6 | 19 => 7 | n => n⟩
theorem laysM171 : Go.Proofs.LaysM.n171 Tryz.prog laysM171_ren := {
  mixed := by kernel_rfl
  f129 := Tryz.func208.trans (congrArg some (by kernel_rfl))
  f171 := Tryz.func51.trans (congrArg some (by kernel_rfl))
  f243 := Tryz.func98.trans (congrArg some (by kernel_rfl))
  f246 := Tryz.func154.trans (congrArg some (by kernel_rfl))
  f283 := Tryz.func187.trans (congrArg some (by kernel_rfl))
  f284 := Tryz.func188.trans (congrArg some (by kernel_rfl))
  f285 := Tryz.func189.trans (congrArg some (by kernel_rfl))
  f286 := Tryz.func190.trans (congrArg some (by kernel_rfl))
  f317 := Tryz.func207.trans (congrArg some (by kernel_rfl))
  f318 := Tryz.func209.trans (congrArg some (by kernel_rfl))
  f319 := Tryz.func210.trans (congrArg some (by kernel_rfl))
  f320 := Tryz.func211.trans (congrArg some (by kernel_rfl))
  f337 := Tryz.func227.trans (congrArg some (by kernel_rfl))
  f338 := Tryz.func228.trans (congrArg some (by kernel_rfl))
  t0 := Tryz.underlying0
  a0 := Tryz.isAgg0
  z0 := Tryz.sizeOf0
  v0 := Tryz.zeroValue0
  t2 := Tryz.underlying2
  a2 := Tryz.isAgg2
  z2 := Tryz.sizeOf2
  v2 := Tryz.zeroValue2
  t3 := Tryz.underlying3
  a3 := Tryz.isAgg3
  z3 := Tryz.sizeOf3
  v3 := Tryz.zeroValue3
  t4 := Tryz.underlying4
  a4 := Tryz.isAgg4
  z4 := Tryz.sizeOf4
  v4 := Tryz.zeroValue4
  t5 := Tryz.underlying5
  a5 := Tryz.isAgg5
  z5 := Tryz.sizeOf5
  v5 := Tryz.zeroValue5
  t9 := Tryz.underlying9
  a9 := Tryz.isAgg9
  z9 := Tryz.sizeOf9
  v9 := Tryz.zeroValue9
  t20 := Tryz.underlying20
  a20 := Tryz.isAgg20
  z20 := Tryz.sizeOf20
  v20 := Tryz.zeroValue20
  t37 := Tryz.underlying22
  a37 := Tryz.isAgg22
  z37 := Tryz.sizeOf22
  v37 := Tryz.zeroValue22
  t46 := Tryz.underlying94
  a46 := Tryz.isAgg94
  z46 := Tryz.sizeOf94
  v46 := Tryz.zeroValue94
  t51 := Tryz.underlying201
  a51 := Tryz.isAgg201
  z51 := Tryz.sizeOf201
  v51 := Tryz.zeroValue201
  t53 := Tryz.underlying190
  a53 := Tryz.isAgg190
  z53 := Tryz.sizeOf190
  v53 := Tryz.zeroValue190
  t171 := Tryz.underlying189
  a171 := Tryz.isAgg189
  z171 := Tryz.sizeOf189
  v171 := Tryz.zeroValue189
  t173 := Tryz.underlying193
  a173 := Tryz.isAgg193
  z173 := Tryz.sizeOf193
  v173 := Tryz.zeroValue193
  t212 := Tryz.underlying211
  a212 := Tryz.isAgg211
  z212 := Tryz.sizeOf211
  v212 := Tryz.zeroValue211
  t213 := Tryz.underlying212
  a213 := Tryz.isAgg212
  z213 := Tryz.sizeOf212
  t232 := Tryz.underlying241
  a232 := Tryz.isAgg241
  z232 := Tryz.sizeOf241
  v232 := Tryz.zeroValue241
  t233 := Tryz.underlying242
  a233 := Tryz.isAgg242
  z233 := Tryz.sizeOf242
  v233 := Tryz.zeroValue242
  g17 := by kernel_rfl
  g18 := by kernel_rfl
  g19 := by kernel_rfl
  i0 := by kernel_rfl
  i2 := by kernel_rfl
  i3 := by kernel_rfl
  i4 := by kernel_rfl
  i5 := by kernel_rfl
  i9 := by kernel_rfl
  i20 := by kernel_rfl
  i37 := by kernel_rfl
  i46 := by kernel_rfl
  i51 := by kernel_rfl
  i53 := by kernel_rfl
  i171 := by kernel_rfl
  i173 := by kernel_rfl
  i212 := by kernel_rfl
  i232 := by kernel_rfl
  i233 := by kernel_rfl
  m17 := by kernel_rfl
  m18 := by kernel_rfl
  m19 := by kernel_rfl }
open Go.RowKit Go.Sort Go.Lib in
theorem strconv_Itoa (n : Int) (h0 : -9223372036854775808 ≤ n) (h1 : n ≤ 9223372036854775807) (w : World) (htab : Lib.TabIs Tryz.prog w "internal/strconv.uint64pow10" .u64 Lib.pow10Tab) :
    Calls Tryz.prog 51 #[.int .i64 n] w fun e w' => e = .returned (.string ⟨(Lib.itoa n).toArray⟩) ∧ ∃ k os, w' = grow (w.drewN k) os := Any.strconv_Itoa laysM171 n h0 h1 w htab
def laysC172_ren : Go.Shelf.Ren := ⟨fun | 172 => 96 | 244 => 152 | 245 => 153 | 247 => 182 | 279 => 183 | 280 => 184 | 281 => 185 | 282 => 186 | 287 => 204 | 316 => 205 | 171 => 51 | 205 => 206 | 321 => 225 | 322 => 226 | 243 => 98 | 246 => 154 | 283 => 187 | 284 => 188 | 285 => 189 | 286 => 190 | 129 => 208 | 317 => 207 | 318 => 209 | 319 => 210 | 320 => 211 | 337 => 227 | 338 => 228 | n => n, fun | 9 => 9 | 3 => 3 | 75 => 125 | 76 => 126 | 4 => 4 | 5 => 5 | 167 => 183 | 37 => 22 | 0 => 0 | 85 => 184 | 2 => 2 | 168 => 186 | 53 => 190 | 175 => 204 | 46 => 94 | 210 => 208 | 127 => 231 | 145 => 234 | 143 => 232 | 21 => 21 | 171 => 189 | 173 => 193 | 212 => 211 | 51 => 201 | 20 => 20 | 213 => 212 | 232 => 241 | 233 => 242 | 80 => 246 | n => n, fun | 15 => 1 | 16 => 2 | 17 => 3 | 18 => 6 | 19 => 7 | n => n⟩
theorem laysC172 : Go.Proofs.LaysC.n172 Tryz.prog laysC172_ren := {
  mixed := by kernel_rfl
  f129 := Tryz.func208.trans (congrArg some (by kernel_rfl))
  f171 := Tryz.func51.trans (congrArg some (by kernel_rfl))
  f172 := Tryz.func96.trans (congrArg some (by kernel_rfl))
  f205 := Tryz.func206.trans (congrArg some (by kernel_rfl))
  f243 := Tryz.func98.trans (congrArg some (by kernel_rfl))
  f244 := Tryz.func152.trans (congrArg some (by kernel_rfl))
  f245 := Tryz.func153.trans (congrArg some (by kernel_rfl))
  f246 := Tryz.func154.trans (congrArg some (by kernel_rfl))
  f247 := Tryz.func182.trans (congrArg some (by kernel_rfl))
  f279 := Tryz.func183.trans (congrArg some (by kernel_rfl))
  f280 := Tryz.func184.trans (congrArg some (by kernel_rfl))
  f281 := Tryz.func185.trans (congrArg some (by kernel_rfl))
  f282 := Tryz.func186.trans (congrArg some (by kernel_rfl))
  f283 := Tryz.func187.trans (congrArg some (by kernel_rfl))
  f284 := Tryz.func188.trans (congrArg some (by kernel_rfl))
  f285 := Tryz.func189.trans (congrArg some (by kernel_rfl))
  f286 := Tryz.func190.trans (congrArg some (by kernel_rfl))
  f287 := Tryz.func204.trans (congrArg some (by kernel_rfl))
  f316 := Tryz.func205.trans (congrArg some (by kernel_rfl))
  f317 := Tryz.func207.trans (congrArg some (by kernel_rfl))
  f318 := Tryz.func209.trans (congrArg some (by kernel_rfl))
  f319 := Tryz.func210.trans (congrArg some (by kernel_rfl))
  f320 := Tryz.func211.trans (congrArg some (by kernel_rfl))
  f321 := Tryz.func225.trans (congrArg some (by kernel_rfl))
  f322 := Tryz.func226.trans (congrArg some (by kernel_rfl))
  f337 := Tryz.func227.trans (congrArg some (by kernel_rfl))
  f338 := Tryz.func228.trans (congrArg some (by kernel_rfl))
  t0 := Tryz.underlying0
  a0 := Tryz.isAgg0
  z0 := Tryz.sizeOf0
  v0 := Tryz.zeroValue0
  t2 := Tryz.underlying2
  a2 := Tryz.isAgg2
  z2 := Tryz.sizeOf2
  v2 := Tryz.zeroValue2
  t3 := Tryz.underlying3
  a3 := Tryz.isAgg3
  z3 := Tryz.sizeOf3
  v3 := Tryz.zeroValue3
  t4 := Tryz.underlying4
  a4 := Tryz.isAgg4
  z4 := Tryz.sizeOf4
  v4 := Tryz.zeroValue4
  t5 := Tryz.underlying5
  a5 := Tryz.isAgg5
  z5 := Tryz.sizeOf5
  v5 := Tryz.zeroValue5
  t9 := Tryz.underlying9
  a9 := Tryz.isAgg9
  z9 := Tryz.sizeOf9
  v9 := Tryz.zeroValue9
  t20 := Tryz.underlying20
  a20 := Tryz.isAgg20
  z20 := Tryz.sizeOf20
  v20 := Tryz.zeroValue20
  t21 := Tryz.underlying21
  a21 := Tryz.isAgg21
  z21 := Tryz.sizeOf21
  v21 := Tryz.zeroValue21
  t37 := Tryz.underlying22
  a37 := Tryz.isAgg22
  z37 := Tryz.sizeOf22
  v37 := Tryz.zeroValue22
  t46 := Tryz.underlying94
  a46 := Tryz.isAgg94
  z46 := Tryz.sizeOf94
  v46 := Tryz.zeroValue94
  t51 := Tryz.underlying201
  a51 := Tryz.isAgg201
  z51 := Tryz.sizeOf201
  v51 := Tryz.zeroValue201
  t53 := Tryz.underlying190
  a53 := Tryz.isAgg190
  z53 := Tryz.sizeOf190
  v53 := Tryz.zeroValue190
  t75 := Tryz.underlying125
  a75 := Tryz.isAgg125
  z75 := Tryz.sizeOf125
  v75 := Tryz.zeroValue125
  t76 := Tryz.underlying126
  a76 := Tryz.isAgg126
  z76 := Tryz.sizeOf126
  v76 := Tryz.zeroValue126
  t85 := Tryz.underlying184
  a85 := Tryz.isAgg184
  z85 := Tryz.sizeOf184
  v85 := Tryz.zeroValue184
  t127 := Tryz.underlying231
  a127 := Tryz.isAgg231
  z127 := Tryz.sizeOf231
  v127 := Tryz.zeroValue231
  t143 := Tryz.underlying232
  a143 := Tryz.isAgg232
  z143 := Tryz.sizeOf232
  v143 := Tryz.zeroValue232
  t145 := Tryz.underlying234
  a145 := Tryz.isAgg234
  z145 := Tryz.sizeOf234
  v145 := Tryz.zeroValue234
  t167 := Tryz.underlying183
  a167 := Tryz.isAgg183
  z167 := Tryz.sizeOf183
  v167 := Tryz.zeroValue183
  t168 := Tryz.underlying186
  a168 := Tryz.isAgg186
  z168 := Tryz.sizeOf186
  v168 := Tryz.zeroValue186
  t171 := Tryz.underlying189
  a171 := Tryz.isAgg189
  z171 := Tryz.sizeOf189
  v171 := Tryz.zeroValue189
  t173 := Tryz.underlying193
  a173 := Tryz.isAgg193
  z173 := Tryz.sizeOf193
  v173 := Tryz.zeroValue193
  t175 := Tryz.underlying204
  a175 := Tryz.isAgg204
  z175 := Tryz.sizeOf204
  v175 := Tryz.zeroValue204
  t210 := Tryz.underlying208
  a210 := Tryz.isAgg208
  z210 := Tryz.sizeOf208
  v210 := Tryz.zeroValue208
  t212 := Tryz.underlying211
  a212 := Tryz.isAgg211
  z212 := Tryz.sizeOf211
  v212 := Tryz.zeroValue211
  t213 := Tryz.underlying212
  a213 := Tryz.isAgg212
  z213 := Tryz.sizeOf212
  t232 := Tryz.underlying241
  a232 := Tryz.isAgg241
  z232 := Tryz.sizeOf241
  v232 := Tryz.zeroValue241
  t233 := Tryz.underlying242
  a233 := Tryz.isAgg242
  z233 := Tryz.sizeOf242
  v233 := Tryz.zeroValue242
  g15 := by kernel_rfl
  g16 := by kernel_rfl
  g17 := by kernel_rfl
  g18 := by kernel_rfl
  g19 := by kernel_rfl
  t80 := Tryz.underlying246
  a80 := Tryz.isAgg246
  z80 := Tryz.sizeOf246
  v80 := Tryz.zeroValue246
  i0 := by kernel_rfl
  i2 := by kernel_rfl
  i3 := by kernel_rfl
  i4 := by kernel_rfl
  i5 := by kernel_rfl
  i9 := by kernel_rfl
  i20 := by kernel_rfl
  i21 := by kernel_rfl
  i37 := by kernel_rfl
  i46 := by kernel_rfl
  i51 := by kernel_rfl
  i53 := by kernel_rfl
  i75 := by kernel_rfl
  i76 := by kernel_rfl
  i80 := by kernel_rfl
  i85 := by kernel_rfl
  i127 := by kernel_rfl
  i143 := by kernel_rfl
  i145 := by kernel_rfl
  i167 := by kernel_rfl
  i168 := by kernel_rfl
  i171 := by kernel_rfl
  i173 := by kernel_rfl
  i175 := by kernel_rfl
  i210 := by kernel_rfl
  i212 := by kernel_rfl
  i232 := by kernel_rfl
  i233 := by kernel_rfl
  m15 := by kernel_rfl
  m16 := by kernel_rfl
  m17 := by kernel_rfl
  m18 := by kernel_rfl
  m19 := by kernel_rfl
  c0 := by kernel_rfl
  c2 := by kernel_rfl
  c3 := by kernel_rfl
  c4 := by kernel_rfl
  c5 := by kernel_rfl
  c9 := by kernel_rfl
  c20 := by kernel_rfl
  c21 := by kernel_rfl
  c37 := by kernel_rfl
  c46 := by kernel_rfl
  c51 := by kernel_rfl
  c53 := by kernel_rfl
  c75 := by kernel_rfl
  c76 := by kernel_rfl
  c80 := by kernel_rfl
  c85 := by kernel_rfl
  c127 := by kernel_rfl
  c143 := by kernel_rfl
  c145 := by kernel_rfl
  c167 := by kernel_rfl
  c168 := by kernel_rfl
  c171 := by kernel_rfl
  c173 := by kernel_rfl
  c175 := by kernel_rfl
  c210 := by kernel_rfl
  c212 := by kernel_rfl
  c213 := by kernel_rfl
  c232 := by kernel_rfl
  c233 := by kernel_rfl }
open Go.RowKit in
theorem strconv_Atoi_ok (s : ByteArray) (hmax : s.size ≤ 9223372036854775806) (v : Int) (h : Lib.atoiAll s.data.toList = .ok v) (w : World) :
    Calls Tryz.prog 96 #[.string s] w fun e w' => e = .returned (.tuple #[.int .i64 v, .nilIface]) ∧ (w' = w ∨ ∃ t, w' = Lib.bytesWorld w 5 t) := Any.strconv_Atoi_ok laysC172 s hmax v h w
open Go.RowKit in
theorem strconv_Atoi_syntax_var (s : ByteArray) (hlim : s.size ≤ 281474976710656) (h : Lib.atoiAll s.data.toList = Lib.atoiAll []) (tp : TypeId) (p : Value) (w : World) (hvar : w.var? Tryz.prog "strconv.ErrSyntax" = some #[.iface tp p]) :
    Calls Tryz.prog 96 #[.string s] w fun e w' => ∃ N, e = .returned (.tuple #[.int .i64 0, .iface 186 (.pointer (some ⟨N, 0, none⟩))]) ∧ w.heap.size ≤ N ∧ w'.heap[N]? = some (.cells #[.string ⟨#[65, 116, 111, 105]⟩, .string s, .iface tp p] 208 (0, 0)) ∧ Below w.heap.size w w' := Any.strconv_Atoi_syntax_var laysC172 s hlim (h.trans (by rfl)) tp p w hvar
open Go.RowKit in
theorem strconv_Atoi_range_var (s : ByteArray) (hlim : s.size ≤ 281474976710656) (h : Lib.atoiAll s.data.toList = .range) (tp : TypeId) (p : Value) (w : World) (hvar : w.var? Tryz.prog "strconv.ErrRange" = some #[.iface tp p]) :
    Calls Tryz.prog 96 #[.string s] w fun e w' => ∃ N, e = .returned (.tuple #[.int .i64 (Lib.atoiSat s.data.toList), .iface 186 (.pointer (some ⟨N, 0, none⟩))]) ∧ w.heap.size ≤ N ∧ w'.heap[N]? = some (.cells #[.string ⟨#[65, 116, 111, 105]⟩, .string s, .iface tp p] 208 (0, 0)) ∧ Below w.heap.size w w' := Any.strconv_Atoi_range_var laysC172 s hlim h tp p w hvar
def lays145_ren : Go.Shelf.Ren := ⟨fun | 145 => 45 | 220 => 91 | 219 => 144 | 217 => 174 | 225 => 175 | 224 => 176 | 267 => 177 | 266 => 201 | 314 => 202 | n => n, fun | 9 => 9 | 4 => 4 | 59 => 71 | 3 => 3 | 5 => 5 | 46 => 94 | 146 => 202 | 51 => 201 | n => n, fun | 1 => 0 | n => n⟩
theorem lays145 : Go.Proofs.Lays.n145 Tryz.prog lays145_ren := {
  mixed := by kernel_rfl
  f145 := Tryz.func45.trans (congrArg some (by kernel_rfl))
  f217 := Tryz.func174.trans (congrArg some (by kernel_rfl))
  f219 := Tryz.func144.trans (congrArg some (by kernel_rfl))
  f220 := Tryz.func91.trans (congrArg some (by kernel_rfl))
  f224 := Tryz.func176.trans (congrArg some (by kernel_rfl))
  f225 := Tryz.func175.trans (congrArg some (by kernel_rfl))
  f266 := Tryz.func201.trans (congrArg some (by kernel_rfl))
  f267 := Tryz.func177.trans (congrArg some (by kernel_rfl))
  f314 := Tryz.func202.trans (congrArg some (by kernel_rfl))
  t3 := Tryz.underlying3
  a3 := Tryz.isAgg3
  z3 := Tryz.sizeOf3
  v3 := Tryz.zeroValue3
  t4 := Tryz.underlying4
  a4 := Tryz.isAgg4
  z4 := Tryz.sizeOf4
  v4 := Tryz.zeroValue4
  t5 := Tryz.underlying5
  a5 := Tryz.isAgg5
  z5 := Tryz.sizeOf5
  v5 := Tryz.zeroValue5
  t9 := Tryz.underlying9
  a9 := Tryz.isAgg9
  z9 := Tryz.sizeOf9
  v9 := Tryz.zeroValue9
  t46 := Tryz.underlying94
  a46 := Tryz.isAgg94
  z46 := Tryz.sizeOf94
  v46 := Tryz.zeroValue94
  t51 := Tryz.underlying201
  a51 := Tryz.isAgg201
  z51 := Tryz.sizeOf201
  v51 := Tryz.zeroValue201
  t59 := Tryz.underlying71
  a59 := Tryz.isAgg71
  z59 := Tryz.sizeOf71
  v59 := Tryz.zeroValue71
  t146 := Tryz.underlying202
  a146 := Tryz.isAgg202
  z146 := Tryz.sizeOf202
  v146 := Tryz.zeroValue202
  g1 := by kernel_rfl }
open Go.RowKit Go.Lib in
theorem strings_Cut (s sep : ByteArray) (m : Int) (w : World) (hs : s.size < 4294967281) (hm : w.cell? ⟨0, 0, none⟩ = some (.int .i64 m)) :
    Calls Tryz.prog 45 #[.string s, .string sep] w fun e w' => e = .returned (.tuple #[.string ⟨(Lib.cut s.data.toList sep.data.toList).1.toArray⟩, .string ⟨(Lib.cut s.data.toList sep.data.toList).2.1.toArray⟩, .bool (Lib.cut s.data.toList sep.data.toList).2.2]) ∧ ∃ n, w' = w.drewN n := Any.strings_Cut lays145 s sep m w hs hm
def lays146_ren : Go.Shelf.Ren := ⟨fun | 146 => 48 | 221 => 95 | 268 => 149 | 138 => 150 | 143 => 151 | 195 => 179 | 197 => 180 | 218 => 181 | 219 => 144 | 260 => 203 | 217 => 174 | 225 => 175 | 224 => 176 | 267 => 177 | 266 => 201 | 314 => 202 | n => n, fun | 9 => 9 | 31 => 28 | 3 => 3 | 4 => 4 | 0 => 0 | 105 => 181 | 21 => 21 | 5 => 5 | 46 => 94 | 119 => 226 | 139 => 229 | 138 => 228 | 146 => 202 | 51 => 201 | n => n, fun | 1 => 0 | 3 => 4 | 4 => 5 | n => n⟩
theorem lays146 : Go.Proofs.Lays.n146 Tryz.prog lays146_ren := {
  mixed := by kernel_rfl
  f138 := Tryz.func150.trans (congrArg some (by kernel_rfl))
  f143 := Tryz.func151.trans (congrArg some (by kernel_rfl))
  f146 := Tryz.func48.trans (congrArg some (by kernel_rfl))
  f195 := Tryz.func179.trans (congrArg some (by kernel_rfl))
  f197 := Tryz.func180.trans (congrArg some (by kernel_rfl))
  f217 := Tryz.func174.trans (congrArg some (by kernel_rfl))
  f218 := Tryz.func181.trans (congrArg some (by kernel_rfl))
  f219 := Tryz.func144.trans (congrArg some (by kernel_rfl))
  f221 := Tryz.func95.trans (congrArg some (by kernel_rfl))
  f224 := Tryz.func176.trans (congrArg some (by kernel_rfl))
  f225 := Tryz.func175.trans (congrArg some (by kernel_rfl))
  f260 := Tryz.func203.trans (congrArg some (by kernel_rfl))
  f266 := Tryz.func201.trans (congrArg some (by kernel_rfl))
  f267 := Tryz.func177.trans (congrArg some (by kernel_rfl))
  f268 := Tryz.func149.trans (congrArg some (by kernel_rfl))
  f314 := Tryz.func202.trans (congrArg some (by kernel_rfl))
  t0 := Tryz.underlying0
  a0 := Tryz.isAgg0
  z0 := Tryz.sizeOf0
  v0 := Tryz.zeroValue0
  t3 := Tryz.underlying3
  a3 := Tryz.isAgg3
  z3 := Tryz.sizeOf3
  v3 := Tryz.zeroValue3
  t4 := Tryz.underlying4
  a4 := Tryz.isAgg4
  z4 := Tryz.sizeOf4
  v4 := Tryz.zeroValue4
  t5 := Tryz.underlying5
  a5 := Tryz.isAgg5
  z5 := Tryz.sizeOf5
  v5 := Tryz.zeroValue5
  t9 := Tryz.underlying9
  a9 := Tryz.isAgg9
  z9 := Tryz.sizeOf9
  v9 := Tryz.zeroValue9
  t21 := Tryz.underlying21
  a21 := Tryz.isAgg21
  z21 := Tryz.sizeOf21
  v21 := Tryz.zeroValue21
  t31 := Tryz.underlying28
  a31 := Tryz.isAgg28
  z31 := Tryz.sizeOf28
  v31 := Tryz.zeroValue28
  t46 := Tryz.underlying94
  a46 := Tryz.isAgg94
  z46 := Tryz.sizeOf94
  v46 := Tryz.zeroValue94
  t51 := Tryz.underlying201
  a51 := Tryz.isAgg201
  z51 := Tryz.sizeOf201
  v51 := Tryz.zeroValue201
  t105 := Tryz.underlying181
  a105 := Tryz.isAgg181
  z105 := Tryz.sizeOf181
  v105 := Tryz.zeroValue181
  t119 := Tryz.underlying226
  a119 := Tryz.isAgg226
  z119 := Tryz.sizeOf226
  t138 := Tryz.underlying228
  a138 := Tryz.isAgg228
  z138 := Tryz.sizeOf228
  v138 := Tryz.zeroValue228
  t139 := Tryz.underlying229
  a139 := Tryz.isAgg229
  z139 := Tryz.sizeOf229
  v139 := Tryz.zeroValue229
  t146 := Tryz.underlying202
  a146 := Tryz.isAgg202
  z146 := Tryz.sizeOf202
  v146 := Tryz.zeroValue202
  g1 := by kernel_rfl
  g3 := by kernel_rfl
  g4 := by kernel_rfl }
open Go.RowKit Go.Lib in
theorem strings_Split (s sep : ByteArray) (m : Int) (w : World) (hs : s.size < 4294967281) (hm : w.cell? ⟨0, 0, none⟩ = some (.int .i64 m)) (h1 : 1 ≤ sep.size) :
    Calls Tryz.prog 48 #[.string s, .string sep] w fun e w' =>
      e = .returned (.slice (some ⟨w.heap.size, 0, none⟩) (Lib.countB s sep + 1) (Lib.countB s sep + 1)) ∧ w' = w.alloc (.cells ((Lib.splitB sep 0 (Lib.countB s sep) s).map Value.string).toArray 9) := Any.strings_Split lays146 (by kernel_rfl) s sep m w hs hm h1
def lays193_ren : Go.Shelf.Ren := ⟨fun | 193 => 94 | n => n, fun | 31 => 28 | 9 => 9 | 4 => 4 | 3 => 3 | 0 => 0 | n => n, fun | n => n⟩
theorem lays193 : Go.Proofs.Lays.n193 Tryz.prog lays193_ren := {
  mixed := by kernel_rfl
  f193 := Tryz.func94.trans (congrArg some (by kernel_rfl))
  t0 := Tryz.underlying0
  a0 := Tryz.isAgg0
  z0 := Tryz.sizeOf0
  v0 := Tryz.zeroValue0
  t3 := Tryz.underlying3
  a3 := Tryz.isAgg3
  z3 := Tryz.sizeOf3
  v3 := Tryz.zeroValue3
  t4 := Tryz.underlying4
  a4 := Tryz.isAgg4
  z4 := Tryz.sizeOf4
  v4 := Tryz.zeroValue4
  t9 := Tryz.underlying9
  a9 := Tryz.isAgg9
  z9 := Tryz.sizeOf9
  v9 := Tryz.zeroValue9
  t31 := Tryz.underlying28
  a31 := Tryz.isAgg28
  z31 := Tryz.sizeOf28
  v31 := Tryz.zeroValue28 }
open Go.RowKit Go.Lib in
theorem slices_Equal_string (b1 o1 n c b2 o2 m d : Nat) (xs ys : List ByteArray) (w : World) (hx : n ≤ xs.length) (hy : m ≤ ys.length) (hbig : n ≤ 9223372036854775807) (hbig2 : m ≤ 9223372036854775807) (hc1 : ∀ j, j < xs.length → w.cell? ⟨b1, o1 + j, none⟩ = some (.string (xs.getD j ByteArray.empty))) (hc2 : ∀ j, j < ys.length → w.cell? ⟨b2, o2 + j, none⟩ = some (.string (ys.getD j ByteArray.empty))) :
    Calls Tryz.prog 94 #[.slice (some ⟨b1, o1, none⟩) n c, .slice (some ⟨b2, o2, none⟩) m d] w fun e w' => e = .returned (.bool (decide (xs.take n = ys.take m))) ∧ ∃ q, w' = w.drewN q := Any.slices_Equal_string lays193 b1 o1 n c b2 o2 m d xs ys w hx hy hbig hbig2 hc1 hc2
open Go.RowKit Go.Lib in
theorem slices_Equal_string_empty (a1 a2 : Option Addr) (c m d : Nat) (w : World) (hbig2 : m ≤ 9223372036854775807) :
    Calls Tryz.prog 94 #[.slice a1 0 c, .slice a2 m d] w fun e w' => e = .returned (.bool (decide (m = 0))) ∧ w' = w := Any.slices_Equal_string_empty lays193 a1 a2 c m d w hbig2
def laysNm224_ren : Go.Shelf.Ren := ⟨fun | 24 => 146 | n => n, fun | 24 => 28 | 9 => 9 | 3 => 3 | 4 => 4 | 0 => 0 | n => n, fun | n => n⟩
theorem laysNm224 : Go.Proofs.Lays2.n24 Tryz.prog laysNm224_ren := {
  mixed := by kernel_rfl
  f24 := Tryz.func146.trans (congrArg some (by kernel_rfl))
  t0 := Tryz.underlying0
  a0 := Tryz.isAgg0
  z0 := Tryz.sizeOf0
  v0 := Tryz.zeroValue0
  t3 := Tryz.underlying3
  a3 := Tryz.isAgg3
  z3 := Tryz.sizeOf3
  v3 := Tryz.zeroValue3
  t4 := Tryz.underlying4
  a4 := Tryz.isAgg4
  z4 := Tryz.sizeOf4
  v4 := Tryz.zeroValue4
  t9 := Tryz.underlying9
  a9 := Tryz.isAgg9
  z9 := Tryz.sizeOf9
  v9 := Tryz.zeroValue9
  t24 := Tryz.underlying28
  a24 := Tryz.isAgg28
  z24 := Tryz.sizeOf28
  v24 := Tryz.zeroValue28
  i9 := by kernel_rfl }
open Go.RowKit Go.Lib Go.Sort in
theorem slices_Delete_string (blk off cap i j : Nat) (zs : List (List UInt8)) (w : World) (hH : Holds encStr w blk off zs.toArray) (hcap : zs.length ≤ cap) (hm : cap ≤ 9223372036854775807) (hij : i ≤ j) (hj : j ≤ zs.length) :
    Calls Tryz.prog 146 #[.slice (some ⟨blk, off, none⟩) zs.length cap, .int .i64 i, .int .i64 j] w fun e w' => e = .returned (.slice (some ⟨blk, off, none⟩) (zs.length - (j - i)) cap) ∧ ∃ q, w' = putRow encStr (Sort.ahead w q) blk off (zs.take i ++ zs.drop j ++ List.replicate (j - i) []).toArray := Any.slices_Delete_string laysNm224 blk off cap i j zs w hH hcap hm hij hj
open Go.RowKit Go.Lib in
theorem slices_Equal_string_lens (a1 a2 : Option Addr) (n c m d : Nat) (w : World) (hnm : n ≠ m) :
    Calls Tryz.prog 94 #[.slice a1 n c, .slice a2 m d] w fun e w' => e = .returned (.bool false) ∧ w' = w := Any.slices_Equal_string_lens lays193 a1 a2 n c m d w hnm
end Go.Proofs.YtepoiphmmjfbdaaGreatDoor.XDesk
/- The contract of the library's bytes.Equal, at every two slices of bytes. -/
namespace Go.Proofs.YtepoiphmmjfbdaaGreatDoor.CEqual
set_option maxRecDepth 200000
open Go.ChangeShapes Go.WideShapes Go.ChangeAt Go.RowKit Kit
theorem conv_run {w : World} {B : Nat} {A : Option Addr} {xs : List Int} (h : Rd w B A (ints .u8 xs)) (c : Nat) : (convert 22 9 (.slice A xs.length c)).run Tryz.prog w = .ok (.string (strOfNums xs)) w := by
  cases xs with
  | nil =>
    cases A with
    | none => exact run_convert_bytes_nil w 22 5 Tryz.underlying22 Tryz.underlying5 0 c 9 Tryz.underlying9
    | some a =>
      have hl : (loadCells a 0).run Tryz.prog w = .ok (([] : List Int).map (Value.int .u8)).toArray w := by
        have := run_loadCells_list (P := Tryz.prog) w a [] (fun j v hj => by simp at hj)
        simpa using this
      have hl0 : ([] : List Int).length = 0 := rfl
      rw [hl0, run_convert_bytes_string w 22 9 5 _ 0 c Tryz.underlying22 Tryz.underlying5 Tryz.underlying9, run_bytesToString w _ 0 c [] hl]
      rfl
  | cons x r =>
    obtain ⟨b, off, rfl, _⟩ := h.int (i := 0) (by simp)
    refine run_convert_bytes_arg w 22 5 Tryz.underlying22 Tryz.underlying5 b off _ c (x :: r) rfl (fun i hi => ?_) 9 Tryz.underlying9
    obtain ⟨b', off', e, _, hc⟩ := h.int hi
    simp only [Option.some.injEq, Addr.mk.injEq, and_true] at e
    obtain ⟨rfl, rfl⟩ := e
    rw [hc, List.getD_eq_getElem?_getD, List.getElem?_eq_getElem hi]
    rfl
theorem bytes_inj : ∀ {xs ys : List Int}, InR 0 255 xs → InR 0 255 ys → Lib.bytesOf xs = Lib.bytesOf ys → xs = ys
  | [], [], _, _, _ => rfl
  | [], y :: s, _, _, h => by simp [Lib.bytesOf] at h
  | x :: r, [], _, _, h => by simp [Lib.bytesOf] at h
  | x :: r, y :: s, hx, hy, h => by
    simp only [Lib.bytesOf, List.map_cons, List.cons.injEq] at h
    have h1 := hx x (by simp)
    have h2 := hy y (by simp)
    have h3 := congrArg UInt8.toNat h.1
    simp only [UInt8.toNat_ofNat'] at h3
    have e : x = y := by omega
    have e2 := bytes_inj (fun z hz => hx z (by simp [hz])) (fun z hz => hy z (by simp [hz])) h.2
    rw [e, e2]
theorem str_eq {xs ys : List Int} (hx : InR 0 255 xs) (hy : InR 0 255 ys) : ((strOfNums xs).toList == (strOfNums ys).toList) = decide (xs = ys) := by
  rw [Lib.strOfNums_toList, Lib.strOfNums_toList]
  by_cases h : xs = ys
  · subst h; simp
  · simp only [h, decide_false]
    exact beq_eq_false_iff_ne.2 fun e => h (bytes_inj hx hy e)
end Go.Proofs.YtepoiphmmjfbdaaGreatDoor.CEqual
/- The reference's decimal numbers: they are the library's. -/
namespace Go.Proofs.YtepoiphmmjfbdaaGreatDoor.CNumTxt
set_option maxRecDepth 200000
open Go.ChangeShapes Go.WideShapes Go.ChangeAt Go.RowKit Kit CEqual
def dch (v : Nat) : UInt8 := UInt8.ofNat (48 + v % 10)
/-- What stands before a number's last digit. -/
def dpre (v : Nat) : List UInt8 := if v < 10 then [] else Lib.decDigits (v / 10)
theorem dec_pre (v : Nat) : Lib.decDigits v = dpre v ++ [dch v] := by
  rw [Lib.decDigits]
  unfold dpre dch
  split
  · rename_i h
    rw [show v % 10 = v by omega]
    rfl
  · rfl
theorem dpre_next {v : Nat} (h : ¬ v < 10) : dpre v = dpre (v / 10) ++ [dch (v / 10)] := by
  rw [← dec_pre]
  unfold dpre
  rw [if_neg h]
theorem str_add (a b : List UInt8) : ((⟨a.toArray⟩ : ByteArray) ++ (⟨b.toArray⟩ : ByteArray)) = ⟨(a ++ b).toArray⟩ := by
  apply ByteArray.ext
  simp
theorem conv_digit (W : World) (v : Nat) : (convert 22 9 (.slice (some ⟨W.heap.size, 0, none⟩) 1 1)).run Tryz.prog (W.alloc (.cells #[.int .u8 (48 + (v : Int) % 10)] 5)) = .ok (.string ⟨[dch v].toArray⟩) (W.alloc (.cells #[.int .u8 (48 + (v : Int) % 10)] 5)) := by
  have h : Rd (W.alloc (.cells #[.int .u8 (48 + (v : Int) % 10)] 5)) (W.heap.size + 1) (some ⟨W.heap.size, 0, none⟩) (ints .u8 [48 + (v : Int) % 10]) := by
    intro i u hi
    match i, hi with
    | 0, hi =>
      simp at hi
      subst hi
      exact ⟨_, _, rfl, Nat.lt_succ_self _, (Box.new W 5 #[.int .u8 (48 + (v : Int) % 10)]).cell 0⟩
    | i + 1, hi => simp at hi
  have := conv_run h 1
  rw [show strOfNums [48 + (v : Int) % 10] = ⟨[dch v].toArray⟩ from by
    unfold strOfNums dch
    simp only [List.map_cons, List.map_nil]
    rw [show (48 + (v : Int) % 10).toNat = 48 + v % 10 by omega]] at this
  exact this
theorem l8Number_any (n : Int) (w : World) (h0 : -1000000000 ≤ n) (h1 : n ≤ 1000000000) :
    Calls Tryz.prog 40 #[.int .i64 n] w (Ret (.string ⟨(Lib.itoa n).toArray⟩) w) := by
  by_cases hn : n < 0
  · obtain ⟨u, rfl⟩ : ∃ u : Nat, n = -(u : Int) := ⟨n.natAbs, by omega⟩
    have w1 : IntKind.i64.wrap (u : Int) = u := by rw [IntKind.wrap_i64]; omega
    have hu1 : 1 ≤ u := by omega
    have e1 := conv_digit w u
    go_enter Tryz.func40, Tryz.ntmps40
    go_wp2_with fail
    clear e1
    go_loopw [0, 4] (fun x s wr => ∃ (v : Nat) (l : List UInt8), x = .int .i64 v ∧ s = .string ⟨l.toArray⟩ ∧ v ≤ u ∧ Lib.decDigits u = dpre v ++ l ∧ Below w.heap.size w wr) (fun x _ _ => (intOf x).toNat)
    case atStart => exact ⟨u, _, rfl, rfl, Nat.le_refl _, dec_pre u, (by repeat (first | exact Below.refl _ _ | with_reducible assumption | (refine Below.drew ?_) | (refine Below.drewN ?_ _) | (refine Below.alloc ?_ (by simp; try omega) _) | (refine Below.setCell ?_ (by simp; try omega) _)))⟩
    case round =>
      obtain ⟨v, l, rfl, rfl, hv, hd, hb⟩ := hrel
      have hll : l.length ≤ 20 := by
        have h := congrArg List.length hd
        rw [Lib.decDigits_length, List.length_append] at h
        have := Lib.nDigits_le20 u (by omega)
        omega
      have hl1 : ¬ 9223372036854775807 < l.length := by omega
      have hl2 : ¬ 9223372036854775807 < 1 + l.length := by omega
      have hl3 : ¬ 9223372036854775807 < l.length + 1 := by omega
      have HD := hide hd
      have HB := hide hb
      clear hd hb
      by_cases h9 : v < 10
      · have HV := hide (show ((⟨#[45]⟩ : ByteArray) ++ (⟨l.toArray⟩ : ByteArray)) = ⟨(Lib.itoa (-(u : Int))).toArray⟩ from by
          rw [show ((⟨#[45]⟩ : ByteArray) ++ (⟨l.toArray⟩ : ByteArray)) = ⟨([45] ++ l).toArray⟩ from str_add [45] l]
          have h := HD.out
          rw [dpre, if_pos h9, List.nil_append] at h
          rw [Lib.itoa_neg u hu1, h]
          rfl)
        go_wp2_with fail
        rw [HV.out]
        go_ret
        exact ⟨rfl, HB.out⟩
      · have e1 := conv_digit wr (v / 10)
        rw [show ((v / 10 : Nat) : Int) = (v : Int) / 10 from by omega] at e1
        have HV := hide (str_add [dch (v / 10)] l)
        have HN := hide (show (v : Int) / 10 = ((v / 10 : Nat) : Int) from by omega)
        have HP := hide (dpre_next h9)
        go_wp2_with fail
        go_roundw
        case rel =>
          refine ⟨v / 10, [dch (v / 10)] ++ l, by rw [HN.out], by rw [← HV.out], by omega, ?_, HB.out.alloc HB.out.size _⟩
          rw [HD.out, HP.out, List.append_assoc]
        case measure => simp [intOf]; omega
  · obtain ⟨u, rfl⟩ : ∃ u : Nat, n = u := ⟨n.toNat, by omega⟩
    have e1 := conv_digit w u
    go_enter Tryz.func40, Tryz.ntmps40
    go_wp2_with fail
    clear e1
    go_loopw [0, 4] (fun x s wr => ∃ (v : Nat) (l : List UInt8), x = .int .i64 v ∧ s = .string ⟨l.toArray⟩ ∧ v ≤ u ∧ Lib.decDigits u = dpre v ++ l ∧ Below w.heap.size w wr) (fun x _ _ => (intOf x).toNat)
    case atStart => exact ⟨u, _, rfl, rfl, Nat.le_refl _, dec_pre u, (by repeat (first | exact Below.refl _ _ | with_reducible assumption | (refine Below.drew ?_) | (refine Below.drewN ?_ _) | (refine Below.alloc ?_ (by simp; try omega) _) | (refine Below.setCell ?_ (by simp; try omega) _)))⟩
    case round =>
      obtain ⟨v, l, rfl, rfl, hv, hd, hb⟩ := hrel
      have hll : l.length ≤ 20 := by
        have h := congrArg List.length hd
        rw [Lib.decDigits_length, List.length_append] at h
        have := Lib.nDigits_le20 u (by omega)
        omega
      have hl1 : ¬ 9223372036854775807 < l.length := by omega
      have hl2 : ¬ 9223372036854775807 < 1 + l.length := by omega
      have hl3 : ¬ 9223372036854775807 < l.length + 1 := by omega
      have HD := hide hd
      have HB := hide hb
      clear hd hb
      by_cases h9 : v < 10
      · have HV := hide (show ((⟨#[]⟩ : ByteArray) ++ (⟨l.toArray⟩ : ByteArray)) = ⟨(Lib.itoa (u : Int)).toArray⟩ from by
          rw [show ((⟨#[]⟩ : ByteArray) ++ (⟨l.toArray⟩ : ByteArray)) = ⟨l.toArray⟩ from str_add [] l]
          have h := HD.out
          rw [dpre, if_pos h9, List.nil_append] at h
          rw [Lib.itoa, if_neg (by omega), show (u : Int).toNat = u from rfl, h])
        go_wp2_with fail
        rw [HV.out]
        go_ret
        exact ⟨rfl, HB.out⟩
      · have e1 := conv_digit wr (v / 10)
        rw [show ((v / 10 : Nat) : Int) = (v : Int) / 10 from by omega] at e1
        have HV := hide (str_add [dch (v / 10)] l)
        have HN := hide (show (v : Int) / 10 = ((v / 10 : Nat) : Int) from by omega)
        have HP := hide (dpre_next h9)
        go_wp2_with fail
        go_roundw
        case rel =>
          refine ⟨v / 10, [dch (v / 10)] ++ l, by rw [HN.out], by rw [← HV.out], by omega, ?_, HB.out.alloc HB.out.size _⟩
          rw [HD.out, HP.out, List.append_assoc]
        case measure => simp [intOf]; omega
end Go.Proofs.YtepoiphmmjfbdaaGreatDoor.CNumTxt
/- Decimal numbers, read and written; and texts divided at a byte: plain. -/
namespace Go.Proofs.YtepoiphmmjfbdaaGreatDoor.PNum
set_option maxRecDepth 200000
open CNumTxt
/-- What a row of digits spells. -/
def dfold (acc : Int) : List UInt8 → Int
  | [] => acc
  | c :: r => dfold (10 * acc + c.toNat - 48) r
theorem dig_toNat (v : Nat) : (dch v).toNat = 48 + v % 10 := by
  unfold dch
  rw [UInt8.toNat_ofNat']
  omega
theorem dfold_dec (u : Nat) (r : List UInt8) : dfold 0 (Lib.decDigits u ++ r) = dfold u r := by
  induction u using Nat.strongRecOn generalizing r with
  | ind u ih =>
    rw [dec_pre]
    unfold dpre
    by_cases h : u < 10
    · rw [if_pos h]
      show dfold (10 * 0 + (dch u).toNat - 48) r = _
      rw [dig_toNat]
      congr 1
      omega
    · rw [if_neg h, List.append_assoc, ih (u / 10) (by omega)]
      show dfold (10 * ((u / 10 : Nat) : Int) + (dch u).toNat - 48) r = _
      rw [dig_toNat]
      congr 1
      omega
theorem parse_dec (u : Nat) (hu : u ≤ 1000000) (r : List UInt8) : Lib.parseUint10 0 (Lib.decDigits u ++ r) = Lib.parseUint10 u r := by
  induction u using Nat.strongRecOn generalizing r with
  | ind u ih =>
    rw [dec_pre]
    unfold dpre
    by_cases h : u < 10
    · rw [if_pos h]
      show Lib.parseUint10 0 (dch u :: r) = _
      rw [Lib.parseUint10, dig_toNat, if_pos (by omega), if_neg (by omega), if_neg (by omega)]
      congr 1
      omega
    · rw [if_neg h, List.append_assoc, ih (u / 10) (by omega) (by omega)]
      show Lib.parseUint10 (u / 10) (dch u :: r) = _
      rw [Lib.parseUint10, dig_toNat, if_pos (by omega), if_neg (by omega), if_neg (by omega)]
      congr 1
      omega
theorem dec_ne (u : Nat) : Lib.decDigits u ≠ [] := by
  rw [dec_pre]
  simp
theorem dec_digit (u : Nat) : ∀ c ∈ Lib.decDigits u, 48 ≤ c.toNat ∧ c.toNat ≤ 57 := by
  induction u using Nat.strongRecOn with
  | ind u ih =>
    intro c hc
    rw [dec_pre] at hc
    rcases List.mem_append.1 hc with hc | hc
    · unfold dpre at hc
      split at hc
      · cases hc
      · exact ih (u / 10) (by omega) c hc
    · simp only [List.mem_singleton] at hc
      subst hc
      rw [dig_toNat]
      omega
theorem itoa_nat (u : Nat) : Lib.itoa (u : Int) = Lib.decDigits u := by
  unfold Lib.itoa
  rw [if_neg (by omega)]
  simp
theorem parseMag_dec (u : Nat) (hu : u ≤ 1000000) : Lib.parseMag (Lib.decDigits u) = .ok u := by
  unfold Lib.parseMag
  rw [if_neg (dec_ne u)]
  have := parse_dec u hu []
  rw [List.append_nil] at this
  rw [this]
  rfl
theorem neg_of {b : Int} (h : b < 0) : ∃ u : Nat, b = -(u : Int) ∧ 1 ≤ u := ⟨b.natAbs, by omega, by omega⟩
theorem atoi_itoa {b : Int} (h0 : -1000000 ≤ b) (h1 : b ≤ 1000000) : Lib.atoiAll (Lib.itoa b) = .ok b := by
  by_cases hb : b < 0
  · obtain ⟨u, rfl, hu⟩ := neg_of hb
    rw [Lib.itoa_neg u hu, Lib.atoiAll_minus, parseMag_dec u (by omega)]
    unfold Lib.signed
    simp only
    rw [if_neg (by omega)]
  · obtain ⟨u, rfl⟩ := Int.eq_ofNat_of_zero_le (show 0 ≤ b by omega)
    rw [itoa_nat]
    have hp := parseMag_dec u (by omega)
    have hd := dec_digit u
    cases hl : Lib.decDigits u with
    | nil => exact absurd hl (dec_ne u)
    | cons c r =>
      rw [hl] at hp hd
      have hc := hd c (by simp)
      rw [Lib.atoiAll_plain c r (by omega) (by omega), hp]
      unfold Lib.signless
      simp only
      rw [if_neg (by omega)]
/-- What the reference's reading spells, with a sign. -/
def rdV : List UInt8 → Int
  | [] => 0
  | c :: r => if c = 45 then -dfold 0 r else dfold 0 (c :: r)
def rdN (l : List UInt8) : Int := if l.length ≤ 6 ∧ Lib.itoa (rdV l) = l then rdV l else 99999
theorem rdV_itoa (b : Int) : rdV (Lib.itoa b) = b := by
  by_cases hb : b < 0
  · obtain ⟨u, rfl, hu⟩ := neg_of hb
    rw [Lib.itoa_neg u hu, rdV, if_pos rfl]
    have := dfold_dec u []
    rw [List.append_nil] at this
    rw [this]
    rfl
  · obtain ⟨u, rfl⟩ := Int.eq_ofNat_of_zero_le (show 0 ≤ b by omega)
    rw [itoa_nat]
    have hd := dec_digit u
    have hf := dfold_dec u []
    rw [List.append_nil] at hf
    cases hl : Lib.decDigits u with
    | nil => exact absurd hl (dec_ne u)
    | cons c r =>
      rw [hl] at hd hf
      have hc := hd c (by simp)
      rw [rdV, if_neg (by rintro rfl; have : (45 : UInt8).toNat = 45 := rfl; omega), hf]
      rfl
theorem dec_len (u : Nat) (h : u ≤ 99999) : 1 ≤ (Lib.decDigits u).length ∧ (Lib.decDigits u).length ≤ 5 := by
  rw [Lib.decDigits_length]
  refine ⟨Lib.nDigits_pos u, ?_⟩
  rw [Lib.nDigits]
  split
  · omega
  rw [Lib.nDigits]
  split
  · omega
  rw [Lib.nDigits]
  split
  · omega
  rw [Lib.nDigits]
  split
  · omega
  rw [Lib.nDigits_small (by omega)]
  decide
theorem itoa_len {b : Int} (h0 : -99999 ≤ b) (h1 : b ≤ 99999) : 1 ≤ (Lib.itoa b).length ∧ (Lib.itoa b).length ≤ 6 := by
  by_cases hb : b < 0
  · obtain ⟨u, rfl, hu⟩ := neg_of hb
    have := dec_len u (by omega)
    rw [Lib.itoa_neg u hu, List.length_cons]
    omega
  · obtain ⟨u, rfl⟩ := Int.eq_ofNat_of_zero_le (show 0 ≤ b by omega)
    have := dec_len u (by omega)
    rw [itoa_nat]
    omega
theorem rdN_itoa {b : Int} (h0 : -99999 ≤ b) (h1 : b ≤ 99999) : rdN (Lib.itoa b) = b := by
  unfold rdN
  rw [rdV_itoa, if_pos ⟨(itoa_len h0 h1).2, rfl⟩]
/-- The bytes of a written number. -/
theorem itoa_byte (b : Int) : ∀ c ∈ Lib.itoa b, c.toNat = 45 ∨ (48 ≤ c.toNat ∧ c.toNat ≤ 57) := by
  intro c hc
  by_cases hb : b < 0
  · obtain ⟨u, rfl, hu⟩ := neg_of hb
    rw [Lib.itoa_neg u hu] at hc
    rcases List.mem_cons.1 hc with rfl | hc
    · exact .inl rfl
    · exact .inr (dec_digit u c hc)
  · obtain ⟨u, rfl⟩ := Int.eq_ofNat_of_zero_le (show 0 ≤ b by omega)
    rw [itoa_nat] at hc
    exact .inr (dec_digit u c hc)
theorem itoa_no {c : UInt8} (hc : c.toNat < 45 ∨ 57 < c.toNat) (b : Int) : c ∉ Lib.itoa b := fun h => by
  have := itoa_byte b c h
  omega
/-- The number that the program takes a base from. -/
def canon (l : List UInt8) : Option Int := match Lib.atoiAll l with
  | .ok v => if Lib.itoa v = l then some v else none
  | _ => none
theorem canon_itoa {b : Int} (h0 : -1000000 ≤ b) (h1 : b ≤ 1000000) : canon (Lib.itoa b) = some b := by
  unfold canon
  rw [atoi_itoa h0 h1]
  exact if_pos rfl
def headC (b : UInt8) : List (List UInt8) → List (List UInt8)
  | [] => [[b]]
  | x :: r => (b :: x) :: r
def splt (c : UInt8) : List UInt8 → List (List UInt8)
  | [] => [[]]
  | b :: l => if b = c then [] :: splt c l else headC b (splt c l)
theorem headC_ne (b : UInt8) (l : List (List UInt8)) : headC b l ≠ [] := by
  cases l <;> simp [headC]
theorem splt_ne (c : UInt8) (l : List UInt8) : splt c l ≠ [] := by
  cases l with
  | nil => simp [splt]
  | cons b l =>
    rw [splt]
    split
    · simp
    · exact headC_ne b _
theorem splt_len (c : UInt8) (l : List UInt8) : 1 ≤ (splt c l).length ∧ (splt c l).length ≤ l.length + 1 := by
  induction l with
  | nil => simp [splt]
  | cons b l ih =>
    rw [splt]
    split
    · simp only [List.length_cons]
      omega
    · cases h : splt c l with
      | nil => exact absurd h (splt_ne c l)
      | cons x r =>
        rw [h] at ih
        simp only [headC, List.length_cons] at ih ⊢
        omega
theorem splt_whole (c : UInt8) {l : List UInt8} (h : c ∉ l) : splt c l = [l] := by
  induction l with
  | nil => rfl
  | cons b l ih =>
    rw [splt, if_neg (fun e => h (by simp [e])), ih (fun hc => h (by simp [hc]))]
    rfl
theorem splt_cut (c : UInt8) {x : List UInt8} (h : c ∉ x) (r : List UInt8) : splt c (x ++ c :: r) = x :: splt c r := by
  induction x with
  | nil => simp [splt]
  | cons b x ih =>
    rw [List.cons_append, splt, if_neg (fun e => h (by simp [e])), ih (fun hc => h (by simp [hc]))]
    rfl
/-- Texts put behind each other with a byte between them. -/
def joinC (c : UInt8) : List (List UInt8) → List UInt8
  | [] => []
  | [x] => x
  | x :: y :: r => x ++ c :: joinC c (y :: r)
theorem splt_join (c : UInt8) : ∀ (ws : List (List UInt8)), ws ≠ [] → (∀ w ∈ ws, c ∉ w) → splt c (joinC c ws) = ws
  | [], h, _ => absurd rfl h
  | [x], _, h => splt_whole c (h x (by simp))
  | x :: y :: r, _, h => by
    rw [joinC, splt_cut c (h x (by simp)), splt_join c (y :: r) (by simp) (fun w hw => h w (by simp [List.mem_cons.1 hw]))]
theorem join_no {b c : UInt8} (hbc : b ≠ c) : ∀ (ws : List (List UInt8)), (∀ w ∈ ws, b ∉ w) → b ∉ joinC c ws
  | [], _ => by simp [joinC]
  | [x], h => h x (by simp)
  | x :: y :: r, h => by
    rw [joinC, List.mem_append, List.mem_cons]
    rintro (h' | h' | h')
    · exact h x (by simp) h'
    · exact hbc h'
    · exact join_no hbc (y :: r) (fun w hw => h w (by simp [List.mem_cons.1 hw])) h'
theorem join_snoc (c : UInt8) : ∀ (ws : List (List UInt8)) (x : List UInt8), ws ≠ [] → joinC c (ws ++ [x]) = joinC c ws ++ c :: x
  | [], _, h => absurd rfl h
  | [a], x, _ => by simp [joinC]
  | a :: b :: r, x, _ => by
    have := join_snoc c (b :: r) x (by simp)
    simp only [List.cons_append] at this ⊢
    rw [joinC, joinC, this]
    simp
/-- The library's division at one byte is the same. -/
theorem index_none {c : UInt8} : ∀ {l : List UInt8}, c ∉ l → Lib.index l [c] = -1
  | [], _ => by simp [Lib.index]
  | b :: l, h => by
    have hb : b ≠ c := fun e => h (by simp [e])
    have hp : ([c] : List UInt8).isPrefixOf (b :: l) = false := by simp [List.isPrefixOf, Ne.symm hb]
    rw [Lib.index, hp, index_none (l := l) (fun hc => h (by simp [hc]))]
    simp
theorem index_cut {c : UInt8} : ∀ {x : List UInt8} (_ : c ∉ x) (r : List UInt8), Lib.index (x ++ c :: r) [c] = (x.length : Int)
  | [], _, r => by simp [Lib.index, List.isPrefixOf]
  | b :: x, h, r => by
    have hb : b ≠ c := fun e => h (by simp [e])
    have hp : ([c] : List UInt8).isPrefixOf (b :: (x ++ c :: r)) = false := by simp [List.isPrefixOf, Ne.symm hb]
    rw [List.cons_append, Lib.index, hp, index_cut (x := x) (fun hc => h (by simp [hc])) r]
    have hn : ¬ ((x.length : Int) == -1) = true := by simp
    simp only [Bool.false_eq_true, if_false]
    rw [if_neg hn, List.length_cons]
    omega
theorem cut_or (c : UInt8) (l : List UInt8) : c ∉ l ∨ ∃ x r, l = x ++ c :: r ∧ c ∉ x := by
  induction l with
  | nil => exact .inl (by simp)
  | cons b l ih =>
    by_cases hb : b = c
    · exact .inr ⟨[], l, by simp [hb], by simp⟩
    · rcases ih with h | ⟨x, r, rfl, h⟩
      · exact .inl (by simp [Ne.symm hb, h])
      · exact .inr ⟨b :: x, r, rfl, by simp [Ne.symm hb, h]⟩
theorem splitK_splt (c : UInt8) : ∀ (k : Nat) (l : List UInt8), l.count c = k → Lib.splitK [c] 0 k l = splt c l
  | 0, l, h => by
    rw [splt_whole c (List.count_eq_zero.1 h)]
    rfl
  | k + 1, l, h => by
    rcases cut_or c l with h' | ⟨x, r, rfl, hx⟩
    · rw [List.count_eq_zero.2 h'] at h
      omega
    · rw [Lib.splitK, index_cut hx, splt_cut c hx, if_neg (by simp)]
      rw [show ((x.length : Int)).toNat = x.length from rfl, Nat.add_zero, List.take_left]
      rw [show x.length + ([c] : List UInt8).length = (x ++ [c]).length by simp, show x ++ c :: r = (x ++ [c]) ++ r by simp, List.drop_left]
      rw [splitK_splt c k r ?_]
      rw [List.count_append, List.count_eq_zero.2 hx, List.count_cons_self] at h
      omega
theorem split_splt (c : UInt8) (l : List UInt8) : Lib.splitK [c] 0 (Lib.count l [c]) l = splt c l := by
  rw [Lib.count_one]
  exact splitK_splt c _ l rfl
end Go.Proofs.YtepoiphmmjfbdaaGreatDoor.PNum
/- More of the common ground. -/
namespace Go.Proofs.YtepoiphmmjfbdaaGreatDoor.Kit
set_option maxRecDepth 200000
open Go.ChangeShapes Go.WideShapes Go.ChangeAt Go.RowKit
theorem own_base {w : World} {base base' : Nat} {e : TypeId} {size : Nat} {v : Value} {n : Nat} {xs : List Value} (h : w.ownsRow base e size v n xs) (hb : base' ≤ base) : w.ownsRow base' e size v n xs :=
  ⟨h.1, h.2.imp id fun ⟨g, cap, cur, a, b, r⟩ => ⟨g, cap, cur, a, Nat.le_trans hb b, r⟩⟩
theorem own_capm {w : World} {base : Nat} {e : TypeId} {size n c : Nat} {A : Option Addr} {xs : List Value} (h : w.ownsRow base e size (.slice A n c) n xs) : c ≤ maxLen := by
  rcases h.2 with ⟨hv, _⟩ | ⟨g, cap, cur, hv, _, _, _, hc, _⟩
  · injection hv with _ _ h3
    omega
  · injection hv with _ _ h3
    omega
end Go.Proofs.YtepoiphmmjfbdaaGreatDoor.Kit
/- More of the common ground: a block known whole beside rows of the call's own. -/
namespace Go.Proofs.YtepoiphmmjfbdaaGreatDoor.Kit
set_option maxRecDepth 200000
open Go.ChangeShapes Go.WideShapes Go.ChangeAt Go.RowKit
theorem own_keep {w w' : World} {base : Nat} {e : TypeId} {size n : Nat} {v : Value} {xs : List Value} (h : w.ownsRow base e size v n xs) (hk : ∀ k, v.ownBlock = some k → w'.heap[k]? = w.heap[k]?) : w'.ownsRow base e size v n xs := by
  refine ⟨h.1, ?_⟩
  rcases h.2 with hn | ⟨g, cap, cur, rfl, hbg, hg, rest⟩
  · exact .inl hn
  · exact .inr ⟨g, cap, cur, rfl, hbg, (hk g rfl).trans hg, rest⟩
/-- Two blocks of different types are two. -/
theorem own_box {w : World} {base X : Nat} {e t : TypeId} {size n : Nat} {v : Value} {xs : List Value} {cs : Array Value} (h : w.ownsRow base e size v n xs) (hb : Box w X t cs) (hne : e ≠ t) : ∀ k, v.ownBlock = some k → k ≠ X := by
  intro k hk hX
  subst hX
  rcases h.2 with ⟨rfl, _⟩ | ⟨g, cap, cur, rfl, _, hg, _⟩
  · cases hk
  · obtain rfl : g = k := by simpa [Value.ownBlock] using hk
    have := hb.symm.trans hg
    simp at this
    exact hne this.2.symm
theorem Box.grown {w w' : World} {X : Nat} {t : TypeId} {cs : Array Value} {row : Option Nat} (h : Box w X t cs) (hg : w.grownBy w' row) (hr : ∀ k, row = some k → k ≠ X) : Box w' X t cs :=
  (hg.block X h.lt (fun e => hr X e.symm rfl)).trans h
theorem grown_refl (w : World) (row : Option Nat) : w.grownBy w row := ⟨rfl, rfl, rfl, Nat.le_refl _, fun _ _ _ => rfl⟩
theorem grown_trans {a w w' : World} {row : Option Nat} (h : a.grownBy w row) (k : w.grownBy w' row) : a.grownBy w' row :=
  ⟨k.os.trans h.os, k.tape.trans h.tape, k.output.trans h.output, Nat.le_trans h.size k.size, fun i hi hr => (k.block i (Nat.lt_of_lt_of_le hi h.size) hr).trans (h.block i hi hr)⟩
theorem grown_below {a w w' : World} {row : Option Nat} (h : a.grownBy w row) (hb : Below w.heap.size w w') : a.grownBy w' row :=
  grown_trans h ⟨hb.os, hb.tape, hb.output, hb.size, fun i hi _ => hb.block i hi⟩
theorem grown_alloc {a w : World} {row : Option Nat} (h : a.grownBy w row) (o : Obj) : a.grownBy (w.alloc o) row := grown_below h ((Below.refl _ _).alloc (Nat.le_refl _) o)
theorem grown_own {a w w' : World} {row : Option Nat} {v : Option Nat} (h : a.grownBy w row) (k : w.grownBy w' v) (hv : ∀ k, v = some k → a.heap.size ≤ k) : a.grownBy w' row :=
  ⟨k.os.trans h.os, k.tape.trans h.tape, k.output.trans h.output, Nat.le_trans h.size k.size, fun i hi hr => (k.block i (Nat.lt_of_lt_of_le hi h.size) (fun e => by have := hv i e.symm; omega)).trans (h.block i hi hr)⟩
/-- What is turned is one block of the call's own. -/
theorem below_of_grown {B : Nat} {a w w' : World} {R : Nat} (h : Below B a w) (hg : w.grownBy w' (some R)) (hB : B ≤ w.heap.size) (hR : B ≤ R) : Below B a w' :=
  h.grown hg hB (fun k hk => by injection hk with hk; omega)
theorem oneI {k : IntKind} {zs : List Int} : ∀ u ∈ ints k zs, u.oneCell' = true := by
  intro u hu
  obtain ⟨z, _, rfl⟩ := List.mem_map.1 hu
  rfl
end Go.Proofs.YtepoiphmmjfbdaaGreatDoor.Kit
/- More of the common ground: a list that is read, appended to a row of the call's own. -/
namespace Go.Proofs.YtepoiphmmjfbdaaGreatDoor.Kit
set_option maxRecDepth 200000
open Go.ChangeShapes Go.WideShapes Go.ChangeAt Go.RowKit
theorem own_nil {w : World} {base : Nat} {e : TypeId} {size n c : Nat} {A : Option Addr} {xs : List Value} (h : w.ownsRow base e size (.slice A n c) n xs) : A = none → c = 0 := by
  intro hA
  rcases h.2 with ⟨hv, _⟩ | ⟨g, cap, cur, hv, _⟩
  · injection hv
  · injection hv with hA'
    rw [hA] at hA'
    cases hA'
/-- The first elements of a row. -/
theorem own_prefix {w : World} {base n c k : Nat} {e : TypeId} {size : Nat} {A : Option Addr} {xs : List Value} (h : w.ownsRow base e size (.slice A n c) n xs) (hk : k ≤ n) : w.ownsRow base e size (.slice A k c) k (xs.take (k * size)) := by
  have hle : k * size ≤ n * size := Nat.mul_le_mul_right _ hk
  refine ⟨by rw [List.length_take, h.1]; omega, ?_⟩
  rcases h.2 with ⟨hv, h0⟩ | ⟨g, cap, cur, hv, hb, hg, hn, hc, hs, ht⟩
  · left
    injection hv with hA _ hc
    subst hA hc h0
    have : k = 0 := by omega
    subst this
    exact ⟨rfl, rfl⟩
  · right
    injection hv with hA _ hc'
    subst hA hc'
    refine ⟨g, c, cur, rfl, hb, hg, by omega, hc, hs, ?_⟩
    rw [← ht, List.take_take]
    congr 1
    omega
end Go.Proofs.YtepoiphmmjfbdaaGreatDoor.Kit
/- More of the common ground: rows (empty without room, or the call's own), and one law of append for all of them. -/
namespace Go.Proofs.YtepoiphmmjfbdaaGreatDoor.Kit
set_option maxRecDepth 200000
open Go.ChangeShapes Go.WideShapes Go.ChangeAt Go.RowKit
/-- The block of a row that may be written. -/
def blk (A : Option Addr) (c : Nat) : Option Nat := if c = 0 then none else A.map (·.block)
/-- A row: empty without room (its address whatever), or the call's own. -/
def Row (w : World) (base : Nat) (e : TypeId) (size : Nat) (A : Option Addr) (n c : Nat) (xs : List Value) : Prop :=
  (n = 0 ∧ c = 0 ∧ xs = []) ∨ w.ownsRow base e size (.slice A n c) n xs
section
variable {w w' : World} {base : Nat} {e : TypeId} {size n c : Nat} {A : Option Addr} {xs : List Value}
theorem Row.own (h : w.ownsRow base e size (.slice A n c) n xs) : Row w base e size A n c xs := .inr h
theorem Row.empty (w : World) (base : Nat) (e : TypeId) (size : Nat) (A : Option Addr) : Row w base e size A 0 0 [] := .inl ⟨rfl, rfl, rfl⟩
theorem Row.lt (h : Row w base e size A n c xs) : ∀ k, blk A c = some k → base ≤ k ∧ k < w.heap.size := by
  intro k hk
  rcases h with ⟨_, rfl, _⟩ | h
  · cases hk
  · rcases h.2 with ⟨hv, _⟩ | ⟨g, cap, cur, hv, r⟩
    · injection hv with _ _ hc
      subst hc
      cases hk
    · unfold blk at hk
      split at hk
      · cases hk
      · refine h.lt k ?_
        injection hv with hA
        subst hA
        simpa [Value.ownBlock] using hk
theorem Row.keep (h : Row w base e size A n c xs) (hk : ∀ k, blk A c = some k → w'.heap[k]? = w.heap[k]?) : Row w' base e size A n c xs := by
  rcases h with h | h
  · exact .inl h
  · by_cases hc : c = 0
    · subst hc
      refine .inl ⟨Nat.le_zero.1 (own_cap h), rfl, ?_⟩
      have h0 : n = 0 := Nat.le_zero.1 (own_cap h)
      subst h0
      exact List.eq_nil_of_length_eq_zero (by simpa using h.1)
    · refine .inr (own_keep h fun k hk' => hk k ?_)
      unfold blk
      rw [if_neg hc]
      cases A with
      | none => cases hk'
      | some a => simpa [Value.ownBlock] using hk'
theorem Row.call (h : Row w base e size A n c xs) (hb : Below w.heap.size w w') : Row w' base e size A n c xs := h.keep fun k hk => hb.block k (h.lt k hk).2
theorem Row.alloc (h : Row w base e size A n c xs) (o : Obj) : Row (w.alloc o) base e size A n c xs := h.call ((Below.refl _ _).alloc (Nat.le_refl _) o)
theorem Row.drew (h : Row w base e size A n c xs) : Row w.drew base e size A n c xs := h.keep fun _ _ => rfl
theorem Row.drewN (h : Row w base e size A n c xs) (m : Nat) : Row (w.drewN m) base e size A n c xs := h.keep fun _ _ => rfl
theorem Row.grown (h : Row w base e size A n c xs) {v : Option Nat} (g : w.grownBy w' v) (hv : ∀ k, blk A c = some k → v ≠ some k) : Row w' base e size A n c xs := h.keep fun k hk => g.block k (h.lt k hk).2 (fun e => hv k hk e.symm)
theorem Row.set (h : Row w base e size A n c xs) {a : Addr} (ha : ∀ k, blk A c = some k → k ≠ a.block) (u : Value) : Row (w.setCell a u) base e size A n c xs := h.keep fun k hk => Below.heap_setCell w a u k (ha k hk)
theorem Row.down (h : Row w base e size A n c xs) {b : Nat} (hb : b ≤ base) : Row w b e size A n c xs := h.imp id fun h => own_base h hb
theorem Row.rd (h : Row w base e size A n c xs) : Rd w w.heap.size A xs := by
  rcases h with ⟨_, _, rfl⟩ | h
  · exact Rd.nil _
  · exact Rd.of_own h
theorem Row.length (h : Row w base e size A n c xs) : xs.length = n * size := by
  rcases h with ⟨rfl, _, rfl⟩ | h
  · simp
  · exact h.1
theorem Row.cap (h : Row w base e size A n c xs) : n ≤ c ∧ c ≤ maxLen := by
  rcases h with ⟨rfl, rfl, _⟩ | h
  · exact ⟨Nat.le_refl _, Nat.zero_le _⟩
  · exact ⟨own_cap h, own_capm h⟩
theorem Row.nil (h : Row w base e size A n c xs) : A = none → c = 0 := by
  rcases h with ⟨_, rfl, _⟩ | h
  · intro _
    rfl
  · exact own_nil h
theorem Row.of_own (h : w.ownsRow base e size (.slice A n c) n xs) (hx : n = xs.length / size) : Row w base e size A n c xs := .inr h
/-- A row's block holds elements of its type: a box of another type is another block. -/
theorem Row.box (h : Row w base e size A n c xs) {X : Nat} {t : TypeId} {cs : Array Value} (hb : Box w X t cs) (hne : e ≠ t) : ∀ k, blk A c = some k → k ≠ X := by
  intro k hk
  rcases h with ⟨_, rfl, _⟩ | h
  · cases hk
  · refine own_box h hb hne k ?_
    unfold blk at hk
    split at hk
    · cases hk
    · cases A with
      | none => cases hk
      | some a => simpa [Value.ownBlock] using hk
end
theorem Row.prefix {w : World} {base : Nat} {e : TypeId} {size n c k : Nat} {A : Option Addr} {xs : List Value} (h : Row w base e size A n c xs) (hk : k ≤ n) : Row w base e size A k c (xs.take (k * size)) := by
  rcases h with ⟨rfl, rfl, rfl⟩ | h
  · have h0 : k = 0 := by omega
    subst h0
    exact .inl ⟨rfl, rfl, by simp⟩
  · exact .inr (own_prefix h hk)
/-- The cell of a row's element. -/
theorem Row.at1 {w : World} {base : Nat} {e : TypeId} {n c : Nat} {A : Option Addr} {k : IntKind} {zs : List Int} (h : Row w base e 1 A n c (ints k zs)) {i : Nat} (hi : i < zs.length) : ∃ g, A = some ⟨g, 0, none⟩ ∧ w.cell? ⟨g, i, none⟩ = some (.int k (zs.getD i 0)) ∧ g < w.heap.size := by
  rcases h with ⟨_, _, h0⟩ | h
  · have : zs = [] := by simpa [ints] using h0
    subst this
    simp at hi
  · have hl := h.1
    rcases h.2 with ⟨_, h0⟩ | ⟨g, cap, cur, hv, hb, hg, r⟩
    · simp only [ints, List.length_map] at hl
      omega
    · injection hv with hA
      subst hA
      refine ⟨g, rfl, ?_, (Array.getElem?_eq_some_iff.1 hg).1⟩
      obtain ⟨b, off, hA, _, hc⟩ := (Rd.of_own h).int hi
      simp only [Option.some.injEq, Addr.mk.injEq, and_true] at hA
      obtain ⟨rfl, rfl⟩ := hA
      rw [Nat.zero_add] at hc
      rw [hc, List.getD_eq_getElem?_getD, List.getElem?_eq_getElem hi]
      rfl
/-- Two rows that share nothing that may be written. -/
def Apart (A : Option Addr) (c : Nat) (A' : Option Addr) (c' : Nat) : Prop := ∀ k, blk A c = some k → blk A' c' ≠ some k
theorem Apart.symm {A A' : Option Addr} {c c' : Nat} (h : Apart A c A' c') : Apart A' c' A c := fun k hk h' => h k h' hk
/-- 'append(row, s...)': what becomes of it. -/
theorem run_app {P : Program} (w : World) (t ty e : TypeId) (i : TypeInfo) (z : Value) (size bytes : Nat) (ht : P.underlying t = some (.slice e)) (hi : P.info? e = some i) (hz : i.zero = some z)
    (hsize : i.size = size) (hby : i.bytes = bytes) (hzs : z.cells.size = size) (hsz : 0 < size) {base : Nat} {A : Option Addr} {n c : Nat} {xs : List Value} (hrow : Row w base e size A n c xs) (hbase : base ≤ w.heap.size)
    {B : Nat} {A2 : Option Addr} {m c2 : Nat} {news : List Value} (hrd : Rd w B A2 news) (hl : news.length = m * size) (hnil : A2 = none → c2 = 0) (h1 : ∀ u ∈ news, u.oneCell' = true)
    (h63 : n + m ≤ maxLen) (hbytes : (n + m) * bytes ≤ 140737488355328) :
    ∃ A' c' w', (Builtin.append_ #[t, t] ty #[.slice A n c, .slice A2 m c2]).run P w = .ok (.slice A' (n + m) c') w' ∧ Row w' base e size A' (n + m) c' (xs ++ news) ∧ w.grownBy w' (blk A c) ∧ ∀ k, blk A' c' = some k → blk A c = some k ∨ w.heap.size ≤ k := by
  by_cases hm : m = 0
  · subst hm
    obtain rfl : news = [] := List.eq_nil_of_length_eq_zero (by simpa using hl)
    have hs : Src P i.size t (.slice A2 0 c2) 0 [] w := by
      cases A2 with
      | none =>
        have := hnil rfl
        subst this
        exact Src.ofNil w ht 0
      | some a => exact Src.ofSlice w ht a 0 c2 [] (by simp) (by simp) (by simp)
    refine ⟨A, c, w, run_append_nothing w t t ty e i ht hi A n c hrow.cap.1 _ hs, by simpa using hrow, World.grownBy.refl w _, fun k hk => .inl hk⟩
  · obtain ⟨ad, rfl, hc⟩ : ∃ ad, A2 = some ad ∧ ∀ j u, news[j]? = some u → w.cell? (ad.add j) = some u := by
      have h0 : 0 < m * size := Nat.mul_pos (by omega) hsz
      obtain ⟨b, off, e', _⟩ := hrd 0 (news[0]'(by omega)) (List.getElem?_eq_getElem (by omega))
      refine ⟨_, e', fun j u hj => ?_⟩
      obtain ⟨b', off', e'', _, hcc⟩ := hrd j u hj
      rw [e'] at e''
      simp only [Option.some.injEq, Addr.mk.injEq, and_true] at e''
      obtain ⟨rfl, rfl⟩ := e''
      rw [(addr_form (a := ⟨b, off, none⟩) rfl j).2]
      exact hcc
    by_cases hc0 : c = 0
    · subst hc0
      have hn0 : n = 0 := Nat.le_zero.1 hrow.cap.1
      subst hn0
      have hx0 : xs = [] := List.eq_nil_of_length_eq_zero (by simpa using hrow.length)
      subst hx0
      obtain ⟨v', w', hrun, r1, r2⟩ : ∃ v' w', (Builtin.append_ #[t, t] ty #[.slice A 0 0, .slice (some ad) m c2]).run P w = .ok v' w' ∧ w'.ownsRow w.heap.size e size v' (0 + m) ([] ++ news) ∧ w.grownBy w' none := by
        cases A with
        | none =>
          obtain ⟨v', w', hrun, r1, r2, _⟩ := run_append_own (P := P) w w.heap.size t ty e i z size bytes ht hi hz hsize hby hzs hsz (.slice none 0 0) 0 [] (World.ownsRow_nil w _ e size) ad m c2 news hl hc h1 h63 hbytes (Nat.le_refl _)
          exact ⟨v', w', hrun, r1, r2⟩
        | some a => exact run_append_arg_grows (P := P) w t ty e i z size bytes ht hi hz hsize hby hzs hsz a 0 0 [] (by simp) (by simp) ad m c2 news hl hc (by omega) h63 hbytes
      obtain ⟨g, cap, rfl, hg, _⟩ := r1.form (by omega)
      refine ⟨some ⟨g, 0, none⟩, cap, w', hrun, .inr (own_base r1 hbase), r2, fun k hk => .inr ?_⟩
      have := (Row.own r1).lt k hk
      exact this.1
    · have hown : w.ownsRow base e size (.slice A n c) n xs := hrow.elim (fun h => absurd h.2.1 hc0) id
      obtain ⟨g, cap, w', hrun, r1, r2, r3, r4⟩ := run_append_lies (P := P) w t ty base e i z size bytes ht hi hz hsize hby hzs hsz (.slice A n c) n xs hown ad m c2 news hl hc h1 (by omega) h63 hbytes hbase w.heap.size rfl
      have hb : blk A c = (Value.slice A n c).ownBlock := by
        unfold blk
        rw [if_neg hc0]
        cases A <;> rfl
      refine ⟨some ⟨g, 0, none⟩, cap, w', hrun, .inr r1, by rw [hb]; exact r2, fun k hk => ?_⟩
      have hk' : k = g := by
        unfold blk at hk
        split at hk
        · cases hk
        · simpa using hk.symm
      subst hk'
      rw [hb]
      rcases r3 with r3 | r3
      · exact .inl r3
      · exact .inr (by omega)
theorem wp_app {P : Program} {o : Oper} {a : Act} {K : Act → World → Prop} {Q : Exit → Act → World → Prop} {w : World} (s x : Operand) (t : TypeId)
    (ho : o.op = .call { callee := .builtin .append, args := #[s, x], argTypes := #[t, t] }) (e : TypeId) (i : TypeInfo) (z : Value) (size bytes : Nat) (ht : P.underlying t = some (.slice e)) (hi : P.info? e = some i) (hz : i.zero = some z)
    (hsize : i.size = size) (hby : i.bytes = bytes) (hzs : z.cells.size = size) (hsz : 0 < size) (base : Nat) (A : Option Addr) (n c : Nat) (xs : List Value) (hs : a.eval s = .slice A n c) (hrow : Row w base e size A n c xs) (hbase : base ≤ w.heap.size)
    {B : Nat} (A2 : Option Addr) (m c2 : Nat) (news : List Value) (hx : a.eval x = .slice A2 m c2) (hrd : Rd w B A2 news) (hl : news.length = m * size) (hnil : A2 = none → c2 = 0) (h1 : ∀ u ∈ news, u.oneCell' = true)
    (h63 : n + m ≤ maxLen) (hbytes : (n + m) * bytes ≤ 140737488355328)
    (h : ∀ A' n' c' w', n' = n + m → Row w' base e size A' n' c' (xs ++ news) → w.grownBy w' (blk A c) → (∀ k, blk A' c' = some k → blk A c = some k ∨ w.heap.size ≤ k) → K (a.put o.dst (.slice A' n' c')) w') :
    o.wp P a w K Q := by
  obtain ⟨A', c', w', hr, h2, h3, h4⟩ := run_app (P := P) w t o.type e i z size bytes ht hi hz hsize hby hzs hsz hrow hbase hrd hl hnil h1 h63 hbytes
  unfold Oper.wp execOp
  simp only [ho, resolve, invoke, builtin, Sem.run_bind, Sem.run_pure, Result.andThen_ok, List.map_toArray, List.map_cons, List.map_nil, hs, hx, hr]
  exact h A' (n + m) c' w' rfl h2 h3 h4
/-- At a plain region's list. -/
theorem wpList_app {P : Program} (w : World) {ops : Array Oper} {rest : List Oper} {o : Oper} {a : Act} {Q : Exit → Act → World → Prop} (hgd : o.guard = none) (s x : Operand) (t : TypeId)
    (ho : o.op = .call { callee := .builtin .append, args := #[s, x], argTypes := #[t, t] }) (e : TypeId) (i : TypeInfo) (z : Value) (size bytes : Nat) (ht : P.underlying t = some (.slice e)) (hi : P.info? e = some i) (hz : i.zero = some z)
    (hsize : i.size = size) (hby : i.bytes = bytes) (hzs : z.cells.size = size) (hsz : 0 < size) (base : Nat) (A : Option Addr) (n c : Nat) (xs : List Value) (hs : a.eval s = .slice A n c) (hrow : Row w base e size A n c xs) (hbase : base ≤ w.heap.size)
    {B : Nat} (A2 : Option Addr) (m c2 : Nat) (news : List Value) (hx : a.eval x = .slice A2 m c2) (hrd : Rd w B A2 news) (hl : news.length = m * size) (hnil : A2 = none → c2 = 0) (h1 : ∀ u ∈ news, u.oneCell' = true)
    (h63 : n + m ≤ maxLen) (hbytes : (n + m) * bytes ≤ 140737488355328)
    (h : ∀ A' n' c' w', n' = n + m → Row w' base e size A' n' c' (xs ++ news) → w.grownBy w' (blk A c) → (∀ k, blk A' c' = some k → blk A c = some k ∨ w.heap.size ≤ k) → wpList P ops Q rest (a.put o.dst (.slice A' n' c')) w') :
    wpList P ops Q (o :: rest) a w :=
  wpList_plain hgd fun _ hK => wp_app s x t ho e i z size bytes ht hi hz hsize hby hzs hsz base A n c xs hs hrow hbase A2 m c2 news hx hrd hl hnil h1 h63 hbytes fun A' n' c' w' h1 h2 h3 h4 => hK _ _ (h A' n' c' w' h1 h2 h3 h4)
/-- At a step of a region that draws its order. -/
theorem step_app {P : Program} {ops : Array Oper} {o : Oper} {a : Act} {K : Act → World → Prop} {Q : Exit → Act → World → Prop} {E : Prop} {w : World} (hgd : o.guard = none) (s x : Operand) (t : TypeId)
    (ho : o.op = .call { callee := .builtin .append, args := #[s, x], argTypes := #[t, t] }) (e : TypeId) (i : TypeInfo) (z : Value) (size bytes : Nat) (ht : P.underlying t = some (.slice e)) (hi : P.info? e = some i) (hz : i.zero = some z)
    (hsize : i.size = size) (hby : i.bytes = bytes) (hzs : z.cells.size = size) (hsz : 0 < size) (base : Nat) (A : Option Addr) (n c : Nat) (xs : List Value) (hs : a.eval s = .slice A n c) (hrow : Row w base e size A n c xs) (hbase : base ≤ w.heap.size)
    {B : Nat} (A2 : Option Addr) (m c2 : Nat) (news : List Value) (hx : a.eval x = .slice A2 m c2) (hrd : Rd w B A2 news) (hl : news.length = m * size) (hnil : A2 = none → c2 = 0) (h1 : ∀ u ∈ news, u.oneCell' = true)
    (h63 : n + m ≤ maxLen) (hbytes : (n + m) * bytes ≤ 140737488355328)
    (h : ∀ A' n' c' w', n' = n + m → Row w' base e size A' n' c' (xs ++ news) → w.grownBy w' (blk A c) → (∀ k, blk A' c' = some k → blk A c = some k ∨ w.heap.size ≤ k) → K (a.put o.dst (.slice A' n' c')) w') :
    if Region.wanted o (yielded ops a.tmps) = true then Oper.wp P o a w K Q else E := by
  have hw : Region.wanted o (yielded ops a.tmps) = true := by simp [Region.wanted, hgd]
  rw [if_pos hw]
  exact wp_app s x t ho e i z size bytes ht hi hz hsize hby hzs hsz base A n c xs hs hrow hbase A2 m c2 news hx hrd hl hnil h1 h63 hbytes h
/-- A literal that has just been laid. -/
theorem rd_lit (w : World) (cs : Array Value) (e : TypeId) (k : Nat) (hk : k = w.heap.size) : Rd (w.alloc (.cells cs e)) (w.heap.size + 1) (some ⟨k, 0, none⟩) cs.toList := by
  subst hk
  intro i u hu
  exact ⟨_, 0, rfl, Nat.lt_succ_self _, by rw [Nat.zero_add]; exact (Box.new w e cs).cell i ▸ (by simpa using hu)⟩
theorem oneI1 {k : IntKind} {x : Int} : ∀ u ∈ [Value.int k x], u.oneCell' = true := fun u hu => by simp only [List.mem_singleton] at hu; subst hu; rfl
theorem below_grown {B : Nat} {a w w' : World} {v : Option Nat} (h : Below B a w) (g : w.grownBy w' v) (hB : B ≤ w.heap.size) (hv : ∀ k, v = some k → B ≤ k) : Below B a w' := h.grown g hB hv
/-- A fact laid by tactics (a failing one fails where it stands). -/
theorem lay {p q : Prop} (hp : p) (h : p → q) : q := h hp
theorem below_dr {a w : World} (h : Below a.heap.size a w) : Below a.heap.size a w.drew := h.drew
theorem below_dn {a w : World} {n : Nat} (h : Below a.heap.size a w) : Below a.heap.size a (w.drewN n) := Kit.Below.drewN h n
end Go.Proofs.YtepoiphmmjfbdaaGreatDoor.Kit
/- Contracts of the laws' helpers on Fixup: the copy, the comparison of equal data, the marks. Written by a program. -/
namespace Go.Proofs.YtepoiphmmjfbdaaGreatDoor.CFixups
set_option maxRecDepth 200000
open Go.ChangeShapes Go.WideShapes Go.ChangeAt Go.RowKit Kit
theorem info : (Tryz.prog.info? 65).map (fun i => (i.zero, i.size, i.bytes)) = some (some (.agg #[.int .i64 0, .int .i64 0, .int .i64 0, .int .i64 0]), 4, 32) := by kernel_rfl
abbrev D := Int × Int × Int × Int
def fixupC (r : D) : List Value := [.int .i64 r.1, .int .i64 r.2.1, .int .i64 r.2.2.1, .int .i64 r.2.2.2]
theorem fixupC_len (r : D) : (fixupC r).length = 4 := rfl
end Go.Proofs.YtepoiphmmjfbdaaGreatDoor.CFixups
/- Contracts of the laws' helpers on Symbol: the copy, the comparison of equal data, the marks. Written by a program. -/
namespace Go.Proofs.YtepoiphmmjfbdaaGreatDoor.CSymbols
set_option maxRecDepth 200000
open Go.ChangeShapes Go.WideShapes Go.ChangeAt Go.RowKit Kit
theorem info : (Tryz.prog.info? 67).map (fun i => (i.zero, i.size, i.bytes)) = some (some (.agg #[.string ByteArray.empty, .int .i64 0, .int .i64 0, .int .i64 0]), 4, 40) := by kernel_rfl
abbrev D := ByteArray × Int × Int × Int
def symbolC (r : D) : List Value := [.string r.1, .int .i64 r.2.1, .int .i64 r.2.2.1, .int .i64 r.2.2.2]
theorem symbolC_len (r : D) : (symbolC r).length = 4 := rfl
end Go.Proofs.YtepoiphmmjfbdaaGreatDoor.CSymbols
/- Objects as values: their sections and symbols, where these lie, and the plain data. -/
namespace Go.Proofs.YtepoiphmmjfbdaaGreatDoor.PObj
set_option maxRecDepth 200000
open Go.ChangeShapes Go.WideShapes Go.ChangeAt Go.RowKit Kit CFixups CSymbols
abbrev FD := CFixups.D
abbrev YD := CSymbols.D
/-- A section as a value: name, kind, align, where its bytes lie, size, where its fixups lie. -/
structure SV where
  nm : ByteArray
  kd : Int
  al : Int
  A : Option Addr
  c : Nat
  zs : List Int
  sz : Int
  F : Option Addr
  fc : Nat
  fs : List FD
/-- .. and its data. -/
structure SD where
  nm : ByteArray
  kd : Int
  al : Int
  zs : List Int
  sz : Int
  fs : List FD
def SV.d (p : SV) : SD := ⟨p.nm, p.kd, p.al, p.zs, p.sz, p.fs⟩
def secC (p : SV) : List Value := [.string p.nm, .int .i64 p.kd, .int .i64 p.al, .slice p.A p.zs.length p.c, .int .i64 p.sz, .slice p.F p.fs.length p.fc]
theorem secC_len (p : SV) : (secC p).length = 6 := rfl
/-- An object as a value. -/
structure OV where
  A : Option Addr
  c : Nat
  ps : List SV
  Y : Option Addr
  yc : Nat
  ys : List YD
structure OD where
  ss : List SD
  ys : List YD
def OV.d (o : OV) : OD := ⟨o.ps.map SV.d, o.ys⟩
def OV.v (o : OV) : Value := .agg #[.slice o.A o.ps.length o.c, .slice o.Y o.ys.length o.yc]
/-- What all counts as for the laws' sizes. -/
def wt (d : SD) : Int := d.nm.size + d.zs.length + d.fs.length
end Go.Proofs.YtepoiphmmjfbdaaGreatDoor.PObj
/- What turns, block by block. -/
namespace Go.Proofs.YtepoiphmmjfbdaaGreatDoor.Kit
set_option maxRecDepth 200000
open Go.ChangeShapes Go.WideShapes Go.ChangeAt Go.RowKit
/-- From w to w' nothing that was there has turned but the blocks of p. -/
structure Gp (p : Nat → Prop) (w w' : World) : Prop where
  os : w'.os = w.os
  tape : w'.tape = w.tape
  output : w'.output = w.output
  size : w.heap.size ≤ w'.heap.size
  block : ∀ k, k < w.heap.size → ¬ p k → w'.heap[k]? = w.heap[k]?
section
variable {p q : Nat → Prop} {w w' w'' : World}
theorem Gp.refl (p : Nat → Prop) (w : World) : Gp p w w := ⟨rfl, rfl, rfl, Nat.le_refl _, fun _ _ _ => rfl⟩
theorem Gp.trans (h : Gp p w w') (k : Gp p w' w'') : Gp p w w'' :=
  ⟨k.os.trans h.os, k.tape.trans h.tape, k.output.trans h.output, Nat.le_trans h.size k.size, fun i hi hp => (k.block i (Nat.lt_of_lt_of_le hi h.size) hp).trans (h.block i hi hp)⟩
theorem Gp.mono (h : Gp p w w') (hp : ∀ k, p k → q k) : Gp q w w' := ⟨h.os, h.tape, h.output, h.size, fun k hk hq => h.block k hk (fun h => hq (hp k h))⟩
theorem Gp.below {B : Nat} {a : World} (h : Below B a w) (g : Gp p w w') (hB : B ≤ w.heap.size) (hp : ∀ k, p k → B ≤ k) : Below B a w' :=
  h.trans ⟨g.os, g.tape, g.output, g.size, fun k hk => g.block k (Nat.lt_of_lt_of_le hk hB) (fun h => by have := hp k h; omega)⟩
theorem Gp.box {g : Nat} {t : TypeId} {cs : Array Value} (h : Gp p w w') (hb : Box w g t cs) (hp : ¬ p g) : Box w' g t cs := (h.block g hb.lt hp).trans hb
theorem Gp.row {base : Nat} {e : TypeId} {size n c : Nat} {A : Option Addr} {xs : List Value} (g : Gp p w w') (h : Row w base e size A n c xs) (hp : ∀ k, blk A c = some k → ¬ p k) : Row w' base e size A n c xs :=
  h.keep fun k hk => g.block k (h.lt k hk).2 (hp k hk)
end
end Go.Proofs.YtepoiphmmjfbdaaGreatDoor.Kit
/- Contracts of the laws' helpers on []byte: the copy, the comparison, the marks. -/
namespace Go.Proofs.YtepoiphmmjfbdaaGreatDoor.CBytes
set_option maxRecDepth 200000
open Go.ChangeShapes Go.WideShapes Go.ChangeAt Go.RowKit Kit
theorem info8 : (Tryz.prog.info? 5).map (fun i => (i.zero, i.size, i.bytes)) = some (some (.int .u8 0), 1, 1) := by kernel_rfl
end Go.Proofs.YtepoiphmmjfbdaaGreatDoor.CBytes
/- Objects in memory: what is read, what is the call's own. -/
namespace Go.Proofs.YtepoiphmmjfbdaaGreatDoor.BObj
set_option maxRecDepth 200000
open Go.ChangeShapes Go.WideShapes Go.ChangeAt Go.RowKit Kit CFixups CSymbols PObj
theorem info : (Tryz.prog.info? 61).map (fun i => (i.zero, i.size, i.bytes)) = some (some (.agg #[.string ByteArray.empty, .int .i64 0, .int .i64 0, .slice none 0 0, .int .i64 0, .slice none 0 0]), 6, 88) := by kernel_rfl
/-- A section's rows. -/
def RwS (w : World) (base : Nat) (p : SV) : Prop := Row w base 5 1 p.A p.zs.length p.c (ints .u8 p.zs) ∧ Row w base 65 4 p.F p.fs.length p.fc (cellsOf fixupC p.fs)
def RdS (w : World) (B : Nat) (p : SV) : Prop := Rd w B p.A (ints .u8 p.zs) ∧ Rd w B p.F (cellsOf fixupC p.fs)
def ApS (p q : SV) : Prop := Apart p.A p.c q.A q.c ∧ Apart p.F p.fc q.F q.fc
def RwSs (w : World) (base : Nat) (ps : List SV) : Prop := ∀ p ∈ ps, RwS w base p
def RdSs (w : World) (B : Nat) (A : Option Addr) (ps : List SV) : Prop := Rd w B A (cellsOf secC ps) ∧ ∀ p ∈ ps, RdS w B p
def PwSs (ps : List SV) : Prop := ps.Pairwise ApS
def OwnSs (w : World) (base : Nat) (A : Option Addr) (c : Nat) (ps : List SV) : Prop := Row w base 61 6 A ps.length c (cellsOf secC ps) ∧ RwSs w base ps ∧ PwSs ps
def RdO (w : World) (B : Nat) (o : OV) : Prop := RdSs w B o.A o.ps ∧ Rd w B o.Y (cellsOf symbolC o.ys)
def OwnO (w : World) (base : Nat) (o : OV) : Prop := OwnSs w base o.A o.c o.ps ∧ Row w base 67 4 o.Y o.ys.length o.yc (cellsOf symbolC o.ys)
/-- The blocks of a section, of sections, of an object. -/
def sblk (p : SV) (k : Nat) : Prop := blk p.A p.c = some k ∨ blk p.F p.fc = some k
def ssblk (A : Option Addr) (c : Nat) (ps : List SV) (k : Nat) : Prop := blk A c = some k ∨ ∃ p ∈ ps, sblk p k
def oblk (o : OV) (k : Nat) : Prop := ssblk o.A o.c o.ps k ∨ blk o.Y o.yc = some k
section
variable {w w' : World} {B B' base : Nat} {A : Option Addr} {c : Nat} {ps : List SV} {p : SV} {o : OV}
theorem RdS.below (h : RdS w B p) (hb : Below B w w') : RdS w' B p := ⟨h.1.below hb, h.2.below hb⟩
theorem RdS.more (h : RdS w B p) (hB : B ≤ B') : RdS w B' p := ⟨h.1.more hB, h.2.more hB⟩
theorem RdSs.below (h : RdSs w B A ps) (hb : Below B w w') : RdSs w' B A ps := ⟨h.1.below hb, fun p hp => (h.2 p hp).below hb⟩
theorem RdSs.more (h : RdSs w B A ps) (hB : B ≤ B') : RdSs w B' A ps := ⟨h.1.more hB, fun p hp => (h.2 p hp).more hB⟩
theorem RdO.below (h : RdO w B o) (hb : Below B w w') : RdO w' B o := ⟨h.1.below hb, h.2.below hb⟩
theorem RdO.more (h : RdO w B o) (hB : B ≤ B') : RdO w B' o := ⟨h.1.more hB, h.2.more hB⟩
theorem RdO.call (h : RdO w w.heap.size o) (hb : Below w.heap.size w w') : RdO w' w'.heap.size o := (h.below hb).more hb.size
theorem RwS.rd (h : RwS w base p) : RdS w w.heap.size p := ⟨h.1.rd, h.2.rd⟩
theorem OwnSs.rd (h : OwnSs w base A c ps) : RdSs w w.heap.size A ps := ⟨h.1.rd, fun p hp => (h.2.1 p hp).rd⟩
theorem OwnO.rd (h : OwnO w base o) : RdO w w.heap.size o := ⟨h.1.rd, h.2.rd⟩
theorem RwS.lt (h : RwS w base p) : ∀ k, sblk p k → base ≤ k ∧ k < w.heap.size := by
  rintro k (hk | hk)
  · exact h.1.lt k hk
  · exact h.2.lt k hk
theorem OwnSs.lt (h : OwnSs w base A c ps) : ∀ k, ssblk A c ps k → base ≤ k ∧ k < w.heap.size := by
  rintro k (hk | ⟨p, hp, hk⟩)
  · exact h.1.lt k hk
  · exact (h.2.1 p hp).lt k hk
theorem OwnO.lt (h : OwnO w base o) : ∀ k, oblk o k → base ≤ k ∧ k < w.heap.size := by
  rintro k (hk | hk)
  · exact h.1.lt k hk
  · exact h.2.lt k hk
theorem RwS.keep (h : RwS w base p) (hk : ∀ k, sblk p k → w'.heap[k]? = w.heap[k]?) : RwS w' base p := ⟨h.1.keep fun k hb => hk k (.inl hb), h.2.keep fun k hb => hk k (.inr hb)⟩
theorem RwS.call (h : RwS w base p) (hb : Below w.heap.size w w') : RwS w' base p := h.keep fun k hk => hb.block k (h.lt k hk).2
theorem RwS.down {b : Nat} (h : RwS w base p) (hb : b ≤ base) : RwS w b p := ⟨h.1.down hb, h.2.down hb⟩
theorem RwS.set (h : RwS w base p) {a : Addr} (ha : ∀ k, sblk p k → k ≠ a.block) (u : Value) : RwS (w.setCell a u) base p := h.keep fun k hk => Below.heap_setCell w a u k (ha k hk)
theorem RwSs.call (h : RwSs w base ps) (hb : Below w.heap.size w w') : RwSs w' base ps := fun p hp => (h p hp).call hb
theorem RwSs.down {b : Nat} (h : RwSs w base ps) (hb : b ≤ base) : RwSs w b ps := fun p hp => (h p hp).down hb
theorem OwnSs.keep (h : OwnSs w base A c ps) (hk : ∀ k, ssblk A c ps k → w'.heap[k]? = w.heap[k]?) : OwnSs w' base A c ps :=
  ⟨h.1.keep fun k hb => hk k (.inl hb), fun p hp => (h.2.1 p hp).keep fun k hb => hk k (.inr ⟨p, hp, hb⟩), h.2.2⟩
theorem OwnSs.call (h : OwnSs w base A c ps) (hb : Below w.heap.size w w') : OwnSs w' base A c ps := h.keep fun k hk => hb.block k (h.lt k hk).2
theorem OwnSs.down {b : Nat} (h : OwnSs w base A c ps) (hb : b ≤ base) : OwnSs w b A c ps := ⟨h.1.down hb, h.2.1.down hb, h.2.2⟩
theorem OwnO.keep (h : OwnO w base o) (hk : ∀ k, oblk o k → w'.heap[k]? = w.heap[k]?) : OwnO w' base o := ⟨h.1.keep fun k hb => hk k (.inl hb), h.2.keep fun k hb => hk k (.inr hb)⟩
theorem OwnO.call (h : OwnO w base o) (hb : Below w.heap.size w w') : OwnO w' base o := h.keep fun k hk => hb.block k (h.lt k hk).2
theorem OwnO.down {b : Nat} (h : OwnO w base o) (hb : b ≤ base) : OwnO w b o := ⟨h.1.down hb, h.2.down hb⟩
theorem RwSs.snoc {q : SV} (h : RwSs w base ps) (hq : RwS w base q) : RwSs w base (ps ++ [q]) := by
  intro p hp
  rcases List.mem_append.1 hp with hp | hp
  · exact h p hp
  · obtain rfl := List.mem_singleton.1 hp
    exact hq
theorem PwSs.snoc {q : SV} {N : Nat} (h : PwSs ps) (h1 : ∀ p ∈ ps, ∀ k, sblk p k → k < N) (h2 : ∀ k, sblk q k → N ≤ k) : PwSs (ps ++ [q]) := by
  refine List.pairwise_append.2 ⟨h, List.pairwise_singleton _ _, fun a ha b hb => ?_⟩
  obtain rfl := List.mem_singleton.1 hb
  refine ⟨fun k hk hk' => ?_, fun k hk hk' => ?_⟩
  · have e1 := h1 a ha k (.inl hk)
    have e2 := h2 k (.inl hk')
    omega
  · have e1 := h1 a ha k (.inr hk)
    have e2 := h2 k (.inr hk')
    omega
/-- A section's rows lie apart from a block of another type. -/
theorem RwS.box (h : RwS w base p) {X : Nat} {t : TypeId} {cs : Array Value} (hb : Box w X t cs) (h1 : 5 ≠ t) (h2 : 65 ≠ t) : ∀ k, sblk p k → k ≠ X := by
  rintro k (hk | hk)
  · exact h.1.box hb h1 k hk
  · exact h.2.box hb h2 k hk
end
theorem box_of_own {w : World} {base g n c size : Nat} {e : TypeId} {xs : List Value} (h : w.ownsRow base e size (.slice (some ⟨g, 0, none⟩) n c) n xs) : ∃ cs, Box w g e cs := by
  rcases h.2 with ⟨hv, _⟩ | ⟨g', cap, cur, hv, _, hg, _⟩
  · cases hv
  · injection hv with hA
    simp only [Option.some.injEq, Addr.mk.injEq, and_true] at hA
    subst hA
    exact ⟨cur, hg⟩
theorem cells_snoc (qs : List SV) (q : SV) : cellsOf secC (qs ++ [q]) = cellsOf secC qs ++ secC q := by simp [cellsOf]
/-- Six cells put one by one. -/
def put6 (w : World) (Y : Nat) (i : Nat) (v0 v1 v2 v3 v4 v5 : Value) : World := (((((w.setCell ⟨Y, i, none⟩ v0).setCell ⟨Y, i + 1, none⟩ v1).setCell ⟨Y, i + 2, none⟩ v2).setCell ⟨Y, i + 3, none⟩ v3).setCell ⟨Y, i + 4, none⟩ v4).setCell ⟨Y, i + 5, none⟩ v5
section
variable {w a : World} {B Y i : Nat} {v0 v1 v2 v3 v4 v5 : Value}
theorem put6_below (h : Below B a w) (hY : B ≤ Y) : Below B a (put6 w Y i v0 v1 v2 v3 v4 v5) :=
  (((((h.setCell (p := ⟨Y, i, none⟩) hY v0).setCell (p := ⟨Y, i + 1, none⟩) hY v1).setCell (p := ⟨Y, i + 2, none⟩) hY v2).setCell (p := ⟨Y, i + 3, none⟩) hY v3).setCell (p := ⟨Y, i + 4, none⟩) hY v4).setCell (p := ⟨Y, i + 5, none⟩) hY v5
theorem put6_rwS {base : Nat} {p : SV} (h : RwS w base p) (hk : ∀ k, sblk p k → k ≠ Y) : RwS (put6 w Y i v0 v1 v2 v3 v4 v5) base p :=
  (((((h.set (a := ⟨Y, i, none⟩) hk v0).set (a := ⟨Y, i + 1, none⟩) hk v1).set (a := ⟨Y, i + 2, none⟩) hk v2).set (a := ⟨Y, i + 3, none⟩) hk v3).set (a := ⟨Y, i + 4, none⟩) hk v4).set (a := ⟨Y, i + 5, none⟩) hk v5
theorem put6_box {t : TypeId} {u0 u1 u2 u3 u4 u5 : Value} (h : Box w Y t #[u0, u1, u2, u3, u4, u5]) : Box (put6 w Y 0 v0 v1 v2 v3 v4 v5) Y t #[v0, v1, v2, v3, v4, v5] :=
  (((((h.set 0 v0).set 1 v1).set 2 v2).set 3 v3).set 4 v4).set 5 v5
end
/-- The same, written out. -/
theorem six_box {w : World} {Y : Nat} {t : TypeId} {u0 u1 u2 u3 u4 u5 : Value} (h : Box w Y t #[u0, u1, u2, u3, u4, u5]) (v0 v1 v2 v3 v4 v5 : Value) :
    Box ((((((w.setCell ⟨Y, 0, none⟩ v0).setCell ⟨Y, 1, none⟩ v1).setCell ⟨Y, 2, none⟩ v2).setCell ⟨Y, 3, none⟩ v3).setCell ⟨Y, 4, none⟩ v4).setCell ⟨Y, 5, none⟩ v5) Y t #[v0, v1, v2, v3, v4, v5] :=
  (((((h.set 0 v0).set 1 v1).set 2 v2).set 3 v3).set 4 v4).set 5 v5
def RetO (d : OD) (w : World) (e : Ending) (w' : World) : Prop := ∃ o : OV, e = .returned o.v ∧ o.d = d ∧ OwnO w' w.heap.size o ∧ Below w.heap.size w w'
end Go.Proofs.YtepoiphmmjfbdaaGreatDoor.BObj
/- Contracts of the laws' helpers on one Section: the copy, the comparison of equal data, the size. -/
namespace Go.Proofs.YtepoiphmmjfbdaaGreatDoor.CSection
set_option maxRecDepth 200000
open Go.ChangeShapes Go.WideShapes Go.ChangeAt Go.RowKit Kit CFixups CSymbols PObj BObj
end Go.Proofs.YtepoiphmmjfbdaaGreatDoor.CSection
/- Contracts of the laws' helpers on []Section: the copy, the comparison of equal data, the size. -/
namespace Go.Proofs.YtepoiphmmjfbdaaGreatDoor.CSections
set_option maxRecDepth 200000
open Go.ChangeShapes Go.WideShapes Go.ChangeAt Go.RowKit Kit CFixups CSymbols PObj BObj CSection
end Go.Proofs.YtepoiphmmjfbdaaGreatDoor.CSections
/- The texts that the laws' marks write. -/
namespace Go.Proofs.YtepoiphmmjfbdaaGreatDoor.CMarkText
set_option maxRecDepth 200000
open Go.ChangeShapes Go.WideShapes Go.ChangeAt Go.RowKit Kit CNumTxt
end Go.Proofs.YtepoiphmmjfbdaaGreatDoor.CMarkText
