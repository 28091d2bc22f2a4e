/- Small general lemmas, over any program: how a law (a function that answers one bool) is closed out of its walk; hiding of facts. -/
import Derived.WalkKit
import Derived.ProofKit
import Derived.OpenShut
import Derived.Lib.SmallJoins
import Derived.Deep.Slices
import Derived.Deep.Fields
import Derived.Laws.AppendOwnNone
import Derived.Test.YtmglgjchemecjaaRows
import Derived.Shelf.Sort.Plain
import Derived.Shelf.Strings.Prefix
import Derived.Shelf.Slices.Turned
import Derived.Shelf.Slices.Clone
import Derived.Shelf.Slices.CompactS
import Derived.Shelf.Slices.Cells
import Derived.Shelf.Slices.In.SortNone
import Derived.Test.YtmglgjchemecjaaProg
import Derived.Laws.OwnMore
import Derived.Deep.RegionLawGrows
import Derived.Deep.Upon
import Derived.Deep.AppendLies
import Derived.StillTailTactics
import Derived.Deep.QuietTactic
import Derived.BigQuiet
import Derived.Laws.BytesArg
import Derived.Lib.Bytes
import Derived.Lib.ItoaNum
import Derived.Lib.ItoaLen
import Derived.Deep.CutRange
import Derived.Deep.RegionHeld
set_option linter.unusedSimpArgs false
set_option linter.unusedVariables false
namespace Go.Proofs.Ytmglgjchemecjaa.Kit
set_option maxRecDepth 200000
open Go.ChangeShapes Go.WideShapes Go.ChangeAt Go.RowKit Go.Deep

theorem hide {p : Prop} (h : p) : Hid p := h
/-- What a law's walk says: it returns true, and nothing that was there has turned. -/
def LawEnds (w : World) (e : Ending) (w' : World) : Prop := e = .returned (.bool true) ∧ Below w.heap.size w w'

/-- A call that hands back v and turns nothing that was there. -/
def Ret (v : Value) (w : World) (e : Ending) (w' : World) : Prop := e = .returned v ∧ Below w.heap.size w w'
/-- A call that hands back v and leaves the world as it is. -/
def Pure (v : Value) (w : World) (e : Ending) (w' : World) : Prop := e = .returned v ∧ w = w'
theorem ret_bool {a b : Bool} (h : a = b) : Ending.returned (.bool a) = .returned (.bool b) := by rw [h]
theorem Below.drewN {B : Nat} {a w : World} (h : Below B a w) (n : Nat) : Below B a (w.drewN n) := ⟨h.os, h.tape, h.output, h.size, h.block⟩

theorem of_drew {w w' : World} (h : Below w.drew.heap.size w.drew w') : Below w.heap.size w w' := ⟨h.os, h.tape, h.output, h.size, h.block⟩
theorem below_drawn {B : Nat} {w w' : World} {os tape out} {d : Nat} (h : Below B { heap := w.heap, tape := tape, drawn := d, os := os, output := out } w') (ho : os = w.os := by rfl) (ht : tape = w.tape := by rfl) (hu : out = w.output := by rfl) : Below B w w' := by
  subst ho ht hu
  exact ⟨h.os, h.tape, h.output, h.size, h.block⟩
section
variable {H : Type} {enc : TypeId × Value → H} {P : Program}

theorem trodAll_len {w : World} {base : Nat} {sp : Nat → Bool} {held : Bool} : ∀ (ts : List TypeId) (vs : List Value) (ds : List (DataW H)) (ps : List MemPlace),
    DataW.TrodAll enc P w base sp held ts vs ds ps → vs.length = ts.length ∧ ds.length = ts.length
  | [], vs, ds, ps, h => by obtain ⟨rfl, rfl, _⟩ := trodAll_nil h; exact ⟨rfl, rfl⟩
  | t :: ts, vs, ds, ps, h => by
    obtain ⟨v, vs', d, ds', p, q, rfl, rfl, rfl, _, h2⟩ := trodAll_cons h
    obtain ⟨a, b⟩ := trodAll_len ts vs' ds' q h2
    simp [a, b]

theorem below_trodAll (hl : laidOutB P = true) {W W' : World} (hb : Below W.heap.size W W') :
    ∀ (ts : List TypeId) (vs : List Value) (ds : List (DataW H)) (ps : List MemPlace), (∀ t ∈ ts, P.readableRec t = true ∧ t < P.types.size) →
      (∀ x ∈ ps, x.block < W.heap.size) → DataW.TrodAll enc P W 0 (fun _ => true) true ts vs ds ps →
      DataW.TrodAll enc P W' 0 (fun b => decide (b < W.heap.size)) true ts vs ds ps
  | [], vs, ds, ps, _, _, h => by obtain ⟨rfl, rfl, rfl⟩ := trodAll_nil h; exact trodAll_mk0
  | t :: ts, vs, ds, ps, hr, hlt, h => by
    obtain ⟨v, vs', d, ds', p, q, rfl, rfl, rfl, h1, h2⟩ := trodAll_cons h
    refine trodAll_cons_mk ?_ (below_trodAll hl hb ts vs' ds' q (fun t ht => hr t (by simp [ht])) (fun x hx => hlt x (by simp [hx])) h2)
    exact Below.trod hl (hr t (by simp)).1 (hr t (by simp)).2 h1 hb (fun x hx => hlt x (by simp [hx]))

/-- The last step of a law: its specification answers true and hands the arguments back; its walk says that, and that nothing below the heap's old size has turned. -/
theorem law_post (hl : laidOutB P = true) {f : Func} {s : ChangeSpec} {W : World} {args : Array Value} {ds gs : List (DataW H)} {before : List MemPlace} {e : Ending} {W' : World} {tb : TypeId}
    (hr : ∀ t ∈ f.params.toList, P.readableRec t = true ∧ t < P.types.size) (htb : P.underlying tb = some .bool) (hres : f.resultTypes = #[tb]) (hv : s.vars = [])
    (hs : ∀ ds : List (DataW H), ds.length = f.params.toList.length → s.fn H ds = { results := [.lit (.bool true)], args := ds })
    (hW : DataW.Whole enc P f.params.toList s.vars false W args.toList ds gs before) (h : LawEnds W e W') :
    ∃ v, e = .returned v ∧ s.post enc P f false true false false W args v W' := by
  obtain ⟨he, hb⟩ := h
  have hlt : ∀ p ∈ before, p.block < W.heap.size := fun p hp => hW.lt p hp
  have hW' := hW
  obtain ⟨p, q, hA, hV, rfl, hfz, hnd⟩ := hW
  rw [hv] at hV
  obtain ⟨rfl, rfl⟩ := trodVars_none hV
  obtain ⟨_, hdl⟩ := trodAll_len _ _ _ _ hA
  have hsd := hs ds hdl
  refine ⟨_, he, ds, [], p ++ [], [], p, [], hW', ?_, ?_, ?_, ?_, fun h => by cases h⟩
  · rw [List.append_nil, hsd, hres]
    exact trodAll_mk1 (shut_bool htb true)
  · rw [List.append_nil, hsd]
    exact below_trodAll hl hb _ _ _ _ hr (fun x hx => hlt x (by simp [hx])) hA
  · rw [hv]
    rw [List.append_nil, hsd]
    trivial
  · exact hb.frame _
end

/-! ### Slices that are read -/
/-- The slice value that begins at A holds (at least) the cells xs, below block B. -/
def Rd (w : World) (B : Nat) (A : Option Addr) (xs : List Value) : Prop :=
  ∀ (i : Nat) (u : Value), xs[i]? = some u → ∃ b off, A = some ⟨b, off, none⟩ ∧ b < B ∧ w.cell? ⟨b, off + i, none⟩ = some u

section
variable {w w' : World} {B B' : Nat} {A : Option Addr} {xs : List Value}
theorem Rd.nil (A : Option Addr) : Rd w B A [] := fun i u h => by simp at h
theorem Rd.keep (h : Rd w B A xs) (hk : ∀ p : Addr, p.block < B → w'.cell? p = w.cell? p) : Rd w' B A xs := fun i u hi => by
  obtain ⟨b, off, e, hb, hc⟩ := h i u hi
  exact ⟨b, off, e, hb, (hk _ hb).trans hc⟩
theorem Rd.more (h : Rd w B A xs) (hB : B ≤ B') : Rd w B' A xs := fun i u hi => by
  obtain ⟨b, off, e, hb, hc⟩ := h i u hi
  exact ⟨b, off, e, by omega, hc⟩
theorem Rd.below (h : Rd w B A xs) (hb : Below B w w') : Rd w' B A xs := h.keep fun _ hp => hb.cell hp
theorem Rd.at_ (h : Rd w B A xs) {i : Nat} (hi : i < xs.length) : ∃ b off, A = some ⟨b, off, none⟩ ∧ b < B ∧ w.cell? ⟨b, off + i, none⟩ = some xs[i] := h i _ (List.getElem?_eq_getElem hi)
theorem Rd.of_own {base : Nat} {e : TypeId} {size n c : Nat} (h : w.ownsRow base e size (.slice A n c) n xs) : Rd w w.heap.size A xs := fun i u hi => by
  rcases h.2 with ⟨hv, rfl⟩ | ⟨g, cap, cur, hv, _, hg, _⟩
  · have := h.1
    have hl : xs = [] := List.eq_nil_of_length_eq_zero (by simpa using this)
    subst hl
    simp at hi
  · injection hv with hA
    subst hA
    refine ⟨g, 0, rfl, (Array.getElem?_eq_some_iff.1 hg).1, ?_⟩
    have := h.cells (g := g) rfl i u hi
    have hadd : (⟨g, 0, none⟩ : Addr).add i = ⟨g, 0 + i, none⟩ := by unfold Addr.add; split <;> simp_all
    rwa [hadd] at this
end

/-- A part of a slice. -/
theorem Rd.part {w : World} {B : Nat} {A : Option Addr} {xs : List Value} (h : Rd w B A xs) (k n : Nat) : Rd w B (A.map fun a => ⟨a.block, a.off + k, none⟩) ((xs.drop k).take n) := fun i u hi => by
  rw [List.getElem?_take] at hi
  split at hi
  · rw [List.getElem?_drop] at hi
    obtain ⟨b, off, rfl, hb, hc⟩ := h (k + i) u hi
    exact ⟨b, off + k, rfl, hb, by rw [Nat.add_assoc]; exact hc⟩
  · cases hi
/-- A list of ints as cells. -/
abbrev ints (k : IntKind) (zs : List Int) : List Value := zs.map (Value.int k)
theorem Rd.int {w : World} {B : Nat} {A : Option Addr} {k : IntKind} {zs : List Int} (h : Rd w B A (ints k zs)) {i : Nat} (hi : i < zs.length) :
    ∃ b off, A = some ⟨b, off, none⟩ ∧ b < B ∧ w.cell? ⟨b, off + i, none⟩ = some (.int k zs[i]) := by
  obtain ⟨b, off, e, hb, hc⟩ := h.at_ (i := i) (by simpa using hi)
  exact ⟨b, off, e, hb, by simpa using hc⟩
theorem Rd.slice {w : World} {B b off : Nat} {k : IntKind} {zs : List Int} (h : Rd w B (some ⟨b, off, none⟩) (ints k zs)) (lo n : Nat) (hl : lo + n ≤ zs.length) :
    Rd w B (some ⟨b, off + lo, none⟩) (ints k ((zs.drop lo).take n)) ∧ ((zs.drop lo).take n).length = n := by
  refine ⟨?_, by rw [List.length_take, List.length_drop]; omega⟩
  have := h.part lo n
  simpa [ints, List.map_take, List.map_drop] using this
/-- All of a list lie in lo..hi. -/
def InR (lo hi : Int) (zs : List Int) : Prop := ∀ x ∈ zs, lo ≤ x ∧ x ≤ hi
theorem InR.at_ {lo hi : Int} {zs : List Int} (h : InR lo hi zs) {i : Nat} (hi' : i < zs.length) : lo ≤ zs[i] ∧ zs[i] ≤ hi := h _ (List.getElem_mem hi')
theorem setInts (k : IntKind) (zs : List Int) (i : Nat) (x : Int) : (ints k zs).set i (.int k x) = ints k (zs.set i x) := by simp [ints, List.map_set]
theorem zero_cells (k : IntKind) (n : Nat) : (madeCells (Value.int k 0).cells (n * 1)).toList = ints k (List.replicate n 0) := by
  rw [show (Value.int k 0).cells = #[Value.int k 0] from rfl, toList_madeCells_one]
  simp [ints]
theorem zero_cells' (k : IntKind) (n : Nat) : (madeCells #[Value.int k 0] n).toList = ints k (List.replicate n 0) := by
  rw [toList_madeCells_one]
  simp [ints]
theorem take_succ {α : Type} {zs : List α} {i : Nat} (h : i < zs.length) : zs.take (i + 1) = zs.take i ++ [zs[i]] := by
  rw [List.take_succ_eq_append_getElem h]

/-! ### Appending one element to a row of the call's own -/
theorem cells_new (w : World) (cs : Array Value) (e : TypeId) : ∀ j u, cs.toList[j]? = some u → (w.alloc (.cells cs e)).cell? ((⟨w.heap.size, 0, none⟩ : Addr).add j) = some u := by
  intro j u hj
  have hadd : (⟨w.heap.size, 0, none⟩ : Addr).add j = ⟨w.heap.size, j, none⟩ := by unfold Addr.add; split <;> simp_all
  rw [hadd, cell_of_row (w.alloc (.cells cs e)) w.heap.size j cs e (0, 0) (heap_alloc_new w _)]
  simpa using hj
/-- 'out = append(out, x)': x has just been laid in a new block. -/
theorem wpList_app1 {P : Program} (w : World) {ops : Array Oper} {rest : List Oper} {o : Oper} {a : Act} {Q : Exit → Act → World → Prop} (hgd : o.guard = none) (s x : Operand) (t : TypeId)
    (ho : o.op = .call { callee := .builtin .append, args := #[s, x], argTypes := #[t, t] })
    (base : Nat) (e : TypeId) (i : TypeInfo) (z : Value) (size bytes : Nat) (ht : P.underlying t = some (.slice e)) (hi : P.info? e = some i) (hz : i.zero = some z)
    (hsize : i.size = size) (hby : i.bytes = bytes) (hzs : z.cells.size = size) (hsz : 0 < size)
    (cs : Array Value) (hx : a.eval x = .slice (some ⟨w.heap.size, 0, none⟩) 1 1) (hcs : cs.size = size) (h1 : ∀ u ∈ cs.toList, u.oneCell' = true)
    (v : Value) (n : Nat) (xs : List Value) (hs : a.eval s = v) (hown : w.ownsRow base e size v n xs) (hn : n + 1 ≤ maxLen) (hbytes : (n + 1) * bytes ≤ 140737488355328) (hbase : base ≤ w.heap.size)
    (h : ∀ A' n' c' w', n' = n + 1 → w'.ownsRow base e size (.slice A' n' c') n' (xs ++ cs.toList) → w.grownBy w' v.ownBlock → wpList P ops Q rest (a.put o.dst (.slice A' n' c')) w') :
    wpList P ops Q (o :: rest) a (w.alloc (.cells cs e)) := by
  refine wpList_append_own _ hgd s x t ho base e i z size bytes ht hi hz hsize hby hzs hsz v n xs hs (hown.alloc _) ⟨w.heap.size, 0, none⟩ 1 1 cs.toList hx (by simpa using hcs) (cells_new w cs e) h1 hn hbytes (by simp; omega) ?_
  intro v' w' hown' hg hnil
  have hg' : w.grownBy w' v.ownBlock := ⟨hg.os, hg.tape, hg.output, Nat.le_trans (by simp) hg.size, fun k hk hne => (hg.block k (by simp; omega) hne).trans (Below.heap_alloc w _ k hk)⟩
  rcases hown'.2 with ⟨rfl, h0⟩ | ⟨g, cap, cur, rfl, r⟩
  · omega
  · exact h _ _ _ w' rfl hown' hg'

/-- A call hands back a slice of ints in memory of its own, and turns nothing that was there. -/
def RetInts (E : TypeId) (k : IntKind) (zs : List Int) (w : World) (e : Ending) (w' : World) : Prop :=
  ∃ A c, e = .returned (.slice A zs.length c) ∧ w'.ownsRow w.heap.size E 1 (.slice A zs.length c) zs.length (ints k zs) ∧ Below w.heap.size w w'
theorem RetInts.mk {E : TypeId} {k : IntKind} {zs : List Int} {w w' : World} {A : Option Addr} {n c : Nat} (hn : n = zs.length) (ho : w'.ownsRow w.heap.size E 1 (.slice A n c) n (ints k zs)) (hb : Below w.heap.size w w') :
    RetInts E k zs w (.returned (.slice A n c)) w' := by
  subst hn
  exact ⟨A, c, rfl, ho, hb⟩
theorem RetInts.nil {E : TypeId} {k : IntKind} {w w' : World} (hb : Below w.heap.size w w') : RetInts E k [] w (.returned (.slice none 0 0)) w' := ⟨none, 0, rfl, World.ownsRow_nil _ _ _ _, hb⟩
theorem own_empty {w : World} {E : TypeId} : (w.alloc (.cells #[] E)).ownsRow w.heap.size E 1 (.slice (some ⟨w.heap.size, 0, none⟩) 0 0) 0 [] :=
  World.ownsRow_lit (base := w.heap.size) (e := E) (size := 1) w #[] 0 (Nat.le_refl _) (Nat.zero_le _) rfl
def Box (w : World) (g : Nat) (t : TypeId) (cs : Array Value) : Prop := w.heap[g]? = some (.cells cs t (0, 0))
section
variable {w w' : World} {g : Nat} {t : TypeId} {cs : Array Value}
theorem Box.lt (h : Box w g t cs) : g < w.heap.size := (Array.getElem?_eq_some_iff.1 h).1
theorem Box.cell (h : Box w g t cs) (i : Nat) : w.cell? ⟨g, i, none⟩ = cs[i]? := cell_of_row w g i cs t (0, 0) h
theorem Box.frozen (h : Box w g t cs) (i : Nat) : w.frozen? ⟨g, i, none⟩ = false := frozen_of_row w g i cs t h
theorem Box.new (w : World) (t : TypeId) (cs : Array Value) : Box (w.alloc (.cells cs t)) w.heap.size t cs := heap_alloc_new w _
theorem Box.drew (h : Box w g t cs) : Box w.drew g t cs := h
theorem Box.drewN (h : Box w g t cs) (n : Nat) : Box (w.drewN n) g t cs := h
theorem Box.alloc (h : Box w g t cs) (o : Obj) : Box (w.alloc o) g t cs := (Below.heap_alloc w o g h.lt).trans h
theorem Box.set (h : Box w g t cs) (i : Nat) (u : Value) : Box (w.setCell ⟨g, i, none⟩ u) g t (cs.setIfInBounds i u) := heap_setCell_same w g i cs t u h
theorem Box.far (h : Box w g t cs) {p : Addr} (hp : g ≠ p.block) (u : Value) : Box (w.setCell p u) g t cs := (Below.heap_setCell w p u g hp).trans h
theorem Box.below {B : Nat} (h : Box w g t cs) (hb : Below B w w') (hg : g < B) : Box w' g t cs := (hb.block g hg).trans h
theorem Box.call (h : Box w g t cs) (hb : Below w.heap.size w w') : Box w' g t cs := h.below hb h.lt
end

/-! ### Bits -/
theorem ofInt_i64 (a : Nat) (ha : a < 9223372036854775808) : (BitVec.ofInt 64 (a : Int)).toNat = a := by
  rw [BitVec.ofInt_natCast, BitVec.toNat_ofNat]; exact Nat.mod_eq_of_lt (by omega)
/-- The cells of a list of structs. -/
abbrev cellsOf {α : Type} (f : α → List Value) (xs : List α) : List Value := xs.flatMap f
theorem cellsOf_len {α : Type} {f : α → List Value} {C : Nat} (hf : ∀ x, (f x).length = C) (xs : List α) : (cellsOf f xs).length = xs.length * C := by
  induction xs with
  | nil => simp [cellsOf]
  | cons x r ih => simp only [cellsOf, List.flatMap_cons, List.length_append, hf] at *; rw [ih, List.length_cons, Nat.add_mul]; omega
theorem cellsOf_at {α : Type} {f : α → List Value} {C : Nat} (hf : ∀ x, (f x).length = C) (xs : List α) (k j : Nat) (hk : k < xs.length) (hj : j < C) : (cellsOf f xs)[k * C + j]? = (f xs[k])[j]? := by
  induction xs generalizing k with
  | nil => simp at hk
  | cons x r ih =>
    simp only [cellsOf, List.flatMap_cons]
    cases k with
    | zero => rw [List.getElem?_append_left (by rw [hf]; omega)]; simp
    | succ k =>
      rw [List.getElem?_append_right (by rw [hf, Nat.add_mul]; omega), hf, show (k + 1) * C + j - C = k * C + j by rw [Nat.add_mul]; omega]
      exact ih k (by simpa using hk)
theorem Rd.row {α : Type} {f : α → List Value} {C : Nat} {w : World} {B : Nat} {A : Option Addr} {xs : List α} (hf : ∀ x, (f x).length = C) (hC : 0 < C) (h : Rd w B A (cellsOf f xs)) {k : Nat} (hk : k < xs.length) :
    ∃ b off, A = some ⟨b, off, none⟩ ∧ b < B ∧ ∀ j u, (f xs[k])[j]? = some u → w.cell? ⟨b, off + k * C + j, none⟩ = some u := by
  have h0 : (f xs[k])[0]? = some ((f xs[k])[0]'(by rw [hf]; exact hC)) := List.getElem?_eq_getElem _
  obtain ⟨b, off, rfl, hb, _⟩ := h (k * C + 0) _ ((cellsOf_at hf xs k 0 hk hC).trans h0)
  refine ⟨b, off, rfl, hb, fun j u hu => ?_⟩
  have hj : j < C := by
    have := (List.getElem?_eq_some_iff.1 hu).1
    rwa [hf] at this
  obtain ⟨b', off', e, _, hc⟩ := h (k * C + j) u ((cellsOf_at hf xs k j hk hj).trans hu)
  simp only [Option.some.injEq, Addr.mk.injEq, and_true] at e
  obtain ⟨rfl, rfl⟩ := e
  rw [Nat.add_assoc]
  exact hc
theorem own_cap {w : World} {base : Nat} {e : TypeId} {size n c : Nat} {A : Option Addr} {xs : List Value} (h : w.ownsRow base e size (.slice A n c) n xs) : n ≤ c := by
  rcases h.2 with ⟨_, h0⟩ | ⟨g, cap, cur, hv, _, _, hn, _⟩
  · omega
  · injection hv with _ _ hc
    omega
/-- What the call owns stays its own over a call that turns nothing that was there. -/
theorem own_call {w w' : World} {base : Nat} {e : TypeId} {size n : Nat} {v : Value} {xs : List Value} (hb : Below w.heap.size w w') (h : w.ownsRow base e size v n xs) : w'.ownsRow base e size v n xs := by
  refine ⟨h.1, ?_⟩
  rcases h.2 with hn | ⟨g, cap, cur, rfl, hbg, hg, rest⟩
  · exact .inl hn
  · exact .inr ⟨g, cap, cur, rfl, hbg, (hb.block g (Array.getElem?_eq_some_iff.1 hg).1).trans hg, rest⟩
/-- The cells cs read as data of type t. -/
def Trd (P : Program) (w : World) (t : TypeId) (cs : List Value) : Prop :=
  ∃ (H : Type) (enc : TypeId × Value → H) (base : Nat) (sp : Nat → Bool) (held : Bool) (fuel : Nat) (x : DataW H × List MemPlace), DataW.trod enc P w base sp held fuel t cs = some x

section
variable {P : Program} {w : World} {t e : TypeId} {cs : List Value}
theorem Trd.of_trod {H : Type} {enc : TypeId × Value → H} {base : Nat} {sp : Nat → Bool} {held : Bool} {v : Value} {d : DataW H} {ps : List MemPlace} (h : DataW.Trod enc P w base sp held t v d ps) : Trd P w t v.cells.toList := by
  obtain ⟨fuel, h⟩ := h
  exact ⟨H, enc, base, sp, held, fuel, _, h⟩
theorem Trd.int {k : IntKind} (ht : P.underlying t = some (.int k)) (h : Trd P w t cs) : ∃ n, cs = [.int k n] ∧ (Lit.int k n).wf = true := by
  obtain ⟨H, enc, base, sp, held, fuel, x, h⟩ := h
  obtain ⟨n, h1, _, h2⟩ := DataW.trod_int ht h
  exact ⟨n, h1, h2⟩
theorem Trd.bool (ht : P.underlying t = some .bool) (h : Trd P w t cs) : ∃ b, cs = [.bool b] := by
  obtain ⟨H, enc, base, sp, held, fuel, x, h⟩ := h
  obtain ⟨b, h1, _⟩ := DataW.trod_bool ht h
  exact ⟨b, h1⟩
/-- Rows of cells, laid one behind the other: the reading of one place. -/
theorem flatten_at {rows : List (List Value)} {C : Nat} (hC : ∀ r ∈ rows, r.length = C) : ∀ (i : Nat) (u : Value), rows.flatten[i]? = some u →
    ∃ q j r, i = q * C + j ∧ j < C ∧ rows[q]? = some r ∧ r[j]? = some u := by
  induction rows with
  | nil => intro i u h; simp at h
  | cons r rs ih =>
    intro i u h
    have hr := hC r (by simp)
    rw [List.flatten_cons] at h
    by_cases hi : i < r.length
    · rw [List.getElem?_append_left hi] at h
      exact ⟨0, i, r, by omega, by omega, rfl, h⟩
    · rw [List.getElem?_append_right (by omega)] at h
      obtain ⟨q, j, r', h1, h2, h3, h4⟩ := ih (fun x hx => hC x (by simp [hx])) _ u h
      exact ⟨q + 1, j, r', by rw [Nat.add_mul]; omega, h2, by simpa using h3, h4⟩

theorem addr_form {a : Addr} (hs : a.spot = none) (i : Nat) : a = ⟨a.block, a.off, none⟩ ∧ a.add i = ⟨a.block, a.off + i, none⟩ := by
  obtain ⟨b, off, sp⟩ := a
  subst hs
  refine ⟨rfl, ?_⟩
  unfold Addr.add
  split <;> simp_all

theorem Trd.slice (ht : P.underlying t = some (.slice e)) (h : Trd P w t cs) :
    ∃ (A : Option Addr) (n c : Nat) (rows : List (List Value)), cs = [.slice A n c] ∧ n ≤ c ∧ c ≤ maxLen ∧ rows.length = n ∧ (∀ r ∈ rows, r.length = P.cellsOf e ∧ Trd P w e r) ∧ Rd w w.heap.size A rows.flatten := by
  obtain ⟨H, enc, base, sp, held, fuel, x, h⟩ := h
  rcases Go.Deep.open_slice ht h with ⟨rfl, _⟩ | ⟨a, len, cap, m, n, D, Pl, rfl, _, hl, hm, hmm, _, hi⟩
  · exact ⟨none, 0, 0, [], rfl, Nat.le_refl _, Nat.zero_le _, rfl, by simp, Rd.nil _⟩
  · have hlm : len ≤ m := by rw [hmm]; split <;> omega
    have hex : ∀ i : Fin len, ∃ cs', w.cells? base (a.add (i * P.cellsOf e)) (P.cellsOf e) = some cs' ∧ DataW.trod enc P w base sp held n e cs' = some (D i, Pl i) := fun i => hi i (by omega)
    refine ⟨some a, len, cap, List.ofFn fun i => (hex i).choose, rfl, hl, hm, by simp, ?_, ?_⟩
    · intro r hr
      obtain ⟨i, rfl⟩ := List.mem_ofFn.1 hr
      obtain ⟨h1, h2⟩ := (hex i).choose_spec
      exact ⟨(World.cells?_some h1).2.1, H, enc, base, sp, held, n, _, h2⟩
    · intro i u hu
      have hC : ∀ r ∈ List.ofFn fun i => (hex i).choose, r.length = P.cellsOf e := by
        intro r hr
        obtain ⟨i, rfl⟩ := List.mem_ofFn.1 hr
        exact (World.cells?_some (hex i).choose_spec.1).2.1
      obtain ⟨q, j, r, rfl, hj, hq, hu'⟩ := flatten_at hC i u hu
      have hql : q < len := by have := (List.getElem?_eq_some_iff.1 hq).1; simpa using this
      have hr : (hex ⟨q, hql⟩).choose = r := by
        rw [List.getElem?_eq_getElem (by simpa using hql)] at hq
        simpa using hq
      have h1 := (World.cells?_some (hex ⟨q, hql⟩).choose_spec.1).2.2 j hj
      rw [hr, hu', Go.Deep.add_add] at h1
      have h0 := (World.cells?_some (hex ⟨0, by omega⟩).choose_spec.1).2.2 0 (by omega)
      have hc0 := (World.cells?_some (hex ⟨0, by omega⟩).choose_spec.1).2.1
      rw [List.getElem?_eq_getElem (by omega), Go.Deep.add_add] at h0
      have hsp : a.spot = none := by simpa [Addr.add] using World.cell?_spot h0
      obtain ⟨e1, e2⟩ := addr_form hsp (q * P.cellsOf e + j)
      have hb := World.block_lt_of_cell? _ _ h1
      rw [e2] at h1 hb
      exact ⟨a.block, a.off, by rw [← e1], hb, h1⟩

theorem rows_of {α : Type} {rows : List (List Value)} {f : α → List Value} {p : α → Prop} (h : ∀ r ∈ rows, ∃ x, r = f x ∧ p x) : ∃ xs : List α, rows = xs.map f ∧ ∀ x ∈ xs, p x := by
  induction rows with
  | nil => exact ⟨[], rfl, by simp⟩
  | cons r rs ih =>
    obtain ⟨xs, rfl, hx⟩ := ih fun r hr => h r (by simp [hr])
    obtain ⟨x, rfl, hp⟩ := h r (by simp)
    exact ⟨x :: xs, rfl, by simpa using ⟨hp, hx⟩⟩
theorem flatten_one (k : IntKind) (zs : List Int) : (zs.map fun z => [Value.int k z]).flatten = ints k zs := by
  induction zs with
  | nil => rfl
  | cons z r ih => simp_all [ints]

/-- A slice of ints that comes in. -/
theorem Trd.ints {k : IntKind} (ht : P.underlying t = some (.slice e)) (he : P.underlying e = some (.int k)) (h : Trd P w t cs) :
    ∃ (A : Option Addr) (zs : List Int) (c : Nat), cs = [.slice A zs.length c] ∧ zs.length ≤ c ∧ c ≤ maxLen ∧ Rd w w.heap.size A (ints k zs) ∧ ∀ z ∈ zs, (Lit.int k z).wf = true := by
  obtain ⟨A, n, c, rows, rfl, hn, hc, rfl, hr, hrd⟩ := Trd.slice ht h
  obtain ⟨zs, rfl, hz⟩ := rows_of (f := fun z => [Value.int k z]) (p := fun z => (Lit.int k z).wf = true) fun r hr' => (hr r hr').2.int he
  rw [flatten_one] at hrd
  simp only [List.length_map] at hn ⊢
  exact ⟨A, zs, c, rfl, hn, hc, hrd, hz⟩
theorem wf_u8 {zs : List Int} (h : ∀ z ∈ zs, (Lit.int .u8 z).wf = true) : InR 0 255 zs := fun z hz => by
  have := h z hz
  simpa [Lit.wf, IntKind.min, IntKind.max, IntKind.signed, IntKind.bits] using this
/-- A []byte that comes in. -/
theorem arg_bytes {H : Type} {enc : TypeId × Value → H} {base b0 : Nat} {sp : Nat → Bool} {held : Bool} {r : Reach} {v : Value} {d : DataW H} {ps : List MemPlace} (ht : P.underlying t = some (.slice e)) (he : P.underlying e = some (.int .u8))
    (hv : Value.okWide P w r b0 t v) (h : DataW.Trod enc P w base sp held t v d ps) :
    ∃ (A : Option Addr) (zs : List Int) (c : Nat), v = .slice A zs.length c ∧ zs.length ≤ c ∧ c ≤ maxLen ∧ Rd w w.heap.size A (Kit.ints .u8 zs) ∧ InR 0 255 zs := by
  obtain ⟨a, l, c, rfl⟩ := okWide_slice ht hv
  obtain ⟨A, zs, c', e1, h1, h2, h3, h4⟩ := (Trd.of_trod h).ints ht he
  simp [Value.cells] at e1
  obtain ⟨rfl, rfl, rfl⟩ := e1
  exact ⟨_, zs, _, rfl, h1, h2, h3, wf_u8 h4⟩
end
end Go.Proofs.Ytmglgjchemecjaa.Kit
/- The words that head the translation, read off the letters one by one: what the closing facts ask of them. -/
namespace Go.Proofs.Ytmglgjchemecjaa.Words
set_option maxRecDepth 200000
open Go.ChangeShapes Go.WideShapes Go.ChangeAt Go.RowKit
theorem words_app : ∀ (w : List Nat) (r : List Char), (w.all fun x => Char.ofNat x != Char.ofNat 32) = true → wordsSigns (w.map Char.ofNat ++ Char.ofNat 32 :: r) = w.map Char.ofNat :: wordsSigns r
  | [], r, _ => by
    show wordsSigns (Char.ofNat 32 :: r) = [] :: wordsSigns r
    rw [wordsSigns]
  | x :: w, r, h => by
    simp only [List.all_cons, Bool.and_eq_true, bne_iff_ne, ne_eq] at h
    have ih := words_app w r (by simpa using h.2)
    simp only [List.map_cons, List.cons_append]
    rw [wordsSigns, ih]
    exact h.1
abbrev w0 : List Nat := [104, 97, 114, 110, 101, 115, 115]
abbrev w1 : List Nat := [56, 100, 55, 54, 98, 53, 51, 99, 98, 98, 99, 97, 98, 101, 99, 97, 49, 56, 48, 101, 100, 53, 52, 101, 99, 99, 98, 101, 101, 48, 53, 50, 100, 100, 97, 100, 50, 101, 101, 99, 98, 55, 56, 102, 102, 48, 56, 56, 98, 54, 99, 97, 100, 97, 53, 48, 52, 97, 48, 52, 97, 57, 51, 56]
abbrev w2 : List Nat := [99, 117, 116]
def W0 : List Char := w0.map Char.ofNat
def W1 : List Char := w1.map Char.ofNat
def W2 : List Char := w2.map Char.ofNat
theorem split : ∃ R, wordsSigns Try.prog.initOrder.toList = W0 :: W1 :: W2 :: R := by
  unfold W0 W1 W2
  refine ⟨wordsSigns (([97, 116, 32, 108, 111, 111, 112, 46, 101, 120, 97, 109, 112, 108, 101, 47, 111, 98, 106, 101, 99, 116, 108, 105, 110, 107, 101, 114, 47, 108, 97, 119, 115, 46, 70, 110, 87, 97, 114, 110, 105, 110, 103, 115, 79, 102, 32, 108, 111, 111, 112, 46, 101, 120, 97, 109, 112, 108, 101, 47, 111, 98, 106, 101, 99, 116, 108, 105, 110, 107, 101, 114, 47, 108, 97, 119, 115, 46, 70, 110, 69, 120, 97, 99, 116, 87, 97, 114, 110, 105, 110, 103, 115, 79, 102, 32, 108, 111, 111, 112, 46, 101, 120, 97, 109, 112, 108, 101, 47, 111, 98, 106, 101, 99, 116, 108, 105, 110, 107, 101, 114, 47, 108, 97, 119, 115, 46, 70, 110, 69, 120, 97, 99, 116, 67, 108, 101, 97, 114, 70, 105, 120, 117, 112, 115, 32, 108, 111, 111, 112, 46, 101, 120, 97, 109, 112, 108, 101, 47, 111, 98, 106, 101, 99, 116, 108, 105, 110, 107, 101, 114, 47, 108, 97, 119, 115, 46, 70, 110, 69, 120, 97, 99, 116, 83, 111, 114, 116, 83, 121, 109, 98, 111, 108, 115, 32, 108, 111, 111, 112, 46, 101, 120, 97, 109, 112, 108, 101, 47, 111, 98, 106, 101, 99, 116, 108, 105, 110, 107, 101, 114, 47, 108, 97, 119, 115, 46, 70, 110, 67, 108, 101, 97, 114, 70, 105, 120, 117, 112, 115, 32, 108, 111, 111, 112, 46, 101, 120, 97, 109, 112, 108, 101, 47, 111, 98, 106, 101, 99, 116, 108, 105, 110, 107, 101, 114, 47, 108, 97, 119, 115, 46, 70, 110, 83, 97, 109, 101, 79, 98, 106, 101, 99, 116, 32, 108, 111, 111, 112, 46, 101, 120, 97, 109, 112, 108, 101, 47, 111, 98, 106, 101, 99, 116, 108, 105, 110, 107, 101, 114, 47, 108, 97, 119, 115, 46, 70, 110, 76, 97, 110, 100, 109, 97, 114, 107, 115, 79, 102] : List Nat).map Char.ofNat), ?_⟩
  rw [show Try.prog.initOrder = String.ofList (w0.map Char.ofNat ++ Char.ofNat 32 :: (w1.map Char.ofNat ++ Char.ofNat 32 :: (w2.map Char.ofNat ++ Char.ofNat 32 :: ([97, 116, 32, 108, 111, 111, 112, 46, 101, 120, 97, 109, 112, 108, 101, 47, 111, 98, 106, 101, 99, 116, 108, 105, 110, 107, 101, 114, 47, 108, 97, 119, 115, 46, 70, 110, 87, 97, 114, 110, 105, 110, 103, 115, 79, 102, 32, 108, 111, 111, 112, 46, 101, 120, 97, 109, 112, 108, 101, 47, 111, 98, 106, 101, 99, 116, 108, 105, 110, 107, 101, 114, 47, 108, 97, 119, 115, 46, 70, 110, 69, 120, 97, 99, 116, 87, 97, 114, 110, 105, 110, 103, 115, 79, 102, 32, 108, 111, 111, 112, 46, 101, 120, 97, 109, 112, 108, 101, 47, 111, 98, 106, 101, 99, 116, 108, 105, 110, 107, 101, 114, 47, 108, 97, 119, 115, 46, 70, 110, 69, 120, 97, 99, 116, 67, 108, 101, 97, 114, 70, 105, 120, 117, 112, 115, 32, 108, 111, 111, 112, 46, 101, 120, 97, 109, 112, 108, 101, 47, 111, 98, 106, 101, 99, 116, 108, 105, 110, 107, 101, 114, 47, 108, 97, 119, 115, 46, 70, 110, 69, 120, 97, 99, 116, 83, 111, 114, 116, 83, 121, 109, 98, 111, 108, 115, 32, 108, 111, 111, 112, 46, 101, 120, 97, 109, 112, 108, 101, 47, 111, 98, 106, 101, 99, 116, 108, 105, 110, 107, 101, 114, 47, 108, 97, 119, 115, 46, 70, 110, 67, 108, 101, 97, 114, 70, 105, 120, 117, 112, 115, 32, 108, 111, 111, 112, 46, 101, 120, 97, 109, 112, 108, 101, 47, 111, 98, 106, 101, 99, 116, 108, 105, 110, 107, 101, 114, 47, 108, 97, 119, 115, 46, 70, 110, 83, 97, 109, 101, 79, 98, 106, 101, 99, 116, 32, 108, 111, 111, 112, 46, 101, 120, 97, 109, 112, 108, 101, 47, 111, 98, 106, 101, 99, 116, 108, 105, 110, 107, 101, 114, 47, 108, 97, 119, 115, 46, 70, 110, 76, 97, 110, 100, 109, 97, 114, 107, 115, 79, 102] : List Nat).map Char.ofNat))) from by kernel_rfl, String.toList_ofList]
  rw [words_app _ _ (by kernel_rfl), words_app _ _ (by kernel_rfl), words_app _ _ (by kernel_rfl)]
theorem sum : (W0 == "harness".toList || W0 == "ownmain".toList) = true := by kernel_rfl
theorem sum2 : isSumSigns W1 = true := by kernel_rfl
theorem behind (R : List (List Char)) : behindMainWord (W0 :: W1 :: W2 :: R) = W2 :: R := by
  unfold behindMainWord
  simp only [sum, sum2, Bool.and_self, if_true]
theorem gc : (W2 == "gc".toList || W2 == "spec".toList) = false := by kernel_rfl
theorem cut : (W2 == "cut".toList) = true := by kernel_rfl
theorem carried : (W2 == "carried".toList) = false := by kernel_rfl
theorem strip (R : List (List Char)) : stripLifts liftWords (W2 :: R) = ([], W2 :: R) := by kernel_rfl
theorem cutEq : W2 = "cut".toList := beq_iff_eq.1 cut
theorem lays : Try.prog.laysLater = false := by kernel_rfl
theorem bears : Try.prog.bearsReflect = false := by kernel_rfl
theorem door : Try.prog.doorFits [] = true := by kernel_rfl
theorem heads {a b : List Char} (h : a = b) (R : List (List Char)) : ((a :: R).head? == some b) = true := by subst h; simp
theorem headsN {a b : List Char} (h : (a == b) = false) (R : List (List Char)) : ((a :: R).head? == some b) = false := by
  have := beq_eq_false_iff_ne.1 h
  simpa using this
theorem make_of {P : Program} {c : List Char} {r : List (List Char)} (h : behindMainWord (wordsSigns P.initOrder.toList) = c :: r) (h1 : (c == "gc".toList || c == "spec".toList) = false) (h2 : (c == "cut".toList) = true) : P.make = some .cut := by
  unfold Program.make
  rw [h]
  show (if (c == "gc".toList || c == "spec".toList) = true then some Make.whole else if (c == "cut".toList || _) = true then some Make.cut else _) = some Make.cut
  rw [h1, h2, Bool.true_or, if_neg Bool.false_ne_true, if_pos rfl]
theorem may_of {P : Program} {c : List Char} {r : List (List Char)} (h : behindMainWord (wordsSigns P.initOrder.toList) = c :: r) (hs : stripLifts liftWords (c :: r) = ([], c :: r)) (hc : c = "cut".toList) (hl : P.laysLater = false) (hb : P.bearsReflect = false) (hd : P.doorFits [] = true) : P.mayEnter = true := by
  unfold Program.mayEnter
  rw [h]
  show ((_ && _) || (_ && _ && _ && _) || ((stripLifts liftWords (c :: r)).2.head? == some "cut".toList && _ && _ && _ && P.doorFits (stripLifts liftWords (c :: r)).1)) = true
  rw [hs]
  show ((_ && _) || (_ && _ && _ && _) || ((c :: r).head? == some "cut".toList && (_ || !P.laysLater) && (_ || !P.bearsReflect) && (_ || _) && P.doorFits [])) = true
  rw [heads hc, hl, hb, hd]
  simp only [List.contains_nil, Bool.not_false, Bool.or_true, Bool.and_true]
theorem make : Try.prog.make = some .cut := by
  obtain ⟨R, h⟩ := split
  exact make_of (by rw [h]; exact behind R) gc cut
theorem mayEnter : Try.prog.mayEnter = true := by
  obtain ⟨R, h⟩ := split
  exact may_of (by rw [h]; exact behind R) (strip R) cutEq lays bears door
theorem lifted : Try.prog.liftsFinal = false := by
  obtain ⟨R, h⟩ := split
  unfold Program.liftsFinal Program.headLifts
  rw [h, behind, strip]
  dsimp only
  rw [headsN carried, heads cutEq]
  rfl
end Go.Proofs.Ytmglgjchemecjaa.Words
/- The library at []string, at this dump: printed by the kit's lay-plain. -/
namespace Go.Proofs.Ytmglgjchemecjaa.XNames
set_option maxRecDepth 200000
open Go.Shelf
def lays190_ren : Go.Shelf.Ren := ⟨fun | 190 => 155 | 125 => 184 | 258 => 183 | 128 => 207 | 129 => 208 | 302 => 198 | 303 => 199 | 304 => 200 | 305 => 201 | 306 => 202 | 307 => 203 | 308 => 204 | 309 => 205 | 310 => 206 | 333 => 217 | 329 => 218 | 330 => 219 | 334 => 220 | 335 => 221 | 336 => 130 | 344 => 224 | n => n, fun | 31 => 64 | 9 => 9 | 3 => 3 | 46 => 181 | 0 => 0 | 51 => 206 | 53 => 208 | 4 => 4 | 183 => 200 | 182 => 199 | 131 => 106 | 5 => 5 | 218 => 211 | 222 => 215 | 228 => 218 | 229 => 219 | n => n, fun | n => n⟩
theorem lays190 : Go.Proofs.Lays.n190 Try.prog lays190_ren := {
  mixed := by kernel_rfl
  f125 := Try.func184.trans (congrArg some (by kernel_rfl))
  f128 := Try.func207.trans (congrArg some (by kernel_rfl))
  f129 := Try.func208.trans (congrArg some (by kernel_rfl))
  f190 := Try.func155.trans (congrArg some (by kernel_rfl))
  f258 := Try.func183.trans (congrArg some (by kernel_rfl))
  f302 := Try.func198.trans (congrArg some (by kernel_rfl))
  f303 := Try.func199.trans (congrArg some (by kernel_rfl))
  f304 := Try.func200.trans (congrArg some (by kernel_rfl))
  f305 := Try.func201.trans (congrArg some (by kernel_rfl))
  f306 := Try.func202.trans (congrArg some (by kernel_rfl))
  f307 := Try.func203.trans (congrArg some (by kernel_rfl))
  f308 := Try.func204.trans (congrArg some (by kernel_rfl))
  f309 := Try.func205.trans (congrArg some (by kernel_rfl))
  f310 := Try.func206.trans (congrArg some (by kernel_rfl))
  f329 := Try.func218.trans (congrArg some (by kernel_rfl))
  f330 := Try.func219.trans (congrArg some (by kernel_rfl))
  f333 := Try.func217.trans (congrArg some (by kernel_rfl))
  f334 := Try.func220.trans (congrArg some (by kernel_rfl))
  f335 := Try.func221.trans (congrArg some (by kernel_rfl))
  f336 := Try.func130.trans (congrArg some (by kernel_rfl))
  f344 := Try.func224.trans (congrArg some (by kernel_rfl))
  t0 := Try.underlying0
  a0 := Try.isAgg0
  z0 := Try.sizeOf0
  v0 := Try.zeroValue0
  t3 := Try.underlying3
  a3 := Try.isAgg3
  z3 := Try.sizeOf3
  v3 := Try.zeroValue3
  t4 := Try.underlying4
  a4 := Try.isAgg4
  z4 := Try.sizeOf4
  v4 := Try.zeroValue4
  t5 := Try.underlying5
  a5 := Try.isAgg5
  z5 := Try.sizeOf5
  v5 := Try.zeroValue5
  t9 := Try.underlying9
  a9 := Try.isAgg9
  z9 := Try.sizeOf9
  v9 := Try.zeroValue9
  t31 := Try.underlying64
  a31 := Try.isAgg64
  z31 := Try.sizeOf64
  v31 := Try.zeroValue64
  t46 := Try.underlying181
  a46 := Try.isAgg181
  z46 := Try.sizeOf181
  v46 := Try.zeroValue181
  t51 := Try.underlying206
  a51 := Try.isAgg206
  z51 := Try.sizeOf206
  v51 := Try.zeroValue206
  t53 := Try.underlying208
  a53 := Try.isAgg208
  z53 := Try.sizeOf208
  v53 := Try.zeroValue208
  t131 := Try.underlying106
  a131 := Try.isAgg106
  z131 := Try.sizeOf106
  v131 := Try.zeroValue106
  t182 := Try.underlying199
  a182 := Try.isAgg199
  z182 := Try.sizeOf199
  v182 := Try.zeroValue199
  t183 := Try.underlying200
  a183 := Try.isAgg200
  z183 := Try.sizeOf200
  v183 := Try.zeroValue200
  t218 := Try.underlying211
  a218 := Try.isAgg211
  z218 := Try.sizeOf211
  v218 := Try.zeroValue211
  t222 := Try.underlying215
  a222 := Try.isAgg215
  z222 := Try.sizeOf215
  v222 := Try.zeroValue215
  t228 := Try.underlying218
  a228 := Try.isAgg218
  z228 := Try.sizeOf218
  v228 := Try.zeroValue218
  t229 := Try.underlying219
  a229 := Try.isAgg219
  z229 := Try.sizeOf219
  v229 := Try.zeroValue219 }
open Go.Sort Go.RowKit in
theorem slices_Sort_string (blk off cap : Nat) (ss : List (List UInt8)) (w : World) (hH : Holds encStr w blk off ss.toArray) (hblk : blk < w.heap.size) (hsz : ss.length < 4611686018427387904) :
    Calls Try.prog 155 #[.slice (some ⟨blk, off, none⟩) ss.length cap] w fun e w' =>
      e = .returned (.tuple #[]) ∧ ∃ n os, w' = grow (putRow encStr (Sort.ahead w n) blk off (ss.mergeSort fun x y => decide (x ≤ y)).toArray) os := Any.slices_Sort_string lays190 blk off cap ss w hH hblk hsz
def laysNm216_ren : Go.Shelf.Ren := ⟨fun | 16 => 154 | n => n, fun | 24 => 64 | 9 => 9 | 4 => 4 | n => n, fun | n => n⟩
theorem laysNm216 : Go.Proofs.Lays2.n16 Try.prog laysNm216_ren := {
  mixed := by kernel_rfl
  f16 := Try.func154.trans (congrArg some (by kernel_rfl))
  t4 := Try.underlying4
  a4 := Try.isAgg4
  z4 := Try.sizeOf4
  v4 := Try.zeroValue4
  t9 := Try.underlying9
  a9 := Try.isAgg9
  z9 := Try.sizeOf9
  v9 := Try.zeroValue9
  t24 := Try.underlying64
  a24 := Try.isAgg64
  z24 := Try.sizeOf64
  v24 := Try.zeroValue64
  i9 := by kernel_rfl }
open Go.RowKit Go.Lib in
theorem slices_Clone_string (b off n c : Nat) (zs : List ByteArray) (w : World) (hz : n ≤ zs.length) (hbig : n * 16 ≤ 140737488355328) (hc : ∀ j, j < zs.length → w.cell? ⟨b, off + j, none⟩ = some (.string (zs.getD j ByteArray.empty))) :
    Calls Try.prog 154 #[.slice (some ⟨b, off, none⟩) n c] w fun e w' => ∃ v', e = .returned v' ∧ w'.ownsRow w.heap.size 9 1 v' n ((zs.take n).map (Value.string)) ∧ v' ≠ .slice none 0 0 ∧ Below w.heap.size w w' := Any.slices_Clone_string laysNm216 b off n c zs w hz hbig hc
open Go.RowKit Go.Lib in
theorem slices_Clone_string_nil (n c : Nat) (w : World) :
    Calls Try.prog 154 #[.slice none n c] w fun e w' => e = .returned (.slice none 0 0) ∧ w' = w := Any.slices_Clone_string_nil laysNm216 n c w
open Go.RowKit Go.Lib in
theorem slices_Clone_string_zero (a : Addr) (c : Nat) (w : World) :
    Calls Try.prog 154 #[.slice (some a) 0 c] w fun e w' => ∃ v', e = .returned v' ∧ w'.ownsRow w.heap.size 9 1 v' 0 [] ∧ v' ≠ .slice none 0 0 ∧ Below w.heap.size w w' := Any.slices_Clone_string_zero laysNm216 a c w
def lays194_ren : Go.Shelf.Ren := ⟨fun | 194 => 156 | n => n, fun | 31 => 64 | 9 => 9 | 3 => 3 | 4 => 4 | 0 => 0 | n => n, fun | n => n⟩
theorem lays194 : Go.Proofs.Lays.n194 Try.prog lays194_ren := {
  mixed := by kernel_rfl
  f194 := Try.func156.trans (congrArg some (by kernel_rfl))
  t0 := Try.underlying0
  a0 := Try.isAgg0
  z0 := Try.sizeOf0
  v0 := Try.zeroValue0
  t3 := Try.underlying3
  a3 := Try.isAgg3
  z3 := Try.sizeOf3
  v3 := Try.zeroValue3
  t4 := Try.underlying4
  a4 := Try.isAgg4
  z4 := Try.sizeOf4
  v4 := Try.zeroValue4
  t9 := Try.underlying9
  a9 := Try.isAgg9
  z9 := Try.sizeOf9
  v9 := Try.zeroValue9
  t31 := Try.underlying64
  a31 := Try.isAgg64
  z31 := Try.sizeOf64
  v31 := Try.zeroValue64 }
open Go.RowKit Go.Lib Go.Sort in
theorem slices_Compact_string (blk off cap : Nat) (zs : List (List UInt8)) (w : World) (hH : Holds encStr w blk off zs.toArray) (hsz : zs.length ≤ 9223372036854775807) (hcap : zs.length ≤ cap) :
    Calls Try.prog 156 #[.slice (some ⟨blk, off, none⟩) zs.length cap] w fun e w' => e = .returned (.slice (some ⟨blk, off, none⟩) (Lib.compact zs).length cap) ∧ ∃ q, w' = putRow encStr (Sort.ahead w q) blk off (Lib.compact zs ++ List.replicate (zs.length - (Lib.compact zs).length) []).toArray := Any.slices_Compact_string lays194 blk off cap zs w hH hsz hcap
open Go.RowKit Go.Lib Go.Sort in
theorem slices_Compact_string_empty (a : Option Addr) (cap : Nat) (w : World) :
    Calls Try.prog 156 #[.slice a 0 cap] w fun e w' => e = .returned (.slice a 0 cap) ∧ w' = w := Any.slices_Compact_string_empty lays194 a cap w
open Go.RowKit Go.Sort in
theorem slices_Sort_string_none (p : Option Addr) (cap : Nat) (w : World) :
    Calls Try.prog 155 #[.slice p 0 cap] w fun e w' => e = .returned (.tuple #[]) ∧ w' = w := Any.slices_Sort_string_none lays190 p cap w
end Go.Proofs.Ytmglgjchemecjaa.XNames
/- More of the common ground. -/
namespace Go.Proofs.Ytmglgjchemecjaa.Kit
set_option maxRecDepth 200000
open Go.ChangeShapes Go.WideShapes Go.ChangeAt Go.RowKit
theorem own_base {w : World} {base base' : Nat} {e : TypeId} {size : Nat} {v : Value} {n : Nat} {xs : List Value} (h : w.ownsRow base e size v n xs) (hb : base' ≤ base) : w.ownsRow base' e size v n xs :=
  ⟨h.1, h.2.imp id fun ⟨g, cap, cur, a, b, r⟩ => ⟨g, cap, cur, a, Nat.le_trans hb b, r⟩⟩
theorem own_capm {w : World} {base : Nat} {e : TypeId} {size n c : Nat} {A : Option Addr} {xs : List Value} (h : w.ownsRow base e size (.slice A n c) n xs) : c ≤ maxLen := by
  rcases h.2 with ⟨hv, _⟩ | ⟨g, cap, cur, hv, _, _, _, hc, _⟩
  · injection hv with _ _ h3
    omega
  · injection hv with _ _ h3
    omega
end Go.Proofs.Ytmglgjchemecjaa.Kit
/- More of the common ground: a block known whole beside rows of the call's own. -/
namespace Go.Proofs.Ytmglgjchemecjaa.Kit
set_option maxRecDepth 200000
open Go.ChangeShapes Go.WideShapes Go.ChangeAt Go.RowKit
theorem own_keep {w w' : World} {base : Nat} {e : TypeId} {size n : Nat} {v : Value} {xs : List Value} (h : w.ownsRow base e size v n xs) (hk : ∀ k, v.ownBlock = some k → w'.heap[k]? = w.heap[k]?) : w'.ownsRow base e size v n xs := by
  refine ⟨h.1, ?_⟩
  rcases h.2 with hn | ⟨g, cap, cur, rfl, hbg, hg, rest⟩
  · exact .inl hn
  · exact .inr ⟨g, cap, cur, rfl, hbg, (hk g rfl).trans hg, rest⟩
/-- Two blocks of different types are two. -/
theorem own_box {w : World} {base X : Nat} {e t : TypeId} {size n : Nat} {v : Value} {xs : List Value} {cs : Array Value} (h : w.ownsRow base e size v n xs) (hb : Box w X t cs) (hne : e ≠ t) : ∀ k, v.ownBlock = some k → k ≠ X := by
  intro k hk hX
  subst hX
  rcases h.2 with ⟨rfl, _⟩ | ⟨g, cap, cur, rfl, _, hg, _⟩
  · cases hk
  · obtain rfl : g = k := by simpa [Value.ownBlock] using hk
    have := hb.symm.trans hg
    simp at this
    exact hne this.2.symm
theorem Box.grown {w w' : World} {X : Nat} {t : TypeId} {cs : Array Value} {row : Option Nat} (h : Box w X t cs) (hg : w.grownBy w' row) (hr : ∀ k, row = some k → k ≠ X) : Box w' X t cs :=
  (hg.block X h.lt (fun e => hr X e.symm rfl)).trans h
theorem grown_refl (w : World) (row : Option Nat) : w.grownBy w row := ⟨rfl, rfl, rfl, Nat.le_refl _, fun _ _ _ => rfl⟩
theorem grown_trans {a w w' : World} {row : Option Nat} (h : a.grownBy w row) (k : w.grownBy w' row) : a.grownBy w' row :=
  ⟨k.os.trans h.os, k.tape.trans h.tape, k.output.trans h.output, Nat.le_trans h.size k.size, fun i hi hr => (k.block i (Nat.lt_of_lt_of_le hi h.size) hr).trans (h.block i hi hr)⟩
theorem grown_below {a w w' : World} {row : Option Nat} (h : a.grownBy w row) (hb : Below w.heap.size w w') : a.grownBy w' row :=
  grown_trans h ⟨hb.os, hb.tape, hb.output, hb.size, fun i hi _ => hb.block i hi⟩
theorem grown_alloc {a w : World} {row : Option Nat} (h : a.grownBy w row) (o : Obj) : a.grownBy (w.alloc o) row := grown_below h ((Below.refl _ _).alloc (Nat.le_refl _) o)
theorem grown_set {a w : World} {R i : Nat} (h : a.grownBy w (some R)) (v : Value) : a.grownBy (w.setCell ⟨R, i, none⟩ v) (some R) :=
  ⟨h.os, h.tape, h.output, by simpa [World.setCell] using h.size, fun k hk hne => (Below.heap_setCell w ⟨R, i, none⟩ v k (fun e => hne (by rw [e]))).trans (h.block k hk hne)⟩
theorem grown_own {a w w' : World} {row : Option Nat} {v : Option Nat} (h : a.grownBy w row) (k : w.grownBy w' v) (hv : ∀ k, v = some k → a.heap.size ≤ k) : a.grownBy w' row :=
  ⟨k.os.trans h.os, k.tape.trans h.tape, k.output.trans h.output, Nat.le_trans h.size k.size, fun i hi hr => (k.block i (Nat.lt_of_lt_of_le hi h.size) (fun e => by have := hv i e.symm; omega)).trans (h.block i hi hr)⟩
theorem grown_drew {a w : World} {row : Option Nat} (h : a.grownBy w row) : a.grownBy w.drew row := ⟨h.os, h.tape, h.output, h.size, h.block⟩
/-- What is turned is one block of the call's own. -/
theorem below_of_grown {B : Nat} {a w w' : World} {R : Nat} (h : Below B a w) (hg : w.grownBy w' (some R)) (hB : B ≤ w.heap.size) (hR : B ≤ R) : Below B a w' :=
  h.grown hg hB (fun k hk => by injection hk with hk; omega)
end Go.Proofs.Ytmglgjchemecjaa.Kit
/- More of the common ground: a list that is read, appended to a row of the call's own. -/
namespace Go.Proofs.Ytmglgjchemecjaa.Kit
set_option maxRecDepth 200000
open Go.ChangeShapes Go.WideShapes Go.ChangeAt Go.RowKit
theorem own_nil {w : World} {base : Nat} {e : TypeId} {size n c : Nat} {A : Option Addr} {xs : List Value} (h : w.ownsRow base e size (.slice A n c) n xs) : A = none → c = 0 := by
  intro hA
  rcases h.2 with ⟨hv, _⟩ | ⟨g, cap, cur, hv, _⟩
  · injection hv
  · injection hv with hA'
    rw [hA] at hA'
    cases hA'
/-- The first elements of a row. -/
theorem own_prefix {w : World} {base n c k : Nat} {e : TypeId} {size : Nat} {A : Option Addr} {xs : List Value} (h : w.ownsRow base e size (.slice A n c) n xs) (hk : k ≤ n) : w.ownsRow base e size (.slice A k c) k (xs.take (k * size)) := by
  have hle : k * size ≤ n * size := Nat.mul_le_mul_right _ hk
  refine ⟨by rw [List.length_take, h.1]; omega, ?_⟩
  rcases h.2 with ⟨hv, h0⟩ | ⟨g, cap, cur, hv, hb, hg, hn, hc, hs, ht⟩
  · left
    injection hv with hA _ hc
    subst hA hc h0
    have : k = 0 := by omega
    subst this
    exact ⟨rfl, rfl⟩
  · right
    injection hv with hA _ hc'
    subst hA hc'
    refine ⟨g, c, cur, rfl, hb, hg, by omega, hc, hs, ?_⟩
    rw [← ht, List.take_take]
    congr 1
    omega
end Go.Proofs.Ytmglgjchemecjaa.Kit
/- More of the common ground: rows (empty without room, or the call's own), and one law of append for all of them. -/
namespace Go.Proofs.Ytmglgjchemecjaa.Kit
set_option maxRecDepth 200000
open Go.ChangeShapes Go.WideShapes Go.ChangeAt Go.RowKit
/-- The block of a row that may be written. -/
def blk (A : Option Addr) (c : Nat) : Option Nat := if c = 0 then none else A.map (·.block)
/-- A row: empty without room (its address whatever), or the call's own. -/
def Row (w : World) (base : Nat) (e : TypeId) (size : Nat) (A : Option Addr) (n c : Nat) (xs : List Value) : Prop :=
  (n = 0 ∧ c = 0 ∧ xs = []) ∨ w.ownsRow base e size (.slice A n c) n xs
section
variable {w w' : World} {base : Nat} {e : TypeId} {size n c : Nat} {A : Option Addr} {xs : List Value}
theorem Row.own (h : w.ownsRow base e size (.slice A n c) n xs) : Row w base e size A n c xs := .inr h
theorem Row.empty (w : World) (base : Nat) (e : TypeId) (size : Nat) (A : Option Addr) : Row w base e size A 0 0 [] := .inl ⟨rfl, rfl, rfl⟩
theorem Row.lt (h : Row w base e size A n c xs) : ∀ k, blk A c = some k → base ≤ k ∧ k < w.heap.size := by
  intro k hk
  rcases h with ⟨_, rfl, _⟩ | h
  · cases hk
  · rcases h.2 with ⟨hv, _⟩ | ⟨g, cap, cur, hv, r⟩
    · injection hv with _ _ hc
      subst hc
      cases hk
    · unfold blk at hk
      split at hk
      · cases hk
      · refine h.lt k ?_
        injection hv with hA
        subst hA
        simpa [Value.ownBlock] using hk
theorem Row.keep (h : Row w base e size A n c xs) (hk : ∀ k, blk A c = some k → w'.heap[k]? = w.heap[k]?) : Row w' base e size A n c xs := by
  rcases h with h | h
  · exact .inl h
  · by_cases hc : c = 0
    · subst hc
      refine .inl ⟨Nat.le_zero.1 (own_cap h), rfl, ?_⟩
      have h0 : n = 0 := Nat.le_zero.1 (own_cap h)
      subst h0
      exact List.eq_nil_of_length_eq_zero (by simpa using h.1)
    · refine .inr (own_keep h fun k hk' => hk k ?_)
      unfold blk
      rw [if_neg hc]
      cases A with
      | none => cases hk'
      | some a => simpa [Value.ownBlock] using hk'
theorem Row.call (h : Row w base e size A n c xs) (hb : Below w.heap.size w w') : Row w' base e size A n c xs := h.keep fun k hk => hb.block k (h.lt k hk).2
theorem Row.alloc (h : Row w base e size A n c xs) (o : Obj) : Row (w.alloc o) base e size A n c xs := h.call ((Below.refl _ _).alloc (Nat.le_refl _) o)
theorem Row.drew (h : Row w base e size A n c xs) : Row w.drew base e size A n c xs := h.keep fun _ _ => rfl
theorem Row.drewN (h : Row w base e size A n c xs) (m : Nat) : Row (w.drewN m) base e size A n c xs := h.keep fun _ _ => rfl
theorem Row.grown (h : Row w base e size A n c xs) {v : Option Nat} (g : w.grownBy w' v) (hv : ∀ k, blk A c = some k → v ≠ some k) : Row w' base e size A n c xs := h.keep fun k hk => g.block k (h.lt k hk).2 (fun e => hv k hk e.symm)
theorem Row.set (h : Row w base e size A n c xs) {a : Addr} (ha : ∀ k, blk A c = some k → k ≠ a.block) (u : Value) : Row (w.setCell a u) base e size A n c xs := h.keep fun k hk => Below.heap_setCell w a u k (ha k hk)
theorem Row.down (h : Row w base e size A n c xs) {b : Nat} (hb : b ≤ base) : Row w b e size A n c xs := h.imp id fun h => own_base h hb
theorem Row.rd (h : Row w base e size A n c xs) : Rd w w.heap.size A xs := by
  rcases h with ⟨_, _, rfl⟩ | h
  · exact Rd.nil _
  · exact Rd.of_own h
theorem Row.length (h : Row w base e size A n c xs) : xs.length = n * size := by
  rcases h with ⟨rfl, _, rfl⟩ | h
  · simp
  · exact h.1
theorem Row.cap (h : Row w base e size A n c xs) : n ≤ c ∧ c ≤ maxLen := by
  rcases h with ⟨rfl, rfl, _⟩ | h
  · exact ⟨Nat.le_refl _, Nat.zero_le _⟩
  · exact ⟨own_cap h, own_capm h⟩
theorem Row.nil (h : Row w base e size A n c xs) : A = none → c = 0 := by
  rcases h with ⟨_, rfl, _⟩ | h
  · intro _
    rfl
  · exact own_nil h
theorem Row.of_own (h : w.ownsRow base e size (.slice A n c) n xs) (hx : n = xs.length / size) : Row w base e size A n c xs := .inr h
/-- A row's block holds elements of its type: a box of another type is another block. -/
theorem Row.box (h : Row w base e size A n c xs) {X : Nat} {t : TypeId} {cs : Array Value} (hb : Box w X t cs) (hne : e ≠ t) : ∀ k, blk A c = some k → k ≠ X := by
  intro k hk
  rcases h with ⟨_, rfl, _⟩ | h
  · cases hk
  · refine own_box h hb hne k ?_
    unfold blk at hk
    split at hk
    · cases hk
    · cases A with
      | none => cases hk
      | some a => simpa [Value.ownBlock] using hk
end
theorem Row.prefix {w : World} {base : Nat} {e : TypeId} {size n c k : Nat} {A : Option Addr} {xs : List Value} (h : Row w base e size A n c xs) (hk : k ≤ n) : Row w base e size A k c (xs.take (k * size)) := by
  rcases h with ⟨rfl, rfl, rfl⟩ | h
  · have h0 : k = 0 := by omega
    subst h0
    exact .inl ⟨rfl, rfl, by simp⟩
  · exact .inr (own_prefix h hk)
/-- Two rows that share nothing that may be written. -/
def Apart (A : Option Addr) (c : Nat) (A' : Option Addr) (c' : Nat) : Prop := ∀ k, blk A c = some k → blk A' c' ≠ some k
theorem Apart.symm {A A' : Option Addr} {c c' : Nat} (h : Apart A c A' c') : Apart A' c' A c := fun k hk h' => h k h' hk
/-- 'append(row, s...)': what becomes of it. -/
theorem run_app {P : Program} (w : World) (t ty e : TypeId) (i : TypeInfo) (z : Value) (size bytes : Nat) (ht : P.underlying t = some (.slice e)) (hi : P.info? e = some i) (hz : i.zero = some z)
    (hsize : i.size = size) (hby : i.bytes = bytes) (hzs : z.cells.size = size) (hsz : 0 < size) {base : Nat} {A : Option Addr} {n c : Nat} {xs : List Value} (hrow : Row w base e size A n c xs) (hbase : base ≤ w.heap.size)
    {B : Nat} {A2 : Option Addr} {m c2 : Nat} {news : List Value} (hrd : Rd w B A2 news) (hl : news.length = m * size) (hnil : A2 = none → c2 = 0) (h1 : ∀ u ∈ news, u.oneCell' = true)
    (h63 : n + m ≤ maxLen) (hbytes : (n + m) * bytes ≤ 140737488355328) :
    ∃ A' c' w', (Builtin.append_ #[t, t] ty #[.slice A n c, .slice A2 m c2]).run P w = .ok (.slice A' (n + m) c') w' ∧ Row w' base e size A' (n + m) c' (xs ++ news) ∧ w.grownBy w' (blk A c) ∧ ∀ k, blk A' c' = some k → blk A c = some k ∨ w.heap.size ≤ k := by
  by_cases hm : m = 0
  · subst hm
    obtain rfl : news = [] := List.eq_nil_of_length_eq_zero (by simpa using hl)
    have hs : Src P i.size t (.slice A2 0 c2) 0 [] w := by
      cases A2 with
      | none =>
        have := hnil rfl
        subst this
        exact Src.ofNil w ht 0
      | some a => exact Src.ofSlice w ht a 0 c2 [] (by simp) (by simp) (by simp)
    refine ⟨A, c, w, run_append_nothing w t t ty e i ht hi A n c hrow.cap.1 _ hs, by simpa using hrow, World.grownBy.refl w _, fun k hk => .inl hk⟩
  · obtain ⟨ad, rfl, hc⟩ : ∃ ad, A2 = some ad ∧ ∀ j u, news[j]? = some u → w.cell? (ad.add j) = some u := by
      have h0 : 0 < m * size := Nat.mul_pos (by omega) hsz
      obtain ⟨b, off, e', _⟩ := hrd 0 (news[0]'(by omega)) (List.getElem?_eq_getElem (by omega))
      refine ⟨_, e', fun j u hj => ?_⟩
      obtain ⟨b', off', e'', _, hcc⟩ := hrd j u hj
      rw [e'] at e''
      simp only [Option.some.injEq, Addr.mk.injEq, and_true] at e''
      obtain ⟨rfl, rfl⟩ := e''
      rw [(addr_form (a := ⟨b, off, none⟩) rfl j).2]
      exact hcc
    by_cases hc0 : c = 0
    · subst hc0
      have hn0 : n = 0 := Nat.le_zero.1 hrow.cap.1
      subst hn0
      have hx0 : xs = [] := List.eq_nil_of_length_eq_zero (by simpa using hrow.length)
      subst hx0
      obtain ⟨v', w', hrun, r1, r2⟩ : ∃ v' w', (Builtin.append_ #[t, t] ty #[.slice A 0 0, .slice (some ad) m c2]).run P w = .ok v' w' ∧ w'.ownsRow w.heap.size e size v' (0 + m) ([] ++ news) ∧ w.grownBy w' none := by
        cases A with
        | none =>
          obtain ⟨v', w', hrun, r1, r2, _⟩ := run_append_own (P := P) w w.heap.size t ty e i z size bytes ht hi hz hsize hby hzs hsz (.slice none 0 0) 0 [] (World.ownsRow_nil w _ e size) ad m c2 news hl hc h1 h63 hbytes (Nat.le_refl _)
          exact ⟨v', w', hrun, r1, r2⟩
        | some a => exact run_append_arg_grows (P := P) w t ty e i z size bytes ht hi hz hsize hby hzs hsz a 0 0 [] (by simp) (by simp) ad m c2 news hl hc (by omega) h63 hbytes
      obtain ⟨g, cap, rfl, hg, _⟩ := r1.form (by omega)
      refine ⟨some ⟨g, 0, none⟩, cap, w', hrun, .inr (own_base r1 hbase), r2, fun k hk => .inr ?_⟩
      have := (Row.own r1).lt k hk
      exact this.1
    · have hown : w.ownsRow base e size (.slice A n c) n xs := hrow.elim (fun h => absurd h.2.1 hc0) id
      obtain ⟨g, cap, w', hrun, r1, r2, r3, r4⟩ := run_append_lies (P := P) w t ty base e i z size bytes ht hi hz hsize hby hzs hsz (.slice A n c) n xs hown ad m c2 news hl hc h1 (by omega) h63 hbytes hbase w.heap.size rfl
      have hb : blk A c = (Value.slice A n c).ownBlock := by
        unfold blk
        rw [if_neg hc0]
        cases A <;> rfl
      refine ⟨some ⟨g, 0, none⟩, cap, w', hrun, .inr r1, by rw [hb]; exact r2, fun k hk => ?_⟩
      have hk' : k = g := by
        unfold blk at hk
        split at hk
        · cases hk
        · simpa using hk.symm
      subst hk'
      rw [hb]
      rcases r3 with r3 | r3
      · exact .inl r3
      · exact .inr (by omega)
theorem wp_app {P : Program} {o : Oper} {a : Act} {K : Act → World → Prop} {Q : Exit → Act → World → Prop} {w : World} (s x : Operand) (t : TypeId)
    (ho : o.op = .call { callee := .builtin .append, args := #[s, x], argTypes := #[t, t] }) (e : TypeId) (i : TypeInfo) (z : Value) (size bytes : Nat) (ht : P.underlying t = some (.slice e)) (hi : P.info? e = some i) (hz : i.zero = some z)
    (hsize : i.size = size) (hby : i.bytes = bytes) (hzs : z.cells.size = size) (hsz : 0 < size) (base : Nat) (A : Option Addr) (n c : Nat) (xs : List Value) (hs : a.eval s = .slice A n c) (hrow : Row w base e size A n c xs) (hbase : base ≤ w.heap.size)
    {B : Nat} (A2 : Option Addr) (m c2 : Nat) (news : List Value) (hx : a.eval x = .slice A2 m c2) (hrd : Rd w B A2 news) (hl : news.length = m * size) (hnil : A2 = none → c2 = 0) (h1 : ∀ u ∈ news, u.oneCell' = true)
    (h63 : n + m ≤ maxLen) (hbytes : (n + m) * bytes ≤ 140737488355328)
    (h : ∀ A' n' c' w', n' = n + m → Row w' base e size A' n' c' (xs ++ news) → w.grownBy w' (blk A c) → (∀ k, blk A' c' = some k → blk A c = some k ∨ w.heap.size ≤ k) → K (a.put o.dst (.slice A' n' c')) w') :
    o.wp P a w K Q := by
  obtain ⟨A', c', w', hr, h2, h3, h4⟩ := run_app (P := P) w t o.type e i z size bytes ht hi hz hsize hby hzs hsz hrow hbase hrd hl hnil h1 h63 hbytes
  unfold Oper.wp execOp
  simp only [ho, resolve, invoke, builtin, Sem.run_bind, Sem.run_pure, Result.andThen_ok, List.map_toArray, List.map_cons, List.map_nil, hs, hx, hr]
  exact h A' (n + m) c' w' rfl h2 h3 h4
/-- At a plain region's list. -/
theorem wpList_app {P : Program} (w : World) {ops : Array Oper} {rest : List Oper} {o : Oper} {a : Act} {Q : Exit → Act → World → Prop} (hgd : o.guard = none) (s x : Operand) (t : TypeId)
    (ho : o.op = .call { callee := .builtin .append, args := #[s, x], argTypes := #[t, t] }) (e : TypeId) (i : TypeInfo) (z : Value) (size bytes : Nat) (ht : P.underlying t = some (.slice e)) (hi : P.info? e = some i) (hz : i.zero = some z)
    (hsize : i.size = size) (hby : i.bytes = bytes) (hzs : z.cells.size = size) (hsz : 0 < size) (base : Nat) (A : Option Addr) (n c : Nat) (xs : List Value) (hs : a.eval s = .slice A n c) (hrow : Row w base e size A n c xs) (hbase : base ≤ w.heap.size)
    {B : Nat} (A2 : Option Addr) (m c2 : Nat) (news : List Value) (hx : a.eval x = .slice A2 m c2) (hrd : Rd w B A2 news) (hl : news.length = m * size) (hnil : A2 = none → c2 = 0) (h1 : ∀ u ∈ news, u.oneCell' = true)
    (h63 : n + m ≤ maxLen) (hbytes : (n + m) * bytes ≤ 140737488355328)
    (h : ∀ A' n' c' w', n' = n + m → Row w' base e size A' n' c' (xs ++ news) → w.grownBy w' (blk A c) → (∀ k, blk A' c' = some k → blk A c = some k ∨ w.heap.size ≤ k) → wpList P ops Q rest (a.put o.dst (.slice A' n' c')) w') :
    wpList P ops Q (o :: rest) a w :=
  wpList_plain hgd fun _ hK => wp_app s x t ho e i z size bytes ht hi hz hsize hby hzs hsz base A n c xs hs hrow hbase A2 m c2 news hx hrd hl hnil h1 h63 hbytes fun A' n' c' w' h1 h2 h3 h4 => hK _ _ (h A' n' c' w' h1 h2 h3 h4)
/-- At a step of a region that draws its order. -/
theorem step_app {P : Program} {ops : Array Oper} {o : Oper} {a : Act} {K : Act → World → Prop} {Q : Exit → Act → World → Prop} {E : Prop} {w : World} (hgd : o.guard = none) (s x : Operand) (t : TypeId)
    (ho : o.op = .call { callee := .builtin .append, args := #[s, x], argTypes := #[t, t] }) (e : TypeId) (i : TypeInfo) (z : Value) (size bytes : Nat) (ht : P.underlying t = some (.slice e)) (hi : P.info? e = some i) (hz : i.zero = some z)
    (hsize : i.size = size) (hby : i.bytes = bytes) (hzs : z.cells.size = size) (hsz : 0 < size) (base : Nat) (A : Option Addr) (n c : Nat) (xs : List Value) (hs : a.eval s = .slice A n c) (hrow : Row w base e size A n c xs) (hbase : base ≤ w.heap.size)
    {B : Nat} (A2 : Option Addr) (m c2 : Nat) (news : List Value) (hx : a.eval x = .slice A2 m c2) (hrd : Rd w B A2 news) (hl : news.length = m * size) (hnil : A2 = none → c2 = 0) (h1 : ∀ u ∈ news, u.oneCell' = true)
    (h63 : n + m ≤ maxLen) (hbytes : (n + m) * bytes ≤ 140737488355328)
    (h : ∀ A' n' c' w', n' = n + m → Row w' base e size A' n' c' (xs ++ news) → w.grownBy w' (blk A c) → (∀ k, blk A' c' = some k → blk A c = some k ∨ w.heap.size ≤ k) → K (a.put o.dst (.slice A' n' c')) w') :
    if Region.wanted o (yielded ops a.tmps) = true then Oper.wp P o a w K Q else E := by
  have hw : Region.wanted o (yielded ops a.tmps) = true := by simp [Region.wanted, hgd]
  rw [if_pos hw]
  exact wp_app s x t ho e i z size bytes ht hi hz hsize hby hzs hsz base A n c xs hs hrow hbase A2 m c2 news hx hrd hl hnil h1 h63 hbytes h
/-- A literal that has just been laid. -/
theorem rd_lit (w : World) (cs : Array Value) (e : TypeId) (k : Nat) (hk : k = w.heap.size) : Rd (w.alloc (.cells cs e)) (w.heap.size + 1) (some ⟨k, 0, none⟩) cs.toList := by
  subst hk
  intro i u hu
  exact ⟨_, 0, rfl, Nat.lt_succ_self _, by rw [Nat.zero_add]; exact (Box.new w e cs).cell i ▸ (by simpa using hu)⟩
theorem oneI1 {k : IntKind} {x : Int} : ∀ u ∈ [Value.int k x], u.oneCell' = true := fun u hu => by simp only [List.mem_singleton] at hu; subst hu; rfl
theorem below_grown {B : Nat} {a w w' : World} {v : Option Nat} (h : Below B a w) (g : w.grownBy w' v) (hB : B ≤ w.heap.size) (hv : ∀ k, v = some k → B ≤ k) : Below B a w' := h.grown g hB hv
/-- A fact laid by tactics (a failing one fails where it stands). -/
theorem lay {p q : Prop} (hp : p) (h : p → q) : q := h hp
theorem below_tr {a w w' : World} (h : Below a.heap.size a w) (g : w.grownBy w' none) : Below a.heap.size a w' := h.grown g h.size (fun k hk => by cases hk)
theorem below_al {a w : World} {o : Obj} (h : Below a.heap.size a w) : Below a.heap.size a (w.alloc o) := h.alloc h.size o
theorem below_dr {a w : World} (h : Below a.heap.size a w) : Below a.heap.size a w.drew := h.drew
theorem below_dn {a w : World} {n : Nat} (h : Below a.heap.size a w) : Below a.heap.size a (w.drewN n) := Kit.Below.drewN h n
end Go.Proofs.Ytmglgjchemecjaa.Kit
/- Contracts of the laws' helpers on Fixup: the copy, the comparison of equal data, the marks. Written by a program. -/
namespace Go.Proofs.Ytmglgjchemecjaa.CFixups
set_option maxRecDepth 200000
open Go.ChangeShapes Go.WideShapes Go.ChangeAt Go.RowKit Kit
theorem info : (Try.prog.info? 77).map (fun i => (i.zero, i.size, i.bytes)) = some (some (.agg #[.int .i64 0, .int .i64 0, .int .i64 0, .int .i64 0]), 4, 32) := by kernel_rfl
abbrev D := Int × Int × Int × Int
def fixupC (r : D) : List Value := [.int .i64 r.1, .int .i64 r.2.1, .int .i64 r.2.2.1, .int .i64 r.2.2.2]
theorem fixupC_len (r : D) : (fixupC r).length = 4 := rfl
end Go.Proofs.Ytmglgjchemecjaa.CFixups
/- Contracts of the laws' helpers on Symbol: the copy, the comparison of equal data, the marks. Written by a program. -/
namespace Go.Proofs.Ytmglgjchemecjaa.CSymbols
set_option maxRecDepth 200000
open Go.ChangeShapes Go.WideShapes Go.ChangeAt Go.RowKit Kit
theorem info : (Try.prog.info? 69).map (fun i => (i.zero, i.size, i.bytes)) = some (some (.agg #[.string ByteArray.empty, .int .i64 0, .int .i64 0, .int .i64 0]), 4, 40) := by kernel_rfl
abbrev D := ByteArray × Int × Int × Int
def symbolC (r : D) : List Value := [.string r.1, .int .i64 r.2.1, .int .i64 r.2.2.1, .int .i64 r.2.2.2]
theorem symbolC_len (r : D) : (symbolC r).length = 4 := rfl
end Go.Proofs.Ytmglgjchemecjaa.CSymbols
/- Objects as values: their sections and symbols, where these lie, and the plain data. -/
namespace Go.Proofs.Ytmglgjchemecjaa.PObj
set_option maxRecDepth 200000
open Go.ChangeShapes Go.WideShapes Go.ChangeAt Go.RowKit Kit CFixups CSymbols
abbrev FD := CFixups.D
abbrev YD := CSymbols.D
/-- A section as a value: name, kind, align, where its bytes lie, size, where its fixups lie. -/
structure SV where
  nm : ByteArray
  kd : Int
  al : Int
  A : Option Addr
  c : Nat
  zs : List Int
  sz : Int
  F : Option Addr
  fc : Nat
  fs : List FD
/-- .. and its data. -/
structure SD where
  nm : ByteArray
  kd : Int
  al : Int
  zs : List Int
  sz : Int
  fs : List FD
def SV.d (p : SV) : SD := ⟨p.nm, p.kd, p.al, p.zs, p.sz, p.fs⟩
def secC (p : SV) : List Value := [.string p.nm, .int .i64 p.kd, .int .i64 p.al, .slice p.A p.zs.length p.c, .int .i64 p.sz, .slice p.F p.fs.length p.fc]
theorem secC_len (p : SV) : (secC p).length = 6 := rfl
/-- An object as a value. -/
structure OV where
  A : Option Addr
  c : Nat
  ps : List SV
  Y : Option Addr
  yc : Nat
  ys : List YD
structure OD where
  ss : List SD
  ys : List YD
def OV.d (o : OV) : OD := ⟨o.ps.map SV.d, o.ys⟩
def OV.v (o : OV) : Value := .agg #[.slice o.A o.ps.length o.c, .slice o.Y o.ys.length o.yc]
/-- What all counts as for the laws' sizes. -/
def wt (d : SD) : Int := d.nm.size + d.zs.length + d.fs.length
def tot : List SD → Int
  | [] => 0
  | d :: ds => wt d + tot ds
def toty : List YD → Int
  | [] => 0
  | d :: ds => d.1.size + toty ds
end Go.Proofs.Ytmglgjchemecjaa.PObj
/- What turns, block by block. -/
namespace Go.Proofs.Ytmglgjchemecjaa.Kit
set_option maxRecDepth 200000
open Go.ChangeShapes Go.WideShapes Go.ChangeAt Go.RowKit
/-- From w to w' nothing that was there has turned but the blocks of p. -/
structure Gp (p : Nat → Prop) (w w' : World) : Prop where
  os : w'.os = w.os
  tape : w'.tape = w.tape
  output : w'.output = w.output
  size : w.heap.size ≤ w'.heap.size
  block : ∀ k, k < w.heap.size → ¬ p k → w'.heap[k]? = w.heap[k]?
section
variable {p q : Nat → Prop} {w w' w'' : World}
theorem Gp.refl (p : Nat → Prop) (w : World) : Gp p w w := ⟨rfl, rfl, rfl, Nat.le_refl _, fun _ _ _ => rfl⟩
theorem Gp.trans (h : Gp p w w') (k : Gp p w' w'') : Gp p w w'' :=
  ⟨k.os.trans h.os, k.tape.trans h.tape, k.output.trans h.output, Nat.le_trans h.size k.size, fun i hi hp => (k.block i (Nat.lt_of_lt_of_le hi h.size) hp).trans (h.block i hi hp)⟩
theorem Gp.mono (h : Gp p w w') (hp : ∀ k, p k → q k) : Gp q w w' := ⟨h.os, h.tape, h.output, h.size, fun k hk hq => h.block k hk (fun h => hq (hp k h))⟩
theorem Gp.below {B : Nat} {a : World} (h : Below B a w) (g : Gp p w w') (hB : B ≤ w.heap.size) (hp : ∀ k, p k → B ≤ k) : Below B a w' :=
  h.trans ⟨g.os, g.tape, g.output, g.size, fun k hk => g.block k (Nat.lt_of_lt_of_le hk hB) (fun h => by have := hp k h; omega)⟩
theorem Gp.box {g : Nat} {t : TypeId} {cs : Array Value} (h : Gp p w w') (hb : Box w g t cs) (hp : ¬ p g) : Box w' g t cs := (h.block g hb.lt hp).trans hb
theorem Gp.row {base : Nat} {e : TypeId} {size n c : Nat} {A : Option Addr} {xs : List Value} (g : Gp p w w') (h : Row w base e size A n c xs) (hp : ∀ k, blk A c = some k → ¬ p k) : Row w' base e size A n c xs :=
  h.keep fun k hk => g.block k (h.lt k hk).2 (hp k hk)
end
end Go.Proofs.Ytmglgjchemecjaa.Kit
/- Contracts of the laws' helpers on []byte: the copy, the comparison, the marks. -/
namespace Go.Proofs.Ytmglgjchemecjaa.CBytes
set_option maxRecDepth 200000
open Go.ChangeShapes Go.WideShapes Go.ChangeAt Go.RowKit Kit
theorem info8 : (Try.prog.info? 5).map (fun i => (i.zero, i.size, i.bytes)) = some (some (.int .u8 0), 1, 1) := by kernel_rfl
end Go.Proofs.Ytmglgjchemecjaa.CBytes
/- Objects in memory: what is read, what is the call's own. -/
namespace Go.Proofs.Ytmglgjchemecjaa.BObj
set_option maxRecDepth 200000
open Go.ChangeShapes Go.WideShapes Go.ChangeAt Go.RowKit Kit CFixups CSymbols PObj
theorem info : (Try.prog.info? 73).map (fun i => (i.zero, i.size, i.bytes)) = some (some (.agg #[.string ByteArray.empty, .int .i64 0, .int .i64 0, .slice none 0 0, .int .i64 0, .slice none 0 0]), 6, 88) := by kernel_rfl
/-- A section's rows. -/
def RwS (w : World) (base : Nat) (p : SV) : Prop := Row w base 5 1 p.A p.zs.length p.c (ints .u8 p.zs) ∧ Row w base 77 4 p.F p.fs.length p.fc (cellsOf fixupC p.fs)
def RdS (w : World) (B : Nat) (p : SV) : Prop := Rd w B p.A (ints .u8 p.zs) ∧ Rd w B p.F (cellsOf fixupC p.fs)
def ApS (p q : SV) : Prop := Apart p.A p.c q.A q.c ∧ Apart p.F p.fc q.F q.fc
def RwSs (w : World) (base : Nat) (ps : List SV) : Prop := ∀ p ∈ ps, RwS w base p
def RdSs (w : World) (B : Nat) (A : Option Addr) (ps : List SV) : Prop := Rd w B A (cellsOf secC ps) ∧ ∀ p ∈ ps, RdS w B p
def PwSs (ps : List SV) : Prop := ps.Pairwise ApS
def OwnSs (w : World) (base : Nat) (A : Option Addr) (c : Nat) (ps : List SV) : Prop := Row w base 73 6 A ps.length c (cellsOf secC ps) ∧ RwSs w base ps ∧ PwSs ps
def RdO (w : World) (B : Nat) (o : OV) : Prop := RdSs w B o.A o.ps ∧ Rd w B o.Y (cellsOf symbolC o.ys)
def OwnO (w : World) (base : Nat) (o : OV) : Prop := OwnSs w base o.A o.c o.ps ∧ Row w base 69 4 o.Y o.ys.length o.yc (cellsOf symbolC o.ys)
/-- The blocks of a section, of sections, of an object. -/
def sblk (p : SV) (k : Nat) : Prop := blk p.A p.c = some k ∨ blk p.F p.fc = some k
def ssblk (A : Option Addr) (c : Nat) (ps : List SV) (k : Nat) : Prop := blk A c = some k ∨ ∃ p ∈ ps, sblk p k
def oblk (o : OV) (k : Nat) : Prop := ssblk o.A o.c o.ps k ∨ blk o.Y o.yc = some k
section
variable {w w' : World} {B B' base : Nat} {A : Option Addr} {c : Nat} {ps : List SV} {p : SV} {o : OV}
theorem RdS.below (h : RdS w B p) (hb : Below B w w') : RdS w' B p := ⟨h.1.below hb, h.2.below hb⟩
theorem RdS.more (h : RdS w B p) (hB : B ≤ B') : RdS w B' p := ⟨h.1.more hB, h.2.more hB⟩
theorem RdSs.below (h : RdSs w B A ps) (hb : Below B w w') : RdSs w' B A ps := ⟨h.1.below hb, fun p hp => (h.2 p hp).below hb⟩
theorem RdSs.more (h : RdSs w B A ps) (hB : B ≤ B') : RdSs w B' A ps := ⟨h.1.more hB, fun p hp => (h.2 p hp).more hB⟩
theorem RdO.below (h : RdO w B o) (hb : Below B w w') : RdO w' B o := ⟨h.1.below hb, h.2.below hb⟩
theorem RdO.more (h : RdO w B o) (hB : B ≤ B') : RdO w B' o := ⟨h.1.more hB, h.2.more hB⟩
theorem RdO.call (h : RdO w w.heap.size o) (hb : Below w.heap.size w w') : RdO w' w'.heap.size o := (h.below hb).more hb.size
theorem RwS.rd (h : RwS w base p) : RdS w w.heap.size p := ⟨h.1.rd, h.2.rd⟩
theorem OwnSs.rd (h : OwnSs w base A c ps) : RdSs w w.heap.size A ps := ⟨h.1.rd, fun p hp => (h.2.1 p hp).rd⟩
theorem OwnO.rd (h : OwnO w base o) : RdO w w.heap.size o := ⟨h.1.rd, h.2.rd⟩
theorem RwS.lt (h : RwS w base p) : ∀ k, sblk p k → base ≤ k ∧ k < w.heap.size := by
  rintro k (hk | hk)
  · exact h.1.lt k hk
  · exact h.2.lt k hk
theorem OwnSs.lt (h : OwnSs w base A c ps) : ∀ k, ssblk A c ps k → base ≤ k ∧ k < w.heap.size := by
  rintro k (hk | ⟨p, hp, hk⟩)
  · exact h.1.lt k hk
  · exact (h.2.1 p hp).lt k hk
theorem OwnO.lt (h : OwnO w base o) : ∀ k, oblk o k → base ≤ k ∧ k < w.heap.size := by
  rintro k (hk | hk)
  · exact h.1.lt k hk
  · exact h.2.lt k hk
theorem RwS.keep (h : RwS w base p) (hk : ∀ k, sblk p k → w'.heap[k]? = w.heap[k]?) : RwS w' base p := ⟨h.1.keep fun k hb => hk k (.inl hb), h.2.keep fun k hb => hk k (.inr hb)⟩
theorem RwS.call (h : RwS w base p) (hb : Below w.heap.size w w') : RwS w' base p := h.keep fun k hk => hb.block k (h.lt k hk).2
theorem RwS.down {b : Nat} (h : RwS w base p) (hb : b ≤ base) : RwS w b p := ⟨h.1.down hb, h.2.down hb⟩
theorem RwS.set (h : RwS w base p) {a : Addr} (ha : ∀ k, sblk p k → k ≠ a.block) (u : Value) : RwS (w.setCell a u) base p := h.keep fun k hk => Below.heap_setCell w a u k (ha k hk)
theorem RwS.gp {q : Nat → Prop} (g : Gp q w w') (h : RwS w base p) (hp : ∀ k, sblk p k → ¬ q k) : RwS w' base p := h.keep fun k hk => g.block k (h.lt k hk).2 (hp k hk)
theorem RwSs.call (h : RwSs w base ps) (hb : Below w.heap.size w w') : RwSs w' base ps := fun p hp => (h p hp).call hb
theorem RwSs.down {b : Nat} (h : RwSs w base ps) (hb : b ≤ base) : RwSs w b ps := fun p hp => (h p hp).down hb
theorem OwnSs.keep (h : OwnSs w base A c ps) (hk : ∀ k, ssblk A c ps k → w'.heap[k]? = w.heap[k]?) : OwnSs w' base A c ps :=
  ⟨h.1.keep fun k hb => hk k (.inl hb), fun p hp => (h.2.1 p hp).keep fun k hb => hk k (.inr ⟨p, hp, hb⟩), h.2.2⟩
theorem OwnSs.call (h : OwnSs w base A c ps) (hb : Below w.heap.size w w') : OwnSs w' base A c ps := h.keep fun k hk => hb.block k (h.lt k hk).2
theorem OwnSs.down {b : Nat} (h : OwnSs w base A c ps) (hb : b ≤ base) : OwnSs w b A c ps := ⟨h.1.down hb, h.2.1.down hb, h.2.2⟩
theorem OwnO.keep (h : OwnO w base o) (hk : ∀ k, oblk o k → w'.heap[k]? = w.heap[k]?) : OwnO w' base o := ⟨h.1.keep fun k hb => hk k (.inl hb), h.2.keep fun k hb => hk k (.inr hb)⟩
theorem OwnO.call (h : OwnO w base o) (hb : Below w.heap.size w w') : OwnO w' base o := h.keep fun k hk => hb.block k (h.lt k hk).2
theorem OwnO.down {b : Nat} (h : OwnO w base o) (hb : b ≤ base) : OwnO w b o := ⟨h.1.down hb, h.2.down hb⟩
theorem OwnO.gp {q : Nat → Prop} (g : Gp q w w') (h : OwnO w base o) (hp : ∀ k, oblk o k → ¬ q k) : OwnO w' base o := h.keep fun k hk => g.block k (h.lt k hk).2 (hp k hk)
theorem RwSs.snoc {q : SV} (h : RwSs w base ps) (hq : RwS w base q) : RwSs w base (ps ++ [q]) := by
  intro p hp
  rcases List.mem_append.1 hp with hp | hp
  · exact h p hp
  · obtain rfl := List.mem_singleton.1 hp
    exact hq
theorem PwSs.snoc {q : SV} {N : Nat} (h : PwSs ps) (h1 : ∀ p ∈ ps, ∀ k, sblk p k → k < N) (h2 : ∀ k, sblk q k → N ≤ k) : PwSs (ps ++ [q]) := by
  refine List.pairwise_append.2 ⟨h, List.pairwise_singleton _ _, fun a ha b hb => ?_⟩
  obtain rfl := List.mem_singleton.1 hb
  refine ⟨fun k hk hk' => ?_, fun k hk hk' => ?_⟩
  · have e1 := h1 a ha k (.inl hk)
    have e2 := h2 k (.inl hk')
    omega
  · have e1 := h1 a ha k (.inr hk)
    have e2 := h2 k (.inr hk')
    omega
/-- A section's rows lie apart from a block of another type. -/
theorem RwS.box (h : RwS w base p) {X : Nat} {t : TypeId} {cs : Array Value} (hb : Box w X t cs) (h1 : 5 ≠ t) (h2 : 77 ≠ t) : ∀ k, sblk p k → k ≠ X := by
  rintro k (hk | hk)
  · exact h.1.box hb h1 k hk
  · exact h.2.box hb h2 k hk
end
theorem box_of_own {w : World} {base g n c size : Nat} {e : TypeId} {xs : List Value} (h : w.ownsRow base e size (.slice (some ⟨g, 0, none⟩) n c) n xs) : ∃ cs, Box w g e cs := by
  rcases h.2 with ⟨hv, _⟩ | ⟨g', cap, cur, hv, _, hg, _⟩
  · cases hv
  · injection hv with hA
    simp only [Option.some.injEq, Addr.mk.injEq, and_true] at hA
    subst hA
    exact ⟨cur, hg⟩
theorem cells_snoc (qs : List SV) (q : SV) : cellsOf secC (qs ++ [q]) = cellsOf secC qs ++ secC q := by simp [cellsOf]
/-- Six cells put one by one. -/
def put6 (w : World) (Y : Nat) (i : Nat) (v0 v1 v2 v3 v4 v5 : Value) : World := (((((w.setCell ⟨Y, i, none⟩ v0).setCell ⟨Y, i + 1, none⟩ v1).setCell ⟨Y, i + 2, none⟩ v2).setCell ⟨Y, i + 3, none⟩ v3).setCell ⟨Y, i + 4, none⟩ v4).setCell ⟨Y, i + 5, none⟩ v5
section
variable {w a : World} {B Y i : Nat} {v0 v1 v2 v3 v4 v5 : Value}
theorem put6_below (h : Below B a w) (hY : B ≤ Y) : Below B a (put6 w Y i v0 v1 v2 v3 v4 v5) :=
  (((((h.setCell (p := ⟨Y, i, none⟩) hY v0).setCell (p := ⟨Y, i + 1, none⟩) hY v1).setCell (p := ⟨Y, i + 2, none⟩) hY v2).setCell (p := ⟨Y, i + 3, none⟩) hY v3).setCell (p := ⟨Y, i + 4, none⟩) hY v4).setCell (p := ⟨Y, i + 5, none⟩) hY v5
theorem put6_rwS {base : Nat} {p : SV} (h : RwS w base p) (hk : ∀ k, sblk p k → k ≠ Y) : RwS (put6 w Y i v0 v1 v2 v3 v4 v5) base p :=
  (((((h.set (a := ⟨Y, i, none⟩) hk v0).set (a := ⟨Y, i + 1, none⟩) hk v1).set (a := ⟨Y, i + 2, none⟩) hk v2).set (a := ⟨Y, i + 3, none⟩) hk v3).set (a := ⟨Y, i + 4, none⟩) hk v4).set (a := ⟨Y, i + 5, none⟩) hk v5
end
/-- The same, written out. -/
theorem six_box {w : World} {Y : Nat} {t : TypeId} {u0 u1 u2 u3 u4 u5 : Value} (h : Box w Y t #[u0, u1, u2, u3, u4, u5]) (v0 v1 v2 v3 v4 v5 : Value) :
    Box ((((((w.setCell ⟨Y, 0, none⟩ v0).setCell ⟨Y, 1, none⟩ v1).setCell ⟨Y, 2, none⟩ v2).setCell ⟨Y, 3, none⟩ v3).setCell ⟨Y, 4, none⟩ v4).setCell ⟨Y, 5, none⟩ v5) Y t #[v0, v1, v2, v3, v4, v5] :=
  (((((h.set 0 v0).set 1 v1).set 2 v2).set 3 v3).set 4 v4).set 5 v5
/-- What a call hands back. -/
def RetS (p : SD) (w : World) (e : Ending) (w' : World) : Prop := ∃ q : SV, e = .returned (.agg (secC q).toArray) ∧ q.d = p ∧ RwS w' w.heap.size q ∧ Below w.heap.size w w'
def RetSs (ds : List SD) (w : World) (e : Ending) (w' : World) : Prop := ∃ A c qs, e = .returned (.slice A qs.length c) ∧ qs.map SV.d = ds ∧ OwnSs w' w.heap.size A c qs ∧ Below w.heap.size w w'
def RetO (d : OD) (w : World) (e : Ending) (w' : World) : Prop := ∃ o : OV, e = .returned o.v ∧ o.d = d ∧ OwnO w' w.heap.size o ∧ Below w.heap.size w w'
end Go.Proofs.Ytmglgjchemecjaa.BObj
/- The contract of the library's bytes.Equal, at every two slices of bytes. -/
namespace Go.Proofs.Ytmglgjchemecjaa.CEqual
set_option maxRecDepth 200000
open Go.ChangeShapes Go.WideShapes Go.ChangeAt Go.RowKit Kit
theorem conv_run {w : World} {B : Nat} {A : Option Addr} {xs : List Int} (h : Rd w B A (ints .u8 xs)) (c : Nat) : (convert 22 9 (.slice A xs.length c)).run Try.prog w = .ok (.string (strOfNums xs)) w := by
  cases xs with
  | nil =>
    cases A with
    | none => exact run_convert_bytes_nil w 22 5 Try.underlying22 Try.underlying5 0 c 9 Try.underlying9
    | some a =>
      have hl : (loadCells a 0).run Try.prog w = .ok (([] : List Int).map (Value.int .u8)).toArray w := by
        have := run_loadCells_list (P := Try.prog) w a [] (fun j v hj => by simp at hj)
        simpa using this
      have hl0 : ([] : List Int).length = 0 := rfl
      rw [hl0, run_convert_bytes_string w 22 9 5 _ 0 c Try.underlying22 Try.underlying5 Try.underlying9, run_bytesToString w _ 0 c [] hl]
      rfl
  | cons x r =>
    obtain ⟨b, off, rfl, _⟩ := h.int (i := 0) (by simp)
    refine run_convert_bytes_arg w 22 5 Try.underlying22 Try.underlying5 b off _ c (x :: r) rfl (fun i hi => ?_) 9 Try.underlying9
    obtain ⟨b', off', e, _, hc⟩ := h.int hi
    simp only [Option.some.injEq, Addr.mk.injEq, and_true] at e
    obtain ⟨rfl, rfl⟩ := e
    rw [hc, List.getD_eq_getElem?_getD, List.getElem?_eq_getElem hi]
    rfl
theorem bytes_inj : ∀ {xs ys : List Int}, InR 0 255 xs → InR 0 255 ys → Lib.bytesOf xs = Lib.bytesOf ys → xs = ys
  | [], [], _, _, _ => rfl
  | [], y :: s, _, _, h => by simp [Lib.bytesOf] at h
  | x :: r, [], _, _, h => by simp [Lib.bytesOf] at h
  | x :: r, y :: s, hx, hy, h => by
    simp only [Lib.bytesOf, List.map_cons, List.cons.injEq] at h
    have h1 := hx x (by simp)
    have h2 := hy y (by simp)
    have h3 := congrArg UInt8.toNat h.1
    simp only [UInt8.toNat_ofNat'] at h3
    have e : x = y := by omega
    have e2 := bytes_inj (fun z hz => hx z (by simp [hz])) (fun z hz => hy z (by simp [hz])) h.2
    rw [e, e2]
theorem str_eq {xs ys : List Int} (hx : InR 0 255 xs) (hy : InR 0 255 ys) : ((strOfNums xs).toList == (strOfNums ys).toList) = decide (xs = ys) := by
  rw [Lib.strOfNums_toList, Lib.strOfNums_toList]
  by_cases h : xs = ys
  · subst h; simp
  · simp only [h, decide_false]
    exact beq_eq_false_iff_ne.2 fun e => h (bytes_inj hx hy e)
end Go.Proofs.Ytmglgjchemecjaa.CEqual
/- The reference's decimal numbers: they are the library's. -/
namespace Go.Proofs.Ytmglgjchemecjaa.CNumTxt
set_option maxRecDepth 200000
open Go.ChangeShapes Go.WideShapes Go.ChangeAt Go.RowKit Kit CEqual
end Go.Proofs.Ytmglgjchemecjaa.CNumTxt
/- The texts that the laws' marks write. -/
namespace Go.Proofs.Ytmglgjchemecjaa.CMarkText
set_option maxRecDepth 200000
open Go.ChangeShapes Go.WideShapes Go.ChangeAt Go.RowKit Kit CNumTxt
end Go.Proofs.Ytmglgjchemecjaa.CMarkText
/- A region that draws its order: loads and what only computes are taken first under a condition on the world, which need not hold behind the operations that wait for all of them (a store into a cell that was loaded). -/
namespace Go.Proofs.Ytmglgjchemecjaa.Reg
set_option maxRecDepth 200000
open Go
section
variable {P : Program} {ops : Array Oper} {Q : Exit → Act → World → Prop} {md : Region.Mode} {S : World → Prop} {T : Nat → Bool}
/-- Whatever order is picked from here on, and S holds behind every operation that is carried out, but for those of T. -/
def wpAnyT (P : Program) (md : Region.Mode) (ops : Array Oper) (Q : Exit → Act → World → Prop) (S : World → Prop) (T : Nat → Bool) : Nat → Array Bool → Act → World → Prop
  | 0, listed, a, w => Region.ready md ops listed = [] ∧ Q .normal a w
  | fuel + 1, listed, a, w =>
    (Region.ready md ops listed = [] → Q .normal a w) ∧
    ∀ i ∈ Region.ready md ops listed, wpOp P ops Q i (fun a' w' => (T i = false → S w') ∧ wpAnyT P md ops Q S T fuel (listed.setIfInBounds i true) a' w') a w
theorem wpAny_of_T : ∀ (fuel : Nat) (listed : Array Bool) (a : Act) (w : World), wpAnyT P md ops Q S T fuel listed a w → wpAny P md ops Q fuel listed a w
  | 0, _, _, _, h => h
  | fuel + 1, _, _, _, h => ⟨h.1, fun i hi => wpOp_mono (fun a' w' h' => wpAny_of_T fuel _ a' w' h'.2) (h.2 i hi)⟩
/-- An operation that waits for number i directly. -/
def waits (md : Region.Mode) (o : Oper) (i : Nat) : Bool := o.after.any fun e => Region.binds md e && e.on == i
theorem wpAnyT_first {i : Nat} {oi : Oper} {v : Value} (hi : ops[i]? = some oi) (hsel : ∀ (j : Nat) (o : Oper) cs b, ops[j]? = some o → o.op ≠ .select cs b)
    (hQ : ∀ c a w, Q (.panic c) (a.put oi.dst v) w → Q (.panic c) a w) (hT : ∀ (j : Nat) (o : Oper), ops[j]? = some o → T j = true → j ≠ i → waits md o i = true) :
    ∀ (fuel : Nat) (listed : Array Bool) (a : Act) (w : World),
      (∀ j oj, ops[j]? = some oj → j ≠ i → listed.getD j true = false → (∀ e ∈ oj.after, Region.binds md e = true → e.on ≠ i) → oi.apart ops oj = true) →
      i ∈ Region.ready md ops listed → YieldsIf P ops S oi v a → S w →
      wpAnyT P md ops Q S T fuel (listed.setIfInBounds i true) (a.put oi.dst v) w → wpAnyT P md ops Q S T (fuel + 1) listed a w := by
  intro fuel
  induction fuel with
  | zero =>
    intro listed a w _ hr hy hS H
    refine ⟨fun h => (by rw [h] at hr; cases hr), fun j hj => ?_⟩
    by_cases hji : j = i
    · subst hji
      exact hy.wpOp hi hS ⟨fun _ => hS, H⟩
    · have := ready_mono hj hji
      rw [H.1] at this
      cases this
  | succ fuel ih =>
    intro listed a w hfree hr hy hS H
    refine ⟨fun h => (by rw [h] at hr; cases hr), fun j hj => ?_⟩
    by_cases hji : j = i
    · subst hji
      exact hy.wpOp hi hS ⟨fun _ => hS, H⟩
    · have h1 := H.2 j (ready_mono hj hji)
      obtain ⟨hjun, oj, hoj, hall⟩ := mem_ready.1 hj
      have hnot : ∀ e ∈ oj.after, Region.binds md e = true → e.on ≠ i := fun e he hb heq => by
        have h1 := hall e he hb
        have h0 := (mem_ready.1 hr).1
        rw [heq] at h1
        rcases Nat.lt_or_ge i listed.size with h' | h'
        · simp [h'] at h0 h1
          rw [h0] at h1
          cases h1
        · simp [Array.getElem?_eq_none h'] at h1
      have hTj : T j = false := by
        cases hT' : T j
        · rfl
        · have := hT j oj hoj hT' hji
          unfold waits at this
          rw [Array.any_eq_true] at this
          obtain ⟨k, hk, he⟩ := this
          simp only [Bool.and_eq_true, beq_iff_eq] at he
          exact absurd he.2 (hnot _ (Array.getElem_mem hk) he.1)
      have h2 := wpOp_putIf hoj (hfree j oj hoj hji hjun hnot) (fun cs b => hsel i oi cs b hi) (fun cs b => hsel j oj cs b hoj) hQ hy h1
      have hfree' : ∀ k ok, ops[k]? = some ok → k ≠ i → (listed.setIfInBounds j true).getD k true = false →
          (∀ e ∈ ok.after, Region.binds md e = true → e.on ≠ i) → oi.apart ops ok = true := fun k ok hk hki hun hno => by
        refine hfree k ok hk hki ?_ hno
        by_cases hjk : j = k
        · subst hjk
          exact hjun
        · rw [getD_set_ne true hjk] at hun
          exact hun
      refine wpOp_mono (fun a' w' h3 => ⟨h3.2.1, ih (listed.setIfInBounds j true) a' w' hfree' (ready_mono hr (Ne.symm hji)) h3.1 (h3.2.1 hTj) ?_⟩) h2
      rw [Array.setIfInBounds_comm _ _ hji]
      exact h3.2.2
/-- All that T names wait for number i. -/
def allWait (md : Region.Mode) (ops : Array Oper) (T : Nat → Bool) (i : Nat) : Bool := (List.range ops.size).all fun j => !T j || j == i || match ops[j]? with | some o => waits md o i | none => true
theorem allWait_spec {i : Nat} (h : allWait md ops T i = true) : ∀ (j : Nat) (o : Oper), ops[j]? = some o → T j = true → j ≠ i → waits md o i = true := by
  intro j o ho ht hne
  have hj : j < ops.size := (Array.getElem?_eq_some_iff.1 ho).1
  have := List.all_eq_true.1 h j (List.mem_range.2 hj)
  rw [ho] at this
  simpa [ht, hne] using this
/-- Take number i first. -/
theorem takeT {i : Nat} {oi : Oper} {v : Value} {fuel : Nat} {listed : Array Bool} {a : Act} {w : World} (hi : ops[i]? = some oi)
    (hs : Region.noSelect ops = true) (hf : Region.free md ops listed i = true) (hr : (Region.ready md ops listed).contains i = true) (hT : allWait md ops T i = true)
    (hQ : ∀ c a w, Q (.panic c) (a.put oi.dst v) w → Q (.panic c) a w) (hy : YieldsIf P ops S oi v a) (hS : S w)
    (h : wpAnyT P md ops Q S T fuel (listed.setIfInBounds i true) (a.put oi.dst v) w) : wpAnyT P md ops Q S T (fuel + 1) listed a w :=
  wpAnyT_first hi (Region.noSelect_spec hs) hQ (allWait_spec hT) fuel listed a w (Region.free_spec hi hf) (by simpa using hr) hy hS h
/-- One alone may come up, and it is none of T: S is shown anew behind it. -/
theorem oneT {i : Nat} {o : Oper} {fuel : Nat} {listed : Array Bool} {a : Act} {w : World} (ho : ops[i]? = some o) (hr : Region.ready md ops listed = [i])
    (h : ∀ K : Act → World → Prop, Shut (∀ a w, S w → wpAnyT P md ops Q S T fuel (listed.setIfInBounds i true) a w → K a w) → if Region.wanted o (yielded ops a.tmps) = true then Oper.wp P o a w K Q else K (a.put o.dst undef) w) :
    wpAnyT P md ops Q S T (fuel + 1) listed a w :=
  ⟨fun h0 => (by rw [hr] at h0; cases h0), fun j hj => by
    rw [hr] at hj
    simp only [List.mem_singleton] at hj
    subst hj
    exact wpOp_step ho (fun K' hK => h K' (fun a w hS hW => hK a w ⟨fun _ => hS, hW⟩))⟩
/-- One of T comes up alone. -/
theorem lastT {i : Nat} {o : Oper} {fuel : Nat} {listed : Array Bool} {a : Act} {w : World} (ho : ops[i]? = some o) (hr : Region.ready md ops listed = [i]) (hT : T i = true)
    (h : ∀ K : Act → World → Prop, Shut (∀ a w, wpAnyT P md ops Q S T fuel (listed.setIfInBounds i true) a w → K a w) → if Region.wanted o (yielded ops a.tmps) = true then Oper.wp P o a w K Q else K (a.put o.dst undef) w) :
    wpAnyT P md ops Q S T (fuel + 1) listed a w :=
  ⟨fun h0 => (by rw [hr] at h0; cases h0), fun j hj => by
    rw [hr] at hj
    simp only [List.mem_singleton] at hj
    subst hj
    exact wpOp_step ho (fun K' hK => h K' (fun a w hW => hK a w ⟨fun hF => (by rw [hT] at hF; cases hF), hW⟩))⟩
theorem doneT {listed : Array Bool} {a : Act} {w : World} (hr : Region.ready md ops listed = []) (h : Q .normal a w) : ∀ fuel, wpAnyT P md ops Q S T fuel listed a w
  | 0 => ⟨hr, h⟩
  | _ + 1 => ⟨fun _ => h, by rw [hr]; simp⟩
/-- The beginning. -/
theorem startT {id : Nat} {a : Act} {w : World} (S : World → Prop) (T : Nat → Bool) (hm : P.follows .mixedOrders = true)
    (h : wpAnyT P .any ops Q S T ops.size (Array.replicate ops.size false) a w.drew) : (Code.region id ops true).wp P Q a w :=
  wp_region_any hm (wpAny_of_T _ _ _ _ h)
end
end Go.Proofs.Ytmglgjchemecjaa.Reg
/- The marks of symbols; marks of rows. -/
namespace Go.Proofs.Ytmglgjchemecjaa.CSymMarks
set_option maxRecDepth 200000
open Go.ChangeShapes Go.WideShapes Go.ChangeAt Go.RowKit Kit CFixups CSymbols PObj BObj CMarkText
end Go.Proofs.Ytmglgjchemecjaa.CSymMarks
/- Marks of rows, whether they have room or not. -/
namespace Go.Proofs.Ytmglgjchemecjaa.CMarkRows
set_option maxRecDepth 200000
open Go.ChangeShapes Go.WideShapes Go.ChangeAt Go.RowKit Kit CFixups CSymbols PObj BObj CMarkText CSymMarks
/-- Two rows of different types lie apart. -/
theorem apartT {w : World} {base base' : Nat} {e e' : TypeId} {size size' n n' c c' : Nat} {A A' : Option Addr} {xs xs' : List Value} (h : Row w base e size A n c xs) (h' : Row w base' e' size' A' n' c' xs') (hne : e ≠ e') : ∀ k, blk A c = some k → blk A' c' ≠ some k := by
  intro k hk hk'
  have hc : c' ≠ 0 := by
    intro h0
    rw [h0] at hk'
    cases hk'
  have hown : w.ownsRow base' e' size' (.slice A' n' c') n' xs' := h'.elim (fun h => absurd h.2.1 hc) id
  rcases hown.2 with ⟨hv, h0⟩ | ⟨g, cap, cur, hv, _, hg, _⟩
  · injection hv with hA
    subst hA
    unfold blk at hk'
    split at hk' <;> cases hk'
  · injection hv with hA
    subst hA
    have hkg : g = k := by
      unfold blk at hk'
      rw [if_neg hc] at hk'
      simpa using hk'
    subst hkg
    exact h.box (show Box w g e' cur from hg) hne g hk rfl
theorem RwS.apart {w : World} {b b' : Nat} {p q : SV} (hp : RwS w b p) (hq : RwS w b' q) (h : ApS p q) : ∀ k, sblk p k → ¬ sblk q k := by
  rintro k (hk | hk) (hk' | hk')
  · exact h.1 k hk hk'
  · exact apartT hp.1 hq.2 (by decide) k hk hk'
  · exact apartT hp.2 hq.1 (by decide) k hk hk'
  · exact h.2 k hk hk'
theorem ApS.symm {p q : SV} (h : ApS p q) : ApS q p := ⟨h.1.symm, h.2.symm⟩
def wd (p : SV) : Int := 4 + p.zs.length + 4 * p.fs.length
end Go.Proofs.Ytmglgjchemecjaa.CMarkRows
/- Contracts of the laws' helpers on one Section: the copy, the comparison of equal data, the size. -/
namespace Go.Proofs.Ytmglgjchemecjaa.CSection
set_option maxRecDepth 200000
open Go.ChangeShapes Go.WideShapes Go.ChangeAt Go.RowKit Kit CFixups CSymbols PObj BObj
end Go.Proofs.Ytmglgjchemecjaa.CSection
/- Contracts of the laws' helpers on []Section: the copy, the comparison of equal data, the size. -/
namespace Go.Proofs.Ytmglgjchemecjaa.CSections
set_option maxRecDepth 200000
open Go.ChangeShapes Go.WideShapes Go.ChangeAt Go.RowKit Kit CFixups CSymbols PObj BObj CSection
end Go.Proofs.Ytmglgjchemecjaa.CSections
/- The marks of sections. -/
namespace Go.Proofs.Ytmglgjchemecjaa.CSecMarks
set_option maxRecDepth 200000
open Go.ChangeShapes Go.WideShapes Go.ChangeAt Go.RowKit Kit CFixups CSymbols PObj BObj CMarkText CSymMarks CMarkRows
end Go.Proofs.Ytmglgjchemecjaa.CSecMarks
/- The marks of sections read again. -/
namespace Go.Proofs.Ytmglgjchemecjaa.CSecHeld
set_option maxRecDepth 200000
open Go.ChangeShapes Go.WideShapes Go.ChangeAt Go.RowKit Kit CFixups CSymbols PObj BObj CMarkText CSymMarks CMarkRows CSecMarks
end Go.Proofs.Ytmglgjchemecjaa.CSecHeld
/- Contracts of the laws' helpers on Object: the copy, the comparison of equal data, the size, the marks. -/
namespace Go.Proofs.Ytmglgjchemecjaa.CObject
set_option maxRecDepth 200000
open Go.ChangeShapes Go.WideShapes Go.ChangeAt Go.RowKit Kit CFixups CSymbols PObj BObj CSection CSections CMarkText CSymMarks CMarkRows CSecMarks CSecHeld
theorem ret_object {w w1 : World} {Y : Nat} {o : OV} (ho : OwnO w1 w.heap.size o) (B : Below w.heap.size w w1) (hY : ∀ k, oblk o k → k ≠ Y) (hYw : w.heap.size ≤ Y) :
    RetO o.d w (.returned o.v) ((w1.setCell ⟨Y, 0, none⟩ (.slice o.A o.ps.length o.c)).setCell ⟨Y, 1, none⟩ (.slice o.Y o.ys.length o.yc)) := by
  refine ⟨o, rfl, rfl, ?_, (B.setCell (p := ⟨Y, 0, none⟩) hYw _).setCell (p := ⟨Y, 1, none⟩) hYw _⟩
  exact ho.keep fun k hk => (Below.heap_setCell _ ⟨Y, 1, none⟩ _ k (hY k hk)).trans (Below.heap_setCell _ ⟨Y, 0, none⟩ _ k (hY k hk))
end Go.Proofs.Ytmglgjchemecjaa.CObject
/- Contracts of the laws' helpers on Object: the size, the marks. -/
namespace Go.Proofs.Ytmglgjchemecjaa.CObject2
set_option maxRecDepth 200000
open Go.ChangeShapes Go.WideShapes Go.ChangeAt Go.RowKit Kit CFixups CSymbols PObj BObj CSection CSections CMarkText CSymMarks CMarkRows CSecMarks CSecHeld CObject
/-- What all sizes sum up to. -/
def sum (o : OV) : Int := o.ps.length + tot (o.ps.map SV.d) + o.ys.length + toty o.ys
end Go.Proofs.Ytmglgjchemecjaa.CObject2
/- Contracts of hasArg, CodeValid (the program's and the reference's) and of the mirror of Code. -/
namespace Go.Proofs.Ytmglgjchemecjaa.CCode
set_option maxRecDepth 200000
open Go.ChangeShapes Go.WideShapes Go.ChangeAt Go.RowKit Kit
def inB (n lo hi : Int) : Bool := decide (lo ≤ n ∧ n ≤ hi)
theorem inB_t {n lo hi : Int} (h : lo ≤ n ∧ n ≤ hi) : inB n lo hi = true := decide_eq_true h
theorem inB_f {n lo hi : Int} (h : ¬ (lo ≤ n ∧ n ≤ hi)) : inB n lo hi = false := decide_eq_false h
theorem within_any (n lo hi : Int) (w : World) : Calls Try.prog 115 #[.int .i64 n, .int .i64 lo, .int .i64 hi] w (Pure (.bool (inB n lo hi)) w) := by
  by_cases h1 : lo ≤ n
  · by_cases h2 : n ≤ hi
    all_goals
      go_enter Try.func115, Try.ntmps115
      go_wp2
      go_ret
      exact ⟨ret_bool (by simp [inB, h1, h2]), rfl⟩
  · go_enter Try.func115, Try.ntmps115
    go_wp2
    go_ret
    exact ⟨ret_bool (inB_f (by omega)).symm, rfl⟩
theorem l1In_any (n lo hi : Int) (w : World) : Calls Try.prog 110 #[.int .i64 n, .int .i64 lo, .int .i64 hi] w (Pure (.bool (inB n lo hi)) w) := by
  by_cases h1 : lo ≤ n
  · by_cases h2 : n ≤ hi
    all_goals
      go_enter Try.func110, Try.ntmps110
      go_wp2
      go_ret
      exact ⟨ret_bool (by simp [inB, h1, h2]), rfl⟩
  · go_enter Try.func110, Try.ntmps110
    go_wp2
    go_ret
    exact ⟨ret_bool (inB_f (by omega)).symm, rfl⟩
end Go.Proofs.Ytmglgjchemecjaa.CCode
/- Names that are valid: the program's and the reference's test. -/
namespace Go.Proofs.Ytmglgjchemecjaa.CName
set_option maxRecDepth 200000
open Go.ChangeShapes Go.WideShapes Go.ChangeAt Go.RowKit Kit CCode
/-- The byte c may stand at place k of a name. -/
def chOk (k : Nat) (x : Int) : Bool := decide (97 ≤ x ∧ x ≤ 122) || decide (x = 95) || decide (x = 46) || (decide (0 < k) && decide (48 ≤ x ∧ x ≤ 57))
def allOk (s : ByteArray) : Bool := (List.range s.size).all fun k => chOk k (s.data.toList.getD k 0).toNat
def nameOk (s : ByteArray) : Bool := allOk s && inB s.size 1 8
theorem all_false {s : ByteArray} {k : Nat} (h : k < s.size) (hc : chOk k (s.data.toList.getD k 0).toNat = false) : nameOk s = false := by
  rw [nameOk, allOk, List.all_eq_false.2 ⟨k, List.mem_range.2 h, by rw [hc]; decide⟩]
  rfl
theorem all_true {s : ByteArray} (h : ∀ k, k < s.size → chOk k (s.data.toList.getD k 0).toNat = true) : nameOk s = inB s.size 1 8 := by
  rw [nameOk, allOk, List.all_eq_true.2 (fun k hk => h k (List.mem_range.1 hk)), Bool.true_and]
theorem get_at (s : ByteArray) (k : Nat) (h : k < s.size) : s.data.toList.getD k 0 = s[k]'h := by
  obtain ⟨x⟩ := s
  show x.toList.getD k 0 = x[k]
  rw [List.getD_eq_getElem?_getD, Array.getElem?_toList, Array.getElem?_eq_getElem h]
  rfl
set_option maxHeartbeats 4000000 in
theorem nameValid_any (s : ByteArray) (hs : s.size ≤ maxLen) (w : World) : Calls Try.prog 138 #[.string s] w (Pure (.bool (nameOk s)) w) := by
  unfold maxLen at hs
  go_enter Try.func138, Try.ntmps138
  go_wp2_with fail
  go_loop [6] (fun i => ∃ k : Nat, k ≤ s.size ∧ i = .int .i64 k ∧ ∀ j, j < k → chOk j (s.data.toList.getD j 0).toNat = true) (fun i => s.size - (intOf i).toNat)
  case atStart => exact ⟨0, Nat.zero_le _, rfl, fun j hj => absurd hj (Nat.not_lt_zero j)⟩
  case round =>
    obtain ⟨k, hk, rfl, hok⟩ := hrel
    have HO := hide hok
    clear hok
    by_cases hlt : k < s.size
    · have hg := get_at s k hlt
      have HN := hide (fun (h : chOk k (s[k]'hlt).toNat = true) => (show ∀ j, j < k + 1 → chOk j (s.data.toList.getD j 0).toNat = true from fun j hj => by
        rcases Nat.lt_or_ge j k with h' | h'
        · exact HO.out j h'
        · obtain rfl : j = k := by omega
          rw [hg]; exact h))
      have HF := hide (fun (h : chOk k (s[k]'hlt).toNat = false) => all_false hlt (by rw [hg]; exact h))
      have hx0 : (0 : Int) ≤ (s[k]'hlt).toNat := by omega
      clear HO hg
      go_wp2_with fail
      all_goals (try simp only [Bool.not_eq_false', Bool.not_eq_true', decide_eq_true_eq, decide_eq_false_iff_not, beq_iff_eq, beq_eq_false_iff_ne, ne_eq, Bool.not_not] at *)
      all_goals first
        | (refine ⟨⟨k + 1, by omega, by go_num, HN.out ?_⟩, by simp [intOf]; omega⟩
           simp only [chOk, Bool.or_eq_true, Bool.and_eq_true, decide_eq_true_eq]
           omega)
        | (have hF := HF.out (by rw [← Bool.not_eq_true]; simp only [chOk, Bool.or_eq_true, Bool.and_eq_true, decide_eq_true_eq]; omega)
           rw [hF]
           go_ret
           exact ⟨rfl, rfl⟩)
        | (exfalso; omega)
    · have HV := hide (all_true (s := s) (fun j hj => HO.out j (by omega)))
      clear HO
      go_wp2_with fail
      refine (within_any _ _ _ _).mono ?_
      rintro e w' ⟨rfl, rfl⟩
      rw [← HV.out]
      go_wp2_with fail
      go_ret
      exact ⟨rfl, rfl⟩
set_option maxHeartbeats 4000000 in
theorem nameValidS_any (s : ByteArray) (hs : s.size ≤ maxLen) (w : World) : Calls Try.prog 131 #[.string s] w (Pure (.bool (nameOk s)) w) := by
  unfold maxLen at hs
  go_enter Try.func131, Try.ntmps131
  go_wp2_with fail
  go_loop [3] (fun i => ∃ k : Nat, k ≤ s.size ∧ i = .int .i64 k ∧ ∀ j, j < k → chOk j (s.data.toList.getD j 0).toNat = true) (fun i => s.size - (intOf i).toNat)
  case atStart => exact ⟨0, Nat.zero_le _, rfl, fun j hj => absurd hj (Nat.not_lt_zero j)⟩
  case round =>
    obtain ⟨k, hk, rfl, hok⟩ := hrel
    have HO := hide hok
    clear hok
    by_cases hlt : k < s.size
    · have hg := get_at s k hlt
      have HN := hide (fun (h : chOk k (s[k]'hlt).toNat = true) => (show ∀ j, j < k + 1 → chOk j (s.data.toList.getD j 0).toNat = true from fun j hj => by
        rcases Nat.lt_or_ge j k with h' | h'
        · exact HO.out j h'
        · obtain rfl : j = k := by omega
          rw [hg]; exact h))
      have HF := hide (fun (h : chOk k (s[k]'hlt).toNat = false) => all_false hlt (by rw [hg]; exact h))
      have hx0 : (0 : Int) ≤ (s[k]'hlt).toNat := by omega
      clear HO hg
      go_wp2_with fail
      all_goals (try simp only [Bool.not_eq_false', Bool.not_eq_true', decide_eq_true_eq, decide_eq_false_iff_not, beq_iff_eq, beq_eq_false_iff_ne, ne_eq, Bool.not_not] at *)
      all_goals first
        | (refine ⟨⟨k + 1, by omega, by go_num, HN.out ?_⟩, by simp [intOf]; omega⟩
           simp only [chOk, Bool.or_eq_true, Bool.and_eq_true, decide_eq_true_eq]
           omega)
        | (have hF := HF.out (by rw [← Bool.not_eq_true]; simp only [chOk, Bool.or_eq_true, Bool.and_eq_true, decide_eq_true_eq]; omega)
           rw [hF]
           go_ret
           exact ⟨rfl, rfl⟩)
        | (exfalso; omega)
        | (exfalso
           have h48 : ((s[k]'hlt).toNat : Int) < 48 := by omega
           rename_i hq hw hb _ _ 
           simp_all)
    · have HV := hide (all_true (s := s) (fun j hj => HO.out j (by omega)))
      clear HO
      go_wp2_with fail
      refine (l1In_any _ _ _ _).mono ?_
      rintro e w' ⟨rfl, rfl⟩
      rw [← HV.out]
      go_wp2_with fail
      go_ret
      exact ⟨rfl, rfl⟩
end Go.Proofs.Ytmglgjchemecjaa.CName
/- When sections, symbols and objects are valid; plain. -/
namespace Go.Proofs.Ytmglgjchemecjaa.PValid
set_option maxRecDepth 200000
open Go.ChangeShapes Go.WideShapes Go.ChangeAt Go.RowKit Kit CCode CName PObj
def wide (k : Int) : Int := if k = 1 then 1 else if k = 2 then 2 else if k = 3 then 4 else 0
theorem wide_bd (k : Int) : 0 ≤ wide k ∧ wide k ≤ 4 := by
  unfold wide
  split
  · omega
  · split
    · omega
    · split <;> omega
def alignOk (n : Int) : Bool := decide (n = 1) || decide (n = 2) || decide (n = 4) || decide (n = 8)
def fixOk (many : Int) (n : Nat) (e : Int) (f : FD) : Bool := !decide (wide f.2.1 = 0) && !decide (f.2.2.1 < 0) && !decide (many ≤ f.2.2.1) && inB f.2.2.2 (-1000) 1000 && inB f.1 e (n - wide f.2.1)
def fixesOk (many : Int) (n : Nat) : Int → List FD → Bool
  | _, [] => true
  | e, f :: fs => fixOk many n e f && fixesOk many n (f.1 + wide f.2.1) fs
def headOk (d : SD) : Bool := nameOk d.nm && inB d.kd 1 3 && alignOk d.al
def blankOk (d : SD) : Bool := inB d.sz 0 48 && decide (d.zs.length = 0) && decide (d.fs.length = 0)
def bodyOk (many : Int) (d : SD) : Bool := decide (d.sz = 0) && decide (d.zs.length ≤ 48) && decide (d.fs.length ≤ 6) && fixesOk many d.zs.length 0 d.fs
def secOk (many : Int) (d : SD) : Bool := headOk d && (if d.kd = 3 then blankOk d else bodyOk many d)
def secSize (d : SD) : Int := if d.kd = 3 then d.sz else d.zs.length
theorem fixes_drop {many : Int} {n : Nat} {e : Int} {fs : List FD} {k : Nat} (h : k < fs.length) : fixesOk many n e (fs.drop k) = (fixOk many n e fs[k] && fixesOk many n (fs[k].1 + wide fs[k].2.1) (fs.drop (k + 1))) := by
  rw [List.drop_eq_getElem_cons h]
  rfl
theorem fixOk_iff {many : Int} {n : Nat} {e : Int} {f : FD} : fixOk many n e f = true ↔ wide f.2.1 ≠ 0 ∧ 0 ≤ f.2.2.1 ∧ f.2.2.1 < many ∧ (-1000 ≤ f.2.2.2 ∧ f.2.2.2 ≤ 1000) ∧ (e ≤ f.1 ∧ f.1 ≤ n - wide f.2.1) := by
  simp only [fixOk, inB, Bool.and_eq_true, Bool.not_eq_true', decide_eq_false_iff_not, decide_eq_true_eq]
  omega
def bindOk (y : YD) : Bool := nameOk y.1 && inB y.2.1 0 2
def placeOk (ss : List SD) (y : YD) : Bool :=
  if y.2.2.1 = -1 then decide (y.2.2.2 = 0) && !decide (y.2.1 = 0)
  else if y.2.2.1 = -2 then inB y.2.2.2 0 60000
  else inB y.2.2.1 0 (ss.length - 1) && inB y.2.2.2 0 (secSize (ss.getD y.2.2.1.toNat ⟨ByteArray.empty, 0, 0, [], 0, []⟩))
def symOk (ss : List SD) (y : YD) : Bool := bindOk y && placeOk ss y
/-- A symbol whose name is given again. -/
def clash (ys : List YD) (y : YD) : Bool := !decide (y.2.1 = 0) && ys.any fun x => !decide (x.2.1 = 0) && decide (x.1 = y.1)
def symsOk (ss : List SD) (ys : List YD) : Bool := (List.range ys.length).all fun k => symOk ss (ys.getD k (ByteArray.empty, 0, 0, 0)) && !clash (ys.take k) (ys.getD k (ByteArray.empty, 0, 0, 0))
def objOk (o : OD) : Bool := decide (o.ss.length ≤ 8) && decide (o.ys.length ≤ 12) && (o.ss.all fun d => secOk o.ys.length d) && symsOk o.ss o.ys
end Go.Proofs.Ytmglgjchemecjaa.PValid
