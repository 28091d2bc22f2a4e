/- Small general lemmas, over any program: how a law (a function that answers one bool) is closed out of its walk; hiding of facts. -/
import Derived.WalkKit
import Derived.ProofKit
import Derived.OpenShut
import Derived.Lib.SmallJoins
import Derived.Deep.Slices
import Derived.Deep.Fields
import Derived.Laws.AppendOwnNone
import Derived.Test.YtmglgjchemecjaaGreatRows
import Derived.Shelf.Sort.Plain
import Derived.Shelf.Strings.Prefix
import Derived.Shelf.Slices.Turned
import Derived.Shelf.Slices.Clone
import Derived.Shelf.Slices.CompactS
import Derived.Shelf.Slices.Cells
import Derived.Shelf.Slices.In.SortNone
import Derived.Test.YtmglgjchemecjaaGreatProg
import Derived.Laws.OwnMore
import Derived.Deep.RegionLawGrows
import Derived.Deep.Upon
import Derived.Deep.AppendLies
set_option linter.unusedSimpArgs false
set_option linter.unusedVariables false
namespace Go.Proofs.YtmglgjchemecjaaGreat.Kit
set_option maxRecDepth 200000
open Go.ChangeShapes Go.WideShapes Go.ChangeAt Go.RowKit Go.Deep

theorem hide {p : Prop} (h : p) : Hid p := h
theorem unhide {p : Prop} (h : Hid p) : p := h

/-- What a law's walk says: it returns true, and nothing that was there has turned. -/
def LawEnds (w : World) (e : Ending) (w' : World) : Prop := e = .returned (.bool true) ∧ Below w.heap.size w w'

theorem wf_bounds {x : Int} (h : (Lit.int .i64 x).wf = true) : -9223372036854775808 ≤ x ∧ x ≤ 9223372036854775807 := by
  simpa [Lit.wf, IntKind.min, IntKind.max, IntKind.signed, IntKind.bits] using h

/-- A call that hands back v and turns nothing that was there. -/
def Ret (v : Value) (w : World) (e : Ending) (w' : World) : Prop := e = .returned v ∧ Below w.heap.size w w'
/-- A call that hands back v and leaves the world as it is. -/
def Pure (v : Value) (w : World) (e : Ending) (w' : World) : Prop := e = .returned v ∧ w = w'
/-- What was there before a call reads behind it as it did: laid for the walk. -/
theorem bcell {w w' : World} (hb : Below w.heap.size w w') : (∀ b o, b < w.heap.size → w'.cell? ⟨b, o, none⟩ = w.cell? ⟨b, o, none⟩) ∧ (∀ b o, b < w.heap.size → w'.frozen? ⟨b, o, none⟩ = w.frozen? ⟨b, o, none⟩) :=
  ⟨fun b o h => hb.cell (p := ⟨b, o, none⟩) h, fun b o h => hb.frozen (p := ⟨b, o, none⟩) h⟩
theorem ret_bool {a b : Bool} (h : a = b) : Ending.returned (.bool a) = .returned (.bool b) := by rw [h]
theorem ret_int {k : IntKind} {a b : Int} (h : a = b) : Ending.returned (.int k a) = .returned (.int k b) := by rw [h]
theorem Below.drewN {B : Nat} {a w : World} (h : Below B a w) (n : Nat) : Below B a (w.drewN n) := ⟨h.os, h.tape, h.output, h.size, h.block⟩

theorem of_drew {w w' : World} (h : Below w.drew.heap.size w.drew w') : Below w.heap.size w w' := ⟨h.os, h.tape, h.output, h.size, h.block⟩
theorem of_drewN {w w' : World} {n : Nat} (h : Below (w.drewN n).heap.size (w.drewN n) w') : Below w.heap.size w w' := ⟨h.os, h.tape, h.output, h.size, h.block⟩
theorem below_drawn {B : Nat} {w w' : World} {os tape out} {d : Nat} (h : Below B { heap := w.heap, tape := tape, drawn := d, os := os, output := out } w') (ho : os = w.os := by rfl) (ht : tape = w.tape := by rfl) (hu : out = w.output := by rfl) : Below B w w' := by
  subst ho ht hu
  exact ⟨h.os, h.tape, h.output, h.size, h.block⟩
/-- A pure callee inside a region that draws its order. -/
theorem Pure.quiet {P : Program} {f : FuncId} {args : Array Value} {w : World} {n : Nat} {v : Value} (h : Calls P f args (w.drewN n) (Pure v (w.drewN n))) :
    Calls P f args (w.drewN n) fun e w'' => e = .returned v ∧ ∃ m, w'' = w.drewN m := h.mono fun _ _ ⟨he, hm⟩ => ⟨he, n, hm.symm⟩
theorem Pure.quiet_add {P : Program} {f : FuncId} {args : Array Value} {w : World} {a n : Nat} {v : Value} (h : Calls P f args (w.drewN (a + n)) (Pure v (w.drewN (a + n)))) :
    Calls P f args (w.drewN (a + n)) fun e w'' => e = .returned v ∧ ∃ m, w'' = w.drewN (a + m) := h.mono fun _ _ ⟨he, hm⟩ => ⟨he, n, hm.symm⟩

section
variable {H : Type} {enc : TypeId × Value → H} {P : Program}

/-- A struct of two ints that comes in by value. -/
theorem open_ints2 {w : World} {base : Nat} {spare : Nat → Bool} {held : Bool} {r : Reach} {b0 : Nat} {t ti : TypeId} {f0 f1 : Field} {v : Value} {d : DataW H} {p : List MemPlace}
    (hs : P.underlying t = some (.struct #[f0, f1])) (hi : P.underlying ti = some (.int .i64)) (hone : oneCellFields P #[f0, f1] = true) (hC : P.cellsOf t = 2)
    (hv : Value.okWide P w r b0 t v) (h : DataW.Trod enc P w base spare held t v d p) (h0 : f0.type = ti := by rfl) (h1 : f1.type = ti := by rfl) :
    ∃ a b : Int, v = .agg #[.int .i64 a, .int .i64 b] ∧ -9223372036854775808 ≤ a ∧ a ≤ 9223372036854775807 ∧ -9223372036854775808 ≤ b ∧ b ≤ 9223372036854775807 := by
  obtain ⟨c0, c1, y0, y1, m, rfl, _, _, hy0, hy1⟩ := Go.Joins.open_agg2 hs hone hC hv h
  rw [h0] at hy0
  rw [h1] at hy1
  obtain ⟨a, e0, _, wa⟩ := DataW.trod_int hi hy0
  obtain ⟨b, e1, _, wb⟩ := DataW.trod_int hi hy1
  simp at e0 e1
  subst e0 e1
  exact ⟨a, b, rfl, (wf_bounds wa).1, (wf_bounds wa).2, (wf_bounds wb).1, (wf_bounds wb).2⟩

theorem trodAll_len {w : World} {base : Nat} {sp : Nat → Bool} {held : Bool} : ∀ (ts : List TypeId) (vs : List Value) (ds : List (DataW H)) (ps : List MemPlace),
    DataW.TrodAll enc P w base sp held ts vs ds ps → vs.length = ts.length ∧ ds.length = ts.length
  | [], vs, ds, ps, h => by obtain ⟨rfl, rfl, _⟩ := trodAll_nil h; exact ⟨rfl, rfl⟩
  | t :: ts, vs, ds, ps, h => by
    obtain ⟨v, vs', d, ds', p, q, rfl, rfl, rfl, _, h2⟩ := trodAll_cons h
    obtain ⟨a, b⟩ := trodAll_len ts vs' ds' q h2
    simp [a, b]

theorem below_trodAll (hl : laidOutB P = true) {W W' : World} (hb : Below W.heap.size W W') :
    ∀ (ts : List TypeId) (vs : List Value) (ds : List (DataW H)) (ps : List MemPlace), (∀ t ∈ ts, P.readableRec t = true ∧ t < P.types.size) →
      (∀ x ∈ ps, x.block < W.heap.size) → DataW.TrodAll enc P W 0 (fun _ => true) true ts vs ds ps →
      DataW.TrodAll enc P W' 0 (fun b => decide (b < W.heap.size)) true ts vs ds ps
  | [], vs, ds, ps, _, _, h => by obtain ⟨rfl, rfl, rfl⟩ := trodAll_nil h; exact trodAll_mk0
  | t :: ts, vs, ds, ps, hr, hlt, h => by
    obtain ⟨v, vs', d, ds', p, q, rfl, rfl, rfl, h1, h2⟩ := trodAll_cons h
    refine trodAll_cons_mk ?_ (below_trodAll hl hb ts vs' ds' q (fun t ht => hr t (by simp [ht])) (fun x hx => hlt x (by simp [hx])) h2)
    exact Below.trod hl (hr t (by simp)).1 (hr t (by simp)).2 h1 hb (fun x hx => hlt x (by simp [hx]))

/-- The last step of a law: its specification answers true and hands the arguments back; its walk says that, and that nothing below the heap's old size has turned. -/
theorem law_post (hl : laidOutB P = true) {f : Func} {s : ChangeSpec} {W : World} {args : Array Value} {ds gs : List (DataW H)} {before : List MemPlace} {e : Ending} {W' : World} {tb : TypeId}
    (hr : ∀ t ∈ f.params.toList, P.readableRec t = true ∧ t < P.types.size) (htb : P.underlying tb = some .bool) (hres : f.resultTypes = #[tb]) (hv : s.vars = [])
    (hs : ∀ ds : List (DataW H), ds.length = f.params.toList.length → s.fn H ds = { results := [.lit (.bool true)], args := ds })
    (hW : DataW.Whole enc P f.params.toList s.vars false W args.toList ds gs before) (h : LawEnds W e W') :
    ∃ v, e = .returned v ∧ s.post enc P f false true false false W args v W' := by
  obtain ⟨he, hb⟩ := h
  have hlt : ∀ p ∈ before, p.block < W.heap.size := fun p hp => hW.lt p hp
  have hW' := hW
  obtain ⟨p, q, hA, hV, rfl, hfz, hnd⟩ := hW
  rw [hv] at hV
  obtain ⟨rfl, rfl⟩ := trodVars_none hV
  obtain ⟨_, hdl⟩ := trodAll_len _ _ _ _ hA
  have hsd := hs ds hdl
  refine ⟨_, he, ds, [], p ++ [], [], p, [], hW', ?_, ?_, ?_, ?_, fun h => by cases h⟩
  · rw [List.append_nil, hsd, hres]
    exact trodAll_mk1 (shut_bool htb true)
  · rw [List.append_nil, hsd]
    exact below_trodAll hl hb _ _ _ _ hr (fun x hx => hlt x (by simp [hx])) hA
  · rw [hv]
    rw [List.append_nil, hsd]
    trivial
  · exact hb.frame _
end

/-! ### Slices that are read -/
/-- The slice value that begins at A holds (at least) the cells xs, below block B. -/
def Rd (w : World) (B : Nat) (A : Option Addr) (xs : List Value) : Prop :=
  ∀ (i : Nat) (u : Value), xs[i]? = some u → ∃ b off, A = some ⟨b, off, none⟩ ∧ b < B ∧ w.cell? ⟨b, off + i, none⟩ = some u

section
variable {w w' : World} {B B' : Nat} {A : Option Addr} {xs : List Value}
theorem Rd.nil (A : Option Addr) : Rd w B A [] := fun i u h => by simp at h
theorem Rd.keep (h : Rd w B A xs) (hk : ∀ p : Addr, p.block < B → w'.cell? p = w.cell? p) : Rd w' B A xs := fun i u hi => by
  obtain ⟨b, off, e, hb, hc⟩ := h i u hi
  exact ⟨b, off, e, hb, (hk _ hb).trans hc⟩
theorem Rd.more (h : Rd w B A xs) (hB : B ≤ B') : Rd w B' A xs := fun i u hi => by
  obtain ⟨b, off, e, hb, hc⟩ := h i u hi
  exact ⟨b, off, e, by omega, hc⟩
theorem Rd.below (h : Rd w B A xs) (hb : Below B w w') : Rd w' B A xs := h.keep fun _ hp => hb.cell hp
theorem Rd.at_ (h : Rd w B A xs) {i : Nat} (hi : i < xs.length) : ∃ b off, A = some ⟨b, off, none⟩ ∧ b < B ∧ w.cell? ⟨b, off + i, none⟩ = some xs[i] := h i _ (List.getElem?_eq_getElem hi)
theorem Rd.of_own {base : Nat} {e : TypeId} {size n c : Nat} (h : w.ownsRow base e size (.slice A n c) n xs) : Rd w w.heap.size A xs := fun i u hi => by
  rcases h.2 with ⟨hv, rfl⟩ | ⟨g, cap, cur, hv, _, hg, _⟩
  · have := h.1
    have hl : xs = [] := List.eq_nil_of_length_eq_zero (by simpa using this)
    subst hl
    simp at hi
  · injection hv with hA
    subst hA
    refine ⟨g, 0, rfl, (Array.getElem?_eq_some_iff.1 hg).1, ?_⟩
    have := h.cells (g := g) rfl i u hi
    have hadd : (⟨g, 0, none⟩ : Addr).add i = ⟨g, 0 + i, none⟩ := by unfold Addr.add; split <;> simp_all
    rwa [hadd] at this
end

/-- A part of a slice. -/
theorem Rd.part {w : World} {B : Nat} {A : Option Addr} {xs : List Value} (h : Rd w B A xs) (k n : Nat) : Rd w B (A.map fun a => ⟨a.block, a.off + k, none⟩) ((xs.drop k).take n) := fun i u hi => by
  rw [List.getElem?_take] at hi
  split at hi
  · rw [List.getElem?_drop] at hi
    obtain ⟨b, off, rfl, hb, hc⟩ := h (k + i) u hi
    exact ⟨b, off + k, rfl, hb, by rw [Nat.add_assoc]; exact hc⟩
  · cases hi
/-- A list of ints as cells. -/
abbrev ints (k : IntKind) (zs : List Int) : List Value := zs.map (Value.int k)
theorem Rd.int {w : World} {B : Nat} {A : Option Addr} {k : IntKind} {zs : List Int} (h : Rd w B A (ints k zs)) {i : Nat} (hi : i < zs.length) :
    ∃ b off, A = some ⟨b, off, none⟩ ∧ b < B ∧ w.cell? ⟨b, off + i, none⟩ = some (.int k zs[i]) := by
  obtain ⟨b, off, e, hb, hc⟩ := h.at_ (i := i) (by simpa using hi)
  exact ⟨b, off, e, hb, by simpa using hc⟩
theorem Rd.slice {w : World} {B b off : Nat} {k : IntKind} {zs : List Int} (h : Rd w B (some ⟨b, off, none⟩) (ints k zs)) (lo n : Nat) (hl : lo + n ≤ zs.length) :
    Rd w B (some ⟨b, off + lo, none⟩) (ints k ((zs.drop lo).take n)) ∧ ((zs.drop lo).take n).length = n := by
  refine ⟨?_, by rw [List.length_take, List.length_drop]; omega⟩
  have := h.part lo n
  simpa [ints, List.map_take, List.map_drop] using this
/-- All of a list lie in lo..hi. -/
def InR (lo hi : Int) (zs : List Int) : Prop := ∀ x ∈ zs, lo ≤ x ∧ x ≤ hi
theorem InR.at_ {lo hi : Int} {zs : List Int} (h : InR lo hi zs) {i : Nat} (hi' : i < zs.length) : lo ≤ zs[i] ∧ zs[i] ≤ hi := h _ (List.getElem_mem hi')
/-- A list filled up to k, zeros behind. -/
def upTo (zs : List Int) (k : Nat) : List Int := zs.take k ++ List.replicate (zs.length - k) 0
theorem upTo_len (zs : List Int) (k : Nat) (h : k ≤ zs.length) : (upTo zs k).length = zs.length := by simp [upTo]; omega
theorem upTo_all (zs : List Int) : upTo zs zs.length = zs := by simp [upTo]
theorem upTo_set (zs : List Int) (k : Nat) (h : k < zs.length) : (upTo zs k).set k zs[k] = upTo zs (k + 1) := by
  have hl : (zs.take k).length = k := by rw [List.length_take]; omega
  have e : zs.length - k = (zs.length - (k + 1)) + 1 := by omega
  unfold upTo
  rw [List.set_append_right _ _ (by omega), hl, Nat.sub_self, e, List.replicate_succ, List.set_cons_zero, List.take_succ_eq_append_getElem h, List.append_assoc]
  rfl
theorem setInts (k : IntKind) (zs : List Int) (i : Nat) (x : Int) : (ints k zs).set i (.int k x) = ints k (zs.set i x) := by simp [ints, List.map_set]
theorem zero_cells (k : IntKind) (n : Nat) : (madeCells (Value.int k 0).cells (n * 1)).toList = ints k (List.replicate n 0) := by
  rw [show (Value.int k 0).cells = #[Value.int k 0] from rfl, toList_madeCells_one]
  simp [ints]
theorem zero_cells' (k : IntKind) (n : Nat) : (madeCells #[Value.int k 0] n).toList = ints k (List.replicate n 0) := by
  rw [toList_madeCells_one]
  simp [ints]
theorem take_succ {α : Type} {zs : List α} {i : Nat} (h : i < zs.length) : zs.take (i + 1) = zs.take i ++ [zs[i]] := by
  rw [List.take_succ_eq_append_getElem h]

/-! ### Appending one element to a row of the call's own -/
theorem cells_new (w : World) (cs : Array Value) (e : TypeId) : ∀ j u, cs.toList[j]? = some u → (w.alloc (.cells cs e)).cell? ((⟨w.heap.size, 0, none⟩ : Addr).add j) = some u := by
  intro j u hj
  have hadd : (⟨w.heap.size, 0, none⟩ : Addr).add j = ⟨w.heap.size, j, none⟩ := by unfold Addr.add; split <;> simp_all
  rw [hadd, cell_of_row (w.alloc (.cells cs e)) w.heap.size j cs e (0, 0) (heap_alloc_new w _)]
  simpa using hj
theorem own_below {base : Nat} {w w' : World} {e : TypeId} {size n : Nat} {v : Value} {xs : List Value} (hb : Below base w w') (h : w.ownsRow base e size v n xs) (hn : ∀ k, v.ownBlock = some k → k < base) : w'.ownsRow base e size v n xs := by
  rcases h.2 with ⟨rfl, rfl⟩ | ⟨g, cap, cur, rfl, hbg, hh, r⟩
  · exact ⟨h.1, .inl ⟨rfl, rfl⟩⟩
  · have := hn g rfl
    omega

/-- 'out = append(out, x)': x has just been laid in a new block. -/
theorem wpList_app1 {P : Program} (w : World) {ops : Array Oper} {rest : List Oper} {o : Oper} {a : Act} {Q : Exit → Act → World → Prop} (hgd : o.guard = none) (s x : Operand) (t : TypeId)
    (ho : o.op = .call { callee := .builtin .append, args := #[s, x], argTypes := #[t, t] })
    (base : Nat) (e : TypeId) (i : TypeInfo) (z : Value) (size bytes : Nat) (ht : P.underlying t = some (.slice e)) (hi : P.info? e = some i) (hz : i.zero = some z)
    (hsize : i.size = size) (hby : i.bytes = bytes) (hzs : z.cells.size = size) (hsz : 0 < size)
    (cs : Array Value) (hx : a.eval x = .slice (some ⟨w.heap.size, 0, none⟩) 1 1) (hcs : cs.size = size) (h1 : ∀ u ∈ cs.toList, u.oneCell' = true)
    (v : Value) (n : Nat) (xs : List Value) (hs : a.eval s = v) (hown : w.ownsRow base e size v n xs) (hn : n + 1 ≤ maxLen) (hbytes : (n + 1) * bytes ≤ 140737488355328) (hbase : base ≤ w.heap.size)
    (h : ∀ A' n' c' w', n' = n + 1 → w'.ownsRow base e size (.slice A' n' c') n' (xs ++ cs.toList) → w.grownBy w' v.ownBlock → wpList P ops Q rest (a.put o.dst (.slice A' n' c')) w') :
    wpList P ops Q (o :: rest) a (w.alloc (.cells cs e)) := by
  refine wpList_append_own _ hgd s x t ho base e i z size bytes ht hi hz hsize hby hzs hsz v n xs hs (hown.alloc _) ⟨w.heap.size, 0, none⟩ 1 1 cs.toList hx (by simpa using hcs) (cells_new w cs e) h1 hn hbytes (by simp; omega) ?_
  intro v' w' hown' hg hnil
  have hg' : w.grownBy w' v.ownBlock := ⟨hg.os, hg.tape, hg.output, Nat.le_trans (by simp) hg.size, fun k hk hne => (hg.block k (by simp; omega) hne).trans (Below.heap_alloc w _ k hk)⟩
  rcases hown'.2 with ⟨rfl, h0⟩ | ⟨g, cap, cur, rfl, r⟩
  · omega
  · exact h _ _ _ w' rfl hown' hg'

/-- A call hands back a slice of ints in memory of its own, and turns nothing that was there. -/
def RetInts (E : TypeId) (k : IntKind) (zs : List Int) (w : World) (e : Ending) (w' : World) : Prop :=
  ∃ A c, e = .returned (.slice A zs.length c) ∧ w'.ownsRow w.heap.size E 1 (.slice A zs.length c) zs.length (ints k zs) ∧ Below w.heap.size w w'
theorem RetInts.mk {E : TypeId} {k : IntKind} {zs : List Int} {w w' : World} {A : Option Addr} {n c : Nat} (hn : n = zs.length) (ho : w'.ownsRow w.heap.size E 1 (.slice A n c) n (ints k zs)) (hb : Below w.heap.size w w') :
    RetInts E k zs w (.returned (.slice A n c)) w' := by
  subst hn
  exact ⟨A, c, rfl, ho, hb⟩
theorem RetInts.nil {E : TypeId} {k : IntKind} {w w' : World} (hb : Below w.heap.size w w') : RetInts E k [] w (.returned (.slice none 0 0)) w' := ⟨none, 0, rfl, World.ownsRow_nil _ _ _ _, hb⟩
theorem own_empty {w : World} {E : TypeId} : (w.alloc (.cells #[] E)).ownsRow w.heap.size E 1 (.slice (some ⟨w.heap.size, 0, none⟩) 0 0) 0 [] :=
  World.ownsRow_lit (base := w.heap.size) (e := E) (size := 1) w #[] 0 (Nat.le_refl _) (Nat.zero_le _) rfl
/-- 'out = append(out, s...)': s is a row of the call's own too (nil let in). -/
theorem wpList_appO {P : Program} (w : World) {ops : Array Oper} {rest : List Oper} {o : Oper} {a : Act} {Q : Exit → Act → World → Prop} (hgd : o.guard = none) (s x : Operand) (t : TypeId)
    (ho : o.op = .call { callee := .builtin .append, args := #[s, x], argTypes := #[t, t] })
    (base base2 : Nat) (e : TypeId) (i : TypeInfo) (z : Value) (size bytes : Nat) (ht : P.underlying t = some (.slice e)) (hi : P.info? e = some i) (hz : i.zero = some z)
    (hsize : i.size = size) (hby : i.bytes = bytes) (hzs : z.cells.size = size) (hsz : 0 < size)
    (A : Option Addr) (m c : Nat) (news : List Value) (hx : a.eval x = .slice A m c) (hsrc : w.ownsRow base2 e size (.slice A m c) m news) (h1 : ∀ u ∈ news, u.oneCell' = true)
    (v : Value) (n : Nat) (xs : List Value) (hs : a.eval s = v) (hown : w.ownsRow base e size v n xs) (hn : n + m ≤ maxLen) (hbytes : (n + m) * bytes ≤ 140737488355328) (hbase : base ≤ w.heap.size)
    (h : ∀ A' n' c' w', n' = n + m → w'.ownsRow base e size (.slice A' n' c') n' (xs ++ news) → w.grownBy w' v.ownBlock → wpList P ops Q rest (a.put o.dst (.slice A' n' c')) w') :
    wpList P ops Q (o :: rest) a w := by
  rcases hsrc.2 with ⟨hv, rfl⟩ | ⟨g, cap, cur, hv, _⟩
  · injection hv with hA _ hc
    subst hA hc
    have hnil : news = [] := List.eq_nil_of_length_eq_zero (by simpa using hsrc.1)
    subst hnil
    refine wpList_append_own_none hgd s x t ho base e i size ht hi v n xs hs hown hx ?_
    rcases hown.2 with ⟨rfl, rfl⟩ | ⟨g, cap, cur, rfl, r⟩
    · exact h _ _ _ w rfl (by simpa using hown) (World.grownBy.refl w _)
    · exact h _ _ _ w rfl (by simpa using hown) (World.grownBy.refl w _)
  · injection hv with hA _ hc
    subst hA
    refine wpList_append_own _ hgd s x t ho base e i z size bytes ht hi hz hsize hby hzs hsz v n xs hs hown ⟨g, 0, none⟩ m c news hx hsrc.1 (hsrc.cells (g := g) rfl) h1 hn hbytes hbase ?_
    intro v' w' hown' hg hnil
    rcases hown'.2 with ⟨rfl, h0⟩ | ⟨g', cap', cur', rfl, r⟩
    · have hn0 : n + m = 0 := h0
      exact h _ _ _ w' hn0.symm (by rw [hn0] at hown'; exact hown') hg
    · exact h _ _ _ w' rfl hown' hg

theorem own_emptyAt {w : World} {E : TypeId} {base : Nat} (h : base ≤ w.heap.size) : (w.alloc (.cells #[] E)).ownsRow base E 1 (.slice (some ⟨w.heap.size, 0, none⟩) 0 0) 0 [] :=
  World.ownsRow_lit (base := base) (e := E) (size := 1) w #[] 0 h (Nat.zero_le _) rfl
/-! ### A block of the call's own that is known whole (a variable that holds a struct) -/
def Box (w : World) (g : Nat) (t : TypeId) (cs : Array Value) : Prop := w.heap[g]? = some (.cells cs t (0, 0))
section
variable {w w' : World} {g : Nat} {t : TypeId} {cs : Array Value}
theorem Box.lt (h : Box w g t cs) : g < w.heap.size := (Array.getElem?_eq_some_iff.1 h).1
theorem Box.cell (h : Box w g t cs) (i : Nat) : w.cell? ⟨g, i, none⟩ = cs[i]? := cell_of_row w g i cs t (0, 0) h
theorem Box.frozen (h : Box w g t cs) (i : Nat) : w.frozen? ⟨g, i, none⟩ = false := frozen_of_row w g i cs t h
theorem Box.new (w : World) (t : TypeId) (cs : Array Value) : Box (w.alloc (.cells cs t)) w.heap.size t cs := heap_alloc_new w _
theorem Box.drew (h : Box w g t cs) : Box w.drew g t cs := h
theorem Box.drewN (h : Box w g t cs) (n : Nat) : Box (w.drewN n) g t cs := h
theorem Box.alloc (h : Box w g t cs) (o : Obj) : Box (w.alloc o) g t cs := (Below.heap_alloc w o g h.lt).trans h
theorem Box.set (h : Box w g t cs) (i : Nat) (u : Value) : Box (w.setCell ⟨g, i, none⟩ u) g t (cs.setIfInBounds i u) := heap_setCell_same w g i cs t u h
theorem Box.far (h : Box w g t cs) {p : Addr} (hp : g ≠ p.block) (u : Value) : Box (w.setCell p u) g t cs := (Below.heap_setCell w p u g hp).trans h
theorem Box.below {B : Nat} (h : Box w g t cs) (hb : Below B w w') (hg : g < B) : Box w' g t cs := (hb.block g hg).trans h
theorem Box.call (h : Box w g t cs) (hb : Below w.heap.size w w') : Box w' g t cs := h.below hb h.lt
end

/-! ### Bits -/
theorem ofInt_i64 (a : Nat) (ha : a < 9223372036854775808) : (BitVec.ofInt 64 (a : Int)).toNat = a := by
  rw [BitVec.ofInt_natCast, BitVec.toNat_ofNat]; exact Nat.mod_eq_of_lt (by omega)
theorem and_i64 (a b : Nat) (ha : a < 9223372036854775808) (hb : b < 9223372036854775808) : bits .and .i64 (a : Int) (b : Int) = ((a &&& b : Nat) : Int) := by
  have hx : a &&& b < 2 ^ 63 := Nat.and_lt_two_pow _ (by omega)
  show IntKind.i64.wrap ((BitVec.ofInt 64 (a : Int) &&& BitVec.ofInt 64 (b : Int)).toNat : Int) = _
  rw [BitVec.toNat_and, ofInt_i64 a ha, ofInt_i64 b hb, IntKind.wrap_i64]
  omega
theorem or_i64 (a b : Nat) (ha : a < 9223372036854775808) (hb : b < 9223372036854775808) : bits .or .i64 (a : Int) (b : Int) = ((a ||| b : Nat) : Int) := by
  have hx : a ||| b < 2 ^ 63 := Nat.or_lt_two_pow (by omega) (by omega)
  show IntKind.i64.wrap ((BitVec.ofInt 64 (a : Int) ||| BitVec.ofInt 64 (b : Int)).toNat : Int) = _
  rw [BitVec.toNat_or, ofInt_i64 a ha, ofInt_i64 b hb, IntKind.wrap_i64]
  omega
theorem and127 (m : Nat) (h : m < 9223372036854775808) : bits .and .i64 (m : Int) 127 = ((m % 128 : Nat) : Int) := by
  have := and_i64 m 127 h (by omega)
  rw [show (127 : Nat) = 2 ^ 7 - 1 from rfl, Nat.and_two_pow_sub_one_eq_mod] at this
  exact this
theorem or128 (x : Nat) (h : x < 128) : bits .or .i64 (x : Int) 128 = ((x + 128 : Nat) : Int) := by
  have := or_i64 x 128 (by omega) (by omega)
  have e := Nat.two_pow_add_eq_or_of_lt (i := 7) (b := x) h 1
  rw [Nat.or_comm] at this
  simp only [Nat.reducePow, Nat.mul_one] at e
  rw [← e, Nat.add_comm] at this
  exact this

theorem ints_snoc (k : IntKind) (zs : List Int) (x : Int) : ints k zs ++ [Value.int k x] = ints k (zs ++ [x]) := by simp [ints]
theorem ofInt_u8 (a : Nat) (ha : a < 256) : (BitVec.ofInt 8 (a : Int)).toNat = a := by
  rw [BitVec.ofInt_natCast, BitVec.toNat_ofNat]; exact Nat.mod_eq_of_lt (by omega)
theorem and127u8 (x : Int) (h0 : 0 ≤ x) (h1 : x ≤ 255) : bits .and .u8 x 127 = x % 128 := by
  obtain ⟨m, rfl⟩ := Int.eq_ofNat_of_zero_le h0
  show IntKind.u8.wrap ((BitVec.ofInt 8 (m : Int) &&& BitVec.ofInt 8 ((127 : Nat) : Int)).toNat : Int) = _
  rw [BitVec.toNat_and, ofInt_u8 m (by omega), ofInt_u8 127 (by omega), IntKind.wrap_u8, show (127 : Nat) = 2 ^ 7 - 1 from rfl, Nat.and_two_pow_sub_one_eq_mod]
  omega
theorem or_low (d m i : Nat) (hd : d < 2 ^ i) (hs : 2 ^ i * m + d < 9223372036854775808) (e : Int) (he : e = ((2 ^ i * m : Nat) : Int)) : bits .or .i64 (d : Int) e = ((d + 2 ^ i * m : Nat) : Int) := by
  subst he
  rw [or_i64 d (2 ^ i * m) (by omega) (by omega), Nat.or_comm, ← Nat.two_pow_add_eq_or_of_lt hd, Nat.add_comm]

/-! ### Structs laid one behind the other -/
/-- The cells of a list of structs. -/
abbrev cellsOf {α : Type} (f : α → List Value) (xs : List α) : List Value := xs.flatMap f
theorem cellsOf_len {α : Type} {f : α → List Value} {C : Nat} (hf : ∀ x, (f x).length = C) (xs : List α) : (cellsOf f xs).length = xs.length * C := by
  induction xs with
  | nil => simp [cellsOf]
  | cons x r ih => simp only [cellsOf, List.flatMap_cons, List.length_append, hf] at *; rw [ih, List.length_cons, Nat.add_mul]; omega
theorem cellsOf_at {α : Type} {f : α → List Value} {C : Nat} (hf : ∀ x, (f x).length = C) (xs : List α) (k j : Nat) (hk : k < xs.length) (hj : j < C) : (cellsOf f xs)[k * C + j]? = (f xs[k])[j]? := by
  induction xs generalizing k with
  | nil => simp at hk
  | cons x r ih =>
    simp only [cellsOf, List.flatMap_cons]
    cases k with
    | zero => rw [List.getElem?_append_left (by rw [hf]; omega)]; simp
    | succ k =>
      rw [List.getElem?_append_right (by rw [hf, Nat.add_mul]; omega), hf, show (k + 1) * C + j - C = k * C + j by rw [Nat.add_mul]; omega]
      exact ih k (by simpa using hk)
theorem Rd.row {α : Type} {f : α → List Value} {C : Nat} {w : World} {B : Nat} {A : Option Addr} {xs : List α} (hf : ∀ x, (f x).length = C) (hC : 0 < C) (h : Rd w B A (cellsOf f xs)) {k : Nat} (hk : k < xs.length) :
    ∃ b off, A = some ⟨b, off, none⟩ ∧ b < B ∧ ∀ j u, (f xs[k])[j]? = some u → w.cell? ⟨b, off + k * C + j, none⟩ = some u := by
  have h0 : (f xs[k])[0]? = some ((f xs[k])[0]'(by rw [hf]; exact hC)) := List.getElem?_eq_getElem _
  obtain ⟨b, off, rfl, hb, _⟩ := h (k * C + 0) _ ((cellsOf_at hf xs k 0 hk hC).trans h0)
  refine ⟨b, off, rfl, hb, fun j u hu => ?_⟩
  have hj : j < C := by
    have := (List.getElem?_eq_some_iff.1 hu).1
    rwa [hf] at this
  obtain ⟨b', off', e, _, hc⟩ := h (k * C + j) u ((cellsOf_at hf xs k j hk hj).trans hu)
  simp only [Option.some.injEq, Addr.mk.injEq, and_true] at e
  obtain ⟨rfl, rfl⟩ := e
  rw [Nat.add_assoc]
  exact hc
theorem own_cap {w : World} {base : Nat} {e : TypeId} {size n c : Nat} {A : Option Addr} {xs : List Value} (h : w.ownsRow base e size (.slice A n c) n xs) : n ≤ c := by
  rcases h.2 with ⟨_, h0⟩ | ⟨g, cap, cur, hv, _, _, hn, _⟩
  · omega
  · injection hv with _ _ hc
    omega
/-- What the call owns stays its own over a call that turns nothing that was there. -/
theorem own_call {w w' : World} {base : Nat} {e : TypeId} {size n : Nat} {v : Value} {xs : List Value} (hb : Below w.heap.size w w') (h : w.ownsRow base e size v n xs) : w'.ownsRow base e size v n xs := by
  refine ⟨h.1, ?_⟩
  rcases h.2 with hn | ⟨g, cap, cur, rfl, hbg, hg, rest⟩
  · exact .inl hn
  · exact .inr ⟨g, cap, cur, rfl, hbg, (hb.block g (Array.getElem?_eq_some_iff.1 hg).1).trans hg, rest⟩
/-- An owned row's cell: there is one, and it may be written. -/
theorem own_old {w : World} {base : Nat} {e : TypeId} {size g n cap : Nat} {xs : List Value} (h : w.ownsRow base e size (.slice (some ⟨g, 0, none⟩) n cap) n xs) {j : Nat} (hj : j < n * size) :
    (∃ u, w.cell? ⟨g, j, none⟩ = some u) ∧ w.frozen? ⟨g, j, none⟩ = false := by
  refine ⟨⟨xs[j]'(by rw [h.1]; exact hj), ?_⟩, h.frozenAt j⟩
  rw [h.cellAt j hj]
  exact List.getElem?_eq_getElem _
/-- The next cell of a row that is being filled is written. -/
theorem own_put {w : World} {base : Nat} {e : TypeId} {size g n cap : Nat} {pre xs : List Value} {j : Nat} (h : w.ownsRow base e size (.slice (some ⟨g, 0, none⟩) n cap) n (pre ++ xs)) (hp : pre.length = j) (hj : j < n * size) (u : Value) :
    (w.setCell ⟨g, j, none⟩ u).ownsRow base e size (.slice (some ⟨g, 0, none⟩) n cap) n ((pre ++ [u]) ++ xs.tail) := by
  have hs := (h.stored j u).1
  have hl := h.1
  rw [List.length_append] at hl
  cases xs with
  | nil => simp at hl; omega
  | cons x r =>
    rw [List.set_append_right _ _ (by omega), hp, Nat.sub_self, List.set_cons_zero] at hs
    simpa using hs
theorem grown_put {w wr : World} {g n c j : Nat} {u : Value} (h : w.grownBy wr (Value.slice (some ⟨g, 0, none⟩) n c).ownBlock) : w.grownBy (wr.setCell ⟨g, j, none⟩ u) (Value.slice (some ⟨g, 0, none⟩) n c).ownBlock :=
  ⟨h.os, h.tape, h.output, by simpa [World.setCell] using h.size, fun k hk hne => (Below.heap_setCell wr ⟨g, j, none⟩ u k (fun e => hne (by simp [Value.ownBlock, e]))).trans (h.block k hk hne)⟩

/-! ### Arguments as they come in: cells that read as data of a type -/
/-- The cells cs read as data of type t. -/
def Trd (P : Program) (w : World) (t : TypeId) (cs : List Value) : Prop :=
  ∃ (H : Type) (enc : TypeId × Value → H) (base : Nat) (sp : Nat → Bool) (held : Bool) (fuel : Nat) (x : DataW H × List MemPlace), DataW.trod enc P w base sp held fuel t cs = some x

section
variable {P : Program} {w : World} {t e : TypeId} {cs : List Value}
theorem Trd.of_trod {H : Type} {enc : TypeId × Value → H} {base : Nat} {sp : Nat → Bool} {held : Bool} {v : Value} {d : DataW H} {ps : List MemPlace} (h : DataW.Trod enc P w base sp held t v d ps) : Trd P w t v.cells.toList := by
  obtain ⟨fuel, h⟩ := h
  exact ⟨H, enc, base, sp, held, fuel, _, h⟩
theorem Trd.int {k : IntKind} (ht : P.underlying t = some (.int k)) (h : Trd P w t cs) : ∃ n, cs = [.int k n] ∧ (Lit.int k n).wf = true := by
  obtain ⟨H, enc, base, sp, held, fuel, x, h⟩ := h
  obtain ⟨n, h1, _, h2⟩ := DataW.trod_int ht h
  exact ⟨n, h1, h2⟩
theorem Trd.str (ht : P.underlying t = some .string) (h : Trd P w t cs) : ∃ s : ByteArray, cs = [.string s] ∧ s.size ≤ maxLen := by
  obtain ⟨H, enc, base, sp, held, fuel, x, h⟩ := h
  obtain ⟨s, h1, _, h2⟩ := DataW.trod_string ht h
  exact ⟨s, h1, h2⟩
theorem Trd.bool (ht : P.underlying t = some .bool) (h : Trd P w t cs) : ∃ b, cs = [.bool b] := by
  obtain ⟨H, enc, base, sp, held, fuel, x, h⟩ := h
  obtain ⟨b, h1, _⟩ := DataW.trod_bool ht h
  exact ⟨b, h1⟩
theorem Trd.fields {fs : Array Field} (ht : P.underlying t = some (.struct fs)) (hone : oneCellFields P fs = true) (h : Trd P w t cs) :
    cs.length = P.cellsOf t ∧ ∀ (j : Nat) (f : Field), fs[j]? = some f → ∀ v, cs[j]? = some v → Trd P w f.type [v] := by
  obtain ⟨H, enc, base, sp, held, fuel, x, h⟩ := h
  obtain ⟨xs, n, _, _, hl, hxl, hg⟩ := DataW.trod_struct ht h
  refine ⟨hl, fun j f hj v hv => ?_⟩
  obtain ⟨ho, hk⟩ := hone_of hone j f hj
  have h1 := hg j f hj
  rw [ho, hk] at h1
  have hjl : j < fs.size := (Array.getElem?_eq_some_iff.1 hj).1
  have hjc : j < cs.length := (List.getElem?_eq_some_iff.1 hv).1
  have e1 : (cs.drop j).take 1 = [v] := by
    rw [List.drop_eq_getElem_cons hjc]
    have : cs[j] = v := (List.getElem?_eq_some_iff.1 hv).2
    rw [this]
    rfl
  rw [e1] at h1
  exact ⟨H, enc, base, sp, held, n, xs[j]'(by omega), h1.trans (List.getElem?_eq_getElem (by omega))⟩

/-- Rows of cells, laid one behind the other: the reading of one place. -/
theorem flatten_at {rows : List (List Value)} {C : Nat} (hC : ∀ r ∈ rows, r.length = C) : ∀ (i : Nat) (u : Value), rows.flatten[i]? = some u →
    ∃ q j r, i = q * C + j ∧ j < C ∧ rows[q]? = some r ∧ r[j]? = some u := by
  induction rows with
  | nil => intro i u h; simp at h
  | cons r rs ih =>
    intro i u h
    have hr := hC r (by simp)
    rw [List.flatten_cons] at h
    by_cases hi : i < r.length
    · rw [List.getElem?_append_left hi] at h
      exact ⟨0, i, r, by omega, by omega, rfl, h⟩
    · rw [List.getElem?_append_right (by omega)] at h
      obtain ⟨q, j, r', h1, h2, h3, h4⟩ := ih (fun x hx => hC x (by simp [hx])) _ u h
      exact ⟨q + 1, j, r', by rw [Nat.add_mul]; omega, h2, by simpa using h3, h4⟩

theorem addr_form {a : Addr} (hs : a.spot = none) (i : Nat) : a = ⟨a.block, a.off, none⟩ ∧ a.add i = ⟨a.block, a.off + i, none⟩ := by
  obtain ⟨b, off, sp⟩ := a
  subst hs
  refine ⟨rfl, ?_⟩
  unfold Addr.add
  split <;> simp_all

theorem Trd.slice (ht : P.underlying t = some (.slice e)) (h : Trd P w t cs) :
    ∃ (A : Option Addr) (n c : Nat) (rows : List (List Value)), cs = [.slice A n c] ∧ n ≤ c ∧ c ≤ maxLen ∧ rows.length = n ∧ (∀ r ∈ rows, r.length = P.cellsOf e ∧ Trd P w e r) ∧ Rd w w.heap.size A rows.flatten := by
  obtain ⟨H, enc, base, sp, held, fuel, x, h⟩ := h
  rcases Go.Deep.open_slice ht h with ⟨rfl, _⟩ | ⟨a, len, cap, m, n, D, Pl, rfl, _, hl, hm, hmm, _, hi⟩
  · exact ⟨none, 0, 0, [], rfl, Nat.le_refl _, Nat.zero_le _, rfl, by simp, Rd.nil _⟩
  · have hlm : len ≤ m := by rw [hmm]; split <;> omega
    have hex : ∀ i : Fin len, ∃ cs', w.cells? base (a.add (i * P.cellsOf e)) (P.cellsOf e) = some cs' ∧ DataW.trod enc P w base sp held n e cs' = some (D i, Pl i) := fun i => hi i (by omega)
    refine ⟨some a, len, cap, List.ofFn fun i => (hex i).choose, rfl, hl, hm, by simp, ?_, ?_⟩
    · intro r hr
      obtain ⟨i, rfl⟩ := List.mem_ofFn.1 hr
      obtain ⟨h1, h2⟩ := (hex i).choose_spec
      exact ⟨(World.cells?_some h1).2.1, H, enc, base, sp, held, n, _, h2⟩
    · intro i u hu
      have hC : ∀ r ∈ List.ofFn fun i => (hex i).choose, r.length = P.cellsOf e := by
        intro r hr
        obtain ⟨i, rfl⟩ := List.mem_ofFn.1 hr
        exact (World.cells?_some (hex i).choose_spec.1).2.1
      obtain ⟨q, j, r, rfl, hj, hq, hu'⟩ := flatten_at hC i u hu
      have hql : q < len := by have := (List.getElem?_eq_some_iff.1 hq).1; simpa using this
      have hr : (hex ⟨q, hql⟩).choose = r := by
        rw [List.getElem?_eq_getElem (by simpa using hql)] at hq
        simpa using hq
      have h1 := (World.cells?_some (hex ⟨q, hql⟩).choose_spec.1).2.2 j hj
      rw [hr, hu', Go.Deep.add_add] at h1
      have h0 := (World.cells?_some (hex ⟨0, by omega⟩).choose_spec.1).2.2 0 (by omega)
      have hc0 := (World.cells?_some (hex ⟨0, by omega⟩).choose_spec.1).2.1
      rw [List.getElem?_eq_getElem (by omega), Go.Deep.add_add] at h0
      have hsp : a.spot = none := by simpa [Addr.add] using World.cell?_spot h0
      obtain ⟨e1, e2⟩ := addr_form hsp (q * P.cellsOf e + j)
      have hb := World.block_lt_of_cell? _ _ h1
      rw [e2] at h1 hb
      exact ⟨a.block, a.off, by rw [← e1], hb, h1⟩

theorem rows_of {α : Type} {rows : List (List Value)} {f : α → List Value} {p : α → Prop} (h : ∀ r ∈ rows, ∃ x, r = f x ∧ p x) : ∃ xs : List α, rows = xs.map f ∧ ∀ x ∈ xs, p x := by
  induction rows with
  | nil => exact ⟨[], rfl, by simp⟩
  | cons r rs ih =>
    obtain ⟨xs, rfl, hx⟩ := ih fun r hr => h r (by simp [hr])
    obtain ⟨x, rfl, hp⟩ := h r (by simp)
    exact ⟨x :: xs, rfl, by simpa using ⟨hp, hx⟩⟩
theorem flatten_one (k : IntKind) (zs : List Int) : (zs.map fun z => [Value.int k z]).flatten = ints k zs := by
  induction zs with
  | nil => rfl
  | cons z r ih => simp_all [ints]

/-- A slice of ints that comes in. -/
theorem Trd.ints {k : IntKind} (ht : P.underlying t = some (.slice e)) (he : P.underlying e = some (.int k)) (h : Trd P w t cs) :
    ∃ (A : Option Addr) (zs : List Int) (c : Nat), cs = [.slice A zs.length c] ∧ zs.length ≤ c ∧ c ≤ maxLen ∧ Rd w w.heap.size A (ints k zs) ∧ ∀ z ∈ zs, (Lit.int k z).wf = true := by
  obtain ⟨A, n, c, rows, rfl, hn, hc, rfl, hr, hrd⟩ := Trd.slice ht h
  obtain ⟨zs, rfl, hz⟩ := rows_of (f := fun z => [Value.int k z]) (p := fun z => (Lit.int k z).wf = true) fun r hr' => (hr r hr').2.int he
  rw [flatten_one] at hrd
  simp only [List.length_map] at hn ⊢
  exact ⟨A, zs, c, rfl, hn, hc, hrd, hz⟩
theorem wf_u8 {zs : List Int} (h : ∀ z ∈ zs, (Lit.int .u8 z).wf = true) : InR 0 255 zs := fun z hz => by
  have := h z hz
  simpa [Lit.wf, IntKind.min, IntKind.max, IntKind.signed, IntKind.bits] using this
theorem wf_i64s {zs : List Int} (h : ∀ z ∈ zs, (Lit.int .i64 z).wf = true) : InR (-9223372036854775808) 9223372036854775807 zs := fun z hz => wf_bounds (h z hz)
/-- A slice of structs that comes in; what a row of cells reads as is told by the caller. -/
theorem arg_slice {α : Type} {f : α → List Value} {p : α → Prop} {H : Type} {enc : TypeId × Value → H} {base b0 : Nat} {sp : Nat → Bool} {held : Bool} {r : Reach} {v : Value} {d : DataW H} {ps : List MemPlace} (ht : P.underlying t = some (.slice e))
    (hrow : ∀ cs, cs.length = P.cellsOf e → Trd P w e cs → ∃ x, cs = f x ∧ p x) (hv : Value.okWide P w r b0 t v) (h : DataW.Trod enc P w base sp held t v d ps) :
    ∃ (A : Option Addr) (xs : List α) (c : Nat), v = .slice A xs.length c ∧ xs.length ≤ c ∧ c ≤ maxLen ∧ (∀ x ∈ xs, p x) ∧ Rd w w.heap.size A (cellsOf f xs) := by
  obtain ⟨a, l, c, rfl⟩ := okWide_slice ht hv
  obtain ⟨A, n, c', rows, e1, h1, h2, h3, h4, h5⟩ := (Trd.of_trod h).slice ht
  simp [Value.cells] at e1
  obtain ⟨rfl, rfl, rfl⟩ := e1
  obtain ⟨xs, rfl, hx⟩ := rows_of (f := f) (p := p) fun r hr => hrow r (h4 r hr).1 (h4 r hr).2
  simp only [List.length_map] at h3
  subst h3
  refine ⟨_, xs, _, rfl, h1, h2, hx, ?_⟩
  simpa [cellsOf, List.flatMap] using h5
/-- A []byte that comes in. -/
theorem arg_bytes {H : Type} {enc : TypeId × Value → H} {base b0 : Nat} {sp : Nat → Bool} {held : Bool} {r : Reach} {v : Value} {d : DataW H} {ps : List MemPlace} (ht : P.underlying t = some (.slice e)) (he : P.underlying e = some (.int .u8))
    (hv : Value.okWide P w r b0 t v) (h : DataW.Trod enc P w base sp held t v d ps) :
    ∃ (A : Option Addr) (zs : List Int) (c : Nat), v = .slice A zs.length c ∧ zs.length ≤ c ∧ c ≤ maxLen ∧ Rd w w.heap.size A (Kit.ints .u8 zs) ∧ InR 0 255 zs := by
  obtain ⟨a, l, c, rfl⟩ := okWide_slice ht hv
  obtain ⟨A, zs, c', e1, h1, h2, h3, h4⟩ := (Trd.of_trod h).ints ht he
  simp [Value.cells] at e1
  obtain ⟨rfl, rfl, rfl⟩ := e1
  exact ⟨_, zs, _, rfl, h1, h2, h3, wf_u8 h4⟩
end
end Go.Proofs.YtmglgjchemecjaaGreat.Kit
/- The words that head the translation, read off the letters one by one: what the closing facts ask of them. -/
namespace Go.Proofs.YtmglgjchemecjaaGreat.Words
set_option maxRecDepth 200000
open Go.ChangeShapes Go.WideShapes Go.ChangeAt Go.RowKit
theorem words_app : ∀ (w : List Nat) (r : List Char), (w.all fun x => Char.ofNat x != Char.ofNat 32) = true → wordsSigns (w.map Char.ofNat ++ Char.ofNat 32 :: r) = w.map Char.ofNat :: wordsSigns r
  | [], r, _ => by
    show wordsSigns (Char.ofNat 32 :: r) = [] :: wordsSigns r
    rw [wordsSigns]
  | x :: w, r, h => by
    simp only [List.all_cons, Bool.and_eq_true, bne_iff_ne, ne_eq] at h
    have ih := words_app w r (by simpa using h.2)
    simp only [List.map_cons, List.cons_append]
    rw [wordsSigns, ih]
    exact h.1
abbrev w0 : List Nat := [104, 97, 114, 110, 101, 115, 115]
abbrev w1 : List Nat := [49, 49, 100, 97, 49, 48, 48, 57, 102, 54, 52, 51, 48, 100, 53, 97, 51, 54, 56, 48, 55, 48, 52, 98, 56, 101, 57, 101, 52, 52, 51, 50, 49, 97, 48, 54, 55, 102, 57, 98, 102, 55, 100, 101, 55, 102, 97, 99, 102, 101, 50, 50, 49, 52, 51, 97, 100, 100, 99, 57, 98, 99, 100, 49]
abbrev w2 : List Nat := [99, 117, 116]
def W0 : List Char := w0.map Char.ofNat
def W1 : List Char := w1.map Char.ofNat
def W2 : List Char := w2.map Char.ofNat
theorem split : ∃ R, wordsSigns Tryz.prog.initOrder.toList = W0 :: W1 :: W2 :: R := by
  unfold W0 W1 W2
  refine ⟨wordsSigns (([97, 116, 32, 108, 111, 111, 112, 46, 101, 120, 97, 109, 112, 108, 101, 47, 111, 98, 106, 101, 99, 116, 108, 105, 110, 107, 101, 114, 47, 108, 97, 119, 115, 46, 70, 110, 69, 120, 97, 99, 116, 83, 97, 109, 101, 79, 98, 106, 101, 99, 116, 32, 108, 111, 111, 112, 46, 101, 120, 97, 109, 112, 108, 101, 47, 111, 98, 106, 101, 99, 116, 108, 105, 110, 107, 101, 114, 47, 108, 97, 119, 115, 46, 70, 110, 83, 111, 114, 116, 83, 121, 109, 98, 111, 108, 115, 32, 108, 111, 111, 112, 46, 101, 120, 97, 109, 112, 108, 101, 47, 111, 98, 106, 101, 99, 116, 108, 105, 110, 107, 101, 114, 47, 108, 97, 119, 115, 46, 70, 110, 69, 120, 97, 99, 116, 76, 97, 110, 100, 109, 97, 114, 107, 115, 79, 102] : List Nat).map Char.ofNat), ?_⟩
  rw [show Tryz.prog.initOrder = String.ofList (w0.map Char.ofNat ++ Char.ofNat 32 :: (w1.map Char.ofNat ++ Char.ofNat 32 :: (w2.map Char.ofNat ++ Char.ofNat 32 :: ([97, 116, 32, 108, 111, 111, 112, 46, 101, 120, 97, 109, 112, 108, 101, 47, 111, 98, 106, 101, 99, 116, 108, 105, 110, 107, 101, 114, 47, 108, 97, 119, 115, 46, 70, 110, 69, 120, 97, 99, 116, 83, 97, 109, 101, 79, 98, 106, 101, 99, 116, 32, 108, 111, 111, 112, 46, 101, 120, 97, 109, 112, 108, 101, 47, 111, 98, 106, 101, 99, 116, 108, 105, 110, 107, 101, 114, 47, 108, 97, 119, 115, 46, 70, 110, 83, 111, 114, 116, 83, 121, 109, 98, 111, 108, 115, 32, 108, 111, 111, 112, 46, 101, 120, 97, 109, 112, 108, 101, 47, 111, 98, 106, 101, 99, 116, 108, 105, 110, 107, 101, 114, 47, 108, 97, 119, 115, 46, 70, 110, 69, 120, 97, 99, 116, 76, 97, 110, 100, 109, 97, 114, 107, 115, 79, 102] : List Nat).map Char.ofNat))) from by kernel_rfl, String.toList_ofList]
  rw [words_app _ _ (by kernel_rfl), words_app _ _ (by kernel_rfl), words_app _ _ (by kernel_rfl)]
theorem sum : (W0 == "harness".toList || W0 == "ownmain".toList) = true := by kernel_rfl
theorem sum2 : isSumSigns W1 = true := by kernel_rfl
theorem behind (R : List (List Char)) : behindMainWord (W0 :: W1 :: W2 :: R) = W2 :: R := by
  unfold behindMainWord
  simp only [sum, sum2, Bool.and_self, if_true]
theorem gc : (W2 == "gc".toList || W2 == "spec".toList) = false := by kernel_rfl
theorem cut : (W2 == "cut".toList) = true := by kernel_rfl
theorem carried : (W2 == "carried".toList) = false := by kernel_rfl
theorem carried2 : (W2 != "carried".toList) = true := by kernel_rfl
theorem strip (R : List (List Char)) : stripLifts liftWords (W2 :: R) = ([], W2 :: R) := by kernel_rfl
theorem cutEq : W2 = "cut".toList := beq_iff_eq.1 cut
theorem lays : Tryz.prog.laysLater = false := by kernel_rfl
theorem bears : Tryz.prog.bearsReflect = false := by kernel_rfl
theorem door : Tryz.prog.doorFits [] = true := by kernel_rfl
theorem heads {a b : List Char} (h : a = b) (R : List (List Char)) : ((a :: R).head? == some b) = true := by subst h; simp
theorem headsN {a b : List Char} (h : (a == b) = false) (R : List (List Char)) : ((a :: R).head? == some b) = false := by
  have := beq_eq_false_iff_ne.1 h
  simpa using this
theorem make_of {P : Program} {c : List Char} {r : List (List Char)} (h : behindMainWord (wordsSigns P.initOrder.toList) = c :: r) (h1 : (c == "gc".toList || c == "spec".toList) = false) (h2 : (c == "cut".toList) = true) : P.make = some .cut := by
  unfold Program.make
  rw [h]
  show (if (c == "gc".toList || c == "spec".toList) = true then some Make.whole else if (c == "cut".toList || _) = true then some Make.cut else _) = some Make.cut
  rw [h1, h2, Bool.true_or, if_neg Bool.false_ne_true, if_pos rfl]
theorem may_of {P : Program} {c : List Char} {r : List (List Char)} (h : behindMainWord (wordsSigns P.initOrder.toList) = c :: r) (hs : stripLifts liftWords (c :: r) = ([], c :: r)) (hc : c = "cut".toList) (hl : P.laysLater = false) (hb : P.bearsReflect = false) (hd : P.doorFits [] = true) : P.mayEnter = true := by
  unfold Program.mayEnter
  rw [h]
  show ((_ && _) || (_ && _ && _ && _) || ((stripLifts liftWords (c :: r)).2.head? == some "cut".toList && _ && _ && _ && P.doorFits (stripLifts liftWords (c :: r)).1)) = true
  rw [hs]
  show ((_ && _) || (_ && _ && _ && _) || ((c :: r).head? == some "cut".toList && (_ || !P.laysLater) && (_ || !P.bearsReflect) && (_ || _) && P.doorFits [])) = true
  rw [heads hc, hl, hb, hd]
  simp only [List.contains_nil, Bool.not_false, Bool.or_true, Bool.and_true]
theorem make : Tryz.prog.make = some .cut := by
  obtain ⟨R, h⟩ := split
  exact make_of (by rw [h]; exact behind R) gc cut
theorem mayEnter : Tryz.prog.mayEnter = true := by
  obtain ⟨R, h⟩ := split
  exact may_of (by rw [h]; exact behind R) (strip R) cutEq lays bears door
theorem lifted : Tryz.prog.liftsFinal = false := by
  obtain ⟨R, h⟩ := split
  unfold Program.liftsFinal Program.headLifts
  rw [h, behind, strip]
  dsimp only
  rw [headsN carried, heads cutEq]
  rfl
end Go.Proofs.YtmglgjchemecjaaGreat.Words
/- The library at []string, at this dump: printed by the kit's lay-plain. -/
namespace Go.Proofs.YtmglgjchemecjaaGreat.XNames
set_option maxRecDepth 200000
open Go.Shelf
def lays190_ren : Go.Shelf.Ren := ⟨fun | 190 => 129 | 125 => 156 | 258 => 155 | 128 => 179 | 129 => 180 | 302 => 170 | 303 => 171 | 304 => 172 | 305 => 173 | 306 => 174 | 307 => 175 | 308 => 176 | 309 => 177 | 310 => 178 | 333 => 189 | 329 => 190 | 330 => 191 | 334 => 192 | 335 => 193 | 336 => 105 | 344 => 196 | n => n, fun | 31 => 90 | 9 => 9 | 3 => 3 | 46 => 165 | 0 => 0 | 51 => 192 | 53 => 194 | 4 => 4 | 183 => 186 | 182 => 185 | 131 => 93 | 5 => 5 | 218 => 198 | 222 => 202 | 228 => 205 | 229 => 206 | n => n, fun | n => n⟩
theorem lays190 : Go.Proofs.Lays.n190 Tryz.prog lays190_ren := {
  mixed := by kernel_rfl
  f125 := Tryz.func156.trans (congrArg some (by kernel_rfl))
  f128 := Tryz.func179.trans (congrArg some (by kernel_rfl))
  f129 := Tryz.func180.trans (congrArg some (by kernel_rfl))
  f190 := Tryz.func129.trans (congrArg some (by kernel_rfl))
  f258 := Tryz.func155.trans (congrArg some (by kernel_rfl))
  f302 := Tryz.func170.trans (congrArg some (by kernel_rfl))
  f303 := Tryz.func171.trans (congrArg some (by kernel_rfl))
  f304 := Tryz.func172.trans (congrArg some (by kernel_rfl))
  f305 := Tryz.func173.trans (congrArg some (by kernel_rfl))
  f306 := Tryz.func174.trans (congrArg some (by kernel_rfl))
  f307 := Tryz.func175.trans (congrArg some (by kernel_rfl))
  f308 := Tryz.func176.trans (congrArg some (by kernel_rfl))
  f309 := Tryz.func177.trans (congrArg some (by kernel_rfl))
  f310 := Tryz.func178.trans (congrArg some (by kernel_rfl))
  f329 := Tryz.func190.trans (congrArg some (by kernel_rfl))
  f330 := Tryz.func191.trans (congrArg some (by kernel_rfl))
  f333 := Tryz.func189.trans (congrArg some (by kernel_rfl))
  f334 := Tryz.func192.trans (congrArg some (by kernel_rfl))
  f335 := Tryz.func193.trans (congrArg some (by kernel_rfl))
  f336 := Tryz.func105.trans (congrArg some (by kernel_rfl))
  f344 := Tryz.func196.trans (congrArg some (by kernel_rfl))
  t0 := Tryz.underlying0
  a0 := Tryz.isAgg0
  z0 := Tryz.sizeOf0
  v0 := Tryz.zeroValue0
  t3 := Tryz.underlying3
  a3 := Tryz.isAgg3
  z3 := Tryz.sizeOf3
  v3 := Tryz.zeroValue3
  t4 := Tryz.underlying4
  a4 := Tryz.isAgg4
  z4 := Tryz.sizeOf4
  v4 := Tryz.zeroValue4
  t5 := Tryz.underlying5
  a5 := Tryz.isAgg5
  z5 := Tryz.sizeOf5
  v5 := Tryz.zeroValue5
  t9 := Tryz.underlying9
  a9 := Tryz.isAgg9
  z9 := Tryz.sizeOf9
  v9 := Tryz.zeroValue9
  t31 := Tryz.underlying90
  a31 := Tryz.isAgg90
  z31 := Tryz.sizeOf90
  v31 := Tryz.zeroValue90
  t46 := Tryz.underlying165
  a46 := Tryz.isAgg165
  z46 := Tryz.sizeOf165
  v46 := Tryz.zeroValue165
  t51 := Tryz.underlying192
  a51 := Tryz.isAgg192
  z51 := Tryz.sizeOf192
  v51 := Tryz.zeroValue192
  t53 := Tryz.underlying194
  a53 := Tryz.isAgg194
  z53 := Tryz.sizeOf194
  v53 := Tryz.zeroValue194
  t131 := Tryz.underlying93
  a131 := Tryz.isAgg93
  z131 := Tryz.sizeOf93
  v131 := Tryz.zeroValue93
  t182 := Tryz.underlying185
  a182 := Tryz.isAgg185
  z182 := Tryz.sizeOf185
  v182 := Tryz.zeroValue185
  t183 := Tryz.underlying186
  a183 := Tryz.isAgg186
  z183 := Tryz.sizeOf186
  v183 := Tryz.zeroValue186
  t218 := Tryz.underlying198
  a218 := Tryz.isAgg198
  z218 := Tryz.sizeOf198
  v218 := Tryz.zeroValue198
  t222 := Tryz.underlying202
  a222 := Tryz.isAgg202
  z222 := Tryz.sizeOf202
  v222 := Tryz.zeroValue202
  t228 := Tryz.underlying205
  a228 := Tryz.isAgg205
  z228 := Tryz.sizeOf205
  v228 := Tryz.zeroValue205
  t229 := Tryz.underlying206
  a229 := Tryz.isAgg206
  z229 := Tryz.sizeOf206
  v229 := Tryz.zeroValue206 }
open Go.Sort Go.RowKit in
theorem slices_Sort_string (blk off cap : Nat) (ss : List (List UInt8)) (w : World) (hH : Holds encStr w blk off ss.toArray) (hblk : blk < w.heap.size) (hsz : ss.length < 4611686018427387904) :
    Calls Tryz.prog 129 #[.slice (some ⟨blk, off, none⟩) ss.length cap] w fun e w' =>
      e = .returned (.tuple #[]) ∧ ∃ n os, w' = grow (putRow encStr (Sort.ahead w n) blk off (ss.mergeSort fun x y => decide (x ≤ y)).toArray) os := Any.slices_Sort_string lays190 blk off cap ss w hH hblk hsz
def lays207_ren : Go.Shelf.Ren := ⟨fun | 207 => 184 | n => n, fun | 9 => 9 | 4 => 4 | 3 => 3 | n => n, fun | n => n⟩
theorem lays207 : Go.Proofs.Lays.n207 Tryz.prog lays207_ren := {
  mixed := by kernel_rfl
  f207 := Tryz.func184.trans (congrArg some (by kernel_rfl))
  t3 := Tryz.underlying3
  a3 := Tryz.isAgg3
  z3 := Tryz.sizeOf3
  v3 := Tryz.zeroValue3
  t4 := Tryz.underlying4
  a4 := Tryz.isAgg4
  z4 := Tryz.sizeOf4
  v4 := Tryz.zeroValue4
  t9 := Tryz.underlying9
  a9 := Tryz.isAgg9
  z9 := Tryz.sizeOf9
  v9 := Tryz.zeroValue9 }
open Go.RowKit Go.Lib in
theorem stringslite_HasSuffix (s p : ByteArray) (w : World) (hs : s.size ≤ 9223372036854775807) :
    Calls Tryz.prog 184 #[.string s, .string p] w fun e w' => e = .returned (.bool (Lib.hasSuffix s.data.toList p.data.toList)) ∧ w' = w := Any.stringslite_HasSuffix lays207 s p w hs
def lays100_ren : Go.Shelf.Ren := ⟨fun | 100 => 163 | 207 => 184 | n => n, fun | 9 => 9 | 4 => 4 | 3 => 3 | n => n, fun | n => n⟩
theorem lays100 : Go.Proofs.Lays.n100 Tryz.prog lays100_ren := {
  mixed := by kernel_rfl
  f100 := Tryz.func163.trans (congrArg some (by kernel_rfl))
  f207 := Tryz.func184.trans (congrArg some (by kernel_rfl))
  t3 := Tryz.underlying3
  a3 := Tryz.isAgg3
  z3 := Tryz.sizeOf3
  v3 := Tryz.zeroValue3
  t4 := Tryz.underlying4
  a4 := Tryz.isAgg4
  z4 := Tryz.sizeOf4
  v4 := Tryz.zeroValue4
  t9 := Tryz.underlying9
  a9 := Tryz.isAgg9
  z9 := Tryz.sizeOf9
  v9 := Tryz.zeroValue9 }
open Go.RowKit Go.Lib in
theorem strings_HasSuffix (s p : ByteArray) (w : World) (hs : s.size ≤ 9223372036854775807) :
    Calls Tryz.prog 163 #[.string s, .string p] w fun e w' => e = .returned (.bool (Lib.hasSuffix s.data.toList p.data.toList)) ∧ w' = w := Any.strings_HasSuffix lays100 s p w hs
def lays108_ren : Go.Shelf.Ren := ⟨fun | 108 => 48 | n => n, fun | 28 => 67 | 3 => 3 | 0 => 0 | 4 => 4 | n => n, fun | n => n⟩
theorem lays108 : Go.Proofs.Lays.n108 Tryz.prog lays108_ren := {
  mixed := by kernel_rfl
  f108 := Tryz.func48.trans (congrArg some (by kernel_rfl))
  t0 := Tryz.underlying0
  a0 := Tryz.isAgg0
  z0 := Tryz.sizeOf0
  v0 := Tryz.zeroValue0
  t3 := Tryz.underlying3
  a3 := Tryz.isAgg3
  z3 := Tryz.sizeOf3
  v3 := Tryz.zeroValue3
  t4 := Tryz.underlying4
  a4 := Tryz.isAgg4
  z4 := Tryz.sizeOf4
  v4 := Tryz.zeroValue4
  t28 := Tryz.underlying67
  a28 := Tryz.isAgg67
  z28 := Tryz.sizeOf67
  v28 := Tryz.zeroValue67 }
open Go.Lib in
theorem slices_Index_int (b off n c : Nat) (zs : List Int) (x : Int) (w : World) (hz : n ≤ zs.length) (hbig : n ≤ 9223372036854775807) (hc : ∀ j, j < zs.length → w.cell? ⟨b, off + j, none⟩ = some (.int .i64 (zs.getD j 0))) :
    Calls Tryz.prog 48 #[.slice (some ⟨b, off, none⟩) n c, .int .i64 x] w fun e w' => e = .returned (.int .i64 (Lib.idxOf (zs.take n) x)) ∧ w' = w := Any.slices_Index_int lays108 b off n c zs x w hz hbig hc
open Go.Lib in
theorem slices_Index_int_empty (a : Option Addr) (c : Nat) (x : Int) (w : World) :
    Calls Tryz.prog 48 #[.slice a 0 c, .int .i64 x] w fun e w' => e = .returned (.int .i64 (Lib.idxOf [] x)) ∧ w' = w := Any.slices_Index_int_empty lays108 a c x w
def lays109_ren : Go.Shelf.Ren := ⟨fun | 109 => 153 | n => n, fun | 31 => 90 | 9 => 9 | 3 => 3 | 0 => 0 | 4 => 4 | n => n, fun | n => n⟩
theorem lays109 : Go.Proofs.Lays.n109 Tryz.prog lays109_ren := {
  mixed := by kernel_rfl
  f109 := Tryz.func153.trans (congrArg some (by kernel_rfl))
  t0 := Tryz.underlying0
  a0 := Tryz.isAgg0
  z0 := Tryz.sizeOf0
  v0 := Tryz.zeroValue0
  t3 := Tryz.underlying3
  a3 := Tryz.isAgg3
  z3 := Tryz.sizeOf3
  v3 := Tryz.zeroValue3
  t4 := Tryz.underlying4
  a4 := Tryz.isAgg4
  z4 := Tryz.sizeOf4
  v4 := Tryz.zeroValue4
  t9 := Tryz.underlying9
  a9 := Tryz.isAgg9
  z9 := Tryz.sizeOf9
  v9 := Tryz.zeroValue9
  t31 := Tryz.underlying90
  a31 := Tryz.isAgg90
  z31 := Tryz.sizeOf90
  v31 := Tryz.zeroValue90 }
open Go.Lib in
theorem slices_Index_string (b off n c : Nat) (zs : List ByteArray) (x : ByteArray) (w : World) (hz : n ≤ zs.length) (hbig : n ≤ 9223372036854775807) (hc : ∀ j, j < zs.length → w.cell? ⟨b, off + j, none⟩ = some (.string (zs.getD j ByteArray.empty))) :
    Calls Tryz.prog 153 #[.slice (some ⟨b, off, none⟩) n c, .string x] w fun e w' => e = .returned (.int .i64 (Lib.idxOfS (zs.take n) x)) ∧ w' = w := Any.slices_Index_string lays109 b off n c zs x w hz hbig hc
open Go.Lib in
theorem slices_Index_string_empty (a : Option Addr) (c : Nat) (x : ByteArray) (w : World) :
    Calls Tryz.prog 153 #[.slice a 0 c, .string x] w fun e w' => e = .returned (.int .i64 (Lib.idxOfS [] x)) ∧ w' = w := Any.slices_Index_string_empty lays109 a c x w
def lays110_ren : Go.Shelf.Ren := ⟨fun | 110 => 118 | 109 => 153 | n => n, fun | 31 => 90 | 9 => 9 | 4 => 4 | 3 => 3 | 0 => 0 | n => n, fun | n => n⟩
theorem lays110 : Go.Proofs.Lays.n110 Tryz.prog lays110_ren := {
  mixed := by kernel_rfl
  f109 := Tryz.func153.trans (congrArg some (by kernel_rfl))
  f110 := Tryz.func118.trans (congrArg some (by kernel_rfl))
  t0 := Tryz.underlying0
  a0 := Tryz.isAgg0
  z0 := Tryz.sizeOf0
  v0 := Tryz.zeroValue0
  t3 := Tryz.underlying3
  a3 := Tryz.isAgg3
  z3 := Tryz.sizeOf3
  v3 := Tryz.zeroValue3
  t4 := Tryz.underlying4
  a4 := Tryz.isAgg4
  z4 := Tryz.sizeOf4
  v4 := Tryz.zeroValue4
  t9 := Tryz.underlying9
  a9 := Tryz.isAgg9
  z9 := Tryz.sizeOf9
  v9 := Tryz.zeroValue9
  t31 := Tryz.underlying90
  a31 := Tryz.isAgg90
  z31 := Tryz.sizeOf90
  v31 := Tryz.zeroValue90 }
open Go.Lib in
theorem slices_Contains_string (b off n c : Nat) (zs : List ByteArray) (x : ByteArray) (w : World) (hz : n ≤ zs.length) (hbig : n ≤ 9223372036854775807) (hc : ∀ j, j < zs.length → w.cell? ⟨b, off + j, none⟩ = some (.string (zs.getD j ByteArray.empty))) :
    Calls Tryz.prog 118 #[.slice (some ⟨b, off, none⟩) n c, .string x] w fun e w' => e = .returned (.bool (Lib.containsS (zs.take n) x)) ∧ w' = w := Any.slices_Contains_string lays110 b off n c zs x w hz hbig hc
open Go.Lib in
theorem slices_Contains_string_empty (a : Option Addr) (c : Nat) (x : ByteArray) (w : World) :
    Calls Tryz.prog 118 #[.slice a 0 c, .string x] w fun e w' => e = .returned (.bool false) ∧ w' = w := Any.slices_Contains_string_empty lays110 a c x w
def laysNm216_ren : Go.Shelf.Ren := ⟨fun | 16 => 128 | n => n, fun | 24 => 90 | 9 => 9 | 4 => 4 | n => n, fun | n => n⟩
theorem laysNm216 : Go.Proofs.Lays2.n16 Tryz.prog laysNm216_ren := {
  mixed := by kernel_rfl
  f16 := Tryz.func128.trans (congrArg some (by kernel_rfl))
  t4 := Tryz.underlying4
  a4 := Tryz.isAgg4
  z4 := Tryz.sizeOf4
  v4 := Tryz.zeroValue4
  t9 := Tryz.underlying9
  a9 := Tryz.isAgg9
  z9 := Tryz.sizeOf9
  v9 := Tryz.zeroValue9
  t24 := Tryz.underlying90
  a24 := Tryz.isAgg90
  z24 := Tryz.sizeOf90
  v24 := Tryz.zeroValue90
  i9 := by kernel_rfl }
open Go.RowKit Go.Lib in
theorem slices_Clone_string (b off n c : Nat) (zs : List ByteArray) (w : World) (hz : n ≤ zs.length) (hbig : n * 16 ≤ 140737488355328) (hc : ∀ j, j < zs.length → w.cell? ⟨b, off + j, none⟩ = some (.string (zs.getD j ByteArray.empty))) :
    Calls Tryz.prog 128 #[.slice (some ⟨b, off, none⟩) n c] w fun e w' => ∃ v', e = .returned v' ∧ w'.ownsRow w.heap.size 9 1 v' n ((zs.take n).map (Value.string)) ∧ v' ≠ .slice none 0 0 ∧ Below w.heap.size w w' := Any.slices_Clone_string laysNm216 b off n c zs w hz hbig hc
open Go.RowKit Go.Lib in
theorem slices_Clone_string_nil (n c : Nat) (w : World) :
    Calls Tryz.prog 128 #[.slice none n c] w fun e w' => e = .returned (.slice none 0 0) ∧ w' = w := Any.slices_Clone_string_nil laysNm216 n c w
open Go.RowKit Go.Lib in
theorem slices_Clone_string_zero (a : Addr) (c : Nat) (w : World) :
    Calls Tryz.prog 128 #[.slice (some a) 0 c] w fun e w' => ∃ v', e = .returned v' ∧ w'.ownsRow w.heap.size 9 1 v' 0 [] ∧ v' ≠ .slice none 0 0 ∧ Below w.heap.size w w' := Any.slices_Clone_string_zero laysNm216 a c w
def lays194_ren : Go.Shelf.Ren := ⟨fun | 194 => 130 | n => n, fun | 31 => 90 | 9 => 9 | 3 => 3 | 4 => 4 | 0 => 0 | n => n, fun | n => n⟩
theorem lays194 : Go.Proofs.Lays.n194 Tryz.prog lays194_ren := {
  mixed := by kernel_rfl
  f194 := Tryz.func130.trans (congrArg some (by kernel_rfl))
  t0 := Tryz.underlying0
  a0 := Tryz.isAgg0
  z0 := Tryz.sizeOf0
  v0 := Tryz.zeroValue0
  t3 := Tryz.underlying3
  a3 := Tryz.isAgg3
  z3 := Tryz.sizeOf3
  v3 := Tryz.zeroValue3
  t4 := Tryz.underlying4
  a4 := Tryz.isAgg4
  z4 := Tryz.sizeOf4
  v4 := Tryz.zeroValue4
  t9 := Tryz.underlying9
  a9 := Tryz.isAgg9
  z9 := Tryz.sizeOf9
  v9 := Tryz.zeroValue9
  t31 := Tryz.underlying90
  a31 := Tryz.isAgg90
  z31 := Tryz.sizeOf90
  v31 := Tryz.zeroValue90 }
open Go.RowKit Go.Lib Go.Sort in
theorem slices_Compact_string_arr (blk off cap : Nat) (d : Array (List UInt8)) (w : World) (hH : Holds encStr w blk off d) (hsz : d.size ≤ 9223372036854775807) (hcap : d.size ≤ cap) :
    Calls Tryz.prog 130 #[.slice (some ⟨blk, off, none⟩) d.size cap] w fun e w' => e = .returned (.slice (some ⟨blk, off, none⟩) (compactUpTo d d.size).length cap) ∧ ∃ q, w' = putRow encStr (Sort.ahead w q) blk off (compactUpTo d d.size ++ List.replicate (d.size - (compactUpTo d d.size).length) []).toArray := Any.slices_Compact_string_arr lays194 blk off cap d w hH hsz hcap
open Go.RowKit Go.Lib Go.Sort in
theorem slices_Compact_string (blk off cap : Nat) (zs : List (List UInt8)) (w : World) (hH : Holds encStr w blk off zs.toArray) (hsz : zs.length ≤ 9223372036854775807) (hcap : zs.length ≤ cap) :
    Calls Tryz.prog 130 #[.slice (some ⟨blk, off, none⟩) zs.length cap] w fun e w' => e = .returned (.slice (some ⟨blk, off, none⟩) (Lib.compact zs).length cap) ∧ ∃ q, w' = putRow encStr (Sort.ahead w q) blk off (Lib.compact zs ++ List.replicate (zs.length - (Lib.compact zs).length) []).toArray := Any.slices_Compact_string lays194 blk off cap zs w hH hsz hcap
open Go.RowKit Go.Lib Go.Sort in
theorem slices_Compact_string_empty (a : Option Addr) (cap : Nat) (w : World) :
    Calls Tryz.prog 130 #[.slice a 0 cap] w fun e w' => e = .returned (.slice a 0 cap) ∧ w' = w := Any.slices_Compact_string_empty lays194 a cap w
open Go.RowKit Go.Lib Go.Sort in
theorem slices_Compact_string_cells (b off n c : Nat) (Sx : Nat → ByteArray) (w : World) (hbig : n ≤ 9223372036854775807) (hcap : n ≤ c) (hc : ∀ i, i < n → w.cell? ⟨b, off + i, none⟩ = some (.string (Sx i))) (hf : ∀ j, j < n → w.frozen? ⟨b, off + j, none⟩ = false) :
    Calls Tryz.prog 130 #[.slice (some ⟨b, off, none⟩) n c] w fun e w' => e = .returned (.slice (some ⟨b, off, none⟩) (Lib.compact (Lib.strsOf Sx n)).length c) ∧ ∃ q, w' = (w.drewN q).setCells b off ((Lib.compact (Lib.strsOf Sx n) ++ List.replicate (n - (Lib.compact (Lib.strsOf Sx n)).length) []).map encStr) := Any.slices_Compact_string_cells lays194 b off n c Sx w hbig hcap hc hf
open Go.RowKit Go.Sort in
theorem slices_Sort_string_none (p : Option Addr) (cap : Nat) (w : World) :
    Calls Tryz.prog 129 #[.slice p 0 cap] w fun e w' => e = .returned (.tuple #[]) ∧ w' = w := Any.slices_Sort_string_none lays190 p cap w
end Go.Proofs.YtmglgjchemecjaaGreat.XNames
/- More of the common ground. -/
namespace Go.Proofs.YtmglgjchemecjaaGreat.Kit
set_option maxRecDepth 200000
open Go.ChangeShapes Go.WideShapes Go.ChangeAt Go.RowKit
theorem own_base {w : World} {base base' : Nat} {e : TypeId} {size : Nat} {v : Value} {n : Nat} {xs : List Value} (h : w.ownsRow base e size v n xs) (hb : base' ≤ base) : w.ownsRow base' e size v n xs :=
  ⟨h.1, h.2.imp id fun ⟨g, cap, cur, a, b, r⟩ => ⟨g, cap, cur, a, Nat.le_trans hb b, r⟩⟩
theorem own_capm {w : World} {base : Nat} {e : TypeId} {size n c : Nat} {A : Option Addr} {xs : List Value} (h : w.ownsRow base e size (.slice A n c) n xs) : c ≤ maxLen := by
  rcases h.2 with ⟨hv, _⟩ | ⟨g, cap, cur, hv, _, _, _, hc, _⟩
  · injection hv with _ _ h3
    omega
  · injection hv with _ _ h3
    omega
/-- A row made after another one does not see the other's marks. -/
theorem own_apart {w w' : World} {base : Nat} {e : TypeId} {size : Nat} {v u : Value} {n : Nat} {xs : List Value} (h : w.ownsRow base e size v n xs) (hg : w.grownBy w' u.ownBlock) (hu : ∀ k, u.ownBlock = some k → k < base) : w'.ownsRow base e size v n xs := by
  refine h.kept hg ?_
  cases hv : v.ownBlock with
  | none => exact .inl rfl
  | some k =>
    refine .inr fun e => ?_
    have h1 := (h.lt k hv).1
    have h2 := hu k e.symm
    omega
end Go.Proofs.YtmglgjchemecjaaGreat.Kit
/- More of the common ground: a block known whole beside rows of the call's own. -/
namespace Go.Proofs.YtmglgjchemecjaaGreat.Kit
set_option maxRecDepth 200000
open Go.ChangeShapes Go.WideShapes Go.ChangeAt Go.RowKit
theorem own_keep {w w' : World} {base : Nat} {e : TypeId} {size n : Nat} {v : Value} {xs : List Value} (h : w.ownsRow base e size v n xs) (hk : ∀ k, v.ownBlock = some k → w'.heap[k]? = w.heap[k]?) : w'.ownsRow base e size v n xs := by
  refine ⟨h.1, ?_⟩
  rcases h.2 with hn | ⟨g, cap, cur, rfl, hbg, hg, rest⟩
  · exact .inl hn
  · exact .inr ⟨g, cap, cur, rfl, hbg, (hk g rfl).trans hg, rest⟩
/-- Two blocks of different types are two. -/
theorem own_box {w : World} {base X : Nat} {e t : TypeId} {size n : Nat} {v : Value} {xs : List Value} {cs : Array Value} (h : w.ownsRow base e size v n xs) (hb : Box w X t cs) (hne : e ≠ t) : ∀ k, v.ownBlock = some k → k ≠ X := by
  intro k hk hX
  subst hX
  rcases h.2 with ⟨rfl, _⟩ | ⟨g, cap, cur, rfl, _, hg, _⟩
  · cases hk
  · obtain rfl : g = k := by simpa [Value.ownBlock] using hk
    have := hb.symm.trans hg
    simp at this
    exact hne this.2.symm
theorem Box.grown {w w' : World} {X : Nat} {t : TypeId} {cs : Array Value} {row : Option Nat} (h : Box w X t cs) (hg : w.grownBy w' row) (hr : ∀ k, row = some k → k ≠ X) : Box w' X t cs :=
  (hg.block X h.lt (fun e => hr X e.symm rfl)).trans h
theorem own_setFar {w : World} {base : Nat} {e : TypeId} {size n : Nat} {v : Value} {xs : List Value} (h : w.ownsRow base e size v n xs) {a : Addr} (hne : ∀ k, v.ownBlock = some k → k ≠ a.block) (u : Value) : (w.setCell a u).ownsRow base e size v n xs :=
  own_keep h fun k hk => Below.heap_setCell w a u k (hne k hk)
theorem grown_refl (w : World) (row : Option Nat) : w.grownBy w row := ⟨rfl, rfl, rfl, Nat.le_refl _, fun _ _ _ => rfl⟩
theorem grown_trans {a w w' : World} {row : Option Nat} (h : a.grownBy w row) (k : w.grownBy w' row) : a.grownBy w' row :=
  ⟨k.os.trans h.os, k.tape.trans h.tape, k.output.trans h.output, Nat.le_trans h.size k.size, fun i hi hr => (k.block i (Nat.lt_of_lt_of_le hi h.size) hr).trans (h.block i hi hr)⟩
theorem grown_below {a w w' : World} {row : Option Nat} (h : a.grownBy w row) (hb : Below w.heap.size w w') : a.grownBy w' row :=
  grown_trans h ⟨hb.os, hb.tape, hb.output, hb.size, fun i hi _ => hb.block i hi⟩
theorem grown_alloc {a w : World} {row : Option Nat} (h : a.grownBy w row) (o : Obj) : a.grownBy (w.alloc o) row := grown_below h ((Below.refl _ _).alloc (Nat.le_refl _) o)
theorem grown_set {a w : World} {R i : Nat} (h : a.grownBy w (some R)) (v : Value) : a.grownBy (w.setCell ⟨R, i, none⟩ v) (some R) :=
  ⟨h.os, h.tape, h.output, by simpa [World.setCell] using h.size, fun k hk hne => (Below.heap_setCell w ⟨R, i, none⟩ v k (fun e => hne (by rw [e]))).trans (h.block k hk hne)⟩
theorem grown_own {a w w' : World} {row : Option Nat} {v : Option Nat} (h : a.grownBy w row) (k : w.grownBy w' v) (hv : ∀ k, v = some k → a.heap.size ≤ k) : a.grownBy w' row :=
  ⟨k.os.trans h.os, k.tape.trans h.tape, k.output.trans h.output, Nat.le_trans h.size k.size, fun i hi hr => (k.block i (Nat.lt_of_lt_of_le hi h.size) (fun e => by have := hv i e.symm; omega)).trans (h.block i hi hr)⟩
theorem grown_drewN {a w : World} {row : Option Nat} (h : a.grownBy w row) (n : Nat) : a.grownBy (w.drewN n) row := ⟨h.os, h.tape, h.output, h.size, h.block⟩
theorem grown_drew {a w : World} {row : Option Nat} (h : a.grownBy w row) : a.grownBy w.drew row := ⟨h.os, h.tape, h.output, h.size, h.block⟩
/-- What is turned is one block of the call's own. -/
theorem below_of_grown {B : Nat} {a w w' : World} {R : Nat} (h : Below B a w) (hg : w.grownBy w' (some R)) (hB : B ≤ w.heap.size) (hR : B ≤ R) : Below B a w' :=
  h.grown hg hB (fun k hk => by injection hk with hk; omega)
theorem oneI {k : IntKind} {zs : List Int} : ∀ u ∈ ints k zs, u.oneCell' = true := by
  intro u hu
  obtain ⟨z, _, rfl⟩ := List.mem_map.1 hu
  rfl
theorem ints_app (k : IntKind) (xs ys : List Int) : ints k xs ++ ints k ys = ints k (xs ++ ys) := by simp [ints]
/-- 'append(out, s...)' where the operation stands alone: both rows are the call's own (nil let in). -/
theorem wp_appO {P : Program} {o : Oper} {a : Act} {K : Act → World → Prop} {Q : Exit → Act → World → Prop} (w : World) (s x : Operand) (t : TypeId)
    (ho : o.op = .call { callee := .builtin .append, args := #[s, x], argTypes := #[t, t] })
    (base base2 : Nat) (e : TypeId) (i : TypeInfo) (z : Value) (size bytes : Nat) (ht : P.underlying t = some (.slice e)) (hi : P.info? e = some i) (hz : i.zero = some z)
    (hsize : i.size = size) (hby : i.bytes = bytes) (hzs : z.cells.size = size) (hsz : 0 < size)
    (A : Option Addr) (m c : Nat) (news : List Value) (hx : a.eval x = .slice A m c) (hsrc : w.ownsRow base2 e size (.slice A m c) m news) (h1 : ∀ u ∈ news, u.oneCell' = true)
    (v : Value) (n : Nat) (xs : List Value) (hs : a.eval s = v) (hown : w.ownsRow base e size v n xs) (hn : n + m ≤ maxLen) (hbytes : (n + m) * bytes ≤ 140737488355328) (hbase : base ≤ w.heap.size)
    (h : ∀ A' n' c' w', n' = n + m → w'.ownsRow base e size (.slice A' n' c') n' (xs ++ news) → w.grownBy w' v.ownBlock → K (a.put o.dst (.slice A' n' c')) w') :
    o.wp P a w K Q := by
  rcases hsrc.2 with ⟨hv, rfl⟩ | ⟨g, cap, cur, hv, _⟩
  · injection hv with hA _ hc
    subst hA hc
    have hnil : news = [] := List.eq_nil_of_length_eq_zero (by simpa using hsrc.1)
    subst hnil
    have hrun := run_append_owned_none (P := P) (w := w) base t o.type e i size ht hi v n xs hown
    unfold Oper.wp
    simp [execOp, ho, resolve, invoke, builtin, hs, hx, hrun, Result.andThen]
    rcases hown.2 with ⟨rfl, rfl⟩ | ⟨g, cap, cur, rfl, r⟩
    · exact h _ _ _ w rfl (by simpa using hown) (World.grownBy.refl w _)
    · exact h _ _ _ w rfl (by simpa using hown) (World.grownBy.refl w _)
  · injection hv with hA _ hc
    subst hA
    refine wp_append_own w s x t ho base e i z size bytes ht hi hz hsize hby hzs hsz v n xs hs hown ⟨g, 0, none⟩ m c news hx hsrc.1 (hsrc.cells (g := g) rfl) h1 hn hbytes hbase ?_
    intro v' w' hown' hg hnil
    rcases hown'.2 with ⟨rfl, h0⟩ | ⟨g', cap', cur', rfl, r⟩
    · have hn0 : n + m = 0 := h0
      exact h _ _ _ w' hn0.symm (by rw [hn0] at hown'; exact hown') hg
    · exact h _ _ _ w' rfl hown' hg
/-- The same behind a guard that lets it run. -/
theorem wpList_appOw {P : Program} (w : World) {ops : Array Oper} {rest : List Oper} {o : Oper} {a : Act} {Q : Exit → Act → World → Prop} (hw : Region.wanted o (yielded ops a.tmps) = true) (s x : Operand) (t : TypeId)
    (ho : o.op = .call { callee := .builtin .append, args := #[s, x], argTypes := #[t, t] })
    (base base2 : Nat) (e : TypeId) (i : TypeInfo) (z : Value) (size bytes : Nat) (ht : P.underlying t = some (.slice e)) (hi : P.info? e = some i) (hz : i.zero = some z)
    (hsize : i.size = size) (hby : i.bytes = bytes) (hzs : z.cells.size = size) (hsz : 0 < size)
    (A : Option Addr) (m c : Nat) (news : List Value) (hx : a.eval x = .slice A m c) (hsrc : w.ownsRow base2 e size (.slice A m c) m news) (h1 : ∀ u ∈ news, u.oneCell' = true)
    (v : Value) (n : Nat) (xs : List Value) (hs : a.eval s = v) (hown : w.ownsRow base e size v n xs) (hn : n + m ≤ maxLen) (hbytes : (n + m) * bytes ≤ 140737488355328) (hbase : base ≤ w.heap.size)
    (h : ∀ A' n' c' w', n' = n + m → w'.ownsRow base e size (.slice A' n' c') n' (xs ++ news) → w.grownBy w' v.ownBlock → wpList P ops Q rest (a.put o.dst (.slice A' n' c')) w') :
    wpList P ops Q (o :: rest) a w := by
  rw [wpList, if_pos hw]
  exact .inl (wp_appO w s x t ho base base2 e i z size bytes ht hi hz hsize hby hzs hsz A m c news hx hsrc h1 v n xs hs hown hn hbytes hbase h)
/-- The same at a step of a region that draws its order. -/
theorem step_appO {P : Program} {ops : Array Oper} {o : Oper} {a : Act} {K : Act → World → Prop} {Q : Exit → Act → World → Prop} {E : Prop} {w : World} (hgd : o.guard = none) (s x : Operand) (t : TypeId)
    (ho : o.op = .call { callee := .builtin .append, args := #[s, x], argTypes := #[t, t] })
    (base base2 : Nat) (e : TypeId) (i : TypeInfo) (z : Value) (size bytes : Nat) (ht : P.underlying t = some (.slice e)) (hi : P.info? e = some i) (hz : i.zero = some z)
    (hsize : i.size = size) (hby : i.bytes = bytes) (hzs : z.cells.size = size) (hsz : 0 < size)
    (A : Option Addr) (m c : Nat) (news : List Value) (hx : a.eval x = .slice A m c) (hsrc : w.ownsRow base2 e size (.slice A m c) m news) (h1 : ∀ u ∈ news, u.oneCell' = true)
    (v : Value) (n : Nat) (xs : List Value) (hs : a.eval s = v) (hown : w.ownsRow base e size v n xs) (hn : n + m ≤ maxLen) (hbytes : (n + m) * bytes ≤ 140737488355328) (hbase : base ≤ w.heap.size)
    (h : ∀ A' n' c' w', n' = n + m → w'.ownsRow base e size (.slice A' n' c') n' (xs ++ news) → w.grownBy w' v.ownBlock → K (a.put o.dst (.slice A' n' c')) w') :
    if Region.wanted o (yielded ops a.tmps) = true then Oper.wp P o a w K Q else E := by
  have hw : Region.wanted o (yielded ops a.tmps) = true := by simp [Region.wanted, hgd]
  rw [if_pos hw]
  exact wp_appO w s x t ho base base2 e i z size bytes ht hi hz hsize hby hzs hsz A m c news hx hsrc h1 v n xs hs hown hn hbytes hbase h
/-- A []int that comes in. -/
theorem arg_ints {P : Program} {w : World} {t e : TypeId} {H : Type} {enc : TypeId × Value → H} {base b0 : Nat} {sp : Nat → Bool} {held : Bool} {r : Reach} {v : Value} {d : DataW H} {ps : List MemPlace} (ht : P.underlying t = some (.slice e)) (he : P.underlying e = some (.int .i64))
    (hv : Value.okWide P w r b0 t v) (h : DataW.Trod enc P w base sp held t v d ps) :
    ∃ (A : Option Addr) (zs : List Int) (c : Nat), v = .slice A zs.length c ∧ zs.length ≤ c ∧ c ≤ maxLen ∧ Rd w w.heap.size A (Kit.ints .i64 zs) ∧ InR (-9223372036854775808) 9223372036854775807 zs := by
  obtain ⟨a, l, c, rfl⟩ := okWide_slice ht hv
  obtain ⟨A, zs, c', e1, h1, h2, h3, h4⟩ := (Trd.of_trod h).ints ht he
  simp [Value.cells] at e1
  obtain ⟨rfl, rfl, rfl⟩ := e1
  exact ⟨_, zs, _, rfl, h1, h2, h3, wf_i64s h4⟩
theorem grown_cell {w w' : World} {row : Option Nat} {a : Addr} (hg : w.grownBy w' row) (hlt : a.block < w.heap.size) (hne : ∀ k, row = some k → k ≠ a.block) : w'.cell? a = w.cell? a :=
  World.cell?_of_block (hg.block a.block hlt (fun e => hne _ e.symm rfl))
theorem own_drawn {w w' : World} {base : Nat} {e : TypeId} {size n : Nat} {v : Value} {xs : List Value} (h : w.ownsRow base e size v n xs) (hh : w'.heap = w.heap) : w'.ownsRow base e size v n xs :=
  own_keep h fun k _ => by rw [hh]
end Go.Proofs.YtmglgjchemecjaaGreat.Kit
/- More of the common ground: a list that is read, appended to a row of the call's own. -/
namespace Go.Proofs.YtmglgjchemecjaaGreat.Kit
set_option maxRecDepth 200000
open Go.ChangeShapes Go.WideShapes Go.ChangeAt Go.RowKit
/-- 'out = append(out, s...)': out is a row of the call's own, s is read. -/
theorem wpList_appR {P : Program} (w : World) {ops : Array Oper} {rest : List Oper} {o : Oper} {a : Act} {Q : Exit → Act → World → Prop} (hgd : o.guard = none) (s x : Operand) (t : TypeId)
    (ho : o.op = .call { callee := .builtin .append, args := #[s, x], argTypes := #[t, t] })
    (base : Nat) (e : TypeId) (i : TypeInfo) (z : Value) (size bytes : Nat) (ht : P.underlying t = some (.slice e)) (hi : P.info? e = some i) (hz : i.zero = some z)
    (hsize : i.size = size) (hby : i.bytes = bytes) (hzs : z.cells.size = size) (hsz : 0 < size)
    {B : Nat} (A : Option Addr) (m c : Nat) (news : List Value) (hx : a.eval x = .slice A m c) (hrd : Rd w B A news) (hl : news.length = m * size) (hnil : A = none → c = 0) (h1 : ∀ u ∈ news, u.oneCell' = true)
    (v : Value) (n : Nat) (xs : List Value) (hs : a.eval s = v) (hown : w.ownsRow base e size v n xs) (hn : n + m ≤ maxLen) (hbytes : (n + m) * bytes ≤ 140737488355328) (hbase : base ≤ w.heap.size)
    (h : ∀ A' n' c' w', n' = n + m → w'.ownsRow base e size (.slice A' n' c') n' (xs ++ news) → w.grownBy w' v.ownBlock → wpList P ops Q rest (a.put o.dst (.slice A' n' c')) w') :
    wpList P ops Q (o :: rest) a w := by
  cases A with
  | none =>
    have hc := hnil rfl
    subst hc
    have hnews : news = [] := by
      cases news with
      | nil => rfl
      | cons u r =>
        obtain ⟨b, off, e', _⟩ := hrd 0 u rfl
        cases e'
    subst hnews
    have hm : m = 0 := by
      simp only [List.length_nil] at hl
      rcases Nat.mul_eq_zero.1 hl.symm with h0 | h0
      · exact h0
      · omega
    subst hm
    refine wpList_append_own_none hgd s x t ho base e i size ht hi v n xs hs hown hx ?_
    rcases hown.2 with ⟨rfl, rfl⟩ | ⟨g, cap, cur, rfl, r⟩
    · exact h _ _ _ w rfl (by simpa using hown) (World.grownBy.refl w _)
    · exact h _ _ _ w rfl (by simpa using hown) (World.grownBy.refl w _)
  | some ad =>
    have hnews : ∀ j u, news[j]? = some u → w.cell? (ad.add j) = some u := fun j u hj => by
      obtain ⟨b, off, e', _, hc⟩ := hrd j u hj
      injection e' with e'
      subst e'
      have hadd : (⟨b, off, none⟩ : Addr).add j = ⟨b, off + j, none⟩ := (addr_form rfl j).2
      rw [hadd]
      exact hc
    refine wpList_append_own _ hgd s x t ho base e i z size bytes ht hi hz hsize hby hzs hsz v n xs hs hown ad m c news hx hl hnews h1 hn hbytes hbase ?_
    intro v' w' hown' hg hnil'
    rcases hown'.2 with ⟨rfl, h0⟩ | ⟨g', cap', cur', rfl, r⟩
    · have hn0 : n + m = 0 := h0
      exact h _ _ _ w' hn0.symm (by rw [hn0] at hown'; exact hown') hg
    · exact h _ _ _ w' rfl hown' hg
theorem own_nil {w : World} {base : Nat} {e : TypeId} {size n c : Nat} {A : Option Addr} {xs : List Value} (h : w.ownsRow base e size (.slice A n c) n xs) : A = none → c = 0 := by
  intro hA
  rcases h.2 with ⟨hv, _⟩ | ⟨g, cap, cur, hv, _⟩
  · injection hv
  · injection hv with hA'
    rw [hA] at hA'
    cases hA'
/-- A row that was there before the block that turns. -/
theorem own_older {w w' : World} {base X : Nat} {e : TypeId} {size : Nat} {v : Value} {n : Nat} {xs : List Value} {row : Option Nat} (h : w.ownsRow base e size v n xs) (g : w.grownBy w' row) (hv : ∀ k, v.ownBlock = some k → k < X) (hr : ∀ k, row = some k → X ≤ k) : w'.ownsRow base e size v n xs :=
  own_keep h fun k hk => g.block k (h.lt k hk).2 (fun e => by have h1 := hv k hk; have h2 := hr k e.symm; omega)
/-- The first elements of a row. -/
theorem own_prefix {w : World} {base n c k : Nat} {e : TypeId} {size : Nat} {A : Option Addr} {xs : List Value} (h : w.ownsRow base e size (.slice A n c) n xs) (hk : k ≤ n) : w.ownsRow base e size (.slice A k c) k (xs.take (k * size)) := by
  have hle : k * size ≤ n * size := Nat.mul_le_mul_right _ hk
  refine ⟨by rw [List.length_take, h.1]; omega, ?_⟩
  rcases h.2 with ⟨hv, h0⟩ | ⟨g, cap, cur, hv, hb, hg, hn, hc, hs, ht⟩
  · left
    injection hv with hA _ hc
    subst hA hc h0
    have : k = 0 := by omega
    subst this
    exact ⟨rfl, rfl⟩
  · right
    injection hv with hA _ hc'
    subst hA hc'
    refine ⟨g, c, cur, rfl, hb, hg, by omega, hc, hs, ?_⟩
    rw [← ht, List.take_take]
    congr 1
    omega
theorem own_raise {w : World} {base base' : Nat} {e : TypeId} {size : Nat} {v : Value} {n : Nat} {xs : List Value} (h : w.ownsRow base e size v n xs) (hk : ∀ k, v.ownBlock = some k → base' ≤ k) : w.ownsRow base' e size v n xs :=
  ⟨h.1, h.2.imp id fun ⟨g, cap, cur, a, b, r⟩ => ⟨g, cap, cur, a, hk g (by rw [a]; rfl), r⟩⟩
/-- 'out = append(out, x)' where out has no room at all: the answer lies in a new block. -/
theorem wpList_app1G {P : Program} (w : World) {ops : Array Oper} {rest : List Oper} {o : Oper} {a : Act} {Q : Exit → Act → World → Prop} (hgd : o.guard = none) (s x : Operand) (t : TypeId)
    (ho : o.op = .call { callee := .builtin .append, args := #[s, x], argTypes := #[t, t] })
    (e : TypeId) (i : TypeInfo) (z : Value) (size bytes : Nat) (ht : P.underlying t = some (.slice e)) (hi : P.info? e = some i) (hz : i.zero = some z)
    (hsize : i.size = size) (hby : i.bytes = bytes) (hzs : z.cells.size = size) (hsz : 0 < size)
    (cs : Array Value) (hx : a.eval x = .slice (some ⟨w.heap.size, 0, none⟩) 1 1) (hcs : cs.size = size) (h1 : ∀ u ∈ cs.toList, u.oneCell' = true)
    (ao : Addr) (hs : a.eval s = .slice (some ao) 0 0) (hbytes : 1 * bytes ≤ 140737488355328)
    (h : ∀ A' n' c' w', n' = 1 → w'.ownsRow (w.heap.size + 1) e size (.slice A' n' c') n' cs.toList → (w.alloc (.cells cs e)).grownBy w' none → wpList P ops Q rest (a.put o.dst (.slice A' n' c')) w') :
    wpList P ops Q (o :: rest) a (w.alloc (.cells cs e)) := by
  have hw : Region.wanted o (yielded ops a.tmps) = true := by simp [Region.wanted, hgd]
  rw [wpList, if_pos hw]
  refine .inl ?_
  have key := step_append_grows (P := P) (ops := ops) (o := o) (a := a) (w := w.alloc (.cells cs e)) (K := fun a w => wpList P ops Q rest a w) (Q := Q) (E := False) hgd s x t ho e i z size bytes ht hi hz hsize hby hzs hsz (some ao) 0 0 [] hs (fun h => by cases h) (by simp) (fun b _ j u hj => by simp at hj)
    ⟨w.heap.size, 0, none⟩ 1 1 cs.toList hx (by simpa using hcs) (cells_new w cs e) h1 (by omega) (by unfold maxLen; omega) (by omega) (fun v' w' hown hg => by
      rcases hown.2 with ⟨_, h0⟩ | ⟨g, cap, cur, hv, r⟩
      · omega
      · subst hv
        have hh := h (some ⟨g, 0, none⟩) (0 + 1) cap w' (by omega) (by simpa using hown) hg
        exact hh)
  rw [if_pos hw] at key
  exact key
/-- The same, the new block's number spelled otherwise. -/
theorem wpList_app1k {P : Program} (w : World) {ops : Array Oper} {rest : List Oper} {o : Oper} {a : Act} {Q : Exit → Act → World → Prop} (hgd : o.guard = none) (s x : Operand) (t : TypeId)
    (ho : o.op = .call { callee := .builtin .append, args := #[s, x], argTypes := #[t, t] })
    (base : Nat) (e : TypeId) (i : TypeInfo) (z : Value) (size bytes : Nat) (ht : P.underlying t = some (.slice e)) (hi : P.info? e = some i) (hz : i.zero = some z)
    (hsize : i.size = size) (hby : i.bytes = bytes) (hzs : z.cells.size = size) (hsz : 0 < size)
    (cs : Array Value) (X : Nat) (hx : a.eval x = .slice (some ⟨X, 0, none⟩) 1 1) (hX : X = w.heap.size) (hcs : cs.size = size) (h1 : ∀ u ∈ cs.toList, u.oneCell' = true)
    (v : Value) (n : Nat) (xs : List Value) (hs : a.eval s = v) (hown : w.ownsRow base e size v n xs) (hn : n + 1 ≤ maxLen) (hbytes : (n + 1) * bytes ≤ 140737488355328) (hbase : base ≤ w.heap.size)
    (h : ∀ A' n' c' w', n' = n + 1 → w'.ownsRow base e size (.slice A' n' c') n' (xs ++ cs.toList) → w.grownBy w' v.ownBlock → wpList P ops Q rest (a.put o.dst (.slice A' n' c')) w') :
    wpList P ops Q (o :: rest) a (w.alloc (.cells cs e)) := by
  subst hX
  exact wpList_app1 w hgd s x t ho base e i z size bytes ht hi hz hsize hby hzs hsz cs hx hcs h1 v n xs hs hown hn hbytes hbase h
theorem wpList_app1Gk {P : Program} (w : World) {ops : Array Oper} {rest : List Oper} {o : Oper} {a : Act} {Q : Exit → Act → World → Prop} (hgd : o.guard = none) (s x : Operand) (t : TypeId)
    (ho : o.op = .call { callee := .builtin .append, args := #[s, x], argTypes := #[t, t] })
    (e : TypeId) (i : TypeInfo) (z : Value) (size bytes : Nat) (ht : P.underlying t = some (.slice e)) (hi : P.info? e = some i) (hz : i.zero = some z)
    (hsize : i.size = size) (hby : i.bytes = bytes) (hzs : z.cells.size = size) (hsz : 0 < size)
    (cs : Array Value) (X : Nat) (hx : a.eval x = .slice (some ⟨X, 0, none⟩) 1 1) (hX : X = w.heap.size) (hcs : cs.size = size) (h1 : ∀ u ∈ cs.toList, u.oneCell' = true)
    (ao : Addr) (hs : a.eval s = .slice (some ao) 0 0) (hbytes : 1 * bytes ≤ 140737488355328)
    (h : ∀ A' n' c' w', n' = 1 → w'.ownsRow (w.heap.size + 1) e size (.slice A' n' c') n' cs.toList → (w.alloc (.cells cs e)).grownBy w' none → wpList P ops Q rest (a.put o.dst (.slice A' n' c')) w') :
    wpList P ops Q (o :: rest) a (w.alloc (.cells cs e)) := by
  subst hX
  exact wpList_app1G w hgd s x t ho e i z size bytes ht hi hz hsize hby hzs hsz cs hx hcs h1 ao hs hbytes h
end Go.Proofs.YtmglgjchemecjaaGreat.Kit
/- More of the common ground: rows (empty without room, or the call's own), and one law of append for all of them. -/
namespace Go.Proofs.YtmglgjchemecjaaGreat.Kit
set_option maxRecDepth 200000
open Go.ChangeShapes Go.WideShapes Go.ChangeAt Go.RowKit
/-- The block of a row that may be written. -/
def blk (A : Option Addr) (c : Nat) : Option Nat := if c = 0 then none else A.map (·.block)
/-- A row: empty without room (its address whatever), or the call's own. -/
def Row (w : World) (base : Nat) (e : TypeId) (size : Nat) (A : Option Addr) (n c : Nat) (xs : List Value) : Prop :=
  (n = 0 ∧ c = 0 ∧ xs = []) ∨ w.ownsRow base e size (.slice A n c) n xs
theorem blk_none (A : Option Addr) : blk A 0 = none := rfl
section
variable {w w' : World} {base : Nat} {e : TypeId} {size n c : Nat} {A : Option Addr} {xs : List Value}
theorem Row.own (h : w.ownsRow base e size (.slice A n c) n xs) : Row w base e size A n c xs := .inr h
theorem Row.empty (w : World) (base : Nat) (e : TypeId) (size : Nat) (A : Option Addr) : Row w base e size A 0 0 [] := .inl ⟨rfl, rfl, rfl⟩
theorem Row.lt (h : Row w base e size A n c xs) : ∀ k, blk A c = some k → base ≤ k ∧ k < w.heap.size := by
  intro k hk
  rcases h with ⟨_, rfl, _⟩ | h
  · cases hk
  · rcases h.2 with ⟨hv, _⟩ | ⟨g, cap, cur, hv, r⟩
    · injection hv with _ _ hc
      subst hc
      cases hk
    · unfold blk at hk
      split at hk
      · cases hk
      · refine h.lt k ?_
        injection hv with hA
        subst hA
        simpa [Value.ownBlock] using hk
theorem Row.keep (h : Row w base e size A n c xs) (hk : ∀ k, blk A c = some k → w'.heap[k]? = w.heap[k]?) : Row w' base e size A n c xs := by
  rcases h with h | h
  · exact .inl h
  · by_cases hc : c = 0
    · subst hc
      refine .inl ⟨Nat.le_zero.1 (own_cap h), rfl, ?_⟩
      have h0 : n = 0 := Nat.le_zero.1 (own_cap h)
      subst h0
      exact List.eq_nil_of_length_eq_zero (by simpa using h.1)
    · refine .inr (own_keep h fun k hk' => hk k ?_)
      unfold blk
      rw [if_neg hc]
      cases A with
      | none => cases hk'
      | some a => simpa [Value.ownBlock] using hk'
theorem Row.call (h : Row w base e size A n c xs) (hb : Below w.heap.size w w') : Row w' base e size A n c xs := h.keep fun k hk => hb.block k (h.lt k hk).2
theorem Row.alloc (h : Row w base e size A n c xs) (o : Obj) : Row (w.alloc o) base e size A n c xs := h.call ((Below.refl _ _).alloc (Nat.le_refl _) o)
theorem Row.drew (h : Row w base e size A n c xs) : Row w.drew base e size A n c xs := h.keep fun _ _ => rfl
theorem Row.drewN (h : Row w base e size A n c xs) (m : Nat) : Row (w.drewN m) base e size A n c xs := h.keep fun _ _ => rfl
theorem Row.same (h : Row w base e size A n c xs) (hh : w'.heap = w.heap) : Row w' base e size A n c xs := h.keep fun _ _ => by rw [hh]
theorem Row.grown (h : Row w base e size A n c xs) {v : Option Nat} (g : w.grownBy w' v) (hv : ∀ k, blk A c = some k → v ≠ some k) : Row w' base e size A n c xs := h.keep fun k hk => g.block k (h.lt k hk).2 (fun e => hv k hk e.symm)
theorem Row.set (h : Row w base e size A n c xs) {a : Addr} (ha : ∀ k, blk A c = some k → k ≠ a.block) (u : Value) : Row (w.setCell a u) base e size A n c xs := h.keep fun k hk => Below.heap_setCell w a u k (ha k hk)
theorem Row.down (h : Row w base e size A n c xs) {b : Nat} (hb : b ≤ base) : Row w b e size A n c xs := h.imp id fun h => own_base h hb
theorem Row.up (h : Row w base e size A n c xs) {b : Nat} (hb : ∀ k, blk A c = some k → b ≤ k) : Row w b e size A n c xs := by
  rcases h with h | h
  · exact .inl h
  · by_cases hc : c = 0
    · subst hc
      have h0 : n = 0 := Nat.le_zero.1 (own_cap h)
      subst h0
      exact .inl ⟨rfl, rfl, List.eq_nil_of_length_eq_zero (by simpa using h.1)⟩
    · refine .inr (own_raise h fun k hk => hb k ?_)
      unfold blk
      rw [if_neg hc]
      cases A with
      | none => cases hk
      | some a => simpa [Value.ownBlock] using hk
theorem Row.rd (h : Row w base e size A n c xs) : Rd w w.heap.size A xs := by
  rcases h with ⟨_, _, rfl⟩ | h
  · exact Rd.nil _
  · exact Rd.of_own h
theorem Row.length (h : Row w base e size A n c xs) : xs.length = n * size := by
  rcases h with ⟨rfl, _, rfl⟩ | h
  · simp
  · exact h.1
theorem Row.cap (h : Row w base e size A n c xs) : n ≤ c ∧ c ≤ maxLen := by
  rcases h with ⟨rfl, rfl, _⟩ | h
  · exact ⟨Nat.le_refl _, Nat.zero_le _⟩
  · exact ⟨own_cap h, own_capm h⟩
theorem Row.nil (h : Row w base e size A n c xs) : A = none → c = 0 := by
  rcases h with ⟨_, rfl, _⟩ | h
  · intro _
    rfl
  · exact own_nil h
theorem Row.of_own (h : w.ownsRow base e size (.slice A n c) n xs) (hx : n = xs.length / size) : Row w base e size A n c xs := .inr h
/-- A row's block holds elements of its type: a box of another type is another block. -/
theorem Row.box (h : Row w base e size A n c xs) {X : Nat} {t : TypeId} {cs : Array Value} (hb : Box w X t cs) (hne : e ≠ t) : ∀ k, blk A c = some k → k ≠ X := by
  intro k hk
  rcases h with ⟨_, rfl, _⟩ | h
  · cases hk
  · refine own_box h hb hne k ?_
    unfold blk at hk
    split at hk
    · cases hk
    · cases A with
      | none => cases hk
      | some a => simpa [Value.ownBlock] using hk
end
theorem Row.prefix {w : World} {base : Nat} {e : TypeId} {size n c k : Nat} {A : Option Addr} {xs : List Value} (h : Row w base e size A n c xs) (hk : k ≤ n) : Row w base e size A k c (xs.take (k * size)) := by
  rcases h with ⟨rfl, rfl, rfl⟩ | h
  · have h0 : k = 0 := by omega
    subst h0
    exact .inl ⟨rfl, rfl, by simp⟩
  · exact .inr (own_prefix h hk)
/-- The cell of a row's element. -/
theorem Row.at1 {w : World} {base : Nat} {e : TypeId} {n c : Nat} {A : Option Addr} {k : IntKind} {zs : List Int} (h : Row w base e 1 A n c (ints k zs)) {i : Nat} (hi : i < zs.length) : ∃ g, A = some ⟨g, 0, none⟩ ∧ w.cell? ⟨g, i, none⟩ = some (.int k (zs.getD i 0)) ∧ g < w.heap.size := by
  rcases h with ⟨_, _, h0⟩ | h
  · have : zs = [] := by simpa [ints] using h0
    subst this
    simp at hi
  · have hl := h.1
    rcases h.2 with ⟨_, h0⟩ | ⟨g, cap, cur, hv, hb, hg, r⟩
    · simp only [ints, List.length_map] at hl
      omega
    · injection hv with hA
      subst hA
      refine ⟨g, rfl, ?_, (Array.getElem?_eq_some_iff.1 hg).1⟩
      obtain ⟨b, off, hA, _, hc⟩ := (Rd.of_own h).int hi
      simp only [Option.some.injEq, Addr.mk.injEq, and_true] at hA
      obtain ⟨rfl, rfl⟩ := hA
      rw [Nat.zero_add] at hc
      rw [hc, List.getD_eq_getElem?_getD, List.getElem?_eq_getElem hi]
      rfl
/-- Two rows that share nothing that may be written. -/
def Apart (A : Option Addr) (c : Nat) (A' : Option Addr) (c' : Nat) : Prop := ∀ k, blk A c = some k → blk A' c' ≠ some k
theorem Apart.symm {A A' : Option Addr} {c c' : Nat} (h : Apart A c A' c') : Apart A' c' A c := fun k hk h' => h k h' hk
/-- 'append(row, s...)': what becomes of it. -/
theorem run_app {P : Program} (w : World) (t ty e : TypeId) (i : TypeInfo) (z : Value) (size bytes : Nat) (ht : P.underlying t = some (.slice e)) (hi : P.info? e = some i) (hz : i.zero = some z)
    (hsize : i.size = size) (hby : i.bytes = bytes) (hzs : z.cells.size = size) (hsz : 0 < size) {base : Nat} {A : Option Addr} {n c : Nat} {xs : List Value} (hrow : Row w base e size A n c xs) (hbase : base ≤ w.heap.size)
    {B : Nat} {A2 : Option Addr} {m c2 : Nat} {news : List Value} (hrd : Rd w B A2 news) (hl : news.length = m * size) (hnil : A2 = none → c2 = 0) (h1 : ∀ u ∈ news, u.oneCell' = true)
    (h63 : n + m ≤ maxLen) (hbytes : (n + m) * bytes ≤ 140737488355328) :
    ∃ A' c' w', (Builtin.append_ #[t, t] ty #[.slice A n c, .slice A2 m c2]).run P w = .ok (.slice A' (n + m) c') w' ∧ Row w' base e size A' (n + m) c' (xs ++ news) ∧ w.grownBy w' (blk A c) ∧ ∀ k, blk A' c' = some k → blk A c = some k ∨ w.heap.size ≤ k := by
  by_cases hm : m = 0
  · subst hm
    obtain rfl : news = [] := List.eq_nil_of_length_eq_zero (by simpa using hl)
    have hs : Src P i.size t (.slice A2 0 c2) 0 [] w := by
      cases A2 with
      | none =>
        have := hnil rfl
        subst this
        exact Src.ofNil w ht 0
      | some a => exact Src.ofSlice w ht a 0 c2 [] (by simp) (by simp) (by simp)
    refine ⟨A, c, w, run_append_nothing w t t ty e i ht hi A n c hrow.cap.1 _ hs, by simpa using hrow, World.grownBy.refl w _, fun k hk => .inl hk⟩
  · obtain ⟨ad, rfl, hc⟩ : ∃ ad, A2 = some ad ∧ ∀ j u, news[j]? = some u → w.cell? (ad.add j) = some u := by
      have h0 : 0 < m * size := Nat.mul_pos (by omega) hsz
      obtain ⟨b, off, e', _⟩ := hrd 0 (news[0]'(by omega)) (List.getElem?_eq_getElem (by omega))
      refine ⟨_, e', fun j u hj => ?_⟩
      obtain ⟨b', off', e'', _, hcc⟩ := hrd j u hj
      rw [e'] at e''
      simp only [Option.some.injEq, Addr.mk.injEq, and_true] at e''
      obtain ⟨rfl, rfl⟩ := e''
      rw [(addr_form (a := ⟨b, off, none⟩) rfl j).2]
      exact hcc
    by_cases hc0 : c = 0
    · subst hc0
      have hn0 : n = 0 := Nat.le_zero.1 hrow.cap.1
      subst hn0
      have hx0 : xs = [] := List.eq_nil_of_length_eq_zero (by simpa using hrow.length)
      subst hx0
      obtain ⟨v', w', hrun, r1, r2⟩ : ∃ v' w', (Builtin.append_ #[t, t] ty #[.slice A 0 0, .slice (some ad) m c2]).run P w = .ok v' w' ∧ w'.ownsRow w.heap.size e size v' (0 + m) ([] ++ news) ∧ w.grownBy w' none := by
        cases A with
        | none =>
          obtain ⟨v', w', hrun, r1, r2, _⟩ := run_append_own (P := P) w w.heap.size t ty e i z size bytes ht hi hz hsize hby hzs hsz (.slice none 0 0) 0 [] (World.ownsRow_nil w _ e size) ad m c2 news hl hc h1 h63 hbytes (Nat.le_refl _)
          exact ⟨v', w', hrun, r1, r2⟩
        | some a => exact run_append_arg_grows (P := P) w t ty e i z size bytes ht hi hz hsize hby hzs hsz a 0 0 [] (by simp) (by simp) ad m c2 news hl hc (by omega) h63 hbytes
      obtain ⟨g, cap, rfl, hg, _⟩ := r1.form (by omega)
      refine ⟨some ⟨g, 0, none⟩, cap, w', hrun, .inr (own_base r1 hbase), r2, fun k hk => .inr ?_⟩
      have := (Row.own r1).lt k hk
      exact this.1
    · have hown : w.ownsRow base e size (.slice A n c) n xs := hrow.elim (fun h => absurd h.2.1 hc0) id
      obtain ⟨g, cap, w', hrun, r1, r2, r3, r4⟩ := run_append_lies (P := P) w t ty base e i z size bytes ht hi hz hsize hby hzs hsz (.slice A n c) n xs hown ad m c2 news hl hc h1 (by omega) h63 hbytes hbase w.heap.size rfl
      have hb : blk A c = (Value.slice A n c).ownBlock := by
        unfold blk
        rw [if_neg hc0]
        cases A <;> rfl
      refine ⟨some ⟨g, 0, none⟩, cap, w', hrun, .inr r1, by rw [hb]; exact r2, fun k hk => ?_⟩
      have hk' : k = g := by
        unfold blk at hk
        split at hk
        · cases hk
        · simpa using hk.symm
      subst hk'
      rw [hb]
      rcases r3 with r3 | r3
      · exact .inl r3
      · exact .inr (by omega)
theorem wp_app {P : Program} {o : Oper} {a : Act} {K : Act → World → Prop} {Q : Exit → Act → World → Prop} {w : World} (s x : Operand) (t : TypeId)
    (ho : o.op = .call { callee := .builtin .append, args := #[s, x], argTypes := #[t, t] }) (e : TypeId) (i : TypeInfo) (z : Value) (size bytes : Nat) (ht : P.underlying t = some (.slice e)) (hi : P.info? e = some i) (hz : i.zero = some z)
    (hsize : i.size = size) (hby : i.bytes = bytes) (hzs : z.cells.size = size) (hsz : 0 < size) (base : Nat) (A : Option Addr) (n c : Nat) (xs : List Value) (hs : a.eval s = .slice A n c) (hrow : Row w base e size A n c xs) (hbase : base ≤ w.heap.size)
    {B : Nat} (A2 : Option Addr) (m c2 : Nat) (news : List Value) (hx : a.eval x = .slice A2 m c2) (hrd : Rd w B A2 news) (hl : news.length = m * size) (hnil : A2 = none → c2 = 0) (h1 : ∀ u ∈ news, u.oneCell' = true)
    (h63 : n + m ≤ maxLen) (hbytes : (n + m) * bytes ≤ 140737488355328)
    (h : ∀ A' n' c' w', n' = n + m → Row w' base e size A' n' c' (xs ++ news) → w.grownBy w' (blk A c) → (∀ k, blk A' c' = some k → blk A c = some k ∨ w.heap.size ≤ k) → K (a.put o.dst (.slice A' n' c')) w') :
    o.wp P a w K Q := by
  obtain ⟨A', c', w', hr, h2, h3, h4⟩ := run_app (P := P) w t o.type e i z size bytes ht hi hz hsize hby hzs hsz hrow hbase hrd hl hnil h1 h63 hbytes
  unfold Oper.wp execOp
  simp only [ho, resolve, invoke, builtin, Sem.run_bind, Sem.run_pure, Result.andThen_ok, List.map_toArray, List.map_cons, List.map_nil, hs, hx, hr]
  exact h A' (n + m) c' w' rfl h2 h3 h4
/-- At a plain region's list. -/
theorem wpList_app {P : Program} (w : World) {ops : Array Oper} {rest : List Oper} {o : Oper} {a : Act} {Q : Exit → Act → World → Prop} (hgd : o.guard = none) (s x : Operand) (t : TypeId)
    (ho : o.op = .call { callee := .builtin .append, args := #[s, x], argTypes := #[t, t] }) (e : TypeId) (i : TypeInfo) (z : Value) (size bytes : Nat) (ht : P.underlying t = some (.slice e)) (hi : P.info? e = some i) (hz : i.zero = some z)
    (hsize : i.size = size) (hby : i.bytes = bytes) (hzs : z.cells.size = size) (hsz : 0 < size) (base : Nat) (A : Option Addr) (n c : Nat) (xs : List Value) (hs : a.eval s = .slice A n c) (hrow : Row w base e size A n c xs) (hbase : base ≤ w.heap.size)
    {B : Nat} (A2 : Option Addr) (m c2 : Nat) (news : List Value) (hx : a.eval x = .slice A2 m c2) (hrd : Rd w B A2 news) (hl : news.length = m * size) (hnil : A2 = none → c2 = 0) (h1 : ∀ u ∈ news, u.oneCell' = true)
    (h63 : n + m ≤ maxLen) (hbytes : (n + m) * bytes ≤ 140737488355328)
    (h : ∀ A' n' c' w', n' = n + m → Row w' base e size A' n' c' (xs ++ news) → w.grownBy w' (blk A c) → (∀ k, blk A' c' = some k → blk A c = some k ∨ w.heap.size ≤ k) → wpList P ops Q rest (a.put o.dst (.slice A' n' c')) w') :
    wpList P ops Q (o :: rest) a w :=
  wpList_plain hgd fun _ hK => wp_app s x t ho e i z size bytes ht hi hz hsize hby hzs hsz base A n c xs hs hrow hbase A2 m c2 news hx hrd hl hnil h1 h63 hbytes fun A' n' c' w' h1 h2 h3 h4 => hK _ _ (h A' n' c' w' h1 h2 h3 h4)
/-- At a step of a region that draws its order. -/
theorem step_app {P : Program} {ops : Array Oper} {o : Oper} {a : Act} {K : Act → World → Prop} {Q : Exit → Act → World → Prop} {E : Prop} {w : World} (hgd : o.guard = none) (s x : Operand) (t : TypeId)
    (ho : o.op = .call { callee := .builtin .append, args := #[s, x], argTypes := #[t, t] }) (e : TypeId) (i : TypeInfo) (z : Value) (size bytes : Nat) (ht : P.underlying t = some (.slice e)) (hi : P.info? e = some i) (hz : i.zero = some z)
    (hsize : i.size = size) (hby : i.bytes = bytes) (hzs : z.cells.size = size) (hsz : 0 < size) (base : Nat) (A : Option Addr) (n c : Nat) (xs : List Value) (hs : a.eval s = .slice A n c) (hrow : Row w base e size A n c xs) (hbase : base ≤ w.heap.size)
    {B : Nat} (A2 : Option Addr) (m c2 : Nat) (news : List Value) (hx : a.eval x = .slice A2 m c2) (hrd : Rd w B A2 news) (hl : news.length = m * size) (hnil : A2 = none → c2 = 0) (h1 : ∀ u ∈ news, u.oneCell' = true)
    (h63 : n + m ≤ maxLen) (hbytes : (n + m) * bytes ≤ 140737488355328)
    (h : ∀ A' n' c' w', n' = n + m → Row w' base e size A' n' c' (xs ++ news) → w.grownBy w' (blk A c) → (∀ k, blk A' c' = some k → blk A c = some k ∨ w.heap.size ≤ k) → K (a.put o.dst (.slice A' n' c')) w') :
    if Region.wanted o (yielded ops a.tmps) = true then Oper.wp P o a w K Q else E := by
  have hw : Region.wanted o (yielded ops a.tmps) = true := by simp [Region.wanted, hgd]
  rw [if_pos hw]
  exact wp_app s x t ho e i z size bytes ht hi hz hsize hby hzs hsz base A n c xs hs hrow hbase A2 m c2 news hx hrd hl hnil h1 h63 hbytes h
/-- A literal that has just been laid. -/
theorem rd_lit (w : World) (cs : Array Value) (e : TypeId) (k : Nat) (hk : k = w.heap.size) : Rd (w.alloc (.cells cs e)) (w.heap.size + 1) (some ⟨k, 0, none⟩) cs.toList := by
  subst hk
  intro i u hu
  exact ⟨_, 0, rfl, Nat.lt_succ_self _, by rw [Nat.zero_add]; exact (Box.new w e cs).cell i ▸ (by simpa using hu)⟩
theorem oneI1 {k : IntKind} {x : Int} : ∀ u ∈ [Value.int k x], u.oneCell' = true := fun u hu => by simp only [List.mem_singleton] at hu; subst hu; rfl
theorem below_grown {B : Nat} {a w w' : World} {v : Option Nat} (h : Below B a w) (g : w.grownBy w' v) (hB : B ≤ w.heap.size) (hv : ∀ k, v = some k → B ≤ k) : Below B a w' := h.grown g hB hv
/-- A fact laid by tactics (a failing one fails where it stands). -/
theorem lay {p q : Prop} (hp : p) (h : p → q) : q := h hp
theorem apart_of {A L A' : Option Addr} {c c' N M : Nat} (h : ∀ k, blk A c = some k → k < N) (h' : ∀ k, blk A' c' = some k → blk L 0 = some k ∨ M ≤ k) (hNM : N ≤ M) : Apart A c A' c' := by
  intro k hk hk'
  have h1 := h k hk
  rcases h' k hk' with h2 | h2
  · cases h2
  · omega
theorem below_tr {a w w' : World} (h : Below a.heap.size a w) (g : w.grownBy w' none) : Below a.heap.size a w' := h.grown g h.size (fun k hk => by cases hk)
theorem below_step {base : Nat} {w1 W w2 : World} {v : Option Nat} (h : Below w1.heap.size w1 W) (g : W.grownBy w2 v) (hb : base ≤ w1.heap.size) (hv : ∀ k, v = some k → base ≤ k) : Below base w1 w2 := (h.mono hb).grown g (Nat.le_trans hb h.size) hv
theorem below_al {a w : World} {o : Obj} (h : Below a.heap.size a w) : Below a.heap.size a (w.alloc o) := h.alloc h.size o
theorem below_dr {a w : World} (h : Below a.heap.size a w) : Below a.heap.size a w.drew := h.drew
theorem below_dn {a w : World} {n : Nat} (h : Below a.heap.size a w) : Below a.heap.size a (w.drewN n) := Kit.Below.drewN h n
theorem below_call {a w w' : World} (h : Below a.heap.size a w) (b : Below w.heap.size w w') : Below a.heap.size a w' := h.trans (b.mono h.size)
end Go.Proofs.YtmglgjchemecjaaGreat.Kit
