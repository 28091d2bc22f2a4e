/- Small general lemmas, over any program: how a law (a function that answers one bool) is closed out of its walk; hiding of facts. -/
import Derived.WalkKit
import Derived.ProofKit
import Derived.OpenShut
import Derived.Lib.SmallJoins
import Derived.Deep.Slices
import Derived.Deep.Fields
import Derived.Laws.AppendOwnNone
namespace Go.Proofs.Ytmglgjchemecjaa.Kit
set_option maxRecDepth 200000
open Go.ChangeShapes Go.WideShapes Go.ChangeAt Go.RowKit Go.Deep

theorem hide {p : Prop} (h : p) : Hid p := h
theorem unhide {p : Prop} (h : Hid p) : p := h

/-- What a law's walk says: it returns true, and nothing that was there has turned. -/
def LawEnds (w : World) (e : Ending) (w' : World) : Prop := e = .returned (.bool true) ∧ Below w.heap.size w w'

theorem wf_bounds {x : Int} (h : (Lit.int .i64 x).wf = true) : -9223372036854775808 ≤ x ∧ x ≤ 9223372036854775807 := by
  simpa [Lit.wf, IntKind.min, IntKind.max, IntKind.signed, IntKind.bits] using h

/-- A call that hands back v and turns nothing that was there. -/
def Ret (v : Value) (w : World) (e : Ending) (w' : World) : Prop := e = .returned v ∧ Below w.heap.size w w'
/-- A call that hands back v and leaves the world as it is. -/
def Pure (v : Value) (w : World) (e : Ending) (w' : World) : Prop := e = .returned v ∧ w = w'
/-- What was there before a call reads behind it as it did: laid for the walk. -/
theorem bcell {w w' : World} (hb : Below w.heap.size w w') : (∀ b o, b < w.heap.size → w'.cell? ⟨b, o, none⟩ = w.cell? ⟨b, o, none⟩) ∧ (∀ b o, b < w.heap.size → w'.frozen? ⟨b, o, none⟩ = w.frozen? ⟨b, o, none⟩) :=
  ⟨fun b o h => hb.cell (p := ⟨b, o, none⟩) h, fun b o h => hb.frozen (p := ⟨b, o, none⟩) h⟩
theorem ret_bool {a b : Bool} (h : a = b) : Ending.returned (.bool a) = .returned (.bool b) := by rw [h]
theorem ret_int {k : IntKind} {a b : Int} (h : a = b) : Ending.returned (.int k a) = .returned (.int k b) := by rw [h]
theorem Below.drewN {B : Nat} {a w : World} (h : Below B a w) (n : Nat) : Below B a (w.drewN n) := ⟨h.os, h.tape, h.output, h.size, h.block⟩

theorem of_drew {w w' : World} (h : Below w.drew.heap.size w.drew w') : Below w.heap.size w w' := ⟨h.os, h.tape, h.output, h.size, h.block⟩
theorem of_drewN {w w' : World} {n : Nat} (h : Below (w.drewN n).heap.size (w.drewN n) w') : Below w.heap.size w w' := ⟨h.os, h.tape, h.output, h.size, h.block⟩
theorem below_drawn {B : Nat} {w w' : World} {os tape out} {d : Nat} (h : Below B { heap := w.heap, tape := tape, drawn := d, os := os, output := out } w') (ho : os = w.os := by rfl) (ht : tape = w.tape := by rfl) (hu : out = w.output := by rfl) : Below B w w' := by
  subst ho ht hu
  exact ⟨h.os, h.tape, h.output, h.size, h.block⟩
/-- A pure callee inside a region that draws its order. -/
theorem Pure.quiet {P : Program} {f : FuncId} {args : Array Value} {w : World} {n : Nat} {v : Value} (h : Calls P f args (w.drewN n) (Pure v (w.drewN n))) :
    Calls P f args (w.drewN n) fun e w'' => e = .returned v ∧ ∃ m, w'' = w.drewN m := h.mono fun _ _ ⟨he, hm⟩ => ⟨he, n, hm.symm⟩
theorem Pure.quiet_add {P : Program} {f : FuncId} {args : Array Value} {w : World} {a n : Nat} {v : Value} (h : Calls P f args (w.drewN (a + n)) (Pure v (w.drewN (a + n)))) :
    Calls P f args (w.drewN (a + n)) fun e w'' => e = .returned v ∧ ∃ m, w'' = w.drewN (a + m) := h.mono fun _ _ ⟨he, hm⟩ => ⟨he, n, hm.symm⟩

section
variable {H : Type} {enc : TypeId × Value → H} {P : Program}

/-- A struct of two ints that comes in by value. -/
theorem open_ints2 {w : World} {base : Nat} {spare : Nat → Bool} {held : Bool} {r : Reach} {b0 : Nat} {t ti : TypeId} {f0 f1 : Field} {v : Value} {d : DataW H} {p : List MemPlace}
    (hs : P.underlying t = some (.struct #[f0, f1])) (hi : P.underlying ti = some (.int .i64)) (hone : oneCellFields P #[f0, f1] = true) (hC : P.cellsOf t = 2)
    (hv : Value.okWide P w r b0 t v) (h : DataW.Trod enc P w base spare held t v d p) (h0 : f0.type = ti := by rfl) (h1 : f1.type = ti := by rfl) :
    ∃ a b : Int, v = .agg #[.int .i64 a, .int .i64 b] ∧ -9223372036854775808 ≤ a ∧ a ≤ 9223372036854775807 ∧ -9223372036854775808 ≤ b ∧ b ≤ 9223372036854775807 := by
  obtain ⟨c0, c1, y0, y1, m, rfl, _, _, hy0, hy1⟩ := Go.Joins.open_agg2 hs hone hC hv h
  rw [h0] at hy0
  rw [h1] at hy1
  obtain ⟨a, e0, _, wa⟩ := DataW.trod_int hi hy0
  obtain ⟨b, e1, _, wb⟩ := DataW.trod_int hi hy1
  simp at e0 e1
  subst e0 e1
  exact ⟨a, b, rfl, (wf_bounds wa).1, (wf_bounds wa).2, (wf_bounds wb).1, (wf_bounds wb).2⟩

theorem trodAll_len {w : World} {base : Nat} {sp : Nat → Bool} {held : Bool} : ∀ (ts : List TypeId) (vs : List Value) (ds : List (DataW H)) (ps : List MemPlace),
    DataW.TrodAll enc P w base sp held ts vs ds ps → vs.length = ts.length ∧ ds.length = ts.length
  | [], vs, ds, ps, h => by obtain ⟨rfl, rfl, _⟩ := trodAll_nil h; exact ⟨rfl, rfl⟩
  | t :: ts, vs, ds, ps, h => by
    obtain ⟨v, vs', d, ds', p, q, rfl, rfl, rfl, _, h2⟩ := trodAll_cons h
    obtain ⟨a, b⟩ := trodAll_len ts vs' ds' q h2
    simp [a, b]

theorem below_trodAll (hl : laidOutB P = true) {W W' : World} (hb : Below W.heap.size W W') :
    ∀ (ts : List TypeId) (vs : List Value) (ds : List (DataW H)) (ps : List MemPlace), (∀ t ∈ ts, P.readableRec t = true ∧ t < P.types.size) →
      (∀ x ∈ ps, x.block < W.heap.size) → DataW.TrodAll enc P W 0 (fun _ => true) true ts vs ds ps →
      DataW.TrodAll enc P W' 0 (fun b => decide (b < W.heap.size)) true ts vs ds ps
  | [], vs, ds, ps, _, _, h => by obtain ⟨rfl, rfl, rfl⟩ := trodAll_nil h; exact trodAll_mk0
  | t :: ts, vs, ds, ps, hr, hlt, h => by
    obtain ⟨v, vs', d, ds', p, q, rfl, rfl, rfl, h1, h2⟩ := trodAll_cons h
    refine trodAll_cons_mk ?_ (below_trodAll hl hb ts vs' ds' q (fun t ht => hr t (by simp [ht])) (fun x hx => hlt x (by simp [hx])) h2)
    exact Below.trod hl (hr t (by simp)).1 (hr t (by simp)).2 h1 hb (fun x hx => hlt x (by simp [hx]))

/-- The last step of a law: its specification answers true and hands the arguments back; its walk says that, and that nothing below the heap's old size has turned. -/
theorem law_post (hl : laidOutB P = true) {f : Func} {s : ChangeSpec} {W : World} {args : Array Value} {ds gs : List (DataW H)} {before : List MemPlace} {e : Ending} {W' : World} {tb : TypeId}
    (hr : ∀ t ∈ f.params.toList, P.readableRec t = true ∧ t < P.types.size) (htb : P.underlying tb = some .bool) (hres : f.resultTypes = #[tb]) (hv : s.vars = [])
    (hs : ∀ ds : List (DataW H), ds.length = f.params.toList.length → s.fn H ds = { results := [.lit (.bool true)], args := ds })
    (hW : DataW.Whole enc P f.params.toList s.vars false W args.toList ds gs before) (h : LawEnds W e W') :
    ∃ v, e = .returned v ∧ s.post enc P f false true false false W args v W' := by
  obtain ⟨he, hb⟩ := h
  have hlt : ∀ p ∈ before, p.block < W.heap.size := fun p hp => hW.lt p hp
  have hW' := hW
  obtain ⟨p, q, hA, hV, rfl, hfz, hnd⟩ := hW
  rw [hv] at hV
  obtain ⟨rfl, rfl⟩ := trodVars_none hV
  obtain ⟨_, hdl⟩ := trodAll_len _ _ _ _ hA
  have hsd := hs ds hdl
  refine ⟨_, he, ds, [], p ++ [], [], p, [], hW', ?_, ?_, ?_, ?_, fun h => by cases h⟩
  · rw [List.append_nil, hsd, hres]
    exact trodAll_mk1 (shut_bool htb true)
  · rw [List.append_nil, hsd]
    exact below_trodAll hl hb _ _ _ _ hr (fun x hx => hlt x (by simp [hx])) hA
  · rw [hv]
    rw [List.append_nil, hsd]
    trivial
  · exact hb.frame _
end

/-! ### Slices that are read -/
/-- The slice value that begins at A holds (at least) the cells xs, below block B. -/
def Rd (w : World) (B : Nat) (A : Option Addr) (xs : List Value) : Prop :=
  ∀ (i : Nat) (u : Value), xs[i]? = some u → ∃ b off, A = some ⟨b, off, none⟩ ∧ b < B ∧ w.cell? ⟨b, off + i, none⟩ = some u

section
variable {w w' : World} {B B' : Nat} {A : Option Addr} {xs : List Value}
theorem Rd.nil (A : Option Addr) : Rd w B A [] := fun i u h => by simp at h
theorem Rd.keep (h : Rd w B A xs) (hk : ∀ p : Addr, p.block < B → w'.cell? p = w.cell? p) : Rd w' B A xs := fun i u hi => by
  obtain ⟨b, off, e, hb, hc⟩ := h i u hi
  exact ⟨b, off, e, hb, (hk _ hb).trans hc⟩
theorem Rd.more (h : Rd w B A xs) (hB : B ≤ B') : Rd w B' A xs := fun i u hi => by
  obtain ⟨b, off, e, hb, hc⟩ := h i u hi
  exact ⟨b, off, e, by omega, hc⟩
theorem Rd.below (h : Rd w B A xs) (hb : Below B w w') : Rd w' B A xs := h.keep fun _ hp => hb.cell hp
theorem Rd.at_ (h : Rd w B A xs) {i : Nat} (hi : i < xs.length) : ∃ b off, A = some ⟨b, off, none⟩ ∧ b < B ∧ w.cell? ⟨b, off + i, none⟩ = some xs[i] := h i _ (List.getElem?_eq_getElem hi)
theorem Rd.of_own {base : Nat} {e : TypeId} {size n c : Nat} (h : w.ownsRow base e size (.slice A n c) n xs) : Rd w w.heap.size A xs := fun i u hi => by
  rcases h.2 with ⟨hv, rfl⟩ | ⟨g, cap, cur, hv, _, hg, _⟩
  · have := h.1
    have hl : xs = [] := List.eq_nil_of_length_eq_zero (by simpa using this)
    subst hl
    simp at hi
  · injection hv with hA
    subst hA
    refine ⟨g, 0, rfl, (Array.getElem?_eq_some_iff.1 hg).1, ?_⟩
    have := h.cells (g := g) rfl i u hi
    have hadd : (⟨g, 0, none⟩ : Addr).add i = ⟨g, 0 + i, none⟩ := by unfold Addr.add; split <;> simp_all
    rwa [hadd] at this
end

/-- A part of a slice. -/
theorem Rd.part {w : World} {B : Nat} {A : Option Addr} {xs : List Value} (h : Rd w B A xs) (k n : Nat) : Rd w B (A.map fun a => ⟨a.block, a.off + k, none⟩) ((xs.drop k).take n) := fun i u hi => by
  rw [List.getElem?_take] at hi
  split at hi
  · rw [List.getElem?_drop] at hi
    obtain ⟨b, off, rfl, hb, hc⟩ := h (k + i) u hi
    exact ⟨b, off + k, rfl, hb, by rw [Nat.add_assoc]; exact hc⟩
  · cases hi
/-- A list of ints as cells. -/
abbrev ints (k : IntKind) (zs : List Int) : List Value := zs.map (Value.int k)
theorem Rd.int {w : World} {B : Nat} {A : Option Addr} {k : IntKind} {zs : List Int} (h : Rd w B A (ints k zs)) {i : Nat} (hi : i < zs.length) :
    ∃ b off, A = some ⟨b, off, none⟩ ∧ b < B ∧ w.cell? ⟨b, off + i, none⟩ = some (.int k zs[i]) := by
  obtain ⟨b, off, e, hb, hc⟩ := h.at_ (i := i) (by simpa using hi)
  exact ⟨b, off, e, hb, by simpa using hc⟩
theorem Rd.slice {w : World} {B b off : Nat} {k : IntKind} {zs : List Int} (h : Rd w B (some ⟨b, off, none⟩) (ints k zs)) (lo n : Nat) (hl : lo + n ≤ zs.length) :
    Rd w B (some ⟨b, off + lo, none⟩) (ints k ((zs.drop lo).take n)) ∧ ((zs.drop lo).take n).length = n := by
  refine ⟨?_, by rw [List.length_take, List.length_drop]; omega⟩
  have := h.part lo n
  simpa [ints, List.map_take, List.map_drop] using this
/-- All of a list lie in lo..hi. -/
def InR (lo hi : Int) (zs : List Int) : Prop := ∀ x ∈ zs, lo ≤ x ∧ x ≤ hi
theorem InR.at_ {lo hi : Int} {zs : List Int} (h : InR lo hi zs) {i : Nat} (hi' : i < zs.length) : lo ≤ zs[i] ∧ zs[i] ≤ hi := h _ (List.getElem_mem hi')
/-- A list filled up to k, zeros behind. -/
def upTo (zs : List Int) (k : Nat) : List Int := zs.take k ++ List.replicate (zs.length - k) 0
theorem upTo_len (zs : List Int) (k : Nat) (h : k ≤ zs.length) : (upTo zs k).length = zs.length := by simp [upTo]; omega
theorem upTo_all (zs : List Int) : upTo zs zs.length = zs := by simp [upTo]
theorem upTo_set (zs : List Int) (k : Nat) (h : k < zs.length) : (upTo zs k).set k zs[k] = upTo zs (k + 1) := by
  have hl : (zs.take k).length = k := by rw [List.length_take]; omega
  have e : zs.length - k = (zs.length - (k + 1)) + 1 := by omega
  unfold upTo
  rw [List.set_append_right _ _ (by omega), hl, Nat.sub_self, e, List.replicate_succ, List.set_cons_zero, List.take_succ_eq_append_getElem h, List.append_assoc]
  rfl
theorem setInts (k : IntKind) (zs : List Int) (i : Nat) (x : Int) : (ints k zs).set i (.int k x) = ints k (zs.set i x) := by simp [ints, List.map_set]
theorem zero_cells (k : IntKind) (n : Nat) : (madeCells (Value.int k 0).cells (n * 1)).toList = ints k (List.replicate n 0) := by
  rw [show (Value.int k 0).cells = #[Value.int k 0] from rfl, toList_madeCells_one]
  simp [ints]
theorem zero_cells' (k : IntKind) (n : Nat) : (madeCells #[Value.int k 0] n).toList = ints k (List.replicate n 0) := by
  rw [toList_madeCells_one]
  simp [ints]
theorem take_succ {α : Type} {zs : List α} {i : Nat} (h : i < zs.length) : zs.take (i + 1) = zs.take i ++ [zs[i]] := by
  rw [List.take_succ_eq_append_getElem h]

/-! ### Appending one element to a row of the call's own -/
theorem cells_new (w : World) (cs : Array Value) (e : TypeId) : ∀ j u, cs.toList[j]? = some u → (w.alloc (.cells cs e)).cell? ((⟨w.heap.size, 0, none⟩ : Addr).add j) = some u := by
  intro j u hj
  have hadd : (⟨w.heap.size, 0, none⟩ : Addr).add j = ⟨w.heap.size, j, none⟩ := by unfold Addr.add; split <;> simp_all
  rw [hadd, cell_of_row (w.alloc (.cells cs e)) w.heap.size j cs e (0, 0) (heap_alloc_new w _)]
  simpa using hj
theorem own_below {base : Nat} {w w' : World} {e : TypeId} {size n : Nat} {v : Value} {xs : List Value} (hb : Below base w w') (h : w.ownsRow base e size v n xs) (hn : ∀ k, v.ownBlock = some k → k < base) : w'.ownsRow base e size v n xs := by
  rcases h.2 with ⟨rfl, rfl⟩ | ⟨g, cap, cur, rfl, hbg, hh, r⟩
  · exact ⟨h.1, .inl ⟨rfl, rfl⟩⟩
  · have := hn g rfl
    omega

/-- 'out = append(out, x)': x has just been laid in a new block. -/
theorem wpList_app1 {P : Program} (w : World) {ops : Array Oper} {rest : List Oper} {o : Oper} {a : Act} {Q : Exit → Act → World → Prop} (hgd : o.guard = none) (s x : Operand) (t : TypeId)
    (ho : o.op = .call { callee := .builtin .append, args := #[s, x], argTypes := #[t, t] })
    (base : Nat) (e : TypeId) (i : TypeInfo) (z : Value) (size bytes : Nat) (ht : P.underlying t = some (.slice e)) (hi : P.info? e = some i) (hz : i.zero = some z)
    (hsize : i.size = size) (hby : i.bytes = bytes) (hzs : z.cells.size = size) (hsz : 0 < size)
    (cs : Array Value) (hx : a.eval x = .slice (some ⟨w.heap.size, 0, none⟩) 1 1) (hcs : cs.size = size) (h1 : ∀ u ∈ cs.toList, u.oneCell' = true)
    (v : Value) (n : Nat) (xs : List Value) (hs : a.eval s = v) (hown : w.ownsRow base e size v n xs) (hn : n + 1 ≤ maxLen) (hbytes : (n + 1) * bytes ≤ 140737488355328) (hbase : base ≤ w.heap.size)
    (h : ∀ A' n' c' w', n' = n + 1 → w'.ownsRow base e size (.slice A' n' c') n' (xs ++ cs.toList) → w.grownBy w' v.ownBlock → wpList P ops Q rest (a.put o.dst (.slice A' n' c')) w') :
    wpList P ops Q (o :: rest) a (w.alloc (.cells cs e)) := by
  refine wpList_append_own _ hgd s x t ho base e i z size bytes ht hi hz hsize hby hzs hsz v n xs hs (hown.alloc _) ⟨w.heap.size, 0, none⟩ 1 1 cs.toList hx (by simpa using hcs) (cells_new w cs e) h1 hn hbytes (by simp; omega) ?_
  intro v' w' hown' hg hnil
  have hg' : w.grownBy w' v.ownBlock := ⟨hg.os, hg.tape, hg.output, Nat.le_trans (by simp) hg.size, fun k hk hne => (hg.block k (by simp; omega) hne).trans (Below.heap_alloc w _ k hk)⟩
  rcases hown'.2 with ⟨rfl, h0⟩ | ⟨g, cap, cur, rfl, r⟩
  · omega
  · exact h _ _ _ w' rfl hown' hg'

/-- A call hands back a slice of ints in memory of its own, and turns nothing that was there. -/
def RetInts (E : TypeId) (k : IntKind) (zs : List Int) (w : World) (e : Ending) (w' : World) : Prop :=
  ∃ A c, e = .returned (.slice A zs.length c) ∧ w'.ownsRow w.heap.size E 1 (.slice A zs.length c) zs.length (ints k zs) ∧ Below w.heap.size w w'
theorem RetInts.mk {E : TypeId} {k : IntKind} {zs : List Int} {w w' : World} {A : Option Addr} {n c : Nat} (hn : n = zs.length) (ho : w'.ownsRow w.heap.size E 1 (.slice A n c) n (ints k zs)) (hb : Below w.heap.size w w') :
    RetInts E k zs w (.returned (.slice A n c)) w' := by
  subst hn
  exact ⟨A, c, rfl, ho, hb⟩
theorem RetInts.nil {E : TypeId} {k : IntKind} {w w' : World} (hb : Below w.heap.size w w') : RetInts E k [] w (.returned (.slice none 0 0)) w' := ⟨none, 0, rfl, World.ownsRow_nil _ _ _ _, hb⟩
theorem own_empty {w : World} {E : TypeId} : (w.alloc (.cells #[] E)).ownsRow w.heap.size E 1 (.slice (some ⟨w.heap.size, 0, none⟩) 0 0) 0 [] :=
  World.ownsRow_lit (base := w.heap.size) (e := E) (size := 1) w #[] 0 (Nat.le_refl _) (Nat.zero_le _) rfl
/-- 'out = append(out, s...)': s is a row of the call's own too (nil let in). -/
theorem wpList_appO {P : Program} (w : World) {ops : Array Oper} {rest : List Oper} {o : Oper} {a : Act} {Q : Exit → Act → World → Prop} (hgd : o.guard = none) (s x : Operand) (t : TypeId)
    (ho : o.op = .call { callee := .builtin .append, args := #[s, x], argTypes := #[t, t] })
    (base base2 : Nat) (e : TypeId) (i : TypeInfo) (z : Value) (size bytes : Nat) (ht : P.underlying t = some (.slice e)) (hi : P.info? e = some i) (hz : i.zero = some z)
    (hsize : i.size = size) (hby : i.bytes = bytes) (hzs : z.cells.size = size) (hsz : 0 < size)
    (A : Option Addr) (m c : Nat) (news : List Value) (hx : a.eval x = .slice A m c) (hsrc : w.ownsRow base2 e size (.slice A m c) m news) (h1 : ∀ u ∈ news, u.oneCell' = true)
    (v : Value) (n : Nat) (xs : List Value) (hs : a.eval s = v) (hown : w.ownsRow base e size v n xs) (hn : n + m ≤ maxLen) (hbytes : (n + m) * bytes ≤ 140737488355328) (hbase : base ≤ w.heap.size)
    (h : ∀ A' n' c' w', n' = n + m → w'.ownsRow base e size (.slice A' n' c') n' (xs ++ news) → w.grownBy w' v.ownBlock → wpList P ops Q rest (a.put o.dst (.slice A' n' c')) w') :
    wpList P ops Q (o :: rest) a w := by
  rcases hsrc.2 with ⟨hv, rfl⟩ | ⟨g, cap, cur, hv, _⟩
  · injection hv with hA _ hc
    subst hA hc
    have hnil : news = [] := List.eq_nil_of_length_eq_zero (by simpa using hsrc.1)
    subst hnil
    refine wpList_append_own_none hgd s x t ho base e i size ht hi v n xs hs hown hx ?_
    rcases hown.2 with ⟨rfl, rfl⟩ | ⟨g, cap, cur, rfl, r⟩
    · exact h _ _ _ w rfl (by simpa using hown) (World.grownBy.refl w _)
    · exact h _ _ _ w rfl (by simpa using hown) (World.grownBy.refl w _)
  · injection hv with hA _ hc
    subst hA
    refine wpList_append_own _ hgd s x t ho base e i z size bytes ht hi hz hsize hby hzs hsz v n xs hs hown ⟨g, 0, none⟩ m c news hx hsrc.1 (hsrc.cells (g := g) rfl) h1 hn hbytes hbase ?_
    intro v' w' hown' hg hnil
    rcases hown'.2 with ⟨rfl, h0⟩ | ⟨g', cap', cur', rfl, r⟩
    · have hn0 : n + m = 0 := h0
      exact h _ _ _ w' hn0.symm (by rw [hn0] at hown'; exact hown') hg
    · exact h _ _ _ w' rfl hown' hg

theorem own_emptyAt {w : World} {E : TypeId} {base : Nat} (h : base ≤ w.heap.size) : (w.alloc (.cells #[] E)).ownsRow base E 1 (.slice (some ⟨w.heap.size, 0, none⟩) 0 0) 0 [] :=
  World.ownsRow_lit (base := base) (e := E) (size := 1) w #[] 0 h (Nat.zero_le _) rfl
/-! ### A block of the call's own that is known whole (a variable that holds a struct) -/
def Box (w : World) (g : Nat) (t : TypeId) (cs : Array Value) : Prop := w.heap[g]? = some (.cells cs t (0, 0))
section
variable {w w' : World} {g : Nat} {t : TypeId} {cs : Array Value}
theorem Box.lt (h : Box w g t cs) : g < w.heap.size := (Array.getElem?_eq_some_iff.1 h).1
theorem Box.cell (h : Box w g t cs) (i : Nat) : w.cell? ⟨g, i, none⟩ = cs[i]? := cell_of_row w g i cs t (0, 0) h
theorem Box.frozen (h : Box w g t cs) (i : Nat) : w.frozen? ⟨g, i, none⟩ = false := frozen_of_row w g i cs t h
theorem Box.new (w : World) (t : TypeId) (cs : Array Value) : Box (w.alloc (.cells cs t)) w.heap.size t cs := heap_alloc_new w _
theorem Box.drew (h : Box w g t cs) : Box w.drew g t cs := h
theorem Box.drewN (h : Box w g t cs) (n : Nat) : Box (w.drewN n) g t cs := h
theorem Box.alloc (h : Box w g t cs) (o : Obj) : Box (w.alloc o) g t cs := (Below.heap_alloc w o g h.lt).trans h
theorem Box.set (h : Box w g t cs) (i : Nat) (u : Value) : Box (w.setCell ⟨g, i, none⟩ u) g t (cs.setIfInBounds i u) := heap_setCell_same w g i cs t u h
theorem Box.far (h : Box w g t cs) {p : Addr} (hp : g ≠ p.block) (u : Value) : Box (w.setCell p u) g t cs := (Below.heap_setCell w p u g hp).trans h
theorem Box.below {B : Nat} (h : Box w g t cs) (hb : Below B w w') (hg : g < B) : Box w' g t cs := (hb.block g hg).trans h
theorem Box.call (h : Box w g t cs) (hb : Below w.heap.size w w') : Box w' g t cs := h.below hb h.lt
end

/-! ### Bits -/
theorem ofInt_i64 (a : Nat) (ha : a < 9223372036854775808) : (BitVec.ofInt 64 (a : Int)).toNat = a := by
  rw [BitVec.ofInt_natCast, BitVec.toNat_ofNat]; exact Nat.mod_eq_of_lt (by omega)
theorem and_i64 (a b : Nat) (ha : a < 9223372036854775808) (hb : b < 9223372036854775808) : bits .and .i64 (a : Int) (b : Int) = ((a &&& b : Nat) : Int) := by
  have hx : a &&& b < 2 ^ 63 := Nat.and_lt_two_pow _ (by omega)
  show IntKind.i64.wrap ((BitVec.ofInt 64 (a : Int) &&& BitVec.ofInt 64 (b : Int)).toNat : Int) = _
  rw [BitVec.toNat_and, ofInt_i64 a ha, ofInt_i64 b hb, IntKind.wrap_i64]
  omega
theorem or_i64 (a b : Nat) (ha : a < 9223372036854775808) (hb : b < 9223372036854775808) : bits .or .i64 (a : Int) (b : Int) = ((a ||| b : Nat) : Int) := by
  have hx : a ||| b < 2 ^ 63 := Nat.or_lt_two_pow (by omega) (by omega)
  show IntKind.i64.wrap ((BitVec.ofInt 64 (a : Int) ||| BitVec.ofInt 64 (b : Int)).toNat : Int) = _
  rw [BitVec.toNat_or, ofInt_i64 a ha, ofInt_i64 b hb, IntKind.wrap_i64]
  omega
theorem and127 (m : Nat) (h : m < 9223372036854775808) : bits .and .i64 (m : Int) 127 = ((m % 128 : Nat) : Int) := by
  have := and_i64 m 127 h (by omega)
  rw [show (127 : Nat) = 2 ^ 7 - 1 from rfl, Nat.and_two_pow_sub_one_eq_mod] at this
  exact this
theorem or128 (x : Nat) (h : x < 128) : bits .or .i64 (x : Int) 128 = ((x + 128 : Nat) : Int) := by
  have := or_i64 x 128 (by omega) (by omega)
  have e := Nat.two_pow_add_eq_or_of_lt (i := 7) (b := x) h 1
  rw [Nat.or_comm] at this
  simp only [Nat.reducePow, Nat.mul_one] at e
  rw [← e, Nat.add_comm] at this
  exact this

theorem ints_snoc (k : IntKind) (zs : List Int) (x : Int) : ints k zs ++ [Value.int k x] = ints k (zs ++ [x]) := by simp [ints]
theorem ofInt_u8 (a : Nat) (ha : a < 256) : (BitVec.ofInt 8 (a : Int)).toNat = a := by
  rw [BitVec.ofInt_natCast, BitVec.toNat_ofNat]; exact Nat.mod_eq_of_lt (by omega)
theorem and127u8 (x : Int) (h0 : 0 ≤ x) (h1 : x ≤ 255) : bits .and .u8 x 127 = x % 128 := by
  obtain ⟨m, rfl⟩ := Int.eq_ofNat_of_zero_le h0
  show IntKind.u8.wrap ((BitVec.ofInt 8 (m : Int) &&& BitVec.ofInt 8 ((127 : Nat) : Int)).toNat : Int) = _
  rw [BitVec.toNat_and, ofInt_u8 m (by omega), ofInt_u8 127 (by omega), IntKind.wrap_u8, show (127 : Nat) = 2 ^ 7 - 1 from rfl, Nat.and_two_pow_sub_one_eq_mod]
  omega
theorem or_low (d m i : Nat) (hd : d < 2 ^ i) (hs : 2 ^ i * m + d < 9223372036854775808) (e : Int) (he : e = ((2 ^ i * m : Nat) : Int)) : bits .or .i64 (d : Int) e = ((d + 2 ^ i * m : Nat) : Int) := by
  subst he
  rw [or_i64 d (2 ^ i * m) (by omega) (by omega), Nat.or_comm, ← Nat.two_pow_add_eq_or_of_lt hd, Nat.add_comm]

/-! ### Structs laid one behind the other -/
/-- The cells of a list of structs. -/
abbrev cellsOf {α : Type} (f : α → List Value) (xs : List α) : List Value := xs.flatMap f
theorem cellsOf_len {α : Type} {f : α → List Value} {C : Nat} (hf : ∀ x, (f x).length = C) (xs : List α) : (cellsOf f xs).length = xs.length * C := by
  induction xs with
  | nil => simp [cellsOf]
  | cons x r ih => simp only [cellsOf, List.flatMap_cons, List.length_append, hf] at *; rw [ih, List.length_cons, Nat.add_mul]; omega
theorem cellsOf_at {α : Type} {f : α → List Value} {C : Nat} (hf : ∀ x, (f x).length = C) (xs : List α) (k j : Nat) (hk : k < xs.length) (hj : j < C) : (cellsOf f xs)[k * C + j]? = (f xs[k])[j]? := by
  induction xs generalizing k with
  | nil => simp at hk
  | cons x r ih =>
    simp only [cellsOf, List.flatMap_cons]
    cases k with
    | zero => rw [List.getElem?_append_left (by rw [hf]; omega)]; simp
    | succ k =>
      rw [List.getElem?_append_right (by rw [hf, Nat.add_mul]; omega), hf, show (k + 1) * C + j - C = k * C + j by rw [Nat.add_mul]; omega]
      exact ih k (by simpa using hk)
theorem Rd.row {α : Type} {f : α → List Value} {C : Nat} {w : World} {B : Nat} {A : Option Addr} {xs : List α} (hf : ∀ x, (f x).length = C) (hC : 0 < C) (h : Rd w B A (cellsOf f xs)) {k : Nat} (hk : k < xs.length) :
    ∃ b off, A = some ⟨b, off, none⟩ ∧ b < B ∧ ∀ j u, (f xs[k])[j]? = some u → w.cell? ⟨b, off + k * C + j, none⟩ = some u := by
  have h0 : (f xs[k])[0]? = some ((f xs[k])[0]'(by rw [hf]; exact hC)) := List.getElem?_eq_getElem _
  obtain ⟨b, off, rfl, hb, _⟩ := h (k * C + 0) _ ((cellsOf_at hf xs k 0 hk hC).trans h0)
  refine ⟨b, off, rfl, hb, fun j u hu => ?_⟩
  have hj : j < C := by
    have := (List.getElem?_eq_some_iff.1 hu).1
    rwa [hf] at this
  obtain ⟨b', off', e, _, hc⟩ := h (k * C + j) u ((cellsOf_at hf xs k j hk hj).trans hu)
  simp only [Option.some.injEq, Addr.mk.injEq, and_true] at e
  obtain ⟨rfl, rfl⟩ := e
  rw [Nat.add_assoc]
  exact hc
theorem own_cap {w : World} {base : Nat} {e : TypeId} {size n c : Nat} {A : Option Addr} {xs : List Value} (h : w.ownsRow base e size (.slice A n c) n xs) : n ≤ c := by
  rcases h.2 with ⟨_, h0⟩ | ⟨g, cap, cur, hv, _, _, hn, _⟩
  · omega
  · injection hv with _ _ hc
    omega
/-- What the call owns stays its own over a call that turns nothing that was there. -/
theorem own_call {w w' : World} {base : Nat} {e : TypeId} {size n : Nat} {v : Value} {xs : List Value} (hb : Below w.heap.size w w') (h : w.ownsRow base e size v n xs) : w'.ownsRow base e size v n xs := by
  refine ⟨h.1, ?_⟩
  rcases h.2 with hn | ⟨g, cap, cur, rfl, hbg, hg, rest⟩
  · exact .inl hn
  · exact .inr ⟨g, cap, cur, rfl, hbg, (hb.block g (Array.getElem?_eq_some_iff.1 hg).1).trans hg, rest⟩
/-- An owned row's cell: there is one, and it may be written. -/
theorem own_old {w : World} {base : Nat} {e : TypeId} {size g n cap : Nat} {xs : List Value} (h : w.ownsRow base e size (.slice (some ⟨g, 0, none⟩) n cap) n xs) {j : Nat} (hj : j < n * size) :
    (∃ u, w.cell? ⟨g, j, none⟩ = some u) ∧ w.frozen? ⟨g, j, none⟩ = false := by
  refine ⟨⟨xs[j]'(by rw [h.1]; exact hj), ?_⟩, h.frozenAt j⟩
  rw [h.cellAt j hj]
  exact List.getElem?_eq_getElem _
/-- The next cell of a row that is being filled is written. -/
theorem own_put {w : World} {base : Nat} {e : TypeId} {size g n cap : Nat} {pre xs : List Value} {j : Nat} (h : w.ownsRow base e size (.slice (some ⟨g, 0, none⟩) n cap) n (pre ++ xs)) (hp : pre.length = j) (hj : j < n * size) (u : Value) :
    (w.setCell ⟨g, j, none⟩ u).ownsRow base e size (.slice (some ⟨g, 0, none⟩) n cap) n ((pre ++ [u]) ++ xs.tail) := by
  have hs := (h.stored j u).1
  have hl := h.1
  rw [List.length_append] at hl
  cases xs with
  | nil => simp at hl; omega
  | cons x r =>
    rw [List.set_append_right _ _ (by omega), hp, Nat.sub_self, List.set_cons_zero] at hs
    simpa using hs
theorem grown_put {w wr : World} {g n c j : Nat} {u : Value} (h : w.grownBy wr (Value.slice (some ⟨g, 0, none⟩) n c).ownBlock) : w.grownBy (wr.setCell ⟨g, j, none⟩ u) (Value.slice (some ⟨g, 0, none⟩) n c).ownBlock :=
  ⟨h.os, h.tape, h.output, by simpa [World.setCell] using h.size, fun k hk hne => (Below.heap_setCell wr ⟨g, j, none⟩ u k (fun e => hne (by simp [Value.ownBlock, e]))).trans (h.block k hk hne)⟩

/-! ### Arguments as they come in: cells that read as data of a type -/
/-- The cells cs read as data of type t. -/
def Trd (P : Program) (w : World) (t : TypeId) (cs : List Value) : Prop :=
  ∃ (H : Type) (enc : TypeId × Value → H) (base : Nat) (sp : Nat → Bool) (held : Bool) (fuel : Nat) (x : DataW H × List MemPlace), DataW.trod enc P w base sp held fuel t cs = some x

section
variable {P : Program} {w : World} {t e : TypeId} {cs : List Value}
theorem Trd.of_trod {H : Type} {enc : TypeId × Value → H} {base : Nat} {sp : Nat → Bool} {held : Bool} {v : Value} {d : DataW H} {ps : List MemPlace} (h : DataW.Trod enc P w base sp held t v d ps) : Trd P w t v.cells.toList := by
  obtain ⟨fuel, h⟩ := h
  exact ⟨H, enc, base, sp, held, fuel, _, h⟩
theorem Trd.int {k : IntKind} (ht : P.underlying t = some (.int k)) (h : Trd P w t cs) : ∃ n, cs = [.int k n] ∧ (Lit.int k n).wf = true := by
  obtain ⟨H, enc, base, sp, held, fuel, x, h⟩ := h
  obtain ⟨n, h1, _, h2⟩ := DataW.trod_int ht h
  exact ⟨n, h1, h2⟩
theorem Trd.str (ht : P.underlying t = some .string) (h : Trd P w t cs) : ∃ s : ByteArray, cs = [.string s] ∧ s.size ≤ maxLen := by
  obtain ⟨H, enc, base, sp, held, fuel, x, h⟩ := h
  obtain ⟨s, h1, _, h2⟩ := DataW.trod_string ht h
  exact ⟨s, h1, h2⟩
theorem Trd.bool (ht : P.underlying t = some .bool) (h : Trd P w t cs) : ∃ b, cs = [.bool b] := by
  obtain ⟨H, enc, base, sp, held, fuel, x, h⟩ := h
  obtain ⟨b, h1, _⟩ := DataW.trod_bool ht h
  exact ⟨b, h1⟩
theorem Trd.fields {fs : Array Field} (ht : P.underlying t = some (.struct fs)) (hone : oneCellFields P fs = true) (h : Trd P w t cs) :
    cs.length = P.cellsOf t ∧ ∀ (j : Nat) (f : Field), fs[j]? = some f → ∀ v, cs[j]? = some v → Trd P w f.type [v] := by
  obtain ⟨H, enc, base, sp, held, fuel, x, h⟩ := h
  obtain ⟨xs, n, _, _, hl, hxl, hg⟩ := DataW.trod_struct ht h
  refine ⟨hl, fun j f hj v hv => ?_⟩
  obtain ⟨ho, hk⟩ := hone_of hone j f hj
  have h1 := hg j f hj
  rw [ho, hk] at h1
  have hjl : j < fs.size := (Array.getElem?_eq_some_iff.1 hj).1
  have hjc : j < cs.length := (List.getElem?_eq_some_iff.1 hv).1
  have e1 : (cs.drop j).take 1 = [v] := by
    rw [List.drop_eq_getElem_cons hjc]
    have : cs[j] = v := (List.getElem?_eq_some_iff.1 hv).2
    rw [this]
    rfl
  rw [e1] at h1
  exact ⟨H, enc, base, sp, held, n, xs[j]'(by omega), h1.trans (List.getElem?_eq_getElem (by omega))⟩

/-- Rows of cells, laid one behind the other: the reading of one place. -/
theorem flatten_at {rows : List (List Value)} {C : Nat} (hC : ∀ r ∈ rows, r.length = C) : ∀ (i : Nat) (u : Value), rows.flatten[i]? = some u →
    ∃ q j r, i = q * C + j ∧ j < C ∧ rows[q]? = some r ∧ r[j]? = some u := by
  induction rows with
  | nil => intro i u h; simp at h
  | cons r rs ih =>
    intro i u h
    have hr := hC r (by simp)
    rw [List.flatten_cons] at h
    by_cases hi : i < r.length
    · rw [List.getElem?_append_left hi] at h
      exact ⟨0, i, r, by omega, by omega, rfl, h⟩
    · rw [List.getElem?_append_right (by omega)] at h
      obtain ⟨q, j, r', h1, h2, h3, h4⟩ := ih (fun x hx => hC x (by simp [hx])) _ u h
      exact ⟨q + 1, j, r', by rw [Nat.add_mul]; omega, h2, by simpa using h3, h4⟩

theorem addr_form {a : Addr} (hs : a.spot = none) (i : Nat) : a = ⟨a.block, a.off, none⟩ ∧ a.add i = ⟨a.block, a.off + i, none⟩ := by
  obtain ⟨b, off, sp⟩ := a
  subst hs
  refine ⟨rfl, ?_⟩
  unfold Addr.add
  split <;> simp_all

theorem Trd.slice (ht : P.underlying t = some (.slice e)) (h : Trd P w t cs) :
    ∃ (A : Option Addr) (n c : Nat) (rows : List (List Value)), cs = [.slice A n c] ∧ n ≤ c ∧ c ≤ maxLen ∧ rows.length = n ∧ (∀ r ∈ rows, r.length = P.cellsOf e ∧ Trd P w e r) ∧ Rd w w.heap.size A rows.flatten := by
  obtain ⟨H, enc, base, sp, held, fuel, x, h⟩ := h
  rcases Go.Deep.open_slice ht h with ⟨rfl, _⟩ | ⟨a, len, cap, m, n, D, Pl, rfl, _, hl, hm, hmm, _, hi⟩
  · exact ⟨none, 0, 0, [], rfl, Nat.le_refl _, Nat.zero_le _, rfl, by simp, Rd.nil _⟩
  · have hlm : len ≤ m := by rw [hmm]; split <;> omega
    have hex : ∀ i : Fin len, ∃ cs', w.cells? base (a.add (i * P.cellsOf e)) (P.cellsOf e) = some cs' ∧ DataW.trod enc P w base sp held n e cs' = some (D i, Pl i) := fun i => hi i (by omega)
    refine ⟨some a, len, cap, List.ofFn fun i => (hex i).choose, rfl, hl, hm, by simp, ?_, ?_⟩
    · intro r hr
      obtain ⟨i, rfl⟩ := List.mem_ofFn.1 hr
      obtain ⟨h1, h2⟩ := (hex i).choose_spec
      exact ⟨(World.cells?_some h1).2.1, H, enc, base, sp, held, n, _, h2⟩
    · intro i u hu
      have hC : ∀ r ∈ List.ofFn fun i => (hex i).choose, r.length = P.cellsOf e := by
        intro r hr
        obtain ⟨i, rfl⟩ := List.mem_ofFn.1 hr
        exact (World.cells?_some (hex i).choose_spec.1).2.1
      obtain ⟨q, j, r, rfl, hj, hq, hu'⟩ := flatten_at hC i u hu
      have hql : q < len := by have := (List.getElem?_eq_some_iff.1 hq).1; simpa using this
      have hr : (hex ⟨q, hql⟩).choose = r := by
        rw [List.getElem?_eq_getElem (by simpa using hql)] at hq
        simpa using hq
      have h1 := (World.cells?_some (hex ⟨q, hql⟩).choose_spec.1).2.2 j hj
      rw [hr, hu', Go.Deep.add_add] at h1
      have h0 := (World.cells?_some (hex ⟨0, by omega⟩).choose_spec.1).2.2 0 (by omega)
      have hc0 := (World.cells?_some (hex ⟨0, by omega⟩).choose_spec.1).2.1
      rw [List.getElem?_eq_getElem (by omega), Go.Deep.add_add] at h0
      have hsp : a.spot = none := by simpa [Addr.add] using World.cell?_spot h0
      obtain ⟨e1, e2⟩ := addr_form hsp (q * P.cellsOf e + j)
      have hb := World.block_lt_of_cell? _ _ h1
      rw [e2] at h1 hb
      exact ⟨a.block, a.off, by rw [← e1], hb, h1⟩

theorem rows_of {α : Type} {rows : List (List Value)} {f : α → List Value} {p : α → Prop} (h : ∀ r ∈ rows, ∃ x, r = f x ∧ p x) : ∃ xs : List α, rows = xs.map f ∧ ∀ x ∈ xs, p x := by
  induction rows with
  | nil => exact ⟨[], rfl, by simp⟩
  | cons r rs ih =>
    obtain ⟨xs, rfl, hx⟩ := ih fun r hr => h r (by simp [hr])
    obtain ⟨x, rfl, hp⟩ := h r (by simp)
    exact ⟨x :: xs, rfl, by simpa using ⟨hp, hx⟩⟩
theorem flatten_one (k : IntKind) (zs : List Int) : (zs.map fun z => [Value.int k z]).flatten = ints k zs := by
  induction zs with
  | nil => rfl
  | cons z r ih => simp_all [ints]

/-- A slice of ints that comes in. -/
theorem Trd.ints {k : IntKind} (ht : P.underlying t = some (.slice e)) (he : P.underlying e = some (.int k)) (h : Trd P w t cs) :
    ∃ (A : Option Addr) (zs : List Int) (c : Nat), cs = [.slice A zs.length c] ∧ zs.length ≤ c ∧ c ≤ maxLen ∧ Rd w w.heap.size A (ints k zs) ∧ ∀ z ∈ zs, (Lit.int k z).wf = true := by
  obtain ⟨A, n, c, rows, rfl, hn, hc, rfl, hr, hrd⟩ := Trd.slice ht h
  obtain ⟨zs, rfl, hz⟩ := rows_of (f := fun z => [Value.int k z]) (p := fun z => (Lit.int k z).wf = true) fun r hr' => (hr r hr').2.int he
  rw [flatten_one] at hrd
  simp only [List.length_map] at hn ⊢
  exact ⟨A, zs, c, rfl, hn, hc, hrd, hz⟩
theorem wf_u8 {zs : List Int} (h : ∀ z ∈ zs, (Lit.int .u8 z).wf = true) : InR 0 255 zs := fun z hz => by
  have := h z hz
  simpa [Lit.wf, IntKind.min, IntKind.max, IntKind.signed, IntKind.bits] using this
theorem wf_i64s {zs : List Int} (h : ∀ z ∈ zs, (Lit.int .i64 z).wf = true) : InR (-9223372036854775808) 9223372036854775807 zs := fun z hz => wf_bounds (h z hz)
/-- A slice of structs that comes in; what a row of cells reads as is told by the caller. -/
theorem arg_slice {α : Type} {f : α → List Value} {p : α → Prop} {H : Type} {enc : TypeId × Value → H} {base b0 : Nat} {sp : Nat → Bool} {held : Bool} {r : Reach} {v : Value} {d : DataW H} {ps : List MemPlace} (ht : P.underlying t = some (.slice e))
    (hrow : ∀ cs, cs.length = P.cellsOf e → Trd P w e cs → ∃ x, cs = f x ∧ p x) (hv : Value.okWide P w r b0 t v) (h : DataW.Trod enc P w base sp held t v d ps) :
    ∃ (A : Option Addr) (xs : List α) (c : Nat), v = .slice A xs.length c ∧ xs.length ≤ c ∧ c ≤ maxLen ∧ (∀ x ∈ xs, p x) ∧ Rd w w.heap.size A (cellsOf f xs) := by
  obtain ⟨a, l, c, rfl⟩ := okWide_slice ht hv
  obtain ⟨A, n, c', rows, e1, h1, h2, h3, h4, h5⟩ := (Trd.of_trod h).slice ht
  simp [Value.cells] at e1
  obtain ⟨rfl, rfl, rfl⟩ := e1
  obtain ⟨xs, rfl, hx⟩ := rows_of (f := f) (p := p) fun r hr => hrow r (h4 r hr).1 (h4 r hr).2
  simp only [List.length_map] at h3
  subst h3
  refine ⟨_, xs, _, rfl, h1, h2, hx, ?_⟩
  simpa [cellsOf, List.flatMap] using h5
/-- A []byte that comes in. -/
theorem arg_bytes {H : Type} {enc : TypeId × Value → H} {base b0 : Nat} {sp : Nat → Bool} {held : Bool} {r : Reach} {v : Value} {d : DataW H} {ps : List MemPlace} (ht : P.underlying t = some (.slice e)) (he : P.underlying e = some (.int .u8))
    (hv : Value.okWide P w r b0 t v) (h : DataW.Trod enc P w base sp held t v d ps) :
    ∃ (A : Option Addr) (zs : List Int) (c : Nat), v = .slice A zs.length c ∧ zs.length ≤ c ∧ c ≤ maxLen ∧ Rd w w.heap.size A (Kit.ints .u8 zs) ∧ InR 0 255 zs := by
  obtain ⟨a, l, c, rfl⟩ := okWide_slice ht hv
  obtain ⟨A, zs, c', e1, h1, h2, h3, h4⟩ := (Trd.of_trod h).ints ht he
  simp [Value.cells] at e1
  obtain ⟨rfl, rfl, rfl⟩ := e1
  exact ⟨_, zs, _, rfl, h1, h2, h3, wf_u8 h4⟩
end
end Go.Proofs.Ytmglgjchemecjaa.Kit
