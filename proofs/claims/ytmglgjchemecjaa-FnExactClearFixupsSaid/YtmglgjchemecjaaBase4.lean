/- More of the common ground: a list that is read, appended to a row of the call's own. -/
import Derived.Test.YtmglgjchemecjaaBase3
import Derived.Deep.RegionLawGrows
namespace Go.Proofs.Ytmglgjchemecjaa.Kit
set_option maxRecDepth 200000
open Go.ChangeShapes Go.WideShapes Go.ChangeAt Go.RowKit
/-- 'out = append(out, s...)': out is a row of the call's own, s is read. -/
theorem wpList_appR {P : Program} (w : World) {ops : Array Oper} {rest : List Oper} {o : Oper} {a : Act} {Q : Exit → Act → World → Prop} (hgd : o.guard = none) (s x : Operand) (t : TypeId)
    (ho : o.op = .call { callee := .builtin .append, args := #[s, x], argTypes := #[t, t] })
    (base : Nat) (e : TypeId) (i : TypeInfo) (z : Value) (size bytes : Nat) (ht : P.underlying t = some (.slice e)) (hi : P.info? e = some i) (hz : i.zero = some z)
    (hsize : i.size = size) (hby : i.bytes = bytes) (hzs : z.cells.size = size) (hsz : 0 < size)
    {B : Nat} (A : Option Addr) (m c : Nat) (news : List Value) (hx : a.eval x = .slice A m c) (hrd : Rd w B A news) (hl : news.length = m * size) (hnil : A = none → c = 0) (h1 : ∀ u ∈ news, u.oneCell' = true)
    (v : Value) (n : Nat) (xs : List Value) (hs : a.eval s = v) (hown : w.ownsRow base e size v n xs) (hn : n + m ≤ maxLen) (hbytes : (n + m) * bytes ≤ 140737488355328) (hbase : base ≤ w.heap.size)
    (h : ∀ A' n' c' w', n' = n + m → w'.ownsRow base e size (.slice A' n' c') n' (xs ++ news) → w.grownBy w' v.ownBlock → wpList P ops Q rest (a.put o.dst (.slice A' n' c')) w') :
    wpList P ops Q (o :: rest) a w := by
  cases A with
  | none =>
    have hc := hnil rfl
    subst hc
    have hnews : news = [] := by
      cases news with
      | nil => rfl
      | cons u r =>
        obtain ⟨b, off, e', _⟩ := hrd 0 u rfl
        cases e'
    subst hnews
    have hm : m = 0 := by
      simp only [List.length_nil] at hl
      rcases Nat.mul_eq_zero.1 hl.symm with h0 | h0
      · exact h0
      · omega
    subst hm
    refine wpList_append_own_none hgd s x t ho base e i size ht hi v n xs hs hown hx ?_
    rcases hown.2 with ⟨rfl, rfl⟩ | ⟨g, cap, cur, rfl, r⟩
    · exact h _ _ _ w rfl (by simpa using hown) (World.grownBy.refl w _)
    · exact h _ _ _ w rfl (by simpa using hown) (World.grownBy.refl w _)
  | some ad =>
    have hnews : ∀ j u, news[j]? = some u → w.cell? (ad.add j) = some u := fun j u hj => by
      obtain ⟨b, off, e', _, hc⟩ := hrd j u hj
      injection e' with e'
      subst e'
      have hadd : (⟨b, off, none⟩ : Addr).add j = ⟨b, off + j, none⟩ := (addr_form rfl j).2
      rw [hadd]
      exact hc
    refine wpList_append_own _ hgd s x t ho base e i z size bytes ht hi hz hsize hby hzs hsz v n xs hs hown ad m c news hx hl hnews h1 hn hbytes hbase ?_
    intro v' w' hown' hg hnil'
    rcases hown'.2 with ⟨rfl, h0⟩ | ⟨g', cap', cur', rfl, r⟩
    · have hn0 : n + m = 0 := h0
      exact h _ _ _ w' hn0.symm (by rw [hn0] at hown'; exact hown') hg
    · exact h _ _ _ w' rfl hown' hg
theorem own_nil {w : World} {base : Nat} {e : TypeId} {size n c : Nat} {A : Option Addr} {xs : List Value} (h : w.ownsRow base e size (.slice A n c) n xs) : A = none → c = 0 := by
  intro hA
  rcases h.2 with ⟨hv, _⟩ | ⟨g, cap, cur, hv, _⟩
  · injection hv
  · injection hv with hA'
    rw [hA] at hA'
    cases hA'
/-- A row that was there before the block that turns. -/
theorem own_older {w w' : World} {base X : Nat} {e : TypeId} {size : Nat} {v : Value} {n : Nat} {xs : List Value} {row : Option Nat} (h : w.ownsRow base e size v n xs) (g : w.grownBy w' row) (hv : ∀ k, v.ownBlock = some k → k < X) (hr : ∀ k, row = some k → X ≤ k) : w'.ownsRow base e size v n xs :=
  own_keep h fun k hk => g.block k (h.lt k hk).2 (fun e => by have h1 := hv k hk; have h2 := hr k e.symm; omega)
/-- The first elements of a row. -/
theorem own_prefix {w : World} {base n c k : Nat} {e : TypeId} {size : Nat} {A : Option Addr} {xs : List Value} (h : w.ownsRow base e size (.slice A n c) n xs) (hk : k ≤ n) : w.ownsRow base e size (.slice A k c) k (xs.take (k * size)) := by
  have hle : k * size ≤ n * size := Nat.mul_le_mul_right _ hk
  refine ⟨by rw [List.length_take, h.1]; omega, ?_⟩
  rcases h.2 with ⟨hv, h0⟩ | ⟨g, cap, cur, hv, hb, hg, hn, hc, hs, ht⟩
  · left
    injection hv with hA _ hc
    subst hA hc h0
    have : k = 0 := by omega
    subst this
    exact ⟨rfl, rfl⟩
  · right
    injection hv with hA _ hc'
    subst hA hc'
    refine ⟨g, c, cur, rfl, hb, hg, by omega, hc, hs, ?_⟩
    rw [← ht, List.take_take]
    congr 1
    omega
theorem own_raise {w : World} {base base' : Nat} {e : TypeId} {size : Nat} {v : Value} {n : Nat} {xs : List Value} (h : w.ownsRow base e size v n xs) (hk : ∀ k, v.ownBlock = some k → base' ≤ k) : w.ownsRow base' e size v n xs :=
  ⟨h.1, h.2.imp id fun ⟨g, cap, cur, a, b, r⟩ => ⟨g, cap, cur, a, hk g (by rw [a]; rfl), r⟩⟩
/-- 'out = append(out, x)' where out has no room at all: the answer lies in a new block. -/
theorem wpList_app1G {P : Program} (w : World) {ops : Array Oper} {rest : List Oper} {o : Oper} {a : Act} {Q : Exit → Act → World → Prop} (hgd : o.guard = none) (s x : Operand) (t : TypeId)
    (ho : o.op = .call { callee := .builtin .append, args := #[s, x], argTypes := #[t, t] })
    (e : TypeId) (i : TypeInfo) (z : Value) (size bytes : Nat) (ht : P.underlying t = some (.slice e)) (hi : P.info? e = some i) (hz : i.zero = some z)
    (hsize : i.size = size) (hby : i.bytes = bytes) (hzs : z.cells.size = size) (hsz : 0 < size)
    (cs : Array Value) (hx : a.eval x = .slice (some ⟨w.heap.size, 0, none⟩) 1 1) (hcs : cs.size = size) (h1 : ∀ u ∈ cs.toList, u.oneCell' = true)
    (ao : Addr) (hs : a.eval s = .slice (some ao) 0 0) (hbytes : 1 * bytes ≤ 140737488355328)
    (h : ∀ A' n' c' w', n' = 1 → w'.ownsRow (w.heap.size + 1) e size (.slice A' n' c') n' cs.toList → (w.alloc (.cells cs e)).grownBy w' none → wpList P ops Q rest (a.put o.dst (.slice A' n' c')) w') :
    wpList P ops Q (o :: rest) a (w.alloc (.cells cs e)) := by
  have hw : Region.wanted o (yielded ops a.tmps) = true := by simp [Region.wanted, hgd]
  rw [wpList, if_pos hw]
  refine .inl ?_
  have key := step_append_grows (P := P) (ops := ops) (o := o) (a := a) (w := w.alloc (.cells cs e)) (K := fun a w => wpList P ops Q rest a w) (Q := Q) (E := False) hgd s x t ho e i z size bytes ht hi hz hsize hby hzs hsz (some ao) 0 0 [] hs (fun h => by cases h) (by simp) (fun b _ j u hj => by simp at hj)
    ⟨w.heap.size, 0, none⟩ 1 1 cs.toList hx (by simpa using hcs) (cells_new w cs e) h1 (by omega) (by unfold maxLen; omega) (by omega) (fun v' w' hown hg => by
      rcases hown.2 with ⟨_, h0⟩ | ⟨g, cap, cur, hv, r⟩
      · omega
      · subst hv
        have hh := h (some ⟨g, 0, none⟩) (0 + 1) cap w' (by omega) (by simpa using hown) hg
        exact hh)
  rw [if_pos hw] at key
  exact key
/-- The same, the new block's number spelled otherwise. -/
theorem wpList_app1k {P : Program} (w : World) {ops : Array Oper} {rest : List Oper} {o : Oper} {a : Act} {Q : Exit → Act → World → Prop} (hgd : o.guard = none) (s x : Operand) (t : TypeId)
    (ho : o.op = .call { callee := .builtin .append, args := #[s, x], argTypes := #[t, t] })
    (base : Nat) (e : TypeId) (i : TypeInfo) (z : Value) (size bytes : Nat) (ht : P.underlying t = some (.slice e)) (hi : P.info? e = some i) (hz : i.zero = some z)
    (hsize : i.size = size) (hby : i.bytes = bytes) (hzs : z.cells.size = size) (hsz : 0 < size)
    (cs : Array Value) (X : Nat) (hx : a.eval x = .slice (some ⟨X, 0, none⟩) 1 1) (hX : X = w.heap.size) (hcs : cs.size = size) (h1 : ∀ u ∈ cs.toList, u.oneCell' = true)
    (v : Value) (n : Nat) (xs : List Value) (hs : a.eval s = v) (hown : w.ownsRow base e size v n xs) (hn : n + 1 ≤ maxLen) (hbytes : (n + 1) * bytes ≤ 140737488355328) (hbase : base ≤ w.heap.size)
    (h : ∀ A' n' c' w', n' = n + 1 → w'.ownsRow base e size (.slice A' n' c') n' (xs ++ cs.toList) → w.grownBy w' v.ownBlock → wpList P ops Q rest (a.put o.dst (.slice A' n' c')) w') :
    wpList P ops Q (o :: rest) a (w.alloc (.cells cs e)) := by
  subst hX
  exact wpList_app1 w hgd s x t ho base e i z size bytes ht hi hz hsize hby hzs hsz cs hx hcs h1 v n xs hs hown hn hbytes hbase h
theorem wpList_app1Gk {P : Program} (w : World) {ops : Array Oper} {rest : List Oper} {o : Oper} {a : Act} {Q : Exit → Act → World → Prop} (hgd : o.guard = none) (s x : Operand) (t : TypeId)
    (ho : o.op = .call { callee := .builtin .append, args := #[s, x], argTypes := #[t, t] })
    (e : TypeId) (i : TypeInfo) (z : Value) (size bytes : Nat) (ht : P.underlying t = some (.slice e)) (hi : P.info? e = some i) (hz : i.zero = some z)
    (hsize : i.size = size) (hby : i.bytes = bytes) (hzs : z.cells.size = size) (hsz : 0 < size)
    (cs : Array Value) (X : Nat) (hx : a.eval x = .slice (some ⟨X, 0, none⟩) 1 1) (hX : X = w.heap.size) (hcs : cs.size = size) (h1 : ∀ u ∈ cs.toList, u.oneCell' = true)
    (ao : Addr) (hs : a.eval s = .slice (some ao) 0 0) (hbytes : 1 * bytes ≤ 140737488355328)
    (h : ∀ A' n' c' w', n' = 1 → w'.ownsRow (w.heap.size + 1) e size (.slice A' n' c') n' cs.toList → (w.alloc (.cells cs e)).grownBy w' none → wpList P ops Q rest (a.put o.dst (.slice A' n' c')) w') :
    wpList P ops Q (o :: rest) a (w.alloc (.cells cs e)) := by
  subst hX
  exact wpList_app1G w hgd s x t ho e i z size bytes ht hi hz hsize hby hzs hsz cs hx hcs h1 ao hs hbytes h
end Go.Proofs.Ytmglgjchemecjaa.Kit
