/- More of the common ground: rows (empty without room, or the call's own), and one law of append for all of them. -/
import Derived.Test.YtmglgjchemecjaaBase4
import Derived.Deep.Upon
import Derived.Deep.AppendLies
namespace Go.Proofs.Ytmglgjchemecjaa.Kit
set_option maxRecDepth 200000
open Go.ChangeShapes Go.WideShapes Go.ChangeAt Go.RowKit
/-- The block of a row that may be written. -/
def blk (A : Option Addr) (c : Nat) : Option Nat := if c = 0 then none else A.map (·.block)
/-- A row: empty without room (its address whatever), or the call's own. -/
def Row (w : World) (base : Nat) (e : TypeId) (size : Nat) (A : Option Addr) (n c : Nat) (xs : List Value) : Prop :=
  (n = 0 ∧ c = 0 ∧ xs = []) ∨ w.ownsRow base e size (.slice A n c) n xs
theorem blk_none (A : Option Addr) : blk A 0 = none := rfl
section
variable {w w' : World} {base : Nat} {e : TypeId} {size n c : Nat} {A : Option Addr} {xs : List Value}
theorem Row.own (h : w.ownsRow base e size (.slice A n c) n xs) : Row w base e size A n c xs := .inr h
theorem Row.empty (w : World) (base : Nat) (e : TypeId) (size : Nat) (A : Option Addr) : Row w base e size A 0 0 [] := .inl ⟨rfl, rfl, rfl⟩
theorem Row.lt (h : Row w base e size A n c xs) : ∀ k, blk A c = some k → base ≤ k ∧ k < w.heap.size := by
  intro k hk
  rcases h with ⟨_, rfl, _⟩ | h
  · cases hk
  · rcases h.2 with ⟨hv, _⟩ | ⟨g, cap, cur, hv, r⟩
    · injection hv with _ _ hc
      subst hc
      cases hk
    · unfold blk at hk
      split at hk
      · cases hk
      · refine h.lt k ?_
        injection hv with hA
        subst hA
        simpa [Value.ownBlock] using hk
theorem Row.keep (h : Row w base e size A n c xs) (hk : ∀ k, blk A c = some k → w'.heap[k]? = w.heap[k]?) : Row w' base e size A n c xs := by
  rcases h with h | h
  · exact .inl h
  · by_cases hc : c = 0
    · subst hc
      refine .inl ⟨Nat.le_zero.1 (own_cap h), rfl, ?_⟩
      have h0 : n = 0 := Nat.le_zero.1 (own_cap h)
      subst h0
      exact List.eq_nil_of_length_eq_zero (by simpa using h.1)
    · refine .inr (own_keep h fun k hk' => hk k ?_)
      unfold blk
      rw [if_neg hc]
      cases A with
      | none => cases hk'
      | some a => simpa [Value.ownBlock] using hk'
theorem Row.call (h : Row w base e size A n c xs) (hb : Below w.heap.size w w') : Row w' base e size A n c xs := h.keep fun k hk => hb.block k (h.lt k hk).2
theorem Row.alloc (h : Row w base e size A n c xs) (o : Obj) : Row (w.alloc o) base e size A n c xs := h.call ((Below.refl _ _).alloc (Nat.le_refl _) o)
theorem Row.drew (h : Row w base e size A n c xs) : Row w.drew base e size A n c xs := h.keep fun _ _ => rfl
theorem Row.drewN (h : Row w base e size A n c xs) (m : Nat) : Row (w.drewN m) base e size A n c xs := h.keep fun _ _ => rfl
theorem Row.same (h : Row w base e size A n c xs) (hh : w'.heap = w.heap) : Row w' base e size A n c xs := h.keep fun _ _ => by rw [hh]
theorem Row.grown (h : Row w base e size A n c xs) {v : Option Nat} (g : w.grownBy w' v) (hv : ∀ k, blk A c = some k → v ≠ some k) : Row w' base e size A n c xs := h.keep fun k hk => g.block k (h.lt k hk).2 (fun e => hv k hk e.symm)
theorem Row.set (h : Row w base e size A n c xs) {a : Addr} (ha : ∀ k, blk A c = some k → k ≠ a.block) (u : Value) : Row (w.setCell a u) base e size A n c xs := h.keep fun k hk => Below.heap_setCell w a u k (ha k hk)
theorem Row.down (h : Row w base e size A n c xs) {b : Nat} (hb : b ≤ base) : Row w b e size A n c xs := h.imp id fun h => own_base h hb
theorem Row.up (h : Row w base e size A n c xs) {b : Nat} (hb : ∀ k, blk A c = some k → b ≤ k) : Row w b e size A n c xs := by
  rcases h with h | h
  · exact .inl h
  · by_cases hc : c = 0
    · subst hc
      have h0 : n = 0 := Nat.le_zero.1 (own_cap h)
      subst h0
      exact .inl ⟨rfl, rfl, List.eq_nil_of_length_eq_zero (by simpa using h.1)⟩
    · refine .inr (own_raise h fun k hk => hb k ?_)
      unfold blk
      rw [if_neg hc]
      cases A with
      | none => cases hk
      | some a => simpa [Value.ownBlock] using hk
theorem Row.rd (h : Row w base e size A n c xs) : Rd w w.heap.size A xs := by
  rcases h with ⟨_, _, rfl⟩ | h
  · exact Rd.nil _
  · exact Rd.of_own h
theorem Row.length (h : Row w base e size A n c xs) : xs.length = n * size := by
  rcases h with ⟨rfl, _, rfl⟩ | h
  · simp
  · exact h.1
theorem Row.cap (h : Row w base e size A n c xs) : n ≤ c ∧ c ≤ maxLen := by
  rcases h with ⟨rfl, rfl, _⟩ | h
  · exact ⟨Nat.le_refl _, Nat.zero_le _⟩
  · exact ⟨own_cap h, own_capm h⟩
theorem Row.nil (h : Row w base e size A n c xs) : A = none → c = 0 := by
  rcases h with ⟨_, rfl, _⟩ | h
  · intro _
    rfl
  · exact own_nil h
theorem Row.of_own (h : w.ownsRow base e size (.slice A n c) n xs) (hx : n = xs.length / size) : Row w base e size A n c xs := .inr h
/-- A row's block holds elements of its type: a box of another type is another block. -/
theorem Row.box (h : Row w base e size A n c xs) {X : Nat} {t : TypeId} {cs : Array Value} (hb : Box w X t cs) (hne : e ≠ t) : ∀ k, blk A c = some k → k ≠ X := by
  intro k hk
  rcases h with ⟨_, rfl, _⟩ | h
  · cases hk
  · refine own_box h hb hne k ?_
    unfold blk at hk
    split at hk
    · cases hk
    · cases A with
      | none => cases hk
      | some a => simpa [Value.ownBlock] using hk
end
theorem Row.prefix {w : World} {base : Nat} {e : TypeId} {size n c k : Nat} {A : Option Addr} {xs : List Value} (h : Row w base e size A n c xs) (hk : k ≤ n) : Row w base e size A k c (xs.take (k * size)) := by
  rcases h with ⟨rfl, rfl, rfl⟩ | h
  · have h0 : k = 0 := by omega
    subst h0
    exact .inl ⟨rfl, rfl, by simp⟩
  · exact .inr (own_prefix h hk)
/-- The cell of a row's element. -/
theorem Row.at1 {w : World} {base : Nat} {e : TypeId} {n c : Nat} {A : Option Addr} {k : IntKind} {zs : List Int} (h : Row w base e 1 A n c (ints k zs)) {i : Nat} (hi : i < zs.length) : ∃ g, A = some ⟨g, 0, none⟩ ∧ w.cell? ⟨g, i, none⟩ = some (.int k (zs.getD i 0)) ∧ g < w.heap.size := by
  rcases h with ⟨_, _, h0⟩ | h
  · have : zs = [] := by simpa [ints] using h0
    subst this
    simp at hi
  · have hl := h.1
    rcases h.2 with ⟨_, h0⟩ | ⟨g, cap, cur, hv, hb, hg, r⟩
    · simp only [ints, List.length_map] at hl
      omega
    · injection hv with hA
      subst hA
      refine ⟨g, rfl, ?_, (Array.getElem?_eq_some_iff.1 hg).1⟩
      obtain ⟨b, off, hA, _, hc⟩ := (Rd.of_own h).int hi
      simp only [Option.some.injEq, Addr.mk.injEq, and_true] at hA
      obtain ⟨rfl, rfl⟩ := hA
      rw [Nat.zero_add] at hc
      rw [hc, List.getD_eq_getElem?_getD, List.getElem?_eq_getElem hi]
      rfl
/-- Two rows that share nothing that may be written. -/
def Apart (A : Option Addr) (c : Nat) (A' : Option Addr) (c' : Nat) : Prop := ∀ k, blk A c = some k → blk A' c' ≠ some k
theorem Apart.symm {A A' : Option Addr} {c c' : Nat} (h : Apart A c A' c') : Apart A' c' A c := fun k hk h' => h k h' hk
/-- 'append(row, s...)': what becomes of it. -/
theorem run_app {P : Program} (w : World) (t ty e : TypeId) (i : TypeInfo) (z : Value) (size bytes : Nat) (ht : P.underlying t = some (.slice e)) (hi : P.info? e = some i) (hz : i.zero = some z)
    (hsize : i.size = size) (hby : i.bytes = bytes) (hzs : z.cells.size = size) (hsz : 0 < size) {base : Nat} {A : Option Addr} {n c : Nat} {xs : List Value} (hrow : Row w base e size A n c xs) (hbase : base ≤ w.heap.size)
    {B : Nat} {A2 : Option Addr} {m c2 : Nat} {news : List Value} (hrd : Rd w B A2 news) (hl : news.length = m * size) (hnil : A2 = none → c2 = 0) (h1 : ∀ u ∈ news, u.oneCell' = true)
    (h63 : n + m ≤ maxLen) (hbytes : (n + m) * bytes ≤ 140737488355328) :
    ∃ A' c' w', (Builtin.append_ #[t, t] ty #[.slice A n c, .slice A2 m c2]).run P w = .ok (.slice A' (n + m) c') w' ∧ Row w' base e size A' (n + m) c' (xs ++ news) ∧ w.grownBy w' (blk A c) ∧ ∀ k, blk A' c' = some k → blk A c = some k ∨ w.heap.size ≤ k := by
  by_cases hm : m = 0
  · subst hm
    obtain rfl : news = [] := List.eq_nil_of_length_eq_zero (by simpa using hl)
    have hs : Src P i.size t (.slice A2 0 c2) 0 [] w := by
      cases A2 with
      | none =>
        have := hnil rfl
        subst this
        exact Src.ofNil w ht 0
      | some a => exact Src.ofSlice w ht a 0 c2 [] (by simp) (by simp) (by simp)
    refine ⟨A, c, w, run_append_nothing w t t ty e i ht hi A n c hrow.cap.1 _ hs, by simpa using hrow, World.grownBy.refl w _, fun k hk => .inl hk⟩
  · obtain ⟨ad, rfl, hc⟩ : ∃ ad, A2 = some ad ∧ ∀ j u, news[j]? = some u → w.cell? (ad.add j) = some u := by
      have h0 : 0 < m * size := Nat.mul_pos (by omega) hsz
      obtain ⟨b, off, e', _⟩ := hrd 0 (news[0]'(by omega)) (List.getElem?_eq_getElem (by omega))
      refine ⟨_, e', fun j u hj => ?_⟩
      obtain ⟨b', off', e'', _, hcc⟩ := hrd j u hj
      rw [e'] at e''
      simp only [Option.some.injEq, Addr.mk.injEq, and_true] at e''
      obtain ⟨rfl, rfl⟩ := e''
      rw [(addr_form (a := ⟨b, off, none⟩) rfl j).2]
      exact hcc
    by_cases hc0 : c = 0
    · subst hc0
      have hn0 : n = 0 := Nat.le_zero.1 hrow.cap.1
      subst hn0
      have hx0 : xs = [] := List.eq_nil_of_length_eq_zero (by simpa using hrow.length)
      subst hx0
      obtain ⟨v', w', hrun, r1, r2⟩ : ∃ v' w', (Builtin.append_ #[t, t] ty #[.slice A 0 0, .slice (some ad) m c2]).run P w = .ok v' w' ∧ w'.ownsRow w.heap.size e size v' (0 + m) ([] ++ news) ∧ w.grownBy w' none := by
        cases A with
        | none =>
          obtain ⟨v', w', hrun, r1, r2, _⟩ := run_append_own (P := P) w w.heap.size t ty e i z size bytes ht hi hz hsize hby hzs hsz (.slice none 0 0) 0 [] (World.ownsRow_nil w _ e size) ad m c2 news hl hc h1 h63 hbytes (Nat.le_refl _)
          exact ⟨v', w', hrun, r1, r2⟩
        | some a => exact run_append_arg_grows (P := P) w t ty e i z size bytes ht hi hz hsize hby hzs hsz a 0 0 [] (by simp) (by simp) ad m c2 news hl hc (by omega) h63 hbytes
      obtain ⟨g, cap, rfl, hg, _⟩ := r1.form (by omega)
      refine ⟨some ⟨g, 0, none⟩, cap, w', hrun, .inr (own_base r1 hbase), r2, fun k hk => .inr ?_⟩
      have := (Row.own r1).lt k hk
      exact this.1
    · have hown : w.ownsRow base e size (.slice A n c) n xs := hrow.elim (fun h => absurd h.2.1 hc0) id
      obtain ⟨g, cap, w', hrun, r1, r2, r3, r4⟩ := run_append_lies (P := P) w t ty base e i z size bytes ht hi hz hsize hby hzs hsz (.slice A n c) n xs hown ad m c2 news hl hc h1 (by omega) h63 hbytes hbase w.heap.size rfl
      have hb : blk A c = (Value.slice A n c).ownBlock := by
        unfold blk
        rw [if_neg hc0]
        cases A <;> rfl
      refine ⟨some ⟨g, 0, none⟩, cap, w', hrun, .inr r1, by rw [hb]; exact r2, fun k hk => ?_⟩
      have hk' : k = g := by
        unfold blk at hk
        split at hk
        · cases hk
        · simpa using hk.symm
      subst hk'
      rw [hb]
      rcases r3 with r3 | r3
      · exact .inl r3
      · exact .inr (by omega)
theorem wp_app {P : Program} {o : Oper} {a : Act} {K : Act → World → Prop} {Q : Exit → Act → World → Prop} {w : World} (s x : Operand) (t : TypeId)
    (ho : o.op = .call { callee := .builtin .append, args := #[s, x], argTypes := #[t, t] }) (e : TypeId) (i : TypeInfo) (z : Value) (size bytes : Nat) (ht : P.underlying t = some (.slice e)) (hi : P.info? e = some i) (hz : i.zero = some z)
    (hsize : i.size = size) (hby : i.bytes = bytes) (hzs : z.cells.size = size) (hsz : 0 < size) (base : Nat) (A : Option Addr) (n c : Nat) (xs : List Value) (hs : a.eval s = .slice A n c) (hrow : Row w base e size A n c xs) (hbase : base ≤ w.heap.size)
    {B : Nat} (A2 : Option Addr) (m c2 : Nat) (news : List Value) (hx : a.eval x = .slice A2 m c2) (hrd : Rd w B A2 news) (hl : news.length = m * size) (hnil : A2 = none → c2 = 0) (h1 : ∀ u ∈ news, u.oneCell' = true)
    (h63 : n + m ≤ maxLen) (hbytes : (n + m) * bytes ≤ 140737488355328)
    (h : ∀ A' n' c' w', n' = n + m → Row w' base e size A' n' c' (xs ++ news) → w.grownBy w' (blk A c) → (∀ k, blk A' c' = some k → blk A c = some k ∨ w.heap.size ≤ k) → K (a.put o.dst (.slice A' n' c')) w') :
    o.wp P a w K Q := by
  obtain ⟨A', c', w', hr, h2, h3, h4⟩ := run_app (P := P) w t o.type e i z size bytes ht hi hz hsize hby hzs hsz hrow hbase hrd hl hnil h1 h63 hbytes
  unfold Oper.wp execOp
  simp only [ho, resolve, invoke, builtin, Sem.run_bind, Sem.run_pure, Result.andThen_ok, List.map_toArray, List.map_cons, List.map_nil, hs, hx, hr]
  exact h A' (n + m) c' w' rfl h2 h3 h4
/-- At a plain region's list. -/
theorem wpList_app {P : Program} (w : World) {ops : Array Oper} {rest : List Oper} {o : Oper} {a : Act} {Q : Exit → Act → World → Prop} (hgd : o.guard = none) (s x : Operand) (t : TypeId)
    (ho : o.op = .call { callee := .builtin .append, args := #[s, x], argTypes := #[t, t] }) (e : TypeId) (i : TypeInfo) (z : Value) (size bytes : Nat) (ht : P.underlying t = some (.slice e)) (hi : P.info? e = some i) (hz : i.zero = some z)
    (hsize : i.size = size) (hby : i.bytes = bytes) (hzs : z.cells.size = size) (hsz : 0 < size) (base : Nat) (A : Option Addr) (n c : Nat) (xs : List Value) (hs : a.eval s = .slice A n c) (hrow : Row w base e size A n c xs) (hbase : base ≤ w.heap.size)
    {B : Nat} (A2 : Option Addr) (m c2 : Nat) (news : List Value) (hx : a.eval x = .slice A2 m c2) (hrd : Rd w B A2 news) (hl : news.length = m * size) (hnil : A2 = none → c2 = 0) (h1 : ∀ u ∈ news, u.oneCell' = true)
    (h63 : n + m ≤ maxLen) (hbytes : (n + m) * bytes ≤ 140737488355328)
    (h : ∀ A' n' c' w', n' = n + m → Row w' base e size A' n' c' (xs ++ news) → w.grownBy w' (blk A c) → (∀ k, blk A' c' = some k → blk A c = some k ∨ w.heap.size ≤ k) → wpList P ops Q rest (a.put o.dst (.slice A' n' c')) w') :
    wpList P ops Q (o :: rest) a w :=
  wpList_plain hgd fun _ hK => wp_app s x t ho e i z size bytes ht hi hz hsize hby hzs hsz base A n c xs hs hrow hbase A2 m c2 news hx hrd hl hnil h1 h63 hbytes fun A' n' c' w' h1 h2 h3 h4 => hK _ _ (h A' n' c' w' h1 h2 h3 h4)
/-- At a step of a region that draws its order. -/
theorem step_app {P : Program} {ops : Array Oper} {o : Oper} {a : Act} {K : Act → World → Prop} {Q : Exit → Act → World → Prop} {E : Prop} {w : World} (hgd : o.guard = none) (s x : Operand) (t : TypeId)
    (ho : o.op = .call { callee := .builtin .append, args := #[s, x], argTypes := #[t, t] }) (e : TypeId) (i : TypeInfo) (z : Value) (size bytes : Nat) (ht : P.underlying t = some (.slice e)) (hi : P.info? e = some i) (hz : i.zero = some z)
    (hsize : i.size = size) (hby : i.bytes = bytes) (hzs : z.cells.size = size) (hsz : 0 < size) (base : Nat) (A : Option Addr) (n c : Nat) (xs : List Value) (hs : a.eval s = .slice A n c) (hrow : Row w base e size A n c xs) (hbase : base ≤ w.heap.size)
    {B : Nat} (A2 : Option Addr) (m c2 : Nat) (news : List Value) (hx : a.eval x = .slice A2 m c2) (hrd : Rd w B A2 news) (hl : news.length = m * size) (hnil : A2 = none → c2 = 0) (h1 : ∀ u ∈ news, u.oneCell' = true)
    (h63 : n + m ≤ maxLen) (hbytes : (n + m) * bytes ≤ 140737488355328)
    (h : ∀ A' n' c' w', n' = n + m → Row w' base e size A' n' c' (xs ++ news) → w.grownBy w' (blk A c) → (∀ k, blk A' c' = some k → blk A c = some k ∨ w.heap.size ≤ k) → K (a.put o.dst (.slice A' n' c')) w') :
    if Region.wanted o (yielded ops a.tmps) = true then Oper.wp P o a w K Q else E := by
  have hw : Region.wanted o (yielded ops a.tmps) = true := by simp [Region.wanted, hgd]
  rw [if_pos hw]
  exact wp_app s x t ho e i z size bytes ht hi hz hsize hby hzs hsz base A n c xs hs hrow hbase A2 m c2 news hx hrd hl hnil h1 h63 hbytes h
/-- A literal that has just been laid. -/
theorem rd_lit (w : World) (cs : Array Value) (e : TypeId) (k : Nat) (hk : k = w.heap.size) : Rd (w.alloc (.cells cs e)) (w.heap.size + 1) (some ⟨k, 0, none⟩) cs.toList := by
  subst hk
  intro i u hu
  exact ⟨_, 0, rfl, Nat.lt_succ_self _, by rw [Nat.zero_add]; exact (Box.new w e cs).cell i ▸ (by simpa using hu)⟩
theorem oneI1 {k : IntKind} {x : Int} : ∀ u ∈ [Value.int k x], u.oneCell' = true := fun u hu => by simp only [List.mem_singleton] at hu; subst hu; rfl
theorem below_grown {B : Nat} {a w w' : World} {v : Option Nat} (h : Below B a w) (g : w.grownBy w' v) (hB : B ≤ w.heap.size) (hv : ∀ k, v = some k → B ≤ k) : Below B a w' := h.grown g hB hv
/-- A fact laid by tactics (a failing one fails where it stands). -/
theorem lay {p q : Prop} (hp : p) (h : p → q) : q := h hp
theorem apart_of {A L A' : Option Addr} {c c' N M : Nat} (h : ∀ k, blk A c = some k → k < N) (h' : ∀ k, blk A' c' = some k → blk L 0 = some k ∨ M ≤ k) (hNM : N ≤ M) : Apart A c A' c' := by
  intro k hk hk'
  have h1 := h k hk
  rcases h' k hk' with h2 | h2
  · cases h2
  · omega
theorem below_tr {a w w' : World} (h : Below a.heap.size a w) (g : w.grownBy w' none) : Below a.heap.size a w' := h.grown g h.size (fun k hk => by cases hk)
theorem below_step {base : Nat} {w1 W w2 : World} {v : Option Nat} (h : Below w1.heap.size w1 W) (g : W.grownBy w2 v) (hb : base ≤ w1.heap.size) (hv : ∀ k, v = some k → base ≤ k) : Below base w1 w2 := (h.mono hb).grown g (Nat.le_trans hb h.size) hv
theorem below_al {a w : World} {o : Obj} (h : Below a.heap.size a w) : Below a.heap.size a (w.alloc o) := h.alloc h.size o
theorem below_dr {a w : World} (h : Below a.heap.size a w) : Below a.heap.size a w.drew := h.drew
theorem below_dn {a w : World} {n : Nat} (h : Below a.heap.size a w) : Below a.heap.size a (w.drewN n) := Kit.Below.drewN h n
theorem below_call {a w w' : World} (h : Below a.heap.size a w) (b : Below w.heap.size w w') : Below a.heap.size a w' := h.trans (b.mono h.size)
end Go.Proofs.Ytmglgjchemecjaa.Kit
