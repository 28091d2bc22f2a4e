/- The draw of a machine. -/
import Derived.Test.YtjnnjgogpapbhaaDFrames
import Derived.Test.YtjnnjgogpapbhaaBase4
import Derived.Deep.RegionLaw
import Derived.Deep.RegionLawGrows
import Derived.IntWalk
namespace Go.Proofs.Ytjnnjgogpapbhaa.DMachine
set_option maxRecDepth 200000
open Go.ChangeShapes Go.WideShapes Go.ChangeAt Go.RowKit Kit DPick DVar DFrames
theorem info64 : (Try.prog.info? 3).map (fun i => (i.zero, i.size, i.bytes)) = some (some (.int .i64 0), 1, 8) := by kernel_rfl
/-- A row that is still an empty literal, or is the call's own above base. -/
def St (w : World) (base : Nat) (A : Option Addr) (l c : Nat) (zs : List Int) : Prop :=
  (∃ b, A = some ⟨b, 0, none⟩ ∧ l = 0 ∧ c = 0 ∧ zs = []) ∨ w.ownsRow base 3 1 (.slice A l c) l (ints .i64 zs)
theorem St.keep {w w' : World} {base l c : Nat} {A : Option Addr} {zs : List Int} {v : Option Nat} (h : St w base A l c zs) (g : w.grownBy w' v) (hv : ∀ k j, v = some k → (Value.slice A l c).ownBlock = some j → base ≤ j → k ≠ j) : St w' base A l c zs :=
  h.imp id fun h => own_keep h fun k hk => g.block k (h.lt k hk).2 (fun e => hv k k e.symm hk (h.lt k hk).1 rfl)
theorem St.pick {w w' : World} {base l c R : Nat} {A : Option Addr} {zs : List Int} (h : St w base A l c zs) (g : w.grownBy w' (some R)) (hR : R < base) : St w' base A l c zs :=
  h.keep g fun k j hk _ hj => by injection hk with hk; omega
theorem St.alloc {w : World} {base l c : Nat} {A : Option Addr} {zs : List Int} (h : St w base A l c zs) (o : Obj) : St (w.alloc o) base A l c zs := h.imp id fun h => h.alloc o
theorem St.rd {w : World} {base l c : Nat} {A : Option Addr} {zs : List Int} (h : St w base A l c zs) : Rd w w.heap.size A (ints .i64 zs) := by
  rcases h with ⟨b, rfl, rfl, rfl, rfl⟩ | h
  · exact Rd.nil _
  · exact Rd.of_own h
theorem St.len {w : World} {base l c : Nat} {A : Option Addr} {zs : List Int} (h : St w base A l c zs) : l = zs.length ∧ l ≤ c ∧ c ≤ maxLen := by
  rcases h with ⟨b, rfl, rfl, rfl, rfl⟩ | h
  · exact ⟨rfl, Nat.le_refl _, Nat.zero_le _⟩
  · exact ⟨by simpa [ints] using h.1.symm, own_cap h, own_capm h⟩
theorem step_appSt {ops : Array Oper} {o : Oper} {a : Act} {K : Act → World → Prop} {Q : Exit → Act → World → Prop} {E : Prop} {w : World} (hgd : o.guard = none) (s x : Operand)
    (ho : o.op = .call { callee := .builtin .append, args := #[s, x], argTypes := #[23, 23] })
    (base b2 : Nat) (A2 : Option Addr) (y : Int) (hx : a.eval x = .slice A2 1 1) (hsrc : w.ownsRow b2 3 1 (.slice A2 1 1) 1 [.int .i64 y])
    (A : Option Addr) (l c : Nat) (zs : List Int) (hs : a.eval s = .slice A l c) (hown : St w base A l c zs) (hl : l ≤ 1000) (hbase : base ≤ w.heap.size)
    (h : ∀ A' n' c' w' v, n' = l + 1 → w'.ownsRow base 3 1 (.slice A' n' c') n' (ints .i64 (zs ++ [y])) → w.grownBy w' v → (∀ k, v = some k → base ≤ k) → K (a.put o.dst (.slice A' n' c')) w') :
    if Region.wanted o (yielded ops a.tmps) = true then Oper.wp Try.prog o a w K Q else E := by
  obtain ⟨i0, hi, hz0, hz1, hz2⟩ := info_parts info64
  rcases hown with ⟨b, rfl, rfl, rfl, rfl⟩ | hown
  · obtain ⟨g, rfl⟩ : ∃ g, A2 = some ⟨g, 0, none⟩ := by
      rcases hsrc.2 with ⟨_, h0⟩ | ⟨g, cap, cur, hv, _⟩
      · omega
      · injection hv with hA
        exact ⟨g, hA⟩
    exact step_append_grows (P := Try.prog) (ops := ops) (o := o) (a := a) (w := w) (K := K) (Q := Q) (E := E) hgd s x 23 ho 3 i0 (.int .i64 0) 1 8 Try.underlying23 hi hz0 hz1 hz2 rfl (by decide) (some ⟨b, 0, none⟩) 0 0 [] hs (fun h => by cases h) (by simp) (fun b _ j u hj => by simp at hj)
      ⟨g, 0, none⟩ 1 1 [.int .i64 y] hx (by simp) (hsrc.cells (g := g) rfl) (fun u hu => by simp at hu; subst hu; rfl) (by omega) (by unfold maxLen; omega) (by omega) (fun v' w' hown hg => by
        rcases hown.2 with ⟨_, h0⟩ | ⟨g, cap, cur, hv, r⟩
        · omega
        · subst hv
          exact h (some ⟨g, 0, none⟩) (0 + 1) cap w' none (by omega) (own_base (by simpa using hown) hbase) hg (fun k hk => by cases hk))
  · refine step_appO hgd s x 23 ho base b2 3 i0 (.int .i64 0) 1 8 Try.underlying23 hi hz0 hz1 hz2 rfl (by decide) A2 1 1 [.int .i64 y] hx hsrc (fun u hu => by simp at hu; subst hu; rfl) _ l (ints .i64 zs) hs hown (by unfold maxLen; omega) (by omega) hbase ?_
    intro A' n' c' w' hn ho' hg
    exact h A' n' c' w' _ hn (by simpa [ints] using ho') hg (fun k hk => (hown.lt k hk).1)
theorem own_lit1 (W : World) (y : Value) (t : TypeId) (k : Nat) (hk : k = W.heap.size) : (W.alloc (.cells #[y] t)).ownsRow W.heap.size t 1 (.slice (some ⟨k, 0, none⟩) 1 1) 1 [y] := by
  subst hk
  exact World.ownsRow_lit (base := W.heap.size) (e := t) (size := 1) W #[y] 1 (Nat.le_refl _) (by unfold maxLen; omega) rfl
/-- The result's variable and the function's own. -/
def MB (w : World) (Y X : Nat) (a : Int) (S C : Value) : Prop := Box w Y 25 #[.int .i64 0, .slice none 0 0, .slice none 0 0] ∧ Box w X 25 #[.int .i64 a, S, C] ∧ Y < X
section
variable {w w' : World} {Y X : Nat} {a : Int} {S C : Value}
theorem MB.grown {v : Option Nat} (h : MB w Y X a S C) (g : w.grownBy w' v) (hv : ∀ k, v = some k → k ≠ Y ∧ k ≠ X) : MB w' Y X a S C :=
  ⟨h.1.grown g (fun k hk => (hv k hk).1), h.2.1.grown g (fun k hk => (hv k hk).2), h.2.2⟩
theorem MB.alloc (h : MB w Y X a S C) (o : Obj) : MB (w.alloc o) Y X a S C := ⟨h.1.alloc o, h.2.1.alloc o, h.2.2⟩
theorem MB.cells (h : MB w Y X a S C) : w.cell? ⟨X, 0, none⟩ = some (.int .i64 a) ∧ w.cell? ⟨X, 1, none⟩ = some S ∧ w.cell? ⟨X, 2, none⟩ = some C ∧ w.frozen? ⟨X, 0, none⟩ = false ∧ w.frozen? ⟨X, 1, none⟩ = false ∧ w.frozen? ⟨X, 2, none⟩ = false :=
  ⟨h.2.1.cell 0, h.2.1.cell 1, h.2.1.cell 2, h.2.1.frozen 0, h.2.1.frozen 1, h.2.1.frozen 2⟩
theorem MB.at_ (h : MB w Y X a S C) (b : Int) : MB (w.setCell ⟨X, 0, none⟩ (.int .i64 b)) Y X b S C := ⟨h.1.far (p := ⟨X, 0, none⟩) (by have := h.2.2; show Y ≠ X; omega) _, h.2.1.set 0 _, h.2.2⟩
theorem MB.stack (h : MB w Y X a S C) (T : Value) : MB (w.setCell ⟨X, 1, none⟩ T) Y X a T C := ⟨h.1.far (p := ⟨X, 1, none⟩) (by have := h.2.2; show Y ≠ X; omega) _, h.2.1.set 1 _, h.2.2⟩
theorem MB.calls (h : MB w Y X a S C) (T : Value) : MB (w.setCell ⟨X, 2, none⟩ T) Y X a S T := ⟨h.1.far (p := ⟨X, 2, none⟩) (by have := h.2.2; show Y ≠ X; omega) _, h.2.1.set 2 _, h.2.2⟩
end
theorem St.down {w : World} {base b l c : Nat} {A : Option Addr} {zs : List Int} (h : St w base A l c zs) (hb : b ≤ base) : St w b A l c zs := h.imp id fun h => own_base h hb
def DrewM (w0 : World) (Y B R : Nat) (N : Int) (e : Ending) (w' : World) : Prop := ∃ (a : Int) (S C : Option Addr) (st ca : List Int) (cs cc : Nat), e = .returned (.agg #[.int .i64 a, .slice S st.length cs, .slice C ca.length cc]) ∧ -1 ≤ a ∧ a ≤ 10 ∧ st.length ≤ 9 ∧ ca.length ≤ 9 ∧ st.length ≤ cs ∧ cs ≤ maxLen ∧ ca.length ≤ cc ∧ cc ≤ maxLen ∧ InR (-1) 65536 st ∧ InR (-1) 65536 ca ∧ St w' Y S st.length cs st ∧ St w' Y C ca.length cc ca ∧ Tp w0 w' B R N
/-- A row that stands while others, above Z, grow. -/
def StB (w : World) (base Z : Nat) (A : Option Addr) (l c : Nat) (zs : List Int) : Prop :=
  (∃ b, A = some ⟨b, 0, none⟩ ∧ l = 0 ∧ c = 0 ∧ zs = []) ∨ (w.ownsRow base 3 1 (.slice A l c) l (ints .i64 zs) ∧ ∀ k, (Value.slice A l c).ownBlock = some k → k < Z)
theorem St.bound {w : World} {base l c : Nat} {A : Option Addr} {zs : List Int} (h : St w base A l c zs) {Z : Nat} (hZ : w.heap.size ≤ Z) : StB w base Z A l c zs := h.imp id fun h => ⟨h, fun k hk => Nat.lt_of_lt_of_le (h.lt k hk).2 hZ⟩
theorem StB.st {w : World} {base Z l c : Nat} {A : Option Addr} {zs : List Int} (h : StB w base Z A l c zs) : St w base A l c zs := h.imp id fun h => h.1
theorem StB.older {w w' : World} {base Z l c : Nat} {A : Option Addr} {zs : List Int} {v : Option Nat} (h : StB w base Z A l c zs) (g : w.grownBy w' v) (hv : ∀ k, v = some k → Z ≤ k ∨ k < base) : StB w' base Z A l c zs :=
  h.imp id fun ⟨h, hb⟩ => ⟨own_keep h fun k hk => g.block k (h.lt k hk).2 (fun e => by
    have h1 := hb k hk
    have h2 := (h.lt k hk).1
    rcases hv k e.symm with h3 | h3 <;> omega), hb⟩
theorem St.far {w : World} {base l c : Nat} {A : Option Addr} {zs : List Int} (h : St w base A l c zs) {a : Addr} (ha : a.block < base) (u : Value) : St (w.setCell a u) base A l c zs :=
  h.imp id fun h => own_setFar h (fun k hk => by have := (h.lt k hk).1; omega) u
theorem StB.far {w : World} {base Z l c : Nat} {A : Option Addr} {zs : List Int} (h : StB w base Z A l c zs) {a : Addr} (ha : a.block < base) (u : Value) : StB (w.setCell a u) base Z A l c zs :=
  h.imp id fun ⟨h, hb⟩ => ⟨own_setFar h (fun k hk => by have := (h.lt k hk).1; omega) u, hb⟩
section
variable {w : World} {Y X : Nat} {a : Int} {S C : Value}
theorem MB.all (h : MB w Y X a S C) : w.cell? ⟨X, 0, none⟩ = some (.int .i64 a) ∧ w.cell? ⟨X, 1, none⟩ = some S ∧ w.cell? ⟨X, 2, none⟩ = some C ∧ w.cell? ⟨Y, 0, none⟩ = some (.int .i64 0) ∧ w.cell? ⟨Y, 1, none⟩ = some (.slice none 0 0) ∧ w.cell? ⟨Y, 2, none⟩ = some (.slice none 0 0) ∧ w.frozen? ⟨Y, 0, none⟩ = false ∧ w.frozen? ⟨Y, 1, none⟩ = false ∧ w.frozen? ⟨Y, 2, none⟩ = false :=
  ⟨h.2.1.cell 0, h.2.1.cell 1, h.2.1.cell 2, h.1.cell 0, h.1.cell 1, h.1.cell 2, h.1.frozen 0, h.1.frozen 1, h.1.frozen 2⟩
def put3 (w : World) (Y : Nat) (a : Int) (S C : Value) : World := ((w.setCell ⟨Y, 0, none⟩ (.int .i64 a)).setCell ⟨Y, 1, none⟩ S).setCell ⟨Y, 2, none⟩ C
theorem MB.ret (h : MB w Y X a S C) : (((w.setCell ⟨Y, 0, none⟩ (.int .i64 a)).setCell ⟨Y, 1, none⟩ S).setCell ⟨Y, 2, none⟩ C).cell? ⟨Y, 0, none⟩ = some (.int .i64 a) ∧ (((w.setCell ⟨Y, 0, none⟩ (.int .i64 a)).setCell ⟨Y, 1, none⟩ S).setCell ⟨Y, 2, none⟩ C).cell? ⟨Y, 1, none⟩ = some S ∧ (((w.setCell ⟨Y, 0, none⟩ (.int .i64 a)).setCell ⟨Y, 1, none⟩ S).setCell ⟨Y, 2, none⟩ C).cell? ⟨Y, 2, none⟩ = some C :=
  ⟨(((h.1.set 0 _).set 1 _).set 2 _).cell 0, (((h.1.set 0 _).set 1 _).set 2 _).cell 1, (((h.1.set 0 _).set 1 _).set 2 _).cell 2⟩
end
theorem fin {w0 w : World} {B R Y bS bC l c n c' : Nat} {N : Int} {a : Int} {S C : Option Addr} {st ca : List Int} (hS : St w bS S l c st) (hC : St w bC C n c' ca) (hYS : Y < bS) (hYC : Y < bC) (a0 : -1 ≤ a) (a1 : a ≤ 10) (hl : l ≤ 9) (hn : n ≤ 9) (hs : InR (-1) 65536 st) (hc : InR (-1) 65536 ca) (T : Tp w0 w B R N) (hwY : w0.heap.size ≤ Y) (hRY : R < Y) :
    DrewM w0 Y B R N (.returned (.agg #[.int .i64 a, .slice S l c, .slice C n c'])) (((w.setCell ⟨Y, 0, none⟩ (.int .i64 a)).setCell ⟨Y, 1, none⟩ (.slice S l c)).setCell ⟨Y, 2, none⟩ (.slice C n c')) := by
  obtain ⟨rfl, l1, l2⟩ := hS.len
  obtain ⟨rfl, n1, n2⟩ := hC.len
  exact ⟨a, S, C, st, ca, c, c', rfl, a0, a1, hl, hn, l1, l2, n1, n2, hs, hc, (((hS.far (a := ⟨Y, 0, none⟩) hYS _).far (a := ⟨Y, 1, none⟩) hYS _).far (a := ⟨Y, 2, none⟩) hYS _).down (Nat.le_of_lt hYS), (((hC.far (a := ⟨Y, 0, none⟩) hYC _).far (a := ⟨Y, 1, none⟩) hYC _).far (a := ⟨Y, 2, none⟩) hYC _).down (Nat.le_of_lt hYC), ((T.set (a := ⟨Y, 0, none⟩) hwY hRY _).set (a := ⟨Y, 1, none⟩) hwY hRY _).set (a := ⟨Y, 2, none⟩) hwY hRY _⟩
theorem fin0 {w0 w : World} {Y B R bS bC l c n c' : Nat} {N : Int} {a : Int} {S C : Option Addr} {st ca : List Int} (hS : St w bS S l c st) (hC : St w bC C n c' ca) (hYS : Y ≤ bS) (hYC : Y ≤ bC) (a0 : -1 ≤ a) (a1 : a ≤ 10) (hl : l ≤ 9) (hn : n ≤ 9) (hs : InR (-1) 65536 st) (hc : InR (-1) 65536 ca) (T : Tp w0 w B R N) :
    DrewM w0 Y B R N (.returned (.agg #[.int .i64 a, .slice S l c, .slice C n c'])) w := by
  obtain ⟨rfl, l1, l2⟩ := hS.len
  obtain ⟨rfl, n1, n2⟩ := hC.len
  exact ⟨a, S, C, st, ca, c, c', rfl, a0, a1, hl, hn, l1, l2, n1, n2, hs, hc, hS.down hYS, hC.down hYC, T⟩
theorem MB.retA {w : World} {Y X : Nat} {a : Int} {S C : Value} (h : MB w Y X a S C) (o : Obj) : ((((w.setCell ⟨Y, 0, none⟩ (.int .i64 a)).setCell ⟨Y, 1, none⟩ S).setCell ⟨Y, 2, none⟩ C).alloc o).cell? ⟨Y, 0, none⟩ = some (.int .i64 a) ∧ ((((w.setCell ⟨Y, 0, none⟩ (.int .i64 a)).setCell ⟨Y, 1, none⟩ S).setCell ⟨Y, 2, none⟩ C).alloc o).cell? ⟨Y, 1, none⟩ = some S ∧ ((((w.setCell ⟨Y, 0, none⟩ (.int .i64 a)).setCell ⟨Y, 1, none⟩ S).setCell ⟨Y, 2, none⟩ C).alloc o).cell? ⟨Y, 2, none⟩ = some C :=
  ⟨((((h.1.set 0 _).set 1 _).set 2 _).alloc o).cell 0, ((((h.1.set 0 _).set 1 _).set 2 _).alloc o).cell 1, ((((h.1.set 0 _).set 1 _).set 2 _).alloc o).cell 2⟩
def mV (p v : Int) : Int := if v = 0 then p else if v = 1 then 0 else 65535
theorem mV_at (p v : Int) (h0 : 0 ≤ v) (h1 : v < 3) : (#[.int .i64 p, .int .i64 0, .int .i64 65535] : Array Value)[v.toNat]? = some (.int .i64 (mV p v)) := by
  have h : v = 0 ∨ v = 1 ∨ v = 2 := by omega
  rcases h with rfl | rfl | rfl <;> rfl
theorem mV_get (p v : Int) (h0 : 0 ≤ v) (h1 : v < 3) : ∀ h, ([.int .i64 p, .int .i64 0, .int .i64 65535] : List Value)[v.toNat]'h = .int .i64 (mV p v) := by
  have h : v = 0 ∨ v = 1 ∨ v = 2 := by omega
  rcases h with rfl | rfl | rfl <;> exact fun _ => rfl
theorem mV_bd {p v : Int} (h0 : 0 ≤ p) (h1 : p ≤ 65535) : 0 ≤ mV p v ∧ mV p v ≤ 65535 := by
  unfold mV
  split
  · omega
  · split <;> omega
set_option maxHeartbeats 4000000 in
theorem machine_any {w0 w : World} {B R : Nat} {N : Int} (T : Tp w0 w B R N) (hN : N ≤ 1000) (hN0 : 0 ≤ N) (n : Int) (hn : 0 ≤ n) (hn' : n ≤ 1000) :
    Calls Try.prog 34 #[.pointer (some ⟨R, 0, none⟩), .int .i64 n] w (DrewM w0 w.heap.size B R (N + 50)) := by
  obtain ⟨i0, hi, hz0, hz1, hz2⟩ := info_parts info64
  have hYR := T.lt
  have hw0Y := T.2.size
  have BY := Box.new w 25 #[.int .i64 0, .slice none 0 0, .slice none 0 0]
  go_enter Try.func34, Try.ntmps34
  go_wp2_with fail
  refine (pick_tp (by first | with_reducible assumption | exact Tp.alloc (by with_reducible assumption) _ | exact Tp.alloc (Tp.alloc (by with_reducible assumption) _) _ | exact Tp.drewN (by with_reducible assumption) _ | exact Tp.drew (by with_reducible assumption) | exact Tp.drawn (by with_reducible assumption) | exact Tp.alloc (Tp.drewN (by with_reducible assumption) _) _ | exact Tp.alloc (Tp.drew (by with_reducible assumption)) _ | exact Tp.alloc (Tp.alloc (Tp.alloc (by with_reducible assumption) _) _) _) (by omega) _ (by omega) (by omega)).mono ?_
  rintro e w1 ⟨x, rfl, x0, x1, T1, g1⟩
  have BY1 := BY.grown g1 (fun k hk => by injection hk with hk; omega)
  have hs1 : w.heap.size < w1.heap.size := by have h1 := g1.size; simp at h1; omega
  clear T g1 BY
  have HM : Hid (MB (((w1.alloc (.cells #[] 3)).alloc (.cells #[] 3)).alloc (.cells #[.int .i64 x, .slice (some ⟨w1.heap.size, 0, none⟩) 0 0, .slice (some ⟨w1.heap.size + 1, 0, none⟩) 0 0] 25)) w.heap.size (w1.heap.size + 2) x (.slice (some ⟨w1.heap.size, 0, none⟩) 0 0) (.slice (some ⟨w1.heap.size + 1, 0, none⟩) 0 0)) := by
    refine hide ⟨((BY1.alloc _).alloc _).alloc _, ?_, by omega⟩
    have := Box.new ((w1.alloc (.cells #[] 3)).alloc (.cells #[] 3)) 25 #[.int .i64 x, .slice (some ⟨w1.heap.size, 0, none⟩) 0 0, .slice (some ⟨w1.heap.size + 1, 0, none⟩) 0 0]
    simpa using this
  have T2 := ((T1.alloc (.cells #[] 3)).alloc (.cells #[] 3)).alloc (.cells #[.int .i64 x, .slice (some ⟨w1.heap.size, 0, none⟩) 0 0, .slice (some ⟨w1.heap.size + 1, 0, none⟩) 0 0] 25)
  have hX : w1.heap.size + 3 = (((w1.alloc (.cells #[] 3)).alloc (.cells #[] 3)).alloc (.cells #[.int .i64 x, .slice (some ⟨w1.heap.size, 0, none⟩) 0 0, .slice (some ⟨w1.heap.size + 1, 0, none⟩) 0 0] 25)).heap.size := by simp
  have hR1 := T1.lt
  clear BY1 T1
  go_wp2_with fail
  refine (pick_tp (by first | with_reducible assumption | exact Tp.alloc (by with_reducible assumption) _ | exact Tp.alloc (Tp.alloc (by with_reducible assumption) _) _ | exact Tp.drewN (by with_reducible assumption) _ | exact Tp.drew (by with_reducible assumption) | exact Tp.drawn (by with_reducible assumption) | exact Tp.alloc (Tp.drewN (by with_reducible assumption) _) _ | exact Tp.alloc (Tp.drew (by with_reducible assumption)) _ | exact Tp.alloc (Tp.alloc (Tp.alloc (by with_reducible assumption) _) _) _) (by omega) _ (by omega) (by omega)).mono ?_
  rintro e w2 ⟨k, rfl, k0, k1, T3, g3⟩
  have HM2 := hide (HM.out.grown g3 (fun k hk => by injection hk with hk; omega))
  have hX2 : w1.heap.size + 3 ≤ w2.heap.size := by rw [hX]; exact g3.size
  have HT3 := hide T3
  obtain ⟨j, rfl⟩ := Int.eq_ofNat_of_zero_le k0
  clear T2 g3 HM hX T3
  generalize hXX : w1.heap.size + 2 = X at *
  have hRX : R < X := by omega
  have hX2 : X + 1 ≤ w2.heap.size := by omega
  have hYX : w.heap.size < X := by omega
  go_wp2_with fail
  go_loopw [6] (fun k wr => ∃ (i : Nat) (S : Option Addr) (l c : Nat) (st : List Int), k = .int .i64 i ∧ l + i ≤ 8 ∧ MB wr w.heap.size X x (.slice S l c) (.slice (some ⟨w1.heap.size + 1, 0, none⟩) 0 0) ∧ St wr (X + 1) S l c st ∧ InR (-1) 65536 st ∧ Tp w0 wr B R (N + 2 + 2 * (8 - i : Int)) ∧ X + 1 ≤ wr.heap.size) (fun k _ => (intOf k).toNat)
  case atStart => exact ⟨j, _, 0, 0, [], rfl, by omega, HM2.out, .inl ⟨_, rfl, rfl, rfl, rfl⟩, fun x hx => by simp at hx, HT3.out.more (by omega), hX2⟩
  case round =>
    obtain ⟨i, S, l, c, st, rfl, hli, hm, hst, hin, T, hsz⟩ := hrel
    have HM := hide hm
    have HS := hide hst
    have HI := hide hin
    clear hm hst hin HM2 HT3
    by_cases h0 : 0 < i
    · have HT := hide T
      have hn1 : N + 2 + 2 * (8 - i : Int) ≤ 1099511627776 := by omega
      have hn2 : N + 2 + 2 * (8 - i : Int) + 1 ≤ 1099511627776 := by omega
      obtain ⟨m0, m1, m2, m3, m4, m5⟩ := HM.out.cells
      have hRr := T.lt
      have hl10 : l ≤ 1000 := by omega
      have hRX1 : R < X + 1 := by omega
      have hXr : X < wr.heap.size := by omega
      have hvR : ∀ k, some R = some k → k ≠ w.heap.size ∧ k ≠ X := fun k hk => by injection hk with hk; omega
      have hvX : ∀ {v : Option Nat}, (∀ k, v = some k → X + 1 ≤ k) → ∀ k, v = some k → k ≠ w.heap.size ∧ k ≠ X := fun hv k hk => by have := hv k hk; omega
      clear T m0 m2 m3 m5
      go_wp2_with fail
      go_region_law ((first | (go_simp; go_at_call_of 63 (Value.int .i64 9); refine (pick_tp (w0 := w0) (B := B) (by repeat (first | (apply Hid.out; with_reducible assumption) | with_reducible apply Tp.alloc | with_reducible apply Tp.drew | with_reducible apply Tp.drewN)) (by assumption) _ (by decide) (by decide)).mono ?_; rintro e wN ⟨p, rfl, p0, p1, T, g⟩; have hRN := T.lt; have HT := hide T; have HG : Hid (wr.grownBy wN (some R)) := hide (grown_trans (by repeat (first | with_reducible assumption | (apply Hid.out; with_reducible assumption) | exact grown_refl _ _ | with_reducible apply grown_alloc | with_reducible apply grown_drew | with_reducible apply grown_drewN)) g); have qn := (HM.out.grown HG.out hvR).cells.2.1; have hXN : X < wN.heap.size := World.block_lt_of_cell? _ _ qn; clear T g) | (go_simp; go_at_call_of 63 (Value.int .i64 3); refine (pick_tp (w0 := w0) (B := B) (by repeat (first | (apply Hid.out; with_reducible assumption) | with_reducible apply Tp.alloc | with_reducible apply Tp.drew | with_reducible apply Tp.drewN)) (by assumption) _ (by decide) (by decide)).mono ?_; rintro e wM ⟨v, rfl, v0, v1, T, g⟩; have HTM := hide T; have HGM : Hid (wr.grownBy wM (some R)) := hide (grown_trans (by repeat (first | with_reducible assumption | (apply Hid.out; with_reducible assumption) | exact grown_refl _ _ | with_reducible apply grown_alloc | with_reducible apply grown_drew | with_reducible apply grown_drewN)) g); have qm := (HM.out.grown HGM.out hvR).cells.2.1; have hXM : X < wM.heap.size := World.block_lt_of_cell? _ _ qm; have qa := mV_at p v v0 v1; have qw := mV_get p v v0 v1; (try have qv := pick_cell g hRN qa); clear T g) | (refine step_appSt (by rfl) _ _ (by rfl) (X + 1) _ _ _ (by rfl) (own_lit1 _ _ _ _ (by simp)) S l c st (by rfl) (HS.out.pick (R := R) (by repeat (first | with_reducible assumption | (apply Hid.out; with_reducible assumption) | exact grown_refl _ _ | with_reducible apply grown_alloc | with_reducible apply grown_drew | with_reducible apply grown_drewN)) hRX1) hl10 (Nat.le_trans hsz (World.grownBy.size (w := wr) (row := some R) (by repeat (first | with_reducible assumption | (apply Hid.out; with_reducible assumption) | exact grown_refl _ _ | with_reducible apply grown_alloc | with_reducible apply grown_drew | with_reducible apply grown_drewN)))) ?_; intro A6 n6 c6 w6 v6 hn6 o6 g6 hv6; have qz := ((HM.out.grown (v := some R) (by repeat (first | with_reducible assumption | (apply Hid.out; with_reducible assumption) | exact grown_refl _ _ | with_reducible apply grown_alloc | with_reducible apply grown_drew | with_reducible apply grown_drewN)) hvR).grown g6 (hvX hv6)).2.1.cell 1; have fz := ((HM.out.grown (v := some R) (by repeat (first | with_reducible assumption | (apply Hid.out; with_reducible assumption) | exact grown_refl _ _ | with_reducible apply grown_alloc | with_reducible apply grown_drew | with_reducible apply grown_drewN)) hvR).grown g6 (hvX hv6)).2.1.frozen 1; have H6 := hide (And.intro hn6 (And.intro o6 (And.intro (Tp.own (w0 := w0) (B := B) (by repeat (first | (apply Hid.out; with_reducible assumption) | with_reducible apply Tp.alloc | with_reducible apply Tp.drew | with_reducible apply Tp.drewN)) g6 (fun k hk => ⟨by have := hv6 k hk; omega, by have := hv6 k hk; omega⟩)) (And.intro ((HM.out.grown (v := some R) (by repeat (first | with_reducible assumption | (apply Hid.out; with_reducible assumption) | exact grown_refl _ _ | with_reducible apply grown_alloc | with_reducible apply grown_drew | with_reducible apply grown_drewN)) hvR).grown g6 (hvX hv6)) (Nat.le_trans (Nat.le_trans hsz (World.grownBy.size (w := wr) (row := some R) (by repeat (first | with_reducible assumption | (apply Hid.out; with_reducible assumption) | exact grown_refl _ _ | with_reducible apply grown_alloc | with_reducible apply grown_drew | with_reducible apply grown_drewN)))) g6.size))))); clear hn6 o6 g6 hv6)))
      all_goals
        obtain ⟨hn6, o6, T6, M6, s6⟩ := H6.out
        subst hn6
        have hmv := mV_bd (p := p) (v := v) (by omega) (by omega)
        have MF := hide (M6.stack (.slice A6 (l + 1) c6))
        have SF := hide (own_setFar o6 (a := ⟨X, 1, none⟩) (fun k hk => by have := (o6.lt k hk).1; show k ≠ X; omega) (.slice A6 (l + 1) c6))
        have TF := hide (T6.set (a := ⟨X, 1, none⟩) (by show _ ≤ X; omega) hRX (.slice A6 (l + 1) c6))
        have sF : X + 1 ≤ (w6.setCell ⟨X, 1, none⟩ (.slice A6 (l + 1) c6)).heap.size := by simpa [World.setCell] using s6
        clear H6 qz fz qa qw qm hXM HTM HGM o6 T6 M6 s6
        generalize w6.setCell ⟨X, 1, none⟩ (.slice A6 (l + 1) c6) = w7 at *
        try simp only [List.getElem_toArray, List.getElem_cons_succ, List.getElem_cons_zero, Act.put, List.setIfInBounds_toArray, List.set_cons_zero, List.set_cons_succ]
        go_wp2_with fail
        refine ⟨⟨i - 1, A6, l + 1, c6, st ++ [mV p v], by go_num, by omega, MF.out, .inr SF.out, ?_, TF.out.more (by omega), sF⟩, by simp [intOf]; omega⟩
        intro b hb
        rcases List.mem_append.1 hb with hb | hb
        · exact HI.out b hb
        · simp only [List.mem_singleton] at hb
          subst hb
          omega
    · have e : i = 0 := by omega
      subst e
      have hl8 : l ≤ 8 := by omega
      clear h0 hli
      go_wp2_with fail
      refine (pick_tp (by first | with_reducible assumption | exact Tp.alloc (by with_reducible assumption) _ | exact Tp.alloc (Tp.alloc (by with_reducible assumption) _) _ | exact Tp.drewN (by with_reducible assumption) _ | exact Tp.drew (by with_reducible assumption) | exact Tp.drawn (by with_reducible assumption) | exact Tp.alloc (Tp.drewN (by with_reducible assumption) _) _ | exact Tp.alloc (Tp.drew (by with_reducible assumption)) _ | exact Tp.alloc (Tp.alloc (Tp.alloc (by with_reducible assumption) _) _) _) (by omega) _ (by omega) (by omega)).mono ?_
      rintro e w3 ⟨k, rfl, k0, k1, T4, g4⟩
      have hvR : ∀ k, some R = some k → k ≠ w.heap.size ∧ k ≠ X := fun k hk => by injection hk with hk; omega
      have HM3 := hide (HM.out.grown g4 hvR)
      have HS3 := hide ((HS.out.pick g4 (by omega)).bound (Nat.le_refl _))
      have hs3 := Nat.le_trans hsz g4.size
      have HT4 := hide T4
      obtain ⟨j2, rfl⟩ := Int.eq_ofNat_of_zero_le k0
      clear T g4 HM HS T4
      obtain ⟨Z, hZ⟩ : ∃ Z, Z = w3.heap.size := ⟨_, rfl⟩
      rw [← hZ] at HS3 hs3
      have hZ3 : Z ≤ w3.heap.size := by omega
      clear hZ
      go_wp2_with fail
      go_loopw [7] (fun k wr => ∃ (i : Nat) (C : Option Addr) (n c' : Nat) (ca : List Int), k = .int .i64 i ∧ n + i ≤ 3 ∧ MB wr w.heap.size X x (.slice S l c) (.slice C n c') ∧ StB wr (X + 1) Z S l c st ∧ St wr Z C n c' ca ∧ InR (-1) 65536 ca ∧ Tp w0 wr B R (N + 20 + 2 * (3 - i : Int)) ∧ Z ≤ wr.heap.size) (fun k _ => (intOf k).toNat)
      case atStart => exact ⟨j2, _, 0, 0, [], rfl, by omega, HM3.out, HS3.out, .inl ⟨_, rfl, rfl, rfl, rfl⟩, fun x hx => by simp at hx, HT4.out.more (by omega), hZ3⟩
      case round =>
        obtain ⟨i, C, n2, c', ca, rfl, hni, hm, hst, hca, hin, T, hsz⟩ := hrel
        have HM := hide hm
        have HS := hide hst
        have HC := hide hca
        have HI2 := hide hin
        clear hm hst hca hin HM3 HS3 HT4 hZ3
        by_cases h0 : 0 < i
        · have HT := hide T
          have hn1 : N + 20 + 2 * (3 - i : Int) ≤ 1099511627776 := by omega
          obtain ⟨m0, m1, m2, m3, m4, m5⟩ := HM.out.cells
          have hRr := T.lt
          have hl10 : n2 ≤ 1000 := by omega
          have hRZ : R < Z := by omega
          have hXr : X < wr.heap.size := by omega
          have hvX : ∀ {v : Option Nat}, (∀ k, v = some k → Z ≤ k) → ∀ k, v = some k → k ≠ w.heap.size ∧ k ≠ X := fun hv k hk => by have := hv k hk; omega
          have hvS : ∀ k, some R = some k → Z ≤ k ∨ k < X + 1 := fun k hk => by injection hk with hk; omega
          clear T m0 m1 m3 m4
          go_wp2_with fail
          go_region_law ((first | (go_simp; go_at_call_of 63 (Value.int .i64 9); refine (pick_tp (w0 := w0) (B := B) (by repeat (first | (apply Hid.out; with_reducible assumption) | with_reducible apply Tp.alloc | with_reducible apply Tp.drew | with_reducible apply Tp.drewN)) (by assumption) _ (by decide) (by decide)).mono ?_; rintro e wN ⟨p, rfl, p0, p1, T, g⟩; have hRN := T.lt; have HT := hide T; have HG : Hid (wr.grownBy wN (some R)) := hide (grown_trans (by repeat (first | with_reducible assumption | (apply Hid.out; with_reducible assumption) | exact grown_refl _ _ | with_reducible apply grown_alloc | with_reducible apply grown_drew | with_reducible apply grown_drewN)) g); have qn := (HM.out.grown HG.out hvR).cells.2.2.1; have hXN : X < wN.heap.size := World.block_lt_of_cell? _ _ qn; clear T g) | (refine step_appSt (by rfl) _ _ (by rfl) Z _ _ _ (by rfl) (own_lit1 _ _ _ _ (by simp)) C n2 c' ca (by rfl) (HC.out.pick (R := R) (by repeat (first | with_reducible assumption | (apply Hid.out; with_reducible assumption) | exact grown_refl _ _ | with_reducible apply grown_alloc | with_reducible apply grown_drew | with_reducible apply grown_drewN)) hRZ) hl10 (Nat.le_trans hsz (World.grownBy.size (w := wr) (row := some R) (by repeat (first | with_reducible assumption | (apply Hid.out; with_reducible assumption) | exact grown_refl _ _ | with_reducible apply grown_alloc | with_reducible apply grown_drew | with_reducible apply grown_drewN)))) ?_; intro A6 n6 c6 w6 v6 hn6 o6 g6 hv6; have qz := ((HM.out.grown (v := some R) (by repeat (first | with_reducible assumption | (apply Hid.out; with_reducible assumption) | exact grown_refl _ _ | with_reducible apply grown_alloc | with_reducible apply grown_drew | with_reducible apply grown_drewN)) hvR).grown g6 (hvX hv6)).2.1.cell 2; have fz := ((HM.out.grown (v := some R) (by repeat (first | with_reducible assumption | (apply Hid.out; with_reducible assumption) | exact grown_refl _ _ | with_reducible apply grown_alloc | with_reducible apply grown_drew | with_reducible apply grown_drewN)) hvR).grown g6 (hvX hv6)).2.1.frozen 2; have H6 := hide (And.intro hn6 (And.intro o6 (And.intro (Tp.own (w0 := w0) (B := B) (by repeat (first | (apply Hid.out; with_reducible assumption) | with_reducible apply Tp.alloc | with_reducible apply Tp.drew | with_reducible apply Tp.drewN)) g6 (fun k hk => ⟨by have := hv6 k hk; omega, by have := hv6 k hk; omega⟩)) (And.intro ((HM.out.grown (v := some R) (by repeat (first | with_reducible assumption | (apply Hid.out; with_reducible assumption) | exact grown_refl _ _ | with_reducible apply grown_alloc | with_reducible apply grown_drew | with_reducible apply grown_drewN)) hvR).grown g6 (hvX hv6)) (And.intro (Nat.le_trans (Nat.le_trans hsz (World.grownBy.size (w := wr) (row := some R) (by repeat (first | with_reducible assumption | (apply Hid.out; with_reducible assumption) | exact grown_refl _ _ | with_reducible apply grown_alloc | with_reducible apply grown_drew | with_reducible apply grown_drewN)))) g6.size) ((HS.out.older (v := some R) (by repeat (first | with_reducible assumption | (apply Hid.out; with_reducible assumption) | exact grown_refl _ _ | with_reducible apply grown_alloc | with_reducible apply grown_drew | with_reducible apply grown_drewN)) hvS).older g6 (fun k hk => .inl (hv6 k hk)))))))); clear hn6 o6 g6 hv6)))
          all_goals
            obtain ⟨hn6, o6, T6, M6, s6, S6⟩ := H6.out
            subst hn6
            have MF := hide (M6.calls (.slice A6 (n2 + 1) c6))
            have SF := hide (S6.far (a := ⟨X, 2, none⟩) (by show X < X + 1; omega) (.slice A6 (n2 + 1) c6))
            have CF := hide (own_setFar o6 (a := ⟨X, 2, none⟩) (fun k hk => by have := (o6.lt k hk).1; show k ≠ X; omega) (.slice A6 (n2 + 1) c6))
            have TF := hide (T6.set (a := ⟨X, 2, none⟩) (by show _ ≤ X; omega) hRX (.slice A6 (n2 + 1) c6))
            have sF : Z ≤ (w6.setCell ⟨X, 2, none⟩ (.slice A6 (n2 + 1) c6)).heap.size := by simpa [World.setCell] using s6
            clear H6 qz fz o6 T6 M6 s6 S6
            generalize w6.setCell ⟨X, 2, none⟩ (.slice A6 (n2 + 1) c6) = w7 at *
            try simp only [List.getElem_toArray, List.getElem_cons_succ, List.getElem_cons_zero, Act.put, List.setIfInBounds_toArray, List.set_cons_zero, List.set_cons_succ]
            go_wp2_with fail
            refine ⟨⟨i - 1, A6, n2 + 1, c6, ca ++ [p], by go_num, by omega, MF.out, SF.out, .inr CF.out, ?_, TF.out.more (by omega), sF⟩, by simp [intOf]; omega⟩
            intro b hb
            rcases List.mem_append.1 hb with hb | hb
            · exact HI2.out b hb
            · simp only [List.mem_singleton] at hb
              subst hb
              omega
        · have e : i = 0 := by omega
          subst e
          have hn3 : n2 ≤ 9 := by omega
          clear h0 hni
          go_wp2_with fail
          refine (odd_tp (by first | with_reducible assumption | exact Tp.alloc (by with_reducible assumption) _ | exact Tp.alloc (Tp.alloc (by with_reducible assumption) _) _ | exact Tp.drewN (by with_reducible assumption) _ | exact Tp.drew (by with_reducible assumption) | exact Tp.drawn (by with_reducible assumption) | exact Tp.alloc (Tp.drewN (by with_reducible assumption) _) _ | exact Tp.alloc (Tp.drew (by with_reducible assumption)) _ | exact Tp.alloc (Tp.alloc (Tp.alloc (by with_reducible assumption) _) _) _) (by omega) _ (by omega) (by omega)).mono ?_
          rintro e w4 ⟨bo, rfl, T5, g5⟩
          have hvS : ∀ k, some R = some k → Z ≤ k ∨ k < X + 1 := fun k hk => by injection hk with hk; omega
          have HM5 := hide (HM.out.grown g5 hvR)
          have HS5 := hide (HS.out.older g5 hvS)
          have HC5 := hide (HC.out.pick g5 (by omega))
          have hs5 := Nat.le_trans hsz g5.size
          clear T g5 HM HS HC
          cases bo
          · obtain ⟨m0, m1, m2, y0, y1, y2, f0, f1, f2⟩ := HM5.out.all
            go_wp2_with fail
            obtain ⟨d0, d1, d2⟩ := MB.ret HM5.out
            exact bodyPost_ret (v := .agg #[.int .i64 x, .slice S l c, .slice C n2 c']) (by simp [results, Try.results34, go_sem, d0, d1, d2]) rfl (fin HS5.out.st HC5.out (by omega) (by omega) (by omega) (by omega) (by omega) (by omega) HI.out HI2.out (T5.more (by omega)) hw0Y hYR)
          · go_wp2_with fail
            refine (pick_tp (by first | with_reducible assumption | exact Tp.alloc (by with_reducible assumption) _ | exact Tp.alloc (Tp.alloc (by with_reducible assumption) _) _ | exact Tp.drewN (by with_reducible assumption) _ | exact Tp.drew (by with_reducible assumption) | exact Tp.drawn (by with_reducible assumption) | exact Tp.alloc (Tp.drewN (by with_reducible assumption) _) _ | exact Tp.alloc (Tp.drew (by with_reducible assumption)) _ | exact Tp.alloc (Tp.alloc (Tp.alloc (by with_reducible assumption) _) _) _) (by omega) _ (by omega) (by omega)).mono ?_
            rintro e w5 ⟨q, rfl, q0, q1, T6, g6⟩
            have HM6 := hide (HM5.out.grown g6 hvR)
            have HS6 := hide (HS5.out.older g6 hvS)
            have HC6 := hide (HC5.out.pick g6 (by omega))
            have hs6 := Nat.le_trans hs5 g6.size
            clear T5 g6 HM5 HS5 HC5
            by_cases hq0 : q = 0
            · subst hq0
              clear q0 q1
              obtain ⟨m0, m1, m2, y0, y1, y2, f0, f1, f2⟩ := HM6.out.all
              have f3 := HM6.out.2.1.frozen 0
              have hne : w.heap.size ≠ X := by omega
              go_wp2_with fail
              obtain ⟨d0, d1, d2⟩ := MB.ret (HM6.out.at_ (-1))
              exact bodyPost_ret (v := .agg #[.int .i64 (-1), .slice S l c, .slice C n2 c']) (by simp [results, Try.results34, go_sem, d0, d1, d2]) rfl (fin (HS6.out.st.far (a := ⟨X, 0, none⟩) (by show X < X + 1; omega) _) (HC6.out.far (a := ⟨X, 0, none⟩) (by show X < Z; omega) _) (by omega) (by omega) (by omega) (by omega) (by omega) (by omega) HI.out HI2.out ((T6.set (a := ⟨X, 0, none⟩) (by show _ ≤ X; omega) hRX _).more (by omega)) hw0Y hYR)
            · by_cases hq1 : q = 1
              · subst hq1
                clear q0 q1 hq0
                have hX6 : X < w5.heap.size := by omega
                go_wp2_with (at_make; refine wpList_make_full _ rfl _ _ _ rfl w5.heap.size 3 i0 (.int .i64 0) 1 Try.underlying23 hi hz0 hz1 .i64 .i64 _ _ 9 rfl rfl rfl rfl ?c1 ?c2 ?c3 ?_)
                case c1 => rw [hz2]; omega
                case c2 => unfold maxLen; omega
                case c3 => exact Nat.le_refl _
                intro w6 hown hg
                rw [zero_cells'] at hown
                have HM7 := hide (HM6.out.grown hg (fun k hk => by cases hk))
                have HS7 : Hid (St w6 w5.heap.size (some ⟨w5.heap.size, 0, none⟩) 9 9 (List.replicate 9 0)) := .inr (by simpa using hown)
                have HC7 := hide (HC6.out.keep hg (fun k j hk => by cases hk))
                have HT7 := hide (T6.own hg (fun k hk => by cases hk))
                have hI9 : InR (-1) 65536 (List.replicate 9 0) := fun x hx => by
                  have := List.eq_of_mem_replicate hx
                  omega
                have hs7 := hg.size
                obtain ⟨m0, m1, m2, y0, y1, y2, f0, f1, f2⟩ := HM7.out.all
                have f3 := HM7.out.2.1.frozen 1
                have hne : w.heap.size ≠ X := by omega
                clear hg hown T6 HM6 HS6 HC6
                go_wp2_with fail
                obtain ⟨d0, d1, d2⟩ := MB.ret (HM7.out.stack (.slice (some ⟨w5.heap.size, 0, none⟩) 9 9))
                exact bodyPost_ret (v := .agg #[.int .i64 x, .slice (some ⟨w5.heap.size, 0, none⟩) 9 9, .slice C n2 c']) (by simp [results, Try.results34, go_sem, d0, d1, d2]) rfl (fin (HS7.out.far (a := ⟨X, 1, none⟩) hX6 _) (HC7.out.far (a := ⟨X, 1, none⟩) (by show X < Z; omega) _) (by omega) (by omega) (by omega) (by omega) (by omega) (by omega) hI9 HI2.out ((HT7.out.set (a := ⟨X, 1, none⟩) (by show _ ≤ X; omega) hRX _).more (by omega)) hw0Y hYR)
              · by_cases hq2 : q = 2
                · subst hq2
                  clear q0 q1 hq0 hq1
                  have hRX5 := T6.lt
                  go_wp2_with fail
                  refine (pick_lit T6 (by omega) _ (by omega) (by omega) (by repeat (first | exact List.forall_mem_nil _ | refine List.forall_mem_cons.2 ⟨⟨_, rfl⟩, ?_⟩)) (by simp)).mono ?_
                  rintro e w6 ⟨v, rfl, v0, v1, T7, g7, z, hm, hz⟩
                  simp only [List.mem_cons, Value.int.injEq, true_and, List.not_mem_nil, or_false] at hm
                  have hzb : -1 ≤ z ∧ z ≤ 65536 := by omega
                  have HM6' := hide ((HM6.out.alloc _).grown g7 hvR)
                  have HC6' := hide ((HC6.out.alloc _).pick g7 (by omega))
                  have HT7 := hide T7
                  have hs7 : X < w6.heap.size := by have := g7.size; simp at this; omega
                  have hI1 : InR (-1) 65536 [z] := fun x hx => by simp only [List.mem_singleton] at hx; omega
                  obtain ⟨m0, m1, m2, y0, y1, y2, f0, f1, f2⟩ := HM6'.out.all
                  have f3 := HM6'.out.2.1.frozen 1
                  have hY6 : w.heap.size < w6.heap.size := by omega
                  have hne : w.heap.size ≠ X := by omega
                  clear T6 g7 HM6 HS6 HC6 T7 hm
                  go_wp2_with fail
                  obtain ⟨d0, d1, d2⟩ := MB.retA (HM6'.out.stack (.slice (some ⟨w6.heap.size, 0, none⟩) 1 1)) (.cells #[.int .i64 z] 3)
                  exact bodyPost_ret (v := .agg #[.int .i64 x, .slice (some ⟨w6.heap.size, 0, none⟩) 1 1, .slice C n2 c']) (by simp [results, Try.results34, go_sem, d0, d1, d2]) rfl (fin0 (.inr (own_lit1 _ _ _ _ (by simp [World.setCell]))) (((((HC6'.out.far (a := ⟨X, 1, none⟩) (by show X < Z; omega) _).far (a := ⟨w.heap.size, 0, none⟩) (by show w.heap.size < Z; omega) _).far (a := ⟨w.heap.size, 1, none⟩) (by show w.heap.size < Z; omega) _).far (a := ⟨w.heap.size, 2, none⟩) (by show w.heap.size < Z; omega) _).alloc _) (by simp [World.setCell]; omega) (by omega) (by omega) (by omega) (by omega) (by omega) hI1 HI2.out ((((((HT7.out.set (a := ⟨X, 1, none⟩) (by show _ ≤ X; omega) hRX _).set (a := ⟨w.heap.size, 0, none⟩) hw0Y hYR _).set (a := ⟨w.heap.size, 1, none⟩) hw0Y hYR _).set (a := ⟨w.heap.size, 2, none⟩) hw0Y hYR _).alloc _).more (by omega)))
                · have hq3 : q = 3 := by omega
                  subst hq3
                  clear q0 q1 hq0 hq1 hq2
                  have hX6 : X < w5.heap.size := by omega
                  have HT6 := hide T6
                  have hI1 : InR (-1) 65536 [-1] := fun x hx => by simp only [List.mem_singleton] at hx; omega
                  obtain ⟨m0, m1, m2, y0, y1, y2, f0, f1, f2⟩ := HM6.out.all
                  have f3 := HM6.out.2.1.frozen 2
                  have hY6 : w.heap.size < w5.heap.size := by omega
                  have hne : w.heap.size ≠ X := by omega
                  clear T6
                  go_wp2_with fail
                  obtain ⟨d0, d1, d2⟩ := MB.retA (HM6.out.calls (.slice (some ⟨w5.heap.size, 0, none⟩) 1 1)) (.cells #[.int .i64 (-1)] 3)
                  exact bodyPost_ret (v := .agg #[.int .i64 x, .slice S l c, .slice (some ⟨w5.heap.size, 0, none⟩) 1 1]) (by simp [results, Try.results34, go_sem, d0, d1, d2]) rfl (fin0 (((((HS6.out.st.far (a := ⟨X, 2, none⟩) (by show X < X + 1; omega) _).far (a := ⟨w.heap.size, 0, none⟩) (by show w.heap.size < X + 1; omega) _).far (a := ⟨w.heap.size, 1, none⟩) (by show w.heap.size < X + 1; omega) _).far (a := ⟨w.heap.size, 2, none⟩) (by show w.heap.size < X + 1; omega) _).alloc _) (.inr (own_lit1 _ _ _ _ (by simp [World.setCell]))) (by omega) (by simp [World.setCell]; omega) (by omega) (by omega) (by omega) (by omega) HI.out hI1 ((((((HT6.out.set (a := ⟨X, 2, none⟩) (by show _ ≤ X; omega) hRX _).set (a := ⟨w.heap.size, 0, none⟩) hw0Y hYR _).set (a := ⟨w.heap.size, 1, none⟩) hw0Y hYR _).set (a := ⟨w.heap.size, 2, none⟩) hw0Y hYR _).alloc _).more (by omega)))
end Go.Proofs.Ytjnnjgogpapbhaa.DMachine
