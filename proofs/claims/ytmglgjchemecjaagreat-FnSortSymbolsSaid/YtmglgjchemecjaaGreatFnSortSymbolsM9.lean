/- Contracts of the reference's reader of drawn bytes: it turns its own block alone, and its numbers are in range. -/
import Derived.Test.YtmglgjchemecjaaGreatFnSortSymbolsM8
import Derived.Test.YtmglgjchemecjaaGreatRows
import Derived.Deep.QuietTactic
import Derived.BigQuiet
import Derived.StillTailTactics
import Derived.Deep.RegionHeld3
set_option linter.unusedSimpArgs false
set_option linter.unusedVariables false
namespace Go.Proofs.YtmglgjchemecjaaGreat.DPick
set_option maxRecDepth 200000
open Go.ChangeShapes Go.WideShapes Go.ChangeAt Go.RowKit Kit
/-- The reader: its block R holds bytes that lie below block B, and a place of at most N. -/
def Tape (w : World) (B R : Nat) (N : Int) : Prop :=
  B ≤ R ∧ ∃ (A : Option Addr) (zs : List Int) (c : Nat) (p : Int), Box w R 139 #[.slice A zs.length c, .int .i64 p] ∧ Rd w B A (ints .u8 zs) ∧ InR 0 255 zs ∧ zs.length ≤ 2000 ∧ 0 ≤ p ∧ p ≤ N
section
variable {w w' : World} {B R : Nat} {N : Int}
theorem Tape.lt (h : Tape w B R N) : R < w.heap.size := by
  obtain ⟨_, A, zs, c, p, hb, _⟩ := h
  exact hb.lt
theorem Tape.more (h : Tape w B R N) {N' : Int} (hN : N ≤ N') : Tape w B R N' := by
  obtain ⟨h0, A, zs, c, p, hb, hr, hz, hl, p0, p1⟩ := h
  exact ⟨h0, A, zs, c, p, hb, hr, hz, hl, p0, by omega⟩
theorem Tape.below (h : Tape w B R N) (hb : Below (R + 1) w w') : Tape w' B R N := by
  obtain ⟨h0, A, zs, c, p, hx, hr, hz, hl, p0, p1⟩ := h
  exact ⟨h0, A, zs, c, p, hx.below hb (by omega), hr.below (hb.mono (by omega)), hz, hl, p0, p1⟩
theorem Tape.call (h : Tape w B R N) (hb : Below w.heap.size w w') : Tape w' B R N := h.below (hb.mono h.lt)
end
theorem xor_i64 (a b : Nat) (ha : a < 9223372036854775808) (hb : b < 9223372036854775808) : bits .xor .i64 (a : Int) (b : Int) = ((a ^^^ b : Nat) : Int) ∧ a ^^^ b < 9223372036854775808 := by
  have hx : a ^^^ b < 2 ^ 63 := Nat.xor_lt_two_pow (by omega) (by omega)
  refine ⟨?_, by omega⟩
  show IntKind.i64.wrap ((BitVec.ofInt 64 (a : Int) ^^^ BitVec.ofInt 64 (b : Int)).toNat : Int) = _
  rw [BitVec.toNat_xor, ofInt_i64 a ha, ofInt_i64 b hb, IntKind.wrap_i64]
  omega
def Picked (w : World) (B R : Nat) (N : Int) (n : Int) (e : Ending) (w' : World) : Prop := ∃ x : Int, e = .returned (.int .i64 x) ∧ 0 ≤ x ∧ x < n ∧ Tape w' B R (N + 1) ∧ w.grownBy w' (some R)
theorem pick_any {w : World} {B R : Nat} {N : Int} (hT : Tape w B R N) (hN : N ≤ 1099511627776) (n : Int) (hn : 1 ≤ n) (hn' : n ≤ 1099511627776) :
    Calls Tryz.prog 99 #[.pointer (some ⟨R, 0, none⟩), .int .i64 n] w (Picked w B R N n) := by
  obtain ⟨h0, A, zs, c, p, hx, hr, hz, hl, p0, p1⟩ := hT
  have q0 := hx.cell 0
  have q1 := hx.cell 1
  have f0 := hx.frozen 0
  have f1 := hx.frozen 1
  simp only [List.getElem?_toArray, List.getElem?_cons_zero, List.getElem?_cons_succ] at q0 q1
  have HX := hide hx
  clear hx
  have HR := hide hr
  have HZ := hide hz
  clear hr hz
  have hfin : ∀ (x : Int) (w' : World), 0 ≤ x → x < n → w'.heap = (w.setCell ⟨R, 1, none⟩ (.int .i64 (p + 1))).heap → w'.os = w.os → w'.tape = w.tape → w'.output = w.output → Picked w B R N n (.returned (.int .i64 x)) w' := by
    intro x w' x0 x1 hh ho ht hu
    have hk : ∀ k, k ≠ R → w'.heap[k]? = w.heap[k]? := fun k hk => by rw [hh]; exact Below.heap_setCell w ⟨R, 1, none⟩ _ k hk
    refine ⟨x, rfl, x0, x1, ⟨h0, A, zs, c, p + 1, ?_, HR.out.keep (fun a ha => World.cell?_of_block (hk _ (by omega))), HZ.out, hl, by omega, by omega⟩, ho, ht, hu, by rw [hh]; simp [World.setCell], fun k _ hne => hk k (fun e => hne (by rw [e]))⟩
    have := HX.out.set 1 (.int .i64 (p + 1))
    unfold Box at this ⊢
    rw [hh]
    exact this
  have HF := hide hfin
  clear hfin
  have hd : decide (n < 1) = false := by simp; omega
  by_cases hz0 : zs.length = 0
  · go_enter Tryz.func99, Tryz.ntmps99
    go_wp2_with fail
    all_goals (go_ret; exact HF.out 0 _ (by omega) (by omega) rfl rfl rfl rfl)
  · by_cases hk : p < zs.length
    · obtain ⟨k, rfl⟩ := Int.eq_ofNat_of_zero_le p0
      obtain ⟨b, off, rfl, hbb, hc⟩ := HR.out.int (i := k) (by omega)
      obtain ⟨x0, x1⟩ := HZ.out.at_ (i := k) (by omega)
      generalize zs[k] = x at *
      have hbR : b ≠ R := by omega
      go_enter Tryz.func99, Tryz.ntmps99
      go_wp2_with fail
      all_goals (go_ret; exact HF.out (x % n) _ (Int.emod_nonneg _ (by omega)) (Int.emod_lt_of_pos _ (by omega)) rfl rfl rfl rfl)
    · obtain ⟨i1, e1⟩ := Int.eq_ofNat_of_zero_le (Int.emod_nonneg p (show (zs.length : Int) ≠ 0 by omega))
      obtain ⟨i2, e2⟩ := Int.eq_ofNat_of_zero_le (Int.emod_nonneg (p * 7 + 3) (show (zs.length : Int) ≠ 0 by omega))
      have l1 := Int.emod_lt_of_pos p (show 0 < (zs.length : Int) by omega)
      have l2 := Int.emod_lt_of_pos (p * 7 + 3) (show 0 < (zs.length : Int) by omega)
      rw [e1] at l1
      rw [e2] at l2
      have d0 : 0 ≤ p / (zs.length : Int) := Int.ediv_nonneg p0 (by omega)
      have d1 : p / (zs.length : Int) ≤ p := Int.ediv_le_self _ p0
      generalize hdv : p / (zs.length : Int) = dv at *
      obtain ⟨b, off, rfl, hbb, hc1⟩ := HR.out.int (i := i1) (by omega)
      obtain ⟨b', off', e', _, hc2⟩ := HR.out.int (i := i2) (by omega)
      simp only [Option.some.injEq, Addr.mk.injEq, and_true] at e'
      obtain ⟨rfl, rfl⟩ := e'
      obtain ⟨x0, x1⟩ := HZ.out.at_ (i := i1) (by omega)
      obtain ⟨y0, y1⟩ := HZ.out.at_ (i := i2) (by omega)
      generalize zs[i1] = x at *
      generalize zs[i2] = y at *
      have hbR : b ≠ R := by omega
      go_enter Tryz.func99, Tryz.ntmps99
      go_wp2_with fail
      go_quiet (fail)
      obtain ⟨X, hX⟩ := Int.eq_ofNat_of_zero_le (show 0 ≤ x * 131 + y * 1117 + p * 29 + dv * 53 by omega)
      have hXb : (X : Int) ≤ 1125899906842624 := by omega
      rw [hX]
      obtain ⟨M, hM⟩ : ∃ M : Nat, X ^^^ (X / 64) = M := ⟨_, rfl⟩
      obtain ⟨hx1, hx2⟩ := xor_i64 X (X / 64) (by omega) (by omega)
      rw [hM] at hx1 hx2
      have hx1 : bits .xor .i64 (X : Int) ((X : Int) / 64) = (M : Int) := hx1
      have hMb : (M : Int) ≤ 9223372036854775807 := by omega
      clear hX hM hx2 e1 e2 l1 l2 hdv d0 d1 hc1 hc2 hk
      go_wp2_with fail
      all_goals (go_ret; exact HF.out _ _ (Int.emod_nonneg _ (by omega)) (Int.emod_lt_of_pos _ (by omega)) rfl rfl rfl rfl)
theorem odd_any {w : World} {B R : Nat} {N : Int} (hT : Tape w B R N) (hN : N ≤ 1099511627776) (n : Int) (hn : 0 ≤ n) (hn' : n ≤ 1099511627776) :
    Calls Tryz.prog 102 #[.pointer (some ⟨R, 0, none⟩), .int .i64 n] w fun e w' => ∃ b : Bool, e = .returned (.bool b) ∧ Tape w' B R (N + 1) ∧ w.grownBy w' (some R) := by
  by_cases h0 : n = 0
  · subst h0
    go_enter Tryz.func102, Tryz.ntmps102
    go_wp2_with fail
    go_ret
    exact ⟨false, rfl, hT.more (by omega), grown_refl _ _⟩
  · have h1 : 0 < n := by omega
    go_enter Tryz.func102, Tryz.ntmps102
    go_wp2_with fail
    refine (pick_any hT hN n (by omega) hn').mono ?_
    rintro e w1 ⟨x, rfl, x0, x1, T1, g1⟩
    have HT := hide (And.intro T1 g1)
    clear T1 g1 hT
    go_wp2_with fail
    go_ret
    exact ⟨_, rfl, HT.out.1, HT.out.2⟩
/-- What a draw's opening hands back: a new reader. -/
theorem open_any (A : Option Addr) (zs : List Int) (c : Nat) (w : World) (hr : Rd w w.heap.size A (ints .u8 zs)) (hz : InR 0 255 zs) (hc : zs.length ≤ c) (hcm : c ≤ maxLen) :
    Calls Tryz.prog 40 #[.slice A zs.length c] w fun e w' => ∃ R, e = .returned (.pointer (some ⟨R, 0, none⟩)) ∧ Tape w' w.heap.size R 0 ∧ Below w.heap.size w w' := by
  unfold maxLen at hcm
  by_cases h : 2000 < zs.length
  · obtain ⟨b, off, rfl, _, _⟩ := hr.int (i := 0) (by omega)
    obtain ⟨hr', hl'⟩ := hr.slice 0 2000 (by omega)
    simp only [Nat.add_zero, List.drop_zero] at hr' hl'
    have HH := hide (And.intro hr' hl')
    have HZ := hide (show InR 0 255 (zs.take 2000) from fun x hx => hz x (List.mem_of_mem_take hx))
    clear hr hr' hl' hz
    go_enter Tryz.func40, Tryz.ntmps40
    go_wp2_with fail
    go_ret
    have hlen : (zs.take 2000).length = 2000 := by rw [List.length_take]; omega
    have hbx := Box.new w 139 #[.slice (some ⟨b, off, none⟩) 2000 c, .int .i64 0]
    have hbl : Below w.heap.size w (w.alloc (.cells #[.slice (some ⟨b, off, none⟩) 2000 c, .int .i64 0] 139)) := (by repeat (first | exact Below.refl _ _ | with_reducible assumption | (refine Below.drew ?_) | (refine Below.drewN ?_ _) | (refine Below.alloc ?_ (by simp; try omega) _) | (refine Below.setCell ?_ (by simp; try omega) _)))
    exact ⟨w.heap.size, rfl, ⟨Nat.le_refl _, _, zs.take 2000, c, 0, by rw [hlen]; exact hbx, HH.out.1.below hbl, HZ.out, by omega, by omega, by omega⟩, hbl⟩
  · have HR := hide hr
    have HZ := hide hz
    clear hr hz
    go_enter Tryz.func40, Tryz.ntmps40
    go_wp2_with fail
    go_ret
    have hbl : Below w.heap.size w (w.alloc (.cells #[.slice A zs.length c, .int .i64 0] 139)) := (by repeat (first | exact Below.refl _ _ | with_reducible assumption | (refine Below.drew ?_) | (refine Below.drewN ?_ _) | (refine Below.alloc ?_ (by simp; try omega) _) | (refine Below.setCell ?_ (by simp; try omega) _)))
    exact ⟨w.heap.size, rfl, ⟨Nat.le_refl _, _, zs, c, 0, Box.new _ _ _, HR.out.below hbl, HZ.out, by omega, by omega, by omega⟩, hbl⟩
end Go.Proofs.YtmglgjchemecjaaGreat.DPick
/- The reader and the world it was opened in; draws of numbers. -/
namespace Go.Proofs.YtmglgjchemecjaaGreat.DVar
set_option maxRecDepth 200000
open Go.ChangeShapes Go.WideShapes Go.ChangeAt Go.RowKit Kit DPick
/-- The reader stands at w, and from w0 on nothing but its block has turned. -/
def Tp (w0 w : World) (B R : Nat) (N : Int) : Prop := DPick.Tape w B R N ∧ w0.grownBy w (some R)
section
variable {w0 w w' : World} {B R : Nat} {N : Int}
theorem Tp.start (h : DPick.Tape w B R N) : Tp w w B R N := ⟨h, grown_refl _ _⟩
theorem Tp.call (h : Tp w0 w B R N) (hb : Below w.heap.size w w') : Tp w0 w' B R N := ⟨h.1.call hb, grown_below h.2 hb⟩
theorem Tp.alloc (h : Tp w0 w B R N) (o : Obj) : Tp w0 (w.alloc o) B R N := h.call ((Below.refl _ _).alloc (Nat.le_refl _) o)
theorem Tp.drewN (h : Tp w0 w B R N) (n : Nat) : Tp w0 (w.drewN n) B R N := h.call (Kit.Below.drewN (Below.refl _ _) n)
theorem Tp.drew (h : Tp w0 w B R N) : Tp w0 w.drew B R N := h.call ((Below.refl _ _).drew)
theorem Tp.drawn {d : Nat} (h : Tp w0 w B R N) : Tp w0 { heap := w.heap, tape := w.tape, drawn := d, os := w.os, output := w.output } B R N := h.call ⟨rfl, rfl, rfl, Nat.le_refl _, fun _ _ => rfl⟩
theorem Tp.more (h : Tp w0 w B R N) {N' : Int} (hN : N ≤ N') : Tp w0 w B R N' := ⟨h.1.more hN, h.2⟩
theorem Tp.below {B' : Nat} (h : Tp w0 w B R N) (hB : B' ≤ w0.heap.size) (hR : B' ≤ R) : Below B' w0 w := below_of_grown (Below.refl _ _) h.2 hB hR
theorem pick_tp (h : Tp w0 w B R N) (hN : N ≤ 1099511627776) (n : Int) (hn : 1 ≤ n) (hn' : n ≤ 1099511627776) :
    Calls Tryz.prog 99 #[.pointer (some ⟨R, 0, none⟩), .int .i64 n] w fun e w' => ∃ x : Int, e = .returned (.int .i64 x) ∧ 0 ≤ x ∧ x < n ∧ Tp w0 w' B R (N + 1) ∧ w.grownBy w' (some R) := by
  refine (pick_any h.1 hN n hn hn').mono ?_
  rintro e w' ⟨x, he, x0, x1, T, g⟩
  exact ⟨x, he, x0, x1, ⟨T, grown_trans h.2 g⟩, g⟩
theorem odd_tp (h : Tp w0 w B R N) (hN : N ≤ 1099511627776) (n : Int) (hn : 0 ≤ n) (hn' : n ≤ 1099511627776) :
    Calls Tryz.prog 102 #[.pointer (some ⟨R, 0, none⟩), .int .i64 n] w fun e w' => ∃ b : Bool, e = .returned (.bool b) ∧ Tp w0 w' B R (N + 1) ∧ w.grownBy w' (some R) := by
  refine (odd_any h.1 hN n hn hn').mono ?_
  rintro e w' ⟨x, he, T, g⟩
  exact ⟨x, he, ⟨T, grown_trans h.2 g⟩, g⟩
end
def DrewInt (w0 : World) (B R : Nat) (N : Int) (lo hi : Int) (e : Ending) (w' : World) : Prop := ∃ x : Int, e = .returned (.int .i64 x) ∧ lo ≤ x ∧ x ≤ hi ∧ Tp w0 w' B R N
theorem Tp.set {w0 w : World} {B R : Nat} {N : Int} (h : Tp w0 w B R N) {a : Addr} (ha : w0.heap.size ≤ a.block) (hR : R < a.block) (u : Value) : Tp w0 (w.setCell a u) B R N := by
  refine ⟨?_, ⟨h.2.os, h.2.tape, h.2.output, by simpa [World.setCell] using h.2.size, fun k hk hne => (Below.heap_setCell w a u k (by omega)).trans (h.2.block k hk hne)⟩⟩
  obtain ⟨h0, A, zs, c, p, hb, hr, hz, hl, p0, p1⟩ := h.1
  exact ⟨h0, A, zs, c, p, hb.far (by omega) u, hr.keep (fun x hx => World.cell?_of_block (Below.heap_setCell w a u _ (by omega))), hz, hl, p0, p1⟩
theorem Tp.own {w0 w w' : World} {B R : Nat} {N : Int} (h : Tp w0 w B R N) {v : Option Nat} (g : w.grownBy w' v) (hv : ∀ k, v = some k → w0.heap.size ≤ k ∧ R < k) : Tp w0 w' B R N := by
  refine ⟨?_, grown_own h.2 g (fun k hk => (hv k hk).1)⟩
  obtain ⟨h0, A, zs, c, p, hb, hr, hz, hl, p0, p1⟩ := h.1
  have hk : ∀ k, k < R + 1 → w'.heap[k]? = w.heap[k]? := fun k hk => g.block k (Nat.lt_of_lt_of_le hk hb.lt) (fun e => by have := (hv k e.symm).2; omega)
  exact ⟨h0, A, zs, c, p, (hk R (by omega)).trans hb, hr.keep (fun x hx => World.cell?_of_block (hk _ (by omega))), hz, hl, p0, p1⟩
theorem own_pick {w w' : World} {base : Nat} {e : TypeId} {size n : Nat} {v : Value} {xs : List Value} {R : Nat} (h : w.ownsRow base e size v n xs) (g : w.grownBy w' (some R)) (hR : R < base) : w'.ownsRow base e size v n xs :=
  own_keep h fun k hk => g.block k (h.lt k hk).2 (fun e => by injection e with e; have := (h.lt k hk).1; omega)
theorem Tp.lt {w0 w : World} {B R : Nat} {N : Int} (h : Tp w0 w B R N) : R < w.heap.size := h.1.lt
/-- A cell of a literal that was laid just before a number was drawn. -/
theorem lit_at {w1 w2 : World} {cs : Array Value} {t : TypeId} {R : Nat} {k : IntKind} (g : (w1.alloc (.cells cs t)).grownBy w2 (some R)) (hR : R < w1.heap.size) {i : Int} (h0 : 0 ≤ i) (h1 : i < cs.size) (hb : ∀ v ∈ cs.toList, ∃ z, v = Value.int k z) :
    ∃ z, Value.int k z ∈ cs.toList ∧ w2.cell? ⟨w1.heap.size, i.toNat, none⟩ = some (.int k z) := by
  have hx : Box w2 w1.heap.size t cs := (Box.new w1 t cs).grown g (fun k hk => by injection hk with hk; omega)
  have hi' : i.toNat < cs.size := by omega
  obtain ⟨z, hz⟩ := hb (cs[i.toNat]'hi') (by simp)
  refine ⟨z, by rw [← hz]; simp, ?_⟩
  rw [hx.cell, Array.getElem?_eq_getElem hi', hz]
theorem pick_lit {w0 w1 : World} {B R : Nat} {N : Int} {cs : Array Value} {t : TypeId} {k : IntKind} (h : Tp w0 w1 B R N) (hN : N ≤ 1099511627776) (n : Int) (hn : 1 ≤ n) (hn' : n ≤ 1099511627776) (hb : ∀ v ∈ cs.toList, ∃ z, v = Value.int k z) (hs : n ≤ cs.size) :
    Calls Tryz.prog 99 #[.pointer (some ⟨R, 0, none⟩), .int .i64 n] (w1.alloc (.cells cs t)) fun e w' => ∃ x : Int, e = .returned (.int .i64 x) ∧ 0 ≤ x ∧ x < n ∧ Tp w0 w' B R (N + 1) ∧ (w1.alloc (.cells cs t)).grownBy w' (some R) ∧
      ∃ z, Value.int k z ∈ cs.toList ∧ w'.cell? ⟨w1.heap.size, x.toNat, none⟩ = some (.int k z) := by
  refine (pick_tp (h.alloc (.cells cs t)) hN n hn hn').mono ?_
  rintro e w' ⟨x, he, x0, x1, T, g⟩
  exact ⟨x, he, x0, x1, T, g, lit_at g h.lt x0 (by omega) hb⟩
/-- The same where a table of places was laid behind the literal: the number drawn picks a place, the place a cell. -/
theorem pick_lit2 {w0 w1 : World} {B R : Nat} {N : Int} {cs cs2 : Array Value} {t t2 : TypeId} {k : IntKind} (h : Tp w0 w1 B R N) (hN : N ≤ 1099511627776) (n : Int) (hn : 1 ≤ n) (hn' : n ≤ 1099511627776) (hb : ∀ v ∈ cs.toList, ∃ z, v = Value.int k z) (hb2 : ∀ v ∈ cs2.toList, ∃ z, v = Value.int .i64 z ∧ 0 ≤ z ∧ z < cs.size) (hs : n ≤ cs2.size) :
    Calls Tryz.prog 99 #[.pointer (some ⟨R, 0, none⟩), .int .i64 n] ((w1.alloc (.cells cs t)).alloc (.cells cs2 t2)) fun e w' => ∃ x : Int, e = .returned (.int .i64 x) ∧ 0 ≤ x ∧ x < n ∧ Tp w0 w' B R (N + 1) ∧ ((w1.alloc (.cells cs t)).alloc (.cells cs2 t2)).grownBy w' (some R) ∧
      ∃ z y, Value.int .i64 z ∈ cs2.toList ∧ w'.cell? ⟨w1.heap.size + 1, x.toNat, none⟩ = some (.int .i64 z) ∧ 0 ≤ z ∧ z < cs.size ∧ Value.int k y ∈ cs.toList ∧ w'.cell? ⟨w1.heap.size, z.toNat, none⟩ = some (.int k y) := by
  have hb3 : ∀ v ∈ cs2.toList, ∃ z, v = Value.int .i64 z := fun v hv => by
    obtain ⟨z, hz, _⟩ := hb2 v hv
    exact ⟨z, hz⟩
  refine (pick_lit (h.alloc (.cells cs t)) hN n hn hn' hb3 hs).mono ?_
  rintro e w' ⟨x, he, x0, x1, T, g, z, hm, hz⟩
  obtain ⟨z', hz', z0, z1⟩ := hb2 _ hm
  obtain rfl : z = z' := by injection hz'
  have hsz : (w1.alloc (.cells cs t)).heap.size = w1.heap.size + 1 := by simp
  rw [hsz] at hz
  have hx : Box w' w1.heap.size t cs := ((Box.new w1 t cs).alloc _).grown g (fun k hk => by injection hk with hk; have := h.lt; omega)
  have hi' : z.toNat < cs.size := by omega
  obtain ⟨y, hy⟩ := hb (cs[z.toNat]'hi') (by simp)
  refine ⟨x, he, x0, x1, T, g, z, y, hm, hz, z0, z1, by rw [← hy]; simp, ?_⟩
  rw [hx.cell, Array.getElem?_eq_getElem hi', hy]
end Go.Proofs.YtmglgjchemecjaaGreat.DVar
/- The draw of a name. -/
namespace Go.Proofs.YtmglgjchemecjaaGreat.DName
set_option maxRecDepth 200000
open Go.ChangeShapes Go.WideShapes Go.ChangeAt Go.RowKit Kit DPick DVar
/-- A cell of a literal that was laid just before a number was drawn, told by what all its cells are. -/
theorem pick_litP {p : Value → Prop} {w0 w1 : World} {B R : Nat} {N : Int} {cs : Array Value} {t : TypeId} (h : Tp w0 w1 B R N) (hN : N ≤ 1099511627776) (n : Int) (hn : 1 ≤ n) (hn' : n ≤ 1099511627776) (hb : ∀ v ∈ cs.toList, p v) (hs : n ≤ cs.size) :
    Calls Tryz.prog 99 #[.pointer (some ⟨R, 0, none⟩), .int .i64 n] (w1.alloc (.cells cs t)) fun e w' => ∃ x : Int, e = .returned (.int .i64 x) ∧ 0 ≤ x ∧ x < n ∧ Tp w0 w' B R (N + 1) ∧ (w1.alloc (.cells cs t)).grownBy w' (some R) ∧
      ∃ v, p v ∧ w'.cell? ⟨w1.heap.size, x.toNat, none⟩ = some v := by
  refine (pick_tp (h.alloc (.cells cs t)) hN n hn hn').mono ?_
  rintro e w' ⟨x, he, x0, x1, T, g⟩
  have hx : Box w' w1.heap.size t cs := (Box.new w1 t cs).grown g (fun k hk => by injection hk with hk; have := h.lt; omega)
  have hi' : x.toNat < cs.size := by omega
  refine ⟨x, he, x0, x1, T, g, cs[x.toNat]'hi', hb _ (by simp), ?_⟩
  rw [hx.cell, Array.getElem?_eq_getElem hi']
theorem odd_zero {w : World} {R : Nat} : Calls Tryz.prog 102 #[.pointer (some ⟨R, 0, none⟩), .int .i64 0] w (Pure (.bool false) w) := by
  go_enter Tryz.func102, Tryz.ntmps102
  go_wp2_with fail
  go_ret
  exact ⟨rfl, rfl⟩
def IsName (v : Value) : Prop := ∃ s : ByteArray, v = .string s ∧ 0 < s.size ∧ s.size ≤ 9
def IsText (v : Value) : Prop := ∃ s : ByteArray, v = .string s ∧ s.size ≤ 9
def DrewText (w0 w : World) (B R : Nat) (N : Int) (lo : Nat) (e : Ending) (w' : World) : Prop := ∃ s : ByteArray, e = .returned (.string s) ∧ lo ≤ s.size ∧ s.size ≤ 9 ∧ Tp w0 w' B R N ∧ w.grownBy w' (some R)
theorem grown_lit {w w1 w2 : World} {o : Obj} {R : Nat} (g1 : w.grownBy w1 (some R)) (g2 : (w1.alloc o).grownBy w2 (some R)) : w.grownBy w2 (some R) := grown_trans (grown_alloc g1 o) g2
theorem name_any {w0 w : World} {B R : Nat} {N : Int} (T : Tp w0 w B R N) (hN : N ≤ 1000000) (n : Int) (hn : 0 ≤ n) (hn' : n ≤ 1000) :
    Calls Tryz.prog 148 #[.pointer (some ⟨R, 0, none⟩), .int .i64 n] w (DrewText w0 w B R (N + 2) 0) := by
  go_enter Tryz.func148, Tryz.ntmps148
  go_wp2_with fail
  refine (odd_tp (by first | with_reducible assumption | exact Tp.alloc (by with_reducible assumption) _ | exact Tp.alloc (Tp.alloc (by with_reducible assumption) _) _ | exact Tp.drewN (by with_reducible assumption) _ | exact Tp.drew (by with_reducible assumption) | exact Tp.drawn (by with_reducible assumption) | exact Tp.alloc (Tp.drewN (by with_reducible assumption) _) _ | exact Tp.alloc (Tp.drew (by with_reducible assumption)) _ | exact Tp.alloc (Tp.alloc (Tp.alloc (by with_reducible assumption) _) _) _) (by omega) _ (by omega) (by omega)).mono ?_
  rintro e w1 ⟨bo, rfl, T1, g1⟩
  clear T
  cases bo
  · go_wp2_with fail
    refine (pick_litP (p := IsText) T1 (by omega) _ (by omega) (by omega) (by repeat (first | exact List.forall_mem_nil _ | refine List.forall_mem_cons.2 ⟨⟨_, rfl, by decide⟩, ?_⟩)) (by simp)).mono ?_
    rintro e w2 ⟨x, rfl, x0, x1, T2, g2, v, ⟨s, rfl, s1⟩, hv⟩
    have HG := hide (grown_lit g1 g2)
    clear g1 g2 T1
    go_wp2_with fail
    go_ret
    exact ⟨s, rfl, Nat.zero_le _, s1, T2.more (by omega), HG.out⟩
  · go_wp2_with fail
    refine (pick_litP (p := IsText) T1 (by omega) _ (by omega) (by omega) (by repeat (first | exact List.forall_mem_nil _ | refine List.forall_mem_cons.2 ⟨⟨_, rfl, by decide⟩, ?_⟩)) (by simp)).mono ?_
    rintro e w2 ⟨x, rfl, x0, x1, T2, g2, v, ⟨s, rfl, s1⟩, hv⟩
    have HG := hide (grown_lit g1 g2)
    clear g1 g2 T1
    go_wp2_with fail
    go_ret
    exact ⟨s, rfl, Nat.zero_le _, s1, T2.more (by omega), HG.out⟩
theorem name_ok {w0 w : World} {B R : Nat} {N : Int} (T : Tp w0 w B R N) (hN : N ≤ 1000000) :
    Calls Tryz.prog 148 #[.pointer (some ⟨R, 0, none⟩), .int .i64 0] w (DrewText w0 w B R (N + 2) 1) := by
  go_enter Tryz.func148, Tryz.ntmps148
  go_wp2_with fail
  refine odd_zero.mono ?_
  rintro e w' ⟨rfl, rfl⟩
  go_wp2_with fail
  refine (pick_litP (p := IsName) T (by omega) _ (by omega) (by omega) (by repeat (first | exact List.forall_mem_nil _ | refine List.forall_mem_cons.2 ⟨⟨_, rfl, by decide, by decide⟩, ?_⟩)) (by simp)).mono ?_
  rintro e w2 ⟨x, rfl, x0, x1, T2, g2, v, ⟨s, rfl, s0, s1⟩, hv⟩
  have HG := hide (grown_lit (grown_refl w (some R)) g2)
  clear g2 T
  go_wp2_with fail
  go_ret
  exact ⟨s, rfl, s0, s1, T2.more (by omega), HG.out⟩
end Go.Proofs.YtmglgjchemecjaaGreat.DName
/- The draw of bytes. -/
namespace Go.Proofs.YtmglgjchemecjaaGreat.DBytes
set_option maxRecDepth 200000
open Go.ChangeShapes Go.WideShapes Go.ChangeAt Go.RowKit Kit DPick DVar
theorem info8 : (Tryz.prog.info? 5).map (fun i => (i.zero, i.size, i.bytes)) = some (some (.int .u8 0), 1, 1) := by kernel_rfl
def DrewBytes (w0 w : World) (B R : Nat) (N : Int) (most : Nat) (e : Ending) (w' : World) : Prop := ∃ (A : Option Addr) (zs : List Int) (c : Nat), e = .returned (.slice A zs.length c) ∧ zs.length ≤ most ∧ InR 0 255 zs ∧ w'.ownsRow w.heap.size 5 1 (.slice A zs.length c) zs.length (ints .u8 zs) ∧ Tp w0 w' B R N
theorem bytes_any {w0 w : World} {B R : Nat} {N : Int} (T : Tp w0 w B R N) (hN : N ≤ 1000000) (hN0 : 0 ≤ N) (most : Nat) (hm : most ≤ 1000) :
    Calls Tryz.prog 149 #[.pointer (some ⟨R, 0, none⟩), .int .i64 most] w (DrewBytes w0 w B R (N + 2 * most + 1) most) := by
  obtain ⟨i0, hi, hz0, hz1, hz2⟩ := info_parts info8
  have hR := T.lt
  have hw0 := T.2.size
  have HO := hide (own_empty (w := w) (E := 5))
  go_enter Tryz.func149, Tryz.ntmps149
  go_wp2_with fail
  refine (pick_tp (by first | with_reducible assumption | exact Tp.alloc (by with_reducible assumption) _ | exact Tp.alloc (Tp.alloc (by with_reducible assumption) _) _ | exact Tp.drewN (by with_reducible assumption) _ | exact Tp.drew (by with_reducible assumption) | exact Tp.drawn (by with_reducible assumption) | exact Tp.alloc (Tp.drewN (by with_reducible assumption) _) _ | exact Tp.alloc (Tp.drew (by with_reducible assumption)) _ | exact Tp.alloc (Tp.alloc (Tp.alloc (by with_reducible assumption) _) _) _) (by omega) _ (by omega) (by omega)).mono ?_
  rintro e w1 ⟨x, rfl, x0, x1, T1, g1⟩
  have HO1 := hide (own_pick HO.out g1 hR)
  have HT1 := hide T1
  obtain ⟨j, rfl⟩ := Int.eq_ofNat_of_zero_le x0
  have hsz1 : w.heap.size ≤ w1.heap.size := by have h1 := g1.size; simp at h1; omega
  clear T T1 g1 HO
  go_wp2_with fail
  go_loopw [5, 6] (fun o k wr => ∃ (i : Nat) (A' : Option Addr) (l c' : Nat) (zs : List Int), k = .int .i64 i ∧ o = .slice A' l c' ∧ l = zs.length ∧ l + i ≤ most ∧ InR 0 255 zs ∧ wr.ownsRow w.heap.size 5 1 (.slice A' l c') l (ints .u8 zs) ∧ Tp w0 wr B R (N + 2 * (most - i : Int) + 1) ∧ w.heap.size ≤ wr.heap.size) (fun _ k _ => (intOf k).toNat)
  case atStart => exact ⟨j, _, 0, _, [], rfl, rfl, rfl, by omega, fun x hx => by simp at hx, HO1.out, HT1.out.more (by omega), hsz1⟩
  case round =>
    obtain ⟨i, A', l, c', zs, rfl, rfl, hl, hli, hzs, ho, T, hszr⟩ := hrel
    have HL := hide hl
    have HZ := hide hzs
    have HO := hide ho
    clear hl hzs ho HO1 HT1
    by_cases h0 : 0 < i
    · go_wp2_with fail
      refine (pick_tp (by first | with_reducible assumption | exact Tp.alloc (by with_reducible assumption) _ | exact Tp.alloc (Tp.alloc (by with_reducible assumption) _) _ | exact Tp.drewN (by with_reducible assumption) _ | exact Tp.drew (by with_reducible assumption) | exact Tp.drawn (by with_reducible assumption) | exact Tp.alloc (Tp.drewN (by with_reducible assumption) _) _ | exact Tp.alloc (Tp.drew (by with_reducible assumption)) _ | exact Tp.alloc (Tp.alloc (Tp.alloc (by with_reducible assumption) _) _) _) (by omega) _ (by omega) (by omega)).mono ?_
      rintro e w2 ⟨y, rfl, y0, y1, T2, g2⟩
      have HO2 := hide (own_pick HO.out g2 hR)
      have g2s := g2.size
      clear T g2 HO
      go_wp2_with fail
      refine (pick_lit T2 (by omega) _ (by omega) (by omega) (by repeat (first | exact List.forall_mem_nil _ | refine List.forall_mem_cons.2 ⟨⟨_, rfl⟩, ?_⟩)) (by simp)).mono ?_
      rintro e w3 ⟨v, rfl, v0, v1, T3, g3, z, hm, hz⟩
      simp only [List.mem_cons, Value.int.injEq, true_and, List.not_mem_nil, or_false] at hm
      have hzb : 0 ≤ z ∧ z ≤ 255 := by omega
      have HO3 := hide (own_pick (HO2.out.alloc _) g3 hR)
      have HT3 := hide T3
      have hsz3 : w.heap.size ≤ w3.heap.size := by have h1 := g3.size; have h2 := hszr; have h3 := g2s; simp at h1; omega
      clear T2 g3 HO2 hm T3
      go_wp2_with (at_builtin; refine wpList_app1 w3 rfl (.tmp 16) (.tmp 25) 34 rfl w.heap.size 5 i0 (.int .u8 0) 1 1 Tryz.underlying34 hi hz0 hz1 hz2 rfl (by decide) _ rfl rfl ?o1 _ _ _ rfl HO3.out ?n1 ?n2 ?n3 ?_)
      case o1 => first | rfl | (simp; done) | (intro u hu; simp at hu; subst hu; rfl)
      case n1 => unfold maxLen; omega
      case n2 => omega
      case n3 => exact hsz3
      intro A4 n4 c4 w4 hn4 o4 g4
      subst hn4
      have T4 := HT3.out.own g4 (fun k hk => ⟨Nat.le_trans hw0 (HO3.out.lt k hk).1, Nat.lt_of_lt_of_le hR (HO3.out.lt k hk).1⟩)
      have HO4 := hide o4
      have HT4 := hide T4
      have hsz4 := Nat.le_trans hsz3 g4.size
      clear o4 g4 T4 HO3 HT3 hz
      go_wp2_with fail
      refine ⟨⟨i - 1, A4, l + 1, c4, zs ++ [z], by go_num, rfl, by rw [HL.out]; simp, by omega, ?_, by simpa using HO4.out, HT4.out.more (by omega), hsz4⟩, by simp [intOf]; omega⟩
      intro a ha
      rcases List.mem_append.1 ha with ha | ha
      · exact HZ.out a ha
      · simp at ha; omega
    · have e : i = 0 := by omega
      subst e
      have hl := HL.out
      subst hl
      go_wp2_with fail
      go_ret
      exact ⟨A', zs, c', rfl, by omega, HZ.out, HO.out, T.more (by omega)⟩
end Go.Proofs.YtmglgjchemecjaaGreat.DBytes
/- A region that draws its order, taken operation by operation: each load under a condition of its own, which all that may come before it keep. -/
namespace Go.Proofs.YtmglgjchemecjaaGreat.Rw
set_option maxRecDepth 200000
open Go Reg Rv
section
variable {P : Program} {ops : Array Oper} {Q : Exit → Act → World → Prop} {md : Region.Mode} {Ob : Nat → World → World → Prop}
/-- Whatever order is picked from here on; every operation that is carried out keeps what Ob asks of it. -/
def wpAnyW (P : Program) (md : Region.Mode) (ops : Array Oper) (Q : Exit → Act → World → Prop) (Ob : Nat → World → World → Prop) : Nat → Array Bool → Act → World → Prop
  | 0, listed, a, w => Region.ready md ops listed = [] ∧ Q .normal a w
  | fuel + 1, listed, a, w =>
    (Region.ready md ops listed = [] → Q .normal a w) ∧
    ∀ i ∈ Region.ready md ops listed, wpOp P ops Q i (fun a' w' => Ob i w w' ∧ wpAnyW P md ops Q Ob fuel (listed.setIfInBounds i true) a' w') a w
theorem wpAny_of_W : ∀ (fuel : Nat) (listed : Array Bool) (a : Act) (w : World), wpAnyW P md ops Q Ob fuel listed a w → wpAny P md ops Q fuel listed a w
  | 0, _, _, _, h => h
  | fuel + 1, _, _, _, h => ⟨h.1, fun i hi => wpOp_mono (fun a' w' h' => wpAny_of_W fuel _ a' w' h'.2) (h.2 i hi)⟩
theorem weaker {Ob' : Nat → World → World → Prop} (h : ∀ j w w', Ob' j w w' → Ob j w w') : ∀ (fuel : Nat) (listed : Array Bool) (a : Act) (w : World), wpAnyW P md ops Q Ob' fuel listed a w → wpAnyW P md ops Q Ob fuel listed a w
  | 0, _, _, _, H => H
  | fuel + 1, _, _, _, H => ⟨H.1, fun i hi => wpOp_mono (fun a' w' h' => ⟨h i _ w' h'.1, weaker h fuel _ a' w' h'.2⟩) (H.2 i hi)⟩
/-- What a load adds to what is asked. -/
def Plus (Ob : Nat → World → World → Prop) (C : List Nat) (R : World → Prop) (j : Nat) (w w' : World) : Prop := Ob j w w' ∧ (C.contains j = false → R w → R w')
theorem first {i : Nat} {oi : Oper} {v : Value} {C : List Nat} {R : World → Prop} (hi : ops[i]? = some oi) (hsel : ∀ (j : Nat) (o : Oper) cs b, ops[j]? = some o → o.op ≠ .select cs b)
    (hQ : ∀ c a w, Q (.panic c) (a.put oi.dst v) w → Q (.panic c) a w) (hre : ∀ j w, Ob j w w) :
    ∀ (fuel : Nat) (listed : Array Bool) (a : Act) (w : World),
      (∀ j ∈ C, j ≠ i ∧ listed.getD j true = false ∧ ∃ o, ops[j]? = some o ∧ ∃ e ∈ o.after, Region.binds md e = true ∧ (e.on = i ∨ e.on ∈ C)) →
      (∀ j oj, ops[j]? = some oj → j ≠ i → listed.getD j true = false → (∀ e ∈ oj.after, Region.binds md e = true → e.on ≠ i) → oi.apart ops oj = true) →
      i ∈ Region.ready md ops listed → YieldsIf P ops R oi v a → R w →
      wpAnyW P md ops Q (Plus Ob C R) fuel (listed.setIfInBounds i true) (a.put oi.dst v) w → wpAnyW P md ops Q Ob (fuel + 1) listed a w := by
  intro fuel
  induction fuel with
  | zero =>
    intro listed a w _ _ hr hy hS H
    refine ⟨fun h => (by rw [h] at hr; cases hr), fun j hj => ?_⟩
    by_cases hji : j = i
    · subst hji
      exact hy.wpOp hi hS ⟨hre _ _, weaker (fun _ _ _ h => h.1) _ _ _ _ H⟩
    · have := ready_mono hj hji
      rw [H.1] at this
      cases this
  | succ fuel ih =>
    intro listed a w hC hfree hr hy hS H
    refine ⟨fun h => (by rw [h] at hr; cases hr), fun j hj => ?_⟩
    by_cases hji : j = i
    · subst hji
      exact hy.wpOp hi hS ⟨hre _ _, weaker (fun _ _ _ h => h.1) _ _ _ _ H⟩
    · have h1 := H.2 j (ready_mono hj hji)
      obtain ⟨hjun, oj, hoj, hall⟩ := mem_ready.1 hj
      have hun : ∀ k, listed.getD k true = false → ∀ e ∈ oj.after, Region.binds md e = true → e.on ≠ k := fun k h0 e he hb heq => by
        have h1 := hall e he hb
        rw [heq] at h1
        rcases Nat.lt_or_ge k listed.size with h' | h'
        · simp [h'] at h0 h1
          rw [h0] at h1
          cases h1
        · simp [Array.getElem?_eq_none h'] at h1
      have hnot : ∀ e ∈ oj.after, Region.binds md e = true → e.on ≠ i := hun i (mem_ready.1 hr).1
      have hjC : j ∉ C := fun hjc => by
        obtain ⟨_, _, o, ho, e, he, hb, hor⟩ := hC j hjc
        rw [hoj] at ho
        injection ho with ho
        subst ho
        rcases hor with hor | hor
        · exact hnot e he hb hor
        · exact hun _ (hC _ hor).2.1 e he hb rfl
      have h2 := wpOp_putIf hoj (hfree j oj hoj hji hjun hnot) (fun cs b => hsel i oi cs b hi) (fun cs b => hsel j oj cs b hoj) hQ hy h1
      have hfree' : ∀ k ok, ops[k]? = some ok → k ≠ i → (listed.setIfInBounds j true).getD k true = false →
          (∀ e ∈ ok.after, Region.binds md e = true → e.on ≠ i) → oi.apart ops ok = true := fun k ok hk hki hun hno => by
        refine hfree k ok hk hki ?_ hno
        by_cases hjk : j = k
        · subst hjk
          exact hjun
        · rw [getD_set_ne true hjk] at hun
          exact hun
      have hC' : ∀ k ∈ C, k ≠ i ∧ (listed.setIfInBounds j true).getD k true = false ∧ ∃ o, ops[k]? = some o ∧ ∃ e ∈ o.after, Region.binds md e = true ∧ (e.on = i ∨ e.on ∈ C) := fun k hk => by
        obtain ⟨a1, a2, a3⟩ := hC k hk
        refine ⟨a1, ?_, a3⟩
        have hjk : j ≠ k := by
          rintro rfl
          exact hjC hk
        rw [getD_set_ne true hjk]
        exact a2
      have hjC2 : C.contains j = false := by
        cases h : C.contains j
        · rfl
        · exact absurd (List.contains_iff_mem.1 h) hjC
      refine wpOp_mono (fun a' w' h3 => ⟨h3.2.1.1, ih (listed.setIfInBounds j true) a' w' hC' hfree' (ready_mono hr (Ne.symm hji)) h3.1 (h3.2.1.2 hjC2 hS) ?_⟩) h2
      rw [Array.setIfInBounds_comm _ _ hji]
      exact h3.2.2
/-- A load (what reads the world): take it first, under R. -/
theorem take {i : Nat} {oi : Oper} {v : Value} {fuel : Nat} {listed : Array Bool} {a : Act} {w : World} (R : World → Prop) (hi : ops[i]? = some oi)
    (hs : Region.noSelect ops = true) (hf : Region.free md ops listed i = true) (hr : (Region.ready md ops listed).contains i = true) (hT : closedB md ops listed i (cl md ops listed i 4) (fun _ => false) = true)
    (hQ : ∀ c a w, Q (.panic c) (a.put oi.dst v) w → Q (.panic c) a w) (hre : ∀ j w, Ob j w w) (hy : YieldsIf P ops R oi v a) (hS : R w)
    (h : wpAnyW P md ops Q (Plus Ob (cl md ops listed i 4) R) fuel (listed.setIfInBounds i true) (a.put oi.dst v) w) : wpAnyW P md ops Q Ob (fuel + 1) listed a w :=
  first (R := R) hi (Region.noSelect_spec hs) hQ hre fuel listed a w (closed_spec hT).1 (Region.free_spec hi hf) (by simpa using hr) hy hS h
/-- What only computes: take it first. -/
theorem comp {i : Nat} {oi : Oper} {v : Value} {fuel : Nat} {listed : Array Bool} {a : Act} {w : World} (hi : ops[i]? = some oi)
    (hs : Region.noSelect ops = true) (hf : Region.free md ops listed i = true) (hr : (Region.ready md ops listed).contains i = true)
    (hQ : ∀ c a w, Q (.panic c) (a.put oi.dst v) w → Q (.panic c) a w) (hre : ∀ j w, Ob j w w) (hy : YieldsIf P ops (fun _ => True) oi v a)
    (h : wpAnyW P md ops Q Ob fuel (listed.setIfInBounds i true) (a.put oi.dst v) w) : wpAnyW P md ops Q Ob (fuel + 1) listed a w :=
  first (R := fun _ => True) (C := []) hi (Region.noSelect_spec hs) hQ hre fuel listed a w (fun _ h => by cases h) (Region.free_spec hi hf) (by simpa using hr) hy trivial (weaker (Ob' := Ob) (fun _ _ _ h => ⟨h, fun _ _ => trivial⟩) _ _ _ _ h)
/-- One alone may come up. -/
theorem one {i : Nat} {o : Oper} {fuel : Nat} {listed : Array Bool} {a : Act} {w : World} (ho : ops[i]? = some o) (hr : Region.ready md ops listed = [i])
    (h : ∀ K : Act → World → Prop, Shut (∀ a w', Ob i w w' → wpAnyW P md ops Q Ob fuel (listed.setIfInBounds i true) a w' → K a w') → if Region.wanted o (yielded ops a.tmps) = true then Oper.wp P o a w K Q else K (a.put o.dst undef) w) :
    wpAnyW P md ops Q Ob (fuel + 1) listed a w :=
  ⟨fun h0 => (by rw [hr] at h0; cases h0), fun j hj => by
    rw [hr] at hj
    simp only [List.mem_singleton] at hj
    subst hj
    exact wpOp_step ho (fun K' hK => h K' (fun a w hS hW => hK a w ⟨hS, hW⟩))⟩
theorem two {i j : Nat} {oi oj : Oper} {fuel : Nat} {listed : Array Bool} {a : Act} {w : World} (hoi : ops[i]? = some oi) (hoj : ops[j]? = some oj) (hr : Region.ready md ops listed = [i, j])
    (h : ∀ K : Act → World → Prop, Shut (∀ a w', Ob i w w' → wpAnyW P md ops Q Ob fuel (listed.setIfInBounds i true) a w' → K a w') → if Region.wanted oi (yielded ops a.tmps) = true then Oper.wp P oi a w K Q else K (a.put oi.dst undef) w)
    (h' : ∀ K : Act → World → Prop, Shut (∀ a w', Ob j w w' → wpAnyW P md ops Q Ob fuel (listed.setIfInBounds j true) a w' → K a w') → if Region.wanted oj (yielded ops a.tmps) = true then Oper.wp P oj a w K Q else K (a.put oj.dst undef) w) :
    wpAnyW P md ops Q Ob (fuel + 1) listed a w :=
  ⟨fun h0 => (by rw [hr] at h0; cases h0), fun k hk => by
    rw [hr] at hk
    simp only [List.mem_cons, List.not_mem_nil, or_false] at hk
    rcases hk with rfl | rfl
    · exact wpOp_step hoi (fun K' hK => h K' (fun a w hS hW => hK a w ⟨hS, hW⟩))
    · exact wpOp_step hoj (fun K' hK => h' K' (fun a w hS hW => hK a w ⟨hS, hW⟩))⟩
theorem three {i j l : Nat} {oi oj ol : Oper} {fuel : Nat} {listed : Array Bool} {a : Act} {w : World} (hoi : ops[i]? = some oi) (hoj : ops[j]? = some oj) (hol : ops[l]? = some ol) (hr : Region.ready md ops listed = [i, j, l])
    (h : ∀ K : Act → World → Prop, Shut (∀ a w', Ob i w w' → wpAnyW P md ops Q Ob fuel (listed.setIfInBounds i true) a w' → K a w') → if Region.wanted oi (yielded ops a.tmps) = true then Oper.wp P oi a w K Q else K (a.put oi.dst undef) w)
    (h' : ∀ K : Act → World → Prop, Shut (∀ a w', Ob j w w' → wpAnyW P md ops Q Ob fuel (listed.setIfInBounds j true) a w' → K a w') → if Region.wanted oj (yielded ops a.tmps) = true then Oper.wp P oj a w K Q else K (a.put oj.dst undef) w)
    (h'' : ∀ K : Act → World → Prop, Shut (∀ a w', Ob l w w' → wpAnyW P md ops Q Ob fuel (listed.setIfInBounds l true) a w' → K a w') → if Region.wanted ol (yielded ops a.tmps) = true then Oper.wp P ol a w K Q else K (a.put ol.dst undef) w) :
    wpAnyW P md ops Q Ob (fuel + 1) listed a w :=
  ⟨fun h0 => (by rw [hr] at h0; cases h0), fun k hk => by
    rw [hr] at hk
    simp only [List.mem_cons, List.not_mem_nil, or_false] at hk
    rcases hk with rfl | rfl | rfl
    · exact wpOp_step hoi (fun K' hK => h K' (fun a w hS hW => hK a w ⟨hS, hW⟩))
    · exact wpOp_step hoj (fun K' hK => h' K' (fun a w hS hW => hK a w ⟨hS, hW⟩))
    · exact wpOp_step hol (fun K' hK => h'' K' (fun a w hS hW => hK a w ⟨hS, hW⟩))⟩
theorem done {listed : Array Bool} {a : Act} {w : World} (hr : Region.ready md ops listed = []) (h : Q .normal a w) : ∀ fuel, wpAnyW P md ops Q Ob fuel listed a w
  | 0 => ⟨hr, h⟩
  | _ + 1 => ⟨fun _ => h, by rw [hr]; simp⟩
/-- What waits no more for a load asks nothing for it. -/
theorem relax {C : List Nat} {R : World → Prop} : ∀ {fuel : Nat} {listed : Array Bool} {a : Act} {w : World}, ((List.range ops.size).all fun j => listed.getD j true || C.contains j) = true → wpAnyW P md ops Q Ob fuel listed a w → wpAnyW P md ops Q (Plus Ob C R) fuel listed a w
  | 0, _, _, _, _, h => h
  | fuel + 1, listed, a, w, hc, h => ⟨h.1, fun i hi => by
    obtain ⟨hun, o, ho, _⟩ := mem_ready.1 hi
    have hil : i < ops.size := (Array.getElem?_eq_some_iff.1 ho).1
    have hC : C.contains i = true := by
      have := List.all_eq_true.1 hc i (List.mem_range.2 hil)
      rw [hun, Bool.false_or] at this
      exact this
    refine wpOp_mono (fun a' w' h' => ⟨⟨h'.1, fun hF => (by rw [hC] at hF; cases hF)⟩, relax ?_ h'.2⟩) (h.2 i hi)
    refine List.all_eq_true.2 fun j hj => ?_
    have := List.all_eq_true.1 hc j hj
    rcases Bool.or_eq_true_iff.1 this with h1 | h1
    · by_cases hij : i = j
      · subst hij
        rw [hun] at h1
        cases h1
      · rw [getD_set_ne true hij, h1]
        rfl
    · rw [h1, Bool.or_true]⟩
theorem canon {listed listed' : Array Bool} {fuel : Nat} {a : Act} {w : World} (h : listed = listed') (H : wpAnyW P md ops Q Ob fuel listed' a w) : wpAnyW P md ops Q Ob fuel listed a w := h ▸ H
/-- Nothing is asked at first. -/
def Ob0 (_ : Nat) (_ _ : World) : Prop := True
theorem re0 : ∀ j w, Ob0 j w w := fun _ _ => trivial
theorem rePlus {C : List Nat} {R : World → Prop} (h : ∀ j w, Ob j w w) : ∀ j w, Plus Ob C R j w w := fun j w => ⟨h j w, fun _ h => h⟩
theorem start {id : Nat} {a : Act} {w : World} (hm : P.follows .mixedOrders = true)
    (h : wpAnyW P .any ops Q Ob0 ops.size (Array.replicate ops.size false) a w.drew) : (Code.region id ops true).wp P Q a w :=
  wp_region_any hm (wpAny_of_W _ _ _ _ h)
end
theorem out_of {C : List Nat} {j : Nat} {p q : Prop} (h : C.contains j = true) : C.contains j = false → p → q := fun h' => by rw [h] at h'; cases h'
open Go.ChangeAt Go.RowKit Go.ChangeShapes Go.WideShapes
/-- A cell that is there stays over a call. -/
theorem cell_below {w w' : World} {p : Addr} {u : Value} (hb : Below w.heap.size w w') (h : w.cell? p = some u) : w'.cell? p = some u := by
  have hp : p.block < w.heap.size := by
    rcases Nat.lt_or_ge p.block w.heap.size with h' | h'
    · exact h'
    · exfalso
      unfold World.cell? at h
      rw [Array.getElem?_eq_none h'] at h
      cases h
  exact (hb.cell hp).trans h
theorem cell_grown {w w' : World} {p : Addr} {u : Value} {R : Nat} (g : w.grownBy w' (some R)) (hne : p.block ≠ R) (h : w.cell? p = some u) : w'.cell? p = some u := by
  have hp : p.block < w.heap.size := by
    rcases Nat.lt_or_ge p.block w.heap.size with h' | h'
    · exact h'
    · exfalso
      unfold World.cell? at h
      rw [Array.getElem?_eq_none h'] at h
      cases h
  exact (World.cell?_of_block (g.block p.block hp (fun e => hne (by injection e)))).trans h
/-- What follows a point that several orders come to is proved once. -/
theorem tail7 {α1 α2 α3 α4 α5 α6 α7 : Type} {F G : α1 → α2 → α3 → α4 → α5 → α6 → α7 → Prop} {A : Prop} (main : Shut (∀ x1 x2 x3 x4 x5 x6 x7, F x1 x2 x3 x4 x5 x6 x7 → G x1 x2 x3 x4 x5 x6 x7) → A) (tail : ∀ x1 x2 x3 x4 x5 x6 x7, F x1 x2 x3 x4 x5 x6 x7 → G x1 x2 x3 x4 x5 x6 x7) : A := main tail
end Go.Proofs.YtmglgjchemecjaaGreat.Rw
/- The program's WarningsOf. -/
namespace Go.Proofs.YtmglgjchemecjaaGreat.CWarn
set_option maxRecDepth 200000
open Go.ChangeShapes Go.WideShapes Go.ChangeAt Go.RowKit Kit CCode CFixups CSymbols PObj BObj PValid CSecValid CUses CCovers CObjValid PWarn
end Go.Proofs.YtmglgjchemecjaaGreat.CWarn
