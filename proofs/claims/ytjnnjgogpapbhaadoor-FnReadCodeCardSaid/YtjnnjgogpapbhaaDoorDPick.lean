/- Contracts of the reference's reader of drawn bytes: it turns its own block alone, and its numbers are in range. -/
import Derived.Test.YtjnnjgogpapbhaaDoorBase3
import Derived.Test.YtjnnjgogpapbhaaDoorRows
import Derived.Deep.QuietTactic
import Derived.BigQuiet
import Derived.StillTailTactics
namespace Go.Proofs.YtjnnjgogpapbhaaDoor.DPick
set_option maxRecDepth 200000
open Go.ChangeShapes Go.WideShapes Go.ChangeAt Go.RowKit Kit
/-- The reader: its block R holds bytes that lie below block B, and a place of at most N. -/
def Tape (w : World) (B R : Nat) (N : Int) : Prop :=
  B ≤ R ∧ ∃ (A : Option Addr) (zs : List Int) (c : Nat) (p : Int), Box w R 76 #[.slice A zs.length c, .int .i64 p] ∧ Rd w B A (ints .u8 zs) ∧ InR 0 255 zs ∧ zs.length ≤ 2000 ∧ 0 ≤ p ∧ p ≤ N
section
variable {w w' : World} {B R : Nat} {N : Int}
theorem Tape.lt (h : Tape w B R N) : R < w.heap.size := by
  obtain ⟨_, A, zs, c, p, hb, _⟩ := h
  exact hb.lt
theorem Tape.more (h : Tape w B R N) {N' : Int} (hN : N ≤ N') : Tape w B R N' := by
  obtain ⟨h0, A, zs, c, p, hb, hr, hz, hl, p0, p1⟩ := h
  exact ⟨h0, A, zs, c, p, hb, hr, hz, hl, p0, by omega⟩
theorem Tape.below (h : Tape w B R N) (hb : Below (R + 1) w w') : Tape w' B R N := by
  obtain ⟨h0, A, zs, c, p, hx, hr, hz, hl, p0, p1⟩ := h
  exact ⟨h0, A, zs, c, p, hx.below hb (by omega), hr.below (hb.mono (by omega)), hz, hl, p0, p1⟩
theorem Tape.call (h : Tape w B R N) (hb : Below w.heap.size w w') : Tape w' B R N := h.below (hb.mono h.lt)
end
theorem xor_i64 (a b : Nat) (ha : a < 9223372036854775808) (hb : b < 9223372036854775808) : bits .xor .i64 (a : Int) (b : Int) = ((a ^^^ b : Nat) : Int) ∧ a ^^^ b < 9223372036854775808 := by
  have hx : a ^^^ b < 2 ^ 63 := Nat.xor_lt_two_pow (by omega) (by omega)
  refine ⟨?_, by omega⟩
  show IntKind.i64.wrap ((BitVec.ofInt 64 (a : Int) ^^^ BitVec.ofInt 64 (b : Int)).toNat : Int) = _
  rw [BitVec.toNat_xor, ofInt_i64 a ha, ofInt_i64 b hb, IntKind.wrap_i64]
  omega
def Picked (w : World) (B R : Nat) (N : Int) (n : Int) (e : Ending) (w' : World) : Prop := ∃ x : Int, e = .returned (.int .i64 x) ∧ 0 ≤ x ∧ x < n ∧ Tape w' B R (N + 1) ∧ w.grownBy w' (some R)
theorem pick_any {w : World} {B R : Nat} {N : Int} (hT : Tape w B R N) (hN : N ≤ 1099511627776) (n : Int) (hn : 1 ≤ n) (hn' : n ≤ 1099511627776) :
    Calls Tryd.prog 42 #[.pointer (some ⟨R, 0, none⟩), .int .i64 n] w (Picked w B R N n) := by
  obtain ⟨h0, A, zs, c, p, hx, hr, hz, hl, p0, p1⟩ := hT
  have q0 := hx.cell 0
  have q1 := hx.cell 1
  have f0 := hx.frozen 0
  have f1 := hx.frozen 1
  simp only [List.getElem?_toArray, List.getElem?_cons_zero, List.getElem?_cons_succ] at q0 q1
  have HX := hide hx
  clear hx
  have HR := hide hr
  have HZ := hide hz
  clear hr hz
  have hfin : ∀ (x : Int) (w' : World), 0 ≤ x → x < n → w'.heap = (w.setCell ⟨R, 1, none⟩ (.int .i64 (p + 1))).heap → w'.os = w.os → w'.tape = w.tape → w'.output = w.output → Picked w B R N n (.returned (.int .i64 x)) w' := by
    intro x w' x0 x1 hh ho ht hu
    have hk : ∀ k, k ≠ R → w'.heap[k]? = w.heap[k]? := fun k hk => by rw [hh]; exact Below.heap_setCell w ⟨R, 1, none⟩ _ k hk
    refine ⟨x, rfl, x0, x1, ⟨h0, A, zs, c, p + 1, ?_, HR.out.keep (fun a ha => World.cell?_of_block (hk _ (by omega))), HZ.out, hl, by omega, by omega⟩, ho, ht, hu, by rw [hh]; simp [World.setCell], fun k _ hne => hk k (fun e => hne (by rw [e]))⟩
    have := HX.out.set 1 (.int .i64 (p + 1))
    unfold Box at this ⊢
    rw [hh]
    exact this
  have HF := hide hfin
  clear hfin
  have hd : decide (n < 1) = false := by simp; omega
  by_cases hz0 : zs.length = 0
  · go_enter Tryd.func42, Tryd.ntmps42
    go_wp2_with fail
    all_goals (go_ret; exact HF.out 0 _ (by omega) (by omega) rfl rfl rfl rfl)
  · by_cases hk : p < zs.length
    · obtain ⟨k, rfl⟩ := Int.eq_ofNat_of_zero_le p0
      obtain ⟨b, off, rfl, hbb, hc⟩ := HR.out.int (i := k) (by omega)
      obtain ⟨x0, x1⟩ := HZ.out.at_ (i := k) (by omega)
      generalize zs[k] = x at *
      have hbR : b ≠ R := by omega
      go_enter Tryd.func42, Tryd.ntmps42
      go_wp2_with fail
      all_goals (go_ret; exact HF.out (x % n) _ (Int.emod_nonneg _ (by omega)) (Int.emod_lt_of_pos _ (by omega)) rfl rfl rfl rfl)
    · obtain ⟨i1, e1⟩ := Int.eq_ofNat_of_zero_le (Int.emod_nonneg p (show (zs.length : Int) ≠ 0 by omega))
      obtain ⟨i2, e2⟩ := Int.eq_ofNat_of_zero_le (Int.emod_nonneg (p * 7 + 3) (show (zs.length : Int) ≠ 0 by omega))
      have l1 := Int.emod_lt_of_pos p (show 0 < (zs.length : Int) by omega)
      have l2 := Int.emod_lt_of_pos (p * 7 + 3) (show 0 < (zs.length : Int) by omega)
      rw [e1] at l1
      rw [e2] at l2
      have d0 : 0 ≤ p / (zs.length : Int) := Int.ediv_nonneg p0 (by omega)
      have d1 : p / (zs.length : Int) ≤ p := Int.ediv_le_self _ p0
      generalize hdv : p / (zs.length : Int) = dv at *
      obtain ⟨b, off, rfl, hbb, hc1⟩ := HR.out.int (i := i1) (by omega)
      obtain ⟨b', off', e', _, hc2⟩ := HR.out.int (i := i2) (by omega)
      simp only [Option.some.injEq, Addr.mk.injEq, and_true] at e'
      obtain ⟨rfl, rfl⟩ := e'
      obtain ⟨x0, x1⟩ := HZ.out.at_ (i := i1) (by omega)
      obtain ⟨y0, y1⟩ := HZ.out.at_ (i := i2) (by omega)
      generalize zs[i1] = x at *
      generalize zs[i2] = y at *
      have hbR : b ≠ R := by omega
      go_enter Tryd.func42, Tryd.ntmps42
      go_wp2_with fail
      go_quiet (fail)
      obtain ⟨X, hX⟩ := Int.eq_ofNat_of_zero_le (show 0 ≤ x * 131 + y * 1117 + p * 29 + dv * 53 by omega)
      have hXb : (X : Int) ≤ 1125899906842624 := by omega
      rw [hX]
      obtain ⟨M, hM⟩ : ∃ M : Nat, X ^^^ (X / 64) = M := ⟨_, rfl⟩
      obtain ⟨hx1, hx2⟩ := xor_i64 X (X / 64) (by omega) (by omega)
      rw [hM] at hx1 hx2
      have hx1 : bits .xor .i64 (X : Int) ((X : Int) / 64) = (M : Int) := hx1
      have hMb : (M : Int) ≤ 9223372036854775807 := by omega
      clear hX hM hx2 e1 e2 l1 l2 hdv d0 d1 hc1 hc2 hk
      go_wp2_with fail
      all_goals (go_ret; exact HF.out _ _ (Int.emod_nonneg _ (by omega)) (Int.emod_lt_of_pos _ (by omega)) rfl rfl rfl rfl)
theorem odd_any {w : World} {B R : Nat} {N : Int} (hT : Tape w B R N) (hN : N ≤ 1099511627776) (n : Int) (hn : 0 ≤ n) (hn' : n ≤ 1099511627776) :
    Calls Tryd.prog 46 #[.pointer (some ⟨R, 0, none⟩), .int .i64 n] w fun e w' => ∃ b : Bool, e = .returned (.bool b) ∧ Tape w' B R (N + 1) ∧ w.grownBy w' (some R) := by
  by_cases h0 : n = 0
  · subst h0
    go_enter Tryd.func46, Tryd.ntmps46
    go_wp2_with fail
    go_ret
    exact ⟨false, rfl, hT.more (by omega), grown_refl _ _⟩
  · have h1 : 0 < n := by omega
    go_enter Tryd.func46, Tryd.ntmps46
    go_wp2_with fail
    refine (pick_any hT hN n (by omega) hn').mono ?_
    rintro e w1 ⟨x, rfl, x0, x1, T1, g1⟩
    have HT := hide (And.intro T1 g1)
    clear T1 g1 hT
    go_wp2_with fail
    go_ret
    exact ⟨_, rfl, HT.out.1, HT.out.2⟩
/-- What a draw's opening hands back: a new reader. -/
theorem open_any (A : Option Addr) (zs : List Int) (c : Nat) (w : World) (hr : Rd w w.heap.size A (ints .u8 zs)) (hz : InR 0 255 zs) (hc : zs.length ≤ c) (hcm : c ≤ maxLen) :
    Calls Tryd.prog 40 #[.slice A zs.length c] w fun e w' => ∃ R, e = .returned (.pointer (some ⟨R, 0, none⟩)) ∧ Tape w' w.heap.size R 0 ∧ Below w.heap.size w w' := by
  unfold maxLen at hcm
  by_cases h : 2000 < zs.length
  · obtain ⟨b, off, rfl, _, _⟩ := hr.int (i := 0) (by omega)
    obtain ⟨hr', hl'⟩ := hr.slice 0 2000 (by omega)
    simp only [Nat.add_zero, List.drop_zero] at hr' hl'
    have HH := hide (And.intro hr' hl')
    have HZ := hide (show InR 0 255 (zs.take 2000) from fun x hx => hz x (List.mem_of_mem_take hx))
    clear hr hr' hl' hz
    go_enter Tryd.func40, Tryd.ntmps40
    go_wp2_with fail
    go_ret
    have hlen : (zs.take 2000).length = 2000 := by rw [List.length_take]; omega
    have hbx := Box.new w 76 #[.slice (some ⟨b, off, none⟩) 2000 c, .int .i64 0]
    have hbl : Below w.heap.size w (w.alloc (.cells #[.slice (some ⟨b, off, none⟩) 2000 c, .int .i64 0] 76)) := (by repeat (first | exact Below.refl _ _ | with_reducible assumption | (refine Below.drew ?_) | (refine Below.drewN ?_ _) | (refine Below.alloc ?_ (by simp; try omega) _) | (refine Below.setCell ?_ (by simp; try omega) _)))
    exact ⟨w.heap.size, rfl, ⟨Nat.le_refl _, _, zs.take 2000, c, 0, by rw [hlen]; exact hbx, HH.out.1.below hbl, HZ.out, by omega, by omega, by omega⟩, hbl⟩
  · have HR := hide hr
    have HZ := hide hz
    clear hr hz
    go_enter Tryd.func40, Tryd.ntmps40
    go_wp2_with fail
    go_ret
    have hbl : Below w.heap.size w (w.alloc (.cells #[.slice A zs.length c, .int .i64 0] 76)) := (by repeat (first | exact Below.refl _ _ | with_reducible assumption | (refine Below.drew ?_) | (refine Below.drewN ?_ _) | (refine Below.alloc ?_ (by simp; try omega) _) | (refine Below.setCell ?_ (by simp; try omega) _)))
    exact ⟨w.heap.size, rfl, ⟨Nat.le_refl _, _, zs, c, 0, Box.new _ _ _, HR.out.below hbl, HZ.out, by omega, by omega, by omega⟩, hbl⟩
end Go.Proofs.YtjnnjgogpapbhaaDoor.DPick
