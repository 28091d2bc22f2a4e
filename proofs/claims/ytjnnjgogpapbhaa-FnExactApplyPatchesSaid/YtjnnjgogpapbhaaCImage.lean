/- Contracts of the laws' helpers on Image: the copy, the comparison of equal data, the size, the marks; of copyImage, l1OwnImage and ImageValid. -/
import Derived.Test.YtjnnjgogpapbhaaCBytes
import Derived.Test.YtjnnjgogpapbhaaCConcat
import Derived.Test.YtjnnjgogpapbhaaBGp
import Derived.Test.YtjnnjgogpapbhaaCCode
import Derived.Deep.RegionHeld3
import Derived.Deep.Cut
namespace Go.Proofs.Ytjnnjgogpapbhaa.CImage
set_option maxRecDepth 200000
open Go.ChangeShapes Go.WideShapes Go.ChangeAt Go.RowKit Kit CCode
def imageC (b : Int) (A : Option Addr) (n c : Nat) : Array Value := #[.int .i64 b, .slice A n c]
/-- A call that hands back an image whose bytes are its own. -/
def RetImage (b : Int) (zs : List Int) (w : World) (e : Ending) (w' : World) : Prop := ∃ A c, e = .returned (.agg #[.int .i64 b, .slice A zs.length c]) ∧ Row w' w.heap.size 5 1 A zs.length c (ints .u8 zs) ∧ Below w.heap.size w w'
theorem put2_box {w : World} {Y : Nat} {t : TypeId} {u0 u1 : Value} (h : Box w Y t #[u0, u1]) (a b : Value) : Box ((w.setCell ⟨Y, 0, none⟩ a).setCell ⟨Y, 1, none⟩ b) Y t #[a, b] := (h.set 0 a).set 1 b
theorem put2_row {w : World} {Y base : Nat} {e : TypeId} {size n cc : Nat} {A : Option Addr} {xs : List Value} {t : TypeId} {u : Array Value} (h : Row w base e size A n cc xs) (hb : Box w Y t u) (hne : e ≠ t) (a b : Value) : Row ((w.setCell ⟨Y, 0, none⟩ a).setCell ⟨Y, 1, none⟩ b) base e size A n cc xs :=
  (h.set (a := ⟨Y, 0, none⟩) (h.box hb hne) _).set (a := ⟨Y, 1, none⟩) (h.box hb hne) _
theorem put2_below {B : Nat} {a w : World} {Y : Nat} (h : Below B a w) (hY : B ≤ Y) (u v : Value) : Below B a ((w.setCell ⟨Y, 0, none⟩ u).setCell ⟨Y, 1, none⟩ v) :=
  (h.setCell (p := ⟨Y, 0, none⟩) hY u).setCell (p := ⟨Y, 1, none⟩) hY v
theorem ret_image {w w1 : World} {Y : Nat} {b : Int} {zs : List Int} {A : Option Addr} {n c : Nat} (hn : n = zs.length) (h : Row w1 w.heap.size 5 1 A n c (ints .u8 zs)) (B : Below w.heap.size w w1) (hY : Box w1 Y 35 #[.int .i64 0, .slice none 0 0]) (hYw : w.heap.size ≤ Y) :
    RetImage b zs w (.returned (.agg #[.int .i64 b, .slice A n c])) ((w1.setCell ⟨Y, 0, none⟩ (.int .i64 b)).setCell ⟨Y, 1, none⟩ (.slice A n c)) := by
  subst hn
  exact ⟨A, c, rfl, put2_row h hY (by decide) _ _, put2_below B hYw _ _⟩
theorem toImage_any (b : Int) (A : Option Addr) (zs : List Int) (c : Nat) (w : World) (hr : Rd w w.heap.size A (ints .u8 zs)) (hm : zs.length ≤ 1048576) :
    Calls Try.prog 14 #[.agg #[.int .i64 b, .slice A zs.length c]] w (RetImage b zs w) := by
  have HY := (Box.new (w.alloc (.cells #[.int .i64 b, .slice A zs.length c] 31)) 35 #[.int .i64 0, .slice none 0 0]).alloc (.cells #[.int .i64 b, .slice none 0 0] 35)
  have HZ := Box.new ((w.alloc (.cells #[.int .i64 b, .slice A zs.length c] 31)).alloc (.cells #[.int .i64 0, .slice none 0 0] 35)) 35 #[.int .i64 b, .slice none 0 0]
  have B0 : Below w.heap.size w (((w.alloc (.cells #[.int .i64 b, .slice A zs.length c] 31)).alloc (.cells #[.int .i64 0, .slice none 0 0] 35)).alloc (.cells #[.int .i64 b, .slice none 0 0] 35)) := (by repeat (first | exact Below.refl _ _ | with_reducible assumption | (refine Below.drew ?_) | (refine Below.drewN ?_ _) | (refine Below.alloc ?_ (by simp; try omega) _) | (refine Below.setCell ?_ (by simp; try omega) _)))
  simp only [World.size_alloc] at HY HZ
  have HR := hide ((hr.below B0).more B0.size)
  have HB := hide B0
  clear hr B0
  go_enter Try.func14, Try.ntmps14
  go_wp2_with fail
  generalize (((w.alloc (.cells #[.int .i64 b, .slice A zs.length c] 31)).alloc (.cells #[.int .i64 0, .slice none 0 0] 35)).alloc (.cells #[.int .i64 b, .slice none 0 0] 35)) = w0 at *
  refine (CBytes.toByteS_any A zs c w0 HR.out hm).mono ?_
  rintro e w1 ⟨A1, c1, rfl, o1, b1⟩
  have HY1 := hide (HY.call b1)
  have HZ1 := hide (HZ.call b1)
  have hne : w.heap.size + 1 ≠ w.heap.size + 1 + 1 := by omega
  have HB1 := hide (HB.out.trans (b1.mono HB.out.size))
  have HO := hide (own_base o1 HB.out.size)
  clear HY HZ o1 b1 HB HR
  have z0 := HZ1.out.cell 0
  have z1 := HZ1.out.cell 1
  have zf := HZ1.out.frozen 1
  have y0 := HY1.out.cell 0
  have y1 := HY1.out.cell 1
  have f0 := HY1.out.frozen 0
  have f1 := HY1.out.frozen 1
  simp only [List.getElem?_toArray, List.getElem?_cons_zero, List.getElem?_cons_succ] at z0 z1 y0 y1
  have Y2 := HY1.out.far (p := ⟨w.heap.size + 1 + 1, 1, none⟩) hne (.slice A1 zs.length c1)
  have Z2 := HZ1.out.set 1 (.slice A1 zs.length c1)
  have HF := hide (ret_image (w := w) (b := b) rfl (.inr (own_setFar HO.out (a := ⟨w.heap.size + 1 + 1, 1, none⟩) (own_box HO.out HZ1.out (by decide)) (.slice A1 zs.length c1))) (HB1.out.setCell (p := ⟨w.heap.size + 1 + 1, 1, none⟩) (by show w.heap.size ≤ w.heap.size + 1 + 1; omega) (.slice A1 zs.length c1)) Y2 (by omega))
  have k := put2_box Y2 (.int .i64 b) (.slice A1 zs.length c1)
  have k0 := k.cell 0
  have k1 := k.cell 1
  simp only [List.getElem?_toArray, List.getElem?_cons_zero, List.getElem?_cons_succ] at k0 k1
  clear Y2 Z2 k
  go_wp2_with fail
  exact bodyPost_ret (v := .agg #[.int .i64 b, .slice A1 zs.length c1]) (by simp [results, Try.results14, go_sem, k0, k1]) rfl HF.out
theorem eqImage_same (b : Int) (A A' : Option Addr) (zs : List Int) (c c' : Nat) (w : World) (h : Rd w w.heap.size A (ints .u8 zs)) (h' : Rd w w.heap.size A' (ints .u8 zs)) (hn : zs.length ≤ maxLen) :
    Calls Try.prog 17 #[.agg #[.int .i64 b, .slice A zs.length c], .agg #[.int .i64 b, .slice A' zs.length c']] w (Ret (.bool true) w) := by
  have B0 : Below w.heap.size w ((w.alloc (.cells #[.int .i64 b, .slice A zs.length c] 35)).alloc (.cells #[.int .i64 b, .slice A' zs.length c'] 35)) := (by repeat (first | exact Below.refl _ _ | with_reducible assumption | (refine Below.drew ?_) | (refine Below.drewN ?_ _) | (refine Below.alloc ?_ (by simp; try omega) _) | (refine Below.setCell ?_ (by simp; try omega) _)))
  have h0 : (b != b) = false := by simp
  go_enter Try.func17, Try.ntmps17
  go_wp2_with fail
  refine (CBytes.eqByteS_any A A' zs zs c c' _ _ ((h.below B0).more B0.size) ((h'.below B0).more B0.size) hn hn).mono ?_
  rintro e w1 ⟨rfl, n1, rfl⟩
  simp only [beq_self_eq_true]
  go_wp2_with fail
  go_ret
  exact ⟨rfl, Kit.Below.drewN B0 _⟩
def szI (left n : Int) : Int := if left - n < 0 then -1 else left - n
theorem szByteS_any (A : Option Addr) (n c : Nat) (left : Int) (w : World) (h0 : 0 ≤ left) (h1 : left ≤ 1048576) (hn : n ≤ maxLen) : Calls Try.prog 42 #[.slice A n c, .int .i64 left] w (Pure (.int .i64 (szI left n)) w) := by
  unfold maxLen at hn
  unfold szI
  by_cases h : left - n < 0
  · go_enter Try.func42, Try.ntmps42
    go_wp2
    go_ret
    exact ⟨ret_int (by first | rfl | (rw [if_pos (by omega)]) | (rw [if_neg (by omega)])), rfl⟩
  · go_enter Try.func42, Try.ntmps42
    go_wp2
    go_ret
    exact ⟨ret_int (by first | rfl | (rw [if_pos (by omega)]) | (rw [if_neg (by omega)])), rfl⟩
theorem szImage_any (b : Int) (A : Option Addr) (n c : Nat) (left : Int) (w : World) (h0 : 0 ≤ left) (h1 : left ≤ 1048576) (hn : n ≤ maxLen) :
    Calls Try.prog 11 #[.agg #[.int .i64 b, .slice A n c], .int .i64 left] w (Ret (.int .i64 (szI left n)) w) := by
  have B0 : Below w.heap.size w (w.alloc (.cells #[.int .i64 b, .slice A n c] 31)) := (by repeat (first | exact Below.refl _ _ | with_reducible assumption | (refine Below.drew ?_) | (refine Below.drewN ?_ _) | (refine Below.alloc ?_ (by simp; try omega) _) | (refine Below.setCell ?_ (by simp; try omega) _)))
  by_cases h : left - n < 0
  · have e1 : szI left n = -1 := by rw [szI, if_pos h]
    have E1 := hide e1
    go_enter Try.func11, Try.ntmps11
    go_wp2_with fail
    refine (szByteS_any A n c left _ h0 h1 hn).mono ?_
    rintro e w' ⟨rfl, rfl⟩
    rw [e1]
    go_wp2_with fail
    go_ret
    exact ⟨ret_int E1.out.symm, B0⟩
  · have e1 : szI left n = left - n := by rw [szI, if_neg h]
    have hm := hn
    unfold maxLen at hm
    have E1 := hide e1
    go_enter Try.func11, Try.ntmps11
    go_wp2_with fail
    refine (szByteS_any A n c left _ h0 h1 hn).mono ?_
    rintro e w' ⟨rfl, rfl⟩
    rw [e1]
    go_wp2_with fail
    go_ret
    exact ⟨ret_int E1.out.symm, B0⟩
theorem mark_none (A : Option Addr) (k0 : Int) (w : World) : Calls Try.prog 30 #[.slice A 0 0, .int .i64 k0] w (Pure (.int .i64 k0) w) := by
  go_enter Try.func30, Try.ntmps30
  go_wp2
  go_loop [1, 5] (fun k i => i = .int .i64 0 ∧ k = .int .i64 k0) (fun _ _ => 0)
  case atStart => exact ⟨rfl, rfl⟩
  case round =>
    obtain ⟨rfl, rfl⟩ := hrel
    go_wp2
    go_ret
    exact ⟨rfl, rfl⟩
theorem mark_row (base : Nat) (A : Option Addr) (c : Nat) (xs : List Int) (k0 : Int) (w : World) (h0 : 0 ≤ k0) (hk0 : k0 ≤ 4294967296) (hm : xs.length ≤ 4294967296) (h : Row w base 5 1 A xs.length c (ints .u8 xs)) :
    Calls Try.prog 30 #[.slice A xs.length c, .int .i64 k0] w fun e w' => e = .returned (.int .i64 (k0 + xs.length)) ∧ Row w' base 5 1 A xs.length c (ints .u8 (CBytes.marks k0 xs.length)) ∧ w.grownBy w' (blk A c) := by
  by_cases hc : c = 0
  · subst hc
    have hx : xs = [] := List.eq_nil_of_length_eq_zero (Nat.le_zero.1 h.cap.1)
    subst hx
    refine (mark_none A k0 w).mono ?_
    rintro e w' ⟨rfl, rfl⟩
    exact ⟨by simp, .inl ⟨rfl, rfl, rfl⟩, World.grownBy.refl w _⟩
  · have hown : w.ownsRow base 5 1 (.slice A xs.length c) xs.length (ints .u8 xs) := h.elim (fun h => absurd h.2.1 hc) id
    refine (CBytes.mark_any base A c xs k0 w h0 hk0 hm hown).mono ?_
    rintro e w' ⟨rfl, o, g⟩
    have hb : blk A c = (Value.slice A xs.length c).ownBlock := by
      unfold blk
      rw [if_neg hc]
      cases A <;> rfl
    exact ⟨rfl, .inr o, by rw [hb]; exact g⟩
theorem markImage_any (b : Int) (base : Nat) (A : Option Addr) (c : Nat) (xs : List Int) (k0 : Int) (w : World) (h0 : 0 ≤ k0) (hk0 : k0 ≤ 4294967296) (hm : xs.length ≤ 4294967296) (h : Row w base 5 1 A xs.length c (ints .u8 xs)) :
    Calls Try.prog 19 #[.agg #[.int .i64 b, .slice A xs.length c], .int .i64 k0] w fun e w' => e = .returned (.int .i64 (k0 + xs.length)) ∧ Row w' base 5 1 A xs.length c (ints .u8 (CBytes.marks k0 xs.length)) ∧ Gp (fun k => blk A c = some k) w w' := by
  have b0 : Below w.heap.size w (w.alloc (.cells #[.int .i64 b, .slice A xs.length c] 35)) := below_al (Below.refl _ _)
  have H0 := h.call b0
  have HB := hide (Gp.of_below (p := fun k => blk A c = some k) b0)
  clear h b0
  go_enter Try.func19, Try.ntmps19
  go_wp2_with fail
  refine (mark_row base A c xs k0 _ h0 hk0 hm H0).mono ?_
  rintro e w1 ⟨rfl, r1, g1⟩
  have HR := hide r1
  have HG := hide (HB.out.trans (Gp.of_grown g1 (fun k hk => hk)))
  clear r1 g1 H0 HB
  go_wp2_with fail
  go_ret
  exact ⟨rfl, HR.out, HG.out⟩
theorem heldImage_any (b : Int) (B : Nat) (A : Option Addr) (c n : Nat) (k0 : Int) (w : World) (h0 : 0 ≤ k0) (hk0 : k0 ≤ 4294967296) (hm : n ≤ 4294967296) (hr : Rd w B A (ints .u8 (CBytes.marks k0 n))) (hB : B ≤ w.heap.size) :
    Calls Try.prog 21 #[.agg #[.int .i64 b, .slice A n c], .int .i64 k0] w (Ret (.int .i64 (k0 + n)) w) := by
  have b0 : Below w.heap.size w (w.alloc (.cells #[.int .i64 b, .slice A n c] 35)) := below_al (Below.refl _ _)
  have HR := hide ((hr.more hB).below b0)
  have HB := hide b0
  clear hr b0
  go_enter Try.func21, Try.ntmps21
  go_wp2_with fail
  refine (CBytes.held_any _ A c n k0 _ h0 hk0 hm HR.out).mono ?_
  rintro e w1 ⟨rfl, rfl⟩
  go_wp2_with fail
  go_ret
  exact ⟨rfl, HB.out⟩
def imgOk (b : Int) (n : Nat) : Bool := decide (0 ≤ b ∧ b ≤ 4096) && decide (b % 8 = 0) && decide (n ≤ 2000)
theorem imageValidS_any (b : Int) (A : Option Addr) (n c : Nat) (w : World) (hn : n ≤ maxLen) : Calls Try.prog 70 #[.agg #[.int .i64 b, .slice A n c]] w (Ret (.bool (imgOk b n)) w) := by
  unfold maxLen at hn
  have HB := hide (show Below w.heap.size w (w.alloc (.cells #[.int .i64 b, .slice A n c] 35)) from (by repeat (first | exact Below.refl _ _ | with_reducible assumption | (refine Below.drew ?_) | (refine Below.drewN ?_ _) | (refine Below.alloc ?_ (by simp; try omega) _) | (refine Below.setCell ?_ (by simp; try omega) _))))
  cases h1 : inB b 0 4096
  · have HE := hide (show imgOk b n = false by unfold inB at h1; unfold imgOk; rw [h1]; rfl)
    go_enter Try.func70, Try.ntmps70
    go_wp2_with fail
    refine (l1In_any _ _ _ _).mono ?_
    rintro e w' ⟨rfl, rfl⟩
    rw [h1]
    go_wp2_with fail
    go_ret
    exact ⟨ret_bool HE.out.symm, HB.out⟩
  · have hb : 0 ≤ b ∧ b ≤ 4096 := by simpa [inB] using h1
    have HE := hide (show imgOk b n = (decide (b % 8 = 0) && decide (n ≤ 2000)) by unfold inB at h1; unfold imgOk; rw [h1]; rfl)
    have HI := hide h1
    clear h1
    by_cases h2 : b % 8 = 0
    · have h2' : (b % 8 == 0) = true := by simpa using h2
      go_enter Try.func70, Try.ntmps70
      go_wp2_with fail
      refine (l1In_any _ _ _ _).mono ?_
      rintro e w' ⟨rfl, rfl⟩
      rw [HI.out]
      go_wp2_with fail
      go_ret
      exact ⟨ret_bool (by rw [HE.out, decide_eq_true h2, Bool.true_and]; congr 1; simp; omega), HB.out⟩
    · have h2' : (b % 8 == 0) = false := by simpa using h2
      have HH := hide h2
      clear h2
      go_enter Try.func70, Try.ntmps70
      go_wp2_with fail
      refine (l1In_any _ _ _ _).mono ?_
      rintro e w' ⟨rfl, rfl⟩
      rw [HI.out]
      go_wp2_with fail
      go_ret
      exact ⟨ret_bool (by rw [HE.out, decide_eq_false HH.out, Bool.false_and]), HB.out⟩
theorem isBase_any (b : Int) (w : World) : Calls Try.prog 82 #[.int .i64 b] w (Pure (.bool (decide (0 ≤ b ∧ b ≤ 4096) && decide (b % 8 = 0))) w) := by
  cases h1 : inB b 0 4096
  · have HE := hide (show (decide (0 ≤ b ∧ b ≤ 4096) && decide (b % 8 = 0)) = false by unfold inB at h1; rw [h1]; rfl)
    generalize (decide (0 ≤ b ∧ b ≤ 4096) && decide (b % 8 = 0)) = v at *
    go_enter Try.func82, Try.ntmps82
    go_wp2_with fail
    refine (within_any _ _ _ _).mono ?_
    rintro e w' ⟨rfl, rfl⟩
    rw [h1]
    go_wp2_with fail
    go_ret
    exact ⟨ret_bool HE.out.symm, rfl⟩
  · have hb : 0 ≤ b ∧ b ≤ 4096 := by simpa [inB] using h1
    have HE := hide (show (decide (0 ≤ b ∧ b ≤ 4096) && decide (b % 8 = 0)) = decide (b % 8 = 0) by unfold inB at h1; rw [h1]; rfl)
    have HI := hide h1
    clear h1
    generalize (decide (0 ≤ b ∧ b ≤ 4096) && decide (b % 8 = 0)) = v at *
    by_cases h2 : b % 8 = 0
    · have h2' : (b % 8 == 0) = true := by simpa using h2
      go_enter Try.func82, Try.ntmps82
      go_wp2_with fail
      refine (within_any _ _ _ _).mono ?_
      rintro e w' ⟨rfl, rfl⟩
      rw [HI.out]
      go_wp2_with fail
      go_ret
      exact ⟨ret_bool (by rw [HE.out, decide_eq_true h2]), rfl⟩
    · have h2' : (b % 8 == 0) = false := by simpa using h2
      have HH := hide h2
      clear h2
      go_enter Try.func82, Try.ntmps82
      go_wp2_with fail
      refine (within_any _ _ _ _).mono ?_
      rintro e w' ⟨rfl, rfl⟩
      rw [HI.out]
      go_wp2_with fail
      go_ret
      exact ⟨ret_bool (by rw [HE.out, decide_eq_false HH.out]), rfl⟩
theorem imageValid_any (b : Int) (A : Option Addr) (n c : Nat) (w : World) (hn : n ≤ maxLen) : Calls Try.prog 71 #[.agg #[.int .i64 b, .slice A n c]] w (Ret (.bool (imgOk b n)) w) := by
  unfold maxLen at hn
  have HB := hide (show Below w.heap.size w (w.alloc (.cells #[.int .i64 b, .slice A n c] 35)) from (by repeat (first | exact Below.refl _ _ | with_reducible assumption | (refine Below.drew ?_) | (refine Below.drewN ?_ _) | (refine Below.alloc ?_ (by simp; try omega) _) | (refine Below.setCell ?_ (by simp; try omega) _))))
  unfold imgOk
  have HV := hide (fun W => isBase_any b W)
  generalize (decide (0 ≤ b ∧ b ≤ 4096) && decide (b % 8 = 0)) = v at *
  go_enter Try.func71, Try.ntmps71
  go_wp2_with fail
  refine (HV.out _).mono ?_
  rintro e w' ⟨rfl, rfl⟩
  cases v
  · go_wp2_with fail
    go_ret
    exact ⟨ret_bool (by simp), HB.out⟩
  · go_wp2_with fail
    go_ret
    exact ⟨ret_bool (by rw [Bool.true_and]; congr 1; simp; omega), HB.out⟩
theorem l1OwnImage_any (b : Int) (A : Option Addr) (zs : List Int) (c : Nat) (w : World) (hr : Rd w w.heap.size A (ints .u8 zs)) (hm : zs.length ≤ 1048576) (hnil : A = none → c = 0) :
    Calls Try.prog 44 #[.agg #[.int .i64 b, .slice A zs.length c]] w (RetImage b zs w) := by
  obtain ⟨i0, hi, hz0, hz1, hz2⟩ := info_parts CBytes8.info8
  have HY := (Box.new (w.alloc (.cells #[.int .i64 b, .slice A zs.length c] 35)) 35 #[.int .i64 0, .slice none 0 0]).alloc (.cells #[.int .i64 b, .slice A zs.length c] 35)
  have HZ := Box.new ((w.alloc (.cells #[.int .i64 b, .slice A zs.length c] 35)).alloc (.cells #[.int .i64 0, .slice none 0 0] 35)) 35 #[.int .i64 b, .slice A zs.length c]
  have B0 : Below w.heap.size w (((w.alloc (.cells #[.int .i64 b, .slice A zs.length c] 35)).alloc (.cells #[.int .i64 0, .slice none 0 0] 35)).alloc (.cells #[.int .i64 b, .slice A zs.length c] 35)) := (by repeat (first | exact Below.refl _ _ | with_reducible assumption | (refine Below.drew ?_) | (refine Below.drewN ?_ _) | (refine Below.alloc ?_ (by simp; try omega) _) | (refine Below.setCell ?_ (by simp; try omega) _)))
  simp only [World.size_alloc] at HY HZ
  have HR := hide ((hr.below B0).more B0.size)
  have HB := hide B0
  have hn1 : 0 + zs.length ≤ maxLen := by unfold maxLen; omega
  have hn2 : (0 + zs.length) * 1 ≤ 140737488355328 := by omega
  have HN := hide (And.intro hn1 (And.intro hn2 hnil))
  clear hr B0 hn1 hn2 hnil
  have HX := ((Box.new w 35 #[.int .i64 b, .slice A zs.length c]).alloc (.cells #[.int .i64 0, .slice none 0 0] 35)).alloc (.cells #[.int .i64 b, .slice A zs.length c] 35)
  go_enter Try.func44, Try.ntmps44
  go_upto_region 2 with (fail)
  generalize (((w.alloc (.cells #[.int .i64 b, .slice A zs.length c] 35)).alloc (.cells #[.int .i64 0, .slice none 0 0] 35)).alloc (.cells #[.int .i64 b, .slice A zs.length c] 35)) = w0 at *
  have q1 := HX.cell 1
  have hx := HX.lt
  simp only [List.getElem?_toArray, List.getElem?_cons_zero, List.getElem?_cons_succ] at q1
  have HYZ := hide (And.intro HY HZ)
  clear HX HY HZ
  go_wp2_with (at_builtin; refine wpList_app (w0.alloc (.cells #[] 5)) rfl (.tmp 5) (.tmp 7) 22 rfl 5 i0 (.int .u8 0) 1 1 Try.underlying22 hi hz0 hz1 hz2 rfl (by decide) w.heap.size _ 0 0 [] rfl (Row.empty _ _ _ _ _) ?hb A zs.length c (ints .u8 zs) rfl (HR.out.below (below_al (Below.refl _ _))) (by simp) HN.out.2.2 oneI HN.out.1 HN.out.2.1 ?_)
  case hb => exact Nat.le_trans HB.out.size (by simp)
  intro A1 n1 c1 w1 hn1 o1 g1 k1
  have b1 : Below w0.heap.size w0 w1 := below_tr (below_al (Below.refl _ _)) g1
  have HY1 := hide (HYZ.out.1.call b1)
  have HZ1 := hide (HYZ.out.2.call b1)
  have hne : w.heap.size + 1 ≠ w.heap.size + 1 + 1 := by omega
  have HB1 := hide (HB.out.trans (b1.mono HB.out.size))
  have HO := hide (show Row w1 w.heap.size 5 1 A1 n1 c1 (ints .u8 zs) by simpa using o1)
  have HN1 := hide (show n1 = zs.length by omega)
  clear o1 b1 HB HR g1 k1 hn1 q1 hx
  obtain rfl := HN1.out
  have z0 := HZ1.out.cell 0
  have z1 := HZ1.out.cell 1
  have zf := HZ1.out.frozen 1
  have y0 := HY1.out.cell 0
  have y1 := HY1.out.cell 1
  have f0 := HY1.out.frozen 0
  have f1 := HY1.out.frozen 1
  simp only [List.getElem?_toArray, List.getElem?_cons_zero, List.getElem?_cons_succ] at z0 z1 y0 y1
  have Y2 := HY1.out.far (p := ⟨w.heap.size + 1 + 1, 1, none⟩) hne (.slice A1 zs.length c1)
  have HF := hide (ret_image (w := w) (b := b) rfl (HO.out.set (a := ⟨w.heap.size + 1 + 1, 1, none⟩) (HO.out.box HZ1.out (by decide)) (.slice A1 zs.length c1)) (HB1.out.setCell (p := ⟨w.heap.size + 1 + 1, 1, none⟩) (by show w.heap.size ≤ w.heap.size + 1 + 1; omega) (.slice A1 zs.length c1)) Y2 (by omega))
  have k := put2_box Y2 (.int .i64 b) (.slice A1 zs.length c1)
  have k0 := k.cell 0
  have k1 := k.cell 1
  simp only [List.getElem?_toArray, List.getElem?_cons_zero, List.getElem?_cons_succ] at k0 k1
  clear Y2 k
  go_wp2_with fail
  exact bodyPost_ret (v := .agg #[.int .i64 b, .slice A1 zs.length c1]) (by simp [results, Try.results44, go_sem, k0, k1]) rfl HF.out
def two (w : World) (a : Nat) (u0 u1 : Value) : Prop := w.cell? ⟨a, 0, none⟩ = some u0 ∧ w.cell? ⟨a, 1, none⟩ = some u1
theorem two_below {w w' : World} {a : Nat} {u0 u1 : Value} (hb : Below w.heap.size w w') (ha : a < w.heap.size) (h : w.cell? ⟨a, 0, none⟩ = some u0 ∧ w.cell? ⟨a, 1, none⟩ = some u1) : w'.cell? ⟨a, 0, none⟩ = some u0 ∧ w'.cell? ⟨a, 1, none⟩ = some u1 := ⟨(hb.cell ha).trans h.1, (hb.cell ha).trans h.2⟩
theorem two_far {w : World} {X Y : Nat} {u0 u1 : Value} (hne : X ≠ Y) (a b : Value) (h : w.cell? ⟨X, 0, none⟩ = some u0 ∧ w.cell? ⟨X, 1, none⟩ = some u1) : ((w.setCell ⟨Y, 0, none⟩ a).setCell ⟨Y, 1, none⟩ b).cell? ⟨X, 0, none⟩ = some u0 ∧ ((w.setCell ⟨Y, 0, none⟩ a).setCell ⟨Y, 1, none⟩ b).cell? ⟨X, 1, none⟩ = some u1 := by
  have k : ∀ o, ((w.setCell ⟨Y, 0, none⟩ a).setCell ⟨Y, 1, none⟩ b).cell? ⟨X, o, none⟩ = w.cell? ⟨X, o, none⟩ := fun o =>
    World.cell?_of_block ((Below.heap_setCell _ ⟨Y, 1, none⟩ b X hne).trans (Below.heap_setCell _ ⟨Y, 0, none⟩ a X hne))
  rw [k, k]
  exact h
theorem copyImage_any (b : Int) (A : Option Addr) (zs : List Int) (c : Nat) (w : World) (hr : Rd w w.heap.size A (ints .u8 zs)) (hm : zs.length ≤ 1048576) (hnil : A = none → c = 0) :
    Calls Try.prog 49 #[.agg #[.int .i64 b, .slice A zs.length c]] w (RetImage b zs w) := by
  have a1 := (Box.new w 35 #[.int .i64 b, .slice A zs.length c]).alloc (.cells #[.int .i64 0, .slice none 0 0] 35)
  have a2 := Box.new (w.alloc (.cells #[.int .i64 b, .slice A zs.length c] 35)) 35 #[.int .i64 0, .slice none 0 0]
  have B0 : Below w.heap.size w ((w.alloc (.cells #[.int .i64 b, .slice A zs.length c] 35)).alloc (.cells #[.int .i64 0, .slice none 0 0] 35)) := (by repeat (first | exact Below.refl _ _ | with_reducible assumption | (refine Below.drew ?_) | (refine Below.drewN ?_ _) | (refine Below.alloc ?_ (by simp; try omega) _) | (refine Below.setCell ?_ (by simp; try omega) _)))
  simp only [World.size_alloc] at a2
  have HR := hide ((hr.below B0).more B0.size)
  have HB := hide B0
  have HN := hide hnil
  clear hr hnil B0
  go_enter Try.func49, Try.ntmps49
  go_wp2_with fail
  generalize ((w.alloc (.cells #[.int .i64 b, .slice A zs.length c] 35)).alloc (.cells #[.int .i64 0, .slice none 0 0] 35)) = w0 at *
  have HA := hide (And.intro a1 a2)
  have q0 := a1.cell 0
  have q1 := a1.cell 1
  simp only [List.getElem?_toArray, List.getElem?_cons_zero, List.getElem?_cons_succ] at q0 q1
  have Z0 : w0.cell? ⟨w.heap.size, 0, none⟩ = some (.int .i64 b) ∧ w0.cell? ⟨w.heap.size, 1, none⟩ = some (.slice A zs.length c) := ⟨q0, q1⟩
  clear a1 a2 q0 q1
  have l0 : w.heap.size < w0.heap.size := HA.out.1.lt
  go_region_held3 (fun (W : World) => W.cell? ⟨w.heap.size, 0, none⟩ = some (.int .i64 b) ∧ W.cell? ⟨w.heap.size, 1, none⟩ = some (.slice A zs.length c)) (first | exact Z0 | exact Z1 | exact Z2) (first | (go_at_call 72; refine (CConcat.clone_any A zs c w0.heap.size _ (by exact HR.out) (by exact Nat.le_refl _) hm HN.out).mono ?_; rintro e w1 ⟨A1, c1, rfl, o1, b1⟩; have HO1 := hide o1; have HB1 := hide (below_drawn b1); have Z1 := two_below HB1.out l0 Z0; have HY1 := hide (HA.out.2.call HB1.out); have y0 := HY1.out.cell 0; have y1 := HY1.out.cell 1; have f0 := HY1.out.frozen 0; have f1 := HY1.out.frozen 1; simp only [List.getElem?_toArray, List.getElem?_cons_zero, List.getElem?_cons_succ] at y0 y1; have Z2 := two_far (Y := w.heap.size + 1) (Nat.ne_of_lt (Nat.lt_succ_self _)) (.int .i64 b) (.slice A1 zs.length c1) Z1; clear o1 b1))
  have k := put2_box HY1.out (.int .i64 b) (.slice A1 zs.length c1)
  have k0 := k.cell 0
  have k1 := k.cell 1
  simp only [List.getElem?_toArray, List.getElem?_cons_zero, List.getElem?_cons_succ] at k0 k1
  have HF := hide (ret_image (w := w) (b := b) rfl (.inr (own_base HO1.out (show w.heap.size ≤ w0.heap.size from HB.out.size))) (HB.out.trans (HB1.out.mono HB.out.size)) HY1.out (Nat.le_succ _))
  clear k
  try simp only [List.getElem_toArray, List.getElem_cons_succ, List.getElem_cons_zero, Act.put, List.setIfInBounds_toArray, List.set_cons_zero, List.set_cons_succ]
  go_wp2_with fail
  exact bodyPost_ret (v := .agg #[.int .i64 b, .slice A1 zs.length c1]) (by simp [results, Try.results49, go_sem, k0, k1]) rfl HF.out
end Go.Proofs.Ytjnnjgogpapbhaa.CImage
