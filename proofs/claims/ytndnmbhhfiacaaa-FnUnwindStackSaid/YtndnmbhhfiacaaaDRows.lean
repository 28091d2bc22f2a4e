/- The draw of rows. -/
import Derived.Test.YtndnmbhhfiacaaaDVar
import Derived.Test.YtndnmbhhfiacaaaCRows
import Derived.Test.YtndnmbhhfiacaaaDCode
namespace Go.Proofs.Ytndnmbhhfiacaaa.DRows
set_option maxRecDepth 200000
open Go.ChangeShapes Go.WideShapes Go.ChangeAt Go.RowKit Kit CRows DPick DVar DCode
/-- A row as the draws make it: two numbers that are small. -/
def SmallR (z : CRows.D) : Prop := -1 ≤ z.1 ∧ z.1 ≤ 100000 ∧ -1 ≤ z.2 ∧ z.2 ≤ 100000
def DrewRows (w0 w : World) (B R : Nat) (N : Int) (e : Ending) (w' : World) : Prop := ∃ (A : Option Addr) (zs : List CRows.D) (c : Nat), e = .returned (.slice A zs.length c) ∧ zs.length ≤ 7 ∧ (∀ z ∈ zs, SmallR z) ∧ w'.ownsRow w.heap.size 31 2 (.slice A zs.length c) zs.length (cellsOf rowC zs) ∧ Tp w0 w' B R N
/-- A row's cells in a list of rows that the call owns. -/
theorem own_row_at {w : World} {base g c : Nat} {zs : List CRows.D} (h : w.ownsRow base 31 2 (.slice (some ⟨g, 0, none⟩) zs.length c) zs.length (cellsOf rowC zs)) {i : Nat} (hi : i < zs.length) :
    w.cell? ⟨g, i * 2, none⟩ = some (.int .i64 zs[i].1) ∧ w.cell? ⟨g, i * 2 + 1, none⟩ = some (.int .i64 zs[i].2) := by
  have e0 := h.cellAt (i * 2 + 0) (by omega)
  have e1 := h.cellAt (i * 2 + 1) (by omega)
  rw [cellsOf_at rowC_len zs i 0 hi (by omega)] at e0
  rw [cellsOf_at rowC_len zs i 1 hi (by omega)] at e1
  exact ⟨e0, e1⟩
/-- A list of the call's own that is not empty begins at the head of a block. -/
theorem own_form {w : World} {base n c : Nat} {e : TypeId} {size : Nat} {A : Option Addr} {xs : List Value} (h : w.ownsRow base e size (.slice A n c) n xs) (hn : n ≠ 0) : ∃ g, A = some ⟨g, 0, none⟩ := by
  rcases h.2 with ⟨hv, h0⟩ | ⟨g, cap, cur, hv, _⟩
  · exact absurd h0 hn
  · injection hv with hA
    exact ⟨g, hA⟩
theorem rows_any {w0 w : World} {B R : Nat} {N : Int} (T : Tp w0 w B R N) (hN : N ≤ 1000000) (hN0 : 0 ≤ N) (n : Int) (hn : 0 ≤ n) (hn' : n ≤ 1000) :
    Calls Try.prog 108 #[.pointer (some ⟨R, 0, none⟩), .int .i64 n] w (DrewRows w0 w B R (N + 50)) := by
  obtain ⟨i0, hi, hz0, hz1, hz2⟩ := info_parts CRows.info
  have hR := T.lt
  have hw0 := T.2.size
  have HO : Hid ((w.alloc (.cells #[] 31)).ownsRow w.heap.size 31 2 (.slice (some ⟨w.heap.size, 0, none⟩) 0 0) 0 []) := World.ownsRow_lit (base := w.heap.size) (e := 31) (size := 2) w #[] 0 (Nat.le_refl _) (Nat.zero_le _) rfl
  go_enter Try.func108, Try.ntmps108
  go_wp2_with fail
  refine (pick_tp (by first | with_reducible assumption | exact Tp.alloc (by with_reducible assumption) _ | exact Tp.alloc (Tp.alloc (by with_reducible assumption) _) _ | exact Tp.drewN (by with_reducible assumption) _ | exact Tp.drew (by with_reducible assumption) | exact Tp.drawn (by with_reducible assumption) | exact Tp.alloc (Tp.drewN (by with_reducible assumption) _) _ | exact Tp.alloc (Tp.drew (by with_reducible assumption)) _ | exact Tp.alloc (Tp.alloc (Tp.alloc (by with_reducible assumption) _) _) _) (by omega) _ (by omega) (by omega)).mono ?_
  rintro e w1 ⟨x, rfl, x0, x1, T1, g1⟩
  have HO1 := hide (own_pick HO.out g1 hR)
  have hs1 : w.heap.size ≤ w1.heap.size := by have h := g1.size; simp at h; omega
  clear T g1 HO
  go_wp2_with fail
  refine (pick_tp (by first | with_reducible assumption | exact Tp.alloc (by with_reducible assumption) _ | exact Tp.alloc (Tp.alloc (by with_reducible assumption) _) _ | exact Tp.drewN (by with_reducible assumption) _ | exact Tp.drew (by with_reducible assumption) | exact Tp.drawn (by with_reducible assumption) | exact Tp.alloc (Tp.drewN (by with_reducible assumption) _) _ | exact Tp.alloc (Tp.drew (by with_reducible assumption)) _ | exact Tp.alloc (Tp.alloc (Tp.alloc (by with_reducible assumption) _) _) _) (by omega) _ (by omega) (by omega)).mono ?_
  rintro e w2 ⟨y, rfl, y0, y1, T2, g2⟩
  have HO2 := hide (own_pick HO1.out g2 hR)
  have hs2 := Nat.le_trans hs1 g2.size
  have HT2 := hide T2
  obtain ⟨j, rfl⟩ := Int.eq_ofNat_of_zero_le y0
  clear T1 T2 g2 HO1
  go_wp2_with fail
  go_loopw [5, 6, 7] (fun o at_ k wr => ∃ (i : Nat) (a : Int) (A' : Option Addr) (l c' : Nat) (zs : List CRows.D), k = .int .i64 i ∧ at_ = .int .i64 a ∧ o = .slice A' l c' ∧ l = zs.length ∧ l + i ≤ 6 ∧ 0 ≤ a ∧ a + 300 * i ≤ 3000 ∧ (∀ z ∈ zs, SmallR z) ∧ wr.ownsRow w.heap.size 31 2 (.slice A' l c') l (cellsOf rowC zs) ∧ Tp w0 wr B R (N + 2 + 6 * (6 - i : Int)) ∧ w.heap.size ≤ wr.heap.size) (fun _ _ k _ => (intOf k).toNat)
  case atStart => exact ⟨j, x, _, 0, _, [], rfl, rfl, rfl, rfl, by omega, by omega, by omega, by simp, HO2.out, HT2.out.more (by omega), hs2⟩
  case round =>
    obtain ⟨i, a, A', l, c', zs, rfl, rfl, rfl, hl, hli, a0, a1, hzs, ho, T, hsz⟩ := hrel
    have HL := hide hl
    have HZ := hide hzs
    have HO := hide ho
    clear hl hzs ho HO2 HT2
    by_cases h0 : 0 < i
    · go_wp2_with fail
      refine (pick_tp (by first | with_reducible assumption | exact Tp.alloc (by with_reducible assumption) _ | exact Tp.alloc (Tp.alloc (by with_reducible assumption) _) _ | exact Tp.drewN (by with_reducible assumption) _ | exact Tp.drew (by with_reducible assumption) | exact Tp.drawn (by with_reducible assumption) | exact Tp.alloc (Tp.drewN (by with_reducible assumption) _) _ | exact Tp.alloc (Tp.drew (by with_reducible assumption)) _ | exact Tp.alloc (Tp.alloc (Tp.alloc (by with_reducible assumption) _) _) _) (by omega) _ (by omega) (by omega)).mono ?_
      rintro e w3 ⟨p, rfl, p0, p1, T3, g3⟩
      have HO3 := hide (own_pick HO.out g3 hR)
      have hs3 := Nat.le_trans hsz g3.size
      clear T g3 HO
      go_wp2_with fail
      refine (pick_tp (by first | with_reducible assumption | exact Tp.alloc (by with_reducible assumption) _ | exact Tp.alloc (Tp.alloc (by with_reducible assumption) _) _ | exact Tp.drewN (by with_reducible assumption) _ | exact Tp.drew (by with_reducible assumption) | exact Tp.drawn (by with_reducible assumption) | exact Tp.alloc (Tp.drewN (by with_reducible assumption) _) _ | exact Tp.alloc (Tp.drew (by with_reducible assumption)) _ | exact Tp.alloc (Tp.alloc (Tp.alloc (by with_reducible assumption) _) _) _) (by omega) _ (by omega) (by omega)).mono ?_
      rintro e w4 ⟨q, rfl, q0, q1, T4, g4⟩
      have HO4 := hide (own_pick HO3.out g4 hR)
      have hs4 := Nat.le_trans hs3 g4.size
      clear T3 g4 HO3
      go_wp2_with fail
      refine (pick_lit T4 (by omega) _ (by omega) (by omega) (by repeat (first | exact List.forall_mem_nil _ | refine List.forall_mem_cons.2 ⟨⟨_, rfl⟩, ?_⟩)) (by simp)).mono ?_
      rintro e w5 ⟨v, rfl, v0, v1, T5, g5, z, hm, hz⟩
      simp only [List.mem_cons, Value.int.injEq, true_and, List.not_mem_nil, or_false] at hm
      have hzb : 0 ≤ z ∧ z ≤ 10000 := by omega
      have HO5 := hide (own_pick (HO4.out.alloc _) g5 hR)
      have hs5 : w.heap.size ≤ w5.heap.size := by have h1 := g5.size; simp at h1; omega
      have HT5 := hide T5
      clear T4 g5 HO4 hm T5
      go_wp2_with (at_builtin; refine wpList_app1 w5 rfl (.tmp 17) (.tmp 31) 27 rfl w.heap.size 31 i0 (.agg #[.int .i64 0, .int .i64 0]) 2 16 Try.underlying27 hi hz0 hz1 hz2 rfl (by decide) _ rfl rfl ?o1 _ _ _ rfl HO5.out ?n1 ?n2 ?n3 ?_)
      case o1 => first | rfl | exact ⟨rfl, rfl⟩ | exact ⟨rfl, rfl, rfl⟩ | (intro u hu; simp only [List.mem_cons, List.not_mem_nil, or_false] at hu; rcases hu with rfl | rfl <;> rfl)
      case n1 => unfold maxLen; omega
      case n2 => omega
      case n3 => exact hs5
      intro A6 n6 c6 w6 hn6 o6 g6
      subst hn6
      have T6 := HT5.out.own g6 (fun k hk => ⟨Nat.le_trans hw0 (HO5.out.lt k hk).1, Nat.lt_of_lt_of_le hR (HO5.out.lt k hk).1⟩)
      have HO6 := hide o6
      have hs6 := Nat.le_trans hs5 g6.size
      clear o6 g6 HO5 HT5 hz
      go_wp2_with fail
      refine (pick_tp (by first | with_reducible assumption | exact Tp.alloc (by with_reducible assumption) _ | exact Tp.alloc (Tp.alloc (by with_reducible assumption) _) _ | exact Tp.drewN (by with_reducible assumption) _ | exact Tp.drew (by with_reducible assumption) | exact Tp.drawn (by with_reducible assumption) | exact Tp.alloc (Tp.drewN (by with_reducible assumption) _) _ | exact Tp.alloc (Tp.drew (by with_reducible assumption)) _ | exact Tp.alloc (Tp.alloc (Tp.alloc (by with_reducible assumption) _) _) _) (by omega) _ (by omega) (by omega)).mono ?_
      rintro e w7 ⟨p', rfl, p0', p1', T7, g7⟩
      have HO7 := hide (own_pick HO6.out g7 hR)
      have hs7 := Nat.le_trans hs6 g7.size
      clear T6 g7 HO6
      go_wp2_with fail
      refine (pick_tp (by first | with_reducible assumption | exact Tp.alloc (by with_reducible assumption) _ | exact Tp.alloc (Tp.alloc (by with_reducible assumption) _) _ | exact Tp.drewN (by with_reducible assumption) _ | exact Tp.drew (by with_reducible assumption) | exact Tp.drawn (by with_reducible assumption) | exact Tp.alloc (Tp.drewN (by with_reducible assumption) _) _ | exact Tp.alloc (Tp.drew (by with_reducible assumption)) _ | exact Tp.alloc (Tp.alloc (Tp.alloc (by with_reducible assumption) _) _) _) (by omega) _ (by omega) (by omega)).mono ?_
      rintro e w8 ⟨q', rfl, q0', q1', T8, g8⟩
      have HO8 := hide (own_pick HO7.out g8 hR)
      have hs8 := Nat.le_trans hs7 g8.size
      clear T7 g8 HO7
      go_wp2_with fail
      refine (pick_lit T8 (by omega) _ (by omega) (by omega) (by repeat (first | exact List.forall_mem_nil _ | refine List.forall_mem_cons.2 ⟨⟨_, rfl⟩, ?_⟩)) (by simp)).mono ?_
      rintro e w9 ⟨v', rfl, v0', v1', T9, g9, z', hm', hz'⟩
      simp only [List.mem_cons, Value.int.injEq, true_and, List.not_mem_nil, or_false] at hm'
      have hzb' : 0 ≤ z' ∧ z' ≤ 255 := by omega
      have HO9 := hide (own_pick (HO8.out.alloc _) g9 hR)
      have hs9 : w.heap.size ≤ w9.heap.size := by have h1 := g9.size; simp at h1; omega
      have HT9 := hide T9
      clear T8 g9 HO8 hm' T9
      go_wp2_with fail
      refine ⟨⟨i - 1, a + 1 + z', A6, l + 1, c6, zs ++ [(a, 1 + z)], by go_num, by go_num, rfl, by rw [HL.out]; simp, by omega, by omega, by omega, ?_, by simpa [cellsOf, rowC] using HO9.out, HT9.out.more (by omega), hs9⟩, by simp [intOf]; omega⟩
      intro b hb
      rcases List.mem_append.1 hb with hb | hb
      · exact HZ.out b hb
      · simp only [List.mem_singleton] at hb
        subst hb
        exact ⟨by dsimp only; omega, by dsimp only; omega, by dsimp only; omega, by dsimp only; omega⟩
    · have e : i = 0 := by omega
      subst e
      have hl := HL.out
      subst hl
      go_wp2_with fail
      refine (odd_tp (by first | with_reducible assumption | exact Tp.alloc (by with_reducible assumption) _ | exact Tp.alloc (Tp.alloc (by with_reducible assumption) _) _ | exact Tp.drewN (by with_reducible assumption) _ | exact Tp.drew (by with_reducible assumption) | exact Tp.drawn (by with_reducible assumption) | exact Tp.alloc (Tp.drewN (by with_reducible assumption) _) _ | exact Tp.alloc (Tp.drew (by with_reducible assumption)) _ | exact Tp.alloc (Tp.alloc (Tp.alloc (by with_reducible assumption) _) _) _) (by omega) _ (by omega) (by omega)).mono ?_
      rintro e w3 ⟨bo, rfl, T3, g3⟩
      have HO3 := hide (own_pick HO.out g3 hR)
      have hs3 := Nat.le_trans hsz g3.size
      clear T g3 HO
      cases bo
      · go_wp2_with fail
        go_ret
        exact ⟨A', zs, c', rfl, by omega, HZ.out, HO3.out, T3.more (by omega)⟩
      · go_wp2_with fail
        refine (pick_tp (by first | with_reducible assumption | exact Tp.alloc (by with_reducible assumption) _ | exact Tp.alloc (Tp.alloc (by with_reducible assumption) _) _ | exact Tp.drewN (by with_reducible assumption) _ | exact Tp.drew (by with_reducible assumption) | exact Tp.drawn (by with_reducible assumption) | exact Tp.alloc (Tp.drewN (by with_reducible assumption) _) _ | exact Tp.alloc (Tp.drew (by with_reducible assumption)) _ | exact Tp.alloc (Tp.alloc (Tp.alloc (by with_reducible assumption) _) _) _) (by omega) _ (by omega) (by omega)).mono ?_
        rintro e w4 ⟨v, rfl, v0, v1, T4, g4⟩
        obtain ⟨y, z, y0, y1, z0, z1, hy, hz⟩ := lit2_at (n := 4) g4 T3.lt v0 v1 rfl (-1) 100000 (by repeat (first | exact List.forall_mem_nil _ | refine List.forall_mem_cons.2 ⟨⟨_, rfl, by omega, by omega⟩, ?_⟩))
        have HO4 := hide (own_pick (HO3.out.alloc _) g4 hR)
        have hs4 : w.heap.size ≤ w4.heap.size := by have h1 := g4.size; simp at h1; omega
        have HT4 := hide T4
        clear T3 g4 HO3 T4
        go_wp2_with (at_builtin; refine wpList_app1 w4 rfl (.tmp 48) (.tmp 60) 27 rfl w.heap.size 31 i0 (.agg #[.int .i64 0, .int .i64 0]) 2 16 Try.underlying27 hi hz0 hz1 hz2 rfl (by decide) _ rfl rfl ?o1 _ _ _ rfl HO4.out ?n1 ?n2 ?n3 ?_)
        case o1 => first | rfl | exact ⟨rfl, rfl⟩ | exact ⟨rfl, rfl, rfl⟩ | (intro u hu; simp only [List.mem_cons, List.not_mem_nil, or_false] at hu; rcases hu with rfl | rfl <;> rfl)
        case n1 => unfold maxLen; omega
        case n2 => omega
        case n3 => exact hs4
        intro A6 n6 c6 w6 hn6 o6 g6
        subst hn6
        have T6 := HT4.out.own g6 (fun k hk => ⟨Nat.le_trans hw0 (HO4.out.lt k hk).1, Nat.lt_of_lt_of_le hR (HO4.out.lt k hk).1⟩)
        have HO6 := hide o6
        clear o6 g6 HO4 HT4 hy hz
        go_wp2_with fail
        go_ret
        refine ⟨A6, zs ++ [(y, z)], c6, by simp, by simp; omega, ?_, by simpa [cellsOf, rowC] using HO6.out, T6.more (by omega)⟩
        intro b hb
        rcases List.mem_append.1 hb with hb | hb
        · exact HZ.out b hb
        · simp only [List.mem_singleton] at hb
          subst hb
          exact ⟨y0, y1, z0, z1⟩
end Go.Proofs.Ytndnmbhhfiacaaa.DRows
