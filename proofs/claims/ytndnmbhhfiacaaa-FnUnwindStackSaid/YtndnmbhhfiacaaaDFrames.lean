/- The draw of frames. -/
import Derived.Test.YtndnmbhhfiacaaaDVar
import Derived.Test.YtndnmbhhfiacaaaCFrames
import Derived.Test.YtndnmbhhfiacaaaDCode
import Derived.Deep.RegionLaw
import Derived.Deep.RegionWith
import Derived.IntWalk
namespace Go.Proofs.Ytndnmbhhfiacaaa.DFrames
set_option maxRecDepth 200000
open Go.ChangeShapes Go.WideShapes Go.ChangeAt Go.RowKit Kit CFrames DPick DVar DCode
/-- A frame as the draws make it: its numbers are small. -/
def SmallF (z : CFrames.D) : Prop := -1 ≤ z.1 ∧ z.1 ≤ 100000 ∧ -1 ≤ z.2.1 ∧ z.2.1 ≤ 100000 ∧ -1 ≤ z.2.2 ∧ z.2.2 ≤ 100000
def DrewFrames (w0 w : World) (B R : Nat) (N : Int) (e : Ending) (w' : World) : Prop := ∃ (A : Option Addr) (zs : List CFrames.D) (c : Nat), e = .returned (.slice A zs.length c) ∧ zs.length ≤ 7 ∧ (∀ z ∈ zs, SmallF z) ∧ w'.ownsRow w.heap.size 36 3 (.slice A zs.length c) zs.length (cellsOf frameC zs) ∧ Tp w0 w' B R N
/-- A struct of three ints out of a literal that was laid just before a number was drawn. -/
theorem lit3_at {w1 w2 : World} {cs : Array Value} {t : TypeId} {R n : Nat} (g : (w1.alloc (.cells cs t)).grownBy w2 (some R)) (hR : R < w1.heap.size) {i : Int} (h0 : 0 ≤ i) (h1 : i < n) (hn : cs.size = n * 3) (lo hi : Int) (hb : ∀ v ∈ cs.toList, ∃ z, v = Value.int .i64 z ∧ lo ≤ z ∧ z ≤ hi) :
    ∃ x y z, lo ≤ x ∧ x ≤ hi ∧ lo ≤ y ∧ y ≤ hi ∧ lo ≤ z ∧ z ≤ hi ∧ w2.cell? ⟨w1.heap.size, i.toNat * 3, none⟩ = some (.int .i64 x) ∧ w2.cell? ⟨w1.heap.size, i.toNat * 3 + 1, none⟩ = some (.int .i64 y) ∧ w2.cell? ⟨w1.heap.size, i.toNat * 3 + 2, none⟩ = some (.int .i64 z) := by
  have hx : Box w2 w1.heap.size t cs := (Box.new w1 t cs).grown g (fun k hk => by injection hk with hk; omega)
  obtain ⟨x, hx', x0, x1⟩ := hb (cs[i.toNat * 3]'(by omega)) (by simp)
  obtain ⟨y, hy, y0, y1⟩ := hb (cs[i.toNat * 3 + 1]'(by omega)) (by simp)
  obtain ⟨z, hz, z0, z1⟩ := hb (cs[i.toNat * 3 + 2]'(by omega)) (by simp)
  refine ⟨x, y, z, x0, x1, y0, y1, z0, z1, ?_, ?_, ?_⟩
  · rw [hx.cell, Array.getElem?_eq_getElem (by omega), hx']
  · rw [hx.cell, Array.getElem?_eq_getElem (by omega), hy]
  · rw [hx.cell, Array.getElem?_eq_getElem (by omega), hz]
/-- The numbers of frames that are wrong. -/
def szV (x : Int) : Int := if x = 0 then -1 else 41
theorem szV_bd (x : Int) : -1 ≤ szV x ∧ szV x ≤ 41 := by unfold szV; split <;> omega
theorem szV_at (x : Int) (h0 : 0 ≤ x) (h1 : x < 2) : (#[.int .i64 (-1), .int .i64 41] : Array Value)[x.toNat]? = some (.int .i64 (szV x)) := by
  have : x = 0 ∨ x = 1 := by omega
  rcases this with rfl | rfl <;> rfl
theorem szV_get (x : Int) (h0 : 0 ≤ x) (h1 : x < 2) : ∀ h, ([.int .i64 (-1), .int .i64 41] : List Value)[x.toNat]'h = .int .i64 (szV x) := by
  have : x = 0 ∨ x = 1 := by omega
  rcases this with rfl | rfl <;> exact fun _ => rfl
def frV (a z v : Int) : CFrames.D := if v = 0 then (a, a, 0) else if v = 1 then (a, a + 1, z) else if v = 2 then (a, 60001, 0) else (-1, 1, 0)
theorem frV_small (a z v : Int) (h0 : 0 ≤ a) (h1 : a ≤ 300) (z0 : -1 ≤ z) (z1 : z ≤ 41) : SmallF (frV a z v) := by
  unfold frV
  split
  · exact ⟨by dsimp only; omega, by dsimp only; omega, by dsimp only; omega, by dsimp only; omega, by dsimp only; omega, by dsimp only; omega⟩
  split
  · exact ⟨by dsimp only; omega, by dsimp only; omega, by dsimp only; omega, by dsimp only; omega, by dsimp only; omega, by dsimp only; omega⟩
  split
  · exact ⟨by dsimp only; omega, by dsimp only; omega, by dsimp only; omega, by dsimp only; omega, by dsimp only; omega, by dsimp only; omega⟩
  · exact ⟨by dsimp only; omega, by dsimp only; omega, by dsimp only; omega, by dsimp only; omega, by dsimp only; omega, by dsimp only; omega⟩
theorem frV_at (a z v : Int) (h0 : 0 ≤ v) (h1 : v < 4) :
    (#[.int .i64 a, .int .i64 a, .int .i64 0, .int .i64 a, .int .i64 (a + 1), .int .i64 z, .int .i64 a, .int .i64 60001, .int .i64 0, .int .i64 (-1), .int .i64 1, .int .i64 0] : Array Value)[v.toNat * 3]? = some (.int .i64 (frV a z v).1) ∧
    (#[.int .i64 a, .int .i64 a, .int .i64 0, .int .i64 a, .int .i64 (a + 1), .int .i64 z, .int .i64 a, .int .i64 60001, .int .i64 0, .int .i64 (-1), .int .i64 1, .int .i64 0] : Array Value)[v.toNat * 3 + 1]? = some (.int .i64 (frV a z v).2.1) ∧
    (#[.int .i64 a, .int .i64 a, .int .i64 0, .int .i64 a, .int .i64 (a + 1), .int .i64 z, .int .i64 a, .int .i64 60001, .int .i64 0, .int .i64 (-1), .int .i64 1, .int .i64 0] : Array Value)[v.toNat * 3 + 2]? = some (.int .i64 (frV a z v).2.2) := by
  have : v = 0 ∨ v = 1 ∨ v = 2 ∨ v = 3 := by omega
  rcases this with rfl | rfl | rfl | rfl <;> exact ⟨rfl, rfl, rfl⟩
section
variable {w w1 w2 : World} {cs : Array Value} {t : TypeId} {R i : Nat} {v : Value} {o : Obj}
theorem pick_cell (g : (w1.alloc (.cells cs t)).grownBy w2 (some R)) (hR : R < w1.heap.size) (h : cs[i]? = some v) : w2.cell? ⟨w1.heap.size, i, none⟩ = some v :=
  (((Box.new w1 t cs).grown g (fun k hk => by injection hk with hk; omega)).cell i).trans h
theorem grown_undrew {r : Option Nat} (g : w1.drew.grownBy w2 r) : w1.grownBy w2 r := ⟨g.os, g.tape, g.output, g.size, g.block⟩
theorem pick_cellD (g : (w1.alloc (.cells cs t)).drew.grownBy w2 (some R)) (hR : R < w1.heap.size) (h : cs[i]? = some v) : w2.cell? ⟨w1.heap.size, i, none⟩ = some v := pick_cell (grown_undrew g) hR h
theorem pick_cell2 (g : ((w.alloc o).alloc (.cells cs t)).grownBy w2 (some R)) (hR : R < w.heap.size) (h : cs[i]? = some v) : w2.cell? ⟨w.heap.size + 1, i, none⟩ = some v := by
  have := pick_cell g (by simp; omega) h
  simpa using this
end
theorem own_lit3 (W : World) (a b c : Value) (t : TypeId) (k : Nat) (hk : k = W.heap.size) : (W.alloc (.cells #[a, b, c] t)).ownsRow W.heap.size t 3 (.slice (some ⟨k, 0, none⟩) 1 1) 1 [a, b, c] := by
  subst hk
  exact World.ownsRow_lit (base := W.heap.size) (e := t) (size := 3) W #[a, b, c] 1 (Nat.le_refl _) (by unfold maxLen; omega) rfl
theorem one3i {x y z : Int} : ∀ u ∈ [Value.int .i64 x, .int .i64 y, .int .i64 z], u.oneCell' = true := by
  intro u hu
  simp only [List.mem_cons, List.not_mem_nil, or_false] at hu
  rcases hu with rfl | rfl | rfl <;> rfl
theorem cells_pick {w w' : World} {R : Nat} (g : w.grownBy w' (some R)) : ∀ b o, b < w.heap.size → b ≠ R → w'.cell? ⟨b, o, none⟩ = w.cell? ⟨b, o, none⟩ := fun b _ hb hn => grown_cell g hb (fun k hk => by injection hk with hk; show k ≠ b; omega)
set_option maxHeartbeats 4000000 in
theorem frames_any {w0 w : World} {B R : Nat} {N : Int} (T : Tp w0 w B R N) (hN : N ≤ 1000000) (hN0 : 0 ≤ N) (n : Int) (hn : 0 ≤ n) (hn' : n ≤ 1000) :
    Calls Try.prog 111 #[.pointer (some ⟨R, 0, none⟩), .int .i64 n] w (DrewFrames w0 w B R (N + 50)) := by
  obtain ⟨i0, hi, hz0, hz1, hz2⟩ := info_parts CFrames.info
  have hR := T.lt
  have hw0 := T.2.size
  have HO : Hid ((w.alloc (.cells #[] 36)).ownsRow w.heap.size 36 3 (.slice (some ⟨w.heap.size, 0, none⟩) 0 0) 0 []) := World.ownsRow_lit (base := w.heap.size) (e := 36) (size := 3) w #[] 0 (Nat.le_refl _) (Nat.zero_le _) rfl
  go_enter Try.func111, Try.ntmps111
  go_wp2_with fail
  refine (pick_tp (by first | with_reducible assumption | exact Tp.alloc (by with_reducible assumption) _ | exact Tp.alloc (Tp.alloc (by with_reducible assumption) _) _ | exact Tp.drewN (by with_reducible assumption) _ | exact Tp.drew (by with_reducible assumption) | exact Tp.drawn (by with_reducible assumption) | exact Tp.alloc (Tp.drewN (by with_reducible assumption) _) _ | exact Tp.alloc (Tp.drew (by with_reducible assumption)) _ | exact Tp.alloc (Tp.alloc (Tp.alloc (by with_reducible assumption) _) _) _) (by omega) _ (by omega) (by omega)).mono ?_
  rintro e w1 ⟨x, rfl, x0, x1, T1, g1⟩
  have HO1 := hide (own_pick HO.out g1 hR)
  have hs1 : w.heap.size ≤ w1.heap.size := by have h := g1.size; simp at h; omega
  clear T g1 HO
  go_wp2_with fail
  refine (pick_tp (by first | with_reducible assumption | exact Tp.alloc (by with_reducible assumption) _ | exact Tp.alloc (Tp.alloc (by with_reducible assumption) _) _ | exact Tp.drewN (by with_reducible assumption) _ | exact Tp.drew (by with_reducible assumption) | exact Tp.drawn (by with_reducible assumption) | exact Tp.alloc (Tp.drewN (by with_reducible assumption) _) _ | exact Tp.alloc (Tp.drew (by with_reducible assumption)) _ | exact Tp.alloc (Tp.alloc (Tp.alloc (by with_reducible assumption) _) _) _) (by omega) _ (by omega) (by omega)).mono ?_
  rintro e w2 ⟨y, rfl, y0, y1, T2, g2⟩
  have HO2 := hide (own_pick HO1.out g2 hR)
  have hs2 := Nat.le_trans hs1 g2.size
  have HT2 := hide T2
  obtain ⟨j, rfl⟩ := Int.eq_ofNat_of_zero_le y0
  clear T1 T2 g2 HO1
  go_wp2_with fail
  go_loopw [5, 6, 7] (fun o at_ k wr => ∃ (i : Nat) (a : Int) (A' : Option Addr) (l c' : Nat) (zs : List CFrames.D), k = .int .i64 i ∧ at_ = .int .i64 a ∧ o = .slice A' l c' ∧ l = zs.length ∧ l + i ≤ 4 ∧ 0 ≤ a ∧ a + 30 * i ≤ 300 ∧ (∀ z ∈ zs, SmallF z) ∧ wr.ownsRow w.heap.size 36 3 (.slice A' l c') l (cellsOf frameC zs) ∧ Tp w0 wr B R (N + 2 + 6 * (4 - i : Int)) ∧ w.heap.size ≤ wr.heap.size) (fun _ _ k _ => (intOf k).toNat)
  case atStart => exact ⟨j, x, _, 0, _, [], rfl, rfl, rfl, rfl, by omega, by omega, by omega, by simp, HO2.out, HT2.out.more (by omega), hs2⟩
  case round =>
    obtain ⟨i, a, A', l, c', zs, rfl, rfl, rfl, hl, hli, a0, a1, hzs, ho, T, hsz⟩ := hrel
    have HL := hide hl
    have HZ := hide hzs
    have HO := hide ho
    clear hl hzs ho HO2 HT2
    by_cases h0 : 0 < i
    · go_wp2_with fail
      refine (pick_tp (by first | with_reducible assumption | exact Tp.alloc (by with_reducible assumption) _ | exact Tp.alloc (Tp.alloc (by with_reducible assumption) _) _ | exact Tp.drewN (by with_reducible assumption) _ | exact Tp.drew (by with_reducible assumption) | exact Tp.drawn (by with_reducible assumption) | exact Tp.alloc (Tp.drewN (by with_reducible assumption) _) _ | exact Tp.alloc (Tp.drew (by with_reducible assumption)) _ | exact Tp.alloc (Tp.alloc (Tp.alloc (by with_reducible assumption) _) _) _) (by omega) _ (by omega) (by omega)).mono ?_
      rintro e w3 ⟨p, rfl, p0, p1, T3, g3⟩
      have HO3 := hide (own_pick HO.out g3 hR)
      have hs3 := Nat.le_trans hsz g3.size
      clear T g3 HO
      go_wp2_with fail
      refine (pick_tp (by first | with_reducible assumption | exact Tp.alloc (by with_reducible assumption) _ | exact Tp.alloc (Tp.alloc (by with_reducible assumption) _) _ | exact Tp.drewN (by with_reducible assumption) _ | exact Tp.drew (by with_reducible assumption) | exact Tp.drawn (by with_reducible assumption) | exact Tp.alloc (Tp.drewN (by with_reducible assumption) _) _ | exact Tp.alloc (Tp.drew (by with_reducible assumption)) _ | exact Tp.alloc (Tp.alloc (Tp.alloc (by with_reducible assumption) _) _) _) (by omega) _ (by omega) (by omega)).mono ?_
      rintro e w4 ⟨q, rfl, q0, q1, T4, g4⟩
      have HO5 := hide (own_pick HO3.out g4 hR)
      have hs5 := Nat.le_trans hs3 g4.size
      have HT5 := hide T4
      clear T3 g4 HO3 T4
      go_wp2_with (at_builtin; refine wpList_app1 w4 rfl (.tmp 23) (.tmp 29) 32 rfl w.heap.size 36 i0 (.agg #[.int .i64 0, .int .i64 0, .int .i64 0]) 3 24 Try.underlying32 hi hz0 hz1 hz2 rfl (by decide) _ rfl rfl ?o1 _ _ _ rfl HO5.out ?n1 ?n2 ?n3 ?_)
      case o1 => first | rfl | exact ⟨rfl, rfl, rfl⟩ | (intro u hu; simp only [List.mem_cons, List.not_mem_nil, or_false] at hu; rcases hu with rfl | rfl | rfl <;> rfl)
      case n1 => unfold maxLen; omega
      case n2 => omega
      case n3 => exact hs5
      intro A6 n6 c6 w6 hn6 o6 g6
      subst hn6
      have T6 := HT5.out.own g6 (fun k hk => ⟨Nat.le_trans hw0 (HO5.out.lt k hk).1, Nat.lt_of_lt_of_le hR (HO5.out.lt k hk).1⟩)
      have HO6 := hide o6
      have hs6 := Nat.le_trans hs5 g6.size
      clear o6 g6 HO5 HT5
      go_wp2_with fail
      refine (pick_tp (by first | with_reducible assumption | exact Tp.alloc (by with_reducible assumption) _ | exact Tp.alloc (Tp.alloc (by with_reducible assumption) _) _ | exact Tp.drewN (by with_reducible assumption) _ | exact Tp.drew (by with_reducible assumption) | exact Tp.drawn (by with_reducible assumption) | exact Tp.alloc (Tp.drewN (by with_reducible assumption) _) _ | exact Tp.alloc (Tp.drew (by with_reducible assumption)) _ | exact Tp.alloc (Tp.alloc (Tp.alloc (by with_reducible assumption) _) _) _) (by omega) _ (by omega) (by omega)).mono ?_
      rintro e w7 ⟨p', rfl, p0', p1', T7, g7⟩
      have HO8 := hide (own_pick HO6.out g7 hR)
      have hs8 := Nat.le_trans hs6 g7.size
      have T8 := T7
      clear T6 g7 HO6 T7
      go_wp2_with fail
      refine (pick_lit T8 (by omega) _ (by omega) (by omega) (by repeat (first | exact List.forall_mem_nil _ | refine List.forall_mem_cons.2 ⟨⟨_, rfl⟩, ?_⟩)) (by simp)).mono ?_
      rintro e w9 ⟨v', rfl, v0', v1', T9, g9, z', hm', hz'⟩
      simp only [List.mem_cons, Value.int.injEq, true_and, List.not_mem_nil, or_false] at hm'
      have hzb' : 0 ≤ z' ∧ z' ≤ 3 := by omega
      have HO9 := hide (own_pick (HO8.out.alloc _) g9 hR)
      have hs9 : w.heap.size ≤ w9.heap.size := by have h1 := g9.size; simp at h1; omega
      have HT9 := hide T9
      clear T8 g9 HO8 hm' T9
      go_wp2_with fail
      refine ⟨⟨i - 1, a + 1 + p + z', A6, l + 1, c6, zs ++ [(a, a + 1 + p, q)], by go_num, by go_num, rfl, by rw [HL.out]; simp, by omega, by omega, by omega, ?_, by simpa [cellsOf, frameC] using HO9.out, HT9.out.more (by omega), hs9⟩, by simp [intOf]; omega⟩
      intro b hb
      rcases List.mem_append.1 hb with hb | hb
      · exact HZ.out b hb
      · simp only [List.mem_singleton] at hb
        subst hb
        exact ⟨by dsimp only; omega, by dsimp only; omega, by dsimp only; omega, by dsimp only; omega, by dsimp only; omega, by dsimp only; omega⟩
    · have e : i = 0 := by omega
      subst e
      have hl := HL.out
      subst hl
      go_wp2_with fail
      refine (odd_tp (by first | with_reducible assumption | exact Tp.alloc (by with_reducible assumption) _ | exact Tp.alloc (Tp.alloc (by with_reducible assumption) _) _ | exact Tp.drewN (by with_reducible assumption) _ | exact Tp.drew (by with_reducible assumption) | exact Tp.drawn (by with_reducible assumption) | exact Tp.alloc (Tp.drewN (by with_reducible assumption) _) _ | exact Tp.alloc (Tp.drew (by with_reducible assumption)) _ | exact Tp.alloc (Tp.alloc (Tp.alloc (by with_reducible assumption) _) _) _) (by omega) _ (by omega) (by omega)).mono ?_
      rintro e w3 ⟨bo, rfl, T3, g3⟩
      have HO3 := hide (own_pick HO.out g3 hR)
      have hs3 := Nat.le_trans hsz g3.size
      clear T g3 HO
      cases bo
      · go_wp2_with fail
        go_ret
        exact ⟨A', zs, c', rfl, by omega, HZ.out, HO3.out, T3.more (by omega)⟩
      · have hR3 := T3.lt
        have HT3 := hide (T3.more (N' := N + 40) (by omega))
        have hn1 : N + 40 ≤ 1099511627776 := by omega
        have hn2 : N + 40 + 1 ≤ 1099511627776 := by omega
        clear T3
        go_wp2_with fail
        have ew : IntKind.i64.wrap (a + 1) = a + 1 := IntWalk.i64_in _ (by omega)
        have hvb : ∀ k, (Value.slice A' zs.length c').ownBlock = some k → w0.heap.size ≤ k ∧ R < k := fun k hk => ⟨Nat.le_trans hw0 (HO3.out.lt k hk).1, Nat.lt_of_lt_of_le hR (HO3.out.lt k hk).1⟩
        have HVB := hide hvb
        clear hvb
        have hm1 : zs.length + 1 ≤ maxLen := by unfold maxLen; omega
        have hm2 : (zs.length + 1) * 24 ≤ 140737488355328 := by omega
        go_region_law ((first | (go_simp; go_at_call_of 113 (Value.int .i64 2); refine (pick_tp (w0 := w0) (B := B) (by repeat (first | (apply Hid.out; with_reducible assumption) | with_reducible apply Tp.alloc | with_reducible apply Tp.drew | with_reducible apply Tp.drewN)) (by assumption) _ (by decide) (by decide)).mono ?_; rintro e wN ⟨x, rfl, x0, x1, T, g⟩; have hRN := T.lt; have HT := hide T; have qa := szV_at x x0 x1; have qb := szV_get x x0 x1; (try have q1 := pick_cellD g hR3 qa); have HG : Hid (w3.grownBy wN (some R)) := hide (grown_trans (by repeat (first | with_reducible assumption | (apply Hid.out; with_reducible assumption) | exact grown_refl _ _ | with_reducible apply grown_alloc | with_reducible apply grown_drew | with_reducible apply grown_drewN)) g); clear T g) | (go_simp; go_at_call_of 113 (Value.int .i64 4); refine (pick_tp (w0 := w0) (B := B) (by repeat (first | (apply Hid.out; with_reducible assumption) | with_reducible apply Tp.alloc | with_reducible apply Tp.drew | with_reducible apply Tp.drewN)) (by assumption) _ (by decide) (by decide)).mono ?_; rintro e wM ⟨v, rfl, v0, v1, T, g⟩; have HTM := hide T; obtain ⟨p0, p1, p2⟩ := frV_at a (szV x) v v0 v1; (try have r0 := pick_cell g hRN p0); (try have r1 := pick_cell g hRN p1); (try have r2 := pick_cell g hRN p2); (try have r0 := pick_cell2 g hRN p0); (try have r1 := pick_cell2 g hRN p1); (try have r2 := pick_cell2 g hRN p2); (try have q2 := pick_cell g hRN qa); (try have q2 := (grown_cell g (World.block_lt_of_cell? _ _ q1) (fun k hk e => Nat.ne_of_lt hR3 ((Option.some.inj hk).trans e))).trans q1); have HGM : Hid (w3.grownBy wM (some R)) := hide (grown_trans (by repeat (first | with_reducible assumption | (apply Hid.out; with_reducible assumption) | exact grown_refl _ _ | with_reducible apply grown_alloc | with_reducible apply grown_drew | with_reducible apply grown_drewN)) g); clear T g) | (refine step_appO (by rfl) _ _ 32 (by rfl) w.heap.size _ 36 i0 (.agg #[.int .i64 0, .int .i64 0, .int .i64 0]) 3 24 Try.underlying32 hi hz0 hz1 hz2 rfl (by decide) _ _ _ _ (by rfl) (own_lit3 _ _ _ _ _ _ (by simp)) one3i _ _ _ (by rfl) (own_pick HO3.out (by repeat (first | with_reducible assumption | (apply Hid.out; with_reducible assumption) | exact grown_refl _ _ | with_reducible apply grown_alloc | with_reducible apply grown_drew | with_reducible apply grown_drewN)) hR) hm1 hm2 (Nat.le_trans hs3 (World.grownBy.size (w := w3) (row := some R) (by repeat (first | with_reducible assumption | (apply Hid.out; with_reducible assumption) | exact grown_refl _ _ | with_reducible apply grown_alloc | with_reducible apply grown_drew | with_reducible apply grown_drewN)))) ?_; intro A6 n6 c6 w6 hn6 o6 g6; have H6 := hide (And.intro hn6 (And.intro o6 (Tp.own (w0 := w0) (B := B) (by repeat (first | (apply Hid.out; with_reducible assumption) | with_reducible apply Tp.alloc | with_reducible apply Tp.drew | with_reducible apply Tp.drewN)) g6 HVB.out))); clear hn6 o6 g6)))
        all_goals
          obtain ⟨hn6, o6, T6⟩ := H6.out
          subst hn6
          have HO6 := hide o6
          have HT6 := hide T6
          have hsm := frV_small a (szV x) v (by omega) (by omega) (szV_bd x).1 (szV_bd x).2
          clear H6 o6 T6 ew
          simp only [List.getElem_toArray, List.getElem_cons_succ, List.getElem_cons_zero, Act.put, List.setIfInBounds_toArray, List.set_cons_zero, List.set_cons_succ]
          go_wp2_with fail
          go_ret
          refine ⟨A6, zs ++ [frV a (szV x) v], c6, by simp, by simp; omega, ?_, by simpa [cellsOf, frameC] using HO6.out, HT6.out.more (by omega)⟩
          intro b hb
          rcases List.mem_append.1 hb with hb | hb
          · exact HZ.out b hb
          · simp only [List.mem_singleton] at hb
            subst hb
            exact hsm
end Go.Proofs.Ytndnmbhhfiacaaa.DFrames
