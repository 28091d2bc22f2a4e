/- The draw of landmarks. -/
import Derived.Test.YtjnnjgogpapbhaaDoorDName
import Derived.Test.YtjnnjgogpapbhaaDoorCLandmarks
namespace Go.Proofs.YtjnnjgogpapbhaaDoor.DMarks
set_option maxRecDepth 200000
open Go.ChangeShapes Go.WideShapes Go.ChangeAt Go.RowKit Kit CLandmarks DPick DVar DName
def SmallM (z : CLandmarks.D) : Prop := 0 < z.1.size ∧ z.1.size ≤ 9 ∧ 0 ≤ z.2 ∧ z.2 ≤ 100
def DrewMarks (w0 w : World) (B R : Nat) (N : Int) (e : Ending) (w' : World) : Prop := ∃ (A : Option Addr) (zs : List CLandmarks.D) (c : Nat), e = .returned (.slice A zs.length c) ∧ zs.length ≤ 4 ∧ (∀ z ∈ zs, SmallM z) ∧ w'.ownsRow w.heap.size 40 2 (.slice A zs.length c) zs.length (cellsOf landmarkC zs) ∧ Tp w0 w' B R N
theorem marks_any {w0 w : World} {B R : Nat} {N : Int} (T : Tp w0 w B R N) (hN : N ≤ 1000) (hN0 : 0 ≤ N) :
    Calls Tryd.prog 41 #[.pointer (some ⟨R, 0, none⟩)] w (DrewMarks w0 w B R (N + 30)) := by
  obtain ⟨i0, hi, hz0, hz1, hz2⟩ := info_parts CLandmarks.info
  have hR := T.lt
  have hw0 := T.2.size
  have HO : Hid ((w.alloc (.cells #[] 40)).ownsRow w.heap.size 40 2 (.slice (some ⟨w.heap.size, 0, none⟩) 0 0) 0 []) := World.ownsRow_lit (base := w.heap.size) (e := 40) (size := 2) w #[] 0 (Nat.le_refl _) (Nat.zero_le _) rfl
  go_enter Tryd.func41, Tryd.ntmps41
  go_wp2_with fail
  refine (pick_tp (by first | with_reducible assumption | exact Tp.alloc (by with_reducible assumption) _ | exact Tp.alloc (Tp.alloc (by with_reducible assumption) _) _ | exact Tp.drewN (by with_reducible assumption) _ | exact Tp.drew (by with_reducible assumption) | exact Tp.drawn (by with_reducible assumption) | exact Tp.alloc (Tp.drewN (by with_reducible assumption) _) _ | exact Tp.alloc (Tp.drew (by with_reducible assumption)) _ | exact Tp.alloc (Tp.alloc (Tp.alloc (by with_reducible assumption) _) _) _) (by omega) _ (by omega) (by omega)).mono ?_
  rintro e w1 ⟨x, rfl, x0, x1, T1, g1⟩
  have HO1 := hide (own_pick HO.out g1 hR)
  have hs1 : w.heap.size ≤ w1.heap.size := by have h := g1.size; simp at h; omega
  clear T g1 HO
  go_wp2_with fail
  refine (pick_tp (by first | with_reducible assumption | exact Tp.alloc (by with_reducible assumption) _ | exact Tp.alloc (Tp.alloc (by with_reducible assumption) _) _ | exact Tp.drewN (by with_reducible assumption) _ | exact Tp.drew (by with_reducible assumption) | exact Tp.drawn (by with_reducible assumption) | exact Tp.alloc (Tp.drewN (by with_reducible assumption) _) _ | exact Tp.alloc (Tp.drew (by with_reducible assumption)) _ | exact Tp.alloc (Tp.alloc (Tp.alloc (by with_reducible assumption) _) _) _) (by omega) _ (by omega) (by omega)).mono ?_
  rintro e w2 ⟨y, rfl, y0, y1, T2, g2⟩
  have HO2 := hide (own_pick HO1.out g2 hR)
  have hs2 := Nat.le_trans hs1 g2.size
  have HT2 := hide T2
  obtain ⟨j, rfl⟩ := Int.eq_ofNat_of_zero_le y0
  clear T1 T2 g2 HO1
  go_wp2_with fail
  go_loopw [3, 4, 5] (fun o at_ k wr => ∃ (i : Nat) (a : Int) (A' : Option Addr) (l c' : Nat) (zs : List CLandmarks.D), k = .int .i64 i ∧ at_ = .int .i64 a ∧ o = .slice A' l c' ∧ l = zs.length ∧ l + i ≤ 4 ∧ 0 ≤ a ∧ a + 10 * i ≤ 90 ∧ (∀ z ∈ zs, SmallM z) ∧ wr.ownsRow w.heap.size 40 2 (.slice A' l c') l (cellsOf landmarkC zs) ∧ Tp w0 wr B R (N + 2 + 6 * (4 - i : Int)) ∧ w.heap.size ≤ wr.heap.size) (fun _ _ k _ => (intOf k).toNat)
  case atStart => exact ⟨j, x, _, 0, _, [], rfl, rfl, rfl, rfl, by omega, by omega, by omega, by simp, HO2.out, HT2.out.more (by omega), hs2⟩
  case round =>
    obtain ⟨i, a, A', l, c', zs, rfl, rfl, rfl, hl, hli, a0, a1, hzs, ho, T, hsz⟩ := hrel
    have HL := hide hl
    have HZ := hide hzs
    have HO := hide ho
    clear hl hzs ho HO2 HT2
    by_cases h0 : 0 < i
    · go_wp2_with fail
      refine (name_ok T (by omega)).mono ?_
      rintro e w3 ⟨s, rfl, s0, s1, T3, g3⟩
      have HO5 := hide (own_pick HO.out g3 hR)
      have hs5 := Nat.le_trans hsz g3.size
      have HT5 := hide T3
      clear T g3 HO T3
      go_wp2_with (at_builtin; refine wpList_app1 w3 rfl (.tmp 15) (.tmp 20) 31 rfl w.heap.size 40 i0 (.agg #[.string ByteArray.empty, .int .i64 0]) 2 24 Tryd.underlying31 hi hz0 hz1 hz2 rfl (by decide) _ rfl rfl ?o1 _ _ _ rfl HO5.out ?n1 ?n2 ?n3 ?_)
      case o1 => first | rfl | exact ⟨rfl, rfl⟩ | exact ⟨rfl, rfl, rfl⟩ | (intro u hu; simp only [List.mem_cons, List.not_mem_nil, or_false] at hu; rcases hu with rfl | rfl <;> rfl)
      case n1 => unfold maxLen; omega
      case n2 => omega
      case n3 => exact hs5
      intro A6 n6 c6 w6 hn6 o6 g6
      subst hn6
      have T6 := HT5.out.own g6 (fun k hk => ⟨Nat.le_trans hw0 (HO5.out.lt k hk).1, Nat.lt_of_lt_of_le hR (HO5.out.lt k hk).1⟩)
      have HO6 := hide o6
      have hs6 := Nat.le_trans hs5 g6.size
      clear o6 g6 HO5 HT5
      go_wp2_with fail
      refine (pick_tp (by first | with_reducible assumption | exact Tp.alloc (by with_reducible assumption) _ | exact Tp.alloc (Tp.alloc (by with_reducible assumption) _) _ | exact Tp.drewN (by with_reducible assumption) _ | exact Tp.drew (by with_reducible assumption) | exact Tp.drawn (by with_reducible assumption) | exact Tp.alloc (Tp.drewN (by with_reducible assumption) _) _ | exact Tp.alloc (Tp.drew (by with_reducible assumption)) _ | exact Tp.alloc (Tp.alloc (Tp.alloc (by with_reducible assumption) _) _) _) (by omega) _ (by omega) (by omega)).mono ?_
      rintro e w7 ⟨p', rfl, p0', p1', T7, g7⟩
      have HO9 := hide (own_pick HO6.out g7 hR)
      have hs9 := Nat.le_trans hs6 g7.size
      have HT9 := hide T7
      clear T6 g7 HO6 T7
      go_wp2_with fail
      refine ⟨⟨i - 1, a + p', A6, l + 1, c6, zs ++ [(s, a)], by go_num, by go_num, rfl, by rw [HL.out]; simp, by omega, by omega, by omega, ?_, by simpa [cellsOf, landmarkC] using HO9.out, HT9.out.more (by omega), hs9⟩, by simp [intOf]; omega⟩
      intro b hb
      rcases List.mem_append.1 hb with hb | hb
      · exact HZ.out b hb
      · simp only [List.mem_singleton] at hb
        subst hb
        exact ⟨s0, s1, by dsimp only; omega, by dsimp only; omega⟩
    · have e : i = 0 := by omega
      subst e
      have hl := HL.out
      subst hl
      go_wp2_with fail
      go_ret
      exact ⟨A', zs, c', rfl, by omega, HZ.out, HO.out, T.more (by omega)⟩
end Go.Proofs.YtjnnjgogpapbhaaDoor.DMarks
