/- The draw of bent bytes: a byte changed, or left out, or put behind. -/
import Derived.Test.YtndnmbhhfiacaaaDBytes
import Derived.Test.YtndnmbhhfiacaaaDRows
import Derived.Test.YtndnmbhhfiacaaaBase4
import Derived.Deep.RegionLaw
import Derived.IntWalk
namespace Go.Proofs.Ytndnmbhhfiacaaa.DBent
set_option maxRecDepth 200000
open Go.ChangeShapes Go.WideShapes Go.ChangeAt Go.RowKit Kit DPick DVar DBytes DRows
def DrewBent (w0 w : World) (B R : Nat) (N : Int) (most : Nat) (e : Ending) (w' : World) : Prop := ∃ (A : Option Addr) (zs : List Int) (c : Nat), e = .returned (.slice A zs.length c) ∧ zs.length ≤ most ∧ InR 0 255 zs ∧ w'.ownsRow w.heap.size 5 1 (.slice A zs.length c) zs.length (ints .u8 zs) ∧ Tp w0 w' B R N
theorem inR_set {zs : List Int} (h : InR 0 255 zs) (k : Nat) {v : Int} (h0 : 0 ≤ v) (h1 : v ≤ 255) : InR 0 255 (zs.set k v) := fun x hx => by
  rcases List.mem_or_eq_of_mem_set hx with hx | rfl
  · exact h x hx
  · exact ⟨h0, h1⟩
theorem u8_bd (x : Int) : 0 ≤ IntKind.u8.wrap x ∧ IntKind.u8.wrap x ≤ 255 := by rw [IntKind.wrap_u8]; omega
set_option maxHeartbeats 4000000 in
theorem bent_any {w0 w : World} {B R : Nat} {N : Int} (T : Tp w0 w B R N) (hN : N ≤ 1000000) (hN0 : 0 ≤ N) (A : Option Addr) (zs : List Int) (c B' : Nat) (hr : Rd w B' A (ints .u8 zs)) (hB' : B' ≤ w.heap.size) (hz : InR 0 255 zs) (hm : zs.length ≤ 1048576) (hnil : A = none → c = 0) :
    Calls Try.prog 131 #[.pointer (some ⟨R, 0, none⟩), .slice A zs.length c] w (DrewBent w0 w B R (N + 3) (zs.length + 1)) := by
  obtain ⟨i0, hi, hz0, hz1, hz2⟩ := info_parts DBytes.info8
  have hR := T.lt
  have hw0 := T.2.size
  have HO := hide (own_empty (w := w) (E := 5))
  have b0 : Below w.heap.size w (w.alloc (.cells #[] 5)) := (by repeat (first | exact Below.refl _ _ | with_reducible assumption | (refine Below.drew ?_) | (refine Below.drewN ?_ _) | (refine Below.alloc ?_ (by simp; try omega) _) | (refine Below.setCell ?_ (by simp; try omega) _)))
  have HR := hide ((hr.more hB').below b0)
  have HZ := hide hz
  have HN := hide hnil
  have HT := hide T
  have hs0 := b0.size
  clear hr hz hnil T b0
  go_enter Try.func131, Try.ntmps131
  go_wp2_with (at_builtin; refine wpList_appR _ rfl (.tmp 7) (.tmp 8) 22 rfl w.heap.size 5 i0 (.int .u8 0) 1 1 Try.underlying22 hi hz0 hz1 hz2 rfl (by decide) _ _ _ _ rfl HR.out ?n0 HN.out oneI _ _ _ rfl HO.out ?n1 ?n2 hs0 ?_)
  case n0 => simp
  case n1 => unfold maxLen; omega
  case n2 => omega
  intro A1 n1 c1 w1 hn1 o1 g1
  have hn1 : n1 = zs.length := by omega
  subst hn1
  have o1 : w1.ownsRow w.heap.size 5 1 (.slice A1 zs.length c1) zs.length (ints .u8 zs) := o1
  have T1 := Tp.own (Tp.alloc HT.out _) g1 (fun k hk => ⟨Nat.le_trans hw0 (HO.out.lt k hk).1, Nat.lt_of_lt_of_le hR (HO.out.lt k hk).1⟩)
  have HO1 := hide o1
  have hs1 := Nat.le_trans hs0 g1.size
  clear o1 g1 HO HR HN HT hs0
  go_wp2_with fail
  refine (pick_tp (by first | with_reducible assumption | exact Tp.alloc (by with_reducible assumption) _ | exact Tp.alloc (Tp.alloc (by with_reducible assumption) _) _ | exact Tp.drewN (by with_reducible assumption) _ | exact Tp.drew (by with_reducible assumption) | exact Tp.drawn (by with_reducible assumption) | exact Tp.alloc (Tp.drewN (by with_reducible assumption) _) _ | exact Tp.alloc (Tp.drew (by with_reducible assumption)) _ | exact Tp.alloc (Tp.alloc (Tp.alloc (by with_reducible assumption) _) _) _) (by omega) _ (by omega) (by omega)).mono ?_
  rintro e w2 ⟨p, rfl, p0, p1, T2, g2⟩
  have HO2 := hide (own_pick HO1.out g2 hR)
  have hs2 := Nat.le_trans hs1 g2.size
  clear T1 g2 HO1
  by_cases hp0 : p = 0
  · subst hp0
    clear p0 p1
    by_cases hn0 : zs.length = 0
    · have hd : decide (0 < zs.length) = false := by rw [hn0]; rfl
      have HT2 := hide T2
      clear hn0 T2
      go_wp2_with fail
      go_ret
      exact ⟨A1, zs, c1, rfl, by omega, HZ.out, HO2.out, HT2.out.more (by omega)⟩
    · obtain ⟨g, rfl⟩ := own_form HO2.out hn0
      have hd : 0 < zs.length := by omega
      clear hn0
      go_wp2_with fail
      refine (pick_tp (by first | with_reducible assumption | exact Tp.alloc (by with_reducible assumption) _ | exact Tp.alloc (Tp.alloc (by with_reducible assumption) _) _ | exact Tp.drewN (by with_reducible assumption) _ | exact Tp.drew (by with_reducible assumption) | exact Tp.drawn (by with_reducible assumption) | exact Tp.alloc (Tp.drewN (by with_reducible assumption) _) _ | exact Tp.alloc (Tp.drew (by with_reducible assumption)) _ | exact Tp.alloc (Tp.alloc (Tp.alloc (by with_reducible assumption) _) _) _) (by omega) _ (by omega) (by omega)).mono ?_
      rintro e w3 ⟨k, rfl, k0, k1, T3, g3⟩
      have HO3 := hide (own_pick HO2.out g3 hR)
      have hs3 := Nat.le_trans hs2 g3.size
      obtain ⟨j, rfl⟩ := Int.eq_ofNat_of_zero_le k0
      have hj : j < zs.length := by omega
      have hcell := HO3.out.cellAt j (by omega)
      have hold : (ints IntKind.u8 zs)[j]? = some (Value.int .u8 zs[j]) := by
        rw [List.getElem?_eq_getElem (by simpa using hj)]; simp
      rw [hold] at hcell
      obtain ⟨z0, z1⟩ := HZ.out.at_ hj
      have hgR := Nat.lt_of_lt_of_le hR (HO3.out.lt g rfl).1
      have hgw := (HO3.out.lt g rfl).1
      have HT3 := hide T3
      have hn1 : N + 1 + 1 ≤ 1099511627776 := by omega
      clear T2 g3 HO2 hold T3
      generalize zs[j] = z at *
      go_wp2_with fail
      go_region_law ((first | (go_simp; go_at_call 113; refine (pick_tp (w0 := w0) (B := B) (by repeat (first | (apply Hid.out; with_reducible assumption) | with_reducible apply Tp.alloc | with_reducible apply Tp.drew | with_reducible apply Tp.drewN)) hn1 _ (by decide) (by decide)).mono ?_; rintro e w4 ⟨x, rfl, x0, x1, T4, g4⟩; have g4 : w3.grownBy w4 (some R) := ⟨g4.os, g4.tape, g4.output, g4.size, g4.block⟩; have HT4 := hide T4; have q2 := (grown_cell g4 (a := ⟨g, j, none⟩) (HO3.out.lt g rfl).2 (fun k hk => by injection hk with hk; show k ≠ g; omega)).trans hcell; have HO4 := hide (own_pick HO3.out g4 hR); have hfz := HO4.out.frozenAt j; clear T4 g4)))
      all_goals
        try simp only [List.getElem_toArray, List.getElem_cons_succ, List.getElem_cons_zero, Act.put, List.setIfInBounds_toArray, List.set_cons_zero, List.set_cons_succ]
        go_wp2_with fail
        go_ret
        have hb := u8_bd (z + IntKind.u8.wrap (IntKind.i64.wrap (1 + x)))
        have ho := (HO4.out.stored j (.int .u8 (IntKind.u8.wrap (z + IntKind.u8.wrap (IntKind.i64.wrap (1 + x)))))).1
        rw [setInts] at ho
        exact ⟨some ⟨g, 0, none⟩, zs.set j (IntKind.u8.wrap (z + IntKind.u8.wrap (IntKind.i64.wrap (1 + x)))), c1, (by rw [List.length_set]; rfl), by rw [List.length_set]; omega, inR_set HZ.out j hb.1 hb.2, by rw [List.length_set]; exact ho, (HT4.out.set (a := ⟨g, j, none⟩) (Nat.le_trans hw0 hgw) hgR _).more (by omega)⟩
  · by_cases hp1 : p = 1
    · subst hp1
      clear p0 p1 hp0
      by_cases hn0 : zs.length = 0
      · have hnil : zs = [] := List.eq_nil_of_length_eq_zero hn0
        subst hnil
        clear hn0
        have hpre : A1 = none → c1 = 0 := own_nil HO2.out
        have HPRE := hide hpre
        clear hpre
        go_wp2_with fail
        refine (pick_tp (by first | with_reducible assumption | exact Tp.alloc (by with_reducible assumption) _ | exact Tp.alloc (Tp.alloc (by with_reducible assumption) _) _ | exact Tp.drewN (by with_reducible assumption) _ | exact Tp.drew (by with_reducible assumption) | exact Tp.drawn (by with_reducible assumption) | exact Tp.alloc (Tp.drewN (by with_reducible assumption) _) _ | exact Tp.alloc (Tp.drew (by with_reducible assumption)) _ | exact Tp.alloc (Tp.alloc (Tp.alloc (by with_reducible assumption) _) _) _) (by omega) _ (by omega) (by omega)).mono ?_
        rintro e w3 ⟨k, rfl, k0, k1, T3, g3⟩
        have HO3 := hide (own_pick HO2.out g3 hR)
        have hk : k = 0 := by omega
        subst hk
        have HT3 := hide T3
        clear T2 g3 HO2 k0 k1 T3
        cases A1 with
        | none =>
          have hc := HPRE.out rfl
          subst hc
          go_wp2_with fail
          go_ret
          exact ⟨_, [], _, rfl, by simp, HZ.out, HO3.out, HT3.out.more (by omega)⟩
        | some a1 =>
          go_wp2_with fail
          go_ret
          exact ⟨_, [], _, rfl, by simp, HZ.out, HO3.out, HT3.out.more (by omega)⟩
      · obtain ⟨g, rfl⟩ := own_form HO2.out hn0
        have hcc := own_cap HO2.out
        have hcm := own_capm HO2.out
        unfold maxLen at hcm
        clear hn0
        go_wp2_with fail
        refine (pick_tp (by first | with_reducible assumption | exact Tp.alloc (by with_reducible assumption) _ | exact Tp.alloc (Tp.alloc (by with_reducible assumption) _) _ | exact Tp.drewN (by with_reducible assumption) _ | exact Tp.drew (by with_reducible assumption) | exact Tp.drawn (by with_reducible assumption) | exact Tp.alloc (Tp.drewN (by with_reducible assumption) _) _ | exact Tp.alloc (Tp.drew (by with_reducible assumption)) _ | exact Tp.alloc (Tp.alloc (Tp.alloc (by with_reducible assumption) _) _) _) (by omega) _ (by omega) (by omega)).mono ?_
        rintro e w3 ⟨k, rfl, k0, k1, T3, g3⟩
        have HO3 := hide (own_pick HO2.out g3 hR)
        obtain ⟨j, rfl⟩ := Int.eq_ofNat_of_zero_le k0
        have hj : j ≤ zs.length := by omega
        have hjc : j ≤ c1 := by omega
        have HO4 := hide (own_prefix HO3.out hj)
        have HT3 := hide T3
        clear T2 g3 HO2 T3
        go_wp2_with fail
        go_ret
        have hl : (zs.take j).length = j := by rw [List.length_take]; omega
        refine ⟨some ⟨g, 0, none⟩, zs.take j, c1, (by rw [hl]; rfl), by rw [hl]; omega, fun x hx => HZ.out x (List.mem_of_mem_take hx), ?_, HT3.out.more (by omega)⟩
        rw [hl]
        have := HO4.out
        rwa [Nat.mul_one, ← List.map_take] at this
    · have hp2 : p = 2 := by omega
      subst hp2
      clear p0 p1 hp0 hp1
      go_wp2_with fail
      refine (pick_tp (by first | with_reducible assumption | exact Tp.alloc (by with_reducible assumption) _ | exact Tp.alloc (Tp.alloc (by with_reducible assumption) _) _ | exact Tp.drewN (by with_reducible assumption) _ | exact Tp.drew (by with_reducible assumption) | exact Tp.drawn (by with_reducible assumption) | exact Tp.alloc (Tp.drewN (by with_reducible assumption) _) _ | exact Tp.alloc (Tp.drew (by with_reducible assumption)) _ | exact Tp.alloc (Tp.alloc (Tp.alloc (by with_reducible assumption) _) _) _) (by omega) _ (by omega) (by omega)).mono ?_
      rintro e w3 ⟨k, rfl, k0, k1, T3, g3⟩
      have HO3 := hide (own_pick HO2.out g3 hR)
      have hs3 := Nat.le_trans hs2 g3.size
      have HT3 := hide T3
      clear T2 g3 HO2 T3
      go_wp2_with (at_builtin; refine wpList_app1 w3 rfl (.tmp 12) (.tmp 16) 22 rfl w.heap.size 5 i0 (.int .u8 0) 1 1 Try.underlying22 hi hz0 hz1 hz2 rfl (by decide) _ rfl rfl ?o1 _ _ _ rfl HO3.out ?n1 ?n2 hs3 ?_)
      case o1 => rfl
      case n1 => unfold maxLen; omega
      case n2 => omega
      intro A4 n4 c4 w4 hn4 o4 g4
      subst hn4
      have HT4 := hide (HT3.out.own g4 (fun k hk => ⟨Nat.le_trans hw0 (HO3.out.lt k hk).1, Nat.lt_of_lt_of_le hR (HO3.out.lt k hk).1⟩))
      have HO4 := hide o4
      clear o4 g4 HO3 HT3
      go_wp2_with fail
      go_ret
      refine ⟨A4, zs ++ [k], c4, by simp, by simp, fun x hx => ?_, by simpa using HO4.out, HT4.out.more (by omega)⟩
      rcases List.mem_append.1 hx with hx | hx
      · exact HZ.out x hx
      · simp only [List.mem_singleton] at hx
        omega
end Go.Proofs.Ytndnmbhhfiacaaa.DBent
