/- The walk of FnGetCode: read codes are written so. -/
import Derived.Test.YtndnmbhhfiacaaaDCode
import Derived.Test.YtndnmbhhfiacaaaDRows
import Derived.Test.YtndnmbhhfiacaaaPCode
import Derived.Test.YtndnmbhhfiacaaaCSame
import Derived.Test.YtndnmbhhfiacaaaCAlive
import Derived.Test.YtndnmbhhfiacaaaBase4
import Derived.Deep.RegionHeld3
import Derived.IntWalk
namespace Go.Proofs.Ytndnmbhhfiacaaa.WFnGetCode
set_option maxRecDepth 200000
open Go.ChangeShapes Go.WideShapes Go.ChangeAt Go.RowKit Kit CCode CNumber CPutCode PCode CSame DPick DVar DCode DRows CAlive
theorem Tp.compose {w0 w w' : World} {B R : Nat} {N N' : Int} (h : Tp w0 w B R N) (h' : Tp w w' B R N') : Tp w0 w' B R N' := ⟨h'.1, grown_trans h.2 h'.2⟩
def DrewBA (w : World) (e : Ending) (w' : World) : Prop := ∃ (A' : Option Addr) (ys : List Int) (c' : Nat) (a : Int), e = .returned (.tuple #[.slice A' ys.length c', .int .i64 a]) ∧ ys.length ≤ 100 ∧ InR 0 255 ys ∧ w'.ownsRow w.heap.size 5 1 (.slice A' ys.length c') ys.length (ints .u8 ys) ∧ Below w.heap.size w w'
set_option maxHeartbeats 4000000 in
theorem draw_any {A : Option Addr} {zs : List Int} {c : Nat} {w : World} (hr : Rd w w.heap.size A (ints .u8 zs)) (hz : InR 0 255 zs) (hc : zs.length ≤ c) (hcm : c ≤ maxLen) :
    Calls Try.prog 72 #[.slice A zs.length c] w (DrewBA w) := by
  obtain ⟨i0, hi, hz0, hz1, hz2⟩ := info_parts CNumber.info8
  have HO := hide (open_any A zs c w hr hz hc hcm)
  clear hr hz hc hcm
  go_enter Try.func72, Try.ntmps72
  go_wp2_with fail
  refine HO.out.mono ?_
  rintro e w1 ⟨R, rfl, T, b1⟩
  have T0 := (Tp.start T).alloc (.cells #[] 5)
  have hRl := T.1
  have hR1 := (Tp.start T).lt
  have HB := hide b1
  have HO1 := hide (own_emptyAt (w := w1) (E := 5) (base := w1.heap.size) (Nat.le_refl _))
  clear T b1 HO
  go_wp2_with fail
  refine (pick_tp (by first | with_reducible assumption | exact Tp.alloc (by with_reducible assumption) _ | exact Tp.alloc (Tp.alloc (by with_reducible assumption) _) _ | exact Tp.drewN (by with_reducible assumption) _ | exact Tp.drew (by with_reducible assumption) | exact Tp.drawn (by with_reducible assumption) | exact Tp.alloc (Tp.drewN (by with_reducible assumption) _) _ | exact Tp.alloc (Tp.drew (by with_reducible assumption)) _ | exact Tp.alloc (Tp.alloc (Tp.alloc (by with_reducible assumption) _) _) _) (by omega) _ (by omega) (by omega)).mono ?_
  rintro e w2 ⟨j, rfl, j0, j1, T2, g2⟩
  have HO2 := hide (own_pick HO1.out g2 hR1)
  have hs2 := T2.2.size
  obtain ⟨j, rfl⟩ := Int.eq_ofNat_of_zero_le j0
  have HT2 := hide T2
  clear T0 g2 HO1 T2
  go_wp2_with fail
  go_loopw [5, 6, 7] (fun b at_ k wr => ∃ (i a : Nat) (A' : Option Addr) (l c' : Nat) (zs : List Int), k = .int .i64 i ∧ at_ = .int .i64 a ∧ b = .slice A' l c' ∧ l = zs.length ∧ l + 3 * i ≤ 9 ∧ a ≤ 9 ∧ InR 0 255 zs ∧ wr.ownsRow w1.heap.size 5 1 (.slice A' l c') l (ints .u8 zs) ∧ Tp w1 wr w.heap.size R (1 + 20 * (3 - i : Int)) ∧ w1.heap.size ≤ wr.heap.size) (fun _ _ k _ => (intOf k).toNat)
  case atStart => exact ⟨j, 0, _, 0, _, [], rfl, rfl, rfl, rfl, by omega, by omega, fun x hx => by simp at hx, HO2.out, HT2.out.more (by omega), hs2⟩
  case round =>
    obtain ⟨i, a, A', l, c', zs, rfl, rfl, rfl, hl, hli, ha, hz, ho, T, hsz⟩ := hrel
    subst hl
    have HZ := hide hz
    have HO := hide ho
    clear hz ho HO2 HT2
    by_cases h0 : 0 < i
    · go_wp2_with fail
      refine (code_any (Tp.start T.1) (by omega) _ (by omega) (by omega)).mono ?_
      rintro e w3 ⟨x, y, rfl, _, _, _, _, T3⟩
      have HO3 := hide (own_pick HO.out T3.2 hR1)
      have T3' := Tp.compose T T3
      have hs3 := T3'.2.size
      clear T T3 HO
      go_wp2_with fail
      refine (putCodeS_any x y w3).mono ?_
      rintro e w4 ⟨A4, c4, rfl, o4, b4⟩
      obtain ⟨hpl, hpi⟩ := pcode_bd x y
      have HPI := hide hpi
      have HO4 := hide (own_call b4 HO3.out)
      have HE4 := hide o4
      have T4 := T3'.call b4
      have HT4 := hide T4
      have hs4 := T4.2.size
      clear b4 o4 T3' HO3 hpi T4
      generalize pcode x y = v at *
      go_wp2_with (at_builtin; refine wpList_appO _ rfl (.tmp 19) (.tmp 22) 22 rfl w1.heap.size _ 5 i0 (.int .u8 0) 1 1 Try.underlying22 hi hz0 hz1 hz2 rfl (by decide) _ _ _ _ rfl HE4.out oneI _ _ _ rfl HO4.out ?n1 ?n2 hs4 ?_)
      case n1 => unfold maxLen; omega
      case n2 => omega
      intro A5 n5 c5 w5 hn5 o5 g5
      subst hn5
      rw [ints_app] at o5
      have HO5 := hide o5
      have HT5 := hide (HT4.out.own g5 (fun k hk => ⟨(HO4.out.lt k hk).1, Nat.lt_of_lt_of_le hR1 (HO4.out.lt k hk).1⟩))
      have hs5 := Nat.le_trans hs4 g5.size
      clear o5 g5 HO4 HT4 HE4
      go_wp2_with fail
      refine ⟨⟨i - 1, zs.length, A5, zs.length + v.length, c5, zs ++ v, by go_num, rfl, rfl, by simp, by omega, by omega, fun x hx => ?_, HO5.out, HT5.out.more (by omega), hs5⟩, by simp [intOf]; omega⟩
      rcases List.mem_append.1 hx with hx | hx
      · exact HZ.out x hx
      · exact HPI.out x hx
    · have e : i = 0 := by omega
      subst e
      clear h0
      go_wp2_with fail
      refine (odd_tp (by first | with_reducible assumption | exact Tp.alloc (by with_reducible assumption) _ | exact Tp.alloc (Tp.alloc (by with_reducible assumption) _) _ | exact Tp.drewN (by with_reducible assumption) _ | exact Tp.drew (by with_reducible assumption) | exact Tp.drawn (by with_reducible assumption) | exact Tp.alloc (Tp.drewN (by with_reducible assumption) _) _ | exact Tp.alloc (Tp.drew (by with_reducible assumption)) _ | exact Tp.alloc (Tp.alloc (Tp.alloc (by with_reducible assumption) _) _) _) (by omega) _ (by omega) (by omega)).mono ?_
      rintro e w3 ⟨bo, rfl, T3, g3⟩
      have HO3 := hide (own_pick HO.out g3 hR1)
      clear T g3 HO
      cases bo
      · have HT3 := hide T3
        clear T3
        go_wp2_with fail
        go_ret2
        exact ⟨A', zs, c', _, rfl, by omega, HZ.out, own_base HO3.out HB.out.size, HB.out.trans (HT3.out.below HB.out.size hRl)⟩
      · go_wp2_with fail
        refine (pick_tp (by first | with_reducible assumption | exact Tp.alloc (by with_reducible assumption) _ | exact Tp.alloc (Tp.alloc (by with_reducible assumption) _) _ | exact Tp.drewN (by with_reducible assumption) _ | exact Tp.drew (by with_reducible assumption) | exact Tp.drawn (by with_reducible assumption) | exact Tp.alloc (Tp.drewN (by with_reducible assumption) _) _ | exact Tp.alloc (Tp.drew (by with_reducible assumption)) _ | exact Tp.alloc (Tp.alloc (Tp.alloc (by with_reducible assumption) _) _) _) (by omega) _ (by omega) (by omega)).mono ?_
        rintro e w4 ⟨p, rfl, p0, p1, T4, g4⟩
        have HO4 := hide (own_pick HO3.out g4 hR1)
        have hs4 := T4.2.size
        have HT4 := hide T4
        clear T3 g4 HO3 T4
        by_cases hp0 : p = 0
        · subst hp0
          clear p0 p1
          go_wp2_with (at_builtin; refine wpList_app1 w4 rfl (.tmp 37) (.tmp 38) 22 rfl w1.heap.size 5 i0 (.int .u8 0) 1 1 Try.underlying22 hi hz0 hz1 hz2 rfl (by decide) _ rfl rfl ?o1 _ _ _ rfl HO4.out ?n1 ?n2 hs4 ?_)
          case o1 => rfl
          case n1 => unfold maxLen; omega
          case n2 => omega
          intro A5 n5 c5 w5 hn5 o5 g5
          subst hn5
          have HO5 := hide o5
          have HT5 := hide (HT4.out.own g5 (fun k hk => ⟨(HO4.out.lt k hk).1, Nat.lt_of_lt_of_le hR1 (HO4.out.lt k hk).1⟩))
          clear o5 g5 HO4 HT4
          go_wp2_with fail
          go_ret2
          refine ⟨A5, zs ++ [9], c5, _, by simp; rfl, by simp; omega, fun x hx => ?_, own_base (by simpa using HO5.out) HB.out.size, HB.out.trans (HT5.out.below HB.out.size hRl)⟩
          rcases List.mem_append.1 hx with hx | hx
          · exact HZ.out x hx
          · simp only [List.mem_singleton] at hx; omega
        · by_cases hp1 : p = 1
          · subst hp1
            clear p0 p1 hp0
            by_cases hn0 : zs.length = 0
            · have hnil : zs = [] := List.eq_nil_of_length_eq_zero hn0
              subst hnil
              have HPRE := hide (own_nil HO4.out)
              clear hn0
              cases A' with
              | none =>
                have hc := HPRE.out rfl
                subst hc
                go_wp2_with fail
                go_ret2
                exact ⟨_, [], _, _, rfl, by simp, HZ.out, own_base HO4.out HB.out.size, HB.out.trans (HT4.out.below HB.out.size hRl)⟩
              | some a1 =>
                go_wp2_with fail
                go_ret2
                exact ⟨_, [], _, _, rfl, by simp, HZ.out, own_base HO4.out HB.out.size, HB.out.trans (HT4.out.below HB.out.size hRl)⟩
            · obtain ⟨g, rfl⟩ := own_form HO4.out hn0
              have hcc := own_cap HO4.out
              have hcm := own_capm HO4.out
              unfold maxLen at hcm
              obtain ⟨q, hq⟩ : ∃ q, zs.length = q + 1 := ⟨zs.length - 1, by omega⟩
              have HP := hide (own_prefix HO4.out (show q ≤ zs.length by omega))
              have hqc : q ≤ c' := by omega
              have hl : (zs.take q).length = q := by rw [List.length_take]; omega
              have HL := hide hl
              clear hn0 hl
              by_cases hq0 : q = 0
              · subst hq0
                go_wp2_with fail
                go_ret2
                exact ⟨some ⟨g, 0, none⟩, [], c', _, rfl, by simp, fun x hx => by simp at hx, own_base HP.out HB.out.size, HB.out.trans (HT4.out.below HB.out.size hRl)⟩
              have hq1 : 0 < q := by omega
              clear hq0
              go_wp2_with fail
              go_ret2
              refine ⟨some ⟨g, 0, none⟩, zs.take q, c', _, (by rw [HL.out]; rfl), by rw [HL.out]; omega, fun x hx => HZ.out x (List.mem_of_mem_take hx), ?_, HB.out.trans (HT4.out.below HB.out.size hRl)⟩
              rw [HL.out]
              have := own_base HP.out HB.out.size
              rwa [Nat.mul_one, ← List.map_take] at this
          · have hp2 : p = 2 := by omega
            subst hp2
            clear p0 p1 hp0 hp1
            have T4 := HT4.out
            go_wp2_with fail
            refine (pick_lit T4 (by omega) _ (by omega) (by omega) (by repeat (first | exact List.forall_mem_nil _ | refine List.forall_mem_cons.2 ⟨⟨_, rfl⟩, ?_⟩)) (by simp)).mono ?_
            rintro e w5 ⟨v, rfl, v0, v1, T5, g5, z, hm, hz⟩
            have HO5 := hide (own_pick (HO4.out.alloc _) g5 hR1)
            have HT5 := hide T5
            clear T4 g5 HO4 hm T5 HT4
            go_wp2_with fail
            go_ret2
            exact ⟨A', zs, c', _, rfl, by omega, HZ.out, own_base HO5.out HB.out.size, HB.out.trans (HT5.out.below HB.out.size hRl)⟩
theorem two {w w' : World} {p q : Addr} {x y : Value} {B : Nat} (hb : Below B w w') (hp : p.block < B) (hq : q.block < B) (h : w.cell? p = some x ∧ w.cell? q = some y) : w'.cell? p = some x ∧ w'.cell? q = some y :=
  ⟨(hb.cell hp).trans h.1, (hb.cell hq).trans h.2⟩
set_option maxHeartbeats 4000000 in
theorem walk (A : Option Addr) (zs : List Int) (c : Nat) (hl : zs.length ≤ c) (hc : c ≤ maxLen) (hz : InR 0 255 zs) (w : World) (hr : Rd w w.heap.size A (ints .u8 zs)) :
    Calls Try.prog 17 #[.slice A zs.length c] w (LawEnds w) := by
  have hcm := hc
  unfold maxLen at hcm
  have HD := hide (draw_any hr hz hl hc)
  clear hr hz hc
  by_cases hbig : 1048576 < zs.length
  · go_enter Try.func17, Try.ntmps17
    go_wp2_with fail
    go_ret
    exact ⟨rfl, Below.refl _ _⟩
  go_enter Try.func17, Try.ntmps17
  go_wp2_with fail
  refine HD.out.mono ?_
  rintro e w1 ⟨A1, ys, c1, a, rfl, l1, r1, o1, b1⟩
  have HB := hide b1
  have HO := hide o1
  have HR := hide r1
  have HNO := hide (gcode_no (zs := ys) (at_ := a))
  have HYES := hide (gcode_take (zs := ys) (at_ := a) r1)
  have HG1 := hide (fun (w : World) hr => getCode_any A1 ys c1 a w hr HR.out (by omega))
  have HG2 := hide (fun (w : World) hr => getCodeS_any A1 ys c1 a w hr HR.out (by omega))
  clear b1 o1 r1
  generalize gcode ys a = r at *
  obtain ⟨x, y, nx⟩ := r
  simp only [gval] at HG1 HG2
  dsimp only at HNO HYES
  go_wp2_with fail
  refine (HG1.out w1 (Rd.of_own HO.out)).mono ?_
  rintro e w2 ⟨rfl, b2⟩
  have hb2 := HB.out.trans (b2.mono HB.out.size)
  have HO2 := hide ((own_call b2 HO.out).alloc (.cells #[.int .i64 x, .int .i64 y] 69))
  have HX2 := hide (Box.new w2 69 #[.int .i64 x, .int .i64 y])
  have HB2 := hide (hb2.alloc hb2.size (.cells #[.int .i64 x, .int .i64 y] 69))
  clear b2 hb2 HO HB HG1
  go_wp2_with fail
  refine (HG2.out _ (Rd.of_own HO2.out)).mono ?_
  rintro e w3 ⟨rfl, b3⟩
  have hb3 := HB2.out.trans (b3.mono HB2.out.size)
  have hx3 := HX2.out.call b3
  have HO3 := hide (own_call b3 HO2.out)
  have HX3 := hide hx3
  have HB3 := hide hb3
  have q0 := hx3.cell 0
  have q1 := hx3.cell 1
  have hlt := hx3.lt
  simp only [List.getElem?_toArray, List.getElem?_cons_zero, List.getElem?_cons_succ] at q0 q1
  clear b3 hb3 hx3 HO2 HX2 HB2 HG2
  have HO4 := hide (HO3.out.alloc (.cells #[.int .i64 x, .int .i64 y] 69))
  have HX4 := hide (HX3.out.alloc (.cells #[.int .i64 x, .int .i64 y] 69))
  have HB4 := hide (HB3.out.alloc HB3.out.size (.cells #[.int .i64 x, .int .i64 y] 69))
  clear HO3 HX3 HB3
  by_cases hneg : nx < 0
  · have he := HNO.out hneg
    simp only [Prod.mk.injEq] at he
    obtain ⟨rfl, rfl, rfl⟩ := he
    clear HNO HYES hneg HO4 HX4
    go_wp2_with fail
    refine (alive_any _).mono ?_
    rintro e w' ⟨rfl, rfl⟩
    go_wp2_with fail
    go_ret
    exact ⟨rfl, HB4.out⟩
  · obtain ⟨k, j, rfl, hj, hkj, rfl, hpc⟩ := HYES.out (by omega)
    have HPC := hide hpc
    clear HNO HYES hneg hpc
    obtain ⟨g, rfl⟩ := own_form HO4.out (by omega)
    have hcap := own_cap HO4.out
    obtain ⟨hrs, hls⟩ := (Rd.of_own HO4.out).slice k j (by omega)
    simp only [Nat.zero_add] at hrs
    obtain ⟨m, hm⟩ : ∃ m, k + j = m := ⟨_, rfl⟩
    rw [hm] at hkj ⊢
    have hj' : j = m - k := by omega
    subst hj'
    have HLV := hide hls
    have HRS := hide hrs
    generalize (ys.drop k).take (m - k) = v at *
    clear hrs hls hm
    have hkm : k < m := by omega
    have hvM : v.length ≤ maxLen := by rw [HLV.out]; unfold maxLen; omega
    have HVM := hide hvM
    have d0 : decide (k < m) = true := decide_eq_true hkm
    have d1 : decide (m ≤ ys.length) = true := decide_eq_true hkj
    have f1 : (k : Int) ≤ (m : Int) := by omega
    have f2 : (m : Int) ≤ (c1 : Int) := by omega
    have f3 : m ≤ c1 := by omega
    have f4 : k ≤ m := by omega
    have f6 : k < c1 := by omega
    have HS0 := hide (fun (A5 : Option Addr) (c5 c' : Nat) (w : World) hr hr' => sameBytes_any A5 (some ⟨g, k, none⟩) v v c5 c' w.heap.size w hr hr' HVM.out HVM.out)
    rw [HLV.out] at HS0
    clear hvM hj
    go_wp2_with fail
    have HX := hide HX4.out
    have Z4 : (w3.alloc (.cells #[.int .i64 x, .int .i64 y] 69)).cell? ⟨w2.heap.size, 0, none⟩ = some (.int .i64 x) ∧ (w3.alloc (.cells #[.int .i64 x, .int .i64 y] 69)).cell? ⟨w2.heap.size, 1, none⟩ = some (.int .i64 y) := ⟨HX4.out.cell 0, HX4.out.cell 1⟩
    have hlt4 := HX4.out.lt
    clear q0 q1 hlt HX4 HX
    generalize w3.alloc (.cells #[.int .i64 x, .int .i64 y] 69) = w4 at *
    go_region_held3 (fun (W : World) => W.cell? ⟨w2.heap.size, 0, none⟩ = some (.int .i64 x) ∧ W.cell? ⟨w2.heap.size, 1, none⟩ = some (.int .i64 y)) (first | exact Z4 | exact Z5) (first | (go_at_call 67; refine (putCode_any x y _).mono ?_; rw [HPC.out]; rintro e w5 ⟨A5, c5, rfl, o5, b5⟩; rw [HLV.out]; have HB5 := hide (below_drawn b5); have HR5 := hide (Rd.of_own o5); have Z5 := two HB5.out hlt4 hlt4 Z4; clear o5 b5) | (go_at_call 49; refine (HS0.out A5 c5 _ _ (by exact HR5.out) (by exact (HRS.out.below HB5.out).more HB5.out.size)).mono ?_; rintro e w' ⟨rfl, n, rfl⟩; rw [beq_self_eq_true]))
    have HB6 := hide (Kit.Below.drewN (HB4.out.trans (HB5.out.mono HB4.out.size)) n)
    clear Z4 Z5 d0 d1 f1 f2 f3 f4 f6
    go_wp2_with fail
    go_ret
    exact ⟨rfl, HB6.out⟩
end Go.Proofs.Ytndnmbhhfiacaaa.WFnGetCode
