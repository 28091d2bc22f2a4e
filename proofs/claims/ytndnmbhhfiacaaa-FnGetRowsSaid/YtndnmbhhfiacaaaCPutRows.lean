/- Contracts of PutRows, the program's and the reference's. -/
import Derived.Test.YtndnmbhhfiacaaaCRowsValid
import Derived.Test.YtndnmbhhfiacaaaPRows
import Derived.Test.YtndnmbhhfiacaaaBase3
import Derived.Deep.RegionHeld3
namespace Go.Proofs.Ytndnmbhhfiacaaa.CPutRows
set_option maxRecDepth 200000
open Go.ChangeShapes Go.WideShapes Go.ChangeAt Go.RowKit Kit CCode CRows CRowsValid CPutVar CZig PRows
def prows (zs : List D) : List Int := if rowsOk zs then prs (0, 0) zs else []
theorem rowsOk_len {zs : List D} (h : rowsOk zs = true) : zs.length ≤ 12 := by
  unfold rowsOk at h
  rw [Bool.and_eq_true] at h
  exact of_decide_eq_true h.2
theorem rowsOk_at {zs : List D} (h : rowsOk zs = true) {k : Nat} (hk : k < zs.length) : 0 ≤ zs[k].1 ∧ zs[k].1 ≤ 60000 ∧ 1 ≤ zs[k].2 ∧ zs[k].2 ≤ 9999 ∧ (k = 0 ∨ (zs.getD (k - 1) (0, 0)).1 < zs[k].1) := by
  unfold rowsOk at h
  rw [Bool.and_eq_true, List.all_eq_true] at h
  have h1 := h.1 k (by simpa using hk)
  unfold rowOk at h1
  rw [List.getElem?_eq_getElem hk] at h1
  simp only [inB, Bool.and_eq_true, Bool.or_eq_true, beq_iff_eq, decide_eq_true_eq] at h1
  obtain ⟨⟨⟨a, b⟩, c, d⟩, e⟩ := h1
  exact ⟨a, b, c, d, e⟩
theorem putRows_bd (zs : List D) : (prows zs).length ≤ 96 ∧ InR 0 255 (prows zs) := by
  unfold prows
  cases h : rowsOk zs
  · exact ⟨by simp, fun x hx => by simp at hx⟩
  · have := rowsOk_len h
    obtain ⟨h1, h2⟩ := prs_bd (0, 0) zs
    simp only [if_true]
    exact ⟨by omega, h2⟩
theorem info8 : (Try.prog.info? 5).map (fun i => (i.zero, i.size, i.bytes)) = some (some (.int .u8 0), 1, 1) := by kernel_rfl
/-- The row before the k-th one. -/
def lastR (zs : List D) (k : Nat) : D := if k = 0 then (0, 0) else zs.getD (k - 1) (0, 0)
theorem lastR_succ {zs : List D} {k : Nat} (h : k < zs.length) : lastR zs (k + 1) = zs[k] := by
  unfold lastR
  rw [if_neg (by omega), Nat.add_sub_cancel, List.getD_eq_getElem?_getD, List.getElem?_eq_getElem h]
  rfl
theorem lastR_bd {zs : List D} (h : rowsOk zs = true) {k : Nat} (hk : k ≤ zs.length) : 0 ≤ (lastR zs k).1 ∧ (lastR zs k).1 ≤ 60000 ∧ 0 ≤ (lastR zs k).2 ∧ (lastR zs k).2 ≤ 9999 := by
  cases k with
  | zero => simp [lastR]
  | succ k =>
    rw [lastR_succ (by omega)]
    have := rowsOk_at h (k := k) (by omega)
    omega
theorem prs_step {zs : List D} {k : Nat} {pre : List Int} {T : List Int} (h : k < zs.length) (hT : T = pre ++ prs (lastR zs k) (zs.drop k)) : T = ((pre ++ var (zs[k].1 - (lastR zs k).1)) ++ var (zig (zs[k].2 - (lastR zs k).2))) ++ prs (lastR zs (k + 1)) (zs.drop (k + 1)) := by
  rw [hT, List.drop_eq_getElem_cons h, prs, prow, lastR_succ h]
  simp [List.append_assoc]
theorem putRows_any (A : Option Addr) (zs : List D) (c : Nat) (w : World) (hr : Rd w w.heap.size A (cellsOf rowC zs)) (hm : zs.length ≤ maxLen) :
    Calls Try.prog 76 #[.slice A zs.length c] w (RetInts 5 .u8 (prows zs) w) := by
  obtain ⟨i0, hi, hz0, hz1, hz2⟩ := info_parts info8
  have hm' := hm
  unfold maxLen at hm'
  have ho0 := hide (own_empty (w := w) (E := 5))
  have hb0 : Hid (Below w.heap.size w (w.alloc (.cells #[] 5))) := (by repeat (first | exact Below.refl _ _ | with_reducible assumption | (refine Below.drew ?_) | (refine Below.drewN ?_ _) | (refine Below.alloc ?_ (by simp; try omega) _) | (refine Below.setCell ?_ (by simp; try omega) _)))
  cases hv : rowsOk zs
  · have HT := hide (show prows zs = [] by rw [prows, hv]; rfl)
    have HV := hide hv
    clear hv
    go_enter Try.func76, Try.ntmps76
    go_wp2_with fail
    refine (rowsValid_any A zs c _ ((hr.below hb0.out).more hb0.out.size) hm).mono ?_
    rintro e w1 ⟨rfl, hb1⟩
    rw [HV.out]
    have HO := hide (own_call hb1 ho0.out)
    have HB := hide (hb0.out.trans (hb1.mono hb0.out.size))
    clear ho0 hb0 hb1
    go_wp2_with fail
    go_ret
    exact HT.out ▸ RetInts.mk rfl HO.out HB.out
  · have HT := hide (show prows zs = prs (0, 0) zs by rw [prows, hv]; rfl)
    generalize prows zs = T at *
    have HV := hide hv
    have h12 := rowsOk_len hv
    clear hv
    go_enter Try.func76, Try.ntmps76
    go_wp2_with fail
    refine (rowsValid_any A zs c _ ((hr.below hb0.out).more hb0.out.size) hm).mono ?_
    rintro e w1 ⟨rfl, hb1⟩
    rw [HV.out]
    have HO := hide (own_call hb1 ho0.out)
    have HB := hide (hb0.out.trans (hb1.mono hb0.out.size))
    clear ho0 hb0 hb1
    go_wp2_with fail
    have HX := hide ((Box.new w1 31 #[.int .i64 0, .int .i64 0]))
    have HO1 := hide (HO.out.alloc (.cells #[.int .i64 0, .int .i64 0] 31))
    have HB1 : Hid (Below w.heap.size w (w1.alloc (.cells #[.int .i64 0, .int .i64 0] 31))) := HB.out.alloc HB.out.size _
    have HLB := hide (fun k hk => lastR_bd HV.out (k := k) hk)
    have HAT := hide (fun k hk => rowsOk_at HV.out (k := k) hk)
    have hwX0 := HB.out.size
    clear HO HB
    generalize w1.heap.size = X at *
    generalize w1.alloc (.cells #[.int .i64 0, .int .i64 0] 31) = w2 at *
    go_loopw [3, 15] (fun o i wr => ∃ (k : Nat) (pre : List Int) (A' : Option Addr) (l c' : Nat), k ≤ zs.length ∧ i = .int .i64 k ∧ o = .slice A' l c' ∧ l = pre.length ∧ l ≤ 8 * k ∧ T = pre ++ prs (lastR zs k) (zs.drop k) ∧ wr.ownsRow w.heap.size 5 1 (.slice A' l c') l (ints .u8 pre) ∧ Box wr X 31 #[.int .i64 (lastR zs k).1, .int .i64 (lastR zs k).2] ∧ w.heap.size ≤ X ∧ Below w.heap.size w wr) (fun _ i _ => zs.length - (intOf i).toNat)
    case atStart => exact ⟨0, [], _, 0, _, Nat.zero_le _, rfl, rfl, rfl, Nat.zero_le _, by rw [HT.out]; rfl, HO1.out, HX.out, hwX0, HB1.out⟩
    case round =>
      obtain ⟨k, pre, A', l, c', hk, rfl, rfl, hl, hl8, hT, ho, hx, hwX, hb⟩ := hrel
      have HL := hide hl
      have HTT := hide hT
      have HO := hide ho
      have HB := hide hb
      have HBX := hide hx
      have HR := hide hr
      clear hl hT ho hb hx HT HO1 HB1 HX hr
      by_cases hlt : k < zs.length
      · obtain ⟨b, off, rfl, hbg, hc⟩ := (HR.out.below HB.out).row rowC_len (by decide) hlt
        have hc0 := hc 0 _ rfl
        have hc1 := hc 1 _ rfl
        simp only [Nat.add_zero] at hc0
        have HTX := hide (prs_step hlt HTT.out)
        obtain ⟨p0, p1, p2, p3⟩ := HLB.out k (by omega)
        obtain ⟨z0, z1, z2, z3, _⟩ := HAT.out k hlt
        have HZ := hide (lastR_succ hlt)
        have q0 := HBX.out.cell 0
        have q1 := HBX.out.cell 1
        simp only [List.getElem?_toArray, List.getElem?_cons_zero, List.getElem?_cons_succ] at q0 q1
        have hXs := HBX.out.lt
        clear hc HTT HV
        generalize lastR zs k = p at *
        generalize zs[k] = z at *
        have hv1 := var_len4 (z.1 - p.1)
        have hv2 := var_len4 (zig (z.2 - p.2))
        have oa := HO.out.alloc (.cells #[.int .i64 z.1, .int .i64 z.2] 31)
        have ba : Below w.heap.size w (wr.alloc (.cells #[.int .i64 z.1, .int .i64 z.2] 31)) := HB.out.alloc HB.out.size _
        have xa := HBX.out.alloc (.cells #[.int .i64 z.1, .int .i64 z.2] 31)
        have ra := Box.new wr 31 #[.int .i64 z.1, .int .i64 z.2]
        have HF := hide (And.intro oa (And.intro ba (And.intro xa ra)))
        clear oa ba xa ra
        go_wp2_with fail
        refine (putVar_any _ _).mono ?_
        rintro e w3 ⟨A3, c3, rfl, o3, b3⟩
        obtain ⟨oa, ba, xa, ra⟩ := HF.out
        have oa := own_call b3 oa
        have xa := xa.call b3
        have ra := ra.call b3
        have ba := ba.trans (b3.mono ba.size)
        have HO3 := hide o3
        have HF := hide (And.intro oa (And.intro ba (And.intro xa ra)))
        clear oa xa ra ba b3 o3 q0 q1
        go_wp2_with (at_builtin; refine wpList_appO w3 rfl (.tmp 19) (.tmp 25) 22 rfl w.heap.size _ 5 i0 (.int .u8 0) 1 1 Try.underlying22 hi hz0 hz1 hz2 rfl (by decide) _ _ _ _ rfl HO3.out oneI _ _ _ rfl HF.out.1 ?n1 ?n2 ?n3 ?_)
        case n1 => unfold maxLen; omega
        case n2 => omega
        case n3 => exact HF.out.2.1.size
        intro A4 n4 c4 w4 hn4 o4 g4
        subst hn4
        obtain ⟨oa, ba, xa, ra⟩ := HF.out
        have x4 := xa.grown g4 (own_box oa xa (by decide))
        have r4 := ra.grown g4 (own_box oa ra (by decide))
        have b4 := ba.grown g4 ba.size (fun k hk => (oa.lt k hk).1)
        have HF4 := hide (And.intro o4 (And.intro b4 (And.intro x4 r4)))
        clear oa ba xa ra o4 b4 x4 r4 g4 HO3 HF
        have q1 := HF4.out.2.2.1.cell 1
        have s1 := HF4.out.2.2.2.cell 1
        simp only [List.getElem?_toArray, List.getElem?_cons_zero, List.getElem?_cons_succ] at q1 s1
        go_wp2_with fail
        refine (zigZag_any _ _).mono ?_
        rintro e w' ⟨rfl, rfl⟩
        go_wp2_with fail
        refine (putVar_any _ _).mono ?_
        rintro e w5 ⟨A5, c5, rfl, o5, b5⟩
        obtain ⟨oa, ba, xa, ra⟩ := HF4.out
        have oa := own_call b5 oa
        have xa := xa.call b5
        have ra := ra.call b5
        have ba := ba.trans (b5.mono ba.size)
        have HO5 := hide o5
        have HF := hide (And.intro oa (And.intro ba (And.intro xa ra)))
        clear oa xa ra ba b5 o5 q1 s1 HF4
        go_wp2_with (at_builtin; refine wpList_appO w5 rfl (.tmp 27) (.tmp 34) 22 rfl w.heap.size _ 5 i0 (.int .u8 0) 1 1 Try.underlying22 hi hz0 hz1 hz2 rfl (by decide) _ _ _ _ rfl HO5.out oneI _ _ _ rfl HF.out.1 ?n1 ?n2 ?n3 ?_)
        case n1 => unfold maxLen; omega
        case n2 => omega
        case n3 => exact HF.out.2.1.size
        intro A6 n6 c6 w6 hn6 o6 g6
        subst hn6
        obtain ⟨oa, ba, xa, ra⟩ := HF.out
        have x6 := xa.grown g6 (own_box oa xa (by decide))
        have r6 := ra.grown g6 (own_box oa ra (by decide))
        have b6 := ba.grown g6 ba.size (fun k hk => (oa.lt k hk).1)
        have HO6 := hide (And.intro o6 (own_box o6 x6 (by decide)))
        have HF6 := hide (And.intro b6 (And.intro x6 r6))
        clear oa ba xa ra o6 b6 x6 r6 g6 HO5 HF
        have s0 := HF6.out.2.2.cell 0
        have s1 := HF6.out.2.2.cell 1
        have q0 := HF6.out.2.1.cell 0
        have q1 := HF6.out.2.1.cell 1
        have f0 := HF6.out.2.1.frozen 0
        have f1 := HF6.out.2.1.frozen 1
        simp only [List.getElem?_toArray, List.getElem?_cons_zero, List.getElem?_cons_succ] at q0 q1 s0 s1
        go_wp2_with fail
        refine ⟨⟨k + 1, (pre ++ var (z.1 - p.1)) ++ var (zig (z.2 - p.2)), A6, _, c6, by omega, by go_num, rfl, by rw [HL.out]; simp [Nat.add_assoc], by omega, HTX.out, ?_, ?_, hwX, ?_⟩, by simp [intOf]; omega⟩
        · have h := own_setFar (own_setFar HO6.out.1 (a := ⟨X, 0, none⟩) HO6.out.2 (.int .i64 z.1)) (a := ⟨X, 1, none⟩) HO6.out.2 (.int .i64 z.2)
          simpa [ints] using h
        · rw [HZ.out]
          exact (HF6.out.2.1.set 0 _).set 1 _
        · exact (HF6.out.1.setCell hwX _).setCell hwX _
      · have HE := hide (show T = pre by rw [HTT.out, List.drop_eq_nil_of_le (by omega)]; simp [prs])
        clear HTT
        go_wp2_with fail
        go_ret
        exact HE.out ▸ RetInts.mk HL.out HO.out HB.out
theorem putRowsS_any (A : Option Addr) (zs : List D) (c : Nat) (w : World) (hr : Rd w w.heap.size A (cellsOf rowC zs)) (hm : zs.length ≤ maxLen) :
    Calls Try.prog 77 #[.slice A zs.length c] w (RetInts 5 .u8 (prows zs) w) := by
  obtain ⟨i0, hi, hz0, hz1, hz2⟩ := info_parts info8
  have hm' := hm
  unfold maxLen at hm'
  have ho0 := hide (own_empty (w := w) (E := 5))
  have hb0 : Hid (Below w.heap.size w (w.alloc (.cells #[] 5))) := (by repeat (first | exact Below.refl _ _ | with_reducible assumption | (refine Below.drew ?_) | (refine Below.drewN ?_ _) | (refine Below.alloc ?_ (by simp; try omega) _) | (refine Below.setCell ?_ (by simp; try omega) _)))
  cases hv : rowsOk zs
  · have HT := hide (show prows zs = [] by rw [prows, hv]; rfl)
    have HV := hide hv
    clear hv
    go_enter Try.func77, Try.ntmps77
    go_wp2_with fail
    have b2 : Hid (Below w.heap.size w ((w.alloc (.cells #[] 5)).alloc (.cells #[.int .i64 0, .int .i64 0] 31))) := (by repeat (first | exact Below.refl _ _ | with_reducible assumption | (refine Below.drew ?_) | (refine Below.drewN ?_ _) | (refine Below.alloc ?_ (by simp; try omega) _) | (refine Below.setCell ?_ (by simp; try omega) _)))
    have o2 := hide (ho0.out.alloc (.cells #[.int .i64 0, .int .i64 0] 31))
    refine wp_loop_once ?_
    by_cases hlt : 0 < zs.length
    · go_wp2_with fail
      refine (rowsValidS_any A zs c _ ((hr.below b2.out).more b2.out.size) hm).mono ?_
      rintro e w1 ⟨rfl, hb1⟩
      rw [HV.out]
      have HO := hide (own_call hb1 o2.out)
      have HB := hide (b2.out.trans (hb1.mono b2.out.size))
      clear ho0 hb0 hb1 b2 o2
      go_wp2_with fail
      go_ret
      exact HT.out ▸ RetInts.mk rfl HO.out HB.out
    · go_wp2_with fail
      go_ret
      exact HT.out ▸ RetInts.mk rfl o2.out b2.out
  · have HT := hide (show prows zs = prs (0, 0) zs by rw [prows, hv]; rfl)
    generalize prows zs = T at *
    have HV := hide hv
    have h12 := rowsOk_len hv
    clear hv
    go_enter Try.func77, Try.ntmps77
    go_wp2_with fail
    have HX : Hid (Box ((w.alloc (.cells #[] 5)).alloc (.cells #[.int .i64 0, .int .i64 0] 31)) (w.heap.size + 1) 31 #[.int .i64 0, .int .i64 0]) := by
      have h := Box.new (w.alloc (.cells #[] 5)) 31 #[.int .i64 0, .int .i64 0]
      rwa [show (w.alloc (.cells #[] 5)).heap.size = w.heap.size + 1 by simp] at h
    have HO1 := hide (ho0.out.alloc (.cells #[.int .i64 0, .int .i64 0] 31))
    have HB1 : Hid (Below w.heap.size w ((w.alloc (.cells #[] 5)).alloc (.cells #[.int .i64 0, .int .i64 0] 31))) := (by repeat (first | exact Below.refl _ _ | with_reducible assumption | (refine Below.drew ?_) | (refine Below.drewN ?_ _) | (refine Below.alloc ?_ (by simp; try omega) _) | (refine Below.setCell ?_ (by simp; try omega) _)))
    have HLB := hide (fun k hk => lastR_bd HV.out (k := k) hk)
    have HAT := hide (fun k hk => rowsOk_at HV.out (k := k) hk)
    have HM := hide hm
    have hwX0 : w.heap.size ≤ w.heap.size + 1 := by omega
    clear ho0 hb0 hm
    generalize w.heap.size + 1 = X at *
    generalize (w.alloc (.cells #[] 5)).alloc (.cells #[.int .i64 0, .int .i64 0] 31) = w2 at *
    go_loopw [3, 5] (fun o i wr => ∃ (k : Nat) (pre : List Int) (A' : Option Addr) (l c' : Nat), k ≤ zs.length ∧ i = .int .i64 k ∧ o = .slice A' l c' ∧ l = pre.length ∧ l ≤ 8 * k ∧ T = pre ++ prs (lastR zs k) (zs.drop k) ∧ wr.ownsRow w.heap.size 5 1 (.slice A' l c') l (ints .u8 pre) ∧ Box wr X 31 #[.int .i64 (lastR zs k).1, .int .i64 (lastR zs k).2] ∧ w.heap.size ≤ X ∧ Below w.heap.size w wr) (fun _ i _ => zs.length - (intOf i).toNat)
    case atStart => exact ⟨0, [], _, 0, _, Nat.zero_le _, rfl, rfl, rfl, Nat.zero_le _, by rw [HT.out]; rfl, HO1.out, HX.out, hwX0, HB1.out⟩
    case round =>
      obtain ⟨k, pre, A', l, c', hk, rfl, rfl, hl, hl8, hT, ho, hx, hwX, hb⟩ := hrel
      have HL := hide hl
      have HTT := hide hT
      have HO := hide ho
      have HB := hide hb
      have HBX := hide hx
      have HR := hide hr
      clear hl hT ho hb hx HT HO1 HB1 HX hr
      by_cases hlt : k < zs.length
      · go_wp2_with fail
        refine (rowsValidS_any A zs c _ ((HR.out.below HB.out).more HB.out.size) HM.out).mono ?_
        rintro e wv ⟨rfl, bv⟩
        rw [HV.out]
        have ov := own_call bv HO.out
        have xv := HBX.out.call bv
        have bv := HB.out.trans (bv.mono HB.out.size)
        have HF := hide (And.intro ov (And.intro bv xv))
        clear ov xv bv HO HB HBX
        obtain ⟨b, off, rfl, hbg, hc⟩ := (HR.out.below HF.out.2.1).row rowC_len (by decide) hlt
        have hc0 := hc 0 _ rfl
        have hc1 := hc 1 _ rfl
        simp only [Nat.add_zero] at hc0
        have HTX := hide (prs_step hlt HTT.out)
        obtain ⟨p0, p1, p2, p3⟩ := HLB.out k (by omega)
        obtain ⟨z0, z1, z2, z3, _⟩ := HAT.out k hlt
        have HZ := hide (lastR_succ hlt)
        have q0 := HF.out.2.2.cell 0
        have q1 := HF.out.2.2.cell 1
        simp only [List.getElem?_toArray, List.getElem?_cons_zero, List.getElem?_cons_succ] at q0 q1
        clear hc HTT HV
        generalize lastR zs k = p at *
        generalize zs[k] = z at *
        have hv1 := var_len4 (z.1 - p.1)
        have hv2 := var_len4 (zig (z.2 - p.2))
        go_wp2_with fail
        have e1 : IntKind.i64.wrap (z.1 - p.1) = z.1 - p.1 := IntWalk.i64_in _ (by omega)
        have hn1 : l + (var (z.1 - p.1)).length ≤ maxLen := by unfold maxLen; omega
        have hn2 : (l + (var (z.1 - p.1)).length) * 1 ≤ 140737488355328 := by omega
        go_region_held3 (fun (W : World) => W.cell? ⟨b, off + k * 2, none⟩ = some (.int .i64 z.1) ∧ W.cell? ⟨X, 0, none⟩ = some (.int .i64 p.1)) (first | exact ⟨hc0, q0⟩ | exact H1.out | exact H2.out) (first | (go_at_call 50; refine (putVarS_any _ _).mono ?_; (try rw [e1]); rintro e w3 ⟨A3, c3, rfl, o3, b3⟩; have b3 := below_drawn b3; have H1 := hide (And.intro ((Below.cell b3 (p := ⟨b, off + k * 2, none⟩) (Nat.lt_of_lt_of_le hbg HF.out.2.1.size)).trans hc0) ((Below.cell b3 (p := ⟨X, 0, none⟩) HF.out.2.2.lt).trans q0)); have H3 := hide (And.intro o3 b3); have HO3 := hide (own_call b3 HF.out.1); have HX3 := hide (HF.out.2.2.call b3); clear o3 b3) | (refine step_appO (by rfl) _ _ 22 (by rfl) w.heap.size _ 5 i0 (.int .u8 0) 1 1 Try.underlying22 hi hz0 hz1 hz2 rfl (by decide) _ _ _ _ (by rfl) H3.out.1 oneI _ _ _ (by rfl) HO3.out hn1 hn2 (Nat.le_trans HF.out.2.1.size H3.out.2.size) ?_; intro A4 n4 c4 w4 hn4 o4 g4; have H2 := hide (And.intro ((grown_cell g4 (a := ⟨b, off + k * 2, none⟩) (Nat.lt_of_lt_of_le hbg (Nat.le_trans HF.out.2.1.size H3.out.2.size)) (fun k hk => by have h1 := (HO3.out.lt k hk).1; show k ≠ b; omega)).trans H1.out.1) ((grown_cell g4 (a := ⟨X, 0, none⟩) HX3.out.lt (own_box HO3.out HX3.out (by decide))).trans H1.out.2)); have H4 := hide (And.intro o4 g4); clear o4 g4))
        subst hn4
        have ba := HF.out.2.1.trans (H3.out.2.mono HF.out.2.1.size)
        have x4 := HX3.out.grown H4.out.2 (own_box HO3.out HX3.out (by decide))
        have b4 := ba.grown H4.out.2 ba.size (fun k hk => (HO3.out.lt k hk).1)
        have hc1' := (Below.cell H3.out.2 (p := ⟨b, off + k * 2 + 1, none⟩) (Nat.lt_of_lt_of_le hbg HF.out.2.1.size)).trans hc1
        have hc1 := (grown_cell H4.out.2 (a := ⟨b, off + k * 2 + 1, none⟩) (Nat.lt_of_lt_of_le hbg ba.size) (fun k hk => by have h1 := (HO3.out.lt k hk).1; show k ≠ b; omega)).trans hc1'
        have hc0 := H2.out.1
        have HF4 := hide (And.intro H4.out.1 (And.intro b4 x4))
        clear ba x4 b4 H1 H2 H3 H4 HO3 HX3 HF hc1' hn1 hn2 q0 q1
        have q1 := HF4.out.2.2.cell 1
        simp only [List.getElem?_toArray, List.getElem?_cons_zero, List.getElem?_cons_succ] at q1
        have e2 : IntKind.i64.wrap (z.2 - p.2) = z.2 - p.2 := IntWalk.i64_in _ (by omega)
        have hn1 : l + (var (z.1 - p.1)).length + (var (zig (z.2 - p.2))).length ≤ maxLen := by unfold maxLen; omega
        have hn2 : (l + (var (z.1 - p.1)).length + (var (zig (z.2 - p.2))).length) * 1 ≤ 140737488355328 := by omega
        go_wp2_with fail
        go_region_held3 (fun (W : World) => W.cell? ⟨b, off + k * 2 + 1, none⟩ = some (.int .i64 z.2) ∧ W.cell? ⟨X, 1, none⟩ = some (.int .i64 p.2)) (first | exact ⟨hc1, q1⟩ | exact H1.out | exact H2.out) (first | (go_at_call 133; refine (zigZagS_any _ _).mono ?_; (try rw [e2]); rintro e w' ⟨rfl, rfl⟩) | (go_at_call 50; refine (putVarS_any _ _).mono ?_; rintro e w5 ⟨A5, c5, rfl, o5, b5⟩; have b5 := below_drawn b5; have H1 := hide (And.intro ((Below.cell b5 (p := ⟨b, off + k * 2 + 1, none⟩) (Nat.lt_of_lt_of_le hbg HF4.out.2.1.size)).trans hc1) ((Below.cell b5 (p := ⟨X, 1, none⟩) HF4.out.2.2.lt).trans q1)); have H3 := hide (And.intro o5 b5); have HO3 := hide (own_call b5 HF4.out.1); have HX3 := hide (HF4.out.2.2.call b5); clear o5 b5) | (refine step_appO (by rfl) _ _ 22 (by rfl) w.heap.size _ 5 i0 (.int .u8 0) 1 1 Try.underlying22 hi hz0 hz1 hz2 rfl (by decide) _ _ _ _ (by rfl) H3.out.1 oneI _ _ _ (by rfl) HO3.out hn1 hn2 (Nat.le_trans HF4.out.2.1.size H3.out.2.size) ?_; intro A6 n6 c6 w6 hn6 o6 g6; have H2 := hide (And.intro ((grown_cell g6 (a := ⟨b, off + k * 2 + 1, none⟩) (Nat.lt_of_lt_of_le hbg (Nat.le_trans HF4.out.2.1.size H3.out.2.size)) (fun k hk => by have h1 := (HO3.out.lt k hk).1; show k ≠ b; omega)).trans H1.out.1) ((grown_cell g6 (a := ⟨X, 1, none⟩) HX3.out.lt (own_box HO3.out HX3.out (by decide))).trans H1.out.2)); have H4 := hide (And.intro o6 g6); clear o6 g6))
        subst hn6
        have ba := HF4.out.2.1.trans (H3.out.2.mono HF4.out.2.1.size)
        have x6 := HX3.out.grown H4.out.2 (own_box HO3.out HX3.out (by decide))
        have b6 := ba.grown H4.out.2 ba.size (fun k hk => (HO3.out.lt k hk).1)
        have hc0' := (Below.cell H3.out.2 (p := ⟨b, off + k * 2, none⟩) (Nat.lt_of_lt_of_le hbg HF4.out.2.1.size)).trans hc0
        have hc0 := (grown_cell H4.out.2 (a := ⟨b, off + k * 2, none⟩) (Nat.lt_of_lt_of_le hbg ba.size) (fun k hk => by have h1 := (HO3.out.lt k hk).1; show k ≠ b; omega)).trans hc0'
        have hc1 := H2.out.1
        have HO6 := hide (And.intro H4.out.1 (own_box H4.out.1 x6 (by decide)))
        have HF6 := hide (And.intro b6 x6)
        clear ba x6 b6 H1 H2 H3 H4 HO3 HX3 HF4 hc0' hn1 hn2 q1
        have q0 := HF6.out.2.cell 0
        have q1 := HF6.out.2.cell 1
        have f0 := HF6.out.2.frozen 0
        have f1 := HF6.out.2.frozen 1
        simp only [List.getElem?_toArray, List.getElem?_cons_zero, List.getElem?_cons_succ] at q0 q1
        go_wp2_with fail
        refine ⟨⟨k + 1, (pre ++ var (z.1 - p.1)) ++ var (zig (z.2 - p.2)), A6, _, c6, by omega, by go_num, rfl, by rw [HL.out]; simp [Nat.add_assoc], by omega, HTX.out, ?_, ?_, hwX, ?_⟩, by simp [intOf]; omega⟩
        · have h := own_setFar (own_setFar HO6.out.1 (a := ⟨X, 0, none⟩) HO6.out.2 (.int .i64 z.1)) (a := ⟨X, 1, none⟩) HO6.out.2 (.int .i64 z.2)
          simpa [ints] using h
        · rw [HZ.out]
          exact (HF6.out.2.set 0 _).set 1 _
        · exact (HF6.out.1.setCell hwX _).setCell hwX _
      · have HE := hide (show T = pre by rw [HTT.out, List.drop_eq_nil_of_le (by omega)]; simp [prs])
        clear HTT
        go_wp2_with fail
        go_ret
        exact HE.out ▸ RetInts.mk HL.out HO.out HB.out
end Go.Proofs.Ytndnmbhhfiacaaa.CPutRows
