/- Contracts of UnwindStack, the program's and the reference's. -/
import Derived.Test.YtndnmbhhfiacaaaCFramesValid
import Derived.Test.YtndnmbhhfiacaaaCInts
import Derived.Test.YtndnmbhhfiacaaaBase2
namespace Go.Proofs.Ytndnmbhhfiacaaa.CUnwind
set_option maxRecDepth 200000
open Go.ChangeShapes Go.WideShapes Go.ChangeAt Go.RowKit Kit CCode CFrames CFramesValid
def unw (zs : List D) : Nat → Int → List Int → List Int
  | 0, _, _ => []
  | f + 1, a, r => if frameOf zs a < 0 then [] else
      let n := (zs.getD (frameOf zs a).toNat (0, 0, 0)).2.2.toNat
      a :: (if h : n < r.length then unw zs f r[n] (r.drop (n + 1)) else [])
def unwound (zs : List D) (st : List Int) (a : Int) : List Int := if st.length ≤ 40 then unw zs (st.length + 1) a st else []
theorem unw_len (zs : List D) : ∀ (f : Nat) (a : Int) (r : List Int), (unw zs f a r).length ≤ f
  | 0, _, _ => Nat.zero_le _
  | f + 1, a, r => by
    rw [unw]
    split
    · exact Nat.zero_le _
    · simp only [List.length_cons]
      split
      · exact Nat.succ_le_succ (unw_len zs f _ _)
      · exact Nat.succ_le_succ (Nat.zero_le _)
theorem unwound_len (zs : List D) (st : List Int) (a : Int) : (unwound zs st a).length ≤ 41 := by
  unfold unwound
  split
  · exact Nat.le_trans (unw_len ..) (by omega)
  · exact Nat.zero_le _
theorem frameIx_ge {zs : List D} {a : Int} (h : 0 ≤ frameIx zs a) : ∃ j, j < zs.length ∧ frameIx zs a = j := by
  unfold frameIx at *
  cases hx : zs.findIdx? (hitF a) with
  | none => rw [hx] at h; simp at h
  | some k => exact ⟨k, (List.findIdx?_eq_some_iff_getElem.1 hx).1, by simp⟩
theorem frameOf_ge {zs : List D} {a : Int} (h : 0 ≤ frameOf zs a) : ∃ (j : Nat) (hj : j < zs.length) (n : Nat), frameOf zs a = j ∧ zs[j].2.2 = (n : Int) ∧ n ≤ 40 := by
  unfold frameOf at *
  cases hv : framesOk zs
  · rw [hv] at h; simp at h
  · rw [hv] at h
    simp only [if_true] at *
    obtain ⟨j, hj, e⟩ := frameIx_ge h
    have hall : frameOk zs j = true := by
      cases hx : frameOk zs j
      · rw [framesOk_no hj hx] at hv; cases hv
      · rfl
    rw [frameOk_at hj] at hall
    simp only [okF, decide_eq_true_eq] at hall
    exact ⟨j, hj, zs[j].2.2.toNat, e, by omega, by omega⟩
theorem unw_neg {zs : List D} {f : Nat} {a : Int} {r : List Int} (h : frameOf zs a < 0) : unw zs f a r = [] := by
  cases f with
  | zero => rfl
  | succ f => rw [unw, if_pos h]
theorem unw_step {zs : List D} {f : Nat} {a : Int} {r : List Int} {j n : Nat} (hj : j < zs.length) (h : frameOf zs a = j) (hn : zs[j].2.2 = (n : Int)) : unw zs (f + 1) a r = a :: (if h : n < r.length then unw zs f r[n] (r.drop (n + 1)) else []) := by
  rw [unw, if_neg (by omega)]
  have e : (zs.getD (frameOf zs a).toNat (0, 0, 0)).2.2.toNat = n := by
    rw [h, Int.toNat_natCast, List.getD_eq_getElem?_getD, List.getElem?_eq_getElem hj, Option.getD_some, hn, Int.toNat_natCast]
  simp only [e]
def lenOf : Value → Nat
  | .slice _ n _ => n
  | _ => 0
theorem info64 : (Try.prog.info? 3).map (fun i => (i.zero, i.size, i.bytes)) = some (some (.int .i64 0), 1, 8) := by kernel_rfl
theorem unwindStack_any (A S : Option Addr) (zs : List D) (st : List Int) (c cs : Nat) (at_ : Int) (w : World) (hr : Rd w w.heap.size A (cellsOf frameC zs)) (hs : Rd w w.heap.size S (ints .i64 st)) (hm : zs.length ≤ maxLen) (hcs : st.length ≤ cs) (hcs' : cs ≤ maxLen) :
    Calls Try.prog 63 #[.slice A zs.length c, .slice S st.length cs, .int .i64 at_] w (RetInts 3 .i64 (unwound zs st at_) w) := by
  obtain ⟨i0, hi, hz0, hz1, hz2⟩ := info_parts info64
  have hm' := hm
  have hcm := hcs'
  unfold maxLen at hm' hcm
  have ho0 := hide (own_empty (w := w) (E := 3))
  have hb0 : Hid (Below w.heap.size w (w.alloc (.cells #[] 3))) := (by repeat (first | exact Below.refl _ _ | with_reducible assumption | (refine Below.drew ?_) | (refine Below.drewN ?_ _) | (refine Below.alloc ?_ (by simp; try omega) _) | (refine Below.setCell ?_ (by simp; try omega) _)))
  by_cases hv : framesOk zs = true ∧ st.length ≤ 40
  · obtain ⟨hv, h40⟩ := hv
    have HT := hide (show unwound zs st at_ = unw zs (st.length + 1) at_ st by rw [unwound, if_pos h40])
    generalize unwound zs st at_ = T at *
    have HV := hide hv
    clear hv
    have h40' : ((st.length : Nat) : Int) ≤ 40 := by omega
    go_enter Try.func63, Try.ntmps63
    go_wp2_with fail
    refine (framesValid_any A zs c _ ((hr.below hb0.out).more hb0.out.size) hm).mono ?_
    rintro e w1 ⟨rfl, hb1⟩
    rw [HV.out]
    have HO := hide (own_call hb1 ho0.out)
    have HB := hide (hb0.out.trans (hb1.mono hb0.out.size))
    clear ho0 hb0 hb1
    go_wp2_with fail
    refine (frameOf_any A zs c at_ _ ((hr.below HB.out).more HB.out.size) hm).mono ?_
    rintro e w2 ⟨rfl, hb2⟩
    have HO2 := hide (own_call hb2 HO.out)
    have HB2 := hide (HB.out.trans (hb2.mono HB.out.size))
    clear HO HB hb2
    go_wp2_with fail
    go_loopw [1, 2, 7, 8] (fun s a o k wr => ∃ (f : Nat) (r : List Int) (x : Int) (pre : List Int) (S' A' : Option Addr) (l c' cs' : Nat), s = .slice S' r.length cs' ∧ a = .int .i64 x ∧ o = .slice A' l c' ∧ k = .int .i64 (frameOf zs x) ∧ r.length ≤ cs' ∧ cs' ≤ maxLen ∧ r.length ≤ f ∧ f + l ≤ 41 ∧ l = pre.length ∧ T = pre ++ unw zs (f + 1) x r ∧ Rd w w.heap.size S' (ints .i64 r) ∧ wr.ownsRow w.heap.size 3 1 (.slice A' l c') l (ints .i64 pre) ∧ Below w.heap.size w wr) (fun s _ _ _ _ => lenOf s)
    case atStart => exact ⟨st.length, st, at_, [], S, _, 0, _, cs, rfl, rfl, rfl, rfl, hcs, hcs', Nat.le_refl _, by omega, rfl, by rw [HT.out]; rfl, hs, HO2.out, HB2.out⟩
    case round =>
      obtain ⟨f, r, x, pre, S', A', l, c', cs', rfl, rfl, rfl, rfl, hrc, hcc, hrf, hfl, hl, hT, hrs, ho, hb⟩ := hrel
      have HL := hide hl
      have HTT := hide hT
      have HO := hide ho
      have HB := hide hb
      have HRS := hide hrs
      clear hl hT ho hb hrs HO2 HB2 HT hs
      by_cases hk : frameOf zs x < 0
      · have HE := hide (show T = pre by rw [HTT.out, unw_neg hk, List.append_nil])
        have hd : decide (0 ≤ frameOf zs x) = false := by simp; omega
        generalize frameOf zs x = k at *
        clear hr
        go_wp2_with fail
        go_ret
        exact HE.out ▸ RetInts.mk HL.out HO.out HB.out
      · obtain ⟨j, hj, n, hjk, hnn, hn40⟩ := frameOf_ge (by omega : 0 ≤ frameOf zs x)
        have HS := hide (unw_step (f := f) (r := r) hj hjk hnn)
        rw [hjk]
        have HR := hide hr
        clear hr hk hjk
        go_wp2_with (at_builtin; refine wpList_app1 wr rfl (.tmp 28) (.tmp 30) 44 rfl w.heap.size 3 i0 (.int .i64 0) 1 8 Try.underlying44 hi hz0 hz1 hz2 rfl (by decide) _ rfl rfl ?o1 _ _ _ rfl HO.out ?n1 ?n2 ?n3 ?_)
        case o1 => first | rfl | (simp; done) | (intro u hu; simp at hu; subst hu; rfl)
        case n1 => unfold maxLen; omega
        case n2 => omega
        case n3 => exact HB.out.size
        intro A2 n2 c2 w3 hn2 ho3 hg3
        subst hn2
        have HO3 := hide ho3
        have hb3 := HB.out.grown hg3 HB.out.size (fun k hk => (HO.out.lt k hk).1)
        have HB3 := hide hb3
        obtain ⟨b, off, rfl, hbl, hc⟩ := (HR.out.below hb3).row frameC_len (by decide) hj
        have hc2 := hc 2 _ rfl
        rw [hnn] at hc2
        clear ho3 hg3 hb3 hc hnn HO HB
        by_cases hnr : n < r.length
        · obtain ⟨b', off', rfl, _, hq⟩ := HRS.out.int hnr
          have hq' := (Below.cell HB3.out (p := ⟨b', off' + n, none⟩) (by assumption)).trans hq
          have HR' := hide (HRS.out.slice (n + 1) (r.length - (n + 1)) (by omega))
          have HTX := hide (show T = (pre ++ [x]) ++ unw zs f r[n] (r.drop (n + 1)) by rw [HTT.out, HS.out, dif_pos hnr, List.append_assoc]; rfl)
          have HTK := hide (show (r.drop (n + 1)).take (r.length - (n + 1)) = r.drop (n + 1) from List.take_of_length_le (by rw [List.length_drop]; exact Nat.le_refl _))
          have HFO := hide (fun (w : World) h => frameOf_any (some ⟨b, off, none⟩) zs c r[n] w h hm)
          clear HRS hq HTT HS
          generalize r[n] = y at *
          have f1 : IntKind.i64.wrap ((n : Int) + 1) = (n : Int) + 1 := IntWalk.i64_in _ (by omega)
          have g1 : ((n : Int) + 1).toNat = n + 1 := by omega
          have g2 : (n : Int) + 1 ≤ (r.length : Int) := by omega
          have g3 : 0 ≤ (n : Int) + 1 := by omega
          have g4 : (n : Int) + 1 ≤ (cs' : Int) := by omega
          have g5 : (r.length : Int) ≤ (cs' : Int) := by omega
          go_wp2_with fail
          go_quiet (fail)
          have HD := hide (show Rd w w.heap.size (if cs' = n + 1 then some ⟨b', off', none⟩ else some ⟨b', off' + (n + 1), none⟩) (ints .i64 (r.drop (n + 1))) by
            by_cases he : cs' = n + 1
            · rw [List.drop_eq_nil_of_le (by omega)]
              exact Rd.nil _
            · rw [if_neg he, ← HTK.out]
              exact HR'.out.1)
          have hdl : r.length - (n + 1) = (r.drop (n + 1)).length := by rw [List.length_drop]
          generalize (if cs' = n + 1 then some ⟨b', off', none⟩ else some ⟨b', off' + (n + 1), none⟩ : Option Addr) = S2 at *
          rw [hdl]
          clear HR' HTK f1 g1 g2 g3 g4 g5 hq' hc2
          generalize hr2 : r.drop (n + 1) = r2 at *
          have hr2l : r2.length + (n + 1) = r.length := by omega
          clear hr2 hdl
          have HQ := hide (And.intro HO3.out (Kit.Below.drewN HB3.out nq))
          go_wp2_with fail
          refine (HFO.out _ ((HR.out.below HQ.out.2).more HQ.out.2.size)).mono ?_
          rintro e w4 ⟨rfl, hb4⟩
          have HO5 := hide (own_call hb4 HQ.out.1)
          have HB5 := hide (HQ.out.2.trans (hb4.mono HQ.out.2.size))
          clear hb4 HFO HQ
          obtain ⟨f', rfl⟩ : ∃ f', f = f' + 1 := ⟨f - 1, by omega⟩
          go_wp2_with fail
          refine ⟨⟨f', r2, y, pre ++ [x], S2, A2, l + 1, c2, cs' - (n + 1), rfl, rfl, rfl, rfl, by omega, by omega, by omega, by omega, by rw [HL.out]; simp, HTX.out, HD.out, by simpa using HO5.out, HB5.out⟩, by simp [lenOf]; omega⟩
        · have hnr' : r.length ≤ n := by omega
          have HE := hide (show T = pre ++ [x] by rw [HTT.out, HS.out, dif_neg hnr])
          clear HTT HS
          go_wp2_with fail
          go_ret
          exact HE.out ▸ RetInts.mk (by rw [HL.out]; simp) (by simpa using HO3.out) HB3.out
  · have HE := hide (show unwound zs st at_ = [] by
      unfold unwound
      by_cases h40 : st.length ≤ 40
      · rw [if_pos h40, unw_neg]
        cases hf : framesOk zs
        · rw [frameOf, hf]; simp
        · exact absurd ⟨hf, h40⟩ hv
      · rw [if_neg h40])
    generalize unwound zs st at_ = T at *
    have HM := hide hm
    cases hf : framesOk zs
    · have HF := hide hf
      clear hf hv
      go_enter Try.func63, Try.ntmps63
      go_wp2_with fail
      refine (framesValid_any A zs c _ ((hr.below hb0.out).more hb0.out.size) hm).mono ?_
      rintro e w1 ⟨rfl, hb1⟩
      rw [HF.out]
      have HO := hide (own_call hb1 ho0.out)
      have HB := hide (hb0.out.trans (hb1.mono hb0.out.size))
      clear ho0 hb0 hb1
      go_wp2_with fail
      go_ret
      exact HE.out ▸ RetInts.mk rfl HO.out HB.out
    · have HF := hide hf
      have h40 : (40 : Int) < (st.length : Int) := by
        have : ¬ st.length ≤ 40 := fun h => hv ⟨hf, h⟩
        omega
      clear hf hv
      go_enter Try.func63, Try.ntmps63
      go_wp2_with fail
      refine (framesValid_any A zs c _ ((hr.below hb0.out).more hb0.out.size) hm).mono ?_
      rintro e w1 ⟨rfl, hb1⟩
      rw [HF.out]
      have HO := hide (own_call hb1 ho0.out)
      have HB := hide (hb0.out.trans (hb1.mono hb0.out.size))
      clear ho0 hb0 hb1
      go_wp2_with fail
      go_ret
      exact HE.out ▸ RetInts.mk rfl HO.out HB.out
theorem unwindStackS_any (A S : Option Addr) (zs : List D) (st : List Int) (c cs : Nat) (at_ : Int) (w : World) (hr : Rd w w.heap.size A (cellsOf frameC zs)) (hs : Rd w w.heap.size S (ints .i64 st)) (hm : zs.length ≤ maxLen) (hcs : st.length ≤ cs) (hcs' : cs ≤ maxLen) :
    Calls Try.prog 65 #[.slice A zs.length c, .slice S st.length cs, .int .i64 at_] w (RetInts 3 .i64 (unwound zs st at_) w) := by
  obtain ⟨i0, hi, hz0, hz1, hz2⟩ := info_parts info64
  have hm' := hm
  have hcm := hcs'
  unfold maxLen at hm' hcm
  have ho0 := hide (own_empty (w := w) (E := 3))
  have hb0 : Hid (Below w.heap.size w (w.alloc (.cells #[] 3))) := (by repeat (first | exact Below.refl _ _ | with_reducible assumption | (refine Below.drew ?_) | (refine Below.drewN ?_ _) | (refine Below.alloc ?_ (by simp; try omega) _) | (refine Below.setCell ?_ (by simp; try omega) _)))
  by_cases h40 : st.length ≤ 40
  · have HT := hide (show unwound zs st at_ = unw zs (st.length + 1) at_ st by rw [unwound, if_pos h40])
    generalize unwound zs st at_ = T at *
    have h40' : ((st.length : Nat) : Int) ≤ 40 := by omega
    go_enter Try.func65, Try.ntmps65
    go_wp2_with fail
    go_loopw [2, 7, 8] (fun a o t wr => ∃ (f top : Nat) (x : Int) (pre : List Int) (A' : Option Addr) (l c' : Nat), a = .int .i64 x ∧ o = .slice A' l c' ∧ t = .int .i64 top ∧ top ≤ st.length ∧ st.length ≤ f + top ∧ f + l ≤ 41 ∧ l = pre.length ∧ T = pre ++ unw zs (f + 1) x (st.drop top) ∧ wr.ownsRow w.heap.size 3 1 (.slice A' l c') l (ints .i64 pre) ∧ Below w.heap.size w wr) (fun _ _ t _ => 64 - (intOf t).toNat)
    case atStart => exact ⟨st.length, 0, at_, [], _, 0, _, rfl, rfl, rfl, Nat.zero_le _, by omega, by omega, rfl, by rw [HT.out]; rfl, ho0.out, hb0.out⟩
    case round =>
      obtain ⟨f, top, x, pre, A', l, c', rfl, rfl, rfl, htop, hrf, hfl, hl, hT, ho, hb⟩ := hrel
      have HL := hide hl
      have HTT := hide hT
      have HO := hide ho
      have HB := hide hb
      have HR := hide hr
      have HRS := hide hs
      clear hl hT ho hb ho0 hb0 HT hs hr
      have HFO := hide (fun (w : World) h => frameOfS_any A zs c x w h hm)
      have htop' : (top : Int) ≤ (st.length : Int) := by omega
      go_wp2_with fail
      refine (HFO.out _ ((HR.out.below HB.out).more HB.out.size)).mono ?_
      rintro e w2 ⟨rfl, hb2⟩
      have HO2 := hide (own_call hb2 HO.out)
      have HB2 := hide (HB.out.trans (hb2.mono HB.out.size))
      clear HO HB hb2 HFO
      by_cases hk : frameOf zs x < 0
      · have HE := hide (show T = pre by rw [HTT.out, unw_neg hk, List.append_nil])
        generalize frameOf zs x = k at *
        go_wp2_with fail
        go_ret
        exact HE.out ▸ RetInts.mk HL.out HO2.out HB2.out
      · obtain ⟨j, hj, n, hjk, hnn, hn40⟩ := frameOf_ge (by omega : 0 ≤ frameOf zs x)
        have HS := hide (unw_step (f := f) (r := st.drop top) hj hjk hnn)
        rw [hjk]
        clear hk hjk
        have hsz := HB2.out.size
        go_wp2_with (at_builtin; refine wpList_app1 w2 rfl (.tmp 20) (.tmp 22) 44 rfl w.heap.size 3 i0 (.int .i64 0) 1 8 Try.underlying44 hi hz0 hz1 hz2 rfl (by decide) _ rfl rfl ?o1 _ _ _ rfl HO2.out ?n1 ?n2 ?n3 ?_)
        case o1 => first | rfl | (simp; done) | (intro u hu; simp at hu; subst hu; rfl)
        case n1 => unfold maxLen; omega
        case n2 => omega
        case n3 => exact HB2.out.size
        intro A2 n2 c2 w3 hn2 ho3 hg3
        subst hn2
        have HO3 := hide ho3
        have hb3 := HB2.out.grown hg3 HB2.out.size (fun k hk => (HO2.out.lt k hk).1)
        have HB3 := hide hb3
        obtain ⟨b, off, rfl, hbl, hc⟩ := (HR.out.below hb3).row frameC_len (by decide) hj
        have hc2 := hc 2 _ rfl
        rw [hnn] at hc2
        have f1 : IntKind.i64.wrap ((top : Int) + (n : Int)) = (((top + n : Nat) : Nat) : Int) := by rw [IntWalk.i64_in _ (by omega)]; omega
        clear ho3 hg3 hb3 hc hnn HO2 HB2 hsz
        by_cases hnr : top + n < st.length
        · obtain ⟨b', off', rfl, _, hq⟩ := HRS.out.int hnr
          have hq' := (Below.cell HB3.out (p := ⟨b', off' + (top + n), none⟩) (by assumption)).trans hq
          have hnr' : n < (st.drop top).length := by rw [List.length_drop]; omega
          have HTX := hide (show T = (pre ++ [x]) ++ unw zs f st[top + n] (st.drop (top + n + 1)) by
            rw [HTT.out, HS.out, dif_pos hnr', List.append_assoc, List.getElem_drop, List.drop_drop]; rfl)
          clear hq HTT HS hnr'
          generalize st[top + n] = y at *
          have f2 : IntKind.i64.wrap (((top + n : Nat) : Int) + 1) = (((top + n + 1 : Nat) : Nat) : Int) := by rw [IntWalk.i64_in _ (by omega)]; omega
          generalize hm0 : top + n = m at *
          go_wp2_with fail
          obtain ⟨f', rfl⟩ : ∃ f', f = f' + 1 := ⟨f - 1, by omega⟩
          refine ⟨⟨f', m + 1, y, pre ++ [x], A2, l + 1, c2, rfl, rfl, by go_num, by omega, by omega, by omega, by rw [HL.out]; simp, HTX.out, by simpa using HO3.out, HB3.out⟩, by simp [intOf]; omega⟩
        · have hnr' : ¬ n < (st.drop top).length := by rw [List.length_drop]; omega
          have HE := hide (show T = pre ++ [x] by rw [HTT.out, HS.out, dif_neg hnr'])
          clear HTT HS
          generalize hm0 : top + n = m at *
          have hnr2 : (st.length : Int) ≤ (m : Int) := by omega
          go_wp2_with fail
          go_ret
          exact HE.out ▸ RetInts.mk (by rw [HL.out]; simp) (by simpa using HO3.out) HB3.out
  · have HE := hide (show unwound zs st at_ = [] by rw [unwound, if_neg h40])
    generalize unwound zs st at_ = T at *
    have h40' : decide (((st.length : Nat) : Int) ≤ 40) = false := by simp; omega
    go_enter Try.func65, Try.ntmps65
    go_wp2_with fail
    go_loopw [7] (fun o wr => o = .slice (some ⟨w.heap.size, 0, none⟩) 0 0 ∧ w.alloc (.cells #[] 3) = wr) (fun _ _ => 0)
    case atStart => exact ⟨rfl, rfl⟩
    case round =>
      obtain ⟨rfl, rfl⟩ := hrel
      go_wp2_with fail
      go_ret
      exact HE.out ▸ RetInts.mk rfl ho0.out hb0.out
end Go.Proofs.Ytndnmbhhfiacaaa.CUnwind
