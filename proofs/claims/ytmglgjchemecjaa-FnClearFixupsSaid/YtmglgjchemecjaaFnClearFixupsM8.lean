/- namesMissing. -/
import Derived.Test.YtmglgjchemecjaaFnClearFixupsM7
import Derived.BigQuiet
import Derived.Laws.CopyOwn
import Derived.Test.YtmglgjchemecjaaRows
set_option linter.unusedSimpArgs false
set_option linter.unusedVariables false
namespace Go.Proofs.Ytmglgjchemecjaa.CMiss
set_option maxRecDepth 200000
open Go.ChangeShapes Go.WideShapes Go.ChangeAt Go.RowKit Kit CCode CName CFixups CSymbols PObj BObj CGlobalOf BStore BList PLink CFind CSorted CNames
theorem missS_snoc (l : List OD) (a : List YD) (y : YD) : missS l (a ++ [y]) = missS l a ++ (bif isMiss l y then [y.1] else []) := by
  unfold missS
  rw [List.filter_append, List.map_append]
  cases h : isMiss l y <;> simp [h]
theorem miss_take (l m : List OD) (k : Nat) (h : k < m.length) : (m.take (k + 1)).flatMap (fun d => missS l d.ys) = (m.take k).flatMap (fun d => missS l d.ys) ++ missS l m[k].ys := by
  rw [take_succ h, List.flatMap_append]
  simp
theorem missS_len (l : List OD) (a : List YD) : (missS l a).length ≤ a.length := by
  unfold missS
  rw [List.length_map]
  exact List.length_filter_le _ _
set_option maxHeartbeats 4000000 in
theorem namesMissing_any (A : Option Addr) (os : List OV) (c : Nat) (w : World) (hr : RdOs w w.heap.size A os) (hs : Small os) :
    Calls Try.prog 78 #[.slice A os.length c] w (RetN (srtN (miss (os.map OV.d))) w) := by
  obtain ⟨i0, hi1, hi2, hi3, hi4⟩ := info_parts infoStr
  have HI := hide (And.intro hi1 (And.intro hi2 (And.intro hi3 hi4)))
  clear hi1 hi2 hi3 hi4
  have HLN := hide (show Lens os from ⟨by have := hs.1; omega, fun o ho => by have := hs.2 o ho; omega⟩)
  obtain ⟨hs1, hs2⟩ := hs
  have HY := hide hs2
  have HR := hide hr
  clear hs2 hr
  have HB := hide (show Below w.heap.size w (w.alloc (.cells #[] 9)) from (by repeat (first | exact Below.refl _ _ | with_reducible assumption | (refine Below.drew ?_) | (refine Below.drewN ?_ _) | (refine Below.alloc ?_ (by simp; try omega) _) | (refine Below.setCell ?_ (by simp; try omega) _))))
  go_enter Try.func78, Try.ntmps78
  go_wp2_with fail
  generalize w.alloc (.cells #[] 9) = w0 at *
  generalize hLL : os.map OV.d = l at *
  have HLL := hide hLL
  clear hLL
  go_loopw [3, 13] (fun s i wi => ∃ (k : Nat) (A1 : Option Addr) (c1 : Nat) (xs : List ByteArray), k ≤ os.length ∧ s = .slice A1 xs.length c1 ∧ i = .int .i64 k ∧ xs = (l.take k).flatMap (fun d => missS l d.ys) ∧ xs.length ≤ 12 * k ∧ Row wi w.heap.size 9 1 A1 xs.length c1 (nmC xs) ∧ Below w.heap.size w wi) (fun _ i _ => os.length - (intOf i).toNat)
  case atStart => exact ⟨0, _, 0, [], Nat.zero_le _, rfl, rfl, rfl, Nat.le_refl _, Row.empty _ _ _ _ _, HB.out⟩
  case round =>
    clear HB
    obtain ⟨k, A1, c1, xs, hk, rfl, rfl, hxy, hx1, hrow, hb⟩ := hrel
    have HX := hide hrow
    have HB := hide hb
    by_cases hlt : k < os.length
    · obtain ⟨bb, off, hA, hbb, hc0, hc1⟩ := (HR.out.below hb).at hlt
      have hll : k < l.length := by rw [← HLL.out, List.length_map]; exact hlt
      have HXY := hide (show (l.take (k + 1)).flatMap (fun d => missS l d.ys) = xs ++ missS l os[k].ys from by
        rw [miss_take l l k hll, ← hxy]
        congr 2
        have := HLL.out
        subst this
        simp [OV.d])
      have HRO := hide (HR.out.2 _ (List.getElem_mem hlt)).2
      have hyl := HY.out _ (List.getElem_mem hlt)
      clear hb hrow hxy
      subst hA
      generalize os[k] = o at *
      go_wp2_with fail
      have B1 : Below wr.heap.size wr (wr.alloc (.cells #[.slice o.A o.ps.length o.c, .slice o.Y o.ys.length o.yc] 26)) := (by repeat (first | exact Below.refl _ _ | with_reducible assumption | (refine Below.drew ?_) | (refine Below.drewN ?_ _) | (refine Below.alloc ?_ (by simp; try omega) _) | (refine Below.setCell ?_ (by simp; try omega) _)))
      have HO := hide (Box.new wr 26 #[.slice o.A o.ps.length o.c, .slice o.Y o.ys.length o.yc])
      replace HB := hide (HB.out.trans (B1.mono HB.out.size))
      replace HX := hide (HX.out.call B1)
      clear B1
      generalize wr.alloc (.cells #[.slice o.A o.ps.length o.c, .slice o.Y o.ys.length o.yc] 26) = wa at *
      generalize wr.heap.size = Z at *
      clear hc0 hc1
      have y1 := HO.out.cell 1
      simp only [List.getElem?_toArray, List.getElem?_cons_zero, List.getElem?_cons_succ] at y1
      have hol := HO.out.lt
      go_wp2_with fail
      clear y1 hol HO
      generalize hx0 : xs = x0 at *
      clear hx0
      go_loopw [3, 20] (fun s i wi => ∃ (j : Nat) (A1 : Option Addr) (c1 : Nat) (xs : List ByteArray), j ≤ o.ys.length ∧ s = .slice A1 xs.length c1 ∧ i = .int .i64 j ∧ xs = x0 ++ missS l (o.ys.take j) ∧ xs.length ≤ 12 * k + j ∧ Row wi w.heap.size 9 1 A1 xs.length c1 (nmC xs) ∧ Below w.heap.size w wi) (fun _ i _ => o.ys.length - (intOf i).toNat)
      case atStart => exact ⟨0, A1, c1, x0, Nat.zero_le _, rfl, rfl, (List.append_nil _).symm, by omega, HX.out, HB.out⟩
      case round =>
        clear HX HB
        obtain ⟨j, A1, c1, xs, hj, rfl, rfl, hxy, hx1, hrow, hb⟩ := hrel
        have HX := hide hrow
        have HB := hide hb
        by_cases hlj : j < o.ys.length
        · obtain ⟨b2, off2, hYA, hb2, hc⟩ := (HRO.out.below hb).row symbolC_len (by decide) hlj
          have hc0 := hc 0 _ rfl
          have hc1 := hc 1 _ rfl
          have hc2 := hc 2 _ rfl
          have hc3 := hc 3 _ rfl
          simp only [Nat.add_zero] at hc0
          have HST := hide (show x0 ++ missS l (o.ys.take (j + 1)) = xs ++ (bif isMiss l o.ys[j] then [o.ys[j].1] else []) from by
            rw [take_succ hlj, missS_snoc, ← List.append_assoc, ← hxy])
          clear hb hrow hxy hc
          rw [hYA]
          clear hYA
          generalize o.ys[j] = z at *
          obtain ⟨z1, z2, z3, z4⟩ := z
          simp only at hc0 hc1 hc2 hc3 HST
          go_wp2_with fail
          have B1 : Below wr.heap.size wr (wr.alloc (.cells #[.string z1, .int .i64 z2, .int .i64 z3, .int .i64 z4] 69)) := (by repeat (first | exact Below.refl _ _ | with_reducible assumption | (refine Below.drew ?_) | (refine Below.drewN ?_ _) | (refine Below.alloc ?_ (by simp; try omega) _) | (refine Below.setCell ?_ (by simp; try omega) _)))
          have HZ := hide (Box.new wr 69 #[.string z1, .int .i64 z2, .int .i64 z3, .int .i64 z4])
          replace HB := hide (HB.out.trans (B1.mono HB.out.size))
          replace HX := hide (HX.out.call B1)
          clear B1
          clear hc0 hc1 hc2 hc3
          generalize wr.alloc (.cells #[.string z1, .int .i64 z2, .int .i64 z3, .int .i64 z4] 69) = wz at *
          generalize wr.heap.size = S at *
          refine (findName_any (some ⟨bb, off, none⟩) os c z1 wz ((HR.out.below HB.out).more HB.out.size) HLN.out).mono ?_
          rintro e w5 ⟨rfl, b5⟩
          replace HB := hide (HB.out.trans (b5.mono HB.out.size))
          replace HZ := hide (HZ.out.call b5)
          replace HX := hide (HX.out.call b5)
          clear b5
          have HM := hide (show isMiss l (z1, z2, z3, z4) = ((z2 == 1) && (z3 == -1) && !(findN (os.map OV.d) z1).isSome) from by
            rw [HLL.out]
            simp only [isMiss]
            cases findN l z1 <;> rfl)
          simp only [givV]
          generalize findN (os.map OV.d) z1 = r at *
          have y0 := HZ.out.cell 0
          have y1 := HZ.out.cell 1
          have y2 := HZ.out.cell 2
          simp only [List.getElem?_toArray, List.getElem?_cons_zero, List.getElem?_cons_succ] at y0 y1 y2
          have hzl := HZ.out.lt
          have bg : Below w5.heap.size w5 (w5.alloc (.cells #[.int .i64 (gin r), .int .i64 (gat r)] 117)) := (by repeat (first | exact Below.refl _ _ | with_reducible assumption | (refine Below.drew ?_) | (refine Below.drewN ?_ _) | (refine Below.alloc ?_ (by simp; try omega) _) | (refine Below.setCell ?_ (by simp; try omega) _)))
          have HBG := hide (HB.out.trans (bg.mono HB.out.size))
          have HXG := hide (HX.out.call bg)
          cases q1 : (z2 == 1)
          · rw [q1, Bool.false_and, Bool.false_and] at HM
            rw [HM.out, cond_false, List.append_nil] at HST
            clear HM bg
            go_wp2_with fail
            refine ⟨⟨j + 1, A1, c1, xs, by omega, rfl, by go_num, HST.out.symm, by omega, HXG.out, HBG.out⟩, by simp [intOf]; omega⟩
          cases q2 : (z3 == -1)
          · rw [q1, q2, Bool.and_false, Bool.false_and] at HM
            rw [HM.out, cond_false, List.append_nil] at HST
            clear HM bg
            go_wp2_with fail
            refine ⟨⟨j + 1, A1, c1, xs, by omega, rfl, by go_num, HST.out.symm, by omega, HXG.out, HBG.out⟩, by simp [intOf]; omega⟩
          cases q3 : r.isSome
          · rw [q1, q2, q3] at HM
            rw [HM.out] at HST
            have HST2 := hide (show x0 ++ missS l (o.ys.take (j + 1)) = xs ++ [z1] from HST.out)
            clear HM HST bg
            go_wp2_with (at_builtin; refine wpList_app ((w5.alloc (.cells #[.int .i64 (gin r), .int .i64 (gat r)] 117)).alloc (.cells #[.string z1] 9)) rfl (.tmp 43) (.tmp 46) 64 rfl 9 i0 (.string ByteArray.empty) 1 16 Try.underlying64 HI.out.1 HI.out.2.1 HI.out.2.2.1 HI.out.2.2.2 rfl (by decide) w.heap.size A1 xs.length c1 (nmC xs) rfl (HXG.out.alloc _) ?hb (some ⟨w5.heap.size + 1, 0, none⟩) 1 1 [.string z1] rfl (by have h := rd_lit (w5.alloc (.cells #[.int .i64 (gin r), .int .i64 (gat r)] 117)) #[.string z1] 9 _ rfl; rw [World.size_alloc] at h; exact h) rfl (fun h => by cases h) ?o1 ?n1 ?n2 ?_)
            case hb => have h := (HBG.out.alloc HBG.out.size (.cells #[.string z1] 9)).size; simpa using h
            case o1 => exact one_str z1
            case n1 => unfold maxLen; omega
            case n2 => omega
            intro A3 n3 c3 w6 hn o3 g3 k3
            have HB6 := hide ((HBG.out.alloc HBG.out.size (.cells #[.string z1] 9)).grown g3 (HBG.out.alloc HBG.out.size (.cells #[.string z1] 9)).size (fun j hj => (HXG.out.lt j hj).1))
            have HX6 := hide (show Row w6 w.heap.size 9 1 A3 (xs ++ [z1]).length c3 (nmC (xs ++ [z1])) from by
              subst hn
              rw [List.length_append, ← strs_snoc]
              simpa using o3)
            subst hn
            clear o3 g3 k3
            go_wp2_with fail
            refine ⟨⟨j + 1, A3, c3, xs ++ [z1], by omega, by simp, by go_num, HST2.out.symm, by simp; omega, HX6.out, HB6.out⟩, by simp [intOf]; omega⟩
          · rw [q1, q2, q3] at HM
            rw [HM.out] at HST
            have HST2 := hide (show x0 ++ missS l (o.ys.take (j + 1)) = xs from HST.out.trans (List.append_nil _))
            clear HM HST bg
            go_wp2_with fail
            refine ⟨⟨j + 1, A1, c1, xs, by omega, rfl, by go_num, HST2.out.symm, by omega, HXG.out, HBG.out⟩, by simp [intOf]; omega⟩
        · have hje : j = o.ys.length := by omega
          subst hje
          have HQ2 := hide (show xs = (l.take (k + 1)).flatMap (fun d => missS l d.ys) from by
            rw [HXY.out, hxy, List.take_length])
          clear hxy hb hrow HXY
          go_wp2_with fail
          refine ⟨⟨k + 1, A1, c1, xs, by omega, rfl, by go_num, HQ2.out, by omega, HX.out, HB.out⟩, by simp [intOf]; omega⟩
    · have hke : k = os.length := by omega
      subst hke
      have HTW := hide (show miss l = xs from by
        rw [miss, hxy, List.take_of_length_le (show l.length ≤ os.length by rw [← HLL.out]; simp)])
      have HQ := hide (sorted_any xs A1 c1 _ wr hrow (by omega))
      clear hxy hrow hb
      generalize hzs : srtN xs = zs at HQ
      have HZS := hide hzs
      clear hzs
      go_wp2_with fail
      refine HQ.out.mono ?_
      rintro e w4 ⟨A4, c4, rfl, r4, b4⟩
      have HF := hide (And.intro (r4.down HB.out.size) (HB.out.trans (b4.mono HB.out.size)))
      clear r4 b4 HQ
      go_wp2_with fail
      go_ret
      show RetN (srtN (miss l)) w _ _
      rw [HTW.out, HZS.out]
      exact ⟨A4, c4, rfl, HF.out.1, HF.out.2⟩
end Go.Proofs.Ytmglgjchemecjaa.CMiss
/- A region that draws its order, taken operation by operation: what only computes at once; loads under a condition on the world that all keep but those of T; those of T come up alone. -/
namespace Go.Proofs.Ytmglgjchemecjaa.Rv
set_option maxRecDepth 200000
open Go Reg
section
variable {P : Program} {ops : Array Oper} {Q : Exit → Act → World → Prop} {md : Region.Mode} {S : World → Prop} {T : Nat → Bool}
/-- Whatever order is picked from here on, and S stands over every operation that is carried out, but for those of T. -/
def wpAnyV (P : Program) (md : Region.Mode) (ops : Array Oper) (Q : Exit → Act → World → Prop) (S : World → Prop) (T : Nat → Bool) : Nat → Array Bool → Act → World → Prop
  | 0, listed, a, w => Region.ready md ops listed = [] ∧ Q .normal a w
  | fuel + 1, listed, a, w =>
    (Region.ready md ops listed = [] → Q .normal a w) ∧
    ∀ i ∈ Region.ready md ops listed, wpOp P ops Q i (fun a' w' => (T i = false → S w → S w') ∧ wpAnyV P md ops Q S T fuel (listed.setIfInBounds i true) a' w') a w
theorem wpAny_of_V : ∀ (fuel : Nat) (listed : Array Bool) (a : Act) (w : World), wpAnyV P md ops Q S T fuel listed a w → wpAny P md ops Q fuel listed a w
  | 0, _, _, _, h => h
  | fuel + 1, _, _, _, h => ⟨h.1, fun i hi => wpOp_mono (fun a' w' h' => wpAny_of_V fuel _ a' w' h'.2) (h.2 i hi)⟩
/-- All that waits for number i, directly or through others (n rounds). -/
def cl (md : Region.Mode) (ops : Array Oper) (listed : Array Bool) (i : Nat) : Nat → List Nat
  | 0 => (List.range ops.size).filter fun j => !listed.getD j true && (match ops[j]? with | some o => waits md o i | none => false)
  | n + 1 => (List.range ops.size).filter fun j => !listed.getD j true && (match ops[j]? with | some o => waits md o i || o.after.any (fun e => Region.binds md e && (cl md ops listed i n).contains e.on) | none => false)
/-- No member of C is taken while number i is not. -/
def closedB (md : Region.Mode) (ops : Array Oper) (listed : Array Bool) (i : Nat) (C : List Nat) (T : Nat → Bool) : Bool :=
  (C.all fun j => j != i && !listed.getD j true && (match ops[j]? with | some o => waits md o i || o.after.any (fun e => Region.binds md e && C.contains e.on) | none => false)) &&
  (List.range ops.size).all fun j => !T j || j == i || C.contains j
theorem closed_spec {i : Nat} {listed : Array Bool} {C : List Nat} (h : closedB md ops listed i C T = true) :
    (∀ j ∈ C, j ≠ i ∧ listed.getD j true = false ∧ ∃ o, ops[j]? = some o ∧ ∃ e ∈ o.after, Region.binds md e = true ∧ (e.on = i ∨ e.on ∈ C)) ∧ (∀ (j : Nat) (o : Oper), ops[j]? = some o → T j = true → j ≠ i → j ∈ C) := by
  unfold closedB at h
  rw [Bool.and_eq_true] at h
  obtain ⟨h1, h2⟩ := h
  refine ⟨fun j hj => ?_, fun j o ho ht hne => ?_⟩
  · have := List.all_eq_true.1 h1 j hj
    simp only [Bool.and_eq_true, bne_iff_ne, ne_eq, Bool.not_eq_true'] at this
    obtain ⟨⟨a, b⟩, c⟩ := this
    refine ⟨a, b, ?_⟩
    split at c
    · rename_i o ho
      refine ⟨o, ho, ?_⟩
      rcases Bool.or_eq_true_iff.1 c with c | c
      · unfold waits at c
        rw [Array.any_eq_true] at c
        obtain ⟨k, hk, he⟩ := c
        simp only [Bool.and_eq_true, beq_iff_eq] at he
        exact ⟨_, Array.getElem_mem hk, he.1, .inl he.2⟩
      · rw [Array.any_eq_true] at c
        obtain ⟨k, hk, he⟩ := c
        simp only [Bool.and_eq_true, List.contains_iff_mem] at he
        exact ⟨_, Array.getElem_mem hk, he.1, .inr he.2⟩
    · cases c
  · have hj : j < ops.size := (Array.getElem?_eq_some_iff.1 ho).1
    have := List.all_eq_true.1 h2 j (List.mem_range.2 hj)
    simp only [Bool.or_eq_true, Bool.not_eq_true', beq_iff_eq, List.contains_iff_mem] at this
    rcases this with (this | this) | this
    · rw [ht] at this
      cases this
    · exact absurd this hne
    · exact this
theorem first {i : Nat} {oi : Oper} {v : Value} {C : List Nat} {R : World → Prop} (hi : ops[i]? = some oi) (hsel : ∀ (j : Nat) (o : Oper) cs b, ops[j]? = some o → o.op ≠ .select cs b)
    (hQ : ∀ c a w, Q (.panic c) (a.put oi.dst v) w → Q (.panic c) a w) (hR : (∀ w, R w) ∨ ((∀ w, R w ↔ S w) ∧ ∀ (j : Nat) (o : Oper), ops[j]? = some o → T j = true → j ≠ i → j ∈ C)) :
    ∀ (fuel : Nat) (listed : Array Bool) (a : Act) (w : World),
      (∀ j ∈ C, j ≠ i ∧ listed.getD j true = false ∧ ∃ o, ops[j]? = some o ∧ ∃ e ∈ o.after, Region.binds md e = true ∧ (e.on = i ∨ e.on ∈ C)) →
      (∀ j oj, ops[j]? = some oj → j ≠ i → listed.getD j true = false → (∀ e ∈ oj.after, Region.binds md e = true → e.on ≠ i) → oi.apart ops oj = true) →
      i ∈ Region.ready md ops listed → YieldsIf P ops R oi v a → R w →
      wpAnyV P md ops Q S T fuel (listed.setIfInBounds i true) (a.put oi.dst v) w → wpAnyV P md ops Q S T (fuel + 1) listed a w := by
  intro fuel
  induction fuel with
  | zero =>
    intro listed a w _ _ hr hy hS H
    refine ⟨fun h => (by rw [h] at hr; cases hr), fun j hj => ?_⟩
    by_cases hji : j = i
    · subst hji
      exact hy.wpOp hi hS ⟨fun _ h => h, H⟩
    · have := ready_mono hj hji
      rw [H.1] at this
      cases this
  | succ fuel ih =>
    intro listed a w hC hfree hr hy hS H
    refine ⟨fun h => (by rw [h] at hr; cases hr), fun j hj => ?_⟩
    by_cases hji : j = i
    · subst hji
      exact hy.wpOp hi hS ⟨fun _ h => h, H⟩
    · have h1 := H.2 j (ready_mono hj hji)
      obtain ⟨hjun, oj, hoj, hall⟩ := mem_ready.1 hj
      have hun : ∀ k, listed.getD k true = false → ∀ e ∈ oj.after, Region.binds md e = true → e.on ≠ k := fun k h0 e he hb heq => by
        have h1 := hall e he hb
        rw [heq] at h1
        rcases Nat.lt_or_ge k listed.size with h' | h'
        · simp [h'] at h0 h1
          rw [h0] at h1
          cases h1
        · simp [Array.getElem?_eq_none h'] at h1
      have hnot : ∀ e ∈ oj.after, Region.binds md e = true → e.on ≠ i := hun i (mem_ready.1 hr).1
      have hjC : j ∉ C := fun hjc => by
        obtain ⟨_, _, o, ho, e, he, hb, hor⟩ := hC j hjc
        rw [hoj] at ho
        injection ho with ho
        subst ho
        rcases hor with hor | hor
        · exact hnot e he hb hor
        · exact hun _ (hC _ hor).2.1 e he hb rfl
      have h2 := wpOp_putIf hoj (hfree j oj hoj hji hjun hnot) (fun cs b => hsel i oi cs b hi) (fun cs b => hsel j oj cs b hoj) hQ hy h1
      have hfree' : ∀ k ok, ops[k]? = some ok → k ≠ i → (listed.setIfInBounds j true).getD k true = false →
          (∀ e ∈ ok.after, Region.binds md e = true → e.on ≠ i) → oi.apart ops ok = true := fun k ok hk hki hun hno => by
        refine hfree k ok hk hki ?_ hno
        by_cases hjk : j = k
        · subst hjk
          exact hjun
        · rw [getD_set_ne true hjk] at hun
          exact hun
      have hC' : ∀ k ∈ C, k ≠ i ∧ (listed.setIfInBounds j true).getD k true = false ∧ ∃ o, ops[k]? = some o ∧ ∃ e ∈ o.after, Region.binds md e = true ∧ (e.on = i ∨ e.on ∈ C) := fun k hk => by
        obtain ⟨a1, a2, a3⟩ := hC k hk
        refine ⟨a1, ?_, a3⟩
        have hjk : j ≠ k := by
          rintro rfl
          exact hjC hk
        rw [getD_set_ne true hjk]
        exact a2
      have hRk : ∀ w', (T j = false → S w → S w') → R w' := fun w' hk => by
        rcases hR with hR | ⟨hR, hT⟩
        · exact hR w'
        · have hTj : T j = false := by
            cases hT' : T j
            · rfl
            · exact absurd (hT j oj hoj hT' hji) hjC
          exact (hR w').2 (hk hTj ((hR w).1 hS))
      refine wpOp_mono (fun a' w' h3 => ⟨h3.2.1, ih (listed.setIfInBounds j true) a' w' hC' hfree' (ready_mono hr (Ne.symm hji)) h3.1 (hRk w' h3.2.1) ?_⟩) h2
      rw [Array.setIfInBounds_comm _ _ hji]
      exact h3.2.2
/-- A load (what reads the world): take it first, under S. -/
theorem take {i : Nat} {oi : Oper} {v : Value} {fuel : Nat} {listed : Array Bool} {a : Act} {w : World} (hi : ops[i]? = some oi)
    (hs : Region.noSelect ops = true) (hf : Region.free md ops listed i = true) (hr : (Region.ready md ops listed).contains i = true) (hT : closedB md ops listed i (cl md ops listed i 3) T = true)
    (hQ : ∀ c a w, Q (.panic c) (a.put oi.dst v) w → Q (.panic c) a w) (hy : YieldsIf P ops S oi v a) (hS : S w)
    (h : wpAnyV P md ops Q S T fuel (listed.setIfInBounds i true) (a.put oi.dst v) w) : wpAnyV P md ops Q S T (fuel + 1) listed a w :=
  first (R := S) hi (Region.noSelect_spec hs) hQ (.inr ⟨fun _ => Iff.rfl, (closed_spec hT).2⟩) fuel listed a w (closed_spec hT).1 (Region.free_spec hi hf) (by simpa using hr) hy hS h
/-- What only computes: take it first. -/
theorem comp {i : Nat} {oi : Oper} {v : Value} {fuel : Nat} {listed : Array Bool} {a : Act} {w : World} (hi : ops[i]? = some oi)
    (hs : Region.noSelect ops = true) (hf : Region.free md ops listed i = true) (hr : (Region.ready md ops listed).contains i = true)
    (hQ : ∀ c a w, Q (.panic c) (a.put oi.dst v) w → Q (.panic c) a w) (hy : YieldsIf P ops (fun _ => True) oi v a)
    (h : wpAnyV P md ops Q S T fuel (listed.setIfInBounds i true) (a.put oi.dst v) w) : wpAnyV P md ops Q S T (fuel + 1) listed a w :=
  first (R := fun _ => True) (C := []) hi (Region.noSelect_spec hs) hQ (.inl fun _ => trivial) fuel listed a w (fun _ h => by cases h) (Region.free_spec hi hf) (by simpa using hr) hy trivial h
/-- One alone may come up, and it is none of T: S is shown anew behind it. -/
theorem one {i : Nat} {o : Oper} {fuel : Nat} {listed : Array Bool} {a : Act} {w : World} (ho : ops[i]? = some o) (hr : Region.ready md ops listed = [i])
    (h : ∀ K : Act → World → Prop, Shut (∀ a w, S w → wpAnyV P md ops Q S T fuel (listed.setIfInBounds i true) a w → K a w) → if Region.wanted o (yielded ops a.tmps) = true then Oper.wp P o a w K Q else K (a.put o.dst undef) w) :
    wpAnyV P md ops Q S T (fuel + 1) listed a w :=
  ⟨fun h0 => (by rw [hr] at h0; cases h0), fun j hj => by
    rw [hr] at hj
    simp only [List.mem_singleton] at hj
    subst hj
    exact wpOp_step ho (fun K' hK => h K' (fun a w hS hW => hK a w ⟨fun _ _ => hS, hW⟩))⟩
/-- One of T comes up alone. -/
theorem last {i : Nat} {o : Oper} {fuel : Nat} {listed : Array Bool} {a : Act} {w : World} (ho : ops[i]? = some o) (hr : Region.ready md ops listed = [i]) (hT : T i = true)
    (h : ∀ K : Act → World → Prop, Shut (∀ a w, wpAnyV P md ops Q S T fuel (listed.setIfInBounds i true) a w → K a w) → if Region.wanted o (yielded ops a.tmps) = true then Oper.wp P o a w K Q else K (a.put o.dst undef) w) :
    wpAnyV P md ops Q S T (fuel + 1) listed a w :=
  ⟨fun h0 => (by rw [hr] at h0; cases h0), fun j hj => by
    rw [hr] at hj
    simp only [List.mem_singleton] at hj
    subst hj
    exact wpOp_step ho (fun K' hK => h K' (fun a w hW => hK a w ⟨fun hF => (by rw [hT] at hF; cases hF), hW⟩))⟩
/-- Two may come up, neither of T: the one or the other is carried out. -/
theorem two {i j : Nat} {oi oj : Oper} {fuel : Nat} {listed : Array Bool} {a : Act} {w : World} (hoi : ops[i]? = some oi) (hoj : ops[j]? = some oj) (hr : Region.ready md ops listed = [i, j])
    (h : ∀ K : Act → World → Prop, Shut (∀ a w, S w → wpAnyV P md ops Q S T fuel (listed.setIfInBounds i true) a w → K a w) → if Region.wanted oi (yielded ops a.tmps) = true then Oper.wp P oi a w K Q else K (a.put oi.dst undef) w)
    (h' : ∀ K : Act → World → Prop, Shut (∀ a w, S w → wpAnyV P md ops Q S T fuel (listed.setIfInBounds j true) a w → K a w) → if Region.wanted oj (yielded ops a.tmps) = true then Oper.wp P oj a w K Q else K (a.put oj.dst undef) w) :
    wpAnyV P md ops Q S T (fuel + 1) listed a w :=
  ⟨fun h0 => (by rw [hr] at h0; cases h0), fun k hk => by
    rw [hr] at hk
    simp only [List.mem_cons, List.not_mem_nil, or_false] at hk
    rcases hk with rfl | rfl
    · exact wpOp_step hoi (fun K' hK => h K' (fun a w hS hW => hK a w ⟨fun _ _ => hS, hW⟩))
    · exact wpOp_step hoj (fun K' hK => h' K' (fun a w hS hW => hK a w ⟨fun _ _ => hS, hW⟩))⟩
theorem done {listed : Array Bool} {a : Act} {w : World} (hr : Region.ready md ops listed = []) (h : Q .normal a w) : ∀ fuel, wpAnyV P md ops Q S T fuel listed a w
  | 0 => ⟨hr, h⟩
  | _ + 1 => ⟨fun _ => h, by rw [hr]; simp⟩
/-- The beginning. -/
theorem start {id : Nat} {a : Act} {w : World} (S : World → Prop) (T : Nat → Bool) (hm : P.follows .mixedOrders = true)
    (h : wpAnyV P .any ops Q S T ops.size (Array.replicate ops.size false) a w.drew) : (Code.region id ops true).wp P Q a w :=
  wp_region_any hm (wpAny_of_V _ _ _ _ h)
end
end Go.Proofs.Ytmglgjchemecjaa.Rv
/- placeOf and symbolPlace: the places that symbols mean. -/
namespace Go.Proofs.Ytmglgjchemecjaa.CPlaceL
set_option maxRecDepth 200000
open Go.ChangeShapes Go.WideShapes Go.ChangeAt Go.RowKit Kit CCode CName CFixups CSymbols PObj BObj PValid CGlobalOf CObjValid BStore BList PLink CFind
/-- A symbol's place can be told. -/
def PlOk (rs : List RV) (k : Nat) (y : YD) : Prop :=
  (y.2.2.1 = -2 ∨ (0 ≤ y.2.2.1 ∧ ∃ h : k < rs.length, ∃ h2 : y.2.2.1.toNat < (rs[k]).zs.length, 0 ≤ (rs[k]).zs[y.2.2.1.toNat] ∧ (rs[k]).zs[y.2.2.1.toNat] ≤ 20000)) ∧ 0 ≤ y.2.2.2 ∧ y.2.2.2 ≤ 60000
theorem getP_at {rs : List RV} {k i : Nat} (h : k < rs.length) (h2 : i < (rs[k]).zs.length) : getP (rs.map RV.zs) k i = (rs[k]).zs[i] := by
  unfold getP
  rw [List.getD_eq_getElem?_getD, List.getD_eq_getElem?_getD, List.getElem?_map, List.getElem?_eq_getElem h]
  simp [List.getElem?_eq_getElem h2]
set_option maxHeartbeats 4000000 in
theorem placeOf_any (PA : Option Addr) (rs : List RV) (pc : Nat) (EA : Option Addr) (m ec : Nat) (A : Option Addr) (os : List OV) (c k j : Nat) (w : World) (hP : RdRs w w.heap.size PA rs) (hr : RdOs w w.heap.size A os)
    (hk : k < os.length) (hj : j < (os[k]).ys.length) (hm : os.length ≤ 1048576 ∧ (os[k]).ys.length ≤ 1048576) (hp : PlOk rs k (os[k]).ys[j]) :
    Calls Try.prog 96 #[.agg #[.slice PA rs.length pc, .slice EA m ec], .slice A os.length c, .agg #[.int .i64 k, .int .i64 j]] w (Ret (.int .i64 (tgY (rs.map RV.zs) k (os[k]).ys[j])) w) := by
  obtain ⟨hm1, hm2⟩ := hm
  have B0 : Below w.heap.size w ((w.alloc (.cells #[.slice PA rs.length pc, .slice EA m ec] 101)).alloc (.cells #[.int .i64 k, .int .i64 j] 117)) := (by repeat (first | exact Below.refl _ _ | with_reducible assumption | (refine Below.drew ?_) | (refine Below.drewN ?_ _) | (refine Below.alloc ?_ (by simp; try omega) _) | (refine Below.setCell ?_ (by simp; try omega) _)))
  have HL := hide ((Box.new w 101 #[.slice PA rs.length pc, .slice EA m ec]).alloc (.cells #[.int .i64 k, .int .i64 j] 117))
  have HG0 := Box.new (w.alloc (.cells #[.slice PA rs.length pc, .slice EA m ec] 101)) 117 #[.int .i64 k, .int .i64 j]
  simp only [World.size_alloc] at HG0
  have HG := hide HG0
  have HB := hide B0
  have HRP := hide (hP.below B0)
  obtain ⟨b1, o1, hA, hb1, hc0, hc1⟩ := (hr.below B0).at hk
  obtain ⟨b2, o2, hY, hb2, hc⟩ := ((hr.2 _ (List.getElem_mem hk)).2.below B0).row symbolC_len (by decide) hj
  have hd0 := hc 0 _ rfl
  have hd1 := hc 1 _ rfl
  have hd2 := hc 2 _ rfl
  have hd3 := hc 3 _ rfl
  simp only [Nat.add_zero] at hd0
  have HPL := hide hp
  clear hP hr hc hp HG0 B0 hc0
  subst hA
  rw [hY] at hc1
  clear hY
  generalize (os[k]).ys[j] = z at *
  generalize (os[k]).ys.length = yn at *
  generalize (os[k]).yc = ycc at *
  obtain ⟨z1, z2, z3, z4⟩ := z
  simp only at hd0 hd1 hd2 hd3
  go_enter Try.func96, Try.ntmps96
  go_wp2_with fail
  generalize (w.alloc (.cells #[.slice PA rs.length pc, .slice EA m ec] 101)).alloc (.cells #[.int .i64 k, .int .i64 j] 117) = w0 at *
  have hN : w.heap.size < w.heap.size + 1 := by omega
  generalize w.heap.size + 1 = N at *
  have g0 := HG.out.cell 0
  have g1 := HG.out.cell 1
  simp only [List.getElem?_toArray, List.getElem?_cons_zero, List.getElem?_cons_succ] at g0 g1
  have Z0 : w0.cell? ⟨N, 0, none⟩ = some (.int .i64 k) ∧ w0.cell? ⟨N, 1, none⟩ = some (.int .i64 j) ∧ w0.cell? ⟨b1, o1 + k * 2 + 1, none⟩ = some (.slice (some ⟨b2, o2, none⟩) yn ycc) ∧ w0.cell? ⟨b2, o2 + j * 4, none⟩ = some (.string z1) ∧ w0.cell? ⟨b2, o2 + j * 4 + 1, none⟩ = some (.int .i64 z2) ∧ w0.cell? ⟨b2, o2 + j * 4 + 2, none⟩ = some (.int .i64 z3) ∧ w0.cell? ⟨b2, o2 + j * 4 + 3, none⟩ = some (.int .i64 z4) := ⟨g0, g1, hc1, hd0, hd1, hd2, hd3⟩
  refine Reg.startT (fun W => W.cell? ⟨N, 0, none⟩ = some (.int .i64 k) ∧ W.cell? ⟨N, 1, none⟩ = some (.int .i64 j) ∧ W.cell? ⟨b1, o1 + k * 2 + 1, none⟩ = some (.slice (some ⟨b2, o2, none⟩) yn ycc) ∧ W.cell? ⟨b2, o2 + j * 4, none⟩ = some (.string z1) ∧ W.cell? ⟨b2, o2 + j * 4 + 1, none⟩ = some (.int .i64 z2) ∧ W.cell? ⟨b2, o2 + j * 4 + 2, none⟩ = some (.int .i64 z3) ∧ W.cell? ⟨b2, o2 + j * 4 + 3, none⟩ = some (.int .i64 z4)) (fun j => j == 11) (by kernel_rfl) ?_
  have hHeld : w0.drew.cell? ⟨N, 0, none⟩ = some (.int .i64 k) ∧ w0.drew.cell? ⟨N, 1, none⟩ = some (.int .i64 j) ∧ w0.drew.cell? ⟨b1, o1 + k * 2 + 1, none⟩ = some (.slice (some ⟨b2, o2, none⟩) yn ycc) ∧ w0.drew.cell? ⟨b2, o2 + j * 4, none⟩ = some (.string z1) ∧ w0.drew.cell? ⟨b2, o2 + j * 4 + 1, none⟩ = some (.int .i64 z2) ∧ w0.drew.cell? ⟨b2, o2 + j * 4 + 2, none⟩ = some (.int .i64 z3) ∧ w0.drew.cell? ⟨b2, o2 + j * 4 + 3, none⟩ = some (.int .i64 z4) := Z0
  clear Z0 g0 g1 hc1 hd0 hd1 hd2 hd3
  refine Reg.takeT (i := 0) (v := ?_) rfl (by kernel_rfl) (by kernel_rfl) (by kernel_rfl) (by kernel_rfl) (fun _ _ _ h => h) (Or.inl ⟨by rfl, ?_⟩) (by assumption) ?_
  rotate_left 1
  focus (intro w hSw; (try dsimp only at hSw); go_simp; (try with_reducible rfl))
  try simp only [List.getElem_toArray, List.getElem_cons_succ, List.getElem_cons_zero, Act.put, List.setIfInBounds_toArray, List.set_cons_zero, List.set_cons_succ]
  refine Reg.takeT (i := 1) (v := ?_) rfl (by kernel_rfl) (by kernel_rfl) (by kernel_rfl) (by kernel_rfl) (fun _ _ _ h => h) (Or.inl ⟨by rfl, ?_⟩) (by assumption) ?_
  rotate_left 1
  focus (intro w hSw; (try dsimp only at hSw); go_simp; (try with_reducible rfl))
  try simp only [List.getElem_toArray, List.getElem_cons_succ, List.getElem_cons_zero, Act.put, List.setIfInBounds_toArray, List.set_cons_zero, List.set_cons_succ]
  refine Reg.takeT (i := 2) (v := ?_) rfl (by kernel_rfl) (by kernel_rfl) (by kernel_rfl) (by kernel_rfl) (fun _ _ _ h => h) (Or.inl ⟨by rfl, ?_⟩) (by assumption) ?_
  rotate_left 1
  focus (intro w hSw; (try dsimp only at hSw); go_simp; (try with_reducible rfl))
  try simp only [List.getElem_toArray, List.getElem_cons_succ, List.getElem_cons_zero, Act.put, List.setIfInBounds_toArray, List.set_cons_zero, List.set_cons_succ]
  refine Reg.takeT (i := 3) (v := ?_) rfl (by kernel_rfl) (by kernel_rfl) (by kernel_rfl) (by kernel_rfl) (fun _ _ _ h => h) (Or.inl ⟨by rfl, ?_⟩) (by assumption) ?_
  rotate_left 1
  focus (intro w hSw; (try dsimp only at hSw); go_simp; (try with_reducible rfl))
  try simp only [List.getElem_toArray, List.getElem_cons_succ, List.getElem_cons_zero, Act.put, List.setIfInBounds_toArray, List.set_cons_zero, List.set_cons_succ]
  refine Reg.takeT (i := 4) (v := ?_) rfl (by kernel_rfl) (by kernel_rfl) (by kernel_rfl) (by kernel_rfl) (fun _ _ _ h => h) (Or.inl ⟨by rfl, ?_⟩) (by assumption) ?_
  rotate_left 1
  focus (intro w hSw; (try dsimp only at hSw); go_simp; (try with_reducible rfl))
  try simp only [List.getElem_toArray, List.getElem_cons_succ, List.getElem_cons_zero, Act.put, List.setIfInBounds_toArray, List.set_cons_zero, List.set_cons_succ]
  refine Reg.takeT (i := 5) (v := ?_) rfl (by kernel_rfl) (by kernel_rfl) (by kernel_rfl) (by kernel_rfl) (fun _ _ _ h => h) (Or.inl ⟨by rfl, ?_⟩) (by assumption) ?_
  rotate_left 1
  focus (intro w hSw; (try dsimp only at hSw); go_simp; (try with_reducible rfl))
  try simp only [List.getElem_toArray, List.getElem_cons_succ, List.getElem_cons_zero, Act.put, List.setIfInBounds_toArray, List.set_cons_zero, List.set_cons_succ]
  refine Reg.takeT (i := 6) (v := ?_) rfl (by kernel_rfl) (by kernel_rfl) (by kernel_rfl) (by kernel_rfl) (fun _ _ _ h => h) (Or.inl ⟨by rfl, ?_⟩) (by assumption) ?_
  rotate_left 1
  focus (intro w hSw; (try dsimp only at hSw); go_simp; (try with_reducible rfl))
  try simp only [List.getElem_toArray, List.getElem_cons_succ, List.getElem_cons_zero, Act.put, List.setIfInBounds_toArray, List.set_cons_zero, List.set_cons_succ]
  refine Reg.takeT (i := 7) (v := ?_) rfl (by kernel_rfl) (by kernel_rfl) (by kernel_rfl) (by kernel_rfl) (fun _ _ _ h => h) (Or.inl ⟨by rfl, ?_⟩) (by assumption) ?_
  rotate_left 1
  focus (intro w hSw; (try dsimp only at hSw); go_simp; (try with_reducible rfl))
  try simp only [List.getElem_toArray, List.getElem_cons_succ, List.getElem_cons_zero, Act.put, List.setIfInBounds_toArray, List.set_cons_zero, List.set_cons_succ]
  refine Reg.takeT (i := 8) (v := ?_) rfl (by kernel_rfl) (by kernel_rfl) (by kernel_rfl) (by kernel_rfl) (fun _ _ _ h => h) (Or.inl ⟨by rfl, ?_⟩) (by assumption) ?_
  rotate_left 1
  focus (intro w hSw; (try dsimp only at hSw); go_simp; (try with_reducible rfl))
  try simp only [List.getElem_toArray, List.getElem_cons_succ, List.getElem_cons_zero, Act.put, List.setIfInBounds_toArray, List.set_cons_zero, List.set_cons_succ]
  refine Reg.takeT (i := 9) (v := ?_) rfl (by kernel_rfl) (by kernel_rfl) (by kernel_rfl) (by kernel_rfl) (fun _ _ _ h => h) (Or.inl ⟨by rfl, ?_⟩) (by assumption) ?_
  rotate_left 1
  focus (intro w hSw; (try dsimp only at hSw); go_simp; (try with_reducible rfl))
  try simp only [List.getElem_toArray, List.getElem_cons_succ, List.getElem_cons_zero, Act.put, List.setIfInBounds_toArray, List.set_cons_zero, List.set_cons_succ]
  have bd : Below w0.heap.size w0 w0.drew := below_dr (Below.refl _ _)
  replace HRP := hide (HRP.out.below (bd.mono HB.out.size))
  replace HB := hide (HB.out.trans (bd.mono HB.out.size))
  replace HL := hide (HL.out.call bd)
  replace HG := hide (HG.out.call bd)
  clear bd
  generalize w0.drew = w1 at *
  refine Reg.oneT (i := 10) rfl (by kernel_rfl) (fun K hK => ?_)
  go_simp
  have ba : Below w1.heap.size w1 (w1.alloc (.cells #[.string ⟨#[]⟩, .int .i64 0, .int .i64 0, .int .i64 0] 69)) := (by repeat (first | exact Below.refl _ _ | with_reducible assumption | (refine Below.drew ?_) | (refine Below.drewN ?_ _) | (refine Below.alloc ?_ (by simp; try omega) _) | (refine Below.setCell ?_ (by simp; try omega) _)))
  have HZ := hide (Box.new w1 69 #[.string ⟨#[]⟩, .int .i64 0, .int .i64 0, .int .i64 0])
  have hls : w.heap.size ≤ w1.heap.size := HB.out.size
  have hNw : N < w1.heap.size := HG.out.lt
  replace hHeld := And.intro ((ba.cell (p := ⟨N, 0, none⟩) hNw).trans hHeld.1) (And.intro ((ba.cell (p := ⟨N, 1, none⟩) hNw).trans hHeld.2.1) (And.intro ((ba.cell (p := ⟨b1, o1 + k * 2 + 1, none⟩) (show b1 < w1.heap.size by omega)).trans hHeld.2.2.1) (And.intro ((ba.cell (p := ⟨b2, o2 + j * 4, none⟩) (show b2 < w1.heap.size by omega)).trans hHeld.2.2.2.1) (And.intro ((ba.cell (p := ⟨b2, o2 + j * 4 + 1, none⟩) (show b2 < w1.heap.size by omega)).trans hHeld.2.2.2.2.1) (And.intro ((ba.cell (p := ⟨b2, o2 + j * 4 + 2, none⟩) (show b2 < w1.heap.size by omega)).trans hHeld.2.2.2.2.2.1) ((ba.cell (p := ⟨b2, o2 + j * 4 + 3, none⟩) (show b2 < w1.heap.size by omega)).trans hHeld.2.2.2.2.2.2))))))
  refine hK.out _ _ hHeld ?_
  clear hK K
  try simp only [List.getElem_toArray, List.getElem_cons_succ, List.getElem_cons_zero, Act.put, List.setIfInBounds_toArray, List.set_cons_zero, List.set_cons_succ]
  replace HRP := hide (HRP.out.below (ba.mono hls))
  replace HB := hide (HB.out.trans (ba.mono HB.out.size))
  replace HL := hide (HL.out.call ba)
  replace HG := hide (HG.out.call ba)
  clear ba
  generalize w1.alloc (.cells #[.string ⟨#[]⟩, .int .i64 0, .int .i64 0, .int .i64 0] 69) = w2 at *
  generalize w1.heap.size = Z at *
  clear hHeld
  have y0 := HZ.out.cell 0
  have y1 := HZ.out.cell 1
  have y2 := HZ.out.cell 2
  have y3 := HZ.out.cell 3
  simp only [List.getElem?_toArray, List.getElem?_cons_zero, List.getElem?_cons_succ] at y0 y1 y2 y3
  have yf0 := HZ.out.frozen 0
  have yf1 := HZ.out.frozen 1
  have yf2 := HZ.out.frozen 2
  have yf3 := HZ.out.frozen 3
  have hzl := HZ.out.lt
  refine Reg.lastT (i := 11) rfl (by kernel_rfl) (by rfl) (fun K hK => ?_)
  go_simp
  refine hK.out _ _ ?_
  clear hK K
  try simp only [List.getElem_toArray, List.getElem_cons_succ, List.getElem_cons_zero, Act.put, List.setIfInBounds_toArray, List.set_cons_zero, List.set_cons_succ]
  refine Reg.doneT (by kernel_rfl) ?_ _
  generalize hW : (((w2.setCell ⟨Z, 0, none⟩ (.string z1)).setCell ⟨Z, 1, none⟩ (.int .i64 z2)).setCell ⟨Z, 2, none⟩ (.int .i64 z3)).setCell ⟨Z, 3, none⟩ (.int .i64 z4) = w3 at *
  have HZ3 := hide (show Box w3 Z 69 #[.string z1, .int .i64 z2, .int .i64 z3, .int .i64 z4] from by
    rw [← hW]
    exact (((HZ.out.set 0 _).set 1 _).set 2 _).set 3 _)
  have bz : Below Z w2 w3 := by
    rw [← hW]
    exact ((((Below.refl _ _).setCell (p := ⟨Z, 0, none⟩) (Nat.le_refl _) _).setCell (p := ⟨Z, 1, none⟩) (Nat.le_refl _) _).setCell (p := ⟨Z, 2, none⟩) (Nat.le_refl _) _).setCell (p := ⟨Z, 3, none⟩) (Nat.le_refl _) _
  have HB3 := hide (HB.out.trans (bz.mono hls))
  have HRP3 := hide (HRP.out.below (bz.mono hls))
  have HL3 := hide (show Box w3 w.heap.size 101 #[.slice PA rs.length pc, .slice EA m ec] from (bz.block _ (show w.heap.size < Z by omega)).trans HL.out)
  have HG3 := hide (show Box w3 N 117 #[.int .i64 k, .int .i64 j] from (bz.block _ hNw).trans HG.out)
  clear hW bz HZ HB HRP HL HG y0 y1 y2 y3 yf0 yf1 yf2 yf3 hzl
  have y2 := HZ3.out.cell 2
  have y3 := HZ3.out.cell 3
  simp only [List.getElem?_toArray, List.getElem?_cons_zero, List.getElem?_cons_succ] at y2 y3
  have hzl := HZ3.out.lt
  by_cases hz : z3 = -2
  · have e1 : (z3 == -2) = true := beq_iff_eq.2 hz
    have HV := hide (show tgY (rs.map RV.zs) k (z1, z2, z3, z4) = z4 from if_pos hz)
    clear hz
    go_wp2_with fail
    go_ret
    exact ⟨by rw [HV.out]; rfl, HB3.out⟩
  · have e1 : (z3 == -2) = false := beq_eq_false_iff_ne.2 hz
    obtain ⟨hp1, hp2, hp3⟩ := HPL.out
    simp only at hp1 hp2 hp3
    obtain ⟨h0, hkr, hir, hlo, hhi⟩ := hp1.resolve_left hz
    have HV := hide (show tgY (rs.map RV.zs) k (z1, z2, z3, z4) = (rs[k]).zs[z3.toNat] + z4 from by
      unfold tgY
      rw [if_neg hz, getP_at hkr hir])
    obtain ⟨b5, o5, hPA, hb5, hrow⟩ := HRP3.out.at hkr
    obtain ⟨b6, o6, hRA, hb6, hcell⟩ := (HRP3.out.2 _ (List.getElem_mem hkr)).int hir
    have HL4 := HL3.out.cell 0
    simp only [List.getElem?_toArray, List.getElem?_cons_zero] at HL4
    rw [hPA] at HL4
    rw [hRA] at hrow
    obtain ⟨i, hi⟩ : ∃ i : Nat, z3 = (i : Int) := ⟨z3.toNat, by omega⟩
    subst hi
    simp only [Int.toNat_natCast] at hir hlo hhi HV hcell
    generalize (rs[k]).zs[i] = p at *
    generalize (rs[k]).zs.length = rn at *
    generalize (rs[k]).c = rc at *
    have hll := HL3.out.lt
    have g0 := HG3.out.cell 0
    simp only [List.getElem?_toArray, List.getElem?_cons_zero, List.getElem?_cons_succ] at g0
    have hgl := HG3.out.lt
    have hwr : IntKind.i64.wrap (p + z4) = p + z4 := IntWalk.i64_in _ (by omega)
    clear hz hp1 HPL hRA hPA HRP3 h0
    go_wp2_with fail
    go_quiet (fail)
    go_wp2_with fail
    go_ret
    exact ⟨by rw [HV.out]; rfl, Kit.Below.drewN HB3.out _⟩
end Go.Proofs.Ytmglgjchemecjaa.CPlaceL
/- symbolPlace: the place that a symbol means. -/
namespace Go.Proofs.Ytmglgjchemecjaa.CSymPl
set_option maxRecDepth 200000
open Go.ChangeShapes Go.WideShapes Go.ChangeAt Go.RowKit Kit PWarn CCode CName CFixups CSymbols PObj BObj PValid CGlobalOf CObjValid BStore BList PLink CFind CPlaceL
def AllPl (rs : List RV) (os : List OV) : Prop := ∀ (k : Nat) (hk : k < os.length) (j : Nat) (hj : j < (os[k]).ys.length), ((os[k]).ys[j].2.2.1 = -1 → ¬ (os[k]).ys[j].2.1 = 0) ∧ (¬ (os[k]).ys[j].2.2.1 = -1 → PlOk rs k (os[k]).ys[j])
theorem sym_at (os : List OV) {k j : Nat} (hk : k < os.length) (hj : j < (os[k]).ys.length) : symAtL (os.map OV.d) (k, j) = (os[k]).ys[j] := by
  unfold symAtL
  rw [List.getD_eq_getElem?_getD (l := os.map OV.d), List.getElem?_map, List.getElem?_eq_getElem hk]
  simp only [Option.map_some, Option.getD_some, OV.d]
  exact getD_at hj _
def RetP (v : Int) (w : World) (e : Ending) (w' : World) : Prop := ∃ b : Bool, e = .returned (.tuple #[.int .i64 v, .bool b]) ∧ Below w.heap.size w w'
set_option maxHeartbeats 4000000 in
theorem symbolPlace_any (PA : Option Addr) (rs : List RV) (pc : Nat) (EA : Option Addr) (m ec : Nat) (A : Option Addr) (os : List OV) (c k j : Nat) (w : World) (hP : RdRs w w.heap.size PA rs) (hr : RdOs w w.heap.size A os)
    (hk : k < os.length) (hj : j < (os[k]).ys.length) (hm : Lens os) (hp : AllPl rs os) :
    Calls Try.prog 80 #[.agg #[.slice PA rs.length pc, .slice EA m ec], .slice A os.length c, .int .i64 k, .int .i64 j] w (RetP (symPl (os.map OV.d) (rs.map RV.zs) k j) w) := by
  have hm1 := hm.1
  have hm2 := hm.2 _ (List.getElem_mem hk)
  have HM := hide hm
  have HPL := hide hp
  have HV := hide (show symPl (os.map OV.d) (rs.map RV.zs) k j = if (os[k]).ys[j].2.1 = 0 then tgY (rs.map RV.zs) k (os[k]).ys[j] else tgO (os.map OV.d) (rs.map RV.zs) (findN (os.map OV.d) (os[k]).ys[j].1) from by
    unfold symPl tgG
    rw [sym_at os hk hj])
  have B0 : Below w.heap.size w (w.alloc (.cells #[.slice PA rs.length pc, .slice EA m ec] 101)) := (by repeat (first | exact Below.refl _ _ | with_reducible assumption | (refine Below.drew ?_) | (refine Below.drewN ?_ _) | (refine Below.alloc ?_ (by simp; try omega) _) | (refine Below.setCell ?_ (by simp; try omega) _)))
  have HL := hide (Box.new w 101 #[.slice PA rs.length pc, .slice EA m ec])
  have HB := hide B0
  have HRP := hide (hP.below B0)
  have HRO := hide (hr.below B0)
  obtain ⟨b1, o1, hA, hb1, hc0, hc1⟩ := (hr.below B0).at hk
  obtain ⟨b2, o2, hY, hb2, hc⟩ := ((hr.2 _ (List.getElem_mem hk)).2.below B0).row symbolC_len (by decide) hj
  have hd0 := hc 0 _ rfl
  have hd1 := hc 1 _ rfl
  have hd2 := hc 2 _ rfl
  have hd3 := hc 3 _ rfl
  simp only [Nat.add_zero] at hd0
  have HQ := hide (hp k hk j hj).1
  have HPC := hide (fun (W : World) (hb : Below w.heap.size w W) (hw : ¬ (os[k]).ys[j].2.2.1 = -1) => placeOf_any PA rs pc EA m ec A os c k j W ((hP.below hb).more hb.size) ((hr.below hb).more hb.size) hk hj ⟨hm1, hm2⟩ ((hp k hk j hj).2 hw))
  have HPG := hide (fun (W : World) (hb : Below w.heap.size w W) (g : G) (hg : findN (os.map OV.d) (os[k]).ys[j].1 = some g) => show Calls Try.prog 96 #[.agg #[.slice PA rs.length pc, .slice EA m ec], .slice A os.length c, .agg #[.int .i64 g.1, .int .i64 g.2]] W (Ret (.int .i64 (tgG (os.map OV.d) (rs.map RV.zs) g)) W) from by
    obtain ⟨h1, h2, h3⟩ := find_ok hg
    rw [List.length_map] at h1
    have e1 : (os.map OV.d).getD g.1 ⟨[], []⟩ = (os[g.1]).d := by
      rw [List.getD_eq_getElem?_getD, List.getElem?_map, List.getElem?_eq_getElem h1]
      rfl
    rw [e1] at h2 h3
    have h2' : g.2 < (os[g.1]).ys.length := h2
    have e2 : (os[g.1]).d.ys.getD g.2 dY = (os[g.1]).ys[g.2] := getD_at h2' _
    rw [e2] at h3
    have h := placeOf_any PA rs pc EA m ec A os c g.1 g.2 W ((hP.below hb).more hb.size) ((hr.below hb).more hb.size) h1 h2' ⟨hm1, hm.2 _ (List.getElem_mem h1)⟩ ((hp g.1 h1 g.2 h2').2 h3)
    unfold tgG
    rw [show symAtL (os.map OV.d) g = (os[g.1]).ys[g.2] from sym_at os h1 h2']
    exact h)
  clear hP hr hc hp B0 hc0 hm
  subst hA
  rw [hY] at hc1
  clear hY
  generalize (os[k]).ys[j] = z at *
  generalize (os[k]).ys.length = yn at *
  generalize (os[k]).yc = ycc at *
  obtain ⟨z1, z2, z3, z4⟩ := z
  simp only at hd0 hd1 hd2 hd3 HV HQ HPC HPG
  go_enter Try.func80, Try.ntmps80
  have B1 : Below (w.alloc (.cells #[.slice PA rs.length pc, .slice EA m ec] 101)).heap.size (w.alloc (.cells #[.slice PA rs.length pc, .slice EA m ec] 101)) ((w.alloc (.cells #[.slice PA rs.length pc, .slice EA m ec] 101)).alloc (.cells #[.string z1, .int .i64 z2, .int .i64 z3, .int .i64 z4] 69)) := (by repeat (first | exact Below.refl _ _ | with_reducible assumption | (refine Below.drew ?_) | (refine Below.drewN ?_ _) | (refine Below.alloc ?_ (by simp; try omega) _) | (refine Below.setCell ?_ (by simp; try omega) _)))
  have HZ0 := Box.new (w.alloc (.cells #[.slice PA rs.length pc, .slice EA m ec] 101)) 69 #[.string z1, .int .i64 z2, .int .i64 z3, .int .i64 z4]
  simp only [World.size_alloc] at HZ0
  have HZ := hide HZ0
  replace HRP := hide (HRP.out.below (B1.mono HB.out.size))
  replace HRO := hide (HRO.out.below (B1.mono HB.out.size))
  replace HB := hide (HB.out.trans (B1.mono HB.out.size))
  replace HL := hide (HL.out.call B1)
  clear B1
  clear HZ0
  cases q : (z2 == 0)
  · have hz2 : ¬ z2 = 0 := by simpa using q
    have HV2 := hide (show symPl (os.map OV.d) (rs.map RV.zs) k j = tgO (os.map OV.d) (rs.map RV.zs) (findN (os.map OV.d) z1) from by rw [HV.out, if_neg hz2])
    clear hz2 HV HPC
    go_wp2_with fail
    clear hc1 hd0 hd1 hd2 hd3 q
    generalize (w.alloc (.cells #[.slice PA rs.length pc, .slice EA m ec] 101)).alloc (.cells #[.string z1, .int .i64 z2, .int .i64 z3, .int .i64 z4] 69) = w1 at *
    refine (findName_any (some ⟨b1, o1, none⟩) os c z1 w1 (HRO.out.more HB.out.size) HM.out).mono ?_
    rintro e w2 ⟨rfl, b2⟩
    replace HB := hide (HB.out.trans (b2.mono HB.out.size))
    replace HL := hide (HL.out.call b2)
    replace HZ := hide (HZ.out.call b2)
    clear b2
    generalize hr0 : findN (os.map OV.d) z1 = r at *
    clear hr0
    simp only [givV]
    cases r with
    | none =>
      have bg : Below w2.heap.size w2 (w2.alloc (.cells #[.int .i64 0, .int .i64 0] 117)) := (by repeat (first | exact Below.refl _ _ | with_reducible assumption | (refine Below.drew ?_) | (refine Below.drewN ?_ _) | (refine Below.alloc ?_ (by simp; try omega) _) | (refine Below.setCell ?_ (by simp; try omega) _)))
      have HBG := hide (HB.out.trans (bg.mono HB.out.size))
      have HZG := hide (HZ.out.call bg)
      have y1 := HZG.out.cell 1
      simp only [List.getElem?_toArray, List.getElem?_cons_zero, List.getElem?_cons_succ] at y1
      have hzl := HZG.out.lt
      simp only [gin, gat, Option.isSome]
      clear bg
      go_wp2_with fail
      go_quiet (fail)
      go_wp2_with fail
      go_ret2
      exact ⟨_, by rw [HV2.out]; rfl, Kit.Below.drewN HBG.out _⟩
    | some g =>
      simp only [gin, gat, Option.isSome]
      have bg : Below w2.heap.size w2 (w2.alloc (.cells #[.int .i64 g.1, .int .i64 g.2] 117)) := (by repeat (first | exact Below.refl _ _ | with_reducible assumption | (refine Below.drew ?_) | (refine Below.drewN ?_ _) | (refine Below.alloc ?_ (by simp; try omega) _) | (refine Below.setCell ?_ (by simp; try omega) _)))
      have HLG := hide (HL.out.call bg)
      have HGG := hide (Box.new w2 117 #[.int .i64 g.1, .int .i64 g.2])
      replace HB := hide (HB.out.trans (bg.mono HB.out.size))
      clear bg
      clear HL HZ
      have y0 := HLG.out.cell 0
      have y1 := HLG.out.cell 1
      simp only [List.getElem?_toArray, List.getElem?_cons_zero, List.getElem?_cons_succ] at y0 y1
      have g0 := HGG.out.cell 0
      have g1 := HGG.out.cell 1
      simp only [List.getElem?_toArray, List.getElem?_cons_zero, List.getElem?_cons_succ] at g0 g1
      have hll := HLG.out.lt
      have hgl := HGG.out.lt
      go_wp2_with fail
      clear y0 y1 g0 g1 hll hgl HLG HGG
      generalize w2.alloc (.cells #[.int .i64 g.1, .int .i64 g.2] 117) = w3 at *
      refine (HPG.out w3 HB.out g rfl).mono ?_
      rintro e w4 ⟨rfl, b4⟩
      replace HB := hide (HB.out.trans (b4.mono HB.out.size))
      clear b4
      generalize hv : tgG (os.map OV.d) (rs.map RV.zs) g = v at *
      have HW := hide hv
      clear hv
      go_wp2_with fail
      go_ret2
      exact ⟨true, by rw [HV2.out]; show _ = Ending.returned (.tuple #[.int .i64 (tgG _ _ g), _]); rw [HW.out]; rfl, HB.out⟩
  · have hz2 : z2 = 0 := by simpa using q
    have HV2 := hide (show symPl (os.map OV.d) (rs.map RV.zs) k j = tgY (rs.map RV.zs) k (z1, z2, z3, z4) from by rw [HV.out, if_pos hz2])
    have hz3 : ¬ z3 = -1 := fun e => HQ.out e hz2
    have HPD := hide (fun (W : World) (hb : Below w.heap.size w W) => HPC.out W hb hz3)
    clear hz2 hz3 HV HPC HPG HQ
    have y0 := HL.out.cell 0
    have y1 := HL.out.cell 1
    simp only [List.getElem?_toArray, List.getElem?_cons_zero, List.getElem?_cons_succ] at y0 y1
    have hll := HL.out.lt
    go_wp2_with fail
    clear hc1 hd0 hd1 hd2 hd3 q y0 y1 hll
    refine (HPD.out _ HB.out).mono ?_
    rintro e w4 ⟨rfl, b4⟩
    have HB4 := hide (HB.out.trans (b4.mono HB.out.size))
    clear b4
    generalize hv : tgY (rs.map RV.zs) k (z1, z2, z3, z4) = v at *
    have HW := hide hv
    clear hv HB HL HZ HRP HRO HPD
    go_wp2_with fail
    go_ret2
    exact ⟨true, by rw [HV2.out]; rfl, HB4.out⟩
end Go.Proofs.Ytmglgjchemecjaa.CSymPl
/- FixupValue: what a fixup gets. -/
namespace Go.Proofs.Ytmglgjchemecjaa.CFixVal
set_option maxRecDepth 200000
open Go.ChangeShapes Go.WideShapes Go.ChangeAt Go.RowKit Kit CCode PValid CSecValid PLink
def fvV (r : Option Int) : Value := .tuple #[.int .i64 (r.getD 0), .bool r.isSome]
theorem fix_out {kind place target add : Int} (h : ¬ (inB place 0 100000 = true ∧ inB target 0 100000 = true ∧ inB add (-1000) 1000 = true)) : fixVal kind place target add = none := if_neg h
theorem and255 : ∀ m : Fin 256, bits BinOp.and IntKind.i64 ((m.val : Int) - 128) 255 = ((m.val : Int) - 128) % 256 := by decide +kernel
theorem and_mod {n : Int} (h : -128 ≤ n ∧ n ≤ 127) : bits BinOp.and IntKind.i64 n 255 = n % 256 := by
  obtain ⟨m, hm⟩ : ∃ m : Nat, n = (m : Int) - 128 := ⟨(n + 128).toNat, by omega⟩
  subst hm
  exact and255 ⟨m, by omega⟩
set_option maxHeartbeats 4000000 in
theorem fixupValue_any (kind place target add : Int) (w : World) : Calls Try.prog 136 #[.int .i64 kind, .int .i64 place, .int .i64 target, .int .i64 add] w (Pure (fvV (fixVal kind place target add)) w) := by
  cases hp : inB place 0 100000
  · have HV := hide (fix_out (kind := kind) (place := place) (target := target) (add := add) (by rw [hp]; simp))
    go_enter Try.func136, Try.ntmps136
    go_wp2_with fail
    refine (within_any _ _ _ _).mono ?_
    rintro e w' ⟨rfl, rfl⟩
    rw [hp]
    go_wp2_with fail
    go_ret2
    exact ⟨by rw [HV.out]; rfl, rfl⟩
  cases ht : inB target 0 100000
  · have HV := hide (fix_out (kind := kind) (place := place) (target := target) (add := add) (by rw [ht]; simp))
    go_enter Try.func136, Try.ntmps136
    go_wp2_with fail
    refine (within_any _ _ _ _).mono ?_
    rintro e w' ⟨rfl, rfl⟩
    rw [hp]
    go_wp2_with fail
    refine (within_any _ _ _ _).mono ?_
    rintro e w' ⟨rfl, rfl⟩
    rw [ht]
    go_wp2_with fail
    go_ret2
    exact ⟨by rw [HV.out]; rfl, rfl⟩
  cases ha : inB add (-1000) 1000
  · have HV := hide (fix_out (kind := kind) (place := place) (target := target) (add := add) (by rw [ha]; simp))
    go_enter Try.func136, Try.ntmps136
    go_wp2_with fail
    refine (within_any _ _ _ _).mono ?_
    rintro e w' ⟨rfl, rfl⟩
    rw [hp]
    go_wp2_with fail
    refine (within_any _ _ _ _).mono ?_
    rintro e w' ⟨rfl, rfl⟩
    rw [ht]
    go_wp2_with fail
    refine (isAdd_any _ _).mono ?_
    rintro e w' ⟨rfl, rfl⟩
    rw [ha]
    go_wp2_with fail
    go_ret2
    exact ⟨by rw [HV.out]; rfl, rfl⟩
  have HH := hide (And.intro hp (And.intro ht ha))
  have hp1 : 0 ≤ place ∧ place ≤ 100000 := by simpa [inB] using hp
  have ht1 : 0 ≤ target ∧ target ≤ 100000 := by simpa [inB] using ht
  have ha1 : -1000 ≤ add ∧ add ≤ 1000 := by simpa [inB] using ha
  obtain ⟨p1, p2⟩ := hp1
  obtain ⟨t1, t2⟩ := ht1
  obtain ⟨a1, a2⟩ := ha1
  have HV := hide (show fixVal kind place target add = (if kind = 2 then (if inB (target + add) 0 65535 = true then some (target + add) else none) else if kind = 3 then (if 0 ≤ target + add then some (target + add) else none) else if kind = 1 then (if inB (near place (target + add)) (-128) 127 = true then some (near place (target + add) % 256) else none) else none) from if_pos HH.out)
  have hwr : IntKind.i64.wrap (target + add) = target + add := IntWalk.i64_in _ (by omega)
  have hwp : IntKind.i64.wrap (place + 1) = place + 1 := IntWalk.i64_in _ (by omega)
  go_enter Try.func136, Try.ntmps136
  go_wp2_with fail
  refine (within_any _ _ _ _).mono ?_
  rintro e w' ⟨rfl, rfl⟩
  rw [hp]
  go_wp2_with fail
  refine (within_any _ _ _ _).mono ?_
  rintro e w' ⟨rfl, rfl⟩
  rw [ht]
  go_wp2_with fail
  refine (isAdd_any _ _).mono ?_
  rintro e w' ⟨rfl, rfl⟩
  rw [ha]
  clear hp ht ha
  by_cases k2 : kind = 2
  · have e2 : (kind == 2) = true := beq_iff_eq.2 k2
    rw [if_pos k2] at HV
    clear k2
    generalize hv : target + add = v at *
    go_wp2_with fail
    refine (within_any _ _ _ _).mono ?_
    rintro e w' ⟨rfl, rfl⟩
    cases hc : inB v 0 65535
    · have HV2 := hide (HV.out.trans (by rw [hc]; rfl : _ = none))
      clear HV hc
      go_wp2_with fail
      go_ret2
      exact ⟨by rw [HV2.out]; rfl, rfl⟩
    · have HV2 := hide (HV.out.trans (by rw [hc]; rfl : _ = some v))
      clear HV hc
      go_wp2_with fail
      go_ret2
      exact ⟨by rw [HV2.out]; rfl, rfl⟩
  rw [if_neg k2] at HV
  have e2 : (kind == 2) = false := beq_eq_false_iff_ne.2 k2
  by_cases k3 : kind = 3
  · have e3 : (kind == 3) = true := beq_iff_eq.2 k3
    rw [if_pos k3] at HV
    clear k2 k3
    generalize hv : target + add = v at *
    by_cases hc : 0 ≤ v
    · rw [if_pos hc] at HV
      have ec : decide (0 ≤ v) = true := decide_eq_true hc
      clear hc
      go_wp2_with fail
      go_ret2
      exact ⟨by rw [HV.out]; rfl, rfl⟩
    · rw [if_neg hc] at HV
      have ec : decide (0 ≤ v) = false := decide_eq_false hc
      clear hc
      go_wp2_with fail
      go_ret2
      exact ⟨by rw [HV.out]; rfl, rfl⟩
  rw [if_neg k3] at HV
  have e3 : (kind == 3) = false := beq_eq_false_iff_ne.2 k3
  by_cases k1 : kind = 1
  · have e1 : (kind == 1) = true := beq_iff_eq.2 k1
    rw [if_pos k1] at HV
    clear k1 k2 k3
    have hwn : IntKind.i64.wrap (target + add - (place + 1)) = near place (target + add) := IntWalk.i64_in _ (by omega)
    generalize hn : near place (target + add) = n at *
    clear hn
    go_wp2_with fail
    refine (within_any _ _ _ _).mono ?_
    rintro e w' ⟨rfl, rfl⟩
    cases hc : inB n (-128) 127
    · have HV2 := hide (HV.out.trans (by rw [hc]; rfl : _ = none))
      clear HV hc
      go_wp2_with fail
      go_ret2
      exact ⟨by rw [HV2.out]; rfl, rfl⟩
    · have HV2 := hide (HV.out.trans (by rw [hc]; rfl : _ = some (n % 256)))
      have hn : -128 ≤ n ∧ n ≤ 127 := by simpa [inB] using hc
      clear HV hc
      go_wp2_with fail
      go_ret2
      refine ⟨?_, rfl⟩
      rw [HV2.out]
      show Ending.returned (.tuple #[.int .i64 (bits BinOp.and IntKind.i64 n 255), .bool true]) = _
      rw [and_mod hn]
      rfl
  · rw [if_neg k1] at HV
    have e1 : (kind == 1) = false := beq_eq_false_iff_ne.2 k1
    clear k1 k2 k3
    go_wp2_with fail
    go_ret2
    exact ⟨by rw [HV.out]; rfl, rfl⟩
end Go.Proofs.Ytmglgjchemecjaa.CFixVal
/- Bytes copied into a row of one's own. -/
namespace Go.Proofs.Ytmglgjchemecjaa.BCopy
set_option maxRecDepth 200000
open Go.ChangeShapes Go.WideShapes Go.ChangeAt Go.RowKit Kit PLink
theorem step_copy_row {P : Program} {ops : Array Oper} {o : Oper} {a : Act} {w : World} {K : Act → World → Prop} {Q : Exit → Act → World → Prop} {E : Prop} (hgd : o.guard = none) (d s : Operand) (dT sT : TypeId)
    (ho : o.op = .call { callee := .builtin .copy, args := #[d, s], argTypes := #[dT, sT] }) (elem : TypeId) (hu : P.underlying dT = some (.slice elem)) (hsz : (P.info? elem).map (·.size) = some 1)
    (g off dLen dCap : Nat) (ad : Addr) (sLen sCap : Nat) (hd : a.eval d = .slice (some ⟨g, off, none⟩) dLen dCap) (hs : a.eval s = .slice (some ad) sLen sCap)
    (cur : List Value) (t : TypeId) (hg : w.heap[g]? = some (.cells cur.toArray t (0, 0))) (cs : List Value) (hn : cs.length = Nat.min sLen dLen)
    (hsrc : ∀ j v, cs[j]? = some v → w.cell? (ad.add j) = some v) (hfit : off + cs.length ≤ cur.length) (h1 : ∀ v ∈ cs, v.oneCell' = true)
    (h : K (a.put o.dst (goInt cs.length)) (w.setRow g (Go.splice cur off cs).toArray)) :
    if Region.wanted o (yielded ops a.tmps) = true then Oper.wp P o a w K Q else E := by
  have hw : Region.wanted o (yielded ops a.tmps) = true := by simp [Region.wanted, hgd]
  rw [if_pos hw]
  have hrun := run_copy_row (P := P) w dT sT o.type elem g off dLen dCap ad sLen sCap cur.toArray t cs hu hsz hg hn hsrc (by simpa using hfit) h1
  unfold Oper.wp
  simp [execOp, ho, resolve, invoke, builtin, hd, hs, hrun, Result.andThen]
  exact (show K _ _ from by simpa [Go.splice] using h)
theorem run_copy_zero {P : Program} (w : World) (dT sT ty elem : TypeId) (dA sA : Option Addr) (dLen dCap sLen sCap : Nat) (hu : P.underlying dT = some (.slice elem)) (hs : ((P.info? elem).map (·.size)).isSome = true) (h0 : Nat.min sLen dLen = 0) :
    (Builtin.copy_ #[dT, sT] ty #[.slice dA dLen dCap, .slice sA sLen sCap]).run P w = .ok (goInt 0) w := by
  cases hq : P.info? elem with
  | none => simp [hq] at hs
  | some i => cases dA <;> cases sA <;> simp [Builtin.copy_, run_underlying hu, Builtin.lenOf, Builtin.firstCells, sizeOf, typeInfo, hq, h0, storeCells, loadCells, loadCellsFrom]
theorem wpList_copy0 {P : Program} {w : World} {ops : Array Oper} {rest : List Oper} {o : Oper} {a : Act} {Q : Exit → Act → World → Prop} (hgd : o.guard = none) (d s : Operand) (dT sT : TypeId)
    (ho : o.op = .call { callee := .builtin .copy, args := #[d, s], argTypes := #[dT, sT] }) (elem : TypeId) (hu : P.underlying dT = some (.slice elem)) (hsz : ((P.info? elem).map (·.size)).isSome = true)
    {dA sA : Option Addr} {dLen dCap sLen sCap : Nat} (hd : a.eval d = .slice dA dLen dCap) (hs : a.eval s = .slice sA sLen sCap) (h0 : Nat.min sLen dLen = 0)
    (h : wpList P ops Q rest (a.put o.dst (goInt 0)) w) : wpList P ops Q (o :: rest) a w :=
  wpList_plain hgd fun K hK => by
    have hrun := run_copy_zero (P := P) w dT sT o.type elem dA sA dLen dCap sLen sCap hu hsz h0
    unfold Oper.wp
    simp [execOp, ho, resolve, invoke, builtin, hd, hs, hrun, Result.andThen]
    exact hK _ _ h
theorem wpList_copyR {P : Program} {w : World} {ops : Array Oper} {rest : List Oper} {o : Oper} {a : Act} {Q : Exit → Act → World → Prop} (hgd : o.guard = none) (d s : Operand) (dT sT : TypeId)
    (ho : o.op = .call { callee := .builtin .copy, args := #[d, s], argTypes := #[dT, sT] }) (elem : TypeId) (hu : P.underlying dT = some (.slice elem)) (hsz : (P.info? elem).map (·.size) = some 1)
    (g off dLen dCap : Nat) (ad : Addr) (sLen sCap : Nat) (hd : a.eval d = .slice (some ⟨g, off, none⟩) dLen dCap) (hs : a.eval s = .slice (some ad) sLen sCap)
    (cur : List Value) (t : TypeId) (hg : w.heap[g]? = some (.cells cur.toArray t (0, 0))) (cs : List Value) (hn : cs.length = Nat.min sLen dLen)
    (hsrc : ∀ j v, cs[j]? = some v → w.cell? (ad.add j) = some v) (hfit : off + cs.length ≤ cur.length) (h1 : ∀ v ∈ cs, v.oneCell' = true)
    (h : wpList P ops Q rest (a.put o.dst (goInt cs.length)) (w.setRow g (Go.splice cur off cs).toArray)) : wpList P ops Q (o :: rest) a w :=
  wpList_plain hgd fun K hK => by
    have hrun := run_copy_row (P := P) w dT sT o.type elem g off dLen dCap ad sLen sCap cur.toArray t cs hu hsz hg hn hsrc (by simpa using hfit) h1
    unfold Oper.wp
    simp [execOp, ho, resolve, invoke, builtin, hd, hs, hrun, Result.andThen]
    exact hK _ _ (by simpa [Go.splice] using h)
theorem box_setRow {w : World} {Y g : Nat} {t : TypeId} {cs : Array Value} {cur : List Value} (h : Box w Y t cs) (hg : w.heap[g]? = some (.cells cur.toArray 5 (0, 0))) (ht : t ≠ 5) (x : Array Value) : Box (w.setRow g x) Y t cs := by
  have hne : Y ≠ g := by
    intro e
    subst e
    have := hg.symm.trans h
    simp at this
    exact ht this.2.symm
  exact (setRow_other w g Y _ hne).trans h
theorem rd_addr {w : World} {B : Nat} {A : Option Addr} {zs : List Int} (h : Rd w B A (ints .u8 zs)) (h0 : 0 < zs.length) :
    ∃ bz off, A = some ⟨bz, off, none⟩ ∧ bz < B ∧ ∀ (j : Nat) (v : Value), (ints .u8 zs)[j]? = some v → w.cell? ((⟨bz, off, none⟩ : Addr).add j) = some v := by
  obtain ⟨b, off, rfl, hb, _⟩ := h.int h0
  refine ⟨b, off, rfl, hb, fun j v hj => ?_⟩
  obtain ⟨b', off', hA, _, hc⟩ := h j v hj
  injection hA with hA
  injection hA with e1 e2
  subst e1 e2
  by_cases h0 : j = 0
  · subst h0
    simpa [Addr.add] using hc
  · simpa [Addr.add, h0] using hc
theorem take_splice {A cs : List Value} {i n : Nat} (hin : i + cs.length ≤ n) (hn : n ≤ A.length) : (Go.splice A i cs).take n = Go.splice (A.take n) i cs := by
  unfold Go.splice
  have h1 : (A.take i).length = i := by rw [List.length_take]; omega
  have h2 : (A.take n).take i = A.take i := by rw [List.take_take]; congr 1; omega
  have h3 : (A.take i).take n = A.take i := by rw [List.take_take]; congr 1; omega
  have h4 : cs.take (n - i) = cs := List.take_of_length_le (by omega)
  rw [List.take_append, h1, h2, h3, List.take_append, h4, List.drop_take, show n - i - cs.length = n - (i + cs.length) by omega]
theorem splice_ints (l zs : List Int) (i : Nat) : Go.splice (ints .u8 l) i (ints .u8 zs) = ints .u8 (sp l i zs) := by
  simp [Go.splice, sp, ints]
theorem own_splice {w : World} {base g n c : Nat} {e : TypeId} {xs : List Value} (h : w.ownsRow base e 1 (.slice (some ⟨g, 0, none⟩) n c) n xs) :
    ∃ cur : List Value, w.heap[g]? = some (.cells cur.toArray e (0, 0)) ∧ base ≤ g ∧ n ≤ cur.length ∧ ∀ (w' : World) (i : Nat) (cs : List Value), i + cs.length ≤ n → w'.heap[g]? = some (.cells (Go.splice cur i cs).toArray e (0, 0)) → w'.ownsRow base e 1 (.slice (some ⟨g, 0, none⟩) n c) n (Go.splice xs i cs) := by
  have hl := h.1
  rcases h.2 with ⟨hv, _⟩ | ⟨g', cap, cur, hv, hb, hg, hn, hc, hs, ht⟩
  · cases hv
  · injection hv with hA _ hcap
    simp only [Option.some.injEq, Addr.mk.injEq, and_true] at hA
    subst hA hcap
    simp only [Nat.mul_one] at hs ht hl
    have hcl : cur.toList.length = c := by simpa using hs
    refine ⟨cur.toList, by simpa using hg, hb, by omega, fun w' i cs hi hw => ⟨?_, .inr ⟨g, c, _, rfl, hb, hw, hn, hc, ?_, ?_⟩⟩⟩
    · rw [Go.length_splice _ _ _ (by omega)]
      omega
    · simp only [Nat.mul_one, List.size_toArray]
      rw [Go.length_splice _ _ _ (by omega)]
      exact hcl
    · simp only [Nat.mul_one]
      rw [take_splice hi (by omega), ht]
/-- A row of bytes of one's own, and what becomes of it when bytes are copied in. -/
theorem copied {w : World} {base g n c : Nat} {l : List Int} (h : w.ownsRow base 5 1 (.slice (some ⟨g, 0, none⟩) n c) n (ints .u8 l)) :
    ∃ cur : List Value, w.heap[g]? = some (.cells cur.toArray 5 (0, 0)) ∧ base ≤ g ∧ n ≤ cur.length ∧ ∀ (i : Nat) (zs : List Int), i + zs.length ≤ n → (w.setRow g (Go.splice cur i (ints .u8 zs)).toArray).ownsRow base 5 1 (.slice (some ⟨g, 0, none⟩) n c) n (ints .u8 (sp l i zs)) := by
  obtain ⟨cur, hg, hN, hn, hf⟩ := own_splice h
  refine ⟨cur, hg, hN, hn, fun i zs hi => ?_⟩
  rw [← splice_ints]
  exact hf _ i _ (by simpa using hi) (setRow_heap w g _ _ _ _ hg)
end Go.Proofs.Ytmglgjchemecjaa.BCopy
/- ApplyFixup: bytes with a fixup filled in. -/
namespace Go.Proofs.Ytmglgjchemecjaa.CApFix
set_option maxRecDepth 200000
open Go.ChangeShapes Go.WideShapes Go.ChangeAt Go.RowKit Kit CCode CNumber CFixups CSymbols PObj BObj PValid CSecValid BStore CMarkRows CClones CCopyS PLink CFixVal BCopy
theorem fix_bd {kind place target add v : Int} (h : fixVal kind place target add = some v) : (kind = 1 ∨ kind = 2 ∨ kind = 3) ∧ 0 ≤ v ∧ v ≤ all (wide kind) := by
  unfold fixVal at h
  split at h
  · rename_i hc
    have h1 : 0 ≤ target ∧ target ≤ 100000 := by simpa [inB] using hc.2.1
    have h2 : -1000 ≤ add ∧ add ≤ 1000 := by simpa [inB] using hc.2.2
    split at h
    · rename_i hk
      subst hk
      split at h
      · rename_i hb
        injection h with h
        have h3 : 0 ≤ target + add ∧ target + add ≤ 65535 := by simpa [inB] using hb
        subst h
        refine ⟨by omega, by omega, ?_⟩
        show target + add ≤ 65535
        omega
      · cases h
    · split at h
      · rename_i hk
        subst hk
        split at h
        · injection h with h
          subst h
          refine ⟨by omega, by omega, ?_⟩
          show target + add ≤ 4294967295
          omega
        · cases h
      · split at h
        · rename_i hk
          subst hk
          split at h
          · injection h with h
            subst h
            refine ⟨by omega, by omega, ?_⟩
            show near place (target + add) % 256 ≤ 255
            omega
          · cases h
        · cases h
  · cases h
theorem pnum_put {kind place target add v : Int} (h : fixVal kind place target add = some v) : pnum v (wide kind) = putL (wide kind).toNat v := by
  obtain ⟨hk, h1, h2⟩ := fix_bd h
  unfold pnum
  rw [if_pos]
  refine ⟨?_, by simpa [inB] using ⟨h1, h2⟩⟩
  rcases hk with rfl | rfl | rfl <;> decide
/-- What is given back. -/
def RetF (r : Option (List Int)) (w : World) (e : Ending) (w' : World) : Prop := ∃ A c n, e = .returned (.tuple #[.slice A n c, .bool r.isSome]) ∧ Below w.heap.size w w' ∧ ∀ b, r = some b → n = b.length ∧ Row w' w.heap.size 5 1 A n c (ints .u8 b)
theorem ap_out {b : List Int} {place : Int} {f : FD} {t : Int} (h : ¬ (inB place 0 100000 = true ∧ ¬ wide f.2.1 = 0 ∧ inB f.1 0 (b.length - wide f.2.1) = true)) : apF b place f t = none := if_neg h
set_option maxHeartbeats 4000000 in
theorem applyFixup_any (A : Option Addr) (b : List Int) (c : Nat) (place : Int) (f : FD) (t : Int) (w : World) (hr : Rd w w.heap.size A (ints .u8 b)) (hm : b.length ≤ 1000) (hnil : A = none → c = 0) :
    Calls Try.prog 81 #[.slice A b.length c, .int .i64 place, .agg #[.int .i64 f.1, .int .i64 f.2.1, .int .i64 f.2.2.1, .int .i64 f.2.2.2], .int .i64 t] w (RetF (apF b place f t) w) := by
  obtain ⟨f1, f2, f3, f4⟩ := f
  simp only
  have HR := hide hr
  have HNIL := hide hnil
  clear hr hnil
  have hwd := wide_bd f2
  obtain ⟨wd1, wd2⟩ := hwd
  have HB := hide (show Below w.heap.size w (w.alloc (.cells #[.int .i64 f1, .int .i64 f2, .int .i64 f3, .int .i64 f4] 77)) from (by repeat (first | exact Below.refl _ _ | with_reducible assumption | (refine Below.drew ?_) | (refine Below.drewN ?_ _) | (refine Below.alloc ?_ (by simp; try omega) _) | (refine Below.setCell ?_ (by simp; try omega) _))))
  have HX := hide (Box.new w 77 #[.int .i64 f1, .int .i64 f2, .int .i64 f3, .int .i64 f4])
  go_enter Try.func81, Try.ntmps81
  go_wp2_with fail
  generalize w.alloc (.cells #[.int .i64 f1, .int .i64 f2, .int .i64 f3, .int .i64 f4] 77) = w0 at *
  have x1 := HX.out.cell 1
  simp only [List.getElem?_toArray, List.getElem?_cons_zero, List.getElem?_cons_succ] at x1
  refine Reg.startT (fun W => W.cell? ⟨w.heap.size, 1, none⟩ = some (.int .i64 f2)) (fun _ => false) (by kernel_rfl) ?_
  have hHeld : w0.drew.cell? ⟨w.heap.size, 1, none⟩ = some (.int .i64 f2) := x1
  clear x1
  refine Reg.takeT (i := 0) (v := ?_) rfl (by kernel_rfl) (by kernel_rfl) (by kernel_rfl) (by kernel_rfl) (fun _ _ _ h => h) (Or.inl ⟨by rfl, ?_⟩) (by assumption) ?_
  rotate_left 1
  focus (intro w hSw; (try dsimp only at hSw); go_simp; (try with_reducible rfl))
  try simp only [List.getElem_toArray, List.getElem_cons_succ, List.getElem_cons_zero, Act.put, List.setIfInBounds_toArray, List.set_cons_zero, List.set_cons_succ]
  refine Reg.takeT (i := 2) (v := ?_) rfl (by kernel_rfl) (by kernel_rfl) (by kernel_rfl) (by kernel_rfl) (fun _ _ _ h => h) (Or.inl ⟨by rfl, ?_⟩) (by assumption) ?_
  rotate_left 1
  focus (intro w hSw; (try dsimp only at hSw); go_simp; (try with_reducible rfl))
  try simp only [List.getElem_toArray, List.getElem_cons_succ, List.getElem_cons_zero, Act.put, List.setIfInBounds_toArray, List.set_cons_zero, List.set_cons_succ]
  refine Reg.takeT (i := 3) (v := ?_) rfl (by kernel_rfl) (by kernel_rfl) (by kernel_rfl) (by kernel_rfl) (fun _ _ _ h => h) (Or.inl ⟨by rfl, ?_⟩) (by assumption) ?_
  rotate_left 1
  focus (intro w hSw; (try dsimp only at hSw); go_simp; (try with_reducible rfl))
  try simp only [List.getElem_toArray, List.getElem_cons_succ, List.getElem_cons_zero, Act.put, List.setIfInBounds_toArray, List.set_cons_zero, List.set_cons_succ]
  have bd : Below w0.heap.size w0 w0.drew := below_dr (Below.refl _ _)
  replace HB := hide (HB.out.trans (bd.mono HB.out.size))
  replace HX := hide (HX.out.call bd)
  clear bd
  generalize w0.drew = w1 at *
  refine Reg.oneT (i := 1) rfl (by kernel_rfl) (fun K hK => ?_)
  go_simp
  refine (clone8_any A b c w.heap.size w1 (HR.out.below HB.out) HB.out.size (by omega) HNIL.out).mono ?_
  rintro e w2 ⟨A2, c2, rfl, o2, b2⟩
  have hlow : w.heap.size ≤ w1.heap.size := HB.out.size
  have HO := hide (o2.down hlow)
  clear o2
  replace HB := hide (HB.out.trans (b2.mono HB.out.size))
  replace HX := hide (HX.out.call b2)
  clear b2
  replace hHeld := HX.out.cell 1
  simp only [List.getElem?_toArray, List.getElem?_cons_zero, List.getElem?_cons_succ] at hHeld
  refine hK.out _ _ hHeld ?_
  clear hK K
  try simp only [List.getElem_toArray, List.getElem_cons_succ, List.getElem_cons_zero, Act.put, List.setIfInBounds_toArray, List.set_cons_zero, List.set_cons_succ]
  refine Reg.oneT (i := 4) rfl (by kernel_rfl) (fun K hK => ?_)
  go_simp
  refine (fixupWide_any f2 w2).mono ?_
  rintro e w' ⟨rfl, rfl⟩
  refine hK.out _ _ hHeld ?_
  clear hK K
  try simp only [List.getElem_toArray, List.getElem_cons_succ, List.getElem_cons_zero, Act.put, List.setIfInBounds_toArray, List.set_cons_zero, List.set_cons_succ]
  refine Reg.takeT (i := 5) (v := ?_) rfl (by kernel_rfl) (by kernel_rfl) (by kernel_rfl) (by kernel_rfl) (fun _ _ _ h => h) (Or.inl ⟨by rfl, ?_⟩) (by assumption) ?_
  rotate_left 1
  focus (intro w hSw; (try dsimp only at hSw); go_simp; (try with_reducible rfl))
  try simp only [List.getElem_toArray, List.getElem_cons_succ, List.getElem_cons_zero, Act.put, List.setIfInBounds_toArray, List.set_cons_zero, List.set_cons_succ]
  refine Reg.takeT (i := 6) (v := ?_) rfl (by kernel_rfl) (by kernel_rfl) (by kernel_rfl) (by kernel_rfl) (fun _ _ _ h => h) (Or.inl ⟨by rfl, ?_⟩) (by assumption) ?_
  rotate_left 1
  focus (intro w hSw; (try dsimp only at hSw); go_simp; (try with_reducible rfl))
  try simp only [List.getElem_toArray, List.getElem_cons_succ, List.getElem_cons_zero, Act.put, List.setIfInBounds_toArray, List.set_cons_zero, List.set_cons_succ]
  clear hHeld
  refine Reg.doneT (by kernel_rfl) ?_ _
  generalize hwn : wide f2 = wd at *
  have HW := hide hwn
  clear hwn
  cases hp : inB place 0 100000
  · have HV := hide (ap_out (b := b) (place := place) (f := (f1, f2, f3, f4)) (t := t) (by rw [hp]; simp))
    go_wp2_with fail
    refine (within_any _ _ _ _).mono ?_
    rintro e w' ⟨rfl, rfl⟩
    rw [hp]
    clear hp
    go_wp2_with fail
    go_ret2
    exact ⟨A2, c2, b.length, by rw [HV.out]; rfl, HB.out, fun b' hb' => by rw [HV.out] at hb'; cases hb'⟩
  by_cases hw0 : wd = 0
  · have HV := hide (ap_out (b := b) (place := place) (f := (f1, f2, f3, f4)) (t := t) (by simp only; rw [HW.out, hw0]; simp))
    have e0 : (wd == 0) = true := beq_iff_eq.2 hw0
    clear hw0
    go_wp2_with fail
    refine (within_any _ _ _ _).mono ?_
    rintro e w' ⟨rfl, rfl⟩
    rw [hp]
    clear hp
    go_wp2_with fail
    go_ret2
    exact ⟨A2, c2, b.length, by rw [HV.out]; rfl, HB.out, fun b' hb' => by rw [HV.out] at hb'; cases hb'⟩
  have e0 : (wd == 0) = false := beq_eq_false_iff_ne.2 hw0
  have hws : IntKind.i64.wrap ((b.length : Int) - wd) = (b.length : Int) - wd := IntWalk.i64_in _ (by omega)
  cases hf : inB f1 0 ((b.length : Int) - wd)
  · have HV := hide (ap_out (b := b) (place := place) (f := (f1, f2, f3, f4)) (t := t) (by simp only; rw [HW.out, hf]; simp))
    have x0 := HX.out.cell 0
    simp only [List.getElem?_toArray, List.getElem?_cons_zero, List.getElem?_cons_succ] at x0
    have hxl := HX.out.lt
    go_wp2_with fail
    refine (within_any _ _ _ _).mono ?_
    rintro e w' ⟨rfl, rfl⟩
    rw [hp]
    clear hp
    go_wp2_with fail
    refine (within_any _ _ _ _).mono ?_
    rintro e w' ⟨rfl, rfl⟩
    rw [hf]
    clear hf
    go_wp2_with fail
    go_ret2
    exact ⟨A2, c2, b.length, by rw [HV.out]; rfl, HB.out, fun b' hb' => by rw [HV.out] at hb'; cases hb'⟩
  have HV := hide (show apF b place (f1, f2, f3, f4) t = (fixVal f2 (place + f1) t f4).map fun v => sp b f1.toNat (putL (wide f2).toNat v) from if_pos (by simp only; rw [HW.out]; exact ⟨hp, hw0, hf⟩))
  have hf1 : 0 ≤ f1 ∧ f1 ≤ (b.length : Int) - wd := by simpa [inB] using hf
  have hp1 : 0 ≤ place ∧ place ≤ 100000 := by simpa [inB] using hp
  obtain ⟨g1, g2⟩ := hf1
  obtain ⟨g3, g4⟩ := hp1
  have hwp : IntKind.i64.wrap (place + f1) = place + f1 := IntWalk.i64_in _ (by omega)
  have x0 := HX.out.cell 0
  have x1 := HX.out.cell 1
  have x3 := HX.out.cell 3
  simp only [List.getElem?_toArray, List.getElem?_cons_zero, List.getElem?_cons_succ] at x0 x1 x3
  have hxl := HX.out.lt
  go_wp2_with fail
  refine (within_any _ _ _ _).mono ?_
  rintro e w' ⟨rfl, rfl⟩
  rw [hp]
  clear hp
  go_wp2_with fail
  refine (within_any _ _ _ _).mono ?_
  rintro e w' ⟨rfl, rfl⟩
  rw [hf]
  clear hf
  go_wp2_with fail
  refine (fixupValue_any _ _ _ _ _).mono ?_
  rintro e w' ⟨rfl, rfl⟩
  generalize hv : fixVal f2 (place + f1) t f4 = r at *
  have HFV := hide hv
  clear hv
  cases r with
  | none =>
    simp only [fvV, Option.isSome, Option.getD]
    go_wp2_with fail
    go_ret2
    exact ⟨A2, c2, b.length, by rw [HV.out]; rfl, HB.out, fun b' hb' => by rw [HV.out] at hb'; cases hb'⟩
  | some v =>
    simp only [fvV, Option.isSome, Option.getD]
    go_wp2_with fail
    clear x0 x1 x3 hxl e0 hws hwp
    obtain ⟨a, rfl⟩ : ∃ a : Nat, f1 = (a : Int) := ⟨f1.toNat, by omega⟩
    obtain ⟨n, rfl⟩ : ∃ n : Nat, wd = (n : Int) := ⟨wd.toNat, by omega⟩
    have hal : a + n ≤ b.length := by omega
    have hn0 : 0 < n := by omega
    have HPU := hide (show pnum v n = putL n v from by
      have h := pnum_put HFV.out
      rw [HW.out] at h
      rw [h]
      rfl)
    have HV2 := hide (show apF b place ((a : Int), f2, f3, f4) t = some (sp b a (putL n v)) from by
      rw [HV.out, HW.out]
      rfl)
    have hplen : (putL n v).length = n := putL_len n v
    obtain ⟨g, rfl, hgb, hgl, hgk, hown⟩ := own_of HO.out (by omega)
    have hcap := HO.out.cap.1
    have x0 := HX.out.cell 0
    simp only [List.getElem?_toArray, List.getElem?_cons_zero, List.getElem?_cons_succ] at x0
    have hxl := HX.out.lt
    refine Reg.startT (fun W => W.cell? ⟨w.heap.size, 0, none⟩ = some (.int .i64 (a : Int))) (fun _ => false) (by kernel_rfl) ?_
    have hHeld : w2.drew.cell? ⟨w.heap.size, 0, none⟩ = some (.int .i64 (a : Int)) := x0
    clear x0 hxl
    have hin1 : a ≤ b.length := by omega
    have hin2 : a ≤ c2 := by omega
    refine Reg.takeT (i := 0) (v := ?_) rfl (by kernel_rfl) (by kernel_rfl) (by kernel_rfl) (by kernel_rfl) (fun _ _ _ h => h) (Or.inl ⟨by rfl, ?_⟩) (by assumption) ?_
    rotate_left 1
    focus (intro w hSw; (try dsimp only at hSw); go_simp; (try with_reducible rfl))
    try simp only [List.getElem_toArray, List.getElem_cons_succ, List.getElem_cons_zero, Act.put, List.setIfInBounds_toArray, List.set_cons_zero, List.set_cons_succ]
    refine Reg.takeT (i := 1) (v := ?_) rfl (by kernel_rfl) (by kernel_rfl) (by kernel_rfl) (by kernel_rfl) (fun _ _ _ h => h) (Or.inl ⟨by rfl, ?_⟩) (by assumption) ?_
    rotate_left 1
    focus (intro w hSw; (try dsimp only at hSw); go_simp; (try with_reducible rfl))
    try simp only [List.getElem_toArray, List.getElem_cons_succ, List.getElem_cons_zero, Act.put, List.setIfInBounds_toArray, List.set_cons_zero, List.set_cons_succ]
    refine Reg.takeT (i := 2) (v := ?_) rfl (by kernel_rfl) (by kernel_rfl) (by kernel_rfl) (by kernel_rfl) (fun _ _ _ h => h) (Or.inl ⟨by rfl, ?_⟩) (by assumption) ?_
    rotate_left 1
    focus (intro w hSw; (try dsimp only at hSw); go_simp; (try with_reducible rfl))
    try simp only [List.getElem_toArray, List.getElem_cons_succ, List.getElem_cons_zero, Act.put, List.setIfInBounds_toArray, List.set_cons_zero, List.set_cons_succ]
    refine Reg.takeT (i := 3) (v := ?_) rfl (by kernel_rfl) (by kernel_rfl) (by kernel_rfl) (by kernel_rfl) (fun _ _ _ h => h) (Or.inl ⟨by rfl, ?_⟩) (by assumption) ?_
    rotate_left 1
    focus (intro w hSw; (try dsimp only at hSw); go_simp; (try with_reducible rfl))
    try simp only [List.getElem_toArray, List.getElem_cons_succ, List.getElem_cons_zero, Act.put, List.setIfInBounds_toArray, List.set_cons_zero, List.set_cons_succ]
    refine Reg.takeT (i := 4) (v := ?_) rfl (by kernel_rfl) (by kernel_rfl) (by kernel_rfl) (by kernel_rfl) (fun _ _ _ h => h) (Or.inl ⟨by rfl, ?_⟩) (by assumption) ?_
    rotate_left 1
    focus (intro w hSw; (try dsimp only at hSw); go_simp; (try with_reducible rfl))
    try simp only [List.getElem_toArray, List.getElem_cons_succ, List.getElem_cons_zero, Act.put, List.setIfInBounds_toArray, List.set_cons_zero, List.set_cons_succ]
    refine Reg.takeT (i := 5) (v := ?_) rfl (by kernel_rfl) (by kernel_rfl) (by kernel_rfl) (by kernel_rfl) (fun _ _ _ h => h) (Or.inl ⟨by rfl, ?_⟩) (by assumption) ?_
    rotate_left 1
    focus (intro w hSw; (try dsimp only at hSw); go_simp; (try with_reducible rfl))
    try simp only [List.getElem_toArray, List.getElem_cons_succ, List.getElem_cons_zero, Act.put, List.setIfInBounds_toArray, List.set_cons_zero, List.set_cons_succ]
    have bd : Below w2.heap.size w2 w2.drew := below_dr (Below.refl _ _)
    replace HB := hide (HB.out.trans (bd.mono HB.out.size))
    replace HX := hide (HX.out.call bd)
    clear bd
    have HOW := hide (show w2.drew.ownsRow w.heap.size 5 1 (.slice (some ⟨g, 0, none⟩) b.length c2) b.length (ints .u8 b) from hown)
    clear hown HO
    have hgl' : g < w2.drew.heap.size := hgl
    generalize w2.drew = w3 at *
    refine Reg.oneT (i := 6) rfl (by kernel_rfl) (fun K hK => ?_)
    go_simp
    refine (putNumber_any v n w3).mono ?_
    rintro e w5 ⟨A5, c5, rfl, o5, b5⟩
    rw [HPU.out, hplen] at o5 ⊢
    have HS := hide (Rd.of_own o5)
    replace HOW := hide (own_call b5 HOW.out)
    replace HB := hide (HB.out.trans (b5.mono HB.out.size))
    replace HX := hide (HX.out.call b5)
    clear b5
    replace hHeld := HX.out.cell 0
    simp only [List.getElem?_toArray, List.getElem?_cons_zero] at hHeld
    refine hK.out _ _ hHeld ?_
    clear hK K
    try simp only [List.getElem_toArray, List.getElem_cons_succ, List.getElem_cons_zero, Act.put, List.setIfInBounds_toArray, List.set_cons_zero, List.set_cons_succ]
    obtain ⟨bz, offz, rfl, hbz, hsrc⟩ := rd_addr HS.out (by omega)
    obtain ⟨cur, hgv, hgb2, hcn, hcp⟩ := copied HOW.out
    have HGV := hide hgv
    have HIL := hide (show (ints .u8 (putL n v)).length = n by simp [hplen])
    have HOUT := hide (hcp a (putL n v) (by omega))
    have HBO := hide (Go.below_setRow HB.out hgb2 (Go.splice cur a (ints .u8 (putL n v))).toArray)
    have HXO := hide (box_setRow HX.out hgv (by decide) (Go.splice cur a (ints .u8 (putL n v))).toArray)
    refine Reg.oneT (i := 7) rfl (by kernel_rfl) (fun K hK => ?_)
    refine step_copy_row (by rfl) _ _ 22 22 (by rfl) 5 Try.underlying22 (by kernel_rfl) g a (b.length - a) (c2 - a) ⟨bz, offz, none⟩ n c5 (by show Value.slice (if c2 = a then _ else _) _ _ = _; rw [if_neg (by omega)]) (by rfl) cur 5 HGV.out (ints .u8 (putL n v)) (by rw [HIL.out]; exact (Nat.min_eq_left (by omega)).symm) hsrc (by rw [HIL.out]; omega) oneI ?_
    generalize w5.setRow g (Go.splice cur a (ints .u8 (putL n v))).toArray = w6 at *
    refine hK.out _ _ (by have h := HXO.out.cell 0; simpa using h) ?_
    clear hK K
    try simp only [List.getElem_toArray, List.getElem_cons_succ, List.getElem_cons_zero, Act.put, List.setIfInBounds_toArray, List.set_cons_zero, List.set_cons_succ]
    refine Reg.doneT (by kernel_rfl) ?_ _
    clear hcp hgv hsrc hHeld
    go_wp2_with fail
    go_ret2
    refine ⟨some ⟨g, 0, none⟩, c2, b.length, by rw [HV2.out]; rfl, HBO.out, fun b' hb' => ?_⟩
    rw [HV2.out] at hb'
    injection hb' with hb'
    subst hb'
    have hsl : (sp b a (putL n v)).length = b.length := sp_len (by omega)
    exact ⟨hsl.symm, .inr HOUT.out⟩
end Go.Proofs.Ytmglgjchemecjaa.CApFix
/- Clearing fixups and sorting symbols change no image; plain. -/
namespace Go.Proofs.Ytmglgjchemecjaa.PLinkL
set_option maxRecDepth 200000
open Go.ChangeShapes Go.WideShapes Go.ChangeAt Go.RowKit Kit CCode CName CNumber CFixups CSymbols PObj PValid PWarn PClear PSort CObjValid PLink
def Uniq (ys : List YD) : Prop := ys.Pairwise fun a b => ¬ a.2.1 = 0 → ¬ b.2.1 = 0 → ¬ a.1 = b.1
theorem syms_iff (ss : List SD) (ys : List YD) : symsOk ss ys = true ↔ (∀ y ∈ ys, symOk ss y = true) ∧ Uniq ys := by
  simp only [symsOk, List.all_eq_true, Bool.and_eq_true, List.mem_range, Bool.not_eq_true']
  constructor
  · intro h
    refine ⟨fun y hy => ?_, ?_⟩
    · obtain ⟨i, hi, rfl⟩ := List.getElem_of_mem hy
      have := (h i hi).1
      rwa [getD_at hi] at this
    · rw [Uniq, List.pairwise_iff_getElem]
      intro i j hi hj hij h1 h2 h3
      have := (h j hj).2
      rw [getD_at hj] at this
      have hc : clash (ys.take j) ys[j] = true := by
        unfold clash
        rw [Bool.and_eq_true]
        refine ⟨by simpa using h2, List.any_eq_true.2 ⟨ys[i], ?_, ?_⟩⟩
        · exact List.mem_take_iff_getElem.2 ⟨i, by omega, rfl⟩
        · simpa using ⟨h1, h3⟩
      rw [hc] at this
      cases this
  · rintro ⟨h1, h2⟩ i hi
    rw [getD_at hi]
    refine ⟨h1 _ (List.getElem_mem hi), ?_⟩
    rw [← Bool.not_eq_true]
    intro hc
    unfold clash at hc
    rw [Bool.and_eq_true, List.any_eq_true] at hc
    obtain ⟨hb, x, hx, hxx⟩ := hc
    obtain ⟨j, hj, rfl⟩ := List.mem_take_iff_getElem.1 hx
    rw [Uniq, List.pairwise_iff_getElem] at h2
    simp only [Bool.and_eq_true, Bool.not_eq_true', decide_eq_false_iff_not, decide_eq_true_eq] at hb hxx
    exact h2 j i (by omega) hi (by omega) hxx.1 hb hxx.2
theorem obj_iff (d : OD) : objOk d = true ↔ d.ss.length ≤ 8 ∧ d.ys.length ≤ 12 ∧ (∀ s ∈ d.ss, secOk d.ys.length s = true) ∧ (∀ y ∈ d.ys, symOk d.ss y = true) ∧ Uniq d.ys := by
  simp only [objOk, Bool.and_eq_true, decide_eq_true_eq, List.all_eq_true, syms_iff]
  constructor
  · rintro ⟨⟨⟨h1, h2⟩, h3⟩, h4, h5⟩
    exact ⟨h1, h2, h3, h4, h5⟩
  · rintro ⟨h1, h2, h3, h4, h5⟩
    exact ⟨⟨⟨h1, h2⟩, h3⟩, h4, h5⟩
theorem size_at (ss : List SD) (n : Nat) : secSize (ss.getD n ⟨ByteArray.empty, 0, 0, [], 0, []⟩) = (ss.map secSize).getD n 0 := by
  rw [List.getD_eq_getElem?_getD, List.getD_eq_getElem?_getD, List.getElem?_map]
  cases ss[n]? <;> rfl
theorem sym_congr {ss ss' : List SD} (h : ss.map secSize = ss'.map secSize) (y : YD) : symOk ss y = symOk ss' y := by
  have hl : ss.length = ss'.length := by simpa using congrArg List.length h
  unfold symOk placeOk
  rw [size_at, size_at, h, hl]
theorem sec_clear (many : Int) (s : SD) : secOk many (clearS s) = secOk many s := by
  simp only [secOk, headOk, blankOk, bodyOk, clearS, clrs_len]
  rfl
theorem clear_objOk {d : OD} (h : objOk d = true) : objOk ⟨d.ss.map clearS, d.ys⟩ = true := by
  obtain ⟨h1, h2, h3, h4, h5⟩ := (obj_iff d).1 h
  refine (obj_iff _).2 ⟨by simpa using h1, h2, ?_, ?_, h5⟩
  · intro s hs
    obtain ⟨t, ht, rfl⟩ := List.mem_map.1 hs
    rw [sec_clear]
    exact h3 t ht
  · intro y hy
    rw [sym_congr (ss' := d.ss) (by simp [secSize, clearS, clrs_len])]
    exact h4 y hy
/-- Bytes that differ at most where fixups fill them. -/
def cov (fs : List FD) (i : Nat) : Prop := ∃ f ∈ fs, f.1 ≤ (i : Int) ∧ (i : Int) < f.1 + wide f.2.1
def Agree (fs : List FD) (a b : List Int) : Prop := a.length = b.length ∧ ∀ i : Nat, ¬ cov fs i → a[i]? = b[i]?
theorem apF_agree {f : FD} {fs : List FD} {a b : List Int} {place t : Int} (h : Agree (f :: fs) a b) :
    (apF a place f t = none ∧ apF b place f t = none) ∨ ∃ a' b', apF a place f t = some a' ∧ apF b place f t = some b' ∧ Agree fs a' b' := by
  unfold apF
  rw [h.1]
  by_cases hc : inB place 0 100000 = true ∧ ¬ wide f.2.1 = 0 ∧ inB f.1 0 (b.length - wide f.2.1) = true
  · rw [if_pos hc, if_pos hc]
    cases hv : fixVal f.2.1 (place + f.1) t f.2.2.2 with
    | none => exact .inl ⟨rfl, rfl⟩
    | some v =>
      refine .inr ⟨_, _, rfl, rfl, ?_⟩
      obtain ⟨_, hw, hin⟩ := hc
      simp only [inB, decide_eq_true_eq] at hin
      have hl := putL_len (wide f.2.1).toNat v
      have hwb := wide_bd f.2.1
      have hab := h.1
      refine ⟨by rw [sp_len (by rw [hl]; omega), sp_len (by rw [hl]; omega), h.1], fun i hi => ?_⟩
      rw [sp_get (by rw [hl]; omega), sp_get (by rw [hl]; omega)]
      by_cases hr : f.1.toNat ≤ i ∧ i < f.1.toNat + (putL (wide f.2.1).toNat v).length
      · rw [if_pos hr, if_pos hr]
      · rw [if_neg hr, if_neg hr]
        refine h.2 i ?_
        rintro ⟨g, hg, hgi⟩
        rcases List.mem_cons.1 hg with rfl | hg
        · rw [hl] at hr
          omega
        · exact hi ⟨g, hg, hgi⟩
  · rw [if_neg hc, if_neg hc]
    exact .inl ⟨rfl, rfl⟩
theorem fill_agree (l : List OD) (P : List (List Int)) (k : Nat) (place : Int) : ∀ (fs : List FD) (a b : List Int), Agree fs a b → fill l P k place fs (some a) = fill l P k place fs (some b)
  | [], a, b, h => by
    rw [fill, fill]
    congr 1
    refine List.ext_getElem? fun i => h.2 i ?_
    rintro ⟨f, hf, _⟩
    cases hf
  | f :: fs, a, b, h => by
    rw [fill, fill, Option.bind_some, Option.bind_some]
    rcases apF_agree (place := place) (t := symPl l P k f.2.2.1.toNat) h with ⟨e1, e2⟩ | ⟨a', b', e1, e2, h'⟩
    · rw [e1, e2]
    · rw [e1, e2]
      exact fill_agree l P k place fs a' b' h'
theorem setz_far (zs : List Int) (a : Nat) : ∀ (n i : Nat), i < a ∨ a + n ≤ i → (setz zs a n)[i]? = zs[i]?
  | 0, i, _ => rfl
  | n + 1, i, h => by
    rw [setz, List.getElem?_set_ne (by omega)]
    exact setz_far zs a n i (by omega)
theorem clrs_agree : ∀ (fs : List FD) (zs : List Int), (∀ f ∈ fs, 0 ≤ f.1) → Agree fs (clrs zs fs) zs
  | [], zs, _ => ⟨rfl, fun _ _ => rfl⟩
  | f :: fs, zs, h => by
    have ih := clrs_agree fs (clr zs f) fun g hg => h g (List.mem_cons_of_mem _ hg)
    have h0 := h f List.mem_cons_self
    have hw := wide_bd f.2.1
    refine ⟨by rw [clrs_len], fun i hi => ?_⟩
    have e : clrs zs (f :: fs) = clrs (clr zs f) fs := rfl
    rw [e, ih.2 i (fun ⟨g, hg, hgi⟩ => hi ⟨g, List.mem_cons_of_mem _ hg, hgi⟩)]
    unfold clr
    refine setz_far zs _ _ i ?_
    rcases Nat.lt_or_ge i f.1.toNat with h1 | h1
    · exact .inl h1
    · refine .inr ?_
      rcases Nat.lt_or_ge i (f.1.toNat + (wide f.2.1).toNat) with h2 | h2
      · exact absurd ⟨f, List.mem_cons_self, by omega, by omega⟩ hi
      · exact h2
theorem fill_map (l l' : List OD) (P : List (List Int)) (k : Nat) (place : Int) (φ : FD → FD) : ∀ (fs : List FD) (b : Option (List Int)),
    (∀ f ∈ fs, (∀ a t, apF a place (φ f) t = apF a place f t) ∧ symPl l' P k (φ f).2.2.1.toNat = symPl l P k f.2.2.1.toNat) → fill l' P k place (fs.map φ) b = fill l P k place fs b
  | [], b, _ => rfl
  | f :: fs, b, h => by
    obtain ⟨h1, h2⟩ := h f List.mem_cons_self
    rw [List.map_cons, fill, fill, h2]
    have e : (b.bind fun b => apF b place (φ f) (symPl l P k f.2.2.1.toNat)) = b.bind fun b => apF b place f (symPl l P k f.2.2.1.toNat) := by
      congr 1
      funext a
      exact h1 a _
    rw [e]
    exact fill_map l l' P k place φ fs _ fun g hg => h g (List.mem_cons_of_mem _ hg)
theorem imS_map (l l' : List OD) (P : List (List Int)) (base : Int) (k : Nat) (φ : SD → SD) : ∀ (ss : List SD) (i : Nat) (im : Option (List Int)),
    (∀ s ∈ ss, ∀ pl, fill l' P k pl (φ s).fs (some (φ s).zs) = fill l P k pl s.fs (some s.zs)) → imS l' P base k i (ss.map φ) im = imS l P base k i ss im
  | [], _, _, _ => rfl
  | s :: ss, i, im, h => by
    rw [List.map_cons, imS, imS, h s List.mem_cons_self]
    exact imS_map l l' P base k φ ss _ _ fun t ht => h t (List.mem_cons_of_mem _ ht)
theorem image_one (d e : OD) (base : Int) (φ : SD → SD) (hs : sh d = sh e) (hd : d.ss = e.ss.map φ)
    (h : ∀ P, ∀ s ∈ e.ss, ∀ pl, fill [d] P 0 pl (φ s).fs (some (φ s).zs) = fill [e] P 0 pl s.fs (some s.zs)) : image [d] base = image [e] base := by
  unfold image
  rw [lay_one hs]
  simp only [imO]
  rw [hd]
  exact imS_map [e] [d] _ base 0 φ e.ss 0 _ (h _)
theorem symAt_one (d : OD) (k j : Nat) : symAtL [d] (k, j) = if k = 0 then d.ys.getD j dY else dY := by
  unfold symAtL
  cases k with
  | zero => rfl
  | succ n => simp [List.getD_eq_getElem?_getD]
theorem find_one (d : OD) (nm : ByteArray) : findN [d] nm = orG (fiR (gives nm 1) 0 (fiS (gives nm 1) 0 d.ys) none) (fiR (gives nm 2) 0 (fiS (gives nm 2) 0 d.ys) none) := rfl
/-- What a symbol of one object means: for itself. -/
def tg1 (P : List (List Int)) (y : YD) : Int := if y.2.2.1 = -1 then 0 else tgY P 0 y
theorem sym_facts {ss : List SD} {y : YD} (h : symOk ss y = true) : (0 ≤ y.2.1 ∧ y.2.1 ≤ 2) ∧ (y.2.2.1 = -1 → ¬ y.2.1 = 0) := by
  simp only [symOk, bindOk, Bool.and_eq_true, inB, decide_eq_true_eq] at h
  refine ⟨h.1.2, fun hy => ?_⟩
  have h2 := h.2
  unfold placeOk at h2
  rw [if_pos hy] at h2
  simp only [Bool.and_eq_true, Bool.not_eq_true', decide_eq_false_iff_not] at h2
  exact h2.2
theorem uniq_at {ys : List YD} (h : Uniq ys) {i j : Nat} (hi : i < ys.length) (hj : j < ys.length) (h1 : ¬ ys[i].2.1 = 0) (h2 : ¬ ys[j].2.1 = 0) (h3 : ys[i].1 = ys[j].1) : i = j := by
  rw [Uniq, List.pairwise_iff_getElem] at h
  rcases Nat.lt_trichotomy i j with hlt | heq | hgt
  · exact absurd h3 (h i j hi hj hlt h1 h2)
  · exact heq
  · exact absurd h3.symm (h j i hj hi hgt h2 h1)
theorem gives_iff {nm : ByteArray} {b : Int} {y : YD} : gives nm b y = true ↔ y.1 = nm ∧ y.2.1 = b ∧ ¬ y.2.2.1 = -1 := by
  simp only [gives, Bool.and_eq_true, decide_eq_true_eq, Bool.not_eq_true', decide_eq_false_iff_not, and_assoc]
theorem find_some {d : OD} (hu : Uniq d.ys) {j : Nat} (hj : j < d.ys.length) (hb : d.ys[j].2.1 = 1 ∨ d.ys[j].2.1 = 2) : findN [d] d.ys[j].1 = if d.ys[j].2.2.1 = -1 then none else some (0, j) := by
  rw [find_one]
  have key : ∀ b, (b = 1 ∨ b = 2) → fiS (gives d.ys[j].1 b) 0 d.ys = if d.ys[j].2.1 = b ∧ ¬ d.ys[j].2.2.1 = -1 then some j else none := fun b hb' => by
    have hn0 : ¬ d.ys[j].2.1 = 0 := by omega
    cases hf : fiS (gives d.ys[j].1 b) 0 d.ys with
    | some i =>
      obtain ⟨_, hi, hg⟩ := fiS_spec d.ys 0 i hf
      rw [Nat.sub_zero] at hi hg
      rw [getD_at hi] at hg
      obtain ⟨e1, e2, e3⟩ := gives_iff.1 hg
      have := uniq_at hu hi hj (by omega) hn0 e1
      subst this
      rw [if_pos ⟨e2, e3⟩]
    | none =>
      have := (fiS_none d.ys 0).1 hf _ (List.getElem_mem hj)
      rw [if_neg]
      rintro ⟨e1, e2⟩
      rw [gives_iff.2 ⟨rfl, e1, e2⟩] at this
      cases this
  rw [key 1 (.inl rfl), key 2 (.inr rfl)]
  by_cases hw : d.ys[j].2.2.1 = -1
  · simp [hw, fiR, orG]
  · rcases hb with hb | hb <;> simp [hw, hb, fiR, orG]
theorem symPl_one {d : OD} (h : objOk d = true) (P : List (List Int)) {j : Nat} (hj : j < d.ys.length) : symPl [d] P 0 j = tg1 P d.ys[j] := by
  obtain ⟨_, _, _, h4, h5⟩ := (obj_iff d).1 h
  obtain ⟨hb, hw⟩ := sym_facts (h4 _ (List.getElem_mem hj))
  have ha : symAtL [d] (0, j) = d.ys[j] := by rw [symAt_one, if_pos rfl, getD_at hj]
  unfold symPl
  rw [ha]
  by_cases h0 : d.ys[j].2.1 = 0
  · rw [if_pos h0, tg1, if_neg (fun e => hw e h0), tgG, ha]
  · rw [if_neg h0, find_some h5 hj (by omega), tg1]
    by_cases h1 : d.ys[j].2.2.1 = -1
    · rw [if_pos h1, if_pos h1]
      rfl
    · rw [if_neg h1, if_neg h1, tgO, tgG, ha]
theorem tw_nil : ∀ (ys : List YD) (o met : List ByteArray), Uniq ys → (∀ y ∈ ys, isStrong y = true → y.1 ∉ met) → (twS (o, met) ys).1 = o
  | [], o, met, _, _ => rfl
  | y :: ys, o, met, hu, hm => by
    obtain ⟨h1, h2⟩ := List.pairwise_cons.1 hu
    have e : twS (o, met) (y :: ys) = twS (twStep (o, met) y) ys := rfl
    rw [e]
    cases hs : isStrong y
    · have : twStep (o, met) y = (o, met) := by rw [twStep, hs]; rfl
      rw [this]
      exact tw_nil ys o met h2 fun z hz => hm z (List.mem_cons_of_mem _ hz)
    · have hn := hm y List.mem_cons_self hs
      have : twStep (o, met) y = (o, met ++ [y.1]) := by
        have hf : (met.any fun x => decide (x = y.1)) = false := by
          rw [← Bool.not_eq_true, List.any_eq_true]
          rintro ⟨x, hx, hxy⟩
          exact hn (of_decide_eq_true hxy ▸ hx)
        rw [twStep, hs]
        simp only [hf, cond_true, cond_false]
      rw [this]
      refine tw_nil ys o _ h2 fun z hz hsz hin => ?_
      rcases List.mem_append.1 hin with hin | hin
      · exact hm z (List.mem_cons_of_mem _ hz) hsz hin
      · have e2 := List.mem_singleton.1 hin
        simp only [isStrong, Bool.and_eq_true, decide_eq_true_eq] at hs hsz
        exact h1 z hz (by omega) (by omega) e2.symm
theorem twice_one {d : OD} (h : objOk d = true) : twice [d] = [] := by
  obtain ⟨_, _, _, _, h5⟩ := (obj_iff d).1 h
  exact tw_nil d.ys [] [] h5 fun _ _ _ hm => by cases hm
theorem isMiss_one {d : OD} (h : objOk d = true) {y : YD} (hy : y ∈ d.ys) : isMiss [d] y = (decide (y.2.1 = 1) && decide (y.2.2.1 = -1)) := by
  obtain ⟨_, _, _, _, h5⟩ := (obj_iff d).1 h
  obtain ⟨j, hj, rfl⟩ := List.getElem_of_mem hy
  unfold isMiss
  by_cases h1 : d.ys[j].2.1 = 1
  · by_cases h2 : d.ys[j].2.2.1 = -1
    · rw [find_some h5 hj (.inl h1), if_pos h2]
      simp
    · simp [h2]
  · simp [h1]
theorem miss_one {d : OD} (h : objOk d = true) : 0 < (miss [d]).length ↔ ∃ y ∈ d.ys, y.2.1 = 1 ∧ y.2.2.1 = -1 := by
  have e : miss [d] = missS [d] d.ys := by simp [miss]
  rw [e, missS, List.length_map, List.length_pos_iff_exists_mem]
  constructor
  · rintro ⟨y, hy⟩
    rw [List.mem_filter] at hy
    rw [isMiss_one h hy.1] at hy
    exact ⟨y, hy.1, by simpa using hy.2⟩
  · rintro ⟨y, hy, h2⟩
    exact ⟨y, List.mem_filter.2 ⟨hy, by rw [isMiss_one h hy]; simpa using h2⟩⟩
theorem link_same {d e : OD} (hd : objOk d = true) (he : objOk e = true) (hm : (∃ y ∈ d.ys, y.2.1 = 1 ∧ y.2.2.1 = -1) ↔ ∃ y ∈ e.ys, y.2.1 = 1 ∧ y.2.2.1 = -1) (base : Int) (hi : image [d] base = image [e] base) : linkR [d] base = linkR [e] base := by
  unfold linkR
  have o1 : objsOk [d] = true := by simp [objsOk, hd]
  have o2 : objsOk [e] = true := by simp [objsOk, he]
  rw [o1, o2, twice_one hd, twice_one he, hi]
  have hiff : 0 < (miss [d]).length ↔ 0 < (miss [e]).length := by rw [miss_one hd, miss_one he]; exact hm
  by_cases hx : 0 < (miss [d]).length
  · rw [if_pos hx, if_pos (hiff.1 hx)]
  · rw [if_neg hx, if_neg (fun h => hx (hiff.2 h))]
theorem clear_is {d : OD} (h : objOk d = true) : clearD d = ⟨d.ss.map clearS, d.ys⟩ := by rw [clearD, h]; rfl
theorem link_clear {d : OD} (h : objOk d = true) (base : Int) : linkR [clearD d] base = linkR [d] base := by
  rw [clear_is h]
  have hc := clear_objOk h
  refine link_same hc h Iff.rfl base (image_one _ _ base clearS ?_ rfl fun P s hs pl => ?_)
  · simp [sh, secSize, clearS, clrs_len]
  · have hsy : ∀ f ∈ s.fs, symPl [⟨d.ss.map clearS, d.ys⟩] P 0 f.2.2.1.toNat = symPl [d] P 0 f.2.2.1.toNat := fun f hf => by
      have hr := (((obj_all h).2.2 s hs).2.2 f hf).2
      have hj : f.2.2.1.toNat < d.ys.length := by omega
      rw [symPl_one hc P (j := f.2.2.1.toNat) hj, symPl_one h P hj]
    have e1 : (clearS s).fs = s.fs.map id := by simp [clearS]
    rw [e1, fill_map [d] _ P 0 pl id s.fs _ fun f hf => ⟨fun _ _ => rfl, hsy f hf⟩]
    refine fill_agree [d] P 0 pl s.fs _ _ (clrs_agree s.fs s.zs fun f hf => ?_)
    exact ((((obj_all h).2.2 s hs).2.2 f hf).1).1
end Go.Proofs.Ytmglgjchemecjaa.PLinkL
/- Where a layout's places lie; plain. -/
namespace Go.Proofs.Ytmglgjchemecjaa.PLayB
set_option maxRecDepth 200000
open Go.ChangeShapes Go.WideShapes Go.ChangeAt Go.RowKit Kit CCode CName CNumber CFixups CSymbols PObj PValid PWarn PClear PSort CObjValid PLink PLinkL
def Okk (s : SD) : Prop := (0 ≤ secSize s ∧ secSize s ≤ 48) ∧ alignOk s.al = true
def sec (l : List OD) (k i : Nat) : Option SD := (l[k]?).bind fun d => d.ss[i]?
theorem sec_at {l : List OD} {k i : Nat} (hk : k < l.length) (hi : i < (l[k]).ss.length) : sec l k i = some (l[k]).ss[i] := by
  unfold sec
  rw [List.getElem?_eq_getElem hk]
  exact List.getElem?_eq_getElem hi
def Shq (l : List OD) (P : List (List Int)) : Prop := ∀ k i s, sec l k i = some s → ∃ h : k < P.length, i < (P[k]).length
theorem getP_set {P : List (List Int)} {k i : Nat} (v : Int) (hk : k < P.length) (hi : i < (P[k]).length) (a b : Nat) : getP (setP P k i v) a b = if a = k ∧ b = i then v else getP P a b := by
  unfold getP setP
  have e : P.getD k [] = P[k] := by rw [List.getD_eq_getElem?_getD, List.getElem?_eq_getElem hk]; rfl
  rw [e]
  rw [List.getD_eq_getElem?_getD (l := P.set k _), List.getElem?_set]
  by_cases hak : k = a
  · subst hak
    rw [if_pos rfl, if_pos hk, e]
    simp only [Option.getD_some, true_and]
    rw [List.getD_eq_getElem?_getD, List.getElem?_set, List.getD_eq_getElem?_getD]
    by_cases hbi : i = b
    · subst hbi
      rw [if_pos rfl, if_pos hi, if_pos rfl]
      rfl
    · rw [if_neg hbi, if_neg (fun h => hbi h.symm)]
  · rw [if_neg hak, if_neg (fun h => hak h.1.symm), ← List.getD_eq_getElem?_getD]
theorem shq_set {l : List OD} {P : List (List Int)} (h : Shq l P) (k i : Nat) (v : Int) : Shq l (setP P k i v) := by
  intro a b s hs
  obtain ⟨h1, h2⟩ := h a b s hs
  unfold setP
  refine ⟨by rw [List.length_set]; exact h1, ?_⟩
  rw [List.getElem_set]
  by_cases hka : k = a
  · subst hka
    rw [if_pos rfl, List.length_set, List.getD_eq_getElem?_getD, List.getElem?_eq_getElem h1]
    exact h2
  · rw [if_neg hka]
    exact h2
structure Inv (l : List OD) (b : Int) (Dn : Nat → Nat → SD → Prop) (st : St) : Prop where
  lo : b ≤ st.1
  sh : Shq l st.2
  pl : ∀ k i s, sec l k i = some s → Dn k i s → b ≤ getP st.2 k i ∧ getP st.2 k i ≤ st.1
variable {l : List OD} {b : Int}
theorem Inv.weak {Dn Dn' : Nat → Nat → SD → Prop} {st : St} (h : Inv l b Dn st) (hD : ∀ k i s, sec l k i = some s → Dn' k i s → Dn k i s) : Inv l b Dn' st := ⟨h.lo, h.sh, fun k i s hs hd => h.pl k i s hs (hD k i s hs hd)⟩
theorem inv_step (hb : 0 ≤ b) {Dn : Nat → Nat → SD → Prop} {st : St} {kd : Int} {k i : Nat} {s : SD} (h : Inv l b Dn st) (hs : sec l k i = some s) (ho : Okk s) :
    Inv l b (fun k' i' s' => Dn k' i' s' ∨ (k' = k ∧ i' = i ∧ s'.kd = kd)) (stepS kd k i s st) := by
  obtain ⟨a, P⟩ := st
  obtain ⟨h1, h2, h3⟩ := h
  simp only at h1 h2 h3
  unfold stepS
  by_cases hk : s.kd = kd
  · rw [decide_eq_true hk]
    simp only [cond_true]
    obtain ⟨e1, e2⟩ := al_bd (show 0 ≤ a by omega) ho.2
    obtain ⟨q1, q2⟩ := h2 k i s hs
    have hsz := ho.1.1
    refine ⟨by omega, shq_set h2 k i _, fun k' i' s' hs' hd => ?_⟩
    rw [getP_set _ q1 q2]
    by_cases hc : k' = k ∧ i' = i
    · rw [if_pos hc]
      omega
    · rw [if_neg hc]
      rcases hd with hd | ⟨r1, r2, _⟩
      · have := h3 k' i' s' hs' hd
        omega
      · exact absurd ⟨r1, r2⟩ hc
  · rw [decide_eq_false hk]
    simp only [cond_false]
    refine ⟨h1, h2, fun k' i' s' hs' hd => ?_⟩
    rcases hd with hd | ⟨rfl, rfl, r3⟩
    · exact h3 k' i' s' hs' hd
    · rw [hs] at hs'
      injection hs' with hs'
      subst hs'
      exact absurd r3 hk
theorem inv_foldS (hb : 0 ≤ b) (kd : Int) (k : Nat) : ∀ (ss : List SD) (i : Nat) (st : St) (Dn : Nat → Nat → SD → Prop),
    (∀ j s, ss[j]? = some s → sec l k (i + j) = some s ∧ Okk s) → (∀ i', i + ss.length ≤ i' → sec l k i' = none) → Inv l b Dn st →
    Inv l b (fun k' i' s' => Dn k' i' s' ∨ (k' = k ∧ i ≤ i' ∧ s'.kd = kd)) (foldS kd k i ss st)
  | [], i, st, Dn, _, hend, h => by
    refine h.weak fun k' i' s' hs' hd => ?_
    rcases hd with hd | ⟨rfl, r2, _⟩
    · exact hd
    · rw [hend i' (by simpa using r2)] at hs'
      cases hs'
  | s :: ss, i, st, Dn, hss, hend, h => by
    have h0 := hss 0 s rfl
    rw [Nat.add_zero] at h0
    have hst := inv_step hb (kd := kd) h h0.1 h0.2
    have ih := inv_foldS hb kd k ss (i + 1) _ _ (fun j t ht => by
      have := hss (j + 1) t (by simpa using ht)
      rwa [show i + (j + 1) = i + 1 + j by omega] at this) (fun i' hi' => hend i' (by simp; omega)) hst
    refine ih.weak fun k' i' s' hs' hd => ?_
    rcases hd with hd | ⟨r1, r2, r3⟩
    · exact .inl (.inl hd)
    · by_cases hi : i' = i
      · exact .inl (.inr ⟨r1, hi, r3⟩)
      · exact .inr ⟨r1, by omega, r3⟩
theorem inv_foldO (hb : 0 ≤ b) (kd : Int) : ∀ (ds : List OD) (k : Nat) (st : St) (Dn : Nat → Nat → SD → Prop),
    (∀ j d, ds[j]? = some d → l[k + j]? = some d ∧ ∀ s ∈ d.ss, Okk s) → l.length ≤ k + ds.length → Inv l b Dn st →
    Inv l b (fun k' i' s' => Dn k' i' s' ∨ (k ≤ k' ∧ s'.kd = kd)) (foldO kd k ds st)
  | [], k, st, Dn, _, hend, h => by
    refine h.weak fun k' i' s' hs' hd => ?_
    rcases hd with hd | ⟨r1, _⟩
    · exact hd
    · unfold sec at hs'
      rw [List.getElem?_eq_none (by simp at hend; omega)] at hs'
      cases hs'
  | d :: ds, k, st, Dn, hds, hend, h => by
    have h0 := hds 0 d rfl
    rw [Nat.add_zero] at h0
    have hst := inv_foldS hb kd k d.ss 0 st Dn (fun j s hs => by
      refine ⟨?_, h0.2 s (List.mem_of_getElem? hs)⟩
      unfold sec
      rw [h0.1, Nat.zero_add]
      exact hs) (fun i' hi' => by
      unfold sec
      rw [h0.1]
      exact List.getElem?_eq_none (by omega)) h
    have ih := inv_foldO hb kd ds (k + 1) _ _ (fun j t ht => by
      have := hds (j + 1) t (by simpa using ht)
      rwa [show k + (j + 1) = k + 1 + j by omega] at this) (by simp at hend; omega) hst
    refine ih.weak fun k' i' s' hs' hd => ?_
    rcases hd with hd | ⟨r1, r2⟩
    · exact .inl (.inl hd)
    · by_cases hk : k' = k
      · exact .inl (.inr ⟨hk, Nat.zero_le _, r2⟩)
      · exact .inr ⟨by omega, r2⟩
theorem inv_kind (hb : 0 ≤ b) (hl : ∀ d ∈ l, ∀ s ∈ d.ss, Okk s) (kd : Int) {Dn : Nat → Nat → SD → Prop} {st : St} (h : Inv l b Dn st) : Inv l b (fun k' i' s' => Dn k' i' s' ∨ s'.kd = kd) (kindS l kd st) := by
  have hlo := h.lo
  obtain ⟨e1, _⟩ := al_bd (show 0 ≤ st.1 by omega) (show alignOk 8 = true by decide)
  have h1 : Inv l b Dn (al st.1 8, st.2) := ⟨by simp only; omega, h.sh, fun k i s hs hd => by
    have := h.pl k i s hs hd
    simp only
    omega⟩
  have h2 := inv_foldO hb kd l 0 _ Dn (fun j d hj => ⟨by rw [Nat.zero_add]; exact hj, hl d (List.mem_of_getElem? hj)⟩) (by omega) h1
  refine h2.weak fun k' i' s' _ hd => ?_
  rcases hd with hd | hd
  · exact .inl hd
  · exact .inr ⟨Nat.zero_le _, hd⟩
theorem shq_zero (l : List OD) : Shq l (zeroP l) := by
  intro k i s hs
  unfold sec at hs
  unfold zeroP
  cases hk : l[k]? with
  | none =>
    rw [hk] at hs
    cases hs
  | some d =>
    rw [hk] at hs
    obtain ⟨h1, h2⟩ := List.getElem?_eq_some_iff.1 hk
    obtain ⟨h3, _⟩ := List.getElem?_eq_some_iff.1 (show d.ss[i]? = some s from hs)
    refine ⟨by rw [List.length_map]; exact h1, ?_⟩
    rw [List.getElem_map, List.length_replicate, h2]
    exact h3
theorem foldS_le (kd : Int) (k : Nat) : ∀ (ss : List SD) (i : Nat) (st : St), (∀ s ∈ ss, Okk s) → 0 ≤ st.1 → 0 ≤ (foldS kd k i ss st).1 ∧ (foldS kd k i ss st).1 ≤ st.1 + 60 * ss.length
  | [], i, st, _, h0 => by simp only [foldS, List.length_nil]; omega
  | s :: ss, i, st, h, h0 => by
    have ho := h s List.mem_cons_self
    have h1 : 0 ≤ (stepS kd k i s st).1 ∧ (stepS kd k i s st).1 ≤ st.1 + 60 := by
      obtain ⟨e1, e2⟩ := al_bd h0 ho.2
      have := ho.1
      unfold stepS
      by_cases hk : s.kd = kd
      · rw [decide_eq_true hk]
        simp only [cond_true]
        omega
      · rw [decide_eq_false hk]
        simp only [cond_false]
        omega
    have ih := foldS_le kd k ss (i + 1) (stepS kd k i s st) (fun t ht => h t (List.mem_cons_of_mem _ ht)) h1.1
    rw [foldS, List.length_cons]
    omega
theorem foldO_le (kd : Int) : ∀ (ds : List OD) (k : Nat) (st : St), (∀ d ∈ ds, d.ss.length ≤ 8 ∧ ∀ s ∈ d.ss, Okk s) → 0 ≤ st.1 → 0 ≤ (foldO kd k ds st).1 ∧ (foldO kd k ds st).1 ≤ st.1 + 480 * ds.length
  | [], k, st, _, h0 => by simp only [foldO, List.length_nil]; omega
  | d :: ds, k, st, h, h0 => by
    have ho := h d List.mem_cons_self
    have h1 := foldS_le kd k d.ss 0 st ho.2 h0
    have ih := foldO_le kd ds (k + 1) (foldS kd k 0 d.ss st) (fun t ht => h t (List.mem_cons_of_mem _ ht)) h1.1
    rw [foldO, List.length_cons]
    have := ho.1
    omega
theorem kind_le (hl : ∀ d ∈ l, d.ss.length ≤ 8 ∧ ∀ s ∈ d.ss, Okk s) (hn : l.length ≤ 4) (kd : Int) {st : St} (h0 : 0 ≤ st.1) : 0 ≤ (kindS l kd st).1 ∧ (kindS l kd st).1 ≤ st.1 + 1927 := by
  obtain ⟨e1, e2⟩ := al_bd h0 (show alignOk 8 = true by decide)
  have h := foldO_le kd l 0 (al st.1 8, st.2) hl (by simp only; omega)
  simp only at h
  unfold kindS
  omega
theorem sec_okk {many : Int} {d : SD} (h : secOk many d = true) : Okk d ∧ 1 ≤ d.kd ∧ d.kd ≤ 3 := by
  rw [secOk, Bool.and_eq_true] at h
  obtain ⟨h1, h2⟩ := h
  simp only [headOk, Bool.and_eq_true, inB, decide_eq_true_eq] at h1
  refine ⟨⟨?_, h1.2⟩, h1.1.2.1, h1.1.2.2⟩
  unfold secSize
  by_cases hk : d.kd = 3
  · rw [if_pos hk] at h2 ⊢
    simp only [blankOk, Bool.and_eq_true, inB, decide_eq_true_eq] at h2
    exact h2.1.1
  · rw [if_neg hk] at h2 ⊢
    simp only [bodyOk, Bool.and_eq_true, decide_eq_true_eq] at h2
    omega
/-- The places of valid objects' sections. -/
theorem lay_bd (ho : objsOk l = true) (hb0 : 0 ≤ b) (hb1 : b ≤ 4096) : b ≤ (PLink.lay l b).1 ∧ (PLink.lay l b).1 ≤ 10000 ∧ Shq l (PLink.lay l b).2 ∧ ∀ k (hk : k < l.length) i (hi : i < (l[k]).ss.length), b ≤ getP (PLink.lay l b).2 k i ∧ getP (PLink.lay l b).2 k i ≤ (PLink.lay l b).1 := by
  simp only [objsOk, Bool.and_eq_true, decide_eq_true_eq, List.all_eq_true] at ho
  have hl : ∀ d ∈ l, d.ss.length ≤ 8 ∧ ∀ s ∈ d.ss, Okk s ∧ 1 ≤ s.kd ∧ s.kd ≤ 3 := fun d hd => by
    obtain ⟨h1, _, h3, _⟩ := (obj_iff d).1 (ho.2 d hd)
    exact ⟨h1, fun s hs => sec_okk (h3 s hs)⟩
  have hl2 : ∀ d ∈ l, d.ss.length ≤ 8 ∧ ∀ s ∈ d.ss, Okk s := fun d hd => ⟨(hl d hd).1, fun s hs => ((hl d hd).2 s hs).1⟩
  have i0 : Inv l b (fun _ _ _ => False) (b, zeroP l) := ⟨Int.le_refl _, shq_zero l, fun _ _ _ _ h => h.elim⟩
  have i3 := inv_kind hb0 (fun d hd => (hl2 d hd).2) 3 (inv_kind hb0 (fun d hd => (hl2 d hd).2) 2 (inv_kind hb0 (fun d hd => (hl2 d hd).2) 1 i0))
  have b1 := kind_le hl2 ho.1 1 (st := (b, zeroP l)) hb0
  have b2 := kind_le hl2 ho.1 2 b1.1
  have b3 := kind_le hl2 ho.1 3 b2.1
  simp only at b1
  refine ⟨i3.lo, by unfold PLink.lay; omega, i3.sh, fun k hk i hi => ?_⟩
  have hkd := ((hl _ (List.getElem_mem hk)).2 _ (List.getElem_mem hi)).2
  refine i3.pl k i _ (sec_at hk hi) ?_
  generalize (l[k]).ss[i] = s at *
  have h : s.kd = 1 ∨ s.kd = 2 ∨ s.kd = 3 := by omega
  rcases h with h | h | h
  · exact .inl (.inl (.inr h))
  · exact .inl (.inr h)
  · exact .inr h
end Go.Proofs.Ytmglgjchemecjaa.PLayB
/- Contracts of slices.ContainsFunc at []int, and of MachineValid, the program's and the reference's. -/
namespace Go.Proofs.Ytmglgjchemecjaa.CMachine
set_option maxRecDepth 200000
open Go.ChangeShapes Go.WideShapes Go.ChangeAt Go.RowKit Kit CCode
def IxPost (zs : List Int) (p : Int → Bool) (w : World) (e : Ending) (w' : World) : Prop := ∃ k : Int, e = .returned (.int .i64 k) ∧ ((0 ≤ k) ↔ zs.any p = true) ∧ w = w'
def machOk (at_ : Int) (st ca : List Int) : Bool := decide (0 ≤ at_) && decide (st.length ≤ 8) && decide (ca.length ≤ 8) && !(st.any fun n => !inB n 0 65535) && !(ca.any fun n => decide (n < 0))
theorem take_any {p : Int → Bool} {zs : List Int} {k : Nat} (h : k < zs.length) (hp : ∀ z ∈ zs.take k, p z = false) (hk : p zs[k] = false) : ∀ z ∈ zs.take (k + 1), p z = false := by
  intro y hy
  rw [take_succ h, List.mem_append] at hy
  rcases hy with hy | hy
  · exact hp y hy
  · simp at hy
    rw [hy]
    exact hk
theorem any_all {p : Int → Bool} {zs : List Int} (hp : ∀ z ∈ zs.take zs.length, p z = false) : zs.any p = false := by
  rw [List.take_length] at hp
  rw [List.any_eq_false]
  intro x hx
  rw [hp x hx]
  exact Bool.false_ne_true
end Go.Proofs.Ytmglgjchemecjaa.CMachine
