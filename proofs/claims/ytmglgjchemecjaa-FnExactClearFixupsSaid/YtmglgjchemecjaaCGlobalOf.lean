/- globalOf: the first symbol with a name that is not local. -/
import Derived.Test.YtmglgjchemecjaaCSymValid
namespace Go.Proofs.Ytmglgjchemecjaa.CGlobalOf
set_option maxRecDepth 200000
open Go.ChangeShapes Go.WideShapes Go.ChangeAt Go.RowKit Kit CCode CName CFixups CSymbols PObj BObj PValid CSecValid
def hit (nm : ByteArray) (x : YD) : Bool := !decide (x.2.1 = 0) && decide (x.1 = nm)
theorem str_eq (a b : ByteArray) : (a.toList == b.toList) = decide (a = b) := by
  rw [ByteArray.toList_eq, ByteArray.toList_eq]
  by_cases h : a = b
  · rw [h, decide_eq_true rfl]
    simp
  · rw [decide_eq_false h, beq_eq_false_iff_ne]
    intro e
    refine h ?_
    obtain ⟨⟨x⟩⟩ := a
    obtain ⟨⟨y⟩⟩ := b
    simp at e
    rw [e]
theorem pred_any (nm : ByteArray) (N : Nat) (z : YD) (w : World) (hN : N < w.heap.size) (hc : w.cell? ⟨N, 0, none⟩ = some (.string nm)) :
    Calls Try.prog 141 #[.agg #[.string z.1, .int .i64 z.2.1, .int .i64 z.2.2.1, .int .i64 z.2.2.2], .pointer (some ⟨N, 0, none⟩)] w (Ret (.bool (hit nm z)) w) := by
  obtain ⟨zn, zb, zw, zv⟩ := z
  simp only [hit]
  have B0 : Below w.heap.size w (w.alloc (.cells #[.string zn, .int .i64 zb, .int .i64 zw, .int .i64 zv] 69)) := (by repeat (first | exact Below.refl _ _ | with_reducible assumption | (refine Below.drew ?_) | (refine Below.drewN ?_ _) | (refine Below.alloc ?_ (by simp; try omega) _) | (refine Below.setCell ?_ (by simp; try omega) _)))
  have X0 := Box.new w 69 #[.string zn, .int .i64 zb, .int .i64 zw, .int .i64 zv]
  have hc1 := (B0.cell (p := ⟨N, 0, none⟩) hN).trans hc
  have HB := hide B0
  have x0 := X0.cell 0
  have x1 := X0.cell 1
  simp only [List.getElem?_toArray, List.getElem?_cons_zero, List.getElem?_cons_succ] at x0 x1
  clear B0
  go_enter Try.func141, Try.ntmps141
  by_cases hz : zb = 0
  · have e1 : (zb != 0) = false := by rw [hz]; rfl
    have HV := hide (show (!decide (zb = 0) && decide (zn = nm)) = false by rw [decide_eq_true hz]; rfl)
    clear hz
    go_wp2_with fail
    go_ret
    exact ⟨by rw [HV.out]; rfl, HB.out⟩
  · have e1 : (zb != 0) = true := bne_iff_ne.2 hz
    have HV := hide (show (!decide (zb = 0) && decide (zn = nm)) = (zn.toList == nm.toList) by rw [decide_eq_false hz, str_eq]; rfl)
    clear hz
    generalize hq : (zn.toList == nm.toList) = q at *
    go_wp2_with fail
    go_ret
    exact ⟨by rw [HV.out]; rfl, HB.out⟩
theorem indexFunc_any (nm : ByteArray) (N : Nat) (A : Option Addr) (ys : List YD) (c : Nat) (w : World) (hr : Rd w w.heap.size A (cellsOf symbolC ys)) (hm : ys.length ≤ maxLen) (hN : N < w.heap.size) (hc : w.cell? ⟨N, 0, none⟩ = some (.string nm)) :
    Calls Try.prog 140 #[.slice A ys.length c, .func (.func 141) #[] #[.pointer (some ⟨N, 0, none⟩)]] w fun e w' => ∃ r : Int, e = .returned (.int .i64 r) ∧ decide (0 ≤ r) = ys.any (hit nm) ∧ Below w.heap.size w w' := by
  unfold maxLen at hm
  go_enter Try.func140, Try.ntmps140
  go_wp2
  go_loopw [8] (fun i wr => ∃ k : Nat, k ≤ ys.length ∧ i = .int .i64 k ∧ (ys.take k).any (hit nm) = false ∧ Below w.heap.size w wr) (fun i _ => ys.length - (intOf i).toNat)
  case atStart => exact ⟨0, Nat.zero_le _, rfl, rfl, Below.refl _ _⟩
  case round =>
    obtain ⟨k, hk, rfl, hn, hb⟩ := hrel
    have HB := hide hb
    by_cases hlt : k < ys.length
    · obtain ⟨b, off, rfl, hbb, hcc⟩ := (hr.below hb).row symbolC_len (by decide) hlt
      have hc0 := hcc 0 _ rfl
      have hc1 := hcc 1 _ rfl
      have hc2 := hcc 2 _ rfl
      have hc3 := hcc 3 _ rfl
      simp only [Nat.add_zero] at hc0
      have HS := hide (show (ys.take (k + 1)).any (hit nm) = hit nm ys[k] by rw [take_succ hlt, List.any_append, hn]; simp)
      have HT := hide (show hit nm ys[k] = true → ys.any (hit nm) = true from fun h => List.any_eq_true.2 ⟨_, List.getElem_mem hlt, h⟩)
      have HP := hide (fun z => pred_any nm N z wr (Nat.lt_of_lt_of_le hN hb.size) ((hb.cell (p := ⟨N, 0, none⟩) hN).trans hc))
      clear hr hb hcc hn hc
      generalize ys[k] = z at *
      have hpred := HP.out z
      cases h : hit nm z
      · have HS' := hide (HS.out.trans h)
        rw [h] at hpred
        clear HT HS h HP
        go_wp2_with fail
        refine hpred.mono ?_
        rintro e w2 ⟨rfl, b2⟩
        have HB' := hide (HB.out.trans (b2.mono HB.out.size))
        clear b2 hc0 hc1 hc2 hc3
        go_wp2_with fail
        refine ⟨⟨k + 1, by omega, by go_num, HS'.out, HB'.out⟩, by simp [intOf]; omega⟩
      · have HT' := hide (HT.out h)
        rw [h] at hpred
        clear HT HS h HP
        go_wp2_with fail
        refine hpred.mono ?_
        rintro e w2 ⟨rfl, b2⟩
        have HB' := hide (HB.out.trans (b2.mono HB.out.size))
        clear b2 hc0 hc1 hc2 hc3
        go_wp2_with fail
        go_ret
        exact ⟨k, rfl, by rw [HT'.out]; simp, HB'.out⟩
    · have HN := hide (show ys.any (hit nm) = false by rw [← hn, List.take_of_length_le (by omega)])
      clear hr hb hn hc
      go_wp2_with fail
      go_ret
      exact ⟨-1, rfl, by rw [HN.out]; rfl, HB.out⟩
theorem globalOf_any (nm : ByteArray) (A : Option Addr) (ys : List YD) (c : Nat) (w : World) (hr : Rd w w.heap.size A (cellsOf symbolC ys)) (hm : ys.length ≤ maxLen) :
    Calls Try.prog 84 #[.slice A ys.length c, .string nm] w fun e w' => ∃ r : Int, e = .returned (.int .i64 r) ∧ decide (0 ≤ r) = ys.any (hit nm) ∧ Below w.heap.size w w' := by
  have B0 : Below w.heap.size w (w.alloc (.cells #[.string nm] 9)) := (by repeat (first | exact Below.refl _ _ | with_reducible assumption | (refine Below.drew ?_) | (refine Below.drewN ?_ _) | (refine Below.alloc ?_ (by simp; try omega) _) | (refine Below.setCell ?_ (by simp; try omega) _)))
  have X0 := Box.new w 9 #[.string nm]
  have x0 := X0.cell 0
  simp only [List.getElem?_toArray, List.getElem?_cons_zero, List.getElem?_cons_succ] at x0
  have HX := hide (And.intro X0.lt x0)
  have HB := hide B0
  have HR := hide ((hr.below B0).more B0.size)
  clear B0 hr X0 x0
  go_enter Try.func84, Try.ntmps84
  go_wp2_with fail
  refine (indexFunc_any nm w.heap.size A ys c _ HR.out hm HX.out.1 HX.out.2).mono ?_
  rintro e w2 ⟨r, rfl, hr2, b2⟩
  have HB2 := hide (HB.out.trans (b2.mono HB.out.size))
  have H2 := hide hr2
  clear b2 hr2
  go_wp2_with fail
  go_ret
  exact ⟨r, rfl, H2.out, HB2.out⟩
end Go.Proofs.Ytmglgjchemecjaa.CGlobalOf
