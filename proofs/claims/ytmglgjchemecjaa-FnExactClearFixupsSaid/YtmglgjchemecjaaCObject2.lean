/- Contracts of the laws' helpers on Object: the size, the marks. -/
import Derived.Test.YtmglgjchemecjaaCObject
namespace Go.Proofs.Ytmglgjchemecjaa.CObject2
set_option maxRecDepth 200000
open Go.ChangeShapes Go.WideShapes Go.ChangeAt Go.RowKit Kit CFixups CSymbols PObj BObj CSection CSections CMarkText CSymMarks CMarkRows CSecMarks CSecHeld CObject
/-- What all sizes sum up to. -/
def sum (o : OV) : Int := o.ps.length + tot (o.ps.map SV.d) + o.ys.length + toty o.ys
theorem sum_lim {o : OV} (h : sum o ≤ 1048576) : LimO o ∧ (∀ p ∈ o.ps, p.nm.size ≤ 1048576) ∧ (∀ y ∈ o.ys, y.1.size ≤ 1048576) := by
  unfold sum at h
  have h1 := tot_nonneg (o.ps.map SV.d)
  have h2 := toty_nonneg o.ys
  have h3 : ∀ p ∈ o.ps, wt p.d ≤ 1048576 := fun p hp => by
    have := tot_mem (o.ps.map SV.d) p.d (List.mem_map_of_mem hp)
    omega
  refine ⟨⟨by omega, by omega, fun p hp => ?_⟩, fun p hp => ?_, fun y hy => ?_⟩
  · have := h3 p hp
    simp only [wt, SV.d] at this
    unfold Lim
    omega
  · have := h3 p hp
    simp only [wt, SV.d] at this
    omega
  · have := toty_mem o.ys y hy
    omega
theorem wds_le : ∀ ps : List SV, wds ps ≤ 4 * ps.length + 4 * tot (ps.map SV.d)
  | [] => by simp [wds, tot]
  | p :: ps => by
    have := wds_le ps
    simp only [wds, wd, List.map_cons, tot, wt, SV.d, List.length_cons] at this ⊢
    omega
theorem sum_wds {o : OV} (h : sum o ≤ 1048576) : wds o.ps + 4 * o.ys.length ≤ 4294967295 := by
  have := wds_le o.ps
  have := toty_nonneg o.ys
  unfold sum at h
  omega
theorem szObject_any (o : OV) (w : World) (hr : RdO w w.heap.size o) (h1 : o.ps.length ≤ maxLen) (h2 : o.ys.length ≤ maxLen) (h3 : ∀ p ∈ o.ps, p.nm.size ≤ maxLen ∧ p.zs.length ≤ maxLen ∧ p.fs.length ≤ maxLen) (h4 : ∀ y ∈ o.ys, y.1.size ≤ maxLen) :
    Calls Try.prog 16 #[.agg #[.slice o.A o.ps.length o.c, .slice o.Y o.ys.length o.yc], .int .i64 1048576] w fun e w' => (∃ r, e = .returned (.int .i64 r) ∧ (r = -1 ∨ 0 ≤ r ∧ sum o ≤ 1048576)) ∧ Below w.heap.size w w' := by
  obtain ⟨A, c, ps, Y, yc, ys⟩ := o
  simp only [sum] at h1 h2 h3 h4 ⊢
  have HR := hide hr
  have HL := hide (And.intro h1 (And.intro h2 (And.intro h3 h4)))
  clear hr h1 h2 h3 h4
  have B0 : Below w.heap.size w (w.alloc (.cells #[.slice A ps.length c, .slice Y ys.length yc] 38)) := (by repeat (first | exact Below.refl _ _ | with_reducible assumption | (refine Below.drew ?_) | (refine Below.drewN ?_ _) | (refine Below.alloc ?_ (by simp; try omega) _) | (refine Below.setCell ?_ (by simp; try omega) _)))
  have X0 := Box.new w 38 #[.slice A ps.length c, .slice Y ys.length yc]
  have HB := hide B0
  clear B0
  go_enter Try.func16, Try.ntmps16
  go_wp2_with fail
  generalize w.alloc (.cells #[.slice A ps.length c, .slice Y ys.length yc] 38) = w0 at *
  refine (szSectionS_any A ps c 1048576 w0 (by omega) (by omega) ((HR.out.1.1.below HB.out).more HB.out.size) HL.out.1 HL.out.2.2.1).mono ?_
  rintro e w1 ⟨⟨r, rfl, hr⟩, b1⟩
  have HB1 := hide (HB.out.trans (b1.mono HB.out.size))
  have X1 := X0.call b1
  have x1 := X1.cell 1
  simp only [List.getElem?_toArray, List.getElem?_cons_zero, List.getElem?_cons_succ] at x1
  clear b1 X0 X1 HB
  rcases hr with rfl | ⟨hr0, hr1, hr2⟩
  · go_wp2_with fail
    go_ret
    exact ⟨⟨_, rfl, .inl rfl⟩, HB1.out⟩
  · have HS := hide hr2
    clear hr2
    go_wp2_with fail
    refine (szSymbolS_any Y ys yc r w1 hr0 hr1 ((HR.out.2.below HB1.out).more HB1.out.size) HL.out.2.1 HL.out.2.2.2).mono ?_
    rintro e w2 ⟨⟨q, rfl, hq⟩, b2⟩
    have HB2 := hide (HB1.out.trans (b2.mono HB1.out.size))
    clear b2
    rcases hq with rfl | ⟨hq0, hq1, hq2⟩
    · go_wp2_with fail
      go_ret
      exact ⟨⟨_, rfl, .inl rfl⟩, HB2.out⟩
    · have HT := hide (show (ps.length : Int) + tot (ps.map SV.d) + ys.length + toty ys ≤ 1048576 by have := HS.out; omega)
      clear hq2
      go_wp2_with fail
      go_ret
      exact ⟨⟨q, rfl, .inr ⟨hq0, HT.out⟩⟩, HB2.out⟩
/-- An object behind its marks. -/
def mO (k : Int) (o : OV) : OV := { o with ps := mSs k o.ps, ys := ymarks (k + wds o.ps) o.ys.length }
theorem ssblk_mSs {A : Option Addr} {c : Nat} {k : Int} {ps : List SV} {j : Nat} (h : ssblk A c (mSs k ps) j) : ssblk A c ps j := by
  rcases h with h | ⟨x, hx, h⟩
  · exact .inl h
  · obtain ⟨q, hq, k', rfl⟩ := mSs_mem hx
    exact .inr ⟨q, hq, h⟩
theorem oblk_mO {k : Int} {o : OV} {j : Nat} (h : oblk (mO k o) j) : oblk o j := h.imp ssblk_mSs id
/-- The row of symbols lies apart from the sections. -/
theorem own_apart {w : World} {base : Nat} {o : OV} (h : OwnO w base o) : ∀ k, blk o.Y o.yc = some k → ¬ ssblk o.A o.c o.ps k := by
  rintro k hk (h' | ⟨p, hp, h' | h'⟩)
  · exact apartT h.2 h.1.1 (by decide) k hk h'
  · exact apartT h.2 (h.1.2.1 p hp).1 (by decide) k hk h'
  · exact apartT h.2 (h.1.2.1 p hp).2 (by decide) k hk h'
theorem markObject_any (base : Nat) (o : OV) (k0 : Int) (w : World) (h0 : 0 ≤ k0) (h1 : k0 ≤ 100) (hs : sum o ≤ 1048576) (h : OwnO w base o) :
    Calls Try.prog 20 #[.agg #[.slice o.A o.ps.length o.c, .slice o.Y o.ys.length o.yc], .int .i64 k0] w fun e w' => e = .returned (.int .i64 (k0 + wds o.ps + 4 * o.ys.length)) ∧ OwnO w' base (mO k0 o) ∧ Gp (oblk o) w w' := by
  have hw := wds_le o.ps
  have hw0 := wds_nonneg o.ps
  have hty := toty_nonneg o.ys
  have hap := own_apart h
  obtain ⟨A, c, ps, Y, yc, ys⟩ := o
  simp only [sum] at hs hw hw0 hty ⊢
  have HAP := hide hap
  have HO := hide h
  have HW := hide (show k0 + wds ps ≤ 4294967296 ∧ ys.length ≤ 4294967296 ∧ 0 ≤ k0 + wds ps by omega)
  clear h hap hw hs hty hw0
  have B0 : Below w.heap.size w (w.alloc (.cells #[.slice A ps.length c, .slice Y ys.length yc] 26)) := (by repeat (first | exact Below.refl _ _ | with_reducible assumption | (refine Below.drew ?_) | (refine Below.drewN ?_ _) | (refine Below.alloc ?_ (by simp; try omega) _) | (refine Below.setCell ?_ (by simp; try omega) _)))
  have X0 := Box.new w 26 #[.slice A ps.length c, .slice Y ys.length yc]
  have HO0 := hide (HO.out.call B0)
  have HG0 := hide (Gp.of_below (p := oblk ⟨A, c, ps, Y, yc, ys⟩) B0)
  have hXn : ∀ k, oblk ⟨A, c, ps, Y, yc, ys⟩ k → k ≠ w.heap.size := fun k hk => by have := (HO.out.lt k hk).2; omega
  have HXN := hide hXn
  clear B0 HO hXn
  go_enter Try.func20, Try.ntmps20
  go_wp2_with fail
  generalize w.alloc (.cells #[.slice A ps.length c, .slice Y ys.length yc] 26) = w0 at *
  refine (smark_any base A c ps k0 w0 h0 HW.out.1 HO0.out.1).mono ?_
  rintro e w1 ⟨rfl, o1, g1⟩
  have HS1 := hide o1
  have HY1 := hide (Gp.row g1 HO0.out.2 HAP.out)
  have X1 := g1.box X0 (fun h => HXN.out _ (.inl h) rfl)
  have HG1 := hide (HG0.out.trans (g1.mono (fun k h => .inl h)))
  have x1 := X1.cell 1
  simp only [List.getElem?_toArray, List.getElem?_cons_zero, List.getElem?_cons_succ] at x1
  clear o1 g1 X0 X1 HO0 HG0
  generalize hx : k0 + wds ps = x at *
  have HX := hide hx
  clear hx
  go_wp2_with fail
  refine (markY_row base Y yc ys.length _ x _ HW.out.2.2 HW.out.1 HW.out.2.1 HY1.out).mono ?_
  rintro e w2 ⟨rfl, r2, g2⟩
  have G2 := Gp.of_grown (p := fun k => blk Y yc = some k) g2 (fun k h => h)
  have HE := hide (show OwnO w2 base (mO k0 ⟨A, c, ps, Y, yc, ys⟩) from ⟨HS1.out.keep (fun k hk => G2.block k (HS1.out.lt k hk).2 (fun h => HAP.out k h (ssblk_mSs hk))), by simpa [mO, ymarks_len, HX.out] using r2⟩)
  have HG2 := hide (HG1.out.trans (G2.mono (fun k h => .inr h)))
  clear r2 g2 G2 HS1 HY1 HG1
  go_wp2_with fail
  go_ret
  exact ⟨by rw [HX.out]; rfl, HE.out, HG2.out⟩
theorem heldObject_any (o : OV) (k0 : Int) (w : World) (h0 : 0 ≤ k0) (h1 : k0 ≤ 100) (hs : sum o ≤ 1048576) (h : RdO w w.heap.size (mO k0 o)) :
    Calls Try.prog 24 #[.agg #[.slice o.A o.ps.length o.c, .slice o.Y o.ys.length o.yc], .int .i64 k0] w (Ret (.int .i64 (k0 + wds o.ps + 4 * o.ys.length)) w) := by
  have hw := wds_le o.ps
  have hw0 := wds_nonneg o.ps
  have hty := toty_nonneg o.ys
  have ht := tot_nonneg (o.ps.map SV.d)
  obtain ⟨A, c, ps, Y, yc, ys⟩ := o
  simp only [sum] at hs hw hw0 hty ht ⊢
  have HR := hide h
  have HW := hide (show k0 + wds ps ≤ 4294967296 ∧ ys.length ≤ 4294967296 ∧ 0 ≤ k0 + wds ps ∧ ps.length ≤ 4294967296 by omega)
  have hb : 0 ≤ k0 + wds ps := HW.out.2.2.1
  have hb1 : k0 + wds ps ≤ 4294967296 := HW.out.1
  have hb2 : ys.length ≤ 4294967296 := HW.out.2.1
  clear h hw hs hty hw0 ht
  have B0 : Below w.heap.size w (w.alloc (.cells #[.slice A ps.length c, .slice Y ys.length yc] 26)) := (by repeat (first | exact Below.refl _ _ | with_reducible assumption | (refine Below.drew ?_) | (refine Below.drewN ?_ _) | (refine Below.alloc ?_ (by simp; try omega) _) | (refine Below.setCell ?_ (by simp; try omega) _)))
  have X0 := Box.new w 26 #[.slice A ps.length c, .slice Y ys.length yc]
  have HB0 := hide B0
  clear B0
  go_enter Try.func24, Try.ntmps24
  go_wp2_with fail
  generalize w.alloc (.cells #[.slice A ps.length c, .slice Y ys.length yc] 26) = w0 at *
  refine (sheld_any A c ps k0 w0 h0 HW.out.1 HW.out.2.2.2 ((HR.out.1.below HB0.out).more HB0.out.size)).mono ?_
  rintro e w1 ⟨rfl, b1⟩
  have HB1 := hide (HB0.out.trans (b1.mono HB0.out.size))
  have X1 := X0.call b1
  have x1 := X1.cell 1
  simp only [List.getElem?_toArray, List.getElem?_cons_zero, List.getElem?_cons_succ] at x1
  have HRY := hide (show Rd w1 w1.heap.size Y (cellsOf symbolC (ymarks (k0 + wds ps) ys.length)) from (HR.out.2.below HB1.out).more HB1.out.size)
  clear b1 X0 X1 HB0
  generalize k0 + wds ps = x at *
  go_wp2_with fail
  refine (yheld_any Y yc ys.length x _ hb hb1 hb2 HRY.out).mono ?_
  rintro e w2 ⟨rfl, b2⟩
  have HB2 := hide (HB1.out.trans (b2.mono HB1.out.size))
  clear b2
  go_wp2_with fail
  go_ret
  exact ⟨rfl, HB2.out⟩
end Go.Proofs.Ytmglgjchemecjaa.CObject2
