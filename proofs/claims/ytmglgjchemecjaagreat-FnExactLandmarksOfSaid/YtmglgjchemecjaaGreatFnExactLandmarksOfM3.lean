/- The marks of sections. -/
import Derived.Test.YtmglgjchemecjaaGreatFnExactLandmarksOfM2
import Derived.Test.YtmglgjchemecjaaGreatRows
import Derived.BigQuiet
set_option linter.unusedSimpArgs false
set_option linter.unusedVariables false
namespace Go.Proofs.YtmglgjchemecjaaGreat.CSecMarks
set_option maxRecDepth 200000
open Go.ChangeShapes Go.WideShapes Go.ChangeAt Go.RowKit Kit CFixups CSymbols PObj BObj CMarkText CSymMarks CMarkRows
theorem rwS_mS {w : World} {b : Nat} {p : SV} {k : Int} (h1 : Row w b 5 1 p.A p.zs.length p.c (ints .u8 (CBytes.marks (k + 1 + 1 + 1) p.zs.length))) (h2 : Row w b 80 4 p.F p.fs.length p.fc (cellsOf fixupC (CFixups.marks (k + 1 + 1 + 1 + p.zs.length + 1) p.fs.length))) : RwS w b (mS k p) := by
  refine ⟨?_, ?_⟩
  · simpa [mS, CBytes.marks_len] using h1
  · simpa [mS, CFixups.marks_len] using h2
theorem gp_set {p : Nat → Prop} {w : World} {a : Addr} (ha : p a.block) (u : Value) : Gp p w (w.setCell a u) :=
  ⟨rfl, rfl, rfl, by simp [World.setCell], fun k _ hp => Below.heap_setCell w a u k (fun e => hp (e ▸ ha))⟩
set_option maxHeartbeats 1000000 in
theorem smark_any (base : Nat) (A : Option Addr) (c : Nat) (ps : List SV) (k0 : Int) (w : World) (h0 : 0 ≤ k0) (hk0 : k0 + wds ps ≤ 4294967296) (h : OwnSs w base A c ps) :
    Calls Tryz.prog 77 #[.slice A ps.length c, .int .i64 k0] w fun e w' => e = .returned (.int .i64 (k0 + wds ps)) ∧ OwnSs w' base A c (mSs k0 ps) ∧ Gp (ssblk A c ps) w w' := by
  have hn : ps.length ≤ maxLen := Nat.le_trans h.1.cap.1 h.1.cap.2
  unfold maxLen at hn
  have HP := hide h.2.2
  have HA := hide (And.intro h.1 h.2.1)
  have HK := hide hk0
  clear h hk0
  go_enter Tryz.func77, Tryz.ntmps77
  go_wp2
  go_loopw [1, 5] (fun k i wr => ∃ (j : Nat), j ≤ ps.length ∧ i = .int .i64 j ∧ k = .int .i64 (k0 + wds (ps.take j)) ∧ Row wr base 77 6 A ps.length c (cellsOf secC (mSs k0 (ps.take j)) ++ cellsOf secC (ps.drop j)) ∧ RwSs wr base (mSs k0 (ps.take j)) ∧ RwSs wr base (ps.drop j) ∧ Gp (ssblk A c ps) w wr) (fun _ i _ => ps.length - (intOf i).toNat)
  case atStart => exact ⟨0, Nat.zero_le _, rfl, by simp [wds], by simpa [mSs, cellsOf] using HA.out.1, (fun p hp => by cases hp), by rw [List.drop_zero]; exact HA.out.2, Gp.refl _ _⟩
  case round =>
    obtain ⟨j, hj, rfl, rfl, ho, hrw0, hrw, hg⟩ := hrel
    clear HA
    by_cases hlt : j < ps.length
    · have hc : c ≠ 0 := by
        have := ho.cap.1
        omega
      have hown : wr.ownsRow base 77 6 (.slice A ps.length c) ps.length (cellsOf secC (mSs k0 (ps.take j)) ++ cellsOf secC (ps.drop j)) := ho.elim (fun h => absurd h.2.1 hc) id
      have hform : ∃ g, A = some ⟨g, 0, none⟩ := by
        rcases hown.2 with ⟨hv, h0⟩ | ⟨g, cap, cur, hv, _⟩
        · omega
        · injection hv with hA
          exact ⟨g, hA⟩
      obtain ⟨g, rfl⟩ := hform
      have hbk : blk (some ⟨g, 0, none⟩) c = some g := by
        unfold blk
        rw [if_neg hc]
        rfl
      have hd : ps.drop j = ps[j] :: ps.drop (j + 1) := List.drop_eq_getElem_cons hlt
      have hpl : (cellsOf secC (mSs k0 (ps.take j))).length = j * 6 := by rw [cellsOf_len secC_len, mSs_len, List.length_take]; omega
      have hwall : wds ps = wds (ps.take j) + (wd ps[j] + wds (ps.drop (j + 1))) := by
        have := wds_append (ps.take j) (ps.drop j)
        rw [List.take_append_drop, hd] at this
        exact this
      have hw1 := wds_nonneg (ps.take j)
      have hw2 := wds_nonneg (ps.drop (j + 1))
      have hin : ps[j] ∈ ps := List.getElem_mem hlt
      -- apart from the others
      have hpwj : (∀ q ∈ ps.take j, ApS q ps[j]) ∧ (∀ q ∈ ps.drop (j + 1), ApS ps[j] q) := by
        have h1 := HP.out
        unfold PwSs at h1
        rw [← List.take_append_drop j ps, hd] at h1
        obtain ⟨_, h2, h3⟩ := List.pairwise_append.1 h1
        exact ⟨fun q hq => h3 q hq _ (List.mem_cons_self ..), (List.pairwise_cons.1 h2).1⟩
      have HS := hide (mSs_snoc k0 (ps.take j) ps[j])
      have HT := hide (take_succ hlt)
      have HW3 := hide (show wds (ps.take (j + 1)) = wds (ps.take j) + wd ps[j] by rw [take_succ hlt, wds_append]; simp [wds])
      rw [hd] at hown hrw
      obtain ⟨cs, hbx⟩ := box_of_own hown
      have hrest : ∀ q ∈ ps.drop (j + 1), RwS wr base q := fun q hq => hrw q (List.mem_cons_of_mem _ hq)
      have hp := hrw ps[j] (List.mem_cons_self ..)
      have hkk := HK.out
      -- what the marking of this one leaves alone
      have HL0 := hide (fun q hq => (hrw0 q hq).box hbx (by decide) (by decide))
      have HL1 := hide (fun q hq => (hrest q hq).box hbx (by decide) (by decide))
      have HLp := hide (hp.box hbx (by decide) (by decide))
      have HAp0 : Hid (∀ q ∈ mSs k0 (ps.take j), ∀ k, sblk q k → ¬ sblk ps[j] k) := hide (by
        intro x hx
        obtain ⟨q, hq, k', e⟩ := mSs_mem hx
        have hx' := hrw0 x hx
        refine CMarkRows.RwS.apart hx' hp ?_
        rw [e]
        exact hpwj.1 q hq)
      have HAp1 := hide (fun q hq => CMarkRows.RwS.apart (hrest q hq) hp (CMarkRows.ApS.symm (hpwj.2 q hq)))
      have HR0 := hide hrw0
      have HR1 := hide hrest
      have HG := hide hg
      have HPR := hide hp
      have HBK := hide (And.intro hbk hin)
      clear hd hrw hpwj hg hp hrest hrw0 ho hbx hbk hin
      generalize hx : k0 + wds (ps.take j) = x at *
      generalize hM0 : mSs k0 (ps.take j) = M0 at *
      generalize hR : ps.drop (j + 1) = rest at *
      generalize hp : ps[j] = p at *
      have hwd : wd p = 4 + p.zs.length + 4 * p.fs.length := rfl
      have hx0 : 0 ≤ x := by omega
      have hxb : x + 4 + p.zs.length + 4 * p.fs.length ≤ 4294967296 := by omega
      have HXX := hide (And.intro hx (And.intro hM0 (And.intro hR hp)))
      clear hx hM0 hR hp hwall hw1 hw2 hkk hwd
      obtain ⟨nm, kd, al, PA, pc, zs, sz, F, fc, fs⟩ := p
      simp only at hxb
      have hcell : cellsOf secC (⟨nm, kd, al, PA, pc, zs, sz, F, fc, fs⟩ :: rest) = .string nm :: .int .i64 kd :: .int .i64 al :: .slice PA zs.length pc :: .int .i64 sz :: .slice F fs.length fc :: cellsOf secC rest := by simp [cellsOf, secC]
      rw [hcell] at hown
      have HOW := hide hown
      clear hown hcell
      go_wp2_with fail
      refine (markText_any x _ (by omega)).mono ?_
      rintro e w2 ⟨rfl, b2⟩
      have hown := own_call b2 HOW.out
      have HG2 := hide (HG.out.trans (Gp.of_below b2))
      have HR02 := hide (RwSs.call HR0.out b2)
      have HR12 := hide (fun q hq => (HR1.out q hq).call b2)
      have HP2 := hide (HPR.out.call b2)
      obtain ⟨⟨old0, hk0⟩, hfz0⟩ := own_old hown (j := j * 6) (by omega)
      obtain ⟨⟨old1, hk1⟩, hfz1⟩ := own_old hown (j := j * 6 + 1) (by omega)
      obtain ⟨⟨old2, hk2⟩, hfz2⟩ := own_old hown (j := j * 6 + 2) (by omega)
      have hk3 : w2.cell? ⟨g, j * 6 + 3, none⟩ = some (.slice PA zs.length pc) := by
        rw [hown.cellAt (j * 6 + 3) (by omega), List.getElem?_append_right (by omega), hpl, Nat.add_sub_cancel_left]
        rfl
      have ho1 := own_put hown hpl (by omega) (.string (mtx x))
      have ho2 := own_put ho1 (j := j * 6 + 1) (by simp only [List.length_append, hpl]; rfl) (by omega) (.int .i64 (x + 1))
      have ho3 := own_put ho2 (j := j * 6 + 2) (by simp only [List.length_append, hpl]; rfl) (by omega) (.int .i64 (x + 1 + 1))
      simp only [List.tail_cons] at ho3
      have HO3 := hide ho3
      have HP3 := hide (((HP2.out.set (a := ⟨g, j * 6, none⟩) HLp.out (.string (mtx x))).set (a := ⟨g, j * 6 + 1, none⟩) HLp.out (.int .i64 (x + 1))).set (a := ⟨g, j * 6 + 2, none⟩) HLp.out (.int .i64 (x + 1 + 1)))
      have HR03 := hide (fun q hq => (((HR02.out q hq).set (a := ⟨g, j * 6, none⟩) (HL0.out q hq) (.string (mtx x))).set (a := ⟨g, j * 6 + 1, none⟩) (HL0.out q hq) (.int .i64 (x + 1))).set (a := ⟨g, j * 6 + 2, none⟩) (HL0.out q hq) (.int .i64 (x + 1 + 1)))
      have HR13 := hide (fun q hq => (((HR12.out q hq).set (a := ⟨g, j * 6, none⟩) (HL1.out q hq) (.string (mtx x))).set (a := ⟨g, j * 6 + 1, none⟩) (HL1.out q hq) (.int .i64 (x + 1))).set (a := ⟨g, j * 6 + 2, none⟩) (HL1.out q hq) (.int .i64 (x + 1 + 1)))
      have HG3 := hide (((HG2.out.trans (gp_set (a := ⟨g, j * 6, none⟩) (.inl HBK.out.1) (.string (mtx x)))).trans (gp_set (a := ⟨g, j * 6 + 1, none⟩) (.inl HBK.out.1) (.int .i64 (x + 1)))).trans (gp_set (a := ⟨g, j * 6 + 2, none⟩) (.inl HBK.out.1) (.int .i64 (x + 1 + 1))))
      have hlg := hown.1
      clear hown ho1 ho2 ho3 HG2 HR02 HR12 HP2 b2 HOW HG HR0 HR1 HPR
      go_wp2_with fail
      refine (markB_row base PA pc zs (x + 1 + 1 + 1) _ (by omega) (by omega) (by omega) HP3.out.1).mono ?_
      rintro e w4 ⟨rfl, r4, g4⟩
      have hne4 : blk PA pc ≠ some g := fun h => HLp.out g (.inl h) rfl
      have hown := own_grown HO3.out g4 hne4
      have G4 := Gp.of_grown (p := fun k => blk PA pc = some k) g4 (fun k h => h)
      have HR4 := hide r4
      have HF4 := hide (HP3.out.2.grown g4 (fun k hk h => apartT HP3.out.2 HP3.out.1 (by decide) k hk h))
      have HR04 := hide (fun q hq => RwS.gp G4 (HR03.out q hq) (fun k hk h => HAp0.out q hq k hk (.inl h)))
      have HR14 := hide (fun q hq => RwS.gp G4 (HR13.out q hq) (fun k hk h => HAp1.out q hq k hk (.inl h)))
      have HG4 := hide (HG3.out.trans (G4.mono (fun k h => .inr ⟨_, HBK.out.2, .inl h⟩)))
      obtain ⟨⟨old4, hk4⟩, hfz4⟩ := own_old hown (j := j * 6 + 4) (by omega)
      have hpl5 : (cellsOf secC M0 ++ [Value.string (mtx x)] ++ [Value.int .i64 (x + 1)] ++ [Value.int .i64 (x + 1 + 1)] ++ [Value.slice PA zs.length pc]).length = j * 6 + 4 := by simp only [List.length_append, hpl]; rfl
      have hre : cellsOf secC M0 ++ [Value.string (mtx x)] ++ [Value.int .i64 (x + 1)] ++ [Value.int .i64 (x + 1 + 1)] ++ (Value.slice PA zs.length pc :: Value.int .i64 sz :: Value.slice F fs.length fc :: cellsOf secC rest) = (cellsOf secC M0 ++ [Value.string (mtx x)] ++ [Value.int .i64 (x + 1)] ++ [Value.int .i64 (x + 1 + 1)] ++ [Value.slice PA zs.length pc]) ++ (Value.int .i64 sz :: Value.slice F fs.length fc :: cellsOf secC rest) := by simp
      rw [hre] at hown
      have ho5 := own_put hown hpl5 (by omega) (.int .i64 (x + 1 + 1 + 1 + zs.length))
      simp only [List.tail_cons] at ho5
      have hk5 : w4.cell? ⟨g, j * 6 + 5, none⟩ = some (.slice F fs.length fc) := by
        rw [hown.cellAt (j * 6 + 5) (by omega), List.getElem?_append_right (by omega), hpl5, show j * 6 + 5 - (j * 6 + 4) = 1 by omega]
        rfl
      have HO5 := hide ho5
      have HR5 := hide (HR4.out.set (a := ⟨g, j * 6 + 4, none⟩) (fun k hk => HLp.out k (.inl hk)) (.int .i64 (x + 1 + 1 + 1 + zs.length)))
      have HF5 := hide (HF4.out.set (a := ⟨g, j * 6 + 4, none⟩) (fun k hk => HLp.out k (.inr hk)) (.int .i64 (x + 1 + 1 + 1 + zs.length)))
      have HR05 := hide (fun q hq => (HR04.out q hq).set (a := ⟨g, j * 6 + 4, none⟩) (HL0.out q hq) (.int .i64 (x + 1 + 1 + 1 + zs.length)))
      have HR15 := hide (fun q hq => (HR14.out q hq).set (a := ⟨g, j * 6 + 4, none⟩) (HL1.out q hq) (.int .i64 (x + 1 + 1 + 1 + zs.length)))
      have HG5 := hide (HG4.out.trans (gp_set (a := ⟨g, j * 6 + 4, none⟩) (.inl HBK.out.1) (.int .i64 (x + 1 + 1 + 1 + zs.length))))
      clear hown ho5 hre r4 g4 G4 HO3 HP3 HR03 HR13 HG3 HR4 HF4 HR04 HR14 HG4 hk0 hk1 hk2 hfz0 hfz1 hfz2 hk3
      go_wp2_with fail
      refine (markF_row base F fc fs.length _ (x + 1 + 1 + 1 + zs.length + 1) _ (by omega) (by omega) (by omega) HF5.out).mono ?_
      rintro e w6 ⟨rfl, r6, g6⟩
      have hne6 : blk F fc ≠ some g := fun h => HLp.out g (.inr h) rfl
      have HO6 := hide (own_grown HO5.out g6 hne6)
      have G6 := Gp.of_grown (p := fun k => blk F fc = some k) g6 (fun k h => h)
      have HB6 := hide (HR5.out.grown g6 (fun k hk h => apartT HR5.out HF5.out (by decide) k hk h))
      have HR06 := hide (fun q hq => RwS.gp G6 (HR05.out q hq) (fun k hk h => HAp0.out q hq k hk (.inr h)))
      have HR16 := hide (fun q hq => RwS.gp G6 (HR15.out q hq) (fun k hk h => HAp1.out q hq k hk (.inr h)))
      have HG6 := hide (HG5.out.trans (G6.mono (fun k h => .inr ⟨_, HBK.out.2, .inr h⟩)))
      have HF6 := hide r6
      have E1 := hide (show x + 1 + 1 + 1 + (zs.length : Int) + 1 + 4 * fs.length = x + wd ⟨nm, kd, al, PA, pc, zs, sz, F, fc, fs⟩ by simp only [wd]; omega)
      clear r6 g6 G6 HO5 HR5 HF5 HR05 HR15 HG5 hk4 hk5 hfz4
      go_wp2_with fail
      refine ⟨⟨j + 1, by omega, by go_num, ?_, ?_, ?_, ?_, HG6.out⟩, by simp [intOf]; omega⟩
      · rw [E1.out, HW3.out, ← HXX.out.1]
        congr 1
        omega
      · rw [HT.out, HS.out, HXX.out.2.2.1]
        refine .inr ?_
        simpa [cellsOf, secC, mS, CBytes.marks_len, CFixups.marks_len] using HO6.out
      · rw [HT.out, HS.out]
        exact RwSs.snoc HR06.out (rwS_mS HB6.out HF6.out)
      · rw [HXX.out.2.2.1]
        exact HR16.out
    · have e : j = ps.length := by omega
      subst e
      rw [List.take_length] at ho hrw0
      rw [List.drop_length] at ho
      have HE := hide (show OwnSs wr base A c (mSs k0 ps) from ⟨by rw [mSs_len]; simpa [cellsOf] using ho, hrw0, mSs_pw HP.out⟩)
      rw [List.take_length]
      clear ho hrw hrw0
      go_wp2
      go_ret
      exact ⟨rfl, HE.out, hg⟩
end Go.Proofs.YtmglgjchemecjaaGreat.CSecMarks
/- The marks of sections read again. -/
namespace Go.Proofs.YtmglgjchemecjaaGreat.CSecHeld
set_option maxRecDepth 200000
open Go.ChangeShapes Go.WideShapes Go.ChangeAt Go.RowKit Kit CFixups CSymbols PObj BObj CMarkText CSymMarks CMarkRows CSecMarks
end Go.Proofs.YtmglgjchemecjaaGreat.CSecHeld
/- Contracts of the laws' helpers on Object: the copy, the comparison of equal data, the size, the marks. -/
namespace Go.Proofs.YtmglgjchemecjaaGreat.CObject
set_option maxRecDepth 200000
open Go.ChangeShapes Go.WideShapes Go.ChangeAt Go.RowKit Kit CFixups CSymbols PObj BObj CSection CSections CMarkText CSymMarks CMarkRows CSecMarks CSecHeld
/-- What the laws' count allows. -/
def LimO (o : OV) : Prop := o.ps.length ≤ 1048576 ∧ o.ys.length ≤ 1048576 ∧ (∀ p ∈ o.ps, Lim p)
theorem ret_object {w w1 : World} {Y : Nat} {o : OV} (ho : OwnO w1 w.heap.size o) (B : Below w.heap.size w w1) (hY : ∀ k, oblk o k → k ≠ Y) (hYw : w.heap.size ≤ Y) :
    RetO o.d w (.returned o.v) ((w1.setCell ⟨Y, 0, none⟩ (.slice o.A o.ps.length o.c)).setCell ⟨Y, 1, none⟩ (.slice o.Y o.ys.length o.yc)) := by
  refine ⟨o, rfl, rfl, ?_, (B.setCell (p := ⟨Y, 0, none⟩) hYw _).setCell (p := ⟨Y, 1, none⟩) hYw _⟩
  exact ho.keep fun k hk => (Below.heap_setCell _ ⟨Y, 1, none⟩ _ k (hY k hk)).trans (Below.heap_setCell _ ⟨Y, 0, none⟩ _ k (hY k hk))
theorem toObject_any (o : OV) (w : World) (hr : RdO w w.heap.size o) (hl : LimO o) :
    Calls Tryz.prog 8 #[.agg #[.slice o.A o.ps.length o.c, .slice o.Y o.ys.length o.yc]] w (RetO o.d w) := by
  obtain ⟨A, c, ps, YA, yc, ys⟩ := o
  obtain ⟨h1, h2, h3⟩ := hl
  simp only at h1 h2 h3 ⊢
  have HR := hide hr
  have HL := hide h3
  clear hr h3
  have HY := (Box.new (w.alloc (.cells #[.slice A ps.length c, .slice YA ys.length yc] 25)) 31 #[.slice none 0 0, .slice none 0 0]).alloc (.cells #[.slice none 0 0, .slice none 0 0] 31)
  have HZ := Box.new ((w.alloc (.cells #[.slice A ps.length c, .slice YA ys.length yc] 25)).alloc (.cells #[.slice none 0 0, .slice none 0 0] 31)) 31 #[.slice none 0 0, .slice none 0 0]
  have HV := ((Box.new w 25 #[.slice A ps.length c, .slice YA ys.length yc]).alloc (.cells #[.slice none 0 0, .slice none 0 0] 31)).alloc (.cells #[.slice none 0 0, .slice none 0 0] 31)
  have B0 : Below w.heap.size w (((w.alloc (.cells #[.slice A ps.length c, .slice YA ys.length yc] 25)).alloc (.cells #[.slice none 0 0, .slice none 0 0] 31)).alloc (.cells #[.slice none 0 0, .slice none 0 0] 31)) := (by repeat (first | exact Below.refl _ _ | with_reducible assumption | (refine Below.drew ?_) | (refine Below.drewN ?_ _) | (refine Below.alloc ?_ (by simp; try omega) _) | (refine Below.setCell ?_ (by simp; try omega) _)))
  simp only [World.size_alloc] at HY HZ
  have hYX : w.heap.size + 1 < w.heap.size + 1 + 1 := by omega
  have hVY : w.heap.size < w.heap.size + 1 := by omega
  have HB := hide B0
  clear B0
  go_enter Tryz.func8, Tryz.ntmps8
  go_wp2_with fail
  generalize (((w.alloc (.cells #[.slice A ps.length c, .slice YA ys.length yc] 25)).alloc (.cells #[.slice none 0 0, .slice none 0 0] 31)).alloc (.cells #[.slice none 0 0, .slice none 0 0] 31)) = w0 at *
  generalize w.heap.size + 1 + 1 = X at *
  generalize w.heap.size + 1 = Y at *
  refine (toSectionS_any A ps c w0 ((HR.out.1.below HB.out).more HB.out.size) h1 HL.out).mono ?_
  rintro e w1 ⟨A1, c1, qs, rfl, hqd, o1, b1⟩
  have HQD := hide hqd
  have HY1 := hide (HY.call b1)
  have HZ1 := hide (HZ.call b1)
  have HV1 := hide (HV.call b1)
  have HB1 := hide (HB.out.trans (b1.mono HB.out.size))
  have HO := hide o1
  have hX0 : X < w0.heap.size := HZ.lt
  have z0 := HZ1.out.cell 0
  have zf0 := HZ1.out.frozen 0
  have v1 := HV1.out.cell 1
  simp only [List.getElem?_toArray, List.getElem?_cons_zero, List.getElem?_cons_succ] at z0 v1
  clear HY HZ HV o1 b1 HB hqd
  have hne : w.heap.size ≠ X := by omega
  have hnY : Y ≠ X := by omega
  have hle : w.heap.size ≤ X := by omega
  go_wp2_with fail
  have HB2 := hide (HB1.out.setCell (p := ⟨X, 0, none⟩) hle (.slice A1 qs.length c1))
  have hk1 : ∀ k, ssblk A1 c1 qs k → k ≠ X := fun k hk => by have := (HO.out.lt k hk).1; omega
  have HO2 := hide (HO.out.keep (fun k hk => Below.heap_setCell w1 ⟨X, 0, none⟩ (.slice A1 qs.length c1) k (hk1 k hk)))
  have HY2 := hide (HY1.out.far (p := ⟨X, 0, none⟩) hnY (.slice A1 qs.length c1))
  have HZ2 := hide (show Box (w1.setCell ⟨X, 0, none⟩ (.slice A1 qs.length c1)) X 31 #[.slice A1 qs.length c1, .slice none 0 0] from HZ1.out.set 0 (.slice A1 qs.length c1))
  clear HB1 HO HY1 HZ1 HV1 z0 zf0 v1
  generalize w1.setCell ⟨X, 0, none⟩ (.slice A1 qs.length c1) = w2 at *
  refine (toSymbolS_any YA ys yc w2 ((HR.out.2.below HB2.out).more HB2.out.size) h2).mono ?_
  rintro e w3 ⟨Y1, yc1, rfl, o3, b3⟩
  have HB3 := hide (HB2.out.trans (b3.mono HB2.out.size))
  have HO3 := hide (HO2.out.call b3)
  have HF3 := hide (show Row w3 w2.heap.size 69 4 Y1 ys.length yc1 (cellsOf symbolC ys) from .inr o3)
  have HY3 := hide (HY2.out.call b3)
  have HZ3 := hide (HZ2.out.call b3)
  have hX2 : X < w2.heap.size := HZ2.out.lt
  have hZ3 := HZ3.out.lt
  have hY3 := HY3.out.lt
  have z0 := HZ3.out.cell 0
  have z1 := HZ3.out.cell 1
  have zf1 := HZ3.out.frozen 1
  have y0 := HY3.out.cell 0
  have y1 := HY3.out.cell 1
  have yf0 := HY3.out.frozen 0
  have yf1 := HY3.out.frozen 1
  simp only [List.getElem?_toArray, List.getElem?_cons_zero, List.getElem?_cons_succ] at z0 z1 y0 y1
  have hk3 : ∀ k, blk Y1 yc1 = some k → k ≠ X := fun k hk => by have := (HF3.out.lt k hk).1; omega
  have hkY : ∀ k, oblk ⟨A1, c1, qs, Y1, yc1, ys⟩ k → k ≠ Y := by
    rintro k (hk | hk)
    · have := (HO3.out.lt k hk).1; omega
    · have := (HF3.out.lt k hk).1; omega
  have HQ := hide (show OwnO (w3.setCell ⟨X, 1, none⟩ (.slice Y1 ys.length yc1)) w.heap.size ⟨A1, c1, qs, Y1, yc1, ys⟩ from ⟨(HO3.out.keep (fun k hk => Below.heap_setCell w3 ⟨X, 1, none⟩ (.slice Y1 ys.length yc1) k (hk1 k hk))).down (by omega), (HF3.out.set (a := ⟨X, 1, none⟩) hk3 _).down HB2.out.size⟩)
  have HB4 := hide (HB3.out.setCell (p := ⟨X, 1, none⟩) hle (.slice Y1 ys.length yc1))
  have HY4 := hide (HY3.out.far (p := ⟨X, 1, none⟩) hnY (.slice Y1 ys.length yc1))
  have HF := hide (ret_object HQ.out HB4.out hkY (Nat.le_of_lt hVY))
  have hod : OV.d ⟨A1, c1, qs, Y1, yc1, ys⟩ = OV.d ⟨A, c, ps, YA, yc, ys⟩ := by simp only [OV.d, HQD.out]
  rw [hod] at HF
  clear hk1 hk3 hkY b3 o3 HO3 HF3 HB2 HB3 HO2 HY2 HZ2 HY3 HZ3 hod
  have k := (HY4.out.set 0 (.slice A1 qs.length c1)).set 1 (.slice Y1 ys.length yc1)
  have k0 := k.cell 0
  have k1 := k.cell 1
  simp only [List.setIfInBounds_toArray, List.set_cons_zero, List.set_cons_succ, List.getElem?_toArray, List.getElem?_cons_zero, List.getElem?_cons_succ] at k0 k1
  clear k
  go_wp2_with fail
  exact bodyPost_ret (v := OV.v ⟨A1, c1, qs, Y1, yc1, ys⟩) (by simp [results, Tryz.results8, go_sem, OV.v, k0, k1]) rfl HF.out
theorem eqObject_same (o o' : OV) (w : World) (h : RdO w w.heap.size o) (h' : RdO w w.heap.size o') (hd : o.d = o'.d) (hl : LimO o) :
    Calls Tryz.prog 10 #[.agg #[.slice o.A o.ps.length o.c, .slice o.Y o.ys.length o.yc], .agg #[.slice o'.A o'.ps.length o'.c, .slice o'.Y o'.ys.length o'.yc]] w (Ret (.bool true) w) := by
  obtain ⟨A, c, ps, Y, yc, ys⟩ := o
  obtain ⟨A', c', ps', Y', yc', ys'⟩ := o'
  simp only [OV.d, OD.mk.injEq] at hd
  obtain ⟨hd, rfl⟩ := hd
  obtain ⟨h1, h2, h3⟩ := hl
  simp only at h1 h2 h3 ⊢
  have hm1 : ps.length ≤ maxLen := by unfold maxLen; omega
  have hm2 : ys.length ≤ maxLen := by unfold maxLen; omega
  have HL := hide (fun (p : SV) hp => (show p.zs.length ≤ maxLen ∧ p.fs.length ≤ maxLen from by have := h3 p hp; unfold Lim at this; unfold maxLen; omega))
  have HD := hide hd
  have HR := hide (And.intro h h')
  clear h3 h h' hd
  have B0 : Below w.heap.size w ((w.alloc (.cells #[.slice A ps.length c, .slice Y ys.length yc] 31)).alloc (.cells #[.slice A' ps'.length c', .slice Y' ys.length yc'] 31)) := (by repeat (first | exact Below.refl _ _ | with_reducible assumption | (refine Below.drew ?_) | (refine Below.drewN ?_ _) | (refine Below.alloc ?_ (by simp; try omega) _) | (refine Below.setCell ?_ (by simp; try omega) _)))
  have X0 := (Box.new w 31 #[.slice A ps.length c, .slice Y ys.length yc]).alloc (.cells #[.slice A' ps'.length c', .slice Y' ys.length yc'] 31)
  have Y0 := Box.new (w.alloc (.cells #[.slice A ps.length c, .slice Y ys.length yc] 31)) 31 #[.slice A' ps'.length c', .slice Y' ys.length yc']
  simp only [World.size_alloc] at Y0
  have HB := hide B0
  clear B0
  go_enter Tryz.func10, Tryz.ntmps10
  go_wp2_with fail
  generalize (w.alloc (.cells #[.slice A ps.length c, .slice Y ys.length yc] 31)).alloc (.cells #[.slice A' ps'.length c', .slice Y' ys.length yc'] 31) = w0 at *
  refine (eqSectionS_same A A' ps ps' c c' w0 ((HR.out.1.1.below HB.out).more HB.out.size) ((HR.out.2.1.below HB.out).more HB.out.size) HD.out hm1 HL.out).mono ?_
  rintro e w1 ⟨rfl, b1⟩
  have HB1 := hide (HB.out.trans (b1.mono HB.out.size))
  have X1 := X0.call b1
  have Y1 := Y0.call b1
  have x1 := X1.cell 1
  have y1 := Y1.cell 1
  simp only [List.getElem?_toArray, List.getElem?_cons_zero, List.getElem?_cons_succ] at x1 y1
  clear b1 X0 Y0 X1 Y1 HB
  go_wp2_with fail
  refine (eqSymbolS_same Y Y' ys yc yc' w1 ((HR.out.1.2.below HB1.out).more HB1.out.size) ((HR.out.2.2.below HB1.out).more HB1.out.size) hm2).mono ?_
  rintro e w2 ⟨rfl, b2⟩
  have HB2 := hide (HB1.out.trans (b2.mono HB1.out.size))
  clear b2
  go_wp2_with fail
  go_ret
  exact ⟨rfl, HB2.out⟩
theorem szSymbol_any (z : YD) (l : Int) (w : World) (hs : z.1.size ≤ maxLen) (h0 : 0 ≤ l) (h1 : l ≤ 1048576) :
    Calls Tryz.prog 81 #[.agg #[.string z.1, .int .i64 z.2.1, .int .i64 z.2.2.1, .int .i64 z.2.2.2], .int .i64 l] w (Ret (.int .i64 (szJ l z.1.size)) w) := by
  unfold maxLen at hs
  by_cases h : l - z.1.size < 0
  · rw [szJ_neg h]
    go_enter Tryz.func81, Tryz.ntmps81
    go_wp2
    go_ret
    exact ⟨rfl, (by repeat (first | exact Below.refl _ _ | with_reducible assumption | (refine Below.drew ?_) | (refine Below.drewN ?_ _) | (refine Below.alloc ?_ (by simp; try omega) _) | (refine Below.setCell ?_ (by simp; try omega) _)))⟩
  · rw [szJ_pos h]
    go_enter Tryz.func81, Tryz.ntmps81
    go_wp2
    go_ret
    exact ⟨rfl, (by repeat (first | exact Below.refl _ _ | with_reducible assumption | (refine Below.drew ?_) | (refine Below.drewN ?_ _) | (refine Below.alloc ?_ (by simp; try omega) _) | (refine Below.setCell ?_ (by simp; try omega) _)))⟩
theorem szSymbolS_any (A : Option Addr) (ys : List YD) (c : Nat) (left : Int) (w : World) (h0 : 0 ≤ left) (h1 : left ≤ 1048576) (hr : Rd w w.heap.size A (cellsOf symbolC ys)) (hn : ys.length ≤ maxLen) (hl : ∀ p ∈ ys, p.1.size ≤ maxLen) :
    Calls Tryz.prog 30 #[.slice A ys.length c, .int .i64 left] w fun e w' => (∃ r, e = .returned (.int .i64 r) ∧ (r = -1 ∨ 0 ≤ r ∧ r ≤ left ∧ r + ys.length + toty ys = left)) ∧ Below w.heap.size w w' := by
  have hn' := hn
  unfold maxLen at hn'
  by_cases hf : left - ys.length < 0
  · go_enter Tryz.func30, Tryz.ntmps30
    clear hr
    go_wp2
    go_ret
    exact ⟨⟨_, rfl, .inl rfl⟩, Below.refl _ _⟩
  · go_enter Tryz.func30, Tryz.ntmps30
    have HR := hide hr
    clear hr
    go_wp2
    go_loopw [1, 5] (fun l i wr => ∃ (k : Nat) (x : Int), k ≤ ys.length ∧ i = .int .i64 k ∧ l = .int .i64 x ∧ 0 ≤ x ∧ x + (ys.length + (toty ys - toty (ys.drop k))) = left ∧ Below w.heap.size w wr) (fun _ i _ => ys.length - (intOf i).toNat)
    case atStart => exact ⟨0, left - ys.length, Nat.zero_le _, rfl, by go_num, by omega, by rw [List.drop_zero]; omega, Below.refl _ _⟩
    case round =>
      obtain ⟨k, x, hk, rfl, rfl, hx0, hx1, hb⟩ := hrel
      have HB := hide hb
      have hx2 : x ≤ left := by
        have := toty_drop_le ys k
        omega
      by_cases hlt : k < ys.length
      · obtain ⟨b, off, rfl, _, hc⟩ := (HR.out.below hb).row symbolC_len (by decide) hlt
        have hc0 := hc 0 _ rfl
        have hc1 := hc 1 _ rfl
        have hc2 := hc 2 _ rfl
        have hc3 := hc 3 _ rfl
        simp only [Nat.add_zero] at hc0
        have HT := hide (toty_drop hlt)
        have HX := hide hx1
        have HM := hide (hl _ (List.getElem_mem hlt))
        clear hc hb hx1
        generalize ys[k] = p at *
        by_cases hs : x - p.1.size < 0
        · have HZ := hide (szJ_neg hs)
          go_wp2_with fail
          refine (szSymbol_any p x _ HM.out hx0 (by omega)).mono ?_
          rintro e w2 ⟨rfl, hb2⟩
          rw [HZ.out]
          have HB' := hide (HB.out.trans (hb2.mono HB.out.size))
          clear hb2
          go_wp2_with fail
          go_ret
          exact ⟨⟨_, rfl, .inl rfl⟩, HB'.out⟩
        · have HZ := hide (szJ_pos hs)
          go_wp2_with fail
          refine (szSymbol_any p x _ HM.out hx0 (by omega)).mono ?_
          rintro e w2 ⟨rfl, hb2⟩
          rw [HZ.out]
          have HB' := hide (HB.out.trans (hb2.mono HB.out.size))
          clear hb2
          go_wp2_with fail
          go_roundw
          case rel => exact ⟨k + 1, x - p.1.size, by omega, by go_num, rfl, by omega, (by have h1 := HT.out; have h2 := HX.out; omega), HB'.out⟩
          case measure => simp [intOf]; omega
      · have hE : 0 ≤ x ∧ x ≤ left ∧ x + ys.length + toty ys = left := by
          have e : k = ys.length := by omega
          subst e
          rw [List.drop_length] at hx1
          simp only [toty] at hx1
          omega
        have HE := hide hE
        clear hE hx1 hb
        go_wp2_with fail
        go_ret
        exact ⟨⟨_, rfl, .inr HE.out⟩, HB.out⟩
end Go.Proofs.YtmglgjchemecjaaGreat.CObject
/- Contracts of the laws' helpers on Object: the size, the marks. -/
namespace Go.Proofs.YtmglgjchemecjaaGreat.CObject2
set_option maxRecDepth 200000
open Go.ChangeShapes Go.WideShapes Go.ChangeAt Go.RowKit Kit CFixups CSymbols PObj BObj CSection CSections CMarkText CSymMarks CMarkRows CSecMarks CSecHeld CObject
/-- What all sizes sum up to. -/
def sum (o : OV) : Int := o.ps.length + tot (o.ps.map SV.d) + o.ys.length + toty o.ys
theorem sum_lim {o : OV} (h : sum o ≤ 1048576) : LimO o ∧ (∀ p ∈ o.ps, p.nm.size ≤ 1048576) ∧ (∀ y ∈ o.ys, y.1.size ≤ 1048576) := by
  unfold sum at h
  have h1 := tot_nonneg (o.ps.map SV.d)
  have h2 := toty_nonneg o.ys
  have h3 : ∀ p ∈ o.ps, wt p.d ≤ 1048576 := fun p hp => by
    have := tot_mem (o.ps.map SV.d) p.d (List.mem_map_of_mem hp)
    omega
  refine ⟨⟨by omega, by omega, fun p hp => ?_⟩, fun p hp => ?_, fun y hy => ?_⟩
  · have := h3 p hp
    simp only [wt, SV.d] at this
    unfold Lim
    omega
  · have := h3 p hp
    simp only [wt, SV.d] at this
    omega
  · have := toty_mem o.ys y hy
    omega
theorem wds_le : ∀ ps : List SV, wds ps ≤ 4 * ps.length + 4 * tot (ps.map SV.d)
  | [] => by simp [wds, tot]
  | p :: ps => by
    have := wds_le ps
    simp only [wds, wd, List.map_cons, tot, wt, SV.d, List.length_cons] at this ⊢
    omega
theorem sum_wds {o : OV} (h : sum o ≤ 1048576) : wds o.ps + 4 * o.ys.length ≤ 4294967295 := by
  have := wds_le o.ps
  have := toty_nonneg o.ys
  unfold sum at h
  omega
theorem szObject_any (o : OV) (w : World) (hr : RdO w w.heap.size o) (h1 : o.ps.length ≤ maxLen) (h2 : o.ys.length ≤ maxLen) (h3 : ∀ p ∈ o.ps, p.nm.size ≤ maxLen ∧ p.zs.length ≤ maxLen ∧ p.fs.length ≤ maxLen) (h4 : ∀ y ∈ o.ys, y.1.size ≤ maxLen) :
    Calls Tryz.prog 6 #[.agg #[.slice o.A o.ps.length o.c, .slice o.Y o.ys.length o.yc], .int .i64 1048576] w fun e w' => (∃ r, e = .returned (.int .i64 r) ∧ (r = -1 ∨ 0 ≤ r ∧ sum o ≤ 1048576)) ∧ Below w.heap.size w w' := by
  obtain ⟨A, c, ps, Y, yc, ys⟩ := o
  simp only [sum] at h1 h2 h3 h4 ⊢
  have HR := hide hr
  have HL := hide (And.intro h1 (And.intro h2 (And.intro h3 h4)))
  clear hr h1 h2 h3 h4
  have B0 : Below w.heap.size w (w.alloc (.cells #[.slice A ps.length c, .slice Y ys.length yc] 25)) := (by repeat (first | exact Below.refl _ _ | with_reducible assumption | (refine Below.drew ?_) | (refine Below.drewN ?_ _) | (refine Below.alloc ?_ (by simp; try omega) _) | (refine Below.setCell ?_ (by simp; try omega) _)))
  have X0 := Box.new w 25 #[.slice A ps.length c, .slice Y ys.length yc]
  have HB := hide B0
  clear B0
  go_enter Tryz.func6, Tryz.ntmps6
  go_wp2_with fail
  generalize w.alloc (.cells #[.slice A ps.length c, .slice Y ys.length yc] 25) = w0 at *
  refine (szSectionS_any A ps c 1048576 w0 (by omega) (by omega) ((HR.out.1.1.below HB.out).more HB.out.size) HL.out.1 HL.out.2.2.1).mono ?_
  rintro e w1 ⟨⟨r, rfl, hr⟩, b1⟩
  have HB1 := hide (HB.out.trans (b1.mono HB.out.size))
  have X1 := X0.call b1
  have x1 := X1.cell 1
  simp only [List.getElem?_toArray, List.getElem?_cons_zero, List.getElem?_cons_succ] at x1
  clear b1 X0 X1 HB
  rcases hr with rfl | ⟨hr0, hr1, hr2⟩
  · go_wp2_with fail
    go_ret
    exact ⟨⟨_, rfl, .inl rfl⟩, HB1.out⟩
  · have HS := hide hr2
    clear hr2
    go_wp2_with fail
    refine (szSymbolS_any Y ys yc r w1 hr0 hr1 ((HR.out.2.below HB1.out).more HB1.out.size) HL.out.2.1 HL.out.2.2.2).mono ?_
    rintro e w2 ⟨⟨q, rfl, hq⟩, b2⟩
    have HB2 := hide (HB1.out.trans (b2.mono HB1.out.size))
    clear b2
    rcases hq with rfl | ⟨hq0, hq1, hq2⟩
    · go_wp2_with fail
      go_ret
      exact ⟨⟨_, rfl, .inl rfl⟩, HB2.out⟩
    · have HT := hide (show (ps.length : Int) + tot (ps.map SV.d) + ys.length + toty ys ≤ 1048576 by have := HS.out; omega)
      clear hq2
      go_wp2_with fail
      go_ret
      exact ⟨⟨q, rfl, .inr ⟨hq0, HT.out⟩⟩, HB2.out⟩
/-- An object behind its marks. -/
def mO (k : Int) (o : OV) : OV := { o with ps := mSs k o.ps, ys := ymarks (k + wds o.ps) o.ys.length }
theorem ssblk_mSs {A : Option Addr} {c : Nat} {k : Int} {ps : List SV} {j : Nat} (h : ssblk A c (mSs k ps) j) : ssblk A c ps j := by
  rcases h with h | ⟨x, hx, h⟩
  · exact .inl h
  · obtain ⟨q, hq, k', rfl⟩ := mSs_mem hx
    exact .inr ⟨q, hq, h⟩
theorem oblk_mO {k : Int} {o : OV} {j : Nat} (h : oblk (mO k o) j) : oblk o j := h.imp ssblk_mSs id
/-- The row of symbols lies apart from the sections. -/
theorem own_apart {w : World} {base : Nat} {o : OV} (h : OwnO w base o) : ∀ k, blk o.Y o.yc = some k → ¬ ssblk o.A o.c o.ps k := by
  rintro k hk (h' | ⟨p, hp, h' | h'⟩)
  · exact apartT h.2 h.1.1 (by decide) k hk h'
  · exact apartT h.2 (h.1.2.1 p hp).1 (by decide) k hk h'
  · exact apartT h.2 (h.1.2.1 p hp).2 (by decide) k hk h'
end Go.Proofs.YtmglgjchemecjaaGreat.CObject2
/- Contracts of hasArg, CodeValid (the program's and the reference's) and of the mirror of Code. -/
namespace Go.Proofs.YtmglgjchemecjaaGreat.CCode
set_option maxRecDepth 200000
open Go.ChangeShapes Go.WideShapes Go.ChangeAt Go.RowKit Kit
def codeOk (a b : Int) : Bool := decide (0 ≤ a ∧ a ≤ 7 ∧ 0 ≤ b ∧ b ≤ 65535 ∧ (b = 0 ∨ a = 1 ∨ a = 4 ∨ a = 5 ∨ a = 6))
def hasArgB (a : Int) : Bool := decide (a = 1 ∨ a = 4 ∨ a = 5 ∨ a = 6)
def inB (n lo hi : Int) : Bool := decide (lo ≤ n ∧ n ≤ hi)
theorem inB_t {n lo hi : Int} (h : lo ≤ n ∧ n ≤ hi) : inB n lo hi = true := decide_eq_true h
theorem inB_f {n lo hi : Int} (h : ¬ (lo ≤ n ∧ n ≤ hi)) : inB n lo hi = false := decide_eq_false h
theorem within_any (n lo hi : Int) (w : World) : Calls Tryz.prog 114 #[.int .i64 n, .int .i64 lo, .int .i64 hi] w (Pure (.bool (inB n lo hi)) w) := by
  by_cases h1 : lo ≤ n
  · by_cases h2 : n ≤ hi
    all_goals
      go_enter Tryz.func114, Tryz.ntmps114
      go_wp2
      go_ret
      exact ⟨ret_bool (by simp [inB, h1, h2]), rfl⟩
  · go_enter Tryz.func114, Tryz.ntmps114
    go_wp2
    go_ret
    exact ⟨ret_bool (inB_f (by omega)).symm, rfl⟩
theorem l1In_any (n lo hi : Int) (w : World) : Calls Tryz.prog 110 #[.int .i64 n, .int .i64 lo, .int .i64 hi] w (Pure (.bool (inB n lo hi)) w) := by
  by_cases h1 : lo ≤ n
  · by_cases h2 : n ≤ hi
    all_goals
      go_enter Tryz.func110, Tryz.ntmps110
      go_wp2
      go_ret
      exact ⟨ret_bool (by simp [inB, h1, h2]), rfl⟩
  · go_enter Tryz.func110, Tryz.ntmps110
    go_wp2
    go_ret
    exact ⟨ret_bool (inB_f (by omega)).symm, rfl⟩
end Go.Proofs.YtmglgjchemecjaaGreat.CCode
/- Names that are valid: the program's and the reference's test. -/
namespace Go.Proofs.YtmglgjchemecjaaGreat.CName
set_option maxRecDepth 200000
open Go.ChangeShapes Go.WideShapes Go.ChangeAt Go.RowKit Kit CCode
/-- The byte c may stand at place k of a name. -/
def chOk (k : Nat) (x : Int) : Bool := decide (97 ≤ x ∧ x ≤ 122) || decide (x = 95) || decide (x = 46) || (decide (0 < k) && decide (48 ≤ x ∧ x ≤ 57))
def allOk (s : ByteArray) : Bool := (List.range s.size).all fun k => chOk k (s.data.toList.getD k 0).toNat
def nameOk (s : ByteArray) : Bool := allOk s && inB s.size 1 8
theorem all_false {s : ByteArray} {k : Nat} (h : k < s.size) (hc : chOk k (s.data.toList.getD k 0).toNat = false) : nameOk s = false := by
  rw [nameOk, allOk, List.all_eq_false.2 ⟨k, List.mem_range.2 h, by rw [hc]; decide⟩]
  rfl
theorem all_true {s : ByteArray} (h : ∀ k, k < s.size → chOk k (s.data.toList.getD k 0).toNat = true) : nameOk s = inB s.size 1 8 := by
  rw [nameOk, allOk, List.all_eq_true.2 (fun k hk => h k (List.mem_range.1 hk)), Bool.true_and]
theorem get_at (s : ByteArray) (k : Nat) (h : k < s.size) : s.data.toList.getD k 0 = s[k]'h := by
  obtain ⟨x⟩ := s
  show x.toList.getD k 0 = x[k]
  rw [List.getD_eq_getElem?_getD, Array.getElem?_toList, Array.getElem?_eq_getElem h]
  rfl
theorem classes (x : Int) : x < 46 ∨ x = 46 ∨ x = 47 ∨ (48 ≤ x ∧ x ≤ 57) ∨ (57 < x ∧ x < 95) ∨ x = 95 ∨ x = 96 ∨ (97 ≤ x ∧ x ≤ 122) ∨ 122 < x := by omega
set_option maxHeartbeats 4000000 in
theorem nameValid_any (s : ByteArray) (hs : s.size ≤ maxLen) (w : World) : Calls Tryz.prog 121 #[.string s] w (Pure (.bool (nameOk s)) w) := by
  unfold maxLen at hs
  go_enter Tryz.func121, Tryz.ntmps121
  go_wp2_with fail
  go_loop [6] (fun i => ∃ k : Nat, k ≤ s.size ∧ i = .int .i64 k ∧ ∀ j, j < k → chOk j (s.data.toList.getD j 0).toNat = true) (fun i => s.size - (intOf i).toNat)
  case atStart => exact ⟨0, Nat.zero_le _, rfl, fun j hj => absurd hj (Nat.not_lt_zero j)⟩
  case round =>
    obtain ⟨k, hk, rfl, hok⟩ := hrel
    have HO := hide hok
    clear hok
    by_cases hlt : k < s.size
    · have hg := get_at s k hlt
      have HN := hide (fun (h : chOk k (s[k]'hlt).toNat = true) => (show ∀ j, j < k + 1 → chOk j (s.data.toList.getD j 0).toNat = true from fun j hj => by
        rcases Nat.lt_or_ge j k with h' | h'
        · exact HO.out j h'
        · obtain rfl : j = k := by omega
          rw [hg]; exact h))
      have HF := hide (fun (h : chOk k (s[k]'hlt).toNat = false) => all_false hlt (by rw [hg]; exact h))
      have hx0 : (0 : Int) ≤ (s[k]'hlt).toNat := by omega
      clear HO hg
      go_wp2_with fail
      all_goals (try simp only [Bool.not_eq_false', Bool.not_eq_true', decide_eq_true_eq, decide_eq_false_iff_not, beq_iff_eq, beq_eq_false_iff_ne, ne_eq, Bool.not_not] at *)
      all_goals first
        | (refine ⟨⟨k + 1, by omega, by go_num, HN.out ?_⟩, by simp [intOf]; omega⟩
           simp only [chOk, Bool.or_eq_true, Bool.and_eq_true, decide_eq_true_eq]
           omega)
        | (have hF := HF.out (by rw [← Bool.not_eq_true]; simp only [chOk, Bool.or_eq_true, Bool.and_eq_true, decide_eq_true_eq]; omega)
           rw [hF]
           go_ret
           exact ⟨rfl, rfl⟩)
        | (exfalso; omega)
    · have HV := hide (all_true (s := s) (fun j hj => HO.out j (by omega)))
      clear HO
      go_wp2_with fail
      refine (within_any _ _ _ _).mono ?_
      rintro e w' ⟨rfl, rfl⟩
      rw [← HV.out]
      go_wp2_with fail
      go_ret
      exact ⟨rfl, rfl⟩
set_option maxHeartbeats 4000000 in
theorem nameValidS_any (s : ByteArray) (hs : s.size ≤ maxLen) (w : World) : Calls Tryz.prog 109 #[.string s] w (Pure (.bool (nameOk s)) w) := by
  unfold maxLen at hs
  go_enter Tryz.func109, Tryz.ntmps109
  go_wp2_with fail
  go_loop [3] (fun i => ∃ k : Nat, k ≤ s.size ∧ i = .int .i64 k ∧ ∀ j, j < k → chOk j (s.data.toList.getD j 0).toNat = true) (fun i => s.size - (intOf i).toNat)
  case atStart => exact ⟨0, Nat.zero_le _, rfl, fun j hj => absurd hj (Nat.not_lt_zero j)⟩
  case round =>
    obtain ⟨k, hk, rfl, hok⟩ := hrel
    have HO := hide hok
    clear hok
    by_cases hlt : k < s.size
    · have hg := get_at s k hlt
      have HN := hide (fun (h : chOk k (s[k]'hlt).toNat = true) => (show ∀ j, j < k + 1 → chOk j (s.data.toList.getD j 0).toNat = true from fun j hj => by
        rcases Nat.lt_or_ge j k with h' | h'
        · exact HO.out j h'
        · obtain rfl : j = k := by omega
          rw [hg]; exact h))
      have HF := hide (fun (h : chOk k (s[k]'hlt).toNat = false) => all_false hlt (by rw [hg]; exact h))
      have hx0 : (0 : Int) ≤ (s[k]'hlt).toNat := by omega
      clear HO hg
      go_wp2_with fail
      all_goals (try simp only [Bool.not_eq_false', Bool.not_eq_true', decide_eq_true_eq, decide_eq_false_iff_not, beq_iff_eq, beq_eq_false_iff_ne, ne_eq, Bool.not_not] at *)
      all_goals first
        | (refine ⟨⟨k + 1, by omega, by go_num, HN.out ?_⟩, by simp [intOf]; omega⟩
           simp only [chOk, Bool.or_eq_true, Bool.and_eq_true, decide_eq_true_eq]
           omega)
        | (have hF := HF.out (by rw [← Bool.not_eq_true]; simp only [chOk, Bool.or_eq_true, Bool.and_eq_true, decide_eq_true_eq]; omega)
           rw [hF]
           go_ret
           exact ⟨rfl, rfl⟩)
        | (exfalso; omega)
        | (exfalso
           have h48 : ((s[k]'hlt).toNat : Int) < 48 := by omega
           rename_i hq hw hb _ _ 
           simp_all)
    · have HV := hide (all_true (s := s) (fun j hj => HO.out j (by omega)))
      clear HO
      go_wp2_with fail
      refine (l1In_any _ _ _ _).mono ?_
      rintro e w' ⟨rfl, rfl⟩
      rw [← HV.out]
      go_wp2_with fail
      go_ret
      exact ⟨rfl, rfl⟩
end Go.Proofs.YtmglgjchemecjaaGreat.CName
/- When sections, symbols and objects are valid; plain. -/
namespace Go.Proofs.YtmglgjchemecjaaGreat.PValid
set_option maxRecDepth 200000
open Go.ChangeShapes Go.WideShapes Go.ChangeAt Go.RowKit Kit CCode CName PObj
def wide (k : Int) : Int := if k = 1 then 1 else if k = 2 then 2 else if k = 3 then 4 else 0
theorem wide_bd (k : Int) : 0 ≤ wide k ∧ wide k ≤ 4 := by
  unfold wide
  split
  · omega
  · split
    · omega
    · split <;> omega
def alignOk (n : Int) : Bool := decide (n = 1) || decide (n = 2) || decide (n = 4) || decide (n = 8)
def fixOk (many : Int) (n : Nat) (e : Int) (f : FD) : Bool := !decide (wide f.2.1 = 0) && !decide (f.2.2.1 < 0) && !decide (many ≤ f.2.2.1) && inB f.2.2.2 (-1000) 1000 && inB f.1 e (n - wide f.2.1)
def fixesOk (many : Int) (n : Nat) : Int → List FD → Bool
  | _, [] => true
  | e, f :: fs => fixOk many n e f && fixesOk many n (f.1 + wide f.2.1) fs
def headOk (d : SD) : Bool := nameOk d.nm && inB d.kd 1 3 && alignOk d.al
def blankOk (d : SD) : Bool := inB d.sz 0 48 && decide (d.zs.length = 0) && decide (d.fs.length = 0)
def bodyOk (many : Int) (d : SD) : Bool := decide (d.sz = 0) && decide (d.zs.length ≤ 48) && decide (d.fs.length ≤ 6) && fixesOk many d.zs.length 0 d.fs
def secOk (many : Int) (d : SD) : Bool := headOk d && (if d.kd = 3 then blankOk d else bodyOk many d)
def secSize (d : SD) : Int := if d.kd = 3 then d.sz else d.zs.length
theorem fixes_drop {many : Int} {n : Nat} {e : Int} {fs : List FD} {k : Nat} (h : k < fs.length) : fixesOk many n e (fs.drop k) = (fixOk many n e fs[k] && fixesOk many n (fs[k].1 + wide fs[k].2.1) (fs.drop (k + 1))) := by
  rw [List.drop_eq_getElem_cons h]
  rfl
theorem fixOk_iff {many : Int} {n : Nat} {e : Int} {f : FD} : fixOk many n e f = true ↔ wide f.2.1 ≠ 0 ∧ 0 ≤ f.2.2.1 ∧ f.2.2.1 < many ∧ (-1000 ≤ f.2.2.2 ∧ f.2.2.2 ≤ 1000) ∧ (e ≤ f.1 ∧ f.1 ≤ n - wide f.2.1) := by
  simp only [fixOk, inB, Bool.and_eq_true, Bool.not_eq_true', decide_eq_false_iff_not, decide_eq_true_eq]
  omega
def bindOk (y : YD) : Bool := nameOk y.1 && inB y.2.1 0 2
def placeOk (ss : List SD) (y : YD) : Bool :=
  if y.2.2.1 = -1 then decide (y.2.2.2 = 0) && !decide (y.2.1 = 0)
  else if y.2.2.1 = -2 then inB y.2.2.2 0 60000
  else inB y.2.2.1 0 (ss.length - 1) && inB y.2.2.2 0 (secSize (ss.getD y.2.2.1.toNat ⟨ByteArray.empty, 0, 0, [], 0, []⟩))
def symOk (ss : List SD) (y : YD) : Bool := bindOk y && placeOk ss y
/-- A symbol whose name is given again. -/
def clash (ys : List YD) (y : YD) : Bool := !decide (y.2.1 = 0) && ys.any fun x => !decide (x.2.1 = 0) && decide (x.1 = y.1)
def symsOk (ss : List SD) (ys : List YD) : Bool := (List.range ys.length).all fun k => symOk ss (ys.getD k (ByteArray.empty, 0, 0, 0)) && !clash (ys.take k) (ys.getD k (ByteArray.empty, 0, 0, 0))
def objOk (o : OD) : Bool := decide (o.ss.length ≤ 8) && decide (o.ys.length ≤ 12) && (o.ss.all fun d => secOk o.ys.length d) && symsOk o.ss o.ys
end Go.Proofs.YtmglgjchemecjaaGreat.PValid
/- The program's and the reference's SectionValid, and what they call. -/
namespace Go.Proofs.YtmglgjchemecjaaGreat.CSecValid
set_option maxRecDepth 200000
open Go.ChangeShapes Go.WideShapes Go.ChangeAt Go.RowKit Kit CCode CName CFixups CSymbols PObj BObj PValid
theorem isAlign_any (n : Int) (w : World) : Calls Tryz.prog 113 #[.int .i64 n] w (Pure (.bool (alignOk n)) w) := by
  by_cases h1 : n = 1
  · subst h1
    go_enter Tryz.func113, Tryz.ntmps113
    go_wp2
    go_ret
    exact ⟨rfl, rfl⟩
  by_cases h2 : n = 2
  · subst h2
    go_enter Tryz.func113, Tryz.ntmps113
    go_wp2
    go_ret
    exact ⟨rfl, rfl⟩
  by_cases h4 : n = 4
  · subst h4
    go_enter Tryz.func113, Tryz.ntmps113
    go_wp2
    go_ret
    exact ⟨rfl, rfl⟩
  by_cases h8 : n = 8
  · subst h8
    go_enter Tryz.func113, Tryz.ntmps113
    go_wp2
    go_ret
    exact ⟨rfl, rfl⟩
  have hv : alignOk n = false := by simp [alignOk, h1, h2, h4, h8]
  rw [hv]
  have e1 : (n == 1) = false := beq_eq_false_iff_ne.2 h1
  have e2 : (n == 2) = false := beq_eq_false_iff_ne.2 h2
  have e4 : (n == 4) = false := beq_eq_false_iff_ne.2 h4
  have e8 : (n == 8) = false := beq_eq_false_iff_ne.2 h8
  go_enter Tryz.func113, Tryz.ntmps113
  go_wp2
  go_ret
  exact ⟨rfl, rfl⟩
theorem alignUp0_any (n : Int) (w : World) : Calls Tryz.prog 111 #[.int .i64 0, .int .i64 n] w (Pure (.int .i64 (bif alignOk n then 0 else -1)) w) := by
  by_cases h1 : n = 1
  · subst h1
    go_enter Tryz.func111, Tryz.ntmps111
    go_wp2_with (go_at_call 110; refine (l1In_any _ _ _ _).mono ?_; rintro e w' ⟨rfl, rfl⟩; rw [inB_t (by omega)])
    go_ret
    exact ⟨rfl, rfl⟩
  by_cases h2 : n = 2
  · subst h2
    go_enter Tryz.func111, Tryz.ntmps111
    go_wp2_with (go_at_call 110; refine (l1In_any _ _ _ _).mono ?_; rintro e w' ⟨rfl, rfl⟩; rw [inB_t (by omega)])
    go_ret
    exact ⟨rfl, rfl⟩
  by_cases h4 : n = 4
  · subst h4
    go_enter Tryz.func111, Tryz.ntmps111
    go_wp2_with (go_at_call 110; refine (l1In_any _ _ _ _).mono ?_; rintro e w' ⟨rfl, rfl⟩; rw [inB_t (by omega)])
    go_ret
    exact ⟨rfl, rfl⟩
  by_cases h8 : n = 8
  · subst h8
    go_enter Tryz.func111, Tryz.ntmps111
    go_wp2_with (go_at_call 110; refine (l1In_any _ _ _ _).mono ?_; rintro e w' ⟨rfl, rfl⟩; rw [inB_t (by omega)])
    go_ret
    exact ⟨rfl, rfl⟩
  have hv : alignOk n = false := by simp [alignOk, h1, h2, h4, h8]
  rw [hv]
  have e1 : (n == 1) = false := beq_eq_false_iff_ne.2 h1
  have e2 : (n == 2) = false := beq_eq_false_iff_ne.2 h2
  have e4 : (n == 4) = false := beq_eq_false_iff_ne.2 h4
  have e8 : (n == 8) = false := beq_eq_false_iff_ne.2 h8
  have b1 : (n != 1) = true := bne_iff_ne.2 h1
  have b2 : (n != 2) = true := bne_iff_ne.2 h2
  have b4 : (n != 4) = true := bne_iff_ne.2 h4
  have b8 : (n != 8) = true := bne_iff_ne.2 h8
  go_enter Tryz.func111, Tryz.ntmps111
  go_wp2_with (go_at_call 110; refine (l1In_any _ _ _ _).mono ?_; rintro e w' ⟨rfl, rfl⟩; rw [inB_t (by omega)])
  go_ret
  exact ⟨rfl, rfl⟩
theorem fixupWide_any (k : Int) (w : World) : Calls Tryz.prog 119 #[.int .i64 k] w (Pure (.int .i64 (wide k)) w) := by
  by_cases h1 : k = 1
  · subst h1
    go_enter Tryz.func119, Tryz.ntmps119
    go_wp2
    go_ret
    exact ⟨rfl, rfl⟩
  by_cases h2 : k = 2
  · subst h2
    go_enter Tryz.func119, Tryz.ntmps119
    go_wp2
    go_ret
    exact ⟨rfl, rfl⟩
  by_cases h3 : k = 3
  · subst h3
    go_enter Tryz.func119, Tryz.ntmps119
    go_wp2
    go_ret
    exact ⟨rfl, rfl⟩
  have hv : wide k = 0 := by simp [wide, h1, h2, h3]
  rw [hv]
  have e1 : (k == 1) = false := beq_eq_false_iff_ne.2 h1
  have e2 : (k == 2) = false := beq_eq_false_iff_ne.2 h2
  have e3 : (k == 3) = false := beq_eq_false_iff_ne.2 h3
  go_enter Tryz.func119, Tryz.ntmps119
  go_wp2
  go_ret
  exact ⟨rfl, rfl⟩
theorem fixupWideS_any (k : Int) (w : World) : Calls Tryz.prog 112 #[.int .i64 k] w (Ret (.int .i64 (wide k)) w) := by
  by_cases h1 : k = 1
  · subst h1
    go_enter Tryz.func112, Tryz.ntmps112
    go_wp2_with (go_at_call 110; refine (l1In_any _ _ _ _).mono ?_; rintro e w' ⟨rfl, rfl⟩; rw [inB_t (by omega)])
    go_ret
    exact ⟨rfl, (by repeat (first | exact Below.refl _ _ | with_reducible assumption | (refine Below.drew ?_) | (refine Below.drewN ?_ _) | (refine Below.alloc ?_ (by simp; try omega) _) | (refine Below.setCell ?_ (by simp; try omega) _)))⟩
  by_cases h2 : k = 2
  · subst h2
    go_enter Tryz.func112, Tryz.ntmps112
    go_wp2_with (go_at_call 110; refine (l1In_any _ _ _ _).mono ?_; rintro e w' ⟨rfl, rfl⟩; rw [inB_t (by omega)])
    go_ret
    exact ⟨rfl, (by repeat (first | exact Below.refl _ _ | with_reducible assumption | (refine Below.drew ?_) | (refine Below.drewN ?_ _) | (refine Below.alloc ?_ (by simp; try omega) _) | (refine Below.setCell ?_ (by simp; try omega) _)))⟩
  by_cases h3 : k = 3
  · subst h3
    go_enter Tryz.func112, Tryz.ntmps112
    go_wp2_with (go_at_call 110; refine (l1In_any _ _ _ _).mono ?_; rintro e w' ⟨rfl, rfl⟩; rw [inB_t (by omega)])
    go_ret
    exact ⟨rfl, (by repeat (first | exact Below.refl _ _ | with_reducible assumption | (refine Below.drew ?_) | (refine Below.drewN ?_ _) | (refine Below.alloc ?_ (by simp; try omega) _) | (refine Below.setCell ?_ (by simp; try omega) _)))⟩
  have hv : wide k = 0 := by simp [wide, h1, h2, h3]
  rw [hv]
  go_enter Tryz.func112, Tryz.ntmps112
  go_wp2_with (go_at_call 110; refine (l1In_any _ _ _ _).mono ?_; rintro e w' ⟨rfl, rfl⟩; rw [inB_f (by omega)])
  go_ret
  exact ⟨rfl, (by repeat (first | exact Below.refl _ _ | with_reducible assumption | (refine Below.drew ?_) | (refine Below.drewN ?_ _) | (refine Below.alloc ?_ (by simp; try omega) _) | (refine Below.setCell ?_ (by simp; try omega) _)))⟩
theorem isAdd_any (n : Int) (w : World) : Calls Tryz.prog 122 #[.int .i64 n] w (Pure (.bool (inB n (-1000) 1000)) w) := by
  go_enter Tryz.func122, Tryz.ntmps122
  go_wp2_with fail
  refine (within_any _ _ _ _).mono ?_
  rintro e w' ⟨rfl, rfl⟩
  go_wp2_with fail
  go_ret
  exact ⟨rfl, rfl⟩
theorem sectionSize_any (p : SV) (w : World) (hz : p.zs.length ≤ maxLen) : Calls Tryz.prog 96 #[.agg #[.string p.nm, .int .i64 p.kd, .int .i64 p.al, .slice p.A p.zs.length p.c, .int .i64 p.sz, .slice p.F p.fs.length p.fc]] w (Ret (.int .i64 (secSize p.d)) w) := by
  unfold maxLen at hz
  by_cases h : p.kd = 3
  · have hv : secSize p.d = p.sz := if_pos h
    rw [hv, h]
    go_enter Tryz.func96, Tryz.ntmps96
    go_wp2
    go_ret
    exact ⟨rfl, (by repeat (first | exact Below.refl _ _ | with_reducible assumption | (refine Below.drew ?_) | (refine Below.drewN ?_ _) | (refine Below.alloc ?_ (by simp; try omega) _) | (refine Below.setCell ?_ (by simp; try omega) _)))⟩
  · have hv : secSize p.d = p.zs.length := if_neg h
    rw [hv]
    have e1 : (p.kd == 3) = false := beq_eq_false_iff_ne.2 h
    go_enter Tryz.func96, Tryz.ntmps96
    go_wp2
    go_ret
    exact ⟨rfl, (by repeat (first | exact Below.refl _ _ | with_reducible assumption | (refine Below.drew ?_) | (refine Below.drewN ?_ _) | (refine Below.alloc ?_ (by simp; try omega) _) | (refine Below.setCell ?_ (by simp; try omega) _)))⟩
theorem sectionSizeS_any (p : SV) (w : World) (hz : p.zs.length ≤ maxLen) : Calls Tryz.prog 88 #[.agg #[.string p.nm, .int .i64 p.kd, .int .i64 p.al, .slice p.A p.zs.length p.c, .int .i64 p.sz, .slice p.F p.fs.length p.fc]] w (Ret (.int .i64 (secSize p.d)) w) := by
  unfold maxLen at hz
  by_cases h : p.kd = 3
  · have hv : secSize p.d = p.sz := if_pos h
    rw [hv, h]
    go_enter Tryz.func88, Tryz.ntmps88
    go_wp2
    go_ret
    exact ⟨rfl, (by repeat (first | exact Below.refl _ _ | with_reducible assumption | (refine Below.drew ?_) | (refine Below.drewN ?_ _) | (refine Below.alloc ?_ (by simp; try omega) _) | (refine Below.setCell ?_ (by simp; try omega) _)))⟩
  · have hv : secSize p.d = p.zs.length := if_neg h
    rw [hv]
    have e1 : (p.kd == 3) = false := beq_eq_false_iff_ne.2 h
    go_enter Tryz.func88, Tryz.ntmps88
    go_wp2
    go_ret
    exact ⟨rfl, (by repeat (first | exact Below.refl _ _ | with_reducible assumption | (refine Below.drew ?_) | (refine Below.drewN ?_ _) | (refine Below.alloc ?_ (by simp; try omega) _) | (refine Below.setCell ?_ (by simp; try omega) _)))⟩
end Go.Proofs.YtmglgjchemecjaaGreat.CSecValid
/- The program's SectionValid. -/
namespace Go.Proofs.YtmglgjchemecjaaGreat.CSecValid2
set_option maxRecDepth 200000
open Go.ChangeShapes Go.WideShapes Go.ChangeAt Go.RowKit Kit CCode CName CFixups CSymbols PObj BObj PValid CSecValid
theorem sec_head {many : Int} {d : SD} (h : headOk d = false) : secOk many d = false := by rw [secOk, h]; rfl
theorem sec_blank {many : Int} {d : SD} (h : headOk d = true) (hk : d.kd = 3) : secOk many d = blankOk d := by rw [secOk, h, if_pos hk]; rfl
theorem sec_body {many : Int} {d : SD} (h : headOk d = true) (hk : ¬ d.kd = 3) : secOk many d = bodyOk many d := by rw [secOk, h, if_neg hk]; rfl
theorem sectionValid_any (p : SV) (many : Int) (w : World) (hr : RdS w w.heap.size p) (h0 : p.nm.size ≤ maxLen) (h1 : p.zs.length ≤ 1048576) (h2 : p.fs.length ≤ 1048576) :
    Calls Tryz.prog 61 #[.agg #[.string p.nm, .int .i64 p.kd, .int .i64 p.al, .slice p.A p.zs.length p.c, .int .i64 p.sz, .slice p.F p.fs.length p.fc], .int .i64 many] w (Ret (.bool (secOk many p.d)) w) := by
  obtain ⟨nm, kd, al, A, c, zs, sz, F, fc, fs⟩ := p
  have HR := hide hr.2
  have H0 := hide h0
  simp only [SV.d] at h0 h1 h2 ⊢
  clear hr h0
  have B0 : Below w.heap.size w (w.alloc (.cells #[.string nm, .int .i64 kd, .int .i64 al, .slice A zs.length c, .int .i64 sz, .slice F fs.length fc] 77)) := (by repeat (first | exact Below.refl _ _ | with_reducible assumption | (refine Below.drew ?_) | (refine Below.drewN ?_ _) | (refine Below.alloc ?_ (by simp; try omega) _) | (refine Below.setCell ?_ (by simp; try omega) _)))
  have X0 := Box.new w 77 #[.string nm, .int .i64 kd, .int .i64 al, .slice A zs.length c, .int .i64 sz, .slice F fs.length fc]
  have HB := hide B0
  have x0 := X0.cell 0
  have x1 := X0.cell 1
  have x2 := X0.cell 2
  have x3 := X0.cell 3
  have x4 := X0.cell 4
  have x5 := X0.cell 5
  simp only [List.getElem?_toArray, List.getElem?_cons_zero, List.getElem?_cons_succ] at x0 x1 x2 x3 x4 x5
  clear B0
  go_enter Tryz.func61, Tryz.ntmps61
  go_wp2_with fail
  generalize w.alloc (.cells #[.string nm, .int .i64 kd, .int .i64 al, .slice A zs.length c, .int .i64 sz, .slice F fs.length fc] 77) = w0 at *
  refine (nameValid_any nm H0.out w0).mono ?_
  rintro e w' ⟨rfl, rfl⟩
  cases hn : nameOk nm
  · have HV := hide (sec_head (many := many) (d := ⟨nm, kd, al, zs, sz, fs⟩) (by simp [headOk, hn]))
    go_wp2_with fail
    go_ret
    exact ⟨by rw [HV.out]; rfl, HB.out⟩
  go_wp2_with fail
  refine (within_any _ _ _ _).mono ?_
  rintro e w' ⟨rfl, rfl⟩
  cases hk : inB kd 1 3
  · have HV := hide (sec_head (many := many) (d := ⟨nm, kd, al, zs, sz, fs⟩) (by simp [headOk, hk]))
    go_wp2_with fail
    go_ret
    exact ⟨by rw [HV.out]; rfl, HB.out⟩
  go_wp2_with fail
  refine (isAlign_any _ _).mono ?_
  rintro e w' ⟨rfl, rfl⟩
  cases ha : alignOk al
  · have HV := hide (sec_head (many := many) (d := ⟨nm, kd, al, zs, sz, fs⟩) (by simp [headOk, ha]))
    go_wp2_with fail
    go_ret
    exact ⟨by rw [HV.out]; rfl, HB.out⟩
  have hh : headOk ⟨nm, kd, al, zs, sz, fs⟩ = true := by simp [headOk, hn, hk, ha]
  by_cases hk3 : kd = 3
  · have HV := hide ((sec_blank (many := many) hh hk3).trans (show blankOk ⟨nm, kd, al, zs, sz, fs⟩ = (inB sz 0 48 && decide (zs.length = 0) && decide (fs.length = 0)) from rfl))
    clear hn hk ha hh
    have e3 : (kd == 3) = true := beq_iff_eq.2 hk3
    clear hk3
    go_wp2_with fail
    refine (within_any _ _ _ _).mono ?_
    rintro e w' ⟨rfl, rfl⟩
    cases hs : inB sz 0 48
    · rw [hs] at HV
      go_wp2_with fail
      go_ret
      exact ⟨by rw [HV.out]; rfl, HB.out⟩
    · rw [hs] at HV
      clear hs
      by_cases hz : zs.length = 0
      · have ez : ((zs.length : Int) == 0) = true := by rw [hz]; rfl
        rw [decide_eq_true hz] at HV
        by_cases hf : fs.length = 0
        · have ef : ((fs.length : Int) == 0) = true := by rw [hf]; rfl
          rw [decide_eq_true hf] at HV
          clear hz hf
          go_wp2_with fail
          go_ret
          exact ⟨by rw [HV.out]; rfl, HB.out⟩
        · have ef : ((fs.length : Int) == 0) = false := beq_eq_false_iff_ne.2 (by omega)
          rw [decide_eq_false hf] at HV
          clear hz hf
          go_wp2_with fail
          go_ret
          exact ⟨by rw [HV.out]; rfl, HB.out⟩
      · have ez : ((zs.length : Int) == 0) = false := beq_eq_false_iff_ne.2 (by omega)
        rw [decide_eq_false hz] at HV
        clear hz
        go_wp2_with fail
        go_ret
        exact ⟨by rw [HV.out]; simp, HB.out⟩
  have HV := hide ((sec_body (many := many) hh hk3).trans (show bodyOk many ⟨nm, kd, al, zs, sz, fs⟩ = (decide (sz = 0) && decide (zs.length ≤ 48) && decide (fs.length ≤ 6) && fixesOk many zs.length 0 fs) from rfl))
  have e3 : (kd == 3) = false := beq_eq_false_iff_ne.2 hk3
  clear hn hk ha hh hk3
  by_cases hs : sz = 0
  · have es : (sz != 0) = false := by rw [hs]; rfl
    rw [decide_eq_true hs] at HV
    by_cases hz : zs.length ≤ 48
    · have ez : decide ((48 : Int) < zs.length) = false := decide_eq_false (by omega)
      rw [decide_eq_true hz] at HV
      by_cases hf : fs.length ≤ 6
      · have ef : decide ((6 : Int) < fs.length) = false := decide_eq_false (by omega)
        rw [decide_eq_true hf] at HV
        have HV' := hide (HV.out.trans (show (true && true && true && fixesOk many zs.length 0 fs) = fixesOk many zs.length 0 fs by simp))
        clear HV hs
        go_wp2_with fail
        clear x0 x1 x2 x4 e3 es ez ef
        go_loopw [5, 61] (fun en ix wi => ∃ (k : Nat) (e : Int), k ≤ fs.length ∧ ix = .int .i64 k ∧ en = .int .i64 e ∧ 0 ≤ e ∧ e ≤ 48 ∧ fixesOk many zs.length 0 fs = fixesOk many zs.length e (fs.drop k) ∧ Box wi w.heap.size 77 #[.string nm, .int .i64 kd, .int .i64 al, .slice A zs.length c, .int .i64 sz, .slice F fs.length fc] ∧ Below w.heap.size w wi) (fun _ ix _ => fs.length - (intOf ix).toNat)
        case atStart => exact ⟨0, 0, Nat.zero_le _, rfl, rfl, by omega, by omega, rfl, X0, HB.out⟩
        case round =>
          obtain ⟨k, e, hk, rfl, rfl, he0, he1, hfx, hbx, hb⟩ := hrel
          have HBX := hide hbx
          have HBI := hide hb
          clear X0 HB x3 x5
          by_cases hlt : k < fs.length
          · obtain ⟨b, off, rfl, hbg, hc⟩ := (HR.out.below hb).row fixupC_len (by decide) hlt
            have hc0 := hc 0 _ rfl
            have hc1 := hc 1 _ rfl
            have hc2 := hc 2 _ rfl
            have hc3 := hc 3 _ rfl
            simp only [Nat.add_zero] at hc0
            have HFX := hide (hfx.trans (fixes_drop hlt))
            have HIF := hide (fixOk_iff (many := many) (n := zs.length) (e := e) (f := fs[k]))
            clear hfx hc hbx hb
            generalize fs[k] = f at *
            go_wp2_with fail
            have X1 := HBX.out.alloc (.cells #[.int .i64 f.1, .int .i64 f.2.1, .int .i64 f.2.2.1, .int .i64 f.2.2.2] 80)
            have Z1 := Box.new wr 80 #[.int .i64 f.1, .int .i64 f.2.1, .int .i64 f.2.2.1, .int .i64 f.2.2.2]
            have HB1 := hide (HBI.out.alloc HBI.out.size (.cells #[.int .i64 f.1, .int .i64 f.2.1, .int .i64 f.2.2.1, .int .i64 f.2.2.2] 80))
            generalize wr.alloc (.cells #[.int .i64 f.1, .int .i64 f.2.1, .int .i64 f.2.2.1, .int .i64 f.2.2.2] 80) = w1 at *
            generalize wr.heap.size = X at *
            have z0 := Z1.cell 0
            have z1 := Z1.cell 1
            have z2 := Z1.cell 2
            have z3 := Z1.cell 3
            have x3 := X1.cell 3
            simp only [List.getElem?_toArray, List.getElem?_cons_zero, List.getElem?_cons_succ] at z0 z1 z2 z3 x3
            have HX1 := hide X1
            clear HBX HBI X1 Z1 hc0 hc1 hc2 hc3
            refine (fixupWide_any _ _).mono ?_
            rintro e' w' ⟨rfl, rfl⟩
            have hwd := wide_bd f.2.1
            generalize hwg : wide f.2.1 = wd at *
            have HWG := hide hwg
            clear hwg
            by_cases g1 : wd = 0
            · have HN := hide (show fixOk many zs.length e f = false by rw [← Bool.not_eq_true, HIF.out]; omega)
              have e1 : (wd == 0) = true := beq_iff_eq.2 g1
              clear HIF g1 hwd
              go_wp2_with fail
              go_ret
              exact ⟨by rw [HV'.out, HFX.out, HN.out]; rfl, HB1.out⟩
            have e1 : (wd == 0) = false := beq_eq_false_iff_ne.2 g1
            by_cases g2 : f.2.2.1 < 0
            · have HN := hide (show fixOk many zs.length e f = false by rw [← Bool.not_eq_true, HIF.out]; omega)
              clear HIF g1
              go_wp2_with fail
              go_ret
              exact ⟨by rw [HV'.out, HFX.out, HN.out]; rfl, HB1.out⟩
            have e2 : decide (f.2.2.1 < 0) = false := decide_eq_false g2
            by_cases g3 : many ≤ f.2.2.1
            · have HN := hide (show fixOk many zs.length e f = false by rw [← Bool.not_eq_true, HIF.out]; omega)
              clear HIF g1 g2
              go_wp2_with fail
              go_ret
              exact ⟨by rw [HV'.out, HFX.out, HN.out]; rfl, HB1.out⟩
            have e3 : decide (many ≤ f.2.2.1) = false := decide_eq_false g3
            go_wp2_with fail
            refine (isAdd_any _ _).mono ?_
            rintro e' w' ⟨rfl, rfl⟩
            by_cases g4 : -1000 ≤ f.2.2.2 ∧ f.2.2.2 ≤ 1000
            · rw [inB_t g4]
              go_wp2_with fail
              refine (within_any _ _ _ _).mono ?_
              rintro e' w' ⟨rfl, rfl⟩
              by_cases g5 : e ≤ f.1 ∧ f.1 ≤ zs.length - wd
              · rw [inB_t g5]
                have HY := hide (show fixOk many zs.length e f = true by rw [HIF.out]; omega)
                have HS := hide (show fixesOk many zs.length 0 fs = fixesOk many zs.length (f.1 + wd) (fs.drop (k + 1)) by rw [HFX.out, HY.out]; rfl)
                have hbd : 0 ≤ f.1 + wd ∧ f.1 + wd ≤ 48 := by omega
                clear HIF g1 g2 g3 g4 HFX HY
                go_wp2_with fail
                refine ⟨⟨k + 1, f.1 + wd, by omega, by go_num, rfl, hbd.1, hbd.2, HS.out, HX1.out, HB1.out⟩, by simp [intOf]; omega⟩
              · rw [inB_f g5]
                have HN := hide (show fixOk many zs.length e f = false by rw [← Bool.not_eq_true, HIF.out]; omega)
                clear HIF g1 g2 g3 g4 g5
                go_wp2_with fail
                go_ret
                exact ⟨by rw [HV'.out, HFX.out, HN.out]; rfl, HB1.out⟩
            · rw [inB_f g4]
              have HN := hide (show fixOk many zs.length e f = false by rw [← Bool.not_eq_true, HIF.out]; omega)
              clear HIF g1 g2 g3 g4
              go_wp2_with fail
              go_ret
              exact ⟨by rw [HV'.out, HFX.out, HN.out]; rfl, HB1.out⟩
          · have hE : fixesOk many zs.length 0 fs = true := by
              rw [hfx, List.drop_of_length_le (by omega)]
              rfl
            have HE := hide hE
            clear hE hfx hbx hb
            go_wp2_with fail
            go_ret
            exact ⟨by rw [HV'.out, HE.out]; rfl, HBI.out⟩
      · have ef : decide ((6 : Int) < fs.length) = true := decide_eq_true (by omega)
        rw [decide_eq_false hf] at HV
        clear hs hz hf
        go_wp2_with fail
        go_ret
        exact ⟨by rw [HV.out]; simp, HB.out⟩
    · have ez : decide ((48 : Int) < zs.length) = true := decide_eq_true (by omega)
      rw [decide_eq_false hz] at HV
      clear hs hz
      go_wp2_with fail
      go_ret
      exact ⟨by rw [HV.out]; simp, HB.out⟩
  · have es : (sz != 0) = true := bne_iff_ne.2 hs
    rw [decide_eq_false hs] at HV
    clear hs
    go_wp2_with fail
    go_ret
    exact ⟨by rw [HV.out]; simp, HB.out⟩
end Go.Proofs.YtmglgjchemecjaaGreat.CSecValid2
/- The reference's SectionValid. -/
namespace Go.Proofs.YtmglgjchemecjaaGreat.CSecValid3
set_option maxRecDepth 200000
open Go.ChangeShapes Go.WideShapes Go.ChangeAt Go.RowKit Kit CCode CName CFixups CSymbols PObj BObj PValid CSecValid CSecValid2
theorem sec_big {many : Int} {d : SD} (h : ¬ d.zs.length ≤ 48 ∨ ¬ d.fs.length ≤ 6 ∨ inB d.sz 0 48 = false) : secOk many d = false := by
  rw [← Bool.not_eq_true]
  intro ht
  rw [secOk, Bool.and_eq_true] at ht
  obtain ⟨_, ht⟩ := ht
  split at ht
  · simp only [blankOk, Bool.and_eq_true, decide_eq_true_eq] at ht
    rcases h with h | h | h
    · omega
    · omega
    · rw [h] at ht
      exact absurd ht.1.1 (by decide)
  · simp only [bodyOk, Bool.and_eq_true, decide_eq_true_eq] at ht
    rcases h with h | h | h
    · omega
    · omega
    · rw [ht.1.1.1] at h
      exact absurd h (by decide)
theorem sectionValidS_any (p : SV) (many : Int) (w : World) (hr : RdS w w.heap.size p) (h0 : p.nm.size ≤ maxLen) (h1 : p.zs.length ≤ 1048576) (h2 : p.fs.length ≤ 1048576) :
    Calls Tryz.prog 52 #[.agg #[.string p.nm, .int .i64 p.kd, .int .i64 p.al, .slice p.A p.zs.length p.c, .int .i64 p.sz, .slice p.F p.fs.length p.fc], .int .i64 many] w (Ret (.bool (secOk many p.d)) w) := by
  obtain ⟨nm, kd, al, A, c, zs, sz, F, fc, fs⟩ := p
  have HR := hide hr.2
  have H0 := hide h0
  simp only [SV.d] at h0 h1 h2 ⊢
  clear hr h0
  have B0 : Below w.heap.size w (w.alloc (.cells #[.string nm, .int .i64 kd, .int .i64 al, .slice A zs.length c, .int .i64 sz, .slice F fs.length fc] 77)) := (by repeat (first | exact Below.refl _ _ | with_reducible assumption | (refine Below.drew ?_) | (refine Below.drewN ?_ _) | (refine Below.alloc ?_ (by simp; try omega) _) | (refine Below.setCell ?_ (by simp; try omega) _)))
  have X0 := Box.new w 77 #[.string nm, .int .i64 kd, .int .i64 al, .slice A zs.length c, .int .i64 sz, .slice F fs.length fc]
  have HB := hide B0
  have x0 := X0.cell 0
  have x1 := X0.cell 1
  have x2 := X0.cell 2
  have x3 := X0.cell 3
  have x4 := X0.cell 4
  have x5 := X0.cell 5
  simp only [List.getElem?_toArray, List.getElem?_cons_zero, List.getElem?_cons_succ] at x0 x1 x2 x3 x4 x5
  clear B0
  go_enter Tryz.func52, Tryz.ntmps52
  go_wp2_with fail
  generalize w.alloc (.cells #[.string nm, .int .i64 kd, .int .i64 al, .slice A zs.length c, .int .i64 sz, .slice F fs.length fc] 77) = w0 at *
  refine (nameValidS_any nm H0.out w0).mono ?_
  rintro e w' ⟨rfl, rfl⟩
  cases hn : nameOk nm
  · have HV := hide (sec_head (many := many) (d := ⟨nm, kd, al, zs, sz, fs⟩) (by simp [headOk, hn]))
    go_wp2_with fail
    go_ret
    exact ⟨by rw [HV.out]; rfl, HB.out⟩
  go_wp2_with fail
  refine (l1In_any _ _ _ _).mono ?_
  rintro e w' ⟨rfl, rfl⟩
  cases hk : inB kd 1 3
  · have HV := hide (sec_head (many := many) (d := ⟨nm, kd, al, zs, sz, fs⟩) (by simp [headOk, hk]))
    go_wp2_with fail
    go_ret
    exact ⟨by rw [HV.out]; rfl, HB.out⟩
  go_wp2_with fail
  refine (alignUp0_any _ _).mono ?_
  rintro e w' ⟨rfl, rfl⟩
  cases ha : alignOk al
  · have HV := hide (sec_head (many := many) (d := ⟨nm, kd, al, zs, sz, fs⟩) (by simp [headOk, ha]))
    simp only [cond_false]
    go_wp2_with fail
    go_ret
    exact ⟨by rw [HV.out]; rfl, HB.out⟩
  simp only [cond_true]
  have hh : headOk ⟨nm, kd, al, zs, sz, fs⟩ = true := by simp [headOk, hn, hk, ha]
  clear hn hk ha
  by_cases hz : zs.length ≤ 48
  case neg =>
    have HV := hide (sec_big (many := many) (d := ⟨nm, kd, al, zs, sz, fs⟩) (.inl hz))
    have ez : decide ((48 : Int) < zs.length) = true := decide_eq_true (by omega)
    clear hz
    go_wp2_with fail
    go_ret
    exact ⟨by rw [HV.out]; rfl, HB.out⟩
  have ez : decide ((48 : Int) < zs.length) = false := decide_eq_false (by omega)
  by_cases hf : fs.length ≤ 6
  case neg =>
    have HV := hide (sec_big (many := many) (d := ⟨nm, kd, al, zs, sz, fs⟩) (.inr (.inl hf)))
    have ef : decide ((6 : Int) < fs.length) = true := decide_eq_true (by omega)
    clear hf
    go_wp2_with fail
    go_ret
    exact ⟨by rw [HV.out]; rfl, HB.out⟩
  have ef : decide ((6 : Int) < fs.length) = false := decide_eq_false (by omega)
  have HHH := hide hh
  clear hh
  go_wp2_with fail
  refine (l1In_any _ _ _ _).mono ?_
  rintro e w' ⟨rfl, rfl⟩
  cases hs : inB sz 0 48
  · have HV := hide (sec_big (many := many) (d := ⟨nm, kd, al, zs, sz, fs⟩) (.inr (.inr hs)))
    clear hs
    go_wp2_with fail
    go_ret
    exact ⟨by rw [HV.out]; rfl, HB.out⟩
  by_cases hk3 : kd = 3
  · have HV := hide ((sec_blank (many := many) HHH.out hk3).trans (show blankOk ⟨nm, kd, al, zs, sz, fs⟩ = (inB sz 0 48 && decide (zs.length = 0) && decide (fs.length = 0)) from rfl))
    rw [hs] at HV
    have e3 : (kd == 3) = true := beq_iff_eq.2 hk3
    clear hk3 hs
    by_cases hz : zs.length = 0
    · have ez : ((zs.length : Int) == 0) = true := by rw [hz]; rfl
      rw [decide_eq_true hz] at HV
      by_cases hf : fs.length = 0
      · have ef : ((fs.length : Int) == 0) = true := by rw [hf]; rfl
        rw [decide_eq_true hf] at HV
        clear hz hf
        go_wp2_with fail
        go_ret
        exact ⟨by rw [HV.out]; rfl, HB.out⟩
      · have ef : ((fs.length : Int) == 0) = false := beq_eq_false_iff_ne.2 (by omega)
        rw [decide_eq_false hf] at HV
        clear hz hf
        go_wp2_with fail
        go_ret
        exact ⟨by rw [HV.out]; rfl, HB.out⟩
    · have ez : ((zs.length : Int) == 0) = false := beq_eq_false_iff_ne.2 (by omega)
      rw [decide_eq_false hz] at HV
      clear hz
      go_wp2_with fail
      go_ret
      exact ⟨by rw [HV.out]; simp, HB.out⟩
  · have hV := (sec_body (many := many) HHH.out hk3).trans (show bodyOk many ⟨nm, kd, al, zs, sz, fs⟩ = (decide (sz = 0) && decide (zs.length ≤ 48) && decide (fs.length ≤ 6) && fixesOk many zs.length 0 fs) from rfl)
    have HFF := hide (fun (h : fixesOk many zs.length 0 fs = false) => (show secOk many ⟨nm, kd, al, zs, sz, fs⟩ = false by rw [hV, h, Bool.and_false]))
    have HTT := hide (fun (h : fixesOk many zs.length 0 fs = true) => (show secOk many ⟨nm, kd, al, zs, sz, fs⟩ = decide (sz = 0) by rw [hV, h, decide_eq_true hz, decide_eq_true hf, Bool.and_true, Bool.and_true, Bool.and_true]))
    have e3 : (kd == 3) = false := beq_eq_false_iff_ne.2 hk3
    clear hk3 hV hs ez ef HHH
    go_wp2_with fail
    clear x0 x1 x2 x3 x4 x5 e3
    go_loopw [5, 6] (fun en ix wi => ∃ (k : Nat) (e : Int), k ≤ fs.length ∧ ix = .int .i64 k ∧ en = .int .i64 e ∧ 0 ≤ e ∧ e ≤ 48 ∧ fixesOk many zs.length 0 fs = fixesOk many zs.length e (fs.drop k) ∧ Box wi w.heap.size 77 #[.string nm, .int .i64 kd, .int .i64 al, .slice A zs.length c, .int .i64 sz, .slice F fs.length fc] ∧ Below w.heap.size w wi) (fun _ ix _ => fs.length - (intOf ix).toNat)
    case atStart => exact ⟨0, 0, Nat.zero_le _, rfl, rfl, by omega, by omega, rfl, X0, HB.out⟩
    case round =>
      obtain ⟨k, e, hk, rfl, rfl, he0, he1, hfx, hbx, hb⟩ := hrel
      have HBX := hide hbx
      have HBI := hide hb
      have x5 := hbx.cell 5
      have x4 := hbx.cell 4
      simp only [List.getElem?_toArray, List.getElem?_cons_zero, List.getElem?_cons_succ] at x4 x5
      clear X0 HB
      by_cases hlt : k < fs.length
      · obtain ⟨b, off, rfl, hbg, hc⟩ := (HR.out.below hb).row fixupC_len (by decide) hlt
        have hc0 := hc 0 _ rfl
        have hc1 := hc 1 _ rfl
        have hc2 := hc 2 _ rfl
        have hc3 := hc 3 _ rfl
        simp only [Nat.add_zero] at hc0
        have HFX := hide (hfx.trans (fixes_drop hlt))
        have HIF := hide (fixOk_iff (many := many) (n := zs.length) (e := e) (f := fs[k]))
        clear hfx hc hbx hb
        generalize fs[k] = f at *
        go_wp2_with fail
        have X1 := HBX.out.alloc (.cells #[.int .i64 f.1, .int .i64 f.2.1, .int .i64 f.2.2.1, .int .i64 f.2.2.2] 80)
        have Z1 := Box.new wr 80 #[.int .i64 f.1, .int .i64 f.2.1, .int .i64 f.2.2.1, .int .i64 f.2.2.2]
        have HB1 := hide (HBI.out.alloc HBI.out.size (.cells #[.int .i64 f.1, .int .i64 f.2.1, .int .i64 f.2.2.1, .int .i64 f.2.2.2] 80))
        generalize wr.alloc (.cells #[.int .i64 f.1, .int .i64 f.2.1, .int .i64 f.2.2.1, .int .i64 f.2.2.2] 80) = w1 at *
        generalize wr.heap.size = X at *
        have z0 := Z1.cell 0
        have z1 := Z1.cell 1
        have z2 := Z1.cell 2
        have z3 := Z1.cell 3
        have x3 := X1.cell 3
        simp only [List.getElem?_toArray, List.getElem?_cons_zero, List.getElem?_cons_succ] at z0 z1 z2 z3 x3
        have HX1 := hide X1
        have HZ1 := hide Z1
        clear HBX HBI X1 Z1 hc0 hc1 hc2 hc3 x4 x5
        refine (fixupWideS_any _ _).mono ?_
        rintro e' w2 ⟨rfl, b2⟩
        have X2 := HX1.out.call b2
        have Z2 := HZ1.out.call b2
        have HB2 := hide (HB1.out.trans (b2.mono HB1.out.size))
        have HX2 := hide X2
        clear z0 z1 z2 z3 x3 b2 HX1 HZ1 HB1
        have z0 := Z2.cell 0
        have z1 := Z2.cell 1
        have z2 := Z2.cell 2
        have z3 := Z2.cell 3
        have x3 := X2.cell 3
        simp only [List.getElem?_toArray, List.getElem?_cons_zero, List.getElem?_cons_succ] at z0 z1 z2 z3 x3
        clear X2 Z2
        have hwd := wide_bd f.2.1
        generalize hwg : wide f.2.1 = wd at *
        have HWG := hide hwg
        clear hwg
        by_cases g1 : wd = 0
        · have HN := hide (show fixOk many zs.length e f = false by rw [← Bool.not_eq_true, HIF.out]; omega)
          have e1 : (wd == 0) = true := beq_iff_eq.2 g1
          clear HIF g1 hwd
          go_wp2_with fail
          go_ret
          exact ⟨by rw [HFF.out (by rw [HFX.out, HN.out]; rfl)]; rfl, HB2.out⟩
        have e1 : (wd == 0) = false := beq_eq_false_iff_ne.2 g1
        by_cases g2 : f.2.2.1 < 0
        · have HN := hide (show fixOk many zs.length e f = false by rw [← Bool.not_eq_true, HIF.out]; omega)
          clear HIF g1
          go_wp2_with fail
          go_ret
          exact ⟨by rw [HFF.out (by rw [HFX.out, HN.out]; rfl)]; rfl, HB2.out⟩
        have e2 : decide (f.2.2.1 < 0) = false := decide_eq_false g2
        by_cases g3 : many ≤ f.2.2.1
        · have HN := hide (show fixOk many zs.length e f = false by rw [← Bool.not_eq_true, HIF.out]; omega)
          clear HIF g1 g2
          go_wp2_with fail
          go_ret
          exact ⟨by rw [HFF.out (by rw [HFX.out, HN.out]; rfl)]; rfl, HB2.out⟩
        have e3 : decide (many ≤ f.2.2.1) = false := decide_eq_false g3
        go_wp2_with fail
        refine (l1In_any _ _ _ _).mono ?_
        rintro e' w' ⟨rfl, rfl⟩
        by_cases g4 : -1000 ≤ f.2.2.2 ∧ f.2.2.2 ≤ 1000
        · rw [inB_t g4]
          go_wp2_with fail
          refine (l1In_any _ _ _ _).mono ?_
          rintro e' w' ⟨rfl, rfl⟩
          by_cases g5 : e ≤ f.1 ∧ f.1 ≤ zs.length - wd
          · rw [inB_t g5]
            have HY := hide (show fixOk many zs.length e f = true by rw [HIF.out]; omega)
            have HS := hide (show fixesOk many zs.length 0 fs = fixesOk many zs.length (f.1 + wd) (fs.drop (k + 1)) by rw [HFX.out, HY.out]; rfl)
            have hbd : 0 ≤ f.1 + wd ∧ f.1 + wd ≤ 48 := by omega
            clear HIF g1 g2 g3 g4 HFX HY
            go_wp2_with fail
            refine ⟨⟨k + 1, f.1 + wd, by omega, by go_num, rfl, hbd.1, hbd.2, HS.out, HX2.out, HB2.out⟩, by simp [intOf]; omega⟩
          · rw [inB_f g5]
            have HN := hide (show fixOk many zs.length e f = false by rw [← Bool.not_eq_true, HIF.out]; omega)
            clear HIF g1 g2 g3 g4 g5
            go_wp2_with fail
            go_ret
            exact ⟨by rw [HFF.out (by rw [HFX.out, HN.out]; rfl)]; rfl, HB2.out⟩
        · rw [inB_f g4]
          have HN := hide (show fixOk many zs.length e f = false by rw [← Bool.not_eq_true, HIF.out]; omega)
          clear HIF g1 g2 g3 g4
          go_wp2_with fail
          go_ret
          exact ⟨by rw [HFF.out (by rw [HFX.out, HN.out]; rfl)]; rfl, HB2.out⟩
      · have hE : fixesOk many zs.length 0 fs = true := by
          rw [hfx, List.drop_of_length_le (by omega)]
          rfl
        have HE := hide (HTT.out hE)
        clear hE hfx hbx hb
        by_cases hs : sz = 0
        · have es : (sz == 0) = true := beq_iff_eq.2 hs
          rw [decide_eq_true hs] at HE
          clear hs
          go_wp2_with fail
          go_ret
          exact ⟨by rw [HE.out]; rfl, HBI.out⟩
        · have es : (sz == 0) = false := beq_eq_false_iff_ne.2 hs
          rw [decide_eq_false hs] at HE
          clear hs
          go_wp2_with fail
          go_ret
          exact ⟨by rw [HE.out]; rfl, HBI.out⟩
end Go.Proofs.YtmglgjchemecjaaGreat.CSecValid3
