/- The marks of sections. -/
import Derived.Test.YtmglgjchemecjaaCMarkRows
namespace Go.Proofs.Ytmglgjchemecjaa.CSecMarks
set_option maxRecDepth 200000
open Go.ChangeShapes Go.WideShapes Go.ChangeAt Go.RowKit Kit CFixups CSymbols PObj BObj CMarkText CSymMarks CMarkRows
theorem rwS_mS {w : World} {b : Nat} {p : SV} {k : Int} (h1 : Row w b 5 1 p.A p.zs.length p.c (ints .u8 (CBytes.marks (k + 1 + 1 + 1) p.zs.length))) (h2 : Row w b 77 4 p.F p.fs.length p.fc (cellsOf fixupC (CFixups.marks (k + 1 + 1 + 1 + p.zs.length + 1) p.fs.length))) : RwS w b (mS k p) := by
  refine ⟨?_, ?_⟩
  · simpa [mS, CBytes.marks_len] using h1
  · simpa [mS, CFixups.marks_len] using h2
theorem gp_set {p : Nat → Prop} {w : World} {a : Addr} (ha : p a.block) (u : Value) : Gp p w (w.setCell a u) :=
  ⟨rfl, rfl, rfl, by simp [World.setCell], fun k _ hp => Below.heap_setCell w a u k (fun e => hp (e ▸ ha))⟩
set_option maxHeartbeats 1000000 in
theorem smark_any (base : Nat) (A : Option Addr) (c : Nat) (ps : List SV) (k0 : Int) (w : World) (h0 : 0 ≤ k0) (hk0 : k0 + wds ps ≤ 4294967296) (h : OwnSs w base A c ps) :
    Calls Try.prog 60 #[.slice A ps.length c, .int .i64 k0] w fun e w' => e = .returned (.int .i64 (k0 + wds ps)) ∧ OwnSs w' base A c (mSs k0 ps) ∧ Gp (ssblk A c ps) w w' := by
  have hn : ps.length ≤ maxLen := Nat.le_trans h.1.cap.1 h.1.cap.2
  unfold maxLen at hn
  have HP := hide h.2.2
  have HA := hide (And.intro h.1 h.2.1)
  have HK := hide hk0
  clear h hk0
  go_enter Try.func60, Try.ntmps60
  go_wp2
  go_loopw [1, 5] (fun k i wr => ∃ (j : Nat), j ≤ ps.length ∧ i = .int .i64 j ∧ k = .int .i64 (k0 + wds (ps.take j)) ∧ Row wr base 73 6 A ps.length c (cellsOf secC (mSs k0 (ps.take j)) ++ cellsOf secC (ps.drop j)) ∧ RwSs wr base (mSs k0 (ps.take j)) ∧ RwSs wr base (ps.drop j) ∧ Gp (ssblk A c ps) w wr) (fun _ i _ => ps.length - (intOf i).toNat)
  case atStart => exact ⟨0, Nat.zero_le _, rfl, by simp [wds], by simpa [mSs, cellsOf] using HA.out.1, (fun p hp => by cases hp), by rw [List.drop_zero]; exact HA.out.2, Gp.refl _ _⟩
  case round =>
    obtain ⟨j, hj, rfl, rfl, ho, hrw0, hrw, hg⟩ := hrel
    clear HA
    by_cases hlt : j < ps.length
    · have hc : c ≠ 0 := by
        have := ho.cap.1
        omega
      have hown : wr.ownsRow base 73 6 (.slice A ps.length c) ps.length (cellsOf secC (mSs k0 (ps.take j)) ++ cellsOf secC (ps.drop j)) := ho.elim (fun h => absurd h.2.1 hc) id
      have hform : ∃ g, A = some ⟨g, 0, none⟩ := by
        rcases hown.2 with ⟨hv, h0⟩ | ⟨g, cap, cur, hv, _⟩
        · omega
        · injection hv with hA
          exact ⟨g, hA⟩
      obtain ⟨g, rfl⟩ := hform
      have hbk : blk (some ⟨g, 0, none⟩) c = some g := by
        unfold blk
        rw [if_neg hc]
        rfl
      have hd : ps.drop j = ps[j] :: ps.drop (j + 1) := List.drop_eq_getElem_cons hlt
      have hpl : (cellsOf secC (mSs k0 (ps.take j))).length = j * 6 := by rw [cellsOf_len secC_len, mSs_len, List.length_take]; omega
      have hwall : wds ps = wds (ps.take j) + (wd ps[j] + wds (ps.drop (j + 1))) := by
        have := wds_append (ps.take j) (ps.drop j)
        rw [List.take_append_drop, hd] at this
        exact this
      have hw1 := wds_nonneg (ps.take j)
      have hw2 := wds_nonneg (ps.drop (j + 1))
      have hin : ps[j] ∈ ps := List.getElem_mem hlt
      -- apart from the others
      have hpwj : (∀ q ∈ ps.take j, ApS q ps[j]) ∧ (∀ q ∈ ps.drop (j + 1), ApS ps[j] q) := by
        have h1 := HP.out
        unfold PwSs at h1
        rw [← List.take_append_drop j ps, hd] at h1
        obtain ⟨_, h2, h3⟩ := List.pairwise_append.1 h1
        exact ⟨fun q hq => h3 q hq _ (List.mem_cons_self ..), (List.pairwise_cons.1 h2).1⟩
      have HS := hide (mSs_snoc k0 (ps.take j) ps[j])
      have HT := hide (take_succ hlt)
      have HW3 := hide (show wds (ps.take (j + 1)) = wds (ps.take j) + wd ps[j] by rw [take_succ hlt, wds_append]; simp [wds])
      rw [hd] at hown hrw
      obtain ⟨cs, hbx⟩ := box_of_own hown
      have hrest : ∀ q ∈ ps.drop (j + 1), RwS wr base q := fun q hq => hrw q (List.mem_cons_of_mem _ hq)
      have hp := hrw ps[j] (List.mem_cons_self ..)
      have hkk := HK.out
      -- what the marking of this one leaves alone
      have HL0 := hide (fun q hq => (hrw0 q hq).box hbx (by decide) (by decide))
      have HL1 := hide (fun q hq => (hrest q hq).box hbx (by decide) (by decide))
      have HLp := hide (hp.box hbx (by decide) (by decide))
      have HAp0 : Hid (∀ q ∈ mSs k0 (ps.take j), ∀ k, sblk q k → ¬ sblk ps[j] k) := hide (by
        intro x hx
        obtain ⟨q, hq, k', e⟩ := mSs_mem hx
        have hx' := hrw0 x hx
        refine CMarkRows.RwS.apart hx' hp ?_
        rw [e]
        exact hpwj.1 q hq)
      have HAp1 := hide (fun q hq => CMarkRows.RwS.apart (hrest q hq) hp (CMarkRows.ApS.symm (hpwj.2 q hq)))
      have HR0 := hide hrw0
      have HR1 := hide hrest
      have HG := hide hg
      have HPR := hide hp
      have HBK := hide (And.intro hbk hin)
      clear hd hrw hpwj hg hp hrest hrw0 ho hbx hbk hin
      generalize hx : k0 + wds (ps.take j) = x at *
      generalize hM0 : mSs k0 (ps.take j) = M0 at *
      generalize hR : ps.drop (j + 1) = rest at *
      generalize hp : ps[j] = p at *
      have hwd : wd p = 4 + p.zs.length + 4 * p.fs.length := rfl
      have hx0 : 0 ≤ x := by omega
      have hxb : x + 4 + p.zs.length + 4 * p.fs.length ≤ 4294967296 := by omega
      have HXX := hide (And.intro hx (And.intro hM0 (And.intro hR hp)))
      clear hx hM0 hR hp hwall hw1 hw2 hkk hwd
      obtain ⟨nm, kd, al, PA, pc, zs, sz, F, fc, fs⟩ := p
      simp only at hxb
      have hcell : cellsOf secC (⟨nm, kd, al, PA, pc, zs, sz, F, fc, fs⟩ :: rest) = .string nm :: .int .i64 kd :: .int .i64 al :: .slice PA zs.length pc :: .int .i64 sz :: .slice F fs.length fc :: cellsOf secC rest := by simp [cellsOf, secC]
      rw [hcell] at hown
      have HOW := hide hown
      clear hown hcell
      go_wp2_with fail
      refine (markText_any x _ (by omega)).mono ?_
      rintro e w2 ⟨rfl, b2⟩
      have hown := own_call b2 HOW.out
      have HG2 := hide (HG.out.trans (Gp.of_below b2))
      have HR02 := hide (RwSs.call HR0.out b2)
      have HR12 := hide (fun q hq => (HR1.out q hq).call b2)
      have HP2 := hide (HPR.out.call b2)
      obtain ⟨⟨old0, hk0⟩, hfz0⟩ := own_old hown (j := j * 6) (by omega)
      obtain ⟨⟨old1, hk1⟩, hfz1⟩ := own_old hown (j := j * 6 + 1) (by omega)
      obtain ⟨⟨old2, hk2⟩, hfz2⟩ := own_old hown (j := j * 6 + 2) (by omega)
      have hk3 : w2.cell? ⟨g, j * 6 + 3, none⟩ = some (.slice PA zs.length pc) := by
        rw [hown.cellAt (j * 6 + 3) (by omega), List.getElem?_append_right (by omega), hpl, Nat.add_sub_cancel_left]
        rfl
      have ho1 := own_put hown hpl (by omega) (.string (mtx x))
      have ho2 := own_put ho1 (j := j * 6 + 1) (by simp only [List.length_append, hpl]; rfl) (by omega) (.int .i64 (x + 1))
      have ho3 := own_put ho2 (j := j * 6 + 2) (by simp only [List.length_append, hpl]; rfl) (by omega) (.int .i64 (x + 1 + 1))
      simp only [List.tail_cons] at ho3
      have HO3 := hide ho3
      have HP3 := hide (((HP2.out.set (a := ⟨g, j * 6, none⟩) HLp.out (.string (mtx x))).set (a := ⟨g, j * 6 + 1, none⟩) HLp.out (.int .i64 (x + 1))).set (a := ⟨g, j * 6 + 2, none⟩) HLp.out (.int .i64 (x + 1 + 1)))
      have HR03 := hide (fun q hq => (((HR02.out q hq).set (a := ⟨g, j * 6, none⟩) (HL0.out q hq) (.string (mtx x))).set (a := ⟨g, j * 6 + 1, none⟩) (HL0.out q hq) (.int .i64 (x + 1))).set (a := ⟨g, j * 6 + 2, none⟩) (HL0.out q hq) (.int .i64 (x + 1 + 1)))
      have HR13 := hide (fun q hq => (((HR12.out q hq).set (a := ⟨g, j * 6, none⟩) (HL1.out q hq) (.string (mtx x))).set (a := ⟨g, j * 6 + 1, none⟩) (HL1.out q hq) (.int .i64 (x + 1))).set (a := ⟨g, j * 6 + 2, none⟩) (HL1.out q hq) (.int .i64 (x + 1 + 1)))
      have HG3 := hide (((HG2.out.trans (gp_set (a := ⟨g, j * 6, none⟩) (.inl HBK.out.1) (.string (mtx x)))).trans (gp_set (a := ⟨g, j * 6 + 1, none⟩) (.inl HBK.out.1) (.int .i64 (x + 1)))).trans (gp_set (a := ⟨g, j * 6 + 2, none⟩) (.inl HBK.out.1) (.int .i64 (x + 1 + 1))))
      have hlg := hown.1
      clear hown ho1 ho2 ho3 HG2 HR02 HR12 HP2 b2 HOW HG HR0 HR1 HPR
      go_wp2_with fail
      refine (markB_row base PA pc zs (x + 1 + 1 + 1) _ (by omega) (by omega) (by omega) HP3.out.1).mono ?_
      rintro e w4 ⟨rfl, r4, g4⟩
      have hne4 : blk PA pc ≠ some g := fun h => HLp.out g (.inl h) rfl
      have hown := own_grown HO3.out g4 hne4
      have G4 := Gp.of_grown (p := fun k => blk PA pc = some k) g4 (fun k h => h)
      have HR4 := hide r4
      have HF4 := hide (HP3.out.2.grown g4 (fun k hk h => apartT HP3.out.2 HP3.out.1 (by decide) k hk h))
      have HR04 := hide (fun q hq => RwS.gp G4 (HR03.out q hq) (fun k hk h => HAp0.out q hq k hk (.inl h)))
      have HR14 := hide (fun q hq => RwS.gp G4 (HR13.out q hq) (fun k hk h => HAp1.out q hq k hk (.inl h)))
      have HG4 := hide (HG3.out.trans (G4.mono (fun k h => .inr ⟨_, HBK.out.2, .inl h⟩)))
      obtain ⟨⟨old4, hk4⟩, hfz4⟩ := own_old hown (j := j * 6 + 4) (by omega)
      have hpl5 : (cellsOf secC M0 ++ [Value.string (mtx x)] ++ [Value.int .i64 (x + 1)] ++ [Value.int .i64 (x + 1 + 1)] ++ [Value.slice PA zs.length pc]).length = j * 6 + 4 := by simp only [List.length_append, hpl]; rfl
      have hre : cellsOf secC M0 ++ [Value.string (mtx x)] ++ [Value.int .i64 (x + 1)] ++ [Value.int .i64 (x + 1 + 1)] ++ (Value.slice PA zs.length pc :: Value.int .i64 sz :: Value.slice F fs.length fc :: cellsOf secC rest) = (cellsOf secC M0 ++ [Value.string (mtx x)] ++ [Value.int .i64 (x + 1)] ++ [Value.int .i64 (x + 1 + 1)] ++ [Value.slice PA zs.length pc]) ++ (Value.int .i64 sz :: Value.slice F fs.length fc :: cellsOf secC rest) := by simp
      rw [hre] at hown
      have ho5 := own_put hown hpl5 (by omega) (.int .i64 (x + 1 + 1 + 1 + zs.length))
      simp only [List.tail_cons] at ho5
      have hk5 : w4.cell? ⟨g, j * 6 + 5, none⟩ = some (.slice F fs.length fc) := by
        rw [hown.cellAt (j * 6 + 5) (by omega), List.getElem?_append_right (by omega), hpl5, show j * 6 + 5 - (j * 6 + 4) = 1 by omega]
        rfl
      have HO5 := hide ho5
      have HR5 := hide (HR4.out.set (a := ⟨g, j * 6 + 4, none⟩) (fun k hk => HLp.out k (.inl hk)) (.int .i64 (x + 1 + 1 + 1 + zs.length)))
      have HF5 := hide (HF4.out.set (a := ⟨g, j * 6 + 4, none⟩) (fun k hk => HLp.out k (.inr hk)) (.int .i64 (x + 1 + 1 + 1 + zs.length)))
      have HR05 := hide (fun q hq => (HR04.out q hq).set (a := ⟨g, j * 6 + 4, none⟩) (HL0.out q hq) (.int .i64 (x + 1 + 1 + 1 + zs.length)))
      have HR15 := hide (fun q hq => (HR14.out q hq).set (a := ⟨g, j * 6 + 4, none⟩) (HL1.out q hq) (.int .i64 (x + 1 + 1 + 1 + zs.length)))
      have HG5 := hide (HG4.out.trans (gp_set (a := ⟨g, j * 6 + 4, none⟩) (.inl HBK.out.1) (.int .i64 (x + 1 + 1 + 1 + zs.length))))
      clear hown ho5 hre r4 g4 G4 HO3 HP3 HR03 HR13 HG3 HR4 HF4 HR04 HR14 HG4 hk0 hk1 hk2 hfz0 hfz1 hfz2 hk3
      go_wp2_with fail
      refine (markF_row base F fc fs.length _ (x + 1 + 1 + 1 + zs.length + 1) _ (by omega) (by omega) (by omega) HF5.out).mono ?_
      rintro e w6 ⟨rfl, r6, g6⟩
      have hne6 : blk F fc ≠ some g := fun h => HLp.out g (.inr h) rfl
      have HO6 := hide (own_grown HO5.out g6 hne6)
      have G6 := Gp.of_grown (p := fun k => blk F fc = some k) g6 (fun k h => h)
      have HB6 := hide (HR5.out.grown g6 (fun k hk h => apartT HR5.out HF5.out (by decide) k hk h))
      have HR06 := hide (fun q hq => RwS.gp G6 (HR05.out q hq) (fun k hk h => HAp0.out q hq k hk (.inr h)))
      have HR16 := hide (fun q hq => RwS.gp G6 (HR15.out q hq) (fun k hk h => HAp1.out q hq k hk (.inr h)))
      have HG6 := hide (HG5.out.trans (G6.mono (fun k h => .inr ⟨_, HBK.out.2, .inr h⟩)))
      have HF6 := hide r6
      have E1 := hide (show x + 1 + 1 + 1 + (zs.length : Int) + 1 + 4 * fs.length = x + wd ⟨nm, kd, al, PA, pc, zs, sz, F, fc, fs⟩ by simp only [wd]; omega)
      clear r6 g6 G6 HO5 HR5 HF5 HR05 HR15 HG5 hk4 hk5 hfz4
      go_wp2_with fail
      refine ⟨⟨j + 1, by omega, by go_num, ?_, ?_, ?_, ?_, HG6.out⟩, by simp [intOf]; omega⟩
      · rw [E1.out, HW3.out, ← HXX.out.1]
        congr 1
        omega
      · rw [HT.out, HS.out, HXX.out.2.2.1]
        refine .inr ?_
        simpa [cellsOf, secC, mS, CBytes.marks_len, CFixups.marks_len] using HO6.out
      · rw [HT.out, HS.out]
        exact RwSs.snoc HR06.out (rwS_mS HB6.out HF6.out)
      · rw [HXX.out.2.2.1]
        exact HR16.out
    · have e : j = ps.length := by omega
      subst e
      rw [List.take_length] at ho hrw0
      rw [List.drop_length] at ho
      have HE := hide (show OwnSs wr base A c (mSs k0 ps) from ⟨by rw [mSs_len]; simpa [cellsOf] using ho, hrw0, mSs_pw HP.out⟩)
      rw [List.take_length]
      clear ho hrw hrw0
      go_wp2
      go_ret
      exact ⟨rfl, HE.out, hg⟩
end Go.Proofs.Ytmglgjchemecjaa.CSecMarks
