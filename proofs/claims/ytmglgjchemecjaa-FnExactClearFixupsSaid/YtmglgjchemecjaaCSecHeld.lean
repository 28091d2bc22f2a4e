/- The marks of sections read again. -/
import Derived.Test.YtmglgjchemecjaaCSecMarks
namespace Go.Proofs.Ytmglgjchemecjaa.CSecHeld
set_option maxRecDepth 200000
open Go.ChangeShapes Go.WideShapes Go.ChangeAt Go.RowKit Kit CFixups CSymbols PObj BObj CMarkText CSymMarks CMarkRows CSecMarks
theorem sheld_any (A : Option Addr) (c : Nat) (ps : List SV) (k0 : Int) (w : World) (h0 : 0 ≤ k0) (hk0 : k0 + wds ps ≤ 4294967296) (hn : ps.length ≤ 4294967296) (hr : RdSs w w.heap.size A (mSs k0 ps)) :
    Calls Try.prog 63 #[.slice A ps.length c, .int .i64 k0] w (Ret (.int .i64 (k0 + wds ps)) w) := by
  have HK := hide hk0
  clear hk0
  go_enter Try.func63, Try.ntmps63
  go_wp2
  go_loopw [1, 5] (fun k i wr => ∃ j : Nat, j ≤ ps.length ∧ i = .int .i64 j ∧ k = .int .i64 (k0 + wds (ps.take j)) ∧ Below w.heap.size w wr) (fun _ i _ => ps.length - (intOf i).toNat)
  case atStart => exact ⟨0, Nat.zero_le _, rfl, by simp [wds], Below.refl _ _⟩
  case round =>
    obtain ⟨j, hj, rfl, rfl, hb⟩ := hrel
    have HB := hide hb
    by_cases hlt : j < ps.length
    · have hltm : j < (mSs k0 ps).length := by rw [mSs_len]; exact hlt
      obtain ⟨b, off, rfl, hbg, hc⟩ := (hr.1.below hb).row secC_len (by decide) hltm
      have hmem := hr.2 _ (List.getElem_mem hltm)
      have hget : (mSs k0 ps)[j]'hltm = mS (k0 + wds (ps.take j)) ps[j] := mSs_get hlt
      rw [hget] at hc hmem
      have hc0 := hc 0 _ rfl
      have hc1 := hc 1 _ rfl
      have hc2 := hc 2 _ rfl
      have hc3 := hc 3 _ rfl
      have hc4 := hc 4 _ rfl
      have hc5 := hc 5 _ rfl
      simp only [Nat.add_zero, mS, CBytes.marks_len, CFixups.marks_len] at hc0 hc1 hc2 hc3 hc4 hc5
      have hbl : b < wr.heap.size := Nat.lt_of_lt_of_le hbg hb.size
      have hwall : wds ps = wds (ps.take j) + (wd ps[j] + wds (ps.drop (j + 1))) := by
        have := wds_append (ps.take j) (ps.drop j)
        rw [List.take_append_drop, List.drop_eq_getElem_cons hlt] at this
        exact this
      have hw1 := wds_nonneg (ps.take j)
      have hw2 := wds_nonneg (ps.drop (j + 1))
      have HW3 := hide (show k0 + wds (ps.take (j + 1)) = k0 + wds (ps.take j) + wd ps[j] by rw [take_succ hlt, wds_append]; simp [wds]; omega)
      have hkk := HK.out
      have HR := hide hmem
      clear hget hmem hr hc hb hltm
      generalize hx : k0 + wds (ps.take j) = x at *
      generalize ps[j] = p at *
      have hwd : wd p = 4 + p.zs.length + 4 * p.fs.length := rfl
      have hx0 : 0 ≤ x := by omega
      have hxb : x + 4 + p.zs.length + 4 * p.fs.length ≤ 4294967296 := by omega
      clear hx hwall hw1 hw2 hkk hwd
      obtain ⟨nm, kd, al, PA, pc, zs, sz, F, fc, fs⟩ := p
      simp only at hxb hc3 hc4 hc5
      have HR' : Hid (Rd w w.heap.size PA (ints .u8 (CBytes.marks (x + 1 + 1 + 1) zs.length)) ∧ Rd w w.heap.size F (cellsOf fixupC (CFixups.marks (x + 1 + 1 + 1 + zs.length + 1) fs.length))) := hide HR.out
      have HC := hide (And.intro hc1 (And.intro hc2 (And.intro hc3 (And.intro hc4 hc5))))
      clear hc1 hc2 hc3 hc4 hc5 HR
      go_wp2_with fail
      refine Reg.startT (fun V => V.cell? ⟨b, off + j * 6, none⟩ = some (.string (mtx x))) (fun _ => false) (by kernel_rfl) ?_
      have hHeld : wr.drew.cell? ⟨b, off + j * 6, none⟩ = some (.string (mtx x)) := hc0
      refine Reg.takeT (i := 0) (v := ?_) rfl (by kernel_rfl) (by kernel_rfl) (by kernel_rfl) (by kernel_rfl) (fun _ _ _ h => h) (Or.inl ⟨by rfl, ?_⟩) (by assumption) ?_
      rotate_left 1
      focus (intro w hSw; (try dsimp only at hSw); go_simp; (try with_reducible rfl))
      try simp only [List.getElem_toArray, List.getElem_cons_succ, List.getElem_cons_zero, Act.put, List.setIfInBounds_toArray, List.set_cons_zero, List.set_cons_succ]
      refine Reg.takeT (i := 1) (v := ?_) rfl (by kernel_rfl) (by kernel_rfl) (by kernel_rfl) (by kernel_rfl) (fun _ _ _ h => h) (Or.inl ⟨by rfl, ?_⟩) (by assumption) ?_
      rotate_left 1
      focus (intro w hSw; (try dsimp only at hSw); go_simp; (try with_reducible rfl))
      try simp only [List.getElem_toArray, List.getElem_cons_succ, List.getElem_cons_zero, Act.put, List.setIfInBounds_toArray, List.set_cons_zero, List.set_cons_succ]
      refine Reg.takeT (i := 2) (v := ?_) rfl (by kernel_rfl) (by kernel_rfl) (by kernel_rfl) (by kernel_rfl) (fun _ _ _ h => h) (Or.inl ⟨by rfl, ?_⟩) (by assumption) ?_
      rotate_left 1
      focus (intro w hSw; (try dsimp only at hSw); go_simp; (try with_reducible rfl))
      try simp only [List.getElem_toArray, List.getElem_cons_succ, List.getElem_cons_zero, Act.put, List.setIfInBounds_toArray, List.set_cons_zero, List.set_cons_succ]
      refine Reg.takeT (i := 3) (v := ?_) rfl (by kernel_rfl) (by kernel_rfl) (by kernel_rfl) (by kernel_rfl) (fun _ _ _ h => h) (Or.inl ⟨by rfl, ?_⟩) (by assumption) ?_
      rotate_left 1
      focus (intro w hSw; (try dsimp only at hSw); go_simp; (try with_reducible rfl))
      try simp only [List.getElem_toArray, List.getElem_cons_succ, List.getElem_cons_zero, Act.put, List.setIfInBounds_toArray, List.set_cons_zero, List.set_cons_succ]
      refine Reg.takeT (i := 4) (v := ?_) rfl (by kernel_rfl) (by kernel_rfl) (by kernel_rfl) (by kernel_rfl) (fun _ _ _ h => h) (Or.inl ⟨by rfl, ?_⟩) (by assumption) ?_
      rotate_left 1
      focus (intro w hSw; (try dsimp only at hSw); go_simp; (try with_reducible rfl))
      try simp only [List.getElem_toArray, List.getElem_cons_succ, List.getElem_cons_zero, Act.put, List.setIfInBounds_toArray, List.set_cons_zero, List.set_cons_succ]
      refine Reg.takeT (i := 5) (v := ?_) rfl (by kernel_rfl) (by kernel_rfl) (by kernel_rfl) (by kernel_rfl) (fun _ _ _ h => h) (Or.inl ⟨by rfl, ?_⟩) (by assumption) ?_
      rotate_left 1
      focus (intro w hSw; (try dsimp only at hSw); go_simp; (try with_reducible rfl))
      try simp only [List.getElem_toArray, List.getElem_cons_succ, List.getElem_cons_zero, Act.put, List.setIfInBounds_toArray, List.set_cons_zero, List.set_cons_succ]
      refine Reg.oneT (i := 6) rfl (by kernel_rfl) (fun K hK => ?_)
      go_simp
      refine (markText_any x _ (by omega)).mono ?_
      rintro e w2 ⟨rfl, b2⟩
      have b2' := of_drew b2
      have hHeld : w2.cell? ⟨b, off + j * 6, none⟩ = some (.string (mtx x)) := (b2'.cell (p := ⟨b, off + j * 6, none⟩) hbl).trans hc0
      refine hK.out _ _ hHeld ?_
      clear hK K
      try simp only [List.getElem_toArray, List.getElem_cons_succ, List.getElem_cons_zero, Act.put, List.setIfInBounds_toArray, List.set_cons_zero, List.set_cons_succ]
      refine Reg.takeT (i := 7) (v := ?_) rfl (by kernel_rfl) (by kernel_rfl) (by kernel_rfl) (by kernel_rfl) (fun _ _ _ h => h) (Or.inl ⟨by rfl, ?_⟩) (by assumption) ?_
      rotate_left 1
      focus (intro w hSw; (try dsimp only at hSw); go_simp; (try with_reducible rfl))
      try simp only [List.getElem_toArray, List.getElem_cons_succ, List.getElem_cons_zero, Act.put, List.setIfInBounds_toArray, List.set_cons_zero, List.set_cons_succ]
      refine Reg.doneT (by kernel_rfl) ?_ _
      clear hHeld
      have HB' := hide (HB.out.trans (b2'.mono HB.out.size))
      have hc1 := (b2'.cell (p := ⟨b, off + j * 6 + 1, none⟩) hbl).trans HC.out.1
      have hc2 := (b2'.cell (p := ⟨b, off + j * 6 + 2, none⟩) hbl).trans HC.out.2.1
      have hc3 := (b2'.cell (p := ⟨b, off + j * 6 + 3, none⟩) hbl).trans HC.out.2.2.1
      have hc4 := (b2'.cell (p := ⟨b, off + j * 6 + 4, none⟩) hbl).trans HC.out.2.2.2.1
      have hc5 := (b2'.cell (p := ⟨b, off + j * 6 + 5, none⟩) hbl).trans HC.out.2.2.2.2
      clear b2 b2' HC hc0
      go_wp2_with fail
      refine (CBytes.held_any _ PA pc zs.length (x + 1 + 1 + 1) _ (by omega) (by omega) (by omega) ((HR'.out.1.below HB'.out).more HB'.out.size)).mono ?_
      rintro e w' ⟨rfl, rfl⟩
      go_wp2_with fail
      refine (CFixups.held_any _ F fc fs.length (x + 1 + 1 + 1 + zs.length + 1) _ (by omega) (by omega) (by omega) ((HR'.out.2.below HB'.out).more HB'.out.size)).mono ?_
      rintro e w' ⟨rfl, rfl⟩
      have E1 := hide (show x + 1 + 1 + 1 + (zs.length : Int) + 1 + 4 * fs.length = x + wd ⟨nm, kd, al, PA, pc, zs, sz, F, fc, fs⟩ by simp only [wd]; omega)
      clear hc1 hc2 hc3 hc4 hc5
      go_wp2_with fail
      go_roundw
      case rel => exact ⟨j + 1, by omega, by go_num, by rw [E1.out, HW3.out], HB'.out⟩
      case measure => simp [intOf]; omega
    · have e : j = ps.length := by omega
      subst e
      rw [List.take_length]
      clear hr
      go_wp2_with fail
      go_ret
      exact ⟨rfl, HB.out⟩
end Go.Proofs.Ytmglgjchemecjaa.CSecHeld
