/- The program's ApplyPatches. -/
import Derived.Test.YtjnnjgogpapbhaaBApply
namespace Go.Proofs.Ytjnnjgogpapbhaa.CApplyI
set_option maxRecDepth 200000
open Go.ChangeShapes Go.WideShapes Go.ChangeAt Go.RowKit Kit CCode CImage CPatch PPatch BPatch CPatches CPatValid BApply CPatches2
theorem step_copy_row {P : Program} {ops : Array Oper} {o : Oper} {a : Act} {w : World} {K : Act → World → Prop} {Q : Exit → Act → World → Prop} {E : Prop} (hgd : o.guard = none) (d s : Operand) (dT sT : TypeId)
    (ho : o.op = .call { callee := .builtin .copy, args := #[d, s], argTypes := #[dT, sT] }) (elem : TypeId) (hu : P.underlying dT = some (.slice elem)) (hsz : (P.info? elem).map (·.size) = some 1)
    (g off dLen dCap : Nat) (ad : Addr) (sLen sCap : Nat) (hd : a.eval d = .slice (some ⟨g, off, none⟩) dLen dCap) (hs : a.eval s = .slice (some ad) sLen sCap)
    (cur : List Value) (t : TypeId) (hg : w.heap[g]? = some (.cells cur.toArray t (0, 0))) (cs : List Value) (hn : cs.length = Nat.min sLen dLen)
    (hsrc : ∀ j v, cs[j]? = some v → w.cell? (ad.add j) = some v) (hfit : off + cs.length ≤ cur.length) (h1 : ∀ v ∈ cs, v.oneCell' = true)
    (h : K (a.put o.dst (goInt cs.length)) (w.setRow g (Go.splice cur off cs).toArray)) :
    if Region.wanted o (yielded ops a.tmps) = true then Oper.wp P o a w K Q else E := by
  have hw : Region.wanted o (yielded ops a.tmps) = true := by simp [Region.wanted, hgd]
  rw [if_pos hw]
  have hrun := run_copy_row (P := P) w dT sT o.type elem g off dLen dCap ad sLen sCap cur.toArray t cs hu hsz hg hn hsrc (by simpa using hfit) h1
  unfold Oper.wp
  simp [execOp, ho, resolve, invoke, builtin, hd, hs, hrun, Result.andThen]
  exact (show K _ _ from by simpa [Go.splice] using h)
theorem box_setRow {w : World} {Y g : Nat} {t : TypeId} {cs : Array Value} {cur : List Value} (h : Box w Y t cs) (hg : w.heap[g]? = some (.cells cur.toArray 5 (0, 0))) (ht : t ≠ 5) (x : Array Value) : Box (w.setRow g x) Y t cs := by
  have hne : Y ≠ g := by
    intro e
    subst e
    have := hg.symm.trans h
    simp at this
    exact ht this.2.symm
  exact (setRow_other w g Y _ hne).trans h
theorem rd_addr {w : World} {B : Nat} {A : Option Addr} {zs : List Int} (h : Rd w B A (ints .u8 zs)) (h0 : 0 < zs.length) :
    ∃ bz off, A = some ⟨bz, off, none⟩ ∧ bz < B ∧ ∀ (j : Nat) (v : Value), (ints .u8 zs)[j]? = some v → w.cell? ((⟨bz, off, none⟩ : Addr).add j) = some v := by
  obtain ⟨b, off, rfl, hb, _⟩ := h.int h0
  refine ⟨b, off, rfl, hb, fun j v hj => ?_⟩
  obtain ⟨b', off', hA, _, hc⟩ := h j v hj
  injection hA with hA
  injection hA with e1 e2
  subst e1 e2
  by_cases h0 : j = 0
  · subst h0
    simpa [Addr.add] using hc
  · simpa [Addr.add, h0] using hc
section
variable {w0 wr : World} {N Y : Nat} {b : Int} {g n c : Nat} {l : List Int}
theorem inv_copied (h : Inv w0 N Y b (some ⟨g, 0, none⟩) n c l wr) (hown : wr.ownsRow N 5 1 (.slice (some ⟨g, 0, none⟩) n c) n (ints .u8 l)) :
    ∃ cur : List Value, wr.heap[g]? = some (.cells cur.toArray 5 (0, 0)) ∧ n ≤ cur.length ∧ ∀ (i : Nat) (zs : List Int), i + zs.length ≤ n → Inv w0 N Y b (some ⟨g, 0, none⟩) n c (PPatch.splice l i zs) (wr.setRow g (Go.splice cur i (ints .u8 zs)).toArray) := by
  obtain ⟨cur, hg, hN, hn, hf⟩ := own_splice hown
  refine ⟨cur, hg, hn, fun i zs hi => ⟨?_, h.2.1, ?_, .inr ?_, Go.below_setRow h.2.2.2.2 hN _⟩⟩
  · have hYg : Y ≠ g := by
      intro e
      subst e
      have := hg.symm.trans h.1
      simp at this
    exact (setRow_other wr g Y _ hYg).trans h.1
  · rw [PPatch.splice_len (by rw [h.2.2.1]; exact hi)]
    exact h.2.2.1
  · rw [← splice_ints]
    exact hf _ i _ (by simpa using hi) (setRow_heap wr g _ _ _ _ hg)
end
set_option maxHeartbeats 4000000 in
theorem applyPatches_any (b : Int) (A : Option Addr) (zs : List Int) (c : Nat) (AL : Option Addr) (ps : List PV) (cl : Nat) (w : World)
    (hr : Rd w w.heap.size A (ints .u8 zs)) (hzm : zs.length ≤ 1048576) (hnil : A = none → c = 0)
    (hl : RdPs w w.heap.size AL ps) (hm : ps.length ≤ 1048576) (hll : ∀ p ∈ ps, p.zs.length ≤ 1048576) :
    Calls Try.prog 16 #[.agg #[.int .i64 b, .slice A zs.length c], .slice AL ps.length cl] w
      (RetImg (outB (imOk b zs.length (ps.map PV.d)) b) (outZ (imOk b zs.length (ps.map PV.d)) (apply b zs (ps.map PV.d))) (imOk b zs.length (ps.map PV.d)) w) := by
  generalize hds : ps.map PV.d = ds
  have X0 := (Box.new w 35 #[.int .i64 b, .slice A zs.length c]).alloc (.cells #[.int .i64 0, .slice none 0 0] 35)
  have X1 := Box.new (w.alloc (.cells #[.int .i64 b, .slice A zs.length c] 35)) 35 #[.int .i64 0, .slice none 0 0]
  have B0 : Below w.heap.size w ((w.alloc (.cells #[.int .i64 b, .slice A zs.length c] 35)).alloc (.cells #[.int .i64 0, .slice none 0 0] 35)) := (by repeat (first | exact Below.refl _ _ | with_reducible assumption | (refine Below.drew ?_) | (refine Below.drewN ?_ _) | (refine Below.alloc ?_ (by simp; try omega) _) | (refine Below.setCell ?_ (by simp; try omega) _)))
  simp only [World.size_alloc] at X1
  have HR := hide ((hr.below B0).more B0.size)
  have HL := hide ((hl.below B0).more B0.size)
  have HB := hide B0
  have HX := hide (And.intro X0 X1)
  have x0 := X0.cell 0
  have x1 := X0.cell 1
  simp only [List.getElem?_toArray, List.getElem?_cons_zero, List.getElem?_cons_succ] at x0 x1
  clear hr hl B0 X0 X1
  go_enter Try.func16, Try.ntmps16
  go_wp2_with fail
  generalize ((w.alloc (.cells #[.int .i64 b, .slice A zs.length c] 35)).alloc (.cells #[.int .i64 0, .slice none 0 0] 35)) = w0 at *
  refine (patchesValid_any b A zs.length c AL ps cl w0 hzm HL.out.1 hm hll).mono ?_
  rintro e w1 ⟨rfl, b1⟩
  rw [hds]
  have HX1 := hide (And.intro (HX.out.1.call b1) (HX.out.2.call b1))
  have HR1 := hide ((HR.out.below b1).more b1.size)
  have HL1 := hide ((HL.out.below b1).more b1.size)
  have HB1 := hide (HB.out.trans (b1.mono HB.out.size))
  clear b1 HX HR HL HB x0 x1
  have x0 := HX1.out.1.cell 0
  have x1 := HX1.out.1.cell 1
  have y0 := HX1.out.2.cell 0
  have y1 := HX1.out.2.cell 1
  have yf0 := HX1.out.2.frozen 0
  have yf1 := HX1.out.2.frozen 1
  simp only [List.getElem?_toArray, List.getElem?_cons_zero, List.getElem?_cons_succ] at x0 x1 y0 y1
  cases hok : imOk b zs.length ds
  · have HOKF := hide hok
    clear hok
    have k := put2_box HX1.out.2 (.int .i64 0) (.slice none 0 0)
    have k0 := k.cell 0
    have k1 := k.cell 1
    simp only [List.getElem?_toArray, List.getElem?_cons_zero, List.getElem?_cons_succ] at k0 k1
    clear k
    have HF := hide (put2_below HB1.out (Nat.le_succ _) (.int .i64 0) (.slice none 0 0))
    go_wp2_with fail
    exact bodyPost_ret (v := .tuple #[.agg #[.int .i64 0, .slice none 0 0], .bool false]) (by simp [results, Try.results16, go_sem, k0, k1]) rfl (by rw [HOKF.out]; exact (show RetImg 0 [] false w _ _ from ⟨none, 0, rfl, Row.empty _ _ _ _ _, HF.out⟩))
  · obtain ⟨hbd, hP⟩ : (0 ≤ b ∧ b ≤ 4096 ∧ zs.length ≤ 2000) ∧ okP (b + zs.length) b ds = true := by
      simp only [imOk, Bool.and_eq_true] at hok
      exact ⟨imgOk_bounds hok.1.1, hok.2⟩
    have HOKF := hide hok
    clear hok y0 y1 yf0 yf1
    have HP := hide hP
    have HBD := hide hbd
    clear hP hbd
    go_wp2_with fail
    refine (copyImage_any b A zs c w1 HR1.out hzm hnil).mono ?_
    rintro e w2 ⟨A2, c2, rfl, r2, b2⟩
    have HX2 := hide (And.intro (HX1.out.1.call b2) (HX1.out.2.call b2))
    have hI0 : Inv w1 w1.heap.size w2.heap.size b A2 zs.length c2 zs (w2.alloc (.cells #[.int .i64 b, .slice A2 zs.length c2] 35)) := ⟨Box.new _ _ _, b2.size, rfl, r2.alloc _, b2.alloc b2.size _⟩
    have HI0 := hide hI0
    have hHX : w.heap.size < w1.heap.size := HX1.out.1.lt
    clear hI0 r2 x0 x1
    go_wp2_with fail
    generalize hY : w2.heap.size = Y at *
    have hYN : w1.heap.size ≤ Y := HI0.out.2.1
    generalize (w2.alloc (.cells #[.int .i64 b, .slice A2 zs.length c2] 35)) = w3 at *
    clear hY
    have hdl : ds.length = ps.length := by rw [← hds]; simp
    have HDL := hide hdl
    have HDS := hide hds
    clear hds hdl b2
    go_loopw [18] (fun i wr => ∃ (k : Nat) (cur : List Int), k ≤ ps.length ∧ i = .int .i64 k ∧ (∃ x, okP (b + zs.length) x (ds.drop k) = true ∧ b ≤ x) ∧ apply b cur (ds.drop k) = apply b zs ds ∧ Inv w1 w1.heap.size Y b A2 zs.length c2 cur wr) (fun i _ => ps.length - (intOf i).toNat)
    case atStart => exact ⟨0, zs, Nat.zero_le _, rfl, ⟨b, by rw [List.drop_zero]; exact HP.out, Int.le_refl _⟩, by rw [List.drop_zero], HI0.out⟩
    case round =>
      obtain ⟨k, cur, hk, rfl, ⟨x, hx, hbx⟩, hap, hI⟩ := hrel
      clear HI0 HP HX2
      by_cases hlt : k < ps.length
      · have hcons : ds.drop k = ps[k].d :: ds.drop (k + 1) := by
          rw [← HDS.out, List.drop_eq_getElem_cons (show k < (ps.map PV.d).length by simpa using hlt)]
          simp
        rw [hcons] at hx hap
        obtain ⟨h1, h2, h3, h4⟩ := okP_cons hx
        have hin : ps[k] ∈ ps := List.getElem_mem hlt
        have HRD := hide (fun W (hb : Below w1.heap.size w1 W) => ((HL1.out.below hb).1.row patchC_len (by decide) hlt))
        have HZD := hide (fun W (hb : Below w1.heap.size w1 W) => ((HL1.out.below hb).2 _ hin))
        have hzl := hll _ hin
        clear hx hcons hin
        generalize ps[k] = q at *
        obtain ⟨qa, qA, qc, qz⟩ := q
        simp only [PV.d] at h1 h2 h3 h4 hap hzl
        obtain ⟨i, hi⟩ : ∃ i : Nat, qa = b + i := ⟨(qa - b).toNat, by omega⟩
        have hiz : i + qz.length ≤ zs.length := by omega
        have hap2 : apply b (PPatch.splice cur i qz) (ds.drop (k + 1)) = apply b zs ds := by
          have e : (qa - b).toNat = i := by omega
          simp only [apply, e] at hap
          exact hap
        have H4 := hide (show ∃ x, okP (b + zs.length) x (ds.drop (k + 1)) = true ∧ b ≤ x from ⟨_, h4, by omega⟩)
        have HAP := hide hap2
        have HII := hide hI
        have HQI := hide hi
        have hq0 : 0 < qz.length := by omega
        clear hi
        clear h1 h2 h3 h4 hap hap2 hbx
        obtain ⟨bq, off, rfl, hbq, hc⟩ := HRD.out _ hI.2.2.2.2
        have hc0 := hc 0 _ rfl
        have hc1 := hc 1 _ rfl
        simp only [Nat.add_zero] at hc0
        clear hc hI
        go_wp2_with fail
        have V := Box.new wr 72 #[.int .i64 qa, .slice qA qz.length qc]
        have HI3 := HII.out.call (below_al (o := .cells #[.int .i64 qa, .slice qA qz.length qc] 72) (Below.refl wr.heap.size wr))
        clear hc0 hc1
        generalize hv : wr.heap.size = v at *
        generalize (wr.alloc (.cells #[.int .i64 qa, .slice qA qz.length qc] 72)) = wv at *
        clear hv
        obtain ⟨bz, offz, rfl, hbz, hcz⟩ := rd_addr (HZD.out _ HI3.2.2.2.2) hq0
        obtain ⟨g, rfl, hg, hown⟩ := HI3.own (i := i) (by omega)
        have HV := HI3
        obtain ⟨curv, hgv, hnv, hcp⟩ := inv_copied HV hown
        have x1 := HI3.1.cell 1
        have v0 := V.cell 0
        have v1 := V.cell 1
        have x0 := (HX1.out.1.below HI3.2.2.2.2 HX1.out.1.lt).cell 0
        simp only [List.getElem?_toArray, List.getElem?_cons_zero, List.getElem?_cons_succ] at x0 x1 v0 v1
        have w50 : IntKind.i64.wrap (qa - b) = (i : Int) := by have h := HQI.out; have h2 := HBD.out; rw [IntKind.wrap_i64]; omega
        have hc2 : zs.length ≤ c2 := HI3.2.2.2.1.cap.1
        have HC := hide (And.intro hcz hcp)
        have HGV := hide hgv
        have HBX := hide (And.intro HI3.1 (HX1.out.1.below HI3.2.2.2.2 HX1.out.1.lt))
        have HOWN := hide hown
        clear hcz hcp hgv HI3 HV hown
        have HIL := hide (show (ints .u8 qz).length = qz.length by simp)
        have hin1 : i ≤ zs.length := by omega
        have hin2 : i ≤ c2 := by omega
        refine Reg.startT (fun W => W.cell? ⟨Y, 1, none⟩ = some (.slice (some ⟨g, 0, none⟩) zs.length c2) ∧ W.cell? ⟨v, 0, none⟩ = some (.int .i64 qa) ∧ W.cell? ⟨v, 1, none⟩ = some (.slice (some ⟨bz, offz, none⟩) qz.length qc) ∧ W.cell? ⟨w.heap.size, 0, none⟩ = some (.int .i64 b)) (fun _ => false) (by kernel_rfl) ?_
        have hHeld : wv.drew.cell? ⟨Y, 1, none⟩ = some (.slice (some ⟨g, 0, none⟩) zs.length c2) ∧ wv.drew.cell? ⟨v, 0, none⟩ = some (.int .i64 qa) ∧ wv.drew.cell? ⟨v, 1, none⟩ = some (.slice (some ⟨bz, offz, none⟩) qz.length qc) ∧ wv.drew.cell? ⟨w.heap.size, 0, none⟩ = some (.int .i64 b) := ⟨x1, v0, v1, x0⟩
        refine Reg.takeT (i := 0) (v := ?_) rfl (by kernel_rfl) (by kernel_rfl) (by kernel_rfl) (by kernel_rfl) (fun _ _ _ h => h) (Or.inl ⟨by rfl, ?_⟩) (by assumption) ?_
        rotate_left 1
        focus (intro w hSw; (try dsimp only at hSw); go_simp; (try with_reducible rfl))
        try simp only [List.getElem_toArray, List.getElem_cons_succ, List.getElem_cons_zero, Act.put, List.setIfInBounds_toArray, List.set_cons_zero, List.set_cons_succ]
        refine Reg.takeT (i := 1) (v := ?_) rfl (by kernel_rfl) (by kernel_rfl) (by kernel_rfl) (by kernel_rfl) (fun _ _ _ h => h) (Or.inl ⟨by rfl, ?_⟩) (by assumption) ?_
        rotate_left 1
        focus (intro w hSw; (try dsimp only at hSw); go_simp; (try with_reducible rfl))
        try simp only [List.getElem_toArray, List.getElem_cons_succ, List.getElem_cons_zero, Act.put, List.setIfInBounds_toArray, List.set_cons_zero, List.set_cons_succ]
        refine Reg.takeT (i := 2) (v := ?_) rfl (by kernel_rfl) (by kernel_rfl) (by kernel_rfl) (by kernel_rfl) (fun _ _ _ h => h) (Or.inl ⟨by rfl, ?_⟩) (by assumption) ?_
        rotate_left 1
        focus (intro w hSw; (try dsimp only at hSw); go_simp; (try with_reducible rfl))
        try simp only [List.getElem_toArray, List.getElem_cons_succ, List.getElem_cons_zero, Act.put, List.setIfInBounds_toArray, List.set_cons_zero, List.set_cons_succ]
        refine Reg.takeT (i := 3) (v := ?_) rfl (by kernel_rfl) (by kernel_rfl) (by kernel_rfl) (by kernel_rfl) (fun _ _ _ h => h) (Or.inl ⟨by rfl, ?_⟩) (by assumption) ?_
        rotate_left 1
        focus (intro w hSw; (try dsimp only at hSw); go_simp; (try with_reducible rfl))
        try simp only [List.getElem_toArray, List.getElem_cons_succ, List.getElem_cons_zero, Act.put, List.setIfInBounds_toArray, List.set_cons_zero, List.set_cons_succ]
        refine Reg.takeT (i := 4) (v := ?_) rfl (by kernel_rfl) (by kernel_rfl) (by kernel_rfl) (by kernel_rfl) (fun _ _ _ h => h) (Or.inl ⟨by rfl, ?_⟩) (by assumption) ?_
        rotate_left 1
        focus (intro w hSw; (try dsimp only at hSw); go_simp; (try with_reducible rfl))
        try simp only [List.getElem_toArray, List.getElem_cons_succ, List.getElem_cons_zero, Act.put, List.setIfInBounds_toArray, List.set_cons_zero, List.set_cons_succ]
        refine Reg.takeT (i := 5) (v := ?_) rfl (by kernel_rfl) (by kernel_rfl) (by kernel_rfl) (by kernel_rfl) (fun _ _ _ h => h) (Or.inl ⟨by rfl, ?_⟩) (by assumption) ?_
        rotate_left 1
        focus (intro w hSw; (try dsimp only at hSw); go_simp; (try with_reducible rfl))
        try simp only [List.getElem_toArray, List.getElem_cons_succ, List.getElem_cons_zero, Act.put, List.setIfInBounds_toArray, List.set_cons_zero, List.set_cons_succ]
        refine Reg.takeT (i := 6) (v := ?_) rfl (by kernel_rfl) (by kernel_rfl) (by kernel_rfl) (by kernel_rfl) (fun _ _ _ h => h) (Or.inl ⟨by rfl, ?_⟩) (by assumption) ?_
        rotate_left 1
        focus (intro w hSw; (try dsimp only at hSw); go_simp; (try with_reducible rfl))
        try simp only [List.getElem_toArray, List.getElem_cons_succ, List.getElem_cons_zero, Act.put, List.setIfInBounds_toArray, List.set_cons_zero, List.set_cons_succ]
        refine Reg.takeT (i := 7) (v := ?_) rfl (by kernel_rfl) (by kernel_rfl) (by kernel_rfl) (by kernel_rfl) (fun _ _ _ h => h) (Or.inl ⟨by rfl, ?_⟩) (by assumption) ?_
        rotate_left 1
        focus (intro w hSw; (try dsimp only at hSw); go_simp; (try with_reducible rfl))
        try simp only [List.getElem_toArray, List.getElem_cons_succ, List.getElem_cons_zero, Act.put, List.setIfInBounds_toArray, List.set_cons_zero, List.set_cons_succ]
        refine Reg.takeT (i := 8) (v := ?_) rfl (by kernel_rfl) (by kernel_rfl) (by kernel_rfl) (by kernel_rfl) (fun _ _ _ h => h) (Or.inl ⟨by rfl, ?_⟩) (by assumption) ?_
        rotate_left 1
        focus (intro w hSw; (try dsimp only at hSw); go_simp; (try with_reducible rfl))
        try simp only [List.getElem_toArray, List.getElem_cons_succ, List.getElem_cons_zero, Act.put, List.setIfInBounds_toArray, List.set_cons_zero, List.set_cons_succ]
        refine Reg.takeT (i := 9) (v := ?_) rfl (by kernel_rfl) (by kernel_rfl) (by kernel_rfl) (by kernel_rfl) (fun _ _ _ h => h) (Or.inl ⟨by rfl, ?_⟩) (by assumption) ?_
        rotate_left 1
        focus (intro w hSw; (try dsimp only at hSw); go_simp; (try with_reducible rfl))
        try simp only [List.getElem_toArray, List.getElem_cons_succ, List.getElem_cons_zero, Act.put, List.setIfInBounds_toArray, List.set_cons_zero, List.set_cons_succ]
        refine Reg.oneT (i := 10) rfl (by kernel_rfl) (fun K hK => ?_)
        refine step_copy_row (by rfl) _ _ 22 22 (by rfl) 5 Try.underlying22 (by kernel_rfl) g i (zs.length - i) (c2 - i) ⟨bz, offz, none⟩ qz.length qc (by show Value.slice (if c2 = i then _ else _) _ _ = _; rw [if_neg (by omega)]) (by rfl) curv 5 HGV.out (ints .u8 qz) (by rw [HIL.out]; exact (Nat.min_eq_left (by omega)).symm) HC.out.1 (by rw [HIL.out]; omega) oneI ?_
        have hS : ∀ W, W = wv.drew.setRow g (Go.splice curv i (ints .u8 qz)).toArray → Inv w1 w1.heap.size Y b (some ⟨g, 0, none⟩) zs.length c2 (PPatch.splice cur i qz) W ∧ (W.cell? ⟨Y, 1, none⟩ = some (.slice (some ⟨g, 0, none⟩) zs.length c2) ∧ W.cell? ⟨v, 0, none⟩ = some (.int .i64 qa) ∧ W.cell? ⟨v, 1, none⟩ = some (.slice (some ⟨bz, offz, none⟩) qz.length qc) ∧ W.cell? ⟨w.heap.size, 0, none⟩ = some (.int .i64 b)) := by
          rintro W rfl
          have e1 := (box_setRow (w := wv) HBX.out.1 HGV.out (by decide) (Go.splice curv i (ints .u8 qz)).toArray).drew
          have e2 := (box_setRow (w := wv) V HGV.out (by decide) (Go.splice curv i (ints .u8 qz)).toArray).drew
          have e3 := (box_setRow (w := wv) HBX.out.2 HGV.out (by decide) (Go.splice curv i (ints .u8 qz)).toArray).drew
          exact ⟨(HC.out.2 i qz hiz).call (below_dr (Below.refl _ _)), e1.cell 1, e2.cell 0, e2.cell 1, e3.cell 0⟩
        obtain ⟨W, hW⟩ : ∃ W, W = wv.drew.setRow g (Go.splice curv i (ints .u8 qz)).toArray := ⟨_, rfl⟩
        rw [← hW]
        have HS := hide (hS W hW)
        clear hS hW hHeld x0 x1 v0 v1
        refine hK.out _ _ HS.out.2 ?_
        clear hK K
        try simp only [List.getElem_toArray, List.getElem_cons_succ, List.getElem_cons_zero, Act.put, List.setIfInBounds_toArray, List.set_cons_zero, List.set_cons_succ]
        refine Reg.doneT (by kernel_rfl) ?_ _
        clear w50
        go_wp2_with fail
        go_roundw
        case rel => exact ⟨k + 1, PPatch.splice cur i qz, by omega, by go_num, H4.out, HAP.out, HS.out.1⟩
        case measure => simp [intOf]; omega
      · have e : k = ps.length := by omega
        subst e
        rw [← HDL.out, List.drop_length] at hap
        simp only [apply] at hap
        have hX1 := HX1.out.2.below hI.2.2.2.2 HX1.out.2.lt
        have x0 := hI.1.cell 0
        have x1 := hI.1.cell 1
        have y0 := hX1.cell 0
        have y1 := hX1.cell 1
        have yf0 := hX1.frozen 0
        have yf1 := hX1.frozen 1
        simp only [List.getElem?_toArray, List.getElem?_cons_zero, List.getElem?_cons_succ] at x0 x1 y0 y1
        have k' := put2_box hX1 (.int .i64 b) (.slice A2 zs.length c2)
        have k0 := k'.cell 0
        have k1 := k'.cell 1
        simp only [List.getElem?_toArray, List.getElem?_cons_zero, List.getElem?_cons_succ] at k0 k1
        have HF := hide (show RetImg b (apply b zs ds) true w (.returned (.tuple #[.agg #[.int .i64 b, .slice A2 zs.length c2], .bool true])) ((wr.setCell ⟨w.heap.size + 1, 0, none⟩ (.int .i64 b)).setCell ⟨w.heap.size + 1, 1, none⟩ (.slice A2 zs.length c2)) from by
          rw [← hap, ← hI.2.2.1]
          refine ⟨A2, c2, rfl, ?_, put2_below (HB1.out.trans (hI.2.2.2.2.mono HB1.out.size)) (Nat.le_succ _) _ _⟩
          refine put2_row ?_ hX1 (by decide) _ _
          have := hI.2.2.2.1.down HB1.out.size
          rw [← hI.2.2.1] at this
          exact this)
        clear k' hI hX1 hap hx
        go_wp2_with fail
        exact bodyPost_ret (v := .tuple #[.agg #[.int .i64 b, .slice A2 zs.length c2], .bool true]) (by simp [results, Try.results16, go_sem, k0, k1]) rfl (by rw [HOKF.out]; exact HF.out)
end Go.Proofs.Ytjnnjgogpapbhaa.CApplyI
