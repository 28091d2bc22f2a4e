/- WriteObject's bytes, of valid objects; the program's. -/
import Derived.Test.YtmglgjchemecjaaFnSameObjectM7
set_option linter.unusedSimpArgs false
set_option linter.unusedVariables false
namespace Go.Proofs.Ytmglgjchemecjaa.CWriteB
set_option maxRecDepth 200000
open Go.ChangeShapes Go.WideShapes Go.ChangeAt Go.RowKit Kit CCode CName CNumber CFixups CSymbols PObj BObj PValid PWarn PClear CSecValid CObjValid BStore CMarkRows BList PLink PLinkL CSorted CNames CNameTab CTable CTableOf CPlOf CHead CWriteO
def b8 (x : Int) : Int := IntKind.u8.wrap x
def secB (t : List Int) (s : SD) : List Int := pnum (plOf t s.nm) 2 ++ [b8 s.kd, b8 s.al, b8 (secSize s), b8 s.fs.length]
def symB (t : List Int) (y : YD) : List Int := pnum (plOf t y.1) 2 ++ [b8 y.2.1, b8 (y.2.2.1 + 2)] ++ pnum y.2.2.2 2
def fixB (f : FD) : List Int := [b8 f.1, b8 f.2.1, b8 f.2.2.1] ++ pnum (f.2.2.2 + 1000) 2
def tabD (d : OD) : List Int := tabN (namesD d)
def writeB (d : OD) : List Int := headB d.ss.length d.ys.length (fixN d.ss) (tabD d).length ++ d.ss.flatMap (secB (tabD d)) ++ d.ys.flatMap (symB (tabD d)) ++ d.ss.flatMap (fun s => s.fs.flatMap fixB) ++ tabD d ++ d.ss.flatMap (fun s => s.zs)
theorem fixes_pl {many : Int} {n : Nat} : ∀ {e : Int} {fs : List FD}, fixesOk many n e fs = true → ∀ f ∈ fs, -1000 ≤ f.2.2.2 ∧ f.2.2.2 ≤ 1000
  | _, [], _ => fun f hf => by cases hf
  | _, g :: fs, h => by
    simp only [fixesOk, Bool.and_eq_true] at h
    intro f hf
    rcases List.mem_cons.1 hf with rfl | hf
    · exact (fixOk_iff.1 h.1).2.2.2.1
    · exact fixes_pl h.2 f hf
theorem sec_pl {many : Int} {d : SD} (h : secOk many d = true) : ∀ f ∈ d.fs, -1000 ≤ f.2.2.2 ∧ f.2.2.2 ≤ 1000 := by
  rw [secOk, Bool.and_eq_true] at h
  obtain ⟨_, h⟩ := h
  split at h
  · simp only [blankOk, Bool.and_eq_true, decide_eq_true_eq] at h
    have : d.fs = [] := List.eq_nil_of_length_eq_zero h.2
    rw [this]
    intro f hf
    cases hf
  · simp only [bodyOk, Bool.and_eq_true, decide_eq_true_eq] at h
    exact fixes_pl h.2
theorem pnum_le (n : Int) : (pnum n 2).length ≤ 2 := by
  unfold pnum
  split
  · rw [putL_len]
    decide
  · simp
theorem fixB_le (f : FD) : (fixB f).length ≤ 5 := by
  have := pnum_le (f.2.2.2 + 1000)
  simp only [fixB, List.length_append, List.length_cons, List.length_nil]
  omega
theorem tab_len {all : List ByteArray} (h : ∀ x ∈ all, x.size ≤ 8) : 1 ≤ (tabL all).length ∧ (tabL all).length ≤ 1 + 9 * all.length := by
  unfold tabL
  rw [List.length_cons]
  have key : ∀ (l : List ByteArray), (∀ x ∈ l, x.size ≤ 8) → (l.flatMap (tabStep all)).length ≤ 9 * l.length := by
    intro l
    induction l with
    | nil => intro _; simp
    | cons x xs ih =>
      intro hl
      have h1 := ih fun y hy => hl y (List.mem_cons_of_mem _ hy)
      have h2 : (tabStep all x).length ≤ 9 := by
        unfold tabStep
        cases CNameTab.endsIn all x
        · simp only [cond_false, List.length_append, List.length_cons, List.length_nil, strI_len]
          have := hl x List.mem_cons_self
          omega
        · simp
      simp only [List.flatMap_cons, List.length_append, List.length_cons]
      omega
  have := key all h
  omega
theorem tab_in (all : List ByteArray) : InR 0 255 (tabL all) := by
  intro x hx
  unfold tabL at hx
  rcases List.mem_cons.1 hx with rfl | hx
  · omega
  · obtain ⟨n, hn, hx⟩ := List.mem_flatMap.1 hx
    unfold tabStep at hx
    cases h : CNameTab.endsIn all n
    · rw [h] at hx
      simp only [cond_false, List.mem_append, List.mem_singleton] at hx
      rcases hx with hx | rfl
      · unfold strI at hx
        obtain ⟨b, _, rfl⟩ := List.mem_map.1 hx
        have := b.toNat_lt
        omega
      · omega
    · rw [h] at hx
      cases hx
/-- What stands while an object is written. -/
structure WI (w0 : World) (o : OV) (At : Option Addr) (ct : Nat) (t : List Int) (A : Option Addr) (c : Nat) (zs : List Int) (w : World) : Prop where
  row : Row w w0.heap.size 5 1 A zs.length c (ints .u8 zs)
  tb : Row w w0.heap.size 5 1 At t.length ct (ints .u8 t)
  ap : Apart A c At ct
  bx : Box w w0.heap.size 26 #[.slice o.A o.ps.length o.c, .slice o.Y o.ys.length o.yc]
  b : Below w0.heap.size w0 w
section
variable {w0 w w' : World} {o : OV} {At A A' : Option Addr} {ct c n' c' : Nat} {t zs ys : List Int}
theorem WI.call (h : WI w0 o At ct t A c zs w) (hb : Below w.heap.size w w') : WI w0 o At ct t A c zs w' := ⟨h.row.call hb, h.tb.call hb, h.ap, h.bx.call hb, h.b.trans (hb.mono h.b.size)⟩
theorem WI.add (h : WI w0 o At ct t A c zs w) (hn : n' = zs.length + ys.length) (r : Row w' w0.heap.size 5 1 A' n' c' (ints .u8 zs ++ ints .u8 ys)) (g : w.grownBy w' (blk A c)) (hk : ∀ k, blk A' c' = some k → blk A c = some k ∨ w.heap.size ≤ k) :
    WI w0 o At ct t A' c' (zs ++ ys) w' := by
  subst hn
  refine ⟨?_, h.tb.grown g (fun k hk e => h.ap k e hk), ?_, h.bx.grown g (h.row.box h.bx (by decide)), h.b.grown g h.b.size (fun j hj => (h.row.lt j hj).1)⟩
  · rw [List.length_append, show ints .u8 (zs ++ ys) = ints .u8 zs ++ ints .u8 ys by simp [ints]]
    exact r
  · intro k h1 h2
    rcases hk k h1 with h3 | h3
    · exact h.ap k h3 h2
    · have := (h.tb.lt k h2).2
      omega
end
set_option maxHeartbeats 8000000 in
theorem writeObject_any (o : OV) (w : World) (hr : RdO w w.heap.size o) (hf : Fit o) (hok : objOk o.d = true) (hn : ∀ p ∈ o.ps, p.A = none → p.c = 0) :
    Calls Try.prog 88 #[.agg #[.slice o.A o.ps.length o.c, .slice o.Y o.ys.length o.yc]] w (RetB (writeB o.d) w) := by
  obtain ⟨i0, hi1, hi2, hi3, hi4⟩ := info_parts CNumber.info8
  have HI := hide (And.intro hi1 (And.intro hi2 (And.intro hi3 hi4)))
  clear hi1 hi2 hi3 hi4
  obtain ⟨g8, g12, g3, g4, _⟩ := (obj_iff _).1 hok
  have h8 : o.ps.length ≤ 8 := by simpa [OV.d] using g8
  have h12 : o.ys.length ≤ 12 := g12
  have HAL := hide (obj_all hok).2.2
  have H6 := hide (show ∀ p ∈ o.ps, p.fs.length ≤ 6 ∧ p.zs.length ≤ 48 from fun p hp => by
    have h := (obj_all hok).2.2 p.d (List.mem_map_of_mem hp)
    exact ⟨h.1, h.2.1⟩)
  have hfx := fixN_bd o.d.ss fun s hs => ((obj_all hok).2.2 s hs).1
  have hfx2 : o.d.ss.length = o.ps.length := by simp [OV.d]
  have HTB := hide (show (1 ≤ (tabN (namesD o.d)).length ∧ (tabN (namesD o.d)).length ≤ 181) ∧ InR 0 255 (tabN (namesD o.d)) from by
    have hno : namesOk (namesD o.d) = true := by
      unfold namesOk namesD
      simp only [Bool.and_eq_true, decide_eq_true_eq, List.all_eq_true]
      refine ⟨by simp; omega, fun x hx => ?_⟩
      rcases List.mem_append.1 hx with hx | hx
      · obtain ⟨s, hs, rfl⟩ := List.mem_map.1 hx
        have h := g3 s hs
        simp only [secOk, PValid.headOk, Bool.and_eq_true] at h
        exact h.1.1.1
      · obtain ⟨y, hy, rfl⟩ := List.mem_map.1 hx
        have h := g4 y hy
        simp only [symOk, bindOk, Bool.and_eq_true] at h
        exact h.1.1
    have e : tabN (namesD o.d) = tabL (srtN (namesD o.d)) := by unfold tabN; rw [hno]; rfl
    rw [e]
    have hsz : ∀ x ∈ srtN (namesD o.d), x.size ≤ 8 := fun x hx => by
      simp only [namesOk, Bool.and_eq_true, List.all_eq_true] at hno
      exact name_size (hno.2 x (srt_mem hx))
    obtain ⟨t1, t2⟩ := tab_len hsz
    have hl := srt_len_le (namesD o.d)
    have hl2 : (namesD o.d).length ≤ 20 := by simp [namesD]; omega
    exact ⟨⟨t1, by omega⟩, tab_in _⟩)
  have HFP := hide (show ∀ p ∈ o.ps, ∀ f ∈ p.fs, -1000 ≤ f.2.2.2 ∧ f.2.2.2 ≤ 1000 from fun p hp => sec_pl (g3 p.d (List.mem_map_of_mem hp)))
  have H4 := hide (show ∀ y ∈ o.ys, -2 ≤ y.2.2.1 ∧ y.2.2.1 ≤ 7 from fun y hy => by
    have h := g4 y hy
    simp only [symOk, placeOk, Bool.and_eq_true] at h
    have h2 := h.2
    split at h2
    · omega
    · split at h2
      · omega
      · simp only [inB, Bool.and_eq_true, decide_eq_true_eq] at h2
        have : (o.d.ss.length : Int) ≤ 8 := by exact_mod_cast g8
        omega)
  clear g8 g12 g3 g4
  have HR := hide hr
  have HF := hide hf
  have HN := hide hn
  have HOK := hide hok
  have HB := hide (show Below w.heap.size w (w.alloc (.cells #[.slice o.A o.ps.length o.c, .slice o.Y o.ys.length o.yc] 26)) from (by repeat (first | exact Below.refl _ _ | with_reducible assumption | (refine Below.drew ?_) | (refine Below.drewN ?_ _) | (refine Below.alloc ?_ (by simp; try omega) _) | (refine Below.setCell ?_ (by simp; try omega) _))))
  have HX := hide (Box.new w 26 #[.slice o.A o.ps.length o.c, .slice o.Y o.ys.length o.yc])
  clear hr hf hn hok
  have x0 := HX.out.cell 0
  have x1 := HX.out.cell 1
  simp only [List.getElem?_toArray, List.getElem?_cons_zero, List.getElem?_cons_succ] at x0 x1
  have hxl := HX.out.lt
  go_enter Try.func88, Try.ntmps88
  go_wp2_with fail
  clear x0 x1 hxl
  generalize w.alloc (.cells #[.slice o.A o.ps.length o.c, .slice o.Y o.ys.length o.yc] 26) = w0 at *
  refine (objectValid_any o w0 ((HR.out.below HB.out).more HB.out.size) HF.out).mono ?_
  rintro e w1 ⟨rfl, b1⟩
  rw [HOK.out]
  replace HB := hide (HB.out.trans (b1.mono HB.out.size))
  replace HX := hide (HX.out.call b1)
  clear b1
  have x0 := HX.out.cell 0
  have x1 := HX.out.cell 1
  simp only [List.getElem?_toArray, List.getElem?_cons_zero, List.getElem?_cons_succ] at x0 x1
  have hxl := HX.out.lt
  go_wp2_with fail
  clear x0 x1 hxl
  refine (tableOf_any o w1 ((HR.out.below HB.out).more HB.out.size) HF.out h8 h12).mono ?_
  rintro e w2 ⟨At, ct, rfl, rt, b2⟩
  have HT := hide (rt.down HB.out.size)
  have HTN := hide rt
  replace HB := hide (HB.out.trans (b2.mono HB.out.size))
  replace HX := hide (HX.out.call b2)
  clear b2
  clear rt
  generalize hT : tabN (namesD o.d) = t at *
  have HTD := hide (show tabD o.d = t from hT)
  obtain ⟨ht1, ht2⟩ := HTB.out.1
  have hkt : ∀ k, blk At ct = some k → k < w2.heap.size := fun k hk => (HT.out.lt k hk).2
  have HKT := hide hkt
  clear hT HTN hkt
  have x0 := HX.out.cell 0
  have x1 := HX.out.cell 1
  simp only [List.getElem?_toArray, List.getElem?_cons_zero, List.getElem?_cons_succ] at x0 x1
  have hxl := HX.out.lt
  go_wp2_with fail
  have Z0 : w2.cell? ⟨w.heap.size, 0, none⟩ = some (.slice o.A o.ps.length o.c) ∧ w2.cell? ⟨w.heap.size, 1, none⟩ = some (.slice o.Y o.ys.length o.yc) := ⟨x0, x1⟩
  refine Reg.startT (fun W => W.cell? ⟨w.heap.size, 0, none⟩ = some (.slice o.A o.ps.length o.c) ∧ W.cell? ⟨w.heap.size, 1, none⟩ = some (.slice o.Y o.ys.length o.yc)) (fun _ => false) (by kernel_rfl) ?_
  have hHeld : w2.drew.cell? ⟨w.heap.size, 0, none⟩ = some (.slice o.A o.ps.length o.c) ∧ w2.drew.cell? ⟨w.heap.size, 1, none⟩ = some (.slice o.Y o.ys.length o.yc) := Z0
  clear Z0 x0 x1 hxl
  refine Reg.takeT (i := 0) (v := ?_) rfl (by kernel_rfl) (by kernel_rfl) (by kernel_rfl) (by kernel_rfl) (fun _ _ _ h => h) (Or.inl ⟨by rfl, ?_⟩) (by assumption) ?_
  rotate_left 1
  focus (intro w hSw; (try dsimp only at hSw); go_simp; (try with_reducible rfl))
  try simp only [List.getElem_toArray, List.getElem_cons_succ, List.getElem_cons_zero, Act.put, List.setIfInBounds_toArray, List.set_cons_zero, List.set_cons_succ]
  refine Reg.takeT (i := 1) (v := ?_) rfl (by kernel_rfl) (by kernel_rfl) (by kernel_rfl) (by kernel_rfl) (fun _ _ _ h => h) (Or.inl ⟨by rfl, ?_⟩) (by assumption) ?_
  rotate_left 1
  focus (intro w hSw; (try dsimp only at hSw); go_simp; (try with_reducible rfl))
  try simp only [List.getElem_toArray, List.getElem_cons_succ, List.getElem_cons_zero, Act.put, List.setIfInBounds_toArray, List.set_cons_zero, List.set_cons_succ]
  refine Reg.takeT (i := 2) (v := ?_) rfl (by kernel_rfl) (by kernel_rfl) (by kernel_rfl) (by kernel_rfl) (fun _ _ _ h => h) (Or.inl ⟨by rfl, ?_⟩) (by assumption) ?_
  rotate_left 1
  focus (intro w hSw; (try dsimp only at hSw); go_simp; (try with_reducible rfl))
  try simp only [List.getElem_toArray, List.getElem_cons_succ, List.getElem_cons_zero, Act.put, List.setIfInBounds_toArray, List.set_cons_zero, List.set_cons_succ]
  refine Reg.takeT (i := 3) (v := ?_) rfl (by kernel_rfl) (by kernel_rfl) (by kernel_rfl) (by kernel_rfl) (fun _ _ _ h => h) (Or.inl ⟨by rfl, ?_⟩) (by assumption) ?_
  rotate_left 1
  focus (intro w hSw; (try dsimp only at hSw); go_simp; (try with_reducible rfl))
  try simp only [List.getElem_toArray, List.getElem_cons_succ, List.getElem_cons_zero, Act.put, List.setIfInBounds_toArray, List.set_cons_zero, List.set_cons_succ]
  refine Reg.takeT (i := 4) (v := ?_) rfl (by kernel_rfl) (by kernel_rfl) (by kernel_rfl) (by kernel_rfl) (fun _ _ _ h => h) (Or.inl ⟨by rfl, ?_⟩) (by assumption) ?_
  rotate_left 1
  focus (intro w hSw; (try dsimp only at hSw); go_simp; (try with_reducible rfl))
  try simp only [List.getElem_toArray, List.getElem_cons_succ, List.getElem_cons_zero, Act.put, List.setIfInBounds_toArray, List.set_cons_zero, List.set_cons_succ]
  refine Reg.takeT (i := 5) (v := ?_) rfl (by kernel_rfl) (by kernel_rfl) (by kernel_rfl) (by kernel_rfl) (fun _ _ _ h => h) (Or.inl ⟨by rfl, ?_⟩) (by assumption) ?_
  rotate_left 1
  focus (intro w hSw; (try dsimp only at hSw); go_simp; (try with_reducible rfl))
  try simp only [List.getElem_toArray, List.getElem_cons_succ, List.getElem_cons_zero, Act.put, List.setIfInBounds_toArray, List.set_cons_zero, List.set_cons_succ]
  refine Reg.takeT (i := 6) (v := ?_) rfl (by kernel_rfl) (by kernel_rfl) (by kernel_rfl) (by kernel_rfl) (fun _ _ _ h => h) (Or.inl ⟨by rfl, ?_⟩) (by assumption) ?_
  rotate_left 1
  focus (intro w hSw; (try dsimp only at hSw); go_simp; (try with_reducible rfl))
  try simp only [List.getElem_toArray, List.getElem_cons_succ, List.getElem_cons_zero, Act.put, List.setIfInBounds_toArray, List.set_cons_zero, List.set_cons_succ]
  refine Reg.takeT (i := 8) (v := ?_) rfl (by kernel_rfl) (by kernel_rfl) (by kernel_rfl) (by kernel_rfl) (fun _ _ _ h => h) (Or.inl ⟨by rfl, ?_⟩) (by assumption) ?_
  rotate_left 1
  focus (intro w hSw; (try dsimp only at hSw); go_simp; (try with_reducible rfl))
  try simp only [List.getElem_toArray, List.getElem_cons_succ, List.getElem_cons_zero, Act.put, List.setIfInBounds_toArray, List.set_cons_zero, List.set_cons_succ]
  refine Reg.takeT (i := 9) (v := ?_) rfl (by kernel_rfl) (by kernel_rfl) (by kernel_rfl) (by kernel_rfl) (fun _ _ _ h => h) (Or.inl ⟨by rfl, ?_⟩) (by assumption) ?_
  rotate_left 1
  focus (intro w hSw; (try dsimp only at hSw); go_simp; (try with_reducible rfl))
  try simp only [List.getElem_toArray, List.getElem_cons_succ, List.getElem_cons_zero, Act.put, List.setIfInBounds_toArray, List.set_cons_zero, List.set_cons_succ]
  have bd : Below w2.heap.size w2 w2.drew := below_dr (Below.refl _ _)
  have hs2 : w2.drew.heap.size = w2.heap.size := rfl
  replace HT := hide (HT.out.call bd)
  replace HB := hide (HB.out.trans (bd.mono HB.out.size))
  replace HX := hide (HX.out.call bd)
  clear bd
  generalize w2.drew = w3 at *
  refine Reg.oneT (i := 7) rfl (by kernel_rfl) (fun K hK => ?_)
  go_simp
  refine (fixupsOf_any o w3 ((HR.out.below HB.out).more HB.out.size) h8 (fun p hp => (H6.out p hp).1)).mono ?_
  rintro e w4 ⟨rfl, b4⟩
  have hs4 : w2.heap.size ≤ w4.heap.size := by have := b4.size; omega
  replace HT := hide (HT.out.call b4)
  replace HB := hide (HB.out.trans (b4.mono HB.out.size))
  replace HX := hide (HX.out.call b4)
  clear b4
  clear hHeld hs2
  have x0 := HX.out.cell 0
  have x1 := HX.out.cell 1
  simp only [List.getElem?_toArray, List.getElem?_cons_zero, List.getElem?_cons_succ] at x0 x1
  have hHeld : w4.cell? ⟨w.heap.size, 0, none⟩ = some (.slice o.A o.ps.length o.c) ∧ w4.cell? ⟨w.heap.size, 1, none⟩ = some (.slice o.Y o.ys.length o.yc) := ⟨x0, x1⟩
  clear x0 x1
  refine hK.out _ _ hHeld ?_
  clear hK K
  try simp only [List.getElem_toArray, List.getElem_cons_succ, List.getElem_cons_zero, Act.put, List.setIfInBounds_toArray, List.set_cons_zero, List.set_cons_succ]
  refine Reg.takeT (i := 10) (v := ?_) rfl (by kernel_rfl) (by kernel_rfl) (by kernel_rfl) (by kernel_rfl) (fun _ _ _ h => h) (Or.inl ⟨by rfl, ?_⟩) (by assumption) ?_
  rotate_left 1
  focus (intro w hSw; (try dsimp only at hSw); go_simp; (try with_reducible rfl))
  try simp only [List.getElem_toArray, List.getElem_cons_succ, List.getElem_cons_zero, Act.put, List.setIfInBounds_toArray, List.set_cons_zero, List.set_cons_succ]
  have HHO := hide (show CHead.headOk o.ps.length o.ys.length (fixN o.d.ss) t.length = true from by
    simp only [CHead.headOk, Bool.and_eq_true, inB, decide_eq_true_eq]
    omega)
  generalize hfn : fixN o.d.ss = fn at *
  have HFN := hide hfn
  clear hfn
  refine Reg.oneT (i := 11) rfl (by kernel_rfl) (fun K hK => ?_)
  go_simp
  refine (putHeader_any o.ps.length o.ys.length fn t.length w4 HHO.out).mono ?_
  rintro e w5 ⟨A5, c5, rfl, r5, b5⟩
  have HHL := hide (show (headB o.ps.length o.ys.length fn t.length).length = 10 from by
    unfold headB
    simp [putL_len])
  generalize hhd : headB o.ps.length o.ys.length fn t.length = hd at *
  have HHD := hide hhd
  clear hhd
  have HW := hide (show WI w o At ct t A5 c5 hd w5 from ⟨r5.down HB.out.size, HT.out.call b5, (fun k h1 h2 => by
    have e1 := (r5.lt k h1).1
    have e2 := HKT.out k h2
    omega), HX.out.call b5, HB.out.trans (b5.mono HB.out.size)⟩)
  have hz0 := (HX.out.call b5).cell 0
  have hz1 := (HX.out.call b5).cell 1
  clear r5 b5 hHeld
  refine hK.out _ _ ⟨by simpa using hz0, by simpa using hz1⟩ ?_
  clear hK K
  try simp only [List.getElem_toArray, List.getElem_cons_succ, List.getElem_cons_zero, Act.put, List.setIfInBounds_toArray, List.set_cons_zero, List.set_cons_succ]
  have hHeld : w5.cell? ⟨w.heap.size, 0, none⟩ = some (.slice o.A o.ps.length o.c) ∧ w5.cell? ⟨w.heap.size, 1, none⟩ = some (.slice o.Y o.ys.length o.yc) := ⟨by simpa using hz0, by simpa using hz1⟩
  clear hz0 hz1 HT HX HB
  refine Reg.takeT (i := 12) (v := ?_) rfl (by kernel_rfl) (by kernel_rfl) (by kernel_rfl) (by kernel_rfl) (fun _ _ _ h => h) (Or.inl ⟨by rfl, ?_⟩) (by assumption) ?_
  rotate_left 1
  focus (intro w hSw; (try dsimp only at hSw); go_simp; (try with_reducible rfl))
  try simp only [List.getElem_toArray, List.getElem_cons_succ, List.getElem_cons_zero, Act.put, List.setIfInBounds_toArray, List.set_cons_zero, List.set_cons_succ]
  clear hHeld
  refine Reg.doneT (by kernel_rfl) ?_ _
  have x0 := HW.out.bx.cell 0
  simp only [List.getElem?_toArray, List.getElem?_cons_zero] at x0
  have hxl := HW.out.bx.lt
  go_wp2_with fail
  clear x0 hxl
  go_loopw [4, 35] (fun s i wi => ∃ (k : Nat) (A1 : Option Addr) (c1 : Nat) (zs : List Int), k ≤ o.ps.length ∧ s = .slice A1 zs.length c1 ∧ i = .int .i64 k ∧ zs = hd ++ ((o.ps.take k).map SV.d).flatMap (secB t) ∧ zs.length ≤ 10 + 6 * k ∧ WI w o At ct t A1 c1 zs wi) (fun _ i _ => o.ps.length - (intOf i).toNat)
  case atStart => exact ⟨0, A5, c5, hd, Nat.zero_le _, rfl, rfl, (List.append_nil _).symm, by rw [HHL.out]; decide, HW.out⟩
  case round =>
    clear HW
    obtain ⟨k, A1, c1, zs, hk, rfl, rfl, hzs, hzl, hw⟩ := hrel
    have HW := hide hw
    by_cases hlt : k < o.ps.length
    · obtain ⟨b, off, hA, hbb, hc⟩ := (HR.out.1.1.below hw.b).row secC_len (by decide) hlt
      have hc0 := hc 0 _ rfl
      have hc1 := hc 1 _ rfl
      have hc2 := hc 2 _ rfl
      have hc3 := hc 3 _ rfl
      have hc4 := hc 4 _ rfl
      have hc5 := hc 5 _ rfl
      simp only [Nat.add_zero] at hc0
      have HZ := hide (show hd ++ ((o.ps.take (k + 1)).map SV.d).flatMap (secB t) = zs ++ secB t (o.ps[k]).d from by
        rw [take_succ hlt, List.map_append, List.flatMap_append, ← List.append_assoc, ← hzs]
        simp)
      have hlim := H6.out _ (List.getElem_mem hlt)
      obtain ⟨hl6, hl48⟩ := hlim
      clear hw hzs hc
      rw [hA]
      have HA := hide hA
      clear hA
      generalize o.ps[k] = p at *
      have B1 : Below wr.heap.size wr (wr.alloc (.cells #[.string p.nm, .int .i64 p.kd, .int .i64 p.al, .slice p.A p.zs.length p.c, .int .i64 p.sz, .slice p.F p.fs.length p.fc] 73)) := (by repeat (first | exact Below.refl _ _ | with_reducible assumption | (refine Below.drew ?_) | (refine Below.drewN ?_ _) | (refine Below.alloc ?_ (by simp; try omega) _) | (refine Below.setCell ?_ (by simp; try omega) _)))
      have HS := hide (Box.new wr 73 #[.string p.nm, .int .i64 p.kd, .int .i64 p.al, .slice p.A p.zs.length p.c, .int .i64 p.sz, .slice p.F p.fs.length p.fc])
      replace HW := hide (HW.out.call B1)
      clear B1
      go_wp2_with fail
      clear hc0 hc1 hc2 hc3 hc4 hc5
      generalize wr.alloc (.cells #[.string p.nm, .int .i64 p.kd, .int .i64 p.al, .slice p.A p.zs.length p.c, .int .i64 p.sz, .slice p.F p.fs.length p.fc] 73) = ws at *
      generalize wr.heap.size = S at *
      refine (CPlOf.placeOf_any At t ct p.nm _ ws HW.out.tb.rd HTB.out.2 (by omega) HW.out.tb.cap.1).mono ?_
      rintro e w' ⟨rfl, rfl⟩
      generalize hpl : plOf t p.nm = pl at *
      have HPL := hide hpl
      clear hpl
      go_wp2_with fail
      refine (putNumber_any pl 2 ws).mono ?_
      rintro e w7 ⟨A7, c7, rfl, o7, b7⟩
      have HO := hide (Row.own o7)
      replace HS := hide (HS.out.call b7)
      replace HW := hide (HW.out.call b7)
      have hyl := pnum_le pl
      clear o7 b7
      generalize hy : pnum pl 2 = ys at *
      have HY := hide hy
      clear hy
      have HYL := hide (show (ints .u8 ys).length = ys.length * 1 from by simp)
      go_wp2_with (at_builtin; refine wpList_app w7 rfl (.tmp 39) (.tmp 44) 22 rfl 5 i0 (.int .u8 0) 1 1 Try.underlying22 HI.out.1 HI.out.2.1 HI.out.2.2.1 HI.out.2.2.2 rfl (by decide) w.heap.size A1 zs.length c1 (ints .u8 zs) rfl HW.out.row HW.out.b.size A7 ys.length c7 (ints .u8 ys) rfl HO.out.rd HYL.out HO.out.nil oneI (by unfold maxLen; omega) (by omega) ?_)
      intro A8 n8 c8 w8 hn8 o8 g8 k8
      replace HS := hide (HS.out.grown g8 (HW.out.row.box HS.out (by decide)))
      replace HW := hide (HW.out.add hn8 o8 g8 k8)
      have hn8' : n8 = (zs ++ ys).length := by rw [hn8, List.length_append]
      have hzl8 : (zs ++ ys).length ≤ 12 + 6 * k := by rw [List.length_append]; omega
      subst hn8'
      clear hn8 o8 g8 k8 HO HYL
      generalize hq : zs ++ ys = qs at *
      have HQ := hide hq
      clear hq
      have x0 := HS.out.cell 0
      have x1 := HS.out.cell 1
      have x2 := HS.out.cell 2
      have x3 := HS.out.cell 3
      have x4 := HS.out.cell 4
      have x5 := HS.out.cell 5
      simp only [List.getElem?_toArray, List.getElem?_cons_zero, List.getElem?_cons_succ] at x0 x1 x2 x3 x4 x5
      have hxl := HS.out.lt
      go_wp2_with fail
      have Z0 : w8.cell? ⟨S, 0, none⟩ = some (.string p.nm) ∧ w8.cell? ⟨S, 1, none⟩ = some (.int .i64 p.kd) ∧ w8.cell? ⟨S, 2, none⟩ = some (.int .i64 p.al) ∧ w8.cell? ⟨S, 3, none⟩ = some (.slice p.A p.zs.length p.c) ∧ w8.cell? ⟨S, 4, none⟩ = some (.int .i64 p.sz) ∧ w8.cell? ⟨S, 5, none⟩ = some (.slice p.F p.fs.length p.fc) := ⟨x0, x1, x2, x3, x4, x5⟩
      clear x0 x1 x2 x3 x4 x5 hxl
      refine Reg.startT (fun W => W.cell? ⟨S, 0, none⟩ = some (.string p.nm) ∧ W.cell? ⟨S, 1, none⟩ = some (.int .i64 p.kd) ∧ W.cell? ⟨S, 2, none⟩ = some (.int .i64 p.al) ∧ W.cell? ⟨S, 3, none⟩ = some (.slice p.A p.zs.length p.c) ∧ W.cell? ⟨S, 4, none⟩ = some (.int .i64 p.sz) ∧ W.cell? ⟨S, 5, none⟩ = some (.slice p.F p.fs.length p.fc)) (fun j => j == 16) (by kernel_rfl) ?_
      replace HS := hide (show Box w8.drew S 73 #[.string p.nm, .int .i64 p.kd, .int .i64 p.al, .slice p.A p.zs.length p.c, .int .i64 p.sz, .slice p.F p.fs.length p.fc] from HS.out.call (below_dr (Below.refl _ _)))
      replace HW := hide (HW.out.call (below_dr (Below.refl _ _)))
      have hHeld : w8.drew.cell? ⟨S, 0, none⟩ = some (.string p.nm) ∧ w8.drew.cell? ⟨S, 1, none⟩ = some (.int .i64 p.kd) ∧ w8.drew.cell? ⟨S, 2, none⟩ = some (.int .i64 p.al) ∧ w8.drew.cell? ⟨S, 3, none⟩ = some (.slice p.A p.zs.length p.c) ∧ w8.drew.cell? ⟨S, 4, none⟩ = some (.int .i64 p.sz) ∧ w8.drew.cell? ⟨S, 5, none⟩ = some (.slice p.F p.fs.length p.fc) := Z0
      clear Z0
      generalize w8.drew = w9 at *
      refine Reg.takeT (i := 0) (v := ?_) rfl (by kernel_rfl) (by kernel_rfl) (by kernel_rfl) (by kernel_rfl) (fun _ _ _ h => h) (Or.inl ⟨by rfl, ?_⟩) (by assumption) ?_
      rotate_left 1
      focus (intro w hSw; (try dsimp only at hSw); go_simp; (try with_reducible rfl))
      try simp only [List.getElem_toArray, List.getElem_cons_succ, List.getElem_cons_zero, Act.put, List.setIfInBounds_toArray, List.set_cons_zero, List.set_cons_succ]
      refine Reg.takeT (i := 1) (v := ?_) rfl (by kernel_rfl) (by kernel_rfl) (by kernel_rfl) (by kernel_rfl) (fun _ _ _ h => h) (Or.inl ⟨by rfl, ?_⟩) (by assumption) ?_
      rotate_left 1
      focus (intro w hSw; (try dsimp only at hSw); go_simp; (try with_reducible rfl))
      try simp only [List.getElem_toArray, List.getElem_cons_succ, List.getElem_cons_zero, Act.put, List.setIfInBounds_toArray, List.set_cons_zero, List.set_cons_succ]
      refine Reg.takeT (i := 2) (v := ?_) rfl (by kernel_rfl) (by kernel_rfl) (by kernel_rfl) (by kernel_rfl) (fun _ _ _ h => h) (Or.inl ⟨by rfl, ?_⟩) (by assumption) ?_
      rotate_left 1
      focus (intro w hSw; (try dsimp only at hSw); go_simp; (try with_reducible rfl))
      try simp only [List.getElem_toArray, List.getElem_cons_succ, List.getElem_cons_zero, Act.put, List.setIfInBounds_toArray, List.set_cons_zero, List.set_cons_succ]
      refine Reg.takeT (i := 3) (v := ?_) rfl (by kernel_rfl) (by kernel_rfl) (by kernel_rfl) (by kernel_rfl) (fun _ _ _ h => h) (Or.inl ⟨by rfl, ?_⟩) (by assumption) ?_
      rotate_left 1
      focus (intro w hSw; (try dsimp only at hSw); go_simp; (try with_reducible rfl))
      try simp only [List.getElem_toArray, List.getElem_cons_succ, List.getElem_cons_zero, Act.put, List.setIfInBounds_toArray, List.set_cons_zero, List.set_cons_succ]
      refine Reg.takeT (i := 4) (v := ?_) rfl (by kernel_rfl) (by kernel_rfl) (by kernel_rfl) (by kernel_rfl) (fun _ _ _ h => h) (Or.inl ⟨by rfl, ?_⟩) (by assumption) ?_
      rotate_left 1
      focus (intro w hSw; (try dsimp only at hSw); go_simp; (try with_reducible rfl))
      try simp only [List.getElem_toArray, List.getElem_cons_succ, List.getElem_cons_zero, Act.put, List.setIfInBounds_toArray, List.set_cons_zero, List.set_cons_succ]
      refine Reg.takeT (i := 5) (v := ?_) rfl (by kernel_rfl) (by kernel_rfl) (by kernel_rfl) (by kernel_rfl) (fun _ _ _ h => h) (Or.inl ⟨by rfl, ?_⟩) (by assumption) ?_
      rotate_left 1
      focus (intro w hSw; (try dsimp only at hSw); go_simp; (try with_reducible rfl))
      try simp only [List.getElem_toArray, List.getElem_cons_succ, List.getElem_cons_zero, Act.put, List.setIfInBounds_toArray, List.set_cons_zero, List.set_cons_succ]
      refine Reg.takeT (i := 6) (v := ?_) rfl (by kernel_rfl) (by kernel_rfl) (by kernel_rfl) (by kernel_rfl) (fun _ _ _ h => h) (Or.inl ⟨by rfl, ?_⟩) (by assumption) ?_
      rotate_left 1
      focus (intro w hSw; (try dsimp only at hSw); go_simp; (try with_reducible rfl))
      try simp only [List.getElem_toArray, List.getElem_cons_succ, List.getElem_cons_zero, Act.put, List.setIfInBounds_toArray, List.set_cons_zero, List.set_cons_succ]
      refine Reg.takeT (i := 7) (v := ?_) rfl (by kernel_rfl) (by kernel_rfl) (by kernel_rfl) (by kernel_rfl) (fun _ _ _ h => h) (Or.inl ⟨by rfl, ?_⟩) (by assumption) ?_
      rotate_left 1
      focus (intro w hSw; (try dsimp only at hSw); go_simp; (try with_reducible rfl))
      try simp only [List.getElem_toArray, List.getElem_cons_succ, List.getElem_cons_zero, Act.put, List.setIfInBounds_toArray, List.set_cons_zero, List.set_cons_succ]
      refine Reg.takeT (i := 10) (v := ?_) rfl (by kernel_rfl) (by kernel_rfl) (by kernel_rfl) (by kernel_rfl) (fun _ _ _ h => h) (Or.inl ⟨by rfl, ?_⟩) (by assumption) ?_
      rotate_left 1
      focus (intro w hSw; (try dsimp only at hSw); go_simp; (try with_reducible rfl))
      try simp only [List.getElem_toArray, List.getElem_cons_succ, List.getElem_cons_zero, Act.put, List.setIfInBounds_toArray, List.set_cons_zero, List.set_cons_succ]
      refine Reg.takeT (i := 11) (v := ?_) rfl (by kernel_rfl) (by kernel_rfl) (by kernel_rfl) (by kernel_rfl) (fun _ _ _ h => h) (Or.inl ⟨by rfl, ?_⟩) (by assumption) ?_
      rotate_left 1
      focus (intro w hSw; (try dsimp only at hSw); go_simp; (try with_reducible rfl))
      try simp only [List.getElem_toArray, List.getElem_cons_succ, List.getElem_cons_zero, Act.put, List.setIfInBounds_toArray, List.set_cons_zero, List.set_cons_succ]
      refine Reg.takeT (i := 12) (v := ?_) rfl (by kernel_rfl) (by kernel_rfl) (by kernel_rfl) (by kernel_rfl) (fun _ _ _ h => h) (Or.inl ⟨by rfl, ?_⟩) (by assumption) ?_
      rotate_left 1
      focus (intro w hSw; (try dsimp only at hSw); go_simp; (try with_reducible rfl))
      try simp only [List.getElem_toArray, List.getElem_cons_succ, List.getElem_cons_zero, Act.put, List.setIfInBounds_toArray, List.set_cons_zero, List.set_cons_succ]
      refine Reg.takeT (i := 13) (v := ?_) rfl (by kernel_rfl) (by kernel_rfl) (by kernel_rfl) (by kernel_rfl) (fun _ _ _ h => h) (Or.inl ⟨by rfl, ?_⟩) (by assumption) ?_
      rotate_left 1
      focus (intro w hSw; (try dsimp only at hSw); go_simp; (try with_reducible rfl))
      try simp only [List.getElem_toArray, List.getElem_cons_succ, List.getElem_cons_zero, Act.put, List.setIfInBounds_toArray, List.set_cons_zero, List.set_cons_succ]
      refine Reg.oneT (i := 8) rfl (by kernel_rfl) (fun K hK => ?_)
      go_simp
      refine (sectionSize_any p w9 (by unfold maxLen; omega)).mono ?_
      rintro e w10 ⟨rfl, b10⟩
      clear hHeld
      replace HS := hide (HS.out.call b10)
      replace HW := hide (HW.out.call b10)
      clear b10
      have hHeld : w10.cell? ⟨S, 0, none⟩ = some (.string p.nm) ∧ w10.cell? ⟨S, 1, none⟩ = some (.int .i64 p.kd) ∧ w10.cell? ⟨S, 2, none⟩ = some (.int .i64 p.al) ∧ w10.cell? ⟨S, 3, none⟩ = some (.slice p.A p.zs.length p.c) ∧ w10.cell? ⟨S, 4, none⟩ = some (.int .i64 p.sz) ∧ w10.cell? ⟨S, 5, none⟩ = some (.slice p.F p.fs.length p.fc) := ⟨by simpa using HS.out.cell 0, by simpa using HS.out.cell 1, by simpa using HS.out.cell 2, by simpa using HS.out.cell 3, by simpa using HS.out.cell 4, by simpa using HS.out.cell 5⟩
      refine hK.out _ _ hHeld ?_
      clear hK K
      try simp only [List.getElem_toArray, List.getElem_cons_succ, List.getElem_cons_zero, Act.put, List.setIfInBounds_toArray, List.set_cons_zero, List.set_cons_succ]
      refine Reg.takeT (i := 9) (v := ?_) rfl (by kernel_rfl) (by kernel_rfl) (by kernel_rfl) (by kernel_rfl) (fun _ _ _ h => h) (Or.inl ⟨by rfl, ?_⟩) (by assumption) ?_
      rotate_left 1
      focus (intro w hSw; (try dsimp only at hSw); go_simp; (try with_reducible rfl))
      try simp only [List.getElem_toArray, List.getElem_cons_succ, List.getElem_cons_zero, Act.put, List.setIfInBounds_toArray, List.set_cons_zero, List.set_cons_succ]
      clear hHeld
      refine Reg.oneT (i := 14) rfl (by kernel_rfl) (fun K hK => ?_)
      go_simp
      have b14 : Below w10.heap.size w10 (w10.alloc (.cells #[.int .u8 (IntKind.u8.wrap p.kd), .int .u8 (IntKind.u8.wrap p.al), .int .u8 (IntKind.u8.wrap (secSize p.d)), .int .u8 (IntKind.u8.wrap p.fs.length)] 5)) := (by repeat (first | exact Below.refl _ _ | with_reducible assumption | (refine Below.drew ?_) | (refine Below.drewN ?_ _) | (refine Below.alloc ?_ (by simp; try omega) _) | (refine Below.setCell ?_ (by simp; try omega) _)))
      replace HS := hide (HS.out.call b14)
      replace HW := hide (HW.out.call b14)
      clear b14
      have HLIT := hide (rd_lit w10 #[.int .u8 (IntKind.u8.wrap p.kd), .int .u8 (IntKind.u8.wrap p.al), .int .u8 (IntKind.u8.wrap (secSize p.d)), .int .u8 (IntKind.u8.wrap p.fs.length)] 5 _ rfl)
      generalize hxs : [IntKind.u8.wrap p.kd, IntKind.u8.wrap p.al, IntKind.u8.wrap (secSize p.d), IntKind.u8.wrap p.fs.length] = xs at *
      have hxl : xs.length = 4 := by rw [← hxs]; rfl
      have HXS := hide (And.intro hxs (show ([.int .u8 (IntKind.u8.wrap p.kd), .int .u8 (IntKind.u8.wrap p.al), .int .u8 (IntKind.u8.wrap (secSize p.d)), .int .u8 (IntKind.u8.wrap p.fs.length)] : List Value) = ints .u8 xs from by rw [← hxs]; rfl))
      clear hxs
      generalize w10.alloc (.cells #[.int .u8 (IntKind.u8.wrap p.kd), .int .u8 (IntKind.u8.wrap p.al), .int .u8 (IntKind.u8.wrap (secSize p.d)), .int .u8 (IntKind.u8.wrap p.fs.length)] 5) = w11 at *
      generalize w10.heap.size = L at *
      refine hK.out _ _ ⟨by simpa using HS.out.cell 0, by simpa using HS.out.cell 1, by simpa using HS.out.cell 2, by simpa using HS.out.cell 3, by simpa using HS.out.cell 4, by simpa using HS.out.cell 5⟩ ?_
      clear hK K
      try simp only [List.getElem_toArray, List.getElem_cons_succ, List.getElem_cons_zero, Act.put, List.setIfInBounds_toArray, List.set_cons_zero, List.set_cons_succ]
      replace HLIT := hide (show Rd w11 (L + 1) (some ⟨L, 0, none⟩) (ints .u8 xs) from by
        have h := HLIT.out
        simp only at h
        rw [← HXS.out.2]
        exact h)
      refine Reg.oneT (i := 15) rfl (by kernel_rfl) (fun K hK => ?_)
      refine step_app (by rfl) _ _ 22 rfl 5 i0 (.int .u8 0) 1 1 Try.underlying22 HI.out.1 HI.out.2.1 HI.out.2.2.1 HI.out.2.2.2 rfl (by decide) w.heap.size A8 qs.length c8 (ints .u8 qs) (by rfl) HW.out.row HW.out.b.size (some ⟨L, 0, none⟩) 4 4 (ints .u8 xs) (by rfl) HLIT.out (by simp [hxl]) (fun h => by cases h) oneI (by unfold maxLen; omega) (by omega) ?_
      intro A2 n2 c2 w12 hn o12 g12 k12
      replace HS := hide (HS.out.grown g12 (HW.out.row.box HS.out (by decide)))
      replace HW := hide (HW.out.add (by rw [hxl]; exact hn) o12 g12 k12)
      have hn' : n2 = (qs ++ xs).length := by rw [hn, List.length_append, hxl]
      have hl12 : (qs ++ xs).length ≤ 10 + 6 * (k + 1) := by rw [List.length_append]; omega
      subst hn'
      clear hn o12 g12 k12 HLIT
      refine hK.out _ _ ⟨by simpa using HS.out.cell 0, by simpa using HS.out.cell 1, by simpa using HS.out.cell 2, by simpa using HS.out.cell 3, by simpa using HS.out.cell 4, by simpa using HS.out.cell 5⟩ ?_
      clear hK K
      try simp only [List.getElem_toArray, List.getElem_cons_succ, List.getElem_cons_zero, Act.put, List.setIfInBounds_toArray, List.set_cons_zero, List.set_cons_succ]
      have hHeld : w12.cell? ⟨S, 0, none⟩ = some (.string p.nm) ∧ w12.cell? ⟨S, 1, none⟩ = some (.int .i64 p.kd) ∧ w12.cell? ⟨S, 2, none⟩ = some (.int .i64 p.al) ∧ w12.cell? ⟨S, 3, none⟩ = some (.slice p.A p.zs.length p.c) ∧ w12.cell? ⟨S, 4, none⟩ = some (.int .i64 p.sz) ∧ w12.cell? ⟨S, 5, none⟩ = some (.slice p.F p.fs.length p.fc) := ⟨by simpa using HS.out.cell 0, by simpa using HS.out.cell 1, by simpa using HS.out.cell 2, by simpa using HS.out.cell 3, by simpa using HS.out.cell 4, by simpa using HS.out.cell 5⟩
      refine Reg.lastT (i := 16) rfl (by kernel_rfl) (by rfl) (fun K hK => ?_)
      go_simp
      refine hK.out _ _ ?_
      clear hK K
      try simp only [List.getElem_toArray, List.getElem_cons_succ, List.getElem_cons_zero, Act.put, List.setIfInBounds_toArray, List.set_cons_zero, List.set_cons_succ]
      refine Reg.doneT (by kernel_rfl) ?_ _
      go_wp2_with fail
      refine ⟨⟨k + 1, A2, c2, qs ++ xs, by omega, by rw [List.length_append, hxl], by go_num, ?_, hl12, HW.out⟩, by simp [intOf]; omega⟩
      rw [HZ.out, ← HQ.out, List.append_assoc]
      unfold secB b8
      show zs ++ (ys ++ xs) = zs ++ (pnum (plOf t p.nm) 2 ++ [IntKind.u8.wrap p.kd, IntKind.u8.wrap p.al, IntKind.u8.wrap (secSize p.d), IntKind.u8.wrap p.fs.length])
      rw [HPL.out, HY.out, HXS.out.1]
    · have hke : k = o.ps.length := by omega
      subst hke
      rw [List.take_length] at hzs
      have hzs : zs = hd ++ o.d.ss.flatMap (secB t) := hzs
      have hz1 : zs.length ≤ 58 := by omega
      have HZS := hide hzs
      clear hw hzs hzl hlt hk
      have x1 := HW.out.bx.cell 1
      simp only [List.getElem?_toArray, List.getElem?_cons_zero, List.getElem?_cons_succ] at x1
      have hxl := HW.out.bx.lt
      go_wp2_with fail
      clear x1 hxl
      generalize zs = zs1 at *
      generalize wr = w6 at *
      go_loopw [4, 66] (fun s i wi => ∃ (k : Nat) (A1 : Option Addr) (c1 : Nat) (zs : List Int), k ≤ o.ys.length ∧ s = .slice A1 zs.length c1 ∧ i = .int .i64 k ∧ zs = zs1 ++ (o.ys.take k).flatMap (symB t) ∧ zs.length ≤ 58 + 6 * k ∧ WI w o At ct t A1 c1 zs wi) (fun _ i _ => o.ys.length - (intOf i).toNat)
      case atStart => exact ⟨0, A1, c1, zs1, Nat.zero_le _, rfl, rfl, (List.append_nil _).symm, by omega, HW.out⟩
      case round =>
        clear HW
        obtain ⟨k, A1, c1, zs, hk, rfl, rfl, hzs, hzl, hw⟩ := hrel
        have HW := hide hw
        by_cases hlt : k < o.ys.length
        · obtain ⟨b, off, hA, hbb, hc⟩ := (HR.out.2.below hw.b).row symbolC_len (by decide) hlt
          have hc0 := hc 0 _ rfl
          have hc1 := hc 1 _ rfl
          have hc2 := hc 2 _ rfl
          have hc3 := hc 3 _ rfl
          simp only [Nat.add_zero] at hc0
          have HZ := hide (show zs1 ++ (o.ys.take (k + 1)).flatMap (symB t) = zs ++ symB t o.ys[k] from by
            rw [take_succ hlt, List.flatMap_append, ← List.append_assoc, ← hzs]
            simp)
          have hlim := H4.out _ (List.getElem_mem hlt)
          clear hw hzs hc
          rw [hA]
          have HA := hide hA
          clear hA
          generalize o.ys[k] = z at *
          obtain ⟨z1, z2, z3, z4⟩ := z
          simp only at hc0 hc1 hc2 hc3 hlim
          have hwr : IntKind.i64.wrap (z3 + 2) = z3 + 2 := IntWalk.i64_in _ (by omega)
          clear hlim
          have B1 : Below wr.heap.size wr (wr.alloc (.cells #[.string z1, .int .i64 z2, .int .i64 z3, .int .i64 z4] 69)) := (by repeat (first | exact Below.refl _ _ | with_reducible assumption | (refine Below.drew ?_) | (refine Below.drewN ?_ _) | (refine Below.alloc ?_ (by simp; try omega) _) | (refine Below.setCell ?_ (by simp; try omega) _)))
          have HS := hide (Box.new wr 69 #[.string z1, .int .i64 z2, .int .i64 z3, .int .i64 z4])
          replace HW := hide (HW.out.call B1)
          clear B1
          go_wp2_with fail
          clear hc0 hc1 hc2 hc3
          generalize wr.alloc (.cells #[.string z1, .int .i64 z2, .int .i64 z3, .int .i64 z4] 69) = ws at *
          generalize wr.heap.size = S at *
          refine (CPlOf.placeOf_any At t ct z1 _ ws HW.out.tb.rd HTB.out.2 (by omega) HW.out.tb.cap.1).mono ?_
          rintro e w' ⟨rfl, rfl⟩
          generalize hpl : plOf t z1 = pl at *
          have HPL := hide hpl
          clear hpl
          go_wp2_with fail
          refine (putNumber_any pl 2 ws).mono ?_
          rintro e w7 ⟨A7, c7, rfl, o7, b7⟩
          have HO := hide (Row.own o7)
          replace HS := hide (HS.out.call b7)
          replace HW := hide (HW.out.call b7)
          have hyl := pnum_le pl
          clear o7 b7
          generalize hy : pnum pl 2 = ys at *
          have HY := hide hy
          clear hy
          have HYL := hide (show (ints .u8 ys).length = ys.length * 1 from by simp)
          go_wp2_with (at_builtin; refine wpList_app w7 rfl (.tmp 70) (.tmp 75) 22 rfl 5 i0 (.int .u8 0) 1 1 Try.underlying22 HI.out.1 HI.out.2.1 HI.out.2.2.1 HI.out.2.2.2 rfl (by decide) w.heap.size A1 zs.length c1 (ints .u8 zs) rfl HW.out.row HW.out.b.size A7 ys.length c7 (ints .u8 ys) rfl HO.out.rd HYL.out HO.out.nil oneI (by unfold maxLen; omega) (by omega) ?_)
          intro A8 n8 c8 w8 hn8 o8 g8 k8
          replace HS := hide (HS.out.grown g8 (HW.out.row.box HS.out (by decide)))
          replace HW := hide (HW.out.add hn8 o8 g8 k8)
          have hn8' : n8 = (zs ++ ys).length := by rw [hn8, List.length_append]
          have hzl8 : (zs ++ ys).length ≤ 60 + 6 * k := by rw [List.length_append]; omega
          subst hn8'
          clear hn8 o8 g8 k8 HO HYL
          generalize hq : zs ++ ys = qs at *
          have HQ := hide hq
          clear hq
          have x0 := HS.out.cell 0
          have x1 := HS.out.cell 1
          have x2 := HS.out.cell 2
          have x3 := HS.out.cell 3
          simp only [List.getElem?_toArray, List.getElem?_cons_zero, List.getElem?_cons_succ] at x0 x1 x2 x3
          have hxl := HS.out.lt
          have b14 : Below w8.heap.size w8 (w8.alloc (.cells #[.int .u8 (IntKind.u8.wrap z2), .int .u8 (IntKind.u8.wrap (z3 + 2))] 5)) := (by repeat (first | exact Below.refl _ _ | with_reducible assumption | (refine Below.drew ?_) | (refine Below.drewN ?_ _) | (refine Below.alloc ?_ (by simp; try omega) _) | (refine Below.setCell ?_ (by simp; try omega) _)))
          replace HS := hide (HS.out.call b14)
          replace HW := hide (HW.out.call b14)
          clear b14
          generalize hxs : [IntKind.u8.wrap z2, IntKind.u8.wrap (z3 + 2)] = xs at *
          have hxsl : xs.length = 2 := by rw [← hxs]; rfl
          have HXS := hide (And.intro hxs (show ([.int .u8 (IntKind.u8.wrap z2), .int .u8 (IntKind.u8.wrap (z3 + 2))] : List Value) = ints .u8 xs from by rw [← hxs]; rfl))
          clear hxs
          have HLIT := hide (show Rd (w8.alloc (.cells #[.int .u8 (IntKind.u8.wrap z2), .int .u8 (IntKind.u8.wrap (z3 + 2))] 5)) (w8.heap.size + 1) (some ⟨w8.heap.size, 0, none⟩) (ints .u8 xs) from by
            rw [← HXS.out.2]
            exact rd_lit w8 #[.int .u8 (IntKind.u8.wrap z2), .int .u8 (IntKind.u8.wrap (z3 + 2))] 5 _ rfl)
          have HXL := hide hxsl
          clear hxsl
          go_wp2_with (at_builtin; refine wpList_app (w8.alloc (.cells #[.int .u8 (IntKind.u8.wrap z2), .int .u8 (IntKind.u8.wrap (z3 + 2))] 5)) rfl (.tmp 77) (.tmp 85) 22 rfl 5 i0 (.int .u8 0) 1 1 Try.underlying22 HI.out.1 HI.out.2.1 HI.out.2.2.1 HI.out.2.2.2 rfl (by decide) w.heap.size A8 qs.length c8 (ints .u8 qs) rfl HW.out.row HW.out.b.size (some ⟨w8.heap.size, 0, none⟩) 2 2 (ints .u8 xs) rfl HLIT.out (by simp [HXL.out]) (fun h => by cases h) oneI (by unfold maxLen; omega) (by omega) ?_)
          intro A9 n9 c9 w9 hn9 o9 g9 k9
          replace HS := hide (HS.out.grown g9 (HW.out.row.box HS.out (by decide)))
          replace HW := hide (HW.out.add (by rw [HXL.out]; exact hn9) o9 g9 (fun k hk => (k9 k hk).imp id (fun h => by simpa using h)))
          have hn9' : n9 = (qs ++ xs).length := by rw [hn9, List.length_append, HXL.out]
          have hzl9 : (qs ++ xs).length ≤ 62 + 6 * k := by rw [List.length_append, HXL.out]; omega
          subst hn9'
          clear hn9 o9 g9 k9 HLIT x0 x1 x2 x3 hxl
          generalize hq2 : qs ++ xs = us at *
          have HQ2 := hide hq2
          clear hq2
          have x3 := HS.out.cell 3
          simp only [List.getElem?_toArray, List.getElem?_cons_zero, List.getElem?_cons_succ] at x3
          have hxl := HS.out.lt
          go_wp2_with fail
          clear x3 hxl
          refine (putNumber_any z4 2 w9).mono ?_
          rintro e w10 ⟨A10, c10, rfl, o10, b10⟩
          have HO := hide (Row.own o10)
          replace HW := hide (HW.out.call b10)
          have hvl := pnum_le z4
          clear o10 b10 HS
          generalize hv : pnum z4 2 = vs at *
          have HV := hide hv
          clear hv
          have HVL := hide (show (ints .u8 vs).length = vs.length * 1 from by simp)
          go_wp2_with (at_builtin; refine wpList_app w10 rfl (.tmp 87) (.tmp 90) 22 rfl 5 i0 (.int .u8 0) 1 1 Try.underlying22 HI.out.1 HI.out.2.1 HI.out.2.2.1 HI.out.2.2.2 rfl (by decide) w.heap.size A9 us.length c9 (ints .u8 us) rfl HW.out.row HW.out.b.size A10 vs.length c10 (ints .u8 vs) rfl HO.out.rd HVL.out HO.out.nil oneI (by unfold maxLen; omega) (by omega) ?_)
          intro A11 n11 c11 w11 hn11 o11 g11 k11
          replace HW := hide (HW.out.add hn11 o11 g11 k11)
          have hn' : n11 = (us ++ vs).length := by rw [hn11, List.length_append]
          have hl' : (us ++ vs).length ≤ 58 + 6 * (k + 1) := by rw [List.length_append]; omega
          subst hn'
          clear hn11 o11 g11 k11 HO HVL
          have HF := hide (show us ++ vs = zs ++ symB t (z1, z2, z3, z4) from by
            rw [← HQ2.out, ← HQ.out]
            unfold symB b8
            show zs ++ ys ++ xs ++ vs = zs ++ (pnum (plOf t z1) 2 ++ [IntKind.u8.wrap z2, IntKind.u8.wrap (z3 + 2)] ++ pnum z4 2)
            rw [HPL.out, HY.out, HXS.out.1, HV.out]
            simp only [List.append_assoc])
          go_wp2_with fail
          exact ⟨⟨k + 1, A11, c11, us ++ vs, by omega, by first | rfl | rw [List.length_append], by go_num, by rw [HZ.out, HF.out], hl', HW.out⟩, by simp [intOf]; omega⟩
        · have hke : k = o.ys.length := by omega
          subst hke
          rw [List.take_length] at hzs
          have hz2 : zs.length ≤ 130 := by omega
          have HZS2 := hide hzs
          clear hw hzs hzl hlt hk
          have x0 := HW.out.bx.cell 0
          simp only [List.getElem?_toArray, List.getElem?_cons_zero, List.getElem?_cons_succ] at x0
          have hxl := HW.out.bx.lt
          go_wp2_with fail
          clear x0 hxl
          generalize zs = zs2 at *
          generalize wr = w7 at *
          go_loopw [4, 96] (fun s i wi => ∃ (k : Nat) (A1 : Option Addr) (c1 : Nat) (zs : List Int), k ≤ o.ps.length ∧ s = .slice A1 zs.length c1 ∧ i = .int .i64 k ∧ zs = zs2 ++ ((o.ps.take k).map SV.d).flatMap (fun s => s.fs.flatMap fixB) ∧ zs.length ≤ 130 + 30 * k ∧ WI w o At ct t A1 c1 zs wi) (fun _ i _ => o.ps.length - (intOf i).toNat)
          case atStart => exact ⟨0, A1, c1, zs2, Nat.zero_le _, rfl, rfl, (List.append_nil _).symm, by omega, HW.out⟩
          case round =>
            clear HW
            obtain ⟨k, A1, c1, zs, hk, rfl, rfl, hzs, hzl, hw⟩ := hrel
            have HW := hide hw
            by_cases hlt : k < o.ps.length
            · obtain ⟨b, off, hA, hbb, hc⟩ := (HR.out.1.1.below hw.b).row secC_len (by decide) hlt
              have hc0 := hc 0 _ rfl
              have hc1 := hc 1 _ rfl
              have hc2 := hc 2 _ rfl
              have hc3 := hc 3 _ rfl
              have hc4 := hc 4 _ rfl
              have hc5 := hc 5 _ rfl
              simp only [Nat.add_zero] at hc0
              have HZ := hide (show zs2 ++ ((o.ps.take (k + 1)).map SV.d).flatMap (fun s => s.fs.flatMap fixB) = zs ++ (o.ps[k]).fs.flatMap fixB from by
                rw [take_succ hlt, List.map_append, List.flatMap_append, ← List.append_assoc, ← hzs]
                simp [SV.d])
              have hlim := H6.out _ (List.getElem_mem hlt)
              obtain ⟨hl6, hl48⟩ := hlim
              have HFR := hide (HR.out.1.2 _ (List.getElem_mem hlt)).2
              have HPL := hide (HFP.out _ (List.getElem_mem hlt))
              clear hw hzs hc
              rw [hA]
              have HA := hide hA
              clear hA
              generalize o.ps[k] = p at *
              have B1 : Below wr.heap.size wr (wr.alloc (.cells #[.string p.nm, .int .i64 p.kd, .int .i64 p.al, .slice p.A p.zs.length p.c, .int .i64 p.sz, .slice p.F p.fs.length p.fc] 73)) := (by repeat (first | exact Below.refl _ _ | with_reducible assumption | (refine Below.drew ?_) | (refine Below.drewN ?_ _) | (refine Below.alloc ?_ (by simp; try omega) _) | (refine Below.setCell ?_ (by simp; try omega) _)))
              have HS := hide (Box.new wr 73 #[.string p.nm, .int .i64 p.kd, .int .i64 p.al, .slice p.A p.zs.length p.c, .int .i64 p.sz, .slice p.F p.fs.length p.fc])
              replace HW := hide (HW.out.call B1)
              clear B1
              have x5 := HS.out.cell 5
              simp only [List.getElem?_toArray, List.getElem?_cons_zero, List.getElem?_cons_succ] at x5
              have hxl := HS.out.lt
              go_wp2_with fail
              clear hc0 hc1 hc2 hc3 hc4 hc5 x5 hxl
              generalize wr.alloc (.cells #[.string p.nm, .int .i64 p.kd, .int .i64 p.al, .slice p.A p.zs.length p.c, .int .i64 p.sz, .slice p.F p.fs.length p.fc] 73) = ws at *
              generalize wr.heap.size = S at *
              generalize zs = zs3 at *
              go_loopw [4, 103] (fun s i wi => ∃ (j : Nat) (A1 : Option Addr) (c1 : Nat) (zs : List Int), j ≤ p.fs.length ∧ s = .slice A1 zs.length c1 ∧ i = .int .i64 j ∧ zs = zs3 ++ (p.fs.take j).flatMap fixB ∧ zs.length ≤ 130 + 30 * k + 5 * j ∧ WI w o At ct t A1 c1 zs wi) (fun _ i _ => p.fs.length - (intOf i).toNat)
              case atStart => exact ⟨0, A1, c1, zs3, Nat.zero_le _, rfl, rfl, (List.append_nil _).symm, by omega, HW.out⟩
              case round =>
                clear HW HS
                obtain ⟨j, A1, c1, zs, hj, rfl, rfl, hzs, hzl3, hw⟩ := hrel
                have HW := hide hw
                by_cases hlj : j < p.fs.length
                · obtain ⟨b2, off2, hA, hbb2, hc⟩ := (HFR.out.below hw.b).row fixupC_len (by decide) hlj
                  have hc0 := hc 0 _ rfl
                  have hc1 := hc 1 _ rfl
                  have hc2 := hc 2 _ rfl
                  have hc3 := hc 3 _ rfl
                  simp only [Nat.add_zero] at hc0
                  have HZ2 := hide (show zs3 ++ (p.fs.take (j + 1)).flatMap fixB = zs ++ fixB p.fs[j] from by
                    rw [take_succ hlj, List.flatMap_append, ← List.append_assoc, ← hzs]
                    simp)
                  have hpl := HPL.out _ (List.getElem_mem hlj)
                  have hfl := fixB_le p.fs[j]
                  clear hw hzs hc
                  rw [hA]
                  have HA2 := hide hA
                  clear hA
                  generalize p.fs[j] = z at *
                  obtain ⟨z1, z2, z3, z4⟩ := z
                  simp only at hc0 hc1 hc2 hc3 hpl
                  have hwr : IntKind.i64.wrap (z4 + 1000) = z4 + 1000 := IntWalk.i64_in _ (by omega)
                  clear hpl
                  have B1 : Below wr.heap.size wr (wr.alloc (.cells #[.int .i64 z1, .int .i64 z2, .int .i64 z3, .int .i64 z4] 77)) := (by repeat (first | exact Below.refl _ _ | with_reducible assumption | (refine Below.drew ?_) | (refine Below.drewN ?_ _) | (refine Below.alloc ?_ (by simp; try omega) _) | (refine Below.setCell ?_ (by simp; try omega) _)))
                  have HS := hide (Box.new wr 77 #[.int .i64 z1, .int .i64 z2, .int .i64 z3, .int .i64 z4])
                  replace HW := hide (HW.out.call B1)
                  clear B1
                  generalize hxs : [IntKind.u8.wrap z1, IntKind.u8.wrap z2, IntKind.u8.wrap z3] = xs at *
                  have hxsl : xs.length = 3 := by rw [← hxs]; rfl
                  have HXS := hide (And.intro hxs (show ([.int .u8 (IntKind.u8.wrap z1), .int .u8 (IntKind.u8.wrap z2), .int .u8 (IntKind.u8.wrap z3)] : List Value) = ints .u8 xs from by rw [← hxs]; rfl))
                  clear hxs
                  have HXL := hide hxsl
                  clear hxsl
                  have x0 := HS.out.cell 0
                  have x1 := HS.out.cell 1
                  have x2 := HS.out.cell 2
                  have x3 := HS.out.cell 3
                  simp only [List.getElem?_toArray, List.getElem?_cons_zero, List.getElem?_cons_succ] at x0 x1 x2 x3
                  have hxl := HS.out.lt
                  have b14 : Below (wr.alloc (.cells #[.int .i64 z1, .int .i64 z2, .int .i64 z3, .int .i64 z4] 77)).heap.size (wr.alloc (.cells #[.int .i64 z1, .int .i64 z2, .int .i64 z3, .int .i64 z4] 77)) ((wr.alloc (.cells #[.int .i64 z1, .int .i64 z2, .int .i64 z3, .int .i64 z4] 77)).alloc (.cells #[.int .u8 (IntKind.u8.wrap z1), .int .u8 (IntKind.u8.wrap z2), .int .u8 (IntKind.u8.wrap z3)] 5)) := (by repeat (first | exact Below.refl _ _ | with_reducible assumption | (refine Below.drew ?_) | (refine Below.drewN ?_ _) | (refine Below.alloc ?_ (by simp; try omega) _) | (refine Below.setCell ?_ (by simp; try omega) _)))
                  have HLIT := hide (show Rd ((wr.alloc (.cells #[.int .i64 z1, .int .i64 z2, .int .i64 z3, .int .i64 z4] 77)).alloc (.cells #[.int .u8 (IntKind.u8.wrap z1), .int .u8 (IntKind.u8.wrap z2), .int .u8 (IntKind.u8.wrap z3)] 5)) (wr.heap.size + 2) (some ⟨wr.heap.size + 1, 0, none⟩) (ints .u8 xs) from by
                    rw [← HXS.out.2]
                    have h := rd_lit (wr.alloc (.cells #[.int .i64 z1, .int .i64 z2, .int .i64 z3, .int .i64 z4] 77)) #[.int .u8 (IntKind.u8.wrap z1), .int .u8 (IntKind.u8.wrap z2), .int .u8 (IntKind.u8.wrap z3)] 5 _ rfl
                    rw [World.size_alloc] at h
                    exact h)
                  replace HS := hide (HS.out.call b14)
                  replace HW := hide (HW.out.call b14)
                  clear b14
                  go_wp2_with (at_builtin; refine wpList_app ((wr.alloc (.cells #[.int .i64 z1, .int .i64 z2, .int .i64 z3, .int .i64 z4] 77)).alloc (.cells #[.int .u8 (IntKind.u8.wrap z1), .int .u8 (IntKind.u8.wrap z2), .int .u8 (IntKind.u8.wrap z3)] 5)) rfl (.tmp 107) (.tmp 117) 22 rfl 5 i0 (.int .u8 0) 1 1 Try.underlying22 HI.out.1 HI.out.2.1 HI.out.2.2.1 HI.out.2.2.2 rfl (by decide) w.heap.size A1 zs.length c1 (ints .u8 zs) rfl HW.out.row HW.out.b.size (some ⟨wr.heap.size + 1, 0, none⟩) 3 3 (ints .u8 xs) rfl HLIT.out (by simp [HXL.out]) (fun h => by cases h) oneI (by unfold maxLen; omega) (by omega) ?_)
                  intro A9 n9 c9 w9 hn9 o9 g9 k9
                  replace HS := hide (HS.out.grown g9 (HW.out.row.box HS.out (by decide)))
                  replace HW := hide (HW.out.add (by rw [HXL.out]; exact hn9) o9 g9 (fun k hk => (k9 k hk).imp id (fun h => by simpa using h)))
                  have hn9' : n9 = (zs ++ xs).length := by rw [hn9, List.length_append, HXL.out]
                  have hzl9 : (zs ++ xs).length ≤ 133 + 30 * k + 5 * j := by rw [List.length_append, HXL.out]; omega
                  subst hn9'
                  clear hn9 o9 g9 k9 HLIT x0 x1 x2 x3 hxl hc0 hc1 hc2 hc3
                  generalize hq2 : zs ++ xs = us at *
                  have HQ2 := hide hq2
                  clear hq2
                  generalize wr.heap.size = S2 at *
                  have x3 := HS.out.cell 3
                  simp only [List.getElem?_toArray, List.getElem?_cons_zero, List.getElem?_cons_succ] at x3
                  have hxl := HS.out.lt
                  go_wp2_with fail
                  clear x3 hxl
                  refine (putNumber_any (z4 + 1000) 2 w9).mono ?_
                  rintro e w10 ⟨A10, c10, rfl, o10, b10⟩
                  have HO := hide (Row.own o10)
                  replace HW := hide (HW.out.call b10)
                  have hvl := pnum_le (z4 + 1000)
                  clear o10 b10 HS
                  generalize hv : pnum (z4 + 1000) 2 = vs at *
                  have HV := hide hv
                  clear hv
                  have HVL := hide (show (ints .u8 vs).length = vs.length * 1 from by simp)
                  go_wp2_with (at_builtin; refine wpList_app w10 rfl (.tmp 119) (.tmp 123) 22 rfl 5 i0 (.int .u8 0) 1 1 Try.underlying22 HI.out.1 HI.out.2.1 HI.out.2.2.1 HI.out.2.2.2 rfl (by decide) w.heap.size A9 us.length c9 (ints .u8 us) rfl HW.out.row HW.out.b.size A10 vs.length c10 (ints .u8 vs) rfl HO.out.rd HVL.out HO.out.nil oneI (by unfold maxLen; omega) (by omega) ?_)
                  intro A11 n11 c11 w11 hn11 o11 g11 k11
                  replace HW := hide (HW.out.add hn11 o11 g11 k11)
                  have hn' : n11 = (us ++ vs).length := by rw [hn11, List.length_append]
                  have hl' : (us ++ vs).length ≤ 130 + 30 * k + 5 * (j + 1) := by rw [List.length_append]; omega
                  subst hn'
                  clear hn11 o11 g11 k11 HO HVL
                  have HF := hide (show us ++ vs = zs ++ fixB (z1, z2, z3, z4) from by
                    rw [← HQ2.out]
                    unfold fixB b8
                    show zs ++ xs ++ vs = zs ++ ([IntKind.u8.wrap z1, IntKind.u8.wrap z2, IntKind.u8.wrap z3] ++ pnum (z4 + 1000) 2)
                    rw [HXS.out.1, HV.out]
                    simp only [List.append_assoc])
                  go_wp2_with fail
                  exact ⟨⟨j + 1, A11, c11, us ++ vs, by omega, by first | rfl | rw [List.length_append], by go_num, by rw [HZ2.out, HF.out], hl', HW.out⟩, by simp [intOf]; omega⟩
                · have hje : j = p.fs.length := by omega
                  subst hje
                  rw [List.take_length] at hzs
                  have HF := hide (show zs2 ++ ((o.ps.take (k + 1)).map SV.d).flatMap (fun s => s.fs.flatMap fixB) = zs from by rw [HZ.out, hzs])
                  have hzl4 : zs.length ≤ 130 + 30 * (k + 1) := by omega
                  clear hw hzs
                  go_wp2_with fail
                  exact ⟨⟨k + 1, A1, c1, zs, by omega, rfl, by go_num, HF.out.symm, hzl4, HW.out⟩, by simp [intOf]; omega⟩
            · have hke : k = o.ps.length := by omega
              subst hke
              rw [List.take_length] at hzs
              have hz3 : zs.length ≤ 370 := by omega
              have HZS3 := hide hzs
              clear hw hzs hzl hlt hk
              have HTL := hide (show (ints .u8 t).length = t.length * 1 from by simp)
              have HTC := hide HW.out.tb.nil
              go_wp2_with (at_builtin; refine wpList_app wr rfl (.tmp 127) (.tmp 128) 22 rfl 5 i0 (.int .u8 0) 1 1 Try.underlying22 HI.out.1 HI.out.2.1 HI.out.2.2.1 HI.out.2.2.2 rfl (by decide) w.heap.size A1 zs.length c1 (ints .u8 zs) rfl HW.out.row HW.out.b.size At t.length ct (ints .u8 t) rfl HW.out.tb.rd HTL.out HTC.out oneI (by unfold maxLen; omega) (by omega) ?_)
              intro A8 n8 c8 w8 hn8 o8 g8 k8
              replace HW := hide (HW.out.add hn8 o8 g8 k8)
              have hn8' : n8 = (zs ++ t).length := by rw [hn8, List.length_append]
              have hz4 : (zs ++ t).length ≤ 551 := by rw [List.length_append]; omega
              subst hn8'
              clear hn8 o8 g8 k8
              have HZS4 := hide (show zs ++ t = zs2 ++ (o.ps.map SV.d).flatMap (fun s => s.fs.flatMap fixB) ++ t from by rw [HZS3.out])
              generalize zs ++ t = zs4 at *
              have x0 := HW.out.bx.cell 0
              simp only [List.getElem?_toArray, List.getElem?_cons_zero, List.getElem?_cons_succ] at x0
              have hxl := HW.out.bx.lt
              go_wp2_with fail
              clear x0 hxl
              go_loopw [4, 133] (fun s i wi => ∃ (k : Nat) (A1 : Option Addr) (c1 : Nat) (zs : List Int), k ≤ o.ps.length ∧ s = .slice A1 zs.length c1 ∧ i = .int .i64 k ∧ zs = zs4 ++ ((o.ps.take k).map SV.d).flatMap (fun s => s.zs) ∧ zs.length ≤ 551 + 48 * k ∧ WI w o At ct t A1 c1 zs wi) (fun _ i _ => o.ps.length - (intOf i).toNat)
              case atStart => exact ⟨0, A8, c8, zs4, Nat.zero_le _, rfl, rfl, (List.append_nil _).symm, by omega, HW.out⟩
              case round =>
                clear HW
                obtain ⟨k, A1, c1, zs, hk, rfl, rfl, hzs, hzl, hw⟩ := hrel
                have HW := hide hw
                by_cases hlt : k < o.ps.length
                · obtain ⟨b, off, hA, hbb, hc⟩ := (HR.out.1.1.below hw.b).row secC_len (by decide) hlt
                  have hc0 := hc 0 _ rfl
                  have hc1 := hc 1 _ rfl
                  have hc2 := hc 2 _ rfl
                  have hc3 := hc 3 _ rfl
                  have hc4 := hc 4 _ rfl
                  have hc5 := hc 5 _ rfl
                  simp only [Nat.add_zero] at hc0
                  have HZ := hide (show zs4 ++ ((o.ps.take (k + 1)).map SV.d).flatMap (fun s => s.zs) = zs ++ (o.ps[k]).zs from by
                    rw [take_succ hlt, List.map_append, List.flatMap_append, ← List.append_assoc, ← hzs]
                    simp [SV.d])
                  have hlim := H6.out _ (List.getElem_mem hlt)
                  obtain ⟨hl6, hl48⟩ := hlim
                  have hsr := (HR.out.1.2 _ (List.getElem_mem hlt)).1.below hw.b
                  have HNP := hide (HN.out _ (List.getElem_mem hlt))
                  clear hw hzs hc
                  rw [hA]
                  have HA := hide hA
                  clear hA
                  generalize o.ps[k] = p at *
                  have B1 : Below wr.heap.size wr (wr.alloc (.cells #[.string p.nm, .int .i64 p.kd, .int .i64 p.al, .slice p.A p.zs.length p.c, .int .i64 p.sz, .slice p.F p.fs.length p.fc] 73)) := (by repeat (first | exact Below.refl _ _ | with_reducible assumption | (refine Below.drew ?_) | (refine Below.drewN ?_ _) | (refine Below.alloc ?_ (by simp; try omega) _) | (refine Below.setCell ?_ (by simp; try omega) _)))
                  have HS := hide (Box.new wr 73 #[.string p.nm, .int .i64 p.kd, .int .i64 p.al, .slice p.A p.zs.length p.c, .int .i64 p.sz, .slice p.F p.fs.length p.fc])
                  have HSR := hide (show Rd (wr.alloc (.cells #[.string p.nm, .int .i64 p.kd, .int .i64 p.al, .slice p.A p.zs.length p.c, .int .i64 p.sz, .slice p.F p.fs.length p.fc] 73)) w.heap.size p.A (ints .u8 p.zs) from hsr.below (B1.mono HW.out.b.size))
                  have HSL := hide (show (ints .u8 p.zs).length = p.zs.length * 1 from by simp)
                  replace HW := hide (HW.out.call B1)
                  clear B1 hsr
                  have x3 := HS.out.cell 3
                  simp only [List.getElem?_toArray, List.getElem?_cons_zero, List.getElem?_cons_succ] at x3
                  have hxl := HS.out.lt
                  go_wp2_with (at_builtin; refine wpList_app (wr.alloc (.cells #[.string p.nm, .int .i64 p.kd, .int .i64 p.al, .slice p.A p.zs.length p.c, .int .i64 p.sz, .slice p.F p.fs.length p.fc] 73)) rfl (.tmp 137) (.tmp 139) 22 rfl 5 i0 (.int .u8 0) 1 1 Try.underlying22 HI.out.1 HI.out.2.1 HI.out.2.2.1 HI.out.2.2.2 rfl (by decide) w.heap.size A1 zs.length c1 (ints .u8 zs) rfl HW.out.row HW.out.b.size p.A p.zs.length p.c (ints .u8 p.zs) rfl HSR.out HSL.out HNP.out oneI (by unfold maxLen; omega) (by omega) ?_)
                  intro A9 n9 c9 w9 hn9 o9 g9 k9
                  replace HW := hide (HW.out.add hn9 o9 g9 (fun k hk => (k9 k hk).imp id (fun h => by simpa using h)))
                  have hn9' : n9 = (zs ++ p.zs).length := by rw [hn9, List.length_append]
                  have hzl9 : (zs ++ p.zs).length ≤ 551 + 48 * (k + 1) := by rw [List.length_append]; omega
                  subst hn9'
                  clear hn9 o9 g9 k9 x3 hxl hc0 hc1 hc2 hc3 hc4 hc5 HS
                  go_wp2_with fail
                  exact ⟨⟨k + 1, A9, c9, zs ++ p.zs, by omega, by first | rfl | rw [List.length_append], by go_num, HZ.out.symm, hzl9, HW.out⟩, by simp [intOf]; omega⟩
                · have hke : k = o.ps.length := by omega
                  subst hke
                  rw [List.take_length] at hzs
                  have HF := hide (show writeB o.d = zs from by
                    have e1 : o.d.ss.length = o.ps.length := by simp [OV.d]
                    have e2 : o.d.ys = o.ys := rfl
                    have e3 : o.d.ss = o.ps.map SV.d := rfl
                    rw [hzs, HZS4.out, HZS2.out, HZS.out]
                    unfold writeB
                    rw [HTD.out, e1, e2, HFN.out, HHD.out, e3])
                  clear hw hzs hzl
                  go_wp2_with fail
                  go_ret
                  rw [HF.out]
                  exact ⟨A1, c1, rfl, HW.out.row, HW.out.b⟩
end Go.Proofs.Ytmglgjchemecjaa.CWriteB
/- SameObject on two objects: the program's. -/
namespace Go.Proofs.Ytmglgjchemecjaa.CSameObj
set_option maxRecDepth 200000
open Go.ChangeShapes Go.WideShapes Go.ChangeAt Go.RowKit Kit CCode CName CNumber CFixups CSymbols PObj BObj PValid PWarn PClear CSecValid CObjValid BStore CMarkRows BList PLink PLinkL CSorted CNames CNameTab CTable CTableOf CPlOf CHead CWriteO CWriteB
theorem inR_app {xs ys : List Int} (h1 : InR 0 255 xs) (h2 : InR 0 255 ys) : InR 0 255 (xs ++ ys) := fun x hx => (List.mem_append.1 hx).elim (h1 x) (h2 x)
theorem inR_flat {α : Type} {l : List α} {f : α → List Int} (h : ∀ a ∈ l, InR 0 255 (f a)) : InR 0 255 (l.flatMap f) := fun x hx => by
  obtain ⟨a, ha, hx⟩ := List.mem_flatMap.1 hx
  exact h a ha x hx
theorem pnum_in (n w : Int) : InR 0 255 (pnum n w) := by
  unfold pnum
  split
  · exact putL_bd _ _
  · exact fun x hx => by cases hx
theorem b8_in (x : Int) : 0 ≤ b8 x ∧ b8 x ≤ 255 := by unfold b8; rw [IntKind.wrap_u8]; omega
theorem b8s_in (l : List Int) : InR 0 255 (l.map b8) := fun x hx => by
  obtain ⟨y, _, rfl⟩ := List.mem_map.1 hx
  exact b8_in y
theorem tabN_in (xs : List ByteArray) : InR 0 255 (tabN xs) := by
  unfold tabN
  cases namesOk xs
  · exact fun x hx => by cases hx
  · exact tab_in _
theorem writeB_in {d : OD} (hok : objOk d = true) (hz : ∀ s ∈ d.ss, InR 0 255 s.zs) : InR 0 255 (writeB d) := by
  have h := obj_all hok
  have hf := fixN_bd d.ss fun s hs => (h.2.2 s hs).1
  unfold writeB
  refine inR_app (inR_app (inR_app (inR_app (inR_app ?_ (inR_flat fun s _ => ?_)) (inR_flat fun y _ => ?_)) (inR_flat fun s _ => inR_flat fun f _ => ?_)) (tabN_in _)) (inR_flat hz)
  · unfold headB
    refine inR_app (inR_app ?_ (putL_bd _ _)) ?_
    · intro x hx
      simp only [List.mem_cons, List.not_mem_nil, or_false] at hx
      omega
    · intro x hx
      simp only [List.mem_cons, List.not_mem_nil, or_false] at hx
      omega
  · exact inR_app (pnum_in _ _) (b8s_in [s.kd, s.al, secSize s, s.fs.length])
  · exact inR_app (inR_app (pnum_in _ _) (b8s_in [y.2.1, y.2.2.1 + 2])) (pnum_in _ _)
  · exact inR_app (b8s_in [f.1, f.2.1, f.2.2.1]) (pnum_in _ _)
def sameB (d1 d2 : OD) : Bool := objOk d1 && (objOk d2 && decide (writeB d1 = writeB d2))
set_option maxHeartbeats 4000000 in
theorem sameObject_any (o1 o2 : OV) (w : World) (hr1 : RdO w w.heap.size o1) (hr2 : RdO w w.heap.size o2) (hf1 : Fit o1) (hf2 : Fit o2)
    (hn1 : ∀ p ∈ o1.ps, p.A = none → p.c = 0) (hn2 : ∀ p ∈ o2.ps, p.A = none → p.c = 0) (hz1 : ∀ p ∈ o1.ps, InR 0 255 p.zs) (hz2 : ∀ p ∈ o2.ps, InR 0 255 p.zs) :
    Calls Try.prog 34 #[.agg #[.slice o1.A o1.ps.length o1.c, .slice o1.Y o1.ys.length o1.yc], .agg #[.slice o2.A o2.ps.length o2.c, .slice o2.Y o2.ys.length o2.yc]] w (Ret (.bool (sameB o1.d o2.d)) w) := by
  have HR1 := hide hr1
  have HR2 := hide hr2
  have HF1 := hide hf1
  have HF2 := hide hf2
  have HN1 := hide hn1
  have HN2 := hide hn2
  have HI1 := hide (show objOk o1.d = true → InR 0 255 (writeB o1.d) from fun h => writeB_in h (by
    intro s hs
    obtain ⟨p, hp, rfl⟩ := List.mem_map.1 hs
    exact hz1 p hp))
  have HI2 := hide (show objOk o2.d = true → InR 0 255 (writeB o2.d) from fun h => writeB_in h (by
    intro s hs
    obtain ⟨p, hp, rfl⟩ := List.mem_map.1 hs
    exact hz2 p hp))
  clear hr1 hr2 hf1 hf2 hn1 hn2 hz1 hz2
  have HB := hide (show Below w.heap.size w ((w.alloc (.cells #[.slice o1.A o1.ps.length o1.c, .slice o1.Y o1.ys.length o1.yc] 26)).alloc (.cells #[.slice o2.A o2.ps.length o2.c, .slice o2.Y o2.ys.length o2.yc] 26)) from (by repeat (first | exact Below.refl _ _ | with_reducible assumption | (refine Below.drew ?_) | (refine Below.drewN ?_ _) | (refine Below.alloc ?_ (by simp; try omega) _) | (refine Below.setCell ?_ (by simp; try omega) _))))
  have HX := hide ((Box.new w 26 #[.slice o1.A o1.ps.length o1.c, .slice o1.Y o1.ys.length o1.yc]).alloc (.cells #[.slice o2.A o2.ps.length o2.c, .slice o2.Y o2.ys.length o2.yc] 26))
  have HY0 := Box.new (w.alloc (.cells #[.slice o1.A o1.ps.length o1.c, .slice o1.Y o1.ys.length o1.yc] 26)) 26 #[.slice o2.A o2.ps.length o2.c, .slice o2.Y o2.ys.length o2.yc]
  rw [World.size_alloc] at HY0
  have HY := hide HY0
  clear HY0
  go_enter Try.func34, Try.ntmps34
  go_wp2_with fail
  generalize hX : w.heap.size = X at HX HY
  generalize hY : X + 1 = Y at HX HY
  subst hX hY
  replace HR1 := hide ((HR1.out.below HB.out).more HB.out.size)
  replace HR2 := hide ((HR2.out.below HB.out).more HB.out.size)
  generalize (w.alloc (.cells #[.slice o1.A o1.ps.length o1.c, .slice o1.Y o1.ys.length o1.yc] 26)).alloc (.cells #[.slice o2.A o2.ps.length o2.c, .slice o2.Y o2.ys.length o2.yc] 26) = w0 at *
  generalize hYY : w.heap.size + 1 = Y at *
  clear hYY
  generalize hXX : w.heap.size = X at HX ⊢
  have x0 := HX.out.cell 0
  have x1 := HX.out.cell 1
  simp only [List.getElem?_toArray, List.getElem?_cons_zero, List.getElem?_cons_succ] at x0 x1
  have y0 := HY.out.cell 0
  have y1 := HY.out.cell 1
  simp only [List.getElem?_toArray, List.getElem?_cons_zero, List.getElem?_cons_succ] at y0 y1
  have Z0 : w0.cell? ⟨X, 0, none⟩ = some (.slice o1.A o1.ps.length o1.c) ∧ w0.cell? ⟨X, 1, none⟩ = some (.slice o1.Y o1.ys.length o1.yc) ∧ w0.cell? ⟨Y, 0, none⟩ = some (.slice o2.A o2.ps.length o2.c) ∧ w0.cell? ⟨Y, 1, none⟩ = some (.slice o2.Y o2.ys.length o2.yc) := ⟨x0, x1, y0, y1⟩
  clear x0 x1 y0 y1
  refine Reg.startT (fun W => W.cell? ⟨X, 0, none⟩ = some (.slice o1.A o1.ps.length o1.c) ∧ W.cell? ⟨X, 1, none⟩ = some (.slice o1.Y o1.ys.length o1.yc) ∧ W.cell? ⟨Y, 0, none⟩ = some (.slice o2.A o2.ps.length o2.c) ∧ W.cell? ⟨Y, 1, none⟩ = some (.slice o2.Y o2.ys.length o2.yc)) (fun _ => false) (by kernel_rfl) ?_
  have hHeld : w0.drew.cell? ⟨X, 0, none⟩ = some (.slice o1.A o1.ps.length o1.c) ∧ w0.drew.cell? ⟨X, 1, none⟩ = some (.slice o1.Y o1.ys.length o1.yc) ∧ w0.drew.cell? ⟨Y, 0, none⟩ = some (.slice o2.A o2.ps.length o2.c) ∧ w0.drew.cell? ⟨Y, 1, none⟩ = some (.slice o2.Y o2.ys.length o2.yc) := Z0
  clear Z0
  have bd : Below w0.heap.size w0 w0.drew := below_dr (Below.refl _ _)
  replace HR1 := hide ((HR1.out.below bd).more bd.size)
  replace HR2 := hide ((HR2.out.below bd).more bd.size)
  replace HB := hide (HB.out.trans (bd.mono HB.out.size))
  replace HX := hide (HX.out.call bd)
  replace HY := hide (HY.out.call bd)
  clear bd
  generalize w0.drew = w1 at *
  refine Reg.takeT (i := 0) (v := ?_) rfl (by kernel_rfl) (by kernel_rfl) (by kernel_rfl) (by kernel_rfl) (fun _ _ _ h => h) (Or.inl ⟨by rfl, ?_⟩) (by assumption) ?_
  rotate_left 1
  focus (intro w hSw; (try dsimp only at hSw); go_simp; (try with_reducible rfl))
  try simp only [List.getElem_toArray, List.getElem_cons_succ, List.getElem_cons_zero, Act.put, List.setIfInBounds_toArray, List.set_cons_zero, List.set_cons_succ]
  refine Reg.oneT (i := 1) rfl (by kernel_rfl) (fun K hK => ?_)
  go_simp
  refine (objectValid_any o1 w1 HR1.out HF1.out).mono ?_
  rintro e w2 ⟨rfl, b2⟩
  replace HR1 := hide ((HR1.out.below b2).more b2.size)
  replace HR2 := hide ((HR2.out.below b2).more b2.size)
  replace HB := hide (HB.out.trans (b2.mono HB.out.size))
  replace HX := hide (HX.out.call b2)
  replace HY := hide (HY.out.call b2)
  clear b2
  clear hHeld
  have x0 := HX.out.cell 0
  have x1 := HX.out.cell 1
  simp only [List.getElem?_toArray, List.getElem?_cons_zero, List.getElem?_cons_succ] at x0 x1
  have y0 := HY.out.cell 0
  have y1 := HY.out.cell 1
  simp only [List.getElem?_toArray, List.getElem?_cons_zero, List.getElem?_cons_succ] at y0 y1
  have hHeld : w2.cell? ⟨X, 0, none⟩ = some (.slice o1.A o1.ps.length o1.c) ∧ w2.cell? ⟨X, 1, none⟩ = some (.slice o1.Y o1.ys.length o1.yc) ∧ w2.cell? ⟨Y, 0, none⟩ = some (.slice o2.A o2.ps.length o2.c) ∧ w2.cell? ⟨Y, 1, none⟩ = some (.slice o2.Y o2.ys.length o2.yc) := ⟨x0, x1, y0, y1⟩
  clear x0 x1 y0 y1
  refine hK.out _ _ hHeld ?_
  clear hK K
  try simp only [List.getElem_toArray, List.getElem_cons_succ, List.getElem_cons_zero, Act.put, List.setIfInBounds_toArray, List.set_cons_zero, List.set_cons_succ]
  by_cases hok1 : objOk o1.d = true
  · rw [hok1]
    refine Reg.takeT (i := 2) (v := ?_) rfl (by kernel_rfl) (by kernel_rfl) (by kernel_rfl) (by kernel_rfl) (fun _ _ _ h => h) (Or.inl ⟨by rfl, ?_⟩) (by assumption) ?_
    rotate_left 1
    focus (intro w hSw; (try dsimp only at hSw); go_simp; (try with_reducible rfl))
    try simp only [List.getElem_toArray, List.getElem_cons_succ, List.getElem_cons_zero, Act.put, List.setIfInBounds_toArray, List.set_cons_zero, List.set_cons_succ]
    refine Reg.takeT (i := 3) (v := ?_) rfl (by kernel_rfl) (by kernel_rfl) (by kernel_rfl) (by kernel_rfl) (fun _ _ _ h => h) (Or.inl ⟨by rfl, ?_⟩) (by assumption) ?_
    rotate_left 1
    focus (intro w hSw; (try dsimp only at hSw); go_simp; (try with_reducible rfl))
    try simp only [List.getElem_toArray, List.getElem_cons_succ, List.getElem_cons_zero, Act.put, List.setIfInBounds_toArray, List.set_cons_zero, List.set_cons_succ]
    refine Reg.oneT (i := 4) rfl (by kernel_rfl) (fun K hK => ?_)
    go_simp
    refine (objectValid_any o2 w2 HR2.out HF2.out).mono ?_
    rintro e w3 ⟨rfl, b3⟩
    replace HR1 := hide ((HR1.out.below b3).more b3.size)
    replace HR2 := hide ((HR2.out.below b3).more b3.size)
    replace HB := hide (HB.out.trans (b3.mono HB.out.size))
    replace HX := hide (HX.out.call b3)
    replace HY := hide (HY.out.call b3)
    clear b3
    clear hHeld
    have x0 := HX.out.cell 0
    have x1 := HX.out.cell 1
    simp only [List.getElem?_toArray, List.getElem?_cons_zero, List.getElem?_cons_succ] at x0 x1
    have y0 := HY.out.cell 0
    have y1 := HY.out.cell 1
    simp only [List.getElem?_toArray, List.getElem?_cons_zero, List.getElem?_cons_succ] at y0 y1
    have hHeld : w3.cell? ⟨X, 0, none⟩ = some (.slice o1.A o1.ps.length o1.c) ∧ w3.cell? ⟨X, 1, none⟩ = some (.slice o1.Y o1.ys.length o1.yc) ∧ w3.cell? ⟨Y, 0, none⟩ = some (.slice o2.A o2.ps.length o2.c) ∧ w3.cell? ⟨Y, 1, none⟩ = some (.slice o2.Y o2.ys.length o2.yc) := ⟨x0, x1, y0, y1⟩
    clear x0 x1 y0 y1
    refine hK.out _ _ hHeld ?_
    clear hK K
    try simp only [List.getElem_toArray, List.getElem_cons_succ, List.getElem_cons_zero, Act.put, List.setIfInBounds_toArray, List.set_cons_zero, List.set_cons_succ]
    by_cases hok2 : objOk o2.d = true
    · rw [hok2]
      refine Reg.takeT (i := 5) (v := ?_) rfl (by kernel_rfl) (by kernel_rfl) (by kernel_rfl) (by kernel_rfl) (fun _ _ _ h => h) (Or.inl ⟨by rfl, ?_⟩) (by assumption) ?_
      rotate_left 1
      focus (intro w hSw; (try dsimp only at hSw); go_simp; (try with_reducible rfl))
      try simp only [List.getElem_toArray, List.getElem_cons_succ, List.getElem_cons_zero, Act.put, List.setIfInBounds_toArray, List.set_cons_zero, List.set_cons_succ]
      refine Reg.takeT (i := 6) (v := ?_) rfl (by kernel_rfl) (by kernel_rfl) (by kernel_rfl) (by kernel_rfl) (fun _ _ _ h => h) (Or.inl ⟨by rfl, ?_⟩) (by assumption) ?_
      rotate_left 1
      focus (intro w hSw; (try dsimp only at hSw); go_simp; (try with_reducible rfl))
      try simp only [List.getElem_toArray, List.getElem_cons_succ, List.getElem_cons_zero, Act.put, List.setIfInBounds_toArray, List.set_cons_zero, List.set_cons_succ]
      refine Reg.takeT (i := 7) (v := ?_) rfl (by kernel_rfl) (by kernel_rfl) (by kernel_rfl) (by kernel_rfl) (fun _ _ _ h => h) (Or.inl ⟨by rfl, ?_⟩) (by assumption) ?_
      rotate_left 1
      focus (intro w hSw; (try dsimp only at hSw); go_simp; (try with_reducible rfl))
      try simp only [List.getElem_toArray, List.getElem_cons_succ, List.getElem_cons_zero, Act.put, List.setIfInBounds_toArray, List.set_cons_zero, List.set_cons_succ]
      refine Reg.takeT (i := 9) (v := ?_) rfl (by kernel_rfl) (by kernel_rfl) (by kernel_rfl) (by kernel_rfl) (fun _ _ _ h => h) (Or.inl ⟨by rfl, ?_⟩) (by assumption) ?_
      rotate_left 1
      focus (intro w hSw; (try dsimp only at hSw); go_simp; (try with_reducible rfl))
      try simp only [List.getElem_toArray, List.getElem_cons_succ, List.getElem_cons_zero, Act.put, List.setIfInBounds_toArray, List.set_cons_zero, List.set_cons_succ]
      refine Reg.oneT (i := 8) rfl (by kernel_rfl) (fun K hK => ?_)
      go_simp
      refine (writeObject_any o1 w3 HR1.out HF1.out hok1 HN1.out).mono ?_
      rintro e w4 ⟨A4, c4, rfl, r4, b4⟩
      have HRD4 := hide r4.rd
      clear r4
      replace HR1 := hide ((HR1.out.below b4).more b4.size)
      replace HR2 := hide ((HR2.out.below b4).more b4.size)
      replace HB := hide (HB.out.trans (b4.mono HB.out.size))
      replace HX := hide (HX.out.call b4)
      replace HY := hide (HY.out.call b4)
      clear b4
      clear hHeld
      have x0 := HX.out.cell 0
      have x1 := HX.out.cell 1
      simp only [List.getElem?_toArray, List.getElem?_cons_zero, List.getElem?_cons_succ] at x0 x1
      have y0 := HY.out.cell 0
      have y1 := HY.out.cell 1
      simp only [List.getElem?_toArray, List.getElem?_cons_zero, List.getElem?_cons_succ] at y0 y1
      have hHeld : w4.cell? ⟨X, 0, none⟩ = some (.slice o1.A o1.ps.length o1.c) ∧ w4.cell? ⟨X, 1, none⟩ = some (.slice o1.Y o1.ys.length o1.yc) ∧ w4.cell? ⟨Y, 0, none⟩ = some (.slice o2.A o2.ps.length o2.c) ∧ w4.cell? ⟨Y, 1, none⟩ = some (.slice o2.Y o2.ys.length o2.yc) := ⟨x0, x1, y0, y1⟩
      clear x0 x1 y0 y1
      refine hK.out _ _ hHeld ?_
      clear hK K
      try simp only [List.getElem_toArray, List.getElem_cons_succ, List.getElem_cons_zero, Act.put, List.setIfInBounds_toArray, List.set_cons_zero, List.set_cons_succ]
      refine Reg.oneT (i := 10) rfl (by kernel_rfl) (fun K hK => ?_)
      go_simp
      refine (writeObject_any o2 w4 HR2.out HF2.out hok2 HN2.out).mono ?_
      rintro e w5 ⟨A5, c5, rfl, r5, b5⟩
      have HRD5 := hide r5.rd
      replace HRD4 := hide (HRD4.out.below b5)
      clear r5
      replace HR1 := hide ((HR1.out.below b5).more b5.size)
      replace HR2 := hide ((HR2.out.below b5).more b5.size)
      replace HB := hide (HB.out.trans (b5.mono HB.out.size))
      replace HX := hide (HX.out.call b5)
      replace HY := hide (HY.out.call b5)
      clear b5
      clear hHeld
      have x0 := HX.out.cell 0
      have x1 := HX.out.cell 1
      simp only [List.getElem?_toArray, List.getElem?_cons_zero, List.getElem?_cons_succ] at x0 x1
      have y0 := HY.out.cell 0
      have y1 := HY.out.cell 1
      simp only [List.getElem?_toArray, List.getElem?_cons_zero, List.getElem?_cons_succ] at y0 y1
      have hHeld : w5.cell? ⟨X, 0, none⟩ = some (.slice o1.A o1.ps.length o1.c) ∧ w5.cell? ⟨X, 1, none⟩ = some (.slice o1.Y o1.ys.length o1.yc) ∧ w5.cell? ⟨Y, 0, none⟩ = some (.slice o2.A o2.ps.length o2.c) ∧ w5.cell? ⟨Y, 1, none⟩ = some (.slice o2.Y o2.ys.length o2.yc) := ⟨x0, x1, y0, y1⟩
      clear x0 x1 y0 y1
      refine hK.out _ _ hHeld ?_
      clear hK K
      try simp only [List.getElem_toArray, List.getElem_cons_succ, List.getElem_cons_zero, Act.put, List.setIfInBounds_toArray, List.set_cons_zero, List.set_cons_succ]
      refine Reg.oneT (i := 11) rfl (by kernel_rfl) (fun K hK => ?_)
      go_simp
      refine (CEqual.equal_any A4 A5 (writeB o1.d) (writeB o2.d) c4 c5 _ _ w5 HRD4.out HRD5.out (HI1.out hok1) (HI2.out hok2)).mono ?_
      rintro e w6 ⟨rfl, rfl⟩
      refine hK.out _ _ hHeld ?_
      clear hK K
      try simp only [List.getElem_toArray, List.getElem_cons_succ, List.getElem_cons_zero, Act.put, List.setIfInBounds_toArray, List.set_cons_zero, List.set_cons_succ]
      have hv : sameB o1.d o2.d = decide (writeB o1.d = writeB o2.d) := by unfold sameB; rw [hok1, hok2]; rfl
      refine Reg.takeT (i := 12) (v := ?_) rfl (by kernel_rfl) (by kernel_rfl) (by kernel_rfl) (by kernel_rfl) (fun _ _ _ h => h) (Or.inl ⟨by rfl, ?_⟩) (by assumption) ?_
      rotate_left 1
      focus (intro w hSw; (try dsimp only at hSw); go_simp; (try with_reducible rfl))
      try simp only [List.getElem_toArray, List.getElem_cons_succ, List.getElem_cons_zero, Act.put, List.setIfInBounds_toArray, List.set_cons_zero, List.set_cons_succ]
      refine Reg.takeT (i := 13) (v := ?_) rfl (by kernel_rfl) (by kernel_rfl) (by kernel_rfl) (by kernel_rfl) (fun _ _ _ h => h) (Or.inl ⟨by rfl, ?_⟩) (by assumption) ?_
      rotate_left 1
      focus (intro w hSw; (try dsimp only at hSw); go_simp; (try with_reducible rfl))
      try simp only [List.getElem_toArray, List.getElem_cons_succ, List.getElem_cons_zero, Act.put, List.setIfInBounds_toArray, List.set_cons_zero, List.set_cons_succ]
      clear hHeld
      refine Reg.doneT (by kernel_rfl) ?_ _
      go_wp2_with fail
      go_ret
      exact ⟨by rw [hv]; rfl, HB.out⟩
    · rw [Bool.not_eq_true] at hok2
      have hv : sameB o1.d o2.d = false := by unfold sameB; rw [hok1, hok2]; rfl
      rw [hok2]
      refine Reg.takeT (i := 5) (v := ?_) rfl (by kernel_rfl) (by kernel_rfl) (by kernel_rfl) (by kernel_rfl) (fun _ _ _ h => h) (Or.inl ⟨by rfl, ?_⟩) (by assumption) ?_
      rotate_left 1
      focus (intro w hSw; (try dsimp only at hSw); go_simp; (try with_reducible rfl))
      try simp only [List.getElem_toArray, List.getElem_cons_succ, List.getElem_cons_zero, Act.put, List.setIfInBounds_toArray, List.set_cons_zero, List.set_cons_succ]
      refine Reg.takeT (i := 6) (v := ?_) rfl (by kernel_rfl) (by kernel_rfl) (by kernel_rfl) (by kernel_rfl) (fun _ _ _ h => h) (Or.inl ⟨by rfl, ?_⟩) (by assumption) ?_
      rotate_left 1
      focus (intro w hSw; (try dsimp only at hSw); go_simp; (try with_reducible rfl))
      try simp only [List.getElem_toArray, List.getElem_cons_succ, List.getElem_cons_zero, Act.put, List.setIfInBounds_toArray, List.set_cons_zero, List.set_cons_succ]
      refine Reg.takeT (i := 7) (v := undef) rfl (by kernel_rfl) (by kernel_rfl) (by kernel_rfl) (by kernel_rfl) (fun _ _ _ h => h) (Or.inr ⟨by rfl, rfl⟩) (by assumption) ?_
      try simp only [List.getElem_toArray, List.getElem_cons_succ, List.getElem_cons_zero, Act.put, List.setIfInBounds_toArray, List.set_cons_zero, List.set_cons_succ]
      refine Reg.takeT (i := 8) (v := undef) rfl (by kernel_rfl) (by kernel_rfl) (by kernel_rfl) (by kernel_rfl) (fun _ _ _ h => h) (Or.inr ⟨by rfl, rfl⟩) (by assumption) ?_
      try simp only [List.getElem_toArray, List.getElem_cons_succ, List.getElem_cons_zero, Act.put, List.setIfInBounds_toArray, List.set_cons_zero, List.set_cons_succ]
      refine Reg.takeT (i := 9) (v := undef) rfl (by kernel_rfl) (by kernel_rfl) (by kernel_rfl) (by kernel_rfl) (fun _ _ _ h => h) (Or.inr ⟨by rfl, rfl⟩) (by assumption) ?_
      try simp only [List.getElem_toArray, List.getElem_cons_succ, List.getElem_cons_zero, Act.put, List.setIfInBounds_toArray, List.set_cons_zero, List.set_cons_succ]
      refine Reg.takeT (i := 10) (v := undef) rfl (by kernel_rfl) (by kernel_rfl) (by kernel_rfl) (by kernel_rfl) (fun _ _ _ h => h) (Or.inr ⟨by rfl, rfl⟩) (by assumption) ?_
      try simp only [List.getElem_toArray, List.getElem_cons_succ, List.getElem_cons_zero, Act.put, List.setIfInBounds_toArray, List.set_cons_zero, List.set_cons_succ]
      refine Reg.takeT (i := 11) (v := undef) rfl (by kernel_rfl) (by kernel_rfl) (by kernel_rfl) (by kernel_rfl) (fun _ _ _ h => h) (Or.inr ⟨by rfl, rfl⟩) (by assumption) ?_
      try simp only [List.getElem_toArray, List.getElem_cons_succ, List.getElem_cons_zero, Act.put, List.setIfInBounds_toArray, List.set_cons_zero, List.set_cons_succ]
      refine Reg.takeT (i := 12) (v := ?_) rfl (by kernel_rfl) (by kernel_rfl) (by kernel_rfl) (by kernel_rfl) (fun _ _ _ h => h) (Or.inl ⟨by rfl, ?_⟩) (by assumption) ?_
      rotate_left 1
      focus (intro w hSw; (try dsimp only at hSw); go_simp; (try with_reducible rfl))
      try simp only [List.getElem_toArray, List.getElem_cons_succ, List.getElem_cons_zero, Act.put, List.setIfInBounds_toArray, List.set_cons_zero, List.set_cons_succ]
      refine Reg.takeT (i := 13) (v := ?_) rfl (by kernel_rfl) (by kernel_rfl) (by kernel_rfl) (by kernel_rfl) (fun _ _ _ h => h) (Or.inl ⟨by rfl, ?_⟩) (by assumption) ?_
      rotate_left 1
      focus (intro w hSw; (try dsimp only at hSw); go_simp; (try with_reducible rfl))
      try simp only [List.getElem_toArray, List.getElem_cons_succ, List.getElem_cons_zero, Act.put, List.setIfInBounds_toArray, List.set_cons_zero, List.set_cons_succ]
      clear hHeld
      refine Reg.doneT (by kernel_rfl) ?_ _
      go_wp2_with fail
      go_ret
      exact ⟨by rw [hv]; rfl, HB.out⟩
  · rw [Bool.not_eq_true] at hok1
    have hv : sameB o1.d o2.d = false := by unfold sameB; rw [hok1]; rfl
    rw [hok1]
    refine Reg.takeT (i := 2) (v := ?_) rfl (by kernel_rfl) (by kernel_rfl) (by kernel_rfl) (by kernel_rfl) (fun _ _ _ h => h) (Or.inl ⟨by rfl, ?_⟩) (by assumption) ?_
    rotate_left 1
    focus (intro w hSw; (try dsimp only at hSw); go_simp; (try with_reducible rfl))
    try simp only [List.getElem_toArray, List.getElem_cons_succ, List.getElem_cons_zero, Act.put, List.setIfInBounds_toArray, List.set_cons_zero, List.set_cons_succ]
    refine Reg.takeT (i := 3) (v := undef) rfl (by kernel_rfl) (by kernel_rfl) (by kernel_rfl) (by kernel_rfl) (fun _ _ _ h => h) (Or.inr ⟨by rfl, rfl⟩) (by assumption) ?_
    try simp only [List.getElem_toArray, List.getElem_cons_succ, List.getElem_cons_zero, Act.put, List.setIfInBounds_toArray, List.set_cons_zero, List.set_cons_succ]
    refine Reg.takeT (i := 4) (v := undef) rfl (by kernel_rfl) (by kernel_rfl) (by kernel_rfl) (by kernel_rfl) (fun _ _ _ h => h) (Or.inr ⟨by rfl, rfl⟩) (by assumption) ?_
    try simp only [List.getElem_toArray, List.getElem_cons_succ, List.getElem_cons_zero, Act.put, List.setIfInBounds_toArray, List.set_cons_zero, List.set_cons_succ]
    refine Reg.takeT (i := 5) (v := ?_) rfl (by kernel_rfl) (by kernel_rfl) (by kernel_rfl) (by kernel_rfl) (fun _ _ _ h => h) (Or.inl ⟨by rfl, ?_⟩) (by assumption) ?_
    rotate_left 1
    focus (intro w hSw; (try dsimp only at hSw); go_simp; (try with_reducible rfl))
    try simp only [List.getElem_toArray, List.getElem_cons_succ, List.getElem_cons_zero, Act.put, List.setIfInBounds_toArray, List.set_cons_zero, List.set_cons_succ]
    refine Reg.takeT (i := 6) (v := ?_) rfl (by kernel_rfl) (by kernel_rfl) (by kernel_rfl) (by kernel_rfl) (fun _ _ _ h => h) (Or.inl ⟨by rfl, ?_⟩) (by assumption) ?_
    rotate_left 1
    focus (intro w hSw; (try dsimp only at hSw); go_simp; (try with_reducible rfl))
    try simp only [List.getElem_toArray, List.getElem_cons_succ, List.getElem_cons_zero, Act.put, List.setIfInBounds_toArray, List.set_cons_zero, List.set_cons_succ]
    refine Reg.takeT (i := 7) (v := undef) rfl (by kernel_rfl) (by kernel_rfl) (by kernel_rfl) (by kernel_rfl) (fun _ _ _ h => h) (Or.inr ⟨by rfl, rfl⟩) (by assumption) ?_
    try simp only [List.getElem_toArray, List.getElem_cons_succ, List.getElem_cons_zero, Act.put, List.setIfInBounds_toArray, List.set_cons_zero, List.set_cons_succ]
    refine Reg.takeT (i := 8) (v := undef) rfl (by kernel_rfl) (by kernel_rfl) (by kernel_rfl) (by kernel_rfl) (fun _ _ _ h => h) (Or.inr ⟨by rfl, rfl⟩) (by assumption) ?_
    try simp only [List.getElem_toArray, List.getElem_cons_succ, List.getElem_cons_zero, Act.put, List.setIfInBounds_toArray, List.set_cons_zero, List.set_cons_succ]
    refine Reg.takeT (i := 9) (v := undef) rfl (by kernel_rfl) (by kernel_rfl) (by kernel_rfl) (by kernel_rfl) (fun _ _ _ h => h) (Or.inr ⟨by rfl, rfl⟩) (by assumption) ?_
    try simp only [List.getElem_toArray, List.getElem_cons_succ, List.getElem_cons_zero, Act.put, List.setIfInBounds_toArray, List.set_cons_zero, List.set_cons_succ]
    refine Reg.takeT (i := 10) (v := undef) rfl (by kernel_rfl) (by kernel_rfl) (by kernel_rfl) (by kernel_rfl) (fun _ _ _ h => h) (Or.inr ⟨by rfl, rfl⟩) (by assumption) ?_
    try simp only [List.getElem_toArray, List.getElem_cons_succ, List.getElem_cons_zero, Act.put, List.setIfInBounds_toArray, List.set_cons_zero, List.set_cons_succ]
    refine Reg.takeT (i := 11) (v := undef) rfl (by kernel_rfl) (by kernel_rfl) (by kernel_rfl) (by kernel_rfl) (fun _ _ _ h => h) (Or.inr ⟨by rfl, rfl⟩) (by assumption) ?_
    try simp only [List.getElem_toArray, List.getElem_cons_succ, List.getElem_cons_zero, Act.put, List.setIfInBounds_toArray, List.set_cons_zero, List.set_cons_succ]
    refine Reg.takeT (i := 12) (v := ?_) rfl (by kernel_rfl) (by kernel_rfl) (by kernel_rfl) (by kernel_rfl) (fun _ _ _ h => h) (Or.inl ⟨by rfl, ?_⟩) (by assumption) ?_
    rotate_left 1
    focus (intro w hSw; (try dsimp only at hSw); go_simp; (try with_reducible rfl))
    try simp only [List.getElem_toArray, List.getElem_cons_succ, List.getElem_cons_zero, Act.put, List.setIfInBounds_toArray, List.set_cons_zero, List.set_cons_succ]
    refine Reg.takeT (i := 13) (v := ?_) rfl (by kernel_rfl) (by kernel_rfl) (by kernel_rfl) (by kernel_rfl) (fun _ _ _ h => h) (Or.inl ⟨by rfl, ?_⟩) (by assumption) ?_
    rotate_left 1
    focus (intro w hSw; (try dsimp only at hSw); go_simp; (try with_reducible rfl))
    try simp only [List.getElem_toArray, List.getElem_cons_succ, List.getElem_cons_zero, Act.put, List.setIfInBounds_toArray, List.set_cons_zero, List.set_cons_succ]
    clear hHeld
    refine Reg.doneT (by kernel_rfl) ?_ _
    go_wp2_with fail
    go_ret
    exact ⟨by rw [hv]; rfl, HB.out⟩
end Go.Proofs.Ytmglgjchemecjaa.CSameObj
/- l6Fixups: the reference's number of fixups. -/
namespace Go.Proofs.Ytmglgjchemecjaa.CWriteOS
set_option maxRecDepth 200000
open Go.ChangeShapes Go.WideShapes Go.ChangeAt Go.RowKit Kit CCode CName CNumber CFixups CSymbols PObj BObj PValid PWarn PClear CSecValid CObjValid BStore CMarkRows BList PLink PLinkL CWriteO
theorem fixupsOfS_any (o : OV) (w : World) (hr : RdO w w.heap.size o) (h8 : o.ps.length ≤ 8) (h6 : ∀ p ∈ o.ps, p.fs.length ≤ 6) :
    Calls Try.prog 149 #[.agg #[.slice o.A o.ps.length o.c, .slice o.Y o.ys.length o.yc]] w (Ret (.int .i64 (fixN o.d.ss)) w) := by
  have HB := hide (show Below w.heap.size w (w.alloc (.cells #[.slice o.A o.ps.length o.c, .slice o.Y o.ys.length o.yc] 26)) from (by repeat (first | exact Below.refl _ _ | with_reducible assumption | (refine Below.drew ?_) | (refine Below.drewN ?_ _) | (refine Below.alloc ?_ (by simp; try omega) _) | (refine Below.setCell ?_ (by simp; try omega) _))))
  have HR := hide (hr.1.1.below HB.out)
  have H6 := hide h6
  have HX := hide (Box.new w 26 #[.slice o.A o.ps.length o.c, .slice o.Y o.ys.length o.yc])
  clear hr h6
  have x0 := HX.out.cell 0
  simp only [List.getElem?_toArray, List.getElem?_cons_zero, List.getElem?_cons_succ] at x0
  have hxl := HX.out.lt
  go_enter Try.func149, Try.ntmps149
  go_wp2_with fail
  generalize w.alloc (.cells #[.slice o.A o.ps.length o.c, .slice o.Y o.ys.length o.yc] 26) = w0 at *
  go_loopw [3, 4] (fun s i wi => ∃ (k : Nat) (z : Int), k ≤ o.ps.length ∧ s = .int .i64 z ∧ i = .int .i64 k ∧ z = fixN ((o.ps.take k).map SV.d) ∧ 0 ≤ z ∧ z ≤ 6 * k ∧ wi = w0) (fun _ i _ => o.ps.length - (intOf i).toNat)
  case atStart => exact ⟨0, 0, Nat.zero_le _, rfl, rfl, rfl, Int.le_refl _, by omega, rfl⟩
  case round =>
    obtain ⟨k, z, hk, rfl, rfl, hz, hz0, hz1, rfl⟩ := hrel
    by_cases hlt : k < o.ps.length
    · obtain ⟨b, off, hA, hbb, hc⟩ := HR.out.row secC_len (by decide) hlt
      have hc5 := hc 5 _ rfl
      have HS := hide (show fixN ((o.ps.take (k + 1)).map SV.d) = z + (o.ps[k]).fs.length from by
        rw [take_succ hlt, List.map_append, hz]
        exact fixN_snoc _ _)
      have hf6 := H6.out _ (List.getElem_mem hlt)
      clear hz hc
      rw [hA] at x0 ⊢
      clear hA
      generalize o.ps[k] = p at *
      have hwr : IntKind.i64.wrap (z + p.fs.length) = z + p.fs.length := IntWalk.i64_in _ (by omega)
      go_wp2_with fail
      refine ⟨⟨k + 1, z + p.fs.length, by omega, rfl, by go_num, HS.out.symm, by omega, by omega, by first | rfl | trivial⟩, by simp [intOf]; omega⟩
    · have hke : k = o.ps.length := by omega
      have HV := hide (show fixN o.d.ss = z from by rw [hz, hke, List.take_length]; rfl)
      subst hke
      clear hz
      go_wp2_with fail
      go_ret
      exact ⟨by rw [HV.out]; rfl, HB.out⟩
end Go.Proofs.Ytmglgjchemecjaa.CWriteOS
/- PutHeader of a valid header: the reference's. -/
namespace Go.Proofs.Ytmglgjchemecjaa.CHeadS
set_option maxRecDepth 200000
open Go.ChangeShapes Go.WideShapes Go.ChangeAt Go.RowKit Kit CCode CNumber CFixups CSymbols PObj BObj CObjValid BStore BList PLink CSorted CNames CNameTab CTable CHead
theorem headerValidS_ok (a b c n : Int) (w : World) (h : headOk a b c n = true) :
    Calls Try.prog 180 #[.agg #[.int .i64 a, .int .i64 b, .int .i64 c, .int .i64 n]] w (Ret (.bool true) w) := by
  simp only [headOk, Bool.and_eq_true] at h
  obtain ⟨⟨⟨h1, h2⟩, h3⟩, h4⟩ := h
  have HB := hide (show Below w.heap.size w (w.alloc (.cells #[.int .i64 a, .int .i64 b, .int .i64 c, .int .i64 n] 158)) from (by repeat (first | exact Below.refl _ _ | with_reducible assumption | (refine Below.drew ?_) | (refine Below.drewN ?_ _) | (refine Below.alloc ?_ (by simp; try omega) _) | (refine Below.setCell ?_ (by simp; try omega) _))))
  have HX := hide (Box.new w 158 #[.int .i64 a, .int .i64 b, .int .i64 c, .int .i64 n])
  have x0 := HX.out.cell 0
  have x1 := HX.out.cell 1
  have x2 := HX.out.cell 2
  have x3 := HX.out.cell 3
  simp only [List.getElem?_toArray, List.getElem?_cons_zero, List.getElem?_cons_succ] at x0 x1 x2 x3
  have hxl := HX.out.lt
  have H1 := hide h1
  have H2 := hide h2
  have H3 := hide h3
  have H4 := hide h4
  clear h1 h2 h3 h4
  go_enter Try.func180, Try.ntmps180
  go_wp2_with fail
  generalize w.alloc (.cells #[.int .i64 a, .int .i64 b, .int .i64 c, .int .i64 n] 158) = w0 at *
  refine (l1In_any _ _ _ _).mono ?_
  rintro e w' ⟨rfl, rfl⟩
  rw [H1.out]
  go_wp2_with fail
  refine (l1In_any _ _ _ _).mono ?_
  rintro e w' ⟨rfl, rfl⟩
  rw [H2.out]
  go_wp2_with fail
  refine (l1In_any _ _ _ _).mono ?_
  rintro e w' ⟨rfl, rfl⟩
  rw [H3.out]
  go_wp2_with fail
  refine (l1In_any _ _ _ _).mono ?_
  rintro e w' ⟨rfl, rfl⟩
  rw [H4.out]
  go_wp2_with fail
  go_ret
  exact ⟨rfl, HB.out⟩
set_option maxHeartbeats 2000000 in
theorem putHeaderS_any (a b c n : Int) (w : World) (h : headOk a b c n = true) :
    Calls Try.prog 148 #[.agg #[.int .i64 a, .int .i64 b, .int .i64 c, .int .i64 n]] w (RetB (headB a b c n) w) := by
  obtain ⟨i0, hi1, hi2, hi3, hi4⟩ := info_parts CNumber.info8
  have HI := hide (And.intro hi1 (And.intro hi2 (And.intro hi3 hi4)))
  clear hi1 hi2 hi3 hi4
  have HH := hide h
  simp only [headOk, Bool.and_eq_true, inB, decide_eq_true_eq] at h
  obtain ⟨⟨⟨⟨a0, a1⟩, b0, b1⟩, c0, c1⟩, n0, n1⟩ := h
  have HB := hide (show Below w.heap.size w (w.alloc (.cells #[.int .i64 a, .int .i64 b, .int .i64 c, .int .i64 n] 158)) from (by repeat (first | exact Below.refl _ _ | with_reducible assumption | (refine Below.drew ?_) | (refine Below.drewN ?_ _) | (refine Below.alloc ?_ (by simp; try omega) _) | (refine Below.setCell ?_ (by simp; try omega) _))))
  have HX := hide (Box.new w 158 #[.int .i64 a, .int .i64 b, .int .i64 c, .int .i64 n])
  have x0 := HX.out.cell 0
  have x1 := HX.out.cell 1
  have x2 := HX.out.cell 2
  have x3 := HX.out.cell 3
  simp only [List.getElem?_toArray, List.getElem?_cons_zero, List.getElem?_cons_succ] at x0 x1 x2 x3
  have hxl := HX.out.lt
  have e1 : IntKind.u8.wrap a = a := by rw [IntKind.wrap_u8]; omega
  have e2 : IntKind.u8.wrap b = b := by rw [IntKind.wrap_u8]; omega
  have e3 : IntKind.u8.wrap c = c := by rw [IntKind.wrap_u8]; omega
  go_enter Try.func148, Try.ntmps148
  go_wp2_with fail
  clear x0 x1 x2 x3 hxl
  generalize w.alloc (.cells #[.int .i64 a, .int .i64 b, .int .i64 c, .int .i64 n] 158) = w0 at *
  refine (headerValidS_ok a b c n w0 HH.out).mono ?_
  rintro e w1 ⟨rfl, b1'⟩
  replace HB := hide (HB.out.trans (b1'.mono HB.out.size))
  replace HX := hide (HX.out.call b1')
  clear b1'
  have x0 := HX.out.cell 0
  have x1 := HX.out.cell 1
  have x2 := HX.out.cell 2
  have x3 := HX.out.cell 3
  simp only [List.getElem?_toArray, List.getElem?_cons_zero, List.getElem?_cons_succ] at x0 x1 x2 x3
  have hxl := HX.out.lt
  have HL := hide (show BI w (some ⟨w1.heap.size, 0, none⟩) 7 [111, 98, 106, 1, a, b, c] (w1.alloc (.cells #[.int .u8 111, .int .u8 98, .int .u8 106, .int .u8 1, .int .u8 a, .int .u8 b, .int .u8 c] 5)) from
    ⟨.inr (own_base (World.ownsRow_lit (base := w1.heap.size) (e := 5) (size := 1) w1 #[.int .u8 111, .int .u8 98, .int .u8 106, .int .u8 1, .int .u8 a, .int .u8 b, .int .u8 c] 7 (Nat.le_refl _) (by unfold maxLen; omega) rfl) HB.out.size), HB.out.alloc HB.out.size _⟩)
  go_wp2_with fail
  clear x0 x1 x2 x3 hxl HX HB
  generalize w1.alloc (.cells #[.int .u8 111, .int .u8 98, .int .u8 106, .int .u8 1, .int .u8 a, .int .u8 b, .int .u8 c] 5) = w2 at *
  generalize w1.heap.size = L at *
  refine (putNumberS_any n 2 w2).mono ?_
  rintro e w3 ⟨A3, c3, rfl, o3, b3⟩
  rw [pnum2 (by omega) (by omega)] at o3 ⊢
  replace HL := hide (HL.out.call b3)
  have HO := hide (Row.own o3)
  clear o3 b3
  have hpl : (putL 2 n).length = 2 := putL_len 2 n
  generalize hy : putL 2 n = ys at *
  have HY := hide hy
  clear hy
  generalize hz : ([111, 98, 106, 1, a, b, c] : List Int) = zs at *
  have hzl : zs.length = 7 := by rw [← hz]; rfl
  have HZ := hide hz
  have HZL := hide hzl
  clear hz
  rw [hpl] at HO ⊢
  have HPL := hide hpl
  clear hzl hpl
  have HR7 := hide (show Row w3 w.heap.size 5 1 (some ⟨L, 0, none⟩) 7 7 (ints .u8 zs) from by
    have h := HL.out.row
    rw [HZL.out] at h
    exact h)
  have HYL := hide (show (ints .u8 ys).length = 2 * 1 from by simp [HPL.out])
  go_wp2_with (at_builtin; refine wpList_app w3 rfl (.tmp 18) (.tmp 21) 22 rfl 5 i0 (.int .u8 0) 1 1 Try.underlying22 HI.out.1 HI.out.2.1 HI.out.2.2.1 HI.out.2.2.2 rfl (by decide) w.heap.size (some ⟨L, 0, none⟩) 7 7 (ints .u8 zs) rfl HR7.out HL.out.b.size A3 2 c3 (ints .u8 ys) rfl HO.out.rd HYL.out HO.out.nil oneI (by unfold maxLen; omega) (by omega) ?_)
  intro A4 n4 c4 w4 hn4 o4 g4 k4
  have HL4 := hide (HL.out.add (by rw [HZL.out, HPL.out]; exact hn4) o4 g4)
  subst hn4
  clear o4 g4 k4 HL HO HR7 HYL
  have hzy : (zs ++ ys).length = 9 := by rw [List.length_append, HZL.out, HPL.out]
  generalize hq : zs ++ ys = qs at *
  have HQ := hide hq
  have HQL := hide hzy
  clear hq hzy
  have HR9 := hide (show Row (w4.alloc (.cells #[.int .u8 0] 5)) w.heap.size 5 1 A4 9 c4 (ints .u8 qs) from by
    have h := HL4.out.row.alloc (.cells #[.int .u8 0] 5)
    rw [HQL.out] at h
    exact h)
  have HB4 := hide (HL4.out.b.alloc HL4.out.b.size (.cells #[.int .u8 0] 5))
  go_wp2_with (at_builtin; refine wpList_app (w4.alloc (.cells #[.int .u8 0] 5)) rfl (.tmp 22) (.tmp 23) 22 rfl 5 i0 (.int .u8 0) 1 1 Try.underlying22 HI.out.1 HI.out.2.1 HI.out.2.2.1 HI.out.2.2.2 rfl (by decide) w.heap.size A4 9 c4 (ints .u8 qs) rfl HR9.out HB4.out.size (some ⟨w4.heap.size, 0, none⟩) 1 1 [.int .u8 0] rfl (rd_lit w4 #[.int .u8 0] 5 _ rfl) rfl (fun h => by cases h) oneI1 (by unfold maxLen; omega) (by omega) ?_)
  intro A5 n5 c5 w5 hn5 o5 g5 k5
  have bl : Below w4.heap.size w4 (w4.alloc (.cells #[.int .u8 0] 5)) := (by repeat (first | exact Below.refl _ _ | with_reducible assumption | (refine Below.drew ?_) | (refine Below.drewN ?_ _) | (refine Below.alloc ?_ (by simp; try omega) _) | (refine Below.setCell ?_ (by simp; try omega) _)))
  have HL5 := hide ((HL4.out.call bl).add (ys := [0]) (by rw [HQL.out]; exact hn5) o5 g5)
  subst hn5
  clear o5 g5 k5 bl
  have HF := hide (show headB a b c n = qs ++ [0] from by unfold headB; rw [HZ.out, HY.out, HQ.out])
  have HFL := hide (show (qs ++ [0]).length = 10 from by rw [List.length_append, HQL.out]; rfl)
  go_wp2_with fail
  go_ret
  refine ⟨A5, c5, by rw [HF.out, HFL.out]; rfl, ?_, HL5.out.b⟩
  rw [HF.out]
  exact HL5.out.row
end Go.Proofs.Ytmglgjchemecjaa.CHeadS
/- NameAt and PlaceOf: the reference's. -/
namespace Go.Proofs.Ytmglgjchemecjaa.CPlOfS
set_option maxRecDepth 200000
open Go.ChangeShapes Go.WideShapes Go.ChangeAt Go.RowKit Kit CCode CFixups CSymbols PObj BObj CGlobalOf BStore BList PLink CSorted CNames CNameTab CTable CPlOf
theorem cut_none : ∀ {xs : List Int}, cutZ xs = none → ∀ x ∈ xs, x ≠ 0
  | [], _ => fun x hx => by cases hx
  | y :: ys, h => by
    rw [cutZ] at h
    split at h
    · cases h
    · rename_i hy
      intro x hx
      rcases List.mem_cons.1 hx with rfl | hx
      · exact hy
      · exact cut_none (Option.map_eq_none_iff.1 h) x hx
theorem cut_some : ∀ {xs p : List Int}, cutZ xs = some p → (∀ (j : Nat) (x : Int), j < p.length → xs[j]? = some x → x ≠ 0) ∧ xs[p.length]? = some 0
  | [], p, h => by cases h
  | y :: ys, p, h => by
    rw [cutZ] at h
    split at h
    · rename_i hy
      injection h with h
      subst h hy
      exact ⟨(fun j x hj => absurd hj (Nat.not_lt_zero _)), rfl⟩
    · rename_i hy
      cases hc : cutZ ys with
      | none => rw [hc] at h; cases h
      | some q =>
        rw [hc] at h
        injection h with h
        subst h
        obtain ⟨h1, h2⟩ := cut_some hc
        refine ⟨fun j x hj hx => ?_, by simpa using h2⟩
        cases j with
        | zero =>
          simp only [List.getElem?_cons_zero, Option.some.injEq] at hx
          subst hx
          exact hy
        | succ j =>
          rw [List.getElem?_cons_succ] at hx
          exact h1 j x (by simpa using hj) hx
theorem nameAtS_any (A : Option Addr) (t : List Int) (c k : Nat) (B : Nat) (w : World) (hr : Rd w B A (ints .u8 t)) (hz : InR 0 255 t) (hm : t.length ≤ 1000) (hk : k < t.length) (hcap : t.length ≤ c) :
    Calls Try.prog 182 #[.slice A t.length c, .int .i64 k] w (Pure (nmV (nmAt t k)) w) := by
  obtain ⟨b, off, rfl, _, _⟩ := hr.int hk
  have HR := hide hr
  have hws : IntKind.i64.wrap ((t.length : Int) - 1) = (t.length : Int) - 1 := IntWalk.i64_in _ (by omega)
  have hin : inB (k : Int) 0 ((t.length : Int) - 1) = true := by simp [inB]; omega
  have HN := hide hin
  have HCELL := hide (show ∀ (j : Nat) (x : Int), (t.drop k)[j]? = some x → w.cell? ⟨b, off + (k + j), none⟩ = some (.int .u8 x) from fun j x hx => by
    rw [List.getElem?_drop] at hx
    obtain ⟨b', off', hA, hb', hcc⟩ := HR.out (k + j) (.int .u8 x) (by rw [ints, List.getElem?_map, hx]; rfl)
    injection hA with hA
    injection hA with e1 e2
    subst e1 e2
    exact hcc)
  have hdl : (t.drop k).length = t.length - k := List.length_drop
  have hkn : k ≤ t.length := by omega
  clear hin hr
  cases hc : cutZ (t.drop k) with
  | none =>
    have HV := hide (show nmAt t k = none from by unfold nmAt; rw [hc]; rfl)
    have HZ := hide (cut_none hc)
    clear hc
    go_enter Try.func182, Try.ntmps182
    go_wp2_with fail
    refine (l1In_any _ _ _ _).mono ?_
    rintro e w' ⟨rfl, rfl⟩
    rw [HN.out]
    go_wp2_with fail
    go_loopw [6] (fun i wi => ∃ j : Nat, k + j ≤ t.length ∧ i = .int .i64 (k + j : Nat) ∧ wi = w) (fun i _ => t.length - (intOf i).toNat)
    case atStart => exact ⟨0, by omega, rfl, rfl⟩
    case round =>
      obtain ⟨j, hj, rfl, rfl⟩ := hrel
      by_cases hlt : k + j < t.length
      · obtain ⟨x, hx⟩ : ∃ x, (t.drop k)[j]? = some x := ⟨_, List.getElem?_eq_getElem (by omega)⟩
        have hcl := HCELL.out j x hx
        have hne : (x == 0) = false := beq_eq_false_iff_ne.2 (HZ.out x (List.mem_of_getElem? hx))
        clear hx
        generalize hi : k + j = i at *
        go_wp2_with fail
        refine ⟨⟨j + 1, by omega, by go_num, by first | rfl | trivial⟩, by simp [intOf]; omega⟩
      · have hje : k + j = t.length := by omega
        rw [hje]
        go_wp2_with fail
        go_ret2
        exact ⟨by rw [HV.out]; rfl, rfl⟩
  | some p =>
    obtain ⟨hp1, hp2⟩ := cut_take _ _ hc
    rw [List.length_drop] at hp2
    have HV := hide (show nmAt t k = some (strOfNums p) from by unfold nmAt; rw [hc]; rfl)
    have HZ := hide (cut_some hc)
    have hconv := CEqual.conv_run (w := w) (B := B) (A := some ⟨b, off + k, none⟩) (xs := p) (by
      intro i u hi
      rw [hp1, ints, List.getElem?_map] at hi
      have hip : i < p.length := by
        rcases Nat.lt_or_ge i p.length with h | h
        · exact h
        · rw [List.getElem?_eq_none (by rw [List.length_take]; omega)] at hi
          cases hi
      rw [List.getElem?_take_of_lt hip, List.getElem?_drop] at hi
      obtain ⟨b', off', hA, hb', hcc⟩ := HR.out (k + i) u (by rw [ints, List.getElem?_map]; exact hi)
      injection hA with hA
      injection hA with e1 e2
      subst e1 e2
      exact ⟨b, off + k, rfl, hb', by rw [Nat.add_assoc]; exact hcc⟩) (c - k)
    clear hc hp1
    go_enter Try.func182, Try.ntmps182
    go_wp2_with fail
    refine (l1In_any _ _ _ _).mono ?_
    rintro e w' ⟨rfl, rfl⟩
    rw [HN.out]
    go_wp2_with fail
    go_loopw [6] (fun i wi => ∃ j : Nat, j ≤ p.length ∧ i = .int .i64 (k + j : Nat) ∧ wi = w) (fun i _ => t.length - (intOf i).toNat)
    case atStart => exact ⟨0, by omega, rfl, rfl⟩
    case round =>
      obtain ⟨j, hj, rfl, rfl⟩ := hrel
      have hlt : k + j < t.length := by omega
      by_cases hjp : j < p.length
      · obtain ⟨x, hx⟩ : ∃ x, (t.drop k)[j]? = some x := ⟨_, List.getElem?_eq_getElem (by omega)⟩
        have hcl := HCELL.out j x hx
        have hne : (x == 0) = false := beq_eq_false_iff_ne.2 (HZ.out.1 j x hjp hx)
        clear hx hconv
        generalize hi : k + j = i at *
        go_wp2_with fail
        refine ⟨⟨j + 1, by omega, by go_num, by first | rfl | trivial⟩, by simp [intOf]; omega⟩
      · have hje : j = p.length := by omega
        subst hje
        have hcl := HCELL.out p.length 0 HZ.out.2
        have q1 : ((k : Int) + p.length).toNat = k + p.length := by omega
        have q2 : (0 : Int) ≤ (k : Int) + p.length := by omega
        have q3 : (k : Int) + p.length ≤ c := by omega
        have q4 : k ≤ k + p.length := by omega
        have q5 : k + p.length - k = p.length := by omega
        have hck : k ≤ c := by omega
        have hne : ¬ c = k := by omega
        go_wp2_with fail
        go_ret2
        exact ⟨by rw [HV.out]; rfl, rfl⟩
theorem placeOfS_any (A : Option Addr) (t : List Int) (c : Nat) (s : ByteArray) (B : Nat) (w : World) (hr : Rd w B A (ints .u8 t)) (hz : InR 0 255 t) (hm : t.length ≤ 1000) (hcap : t.length ≤ c) :
    Calls Try.prog 151 #[.slice A t.length c, .string s] w (Pure (.int .i64 (plOf t s)) w) := by
  have HN := hide (fun k (hk : k < t.length) => nameAtS_any A t c k B w hr hz hm hk hcap)
  clear hr hz hcap
  go_enter Try.func151, Try.ntmps151
  go_wp2_with fail
  go_loopw [5] (fun i wi => ∃ k : Nat, k ≤ t.length ∧ i = .int .i64 k ∧ plOf t s = plGo t s (t.length - k) k ∧ wi = w) (fun i _ => t.length - (intOf i).toNat)
  case atStart => exact ⟨0, Nat.zero_le _, rfl, rfl, rfl⟩
  case round =>
    obtain ⟨k, hk, rfl, hp, rfl⟩ := hrel
    by_cases hlt : k < t.length
    · obtain ⟨m, hm2⟩ : ∃ m, t.length - k = m + 1 := ⟨t.length - k - 1, by omega⟩
      have HP := hide (show plOf t s = if nmAt t k = some s then (k : Int) else plGo t s m (k + 1) from by rw [hp, hm2]; rfl)
      have hm3 : t.length - (k + 1) = m := by omega
      have HM := hide hm3
      clear hp hm2 hm3
      have HC := hide (HN.out k hlt)
      generalize nmAt t k = r at *
      go_wp2_with fail
      refine HC.out.mono ?_
      rintro e w' ⟨rfl, rfl⟩
      cases r with
      | none =>
        have HV := hide (HP.out.trans (if_neg (fun h => by cases h)))
        simp only [nmV]
        clear HP HC
        go_wp2_with fail
        refine ⟨⟨k + 1, by omega, by go_num, by rw [HV.out, HM.out]; exact ⟨rfl, trivial⟩⟩, by simp [intOf]; omega⟩
      | some q =>
        simp only [nmV]
        cases hq : (q.toList == s.toList)
        · have hne : ¬ q = s := by
            have h := str_eq q s
            rw [hq] at h
            exact of_decide_eq_false h.symm
          have HV := hide (HP.out.trans (if_neg (fun h => hne (Option.some.inj h))))
          clear HP HC hne
          go_wp2_with fail
          refine ⟨⟨k + 1, by omega, by go_num, by rw [HV.out, HM.out]; exact ⟨rfl, trivial⟩⟩, by simp [intOf]; omega⟩
        · have he : q = s := by
            have h := str_eq q s
            rw [hq] at h
            exact of_decide_eq_true h.symm
          have HV := hide (HP.out.trans (if_pos (by rw [he])))
          clear HP HC he
          go_wp2_with fail
          go_ret
          exact ⟨by rw [HV.out]; rfl, rfl⟩
    · have hke : t.length - k = 0 := by omega
      have HV := hide (show plOf t s = -1 from by rw [hp, hke]; rfl)
      clear hp hke
      go_wp2_with fail
      go_ret
      exact ⟨by rw [HV.out]; rfl, rfl⟩
end Go.Proofs.Ytmglgjchemecjaa.CPlOfS
