/- The library's stable sort of at most 19 numbers that stand in order: the insertion sort, at whatever comparer. -/
import Derived.Test.YtmglgjchemecjaaFnWarningsOfM9
import Derived.Deep.QuietTactic
import Derived.BigQuiet
import Derived.Test.YtmglgjchemecjaaRows
namespace Go.Proofs.Ytmglgjchemecjaa.CIns
set_option maxRecDepth 200000
open Go.ChangeShapes Go.WideShapes Go.ChangeAt Go.RowKit Kit CFixups CSymbols PObj BObj PSort CCmp
/-- The row of numbers, sorted so far. -/
def RowI (w : World) (base g n c : Nat) (L : List Nat) : Prop := w.ownsRow base 3 1 (.slice (some ⟨g, 0, none⟩) n c) n (ints .i64 (toI L))
section
variable {w w' : World} {base g n c : Nat} {L : List Nat}
theorem RowI.len (h : RowI w base g n c L) : L.length = n := by
  have := h.1
  simpa using this
theorem RowI.put (h : RowI w base g n c L) (j x : Nat) : RowI (w.setCell ⟨g, j, none⟩ (.int .i64 x)) base g n c (L.set j x) := by
  have e : toI (L.set j x) = (toI L).set j (x : Int) := by simp [toI, List.map_set]
  unfold RowI
  rw [e, ← setInts]
  exact (World.ownsRow.stored h j _).1
theorem RowI.call (h : RowI w base g n c L) (hb : Below w.heap.size w w') : RowI w' base g n c L := own_call hb h
theorem RowI.cell (h : RowI w base g n c L) {j : Nat} (hj : j < n) : w.cell? ⟨g, j, none⟩ = some (.int .i64 (L.getD j 0 : Nat)) := by
  have hl := h.len
  have h1 := World.ownsRow.cellAt h j (by omega)
  rw [h1]
  simp [toI, List.getD_eq_getElem?_getD, List.getElem?_eq_getElem (show j < L.length by omega)]
theorem RowI.frozen (h : RowI w base g n c L) (j : Nat) : w.frozen? ⟨g, j, none⟩ = false := World.ownsRow.frozenAt h j
theorem RowI.lt (h : RowI w base g n c L) : base ≤ g ∧ g < w.heap.size := World.ownsRow.lt h g rfl
end
section
variable {w : World} {base n c : Nat} {A : Option Addr} {L : List Nat}
end
/-- What a sort leaves. -/
def Sorted (w : World) (base g n c : Nat) (L : List Nat) (e : Ending) (w' : World) : Prop := e = .returned (.tuple #[]) ∧ RowI w' base g n c L ∧ w.grownBy w' (some g)
set_option maxHeartbeats 2000000 in
theorem insertion_any (F : FuncId) (X : Array Value) (hF : ∀ zs W, (callFunc F zs).run Try.prog W = .ok (.enter F zs) W) (cv : Nat → Nat → Int) (base g n c : Nat) (w : World) (hrow : RowI w base g n c (List.range n)) (hn : n ≤ 100) (hn0 : 0 < n)
    (HC : ∀ W, w.grownBy W (some g) → ∀ i j, i < n → j < n → Calls Try.prog F (#[.int .i64 i, .int .i64 j] ++ X) W (Ret (.int .i64 (cv i j)) W)) (hbd : ∀ i j, -1 ≤ cv i j ∧ cv i j ≤ 1) :
    Calls Try.prog 172 #[.slice (some ⟨g, 0, none⟩) n c, .int .i64 0, .int .i64 n, .func (.func F) #[] X] w
      (Sorted w base g n c (ord (fun i j => decide (cv i j < 0)) n)) := by
  have HROW := hide (And.intro hrow (grown_refl w (some g)))
  have HCC := hide HC
  have HBD := hide hbd
  have HFF := hide hF
  clear HC hrow hbd hF
  have HST := hide (show ord (fun i j => decide (cv i j < 0)) 1 ++ (List.range n).drop 1 = List.range n by
    obtain ⟨m, rfl⟩ : ∃ m, n = m + 1 := ⟨n - 1, by omega⟩
    rw [List.range_succ_eq_map]
    rfl)
  have HEND := hide (fun (k : Nat) (hk : ¬ k < n) (hk' : k ≤ n) => (show ord (fun i j => decide (cv i j < 0)) k ++ (List.range n).drop k = ord (fun i j => decide (cv i j < 0)) n by
    have : k = n := by omega
    subst this
    rw [List.drop_of_length_le (by simp), List.append_nil]))
  have HSTEP := hide (fun (k : Nat) (hk : k < n) => (show (List.range n).drop k = k :: (List.range n).drop (k + 1) by
    rw [List.drop_eq_getElem_cons (by simpa using hk)]
    simp))
  have HLN := hide (fun k => (show (ord (fun i j => decide (cv i j < 0)) k).length = k from ord_len _ k))
  have HLT := hide (fun k x (h : x ∈ ord (fun i j => decide (cv i j < 0)) k) => (show x < k from ord_lt _ h))
  have HINS := hide (fun k => (show ord (fun i j => decide (cv i j < 0)) (k + 1) = ins (fun i j => decide (cv i j < 0)) (ord (fun i j => decide (cv i j < 0)) k) k from rfl))
  generalize hbf : (fun i j => decide (cv i j < 0)) = bf at *
  have HBF := hide hbf
  clear hbf
  go_enter Try.func172, Try.ntmps172
  go_wp2_with fail
  go_loopw [8] (fun i wi => ∃ (k : Nat), 1 ≤ k ∧ k ≤ n ∧ i = .int .i64 k ∧ RowI wi base g n c (ord bf k ++ (List.range n).drop k) ∧ w.grownBy wi (some g)) (fun i _ => n - (intOf i).toNat)
  case atStart => exact ⟨1, Nat.le_refl _, hn0, rfl, by rw [HST.out]; exact HROW.out.1, HROW.out.2⟩
  case round =>
    clear HROW
    obtain ⟨k, hk1, hk, rfl, hr, hg⟩ := hrel
    by_cases hlt : k < n
    · rw [HSTEP.out k hlt] at hr
      have HR := hide hr
      have HG := hide hg
      have HL := hide (HLN.out k)
      have HLL := hide (HLT.out k)
      have HIN := hide (HINS.out k)
      clear hr hg
      generalize ord bf k = L at *
      generalize hrest : (List.range n).drop (k + 1) = rest at *
      have HREST := hide hrest
      clear hrest
      go_wp2_with fail
      go_loopw [9] (fun i wi => ∃ (j : Nat), j ≤ k ∧ i = .int .i64 j ∧ pos bf L k L.length = pos bf L k j ∧ RowI wi base g n c (L.take j ++ k :: L.drop j ++ rest) ∧ w.grownBy wi (some g)) (fun i _ => (intOf i).toNat)
      case atStart =>
        refine ⟨k, Nat.le_refl _, rfl, by rw [HL.out], ?_, HG.out⟩
        rw [List.take_of_length_le (by rw [HL.out]; exact Nat.le_refl _), List.drop_of_length_le (by rw [HL.out]; exact Nat.le_refl _), List.append_assoc]
        exact HR.out
      case round =>
        clear HR HG
        obtain ⟨j, hj, rfl, hpos, hr, hg⟩ := hrel
        have HR := hide hr
        have HG := hide hg
        have HPOS := hide hpos
        cases j with
        | zero =>
          have HF := hide (show ord bf (k + 1) = L.take 0 ++ k :: L.drop 0 by rw [HIN.out, ins, hpos]; rfl)
          clear hr hg hpos
          have e0 : decide ((0 : Int) < 0) = false := rfl
          go_wp2_with fail
          refine Reg.startT (fun _ => True) (fun _ => false) (by kernel_rfl) ?_
          have hHeld : True := trivial
          refine Reg.takeT (i := 0) (v := ?_) rfl (by kernel_rfl) (by kernel_rfl) (by kernel_rfl) (by kernel_rfl) (fun _ _ _ h => h) (Or.inl ⟨by rfl, ?_⟩) (by assumption) ?_
          rotate_left 1
          focus (intro w hSw; (try dsimp only at hSw); go_simp; (try with_reducible rfl))
          try simp only [List.getElem_toArray, List.getElem_cons_succ, List.getElem_cons_zero, Act.put, List.setIfInBounds_toArray, List.set_cons_zero, List.set_cons_succ]
          refine Reg.takeT (i := 1) (v := ?_) rfl (by kernel_rfl) (by kernel_rfl) (by kernel_rfl) (by kernel_rfl) (fun _ _ _ h => h) (Or.inl ⟨by rfl, ?_⟩) (by assumption) ?_
          rotate_left 1
          focus (intro w hSw; (try dsimp only at hSw); go_simp; (try with_reducible rfl))
          try simp only [List.getElem_toArray, List.getElem_cons_succ, List.getElem_cons_zero, Act.put, List.setIfInBounds_toArray, List.set_cons_zero, List.set_cons_succ]
          refine Reg.takeT (i := 2) (v := ?_) rfl (by kernel_rfl) (by kernel_rfl) (by kernel_rfl) (by kernel_rfl) (fun _ _ _ h => h) (Or.inl ⟨by rfl, ?_⟩) (by assumption) ?_
          rotate_left 1
          focus (intro w hSw; (try dsimp only at hSw); go_simp; (try with_reducible rfl))
          try simp only [List.getElem_toArray, List.getElem_cons_succ, List.getElem_cons_zero, Act.put, List.setIfInBounds_toArray, List.set_cons_zero, List.set_cons_succ]
          refine Reg.takeT (i := 3) (v := ?_) rfl (by kernel_rfl) (by kernel_rfl) (by kernel_rfl) (by kernel_rfl) (fun _ _ _ h => h) (Or.inl ⟨by rfl, ?_⟩) (by assumption) ?_
          rotate_left 1
          focus (intro w hSw; (try dsimp only at hSw); go_simp; (try with_reducible rfl))
          try simp only [List.getElem_toArray, List.getElem_cons_succ, List.getElem_cons_zero, Act.put, List.setIfInBounds_toArray, List.set_cons_zero, List.set_cons_succ]
          refine Reg.takeT (i := 4) (v := undef) rfl (by kernel_rfl) (by kernel_rfl) (by kernel_rfl) (by kernel_rfl) (fun _ _ _ h => h) (Or.inr ⟨by rfl, rfl⟩) (by assumption) ?_
          try simp only [List.getElem_toArray, List.getElem_cons_succ, List.getElem_cons_zero, Act.put, List.setIfInBounds_toArray, List.set_cons_zero, List.set_cons_succ]
          refine Reg.takeT (i := 5) (v := undef) rfl (by kernel_rfl) (by kernel_rfl) (by kernel_rfl) (by kernel_rfl) (fun _ _ _ h => h) (Or.inr ⟨by rfl, rfl⟩) (by assumption) ?_
          try simp only [List.getElem_toArray, List.getElem_cons_succ, List.getElem_cons_zero, Act.put, List.setIfInBounds_toArray, List.set_cons_zero, List.set_cons_succ]
          refine Reg.takeT (i := 6) (v := undef) rfl (by kernel_rfl) (by kernel_rfl) (by kernel_rfl) (by kernel_rfl) (fun _ _ _ h => h) (Or.inr ⟨by rfl, rfl⟩) (by assumption) ?_
          try simp only [List.getElem_toArray, List.getElem_cons_succ, List.getElem_cons_zero, Act.put, List.setIfInBounds_toArray, List.set_cons_zero, List.set_cons_succ]
          refine Reg.takeT (i := 7) (v := undef) rfl (by kernel_rfl) (by kernel_rfl) (by kernel_rfl) (by kernel_rfl) (fun _ _ _ h => h) (Or.inr ⟨by rfl, rfl⟩) (by assumption) ?_
          try simp only [List.getElem_toArray, List.getElem_cons_succ, List.getElem_cons_zero, Act.put, List.setIfInBounds_toArray, List.set_cons_zero, List.set_cons_succ]
          refine Reg.takeT (i := 8) (v := undef) rfl (by kernel_rfl) (by kernel_rfl) (by kernel_rfl) (by kernel_rfl) (fun _ _ _ h => h) (Or.inr ⟨by rfl, rfl⟩) (by assumption) ?_
          try simp only [List.getElem_toArray, List.getElem_cons_succ, List.getElem_cons_zero, Act.put, List.setIfInBounds_toArray, List.set_cons_zero, List.set_cons_succ]
          refine Reg.takeT (i := 9) (v := undef) rfl (by kernel_rfl) (by kernel_rfl) (by kernel_rfl) (by kernel_rfl) (fun _ _ _ h => h) (Or.inr ⟨by rfl, rfl⟩) (by assumption) ?_
          try simp only [List.getElem_toArray, List.getElem_cons_succ, List.getElem_cons_zero, Act.put, List.setIfInBounds_toArray, List.set_cons_zero, List.set_cons_succ]
          refine Reg.takeT (i := 10) (v := undef) rfl (by kernel_rfl) (by kernel_rfl) (by kernel_rfl) (by kernel_rfl) (fun _ _ _ h => h) (Or.inr ⟨by rfl, rfl⟩) (by assumption) ?_
          try simp only [List.getElem_toArray, List.getElem_cons_succ, List.getElem_cons_zero, Act.put, List.setIfInBounds_toArray, List.set_cons_zero, List.set_cons_succ]
          refine Reg.takeT (i := 11) (v := undef) rfl (by kernel_rfl) (by kernel_rfl) (by kernel_rfl) (by kernel_rfl) (fun _ _ _ h => h) (Or.inr ⟨by rfl, rfl⟩) (by assumption) ?_
          try simp only [List.getElem_toArray, List.getElem_cons_succ, List.getElem_cons_zero, Act.put, List.setIfInBounds_toArray, List.set_cons_zero, List.set_cons_succ]
          refine Reg.takeT (i := 12) (v := undef) rfl (by kernel_rfl) (by kernel_rfl) (by kernel_rfl) (by kernel_rfl) (fun _ _ _ h => h) (Or.inr ⟨by rfl, rfl⟩) (by assumption) ?_
          try simp only [List.getElem_toArray, List.getElem_cons_succ, List.getElem_cons_zero, Act.put, List.setIfInBounds_toArray, List.set_cons_zero, List.set_cons_succ]
          refine Reg.takeT (i := 13) (v := undef) rfl (by kernel_rfl) (by kernel_rfl) (by kernel_rfl) (by kernel_rfl) (fun _ _ _ h => h) (Or.inr ⟨by rfl, rfl⟩) (by assumption) ?_
          try simp only [List.getElem_toArray, List.getElem_cons_succ, List.getElem_cons_zero, Act.put, List.setIfInBounds_toArray, List.set_cons_zero, List.set_cons_succ]
          refine Reg.takeT (i := 14) (v := undef) rfl (by kernel_rfl) (by kernel_rfl) (by kernel_rfl) (by kernel_rfl) (fun _ _ _ h => h) (Or.inr ⟨by rfl, rfl⟩) (by assumption) ?_
          try simp only [List.getElem_toArray, List.getElem_cons_succ, List.getElem_cons_zero, Act.put, List.setIfInBounds_toArray, List.set_cons_zero, List.set_cons_succ]
          refine Reg.takeT (i := 15) (v := undef) rfl (by kernel_rfl) (by kernel_rfl) (by kernel_rfl) (by kernel_rfl) (fun _ _ _ h => h) (Or.inr ⟨by rfl, rfl⟩) (by assumption) ?_
          try simp only [List.getElem_toArray, List.getElem_cons_succ, List.getElem_cons_zero, Act.put, List.setIfInBounds_toArray, List.set_cons_zero, List.set_cons_succ]
          refine Reg.takeT (i := 16) (v := ?_) rfl (by kernel_rfl) (by kernel_rfl) (by kernel_rfl) (by kernel_rfl) (fun _ _ _ h => h) (Or.inl ⟨by rfl, ?_⟩) (by assumption) ?_
          rotate_left 1
          focus (intro w hSw; (try dsimp only at hSw); go_simp; (try with_reducible rfl))
          try simp only [List.getElem_toArray, List.getElem_cons_succ, List.getElem_cons_zero, Act.put, List.setIfInBounds_toArray, List.set_cons_zero, List.set_cons_succ]
          refine Reg.doneT (by kernel_rfl) ?_ _
          go_wp2_with fail
          refine ⟨⟨k + 1, by omega, by omega, by go_num, by rw [HF.out, HREST.out]; exact HR.out.call (below_dr (Below.refl _ _)), grown_drew HG.out⟩, by simp [intOf]; omega⟩
        | succ j =>
          have hjl : j < L.length := by rw [HL.out]; omega
          have c1 := hr.cell (j := j + 1) (by omega)
          have c0 := hr.cell (j := j) (by omega)
          rw [row_x L k (j + 1) rest (by omega)] at c1
          rw [row_p L k j rest hjl] at c0
          have hpl : L.getD j 0 < n := by
            have := HLL.out (L.getD j 0) (by rw [List.getD_eq_getElem?_getD, List.getElem?_eq_getElem hjl]; exact List.getElem_mem hjl)
            omega
          have hbdj := HBD.out k (L.getD j 0)
          have HCALL := hide (fun V (hV : w.grownBy V (some g)) => HCC.out V hV k (L.getD j 0) hlt hpl)
          have HSW := hide (swap_row L k j rest hjl)
          have HP2 := hide (show pos bf L k (j + 1) = if bf k (L.getD j 0) = true then pos bf L k j else j + 1 from rfl)
          have f1 := hr.frozen (j + 1)
          have f0 := hr.frozen j
          have hgl := hr.lt.2
          have HBB := hide (show bf k (L.getD j 0) = decide (cv k (L.getD j 0) < 0) by rw [← HBF.out])
          generalize L.getD j 0 = p at *
          generalize cv k p = cvp at *
          clear hr hg hpos hjl
          have Z0 : wr.cell? ⟨g, j + 1, none⟩ = some (.int .i64 k) ∧ wr.cell? ⟨g, j, none⟩ = some (.int .i64 p) := ⟨c1, c0⟩
          clear c1 c0
          generalize hm : j + 1 = m at *
          have HM := hide hm
          have hm0 : 0 < m := by omega
          have hw1 : IntKind.i64.wrap ((m : Int) - 1) = (m : Int) - 1 := IntWalk.i64_in _ (by omega)
          have ht1 : ((m : Int) - 1).toNat = j := by omega
          have hq1 : (0 : Int) ≤ (m : Int) - 1 := by omega
          have hq2 : (1 : Int) ≤ (m : Int) := by omega
          have hq3 : 1 ≤ m := by omega
          have hjn : j < n := by omega
          have hq4 : (m : Int) - 1 < n := by omega
          have hmn : m < n := by omega
          clear hm
          cases hb : decide (cvp < 0)
          · have HP3 := hide (show pos bf L k m = m by rw [HP2.out, HBB.out, hb]; rfl)
            clear HP2 HBB
            go_wp2_with fail
            refine Reg.startT (fun W => W.cell? ⟨g, m, none⟩ = some (.int .i64 k) ∧ W.cell? ⟨g, j, none⟩ = some (.int .i64 p)) (fun _ => false) (by kernel_rfl) ?_
            have hHeld : wr.drew.cell? ⟨g, m, none⟩ = some (.int .i64 k) ∧ wr.drew.cell? ⟨g, j, none⟩ = some (.int .i64 p) := Z0
            refine Reg.takeT (i := 0) (v := ?_) rfl (by kernel_rfl) (by kernel_rfl) (by kernel_rfl) (by kernel_rfl) (fun _ _ _ h => h) (Or.inl ⟨by rfl, ?_⟩) (by assumption) ?_
            rotate_left 1
            focus (intro w hSw; (try dsimp only at hSw); go_simp; (try with_reducible rfl))
            try simp only [List.getElem_toArray, List.getElem_cons_succ, List.getElem_cons_zero, Act.put, List.setIfInBounds_toArray, List.set_cons_zero, List.set_cons_succ]
            refine Reg.takeT (i := 1) (v := ?_) rfl (by kernel_rfl) (by kernel_rfl) (by kernel_rfl) (by kernel_rfl) (fun _ _ _ h => h) (Or.inl ⟨by rfl, ?_⟩) (by assumption) ?_
            rotate_left 1
            focus (intro w hSw; (try dsimp only at hSw); go_simp; (try with_reducible rfl))
            try simp only [List.getElem_toArray, List.getElem_cons_succ, List.getElem_cons_zero, Act.put, List.setIfInBounds_toArray, List.set_cons_zero, List.set_cons_succ]
            refine Reg.takeT (i := 2) (v := ?_) rfl (by kernel_rfl) (by kernel_rfl) (by kernel_rfl) (by kernel_rfl) (fun _ _ _ h => h) (Or.inl ⟨by rfl, ?_⟩) (by assumption) ?_
            rotate_left 1
            focus (intro w hSw; (try dsimp only at hSw); go_simp; (try with_reducible rfl))
            try simp only [List.getElem_toArray, List.getElem_cons_succ, List.getElem_cons_zero, Act.put, List.setIfInBounds_toArray, List.set_cons_zero, List.set_cons_succ]
            refine Reg.takeT (i := 3) (v := ?_) rfl (by kernel_rfl) (by kernel_rfl) (by kernel_rfl) (by kernel_rfl) (fun _ _ _ h => h) (Or.inl ⟨by rfl, ?_⟩) (by assumption) ?_
            rotate_left 1
            focus (intro w hSw; (try dsimp only at hSw); go_simp; (try with_reducible rfl))
            try simp only [List.getElem_toArray, List.getElem_cons_succ, List.getElem_cons_zero, Act.put, List.setIfInBounds_toArray, List.set_cons_zero, List.set_cons_succ]
            refine Reg.takeT (i := 4) (v := ?_) rfl (by kernel_rfl) (by kernel_rfl) (by kernel_rfl) (by kernel_rfl) (fun _ _ _ h => h) (Or.inl ⟨by rfl, ?_⟩) (by assumption) ?_
            rotate_left 1
            focus (intro w hSw; (try dsimp only at hSw); go_simp; (try with_reducible rfl))
            try simp only [List.getElem_toArray, List.getElem_cons_succ, List.getElem_cons_zero, Act.put, List.setIfInBounds_toArray, List.set_cons_zero, List.set_cons_succ]
            refine Reg.takeT (i := 5) (v := ?_) rfl (by kernel_rfl) (by kernel_rfl) (by kernel_rfl) (by kernel_rfl) (fun _ _ _ h => h) (Or.inl ⟨by rfl, ?_⟩) (by assumption) ?_
            rotate_left 1
            focus (intro w hSw; (try dsimp only at hSw); go_simp; (try with_reducible rfl))
            try simp only [List.getElem_toArray, List.getElem_cons_succ, List.getElem_cons_zero, Act.put, List.setIfInBounds_toArray, List.set_cons_zero, List.set_cons_succ]
            refine Reg.takeT (i := 6) (v := ?_) rfl (by kernel_rfl) (by kernel_rfl) (by kernel_rfl) (by kernel_rfl) (fun _ _ _ h => h) (Or.inl ⟨by rfl, ?_⟩) (by assumption) ?_
            rotate_left 1
            focus (intro w hSw; (try dsimp only at hSw); go_simp; (try with_reducible rfl))
            try simp only [List.getElem_toArray, List.getElem_cons_succ, List.getElem_cons_zero, Act.put, List.setIfInBounds_toArray, List.set_cons_zero, List.set_cons_succ]
            refine Reg.takeT (i := 7) (v := ?_) rfl (by kernel_rfl) (by kernel_rfl) (by kernel_rfl) (by kernel_rfl) (fun _ _ _ h => h) (Or.inl ⟨by rfl, ?_⟩) (by assumption) ?_
            rotate_left 1
            focus (intro w hSw; (try dsimp only at hSw); go_simp; (try with_reducible rfl))
            try simp only [List.getElem_toArray, List.getElem_cons_succ, List.getElem_cons_zero, Act.put, List.setIfInBounds_toArray, List.set_cons_zero, List.set_cons_succ]
            refine Reg.takeT (i := 8) (v := ?_) rfl (by kernel_rfl) (by kernel_rfl) (by kernel_rfl) (by kernel_rfl) (fun _ _ _ h => h) (Or.inl ⟨by rfl, ?_⟩) (by assumption) ?_
            rotate_left 1
            focus (intro w hSw; (try dsimp only at hSw); go_simp; (try with_reducible rfl))
            try simp only [List.getElem_toArray, List.getElem_cons_succ, List.getElem_cons_zero, Act.put, List.setIfInBounds_toArray, List.set_cons_zero, List.set_cons_succ]
            refine Reg.takeT (i := 9) (v := ?_) rfl (by kernel_rfl) (by kernel_rfl) (by kernel_rfl) (by kernel_rfl) (fun _ _ _ h => h) (Or.inl ⟨by rfl, ?_⟩) (by assumption) ?_
            rotate_left 1
            focus (intro w hSw; (try dsimp only at hSw); go_simp; (try with_reducible rfl))
            try simp only [List.getElem_toArray, List.getElem_cons_succ, List.getElem_cons_zero, Act.put, List.setIfInBounds_toArray, List.set_cons_zero, List.set_cons_succ]
            refine Reg.takeT (i := 10) (v := ?_) rfl (by kernel_rfl) (by kernel_rfl) (by kernel_rfl) (by kernel_rfl) (fun _ _ _ h => h) (Or.inl ⟨by rfl, ?_⟩) (by assumption) ?_
            rotate_left 1
            focus (intro w hSw; (try dsimp only at hSw); go_simp; (try with_reducible rfl))
            try simp only [List.getElem_toArray, List.getElem_cons_succ, List.getElem_cons_zero, Act.put, List.setIfInBounds_toArray, List.set_cons_zero, List.set_cons_succ]
            refine Reg.takeT (i := 11) (v := ?_) rfl (by kernel_rfl) (by kernel_rfl) (by kernel_rfl) (by kernel_rfl) (fun _ _ _ h => h) (Or.inl ⟨by rfl, ?_⟩) (by assumption) ?_
            rotate_left 1
            focus (intro w hSw; (try dsimp only at hSw); go_simp; (try with_reducible rfl))
            try simp only [List.getElem_toArray, List.getElem_cons_succ, List.getElem_cons_zero, Act.put, List.setIfInBounds_toArray, List.set_cons_zero, List.set_cons_succ]
            refine Reg.takeT (i := 12) (v := ?_) rfl (by kernel_rfl) (by kernel_rfl) (by kernel_rfl) (by kernel_rfl) (fun _ _ _ h => h) (Or.inl ⟨by rfl, ?_⟩) (by assumption) ?_
            rotate_left 1
            focus (intro w hSw; (try dsimp only at hSw); go_simp; (try with_reducible rfl))
            try simp only [List.getElem_toArray, List.getElem_cons_succ, List.getElem_cons_zero, Act.put, List.setIfInBounds_toArray, List.set_cons_zero, List.set_cons_succ]
            refine Reg.takeT (i := 13) (v := ?_) rfl (by kernel_rfl) (by kernel_rfl) (by kernel_rfl) (by kernel_rfl) (fun _ _ _ h => h) (Or.inl ⟨by rfl, ?_⟩) (by assumption) ?_
            rotate_left 1
            focus (intro w hSw; (try dsimp only at hSw); go_simp; (try with_reducible rfl))
            try simp only [List.getElem_toArray, List.getElem_cons_succ, List.getElem_cons_zero, Act.put, List.setIfInBounds_toArray, List.set_cons_zero, List.set_cons_succ]
            refine Reg.oneT (i := 14) rfl (by kernel_rfl) (fun K hK => ?_)
            go_simp
            rw [HFF.out, Oper.upon_enter]
            refine (HCALL.out wr.drew (grown_drew HG.out)).mono ?_
            rintro e w2 ⟨rfl, b2⟩
            have b2' : Below wr.heap.size wr w2 := of_drew b2
            have HR2 := hide (HR.out.call b2')
            have HG2 := hide (grown_below HG.out b2')
            have hHeld : w2.cell? ⟨g, m, none⟩ = some (.int .i64 k) ∧ w2.cell? ⟨g, j, none⟩ = some (.int .i64 p) := ⟨(b2'.cell (p := ⟨g, m, none⟩) hgl).trans Z0.1, (b2'.cell (p := ⟨g, j, none⟩) hgl).trans Z0.2⟩
            clear b2 b2' Z0 HR HG
            refine hK.out _ _ hHeld ?_
            clear hK K
            try simp only [List.getElem_toArray, List.getElem_cons_succ, List.getElem_cons_zero, Act.put, List.setIfInBounds_toArray, List.set_cons_zero, List.set_cons_succ]
            refine Reg.takeT (i := 15) (v := ?_) rfl (by kernel_rfl) (by kernel_rfl) (by kernel_rfl) (by kernel_rfl) (fun _ _ _ h => h) (Or.inl ⟨by rfl, ?_⟩) (by assumption) ?_
            rotate_left 1
            focus (intro w hSw; (try dsimp only at hSw); go_simp; (try with_reducible rfl))
            try simp only [List.getElem_toArray, List.getElem_cons_succ, List.getElem_cons_zero, Act.put, List.setIfInBounds_toArray, List.set_cons_zero, List.set_cons_succ]
            refine Reg.takeT (i := 16) (v := ?_) rfl (by kernel_rfl) (by kernel_rfl) (by kernel_rfl) (by kernel_rfl) (fun _ _ _ h => h) (Or.inl ⟨by rfl, ?_⟩) (by assumption) ?_
            rotate_left 1
            focus (intro w hSw; (try dsimp only at hSw); go_simp; (try with_reducible rfl))
            try simp only [List.getElem_toArray, List.getElem_cons_succ, List.getElem_cons_zero, Act.put, List.setIfInBounds_toArray, List.set_cons_zero, List.set_cons_succ]
            refine Reg.doneT (by kernel_rfl) ?_ _
            clear hHeld
            go_wp2_with fail
            have HF := hide (show ord bf (k + 1) = L.take m ++ k :: L.drop m by rw [HIN.out, ins, HPOS.out, HP3.out])
            refine ⟨⟨k + 1, by omega, by omega, by go_num, by rw [HF.out, HREST.out]; exact HR2.out, HG2.out⟩, by simp [intOf]; omega⟩
          · have HP3 := hide (show pos bf L k m = pos bf L k j by rw [HP2.out, HBB.out, hb]; rfl)
            clear HP2 HBB
            go_wp2_with fail
            refine Reg.startT (fun W => W.cell? ⟨g, m, none⟩ = some (.int .i64 k) ∧ W.cell? ⟨g, j, none⟩ = some (.int .i64 p)) (fun _ => false) (by kernel_rfl) ?_
            have hHeld : wr.drew.cell? ⟨g, m, none⟩ = some (.int .i64 k) ∧ wr.drew.cell? ⟨g, j, none⟩ = some (.int .i64 p) := Z0
            refine Reg.takeT (i := 0) (v := ?_) rfl (by kernel_rfl) (by kernel_rfl) (by kernel_rfl) (by kernel_rfl) (fun _ _ _ h => h) (Or.inl ⟨by rfl, ?_⟩) (by assumption) ?_
            rotate_left 1
            focus (intro w hSw; (try dsimp only at hSw); go_simp; (try with_reducible rfl))
            try simp only [List.getElem_toArray, List.getElem_cons_succ, List.getElem_cons_zero, Act.put, List.setIfInBounds_toArray, List.set_cons_zero, List.set_cons_succ]
            refine Reg.takeT (i := 1) (v := ?_) rfl (by kernel_rfl) (by kernel_rfl) (by kernel_rfl) (by kernel_rfl) (fun _ _ _ h => h) (Or.inl ⟨by rfl, ?_⟩) (by assumption) ?_
            rotate_left 1
            focus (intro w hSw; (try dsimp only at hSw); go_simp; (try with_reducible rfl))
            try simp only [List.getElem_toArray, List.getElem_cons_succ, List.getElem_cons_zero, Act.put, List.setIfInBounds_toArray, List.set_cons_zero, List.set_cons_succ]
            refine Reg.takeT (i := 2) (v := ?_) rfl (by kernel_rfl) (by kernel_rfl) (by kernel_rfl) (by kernel_rfl) (fun _ _ _ h => h) (Or.inl ⟨by rfl, ?_⟩) (by assumption) ?_
            rotate_left 1
            focus (intro w hSw; (try dsimp only at hSw); go_simp; (try with_reducible rfl))
            try simp only [List.getElem_toArray, List.getElem_cons_succ, List.getElem_cons_zero, Act.put, List.setIfInBounds_toArray, List.set_cons_zero, List.set_cons_succ]
            refine Reg.takeT (i := 3) (v := ?_) rfl (by kernel_rfl) (by kernel_rfl) (by kernel_rfl) (by kernel_rfl) (fun _ _ _ h => h) (Or.inl ⟨by rfl, ?_⟩) (by assumption) ?_
            rotate_left 1
            focus (intro w hSw; (try dsimp only at hSw); go_simp; (try with_reducible rfl))
            try simp only [List.getElem_toArray, List.getElem_cons_succ, List.getElem_cons_zero, Act.put, List.setIfInBounds_toArray, List.set_cons_zero, List.set_cons_succ]
            refine Reg.takeT (i := 4) (v := ?_) rfl (by kernel_rfl) (by kernel_rfl) (by kernel_rfl) (by kernel_rfl) (fun _ _ _ h => h) (Or.inl ⟨by rfl, ?_⟩) (by assumption) ?_
            rotate_left 1
            focus (intro w hSw; (try dsimp only at hSw); go_simp; (try with_reducible rfl))
            try simp only [List.getElem_toArray, List.getElem_cons_succ, List.getElem_cons_zero, Act.put, List.setIfInBounds_toArray, List.set_cons_zero, List.set_cons_succ]
            refine Reg.takeT (i := 5) (v := ?_) rfl (by kernel_rfl) (by kernel_rfl) (by kernel_rfl) (by kernel_rfl) (fun _ _ _ h => h) (Or.inl ⟨by rfl, ?_⟩) (by assumption) ?_
            rotate_left 1
            focus (intro w hSw; (try dsimp only at hSw); go_simp; (try with_reducible rfl))
            try simp only [List.getElem_toArray, List.getElem_cons_succ, List.getElem_cons_zero, Act.put, List.setIfInBounds_toArray, List.set_cons_zero, List.set_cons_succ]
            refine Reg.takeT (i := 6) (v := ?_) rfl (by kernel_rfl) (by kernel_rfl) (by kernel_rfl) (by kernel_rfl) (fun _ _ _ h => h) (Or.inl ⟨by rfl, ?_⟩) (by assumption) ?_
            rotate_left 1
            focus (intro w hSw; (try dsimp only at hSw); go_simp; (try with_reducible rfl))
            try simp only [List.getElem_toArray, List.getElem_cons_succ, List.getElem_cons_zero, Act.put, List.setIfInBounds_toArray, List.set_cons_zero, List.set_cons_succ]
            refine Reg.takeT (i := 7) (v := ?_) rfl (by kernel_rfl) (by kernel_rfl) (by kernel_rfl) (by kernel_rfl) (fun _ _ _ h => h) (Or.inl ⟨by rfl, ?_⟩) (by assumption) ?_
            rotate_left 1
            focus (intro w hSw; (try dsimp only at hSw); go_simp; (try with_reducible rfl))
            try simp only [List.getElem_toArray, List.getElem_cons_succ, List.getElem_cons_zero, Act.put, List.setIfInBounds_toArray, List.set_cons_zero, List.set_cons_succ]
            refine Reg.takeT (i := 8) (v := ?_) rfl (by kernel_rfl) (by kernel_rfl) (by kernel_rfl) (by kernel_rfl) (fun _ _ _ h => h) (Or.inl ⟨by rfl, ?_⟩) (by assumption) ?_
            rotate_left 1
            focus (intro w hSw; (try dsimp only at hSw); go_simp; (try with_reducible rfl))
            try simp only [List.getElem_toArray, List.getElem_cons_succ, List.getElem_cons_zero, Act.put, List.setIfInBounds_toArray, List.set_cons_zero, List.set_cons_succ]
            refine Reg.takeT (i := 9) (v := ?_) rfl (by kernel_rfl) (by kernel_rfl) (by kernel_rfl) (by kernel_rfl) (fun _ _ _ h => h) (Or.inl ⟨by rfl, ?_⟩) (by assumption) ?_
            rotate_left 1
            focus (intro w hSw; (try dsimp only at hSw); go_simp; (try with_reducible rfl))
            try simp only [List.getElem_toArray, List.getElem_cons_succ, List.getElem_cons_zero, Act.put, List.setIfInBounds_toArray, List.set_cons_zero, List.set_cons_succ]
            refine Reg.takeT (i := 10) (v := ?_) rfl (by kernel_rfl) (by kernel_rfl) (by kernel_rfl) (by kernel_rfl) (fun _ _ _ h => h) (Or.inl ⟨by rfl, ?_⟩) (by assumption) ?_
            rotate_left 1
            focus (intro w hSw; (try dsimp only at hSw); go_simp; (try with_reducible rfl))
            try simp only [List.getElem_toArray, List.getElem_cons_succ, List.getElem_cons_zero, Act.put, List.setIfInBounds_toArray, List.set_cons_zero, List.set_cons_succ]
            refine Reg.takeT (i := 11) (v := ?_) rfl (by kernel_rfl) (by kernel_rfl) (by kernel_rfl) (by kernel_rfl) (fun _ _ _ h => h) (Or.inl ⟨by rfl, ?_⟩) (by assumption) ?_
            rotate_left 1
            focus (intro w hSw; (try dsimp only at hSw); go_simp; (try with_reducible rfl))
            try simp only [List.getElem_toArray, List.getElem_cons_succ, List.getElem_cons_zero, Act.put, List.setIfInBounds_toArray, List.set_cons_zero, List.set_cons_succ]
            refine Reg.takeT (i := 12) (v := ?_) rfl (by kernel_rfl) (by kernel_rfl) (by kernel_rfl) (by kernel_rfl) (fun _ _ _ h => h) (Or.inl ⟨by rfl, ?_⟩) (by assumption) ?_
            rotate_left 1
            focus (intro w hSw; (try dsimp only at hSw); go_simp; (try with_reducible rfl))
            try simp only [List.getElem_toArray, List.getElem_cons_succ, List.getElem_cons_zero, Act.put, List.setIfInBounds_toArray, List.set_cons_zero, List.set_cons_succ]
            refine Reg.takeT (i := 13) (v := ?_) rfl (by kernel_rfl) (by kernel_rfl) (by kernel_rfl) (by kernel_rfl) (fun _ _ _ h => h) (Or.inl ⟨by rfl, ?_⟩) (by assumption) ?_
            rotate_left 1
            focus (intro w hSw; (try dsimp only at hSw); go_simp; (try with_reducible rfl))
            try simp only [List.getElem_toArray, List.getElem_cons_succ, List.getElem_cons_zero, Act.put, List.setIfInBounds_toArray, List.set_cons_zero, List.set_cons_succ]
            refine Reg.oneT (i := 14) rfl (by kernel_rfl) (fun K hK => ?_)
            go_simp
            rw [HFF.out, Oper.upon_enter]
            refine (HCALL.out wr.drew (grown_drew HG.out)).mono ?_
            rintro e w2 ⟨rfl, b2⟩
            have b2' : Below wr.heap.size wr w2 := of_drew b2
            have HR2 := hide (HR.out.call b2')
            have HG2 := hide (grown_below HG.out b2')
            have hHeld : w2.cell? ⟨g, m, none⟩ = some (.int .i64 k) ∧ w2.cell? ⟨g, j, none⟩ = some (.int .i64 p) := ⟨(b2'.cell (p := ⟨g, m, none⟩) hgl).trans Z0.1, (b2'.cell (p := ⟨g, j, none⟩) hgl).trans Z0.2⟩
            clear b2 b2' Z0 HR HG
            refine hK.out _ _ hHeld ?_
            clear hK K
            try simp only [List.getElem_toArray, List.getElem_cons_succ, List.getElem_cons_zero, Act.put, List.setIfInBounds_toArray, List.set_cons_zero, List.set_cons_succ]
            refine Reg.takeT (i := 15) (v := ?_) rfl (by kernel_rfl) (by kernel_rfl) (by kernel_rfl) (by kernel_rfl) (fun _ _ _ h => h) (Or.inl ⟨by rfl, ?_⟩) (by assumption) ?_
            rotate_left 1
            focus (intro w hSw; (try dsimp only at hSw); go_simp; (try with_reducible rfl))
            try simp only [List.getElem_toArray, List.getElem_cons_succ, List.getElem_cons_zero, Act.put, List.setIfInBounds_toArray, List.set_cons_zero, List.set_cons_succ]
            refine Reg.takeT (i := 16) (v := ?_) rfl (by kernel_rfl) (by kernel_rfl) (by kernel_rfl) (by kernel_rfl) (fun _ _ _ h => h) (Or.inl ⟨by rfl, ?_⟩) (by assumption) ?_
            rotate_left 1
            focus (intro w hSw; (try dsimp only at hSw); go_simp; (try with_reducible rfl))
            try simp only [List.getElem_toArray, List.getElem_cons_succ, List.getElem_cons_zero, Act.put, List.setIfInBounds_toArray, List.set_cons_zero, List.set_cons_succ]
            refine Reg.doneT (by kernel_rfl) ?_ _
            have Z1 := hHeld
            clear hHeld
            go_wp2_with fail
            clear f0 f1 hgl
            have f1 := HR2.out.frozen m
            have f0 := HR2.out.frozen j
            have hgl := HR2.out.lt.2
            refine Rv.start (fun W => W.cell? ⟨g, m, none⟩ = some (.int .i64 k) ∧ W.cell? ⟨g, j, none⟩ = some (.int .i64 p)) (fun j => j == 15 || j == 17) (by kernel_rfl) ?_
            have hHeld : w2.drew.cell? ⟨g, m, none⟩ = some (.int .i64 k) ∧ w2.drew.cell? ⟨g, j, none⟩ = some (.int .i64 p) := Z1
            refine Rv.comp (i := 0) (v := ?_) rfl (by kernel_rfl) (by kernel_rfl) (by kernel_rfl) (fun _ _ _ h => h) (Or.inl ⟨by rfl, ?_⟩) ?_
            rotate_left 1
            focus (intro w hSw; (try dsimp only at hSw); go_simp; (try with_reducible rfl))
            try simp only [List.getElem_toArray, List.getElem_cons_succ, List.getElem_cons_zero, Act.put, List.setIfInBounds_toArray, List.set_cons_zero, List.set_cons_succ]
            refine Rv.comp (i := 1) (v := ?_) rfl (by kernel_rfl) (by kernel_rfl) (by kernel_rfl) (fun _ _ _ h => h) (Or.inl ⟨by rfl, ?_⟩) ?_
            rotate_left 1
            focus (intro w hSw; (try dsimp only at hSw); go_simp; (try with_reducible rfl))
            try simp only [List.getElem_toArray, List.getElem_cons_succ, List.getElem_cons_zero, Act.put, List.setIfInBounds_toArray, List.set_cons_zero, List.set_cons_succ]
            refine Rv.comp (i := 2) (v := ?_) rfl (by kernel_rfl) (by kernel_rfl) (by kernel_rfl) (fun _ _ _ h => h) (Or.inl ⟨by rfl, ?_⟩) ?_
            rotate_left 1
            focus (intro w hSw; (try dsimp only at hSw); go_simp; (try with_reducible rfl))
            try simp only [List.getElem_toArray, List.getElem_cons_succ, List.getElem_cons_zero, Act.put, List.setIfInBounds_toArray, List.set_cons_zero, List.set_cons_succ]
            refine Rv.comp (i := 3) (v := ?_) rfl (by kernel_rfl) (by kernel_rfl) (by kernel_rfl) (fun _ _ _ h => h) (Or.inl ⟨by rfl, ?_⟩) ?_
            rotate_left 1
            focus (intro w hSw; (try dsimp only at hSw); go_simp; (try with_reducible rfl))
            try simp only [List.getElem_toArray, List.getElem_cons_succ, List.getElem_cons_zero, Act.put, List.setIfInBounds_toArray, List.set_cons_zero, List.set_cons_succ]
            refine Rv.comp (i := 4) (v := ?_) rfl (by kernel_rfl) (by kernel_rfl) (by kernel_rfl) (fun _ _ _ h => h) (Or.inl ⟨by rfl, ?_⟩) ?_
            rotate_left 1
            focus (intro w hSw; (try dsimp only at hSw); go_simp; (try with_reducible rfl))
            try simp only [List.getElem_toArray, List.getElem_cons_succ, List.getElem_cons_zero, Act.put, List.setIfInBounds_toArray, List.set_cons_zero, List.set_cons_succ]
            refine Rv.comp (i := 5) (v := ?_) rfl (by kernel_rfl) (by kernel_rfl) (by kernel_rfl) (fun _ _ _ h => h) (Or.inl ⟨by rfl, ?_⟩) ?_
            rotate_left 1
            focus (intro w hSw; (try dsimp only at hSw); go_simp; (try with_reducible rfl))
            try simp only [List.getElem_toArray, List.getElem_cons_succ, List.getElem_cons_zero, Act.put, List.setIfInBounds_toArray, List.set_cons_zero, List.set_cons_succ]
            refine Rv.comp (i := 6) (v := ?_) rfl (by kernel_rfl) (by kernel_rfl) (by kernel_rfl) (fun _ _ _ h => h) (Or.inl ⟨by rfl, ?_⟩) ?_
            rotate_left 1
            focus (intro w hSw; (try dsimp only at hSw); go_simp; (try with_reducible rfl))
            try simp only [List.getElem_toArray, List.getElem_cons_succ, List.getElem_cons_zero, Act.put, List.setIfInBounds_toArray, List.set_cons_zero, List.set_cons_succ]
            refine Rv.comp (i := 7) (v := ?_) rfl (by kernel_rfl) (by kernel_rfl) (by kernel_rfl) (fun _ _ _ h => h) (Or.inl ⟨by rfl, ?_⟩) ?_
            rotate_left 1
            focus (intro w hSw; (try dsimp only at hSw); go_simp; (try with_reducible rfl))
            try simp only [List.getElem_toArray, List.getElem_cons_succ, List.getElem_cons_zero, Act.put, List.setIfInBounds_toArray, List.set_cons_zero, List.set_cons_succ]
            refine Rv.comp (i := 8) (v := ?_) rfl (by kernel_rfl) (by kernel_rfl) (by kernel_rfl) (fun _ _ _ h => h) (Or.inl ⟨by rfl, ?_⟩) ?_
            rotate_left 1
            focus (intro w hSw; (try dsimp only at hSw); go_simp; (try with_reducible rfl))
            try simp only [List.getElem_toArray, List.getElem_cons_succ, List.getElem_cons_zero, Act.put, List.setIfInBounds_toArray, List.set_cons_zero, List.set_cons_succ]
            refine Rv.take (i := 9) (v := ?_) rfl (by kernel_rfl) (by kernel_rfl) (by kernel_rfl) (by kernel_rfl) (fun _ _ _ h => h) (Or.inl ⟨by rfl, ?_⟩) (by assumption) ?_
            rotate_left 1
            focus (intro w hSw; (try dsimp only at hSw); go_simp; (try with_reducible rfl))
            try simp only [List.getElem_toArray, List.getElem_cons_succ, List.getElem_cons_zero, Act.put, List.setIfInBounds_toArray, List.set_cons_zero, List.set_cons_succ]
            refine Rv.comp (i := 10) (v := ?_) rfl (by kernel_rfl) (by kernel_rfl) (by kernel_rfl) (fun _ _ _ h => h) (Or.inl ⟨by rfl, ?_⟩) ?_
            rotate_left 1
            focus (intro w hSw; (try dsimp only at hSw); go_simp; (try with_reducible rfl))
            try simp only [List.getElem_toArray, List.getElem_cons_succ, List.getElem_cons_zero, Act.put, List.setIfInBounds_toArray, List.set_cons_zero, List.set_cons_succ]
            refine Rv.comp (i := 11) (v := ?_) rfl (by kernel_rfl) (by kernel_rfl) (by kernel_rfl) (fun _ _ _ h => h) (Or.inl ⟨by rfl, ?_⟩) ?_
            rotate_left 1
            focus (intro w hSw; (try dsimp only at hSw); go_simp; (try with_reducible rfl))
            try simp only [List.getElem_toArray, List.getElem_cons_succ, List.getElem_cons_zero, Act.put, List.setIfInBounds_toArray, List.set_cons_zero, List.set_cons_succ]
            refine Rv.comp (i := 12) (v := ?_) rfl (by kernel_rfl) (by kernel_rfl) (by kernel_rfl) (fun _ _ _ h => h) (Or.inl ⟨by rfl, ?_⟩) ?_
            rotate_left 1
            focus (intro w hSw; (try dsimp only at hSw); go_simp; (try with_reducible rfl))
            try simp only [List.getElem_toArray, List.getElem_cons_succ, List.getElem_cons_zero, Act.put, List.setIfInBounds_toArray, List.set_cons_zero, List.set_cons_succ]
            refine Rv.take (i := 13) (v := ?_) rfl (by kernel_rfl) (by kernel_rfl) (by kernel_rfl) (by kernel_rfl) (fun _ _ _ h => h) (Or.inl ⟨by rfl, ?_⟩) (by assumption) ?_
            rotate_left 1
            focus (intro w hSw; (try dsimp only at hSw); go_simp; (try with_reducible rfl))
            try simp only [List.getElem_toArray, List.getElem_cons_succ, List.getElem_cons_zero, Act.put, List.setIfInBounds_toArray, List.set_cons_zero, List.set_cons_succ]
            refine Rv.comp (i := 14) (v := ?_) rfl (by kernel_rfl) (by kernel_rfl) (by kernel_rfl) (fun _ _ _ h => h) (Or.inl ⟨by rfl, ?_⟩) ?_
            rotate_left 1
            focus (intro w hSw; (try dsimp only at hSw); go_simp; (try with_reducible rfl))
            try simp only [List.getElem_toArray, List.getElem_cons_succ, List.getElem_cons_zero, Act.put, List.setIfInBounds_toArray, List.set_cons_zero, List.set_cons_succ]
            have s1 : w2.cell? ⟨g, m, none⟩ = some (.int .i64 k) := hHeld.1
            have s0 : w2.cell? ⟨g, j, none⟩ = some (.int .i64 p) := hHeld.2
            clear hHeld Z1
            refine Rv.last (i := 15) rfl (by kernel_rfl) (by rfl) (fun K hK => ?_)
            go_simp
            refine hK.out _ _ ?_
            clear hK K
            try simp only [List.getElem_toArray, List.getElem_cons_succ, List.getElem_cons_zero, Act.put, List.setIfInBounds_toArray, List.set_cons_zero, List.set_cons_succ]
            refine Rv.comp (i := 16) (v := ?_) rfl (by kernel_rfl) (by kernel_rfl) (by kernel_rfl) (fun _ _ _ h => h) (Or.inl ⟨by rfl, ?_⟩) ?_
            rotate_left 1
            focus (intro w hSw; (try dsimp only at hSw); go_simp; (try with_reducible rfl))
            try simp only [List.getElem_toArray, List.getElem_cons_succ, List.getElem_cons_zero, Act.put, List.setIfInBounds_toArray, List.set_cons_zero, List.set_cons_succ]
            refine Rv.last (i := 17) rfl (by kernel_rfl) (by rfl) (fun K hK => ?_)
            go_simp
            refine hK.out _ _ ?_
            clear hK K
            try simp only [List.getElem_toArray, List.getElem_cons_succ, List.getElem_cons_zero, Act.put, List.setIfInBounds_toArray, List.set_cons_zero, List.set_cons_succ]
            refine Rv.done (by kernel_rfl) ?_ _
            go_wp2_with fail
            have HF := hide (show RowI ((w2.setCell ⟨g, m, none⟩ (.int .i64 p)).setCell ⟨g, j, none⟩ (.int .i64 k)) base g n c (L.take j ++ k :: L.drop j ++ rest) by
              rw [← HSW.out]
              exact (HR2.out.put m p).put j k)
            refine ⟨⟨j, by omega, by go_num, by rw [HPOS.out, HP3.out], HF.out.call (below_dr (Below.refl _ _)), grown_drew (grown_set (grown_set HG2.out _) _)⟩, by simp [intOf]; omega⟩
    · rw [HEND.out k hlt hk] at hr
      have HR := hide (And.intro hr hg)
      clear hr hg
      go_wp2_with fail
      exact bodyPost_ret (v := .tuple #[]) (by simp [results, Try.results172, go_sem]) rfl ⟨rfl, HR.out⟩
set_option maxHeartbeats 1000000 in
theorem stable_any (F : FuncId) (X : Array Value) (hF : ∀ zs W, (callFunc F zs).run Try.prog W = .ok (.enter F zs) W) (cv : Nat → Nat → Int) (base g n c : Nat) (w : World) (hrow : RowI w base g n c (List.range n)) (hn : n < 20) (hn0 : 0 < n)
    (HC : ∀ W, w.grownBy W (some g) → ∀ i j, i < n → j < n → Calls Try.prog F (#[.int .i64 i, .int .i64 j] ++ X) W (Ret (.int .i64 (cv i j)) W)) (hbd : ∀ i j, -1 ≤ cv i j ∧ cv i j ≤ 1) :
    Calls Try.prog 128 #[.slice (some ⟨g, 0, none⟩) n c, .int .i64 n, .func (.func F) #[] X] w
      (Sorted w base g n c (ord (fun i j => decide (cv i j < 0)) n)) := by
  have HI := hide (insertion_any F X hF cv base g n c w hrow (by omega) hn0 HC hbd)
  clear hrow HC hbd hF
  go_enter Try.func128, Try.ntmps128
  go_wp2_with fail
  go_loopw [7, 8] (fun a b wi => a = .int .i64 0 ∧ b = .int .i64 20 ∧ wi = w) (fun _ _ _ => 0)
  case atStart => exact ⟨rfl, rfl, rfl⟩
  case round =>
    obtain ⟨rfl, rfl, rfl⟩ := hrel
    have e1 : decide ((20 : Int) ≤ n) = false := decide_eq_false (by omega)
    go_wp2_with fail
    refine HI.out.mono ?_
    rintro e w2 ⟨rfl, hs⟩
    have HS := hide hs
    clear hs
    go_wp2_with fail
    go_loopw [6] (fun a wi => a = .int .i64 20 ∧ wi = w2) (fun _ _ => 0)
    case atStart => exact ⟨rfl, rfl⟩
    case round =>
      obtain ⟨rfl, rfl⟩ := hrel
      have e2 : decide ((20 : Int) < n) = false := decide_eq_false (by omega)
      go_wp2_with fail
      exact bodyPost_ret (v := .tuple #[]) (by simp [results, Try.results128, go_sem]) rfl ⟨rfl, HS.out⟩
theorem sortStable_any (F : FuncId) (X : Array Value) (hF : ∀ zs W, (callFunc F zs).run Try.prog W = .ok (.enter F zs) W) (cv : Nat → Nat → Int) (base g n c : Nat) (w : World) (hrow : RowI w base g n c (List.range n)) (hn : n < 20) (hn0 : 0 < n)
    (HC : ∀ W, w.grownBy W (some g) → ∀ i j, i < n → j < n → Calls Try.prog F (#[.int .i64 i, .int .i64 j] ++ X) W (Ret (.int .i64 (cv i j)) W)) (hbd : ∀ i j, -1 ≤ cv i j ∧ cv i j ≤ 1) :
    Calls Try.prog 67 #[.slice (some ⟨g, 0, none⟩) n c, .func (.func F) #[] X] w
      (Sorted w base g n c (ord (fun i j => decide (cv i j < 0)) n)) := by
  have HI := hide (stable_any F X hF cv base g n c w hrow hn hn0 HC hbd)
  clear hrow HC hbd hF
  go_enter Try.func67, Try.ntmps67
  go_wp2_with fail
  refine HI.out.mono ?_
  rintro e w2 ⟨rfl, hs⟩
  have HS := hide hs
  clear hs
  go_wp2_with fail
  exact bodyPost_ret (v := .tuple #[]) (by simp [results, Try.results67, go_sem]) rfl ⟨rfl, HS.out⟩
theorem insertion0_any (A : Option Addr) (c : Nat) (F : Value) (w : World) : Calls Try.prog 172 #[.slice A 0 c, .int .i64 0, .int .i64 0, F] w (Pure (.tuple #[]) w) := by
  go_enter Try.func172, Try.ntmps172
  go_wp2_with fail
  go_loopw [8] (fun a wi => a = .int .i64 1 ∧ wi = w) (fun _ _ => 0)
  case atStart => exact ⟨rfl, rfl⟩
  case round =>
    obtain ⟨rfl, rfl⟩ := hrel
    go_wp2_with fail
    exact bodyPost_ret (v := .tuple #[]) (by simp [results, Try.results172, go_sem]) rfl ⟨rfl, rfl⟩
theorem sortStable0_any (A : Option Addr) (c : Nat) (F : Value) (w : World) : Calls Try.prog 67 #[.slice A 0 c, F] w (Pure (.tuple #[]) w) := by
  have HQ : Hid (Calls Try.prog 128 #[.slice A 0 c, .int .i64 0, F] w (Pure (.tuple #[]) w)) := by
    refine hide ?_
    have HI := hide (insertion0_any A c F w)
    go_enter Try.func128, Try.ntmps128
    go_wp2_with fail
    go_loopw [7, 8] (fun a b wi => a = .int .i64 0 ∧ b = .int .i64 20 ∧ wi = w) (fun _ _ _ => 0)
    case atStart => exact ⟨rfl, rfl, rfl⟩
    case round =>
      obtain ⟨rfl, rfl, rfl⟩ := hrel
      go_wp2_with fail
      refine HI.out.mono ?_
      rintro e w2 ⟨rfl, rfl⟩
      go_wp2_with fail
      go_loopw [6] (fun a wi => a = .int .i64 20 ∧ wi = wr) (fun _ _ => 0)
      case atStart => exact ⟨rfl, rfl⟩
      case round =>
        obtain ⟨rfl, rfl⟩ := hrel
        go_wp2_with fail
        exact bodyPost_ret (v := .tuple #[]) (by simp [results, Try.results128, go_sem]) rfl ⟨rfl, rfl⟩
  go_enter Try.func67, Try.ntmps67
  go_wp2_with fail
  refine HQ.out.mono ?_
  rintro e w2 ⟨rfl, rfl⟩
  go_wp2_with fail
  exact bodyPost_ret (v := .tuple #[]) (by simp [results, Try.results67, go_sem]) rfl ⟨rfl, rfl⟩
end Go.Proofs.Ytmglgjchemecjaa.CIns
/- The program's ClearFixups. -/
namespace Go.Proofs.Ytmglgjchemecjaa.CClear
set_option maxRecDepth 200000
open Go.ChangeShapes Go.WideShapes Go.ChangeAt Go.RowKit Kit CCode CFixups CSymbols PObj BObj CMarkRows PValid CSecValid CUses CCovers CObjValid PWarn CCopyS CCopyI BStore PClear
set_option maxHeartbeats 4000000 in
theorem clearFixups_any (o : OV) (w : World) (hr : RdO w w.heap.size o) (hf : Fit o) (hn : Nils o) :
    Calls Try.prog 13 #[.agg #[.slice o.A o.ps.length o.c, .slice o.Y o.ys.length o.yc]] w (RetO (clearD o.d) w) := by
  have HR := hide hr
  have HF := hide hf
  have HN := hide hn
  clear hr hf hn
  have B0 : Below w.heap.size w ((w.alloc (.cells #[.slice o.A o.ps.length o.c, .slice o.Y o.ys.length o.yc] 26)).alloc (.cells #[.slice none 0 0, .slice none 0 0] 26)) := (by repeat (first | exact Below.refl _ _ | with_reducible assumption | (refine Below.drew ?_) | (refine Below.drewN ?_ _) | (refine Below.alloc ?_ (by simp; try omega) _) | (refine Below.setCell ?_ (by simp; try omega) _)))
  have HV0 := hide ((Box.new w 26 #[.slice o.A o.ps.length o.c, .slice o.Y o.ys.length o.yc]).alloc (.cells #[.slice none 0 0, .slice none 0 0] 26))
  have HR0 := (Box.new (w.alloc (.cells #[.slice o.A o.ps.length o.c, .slice o.Y o.ys.length o.yc] 26)) 26 #[.slice none 0 0, .slice none 0 0])
  simp only [World.size_alloc] at HR0
  have HRR0 := hide HR0
  clear HR0
  have HB0 := hide B0
  clear B0
  go_enter Try.func13, Try.ntmps13
  go_wp2_with fail
  generalize (w.alloc (.cells #[.slice o.A o.ps.length o.c, .slice o.Y o.ys.length o.yc] 26)).alloc (.cells #[.slice none 0 0, .slice none 0 0] 26) = w0 at *
  have hVR : w.heap.size < w.heap.size + 1 := by omega
  generalize w.heap.size + 1 = R at *
  refine (objectValid_any o w0 ((HR.out.below HB0.out).more HB0.out.size) HF.out).mono ?_
  rintro e w1 ⟨rfl, b1⟩
  have HV := hide (HV0.out.call b1)
  have HRR := hide (HRR0.out.call b1)
  have HB := hide (HB0.out.trans (b1.mono HB0.out.size))
  clear b1 HV0 HRR0 HB0
  cases hok : objOk o.d
  · have HVD := hide (clear_bad hok)
    have y0 := HRR.out.cell 0
    have y1 := HRR.out.cell 1
    have yf0 := HRR.out.frozen 0
    have yf1 := HRR.out.frozen 1
    simp only [List.getElem?_toArray, List.getElem?_cons_zero, List.getElem?_cons_succ] at y0 y1
    have hrl := HRR.out.lt
    have HFIN := hide (CObject.ret_object (w := w) (w1 := w1) (Y := R) (o := ⟨none, 0, [], none, 0, []⟩) ⟨⟨Row.empty _ _ _ _ _, (fun p hp => by cases hp), List.Pairwise.nil⟩, Row.empty _ _ _ _ _⟩ HB.out (by rintro k ((hk | ⟨p, hp, hk⟩) | hk) <;> first | (exact absurd hp List.not_mem_nil) | cases hk) (Nat.le_of_lt hVR))
    have kk := (HRR.out.set 0 (.slice none 0 0)).set 1 (.slice none 0 0)
    have k0 := kk.cell 0
    have k1 := kk.cell 1
    simp only [List.setIfInBounds_toArray, List.set_cons_zero, List.set_cons_succ, List.getElem?_toArray, List.getElem?_cons_zero, List.getElem?_cons_succ] at k0 k1
    clear kk hok
    go_wp2_with fail
    exact bodyPost_ret (v := OV.v ⟨none, 0, [], none, 0, []⟩) (by simp [results, Try.results13, go_sem, OV.v, k0, k1]) rfl (by rw [HVD.out]; exact HFIN.out)
  have hall := obj_all hok
  have HOK := hide hok
  have x0 := HV.out.cell 0
  have x1 := HV.out.cell 1
  simp only [List.getElem?_toArray, List.getElem?_cons_zero, List.getElem?_cons_succ] at x0 x1
  have hvl := HV.out.lt
  have HAL := hide hall
  have HS2 := hide (show o.ps.length ≤ 100 ∧ o.ys.length ≤ 100 from by
    have h1 := hall.1
    have h2 := hall.2.1
    simp only [OV.d, List.length_map] at h1 h2
    omega)
  clear hall hok
  go_wp2_with fail
  refine (copyObject_any o w1 ((HR.out.below HB.out).more HB.out.size) HF.out HN.out HS2.out).mono ?_
  rintro e w2 ⟨⟨A, c, ps, Y, yc, ys⟩, rfl, hd, hown, b2⟩
  have HB2 := hide (HB.out.trans (b2.mono HB.out.size))
  have HRR2 := hide (HRR.out.call b2)
  have HO2 := hide (hown.down HB.out.size)
  have HDD := hide (show clearD o.d = ⟨(ps.map clrA).map SV.d, ys⟩ by rw [← hd]; exact clear_ok (by have := HOK.out; rw [← hd] at this; exact this))
  have hal := HAL.out
  rw [← hd] at hal
  have hpl : ps.length ≤ 8 := by simpa [OV.d] using hal.1
  have HFX := hide (show ∀ p ∈ ps, p.fs.length ≤ 6 ∧ p.zs.length ≤ 48 ∧ FxOk p from fun p hp => by
    have h := hal.2.2 p.d (List.mem_map_of_mem hp)
    exact ⟨h.1, h.2.1, fun f hf => (h.2.2 f hf).1⟩)
  clear hd hown b2 hal HAL HS2 HV HB HRR x0 x1 hvl HOK HR HF HN
  simp only [OV.v]
  go_wp2_with fail
  have HX3 := hide (Box.new w2 26 #[.slice A ps.length c, .slice Y ys.length yc])
  have HO3 := hide (HO2.out.call ((Below.refl _ _).alloc (Nat.le_refl _) (.cells #[.slice A ps.length c, .slice Y ys.length yc] 26)))
  have HB3 := hide (HB2.out.alloc HB2.out.size (.cells #[.slice A ps.length c, .slice Y ys.length yc] 26))
  have HRR3 := hide (HRR2.out.alloc (.cells #[.slice A ps.length c, .slice Y ys.length yc] 26))
  have hRX : R < w2.heap.size := HRR2.out.lt
  clear HB2 HRR2 HO2
  generalize w2.alloc (.cells #[.slice A ps.length c, .slice Y ys.length yc] 26) = w3 at *
  generalize w2.heap.size = X at *
  have x0 := HX3.out.cell 0
  simp only [List.getElem?_toArray, List.getElem?_cons_zero, List.getElem?_cons_succ] at x0
  have hxl := HX3.out.lt
  go_wp2_with fail
  clear x0 hxl
  go_loopw [17] (fun i wi => ∃ (k : Nat), k ≤ ps.length ∧ i = .int .i64 k ∧ OwnO wi w.heap.size ⟨A, c, (ps.take k).map clrA ++ ps.drop k, Y, yc, ys⟩ ∧ Box wi X 26 #[.slice A ps.length c, .slice Y ys.length yc] ∧ Box wi R 26 #[.slice none 0 0, .slice none 0 0] ∧ Below w.heap.size w wi) (fun i _ => ps.length - (intOf i).toNat)
  case atStart => exact ⟨0, Nat.zero_le _, rfl, by simpa using HO3.out, HX3.out, HRR3.out, HB3.out⟩
  case round =>
    clear HX3 HO3 HB3 HRR3
    obtain ⟨k, hk, rfl, ho, hx, hrr, hb⟩ := hrel
    have HX := hide hx
    have HRR := hide hrr
    have HB := hide hb
    by_cases hlt : k < ps.length
    · have hdr : ps.drop k = ps[k] :: ps.drop (k + 1) := List.drop_eq_getElem_cons hlt
      rw [hdr] at ho
      have htk : (ps.take (k + 1)).map clrA = (ps.take k).map clrA ++ [clrA ps[k]] := by rw [take_succ hlt, List.map_append]; rfl
      have hl1 : ((ps.take k).map clrA).length = k := by simp; omega
      have HFP := hide (HFX.out _ (List.getElem_mem hlt))
      obtain ⟨b, off, hA, hbg, hc⟩ := row_at ho.1.rd
      rw [hl1] at hc
      have HTK := hide (And.intro htk hl1)
      have HO := hide ho
      clear ho hx hrr hb htk hl1 hdr
      generalize (ps.take k).map clrA = l1 at *
      generalize ps[k] = p at *
      generalize hl2 : ps.drop (k + 1) = l2 at *
      have HL2 := hide hl2
      clear hl2
      have hc0 := hc 0 _ rfl
      have hc1 := hc 1 _ rfl
      have hc2 := hc 2 _ rfl
      have hc3 := hc 3 _ rfl
      have hc4 := hc 4 _ rfl
      have hc5 := hc 5 _ rfl
      simp only [Nat.add_zero] at hc0
      clear hc
      subst hA
      have hfl := HFP.out.1
      go_wp2_with fail
      have B1 : Below wr.heap.size wr (wr.alloc (.cells #[.string p.nm, .int .i64 p.kd, .int .i64 p.al, .slice p.A p.zs.length p.c, .int .i64 p.sz, .slice p.F p.fs.length p.fc] 73)) := (by repeat (first | exact Below.refl _ _ | with_reducible assumption | (refine Below.drew ?_) | (refine Below.drewN ?_ _) | (refine Below.alloc ?_ (by simp; try omega) _) | (refine Below.setCell ?_ (by simp; try omega) _)))
      have HS1 := hide (Box.new wr 73 #[.string p.nm, .int .i64 p.kd, .int .i64 p.al, .slice p.A p.zs.length p.c, .int .i64 p.sz, .slice p.F p.fs.length p.fc])
      have HX1 := hide (HX.out.call B1)
      have HRR1 := hide (HRR.out.call B1)
      have HO1 := hide (HO.out.call B1)
      have HB1 := hide (HB.out.trans (B1.mono HB.out.size))
      clear B1 HX HRR HO HB hc0 hc1 hc2 hc3 hc4 hc5
      generalize wr.alloc (.cells #[.string p.nm, .int .i64 p.kd, .int .i64 p.al, .slice p.A p.zs.length p.c, .int .i64 p.sz, .slice p.F p.fs.length p.fc] 73) = wa at *
      generalize wr.heap.size = S at *
      have s5 := HS1.out.cell 5
      simp only [List.getElem?_toArray, List.getElem?_cons_zero, List.getElem?_cons_succ] at s5
      have hsl := HS1.out.lt
      go_wp2_with fail
      clear s5 hsl
      go_loopw [24] (fun i wi => ∃ (j : Nat), j ≤ p.fs.length ∧ i = .int .i64 j ∧ OwnO wi w.heap.size ⟨some ⟨b, off, none⟩, c, l1 ++ clrP p (p.fs.take j) :: l2, Y, yc, ys⟩ ∧ Box wi S 73 #[.string p.nm, .int .i64 p.kd, .int .i64 p.al, .slice p.A p.zs.length p.c, .int .i64 p.sz, .slice p.F p.fs.length p.fc] ∧ Box wi X 26 #[.slice (some ⟨b, off, none⟩) ps.length c, .slice Y ys.length yc] ∧ Box wi R 26 #[.slice none 0 0, .slice none 0 0] ∧ Below w.heap.size w wi) (fun i _ => p.fs.length - (intOf i).toNat)
      case atStart => exact ⟨0, Nat.zero_le _, rfl, HO1.out, HS1.out, HX1.out, HRR1.out, HB1.out⟩
      case round =>
        clear HO1 HS1 HX1 HRR1 HB1
        obtain ⟨j, hj, rfl, ho, hs, hx, hrr, hb⟩ := hrel
        by_cases hjl : j < p.fs.length
        · have hq : RwS wr w.heap.size (clrP p (p.fs.take j)) := ho.1.2.1 _ (by simp)
          obtain ⟨bf, of, hF, hbf, hcf⟩ := Rd.row (xs := p.fs) fixupC_len (by decide) hq.rd.2 hjl
          have hF : p.F = some ⟨bf, of, none⟩ := hF
          have hfx := HFP.out.2.2 _ (List.getElem_mem hjl)
          have HTF := hide (show clrP p (p.fs.take (j + 1)) = { clrP p (p.fs.take j) with zs := setz (clrs p.zs (p.fs.take j)) (p.fs[j].1.toNat) (wide p.fs[j].2.1).toNat } by rw [take_succ hjl]; simp only [clrP, clrs_snoc]; rfl)
          have hzl48 := HFP.out.2.1
          generalize p.fs[j] = f at *
          obtain ⟨f0, f1, f2, f3⟩ := f
          simp only at hcf hfx
          obtain ⟨i0, hi1, hi2⟩ := hfx
          obtain ⟨a, rfl⟩ := Int.eq_ofNat_of_zero_le i0
          have hwd := wide_bd f1
          have HFW := hide (fun V => fixupWide_any f1 V)
          obtain ⟨wd, hwd'⟩ := Int.eq_ofNat_of_zero_le hwd.1
          rw [hwd'] at HFW hi1 hi2
          rw [hwd'] at HTF
          simp only [Int.toNat_natCast] at HTF
          have hwd0 : 0 < wd := by omega
          have hsum : a + wd ≤ p.zs.length := by omega
          have HX := hide hx
          have HRR := hide hrr
          have HB := hide hb
          have HO := hide ho
          have HS := hide hs
          have hc0 := hcf 0 _ rfl
          have hc1 := hcf 1 _ rfl
          have hc2 := hcf 2 _ rfl
          have hc3 := hcf 3 _ rfl
          simp only [Nat.add_zero] at hc0
          clear ho hs hx hrr hb hq hcf hwd
          have HHF := hide hF
          rw [hF]
          clear hF
          go_wp2_with fail
          have B1 : Below wr.heap.size wr (wr.alloc (.cells #[.int .i64 a, .int .i64 f1, .int .i64 f2, .int .i64 f3] 77)) := (by repeat (first | exact Below.refl _ _ | with_reducible assumption | (refine Below.drew ?_) | (refine Below.drewN ?_ _) | (refine Below.alloc ?_ (by simp; try omega) _) | (refine Below.setCell ?_ (by simp; try omega) _)))
          have HZ1 := hide (Box.new wr 77 #[.int .i64 a, .int .i64 f1, .int .i64 f2, .int .i64 f3])
          have HS1 := hide (HS.out.call B1)
          have HX1 := hide (HX.out.call B1)
          have HRR1 := hide (HRR.out.call B1)
          have HO1 := hide (HO.out.call B1)
          have HB1 := hide (HB.out.trans (B1.mono HB.out.size))
          clear B1 HX HRR HO HB HS hc0 hc1 hc2 hc3
          generalize wr.alloc (.cells #[.int .i64 a, .int .i64 f1, .int .i64 f2, .int .i64 f3] 77) = wz at *
          generalize wr.heap.size = Z at *
          have hq : RwS wz w.heap.size (clrP p (p.fs.take j)) := HO1.out.1.2.1 _ (by simp)
          obtain ⟨g, hA, hbg2, hgl, hblk, hown⟩ := own_of hq.1 (by simp only [clrP, clrs_len]; omega)
          have hA : p.A = some ⟨g, 0, none⟩ := hA
          have hcap : p.zs.length ≤ p.c := by have := hq.1.cap.1; simpa [clrP, clrs_len] using this
          have HGC := hide (show ∀ j, j < wd → (wz.cell? ⟨g, a + j, none⟩).isSome = true ∧ wz.frozen? ⟨g, a + j, none⟩ = false from fun j hj => by
            obtain ⟨g', hg', hc', _⟩ := hq.1.at1 (i := a + j) (by simp only [clrP, clrs_len]; omega)
            have e := hA.symm.trans hg'
            simp only [Option.some.injEq, Addr.mk.injEq, and_true] at e
            subst e
            exact ⟨by rw [hc']; rfl, hown.frozenAt _⟩)
          have HNE := hide (And.intro (hq.1.box HS1.out (by decide) g hblk) (And.intro (hq.1.box HZ1.out (by decide) g hblk) (And.intro (hq.1.box HX1.out (by decide) g hblk) (hq.1.box HRR1.out (by decide) g hblk))))
          have HA := hide hA
          have HGB := hide hbg2
          have s3 := HS1.out.cell 3
          have z0 := HZ1.out.cell 0
          have z1 := HZ1.out.cell 1
          simp only [List.getElem?_toArray, List.getElem?_cons_zero, List.getElem?_cons_succ] at s3 z0 z1
          rw [hA] at s3
          have hsl := HS1.out.lt
          have hzl := HZ1.out.lt
          have hw1 : IntKind.i64.wrap ((a : Int) + wd) = (a : Int) + wd := IntWalk.i64_in _ (by omega)
          have hca : a ≤ p.c := by omega
          have ht : ((a : Int) + wd).toNat = a + wd := by omega
          have hq0 : (0 : Int) ≤ (a : Int) + wd := by omega
          have hq1 : (a : Int) + wd ≤ p.c := by omega
          have hq2 : a ≤ a + wd := by omega
          have hcd : a + wd - a = wd := by omega
          have hne : ¬ p.c = a := by omega
          clear hq hown hblk hbg2 hA hgl
          have Z0 : wz.cell? ⟨S, 3, none⟩ = some (.slice (some ⟨g, 0, none⟩) p.zs.length p.c) ∧ wz.cell? ⟨Z, 0, none⟩ = some (.int .i64 a) ∧ wz.cell? ⟨Z, 1, none⟩ = some (.int .i64 f1) := ⟨s3, z0, z1⟩
          refine Reg.startT (fun W => W.cell? ⟨S, 3, none⟩ = some (.slice (some ⟨g, 0, none⟩) p.zs.length p.c) ∧ W.cell? ⟨Z, 0, none⟩ = some (.int .i64 a) ∧ W.cell? ⟨Z, 1, none⟩ = some (.int .i64 f1)) (fun _ => false) (by kernel_rfl) ?_
          have hHeld : wz.drew.cell? ⟨S, 3, none⟩ = some (.slice (some ⟨g, 0, none⟩) p.zs.length p.c) ∧ wz.drew.cell? ⟨Z, 0, none⟩ = some (.int .i64 a) ∧ wz.drew.cell? ⟨Z, 1, none⟩ = some (.int .i64 f1) := Z0
          clear s3 z0 z1
          refine Reg.takeT (i := 0) (v := ?_) rfl (by kernel_rfl) (by kernel_rfl) (by kernel_rfl) (by kernel_rfl) (fun _ _ _ h => h) (Or.inl ⟨by rfl, ?_⟩) (by assumption) ?_
          rotate_left 1
          focus (intro w hSw; (try dsimp only at hSw); go_simp; (try with_reducible rfl))
          try simp only [List.getElem_toArray, List.getElem_cons_succ, List.getElem_cons_zero, Act.put, List.setIfInBounds_toArray, List.set_cons_zero, List.set_cons_succ]
          refine Reg.takeT (i := 1) (v := ?_) rfl (by kernel_rfl) (by kernel_rfl) (by kernel_rfl) (by kernel_rfl) (fun _ _ _ h => h) (Or.inl ⟨by rfl, ?_⟩) (by assumption) ?_
          rotate_left 1
          focus (intro w hSw; (try dsimp only at hSw); go_simp; (try with_reducible rfl))
          try simp only [List.getElem_toArray, List.getElem_cons_succ, List.getElem_cons_zero, Act.put, List.setIfInBounds_toArray, List.set_cons_zero, List.set_cons_succ]
          refine Reg.takeT (i := 2) (v := ?_) rfl (by kernel_rfl) (by kernel_rfl) (by kernel_rfl) (by kernel_rfl) (fun _ _ _ h => h) (Or.inl ⟨by rfl, ?_⟩) (by assumption) ?_
          rotate_left 1
          focus (intro w hSw; (try dsimp only at hSw); go_simp; (try with_reducible rfl))
          try simp only [List.getElem_toArray, List.getElem_cons_succ, List.getElem_cons_zero, Act.put, List.setIfInBounds_toArray, List.set_cons_zero, List.set_cons_succ]
          refine Reg.takeT (i := 3) (v := ?_) rfl (by kernel_rfl) (by kernel_rfl) (by kernel_rfl) (by kernel_rfl) (fun _ _ _ h => h) (Or.inl ⟨by rfl, ?_⟩) (by assumption) ?_
          rotate_left 1
          focus (intro w hSw; (try dsimp only at hSw); go_simp; (try with_reducible rfl))
          try simp only [List.getElem_toArray, List.getElem_cons_succ, List.getElem_cons_zero, Act.put, List.setIfInBounds_toArray, List.set_cons_zero, List.set_cons_succ]
          refine Reg.takeT (i := 4) (v := ?_) rfl (by kernel_rfl) (by kernel_rfl) (by kernel_rfl) (by kernel_rfl) (fun _ _ _ h => h) (Or.inl ⟨by rfl, ?_⟩) (by assumption) ?_
          rotate_left 1
          focus (intro w hSw; (try dsimp only at hSw); go_simp; (try with_reducible rfl))
          try simp only [List.getElem_toArray, List.getElem_cons_succ, List.getElem_cons_zero, Act.put, List.setIfInBounds_toArray, List.set_cons_zero, List.set_cons_succ]
          refine Reg.takeT (i := 5) (v := ?_) rfl (by kernel_rfl) (by kernel_rfl) (by kernel_rfl) (by kernel_rfl) (fun _ _ _ h => h) (Or.inl ⟨by rfl, ?_⟩) (by assumption) ?_
          rotate_left 1
          focus (intro w hSw; (try dsimp only at hSw); go_simp; (try with_reducible rfl))
          try simp only [List.getElem_toArray, List.getElem_cons_succ, List.getElem_cons_zero, Act.put, List.setIfInBounds_toArray, List.set_cons_zero, List.set_cons_succ]
          refine Reg.takeT (i := 6) (v := ?_) rfl (by kernel_rfl) (by kernel_rfl) (by kernel_rfl) (by kernel_rfl) (fun _ _ _ h => h) (Or.inl ⟨by rfl, ?_⟩) (by assumption) ?_
          rotate_left 1
          focus (intro w hSw; (try dsimp only at hSw); go_simp; (try with_reducible rfl))
          try simp only [List.getElem_toArray, List.getElem_cons_succ, List.getElem_cons_zero, Act.put, List.setIfInBounds_toArray, List.set_cons_zero, List.set_cons_succ]
          refine Reg.takeT (i := 7) (v := ?_) rfl (by kernel_rfl) (by kernel_rfl) (by kernel_rfl) (by kernel_rfl) (fun _ _ _ h => h) (Or.inl ⟨by rfl, ?_⟩) (by assumption) ?_
          rotate_left 1
          focus (intro w hSw; (try dsimp only at hSw); go_simp; (try with_reducible rfl))
          try simp only [List.getElem_toArray, List.getElem_cons_succ, List.getElem_cons_zero, Act.put, List.setIfInBounds_toArray, List.set_cons_zero, List.set_cons_succ]
          refine Reg.oneT (i := 8) rfl (by kernel_rfl) (fun K hK => ?_)
          go_simp
          refine (HFW.out _).mono ?_
          rintro e w5 ⟨rfl, rfl⟩
          refine hK.out _ _ hHeld ?_
          clear hK K
          try simp only [List.getElem_toArray, List.getElem_cons_succ, List.getElem_cons_zero, Act.put, List.setIfInBounds_toArray, List.set_cons_zero, List.set_cons_succ]
          refine Reg.takeT (i := 9) (v := ?_) rfl (by kernel_rfl) (by kernel_rfl) (by kernel_rfl) (by kernel_rfl) (fun _ _ _ h => h) (Or.inl ⟨by rfl, ?_⟩) (by assumption) ?_
          rotate_left 1
          focus (intro w hSw; (try dsimp only at hSw); go_simp; (try with_reducible rfl))
          try simp only [List.getElem_toArray, List.getElem_cons_succ, List.getElem_cons_zero, Act.put, List.setIfInBounds_toArray, List.set_cons_zero, List.set_cons_succ]
          refine Reg.takeT (i := 10) (v := ?_) rfl (by kernel_rfl) (by kernel_rfl) (by kernel_rfl) (by kernel_rfl) (fun _ _ _ h => h) (Or.inl ⟨by rfl, ?_⟩) (by assumption) ?_
          rotate_left 1
          focus (intro w hSw; (try dsimp only at hSw); go_simp; (try with_reducible rfl))
          try simp only [List.getElem_toArray, List.getElem_cons_succ, List.getElem_cons_zero, Act.put, List.setIfInBounds_toArray, List.set_cons_zero, List.set_cons_succ]
          refine Reg.oneT (i := 11) rfl (by kernel_rfl) (fun K hK => ?_)
          refine step_clear (by rfl) _ (by rfl) g a wd (p.c - a) (by with_unfolding_all rfl) hwd0 (fun j hj => (HGC.out j hj).1) (fun j hj => (HGC.out j hj).2) ?_
          have HO2 := hide (PClear.OwnO.clear (q := clrP p (p.fs.take j)) HA.out a wd wz.drew (by simp only [clrP, clrs_len]; omega) (HO1.out.call (below_dr (Below.refl _ _))))
          have HS2 := hide (clear_box (o := a) (vs := List.replicate wd (.int .u8 0)) HS1.out.drew (Ne.symm HNE.out.1))
          have HZ2 := hide (clear_box (o := a) (vs := List.replicate wd (.int .u8 0)) HZ1.out.drew (Ne.symm HNE.out.2.1))
          have HX2 := hide (clear_box (o := a) (vs := List.replicate wd (.int .u8 0)) HX1.out.drew (Ne.symm HNE.out.2.2.1))
          have HRR2 := hide (clear_box (o := a) (vs := List.replicate wd (.int .u8 0)) HRR1.out.drew (Ne.symm HNE.out.2.2.2))
          have HB2 := hide ((HB1.out.drew).trans (Lib.below_setCells_w HGB.out (List.replicate wd (.int .u8 0)) a wz.drew))
          clear HO1 HS1 HZ1 HX1 HRR1 HB1 Z0 hHeld hsl hzl HGC HNE
          generalize wz.drew.setCells g a (List.replicate wd (.int .u8 0)) = w6 at *
          refine hK.out _ _ ⟨by rw [← HA.out]; exact HS2.out.cell 3, HZ2.out.cell 0, HZ2.out.cell 1⟩ ?_
          clear hK K
          try simp only [List.getElem_toArray, List.getElem_cons_succ, List.getElem_cons_zero, Act.put, List.setIfInBounds_toArray, List.set_cons_zero, List.set_cons_succ]
          refine Reg.doneT (by kernel_rfl) ?_ _
          go_wp2_with fail
          refine ⟨⟨j + 1, by omega, by go_num, by rw [HTF.out]; exact HO2.out, by have h := HS2.out; rw [HHF.out] at h; exact h, HX2.out, HRR2.out, HB2.out⟩, by simp [intOf]; omega⟩
        · have e : clrP p (p.fs.take j) = clrA p := by rw [List.take_of_length_le (by omega)]; rfl
          rw [e] at ho
          have HX := hide hx
          have HRR := hide hrr
          have HB := hide hb
          have HO := hide ho
          clear ho hs hx hrr hb e
          go_wp2_with fail
          refine ⟨⟨k + 1, by omega, by go_num, by rw [HTK.out.1, HL2.out, List.append_assoc]; exact HO.out, HX.out, HRR.out, HB.out⟩, by simp [intOf]; omega⟩
    · have e : (ps.take k).map clrA ++ ps.drop k = ps.map clrA := by rw [List.take_of_length_le (by omega), List.drop_of_length_le (by omega), List.append_nil]
      rw [e] at ho
      have HFIN := hide (CObject.ret_object ho hb (by
        rintro j ((hj | ⟨x, hx', hj⟩) | hj)
        · exact ho.1.1.box hrr (by decide) j hj
        · exact (ho.1.2.1 x hx').box hrr (by decide) (by decide) j hj
        · exact ho.2.box hrr (by decide) j hj) (Nat.le_of_lt hVR))
      have y0 := hrr.cell 0
      have y1 := hrr.cell 1
      have yf0 := hrr.frozen 0
      have yf1 := hrr.frozen 1
      have hrl := hrr.lt
      have x0 := hx.cell 0
      have x1 := hx.cell 1
      have hxl := hx.lt
      simp only [List.getElem?_toArray, List.getElem?_cons_zero, List.getElem?_cons_succ] at y0 y1 x0 x1
      have kk := (HRR.out.set 0 (.slice A ps.length c)).set 1 (.slice Y ys.length yc)
      have k0 := kk.cell 0
      have k1 := kk.cell 1
      simp only [List.setIfInBounds_toArray, List.set_cons_zero, List.set_cons_succ, List.getElem?_toArray, List.getElem?_cons_zero, List.getElem?_cons_succ] at k0 k1
      clear kk ho hx hrr hb e
      go_wp2_with fail
      refine bodyPost_ret (v := OV.v ⟨A, c, ps.map clrA, Y, yc, ys⟩) (by simp [results, Try.results13, go_sem, OV.v, k0, k1]) rfl ?_
      rw [HDD.out]
      have h := HFIN.out
      simp only [List.length_map] at h
      exact h
end Go.Proofs.Ytmglgjchemecjaa.CClear
/- Contracts of the laws' helpers on []int: the copy, the comparison, the marks. -/
namespace Go.Proofs.Ytmglgjchemecjaa.CInts
set_option maxRecDepth 200000
open Go.ChangeShapes Go.WideShapes Go.ChangeAt Go.RowKit Kit
theorem info64 : (Try.prog.info? 3).map (fun i => (i.zero, i.size, i.bytes)) = some (some (.int .i64 0), 1, 8) := by kernel_rfl
def marks (k0 : Int) (n : Nat) : List Int := (List.range n).map fun (i : Nat) => k0 + (i : Int)
theorem marks_len (k0 : Int) (n : Nat) : (marks k0 n).length = n := by simp [marks]
theorem marks_at (k0 : Int) (n i : Nat) (h : i < n) : (marks k0 n)[i]'(by rw [marks_len]; exact h) = (k0 + i) := by simp [marks]
theorem marks_set (k0 : Int) (n i : Nat) (xs : List Int) (h : i < xs.length) (hn : xs.length = n) : (marks k0 i ++ xs.drop i).set i ((k0 + i)) = marks k0 (i + 1) ++ xs.drop (i + 1) := by
  rw [List.set_append_right _ _ (by rw [marks_len]; exact Nat.le_refl _), marks_len, Nat.sub_self, List.drop_eq_getElem_cons h, List.set_cons_zero]
  simp [marks, List.range_succ]
end Go.Proofs.Ytmglgjchemecjaa.CInts
