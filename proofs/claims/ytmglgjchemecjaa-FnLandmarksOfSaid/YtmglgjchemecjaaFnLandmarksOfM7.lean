/- The library's stable sort of landmarks whose names ascend; plain. -/
import Derived.Test.YtmglgjchemecjaaFnLandmarksOfM6
import Derived.Shelf.SlSortCmp.KitK
import Derived.Sort.WalkB2
import Derived.Sort.WalkB12
import Derived.Laws.Cover1
import Derived.Deep.CutBlock
import Derived.Deep.CutRange
set_option linter.unusedSimpArgs false
set_option linter.unusedVariables false
namespace Go.Proofs.Ytmglgjchemecjaa.PStab
set_option maxRecDepth 200000
open Go.ChangeShapes Go.WideShapes Go.ChangeAt Go.RowKit Kit CSorted PIns PSort PLmk CLandmarks
open Go.Sort Go.RowKit
/-- By place, then by name. -/
def ltM (x y : LD) : Prop := x.2 < y.2 ∨ (x.2 = y.2 ∧ sl x.1 y.1 = true)
/-- The name stands before. -/
def cr (x y : LD) : Prop := sl x.1 y.1 = true
theorem ltM_tr {x y z : LD} (h1 : ltM x y) (h2 : ltM y z) : ltM x z := by
  rcases h1 with h1 | ⟨h1, h1'⟩ <;> rcases h2 with h2 | ⟨h2, h2'⟩
  · exact .inl (by omega)
  · exact .inl (by omega)
  · exact .inl (by omega)
  · exact .inr ⟨by omega, sl_tr h1' h2'⟩
theorem ltM_irr {x : LD} (h : ltM x x) : False := by
  rcases h with h | ⟨_, h⟩
  · omega
  · rw [sl_irr] at h
    cases h
theorem lt_cr {x y : LD} (hc : cr x y) (h : ¬ y.2 < x.2) : ltM x y := by
  by_cases e : x.2 = y.2
  · exact .inr ⟨e, hc⟩
  · exact .inl (by omega)
abbrev Srt (l : List LD) : Prop := l.Pairwise ltM
abbrev Crs (l : List LD) : Prop := l.Pairwise cr
def CC (X Y : List LD) : Prop := ∀ x ∈ X, ∀ y ∈ Y, cr x y
theorem get_mid (P S : List LD) (x : LD) {i : Nat} (h : i = P.length) : (P ++ x :: S).toArray[i]! = x := by
  subst h
  rw [getElem!_pos _ _ (by simp)]
  simp
theorem swp_toList (d : Array LD) (i j : Nat) : (swp d i j).toList = (d.toList.set i d[j]!).set j d[i]! := by simp [swp]
theorem set_mid (P S : List LD) (x y : LD) {i : Nat} (h : i = P.length) : (P ++ x :: S).set i y = P ++ y :: S := by
  subst h
  rw [List.set_append_right _ _ (Nat.le_refl _), Nat.sub_self, List.set_cons_zero]
theorem swp_mid (P Q S : List LD) (x y : LD) {i j : Nat} (hi : i = P.length) (hj : j = P.length + 1 + Q.length) :
    swp (P ++ x :: (Q ++ y :: S)).toArray i j = (P ++ y :: (Q ++ x :: S)).toArray := by
  have e : ∀ a b, (P ++ a :: (Q ++ b :: S)) = (P ++ a :: Q) ++ b :: S := fun a b => by simp
  have hj' : ∀ a, j = (P ++ a :: Q).length := fun a => by simp only [List.length_append, List.length_cons]; omega
  apply Array.toList_inj.1
  rw [swp_toList, get_mid P _ x hi]
  have h2 : (P ++ x :: (Q ++ y :: S)).toArray[j]! = y := by rw [e]; exact get_mid _ _ _ (hj' x)
  rw [h2, set_mid P _ x y hi, e, set_mid _ _ _ _ (hj' y), ← e]
theorem swp_comm (d : Array LD) (i j : Nat) (h : i ≠ j) : swp d i j = swp d j i := by
  apply Array.toList_inj.1
  rw [swp_toList, swp_toList, List.set_comm _ _ h]
theorem swp_mid' (P Q S : List LD) (x y : LD) {i j : Nat} (hi : i = P.length) (hj : j = P.length + 1 + Q.length) :
    swp (P ++ x :: (Q ++ y :: S)).toArray j i = (P ++ y :: (Q ++ x :: S)).toArray := by
  rw [swp_comm _ _ _ (by omega), swp_mid P Q S x y hi hj]
theorem ins_done {M A B : List LD} {x : LD} (hM : Srt M) (e : A ++ B = M) (hB : ∀ y ∈ B, ltM x y) (hA : ∀ y ∈ A, ltM y x) : Srt (A ++ x :: B) := by
  subst e
  obtain ⟨h1, h2, h3⟩ := List.pairwise_append.1 hM
  refine List.pairwise_append.2 ⟨h1, List.pairwise_cons.2 ⟨hB, h2⟩, ?_⟩
  intro a ha b hb
  rcases List.mem_cons.1 hb with rfl | hb
  · exact hA a ha
  · exact h3 a ha b hb
theorem last_lt {M A B : List LD} {x y : LD} (hM : Srt M) (e : (A ++ [y]) ++ B = M) (h : ltM y x) : ∀ z ∈ A ++ [y], ltM z x := by
  subst e
  obtain ⟨h1, _, _⟩ := List.pairwise_append.1 hM
  obtain ⟨_, _, h3⟩ := List.pairwise_append.1 h1
  intro z hz
  rcases List.mem_append.1 hz with hz | hz
  · exact ltM_tr (h3 z hz y List.mem_cons_self) h
  · rw [List.mem_singleton.1 hz]
    exact h
theorem take_drop_at (L : List LD) (k : Nat) (h : k < L.length) : ∃ x L', L.drop k = x :: L' ∧ L.take (k + 1) = L.take k ++ [x] ∧ L' = L.drop (k + 1) ∧ (Crs L → ∀ y ∈ L.take k, cr y x) := by
  refine ⟨L[k], L.drop (k + 1), List.drop_eq_getElem_cons h, take_succ h, rfl, ?_⟩
  intro hc y hy
  have e : L = L.take k ++ L.drop k := (List.take_append_drop k L).symm
  rw [e] at hc
  obtain ⟨_, _, h3⟩ := List.pairwise_append.1 hc
  exact h3 y hy _ (by rw [List.drop_eq_getElem_cons h]; exact List.mem_cons_self)
theorem last_of {A : List LD} (h : 0 < A.length) : ∃ A' y, A = A' ++ [y] := by
  rcases List.eq_nil_or_concat A with rfl | ⟨A', y, rfl⟩
  · simp at h
  · exact ⟨A', y, by simp⟩
theorem merge_ok {L R L1 L2 R1 R2 M1 M2 : List LD} (eL : L = L1 ++ L2) (eR : R = R1 ++ R2) (hL : Srt L) (hR : Srt R) (hC : CC L R)
    (hA : L1 = [] ∨ R2 = [] ∨ ∃ x y L1' R2', L1 = L1' ++ [x] ∧ R2 = y :: R2' ∧ ¬ y.2 < x.2)
    (hB : R1 = [] ∨ L2 = [] ∨ ∃ x y L2' R1', L2 = x :: L2' ∧ R1 = R1' ++ [y] ∧ y.2 < x.2)
    (p1 : M1.Perm (L1 ++ R1)) (s1 : Srt M1) (p2 : M2.Perm (L2 ++ R2)) (s2 : Srt M2) : (M1 ++ M2).Perm (L ++ R) ∧ Srt (M1 ++ M2) := by
  subst eL eR
  obtain ⟨l1, l2, l12⟩ := List.pairwise_append.1 hL
  obtain ⟨r1, r2, r12⟩ := List.pairwise_append.1 hR
  have hAA : ∀ x ∈ L1, ∀ y ∈ R2, ltM x y := by
    intro x hx y hy
    rcases hA with rfl | rfl | ⟨x0, y0, L1', R2', rfl, rfl, h⟩
    · cases hx
    · cases hy
    · have h0 : ltM x0 y0 := lt_cr (hC _ (by simp) _ (by simp)) h
      have h1 : x = x0 ∨ ltM x x0 := by
        rcases List.mem_append.1 hx with hx | hx
        · exact .inr ((List.pairwise_append.1 l1).2.2 x hx x0 List.mem_cons_self)
        · exact .inl (List.mem_singleton.1 hx)
      have h2 : y = y0 ∨ ltM y0 y := by
        rcases List.mem_cons.1 hy with rfl | hy
        · exact .inl rfl
        · exact .inr ((List.pairwise_cons.1 r2).1 y hy)
      rcases h1 with rfl | h1 <;> rcases h2 with rfl | h2
      · exact h0
      · exact ltM_tr h0 h2
      · exact ltM_tr h1 h0
      · exact ltM_tr h1 (ltM_tr h0 h2)
  have hBB : ∀ y ∈ R1, ∀ x ∈ L2, ltM y x := by
    intro y hy x hx
    rcases hB with rfl | rfl | ⟨x0, y0, L2', R1', rfl, rfl, h⟩
    · cases hy
    · cases hx
    · have h0 : ltM y0 x0 := .inl h
      have h1 : y = y0 ∨ ltM y y0 := by
        rcases List.mem_append.1 hy with hy | hy
        · exact .inr ((List.pairwise_append.1 r1).2.2 y hy y0 List.mem_cons_self)
        · exact .inl (List.mem_singleton.1 hy)
      have h2 : x = x0 ∨ ltM x0 x := by
        rcases List.mem_cons.1 hx with rfl | hx
        · exact .inl rfl
        · exact .inr ((List.pairwise_cons.1 l2).1 x hx)
      rcases h1 with rfl | h1 <;> rcases h2 with rfl | h2
      · exact h0
      · exact ltM_tr h0 h2
      · exact ltM_tr h1 h0
      · exact ltM_tr h1 (ltM_tr h0 h2)
  constructor
  · refine List.Perm.trans (List.Perm.append p1 p2) ?_
    rw [List.append_assoc, List.append_assoc]
    refine List.Perm.append_left L1 ?_
    rw [← List.append_assoc, ← List.append_assoc]
    exact List.Perm.append_right R2 List.perm_append_comm
  · refine List.pairwise_append.2 ⟨s1, s2, ?_⟩
    intro u hu v hv
    rcases List.mem_append.1 (p1.subset hu) with hu | hu <;> rcases List.mem_append.1 (p2.subset hv) with hv | hv
    · exact l12 u hu v hv
    · exact hAA u hu v hv
    · exact hBB u hu v hv
    · exact r12 u hu v hv
theorem one_left {R R1 R3 : List LD} {x : LD} (e : R = R1 ++ R3) (hR : Srt R) (h1 : ∀ y ∈ R1, ltM y x) (h3 : ∀ y ∈ R3, ltM x y) : (R1 ++ x :: R3).Perm ([x] ++ R) ∧ Srt (R1 ++ x :: R3) :=
  ⟨by rw [e]; exact List.perm_middle, ins_done hR e.symm h3 h1⟩
theorem one_right {L L1 L3 : List LD} {x : LD} (e : L = L1 ++ L3) (hL : Srt L) (h1 : ∀ y ∈ L1, ltM y x) (h3 : ∀ y ∈ L3, ltM x y) : (L1 ++ x :: L3).Perm (L ++ [x]) ∧ Srt (L1 ++ x :: L3) :=
  ⟨by rw [e]; exact List.perm_middle.trans (List.perm_append_singleton _ _).symm, ins_done hL e.symm h3 h1⟩
theorem grow_low {R A U V B : List LD} {x y : LD} (e : R = A ++ (U ++ y :: V) ++ B) (hR : Srt R) (hA : ∀ z ∈ A, ltM z x) (h : ltM y x) : ∀ z ∈ A ++ U ++ [y], ltM z x := by
  subst e
  obtain ⟨h1, _, _⟩ := List.pairwise_append.1 hR
  obtain ⟨_, h2, _⟩ := List.pairwise_append.1 h1
  obtain ⟨_, _, h3⟩ := List.pairwise_append.1 h2
  intro z hz
  simp only [List.mem_append, List.mem_singleton] at hz
  rcases hz with (hz | hz) | rfl
  · exact hA z hz
  · exact ltM_tr (h3 z hz y List.mem_cons_self) h
  · exact h
theorem grow_high {R A U V B : List LD} {x y : LD} (e : R = A ++ (U ++ y :: V) ++ B) (hR : Srt R) (hB : ∀ z ∈ B, ltM x z) (h : ltM x y) : ∀ z ∈ y :: V ++ B, ltM x z := by
  subst e
  obtain ⟨h1, _, _⟩ := List.pairwise_append.1 hR
  obtain ⟨_, h2, _⟩ := List.pairwise_append.1 h1
  obtain ⟨_, h3, _⟩ := List.pairwise_append.1 h2
  obtain ⟨h4, _⟩ := List.pairwise_cons.1 h3
  intro z hz
  simp only [List.cons_append, List.mem_cons, List.mem_append] at hz
  rcases hz with rfl | hz | hz
  · exact h
  · exact ltM_tr h (h4 z hz)
  · exact hB z hz
theorem split_mid (M : List LD) (n : Nat) (h : n < M.length) : ∃ U y V, M = U ++ y :: V ∧ U.length = n ∧ V.length = M.length - n - 1 :=
  ⟨M.take n, M[n], M.drop (n + 1), by rw [← List.drop_eq_getElem_cons h, List.take_append_drop], by rw [List.length_take]; omega, by rw [List.length_drop]; omega⟩
end Go.Proofs.Ytmglgjchemecjaa.PStab
/- The library's stable sort of landmarks: exchanges. -/
namespace Go.Proofs.Ytmglgjchemecjaa.CStab1
set_option maxRecDepth 200000
open Go.ChangeShapes Go.WideShapes Go.ChangeAt Go.RowKit Kit CSorted PIns PSort PLmk CLandmarks PStab
open Go.Sort Go.RowKit
/-- The row's base, once. -/
abbrev RowM (w0 : World) (g : Nat) (d0 : Array LD) : Prop := RowK landmarkC 2 w0 g 0 d0
abbrev SM (w0 : World) (g : Nat) (l : List LD) (W : World) : Prop := SWK landmarkC 2 w0 g 0 l.toArray W
/-- The row has come to this. -/
def Fin (w0 : World) (g : Nat) (l : List LD) (e : Ending) (w' : World) : Prop := e = .returned (.tuple #[]) ∧ SM w0 g l w'
section
variable {w0 W : World} {g : Nat} {d0 : Array LD} {P Q S : List LD} {x y : LD} {i j : Nat}
theorem SM.mid (R : RowM w0 g d0) (h : SM w0 g (P ++ x :: S) W) (hz : (P ++ x :: S).length = d0.size) (hi : i = P.length) :
    W.cell? ⟨g, i * 2, none⟩ = some (.string x.1) ∧ W.cell? ⟨g, i * 2 + 1, none⟩ = some (.int .i64 x.2) ∧ W.frozen? ⟨g, i * 2, none⟩ = false ∧ W.frozen? ⟨g, i * 2 + 1, none⟩ = false := by
  have hs : (P ++ x :: S).toArray.size = d0.size := by rw [List.size_toArray, hz]
  have hH := SWK.holds h R.hblk R.hH hs
  have hil : i < (P ++ x :: S).toArray.size := by
    rw [List.size_toArray, hi, List.length_append, List.length_cons]
    omega
  have c0 := hH.cell (c := 0) hil (by decide)
  have c1 := hH.cell (c := 1) hil (by decide)
  rw [get_mid P S x hi] at c0 c1
  simp only [Nat.zero_add, Nat.add_zero] at c0 c1
  exact ⟨c0.1, c1.1, c0.2, c1.2⟩
theorem SM.swap (R : RowM w0 g d0) (h : SM w0 g (P ++ x :: (Q ++ y :: S)) W) (hi : i = P.length) (hj : j = P.length + 1 + Q.length) :
    SM w0 g (P ++ y :: (Q ++ x :: S)) ((((W.setCell ⟨g, i * 2, none⟩ (.string y.1)).setCell ⟨g, i * 2 + 1, none⟩ (.int .i64 y.2)).setCell ⟨g, j * 2, none⟩ (.string x.1)).setCell ⟨g, j * 2 + 1, none⟩ (.int .i64 x.2)) := by
  have hs : (P ++ x :: (Q ++ y :: S)).toArray.size = P.length + 1 + Q.length + 1 + S.length := by
    simp only [List.size_toArray, List.length_append, List.length_cons]
    omega
  have h2 := SWK.swap h R.hk R.hblk i j (by omega) (by omega)
  rw [swp_mid P Q S x y hi hj, get_mid P _ x hi] at h2
  have e : (P ++ x :: (Q ++ y :: S)) = (P ++ x :: Q) ++ y :: S := by simp
  have hy : (P ++ x :: (Q ++ y :: S)).toArray[j]! = y := by
    rw [e]
    exact get_mid _ _ _ (by rw [List.length_append, List.length_cons]; omega)
  rw [hy] at h2
  simpa only [Nat.zero_add, landmarkC, World.setCells] using h2
theorem SM.swap' (R : RowM w0 g d0) (h : SM w0 g (P ++ x :: (Q ++ y :: S)) W) (hi : i = P.length) (hj : j = P.length + 1 + Q.length) :
    SM w0 g (P ++ y :: (Q ++ x :: S)) ((((W.setCell ⟨g, j * 2, none⟩ (.string x.1)).setCell ⟨g, j * 2 + 1, none⟩ (.int .i64 x.2)).setCell ⟨g, i * 2, none⟩ (.string y.1)).setCell ⟨g, i * 2 + 1, none⟩ (.int .i64 y.2)) := by
  have hs : (P ++ x :: (Q ++ y :: S)).toArray.size = P.length + 1 + Q.length + 1 + S.length := by
    simp only [List.size_toArray, List.length_append, List.length_cons]
    omega
  have h2 := SWK.swap h R.hk R.hblk j i (by omega) (by omega)
  rw [swp_mid' P Q S x y hi hj, get_mid P _ x hi] at h2
  have e : (P ++ x :: (Q ++ y :: S)) = (P ++ x :: Q) ++ y :: S := by simp
  have hy : (P ++ x :: (Q ++ y :: S)).toArray[j]! = y := by
    rw [e]
    exact get_mid _ _ _ (by rw [List.length_append, List.length_cons]; omega)
  rw [hy] at h2
  simpa only [Nat.zero_add, landmarkC, World.setCells] using h2
theorem SM.size (R : RowM w0 g d0) (h : SM w0 g P W) : g < W.heap.size := SWK.lt h R.hblk
end
set_option maxHeartbeats 4000000 in
theorem swapRange_any (w0 : World) (g : Nat) (d0 : Array LD) (R : RowM w0 g d0) (c : Nat) (F : Value) (P X Q Y S : List LD) (a b n : Nat) (w : World)
    (ha : a = P.length) (hb : b = P.length + X.length + Q.length) (hX : X.length = n) (hY : Y.length = n) (hs : (P ++ (X ++ (Q ++ (Y ++ S)))).length = d0.size) (hsz : d0.size ≤ 1000000) (hS : SM w0 g (P ++ (X ++ (Q ++ (Y ++ S)))) w) :
    Calls Try.prog 222 #[.slice (some ⟨g, 0, none⟩) d0.size c, .int .i64 a, .int .i64 b, .int .i64 n, F] w (Fin w0 g (P ++ (Y ++ (Q ++ (X ++ S))))) := by
  have HS := hide hS
  have mixed : Try.prog.follows .mixedOrders = true := by kernel_rfl
  clear hS
  go_enter Try.func222, Try.ntmps222
  go_wp2_with fail
  go_loopw [10] (fun i wi => ∃ (k : Nat) (X1 X2 Y1 Y2 : List LD), Hid (X = X1 ++ X2 ∧ Y = Y1 ++ Y2 ∧ X1.length = k ∧ Y1.length = k) ∧ k ≤ n ∧ i = .int .i64 k ∧ Hid (SM w0 g (P ++ (Y1 ++ X2 ++ (Q ++ (X1 ++ Y2 ++ S)))) wi)) (fun i _ => n - (intOf i).toNat)
  case atStart => exact ⟨0, [], X, [], Y, hide ⟨rfl, rfl, rfl, rfl⟩, Nat.zero_le _, rfl, HS⟩
  case round =>
    clear HS
    obtain ⟨k, X1, X2, Y1, Y2, HE, hkn, rfl, HS⟩ := hrel
    have HA := hide (show X2.length = n - k ∧ Y2.length = n - k ∧ a = P.length ∧ b = P.length + X1.length + X2.length + Q.length ∧ P.length + X1.length + X2.length + Q.length + Y1.length + Y2.length + S.length = d0.size ∧ X1.length = k ∧ Y1.length = k from by
      obtain ⟨e1, e2, e3, e4⟩ := HE.out
      subst e1 e2
      simp only [List.length_append] at *
      refine ⟨?_, ?_, ?_, ?_, ?_, e3, e4⟩ <;> omega)
    clear ha hb hX hY hs
    by_cases hlt : k < n
    · cases X2 with
      | nil =>
        have := HA.out.1
        simp at this
        omega
      | cons x X2 =>
        cases Y2 with
        | nil =>
          have := HA.out.2.1
          simp at this
          omega
        | cons y Y2 =>
          have hB : a + k < d0.size ∧ b + k < d0.size ∧ a + k = (P ++ Y1).length ∧ b + k = (P ++ Y1).length + 1 + (X2 ++ (Q ++ X1)).length ∧ ((P ++ Y1) ++ x :: ((X2 ++ (Q ++ X1)) ++ y :: (Y2 ++ S))).length = d0.size := by
            obtain ⟨h1, h2, h3, h4, h5, h6, h7⟩ := HA.out
            simp only [List.length_append, List.length_cons] at *
            refine ⟨?_, ?_, ?_, ?_, ?_⟩ <;> omega
          obtain ⟨hi, hj, hi2, hj2, hz⟩ := hB
          have e1 : P ++ (Y1 ++ x :: X2 ++ (Q ++ (X1 ++ y :: Y2 ++ S))) = (P ++ Y1) ++ x :: ((X2 ++ (Q ++ X1)) ++ y :: (Y2 ++ S)) := by simp
          have hS := HS.out
          rw [e1] at hS
          have C1 := hS.mid R hz hi2
          have hS' := hS
          have e2 : (P ++ Y1) ++ x :: ((X2 ++ (Q ++ X1)) ++ y :: (Y2 ++ S)) = ((P ++ Y1) ++ x :: (X2 ++ (Q ++ X1))) ++ y :: (Y2 ++ S) := by simp
          rw [e2] at hS'
          have C2 := hS'.mid R (by rw [← e2]; exact hz) (i := b + k) (by rw [hj2]; simp only [List.length_append, List.length_cons]; omega)
          have S2 := hide (SWK.drew (SM.swap R hS hi2 hj2))
          have HNX := hide (show (P ++ Y1) ++ y :: ((X2 ++ (Q ++ X1)) ++ x :: (Y2 ++ S)) = P ++ ((Y1 ++ [y]) ++ X2 ++ (Q ++ ((X1 ++ [x]) ++ Y2 ++ S))) from by simp)
          clear hS hS' e1 e2 hi2 hj2 hz
          have ea : ((a : Int) + (k : Int)).toNat = a + k := by omega
          have pa : (0 : Int) ≤ (a : Int) + (k : Int) := by omega
          have ba : (a : Int) + (k : Int) < (d0.size : Int) := by omega
          have ra : IntKind.i64.wrap ((a : Int) + (k : Int)) = (a : Int) + (k : Int) := IntWalk.i64_in _ (by omega)
          have ec : ((b : Int) + (k : Int)).toNat = b + k := by omega
          have pc : (0 : Int) ≤ (b : Int) + (k : Int) := by omega
          have bc : (b : Int) + (k : Int) < (d0.size : Int) := by omega
          have rc : IntKind.i64.wrap ((b : Int) + (k : Int)) = (b : Int) + (k : Int) := IntWalk.i64_in _ (by omega)
          have hne : a + k ≠ b + k := by
            obtain ⟨h1, h2, h3, h4, h5, h6, h7⟩ := HA.out
            simp only [List.length_append, List.length_cons] at *
            omega
          obtain ⟨c11, c12, f11, f12⟩ := C1
          obtain ⟨c21, c22, f21, f22⟩ := C2
          go_wp2_with fail
          go_big_region_o
          clear c11 c12 f11 f12 c21 c22 f21 f22 ea pa ba ra ec pc bc rc hne
          go_wp2_with fail
          refine ⟨⟨k + 1, X1 ++ [x], X2, Y1 ++ [y], Y2, hide ⟨by rw [HE.out.1]; simp, by rw [HE.out.2.1]; simp, by rw [List.length_append, HE.out.2.2.1]; rfl, by rw [List.length_append, HE.out.2.2.2]; rfl⟩, hlt, by go_num, hide (by rw [← HNX.out]; exact S2.out)⟩, by simp [intOf]; omega⟩
    · have HF := hide (show SM w0 g (P ++ (Y ++ (Q ++ (X ++ S)))) wr from by
        obtain ⟨h1, h2, h3, h4, h5, h6, h7⟩ := HA.out
        obtain ⟨e1, e2, _, _⟩ := HE.out
        have e3 : X2 = [] := List.eq_nil_of_length_eq_zero (by omega)
        have e4 : Y2 = [] := List.eq_nil_of_length_eq_zero (by omega)
        have h := HS.out
        rw [e1, e2]
        rw [e3, e4] at h ⊢
        rw [List.append_nil, List.append_nil] at h ⊢
        exact h)
      go_wp2_with fail
      exact bodyPost_ret (v := .tuple #[]) (by simp [results, Try.results222, go_sem]) rfl ⟨rfl, HF.out⟩
end Go.Proofs.Ytmglgjchemecjaa.CStab1
/- The library's stable sort of landmarks: the rotation. -/
namespace Go.Proofs.Ytmglgjchemecjaa.CStab2
set_option maxRecDepth 200000
open Go.ChangeShapes Go.WideShapes Go.ChangeAt Go.RowKit Kit CSorted PIns PSort PLmk CLandmarks PStab CStab1
open Go.Sort Go.RowKit
theorem split_at (l : List LD) (n : Nat) (h : n ≤ l.length) : ∃ a b, l = a ++ b ∧ a.length = n ∧ b.length = l.length - n := ⟨l.take n, l.drop n, (List.take_append_drop n l).symm, by rw [List.length_take]; omega, by rw [List.length_drop]⟩
set_option maxHeartbeats 4000000 in
theorem rotate_any (w0 : World) (g : Nat) (d0 : Array LD) (R : RowM w0 g d0) (c : Nat) (F : Value) (P X Y S : List LD) (a m b : Nat) (w : World)
    (ha : a = P.length) (hm : m = a + X.length) (hb : b = m + Y.length) (hX : 0 < X.length) (hY : 0 < Y.length) (hs : (P ++ (X ++ (Y ++ S))).length = d0.size) (hsz : d0.size ≤ 1000000) (hS : SM w0 g (P ++ (X ++ (Y ++ S))) w) :
    Calls Try.prog 209 #[.slice (some ⟨g, 0, none⟩) d0.size c, .int .i64 a, .int .i64 m, .int .i64 b, F] w (Fin w0 g (P ++ (Y ++ (X ++ S)))) := by
  have HI := hide (show ∃ (P' U V S' : List LD), U.length = X.length ∧ V.length = Y.length ∧ P'.length + X.length = m ∧ P'.length + U.length + V.length + S'.length = d0.size ∧ P' ++ (V ++ (U ++ S')) = P ++ (Y ++ (X ++ S)) ∧ SM w0 g (P' ++ (U ++ (V ++ S'))) w from ⟨P, X, Y, S, rfl, rfl, by omega, by simp only [List.length_append] at hs; omega, rfl, hS⟩)
  have hbd : P.length + X.length + Y.length + S.length = d0.size := by
    simp only [List.length_append] at hs
    omega
  have hmd : m < d0.size := by omega
  have e1 : IntKind.i64.wrap ((m : Int) - (a : Int)) = (X.length : Int) := by
    rw [IntWalk.i64_in _ (by omega)]
    omega
  have e2 : IntKind.i64.wrap ((b : Int) - (m : Int)) = (Y.length : Int) := by
    rw [IntWalk.i64_in _ (by omega)]
    omega
  have e1' : (m : Int) - (a : Int) = (X.length : Int) := by omega
  have e2' : (b : Int) - (m : Int) = (Y.length : Int) := by omega
  have hm1 : 1 ≤ m := by omega
  have hxb : X.length ≤ 1000000 := by omega
  have hyb : Y.length ≤ 1000000 := by omega
  clear hS hs hm hb ha hbd
  generalize P ++ (Y ++ (X ++ S)) = T at *
  generalize X.length = x at *
  generalize Y.length = y at *
  go_enter Try.func209, Try.ntmps209
  go_wp2_with fail
  go_loopw [10, 11] (fun si sj wi => ∃ (i j : Nat), 0 < i ∧ 0 < j ∧ i ≤ m ∧ j ≤ d0.size ∧ si = .int .i64 i ∧ sj = .int .i64 j ∧ Hid (∃ (P' U V S' : List LD), U.length = i ∧ V.length = j ∧ P'.length + i = m ∧ P'.length + U.length + V.length + S'.length = d0.size ∧ P' ++ (V ++ (U ++ S')) = T ∧ SM w0 g (P' ++ (U ++ (V ++ S'))) wi)) (fun i j _ => (intOf i).toNat + (intOf j).toNat)
  case atStart =>
    refine ⟨x, y, hX, hY, ?_, ?_, rfl, rfl, HI⟩
    · obtain ⟨P', U, V, S', h1, h2, h3, h4, _⟩ := HI.out
      omega
    · obtain ⟨P', U, V, S', h1, h2, h3, h4, _⟩ := HI.out
      omega
  case round =>
    clear HI e1 e2 e1' e2'
    obtain ⟨i, j, hi, hj, him, hjd, rfl, rfl, HI⟩ := hrel
    by_cases hne : i = j
    · subst hne
      have HC := hide (show Calls Try.prog 222 #[.slice (some ⟨g, 0, none⟩) d0.size c, .int .i64 ((m : Int) - (i : Int)), .int .i64 m, .int .i64 i, F] wr (Fin w0 g T) from by
        obtain ⟨P', U, V, S', h1, h2, h3, h4, h5, h6⟩ := HI.out
        rw [show (m : Int) - (i : Int) = ((m - i : Nat) : Int) from by omega, ← h5]
        exact swapRange_any w0 g d0 R c F P' U [] V S' (m - i) m i wr (by omega) (by simp only [List.length_nil]; omega) h1 h2 (by simp only [List.length_append, List.length_nil]; omega) hsz h6)
      clear HI
      go_wp2_with fail
      refine HC.out.mono ?_
      rintro e w2 ⟨rfl, hS2⟩
      have HS2 := hide hS2
      clear hS2 HC
      go_wp2_with fail
      exact bodyPost_ret (v := .tuple #[]) (by simp [results, Try.results209, go_sem]) rfl ⟨rfl, HS2.out⟩
    · have hne2 : ((i : Int) != (j : Int)) = true := by
        simp
        omega
      by_cases hgt : j < i
      · have HC := hide (show Calls Try.prog 222 #[.slice (some ⟨g, 0, none⟩) d0.size c, .int .i64 ((m : Int) - (i : Int)), .int .i64 m, .int .i64 j, F] wr (fun e w' => e = .returned (.tuple #[]) ∧ ∃ (P' U V S' : List LD), U.length = i - j ∧ V.length = j ∧ P'.length + (i - j) = m ∧ P'.length + U.length + V.length + S'.length = d0.size ∧ P' ++ (V ++ (U ++ S')) = T ∧ SM w0 g (P' ++ (U ++ (V ++ S'))) w') from by
          obtain ⟨P', U, V, S', h1, h2, h3, h4, h5, h6⟩ := HI.out
          obtain ⟨U1, U2, rfl, hu1, hu2⟩ := split_at U j (by omega)
          simp only [List.length_append] at h1 h4 hu2
          rw [show (m : Int) - (i : Int) = ((m - i : Nat) : Int) from by omega]
          have h := swapRange_any w0 g d0 R c F P' U1 U2 V S' (m - i) m j wr (by omega) (by omega) hu1 h2 (by simp only [List.length_append]; omega) hsz (by simpa using h6)
          refine h.mono ?_
          rintro e w2 ⟨rfl, hS2⟩
          refine ⟨rfl, P' ++ V, U2, U1, S', by omega, hu1, by rw [List.length_append]; omega, by rw [List.length_append]; omega, by rw [← h5]; simp, by simpa using hS2⟩)
        clear HI
        go_wp2_with fail
        refine HC.out.mono ?_
        rintro e w2 ⟨rfl, hS2⟩
        have HS2 := hide hS2
        clear hS2 HC
        go_wp2_with fail
        refine ⟨⟨i - j, j, by omega, hj, by omega, hjd, by go_num, rfl, HS2⟩, by simp [intOf]; omega⟩
      · have HC := hide (show Calls Try.prog 222 #[.slice (some ⟨g, 0, none⟩) d0.size c, .int .i64 ((m : Int) - (i : Int)), .int .i64 ((m : Int) + (j : Int) - (i : Int)), .int .i64 i, F] wr (fun e w' => e = .returned (.tuple #[]) ∧ ∃ (P' U V S' : List LD), U.length = i ∧ V.length = j - i ∧ P'.length + i = m ∧ P'.length + U.length + V.length + S'.length = d0.size ∧ P' ++ (V ++ (U ++ S')) = T ∧ SM w0 g (P' ++ (U ++ (V ++ S'))) w') from by
          obtain ⟨P', U, V, S', h1, h2, h3, h4, h5, h6⟩ := HI.out
          obtain ⟨V1, V2, rfl, hv1, hv2⟩ := split_at V (j - i) (by omega)
          simp only [List.length_append] at h2 h4 hv2
          rw [show (m : Int) - (i : Int) = ((m - i : Nat) : Int) from by omega, show (m : Int) + (j : Int) - (i : Int) = ((m + j - i : Nat) : Int) from by omega]
          have h := swapRange_any w0 g d0 R c F P' U V1 V2 S' (m - i) (m + j - i) i wr (by omega) (by omega) h1 (by omega) (by simp only [List.length_append]; omega) hsz (by simpa using h6)
          refine h.mono ?_
          rintro e w2 ⟨rfl, hS2⟩
          refine ⟨rfl, P', V2, V1, U ++ S', by omega, hv1, h3, by rw [List.length_append]; omega, by rw [← h5]; simp, by simpa using hS2⟩)
        clear HI
        go_wp2_with fail
        refine HC.out.mono ?_
        rintro e w2 ⟨rfl, hS2⟩
        have HS2 := hide hS2
        clear hS2 HC
        go_wp2_with fail
        refine ⟨⟨i, j - i, hi, by omega, him, by omega, rfl, by go_num, HS2⟩, by simp [intOf]; omega⟩
end Go.Proofs.Ytmglgjchemecjaa.CStab2
/- cmp.Compare of ints and strings, cmp.Or of two ints, slices.Index of ints, l22Before. -/
namespace Go.Proofs.Ytmglgjchemecjaa.CCmp
set_option maxRecDepth 200000
open Go.ChangeShapes Go.WideShapes Go.ChangeAt Go.RowKit Kit CFixups CSymbols PObj BObj PSort
theorem nanS_any (a : ByteArray) (w : World) : Calls Try.prog 130 #[.string a] w (Pure (.bool false) w) := by
  go_enter Try.func130, Try.ntmps130
  go_wp2
  go_ret
  exact ⟨by simp, rfl⟩
theorem nanI_any (a : Int) (w : World) : Calls Try.prog 129 #[.int .i64 a] w (Pure (.bool false) w) := by
  go_enter Try.func129, Try.ntmps129
  go_wp2
  go_ret
  exact ⟨by simp, rfl⟩
theorem compareI_any (a b : Int) (w : World) : Calls Try.prog 70 #[.int .i64 a, .int .i64 b] w (Pure (.int .i64 (cmpN a b)) w) := by
  go_enter Try.func70, Try.ntmps70
  go_wp2_with fail
  refine (nanI_any a w).mono ?_
  rintro e w1 ⟨rfl, rfl⟩
  go_wp2_with fail
  refine (nanI_any b w).mono ?_
  rintro e w1 ⟨rfl, rfl⟩
  by_cases h1 : a < b
  · have HV := hide (show cmpN a b = -1 by rw [cmpN, if_pos h1])
    go_wp2_with fail
    go_ret
    exact ⟨by rw [HV.out]; rfl, rfl⟩
  · by_cases h2 : b < a
    · have HV := hide (show cmpN a b = 1 by rw [cmpN, if_neg h1, if_pos h2])
      go_wp2_with fail
      go_ret
      exact ⟨by rw [HV.out]; rfl, rfl⟩
    · have HV := hide (show cmpN a b = 0 by rw [cmpN, if_neg h1, if_neg h2])
      go_wp2_with fail
      go_ret
      exact ⟨by rw [HV.out]; rfl, rfl⟩
theorem compareS_any (a b : ByteArray) (w : World) : Calls Try.prog 71 #[.string a, .string b] w (Pure (.int .i64 (cmpS a b)) w) := by
  go_enter Try.func71, Try.ntmps71
  go_wp2_with fail
  refine (nanS_any a w).mono ?_
  rintro e w1 ⟨rfl, rfl⟩
  go_wp2_with fail
  refine (nanS_any b w).mono ?_
  rintro e w1 ⟨rfl, rfl⟩
  cases h1 : Op.bytesLess a.toList b.toList
  · cases h2 : (a.toList == b.toList)
    · have HV := hide (show cmpS a b = 1 by simp only [cmpS, sl, h1, h2]; rfl)
      go_wp2_with fail
      go_ret
      exact ⟨by rw [HV.out]; rfl, rfl⟩
    · have HV := hide (show cmpS a b = 0 by simp only [cmpS, sl, h1, h2]; rfl)
      go_wp2_with fail
      go_ret
      exact ⟨by rw [HV.out]; rfl, rfl⟩
  · have HV := hide (show cmpS a b = -1 by simp only [cmpS, sl, h1]; rfl)
    go_wp2_with fail
    go_ret
    exact ⟨by rw [HV.out]; rfl, rfl⟩
def or2 (a b : Int) : Int := if a ≠ 0 then a else b
theorem or_any (b off c : Nat) (x y : Int) (w : World) (h0 : w.cell? ⟨b, off, none⟩ = some (.int .i64 x)) (h1 : w.cell? ⟨b, off + 1, none⟩ = some (.int .i64 y)) :
    Calls Try.prog 69 #[.slice (some ⟨b, off, none⟩) 2 c] w (Pure (.int .i64 (or2 x y)) w) := by
  have HH := hide (And.intro h0 h1)
  clear h0 h1
  go_enter Try.func69, Try.ntmps69
  go_wp2
  go_loop [8] (fun i => ∃ k : Nat, k ≤ 2 ∧ i = .int .i64 k ∧ (0 < k → x = 0) ∧ (1 < k → y = 0)) (fun i => 2 - (intOf i).toNat)
  case atStart => exact ⟨0, Nat.zero_le _, rfl, fun h => by omega, fun h => by omega⟩
  case round =>
    obtain ⟨k, hk, rfl, hx, hy⟩ := hrel
    have hk : k = 0 ∨ k = 1 ∨ k = 2 := by omega
    have hh0 := HH.out.1
    have hh1 := HH.out.2
    rcases hk with rfl | rfl | rfl
    · by_cases hz : x = 0
      · subst hz
        go_wp2_with fail
        go_round
        case rel => exact ⟨1, by omega, by go_num, fun _ => by trivial, fun h => by omega⟩
        case measure => simp [intOf]
      · have e1 : (x != 0) = true := bne_iff_ne.2 hz
        have HV := hide (show or2 x y = x by rw [or2, if_pos hz])
        clear hx hy hz
        go_wp2_with fail
        go_ret
        exact ⟨by rw [HV.out]; rfl, rfl⟩
    · have hx0 := hx (by omega)
      subst hx0
      have HV := hide (show or2 0 y = y by rw [or2, if_neg (by simp)])
      by_cases hz : y = 0
      · subst hz
        clear hx hy
        go_wp2_with fail
        go_round
        case rel => exact ⟨2, by omega, by go_num, fun _ => by trivial, fun _ => by trivial⟩
        case measure => simp [intOf]
      · have e1 : (y != 0) = true := bne_iff_ne.2 hz
        clear hx hy hz
        go_wp2_with fail
        go_ret
        exact ⟨by rw [HV.out]; rfl, rfl⟩
    · have hx0 := hx (by omega)
      have hy0 := hy (by omega)
      subst hx0 hy0
      clear hx hy
      go_wp2_with fail
      go_ret
      exact ⟨rfl, rfl⟩
def toI (L : List Nat) : List Int := L.map fun (n : Nat) => (n : Int)
@[simp] theorem toI_len (L : List Nat) : (toI L).length = L.length := by simp [toI]
/-- slices.Index of ints. -/
theorem index_any (A : Option Addr) (L : List Nat) (c : Nat) (x : Nat) (w : World) (hr : Rd w w.heap.size A (ints .i64 (toI L))) (hm : L.length ≤ 1000000) (hx : x ∈ L) :
    Calls Try.prog 72 #[.slice A L.length c, .int .i64 x] w (Pure (.int .i64 (L.idxOf x : Nat)) w) := by
  have HR := hide hr
  have HX := hide hx
  clear hr hx
  go_enter Try.func72, Try.ntmps72
  go_wp2
  go_loop [8] (fun i => ∃ k : Nat, k ≤ L.length ∧ i = .int .i64 k ∧ x ∉ L.take k) (fun i => L.length - (intOf i).toNat)
  case atStart => exact ⟨0, Nat.zero_le _, rfl, by simp⟩
  case round =>
    obtain ⟨k, hk, rfl, hno⟩ := hrel
    by_cases hlt : k < L.length
    · obtain ⟨b, off, hA, hb, hc0⟩ := HR.out.int (show k < (toI L).length by simpa using hlt)
      have hc : w.cell? ⟨b, off + k, none⟩ = some (.int .i64 (L[k] : Nat)) := by simpa [toI] using hc0
      clear hc0
      subst hA
      have HS := hide (show L[k] ≠ x → x ∉ L.take (k + 1) from fun h => by
        rw [take_succ hlt, List.mem_append, List.mem_singleton]
        rintro (h' | h')
        · exact hno h'
        · exact h h'.symm)
      have HT := hide (show L[k] = x → L.idxOf x = k from fun h => by
        have e : L = L.take k ++ L[k] :: L.drop (k + 1) := by rw [← List.drop_eq_getElem_cons hlt, List.take_append_drop]
        rw [e, List.idxOf_append, if_neg hno, List.length_take, h]
        simp
        omega)
      clear hno
      generalize L[k] = y at *
      by_cases hy : y = x
      · have HV := hide (HT.out hy)
        clear HS HT
        subst hy
        go_wp2_with fail
        go_ret
        exact ⟨by rw [HV.out]; rfl, rfl⟩
      · have HV := hide (HS.out hy)
        have e1 : ((x : Int) == (y : Int)) = false := by
          rw [beq_eq_false_iff_ne]
          omega
        clear HS HT hy
        go_wp2_with fail
        go_round
        case rel => exact ⟨k + 1, by omega, by go_num, HV.out⟩
        case measure => simp [intOf]; omega
    · exact absurd HX.out (by rwa [List.take_of_length_le (by omega)] at hno)
end Go.Proofs.Ytmglgjchemecjaa.CCmp
/- The library's stable sort of landmarks: the comparer, the insertion sort. -/
namespace Go.Proofs.Ytmglgjchemecjaa.CStab3
set_option maxRecDepth 200000
open Go.ChangeShapes Go.WideShapes Go.ChangeAt Go.RowKit Kit CSorted PIns PSort PLmk CLandmarks PStab CStab1 CStab2 CCmp
open Go.Sort Go.RowKit
def cfM (x y : LD) : Int := cmpN x.2 y.2
theorem cfM_lt {x y : LD} : cfM x y < 0 ↔ x.2 < y.2 := by
  unfold cfM cmpN
  split
  · simp [*]
  · split
    · simp; omega
    · simp; omega
def GrR (v : Value) (w : World) (e : Ending) (w' : World) : Prop := e = .returned v ∧ ∃ q os', w' = grow (w.drewN q) os'
set_option maxHeartbeats 1000000 in
theorem cmp_any (x y : LD) (w : World) :
    Calls Try.prog 98 #[.agg #[.string x.1, .int .i64 x.2], .agg #[.string y.1, .int .i64 y.2]] w (GrR (.int .i64 (cfM x y)) w) := by
  have hq : grow (w.drewN 0) #[.cells #[.string x.1, .int .i64 x.2] 63, .cells #[.string y.1, .int .i64 y.2] 63] = (w.alloc (.cells #[.string x.1, .int .i64 x.2] 63)).alloc (.cells #[.string y.1, .int .i64 y.2] 63) := by
    rw [alloc_eq_grow, alloc_eq_grow, grow_grow]
    rfl
  have HQ := hide hq
  clear hq
  go_enter Try.func98, Try.ntmps98
  go_wp2_with fail
  refine (compareI_any _ _ _).mono ?_
  rintro e w1 ⟨rfl, rfl⟩
  go_wp2_with fail
  go_ret
  exact ⟨rfl, 0, _, HQ.out.symm⟩
def InsR (w0 : World) (g : Nat) (P L S : List LD) (e : Ending) (w' : World) : Prop := ∃ M : List LD, M.Perm L ∧ Srt M ∧ Fin w0 g (P ++ (M ++ S)) e w'
set_option maxHeartbeats 4000000 in
theorem insertion_any (w0 : World) (g : Nat) (d0 : Array LD) (R : RowM w0 g d0) (c : Nat) (P L S : List LD) (a b : Nat) (w : World)
    (ha : a = P.length) (hb : b = a + L.length) (hL : Crs L) (hs : (P ++ (L ++ S)).length = d0.size) (hsz : d0.size ≤ 1000000) (hS : SM w0 g (P ++ (L ++ S)) w) :
    Calls Try.prog 185 #[.slice (some ⟨g, 0, none⟩) d0.size c, .int .i64 a, .int .i64 b, .func (.func 98) #[] #[]] w (InsR w0 g P L S) := by
  have mixed : Try.prog.follows .mixedOrders = true := by kernel_rfl
  have HI := hide (show ∃ M : List LD, M.Perm (L.take 1) ∧ Srt M ∧ SM w0 g (P ++ (M ++ (L.drop 1 ++ S))) w from ⟨L.take 1, List.Perm.refl _, by cases L <;> simp, by rw [← List.append_assoc (L.take 1), List.take_append_drop]; exact hS⟩)
  have HCR := hide hL
  have hbd : P.length + L.length + S.length = d0.size := by
    simp only [List.length_append] at hs
    omega
  have hbz : b ≤ d0.size := by omega
  have HAB := hide (And.intro ha hb)
  have hab : a ≤ b := by omega
  have HBD := hide hbd
  clear hS hs hb ha hL hbd
  go_enter Try.func185, Try.ntmps185
  go_wp2_with fail
  go_loopw [8] (fun si wi => ∃ (k q : Nat), 1 ≤ k ∧ q ≤ b + 1 ∧ Hid (q = a + k) ∧ si = .int .i64 q ∧ Hid (∃ M : List LD, M.Perm (L.take k) ∧ Srt M ∧ SM w0 g (P ++ (M ++ (L.drop k ++ S))) wi)) (fun i _ => b + 1 - (intOf i).toNat)
  case atStart => exact ⟨1, a + 1, Nat.le_refl _, by omega, hide rfl, by go_num, HI⟩
  case round =>
    clear HI
    obtain ⟨k, q, hk1, hkb, HQ, rfl, HI⟩ := hrel
    by_cases hlt : q < b
    · obtain ⟨M, hM, hsM, hS⟩ := HI.out
      obtain ⟨x, L', hd1, hd2, hd3, hd4⟩ := take_drop_at L k (by have := HAB.out; have := HQ.out; omega)
      have HM := hide (And.intro hM hsM)
      have HD := hide (show L.take (k + 1) = L.take k ++ [x] ∧ L' = L.drop (k + 1) ∧ ∀ y ∈ L.take k, cr y x from ⟨hd2, hd3, hd4 HCR.out⟩)
      rw [hd1] at hS
      have HS := hide (show ∃ A B : List LD, A ++ B = M ∧ a + A.length = q ∧ (∀ y ∈ B, ltM x y) ∧ SM w0 g (P ++ (A ++ (x :: (B ++ (L' ++ S))))) wr from ⟨M, [], List.append_nil _, by
        have h1 := hM.length_eq
        rw [List.length_take] at h1
        have := HAB.out
        have := HQ.out
        omega, (fun y hy => by cases hy), hS⟩)
      clear hS hd1 hd2 hd3 hd4 hM hsM HI
      go_wp2_with fail
      go_loopw [9] (fun sj wi => ∃ (j : Nat), a ≤ j ∧ j ≤ q ∧ sj = .int .i64 j ∧ Hid (∃ A B : List LD, A ++ B = M ∧ a + A.length = j ∧ (∀ y ∈ B, ltM x y) ∧ SM w0 g (P ++ (A ++ (x :: (B ++ (L' ++ S))))) wi)) (fun i _ => (intOf i).toNat)
      case atStart => exact ⟨q, by have := HQ.out; omega, Nat.le_refl _, rfl, HS⟩
      case round =>
        clear HS
        obtain ⟨j, haj, hjk, rfl, HS⟩ := hrel
        obtain ⟨A, B, hAB, hAl, hBx, hS⟩ := HS.out
        have HX := hide (And.intro hAB (And.intro hAl hBx))
        have hLL := HM.out.1.length_eq
        have hlM : A.length + B.length = M.length := by rw [← hAB, List.length_append]
        have hlD : L'.length = L.length - (k + 1) := by rw [HD.out.2.1, List.length_drop]
        rw [List.length_take] at hLL
        have hz0 := HBD.out
        have hPa := HAB.out
        have hq0 := HQ.out
        have HOUT := hide (fun (W : World) (hA : ∀ y ∈ A, ltM y x) (hW : SM w0 g (P ++ (A ++ (x :: (B ++ (L' ++ S))))) W) => (show Hid (∃ M : List LD, M.Perm (L.take (k + 1)) ∧ Srt M ∧ SM w0 g (P ++ (M ++ (L.drop (k + 1) ++ S))) W) from hide ⟨A ++ x :: B, by
          rw [HD.out.1]
          refine List.Perm.trans List.perm_middle ?_
          rw [hAB]
          exact List.Perm.trans (List.Perm.cons _ HM.out.1) (List.perm_append_singleton _ _).symm, ins_done HM.out.2 hAB hBx hA, by
          rw [← HD.out.2.1]
          simpa using hW⟩))
        by_cases hja : a < j
        · obtain ⟨A', y, rfl⟩ := last_of (A := A) (by omega)
          simp only [List.length_append, List.length_singleton] at hAl hlM
          have e1 : P ++ (A' ++ [y] ++ (x :: (B ++ (L' ++ S)))) = (P ++ A') ++ y :: ([] ++ x :: (B ++ (L' ++ S))) := by simp
          have e2 : P ++ (A' ++ [y] ++ (x :: (B ++ (L' ++ S)))) = (P ++ (A' ++ [y])) ++ x :: (B ++ (L' ++ S)) := by simp
          have hzz : (P ++ (A' ++ [y] ++ (x :: (B ++ (L' ++ S))))).length = d0.size := by
            simp only [List.length_append, List.length_cons, List.length_nil]
            omega
          have hgl := SM.size R hS
          have hSy := hS
          rw [e1] at hSy
          have hSx := hS
          rw [e2] at hSx
          obtain ⟨y1, y2, y3, y4⟩ := SM.mid R hSy (by rw [← e1]; exact hzz) (i := j - 1) (by rw [List.length_append]; omega)
          obtain ⟨x1, x2, x3, x4⟩ := SM.mid R hSx (by rw [← e2]; exact hzz) (i := j) (by simp only [List.length_append, List.length_singleton]; omega)
          have hjl : j < d0.size := by
            rw [← hzz]
            simp only [List.length_append, List.length_cons, List.length_nil]
            omega
          have HSW := hide (fun (W : World) (hW : SM w0 g (P ++ (A' ++ [y] ++ (x :: (B ++ (L' ++ S))))) W) => SM.swap' R (i := j - 1) (j := j) (show SM w0 g ((P ++ A') ++ y :: ([] ++ x :: (B ++ (L' ++ S)))) W from by rw [← e1]; exact hW) (by rw [List.length_append]; omega) (by simp only [List.length_append, List.length_nil]; omega))
          have HSY := hide hS
          have H8 := hide (fun (W : World) (hW : SM w0 g (P ++ (A' ++ [y] ++ (x :: (B ++ (L' ++ S))))) W) => And.intro (SM.mid R (i := j - 1) (show SM w0 g ((P ++ A') ++ y :: ([] ++ x :: (B ++ (L' ++ S)))) W from by rw [← e1]; exact hW) (by rw [← e1]; exact hzz) (by rw [List.length_append]; omega)) (SM.mid R (i := j) (show SM w0 g ((P ++ (A' ++ [y])) ++ x :: (B ++ (L' ++ S))) W from by rw [← e2]; exact hW) (by rw [← e2]; exact hzz) (by simp only [List.length_append, List.length_singleton]; omega)))
          have HCY := hide (show cr y x from HD.out.2.2 y (HM.out.1.subset (by rw [← hAB]; simp)))
          have HLAST := hide (fun h => last_lt (x := x) HM.out.2 hAB h)
          have HBX := hide hBx
          have HAE := hide hAB
          have HAL := hide hAl
          clear hS hSy hSx e1 e2 hAB hAl hBx hlM hlD hLL hz0 hPa hzz hq0 HX HS
          have xa := fun n os => cell_grown (a := ⟨g, j * 2, none⟩) hgl x1 n os
          have xb := fun n os => cell_grown (a := ⟨g, j * 2 + 1, none⟩) hgl x2 n os
          have ya := fun n os => cell_grown (a := ⟨g, (j - 1) * 2, none⟩) hgl y1 n os
          have yb := fun n os => cell_grown (a := ⟨g, (j - 1) * 2 + 1, none⟩) hgl y2 n os
          have hc := fun n os => cmp_any x y (grow (wr.drewN n) os)
          have ej : ((j : Int) - 1).toNat = j - 1 := by omega
          have pj : (0 : Int) ≤ (j : Int) - 1 := by omega
          have bj : (j : Int) - 1 < (d0.size : Int) := by omega
          have rj : IntKind.i64.wrap ((j : Int) - 1) = (j : Int) - 1 := IntWalk.i64_in _ (by omega)
          have hgt : (a : Int) < (j : Int) := by omega
          have hq2 : (1 : Int) ≤ (j : Int) := by omega
          have hq3 : 1 ≤ j := by omega
          have hq4 : 0 < j := by omega
          by_cases hv : x.2 < y.2
          · have hd : decide (cfM x y < 0) = true := decide_eq_true (cfM_lt.2 hv)
            go_wp2_with fail
            go_quiet_grown (first | (go_at_call 98; refine Calls.grown_of (hc _ _)))
            dsimp only
            clear hc x1 x2 x3 x4 y1 y2 y3 y4 xa xb ya yb hd
            have HS2 := hide (SWK.grown HSY.out nq osq)
            generalize grow (wr.drewN nq) osq = w2 at *
            have HS3 := hide (SWK.drew (HSW.out w2 HS2.out))
            obtain ⟨⟨y1, y2, y3, y4⟩, ⟨x1, x2, x3, x4⟩⟩ := H8.out w2 HS2.out
            have hne : j ≠ j - 1 := by omega
            have hne2 : j - 1 ≠ j := by omega
            clear HSW H8 HSY HS2
            go_wp2_with fail
            go_big_region_o
            clear x1 x2 x3 x4 y1 y2 y3 y4
            go_wp2_with fail
            refine ⟨⟨j - 1, by omega, by omega, by go_num, hide ⟨A', y :: B, by rw [← HAE.out]; simp, by have := HAL.out; omega, fun z hz => by
              rcases List.mem_cons.1 hz with rfl | hz
              · exact .inl hv
              · exact HBX.out z hz, by simpa using HS3.out⟩⟩, by simp [intOf]; omega⟩
          · have hd : decide (cfM x y < 0) = false := decide_eq_false (fun h => hv (cfM_lt.1 h))
            go_wp2_with fail
            go_quiet_grown (first | (go_at_call 98; refine Calls.grown_of (hc _ _)))
            dsimp only
            clear hc x1 x2 x3 x4 y1 y2 y3 y4 xa xb ya yb hd
            have HS2 := hide (SWK.grown HSY.out nq osq)
            generalize grow (wr.drewN nq) osq = w2 at *
            have HN := hide ((HOUT.out w2 (HLAST.out (lt_cr HCY.out (by omega))) HS2.out).out)
            clear HSW H8 HSY HS2 HOUT
            go_wp2_with fail
            refine ⟨⟨k + 1, q + 1, by omega, by omega, hide (by have := HQ.out; omega), by go_num, HN⟩, by simp [intOf]; omega⟩
        · have hA0 : A = [] := List.eq_nil_of_length_eq_zero (by omega)
          have HS0 := hide hS
          have HN := hide (fun W hW => (HOUT.out W (by rw [hA0]; intro z hz; cases hz) hW).out)
          have hgt : decide ((j : Int) > (a : Int)) = false := decide_eq_false (by omega)
          have hgt2 : ¬ (a : Int) < (j : Int) := by omega
          clear hS HOUT hA0 hAB hAl hBx hlM hlD hLL hz0 hPa hq0 HX HS
          go_wp2_with fail
          have HS3 := hide (HN.out _ (SWK.drew HS0.out))
          clear HN HS0
          go_big_region_o
          go_wp2_with fail
          refine ⟨⟨k + 1, q + 1, by omega, by omega, hide (by have := HQ.out; omega), by go_num, HS3⟩, by simp [intOf]; omega⟩
    · have HN := hide (show ∃ M, M.Perm L ∧ Srt M ∧ Fin w0 g (P ++ (M ++ S)) (.returned (.tuple #[])) wr from by
        obtain ⟨M, h1, h2, h3⟩ := HI.out
        have := HAB.out
        have := HQ.out
        rw [List.take_of_length_le (by omega)] at h1
        rw [List.drop_of_length_le (by omega), List.nil_append] at h3
        exact ⟨M, h1, h2, rfl, h3⟩)
      clear HI
      go_wp2_with fail
      exact bodyPost_ret (v := .tuple #[]) (by simp [results, Try.results185, go_sem]) rfl HN.out
end Go.Proofs.Ytmglgjchemecjaa.CStab3
/- The library's stable sort of landmarks: the merge. -/
namespace Go.Proofs.Ytmglgjchemecjaa.CStab4
set_option maxRecDepth 200000
open Go.ChangeShapes Go.WideShapes Go.ChangeAt Go.RowKit Kit CSorted PIns PSort PLmk CLandmarks PStab CStab1 CStab2 CCmp CStab3
open Go.Sort Go.RowKit
section
variable {w0 W : World} {g : Nat} {d0 : Array LD} {l l' PL Q SR : List LD} {x y : LD} {i j : Nat}
theorem SM.cells_of (R : RowM w0 g d0) (h : SM w0 g l W) (hz : l.length = d0.size) (e : l = PL ++ x :: SR) (hi : i = PL.length) :
    W.cell? ⟨g, i * 2, none⟩ = some (.string x.1) ∧ W.cell? ⟨g, i * 2 + 1, none⟩ = some (.int .i64 x.2) ∧ W.frozen? ⟨g, i * 2, none⟩ = false ∧ W.frozen? ⟨g, i * 2 + 1, none⟩ = false ∧ i < d0.size := by
  subst e
  obtain ⟨h1, h2, h3, h4⟩ := SM.mid R h hz hi
  refine ⟨h1, h2, h3, h4, ?_⟩
  rw [← hz, List.length_append, List.length_cons]
  omega
theorem SM.swap_of (R : RowM w0 g d0) (h : SM w0 g l W) (e : l = PL ++ x :: (Q ++ y :: SR)) (hi : i = PL.length) (hj : j = PL.length + 1 + Q.length) (e2 : l' = PL ++ y :: (Q ++ x :: SR)) :
    SM w0 g l' ((((W.setCell ⟨g, i * 2, none⟩ (.string y.1)).setCell ⟨g, i * 2 + 1, none⟩ (.int .i64 y.2)).setCell ⟨g, j * 2, none⟩ (.string x.1)).setCell ⟨g, j * 2 + 1, none⟩ (.int .i64 x.2)) := by
  subst e e2
  exact SM.swap R h hi hj
theorem SM.swap_of' (R : RowM w0 g d0) (h : SM w0 g l W) (e : l = PL ++ x :: (Q ++ y :: SR)) (hi : i = PL.length) (hj : j = PL.length + 1 + Q.length) (e2 : l' = PL ++ y :: (Q ++ x :: SR)) :
    SM w0 g l' ((((W.setCell ⟨g, j * 2, none⟩ (.string x.1)).setCell ⟨g, j * 2 + 1, none⟩ (.int .i64 x.2)).setCell ⟨g, i * 2, none⟩ (.string y.1)).setCell ⟨g, i * 2 + 1, none⟩ (.int .i64 y.2)) := by
  subst e e2
  exact SM.swap' R h hi hj
end
def MerR (w0 : World) (g : Nat) (P L Rr S : List LD) (e : Ending) (w' : World) : Prop := ∃ M : List LD, M.Perm (L ++ Rr) ∧ Srt M ∧ Fin w0 g (P ++ (M ++ S)) e w'
set_option maxHeartbeats 8000000 in
theorem left_any (w0 : World) (g : Nat) (d0 : Array LD) (R : RowM w0 g d0) (c : Nat) (P Rr S : List LD) (x : LD) (a m b : Nat) (w : World)
    (ha : a = P.length) (hm : m = a + 1) (hb : b = m + Rr.length) (hR : Srt Rr) (hC : CC [x] Rr) (hs : (P ++ ([x] ++ (Rr ++ S))).length = d0.size) (hsz : d0.size ≤ 1000000) (hS : SM w0 g (P ++ ([x] ++ (Rr ++ S))) w) :
    Calls Try.prog 186 #[.slice (some ⟨g, 0, none⟩) d0.size c, .int .i64 a, .int .i64 m, .int .i64 b, .func (.func 98) #[] #[]] w (MerR w0 g P [x] Rr S) := by
  have mixed : Try.prog.follows .mixedOrders = true := by kernel_rfl
  have HLE := hide (show P.length + 1 + Rr.length + S.length = d0.size from by
    simp only [List.length_append, List.length_cons, List.length_nil] at hs
    omega)
  have HAB := hide (And.intro ha (And.intro hm hb))
  have HZ := hide hs
  have HS := hide hS
  have HRC := hide (And.intro hR hC)
  have hbd : b ≤ d0.size := by
    have := HLE.out
    omega
  have hmb : m ≤ b := by omega
  have ham : a < m := by omega
  have hone : IntKind.i64.wrap ((m : Int) - (a : Int)) = 1 := by
    rw [IntWalk.i64_in _ (by omega)]
    omega
  have hone2 : (m : Int) - (a : Int) = 1 := by omega
  clear hS hs ha hm hb hR hC
  go_enter Try.func186, Try.ntmps186
  go_wp2_with fail
  clear hone hone2
  go_loopw [10, 11] (fun si sj wi => ∃ (i j : Nat), i ≤ j ∧ m ≤ i ∧ j ≤ b ∧ si = .int .i64 i ∧ sj = .int .i64 j ∧ Hid (∃ R1 R2 R3 : List LD, Rr = R1 ++ R2 ++ R3 ∧ m + R1.length = i ∧ i + R2.length = j ∧ (∀ y ∈ R1, ltM y x) ∧ (∀ y ∈ R3, ltM x y)) ∧ Hid (SM w0 g (P ++ ([x] ++ (Rr ++ S))) wi)) (fun i j _ => (intOf j).toNat - (intOf i).toNat)
  case atStart => exact ⟨m, b, hmb, Nat.le_refl _, Nat.le_refl _, rfl, rfl, hide ⟨[], Rr, [], by simp, rfl, by have := HAB.out; omega, (fun y hy => by cases hy), (fun y hy => by cases hy)⟩, HS⟩
  case round =>
    clear HS
    obtain ⟨i, j, hij, hmi, hjb, rfl, rfl, HX, HS⟩ := hrel
    by_cases hlt : i < j
    · obtain ⟨R1, R2, R3, eR, l1, l2, h1, h3⟩ := HX.out
      go_wp2_with fail
      obtain ⟨h, hh, hih, hhj⟩ : ∃ h : Nat, ((i : Int) + (j : Int)) / 2 = (h : Int) ∧ i ≤ h ∧ h < j := ⟨(i + j) / 2, by omega, by omega, by omega⟩
      rw [hh]
      clear hh
      obtain ⟨U, y, V, e2, lu, lv⟩ := split_mid R2 (h - i) (by omega)
      subst e2
      have HY := hide (And.intro eR (And.intro l1 (And.intro lu (And.intro l2 (And.intro h1 h3)))))
      clear eR l1 l2 h1 h3 lu lv HX
      obtain ⟨x1, x2, x3, x4, x5⟩ := SM.cells_of R HS.out HZ.out (PL := P ++ [x] ++ R1 ++ U) (x := y) (SR := V ++ R3 ++ S) (by rw [HY.out.1]; simp) (i := h) (by have := HAB.out; have := HY.out.2.1; have := HY.out.2.2.1; have := HRC.out.1; simp only [List.length_append, List.length_cons, List.length_nil, List.length_singleton] at *; omega)
      obtain ⟨y1, y2, y3, y4, y5⟩ := SM.cells_of R HS.out HZ.out (PL := P) (x := x) (SR := Rr ++ S) (by simp) (i := a) (by have := HAB.out; have := HY.out.2.1; have := HY.out.2.2.1; have := HRC.out.1; simp only [List.length_append, List.length_cons, List.length_nil, List.length_singleton] at *; omega)
      have hgl := SM.size R HS.out
      have xa := fun n os => cell_grown (a := ⟨g, h * 2, none⟩) hgl x1 n os
      have xb := fun n os => cell_grown (a := ⟨g, h * 2 + 1, none⟩) hgl x2 n os
      have ya := fun n os => cell_grown (a := ⟨g, a * 2, none⟩) hgl y1 n os
      have yb := fun n os => cell_grown (a := ⟨g, a * 2 + 1, none⟩) hgl y2 n os
      have hc := fun n os => cmp_any y x (grow (wr.drewN n) os)
      clear x1 x2 x3 x4 y1 y2 y3 y4
      by_cases hv : y.2 < x.2
      · have HV := hide hv
        have hd : decide (cfM y x < 0) = true := decide_eq_true (cfM_lt.2 hv)
        clear hv
        go_quiet_grown (first | (go_at_call 98; refine Calls.grown_of (hc _ _)))
        dsimp only
        clear hc xa xb ya yb hd x5 y5
        have HS2 := hide (SWK.grown HS.out nq osq)
        generalize grow (wr.drewN nq) osq = w2 at *
        clear HS hgl
        go_wp2_with fail
        refine ⟨⟨h + 1, j, by omega, by omega, hjb, by go_num, rfl, hide ⟨R1 ++ U ++ [y], V, R3, by rw [HY.out.1]; simp, by have := HY.out.2.1; have := HY.out.2.2.1; simp only [List.length_append, List.length_singleton]; omega, by have := HY.out.2.2.2.1; simp only [List.length_append, List.length_cons] at this; have := HY.out.2.2.1; omega, grow_low HY.out.1 HRC.out.1 HY.out.2.2.2.2.1 (.inl HV.out), HY.out.2.2.2.2.2⟩, HS2⟩, by simp [intOf]; omega⟩
      · have HV := hide hv
        have hd : decide (cfM y x < 0) = false := decide_eq_false (fun h => hv (cfM_lt.1 h))
        clear hv
        go_quiet_grown (first | (go_at_call 98; refine Calls.grown_of (hc _ _)))
        dsimp only
        clear hc xa xb ya yb hd x5 y5
        have HS2 := hide (SWK.grown HS.out nq osq)
        generalize grow (wr.drewN nq) osq = w2 at *
        clear HS hgl
        go_wp2_with fail
        refine ⟨⟨i, h, by omega, hmi, by omega, rfl, rfl, hide ⟨R1, U, y :: V ++ R3, by rw [HY.out.1]; simp, HY.out.2.1, by have := HY.out.2.2.1; omega, HY.out.2.2.2.2.1, grow_high HY.out.1 HRC.out.1 HY.out.2.2.2.2.2 (lt_cr (HRC.out.2 x List.mem_cons_self y (by rw [HY.out.1]; simp)) HV.out)⟩, HS2⟩, by simp [intOf]; omega⟩
    · have hie : j = i := by omega
      subst hie
      have HX2 := hide (show ∃ R1 R3 : List LD, Rr = R1 ++ R3 ∧ m + R1.length = j ∧ (∀ y ∈ R1, ltM y x) ∧ (∀ y ∈ R3, ltM x y) from by
        obtain ⟨R1, R2, R3, eR, l1, l2, h1, h3⟩ := HX.out
        have e2 : R2 = [] := List.eq_nil_of_length_eq_zero (by omega)
        subst e2
        exact ⟨R1, R3, by simpa using eR, l1, h1, h3⟩)
      clear HX
      obtain ⟨R1, R3, eR, l1, h1, h3⟩ := HX2.out
      have HY := hide (And.intro eR (And.intro l1 (And.intro h1 h3)))
      have HX := hide (show ∃ Ra Rb : List LD, R1 = Ra ++ Rb ∧ a + Ra.length = a ∧ SM w0 g (P ++ (Ra ++ (x :: (Rb ++ (R3 ++ S))))) wr from ⟨[], R1, rfl, rfl, by have h := HS.out; rw [eR] at h; simpa using h⟩)
      clear HX2 eR l1 h1 h3 HS
      have hw1 : IntKind.i64.wrap ((j : Int) - 1) = (j : Int) - 1 := IntWalk.i64_in _ (by omega)
      go_wp2_with fail
      go_loopw [13] (fun sk wi => ∃ (k : Nat), a ≤ k ∧ k + 1 ≤ j ∧ sk = .int .i64 k ∧ Hid (∃ Ra Rb : List LD, R1 = Ra ++ Rb ∧ a + Ra.length = k ∧ SM w0 g (P ++ (Ra ++ (x :: (Rb ++ (R3 ++ S))))) wi)) (fun k _ => j - (intOf k).toNat)
      case atStart => exact ⟨a, Nat.le_refl _, by omega, rfl, HX⟩
      case round =>
        clear HX
        obtain ⟨k, hak, hkj, rfl, HX⟩ := hrel
        by_cases hlt2 : k + 1 < j
        · obtain ⟨Ra, Rb, e1, l1, hS⟩ := HX.out
          cases Rb with
          | nil =>
            have h1 := HY.out.2.1
            have h2 := HAB.out.2.1
            rw [e1, List.append_nil] at h1
            omega
          | cons y Rb =>
            have HE := hide (And.intro e1 l1)
            have HS := hide hS
            have HZ2 := hide (show (P ++ (Ra ++ (x :: (y :: Rb ++ (R3 ++ S))))).length = d0.size from by
              have h2 := HY.out.1
              have h3 := HLE.out
              rw [e1] at h2
              rw [h2] at h3
              simp only [List.length_append, List.length_cons] at *
              omega)
            clear e1 l1 hS HX
            obtain ⟨x1, x2, x3, x4, x5⟩ := SM.cells_of R HS.out HZ2.out (PL := P ++ Ra) (x := x) (SR := y :: Rb ++ (R3 ++ S)) (by simp) (i := k) (by rw [List.length_append, ← HAB.out.1]; exact HE.out.2.symm)
            obtain ⟨y1, y2, y3, y4, y5⟩ := SM.cells_of R HS.out HZ2.out (PL := P ++ Ra ++ [x]) (x := y) (SR := Rb ++ (R3 ++ S)) (by simp) (i := k + 1) (by rw [List.length_append, List.length_append, ← HAB.out.1, HE.out.2]; rfl)
            have HS2 := hide (SWK.drew (SM.swap_of (l' := P ++ ((Ra ++ [y]) ++ (x :: (Rb ++ (R3 ++ S))))) R HS.out (PL := P ++ Ra) (x := x) (Q := []) (y := y) (SR := Rb ++ (R3 ++ S)) (i := k) (j := k + 1) (by simp) (by rw [List.length_append, ← HAB.out.1]; exact HE.out.2.symm) (by rw [List.length_append, ← HAB.out.1, HE.out.2]; rfl) (by simp)))
            have ej : ((k : Int) + 1).toNat = k + 1 := by omega
            have pj : (0 : Int) ≤ (k : Int) + 1 := by omega
            have bj : (k : Int) + 1 < (d0.size : Int) := by omega
            have rj : IntKind.i64.wrap ((k : Int) + 1) = (k : Int) + 1 := IntWalk.i64_in _ (by omega)
            have hne : k ≠ k + 1 := by omega
            have hne2 : k + 1 ≠ k := by omega
            have hgz : (k : Int) < (j : Int) - 1 := by omega
            clear HS HZ2
            go_wp2_with fail
            go_big_region_o
            clear x1 x2 x3 x4 y1 y2 y3 y4 x5 y5
            go_wp2_with fail
            refine ⟨⟨k + 1, by omega, by omega, by go_num, hide ⟨Ra ++ [y], Rb, by rw [HE.out.1]; simp, by rw [List.length_append, ← HE.out.2]; rfl, HS2.out⟩⟩, by simp [intOf]; omega⟩
        · have HF := hide (show MerR w0 g P [x] Rr S (.returned (.tuple #[])) wr from by
            obtain ⟨Ra, Rb, e1, l1, hS⟩ := HX.out
            have h1 := HY.out.2.1
            have h2 := HAB.out.2.1
            have e2 : Rb = [] := by
              rw [e1, List.length_append] at h1
              exact List.eq_nil_of_length_eq_zero (by omega)
            rw [e2, List.append_nil] at e1
            subst e1
            rw [e2] at hS
            obtain ⟨h4, h5⟩ := one_left HY.out.1 HRC.out.1 HY.out.2.2.1 HY.out.2.2.2
            exact ⟨R1 ++ x :: R3, h4, h5, rfl, by simpa using hS⟩)
          have hgz : ¬ (k : Int) < (j : Int) - 1 := by omega
          clear HX HY
          go_wp2_with fail
          exact bodyPost_ret (v := .tuple #[]) (by simp [results, Try.results186, go_sem]) rfl HF.out
set_option maxHeartbeats 8000000 in
theorem right_any (w0 : World) (g : Nat) (d0 : Array LD) (R : RowM w0 g d0) (c : Nat) (P L S : List LD) (x : LD) (a m b : Nat) (w : World)
    (ha : a = P.length) (hm : m = a + L.length) (hb : b = m + 1) (h1 : L.length ≠ 1) (hR : Srt L) (hC : CC L [x]) (hs : (P ++ (L ++ ([x] ++ S))).length = d0.size) (hsz : d0.size ≤ 1000000) (hS : SM w0 g (P ++ (L ++ ([x] ++ S))) w) :
    Calls Try.prog 186 #[.slice (some ⟨g, 0, none⟩) d0.size c, .int .i64 a, .int .i64 m, .int .i64 b, .func (.func 98) #[] #[]] w (MerR w0 g P L [x] S) := by
  have mixed : Try.prog.follows .mixedOrders = true := by kernel_rfl
  have HLE := hide (show P.length + 1 + L.length + S.length = d0.size from by
    simp only [List.length_append, List.length_cons, List.length_nil] at hs
    omega)
  have HAB := hide (And.intro ha (And.intro hm hb))
  have HZ := hide hs
  have HS := hide hS
  have HRC := hide (And.intro hR hC)
  have hbd : b ≤ d0.size := by
    have := HLE.out
    omega
  have hmb : m < b := by omega
  have ham : a ≤ m := by omega
  have hone : IntKind.i64.wrap ((b : Int) - (m : Int)) = 1 := by
    rw [IntWalk.i64_in _ (by omega)]
    omega
  have hone2 : (b : Int) - (m : Int) = 1 := by omega
  have hno : ((m : Int) - (a : Int) == 1) = false := by
    apply beq_eq_false_iff_ne.2
    omega
  have hno2 : ¬ ((m : Int) - (a : Int) = 1) := by omega
  have hno3 : IntKind.i64.wrap ((m : Int) - (a : Int)) = (m : Int) - (a : Int) := IntWalk.i64_in _ (by omega)
  clear hS hs ha hm hb hR hC h1
  go_enter Try.func186, Try.ntmps186
  go_wp2_with fail
  clear hone hone2 hno hno2 hno3
  go_loopw [14, 15] (fun si sj wi => ∃ (i j : Nat), i ≤ j ∧ a ≤ i ∧ j ≤ m ∧ si = .int .i64 i ∧ sj = .int .i64 j ∧ Hid (∃ R1 R2 R3 : List LD, L = R1 ++ R2 ++ R3 ∧ a + R1.length = i ∧ i + R2.length = j ∧ (∀ y ∈ R1, ltM y x) ∧ (∀ y ∈ R3, ltM x y)) ∧ Hid (SM w0 g (P ++ (L ++ ([x] ++ S))) wi)) (fun i j _ => (intOf j).toNat - (intOf i).toNat)
  case atStart => exact ⟨a, m, ham, Nat.le_refl _, Nat.le_refl _, rfl, rfl, hide ⟨[], L, [], by simp, rfl, by have := HAB.out; omega, (fun y hy => by cases hy), (fun y hy => by cases hy)⟩, HS⟩
  case round =>
    clear HS
    obtain ⟨i, j, hij, hmi, hjb, rfl, rfl, HX, HS⟩ := hrel
    by_cases hlt : i < j
    · obtain ⟨R1, R2, R3, eR, l1, l2, h1, h3⟩ := HX.out
      go_wp2_with fail
      obtain ⟨h, hh, hih, hhj⟩ : ∃ h : Nat, ((i : Int) + (j : Int)) / 2 = (h : Int) ∧ i ≤ h ∧ h < j := ⟨(i + j) / 2, by omega, by omega, by omega⟩
      rw [hh]
      clear hh
      obtain ⟨U, y, V, e2, lu, lv⟩ := split_mid R2 (h - i) (by omega)
      subst e2
      have HY := hide (And.intro eR (And.intro l1 (And.intro lu (And.intro l2 (And.intro h1 h3)))))
      clear eR l1 l2 h1 h3 lu lv HX
      obtain ⟨x1, x2, x3, x4, x5⟩ := SM.cells_of R HS.out HZ.out (PL := P ++ L) (x := x) (SR := S) (by simp) (i := m) (by have := HAB.out; have := HY.out.2.1; have := HY.out.2.2.1; have := HRC.out.1; simp only [List.length_append, List.length_cons, List.length_nil, List.length_singleton] at *; omega)
      obtain ⟨y1, y2, y3, y4, y5⟩ := SM.cells_of R HS.out HZ.out (PL := P ++ R1 ++ U) (x := y) (SR := V ++ R3 ++ ([x] ++ S)) (by rw [HY.out.1]; simp) (i := h) (by have := HAB.out; have := HY.out.2.1; have := HY.out.2.2.1; have := HRC.out.1; simp only [List.length_append, List.length_cons, List.length_nil, List.length_singleton] at *; omega)
      have hgl := SM.size R HS.out
      have xa := fun n os => cell_grown (a := ⟨g, m * 2, none⟩) hgl x1 n os
      have xb := fun n os => cell_grown (a := ⟨g, m * 2 + 1, none⟩) hgl x2 n os
      have ya := fun n os => cell_grown (a := ⟨g, h * 2, none⟩) hgl y1 n os
      have yb := fun n os => cell_grown (a := ⟨g, h * 2 + 1, none⟩) hgl y2 n os
      have hc := fun n os => cmp_any x y (grow (wr.drewN n) os)
      clear x1 x2 x3 x4 y1 y2 y3 y4
      by_cases hv : x.2 < y.2
      · have HV := hide hv
        have hd : decide (cfM x y < 0) = true := decide_eq_true (cfM_lt.2 hv)
        clear hv
        go_quiet_grown (first | (go_at_call 98; refine Calls.grown_of (hc _ _)))
        dsimp only
        clear hc xa xb ya yb hd x5 y5
        have HS2 := hide (SWK.grown HS.out nq osq)
        generalize grow (wr.drewN nq) osq = w2 at *
        clear HS hgl
        go_wp2_with fail
        refine ⟨⟨i, h, by omega, hmi, by omega, rfl, rfl, hide ⟨R1, U, y :: V ++ R3, by rw [HY.out.1]; simp, HY.out.2.1, by have := HY.out.2.2.1; omega, HY.out.2.2.2.2.1, grow_high HY.out.1 HRC.out.1 HY.out.2.2.2.2.2 (.inl HV.out)⟩, HS2⟩, by simp [intOf]; omega⟩
      · have HV := hide hv
        have hd : decide (cfM x y < 0) = false := decide_eq_false (fun h => hv (cfM_lt.1 h))
        clear hv
        go_quiet_grown (first | (go_at_call 98; refine Calls.grown_of (hc _ _)))
        dsimp only
        clear hc xa xb ya yb hd x5 y5
        have HS2 := hide (SWK.grown HS.out nq osq)
        generalize grow (wr.drewN nq) osq = w2 at *
        clear HS hgl
        go_wp2_with fail
        refine ⟨⟨h + 1, j, by omega, by omega, hjb, by go_num, rfl, hide ⟨R1 ++ U ++ [y], V, R3, by rw [HY.out.1]; simp, by have := HY.out.2.1; have := HY.out.2.2.1; simp only [List.length_append, List.length_singleton]; omega, by have := HY.out.2.2.2.1; simp only [List.length_append, List.length_cons] at this; have := HY.out.2.2.1; omega, grow_low HY.out.1 HRC.out.1 HY.out.2.2.2.2.1 (lt_cr (HRC.out.2 y (by rw [HY.out.1]; simp) x List.mem_cons_self) HV.out), HY.out.2.2.2.2.2⟩, HS2⟩, by simp [intOf]; omega⟩
    · have hie : j = i := by omega
      subst hie
      have HX2 := hide (show ∃ R1 R3 : List LD, L = R1 ++ R3 ∧ a + R1.length = j ∧ (∀ y ∈ R1, ltM y x) ∧ (∀ y ∈ R3, ltM x y) from by
        obtain ⟨R1, R2, R3, eR, l1, l2, h1, h3⟩ := HX.out
        have e2 : R2 = [] := List.eq_nil_of_length_eq_zero (by omega)
        subst e2
        exact ⟨R1, R3, by simpa using eR, l1, h1, h3⟩)
      clear HX
      obtain ⟨R1, R3, eR, l1, h1, h3⟩ := HX2.out
      have HY := hide (And.intro eR (And.intro l1 (And.intro h1 h3)))
      have HX := hide (show ∃ Ra Rb : List LD, R3 = Ra ++ Rb ∧ j + Ra.length = m ∧ SM w0 g (P ++ (R1 ++ (Ra ++ (x :: (Rb ++ S))))) wr from ⟨R3, [], by simp, by
        have h2 := HAB.out.2.1
        rw [eR, List.length_append] at h2
        omega, by have h := HS.out; rw [eR] at h; simpa using h⟩)
      clear HX2 eR l1 h1 h3 HS
      go_wp2_with fail
      go_loopw [17] (fun sk wi => ∃ (k : Nat), j ≤ k ∧ k ≤ m ∧ sk = .int .i64 k ∧ Hid (∃ Ra Rb : List LD, R3 = Ra ++ Rb ∧ j + Ra.length = k ∧ SM w0 g (P ++ (R1 ++ (Ra ++ (x :: (Rb ++ S))))) wi)) (fun k _ => (intOf k).toNat)
      case atStart => exact ⟨m, hjb, Nat.le_refl _, rfl, HX⟩
      case round =>
        clear HX
        obtain ⟨k, hak, hkj, rfl, HX⟩ := hrel
        by_cases hlt2 : j < k
        · obtain ⟨Ra, Rb, e1, l1, hS⟩ := HX.out
          obtain ⟨Ra, y, rfl⟩ := last_of (A := Ra) (by omega)
          rw [List.length_append] at l1
          have HE := hide (And.intro e1 (show j + (Ra.length + 1) = k from l1))
          have HS := hide hS
          have HZ2 := hide (show (P ++ (R1 ++ (Ra ++ [y] ++ (x :: (Rb ++ S))))).length = d0.size from by
            have h2 := HY.out.1
            have h3 := HLE.out
            rw [e1] at h2
            rw [h2] at h3
            simp only [List.length_append, List.length_cons, List.length_nil] at *
            omega)
          have HPL := hide (show P.length + R1.length = j from by
            have h2 := HAB.out.1
            have h3 := HY.out.2.1
            omega)
          clear e1 l1 hS HX
          obtain ⟨x1, x2, x3, x4, x5⟩ := SM.cells_of R HS.out HZ2.out (PL := P ++ R1 ++ Ra ++ [y]) (x := x) (SR := Rb ++ S) (by simp) (i := k) (by have := HPL.out; have := HE.out.2; simp only [List.length_append, List.length_singleton]; omega)
          obtain ⟨y1, y2, y3, y4, y5⟩ := SM.cells_of R HS.out HZ2.out (PL := P ++ R1 ++ Ra) (x := y) (SR := x :: (Rb ++ S)) (by simp) (i := k - 1) (by have := HPL.out; have := HE.out.2; simp only [List.length_append]; omega)
          have HS2 := hide (SWK.drew (SM.swap_of' (l' := P ++ (R1 ++ (Ra ++ (x :: (y :: Rb ++ S))))) R HS.out (PL := P ++ R1 ++ Ra) (x := y) (Q := []) (y := x) (SR := Rb ++ S) (i := k - 1) (j := k) (by simp) (by have := HPL.out; have := HE.out.2; simp only [List.length_append]; omega) (by have := HPL.out; have := HE.out.2; simp only [List.length_append, List.length_nil]; omega) (by simp)))
          have ej : ((k : Int) - 1).toNat = k - 1 := by omega
          have pj : (0 : Int) ≤ (k : Int) - 1 := by omega
          have bj : (k : Int) - 1 < (d0.size : Int) := by omega
          have rj : IntKind.i64.wrap ((k : Int) - 1) = (k : Int) - 1 := IntWalk.i64_in _ (by omega)
          have hq2 : (1 : Int) ≤ (k : Int) := by omega
          have hq3 : 1 ≤ k := by omega
          have hq4 : 0 < k := by omega
          have hne : k ≠ k - 1 := by omega
          have hne2 : k - 1 ≠ k := by omega
          clear HS HZ2
          go_wp2_with fail
          go_big_region_o
          clear x1 x2 x3 x4 y1 y2 y3 y4 x5 y5
          go_wp2_with fail
          refine ⟨⟨k - 1, by omega, by omega, by go_num, hide ⟨Ra, y :: Rb, by rw [HE.out.1]; simp, by have := HE.out.2; omega, HS2.out⟩⟩, by simp [intOf]; omega⟩
        · have HF := hide (show MerR w0 g P L [x] S (.returned (.tuple #[])) wr from by
            obtain ⟨Ra, Rb, e1, l1, hS⟩ := HX.out
            have e2 : Ra = [] := List.eq_nil_of_length_eq_zero (by omega)
            rw [e2, List.nil_append] at e1
            subst e1
            rw [e2] at hS
            obtain ⟨h4, h5⟩ := one_right HY.out.1 HRC.out.1 HY.out.2.2.1 HY.out.2.2.2
            exact ⟨R1 ++ x :: R3, h4, h5, rfl, by simpa using hS⟩)
          clear HX HY
          go_wp2_with fail
          exact bodyPost_ret (v := .tuple #[]) (by simp [results, Try.results186, go_sem]) rfl HF.out
end Go.Proofs.Ytmglgjchemecjaa.CStab4
/- The library's stable sort of landmarks: the merge, whole. -/
namespace Go.Proofs.Ytmglgjchemecjaa.CStab5
set_option maxRecDepth 200000
open Go.ChangeShapes Go.WideShapes Go.ChangeAt Go.RowKit Kit CSorted PIns PSort PLmk CLandmarks PStab CStab1 CStab2 CCmp CStab3 CStab4
open Go.Sort Go.RowKit
theorem CC.sub {L L' R R' : List LD} (h : CC L R) (hl : ∀ x ∈ L', x ∈ L) (hr : ∀ x ∈ R', x ∈ R) : CC L' R' := fun x hx y hy => h x (hl x hx) y (hr y hy)
/-- The cut that is sought. -/
def Cuts (L Rr : List LD) (a s r mid : Nat) : Prop := ∃ L1 Lm L2 R1 Rm R2 : List LD, L = L1 ++ (Lm ++ L2) ∧ Rr = R1 ++ (Rm ++ R2) ∧ a + L1.length = s ∧ s + Lm.length = r ∧ R1.length + r = mid ∧ Rm.length = Lm.length ∧
  (L1 = [] ∨ R2 = [] ∨ ∃ x y L1' R2', L1 = L1' ++ [x] ∧ R2 = y :: R2' ∧ ¬ y.2 < x.2) ∧ (R1 = [] ∨ L2 = [] ∨ ∃ x y L2' R1', L2 = x :: L2' ∧ R1 = R1' ++ [y] ∧ y.2 < x.2)
theorem cuts_low {L Rr : List LD} {a m b mid : Nat} (hm : m = a + L.length) (hb : b = m + Rr.length) (h1 : mid < m) (h2 : a ≤ mid) (h3 : a + b ≤ 2 * mid + 1) (h4 : 2 * mid ≤ a + b) : Cuts L Rr a (mid + m - b) mid mid := by
  refine ⟨L.take (mid + m - b - a), (L.drop (mid + m - b - a)).take (b - m), L.drop (mid - a), [], Rr, [], ?_, by simp, ?_, ?_, ?_, ?_, .inr (.inl rfl), .inl rfl⟩
  · have e : (L.drop (mid + m - b - a)).drop (b - m) = L.drop (mid - a) := by
      rw [List.drop_drop]
      congr 1
      omega
    rw [← e, List.take_append_drop, List.take_append_drop]
  · rw [List.length_take]
    omega
  · rw [List.length_take, List.length_drop]
    omega
  · simp
  · rw [List.length_take, List.length_drop]
    omega
theorem cuts_high {L Rr : List LD} {a m b mid : Nat} (hm : m = a + L.length) (hb : b = m + Rr.length) (h1 : m ≤ mid) (h3 : 2 * mid ≤ a + b) : Cuts L Rr a a m mid := by
  refine ⟨[], L, [], Rr.take (mid - m), (Rr.drop (mid - m)).take (m - a), Rr.drop (mid - a), by simp, ?_, rfl, hm.symm, ?_, ?_, .inl rfl, .inr (.inl rfl)⟩
  · have e : (Rr.drop (mid - m)).drop (m - a) = Rr.drop (mid - a) := by
      rw [List.drop_drop]
      congr 1
      omega
    rw [← e, List.take_append_drop, List.take_append_drop]
  · rw [List.length_take]
    omega
  · rw [List.length_take, List.length_drop]
    omega
set_option maxHeartbeats 8000000 in
theorem symMerge_any (w0 : World) (g : Nat) (d0 : Array LD) (R : RowM w0 g d0) (c : Nat) (hsz : d0.size ≤ 1000000) : ∀ (N : Nat) (P L Rr S : List LD) (a m b : Nat) (w : World), L.length + Rr.length ≤ N →
    a = P.length → m = a + L.length → b = m + Rr.length → 0 < L.length → 0 < Rr.length → Srt L → Srt Rr → CC L Rr → (P ++ (L ++ (Rr ++ S))).length = d0.size → SM w0 g (P ++ (L ++ (Rr ++ S))) w →
    Calls Try.prog 186 #[.slice (some ⟨g, 0, none⟩) d0.size c, .int .i64 a, .int .i64 m, .int .i64 b, .func (.func 98) #[] #[]] w (MerR w0 g P L Rr S) := by
  intro N
  induction N with
  | zero => intro P L Rr S a m b w hN _ _ _ hl; omega
  | succ N ih =>
    intro P L Rr S a m b w hN ha hm hb hl0 hr0 hL hR hC hs hS
    by_cases hone : L.length = 1
    · obtain ⟨x, rfl⟩ := List.length_eq_one_iff.1 hone
      exact left_any w0 g d0 R c P Rr S x a m b w ha hm hb hR hC hs hsz hS
    by_cases hone2 : Rr.length = 1
    · obtain ⟨x, rfl⟩ := List.length_eq_one_iff.1 hone2
      exact right_any w0 g d0 R c P L S x a m b w ha hm hb hone hL hC hs hsz hS
    have mixed : Try.prog.follows .mixedOrders = true := by kernel_rfl
    have HIH := hide ih
    have HLE := hide (show P.length + L.length + Rr.length + S.length = d0.size from by
      simp only [List.length_append] at hs
      omega)
    have HAB := hide (And.intro ha (And.intro hm hb))
    have HZ := hide hs
    have HS := hide hS
    have HRC := hide (And.intro hL (And.intro hR hC))
    have HN := hide hN
    have hbd : b ≤ d0.size := by
      have := HLE.out
      omega
    have ham : a + 2 ≤ m := by omega
    have hmb : m + 2 ≤ b := by omega
    have hno : ((m : Int) - (a : Int) == 1) = false := by
      apply beq_eq_false_iff_ne.2
      omega
    have hno2 : ¬ ((m : Int) - (a : Int) = 1) := by omega
    have hno3 : IntKind.i64.wrap ((m : Int) - (a : Int)) = (m : Int) - (a : Int) := IntWalk.i64_in _ (by omega)
    have hnp : ((b : Int) - (m : Int) == 1) = false := by
      apply beq_eq_false_iff_ne.2
      omega
    have hnp2 : ¬ ((b : Int) - (m : Int) = 1) := by omega
    have hnp3 : IntKind.i64.wrap ((b : Int) - (m : Int)) = (b : Int) - (m : Int) := IntWalk.i64_in _ (by omega)
    clear hS hs ha hm hb hL hR hC ih hN hl0 hr0 hone hone2
    obtain ⟨mid, hmid, hm1, hm2⟩ : ∃ mid : Nat, ((a : Int) + (b : Int)) / 2 = (mid : Int) ∧ a + b ≤ 2 * mid + 1 ∧ 2 * mid ≤ a + b := ⟨(a + b) / 2, by omega, by omega, by omega⟩
    go_enter Try.func186, Try.ntmps186
    go_upto_if 140 with fail
    clear hno hno2 hno3 hnp hnp2 hnp3
    go_cut [20, 21] from 141 (fun v20 v21 wx => ∃ s r : Nat, v20 = .int .i64 s ∧ v21 = .int .i64 r ∧ a ≤ s ∧ s ≤ r ∧ r ≤ m ∧ r ≤ mid ∧ Hid (Cuts L Rr a s r mid) ∧ wx = w)
    case first =>
      by_cases hcm : mid < m
      · have hs0 : IntKind.i64.wrap ((mid : Int) + (m : Int) - (b : Int)) = (mid : Int) + (m : Int) - (b : Int) := IntWalk.i64_in _ (by omega)
        go_wp2_with fail
        go_meet
        exact ⟨mid + m - b, mid, by congr 1; omega, rfl, by omega, by omega, by omega, Nat.le_refl _, hide (cuts_low HAB.out.2.1 HAB.out.2.2 hcm (by omega) hm1 hm2), rfl⟩
      · go_wp2_with fail
        go_meet
        exact ⟨a, m, rfl, rfl, Nat.le_refl _, by omega, Nat.le_refl _, by omega, hide (cuts_high HAB.out.2.1 HAB.out.2.2 (by omega) hm2), rfl⟩
    case rest =>
      obtain ⟨s0, r0, rfl, rfl, has, hsr, hrm, hrd, HX, rfl⟩ := hcut
      obtain ⟨nn, hnz, hnn⟩ : ∃ nn : Nat, (mid : Int) + (m : Int) = (nn : Int) ∧ nn = mid + m := ⟨mid + m, by omega, rfl⟩
      obtain ⟨p, hpz, hpn⟩ : ∃ p : Nat, (nn : Int) - 1 = (p : Int) ∧ p + 1 = nn := ⟨nn - 1, by omega, by omega⟩
      have HNN := hide hnn
      have HPN := hide hpn
      have hpd : p ≤ 2000000 := by omega
      have hnd : nn ≤ 2000000 := by omega
      have hmp : m ≤ p + 1 := by omega
      have hmdp : mid ≤ p := by omega
      have hrd1 : s0 ≤ mid := by omega
      clear hnn hpn
      go_wp2_with fail
      clear hnz hpz hmid
      go_loopw [20, 21] (fun ss sr wi => ∃ (s r : Nat), a ≤ s ∧ s ≤ r ∧ r ≤ m ∧ r ≤ mid ∧ ss = .int .i64 s ∧ sr = .int .i64 r ∧ Hid (Cuts L Rr a s r mid) ∧ Hid (SM w0 g (P ++ (L ++ (Rr ++ S))) wi)) (fun i j _ => (intOf j).toNat - (intOf i).toNat)
      case atStart => exact ⟨s0, r0, has, hsr, hrm, hrd, rfl, rfl, HX, HS⟩
      case round =>
        clear HX HS has hsr hrm hrd hrd1
        obtain ⟨s, r, has, hsr, hrm, hrd, rfl, rfl, HX, HS⟩ := hrel
        by_cases hlt : s < r
        · go_wp2_with fail
          obtain ⟨L1, Lm, L2, R1, Rm, R2, eL, eR, l1, l2, l3, l4, hA, hB⟩ := HX.out
          obtain ⟨q, hh, hih, hhj⟩ : ∃ q : Nat, ((s : Int) + (r : Int)) / 2 = (q : Int) ∧ s ≤ q ∧ q < r := ⟨(s + r) / 2, by omega, by omega, by omega⟩
          rw [hh]
          clear hh
          obtain ⟨U, x, V, e2, lu, lv⟩ := split_mid Lm (q - s) (by omega)
          obtain ⟨U2, y, V2, e3, lu2, lv2⟩ := split_mid Rm (r - 1 - q) (by omega)
          have lv' : q + 1 + V.length = r := by omega
          have lw' : V2.length = q - s := by omega
          subst e2 e3
          have HY := hide (And.intro eL (And.intro eR (And.intro l1 (And.intro l3 (And.intro lu (And.intro lv' (And.intro lu2 (And.intro lw' (And.intro hA hB)))))))))
          clear eL eR l1 l2 l3 l4 hA hB lu lv lu2 lv2 lv' lw' HX
          have ej : ((p : Int) - (q : Int)).toNat = p - q := by omega
          have pj : (0 : Int) ≤ (p : Int) - (q : Int) := by omega
          have rj : IntKind.i64.wrap ((p : Int) - (q : Int)) = (p : Int) - (q : Int) := IntWalk.i64_in _ (by omega)
          have hq2 : (q : Int) ≤ (p : Int) := by omega
          have hq3 : q ≤ p := by omega
          obtain ⟨x1, x2, x3, x4, x5⟩ := SM.cells_of R HS.out HZ.out (PL := P ++ L ++ R1 ++ U2) (x := y) (SR := V2 ++ R2 ++ S) (by rw [HY.out.2.1]; simp) (i := p - q) (by have := HAB.out; have := HY.out.2.2.1; have := HY.out.2.2.2.1; have := HY.out.2.2.2.2.1; have := HY.out.2.2.2.2.2.2.1; have := HNN.out; have := HPN.out; simp only [List.length_append, List.length_cons, List.length_nil, List.length_singleton] at *; omega)
          obtain ⟨y1, y2, y3, y4, y5⟩ := SM.cells_of R HS.out HZ.out (PL := P ++ L1 ++ U) (x := x) (SR := V ++ L2 ++ (Rr ++ S)) (by rw [HY.out.1]; simp) (i := q) (by have := HAB.out; have := HY.out.2.2.1; have := HY.out.2.2.2.1; have := HY.out.2.2.2.2.1; have := HY.out.2.2.2.2.2.2.1; have := HNN.out; have := HPN.out; simp only [List.length_append, List.length_cons, List.length_nil, List.length_singleton] at *; omega)
          have hgl := SM.size R HS.out
          have bj : (p : Int) - (q : Int) < (d0.size : Int) := by omega
          have xa := fun n os => cell_grown (a := ⟨g, (p - q) * 2, none⟩) hgl x1 n os
          have xb := fun n os => cell_grown (a := ⟨g, (p - q) * 2 + 1, none⟩) hgl x2 n os
          have ya := fun n os => cell_grown (a := ⟨g, q * 2, none⟩) hgl y1 n os
          have yb := fun n os => cell_grown (a := ⟨g, q * 2 + 1, none⟩) hgl y2 n os
          have hc := fun n os => cmp_any y x (grow (wr.drewN n) os)
          clear x1 x2 x3 x4 y1 y2 y3 y4
          by_cases hv : y.2 < x.2
          · have HV := hide hv
            have hd : decide (cfM y x < 0) = true := decide_eq_true (cfM_lt.2 hv)
            clear hv
            go_quiet_grown (first | (go_at_call 98; refine Calls.grown_of (hc _ _)))
            dsimp only
            clear hc xa xb ya yb hd x5 y5
            have HS2 := hide (SWK.grown HS.out nq osq)
            generalize grow (wr.drewN nq) osq = w2 at *
            clear HS hgl
            go_wp2_with fail
            refine ⟨⟨s, q, has, hih, by omega, by omega, rfl, rfl, hide ⟨L1, U, x :: (V ++ L2), R1 ++ U2 ++ [y], V2, R2, by rw [HY.out.1]; simp, by rw [HY.out.2.1]; simp, HY.out.2.2.1, by have := HY.out.2.2.2.2.1; omega, by have := HY.out.2.2.2.1; have := HY.out.2.2.2.2.2.2.1; simp only [List.length_append, List.length_singleton]; omega, by rw [HY.out.2.2.2.2.2.2.2.1, HY.out.2.2.2.2.1], HY.out.2.2.2.2.2.2.2.2.1, .inr (.inr ⟨x, y, V ++ L2, R1 ++ U2, rfl, rfl, HV.out⟩)⟩, HS2⟩, by simp [intOf]; omega⟩
          · have HV := hide hv
            have hd : decide (cfM y x < 0) = false := decide_eq_false (fun h => hv (cfM_lt.1 h))
            clear hv
            go_quiet_grown (first | (go_at_call 98; refine Calls.grown_of (hc _ _)))
            dsimp only
            clear hc xa xb ya yb hd x5 y5
            have HS2 := hide (SWK.grown HS.out nq osq)
            generalize grow (wr.drewN nq) osq = w2 at *
            clear HS hgl
            go_wp2_with fail
            refine ⟨⟨q + 1, r, by omega, by omega, hrm, hrd, by go_num, rfl, hide ⟨L1 ++ U ++ [x], V, L2, R1, U2, y :: (V2 ++ R2), by rw [HY.out.1]; simp, by rw [HY.out.2.1]; simp, by have := HY.out.2.2.1; have := HY.out.2.2.2.2.1; simp only [List.length_append, List.length_singleton]; omega, HY.out.2.2.2.2.2.1, HY.out.2.2.2.1, by have := HY.out.2.2.2.2.2.1; have := HY.out.2.2.2.2.2.2.1; omega, .inr (.inr ⟨x, y, L1 ++ U, V2 ++ R2, rfl, rfl, HV.out⟩), HY.out.2.2.2.2.2.2.2.2.2⟩, HS2⟩, by simp [intOf]; omega⟩
        · have hrs : r = s := by omega
          subst hrs
          have HX2 := hide (show ∃ L1 L2 R1 R2 : List LD, L = L1 ++ L2 ∧ Rr = R1 ++ R2 ∧ a + L1.length = r ∧ R1.length + r = mid ∧ (L1 = [] ∨ R2 = [] ∨ ∃ x y L1' R2', L1 = L1' ++ [x] ∧ R2 = y :: R2' ∧ ¬ y.2 < x.2) ∧ (R1 = [] ∨ L2 = [] ∨ ∃ x y L2' R1', L2 = x :: L2' ∧ R1 = R1' ++ [y] ∧ y.2 < x.2) from by
            obtain ⟨L1, Lm, L2, R1, Rm, R2, eL, eR, l1, l2, l3, l4, hA, hB⟩ := HX.out
            have e1 : Lm = [] := List.eq_nil_of_length_eq_zero (by omega)
            have e2 : Rm = [] := List.eq_nil_of_length_eq_zero (by omega)
            subst e1 e2
            exact ⟨L1, L2, R1, R2, by simpa using eL, by simpa using eR, l1, l3, hA, hB⟩)
          clear HX hsr
          obtain ⟨L1, L2, R1, R2, HX⟩ : ∃ L1 L2 R1 R2 : List LD, Hid (L = L1 ++ L2 ∧ Rr = R1 ++ R2 ∧ a + L1.length = r ∧ R1.length + r = mid ∧ (L1 = [] ∨ R2 = [] ∨ ∃ x y L1' R2', L1 = L1' ++ [x] ∧ R2 = y :: R2' ∧ ¬ y.2 < x.2) ∧ (R1 = [] ∨ L2 = [] ∨ ∃ x y L2' R1', L2 = x :: L2' ∧ R1 = R1' ++ [y] ∧ y.2 < x.2)) := by
            obtain ⟨L1, L2, R1, R2, h⟩ := HX2.out
            exact ⟨L1, L2, R1, R2, hide h⟩
          clear HX2
          have HLN := hide (show m = a + L1.length + L2.length ∧ b = m + R1.length + R2.length ∧ a + L1.length = r ∧ R1.length + r = mid ∧ a = P.length from by
            obtain ⟨h1, h2, h3, h4, _⟩ := HX.out
            obtain ⟨k1, k2, k3⟩ := HAB.out
            rw [h1, List.length_append] at k2
            rw [h2, List.length_append] at k3
            omega)
          obtain ⟨en, henz, hen⟩ : ∃ en : Nat, (mid : Int) + (m : Int) - (r : Int) = (en : Int) ∧ en + r = nn := ⟨nn - r, by have := HNN.out; omega, by have := HNN.out; omega⟩
          have HEN := hide hen
          have hend : en ≤ 2000000 := by omega
          clear hen
          go_upto_region 39 with fail
          try simp only [henz]
          clear henz
          go_cut [185] from 178 (fun v wx => ∃ b0 : Bool, v = .bool b0 ∧ Hid (b0 = decide (r < m ∧ m < en)) ∧ wx = wr)
          case first =>
            by_cases c1 : r < m
            · by_cases c2 : m < en
              · go_wp2_with fail
                go_meet
                exact ⟨_, rfl, hide (by simp [c1, c2]), rfl⟩
              · go_wp2_with fail
                go_meet
                exact ⟨_, rfl, hide (by simp [c1, c2]), rfl⟩
            · go_wp2_with fail
              go_meet
              exact ⟨_, rfl, hide (by simp [c1]), rfl⟩
          case rest =>
            obtain ⟨b0, rfl, HB0, rfl⟩ := hcut
            go_upto_if 185 with fail
            go_cut [] from 186 (fun wx => Hid (SM w0 g (P ++ (L1 ++ (R1 ++ (L2 ++ (R2 ++ S))))) wx))
            case first =>
              cases b0 with
              | true =>
                have HROT := hide (of_decide_eq_true HB0.out.symm)
                have HC := hide (show Calls Try.prog 209 #[.slice (some ⟨g, 0, none⟩) d0.size c, .int .i64 r, .int .i64 m, .int .i64 en, .func (.func 98) #[] #[]] wc (Fin w0 g (P ++ (L1 ++ (R1 ++ (L2 ++ (R2 ++ S)))))) from by
                  have h := HS.out
                  have hz := HZ.out
                  obtain ⟨k1, k2, _⟩ := HX.out
                  obtain ⟨n1, n2, n3, n4, n5⟩ := HLN.out
                  have n6 := HEN.out
                  have n7 := HNN.out
                  have hrot := HROT.out
                  have e : P ++ (L ++ (Rr ++ S)) = (P ++ L1) ++ (L2 ++ (R1 ++ (R2 ++ S))) := by rw [k1, k2]; simp
                  rw [e] at h hz
                  have h2 := rotate_any w0 g d0 R c (.func (.func 98) #[] #[]) (P ++ L1) L2 R1 (R2 ++ S) r m en wc (by rw [List.length_append]; omega) (by omega) (by omega) (by omega) (by omega) hz hsz h
                  have e2 : (P ++ L1) ++ (R1 ++ (L2 ++ (R2 ++ S))) = P ++ (L1 ++ (R1 ++ (L2 ++ (R2 ++ S)))) := by simp
                  rw [e2] at h2
                  exact h2)
                go_wp2_with fail
                refine HC.out.mono ?_
                rintro e w2 ⟨rfl, hS2⟩
                have HS2 := hide hS2
                clear hS2
                go_wp2_with fail
                go_meet
                exact HS2
              | false =>
                have HROT := hide (of_decide_eq_false HB0.out.symm)
                have HS2 := hide (show SM w0 g (P ++ (L1 ++ (R1 ++ (L2 ++ (R2 ++ S))))) wc from by
                  have h := HS.out
                  obtain ⟨k1, k2, _⟩ := HX.out
                  obtain ⟨n1, n2, n3, n4, n5⟩ := HLN.out
                  have n6 := HEN.out
                  have n7 := HNN.out
                  have hrot := HROT.out
                  rw [k1, k2] at h
                  by_cases h0 : r < m
                  · have e0 : R1 = [] := List.eq_nil_of_length_eq_zero (by omega)
                    subst e0
                    simpa using h
                  · have e0 : L2 = [] := List.eq_nil_of_length_eq_zero (by omega)
                    subst e0
                    simpa using h)
                go_wp2_with fail
                go_meet
                exact HS2
            case rest =>
              clear HS
              have HS := hcut
              clear hcut
              rename World => wd
              go_upto_region 41 with fail
              go_cut [199] from 192 (fun v wx => ∃ b1 : Bool, v = .bool b1 ∧ Hid (b1 = decide (a < r ∧ r < mid)) ∧ wx = wd)
              case first =>
                by_cases c1 : a < r
                · by_cases c2 : r < mid
                  · go_wp2_with fail
                    go_meet
                    exact ⟨_, rfl, hide (by simp [c1, c2]), rfl⟩
                  · go_wp2_with fail
                    go_meet
                    exact ⟨_, rfl, hide (by simp [c1, c2]), rfl⟩
                · go_wp2_with fail
                  go_meet
                  exact ⟨_, rfl, hide (by simp [c1]), rfl⟩
              case rest =>
                obtain ⟨b1, rfl, HB1, rfl⟩ := hcut
                rename World => wd
                go_upto_if 199 with fail
                go_cut [] from 200 (fun wx => Hid (∃ M1 : List LD, M1.Perm (L1 ++ R1) ∧ Srt M1 ∧ SM w0 g (P ++ (M1 ++ (L2 ++ (R2 ++ S)))) wx))
                case first =>
                  cases b1 with
                  | true =>
                    have HROT := hide (of_decide_eq_true HB1.out.symm)
                    have HC := hide (show Calls Try.prog 186 #[.slice (some ⟨g, 0, none⟩) d0.size c, .int .i64 a, .int .i64 r, .int .i64 mid, .func (.func 98) #[] #[]] wd (MerR w0 g P L1 R1 (L2 ++ (R2 ++ S))) from by
                      have hN := HN.out
                      have hz := HZ.out
                      obtain ⟨k1, k2, _⟩ := HX.out
                      obtain ⟨n1, n2, n3, n4, n5⟩ := HLN.out
                      have hrot := HROT.out
                      obtain ⟨q1, q2, q3⟩ := HRC.out
                      rw [k1, k2] at hN q3
                      rw [k1] at q1
                      rw [k2] at q2
                      rw [k1, k2] at hz
                      simp only [List.length_append] at hN hz
                      refine HIH.out P L1 R1 (L2 ++ (R2 ++ S)) a r mid wd (by omega) n5 (by omega) (by omega) (by omega) (by omega) (List.pairwise_append.1 q1).1 (List.pairwise_append.1 q2).1 (CC.sub q3 (fun x hx => List.mem_append_left _ hx) (fun x hx => List.mem_append_left _ hx)) (by simp only [List.length_append]; omega) HS.out)
                    go_wp2_with fail
                    refine HC.out.mono ?_
                    rintro e w2 ⟨M1, p1, s1, rfl, hS2⟩
                    have HS2 := hide (And.intro p1 (And.intro s1 hS2))
                    clear hS2 p1 s1
                    go_wp2_with fail
                    go_meet
                    exact hide ⟨M1, HS2.out⟩
                  | false =>
                    have HROT := hide (of_decide_eq_false HB1.out.symm)
                    have HS2 := hide (show ∃ M1 : List LD, M1.Perm (L1 ++ R1) ∧ Srt M1 ∧ SM w0 g (P ++ (M1 ++ (L2 ++ (R2 ++ S)))) wd from by
                      obtain ⟨k1, k2, _⟩ := HX.out
                      obtain ⟨n1, n2, n3, n4, n5⟩ := HLN.out
                      have hrot := HROT.out
                      obtain ⟨q1, q2, q3⟩ := HRC.out
                      rw [k1] at q1
                      rw [k2] at q2
                      refine ⟨L1 ++ R1, List.Perm.refl _, ?_, by simpa using HS.out⟩
                      by_cases h0 : a < r
                      · have e0 : R1 = [] := List.eq_nil_of_length_eq_zero (by omega)
                        rw [e0, List.append_nil]
                        exact (List.pairwise_append.1 q1).1
                      · have e0 : L1 = [] := List.eq_nil_of_length_eq_zero (by omega)
                        rw [e0, List.nil_append]
                        exact (List.pairwise_append.1 q2).1)
                    go_wp2_with fail
                    go_meet
                    exact HS2
                case rest =>
                  clear HS
                  have HS := hcut
                  clear hcut HB0 HB1
                  rename World => we
                  go_upto_region 43 with fail
                  go_cut [213] from 206 (fun v wx => ∃ b2 : Bool, v = .bool b2 ∧ Hid (b2 = decide (mid < en ∧ en < b)) ∧ wx = we)
                  case first =>
                    by_cases c1 : mid < en
                    · by_cases c2 : en < b
                      · go_wp2_with fail
                        go_meet
                        exact ⟨_, rfl, hide (by simp [c1, c2]), rfl⟩
                      · go_wp2_with fail
                        go_meet
                        exact ⟨_, rfl, hide (by simp [c1, c2]), rfl⟩
                    · go_wp2_with fail
                      go_meet
                      exact ⟨_, rfl, hide (by simp [c1]), rfl⟩
                  case rest =>
                    obtain ⟨b2, rfl, HB2, rfl⟩ := hcut
                    rename World => we
                    obtain ⟨M1, hp1, hs1, hS1⟩ := HS.out
                    have HM1 := hide (And.intro hp1 (And.intro hs1 hS1))
                    clear hp1 hs1 hS1 HS
                    have HFIN := hide (fun (M2 : List LD) (W : World) (p2 : M2.Perm (L2 ++ R2)) (s2 : Srt M2) (hW : SM w0 g (P ++ (M1 ++ (M2 ++ S))) W) => (show MerR w0 g P L Rr S (.returned (.tuple #[])) W from by
                      obtain ⟨k1, k2, _, _, hA, hB⟩ := HX.out
                      obtain ⟨q1, q2, q3⟩ := HRC.out
                      obtain ⟨m1, m2⟩ := merge_ok k1 k2 q1 q2 q3 hA hB HM1.out.1 HM1.out.2.1 p2 s2
                      exact ⟨M1 ++ M2, m1, m2, rfl, by rw [List.append_assoc]; exact hW⟩))
                    cases b2 with
                    | true =>
                      have HROT := hide (of_decide_eq_true HB2.out.symm)
                      have HC := hide (show Calls Try.prog 186 #[.slice (some ⟨g, 0, none⟩) d0.size c, .int .i64 mid, .int .i64 en, .int .i64 b, .func (.func 98) #[] #[]] we (MerR w0 g (P ++ M1) L2 R2 S) from by
                        have hN := HN.out
                        have hz := HZ.out
                        obtain ⟨k1, k2, _⟩ := HX.out
                        obtain ⟨n1, n2, n3, n4, n5⟩ := HLN.out
                        have n6 := HEN.out
                        have n7 := HNN.out
                        have hrot := HROT.out
                        obtain ⟨q1, q2, q3⟩ := HRC.out
                        have hl := HM1.out.1.length_eq
                        rw [k1, k2] at hN q3
                        rw [k1] at q1
                        rw [k2] at q2
                        rw [k1, k2] at hz
                        simp only [List.length_append] at hN hz hl
                        exact HIH.out (P ++ M1) L2 R2 S mid en b we (by omega) (by rw [List.length_append]; omega) (by omega) (by omega) (by omega) (by omega) (List.pairwise_append.1 q1).2.1 (List.pairwise_append.1 q2).2.1 (CC.sub q3 (fun x hx => List.mem_append_right _ hx) (fun x hx => List.mem_append_right _ hx)) (by simp only [List.length_append]; omega) (by rw [List.append_assoc]; exact HM1.out.2.2))
                      go_wp2_with fail
                      refine HC.out.mono ?_
                      rintro e w2 ⟨M2, p2, s2, rfl, hS2⟩
                      have HF := hide (HFIN.out M2 w2 p2 s2 (by rw [← List.append_assoc]; exact hS2))
                      clear hS2 p2 s2 HFIN
                      go_wp2_with fail
                      exact bodyPost_ret (v := .tuple #[]) (by simp [results, Try.results186, go_sem]) rfl HF.out
                    | false =>
                      have HROT := hide (of_decide_eq_false HB2.out.symm)
                      have HF := hide (show MerR w0 g P L Rr S (.returned (.tuple #[])) we from by
                        obtain ⟨k1, k2, _⟩ := HX.out
                        obtain ⟨n1, n2, n3, n4, n5⟩ := HLN.out
                        have n6 := HEN.out
                        have n7 := HNN.out
                        have hrot := HROT.out
                        obtain ⟨q1, q2, q3⟩ := HRC.out
                        rw [k1] at q1
                        rw [k2] at q2
                        refine HFIN.out (L2 ++ R2) we (List.Perm.refl _) ?_ (by simpa using HM1.out.2.2)
                        by_cases h0 : mid < en
                        · have e0 : R2 = [] := List.eq_nil_of_length_eq_zero (by omega)
                          rw [e0, List.append_nil]
                          exact (List.pairwise_append.1 q1).2.1
                        · have e0 : L2 = [] := List.eq_nil_of_length_eq_zero (by omega)
                          rw [e0, List.nil_append]
                          exact (List.pairwise_append.1 q2).2.1)
                      clear HFIN
                      go_wp2_with fail
                      exact bodyPost_ret (v := .tuple #[]) (by simp [results, Try.results186, go_sem]) rfl HF.out
end Go.Proofs.Ytmglgjchemecjaa.CStab5
/- The library's stable sort of landmarks: blocks; plain. -/
namespace Go.Proofs.Ytmglgjchemecjaa.PStab2
set_option maxRecDepth 200000
open Go.ChangeShapes Go.WideShapes Go.ChangeAt Go.RowKit Kit CSorted PIns PSort PLmk CLandmarks PStab
theorem CC.of {L L' R R' : List LD} (h : CC L R) (hl : ∀ x ∈ L', x ∈ L) (hr : ∀ x ∈ R', x ∈ R) : CC L' R' := fun x hx y hy => h x (hl x hx) y (hr y hy)
abbrev PW (Bs : List (List LD)) : Prop := Bs.Pairwise CC
/-- Blocks of s, each sorted, then a rest. -/
structure Bk (s : Nat) (Bs : List (List LD)) (T l0 : List LD) : Prop where
  len : ∀ B ∈ Bs, B.length = s ∧ Srt B
  pw : PW (Bs ++ [T])
  perm : (Bs.flatten ++ T).Perm l0
theorem Bk.push {s : Nat} {Bs : List (List LD)} {T1 T2 M l0 : List LD} (h : Bk s Bs (T1 ++ T2) l0) (hc : Crs (T1 ++ T2)) (hl : T1.length = s) (hp : M.Perm T1) (hs : Srt M) : Bk s (Bs ++ [M]) T2 l0 := by
  refine ⟨?_, ?_, ?_⟩
  · intro B hB
    rcases List.mem_append.1 hB with hB | hB
    · exact h.len B hB
    · rw [List.mem_singleton.1 hB]
      exact ⟨by rw [hp.length_eq, hl], hs⟩
  · obtain ⟨h1, _, h3⟩ := List.pairwise_append.1 h.pw
    refine List.pairwise_append.2 ⟨List.pairwise_append.2 ⟨h1, List.pairwise_singleton _ _, ?_⟩, List.pairwise_singleton _ _, ?_⟩
    · intro B hB X hX
      rw [List.mem_singleton.1 hX]
      exact CC.of (h3 B hB _ List.mem_cons_self) (fun x hx => hx) (fun x hx => List.mem_append_left _ (hp.subset hx))
    · intro B hB X hX
      rw [List.mem_singleton.1 hX]
      rcases List.mem_append.1 hB with hB | hB
      · exact CC.of (h3 B hB _ List.mem_cons_self) (fun x hx => hx) (fun x hx => List.mem_append_right _ hx)
      · rw [List.mem_singleton.1 hB]
        intro x hx y hy
        exact (List.pairwise_append.1 hc).2.2 x (hp.subset hx) y hy
  · refine List.Perm.trans ?_ h.perm
    rw [List.flatten_append, List.append_assoc]
    refine List.Perm.append_left _ ?_
    simpa using hp.append_right T2
theorem Bk.rest {s : Nat} {Bs : List (List LD)} {T M l0 : List LD} (h : Bk s Bs T l0) (hp : M.Perm T) : Bk s Bs M l0 := by
  refine ⟨h.len, ?_, (hp.append_left _).trans h.perm⟩
  obtain ⟨h1, _, h3⟩ := List.pairwise_append.1 h.pw
  refine List.pairwise_append.2 ⟨h1, List.pairwise_singleton _ _, ?_⟩
  intro B hB X hX
  rw [List.mem_singleton.1 hX]
  exact CC.of (h3 B hB _ List.mem_cons_self) (fun x hx => hx) (fun x hx => hp.subset hx)
/-- Two sizes at once: blocks of 2 s first, then blocks of s, then the rest. -/
structure Bm (s : Nat) (Cs Bs : List (List LD)) (T l0 : List LD) : Prop where
  lenC : ∀ B ∈ Cs, B.length = s * 2 ∧ Srt B
  lenB : ∀ B ∈ Bs, B.length = s ∧ Srt B
  srt : Srt T
  lt : T.length < s
  pw : PW (Cs ++ (Bs ++ [T]))
  perm : (Cs.flatten ++ (Bs.flatten ++ T)).Perm l0
theorem Bm.start {s : Nat} {Bs : List (List LD)} {T l0 : List LD} (h : Bk s Bs T l0) (hs : Srt T) (hl : T.length < s) : Bm s [] Bs T l0 := ⟨(fun B hB => by cases hB), h.len, hs, hl, by simpa using h.pw, by simpa using h.perm⟩
theorem two_of {s : Nat} {Cs Bs : List (List LD)} {T l0 : List LD} (h : Bm s Cs Bs T l0) (h2 : 2 * s ≤ Bs.flatten.length + T.length) : ∃ B1 B2 Bs', Bs = B1 :: B2 :: Bs' := by
  have ht := h.lt
  cases Bs with
  | nil => simp at h2; omega
  | cons B1 Bs =>
    cases Bs with
    | nil =>
      have := (h.lenB B1 List.mem_cons_self).1
      simp at h2
      omega
    | cons B2 Bs => exact ⟨B1, B2, Bs, rfl⟩
theorem Bm.merge {s : Nat} {Cs Bs : List (List LD)} {B1 B2 T M l0 : List LD} (h : Bm s Cs (B1 :: B2 :: Bs) T l0) (hp : M.Perm (B1 ++ B2)) (hs : Srt M) : Bm s (Cs ++ [M]) Bs T l0 := by
  have b1 := (h.lenB B1 List.mem_cons_self).1
  have b2 := (h.lenB B2 (List.mem_cons_of_mem _ List.mem_cons_self)).1
  refine ⟨?_, fun B hB => h.lenB B (List.mem_cons_of_mem _ (List.mem_cons_of_mem _ hB)), h.srt, h.lt, ?_, ?_⟩
  · intro B hB
    rcases List.mem_append.1 hB with hB | hB
    · exact h.lenC B hB
    · rw [List.mem_singleton.1 hB]
      refine ⟨?_, hs⟩
      rw [hp.length_eq, List.length_append]
      omega
  · obtain ⟨h1, h2, h3⟩ := List.pairwise_append.1 h.pw
    obtain ⟨k1, h4⟩ := List.pairwise_cons.1 h2
    obtain ⟨k2, h5⟩ := List.pairwise_cons.1 h4
    rw [List.append_assoc]
    refine List.pairwise_append.2 ⟨h1, List.pairwise_cons.2 ⟨?_, h5⟩, ?_⟩
    · intro X hX x hx y hy
      rcases List.mem_append.1 (hp.subset hx) with hx | hx
      · exact k1 X (List.mem_cons_of_mem _ hX) x hx y hy
      · exact k2 X hX x hx y hy
    · intro B hB X hX
      rcases List.mem_cons.1 hX with rfl | hX
      · intro x hx y hy
        rcases List.mem_append.1 (hp.subset hy) with hy | hy
        · exact h3 B hB B1 List.mem_cons_self x hx y hy
        · exact h3 B hB B2 (List.mem_cons_of_mem _ List.mem_cons_self) x hx y hy
      · exact h3 B hB X (List.mem_cons_of_mem _ (List.mem_cons_of_mem _ hX))
  · refine List.Perm.trans ?_ h.perm
    simp only [List.flatten_append, List.flatten_cons, List.flatten_nil, List.append_nil, List.append_assoc]
    refine List.Perm.append_left _ ?_
    have := hp.append_right (Bs.flatten ++ T)
    simpa using this
theorem one_of {s : Nat} {Cs Bs : List (List LD)} {T l0 : List LD} (h : Bm s Cs Bs T l0) (h2 : ¬ 2 * s ≤ Bs.flatten.length + T.length) : (Bs = [] ∨ ∃ B1, Bs = [B1]) := by
  cases Bs with
  | nil => exact .inl rfl
  | cons B1 Bs =>
    cases Bs with
    | nil => exact .inr ⟨B1, rfl⟩
    | cons B2 Bs =>
      have b1 := (h.lenB B1 List.mem_cons_self).1
      have b2 := (h.lenB B2 (List.mem_cons_of_mem _ List.mem_cons_self)).1
      simp only [List.flatten_cons, List.length_append] at h2
      omega
/-- What is left over becomes the rest. -/
theorem Bm.done {s : Nat} {Cs Bs : List (List LD)} {T M l0 : List LD} (h : Bm s Cs Bs T l0) (h2 : ¬ 2 * s ≤ Bs.flatten.length + T.length) (hp : M.Perm (Bs.flatten ++ T)) (hs : Srt M) : Bm (s * 2) [] Cs M l0 := by
  refine ⟨(fun B hB => by cases hB), h.lenC, hs, by rw [hp.length_eq, List.length_append]; omega, ?_, ?_⟩
  · obtain ⟨h1, _, h3⟩ := List.pairwise_append.1 h.pw
    rw [List.nil_append]
    refine List.pairwise_append.2 ⟨h1, List.pairwise_singleton _ _, ?_⟩
    intro B hB X hX
    rw [List.mem_singleton.1 hX]
    intro x hx y hy
    rcases List.mem_append.1 (hp.subset hy) with hy | hy
    · obtain ⟨Y, hY, hyY⟩ := List.mem_flatten.1 hy
      exact h3 B hB Y (List.mem_append_left _ hY) x hx y hyY
    · exact h3 B hB T (List.mem_append_right _ List.mem_cons_self) x hx y hy
  · rw [List.flatten_nil, List.nil_append]
    exact (hp.append_left _).trans h.perm
theorem Bm.whole {s : Nat} {Bs : List (List LD)} {T l0 : List LD} (h : Bm s [] Bs T l0) (hn : (Bs.flatten ++ T).length ≤ s) : Srt (Bs.flatten ++ T) := by
  have ht := h.lt
  rw [List.length_append] at hn
  cases Bs with
  | nil => simpa using h.srt
  | cons B1 Bs =>
    have b1 := h.lenB B1 List.mem_cons_self
    simp only [List.flatten_cons, List.length_append] at hn
    have e1 : Bs.flatten = [] := List.eq_nil_of_length_eq_zero (by omega)
    have e2 : T = [] := List.eq_nil_of_length_eq_zero (by omega)
    rw [List.flatten_cons, e1, e2]
    simpa using b1.2
theorem Bm.cc12 {s : Nat} {Cs Bs : List (List LD)} {B1 B2 T l0 : List LD} (h : Bm s Cs (B1 :: B2 :: Bs) T l0) : CC B1 B2 :=
  (List.pairwise_cons.1 (List.pairwise_append.1 h.pw).2.1).1 B2 List.mem_cons_self
theorem Bm.cc1T {s : Nat} {Cs : List (List LD)} {B1 T l0 : List LD} (h : Bm s Cs [B1] T l0) : CC B1 T :=
  (List.pairwise_cons.1 (List.pairwise_append.1 h.pw).2.1).1 T List.mem_cons_self
theorem Bm.size {s : Nat} {Cs Bs : List (List LD)} {T l0 : List LD} (h : Bm s Cs Bs T l0) : Cs.flatten.length + (Bs.flatten.length + T.length) = l0.length := by
  rw [← h.perm.length_eq, List.length_append, List.length_append]
theorem Bm.leaves {s : Nat} {Cs Bs : List (List LD)} {T l0 : List LD} (h : Bm s Cs Bs T l0) (h2 : Bs.flatten.length + T.length ≤ s) : Srt (Bs.flatten ++ T) := by
  have ht := h.lt
  cases Bs with
  | nil => simpa using h.srt
  | cons B1 Bs =>
    have b1 := h.lenB B1 List.mem_cons_self
    simp only [List.flatten_cons, List.length_append] at h2
    have e1 : Bs.flatten = [] := List.eq_nil_of_length_eq_zero (by omega)
    have e2 : T = [] := List.eq_nil_of_length_eq_zero (by omega)
    rw [List.flatten_cons, e1, e2]
    simpa using b1.2
end Go.Proofs.Ytmglgjchemecjaa.PStab2
