/- Stores into an object of one's own: a byte, a fixup's To, a symbol. -/
import Derived.Test.YtmglgjchemecjaaCCopyI
import Derived.Lib.SliceRun
namespace Go.Proofs.Ytmglgjchemecjaa.BStore
set_option maxRecDepth 200000
open Go.ChangeShapes Go.WideShapes Go.ChangeAt Go.RowKit Kit CFixups CSymbols PObj BObj CMarkRows
theorem own_of {w : World} {base : Nat} {e : TypeId} {size n c : Nat} {A : Option Addr} {xs : List Value} (h : Row w base e size A n c xs) (hn : 0 < n) :
    ∃ g, A = some ⟨g, 0, none⟩ ∧ base ≤ g ∧ g < w.heap.size ∧ blk A c = some g ∧ w.ownsRow base e size (.slice (some ⟨g, 0, none⟩) n c) n xs := by
  have hc : c ≠ 0 := by
    have := h.cap.1
    omega
  have hown : w.ownsRow base e size (.slice A n c) n xs := h.elim (fun h => absurd h.2.1 hc) id
  rcases hown.2 with ⟨hv, h0⟩ | ⟨g, cap, c', hv, hN, _⟩
  · omega
  · injection hv with hA
    subst hA
    have hb : blk (some ⟨g, 0, none⟩) c = some g := by
      unfold blk
      rw [if_neg hc]
      rfl
    exact ⟨g, rfl, hN, (h.lt g hb).2, hb, hown⟩
/-- One section's rows turn, all else stays. -/
theorem OwnO.swap {w w' : World} {base c yc : Nat} {A Y : Option Addr} {l1 l2 : List SV} {q : SV} {ys : List YD} (h : OwnO w base ⟨A, c, l1 ++ q :: l2, Y, yc, ys⟩) (q' : SV)
    (hs : secC q' = secC q) (h1 : q'.A = q.A) (h2 : q'.c = q.c) (h3 : q'.F = q.F) (h4 : q'.fc = q.fc) (hq' : RwS w' base q') (g : Nat) (hg : sblk q g) (hk : ∀ k, k ≠ g → w'.heap[k]? = w.heap[k]?) :
    OwnO w' base ⟨A, c, l1 ++ q' :: l2, Y, yc, ys⟩ := by
  obtain ⟨⟨hrow, hrw, hpw⟩, hy⟩ := h
  simp only at hrow hrw hpw hy
  have hq := hrw q (by simp)
  unfold PwSs at hpw
  obtain ⟨p1, p2, p3⟩ := List.pairwise_append.1 hpw
  obtain ⟨p4, p5⟩ := List.pairwise_cons.1 p2
  have happ : ∀ x, RwS w base x → (ApS x q ∨ ApS q x) → RwS w' base x := by
    rintro x hx ha
    refine ⟨hx.1.keep fun k hb => hk k ?_, hx.2.keep fun k hb => hk k ?_⟩
    · rintro rfl
      rcases hg with hg | hg
      · rcases ha with ha | ha
        · exact ha.1 _ hb hg
        · exact ha.1 _ hg hb
      · exact apartT hx.1 hq.2 (by decide) _ hb hg
    · rintro rfl
      rcases hg with hg | hg
      · exact apartT hx.2 hq.1 (by decide) _ hb hg
      · rcases ha with ha | ha
        · exact ha.2 _ hb hg
        · exact ha.2 _ hg hb
  have hap : ∀ x, (ApS x q' ↔ ApS x q) ∧ (ApS q' x ↔ ApS q x) := fun x => by
    unfold ApS
    rw [h1, h2, h3, h4]
    exact ⟨Iff.rfl, Iff.rfl⟩
  refine ⟨⟨?_, ?_, ?_⟩, ?_⟩
  · have e1 : cellsOf secC (l1 ++ q' :: l2) = cellsOf secC (l1 ++ q :: l2) := by simp [cellsOf, hs]
    have e2 : (l1 ++ q' :: l2).length = (l1 ++ q :: l2).length := by simp
    show Row w' base _ 6 A (l1 ++ q' :: l2).length c (cellsOf secC (l1 ++ q' :: l2))
    rw [e1, e2]
    refine hrow.keep fun k hb => hk k ?_
    rintro rfl
    rcases hg with hg | hg
    · exact apartT hrow hq.1 (by decide) _ hb hg
    · exact apartT hrow hq.2 (by decide) _ hb hg
  · intro x hx
    rcases List.mem_append.1 hx with hx | hx
    · exact happ x (hrw x (by simp [hx])) (.inl (p3 x hx q (List.mem_cons_self ..)))
    · rcases List.mem_cons.1 hx with rfl | hx
      · exact hq'
      · exact happ x (hrw x (by simp [hx])) (.inr (p4 x hx))
  · show (l1 ++ q' :: l2).Pairwise ApS
    refine List.pairwise_append.2 ⟨p1, List.pairwise_cons.2 ⟨fun x hx => (hap x).2.2 (p4 x hx), p5⟩, fun a ha b hb => ?_⟩
    rcases List.mem_cons.1 hb with rfl | hb
    · exact (hap a).1.2 (p3 a ha q (List.mem_cons_self ..))
    · exact p3 a ha b (List.mem_cons_of_mem _ hb)
  · show Row w' base _ 4 Y ys.length yc _
    refine hy.keep fun k hb => hk k ?_
    rintro rfl
    rcases hg with hg | hg
    · exact apartT hy hq.1 (by decide) _ hb hg
    · exact apartT hy hq.2 (by decide) _ hb hg
/-- The block of a section's row is none of another type's box. -/
theorem setInts8 (l : List Int) (j : Nat) (x : Int) : (ints .u8 l).set j (.int .u8 x) = ints .u8 (l.set j x) := by simp [ints, List.map_set]
theorem OwnO.storeB {w : World} {base c yc : Nat} {A Y : Option Addr} {l1 l2 : List SV} {q : SV} {ys : List YD} (h : OwnO w base ⟨A, c, l1 ++ q :: l2, Y, yc, ys⟩) {g : Nat} (hA : q.A = some ⟨g, 0, none⟩) (i : Nat) (hi : i < q.zs.length) (x : Int) :
    OwnO (w.setCell ⟨g, i, none⟩ (.int .u8 x)) base ⟨A, c, l1 ++ { q with zs := q.zs.set i x } :: l2, Y, yc, ys⟩ := by
  have hq : RwS w base q := h.1.2.1 q (by simp)
  obtain ⟨g', hA', _, _, hb, hown⟩ := own_of hq.1 (by omega)
  rw [hA] at hA'
  simp only [Option.some.injEq, Addr.mk.injEq, and_true] at hA'
  subst hA'
  refine OwnO.swap h { q with zs := q.zs.set i x } (by simp [secC]) rfl rfl rfl rfl ⟨?_, ?_⟩ g (.inl hb) (fun k hk => Below.heap_setCell _ _ _ k hk)
  · refine .inr ?_
    show (w.setCell _ _).ownsRow base _ 1 (.slice q.A (q.zs.set i x).length q.c) (q.zs.set i x).length (ints .u8 (q.zs.set i x))
    rw [List.length_set, ← setInts8, hA]
    exact (hown.stored i _).1
  · exact hq.2.set (a := ⟨g, i, none⟩) (fun k hk e => apartT hq.2 hq.1 (by decide) k hk (by rw [hb, e])) _
theorem setFix (l : List FD) (j : Nat) (z : FD) (hz : l[j]? = some z) (x : Int) : (cellsOf fixupC l).set (j * 4 + 2) (.int .i64 x) = cellsOf fixupC (l.set j (z.1, z.2.1, x, z.2.2.2)) := by
  induction l generalizing j with
  | nil => cases hz
  | cons a l ih =>
    have hc : ∀ u (l : List FD), cellsOf fixupC (u :: l) = fixupC u ++ cellsOf fixupC l := fun u l => by simp [cellsOf]
    cases j with
    | zero =>
      simp only [List.getElem?_cons_zero, Option.some.injEq] at hz
      subst hz
      simp [hc, fixupC]
    | succ j =>
      have e : (j + 1) * 4 + 2 = (fixupC a).length + (j * 4 + 2) := by rw [fixupC_len]; omega
      rw [hc, List.set_cons_succ, hc, e, List.set_append_right _ _ (by omega), Nat.add_sub_cancel_left]
      rw [ih j (by simpa using hz)]
theorem OwnO.storeF {w : World} {base c yc : Nat} {A Y : Option Addr} {l1 l2 : List SV} {q : SV} {ys : List YD} (h : OwnO w base ⟨A, c, l1 ++ q :: l2, Y, yc, ys⟩) {g : Nat} (hF : q.F = some ⟨g, 0, none⟩) (i : Nat) (z : FD) (hz : q.fs[i]? = some z) (x : Int) :
    OwnO (w.setCell ⟨g, i * 4 + 2, none⟩ (.int .i64 x)) base ⟨A, c, l1 ++ { q with fs := q.fs.set i (z.1, z.2.1, x, z.2.2.2) } :: l2, Y, yc, ys⟩ := by
  have hq : RwS w base q := h.1.2.1 q (by simp)
  have hi : i < q.fs.length := (List.getElem?_eq_some_iff.1 hz).1
  obtain ⟨g', hF', _, _, hb, hown⟩ := own_of hq.2 (by omega)
  rw [hF] at hF'
  simp only [Option.some.injEq, Addr.mk.injEq, and_true] at hF'
  subst hF'
  refine OwnO.swap h { q with fs := q.fs.set i (z.1, z.2.1, x, z.2.2.2) } (by simp [secC]) rfl rfl rfl rfl ⟨?_, ?_⟩ g (.inr hb) (fun k hk => Below.heap_setCell _ _ _ k hk)
  · exact hq.1.set (a := ⟨g, i * 4 + 2, none⟩) (fun k hk e => apartT hq.1 hq.2 (by decide) k hk (by rw [hb, e])) _
  · refine .inr ?_
    show (w.setCell _ _).ownsRow base _ 4 (.slice q.F (q.fs.set i (z.1, z.2.1, x, z.2.2.2)).length q.fc) (q.fs.set i (z.1, z.2.1, x, z.2.2.2)).length (cellsOf fixupC (q.fs.set i (z.1, z.2.1, x, z.2.2.2)))
    rw [List.length_set, ← setFix _ _ _ hz, hF]
    exact (hown.stored (i * 4 + 2) _).1
theorem setSym (l : List YD) (j : Nat) (hj : j < l.length) (z : YD) : ((((cellsOf symbolC l).set (j * 4) (.string z.1)).set (j * 4 + 1) (.int .i64 z.2.1)).set (j * 4 + 2) (.int .i64 z.2.2.1)).set (j * 4 + 3) (.int .i64 z.2.2.2) = cellsOf symbolC (l.set j z) := by
  induction l generalizing j with
  | nil => cases hj
  | cons a l ih =>
    have hc : ∀ u (l : List YD), cellsOf symbolC (u :: l) = symbolC u ++ cellsOf symbolC l := fun u l => by simp [cellsOf]
    cases j with
    | zero => simp [hc, symbolC]
    | succ j =>
      have e : ∀ m, (j + 1) * 4 + m = (symbolC a).length + (j * 4 + m) := fun m => by rw [symbolC_len]; omega
      have e0 : (j + 1) * 4 = (symbolC a).length + (j * 4) := by rw [symbolC_len]; omega
      rw [hc, List.set_cons_succ, hc, e, e, e, e0, List.set_append_right _ _ (by omega), Nat.add_sub_cancel_left, List.set_append_right _ _ (by omega), Nat.add_sub_cancel_left, List.set_append_right _ _ (by omega), Nat.add_sub_cancel_left, List.set_append_right _ _ (by omega), Nat.add_sub_cancel_left]
      rw [ih j (by simpa using hj)]
/-- A symbol put in place. -/
def putY (w : World) (g i : Nat) (z : YD) : World := (((w.setCell ⟨g, i, none⟩ (.string z.1)).setCell ⟨g, i + 1, none⟩ (.int .i64 z.2.1)).setCell ⟨g, i + 2, none⟩ (.int .i64 z.2.2.1)).setCell ⟨g, i + 3, none⟩ (.int .i64 z.2.2.2)
theorem putY_block (w : World) (g i : Nat) (z : YD) (k : Nat) (hk : k ≠ g) : (putY w g i z).heap[k]? = w.heap[k]? := by
  unfold putY
  rw [Below.heap_setCell _ _ _ k hk, Below.heap_setCell _ _ _ k hk, Below.heap_setCell _ _ _ k hk, Below.heap_setCell _ _ _ k hk]
theorem putY_below {B : Nat} {a w : World} {g i : Nat} {z : YD} (h : Below B a w) (hg : B ≤ g) : Below B a (putY w g i z) :=
  (((h.setCell (p := ⟨g, i, none⟩) hg _).setCell (p := ⟨g, i + 1, none⟩) hg _).setCell (p := ⟨g, i + 2, none⟩) hg _).setCell (p := ⟨g, i + 3, none⟩) hg _
theorem OwnO.storeY {w : World} {base c yc : Nat} {A : Option Addr} {ps : List SV} {g : Nat} {ys : List YD} (h : OwnO w base ⟨A, c, ps, some ⟨g, 0, none⟩, yc, ys⟩) (i : Nat) (hi : i < ys.length) (z : YD) :
    OwnO (putY w g (i * 4) z) base ⟨A, c, ps, some ⟨g, 0, none⟩, yc, ys.set i z⟩ := by
  obtain ⟨⟨hrow, hrw, hpw⟩, hy⟩ := h
  simp only at hrow hrw hpw hy
  obtain ⟨g', hA', _, _, hb, hown⟩ := own_of hy (by omega)
  simp only [Option.some.injEq, Addr.mk.injEq, and_true] at hA'
  subst hA'
  have hkeep := putY_block w g (i * 4) z
  refine ⟨⟨hrow.keep fun k hk => hkeep k ?_, fun p hp => ⟨(hrw p hp).1.keep fun k hk => hkeep k ?_, (hrw p hp).2.keep fun k hk => hkeep k ?_⟩, hpw⟩, ?_⟩
  · rintro rfl
    exact apartT hrow hy (by decide) _ hk hb
  · rintro rfl
    exact apartT (hrw p hp).1 hy (by decide) _ hk hb
  · rintro rfl
    exact apartT (hrw p hp).2 hy (by decide) _ hk hb
  · refine .inr ?_
    show (putY w g (i * 4) z).ownsRow base _ 4 (.slice (some ⟨g, 0, none⟩) (ys.set i z).length yc) (ys.set i z).length (cellsOf symbolC (ys.set i z))
    rw [List.length_set, ← setSym _ _ hi]
    exact ((((hown.stored (i * 4) _).1.stored (i * 4 + 1) _).1.stored (i * 4 + 2) _).1.stored (i * 4 + 3) _).1
/-- A box of another type than the rows' stays when the object is stored into. -/
theorem cell_own {w : World} {base : Nat} {e : TypeId} {size n c : Nat} {g : Nat} {xs : List Value} (h : w.ownsRow base e size (.slice (some ⟨g, 0, none⟩) n c) n xs) : ∃ cs, Box w g e cs := box_of_own h
end Go.Proofs.Ytmglgjchemecjaa.BStore
