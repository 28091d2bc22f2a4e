/- The program's keepSymbols, at whatever choice, and StripWanted. -/
import Derived.Test.YtmglgjchemecjaaFnWarningsOfM12
namespace Go.Proofs.Ytmglgjchemecjaa.CKeep
set_option maxRecDepth 200000
open Go.ChangeShapes Go.WideShapes Go.ChangeAt Go.RowKit Kit CCode CFixups CSymbols PObj BObj CMarkRows PValid CSecValid CUses CCovers CObjValid PWarn CCopyS CCopyI BStore PClear PSort CCmp CIns CSort CSortS BObj2
theorem step_make {P : Program} {ops : Array Oper} {o : Oper} {a : Act} {K : Act → World → Prop} {Q : Exit → Act → World → Prop} {E : Prop} {w : World}
    (hg : o.guard = none) (l c : Operand) (t : TypeId) (hop : o.op = Op.makeSlice t l c)
    (base : Nat) (e : TypeId) (i : TypeInfo) (z : Value) (size : Nat) (h1 : P.underlying t = some (.slice e)) (h2 : P.info? e = some i) (h3 : i.zero = some z) (h4 : i.size = size)
    (kl kc : IntKind) (L C : Int) (n : Nat) (hl : a.eval l = .int kl L) (hc : a.eval c = .int kc C) (hL : L = (n : Int)) (hC : C = (n : Int)) (b2 : i.bytes * n ≤ 281474976710656) (b3 : n ≤ maxLen) (b4 : base ≤ w.heap.size)
    (hK : ∀ w', w'.ownsRow base e size (.slice (some ⟨w.heap.size, 0, none⟩) n n) n (madeCells z.cells (n * size)).toList → w.grownBy w' none → K (a.put o.dst (.slice (some ⟨w.heap.size, 0, none⟩) n n)) w') :
    if Region.wanted o (yielded ops a.tmps) = true then Oper.wp P o a w K Q else E := by
  have hw : Region.wanted o (yielded ops a.tmps) = true := by simp [Region.wanted, hg]
  rw [if_pos hw]
  obtain ⟨w', hrun, r1, r2⟩ := run_make_full (P := P) w base t e i z size h1 h2 h3 h4 kl kc n b2 b3 b4
  subst hL
  subst hC
  unfold Oper.wp
  simp [execOp, hop, hl, hc, hrun, Result.andThen]
  exact hK _ r1 r2
/-- What is kept of the first k symbols, and the new numbers. -/
def kp (keep : Nat → Bool) (ys : List YD) : Nat → List YD
  | 0 => []
  | k + 1 => if keep k = true then kp keep ys k ++ [ys.getD k dY] else kp keep ys k
theorem kp_len (keep : Nat → Bool) (ys : List YD) : ∀ k, (kp keep ys k).length ≤ k
  | 0 => by simp [kp]
  | k + 1 => by
    have := kp_len keep ys k
    rw [kp]
    split
    · rw [List.length_append]
      simp
      exact this
    · omega
def nums (keep : Nat → Bool) (ys : List YD) (k n : Nat) : List Nat := (List.range k).map (fun j => (kp keep ys j).length) ++ List.replicate (n - k) 0
theorem nums_len (keep : Nat → Bool) (ys : List YD) (k n : Nat) (h : k ≤ n) : (nums keep ys k n).length = n := by simp [nums]; omega
theorem nums_succ (keep : Nat → Bool) (ys : List YD) (k n : Nat) (h : k < n) : nums keep ys (k + 1) n = (nums keep ys k n).set k (kp keep ys k).length := by
  have e : n - k = (n - (k + 1)) + 1 := by omega
  unfold nums
  rw [List.set_append_right _ _ (by simp), e, List.replicate_succ]
  simp [List.range_succ]
theorem nums_at (keep : Nat → Bool) (ys : List YD) (n x : Nat) (h : x < n) : (nums keep ys n n).getD x 0 = (kp keep ys x).length := by
  unfold nums
  rw [Nat.sub_self, List.replicate_zero, List.append_nil, List.getD_eq_getElem?_getD, List.getElem?_map, List.getElem?_range h]
  rfl
def renT (T : List Nat) (f : FD) : FD := (f.1, f.2.1, ((T.getD f.2.2.1.toNat 0 : Nat) : Int), f.2.2.2)
def renTP (T : List Nat) (p : SV) : SV := { p with fs := p.fs.map (renT T) }
def renTJ (T : List Nat) (p : SV) (j : Nat) : SV := { p with fs := (p.fs.take j).map (renT T) ++ p.fs.drop j }
theorem renTJ_zero (L : List Nat) (p : SV) : renTJ L p 0 = p := by simp [renTJ]
theorem renTJ_all (L : List Nat) (p : SV) {j : Nat} (h : p.fs.length ≤ j) : renTJ L p j = renTP L p := by
  simp [renTJ, renTP, List.take_of_length_le h, List.drop_of_length_le h]
theorem renTJ_len (L : List Nat) (p : SV) (j : Nat) : (renTJ L p j).fs.length = p.fs.length := by simp [renTJ]; omega
theorem renTJ_cells (L : List Nat) (p : SV) (j : Nat) : secC (renTJ L p j) = secC p := by
  simp only [secC, renTJ_len]
  rfl
theorem renTJ_at (L : List Nat) (p : SV) (j : Nat) (h : j < p.fs.length) : (renTJ L p j).fs[j]? = some p.fs[j] := by
  simp only [renTJ]
  rw [List.getElem?_append_right (by simp; omega)]
  simp [List.length_take, Nat.min_eq_left (Nat.le_of_lt h), List.getElem?_eq_getElem h]
theorem renTJ_succ (L : List Nat) (p : SV) (j : Nat) (h : j < p.fs.length) : renTJ L p (j + 1) = { renTJ L p j with fs := (renTJ L p j).fs.set j (renT L p.fs[j]) } := by
  have h1 : p.fs.take (j + 1) = p.fs.take j ++ [p.fs[j]] := take_succ h
  have h2 : p.fs.drop j = p.fs[j] :: p.fs.drop (j + 1) := List.drop_eq_getElem_cons h
  have h3 : (p.fs.take j).length = j := by rw [List.length_take]; omega
  simp only [renTJ, SV.mk.injEq, true_and]
  rw [h1, h2]
  generalize p.fs.take j = T at *
  subst h3
  simp [List.set_append]
  rw [h2]
  rfl
def keepS (keep : Nat → Bool) (ys : List YD) (s : SD) : SD := { s with fs := s.fs.map (renT (nums keep ys ys.length ys.length)) }
def keepD (keep : Nat → Bool) (d : OD) : OD := ⟨d.ss.map (keepS keep d.ys), kp keep d.ys d.ys.length⟩
/-- What follows a point that several orders come to is proved once. -/
theorem tail4 {α1 α2 α3 α4 : Type} {F G : α1 → α2 → α3 → α4 → Prop} {A : Prop} (main : Shut (∀ x1 x2 x3 x4, F x1 x2 x3 x4 → G x1 x2 x3 x4) → A) (tail : ∀ x1 x2 x3 x4, F x1 x2 x3 x4 → G x1 x2 x3 x4) : A := main tail
theorem cell_put2 {w : World} {X : Nat} {p : Addr} {u a b : Value} (hne : p.block ≠ X) (h : w.cell? p = some u) : ((w.setCell ⟨X, 0, none⟩ a).setCell ⟨X, 1, none⟩ b).cell? p = some u :=
  (World.cell?_of_block ((Below.heap_setCell _ ⟨X, 1, none⟩ _ _ hne).trans (Below.heap_setCell _ ⟨X, 0, none⟩ _ _ hne))).trans h
/-- What stands while symbols are kept. -/
structure KI (w : World) (R X NM : Nat) (o : OV) (A : Option Addr) (c : Nat) (ps : List SV) (Y : Option Addr) (yc : Nat) (ys : List YD) (n : Nat) (L : List Nat) (wi : World) : Prop where
  own : OwnO wi w.heap.size ⟨A, c, ps, Y, yc, ys⟩
  tb : RowI wi w.heap.size NM n n L
  bx : Box wi X 26 #[.slice A ps.length c, .slice Y ys.length yc]
  bv : Box wi w.heap.size 26 #[.slice o.A o.ps.length o.c, .slice o.Y o.ys.length o.yc]
  br : Box wi R 26 #[.slice none 0 0, .slice none 0 0]
  bl : Below w.heap.size w wi
  lt : w.heap.size < R ∧ R < X
section
variable {w wi wj : World} {R X NM : Nat} {o : OV} {A Y : Option Addr} {c yc n : Nat} {ps : List SV} {ys : List YD} {L : List Nat}
theorem KI.call (h : KI w R X NM o A c ps Y yc ys n L wi) (b : Below wi.heap.size wi wj) : KI w R X NM o A c ps Y yc ys n L wj :=
  ⟨h.own.call b, h.tb.call b, h.bx.call b, h.bv.call b, h.br.call b, h.bl.trans (b.mono h.bl.size), h.lt⟩
theorem blk_pos (NM : Nat) {n : Nat} (hn : 0 < n) : blk (some ⟨NM, 0, none⟩) n = some NM := by
  unfold blk
  rw [if_neg (by omega)]
  rfl
theorem KI.ne (h : KI w R X NM o A c ps Y yc ys n L wi) : NM ≠ X ∧ NM ≠ w.heap.size ∧ NM ≠ R :=
  ⟨own_box h.tb h.bx (by decide) NM rfl, own_box h.tb h.bv (by decide) NM rfl, own_box h.tb h.br (by decide) NM rfl⟩
theorem KI.neO (h : KI w R X NM o A c ps Y yc ys n L wi) (hn : 0 < n) : ∀ k, oblk ⟨A, c, ps, Y, yc, ys⟩ k → k ≠ NM := oblk_ne h.own (Row.own h.tb) (blk_pos NM hn)
theorem KI.setN (h : KI w R X NM o A c ps Y yc ys n L wi) (hn : 0 < n) (k x : Nat) : KI w R X NM o A c ps Y yc ys n (L.set k x) (wi.setCell ⟨NM, k, none⟩ (.int .i64 x)) :=
  ⟨h.own.set (a := ⟨NM, k, none⟩) (h.neO hn) _, h.tb.put k x, box_setFar h.bx (Ne.symm h.ne.1), box_setFar h.bv (Ne.symm h.ne.2.1), box_setFar h.br (Ne.symm h.ne.2.2), h.bl.setCell (p := ⟨NM, k, none⟩) h.tb.lt.1 _, h.lt⟩
theorem rowI_keep {g base n c : Nat} (h : RowI w base g n c L) (hk : wi.heap[g]? = w.heap[g]?) : RowI wi base g n c L := own_keep h (fun k hq => by
  have e : k = g := by simpa [Value.ownBlock] using hq.symm
  subst e
  exact hk)
theorem KI.addY (h : KI w R X NM o A c ps Y yc ys n L wi) (hn : 0 < n) (z : YD) {Y' : Option Addr} {n' c' : Nat} (he : n' = ys.length + 1) (row : Row wj w.heap.size 69 4 Y' n' c' (cellsOf symbolC ys ++ symbolC z)) (g : wi.grownBy wj (blk Y yc)) :
    KI w R X NM o A c ps Y' c' (ys ++ [z]) n L (wj.setCell ⟨X, 1, none⟩ (.slice Y' n' c')) := by
  have hB := h.own.2
  have bx := h.bx.grown g (hB.box h.bx (by decide))
  have bv := h.bv.grown g (hB.box h.bv (by decide))
  have br := h.br.grown g (hB.box h.br (by decide))
  have hne := h.ne
  have hlt := h.lt
  have own := h.own.addY [z] (Y' := Y') (n' := n') (c' := c') he (by simpa [cellsOf] using row) g
  have tb : RowI wj w.heap.size NM n n L := rowI_keep h.tb (g.block NM h.tb.lt.2 (fun e => h.neO hn NM (.inr e.symm) rfl))
  refine ⟨own.set (a := ⟨X, 1, none⟩) (own.ne_box bx (by decide) (by decide) (by decide) (by decide)) _, rowI_keep tb (Below.heap_setCell _ _ _ _ hne.1), ?_, box_setFar bv (by omega), box_setFar br (by omega), (below_grown h.bl g h.bl.size (fun k hk => (hB.lt k hk).1)).setCell (p := ⟨X, 1, none⟩) (by show w.heap.size ≤ X; omega) _, hlt⟩
  have := bx.set 1 (.slice Y' n' c')
  rw [List.length_append]
  subst he
  exact this
theorem KI.setF {l1 l2 : List SV} {q : SV} (h : KI w R X NM o A c (l1 ++ q :: l2) Y yc ys n L wi) (hn : 0 < n) {g : Nat} (hF : q.F = some ⟨g, 0, none⟩) (i : Nat) (z : FD) (hz : q.fs[i]? = some z) (x : Nat) :
    KI w R X NM o A c (l1 ++ { q with fs := q.fs.set i (z.1, z.2.1, (x : Int), z.2.2.2) } :: l2) Y yc ys n L (wi.setCell ⟨g, i * 4 + 2, none⟩ (.int .i64 x)) := by
  have hq : RwS wi w.heap.size q := h.own.1.2.1 _ (by simp)
  have hil : i < q.fs.length := (List.getElem?_eq_some_iff.1 hz).1
  obtain ⟨gf, hF0, hbgf, _, hblk, _⟩ := own_of hq.2 (by omega)
  rw [hF] at hF0
  simp only [Option.some.injEq, Addr.mk.injEq, and_true] at hF0
  subst hF0
  refine ⟨OwnO.storeF h.own hF i z hz x, rowI_keep h.tb (Below.heap_setCell _ _ _ _ (Ne.symm (h.neO hn _ (.inl (.inr ⟨q, by simp, .inr hblk⟩))))), ?_, box_setFar h.bv (Ne.symm (hq.2.box h.bv (by decide) _ hblk)), box_setFar h.br (Ne.symm (hq.2.box h.br (by decide) _ hblk)), h.bl.setCell (p := ⟨g, i * 4 + 2, none⟩) hbgf _, h.lt⟩
  have := box_setFar (i := i * 4 + 2) (u := .int .i64 x) h.bx (Ne.symm (hq.2.box h.bx (by decide) _ hblk))
  simpa using this
end
theorem own_put2 {w : World} {X base : Nat} {cs : Array Value} {o : OV} (h : OwnO w base o) (hb : Box w X 26 cs) (a b : Value) : OwnO ((w.setCell ⟨X, 0, none⟩ a).setCell ⟨X, 1, none⟩ b) base o :=
  h.keep fun k hk => by
    have hne := h.ne_box hb (by decide) (by decide) (by decide) (by decide) k hk
    exact (Below.heap_setCell _ ⟨X, 1, none⟩ _ k hne).trans (Below.heap_setCell _ ⟨X, 0, none⟩ _ k hne)
theorem rowI_put2 {w : World} {X base g n c : Nat} {L : List Nat} {cs : Array Value} (h : RowI w base g n c L) (hb : Box w X 26 cs) (a b : Value) : RowI ((w.setCell ⟨X, 0, none⟩ a).setCell ⟨X, 1, none⟩ b) base g n c L := by
  have hne := own_box h hb (by decide) g rfl
  exact rowI_keep h ((Below.heap_setCell _ ⟨X, 1, none⟩ _ g hne).trans (Below.heap_setCell _ ⟨X, 0, none⟩ _ g hne))
theorem KI.drop {w wi : World} {R X NM : Nat} {o : OV} {A Y : Option Addr} {c yc n : Nat} {ps : List SV} {ys : List YD} {L : List Nat} (h : KI w R X NM o A c ps Y yc ys n L wi) : KI w R X NM o A c ps none 0 [] n L (wi.setCell ⟨X, 1, none⟩ (.slice none 0 0)) := by
  have hlt := h.lt
  have own : OwnO wi w.heap.size ⟨A, c, ps, none, 0, []⟩ := ⟨h.own.1, Row.empty _ _ _ _ _⟩
  exact ⟨own.set (a := ⟨X, 1, none⟩) (own.ne_box h.bx (by decide) (by decide) (by decide) (by decide)) _, rowI_keep h.tb (Below.heap_setCell _ _ _ _ h.ne.1), h.bx.set 1 _, box_setFar h.bv (by omega), box_setFar h.br (by omega), h.bl.setCell (p := ⟨X, 1, none⟩) (by show w.heap.size ≤ X; omega) _, hlt⟩
set_option maxHeartbeats 8000000 in
theorem keepSymbols_any (F : FuncId) (Xs : Array Value) (hF : ∀ zs W, (callFunc F zs).run Try.prog W = .ok (.enter F zs) W) (keep : Nat → Bool) (o : OV) (w : World) (hr : RdO w w.heap.size o) (hf : Fit o) (hn : Nils o) (hok : objOk o.d = true)
    (hc : ∀ W, Below w.heap.size w W → ∀ j, j < o.ys.length → Calls Try.prog F (#[.int .i64 j, .agg #[.string (o.ys.getD j dY).1, .int .i64 (o.ys.getD j dY).2.1, .int .i64 (o.ys.getD j dY).2.2.1, .int .i64 (o.ys.getD j dY).2.2.2]] ++ Xs) W (Ret (.bool (keep j)) W)) :
    Calls Try.prog 50 #[.agg #[.slice o.A o.ps.length o.c, .slice o.Y o.ys.length o.yc], .func (.func F) #[] Xs] w (RetO (keepD keep o.d) w) := by
  obtain ⟨i0, hi1, hi2, hi3, hi4⟩ := info_parts CInts.info64
  have HI := hide (And.intro hi1 (And.intro hi2 (And.intro hi3 hi4)))
  clear hi1 hi2 hi3 hi4
  obtain ⟨iY, hiy1, hiy2, hiy3, hiy4⟩ := info_parts CSymbols.info
  have HIY := hide (And.intro hiy1 (And.intro hiy2 (And.intro hiy3 hiy4)))
  clear hiy1 hiy2 hiy3 hiy4
  have HR := hide hr
  have HF := hide hf
  have HN := hide hn
  have HFF := hide hF
  have HC := hide hc
  have HAL := hide (obj_all hok)
  have hal := obj_all hok
  have hyl : o.ys.length ≤ 12 := by have := hal.2.1; simpa [OV.d] using this
  have HS2 := hide (show o.ps.length ≤ 100 ∧ o.ys.length ≤ 100 from by
    have h1 := hal.1
    simp only [OV.d, List.length_map] at h1
    omega)
  clear hal hok
  clear hr hf hn hF hc
  have HB := hide (show Below w.heap.size w ((w.alloc (.cells #[.slice o.A o.ps.length o.c, .slice o.Y o.ys.length o.yc] 26)).alloc (.cells #[.slice none 0 0, .slice none 0 0] 26)) from (by repeat (first | exact Below.refl _ _ | with_reducible assumption | (refine Below.drew ?_) | (refine Below.drewN ?_ _) | (refine Below.alloc ?_ (by simp; try omega) _) | (refine Below.setCell ?_ (by simp; try omega) _))))
  have HV := hide ((Box.new w 26 #[.slice o.A o.ps.length o.c, .slice o.Y o.ys.length o.yc]).alloc (.cells #[.slice none 0 0, .slice none 0 0] 26))
  have HR0 := (Box.new (w.alloc (.cells #[.slice o.A o.ps.length o.c, .slice o.Y o.ys.length o.yc] 26)) 26 #[.slice none 0 0, .slice none 0 0])
  simp only [World.size_alloc] at HR0
  have HRR := hide HR0
  clear HR0
  go_enter Try.func50, Try.ntmps50
  go_wp2_with fail
  generalize (w.alloc (.cells #[.slice o.A o.ps.length o.c, .slice o.Y o.ys.length o.yc] 26)).alloc (.cells #[.slice none 0 0, .slice none 0 0] 26) = w0 at *
  have hVR : w.heap.size < w.heap.size + 1 := by omega
  generalize w.heap.size + 1 = R at *
  have HV0 := hide HV.out
  have v0 := HV.out.cell 0
  have v1 := HV.out.cell 1
  simp only [List.getElem?_toArray, List.getElem?_cons_zero, List.getElem?_cons_succ] at v0 v1
  refine Rw.start (by kernel_rfl) ?_
  have HH := hide (show w0.drew.cell? ⟨w.heap.size, 0, none⟩ = some (.slice o.A o.ps.length o.c) ∧ w0.drew.cell? ⟨w.heap.size, 1, none⟩ = some (.slice o.Y o.ys.length o.yc) from ⟨v0, v1⟩)
  clear v0 v1 HV0
  refine Rw.take (i := 0) (v := ?_) (fun V => V.cell? ⟨w.heap.size, 0, none⟩ = some (.slice o.A o.ps.length o.c) ∧ V.cell? ⟨w.heap.size, 1, none⟩ = some (.slice o.Y o.ys.length o.yc)) rfl (by kernel_rfl) (by kernel_rfl) (by kernel_rfl) (by kernel_rfl) (fun _ _ _ h => h) (by repeat (first | exact Rw.re0 | apply Rw.rePlus)) (Or.inl ⟨by rfl, ?_⟩) HH.out ?_
  rotate_left 1
  focus (intro w hSw; (try dsimp only at hSw); go_simp; (try with_reducible rfl))
  try simp only [List.getElem_toArray, List.getElem_cons_succ, List.getElem_cons_zero, Act.put, List.setIfInBounds_toArray, List.set_cons_zero, List.set_cons_succ]
  refine Rw.comp (i := 2) (v := ?_) rfl (by kernel_rfl) (by kernel_rfl) (by kernel_rfl) (fun _ _ _ h => h) (by repeat (first | exact Rw.re0 | apply Rw.rePlus)) (Or.inl ⟨by rfl, ?_⟩) ?_
  rotate_left 1
  focus (intro w hSw; (try dsimp only at hSw); go_simp; (try with_reducible rfl))
  try simp only [List.getElem_toArray, List.getElem_cons_succ, List.getElem_cons_zero, Act.put, List.setIfInBounds_toArray, List.set_cons_zero, List.set_cons_succ]
  refine Rw.take (i := 3) (v := ?_) (fun V => V.cell? ⟨w.heap.size, 1, none⟩ = some (.slice o.Y o.ys.length o.yc)) rfl (by kernel_rfl) (by kernel_rfl) (by kernel_rfl) (by kernel_rfl) (fun _ _ _ h => h) (by repeat (first | exact Rw.re0 | apply Rw.rePlus)) (Or.inl ⟨by rfl, ?_⟩) HH.out.2 ?_
  rotate_left 1
  focus (intro w hSw; (try dsimp only at hSw); go_simp; (try with_reducible rfl))
  try simp only [List.getElem_toArray, List.getElem_cons_succ, List.getElem_cons_zero, Act.put, List.setIfInBounds_toArray, List.set_cons_zero, List.set_cons_succ]
  refine Rw.comp (i := 4) (v := ?_) rfl (by kernel_rfl) (by kernel_rfl) (by kernel_rfl) (fun _ _ _ h => h) (by repeat (first | exact Rw.re0 | apply Rw.rePlus)) (Or.inl ⟨by rfl, ?_⟩) ?_
  rotate_left 1
  focus (intro w hSw; (try dsimp only at hSw); go_simp; (try with_reducible rfl))
  try simp only [List.getElem_toArray, List.getElem_cons_succ, List.getElem_cons_zero, Act.put, List.setIfInBounds_toArray, List.set_cons_zero, List.set_cons_succ]
  clear HH
  replace HB := hide (HB.out.drew)
  replace HV := hide (HV.out.drew)
  replace HRR := hide (HRR.out.drew)
  generalize w0.drew = vv0 at *
  apply tail4 (F := fun (v : World) (X NM : Nat) (o1 : OV) => KI w R X NM o o1.A o1.c o1.ps o1.Y o1.yc o1.ys o.ys.length (nums keep o.ys 0 o.ys.length) v ∧ o1.d = o.d)
  · intro HT
    refine Rw.three (i := 1) (j := 5) (l := 6) rfl rfl rfl (by kernel_rfl) (fun K hK => ?_) (fun K hK => ?_) (fun K hK => ?_)
    · go_simp
      refine (copyObject_any o vv0 ((HR.out.below HB.out).more HB.out.size) HF.out HN.out HS2.out).mono ?_
      rintro e vv1 ⟨o1, rfl, hd, hown, b1⟩
      refine hK.out _ _ (by repeat' (first | exact trivial | exact (fun _ h => ⟨Rw.cell_below b1 h.1, Rw.cell_below b1 h.2⟩) | exact (fun _ h => Rw.cell_below b1 h) | refine And.intro ?_ ?_)) ?_
      clear hK K
      try simp only [List.getElem_toArray, List.getElem_cons_succ, List.getElem_cons_zero, Act.put, List.setIfInBounds_toArray, List.set_cons_zero, List.set_cons_succ]
      simp only [OV.v]
      have HO := hide (hown.down HB.out.size)
      have HD := hide hd
      clear hd hown
      replace HB := hide (HB.out.trans (b1.mono HB.out.size))
      replace HV := hide (HV.out.call b1)
      replace HRR := hide (HRR.out.call b1)
      clear b1
      refine Rw.two (i := 5) (j := 6) rfl rfl (by kernel_rfl) (fun K hK => ?_) (fun K hK => ?_)
      · refine step_make rfl _ _ _ rfl w.heap.size 3 i0 (.int .i64 0) 1 Try.underlying59 HI.out.1 HI.out.2.1 HI.out.2.2.1 .i64 .i64 _ _ o.ys.length rfl rfl rfl rfl (by rw [HI.out.2.2.2]; omega) (by unfold maxLen; omega) HB.out.size ?_
        intro vv2 r1 r2
        have b1 : Below vv1.heap.size vv1 vv2 := below_grown (Below.refl _ _) r2 (Nat.le_refl _) (fun k hk => by cases hk)
        refine hK.out _ _ (by repeat' (first | exact trivial | exact (fun _ h => ⟨Rw.cell_below b1 h.1, Rw.cell_below b1 h.2⟩) | exact (fun _ h => Rw.cell_below b1 h) | refine And.intro ?_ ?_)) ?_
        clear hK K
        try simp only [List.getElem_toArray, List.getElem_cons_succ, List.getElem_cons_zero, Act.put, List.setIfInBounds_toArray, List.set_cons_zero, List.set_cons_succ]
        have HNM := hide (show RowI vv2 w.heap.size vv1.heap.size o.ys.length o.ys.length (nums keep o.ys 0 o.ys.length) from by rw [zero_cells] at r1; simpa [RowI, nums, toI] using r1)
        clear r1 r2
        replace HB := hide (HB.out.trans (b1.mono HB.out.size))
        replace HV := hide (HV.out.call b1)
        replace HRR := hide (HRR.out.call b1)
        replace HO := hide (HO.out.call b1)
        clear b1
        generalize vv1.heap.size = NM at *
        refine Rw.one (i := 6) rfl (by kernel_rfl) (fun K hK => ?_)
        go_simp
        have b1 : Below vv2.heap.size vv2 (vv2.alloc (.cells #[.slice none 0 0, .slice none 0 0] 26)) := (by repeat (first | exact Below.refl _ _ | with_reducible assumption | (refine Below.drew ?_) | (refine Below.drewN ?_ _) | (refine Below.alloc ?_ (by simp; try omega) _) | (refine Below.setCell ?_ (by simp; try omega) _)))
        refine hK.out _ _ (by repeat' (first | exact trivial | exact (fun _ h => ⟨Rw.cell_below b1 h.1, Rw.cell_below b1 h.2⟩) | exact (fun _ h => Rw.cell_below b1 h) | refine And.intro ?_ ?_)) ?_
        clear hK K
        try simp only [List.getElem_toArray, List.getElem_cons_succ, List.getElem_cons_zero, Act.put, List.setIfInBounds_toArray, List.set_cons_zero, List.set_cons_succ]
        have HX := hide (Box.new vv2 26 #[.slice none 0 0, .slice none 0 0])
        have hXR : R < vv2.heap.size := HRR.out.lt
        replace HB := hide (HB.out.trans (b1.mono HB.out.size))
        replace HV := hide (HV.out.call b1)
        replace HRR := hide (HRR.out.call b1)
        replace HO := hide (HO.out.call b1)
        replace HNM := hide (HNM.out.call b1)
        clear b1
        generalize vv2.alloc (.cells #[.slice none 0 0, .slice none 0 0] 26) = vv3 at *
        generalize vv2.heap.size = X at *
        refine Rw.one (i := 7) rfl (by kernel_rfl) (fun K hK => ?_)
        have xf0 := HX.out.frozen 0
        have x0 := HX.out.cell 0
        have x1 := HX.out.cell 1
        simp only [List.getElem?_toArray, List.getElem?_cons_zero, List.getElem?_cons_succ] at x0 x1
        have xf1 := HX.out.frozen 1
        have hxl := HX.out.lt
        go_simp
        refine hK.out _ _ (by repeat' (first | exact trivial | exact (fun _ h => ⟨cell_put2 (by dsimp only; omega) h.1, cell_put2 (by dsimp only; omega) h.2⟩) | exact (fun _ h => cell_put2 (by dsimp only; omega) h) | refine And.intro ?_ ?_)) ?_
        clear hK K
        try simp only [List.getElem_toArray, List.getElem_cons_succ, List.getElem_cons_zero, Act.put, List.setIfInBounds_toArray, List.set_cons_zero, List.set_cons_succ]
        clear x0 x1 xf0 xf1 hxl
        replace HO := hide (own_put2 HO.out HX.out (.slice o1.A o1.ps.length o1.c) (.slice o1.Y o1.ys.length o1.yc))
        replace HNM := hide (rowI_put2 HNM.out HX.out (.slice o1.A o1.ps.length o1.c) (.slice o1.Y o1.ys.length o1.yc))
        replace HX := hide (show Box ((vv3.setCell ⟨X, 0, none⟩ (.slice o1.A o1.ps.length o1.c)).setCell ⟨X, 1, none⟩ (.slice o1.Y o1.ys.length o1.yc)) X _ _ from (HX.out.set 0 _).set 1 _)
        replace HB := hide (show Below w.heap.size w ((vv3.setCell ⟨X, 0, none⟩ (.slice o1.A o1.ps.length o1.c)).setCell ⟨X, 1, none⟩ (.slice o1.Y o1.ys.length o1.yc)) from (HB.out.setCell (p := ⟨X, 0, none⟩) (by show w.heap.size ≤ X; omega) _).setCell (p := ⟨X, 1, none⟩) (by show w.heap.size ≤ X; omega) _)
        replace HV := hide (show Box ((vv3.setCell ⟨X, 0, none⟩ (.slice o1.A o1.ps.length o1.c)).setCell ⟨X, 1, none⟩ (.slice o1.Y o1.ys.length o1.yc)) w.heap.size _ _ from box_setFar (box_setFar HV.out (by omega)) (by omega))
        replace HRR := hide (show Box ((vv3.setCell ⟨X, 0, none⟩ (.slice o1.A o1.ps.length o1.c)).setCell ⟨X, 1, none⟩ (.slice o1.Y o1.ys.length o1.yc)) R _ _ from box_setFar (box_setFar HRR.out (by omega)) (by omega))
        generalize ((vv3.setCell ⟨X, 0, none⟩ (.slice o1.A o1.ps.length o1.c)).setCell ⟨X, 1, none⟩ (.slice o1.Y o1.ys.length o1.yc)) = vv4 at *
        refine Rw.comp (i := 8) (v := ?_) rfl (by kernel_rfl) (by kernel_rfl) (by kernel_rfl) (fun _ _ _ h => h) (by repeat (first | exact Rw.re0 | apply Rw.rePlus)) (Or.inl ⟨by rfl, ?_⟩) ?_
        rotate_left 1
        focus (intro w hSw; (try dsimp only at hSw); go_simp; (try with_reducible rfl))
        try simp only [List.getElem_toArray, List.getElem_cons_succ, List.getElem_cons_zero, Act.put, List.setIfInBounds_toArray, List.set_cons_zero, List.set_cons_succ]
        refine Rw.done (by kernel_rfl) ?_ _
        exact HT.out vv4 X NM o1 ⟨⟨HO.out, HNM.out, HX.out, HV.out, HRR.out, HB.out, by omega, by omega⟩, HD.out⟩
      · go_simp
        have b1 : Below vv1.heap.size vv1 (vv1.alloc (.cells #[.slice none 0 0, .slice none 0 0] 26)) := (by repeat (first | exact Below.refl _ _ | with_reducible assumption | (refine Below.drew ?_) | (refine Below.drewN ?_ _) | (refine Below.alloc ?_ (by simp; try omega) _) | (refine Below.setCell ?_ (by simp; try omega) _)))
        refine hK.out _ _ (by repeat' (first | exact trivial | exact (fun _ h => ⟨Rw.cell_below b1 h.1, Rw.cell_below b1 h.2⟩) | exact (fun _ h => Rw.cell_below b1 h) | refine And.intro ?_ ?_)) ?_
        clear hK K
        try simp only [List.getElem_toArray, List.getElem_cons_succ, List.getElem_cons_zero, Act.put, List.setIfInBounds_toArray, List.set_cons_zero, List.set_cons_succ]
        have HX := hide (Box.new vv1 26 #[.slice none 0 0, .slice none 0 0])
        have hXR : R < vv1.heap.size := HRR.out.lt
        replace HB := hide (HB.out.trans (b1.mono HB.out.size))
        replace HV := hide (HV.out.call b1)
        replace HRR := hide (HRR.out.call b1)
        replace HO := hide (HO.out.call b1)
        clear b1
        generalize vv1.alloc (.cells #[.slice none 0 0, .slice none 0 0] 26) = vv2 at *
        generalize vv1.heap.size = X at *
        refine Rw.two (i := 5) (j := 7) rfl rfl (by kernel_rfl) (fun K hK => ?_) (fun K hK => ?_)
        · refine step_make rfl _ _ _ rfl w.heap.size 3 i0 (.int .i64 0) 1 Try.underlying59 HI.out.1 HI.out.2.1 HI.out.2.2.1 .i64 .i64 _ _ o.ys.length rfl rfl rfl rfl (by rw [HI.out.2.2.2]; omega) (by unfold maxLen; omega) HB.out.size ?_
          intro vv3 r1 r2
          have b1 : Below vv2.heap.size vv2 vv3 := below_grown (Below.refl _ _) r2 (Nat.le_refl _) (fun k hk => by cases hk)
          refine hK.out _ _ (by repeat' (first | exact trivial | exact (fun _ h => ⟨Rw.cell_below b1 h.1, Rw.cell_below b1 h.2⟩) | exact (fun _ h => Rw.cell_below b1 h) | refine And.intro ?_ ?_)) ?_
          clear hK K
          try simp only [List.getElem_toArray, List.getElem_cons_succ, List.getElem_cons_zero, Act.put, List.setIfInBounds_toArray, List.set_cons_zero, List.set_cons_succ]
          have HNM := hide (show RowI vv3 w.heap.size vv2.heap.size o.ys.length o.ys.length (nums keep o.ys 0 o.ys.length) from by rw [zero_cells] at r1; simpa [RowI, nums, toI] using r1)
          clear r1 r2
          replace HB := hide (HB.out.trans (b1.mono HB.out.size))
          replace HV := hide (HV.out.call b1)
          replace HRR := hide (HRR.out.call b1)
          replace HO := hide (HO.out.call b1)
          replace HX := hide (HX.out.call b1)
          clear b1
          generalize vv2.heap.size = NM at *
          refine Rw.one (i := 7) rfl (by kernel_rfl) (fun K hK => ?_)
          have xf0 := HX.out.frozen 0
          have x0 := HX.out.cell 0
          have x1 := HX.out.cell 1
          simp only [List.getElem?_toArray, List.getElem?_cons_zero, List.getElem?_cons_succ] at x0 x1
          have xf1 := HX.out.frozen 1
          have hxl := HX.out.lt
          go_simp
          refine hK.out _ _ (by repeat' (first | exact trivial | exact (fun _ h => ⟨cell_put2 (by dsimp only; omega) h.1, cell_put2 (by dsimp only; omega) h.2⟩) | exact (fun _ h => cell_put2 (by dsimp only; omega) h) | refine And.intro ?_ ?_)) ?_
          clear hK K
          try simp only [List.getElem_toArray, List.getElem_cons_succ, List.getElem_cons_zero, Act.put, List.setIfInBounds_toArray, List.set_cons_zero, List.set_cons_succ]
          clear x0 x1 xf0 xf1 hxl
          replace HO := hide (own_put2 HO.out HX.out (.slice o1.A o1.ps.length o1.c) (.slice o1.Y o1.ys.length o1.yc))
          replace HNM := hide (rowI_put2 HNM.out HX.out (.slice o1.A o1.ps.length o1.c) (.slice o1.Y o1.ys.length o1.yc))
          replace HX := hide (show Box ((vv3.setCell ⟨X, 0, none⟩ (.slice o1.A o1.ps.length o1.c)).setCell ⟨X, 1, none⟩ (.slice o1.Y o1.ys.length o1.yc)) X _ _ from (HX.out.set 0 _).set 1 _)
          replace HB := hide (show Below w.heap.size w ((vv3.setCell ⟨X, 0, none⟩ (.slice o1.A o1.ps.length o1.c)).setCell ⟨X, 1, none⟩ (.slice o1.Y o1.ys.length o1.yc)) from (HB.out.setCell (p := ⟨X, 0, none⟩) (by show w.heap.size ≤ X; omega) _).setCell (p := ⟨X, 1, none⟩) (by show w.heap.size ≤ X; omega) _)
          replace HV := hide (show Box ((vv3.setCell ⟨X, 0, none⟩ (.slice o1.A o1.ps.length o1.c)).setCell ⟨X, 1, none⟩ (.slice o1.Y o1.ys.length o1.yc)) w.heap.size _ _ from box_setFar (box_setFar HV.out (by omega)) (by omega))
          replace HRR := hide (show Box ((vv3.setCell ⟨X, 0, none⟩ (.slice o1.A o1.ps.length o1.c)).setCell ⟨X, 1, none⟩ (.slice o1.Y o1.ys.length o1.yc)) R _ _ from box_setFar (box_setFar HRR.out (by omega)) (by omega))
          generalize ((vv3.setCell ⟨X, 0, none⟩ (.slice o1.A o1.ps.length o1.c)).setCell ⟨X, 1, none⟩ (.slice o1.Y o1.ys.length o1.yc)) = vv4 at *
          refine Rw.comp (i := 8) (v := ?_) rfl (by kernel_rfl) (by kernel_rfl) (by kernel_rfl) (fun _ _ _ h => h) (by repeat (first | exact Rw.re0 | apply Rw.rePlus)) (Or.inl ⟨by rfl, ?_⟩) ?_
          rotate_left 1
          focus (intro w hSw; (try dsimp only at hSw); go_simp; (try with_reducible rfl))
          try simp only [List.getElem_toArray, List.getElem_cons_succ, List.getElem_cons_zero, Act.put, List.setIfInBounds_toArray, List.set_cons_zero, List.set_cons_succ]
          refine Rw.done (by kernel_rfl) ?_ _
          exact HT.out vv4 X NM o1 ⟨⟨HO.out, HNM.out, HX.out, HV.out, HRR.out, HB.out, by omega, by omega⟩, HD.out⟩
        · have xf0 := HX.out.frozen 0
          have x0 := HX.out.cell 0
          have x1 := HX.out.cell 1
          simp only [List.getElem?_toArray, List.getElem?_cons_zero, List.getElem?_cons_succ] at x0 x1
          have xf1 := HX.out.frozen 1
          have hxl := HX.out.lt
          go_simp
          refine hK.out _ _ (by repeat' (first | exact trivial | exact (fun _ h => ⟨cell_put2 (by dsimp only; omega) h.1, cell_put2 (by dsimp only; omega) h.2⟩) | exact (fun _ h => cell_put2 (by dsimp only; omega) h) | refine And.intro ?_ ?_)) ?_
          clear hK K
          try simp only [List.getElem_toArray, List.getElem_cons_succ, List.getElem_cons_zero, Act.put, List.setIfInBounds_toArray, List.set_cons_zero, List.set_cons_succ]
          clear x0 x1 xf0 xf1 hxl
          replace HO := hide (own_put2 HO.out HX.out (.slice o1.A o1.ps.length o1.c) (.slice o1.Y o1.ys.length o1.yc))
          replace HX := hide (show Box ((vv2.setCell ⟨X, 0, none⟩ (.slice o1.A o1.ps.length o1.c)).setCell ⟨X, 1, none⟩ (.slice o1.Y o1.ys.length o1.yc)) X _ _ from (HX.out.set 0 _).set 1 _)
          replace HB := hide (show Below w.heap.size w ((vv2.setCell ⟨X, 0, none⟩ (.slice o1.A o1.ps.length o1.c)).setCell ⟨X, 1, none⟩ (.slice o1.Y o1.ys.length o1.yc)) from (HB.out.setCell (p := ⟨X, 0, none⟩) (by show w.heap.size ≤ X; omega) _).setCell (p := ⟨X, 1, none⟩) (by show w.heap.size ≤ X; omega) _)
          replace HV := hide (show Box ((vv2.setCell ⟨X, 0, none⟩ (.slice o1.A o1.ps.length o1.c)).setCell ⟨X, 1, none⟩ (.slice o1.Y o1.ys.length o1.yc)) w.heap.size _ _ from box_setFar (box_setFar HV.out (by omega)) (by omega))
          replace HRR := hide (show Box ((vv2.setCell ⟨X, 0, none⟩ (.slice o1.A o1.ps.length o1.c)).setCell ⟨X, 1, none⟩ (.slice o1.Y o1.ys.length o1.yc)) R _ _ from box_setFar (box_setFar HRR.out (by omega)) (by omega))
          generalize ((vv2.setCell ⟨X, 0, none⟩ (.slice o1.A o1.ps.length o1.c)).setCell ⟨X, 1, none⟩ (.slice o1.Y o1.ys.length o1.yc)) = vv3 at *
          refine Rw.one (i := 5) rfl (by kernel_rfl) (fun K hK => ?_)
          refine step_make rfl _ _ _ rfl w.heap.size 3 i0 (.int .i64 0) 1 Try.underlying59 HI.out.1 HI.out.2.1 HI.out.2.2.1 .i64 .i64 _ _ o.ys.length rfl rfl rfl rfl (by rw [HI.out.2.2.2]; omega) (by unfold maxLen; omega) HB.out.size ?_
          intro vv4 r1 r2
          have b1 : Below vv3.heap.size vv3 vv4 := below_grown (Below.refl _ _) r2 (Nat.le_refl _) (fun k hk => by cases hk)
          refine hK.out _ _ (by repeat' (first | exact trivial | exact (fun _ h => ⟨Rw.cell_below b1 h.1, Rw.cell_below b1 h.2⟩) | exact (fun _ h => Rw.cell_below b1 h) | refine And.intro ?_ ?_)) ?_
          clear hK K
          try simp only [List.getElem_toArray, List.getElem_cons_succ, List.getElem_cons_zero, Act.put, List.setIfInBounds_toArray, List.set_cons_zero, List.set_cons_succ]
          have HNM := hide (show RowI vv4 w.heap.size vv3.heap.size o.ys.length o.ys.length (nums keep o.ys 0 o.ys.length) from by rw [zero_cells] at r1; simpa [RowI, nums, toI] using r1)
          clear r1 r2
          replace HB := hide (HB.out.trans (b1.mono HB.out.size))
          replace HV := hide (HV.out.call b1)
          replace HRR := hide (HRR.out.call b1)
          replace HO := hide (HO.out.call b1)
          replace HX := hide (HX.out.call b1)
          clear b1
          generalize vv3.heap.size = NM at *
          refine Rw.comp (i := 8) (v := ?_) rfl (by kernel_rfl) (by kernel_rfl) (by kernel_rfl) (fun _ _ _ h => h) (by repeat (first | exact Rw.re0 | apply Rw.rePlus)) (Or.inl ⟨by rfl, ?_⟩) ?_
          rotate_left 1
          focus (intro w hSw; (try dsimp only at hSw); go_simp; (try with_reducible rfl))
          try simp only [List.getElem_toArray, List.getElem_cons_succ, List.getElem_cons_zero, Act.put, List.setIfInBounds_toArray, List.set_cons_zero, List.set_cons_succ]
          refine Rw.done (by kernel_rfl) ?_ _
          exact HT.out vv4 X NM o1 ⟨⟨HO.out, HNM.out, HX.out, HV.out, HRR.out, HB.out, by omega, by omega⟩, HD.out⟩
    · refine step_make rfl _ _ _ rfl w.heap.size 3 i0 (.int .i64 0) 1 Try.underlying59 HI.out.1 HI.out.2.1 HI.out.2.2.1 .i64 .i64 _ _ o.ys.length rfl rfl rfl rfl (by rw [HI.out.2.2.2]; omega) (by unfold maxLen; omega) HB.out.size ?_
      intro vv1 r1 r2
      have b1 : Below vv0.heap.size vv0 vv1 := below_grown (Below.refl _ _) r2 (Nat.le_refl _) (fun k hk => by cases hk)
      refine hK.out _ _ (by repeat' (first | exact trivial | exact (fun _ h => ⟨Rw.cell_below b1 h.1, Rw.cell_below b1 h.2⟩) | exact (fun _ h => Rw.cell_below b1 h) | refine And.intro ?_ ?_)) ?_
      clear hK K
      try simp only [List.getElem_toArray, List.getElem_cons_succ, List.getElem_cons_zero, Act.put, List.setIfInBounds_toArray, List.set_cons_zero, List.set_cons_succ]
      have HNM := hide (show RowI vv1 w.heap.size vv0.heap.size o.ys.length o.ys.length (nums keep o.ys 0 o.ys.length) from by rw [zero_cells] at r1; simpa [RowI, nums, toI] using r1)
      clear r1 r2
      replace HB := hide (HB.out.trans (b1.mono HB.out.size))
      replace HV := hide (HV.out.call b1)
      replace HRR := hide (HRR.out.call b1)
      clear b1
      generalize vv0.heap.size = NM at *
      refine Rw.two (i := 1) (j := 6) rfl rfl (by kernel_rfl) (fun K hK => ?_) (fun K hK => ?_)
      · go_simp
        refine (copyObject_any o vv1 ((HR.out.below HB.out).more HB.out.size) HF.out HN.out HS2.out).mono ?_
        rintro e vv2 ⟨o1, rfl, hd, hown, b1⟩
        refine hK.out _ _ (by repeat' (first | exact trivial | exact (fun _ h => ⟨Rw.cell_below b1 h.1, Rw.cell_below b1 h.2⟩) | exact (fun _ h => Rw.cell_below b1 h) | refine And.intro ?_ ?_)) ?_
        clear hK K
        try simp only [List.getElem_toArray, List.getElem_cons_succ, List.getElem_cons_zero, Act.put, List.setIfInBounds_toArray, List.set_cons_zero, List.set_cons_succ]
        simp only [OV.v]
        have HO := hide (hown.down HB.out.size)
        have HD := hide hd
        clear hd hown
        replace HB := hide (HB.out.trans (b1.mono HB.out.size))
        replace HV := hide (HV.out.call b1)
        replace HRR := hide (HRR.out.call b1)
        replace HNM := hide (HNM.out.call b1)
        clear b1
        refine Rw.one (i := 6) rfl (by kernel_rfl) (fun K hK => ?_)
        go_simp
        have b1 : Below vv2.heap.size vv2 (vv2.alloc (.cells #[.slice none 0 0, .slice none 0 0] 26)) := (by repeat (first | exact Below.refl _ _ | with_reducible assumption | (refine Below.drew ?_) | (refine Below.drewN ?_ _) | (refine Below.alloc ?_ (by simp; try omega) _) | (refine Below.setCell ?_ (by simp; try omega) _)))
        refine hK.out _ _ (by repeat' (first | exact trivial | exact (fun _ h => ⟨Rw.cell_below b1 h.1, Rw.cell_below b1 h.2⟩) | exact (fun _ h => Rw.cell_below b1 h) | refine And.intro ?_ ?_)) ?_
        clear hK K
        try simp only [List.getElem_toArray, List.getElem_cons_succ, List.getElem_cons_zero, Act.put, List.setIfInBounds_toArray, List.set_cons_zero, List.set_cons_succ]
        have HX := hide (Box.new vv2 26 #[.slice none 0 0, .slice none 0 0])
        have hXR : R < vv2.heap.size := HRR.out.lt
        replace HB := hide (HB.out.trans (b1.mono HB.out.size))
        replace HV := hide (HV.out.call b1)
        replace HRR := hide (HRR.out.call b1)
        replace HO := hide (HO.out.call b1)
        replace HNM := hide (HNM.out.call b1)
        clear b1
        generalize vv2.alloc (.cells #[.slice none 0 0, .slice none 0 0] 26) = vv3 at *
        generalize vv2.heap.size = X at *
        refine Rw.one (i := 7) rfl (by kernel_rfl) (fun K hK => ?_)
        have xf0 := HX.out.frozen 0
        have x0 := HX.out.cell 0
        have x1 := HX.out.cell 1
        simp only [List.getElem?_toArray, List.getElem?_cons_zero, List.getElem?_cons_succ] at x0 x1
        have xf1 := HX.out.frozen 1
        have hxl := HX.out.lt
        go_simp
        refine hK.out _ _ (by repeat' (first | exact trivial | exact (fun _ h => ⟨cell_put2 (by dsimp only; omega) h.1, cell_put2 (by dsimp only; omega) h.2⟩) | exact (fun _ h => cell_put2 (by dsimp only; omega) h) | refine And.intro ?_ ?_)) ?_
        clear hK K
        try simp only [List.getElem_toArray, List.getElem_cons_succ, List.getElem_cons_zero, Act.put, List.setIfInBounds_toArray, List.set_cons_zero, List.set_cons_succ]
        clear x0 x1 xf0 xf1 hxl
        replace HO := hide (own_put2 HO.out HX.out (.slice o1.A o1.ps.length o1.c) (.slice o1.Y o1.ys.length o1.yc))
        replace HNM := hide (rowI_put2 HNM.out HX.out (.slice o1.A o1.ps.length o1.c) (.slice o1.Y o1.ys.length o1.yc))
        replace HX := hide (show Box ((vv3.setCell ⟨X, 0, none⟩ (.slice o1.A o1.ps.length o1.c)).setCell ⟨X, 1, none⟩ (.slice o1.Y o1.ys.length o1.yc)) X _ _ from (HX.out.set 0 _).set 1 _)
        replace HB := hide (show Below w.heap.size w ((vv3.setCell ⟨X, 0, none⟩ (.slice o1.A o1.ps.length o1.c)).setCell ⟨X, 1, none⟩ (.slice o1.Y o1.ys.length o1.yc)) from (HB.out.setCell (p := ⟨X, 0, none⟩) (by show w.heap.size ≤ X; omega) _).setCell (p := ⟨X, 1, none⟩) (by show w.heap.size ≤ X; omega) _)
        replace HV := hide (show Box ((vv3.setCell ⟨X, 0, none⟩ (.slice o1.A o1.ps.length o1.c)).setCell ⟨X, 1, none⟩ (.slice o1.Y o1.ys.length o1.yc)) w.heap.size _ _ from box_setFar (box_setFar HV.out (by omega)) (by omega))
        replace HRR := hide (show Box ((vv3.setCell ⟨X, 0, none⟩ (.slice o1.A o1.ps.length o1.c)).setCell ⟨X, 1, none⟩ (.slice o1.Y o1.ys.length o1.yc)) R _ _ from box_setFar (box_setFar HRR.out (by omega)) (by omega))
        generalize ((vv3.setCell ⟨X, 0, none⟩ (.slice o1.A o1.ps.length o1.c)).setCell ⟨X, 1, none⟩ (.slice o1.Y o1.ys.length o1.yc)) = vv4 at *
        refine Rw.comp (i := 8) (v := ?_) rfl (by kernel_rfl) (by kernel_rfl) (by kernel_rfl) (fun _ _ _ h => h) (by repeat (first | exact Rw.re0 | apply Rw.rePlus)) (Or.inl ⟨by rfl, ?_⟩) ?_
        rotate_left 1
        focus (intro w hSw; (try dsimp only at hSw); go_simp; (try with_reducible rfl))
        try simp only [List.getElem_toArray, List.getElem_cons_succ, List.getElem_cons_zero, Act.put, List.setIfInBounds_toArray, List.set_cons_zero, List.set_cons_succ]
        refine Rw.done (by kernel_rfl) ?_ _
        exact HT.out vv4 X NM o1 ⟨⟨HO.out, HNM.out, HX.out, HV.out, HRR.out, HB.out, by omega, by omega⟩, HD.out⟩
      · go_simp
        have b1 : Below vv1.heap.size vv1 (vv1.alloc (.cells #[.slice none 0 0, .slice none 0 0] 26)) := (by repeat (first | exact Below.refl _ _ | with_reducible assumption | (refine Below.drew ?_) | (refine Below.drewN ?_ _) | (refine Below.alloc ?_ (by simp; try omega) _) | (refine Below.setCell ?_ (by simp; try omega) _)))
        refine hK.out _ _ (by repeat' (first | exact trivial | exact (fun _ h => ⟨Rw.cell_below b1 h.1, Rw.cell_below b1 h.2⟩) | exact (fun _ h => Rw.cell_below b1 h) | refine And.intro ?_ ?_)) ?_
        clear hK K
        try simp only [List.getElem_toArray, List.getElem_cons_succ, List.getElem_cons_zero, Act.put, List.setIfInBounds_toArray, List.set_cons_zero, List.set_cons_succ]
        have HX := hide (Box.new vv1 26 #[.slice none 0 0, .slice none 0 0])
        have hXR : R < vv1.heap.size := HRR.out.lt
        replace HB := hide (HB.out.trans (b1.mono HB.out.size))
        replace HV := hide (HV.out.call b1)
        replace HRR := hide (HRR.out.call b1)
        replace HNM := hide (HNM.out.call b1)
        clear b1
        generalize vv1.alloc (.cells #[.slice none 0 0, .slice none 0 0] 26) = vv2 at *
        generalize vv1.heap.size = X at *
        refine Rw.one (i := 1) rfl (by kernel_rfl) (fun K hK => ?_)
        go_simp
        refine (copyObject_any o vv2 ((HR.out.below HB.out).more HB.out.size) HF.out HN.out HS2.out).mono ?_
        rintro e vv3 ⟨o1, rfl, hd, hown, b1⟩
        refine hK.out _ _ (by repeat' (first | exact trivial | exact (fun _ h => ⟨Rw.cell_below b1 h.1, Rw.cell_below b1 h.2⟩) | exact (fun _ h => Rw.cell_below b1 h) | refine And.intro ?_ ?_)) ?_
        clear hK K
        try simp only [List.getElem_toArray, List.getElem_cons_succ, List.getElem_cons_zero, Act.put, List.setIfInBounds_toArray, List.set_cons_zero, List.set_cons_succ]
        simp only [OV.v]
        have HO := hide (hown.down HB.out.size)
        have HD := hide hd
        clear hd hown
        replace HB := hide (HB.out.trans (b1.mono HB.out.size))
        replace HV := hide (HV.out.call b1)
        replace HRR := hide (HRR.out.call b1)
        replace HNM := hide (HNM.out.call b1)
        replace HX := hide (HX.out.call b1)
        clear b1
        refine Rw.one (i := 7) rfl (by kernel_rfl) (fun K hK => ?_)
        have xf0 := HX.out.frozen 0
        have x0 := HX.out.cell 0
        have x1 := HX.out.cell 1
        simp only [List.getElem?_toArray, List.getElem?_cons_zero, List.getElem?_cons_succ] at x0 x1
        have xf1 := HX.out.frozen 1
        have hxl := HX.out.lt
        go_simp
        refine hK.out _ _ (by repeat' (first | exact trivial | exact (fun _ h => ⟨cell_put2 (by dsimp only; omega) h.1, cell_put2 (by dsimp only; omega) h.2⟩) | exact (fun _ h => cell_put2 (by dsimp only; omega) h) | refine And.intro ?_ ?_)) ?_
        clear hK K
        try simp only [List.getElem_toArray, List.getElem_cons_succ, List.getElem_cons_zero, Act.put, List.setIfInBounds_toArray, List.set_cons_zero, List.set_cons_succ]
        clear x0 x1 xf0 xf1 hxl
        replace HO := hide (own_put2 HO.out HX.out (.slice o1.A o1.ps.length o1.c) (.slice o1.Y o1.ys.length o1.yc))
        replace HNM := hide (rowI_put2 HNM.out HX.out (.slice o1.A o1.ps.length o1.c) (.slice o1.Y o1.ys.length o1.yc))
        replace HX := hide (show Box ((vv3.setCell ⟨X, 0, none⟩ (.slice o1.A o1.ps.length o1.c)).setCell ⟨X, 1, none⟩ (.slice o1.Y o1.ys.length o1.yc)) X _ _ from (HX.out.set 0 _).set 1 _)
        replace HB := hide (show Below w.heap.size w ((vv3.setCell ⟨X, 0, none⟩ (.slice o1.A o1.ps.length o1.c)).setCell ⟨X, 1, none⟩ (.slice o1.Y o1.ys.length o1.yc)) from (HB.out.setCell (p := ⟨X, 0, none⟩) (by show w.heap.size ≤ X; omega) _).setCell (p := ⟨X, 1, none⟩) (by show w.heap.size ≤ X; omega) _)
        replace HV := hide (show Box ((vv3.setCell ⟨X, 0, none⟩ (.slice o1.A o1.ps.length o1.c)).setCell ⟨X, 1, none⟩ (.slice o1.Y o1.ys.length o1.yc)) w.heap.size _ _ from box_setFar (box_setFar HV.out (by omega)) (by omega))
        replace HRR := hide (show Box ((vv3.setCell ⟨X, 0, none⟩ (.slice o1.A o1.ps.length o1.c)).setCell ⟨X, 1, none⟩ (.slice o1.Y o1.ys.length o1.yc)) R _ _ from box_setFar (box_setFar HRR.out (by omega)) (by omega))
        generalize ((vv3.setCell ⟨X, 0, none⟩ (.slice o1.A o1.ps.length o1.c)).setCell ⟨X, 1, none⟩ (.slice o1.Y o1.ys.length o1.yc)) = vv4 at *
        refine Rw.comp (i := 8) (v := ?_) rfl (by kernel_rfl) (by kernel_rfl) (by kernel_rfl) (fun _ _ _ h => h) (by repeat (first | exact Rw.re0 | apply Rw.rePlus)) (Or.inl ⟨by rfl, ?_⟩) ?_
        rotate_left 1
        focus (intro w hSw; (try dsimp only at hSw); go_simp; (try with_reducible rfl))
        try simp only [List.getElem_toArray, List.getElem_cons_succ, List.getElem_cons_zero, Act.put, List.setIfInBounds_toArray, List.set_cons_zero, List.set_cons_succ]
        refine Rw.done (by kernel_rfl) ?_ _
        exact HT.out vv4 X NM o1 ⟨⟨HO.out, HNM.out, HX.out, HV.out, HRR.out, HB.out, by omega, by omega⟩, HD.out⟩
    · go_simp
      have b1 : Below vv0.heap.size vv0 (vv0.alloc (.cells #[.slice none 0 0, .slice none 0 0] 26)) := (by repeat (first | exact Below.refl _ _ | with_reducible assumption | (refine Below.drew ?_) | (refine Below.drewN ?_ _) | (refine Below.alloc ?_ (by simp; try omega) _) | (refine Below.setCell ?_ (by simp; try omega) _)))
      refine hK.out _ _ (by repeat' (first | exact trivial | exact (fun _ h => ⟨Rw.cell_below b1 h.1, Rw.cell_below b1 h.2⟩) | exact (fun _ h => Rw.cell_below b1 h) | refine And.intro ?_ ?_)) ?_
      clear hK K
      try simp only [List.getElem_toArray, List.getElem_cons_succ, List.getElem_cons_zero, Act.put, List.setIfInBounds_toArray, List.set_cons_zero, List.set_cons_succ]
      have HX := hide (Box.new vv0 26 #[.slice none 0 0, .slice none 0 0])
      have hXR : R < vv0.heap.size := HRR.out.lt
      replace HB := hide (HB.out.trans (b1.mono HB.out.size))
      replace HV := hide (HV.out.call b1)
      replace HRR := hide (HRR.out.call b1)
      clear b1
      generalize vv0.alloc (.cells #[.slice none 0 0, .slice none 0 0] 26) = vv1 at *
      generalize vv0.heap.size = X at *
      refine Rw.two (i := 1) (j := 5) rfl rfl (by kernel_rfl) (fun K hK => ?_) (fun K hK => ?_)
      · go_simp
        refine (copyObject_any o vv1 ((HR.out.below HB.out).more HB.out.size) HF.out HN.out HS2.out).mono ?_
        rintro e vv2 ⟨o1, rfl, hd, hown, b1⟩
        refine hK.out _ _ (by repeat' (first | exact trivial | exact (fun _ h => ⟨Rw.cell_below b1 h.1, Rw.cell_below b1 h.2⟩) | exact (fun _ h => Rw.cell_below b1 h) | refine And.intro ?_ ?_)) ?_
        clear hK K
        try simp only [List.getElem_toArray, List.getElem_cons_succ, List.getElem_cons_zero, Act.put, List.setIfInBounds_toArray, List.set_cons_zero, List.set_cons_succ]
        simp only [OV.v]
        have HO := hide (hown.down HB.out.size)
        have HD := hide hd
        clear hd hown
        replace HB := hide (HB.out.trans (b1.mono HB.out.size))
        replace HV := hide (HV.out.call b1)
        replace HRR := hide (HRR.out.call b1)
        replace HX := hide (HX.out.call b1)
        clear b1
        refine Rw.two (i := 5) (j := 7) rfl rfl (by kernel_rfl) (fun K hK => ?_) (fun K hK => ?_)
        · refine step_make rfl _ _ _ rfl w.heap.size 3 i0 (.int .i64 0) 1 Try.underlying59 HI.out.1 HI.out.2.1 HI.out.2.2.1 .i64 .i64 _ _ o.ys.length rfl rfl rfl rfl (by rw [HI.out.2.2.2]; omega) (by unfold maxLen; omega) HB.out.size ?_
          intro vv3 r1 r2
          have b1 : Below vv2.heap.size vv2 vv3 := below_grown (Below.refl _ _) r2 (Nat.le_refl _) (fun k hk => by cases hk)
          refine hK.out _ _ (by repeat' (first | exact trivial | exact (fun _ h => ⟨Rw.cell_below b1 h.1, Rw.cell_below b1 h.2⟩) | exact (fun _ h => Rw.cell_below b1 h) | refine And.intro ?_ ?_)) ?_
          clear hK K
          try simp only [List.getElem_toArray, List.getElem_cons_succ, List.getElem_cons_zero, Act.put, List.setIfInBounds_toArray, List.set_cons_zero, List.set_cons_succ]
          have HNM := hide (show RowI vv3 w.heap.size vv2.heap.size o.ys.length o.ys.length (nums keep o.ys 0 o.ys.length) from by rw [zero_cells] at r1; simpa [RowI, nums, toI] using r1)
          clear r1 r2
          replace HB := hide (HB.out.trans (b1.mono HB.out.size))
          replace HV := hide (HV.out.call b1)
          replace HRR := hide (HRR.out.call b1)
          replace HO := hide (HO.out.call b1)
          replace HX := hide (HX.out.call b1)
          clear b1
          generalize vv2.heap.size = NM at *
          refine Rw.one (i := 7) rfl (by kernel_rfl) (fun K hK => ?_)
          have xf0 := HX.out.frozen 0
          have x0 := HX.out.cell 0
          have x1 := HX.out.cell 1
          simp only [List.getElem?_toArray, List.getElem?_cons_zero, List.getElem?_cons_succ] at x0 x1
          have xf1 := HX.out.frozen 1
          have hxl := HX.out.lt
          go_simp
          refine hK.out _ _ (by repeat' (first | exact trivial | exact (fun _ h => ⟨cell_put2 (by dsimp only; omega) h.1, cell_put2 (by dsimp only; omega) h.2⟩) | exact (fun _ h => cell_put2 (by dsimp only; omega) h) | refine And.intro ?_ ?_)) ?_
          clear hK K
          try simp only [List.getElem_toArray, List.getElem_cons_succ, List.getElem_cons_zero, Act.put, List.setIfInBounds_toArray, List.set_cons_zero, List.set_cons_succ]
          clear x0 x1 xf0 xf1 hxl
          replace HO := hide (own_put2 HO.out HX.out (.slice o1.A o1.ps.length o1.c) (.slice o1.Y o1.ys.length o1.yc))
          replace HNM := hide (rowI_put2 HNM.out HX.out (.slice o1.A o1.ps.length o1.c) (.slice o1.Y o1.ys.length o1.yc))
          replace HX := hide (show Box ((vv3.setCell ⟨X, 0, none⟩ (.slice o1.A o1.ps.length o1.c)).setCell ⟨X, 1, none⟩ (.slice o1.Y o1.ys.length o1.yc)) X _ _ from (HX.out.set 0 _).set 1 _)
          replace HB := hide (show Below w.heap.size w ((vv3.setCell ⟨X, 0, none⟩ (.slice o1.A o1.ps.length o1.c)).setCell ⟨X, 1, none⟩ (.slice o1.Y o1.ys.length o1.yc)) from (HB.out.setCell (p := ⟨X, 0, none⟩) (by show w.heap.size ≤ X; omega) _).setCell (p := ⟨X, 1, none⟩) (by show w.heap.size ≤ X; omega) _)
          replace HV := hide (show Box ((vv3.setCell ⟨X, 0, none⟩ (.slice o1.A o1.ps.length o1.c)).setCell ⟨X, 1, none⟩ (.slice o1.Y o1.ys.length o1.yc)) w.heap.size _ _ from box_setFar (box_setFar HV.out (by omega)) (by omega))
          replace HRR := hide (show Box ((vv3.setCell ⟨X, 0, none⟩ (.slice o1.A o1.ps.length o1.c)).setCell ⟨X, 1, none⟩ (.slice o1.Y o1.ys.length o1.yc)) R _ _ from box_setFar (box_setFar HRR.out (by omega)) (by omega))
          generalize ((vv3.setCell ⟨X, 0, none⟩ (.slice o1.A o1.ps.length o1.c)).setCell ⟨X, 1, none⟩ (.slice o1.Y o1.ys.length o1.yc)) = vv4 at *
          refine Rw.comp (i := 8) (v := ?_) rfl (by kernel_rfl) (by kernel_rfl) (by kernel_rfl) (fun _ _ _ h => h) (by repeat (first | exact Rw.re0 | apply Rw.rePlus)) (Or.inl ⟨by rfl, ?_⟩) ?_
          rotate_left 1
          focus (intro w hSw; (try dsimp only at hSw); go_simp; (try with_reducible rfl))
          try simp only [List.getElem_toArray, List.getElem_cons_succ, List.getElem_cons_zero, Act.put, List.setIfInBounds_toArray, List.set_cons_zero, List.set_cons_succ]
          refine Rw.done (by kernel_rfl) ?_ _
          exact HT.out vv4 X NM o1 ⟨⟨HO.out, HNM.out, HX.out, HV.out, HRR.out, HB.out, by omega, by omega⟩, HD.out⟩
        · have xf0 := HX.out.frozen 0
          have x0 := HX.out.cell 0
          have x1 := HX.out.cell 1
          simp only [List.getElem?_toArray, List.getElem?_cons_zero, List.getElem?_cons_succ] at x0 x1
          have xf1 := HX.out.frozen 1
          have hxl := HX.out.lt
          go_simp
          refine hK.out _ _ (by repeat' (first | exact trivial | exact (fun _ h => ⟨cell_put2 (by dsimp only; omega) h.1, cell_put2 (by dsimp only; omega) h.2⟩) | exact (fun _ h => cell_put2 (by dsimp only; omega) h) | refine And.intro ?_ ?_)) ?_
          clear hK K
          try simp only [List.getElem_toArray, List.getElem_cons_succ, List.getElem_cons_zero, Act.put, List.setIfInBounds_toArray, List.set_cons_zero, List.set_cons_succ]
          clear x0 x1 xf0 xf1 hxl
          replace HO := hide (own_put2 HO.out HX.out (.slice o1.A o1.ps.length o1.c) (.slice o1.Y o1.ys.length o1.yc))
          replace HX := hide (show Box ((vv2.setCell ⟨X, 0, none⟩ (.slice o1.A o1.ps.length o1.c)).setCell ⟨X, 1, none⟩ (.slice o1.Y o1.ys.length o1.yc)) X _ _ from (HX.out.set 0 _).set 1 _)
          replace HB := hide (show Below w.heap.size w ((vv2.setCell ⟨X, 0, none⟩ (.slice o1.A o1.ps.length o1.c)).setCell ⟨X, 1, none⟩ (.slice o1.Y o1.ys.length o1.yc)) from (HB.out.setCell (p := ⟨X, 0, none⟩) (by show w.heap.size ≤ X; omega) _).setCell (p := ⟨X, 1, none⟩) (by show w.heap.size ≤ X; omega) _)
          replace HV := hide (show Box ((vv2.setCell ⟨X, 0, none⟩ (.slice o1.A o1.ps.length o1.c)).setCell ⟨X, 1, none⟩ (.slice o1.Y o1.ys.length o1.yc)) w.heap.size _ _ from box_setFar (box_setFar HV.out (by omega)) (by omega))
          replace HRR := hide (show Box ((vv2.setCell ⟨X, 0, none⟩ (.slice o1.A o1.ps.length o1.c)).setCell ⟨X, 1, none⟩ (.slice o1.Y o1.ys.length o1.yc)) R _ _ from box_setFar (box_setFar HRR.out (by omega)) (by omega))
          generalize ((vv2.setCell ⟨X, 0, none⟩ (.slice o1.A o1.ps.length o1.c)).setCell ⟨X, 1, none⟩ (.slice o1.Y o1.ys.length o1.yc)) = vv3 at *
          refine Rw.one (i := 5) rfl (by kernel_rfl) (fun K hK => ?_)
          refine step_make rfl _ _ _ rfl w.heap.size 3 i0 (.int .i64 0) 1 Try.underlying59 HI.out.1 HI.out.2.1 HI.out.2.2.1 .i64 .i64 _ _ o.ys.length rfl rfl rfl rfl (by rw [HI.out.2.2.2]; omega) (by unfold maxLen; omega) HB.out.size ?_
          intro vv4 r1 r2
          have b1 : Below vv3.heap.size vv3 vv4 := below_grown (Below.refl _ _) r2 (Nat.le_refl _) (fun k hk => by cases hk)
          refine hK.out _ _ (by repeat' (first | exact trivial | exact (fun _ h => ⟨Rw.cell_below b1 h.1, Rw.cell_below b1 h.2⟩) | exact (fun _ h => Rw.cell_below b1 h) | refine And.intro ?_ ?_)) ?_
          clear hK K
          try simp only [List.getElem_toArray, List.getElem_cons_succ, List.getElem_cons_zero, Act.put, List.setIfInBounds_toArray, List.set_cons_zero, List.set_cons_succ]
          have HNM := hide (show RowI vv4 w.heap.size vv3.heap.size o.ys.length o.ys.length (nums keep o.ys 0 o.ys.length) from by rw [zero_cells] at r1; simpa [RowI, nums, toI] using r1)
          clear r1 r2
          replace HB := hide (HB.out.trans (b1.mono HB.out.size))
          replace HV := hide (HV.out.call b1)
          replace HRR := hide (HRR.out.call b1)
          replace HO := hide (HO.out.call b1)
          replace HX := hide (HX.out.call b1)
          clear b1
          generalize vv3.heap.size = NM at *
          refine Rw.comp (i := 8) (v := ?_) rfl (by kernel_rfl) (by kernel_rfl) (by kernel_rfl) (fun _ _ _ h => h) (by repeat (first | exact Rw.re0 | apply Rw.rePlus)) (Or.inl ⟨by rfl, ?_⟩) ?_
          rotate_left 1
          focus (intro w hSw; (try dsimp only at hSw); go_simp; (try with_reducible rfl))
          try simp only [List.getElem_toArray, List.getElem_cons_succ, List.getElem_cons_zero, Act.put, List.setIfInBounds_toArray, List.set_cons_zero, List.set_cons_succ]
          refine Rw.done (by kernel_rfl) ?_ _
          exact HT.out vv4 X NM o1 ⟨⟨HO.out, HNM.out, HX.out, HV.out, HRR.out, HB.out, by omega, by omega⟩, HD.out⟩
      · refine step_make rfl _ _ _ rfl w.heap.size 3 i0 (.int .i64 0) 1 Try.underlying59 HI.out.1 HI.out.2.1 HI.out.2.2.1 .i64 .i64 _ _ o.ys.length rfl rfl rfl rfl (by rw [HI.out.2.2.2]; omega) (by unfold maxLen; omega) HB.out.size ?_
        intro vv2 r1 r2
        have b1 : Below vv1.heap.size vv1 vv2 := below_grown (Below.refl _ _) r2 (Nat.le_refl _) (fun k hk => by cases hk)
        refine hK.out _ _ (by repeat' (first | exact trivial | exact (fun _ h => ⟨Rw.cell_below b1 h.1, Rw.cell_below b1 h.2⟩) | exact (fun _ h => Rw.cell_below b1 h) | refine And.intro ?_ ?_)) ?_
        clear hK K
        try simp only [List.getElem_toArray, List.getElem_cons_succ, List.getElem_cons_zero, Act.put, List.setIfInBounds_toArray, List.set_cons_zero, List.set_cons_succ]
        have HNM := hide (show RowI vv2 w.heap.size vv1.heap.size o.ys.length o.ys.length (nums keep o.ys 0 o.ys.length) from by rw [zero_cells] at r1; simpa [RowI, nums, toI] using r1)
        clear r1 r2
        replace HB := hide (HB.out.trans (b1.mono HB.out.size))
        replace HV := hide (HV.out.call b1)
        replace HRR := hide (HRR.out.call b1)
        replace HX := hide (HX.out.call b1)
        clear b1
        generalize vv1.heap.size = NM at *
        refine Rw.one (i := 1) rfl (by kernel_rfl) (fun K hK => ?_)
        go_simp
        refine (copyObject_any o vv2 ((HR.out.below HB.out).more HB.out.size) HF.out HN.out HS2.out).mono ?_
        rintro e vv3 ⟨o1, rfl, hd, hown, b1⟩
        refine hK.out _ _ (by repeat' (first | exact trivial | exact (fun _ h => ⟨Rw.cell_below b1 h.1, Rw.cell_below b1 h.2⟩) | exact (fun _ h => Rw.cell_below b1 h) | refine And.intro ?_ ?_)) ?_
        clear hK K
        try simp only [List.getElem_toArray, List.getElem_cons_succ, List.getElem_cons_zero, Act.put, List.setIfInBounds_toArray, List.set_cons_zero, List.set_cons_succ]
        simp only [OV.v]
        have HO := hide (hown.down HB.out.size)
        have HD := hide hd
        clear hd hown
        replace HB := hide (HB.out.trans (b1.mono HB.out.size))
        replace HV := hide (HV.out.call b1)
        replace HRR := hide (HRR.out.call b1)
        replace HNM := hide (HNM.out.call b1)
        replace HX := hide (HX.out.call b1)
        clear b1
        refine Rw.one (i := 7) rfl (by kernel_rfl) (fun K hK => ?_)
        have xf0 := HX.out.frozen 0
        have x0 := HX.out.cell 0
        have x1 := HX.out.cell 1
        simp only [List.getElem?_toArray, List.getElem?_cons_zero, List.getElem?_cons_succ] at x0 x1
        have xf1 := HX.out.frozen 1
        have hxl := HX.out.lt
        go_simp
        refine hK.out _ _ (by repeat' (first | exact trivial | exact (fun _ h => ⟨cell_put2 (by dsimp only; omega) h.1, cell_put2 (by dsimp only; omega) h.2⟩) | exact (fun _ h => cell_put2 (by dsimp only; omega) h) | refine And.intro ?_ ?_)) ?_
        clear hK K
        try simp only [List.getElem_toArray, List.getElem_cons_succ, List.getElem_cons_zero, Act.put, List.setIfInBounds_toArray, List.set_cons_zero, List.set_cons_succ]
        clear x0 x1 xf0 xf1 hxl
        replace HO := hide (own_put2 HO.out HX.out (.slice o1.A o1.ps.length o1.c) (.slice o1.Y o1.ys.length o1.yc))
        replace HNM := hide (rowI_put2 HNM.out HX.out (.slice o1.A o1.ps.length o1.c) (.slice o1.Y o1.ys.length o1.yc))
        replace HX := hide (show Box ((vv3.setCell ⟨X, 0, none⟩ (.slice o1.A o1.ps.length o1.c)).setCell ⟨X, 1, none⟩ (.slice o1.Y o1.ys.length o1.yc)) X _ _ from (HX.out.set 0 _).set 1 _)
        replace HB := hide (show Below w.heap.size w ((vv3.setCell ⟨X, 0, none⟩ (.slice o1.A o1.ps.length o1.c)).setCell ⟨X, 1, none⟩ (.slice o1.Y o1.ys.length o1.yc)) from (HB.out.setCell (p := ⟨X, 0, none⟩) (by show w.heap.size ≤ X; omega) _).setCell (p := ⟨X, 1, none⟩) (by show w.heap.size ≤ X; omega) _)
        replace HV := hide (show Box ((vv3.setCell ⟨X, 0, none⟩ (.slice o1.A o1.ps.length o1.c)).setCell ⟨X, 1, none⟩ (.slice o1.Y o1.ys.length o1.yc)) w.heap.size _ _ from box_setFar (box_setFar HV.out (by omega)) (by omega))
        replace HRR := hide (show Box ((vv3.setCell ⟨X, 0, none⟩ (.slice o1.A o1.ps.length o1.c)).setCell ⟨X, 1, none⟩ (.slice o1.Y o1.ys.length o1.yc)) R _ _ from box_setFar (box_setFar HRR.out (by omega)) (by omega))
        generalize ((vv3.setCell ⟨X, 0, none⟩ (.slice o1.A o1.ps.length o1.c)).setCell ⟨X, 1, none⟩ (.slice o1.Y o1.ys.length o1.yc)) = vv4 at *
        refine Rw.comp (i := 8) (v := ?_) rfl (by kernel_rfl) (by kernel_rfl) (by kernel_rfl) (fun _ _ _ h => h) (by repeat (first | exact Rw.re0 | apply Rw.rePlus)) (Or.inl ⟨by rfl, ?_⟩) ?_
        rotate_left 1
        focus (intro w hSw; (try dsimp only at hSw); go_simp; (try with_reducible rfl))
        try simp only [List.getElem_toArray, List.getElem_cons_succ, List.getElem_cons_zero, Act.put, List.setIfInBounds_toArray, List.set_cons_zero, List.set_cons_succ]
        refine Rw.done (by kernel_rfl) ?_ _
        exact HT.out vv4 X NM o1 ⟨⟨HO.out, HNM.out, HX.out, HV.out, HRR.out, HB.out, by omega, by omega⟩, HD.out⟩
  · intro v X NM o1 hM
    obtain ⟨hk, hd⟩ := hM
    obtain ⟨A, c, ps, Y1, yc1, ys1⟩ := o1
    dsimp only at hk
    have HPL := hide (show ps.map SV.d = o.ps.map SV.d from congrArg OD.ss hd)
    have hys : ys1 = o.ys := congrArg OD.ys hd
    have hal := HAL.out
    rw [← hd] at hal
    have hpl : ps.length ≤ 8 := by simpa [OV.d] using hal.1
    have HFX := hide (show ∀ p ∈ ps, p.fs.length ≤ 6 ∧ ∀ f ∈ p.fs, 0 ≤ f.2.2.1 ∧ f.2.2.1 < o.ys.length from fun p hp => by
      have h := hal.2.2 p.d (List.mem_map_of_mem hp)
      rw [hys] at h
      exact ⟨h.1, fun f hf => (h.2.2 f hf).2⟩)
    clear hd hal HAL HS2 HF HN
    have HX := hide hk.bx
    have HV := hide hk.bv
    have HK := hide hk.drop
    have xf := HX.out.frozen 1
    have x1 := HX.out.cell 1
    simp only [List.getElem?_toArray, List.getElem?_cons_zero, List.getElem?_cons_succ] at x1
    have hxl := HX.out.lt
    have v1 := HV.out.cell 1
    simp only [List.getElem?_toArray, List.getElem?_cons_zero, List.getElem?_cons_succ] at v1
    have hvl := HV.out.lt
    have hvx : w.heap.size ≠ X := by have := hk.lt; omega
    clear hk HX HV hys
    go_wp2_with fail
    clear x1 xf hxl v1 hvl hvx
    generalize v.setCell ⟨X, 1, none⟩ (.slice none 0 0) = v9 at *
    go_loopw [22] (fun i wi => ∃ (k : Nat) (Y : Option Addr) (yc : Nat), k ≤ o.ys.length ∧ i = .int .i64 k ∧ KI w R X NM o A c ps Y yc (kp keep o.ys k) o.ys.length (nums keep o.ys k o.ys.length) wi) (fun i _ => o.ys.length - (intOf i).toNat)
    case atStart => exact ⟨0, none, 0, Nat.zero_le _, rfl, HK.out⟩
    case round =>
      clear HK
      obtain ⟨k, Y, yc, hk, rfl, hki⟩ := hrel
      by_cases hlt : k < o.ys.length
      · obtain ⟨b, off, hY, hbg, hc⟩ := (HR.out.2.below hki.bl).row symbolC_len (by decide) hlt
        rw [← CObjValid.getD_at hlt dY] at hc
        have HSS := hide (nums_succ keep o.ys k o.ys.length hlt)
        have HKP := hide (show kp keep o.ys (k + 1) = if keep k = true then kp keep o.ys k ++ [o.ys.getD k dY] else kp keep o.ys k from rfl)
        have HCK := hide (fun W hW => HC.out W hW k hlt)
        have hkl := kp_len keep o.ys k
        have hc0 := hc 0 _ rfl
        have hc1 := hc 1 _ rfl
        have hc2 := hc 2 _ rfl
        have hc3 := hc 3 _ rfl
        simp only [Nat.add_zero] at hc0
        generalize o.ys.getD k dY = z at *
        generalize kp keep o.ys k = ks at *
        have HK := hide hki
        have HX := hide hki.bx
        have hbw : b < wr.heap.size := Nat.lt_of_lt_of_le hbg hki.bl.size
        have htc := hki.tb.cell hlt
        have htf := hki.tb.frozen k
        have htl := hki.tb.lt.2
        have x1 := HX.out.cell 1
        simp only [List.getElem?_toArray, List.getElem?_cons_zero, List.getElem?_cons_succ] at x1
        have hxl := HX.out.lt
        clear hki hc HX
        rw [hY]
        clear hY
        go_wp2_with fail
        clear htc htf htl x1 hxl hc0 hc1 hc2 hc3 hbw
        have HSB := hide (Box.new (wr.setCell ⟨NM, k, none⟩ (.int .i64 ks.length)) 69 #[.string z.1, .int .i64 z.2.1, .int .i64 z.2.2.1, .int .i64 z.2.2.2])
        have b3 : Below (wr.setCell ⟨NM, k, none⟩ (.int .i64 ks.length)).heap.size (wr.setCell ⟨NM, k, none⟩ (.int .i64 ks.length)) ((wr.setCell ⟨NM, k, none⟩ (.int .i64 ks.length)).alloc (.cells #[.string z.1, .int .i64 z.2.1, .int .i64 z.2.2.1, .int .i64 z.2.2.2] 69)) := (by repeat (first | exact Below.refl _ _ | with_reducible assumption | (refine Below.drew ?_) | (refine Below.drewN ?_ _) | (refine Below.alloc ?_ (by simp; try omega) _) | (refine Below.setCell ?_ (by simp; try omega) _)))
        have HK3 := hide (show KI w R X NM o A c ps Y yc ks o.ys.length (nums keep o.ys (k + 1) o.ys.length) _ from by rw [HSS.out]; exact (HK.out.setN (by omega) k ks.length).call b3)
        clear HK b3 HSS
        simp only [World.size_setCell] at HSB
        generalize (wr.setCell ⟨NM, k, none⟩ (.int .i64 ks.length)).alloc (.cells #[.string z.1, .int .i64 z.2.1, .int .i64 z.2.2.1, .int .i64 z.2.2.2] 69) = w3 at *
        generalize wr.heap.size = SB at *
        rw [HFF.out, Oper.upon_enter]
        refine (HCK.out w3 HK3.out.bl).mono ?_
        rintro e w4 ⟨rfl, b4⟩
        replace HK3 := hide (HK3.out.call b4)
        replace HSB := hide (HSB.out.call b4)
        clear b4 HCK
        cases hkk : keep k
        · have HKQ := hide (show kp keep o.ys (k + 1) = ks from by rw [HKP.out, hkk]; rfl)
          clear hkk HKP
          go_wp2_with fail
          refine ⟨⟨k + 1, Y, yc, by omega, by go_num, by rw [HKQ.out]; exact HK3.out⟩, by simp [intOf]; omega⟩
        · have HKQ := hide (show kp keep o.ys (k + 1) = ks ++ [z] from by rw [HKP.out, hkk]; rfl)
          clear hkk HKP
          have HX := hide HK3.out.bx
          have x1 := HX.out.cell 1
          simp only [List.getElem?_toArray, List.getElem?_cons_zero, List.getElem?_cons_succ] at x1
          have s0 := HSB.out.cell 0
          have s1 := HSB.out.cell 1
          have s2 := HSB.out.cell 2
          have s3 := HSB.out.cell 3
          simp only [List.getElem?_toArray, List.getElem?_cons_zero, List.getElem?_cons_succ] at s0 s1 s2 s3
          have hsl := HSB.out.lt
          have hxl := HX.out.lt
          have HRY := hide HK3.out.own.2
          clear HX HSB
          go_wp2_with (at_builtin; refine wpList_app (w4.alloc (.cells #[.string z.1, .int .i64 z.2.1, .int .i64 z.2.2.1, .int .i64 z.2.2.2] 69)) rfl (.tmp 38) (.tmp 40) 24 rfl 69 iY (.agg #[.string ByteArray.empty, .int .i64 0, .int .i64 0, .int .i64 0]) 4 40 Try.underlying24 HIY.out.1 HIY.out.2.1 HIY.out.2.2.1 HIY.out.2.2.2 rfl (by decide) w.heap.size Y ks.length yc (cellsOf symbolC ks) rfl (HRY.out.alloc _) ?hb (some ⟨w4.heap.size, 0, none⟩) 1 1 (symbolC z) rfl (rd_lit w4 #[.string z.1, .int .i64 z.2.1, .int .i64 z.2.2.1, .int .i64 z.2.2.2] 69 _ rfl) rfl (fun h => by cases h) ?o1 ?n1 ?n2 ?_)
          case hb => first | (have := HK3.out.bl.size; simp; omega) | omega
          case o1 => first | exact (fun u hu => one_sym [z] u (by simpa [cellsOf] using hu)) | exact ⟨rfl, rfl, rfl, rfl⟩
          case n1 => unfold maxLen; omega
          case n2 => omega
          intro Y2 n2 yc2 w9' hn2 o9 g9 k9
          have b9 : Below w4.heap.size w4 (w4.alloc (.cells #[.string z.1, .int .i64 z.2.1, .int .i64 z.2.2.1, .int .i64 z.2.2.2] 69)) := (by repeat (first | exact Below.refl _ _ | with_reducible assumption | (refine Below.drew ?_) | (refine Below.drewN ?_ _) | (refine Below.alloc ?_ (by simp; try omega) _) | (refine Below.setCell ?_ (by simp; try omega) _)))
          have HK5 := hide ((HK3.out.call b9).addY (by omega) z hn2 o9 g9)
          have HBX := hide ((HK3.out.call b9).bx.grown g9 ((HK3.out.call b9).own.2.box (HK3.out.call b9).bx (by decide)))
          clear hn2 o9 g9 k9 HK3 HRY b9 s0 s1 s2 s3 x1 hxl hsl
          have hb1 := HBX.out.cell 1
          have hbf := HBX.out.frozen 1
          have hbl := HBX.out.lt
          simp only [List.getElem?_toArray, List.getElem?_cons_zero, List.getElem?_cons_succ] at hb1
          go_wp2_with fail
          refine ⟨⟨k + 1, Y2, yc2, by omega, by go_num, by rw [HKQ.out]; exact HK5.out⟩, by simp [intOf]; omega⟩
      · obtain rfl : k = o.ys.length := by omega
        have HKK := hide hki
        have HX := hide hki.bx
        have x0 := HX.out.cell 0
        simp only [List.getElem?_toArray, List.getElem?_cons_zero, List.getElem?_cons_succ] at x0
        have hxl := HX.out.lt
        clear hki HX
        have HKL := hide (kp_len keep o.ys o.ys.length)
        generalize hks : kp keep o.ys o.ys.length = ks at *
        generalize hL : nums keep o.ys o.ys.length o.ys.length = L at *
        have HKS := hide hks
        have HL := hide hL
        have HLN := hide (show L.length = o.ys.length by rw [← hL]; exact nums_len _ _ _ _ (Nat.le_refl _))
        clear hks hL
        go_wp2_with fail
        clear x0 hxl
        go_loopw [47] (fun i wi => ∃ (k : Nat), k ≤ ps.length ∧ i = .int .i64 k ∧ KI w R X NM o A c ((ps.take k).map (renTP L) ++ ps.drop k) Y yc ks o.ys.length L wi) (fun i _ => ps.length - (intOf i).toNat)
        case atStart => exact ⟨0, Nat.zero_le _, rfl, by simpa using HKK.out⟩
        case round =>
          clear HKK hk hlt
          obtain ⟨k, hk, rfl, hki⟩ := hrel
          by_cases hlt : k < ps.length
          · have hdr : ps.drop k = ps[k] :: ps.drop (k + 1) := List.drop_eq_getElem_cons hlt
            rw [hdr] at hki
            have htk : (ps.take (k + 1)).map (renTP L) = (ps.take k).map (renTP L) ++ [renTP L ps[k]] := by rw [take_succ hlt, List.map_append]; rfl
            have hl1 : ((ps.take k).map (renTP L)).length = k := by simp; omega
            have HFP := hide (HFX.out _ (List.getElem_mem hlt))
            have HTK := hide (And.intro htk hl1)
            clear htk hl1 hdr
            generalize (ps.take k).map (renTP L) = l1 at *
            generalize ps[k] = p at *
            generalize hl2 : ps.drop (k + 1) = l2 at *
            have HL2 := hide hl2
            have HLL := hide (show (l1 ++ p :: l2).length = ps.length from by rw [← hl2]; simp [HTK.out.2]; omega)
            clear hl2
            obtain ⟨b, off, hA0, hbg, hc⟩ := row_at hki.own.1.rd
            have hAq : A = some ⟨b, off, none⟩ := hA0
            clear hA0
            rw [HTK.out.2] at hc
            have hc0 := hc 0 _ rfl
            have hc1 := hc 1 _ rfl
            have hc2 := hc 2 _ rfl
            have hc3 := hc 3 _ rfl
            have hc4 := hc 4 _ rfl
            have hc5 := hc 5 _ rfl
            simp only [Nat.add_zero] at hc0
            have HK := hide hki
            have HAA := hide hAq
            clear hki hc
            rw [hAq]
            clear hAq
            have hfl := HFP.out.1
            go_wp2_with fail
            have B8 : Below wr.heap.size wr (wr.alloc (.cells #[.string p.nm, .int .i64 p.kd, .int .i64 p.al, .slice p.A p.zs.length p.c, .int .i64 p.sz, .slice p.F p.fs.length p.fc] 73)) := (by repeat (first | exact Below.refl _ _ | with_reducible assumption | (refine Below.drew ?_) | (refine Below.drewN ?_ _) | (refine Below.alloc ?_ (by simp; try omega) _) | (refine Below.setCell ?_ (by simp; try omega) _)))
            have HS := hide (Box.new wr 73 #[.string p.nm, .int .i64 p.kd, .int .i64 p.al, .slice p.A p.zs.length p.c, .int .i64 p.sz, .slice p.F p.fs.length p.fc])
            replace HK := hide (HK.out.call B8)
            clear B8
            generalize wr.alloc (.cells #[.string p.nm, .int .i64 p.kd, .int .i64 p.al, .slice p.A p.zs.length p.c, .int .i64 p.sz, .slice p.F p.fs.length p.fc] 73) = w8 at *
            generalize wr.heap.size = SS at *
            clear hc0 hc1 hc2 hc3 hc4 hc5
            go_loopw [54] (fun i wi => ∃ (j : Nat), j ≤ p.fs.length ∧ i = .int .i64 j ∧ KI w R X NM o A c (l1 ++ renTJ L p j :: l2) Y yc ks o.ys.length L wi ∧ Box wi SS 73 #[.string p.nm, .int .i64 p.kd, .int .i64 p.al, .slice p.A p.zs.length p.c, .int .i64 p.sz, .slice p.F p.fs.length p.fc]) (fun i _ => p.fs.length - (intOf i).toNat)
            case atStart => exact ⟨0, Nat.zero_le _, rfl, by rw [renTJ_zero]; exact HK.out, HS.out⟩
            case round =>
              clear HS HK
              obtain ⟨j, hj, rfl, hki, hs⟩ := hrel
              by_cases hjl : j < p.fs.length
              · have hq : RwS wr w.heap.size (renTJ L p j) := hki.own.1.2.1 _ (by simp)
                have hjr : j < (renTJ L p j).fs.length := by rw [renTJ_len]; exact hjl
                obtain ⟨gf, hF0, hbgf, hgfl, hblk, hown⟩ := own_of hq.2 (by omega)
                have hF : p.F = some ⟨gf, 0, none⟩ := hF0
                clear hF0
                obtain ⟨bf', of, hF1, _, hcf⟩ := Rd.row (xs := (renTJ L p j).fs) fixupC_len (by decide) hq.rd.2 hjr
                have hF1 : p.F = some ⟨bf', of, none⟩ := hF1
                rw [hF] at hF1
                simp only [Option.some.injEq, Addr.mk.injEq, and_true] at hF1
                obtain ⟨rfl, rfl⟩ := hF1
                have hat := renTJ_at L p j hjl
                rw [List.getElem?_eq_getElem hjr] at hat
                injection hat with hat
                rw [hat] at hcf
                have hc2 := hcf 2 _ rfl
                rw [Nat.zero_add] at hc2
                have hfx := HFP.out.2 _ (List.getElem_mem hjl)
                have HSU := hide (renTJ_succ L p j hjl)
                have hf0 := World.ownsRow.frozenAt hown (j * 4 + 2)
                have HGN := hide (hq.2.box hs (by decide) gf hblk)
                have hsl := hs.lt
                have s5 := hs.cell 5
                simp only [List.getElem?_toArray, List.getElem?_cons_zero, List.getElem?_cons_succ] at s5
                rw [hF] at s5
                have hn0 : 0 < o.ys.length := by omega
                have HST := hide (hki.setF (q := renTJ L p j) hn0 hF j p.fs[j] (renTJ_at L p j hjl) (L.getD p.fs[j].2.2.1.toNat 0))
                have HRN := hide (show renT L p.fs[j] = (p.fs[j].1, p.fs[j].2.1, ((L.getD p.fs[j].2.2.1.toNat 0 : Nat) : Int), p.fs[j].2.2.2) from rfl)
                have HS := hide hs
                generalize p.fs[j] = f at *
                obtain ⟨f0, f1, f2, f3⟩ := f
                simp only at hfx hc2
                obtain ⟨xn, rfl⟩ := Int.eq_ofNat_of_zero_le hfx.1
                have hxn : xn < o.ys.length := by omega
                have htc := hki.tb.cell hxn
                have htl := hki.tb.lt.2
                simp only [Int.toNat_natCast] at HST HRN
                generalize L.getD xn 0 = xi at *
                clear hki hs hq hcf hat hown hjr hF hF1 hblk hfx
                go_wp2_with fail
                refine Rv.start (fun W => W.cell? ⟨SS, 5, none⟩ = some (.slice (some ⟨gf, 0, none⟩) p.fs.length p.fc) ∧ W.cell? ⟨gf, j * 4 + 2, none⟩ = some (.int .i64 xn) ∧ W.cell? ⟨NM, xn, none⟩ = some (.int .i64 xi)) (fun i => i == 14) (by kernel_rfl) ?_
                have hHeld : wr.drew.cell? ⟨SS, 5, none⟩ = some (.slice (some ⟨gf, 0, none⟩) p.fs.length p.fc) ∧ wr.drew.cell? ⟨gf, j * 4 + 2, none⟩ = some (.int .i64 xn) ∧ wr.drew.cell? ⟨NM, xn, none⟩ = some (.int .i64 xi) := ⟨s5, hc2, htc⟩
                refine Rv.comp (i := 0) (v := ?_) rfl (by kernel_rfl) (by kernel_rfl) (by kernel_rfl) (fun _ _ _ h => h) (Or.inl ⟨by rfl, ?_⟩) ?_
                rotate_left 1
                focus (intro w hSw; (try dsimp only at hSw); go_simp; (try with_reducible rfl))
                try simp only [List.getElem_toArray, List.getElem_cons_succ, List.getElem_cons_zero, Act.put, List.setIfInBounds_toArray, List.set_cons_zero, List.set_cons_succ]
                refine Rv.take (i := 1) (v := ?_) rfl (by kernel_rfl) (by kernel_rfl) (by kernel_rfl) (by kernel_rfl) (fun _ _ _ h => h) (Or.inl ⟨by rfl, ?_⟩) (by assumption) ?_
                rotate_left 1
                focus (intro w hSw; (try dsimp only at hSw); go_simp; (try with_reducible rfl))
                try simp only [List.getElem_toArray, List.getElem_cons_succ, List.getElem_cons_zero, Act.put, List.setIfInBounds_toArray, List.set_cons_zero, List.set_cons_succ]
                refine Rv.comp (i := 2) (v := ?_) rfl (by kernel_rfl) (by kernel_rfl) (by kernel_rfl) (fun _ _ _ h => h) (Or.inl ⟨by rfl, ?_⟩) ?_
                rotate_left 1
                focus (intro w hSw; (try dsimp only at hSw); go_simp; (try with_reducible rfl))
                try simp only [List.getElem_toArray, List.getElem_cons_succ, List.getElem_cons_zero, Act.put, List.setIfInBounds_toArray, List.set_cons_zero, List.set_cons_succ]
                refine Rv.comp (i := 3) (v := ?_) rfl (by kernel_rfl) (by kernel_rfl) (by kernel_rfl) (fun _ _ _ h => h) (Or.inl ⟨by rfl, ?_⟩) ?_
                rotate_left 1
                focus (intro w hSw; (try dsimp only at hSw); go_simp; (try with_reducible rfl))
                try simp only [List.getElem_toArray, List.getElem_cons_succ, List.getElem_cons_zero, Act.put, List.setIfInBounds_toArray, List.set_cons_zero, List.set_cons_succ]
                refine Rv.comp (i := 4) (v := ?_) rfl (by kernel_rfl) (by kernel_rfl) (by kernel_rfl) (fun _ _ _ h => h) (Or.inl ⟨by rfl, ?_⟩) ?_
                rotate_left 1
                focus (intro w hSw; (try dsimp only at hSw); go_simp; (try with_reducible rfl))
                try simp only [List.getElem_toArray, List.getElem_cons_succ, List.getElem_cons_zero, Act.put, List.setIfInBounds_toArray, List.set_cons_zero, List.set_cons_succ]
                refine Rv.take (i := 5) (v := ?_) rfl (by kernel_rfl) (by kernel_rfl) (by kernel_rfl) (by kernel_rfl) (fun _ _ _ h => h) (Or.inl ⟨by rfl, ?_⟩) (by assumption) ?_
                rotate_left 1
                focus (intro w hSw; (try dsimp only at hSw); go_simp; (try with_reducible rfl))
                try simp only [List.getElem_toArray, List.getElem_cons_succ, List.getElem_cons_zero, Act.put, List.setIfInBounds_toArray, List.set_cons_zero, List.set_cons_succ]
                refine Rv.comp (i := 6) (v := ?_) rfl (by kernel_rfl) (by kernel_rfl) (by kernel_rfl) (fun _ _ _ h => h) (Or.inl ⟨by rfl, ?_⟩) ?_
                rotate_left 1
                focus (intro w hSw; (try dsimp only at hSw); go_simp; (try with_reducible rfl))
                try simp only [List.getElem_toArray, List.getElem_cons_succ, List.getElem_cons_zero, Act.put, List.setIfInBounds_toArray, List.set_cons_zero, List.set_cons_succ]
                refine Rv.comp (i := 7) (v := ?_) rfl (by kernel_rfl) (by kernel_rfl) (by kernel_rfl) (fun _ _ _ h => h) (Or.inl ⟨by rfl, ?_⟩) ?_
                rotate_left 1
                focus (intro w hSw; (try dsimp only at hSw); go_simp; (try with_reducible rfl))
                try simp only [List.getElem_toArray, List.getElem_cons_succ, List.getElem_cons_zero, Act.put, List.setIfInBounds_toArray, List.set_cons_zero, List.set_cons_succ]
                refine Rv.comp (i := 8) (v := ?_) rfl (by kernel_rfl) (by kernel_rfl) (by kernel_rfl) (fun _ _ _ h => h) (Or.inl ⟨by rfl, ?_⟩) ?_
                rotate_left 1
                focus (intro w hSw; (try dsimp only at hSw); go_simp; (try with_reducible rfl))
                try simp only [List.getElem_toArray, List.getElem_cons_succ, List.getElem_cons_zero, Act.put, List.setIfInBounds_toArray, List.set_cons_zero, List.set_cons_succ]
                refine Rv.take (i := 9) (v := ?_) rfl (by kernel_rfl) (by kernel_rfl) (by kernel_rfl) (by kernel_rfl) (fun _ _ _ h => h) (Or.inl ⟨by rfl, ?_⟩) (by assumption) ?_
                rotate_left 1
                focus (intro w hSw; (try dsimp only at hSw); go_simp; (try with_reducible rfl))
                try simp only [List.getElem_toArray, List.getElem_cons_succ, List.getElem_cons_zero, Act.put, List.setIfInBounds_toArray, List.set_cons_zero, List.set_cons_succ]
                refine Rv.comp (i := 10) (v := ?_) rfl (by kernel_rfl) (by kernel_rfl) (by kernel_rfl) (fun _ _ _ h => h) (Or.inl ⟨by rfl, ?_⟩) ?_
                rotate_left 1
                focus (intro w hSw; (try dsimp only at hSw); go_simp; (try with_reducible rfl))
                try simp only [List.getElem_toArray, List.getElem_cons_succ, List.getElem_cons_zero, Act.put, List.setIfInBounds_toArray, List.set_cons_zero, List.set_cons_succ]
                refine Rv.take (i := 11) (v := ?_) rfl (by kernel_rfl) (by kernel_rfl) (by kernel_rfl) (by kernel_rfl) (fun _ _ _ h => h) (Or.inl ⟨by rfl, ?_⟩) (by assumption) ?_
                rotate_left 1
                focus (intro w hSw; (try dsimp only at hSw); go_simp; (try with_reducible rfl))
                try simp only [List.getElem_toArray, List.getElem_cons_succ, List.getElem_cons_zero, Act.put, List.setIfInBounds_toArray, List.set_cons_zero, List.set_cons_succ]
                refine Rv.comp (i := 12) (v := ?_) rfl (by kernel_rfl) (by kernel_rfl) (by kernel_rfl) (fun _ _ _ h => h) (Or.inl ⟨by rfl, ?_⟩) ?_
                rotate_left 1
                focus (intro w hSw; (try dsimp only at hSw); go_simp; (try with_reducible rfl))
                try simp only [List.getElem_toArray, List.getElem_cons_succ, List.getElem_cons_zero, Act.put, List.setIfInBounds_toArray, List.set_cons_zero, List.set_cons_succ]
                refine Rv.comp (i := 13) (v := ?_) rfl (by kernel_rfl) (by kernel_rfl) (by kernel_rfl) (fun _ _ _ h => h) (Or.inl ⟨by rfl, ?_⟩) ?_
                rotate_left 1
                focus (intro w hSw; (try dsimp only at hSw); go_simp; (try with_reducible rfl))
                try simp only [List.getElem_toArray, List.getElem_cons_succ, List.getElem_cons_zero, Act.put, List.setIfInBounds_toArray, List.set_cons_zero, List.set_cons_succ]
                refine Rv.last (i := 14) rfl (by kernel_rfl) (by rfl) (fun K hK => ?_)
                go_simp
                refine hK.out _ _ ?_
                clear hK K
                try simp only [List.getElem_toArray, List.getElem_cons_succ, List.getElem_cons_zero, Act.put, List.setIfInBounds_toArray, List.set_cons_zero, List.set_cons_succ]
                refine Rv.done (by kernel_rfl) ?_ _
                clear hHeld s5 hc2 htc hf0 htl hsl
                go_wp2_with fail
                refine ⟨⟨j + 1, by omega, by go_num, by rw [HSU.out, HRN.out]; exact HST.out.call (below_dr (Below.refl _ _)), (box_setFar HS.out (Ne.symm HGN.out)).drew⟩, by first | (simp [intOf]; done) | (simp [intOf]; omega)⟩
              · rw [renTJ_all L p (by omega)] at hki
                have HK := hide hki
                clear hki hs
                go_wp2_with fail
                refine ⟨⟨k + 1, by omega, by go_num, by first | (rw [HTK.out.1, HL2.out, List.append_assoc]; exact HK.out) | (rw [HTK.out.1, HL2.out, List.append_assoc, ← HAA.out]; exact HK.out)⟩, by first | (simp [intOf]; done) | (simp [intOf]; omega)⟩
          · have e : (ps.take k).map (renTP L) ++ ps.drop k = ps.map (renTP L) := by rw [List.take_of_length_le (by omega), List.drop_of_length_le (by omega), List.append_nil]
            rw [e] at hki
            have hrl := hki.br.lt
            have HFIN := hide (CObject.ret_object hki.own hki.bl (hki.own.ne_box hki.br (by decide) (by decide) (by decide) (by decide)) (Nat.le_of_lt hVR))
            have HDD := hide (show keepD keep o.d = ⟨(ps.map (renTP L)).map SV.d, ks⟩ by
              unfold keepD
              rw [show o.d = ⟨o.ps.map SV.d, o.ys⟩ from rfl]
              simp only [OD.mk.injEq]
              refine ⟨?_, HKS.out⟩
              rw [← HPL.out, List.map_map, List.map_map]
              refine List.map_congr_left fun p _ => ?_
              simp only [Function.comp_apply, keepS, HL.out]
              rfl)
            have y0 := hki.br.cell 0
            have y1 := hki.br.cell 1
            have yf0 := hki.br.frozen 0
            have yf1 := hki.br.frozen 1
            have x0 := hki.bx.cell 0
            have x1 := hki.bx.cell 1
            have hxl := hki.bx.lt
            simp only [List.getElem?_toArray, List.getElem?_cons_zero, List.getElem?_cons_succ, List.length_map] at y0 y1 x0 x1
            have kk := (hki.br.set 0 (.slice A ps.length c)).set 1 (.slice Y ks.length yc)
            have k0 := kk.cell 0
            have k1 := kk.cell 1
            simp only [List.setIfInBounds_toArray, List.set_cons_zero, List.set_cons_succ, List.getElem?_toArray, List.getElem?_cons_zero, List.getElem?_cons_succ] at k0 k1
            clear kk hki e
            go_wp2_with fail
            refine bodyPost_ret (v := OV.v ⟨A, c, ps.map (renTP L), Y, yc, ks⟩) (by simp [results, Try.results50, go_sem, OV.v, k0, k1]) rfl ?_
            rw [HDD.out]
            have h := HFIN.out
            simp only [List.length_map] at h
            exact h
end Go.Proofs.Ytmglgjchemecjaa.CKeep
/- What warnings a stripped and cleared object leaves; plain. -/
namespace Go.Proofs.Ytmglgjchemecjaa.PStrip
set_option maxRecDepth 200000
open Go.ChangeShapes Go.WideShapes Go.ChangeAt Go.RowKit Kit CCode CFixups CSymbols PObj BObj PValid CSecValid CUses CCovers CObjValid PWarn PClear PSort CKeep
def wantB (d : OD) (j : Nat) : Bool := decide (¬ (d.ys.getD j dY).2.2.1 = -1) || used d.ss (j : Int)
def stripD (d : OD) : OD := bif objOk d then keepD (wantB d) d else ⟨[], []⟩
/-- A symbol that is kept, by its new number. -/
theorem kp_at (keep : Nat → Bool) (ys : List YD) : ∀ (n k : Nat), k < (kp keep ys n).length → ∃ j, j < n ∧ keep j = true ∧ (kp keep ys n).getD k dY = ys.getD j dY ∧ (kp keep ys j).length = k
  | 0, k, h => by simp [kp] at h
  | n + 1, k, h => by
    rw [kp] at h ⊢
    by_cases hk : keep n = true
    · rw [if_pos hk] at h ⊢
      rw [List.length_append, List.length_singleton] at h
      by_cases hl : k < (kp keep ys n).length
      · obtain ⟨j, h1, h2, h3, h4⟩ := kp_at keep ys n k hl
        refine ⟨j, by omega, h2, ?_, h4⟩
        rw [List.getD_eq_getElem?_getD, List.getElem?_append_left hl, ← List.getD_eq_getElem?_getD]
        exact h3
      · refine ⟨n, by omega, hk, ?_, by omega⟩
        have e : k = (kp keep ys n).length := by omega
        rw [List.getD_eq_getElem?_getD, List.getElem?_append_right (by omega), e, Nat.sub_self]
        rfl
    · rw [if_neg hk] at h ⊢
      obtain ⟨j, h1, h2, h3, h4⟩ := kp_at keep ys n k h
      exact ⟨j, by omega, h2, h3, h4⟩
theorem used_iff {ss : List SD} {j : Int} : used ss j = true ↔ ∃ s ∈ ss, ∃ f ∈ s.fs, f.2.2.1 = j := by
  simp [used, useS, useF, List.any_eq_true]
theorem strip_used {d : OD} {k : Nat} (hk : k < (keepD (wantB d) d).ys.length) (hn : ((keepD (wantB d) d).ys.getD k dY).2.2.1 = -1) : used (keepD (wantB d) d).ss (k : Int) = true := by
  obtain ⟨j, h1, h2, h3, h4⟩ := kp_at (wantB d) d.ys d.ys.length k hk
  have h5 : (d.ys.getD j dY).2.2.1 = -1 := by rw [← h3]; exact hn
  rw [wantB, h5] at h2
  simp only [not_true, decide_false, Bool.false_or] at h2
  obtain ⟨s, hs, f, hf, he⟩ := used_iff.1 h2
  refine used_iff.2 ⟨keepS (wantB d) d.ys s, List.mem_map_of_mem hs, renT (nums (wantB d) d.ys d.ys.length d.ys.length) f, List.mem_map_of_mem hf, ?_⟩
  show (((nums (wantB d) d.ys d.ys.length d.ys.length).getD f.2.2.1.toNat 0 : Nat) : Int) = k
  rw [he, Int.toNat_natCast, nums_at _ _ _ _ h1, h4]
theorem setz_at (zs : List Int) (a i : Nat) : ∀ n, (setz zs a n).getD i 0 = if a ≤ i ∧ i < a + n then 0 else zs.getD i 0
  | 0 => by rw [if_neg (by omega)]; rfl
  | n + 1 => by
    rw [setz, List.getD_eq_getElem?_getD, List.getElem?_set]
    by_cases h : a + n = i
    · have h9 : a ≤ i ∧ i < a + (n + 1) := by omega
      rw [if_pos h, if_pos h9]
      split <;> rfl
    · rw [if_neg h, ← List.getD_eq_getElem?_getD, setz_at zs a i n]
      by_cases h2 : a ≤ i ∧ i < a + n
      · rw [if_pos h2, if_pos (by omega)]
      · rw [if_neg h2, if_neg (by omega)]
theorem clrs_keep {i : Nat} : ∀ (fs : List FD) (zs : List Int), zs.getD i 0 = 0 → (clrs zs fs).getD i 0 = 0
  | [], _, h => h
  | f :: fs, zs, h => by
    rw [clrs, List.foldl_cons, ← clrs]
    refine clrs_keep fs _ ?_
    rw [clr, setz_at]
    split
    · rfl
    · exact h
theorem clrs_zero {i : Nat} {f : FD} (h1 : f.1.toNat ≤ i) (h2 : i < f.1.toNat + (wide f.2.1).toNat) : ∀ (fs : List FD) (zs : List Int), f ∈ fs → (clrs zs fs).getD i 0 = 0
  | [], _, h => by cases h
  | g :: fs, zs, h => by
    rw [clrs, List.foldl_cons, ← clrs]
    rcases List.mem_cons.1 h with rfl | h
    · refine clrs_keep fs _ ?_
      rw [clr, setz_at, if_pos ⟨h1, h2⟩]
    · exact clrs_zero h1 h2 fs _ h
theorem clear_cover (s : SD) : coverB (clearS s) = false := by
  cases h : coverB (clearS s)
  · rfl
  · exfalso
    obtain ⟨f, hf, hc⟩ := List.any_eq_true.1 h
    obtain ⟨x, hx, hne⟩ := List.any_eq_true.1 hc
    obtain ⟨i, hi⟩ := List.getElem?_of_mem hx
    simp only [fills, List.getElem?_take, List.getElem?_drop] at hi
    split at hi
    · rename_i hlt
      have h0 := clrs_zero (i := f.1.toNat + i) (f := f) (by omega) (by omega) s.fs s.zs hf
      have hi' : (clrs s.zs s.fs)[f.1.toNat + i]? = some x := hi
      rw [List.getD_eq_getElem?_getD, hi'] at h0
      have h0 : x = 0 := h0
      rw [h0] at hne
      cases hne
    · cases hi
theorem used_clear (ss : List SD) (j : Int) : used (ss.map clearS) j = used ss j := by
  simp only [used, List.any_map]
  rfl
theorem kinds_left (d : OD) : ∀ x ∈ warns (clearD (stripD d)), x.1 = 2 := by
  intro x hx
  have key : ∀ e : OD, (∀ k < e.ys.length, at1 e k = []) → (∀ k < e.ss.length, at3 e k = []) → x ∈ warns e → x.1 = 2 := by
    intro e h1 h3 hx
    unfold warns at hx
    cases ho : objOk e
    · rw [ho] at hx
      cases hx
    · rw [ho, cond_true] at hx
      simp only [list, List.mem_append, upto, List.mem_flatMap, List.mem_range] at hx
      rcases hx with (⟨k, hk, hx⟩ | ⟨k, hk, hx⟩) | ⟨k, hk, hx⟩
      · rw [h1 k hk] at hx
        cases hx
      · unfold at2 at hx
        split at hx
        · rw [List.mem_singleton.1 hx]
        · cases hx
      · rw [h3 k hk] at hx
        cases hx
  have nil : x ∉ warns (⟨[], []⟩ : OD) := fun h => by
    have := key ⟨[], []⟩ (fun k hk => by cases hk) (fun k hk => by cases hk) h
    unfold warns at h
    cases ho : objOk ⟨[], []⟩ <;> rw [ho] at h <;> simp [list, upto] at h
  unfold clearD at hx
  cases ho : objOk (stripD d)
  · rw [ho] at hx
    exact absurd hx nil
  · rw [ho, cond_true] at hx
    unfold stripD at hx
    cases hd : objOk d
    · rw [hd] at hx
      exact absurd hx nil
    · rw [hd, cond_true] at hx
      refine key _ (fun k hk => ?_) (fun k hk => ?_) hx
      · unfold at1
        refine if_neg fun h => ?_
        have := strip_used hk h.1
        rw [← used_clear] at this
        rw [this] at h
        cases h.2
      · unfold at3
        refine if_neg fun h => ?_
        have hk' : k < (keepD (wantB d) d).ss.length := by simpa using hk
        rw [List.getD_eq_getElem?_getD, List.getElem?_map, List.getElem?_eq_getElem hk'] at h
        simp only [Option.map_some, Option.getD_some] at h
        rw [clear_cover] at h
        cases h
/-- Warnings stand in order. -/
def Lt (p q : WD) : Prop := p.1 < q.1 ∨ p.1 = q.1 ∧ p.2 < q.2
theorem upto_mem {f : Nat → List WD} {c : Int} (h : ∀ k, ∀ x ∈ f k, x = (c, (k : Int))) (n : Nat) : ∀ x ∈ upto f n, x.1 = c ∧ x.2 < n := by
  intro x hx
  simp only [upto, List.mem_flatMap, List.mem_range] at hx
  obtain ⟨k, hk, hx⟩ := hx
  rw [h k x hx]
  exact ⟨rfl, by show (k : Int) < n; omega⟩
theorem upto_sorted {f : Nat → List WD} {c : Int} (h : ∀ k, ∀ x ∈ f k, x = (c, (k : Int))) (hl : ∀ k, (f k).length ≤ 1) : ∀ n, (upto f n).Pairwise Lt
  | 0 => List.Pairwise.nil
  | n + 1 => by
    rw [upto_succ]
    refine List.pairwise_append.2 ⟨upto_sorted h hl n, ?_, fun x hx y hy => ?_⟩
    · have := hl n
      match hf : f n with
      | [] => exact List.Pairwise.nil
      | [x] => exact List.pairwise_singleton _ _
      | x :: y :: l => rw [hf] at this; simp at this
    · obtain ⟨h1, h2⟩ := upto_mem h n x hx
      rw [h n y hy]
      exact .inr ⟨h1, h2⟩
theorem at1_mem (d : OD) (k : Nat) : ∀ x ∈ at1 d k, x = (1, (k : Int)) := by intro x hx; unfold at1 at hx; split at hx; exact List.mem_singleton.1 hx; cases hx
theorem at2_mem (d : OD) (k : Nat) : ∀ x ∈ at2 d k, x = (2, (k : Int)) := by intro x hx; unfold at2 at hx; split at hx; exact List.mem_singleton.1 hx; cases hx
theorem at3_mem (d : OD) (k : Nat) : ∀ x ∈ at3 d k, x = (3, (k : Int)) := by intro x hx; unfold at3 at hx; split at hx; exact List.mem_singleton.1 hx; cases hx
theorem warns_sorted (d : OD) : (warns d).Pairwise Lt := by
  unfold warns
  cases objOk d
  · exact List.Pairwise.nil
  · rw [cond_true, list]
    refine List.pairwise_append.2 ⟨List.pairwise_append.2 ⟨upto_sorted (at1_mem d) (at1_len d) _, upto_sorted (at2_mem d) (at2_len d) _, fun x hx y hy => ?_⟩, upto_sorted (at3_mem d) (at3_len d) _, fun x hx y hy => ?_⟩
    · exact .inl (by rw [(upto_mem (at1_mem d) _ x hx).1, (upto_mem (at2_mem d) _ y hy).1]; decide)
    · rcases List.mem_append.1 hx with hx | hx
      · exact .inl (by rw [(upto_mem (at1_mem d) _ x hx).1, (upto_mem (at3_mem d) _ y hy).1]; decide)
      · exact .inl (by rw [(upto_mem (at2_mem d) _ x hx).1, (upto_mem (at3_mem d) _ y hy).1]; decide)
theorem warns_step (d : OD) (k : Nat) (h : k + 1 < (warns d).length) : (warns d)[k].1 < (warns d)[k + 1].1 ∨ (warns d)[k].1 = (warns d)[k + 1].1 ∧ (warns d)[k].2 < (warns d)[k + 1].2 :=
  List.pairwise_iff_getElem.1 (warns_sorted d) k (k + 1) (by omega) h (by omega)
theorem warns_len (d : OD) : (warns d).length ≤ 28 := by
  unfold warns
  cases h : objOk d
  · simp
  · rw [cond_true]
    have := obj_facts h
    exact list_len this.1 this.2.1
end Go.Proofs.Ytmglgjchemecjaa.PStrip
/- The program's StripWanted. -/
namespace Go.Proofs.Ytmglgjchemecjaa.CStrip
set_option maxRecDepth 200000
open Go.ChangeShapes Go.WideShapes Go.ChangeAt Go.RowKit Kit CCode CFixups CSymbols PObj BObj PValid CSecValid CUses CCovers CObjValid PWarn PClear PSort CKeep PStrip CCopyS CCopyI
theorem callF (zs : Array Value) (W : World) : (callFunc 51 zs).run Try.prog W = .ok (.enter 51 zs) W := by kernel_rfl
theorem want_any (V : Nat) (o : OV) (j : Nat) (z : YD) (w : World) (hb : Box w V 26 #[.slice o.A o.ps.length o.c, .slice o.Y o.ys.length o.yc]) (hr : RdO w w.heap.size o) (h1 : o.ps.length ≤ maxLen) (h2 : ∀ p ∈ o.ps, p.fs.length ≤ maxLen) :
    Calls Try.prog 51 #[.int .i64 j, .agg #[.string z.1, .int .i64 z.2.1, .int .i64 z.2.2.1, .int .i64 z.2.2.2], .pointer (some ⟨V, 0, none⟩)] w (Ret (.bool (decide (¬ z.2.2.1 = -1) || used o.d.ss (j : Int))) w) := by
  have HR := hide hr
  have H2 := hide h2
  have B0 : Below w.heap.size w (w.alloc (.cells #[.string z.1, .int .i64 z.2.1, .int .i64 z.2.2.1, .int .i64 z.2.2.2] 69)) := (by repeat (first | exact Below.refl _ _ | with_reducible assumption | (refine Below.drew ?_) | (refine Below.drewN ?_ _) | (refine Below.alloc ?_ (by simp; try omega) _) | (refine Below.setCell ?_ (by simp; try omega) _)))
  have HV := hide (hb.alloc (.cells #[.string z.1, .int .i64 z.2.1, .int .i64 z.2.2.1, .int .i64 z.2.2.2] 69))
  have v0 := HV.out.cell 0
  have v1 := HV.out.cell 1
  simp only [List.getElem?_toArray, List.getElem?_cons_zero, List.getElem?_cons_succ] at v0 v1
  have hvl := hb.lt
  have HB := hide B0
  clear hb hr h2 B0 HV
  obtain ⟨z0, z1, z2, z3⟩ := z
  simp only at v0 v1 HB ⊢
  by_cases hz : z2 = -1
  · subst hz
    rw [show (decide (¬ (-1 : Int) = -1) || used o.d.ss (j : Int)) = used o.d.ss (j : Int) from rfl]
    go_enter Try.func51, Try.ntmps51
    go_wp2_with fail
    clear v0 v1 hvl
    generalize w.alloc (.cells #[.string z0, .int .i64 z1, .int .i64 (-1), .int .i64 z3] 69) = w1 at *
    refine (uses_any o j w1 ((HR.out.below HB.out).more HB.out.size) h1 H2.out).mono ?_
    rintro e w2 ⟨rfl, b2⟩
    have HB2 := hide (HB.out.trans (b2.mono HB.out.size))
    clear b2 HB
    go_wp2_with fail
    exact bodyPost_ret (by simp [results, Try.results51]) rfl ⟨rfl, HB2.out⟩
  · have hd : decide (z2 = -1) = false := decide_eq_false hz
    have HE := hide (show (decide (¬ z2 = -1) || used o.d.ss (j : Int)) = true by rw [decide_eq_true hz]; rfl)
    rw [HE.out]
    clear HE
    go_enter Try.func51, Try.ntmps51
    go_wp2_with fail
    exact bodyPost_ret (by simp [results, Try.results51]) rfl ⟨rfl, HB.out⟩
set_option maxHeartbeats 1000000 in
theorem stripWanted_any (o : OV) (w : World) (hr : RdO w w.heap.size o) (hf : Fit o) (hn : Nils o) :
    Calls Try.prog 14 #[.agg #[.slice o.A o.ps.length o.c, .slice o.Y o.ys.length o.yc]] w (RetO (stripD o.d) w) := by
  have HR := hide hr
  have HF := hide hf
  have HN := hide hn
  clear hr hf hn
  have HB := hide (show Below w.heap.size w ((w.alloc (.cells #[.slice o.A o.ps.length o.c, .slice o.Y o.ys.length o.yc] 26)).alloc (.cells #[.slice none 0 0, .slice none 0 0] 26)) from (by repeat (first | exact Below.refl _ _ | with_reducible assumption | (refine Below.drew ?_) | (refine Below.drewN ?_ _) | (refine Below.alloc ?_ (by simp; try omega) _) | (refine Below.setCell ?_ (by simp; try omega) _))))
  have HV := hide ((Box.new w 26 #[.slice o.A o.ps.length o.c, .slice o.Y o.ys.length o.yc]).alloc (.cells #[.slice none 0 0, .slice none 0 0] 26))
  have HR0 := (Box.new (w.alloc (.cells #[.slice o.A o.ps.length o.c, .slice o.Y o.ys.length o.yc] 26)) 26 #[.slice none 0 0, .slice none 0 0])
  simp only [World.size_alloc] at HR0
  have HRR := hide HR0
  clear HR0
  go_enter Try.func14, Try.ntmps14
  go_wp2_with fail
  generalize (w.alloc (.cells #[.slice o.A o.ps.length o.c, .slice o.Y o.ys.length o.yc] 26)).alloc (.cells #[.slice none 0 0, .slice none 0 0] 26) = w0 at *
  have hVR : w.heap.size < w.heap.size + 1 := by omega
  generalize w.heap.size + 1 = R at *
  refine (objectValid_any o w0 ((HR.out.below HB.out).more HB.out.size) HF.out).mono ?_
  rintro e w1 ⟨rfl, b1⟩
  replace HB := hide (HB.out.trans (b1.mono HB.out.size))
  replace HV := hide (HV.out.call b1)
  replace HRR := hide (HRR.out.call b1)
  clear b1
  cases hok : objOk o.d
  · have HVD := hide (show stripD o.d = ⟨[], []⟩ by rw [stripD, hok]; rfl)
    have y0 := HRR.out.cell 0
    have y1 := HRR.out.cell 1
    simp only [List.getElem?_toArray, List.getElem?_cons_zero, List.getElem?_cons_succ] at y0 y1
    have yf0 := HRR.out.frozen 0
    have yf1 := HRR.out.frozen 1
    have hrl := HRR.out.lt
    have HFIN := hide (CObject.ret_object (w := w) (w1 := w1) (Y := R) (o := ⟨none, 0, [], none, 0, []⟩) ⟨⟨Row.empty _ _ _ _ _, (fun p hp => by cases hp), List.Pairwise.nil⟩, Row.empty _ _ _ _ _⟩ HB.out (by rintro k ((hk | ⟨p, hp, hk⟩) | hk) <;> first | (exact absurd hp List.not_mem_nil) | cases hk) (Nat.le_of_lt hVR))
    have kk := (HRR.out.set 0 (.slice none 0 0)).set 1 (.slice none 0 0)
    have k0 := kk.cell 0
    have k1 := kk.cell 1
    simp only [List.setIfInBounds_toArray, List.set_cons_zero, List.set_cons_succ, List.getElem?_toArray, List.getElem?_cons_zero, List.getElem?_cons_succ] at k0 k1
    clear kk hok
    go_wp2_with fail
    exact bodyPost_ret (v := OV.v ⟨none, 0, [], none, 0, []⟩) (by simp [results, Try.results14, go_sem, OV.v, k0, k1]) rfl (by rw [HVD.out]; exact HFIN.out)
  · have HOK := hide hok
    have HVD := hide (show stripD o.d = keepD (wantB o.d) o.d by rw [stripD, hok]; rfl)
    have HLL := hide (show o.ps.length ≤ maxLen ∧ ∀ p ∈ o.ps, p.fs.length ≤ maxLen from by
      have hal := obj_all hok
      unfold maxLen
      refine ⟨by have := hal.1; simp only [OV.d, List.length_map] at this; omega, fun p hp => ?_⟩
      have := (hal.2.2 p.d (List.mem_map_of_mem hp)).1
      have h : p.fs.length ≤ 6 := this
      omega)
    clear hok
    have x0 := HV.out.cell 0
    have x1 := HV.out.cell 1
    simp only [List.getElem?_toArray, List.getElem?_cons_zero, List.getElem?_cons_succ] at x0 x1
    have hvl := HV.out.lt
    go_wp2_with fail
    refine (keepSymbols_any 51 #[.pointer (some ⟨w.heap.size, 0, none⟩)] callF (wantB o.d) o w1 ((HR.out.below HB.out).more HB.out.size) HF.out HN.out HOK.out ?_).mono ?_
    · intro W hW j hj
      have h := want_any w.heap.size o j (o.ys.getD j dY) W (HV.out.below hW HV.out.lt) (((HR.out.below HB.out).below (hW.mono HB.out.size)).more (Nat.le_trans HB.out.size hW.size)) HLL.out.1 HLL.out.2
      exact h
    rintro e w2 ⟨⟨A, c, ps, Y, yc, ys⟩, rfl, hd, hown, b2⟩
    have HD := hide hd
    have HO := hide (hown.down HB.out.size)
    replace HB := hide (HB.out.trans (b2.mono HB.out.size))
    replace HV := hide (HV.out.call b2)
    replace HRR := hide (HRR.out.call b2)
    clear b2
    clear x0 x1 hvl hd hown
    have y0 := HRR.out.cell 0
    have y1 := HRR.out.cell 1
    simp only [List.getElem?_toArray, List.getElem?_cons_zero, List.getElem?_cons_succ] at y0 y1
    have yf0 := HRR.out.frozen 0
    have yf1 := HRR.out.frozen 1
    have hrl := HRR.out.lt
    have HFIN := hide (CObject.ret_object HO.out HB.out (HO.out.ne_box HRR.out (by decide) (by decide) (by decide) (by decide)) (Nat.le_of_lt hVR))
    have kk := (HRR.out.set 0 (.slice A ps.length c)).set 1 (.slice Y ys.length yc)
    have k0 := kk.cell 0
    have k1 := kk.cell 1
    simp only [List.setIfInBounds_toArray, List.set_cons_zero, List.set_cons_succ, List.getElem?_toArray, List.getElem?_cons_zero, List.getElem?_cons_succ] at k0 k1
    clear kk
    simp only [OV.v]
    go_wp2_with fail
    refine bodyPost_ret (v := OV.v ⟨A, c, ps, Y, yc, ys⟩) (by simp [results, Try.results14, go_sem, OV.v, k0, k1]) rfl ?_
    rw [HVD.out, ← HD.out]
    exact HFIN.out
end Go.Proofs.Ytmglgjchemecjaa.CStrip
/- The draws of objects, and what their sizes give. -/
namespace Go.Proofs.Ytmglgjchemecjaa.DDrawO
set_option maxRecDepth 200000
open Go.ChangeShapes Go.WideShapes Go.ChangeAt Go.RowKit Kit CCode CFixups CSymbols PObj BObj PValid CObjValid PWarn PClear CKeep PStrip DPick DVar DSection DObject CCopyS CCopyI
/-- Sizes of what is drawn, stripped or cleared. -/
def Bnd (d : OD) : Prop := d.ss.length ≤ 8 ∧ d.ys.length ≤ 13 ∧ (∀ s ∈ d.ss, s.nm.size ≤ 9 ∧ s.zs.length ≤ 49 ∧ s.fs.length ≤ 6) ∧ ∀ y ∈ d.ys, y.1.size ≤ 9
theorem bnd_small {d : OD} (h : SmallO d) : Bnd d := ⟨by have := h.1; omega, h.2.1, fun s hs => by
  have := h.2.2.1 s hs
  exact ⟨this.1, this.2.1, by have := this.2.2.2.1; omega⟩, h.2.2.2⟩
theorem bnd_nil : Bnd ⟨[], []⟩ := ⟨by simp, by simp, (fun s hs => absurd hs List.not_mem_nil), (fun s hs => absurd hs List.not_mem_nil)⟩
theorem bnd_clear {d : OD} (h : Bnd d) : Bnd (clearD d) := by
  unfold clearD
  cases objOk d
  · exact bnd_nil
  · refine ⟨by simpa using h.1, h.2.1, fun s hs => ?_, h.2.2.2⟩
    obtain ⟨p, hp, rfl⟩ := List.mem_map.1 hs
    have := h.2.2.1 p hp
    exact ⟨this.1, by show (clrs p.zs p.fs).length ≤ 49; rw [clrs_len]; exact this.2.1, this.2.2⟩
theorem kp_mem (keep : Nat → Bool) (ys : List YD) : ∀ n, n ≤ ys.length → ∀ y ∈ kp keep ys n, y ∈ ys
  | 0, _, y, h => by simp [kp] at h
  | n + 1, hn, y, h => by
    rw [kp] at h
    split at h
    · rcases List.mem_append.1 h with h | h
      · exact kp_mem keep ys n (by omega) y h
      · rw [List.mem_singleton.1 h, List.getD_eq_getElem?_getD, List.getElem?_eq_getElem (by omega)]
        exact List.getElem_mem _
    · exact kp_mem keep ys n (by omega) y h
theorem bnd_strip {d : OD} (h : Bnd d) : Bnd (stripD d) := by
  unfold stripD
  cases objOk d
  · exact bnd_nil
  · refine ⟨by simpa [keepD] using h.1, Nat.le_trans (kp_len _ _ _) h.2.1, fun s hs => ?_, fun y hy => h.2.2.2 y (kp_mem _ _ _ (Nat.le_refl _) y hy)⟩
    obtain ⟨p, hp, rfl⟩ := List.mem_map.1 hs
    have := h.2.2.1 p hp
    exact ⟨this.1, this.2.1, by show (p.fs.map _).length ≤ 6; rw [List.length_map]; exact this.2.2⟩
theorem bnd_fit {o : OV} {w : World} {base : Nat} (h : Bnd o.d) (ho : OwnO w base o) : Fit o ∧ (∀ p ∈ o.ps, p.zs.length ≤ p.c) := by
  have h1 : o.ps.length ≤ 8 := by simpa [OV.d] using h.1
  have h2 : o.ys.length ≤ 13 := h.2.1
  refine ⟨⟨by omega, by omega, ho.2.cap.1, fun p hp => ?_, fun y hy => ?_⟩, fun p hp => ((ho.1.2.1 p hp).1).cap.1⟩
  · have := h.2.2.1 p.d (List.mem_map_of_mem hp)
    have h3 : p.nm.size ≤ 9 ∧ p.zs.length ≤ 49 ∧ p.fs.length ≤ 6 := this
    unfold maxLen
    omega
  · have := h.2.2.2 y hy
    unfold maxLen
    omega
set_option maxHeartbeats 4000000 in
theorem draw_DrawWarningsOf {A : Option Addr} {zs : List Int} {c : Nat} {w : World} (hr : Rd w w.heap.size A (ints .u8 zs)) (hz : InR 0 255 zs) (hc : zs.length ≤ c) (hcm : c ≤ maxLen) :
    Calls Try.prog 10 #[.slice A zs.length c] w (fun e w' => ∃ d, Bnd d ∧ RetO d w e w') := by
  have b0 : Below w.heap.size w (w.alloc (.cells #[.slice none 0 0, .slice none 0 0] 26)) := (by repeat (first | exact Below.refl _ _ | with_reducible assumption | (refine Below.drew ?_) | (refine Below.drewN ?_ _) | (refine Below.alloc ?_ (by simp; try omega) _) | (refine Below.setCell ?_ (by simp; try omega) _)))
  have HO := hide (open_any A zs c _ ((hr.below b0).more b0.size) hz hc hcm)
  have HX := hide (Box.new w 26 #[.slice none 0 0, .slice none 0 0])
  have HB0 := hide b0
  clear hr hz hc hcm b0
  go_enter Try.func10, Try.ntmps10
  go_wp2_with fail
  refine HO.out.mono ?_
  rintro e w1 ⟨R, rfl, T, b1⟩
  have T0 := Tp.start T
  have hRl := T.1
  have X1 := HX.out.call b1
  have B1 := HB0.out.trans (b1.mono HB0.out.size)
  have hY1 := X1.lt
  go_wp2_with fail
  refine (object_any T0 (by omega) (by omega) 9 (by omega) (by omega)).mono ?_
  rintro e w2 ⟨⟨A1, c1, ps, Y1, yc1, ys⟩, rfl, sm, own, T2, _⟩
  have hsz : (w.alloc (.cells #[.slice none 0 0, .slice none 0 0] 26)).heap.size = w.heap.size + 1 := by simp
  have X2 := X1.grown T2.2 (fun k hk => by injection hk with hk; omega)
  have B2 := B1.trans (T2.below B1.size (show w.heap.size ≤ R by omega))
  have HSM := hide (bnd_small sm)
  have HFIN := hide (CObject.ret_object (own.down B1.size) B2 (fun k hk e => by have := (own.lt k hk).1; omega) (Nat.le_refl _))
  have q0 := X2.cell 0
  have q1 := X2.cell 1
  have f0 := X2.frozen 0
  have f1 := X2.frozen 1
  have hxl := X2.lt
  have kk := (X2.set 0 (.slice A1 ps.length c1)).set 1 (.slice Y1 ys.length yc1)
  have k0 := kk.cell 0
  have k1 := kk.cell 1
  simp only [List.setIfInBounds_toArray, List.set_cons_zero, List.set_cons_succ, List.getElem?_toArray, List.getElem?_cons_zero, List.getElem?_cons_succ] at q0 q1 k0 k1
  clear X1 X2 T T0 T2 b1 B1 B2 hsz HX HO HB0 kk own sm hRl hY1
  simp only [OV.v]
  go_wp2_with fail
  exact bodyPost_ret (v := OV.v ⟨A1, c1, ps, Y1, yc1, ys⟩) (by simp [results, Try.results10, go_sem, OV.v, k0, k1]) rfl ⟨_, HSM.out, HFIN.out⟩
set_option maxHeartbeats 4000000 in
theorem draw_DrawClearFixups {A : Option Addr} {zs : List Int} {c : Nat} {w : World} (hr : Rd w w.heap.size A (ints .u8 zs)) (hz : InR 0 255 zs) (hc : zs.length ≤ c) (hcm : c ≤ maxLen) :
    Calls Try.prog 27 #[.slice A zs.length c] w (fun e w' => ∃ d, Bnd d ∧ RetO d w e w') := by
  have b0 : Below w.heap.size w (w.alloc (.cells #[.slice none 0 0, .slice none 0 0] 26)) := (by repeat (first | exact Below.refl _ _ | with_reducible assumption | (refine Below.drew ?_) | (refine Below.drewN ?_ _) | (refine Below.alloc ?_ (by simp; try omega) _) | (refine Below.setCell ?_ (by simp; try omega) _)))
  have HO := hide (open_any A zs c _ ((hr.below b0).more b0.size) hz hc hcm)
  have HX := hide (Box.new w 26 #[.slice none 0 0, .slice none 0 0])
  have HB0 := hide b0
  clear hr hz hc hcm b0
  go_enter Try.func27, Try.ntmps27
  go_wp2_with fail
  refine HO.out.mono ?_
  rintro e w1 ⟨R, rfl, T, b1⟩
  have T0 := Tp.start T
  have hRl := T.1
  have X1 := HX.out.call b1
  have B1 := HB0.out.trans (b1.mono HB0.out.size)
  have hY1 := X1.lt
  go_wp2_with fail
  refine (object_any T0 (by omega) (by omega) 9 (by omega) (by omega)).mono ?_
  rintro e w2 ⟨⟨A1, c1, ps, Y1, yc1, ys⟩, rfl, sm, own, T2, _⟩
  have hsz : (w.alloc (.cells #[.slice none 0 0, .slice none 0 0] 26)).heap.size = w.heap.size + 1 := by simp
  have X2 := X1.grown T2.2 (fun k hk => by injection hk with hk; omega)
  have B2 := B1.trans (T2.below B1.size (show w.heap.size ≤ R by omega))
  have HSM := hide (bnd_small sm)
  have HFIN := hide (CObject.ret_object (own.down B1.size) B2 (fun k hk e => by have := (own.lt k hk).1; omega) (Nat.le_refl _))
  have q0 := X2.cell 0
  have q1 := X2.cell 1
  have f0 := X2.frozen 0
  have f1 := X2.frozen 1
  have hxl := X2.lt
  have kk := (X2.set 0 (.slice A1 ps.length c1)).set 1 (.slice Y1 ys.length yc1)
  have k0 := kk.cell 0
  have k1 := kk.cell 1
  simp only [List.setIfInBounds_toArray, List.set_cons_zero, List.set_cons_succ, List.getElem?_toArray, List.getElem?_cons_zero, List.getElem?_cons_succ] at q0 q1 k0 k1
  clear X1 X2 T T0 T2 b1 B1 B2 hsz HX HO HB0 kk own sm hRl hY1
  simp only [OV.v]
  go_wp2_with fail
  exact bodyPost_ret (v := OV.v ⟨A1, c1, ps, Y1, yc1, ys⟩) (by simp [results, Try.results27, go_sem, OV.v, k0, k1]) rfl ⟨_, HSM.out, HFIN.out⟩
end Go.Proofs.Ytmglgjchemecjaa.DDrawO
