/- Clearing what fixups fill: plain; and the stores that do it. -/
import Derived.Test.YtmglgjchemecjaaFnExactSortSymbolsM5
import Derived.Lib.VarintMem
import Derived.Lib.EndianMore
import Derived.Laws.Cover1
namespace Go.Proofs.Ytmglgjchemecjaa.PClear
set_option maxRecDepth 200000
open Go.ChangeShapes Go.WideShapes Go.ChangeAt Go.RowKit Kit CFixups CSymbols PObj BObj CMarkRows PValid BStore CCovers PWarn
def setz (zs : List Int) (a : Nat) : Nat → List Int
  | 0 => zs
  | n + 1 => (setz zs a n).set (a + n) 0
theorem setz_len (zs : List Int) (a : Nat) : ∀ n, (setz zs a n).length = zs.length
  | 0 => rfl
  | n + 1 => by rw [setz, List.length_set, setz_len zs a n]
def clr (zs : List Int) (f : FD) : List Int := setz zs f.1.toNat (wide f.2.1).toNat
theorem clr_len (zs : List Int) (f : FD) : (clr zs f).length = zs.length := setz_len _ _ _
def clrs (zs : List Int) (fs : List FD) : List Int := fs.foldl clr zs
theorem clrs_len (fs : List FD) : ∀ zs, (clrs zs fs).length = zs.length := by
  induction fs with
  | nil => intro zs; rfl
  | cons f fs ih => intro zs; rw [clrs, List.foldl_cons, ← clrs, ih, clr_len]
theorem clrs_snoc (zs : List Int) (fs : List FD) (f : FD) : clrs zs (fs ++ [f]) = clr (clrs zs fs) f := by simp [clrs, List.foldl_append]
def clrP (p : SV) (fs : List FD) : SV := { p with zs := clrs p.zs fs }
def clrA (p : SV) : SV := clrP p p.fs
theorem clrP_nil (p : SV) : clrP p [] = p := rfl
theorem clrP_cells (p : SV) (fs : List FD) : secC (clrP p fs) = secC p := by simp [secC, clrP, clrs_len]
def clearS (s : SD) : SD := { s with zs := clrs s.zs s.fs }
def clearD (d : OD) : OD := bif objOk d then ⟨d.ss.map clearS, d.ys⟩ else ⟨[], []⟩
theorem clear_bad {d : OD} (h : objOk d = false) : clearD d = ⟨[], []⟩ := by rw [clearD, h]; rfl
theorem clear_ok {ps : List SV} {ys : List YD} (h : objOk ⟨ps.map SV.d, ys⟩ = true) : clearD ⟨ps.map SV.d, ys⟩ = ⟨(ps.map clrA).map SV.d, ys⟩ := by
  rw [clearD, h, cond_true, List.map_map, List.map_map]
  rfl
/-- What the clearing of a valid object needs. -/
def FxOk (p : SV) : Prop := ∀ f ∈ p.fs, 0 ≤ f.1 ∧ f.1 + wide f.2.1 ≤ p.zs.length ∧ 0 < wide f.2.1
theorem fixes_all {many : Int} {n : Nat} : ∀ {e : Int} {fs : List FD}, 0 ≤ e → fixesOk many n e fs = true → ∀ f ∈ fs, (0 ≤ f.1 ∧ f.1 + wide f.2.1 ≤ n ∧ 0 < wide f.2.1) ∧ 0 ≤ f.2.2.1 ∧ f.2.2.1 < many
  | _, [], _, _, f, hf => by cases hf
  | e, g :: fs, he, h, f, hf => by
    simp only [fixesOk, Bool.and_eq_true] at h
    have hg := fixOk_iff.1 h.1
    have hw := wide_bd g.2.1
    rcases List.mem_cons.1 hf with rfl | hf
    · omega
    · exact fixes_all (by omega) h.2 f hf
theorem sec_all {many : Int} {d : SD} (h : secOk many d = true) : d.fs.length ≤ 6 ∧ d.zs.length ≤ 48 ∧ ∀ f ∈ d.fs, (0 ≤ f.1 ∧ f.1 + wide f.2.1 ≤ d.zs.length ∧ 0 < wide f.2.1) ∧ 0 ≤ f.2.2.1 ∧ f.2.2.1 < many := by
  rw [secOk, Bool.and_eq_true] at h
  obtain ⟨_, h⟩ := h
  split at h
  · simp only [blankOk, Bool.and_eq_true, decide_eq_true_eq] at h
    have : d.fs = [] := List.eq_nil_of_length_eq_zero h.2
    rw [this]
    refine ⟨by simp, by omega, ?_⟩
    intro f hf
    cases hf
  · simp only [bodyOk, Bool.and_eq_true, decide_eq_true_eq] at h
    exact ⟨h.1.2, h.1.1.2, fixes_all (Int.le_refl 0) h.2⟩
theorem obj_all {d : OD} (h : objOk d = true) : d.ss.length ≤ 8 ∧ d.ys.length ≤ 12 ∧ ∀ s ∈ d.ss, s.fs.length ≤ 6 ∧ s.zs.length ≤ 48 ∧ ∀ f ∈ s.fs, (0 ≤ f.1 ∧ f.1 + wide f.2.1 ≤ s.zs.length ∧ 0 < wide f.2.1) ∧ 0 ≤ f.2.2.1 ∧ f.2.2.1 < d.ys.length := by
  simp only [objOk, Bool.and_eq_true, decide_eq_true_eq, List.all_eq_true] at h
  exact ⟨h.1.1.1, h.1.1.2, fun s hs => sec_all (h.1.2 s hs)⟩
/-- A section's cells in the row of sections. -/
theorem row_at {w : World} {B : Nat} {A : Option Addr} {l1 l2 : List SV} {q : SV} (h : RdSs w B A (l1 ++ q :: l2)) :
    ∃ b off, A = some ⟨b, off, none⟩ ∧ b < B ∧ ∀ j u, (secC q)[j]? = some u → w.cell? ⟨b, off + l1.length * 6 + j, none⟩ = some u := by
  obtain ⟨b, off, hA, hb, hc⟩ := h.1.row secC_len (by decide) (show l1.length < (l1 ++ q :: l2).length by simp)
  refine ⟨b, off, hA, hb, fun j u hu => hc j u ?_⟩
  rw [List.getElem_append_right (Nat.le_refl _)]
  simpa using hu
/-- Bytes cleared at once. -/
theorem OwnO.clear {base c yc : Nat} {A Y : Option Addr} {l1 l2 : List SV} {q : SV} {ys : List YD} {g : Nat} (hA : q.A = some ⟨g, 0, none⟩) (a : Nat) :
    ∀ (n : Nat) (w : World), a + n ≤ q.zs.length → OwnO w base ⟨A, c, l1 ++ q :: l2, Y, yc, ys⟩ →
    OwnO (w.setCells g a (List.replicate n (.int .u8 0))) base ⟨A, c, l1 ++ { q with zs := setz q.zs a n } :: l2, Y, yc, ys⟩
  | 0, w, _, h => h
  | n + 1, w, hn, h => by
    rw [List.replicate_succ', ← Lib.setCells_snoc_w, List.length_replicate]
    exact OwnO.storeB (OwnO.clear hA a n w (by omega) h) hA (a + n) (by simp only [setz_len]; omega) 0
theorem clear_block (g : Nat) (k : Nat) (hk : k ≠ g) : ∀ (vs : List Value) (o : Nat) (w : World), (w.setCells g o vs).heap[k]? = w.heap[k]?
  | [], _, _ => rfl
  | v :: vs, o, w => by
    rw [World.setCells, clear_block g k hk vs]
    exact Below.heap_setCell _ _ _ k hk
theorem clear_box {w : World} {X g o : Nat} {t : TypeId} {cs : Array Value} {vs : List Value} (h : Box w X t cs) (hne : X ≠ g) : Box (w.setCells g o vs) X t cs := (clear_block g X hne vs o w).trans h
theorem zero8 (w : World) : (zeroValue 5).run Try.prog w = .ok (.int .u8 0) w := by
  have e : Try.t5.zero = some (.int .u8 0) := by kernel_rfl
  simp [zeroValue, e]
theorem step_clear {ops : Array Oper} {o : Oper} {a : Act} {w : World} {K : Act → World → Prop} {Q : Exit → Act → World → Prop} {E : Prop} (hgd : o.guard = none) (s : Operand)
    (ho : o.op = .call { callee := .builtin .clear, args := #[s], argTypes := #[22] }) (b off n c : Nat) (hs : a.eval s = .slice (some ⟨b, off, none⟩) n c) (hn : 0 < n)
    (hc : ∀ j, j < n → (w.cell? ⟨b, off + j, none⟩).isSome = true) (hf : ∀ j, j < n → w.frozen? ⟨b, off + j, none⟩ = false)
    (h : K (a.put o.dst (.tuple #[])) (w.setCells b off (List.replicate n (.int .u8 0)))) :
    if Region.wanted o (yielded ops a.tmps) = true then Oper.wp Try.prog o a w K Q else E := by
  have hw : Region.wanted o (yielded ops a.tmps) = true := by simp [Region.wanted, hgd]
  rw [if_pos hw]
  have hrun := Lib.run_clear_slice (P := Try.prog) w 22 5 o.type (.int .u8 0) Try.underlying22 zero8 rfl rfl b off n c hn hc hf
  unfold Oper.wp
  simp [execOp, ho, resolve, invoke, builtin, hs, hrun, Result.andThen]
  exact (show K _ _ from by simpa using h)
end Go.Proofs.Ytmglgjchemecjaa.PClear
/- What the walks of exact laws on objects share. -/
namespace Go.Proofs.Ytmglgjchemecjaa.WObj
set_option maxRecDepth 200000
open Go.ChangeShapes Go.WideShapes Go.ChangeAt Go.RowKit Kit CCode CFixups CSymbols PObj BObj PValid CObjValid CSections CObject CObject2 CMarkRows
def sumD (d : OD) : Int := (d.ss.length : Int) + tot d.ss + d.ys.length + toty d.ys
theorem sum_D (o : OV) : sum o = sumD o.d := by simp [sum, sumD, OV.d]
theorem sum_d {o o' : OV} (h : o'.d = o.d) : sum o' = sum o := by rw [sum_D, sum_D, h]
theorem sumD_nonneg (d : OD) : 0 ≤ sumD d := by
  have h1 := tot_nonneg d.ss
  have h2 := toty_nonneg d.ys
  unfold sumD
  omega
theorem fit_own {o : OV} {w : World} {base : Nat} (hs : sum o ≤ 1048576) (ho : OwnO w base o) : Fit o ∧ (∀ p ∈ o.ps, p.zs.length ≤ p.c) := by
  obtain ⟨⟨l1, l2, l3⟩, l4, l5⟩ := sum_lim hs
  have hmx : (1048576 : Nat) ≤ maxLen := by decide
  refine ⟨⟨l1, l2, ho.2.cap.1, fun p hp => ⟨Nat.le_trans (l4 p hp) hmx, (l3 p hp).1, (l3 p hp).2⟩, fun y hy => Nat.le_trans (l5 y hy) hmx⟩, fun p hp => ((ho.1.2.1 p hp).1).cap.1⟩
theorem RdO.call2 {w w' : World} {o : OV} (h : RdO w w.heap.size o) (hb : Below w.heap.size w w') : RdO w' w'.heap.size o := (h.below hb).more hb.size
theorem own_up {w : World} {base b : Nat} {o : OV} (h : OwnO w base o) (hb : ∀ k, oblk o k → b ≤ k) : OwnO w b o :=
  ⟨⟨h.1.1.up (fun k hk => hb k (.inl (.inl hk))), fun p hp => ⟨(h.1.2.1 p hp).1.up (fun k hk => hb k (.inl (.inr ⟨p, hp, .inl hk⟩))), (h.1.2.1 p hp).2.up (fun k hk => hb k (.inl (.inr ⟨p, hp, .inr hk⟩)))⟩, h.1.2.2⟩, h.2.up (fun k hk => hb k (.inr hk))⟩
/-- A mark in the memory of another: the same sum. -/
theorem tot_map {f : SD → SD} (hf : ∀ s, wt (f s) = wt s) : ∀ ds : List SD, tot (ds.map f) = tot ds
  | [] => rfl
  | d :: ds => by
    have := tot_map hf ds
    simp [tot, hf, this]
theorem clear_sum (d : OD) : sumD (PClear.clearD d) ≤ sumD d := by
  have h0 := sumD_nonneg d
  unfold PClear.clearD
  cases objOk d
  · simpa [sumD, tot, toty] using h0
  · simp only [sumD, cond_true, List.length_map]
    rw [tot_map (fun s => by simp [wt, PClear.clearS, PClear.clrs_len])]
    exact Int.le_refl _
end Go.Proofs.Ytmglgjchemecjaa.WObj
/- The order of symbols; plain. -/
namespace Go.Proofs.Ytmglgjchemecjaa.PSort
set_option maxRecDepth 200000
open Go.ChangeShapes Go.WideShapes Go.ChangeAt Go.RowKit Kit CFixups CSymbols PObj BObj PValid PWarn PClear WObj
def sl (a b : ByteArray) : Bool := Op.bytesLess a.toList b.toList
def loc (y : YD) : Bool := y.2.1 == 0
def bef (a b : YD) : Bool := bif loc a != loc b then loc a else sl a.1 b.1
def cmpS (a b : ByteArray) : Int := if sl a b = true then -1 else if (a.toList == b.toList) = true then 0 else 1
def grp (y : YD) : Int := if loc y = true then 0 else 1
def cmpN (a b : Int) : Int := if a < b then -1 else if b < a then 1 else 0
def cmpY (a b : YD) : Int := if cmpN (grp a) (grp b) ≠ 0 then cmpN (grp a) (grp b) else cmpS a.1 b.1
theorem cmp_lt (a b : YD) : decide (cmpY a b < 0) = bef a b := by
  unfold cmpY bef grp cmpN cmpS
  cases loc a <;> cases loc b <;> simp
  cases sl a.1 b.1
  · simp
    split <;> simp
  · simp
  · cases sl a.1 b.1
    · simp
      split <;> simp
    · simp
theorem cmp_bd (a b : YD) : -1 ≤ cmpY a b ∧ cmpY a b ≤ 1 := by
  unfold cmpY cmpN cmpS
  split <;> (repeat' split) <;> omega
section
variable (bf : Nat → Nat → Bool)
def pos (L : List Nat) (x : Nat) : Nat → Nat
  | 0 => 0
  | n + 1 => if bf x (L.getD n 0) = true then pos L x n else n + 1
def ins (L : List Nat) (x : Nat) : List Nat := L.take (pos bf L x L.length) ++ x :: L.drop (pos bf L x L.length)
def ord : Nat → List Nat
  | 0 => []
  | k + 1 => ins bf (ord k) k
theorem ins_perm (L : List Nat) (x : Nat) : (ins bf L x).Perm (x :: L) := by
  unfold ins
  refine List.perm_middle.trans (List.Perm.cons x ?_)
  rw [List.take_append_drop]
theorem ord_perm : ∀ n, (ord bf n).Perm (List.range n)
  | 0 => by simp [ord]
  | n + 1 => by
    rw [ord, List.range_succ]
    refine (ins_perm bf _ n).trans ((List.Perm.cons n (ord_perm n)).trans ?_)
    exact (List.perm_append_comm (l₁ := [n]) (l₂ := List.range n))
theorem ord_len (n : Nat) : (ord bf n).length = n := by rw [(ord_perm bf n).length_eq, List.length_range]
theorem ord_lt {n x : Nat} (h : x ∈ ord bf n) : x < n := List.mem_range.1 ((ord_perm bf n).mem_iff.1 h)
theorem ord_mem {n x : Nat} (h : x < n) : x ∈ ord bf n := (ord_perm bf n).mem_iff.2 (List.mem_range.2 h)
theorem ord_nodup (n : Nat) : (ord bf n).Nodup := (ord_perm bf n).nodup_iff.2 List.nodup_range
theorem ord_get {n k : Nat} (h : k < n) : (ord bf n).getD k 0 < n := by
  have hk : k < (ord bf n).length := by rw [ord_len]; exact h
  rw [List.getD_eq_getElem?_getD, List.getElem?_eq_getElem hk]
  exact ord_lt bf (List.getElem_mem hk)
end
/-- One swap of the insertion sort. -/
theorem swap_row (L : List Nat) (x j : Nat) (rest : List Nat) (h : j < L.length) : ((L.take (j + 1) ++ x :: L.drop (j + 1) ++ rest).set (j + 1) (L.getD j 0)).set j x = L.take j ++ x :: L.drop j ++ rest := by
  have h1 : L.take (j + 1) = L.take j ++ [L[j]] := take_succ h
  have h2 : L.drop j = L[j] :: L.drop (j + 1) := List.drop_eq_getElem_cons h
  have h3 : (L.take j).length = j := by rw [List.length_take]; omega
  have h4 : L.getD j 0 = L[j] := by rw [List.getD_eq_getElem?_getD, List.getElem?_eq_getElem h]; rfl
  rw [h1, h2, h4]
  generalize L.take j = T at *
  subst h3
  simp [List.set_append]
  rw [h2]
  rfl
theorem row_x (L : List Nat) (x j : Nat) (rest : List Nat) (h : j ≤ L.length) : (L.take j ++ x :: L.drop j ++ rest).getD j 0 = x := by
  have h3 : (L.take j).length = j := by rw [List.length_take]; omega
  rw [List.getD_eq_getElem?_getD, List.append_assoc, List.getElem?_append_right (by omega), h3]
  simp
theorem row_p (L : List Nat) (x j : Nat) (rest : List Nat) (h : j < L.length) : (L.take (j + 1) ++ x :: L.drop (j + 1) ++ rest).getD j 0 = L.getD j 0 := by
  have h3 : (L.take (j + 1)).length = j + 1 := by rw [List.length_take]; omega
  rw [List.getD_eq_getElem?_getD, List.append_assoc, List.getElem?_append_left (by omega), List.getElem?_take_of_lt (by omega), ← List.getD_eq_getElem?_getD]
def bfY (ys : List YD) (i j : Nat) : Bool := bef (ys.getD i dY) (ys.getD j dY)
def order (ys : List YD) : List Nat := ord (bfY ys) ys.length
def renum (L : List Nat) (f : FD) : FD := (f.1, f.2.1, ((L.idxOf f.2.2.1.toNat : Nat) : Int), f.2.2.2)
def sortS (L : List Nat) (s : SD) : SD := { s with fs := s.fs.map (renum L) }
def sortD (d : OD) : OD := bif objOk d then ⟨d.ss.map (sortS (order d.ys)), (order d.ys).map fun i => d.ys.getD i dY⟩ else ⟨[], []⟩
theorem toty_perm {a b : List YD} (h : a.Perm b) : toty a = toty b := by
  induction h with
  | nil => rfl
  | cons x _ ih => simp [toty, ih]
  | swap x y l => simp only [toty]; omega
  | trans _ _ h1 h2 => exact h1.trans h2
theorem map_range (ys : List YD) : (List.range ys.length).map (fun i => ys.getD i dY) = ys := by
  apply List.ext_getElem
  · simp
  · intro i h1 h2
    simp [List.getD_eq_getElem?_getD, List.getElem?_eq_getElem h2]
theorem sort_sum (d : OD) : sumD (sortD d) ≤ sumD d := by
  have h0 := sumD_nonneg d
  unfold sortD
  cases objOk d
  · simpa [sumD, tot, toty] using h0
  · simp only [sumD, cond_true, List.length_map]
    rw [tot_map (fun s => by simp [wt, sortS]), show (order d.ys).length = d.ys.length from ord_len _ _]
    have h := (ord_perm (bfY d.ys) d.ys.length).map (fun i => d.ys.getD i dY)
    rw [map_range] at h
    rw [toty_perm (show ((order d.ys).map fun i => d.ys.getD i dY).Perm d.ys from h)]
    exact Int.le_refl _
theorem sort_bad {d : OD} (h : objOk d = false) : sortD d = ⟨[], []⟩ := by rw [sortD, h]; rfl
/-- A section with its fixups numbered anew. -/
def renP (L : List Nat) (p : SV) : SV := { p with fs := p.fs.map (renum L) }
def renJ (L : List Nat) (p : SV) (j : Nat) : SV := { p with fs := (p.fs.take j).map (renum L) ++ p.fs.drop j }
theorem renJ_zero (L : List Nat) (p : SV) : renJ L p 0 = p := by simp [renJ]
theorem renJ_all (L : List Nat) (p : SV) {j : Nat} (h : p.fs.length ≤ j) : renJ L p j = renP L p := by
  simp [renJ, renP, List.take_of_length_le h, List.drop_of_length_le h]
theorem renJ_len (L : List Nat) (p : SV) (j : Nat) : (renJ L p j).fs.length = p.fs.length := by simp [renJ]; omega
theorem renJ_cells (L : List Nat) (p : SV) (j : Nat) : secC (renJ L p j) = secC p := by
  simp only [secC, renJ_len]
  rfl
theorem renJ_at (L : List Nat) (p : SV) (j : Nat) (h : j < p.fs.length) : (renJ L p j).fs[j]? = some p.fs[j] := by
  simp only [renJ]
  rw [List.getElem?_append_right (by simp; omega)]
  simp [List.length_take, Nat.min_eq_left (Nat.le_of_lt h), List.getElem?_eq_getElem h]
theorem renJ_succ (L : List Nat) (p : SV) (j : Nat) (h : j < p.fs.length) : renJ L p (j + 1) = { renJ L p j with fs := (renJ L p j).fs.set j (renum L p.fs[j]) } := by
  have h1 : p.fs.take (j + 1) = p.fs.take j ++ [p.fs[j]] := take_succ h
  have h2 : p.fs.drop j = p.fs[j] :: p.fs.drop (j + 1) := List.drop_eq_getElem_cons h
  have h3 : (p.fs.take j).length = j := by rw [List.length_take]; omega
  simp only [renJ, SV.mk.injEq, true_and]
  rw [h1, h2]
  generalize p.fs.take j = T at *
  subst h3
  simp [List.set_append]
  rw [h2]
  rfl
theorem sort_ok {ps : List SV} {ys : List YD} (h : objOk ⟨ps.map SV.d, ys⟩ = true) : sortD ⟨ps.map SV.d, ys⟩ = ⟨(ps.map (renP (order ys))).map SV.d, (order ys).map fun i => ys.getD i dY⟩ := by
  rw [sortD, h, cond_true, List.map_map, List.map_map]
  rfl
end Go.Proofs.Ytmglgjchemecjaa.PSort
/- cmp.Compare of ints and strings, cmp.Or of two ints, slices.Index of ints, l22Before. -/
namespace Go.Proofs.Ytmglgjchemecjaa.CCmp
set_option maxRecDepth 200000
open Go.ChangeShapes Go.WideShapes Go.ChangeAt Go.RowKit Kit CFixups CSymbols PObj BObj PSort
theorem nanS_any (a : ByteArray) (w : World) : Calls Try.prog 130 #[.string a] w (Pure (.bool false) w) := by
  go_enter Try.func130, Try.ntmps130
  go_wp2
  go_ret
  exact ⟨by simp, rfl⟩
theorem nanI_any (a : Int) (w : World) : Calls Try.prog 129 #[.int .i64 a] w (Pure (.bool false) w) := by
  go_enter Try.func129, Try.ntmps129
  go_wp2
  go_ret
  exact ⟨by simp, rfl⟩
theorem compareI_any (a b : Int) (w : World) : Calls Try.prog 70 #[.int .i64 a, .int .i64 b] w (Pure (.int .i64 (cmpN a b)) w) := by
  go_enter Try.func70, Try.ntmps70
  go_wp2_with fail
  refine (nanI_any a w).mono ?_
  rintro e w1 ⟨rfl, rfl⟩
  go_wp2_with fail
  refine (nanI_any b w).mono ?_
  rintro e w1 ⟨rfl, rfl⟩
  by_cases h1 : a < b
  · have HV := hide (show cmpN a b = -1 by rw [cmpN, if_pos h1])
    go_wp2_with fail
    go_ret
    exact ⟨by rw [HV.out]; rfl, rfl⟩
  · by_cases h2 : b < a
    · have HV := hide (show cmpN a b = 1 by rw [cmpN, if_neg h1, if_pos h2])
      go_wp2_with fail
      go_ret
      exact ⟨by rw [HV.out]; rfl, rfl⟩
    · have HV := hide (show cmpN a b = 0 by rw [cmpN, if_neg h1, if_neg h2])
      go_wp2_with fail
      go_ret
      exact ⟨by rw [HV.out]; rfl, rfl⟩
theorem compareS_any (a b : ByteArray) (w : World) : Calls Try.prog 71 #[.string a, .string b] w (Pure (.int .i64 (cmpS a b)) w) := by
  go_enter Try.func71, Try.ntmps71
  go_wp2_with fail
  refine (nanS_any a w).mono ?_
  rintro e w1 ⟨rfl, rfl⟩
  go_wp2_with fail
  refine (nanS_any b w).mono ?_
  rintro e w1 ⟨rfl, rfl⟩
  cases h1 : Op.bytesLess a.toList b.toList
  · cases h2 : (a.toList == b.toList)
    · have HV := hide (show cmpS a b = 1 by simp only [cmpS, sl, h1, h2]; rfl)
      go_wp2_with fail
      go_ret
      exact ⟨by rw [HV.out]; rfl, rfl⟩
    · have HV := hide (show cmpS a b = 0 by simp only [cmpS, sl, h1, h2]; rfl)
      go_wp2_with fail
      go_ret
      exact ⟨by rw [HV.out]; rfl, rfl⟩
  · have HV := hide (show cmpS a b = -1 by simp only [cmpS, sl, h1]; rfl)
    go_wp2_with fail
    go_ret
    exact ⟨by rw [HV.out]; rfl, rfl⟩
def or2 (a b : Int) : Int := if a ≠ 0 then a else b
theorem or_any (b off c : Nat) (x y : Int) (w : World) (h0 : w.cell? ⟨b, off, none⟩ = some (.int .i64 x)) (h1 : w.cell? ⟨b, off + 1, none⟩ = some (.int .i64 y)) :
    Calls Try.prog 69 #[.slice (some ⟨b, off, none⟩) 2 c] w (Pure (.int .i64 (or2 x y)) w) := by
  have HH := hide (And.intro h0 h1)
  clear h0 h1
  go_enter Try.func69, Try.ntmps69
  go_wp2
  go_loop [8] (fun i => ∃ k : Nat, k ≤ 2 ∧ i = .int .i64 k ∧ (0 < k → x = 0) ∧ (1 < k → y = 0)) (fun i => 2 - (intOf i).toNat)
  case atStart => exact ⟨0, Nat.zero_le _, rfl, fun h => by omega, fun h => by omega⟩
  case round =>
    obtain ⟨k, hk, rfl, hx, hy⟩ := hrel
    have hk : k = 0 ∨ k = 1 ∨ k = 2 := by omega
    have hh0 := HH.out.1
    have hh1 := HH.out.2
    rcases hk with rfl | rfl | rfl
    · by_cases hz : x = 0
      · subst hz
        go_wp2_with fail
        go_round
        case rel => exact ⟨1, by omega, by go_num, fun _ => by trivial, fun h => by omega⟩
        case measure => simp [intOf]
      · have e1 : (x != 0) = true := bne_iff_ne.2 hz
        have HV := hide (show or2 x y = x by rw [or2, if_pos hz])
        clear hx hy hz
        go_wp2_with fail
        go_ret
        exact ⟨by rw [HV.out]; rfl, rfl⟩
    · have hx0 := hx (by omega)
      subst hx0
      have HV := hide (show or2 0 y = y by rw [or2, if_neg (by simp)])
      by_cases hz : y = 0
      · subst hz
        clear hx hy
        go_wp2_with fail
        go_round
        case rel => exact ⟨2, by omega, by go_num, fun _ => by trivial, fun _ => by trivial⟩
        case measure => simp [intOf]
      · have e1 : (y != 0) = true := bne_iff_ne.2 hz
        clear hx hy hz
        go_wp2_with fail
        go_ret
        exact ⟨by rw [HV.out]; rfl, rfl⟩
    · have hx0 := hx (by omega)
      have hy0 := hy (by omega)
      subst hx0 hy0
      clear hx hy
      go_wp2_with fail
      go_ret
      exact ⟨rfl, rfl⟩
def toI (L : List Nat) : List Int := L.map fun (n : Nat) => (n : Int)
@[simp] theorem toI_len (L : List Nat) : (toI L).length = L.length := by simp [toI]
/-- slices.Index of ints. -/
theorem index_any (A : Option Addr) (L : List Nat) (c : Nat) (x : Nat) (w : World) (hr : Rd w w.heap.size A (ints .i64 (toI L))) (hm : L.length ≤ 1000000) (hx : x ∈ L) :
    Calls Try.prog 72 #[.slice A L.length c, .int .i64 x] w (Pure (.int .i64 (L.idxOf x : Nat)) w) := by
  have HR := hide hr
  have HX := hide hx
  clear hr hx
  go_enter Try.func72, Try.ntmps72
  go_wp2
  go_loop [8] (fun i => ∃ k : Nat, k ≤ L.length ∧ i = .int .i64 k ∧ x ∉ L.take k) (fun i => L.length - (intOf i).toNat)
  case atStart => exact ⟨0, Nat.zero_le _, rfl, by simp⟩
  case round =>
    obtain ⟨k, hk, rfl, hno⟩ := hrel
    by_cases hlt : k < L.length
    · obtain ⟨b, off, hA, hb, hc0⟩ := HR.out.int (show k < (toI L).length by simpa using hlt)
      have hc : w.cell? ⟨b, off + k, none⟩ = some (.int .i64 (L[k] : Nat)) := by simpa [toI] using hc0
      clear hc0
      subst hA
      have HS := hide (show L[k] ≠ x → x ∉ L.take (k + 1) from fun h => by
        rw [take_succ hlt, List.mem_append, List.mem_singleton]
        rintro (h' | h')
        · exact hno h'
        · exact h h'.symm)
      have HT := hide (show L[k] = x → L.idxOf x = k from fun h => by
        have e : L = L.take k ++ L[k] :: L.drop (k + 1) := by rw [← List.drop_eq_getElem_cons hlt, List.take_append_drop]
        rw [e, List.idxOf_append, if_neg hno, List.length_take, h]
        simp
        omega)
      clear hno
      generalize L[k] = y at *
      by_cases hy : y = x
      · have HV := hide (HT.out hy)
        clear HS HT
        subst hy
        go_wp2_with fail
        go_ret
        exact ⟨by rw [HV.out]; rfl, rfl⟩
      · have HV := hide (HS.out hy)
        have e1 : ((x : Int) == (y : Int)) = false := by
          rw [beq_eq_false_iff_ne]
          omega
        clear HS HT hy
        go_wp2_with fail
        go_round
        case rel => exact ⟨k + 1, by omega, by go_num, HV.out⟩
        case measure => simp [intOf]; omega
    · exact absurd HX.out (by rwa [List.take_of_length_le (by omega)] at hno)
theorem l22Before_any (a b : YD) (w : World) :
    Calls Try.prog 65 #[.agg #[.string a.1, .int .i64 a.2.1, .int .i64 a.2.2.1, .int .i64 a.2.2.2], .agg #[.string b.1, .int .i64 b.2.1, .int .i64 b.2.2.1, .int .i64 b.2.2.2]] w (Ret (.bool (bef a b)) w) := by
  have B0 : Below w.heap.size w ((w.alloc (.cells #[.string a.1, .int .i64 a.2.1, .int .i64 a.2.2.1, .int .i64 a.2.2.2] 69)).alloc (.cells #[.string b.1, .int .i64 b.2.1, .int .i64 b.2.2.1, .int .i64 b.2.2.2] 69)) := (by repeat (first | exact Below.refl _ _ | with_reducible assumption | (refine Below.drew ?_) | (refine Below.drewN ?_ _) | (refine Below.alloc ?_ (by simp; try omega) _) | (refine Below.setCell ?_ (by simp; try omega) _)))
  have HB := hide B0
  clear B0
  have HV := hide (show bef a b = bif ((a.2.1 == 0) != (b.2.1 == 0)) then (a.2.1 == 0) else Op.bytesLess a.1.toList b.1.toList from rfl)
  go_enter Try.func65, Try.ntmps65
  obtain ⟨an, ab, aw, av⟩ := a
  obtain ⟨bn, bb, bw, bv⟩ := b
  simp only at HB HV ⊢
  by_cases h1 : ab = 0
  · subst h1
    by_cases h2 : bb = 0
    · subst h2
      go_wp2_with fail
      go_ret
      exact ⟨by rw [HV.out]; rfl, HB.out⟩
    · have e2 : (bb == 0) = false := beq_eq_false_iff_ne.2 h2
      rw [e2] at HV
      clear h2
      go_wp2_with fail
      go_ret
      exact ⟨by rw [HV.out]; rfl, HB.out⟩
  · have e1 : (ab == 0) = false := beq_eq_false_iff_ne.2 h1
    rw [e1] at HV
    clear h1
    by_cases h2 : bb = 0
    · subst h2
      go_wp2_with fail
      go_ret
      exact ⟨by rw [HV.out]; rfl, HB.out⟩
    · have e2 : (bb == 0) = false := beq_eq_false_iff_ne.2 h2
      rw [e2] at HV
      clear h2
      go_wp2_with fail
      go_ret
      exact ⟨by rw [HV.out]; rfl, HB.out⟩
end Go.Proofs.Ytmglgjchemecjaa.CCmp
/- The comparer of symbols that SortSymbols hands to the library. -/
namespace Go.Proofs.Ytmglgjchemecjaa.CCmpY
set_option maxRecDepth 200000
open Go.ChangeShapes Go.WideShapes Go.ChangeAt Go.RowKit Kit CFixups CSymbols PObj BObj PSort CCmp
theorem group_any (V : Nat) (Y : Option Addr) (ys : List YD) (yc j : Nat) (hj : j < ys.length) (w : World) (hY : w.cell? ⟨V, 1, none⟩ = some (.slice Y ys.length yc)) (hr : Rd w w.heap.size Y (cellsOf symbolC ys)) (hm : ys.length ≤ 1000000) :
    Calls Try.prog 66 #[.int .i64 j, .pointer (some ⟨V, 0, none⟩)] w (Pure (.int .i64 (grp ys[j])) w) := by
  obtain ⟨b, off, hA, hb, hc⟩ := hr.row symbolC_len (by decide) hj
  have hc1 := hc 1 _ rfl
  subst hA
  clear hc hr
  have HV := hide (show grp ys[j] = if (ys[j].2.1 == 0) = true then 0 else 1 from rfl)
  generalize ys[j] = z at *
  go_enter Try.func66, Try.ntmps66
  by_cases h : z.2.1 = 0
  · have e1 : (z.2.1 == 0) = true := beq_iff_eq.2 h
    rw [e1] at HV
    go_wp2_with fail
    go_ret
    exact ⟨by rw [HV.out]; rfl, rfl⟩
  · have e1 : (z.2.1 == 0) = false := beq_eq_false_iff_ne.2 h
    rw [e1] at HV
    clear h
    go_wp2_with fail
    go_ret
    exact ⟨by rw [HV.out]; rfl, rfl⟩
/-- What the comparer reads. -/
def CmpInv (V G : Nat) (Y : Option Addr) (ys : List YD) (yc : Nat) (w : World) : Prop :=
  w.cell? ⟨V, 1, none⟩ = some (.slice Y ys.length yc) ∧ w.cell? ⟨G, 0, none⟩ = some (.func (.func 66) #[] #[.pointer (some ⟨V, 0, none⟩)]) ∧ Rd w w.heap.size Y (cellsOf symbolC ys) ∧ V < w.heap.size ∧ G < w.heap.size
theorem CmpInv.call {V G : Nat} {Y : Option Addr} {ys : List YD} {yc : Nat} {w w' : World} (h : CmpInv V G Y ys yc w) (hb : Below w.heap.size w w') : CmpInv V G Y ys yc w' :=
  ⟨(hb.cell (p := ⟨V, 1, none⟩) h.2.2.2.1).trans h.1, (hb.cell (p := ⟨G, 0, none⟩) h.2.2.2.2).trans h.2.1, (h.2.2.1.below hb).more hb.size, Nat.lt_of_lt_of_le h.2.2.2.1 hb.size, Nat.lt_of_lt_of_le h.2.2.2.2 hb.size⟩
set_option maxHeartbeats 2000000 in
theorem cmp_any (V G : Nat) (Y : Option Addr) (ys : List YD) (yc i j : Nat) (hi : i < ys.length) (hj : j < ys.length) (w : World) (h : CmpInv V G Y ys yc w) (hm : ys.length ≤ 1000000) :
    Calls Try.prog 68 #[.int .i64 i, .int .i64 j, .pointer (some ⟨G, 0, none⟩), .pointer (some ⟨V, 0, none⟩)] w (Ret (.int .i64 (cmpY ys[i] ys[j])) w) := by
  obtain ⟨hV, hG, hr, hVl, hGl⟩ := h
  obtain ⟨b, off, hA, hb, hc⟩ := hr.row symbolC_len (by decide) hi
  obtain ⟨b', off', hA', hb', hc'⟩ := hr.row symbolC_len (by decide) hj
  have e := hA.symm.trans hA'
  simp only [Option.some.injEq, Addr.mk.injEq, and_true] at e
  obtain ⟨rfl, rfl⟩ := e
  have hi0 := hc 0 _ rfl
  have hj0 := hc' 0 _ rfl
  simp only [Nat.add_zero] at hi0 hj0
  have HGA := hide (fun W (hW : Below w.heap.size w W) => group_any V Y ys yc i hi W ((hW.cell (p := ⟨V, 1, none⟩) hVl).trans hV) ((hr.below hW).more hW.size) hm)
  have HGB := hide (fun W (hW : Below w.heap.size w W) => group_any V Y ys yc j hj W ((hW.cell (p := ⟨V, 1, none⟩) hVl).trans hV) ((hr.below hW).more hW.size) hm)
  have HV := hide (show cmpY ys[i] ys[j] = or2 (cmpN (grp ys[i]) (grp ys[j])) (cmpS ys[i].1 ys[j].1) from rfl)
  subst hA
  clear hc hc' hr hA'
  generalize ys[i] = x at *
  generalize ys[j] = y at *
  generalize grp x = gx at *
  generalize grp y = gy at *
  obtain ⟨xn, xr⟩ := x
  obtain ⟨yn, yr⟩ := y
  simp only at hi0 hj0 HV
  go_enter Try.func68, Try.ntmps68
  go_wp2_with fail
  have HS := hide (fun W (hW : Below w.heap.size w W) => (show W.cell? ⟨G, 0, none⟩ = some (.func (.func 66) #[] #[.pointer (some ⟨V, 0, none⟩)]) ∧ W.cell? ⟨V, 1, none⟩ = some (.slice (some ⟨b, off, none⟩) ys.length yc) ∧ W.cell? ⟨b, off + i * 4, none⟩ = some (.string xn) ∧ W.cell? ⟨b, off + j * 4, none⟩ = some (.string yn) from ⟨(hW.cell (p := ⟨G, 0, none⟩) hGl).trans hG, (hW.cell (p := ⟨V, 1, none⟩) hVl).trans hV, (hW.cell (p := ⟨b, off + i * 4, none⟩) hb).trans hi0, (hW.cell (p := ⟨b, off + j * 4, none⟩) hb).trans hj0⟩))
  clear hi0 hj0 hG hV
  refine Reg.startT (fun W => W.cell? ⟨G, 0, none⟩ = some (.func (.func 66) #[] #[.pointer (some ⟨V, 0, none⟩)]) ∧ W.cell? ⟨V, 1, none⟩ = some (.slice (some ⟨b, off, none⟩) ys.length yc) ∧ W.cell? ⟨b, off + i * 4, none⟩ = some (.string xn) ∧ W.cell? ⟨b, off + j * 4, none⟩ = some (.string yn)) (fun _ => false) (by kernel_rfl) ?_
  have hHeld := HS.out w.drew (Below.drew (Below.refl _ _))
  refine Reg.takeT (i := 0) (v := ?_) rfl (by kernel_rfl) (by kernel_rfl) (by kernel_rfl) (by kernel_rfl) (fun _ _ _ h => h) (Or.inl ⟨by rfl, ?_⟩) (by assumption) ?_
  rotate_left 1
  focus (intro w hSw; (try dsimp only at hSw); go_simp; (try with_reducible rfl))
  try simp only [List.getElem_toArray, List.getElem_cons_succ, List.getElem_cons_zero, Act.put, List.setIfInBounds_toArray, List.set_cons_zero, List.set_cons_succ]
  refine Reg.takeT (i := 1) (v := ?_) rfl (by kernel_rfl) (by kernel_rfl) (by kernel_rfl) (by kernel_rfl) (fun _ _ _ h => h) (Or.inl ⟨by rfl, ?_⟩) (by assumption) ?_
  rotate_left 1
  focus (intro w hSw; (try dsimp only at hSw); go_simp; (try with_reducible rfl))
  try simp only [List.getElem_toArray, List.getElem_cons_succ, List.getElem_cons_zero, Act.put, List.setIfInBounds_toArray, List.set_cons_zero, List.set_cons_succ]
  refine Reg.takeT (i := 3) (v := ?_) rfl (by kernel_rfl) (by kernel_rfl) (by kernel_rfl) (by kernel_rfl) (fun _ _ _ h => h) (Or.inl ⟨by rfl, ?_⟩) (by assumption) ?_
  rotate_left 1
  focus (intro w hSw; (try dsimp only at hSw); go_simp; (try with_reducible rfl))
  try simp only [List.getElem_toArray, List.getElem_cons_succ, List.getElem_cons_zero, Act.put, List.setIfInBounds_toArray, List.set_cons_zero, List.set_cons_succ]
  refine Reg.takeT (i := 4) (v := ?_) rfl (by kernel_rfl) (by kernel_rfl) (by kernel_rfl) (by kernel_rfl) (fun _ _ _ h => h) (Or.inl ⟨by rfl, ?_⟩) (by assumption) ?_
  rotate_left 1
  focus (intro w hSw; (try dsimp only at hSw); go_simp; (try with_reducible rfl))
  try simp only [List.getElem_toArray, List.getElem_cons_succ, List.getElem_cons_zero, Act.put, List.setIfInBounds_toArray, List.set_cons_zero, List.set_cons_succ]
  refine Reg.takeT (i := 7) (v := ?_) rfl (by kernel_rfl) (by kernel_rfl) (by kernel_rfl) (by kernel_rfl) (fun _ _ _ h => h) (Or.inl ⟨by rfl, ?_⟩) (by assumption) ?_
  rotate_left 1
  focus (intro w hSw; (try dsimp only at hSw); go_simp; (try with_reducible rfl))
  try simp only [List.getElem_toArray, List.getElem_cons_succ, List.getElem_cons_zero, Act.put, List.setIfInBounds_toArray, List.set_cons_zero, List.set_cons_succ]
  refine Reg.takeT (i := 8) (v := ?_) rfl (by kernel_rfl) (by kernel_rfl) (by kernel_rfl) (by kernel_rfl) (fun _ _ _ h => h) (Or.inl ⟨by rfl, ?_⟩) (by assumption) ?_
  rotate_left 1
  focus (intro w hSw; (try dsimp only at hSw); go_simp; (try with_reducible rfl))
  try simp only [List.getElem_toArray, List.getElem_cons_succ, List.getElem_cons_zero, Act.put, List.setIfInBounds_toArray, List.set_cons_zero, List.set_cons_succ]
  refine Reg.takeT (i := 9) (v := ?_) rfl (by kernel_rfl) (by kernel_rfl) (by kernel_rfl) (by kernel_rfl) (fun _ _ _ h => h) (Or.inl ⟨by rfl, ?_⟩) (by assumption) ?_
  rotate_left 1
  focus (intro w hSw; (try dsimp only at hSw); go_simp; (try with_reducible rfl))
  try simp only [List.getElem_toArray, List.getElem_cons_succ, List.getElem_cons_zero, Act.put, List.setIfInBounds_toArray, List.set_cons_zero, List.set_cons_succ]
  refine Reg.takeT (i := 10) (v := ?_) rfl (by kernel_rfl) (by kernel_rfl) (by kernel_rfl) (by kernel_rfl) (fun _ _ _ h => h) (Or.inl ⟨by rfl, ?_⟩) (by assumption) ?_
  rotate_left 1
  focus (intro w hSw; (try dsimp only at hSw); go_simp; (try with_reducible rfl))
  try simp only [List.getElem_toArray, List.getElem_cons_succ, List.getElem_cons_zero, Act.put, List.setIfInBounds_toArray, List.set_cons_zero, List.set_cons_succ]
  refine Reg.takeT (i := 11) (v := ?_) rfl (by kernel_rfl) (by kernel_rfl) (by kernel_rfl) (by kernel_rfl) (fun _ _ _ h => h) (Or.inl ⟨by rfl, ?_⟩) (by assumption) ?_
  rotate_left 1
  focus (intro w hSw; (try dsimp only at hSw); go_simp; (try with_reducible rfl))
  try simp only [List.getElem_toArray, List.getElem_cons_succ, List.getElem_cons_zero, Act.put, List.setIfInBounds_toArray, List.set_cons_zero, List.set_cons_succ]
  refine Reg.takeT (i := 12) (v := ?_) rfl (by kernel_rfl) (by kernel_rfl) (by kernel_rfl) (by kernel_rfl) (fun _ _ _ h => h) (Or.inl ⟨by rfl, ?_⟩) (by assumption) ?_
  rotate_left 1
  focus (intro w hSw; (try dsimp only at hSw); go_simp; (try with_reducible rfl))
  try simp only [List.getElem_toArray, List.getElem_cons_succ, List.getElem_cons_zero, Act.put, List.setIfInBounds_toArray, List.set_cons_zero, List.set_cons_succ]
  refine Reg.takeT (i := 13) (v := ?_) rfl (by kernel_rfl) (by kernel_rfl) (by kernel_rfl) (by kernel_rfl) (fun _ _ _ h => h) (Or.inl ⟨by rfl, ?_⟩) (by assumption) ?_
  rotate_left 1
  focus (intro w hSw; (try dsimp only at hSw); go_simp; (try with_reducible rfl))
  try simp only [List.getElem_toArray, List.getElem_cons_succ, List.getElem_cons_zero, Act.put, List.setIfInBounds_toArray, List.set_cons_zero, List.set_cons_succ]
  refine Reg.takeT (i := 14) (v := ?_) rfl (by kernel_rfl) (by kernel_rfl) (by kernel_rfl) (by kernel_rfl) (fun _ _ _ h => h) (Or.inl ⟨by rfl, ?_⟩) (by assumption) ?_
  rotate_left 1
  focus (intro w hSw; (try dsimp only at hSw); go_simp; (try with_reducible rfl))
  try simp only [List.getElem_toArray, List.getElem_cons_succ, List.getElem_cons_zero, Act.put, List.setIfInBounds_toArray, List.set_cons_zero, List.set_cons_succ]
  refine Reg.takeT (i := 15) (v := ?_) rfl (by kernel_rfl) (by kernel_rfl) (by kernel_rfl) (by kernel_rfl) (fun _ _ _ h => h) (Or.inl ⟨by rfl, ?_⟩) (by assumption) ?_
  rotate_left 1
  focus (intro w hSw; (try dsimp only at hSw); go_simp; (try with_reducible rfl))
  try simp only [List.getElem_toArray, List.getElem_cons_succ, List.getElem_cons_zero, Act.put, List.setIfInBounds_toArray, List.set_cons_zero, List.set_cons_succ]
  refine Reg.takeT (i := 16) (v := ?_) rfl (by kernel_rfl) (by kernel_rfl) (by kernel_rfl) (by kernel_rfl) (fun _ _ _ h => h) (Or.inl ⟨by rfl, ?_⟩) (by assumption) ?_
  rotate_left 1
  focus (intro w hSw; (try dsimp only at hSw); go_simp; (try with_reducible rfl))
  try simp only [List.getElem_toArray, List.getElem_cons_succ, List.getElem_cons_zero, Act.put, List.setIfInBounds_toArray, List.set_cons_zero, List.set_cons_succ]
  refine Reg.takeT (i := 17) (v := ?_) rfl (by kernel_rfl) (by kernel_rfl) (by kernel_rfl) (by kernel_rfl) (fun _ _ _ h => h) (Or.inl ⟨by rfl, ?_⟩) (by assumption) ?_
  rotate_left 1
  focus (intro w hSw; (try dsimp only at hSw); go_simp; (try with_reducible rfl))
  try simp only [List.getElem_toArray, List.getElem_cons_succ, List.getElem_cons_zero, Act.put, List.setIfInBounds_toArray, List.set_cons_zero, List.set_cons_succ]
  refine Reg.takeT (i := 18) (v := ?_) rfl (by kernel_rfl) (by kernel_rfl) (by kernel_rfl) (by kernel_rfl) (fun _ _ _ h => h) (Or.inl ⟨by rfl, ?_⟩) (by assumption) ?_
  rotate_left 1
  focus (intro w hSw; (try dsimp only at hSw); go_simp; (try with_reducible rfl))
  try simp only [List.getElem_toArray, List.getElem_cons_succ, List.getElem_cons_zero, Act.put, List.setIfInBounds_toArray, List.set_cons_zero, List.set_cons_succ]
  refine Reg.oneT (i := 2) rfl (by kernel_rfl) (fun K hK => ?_)
  go_simp
  refine (HGA.out w.drew (Below.drew (Below.refl _ _))).mono ?_
  rintro e w1 ⟨rfl, rfl⟩
  refine hK.out _ _ hHeld ?_
  clear hK K
  try simp only [List.getElem_toArray, List.getElem_cons_succ, List.getElem_cons_zero, Act.put, List.setIfInBounds_toArray, List.set_cons_zero, List.set_cons_succ]
  refine Reg.oneT (i := 5) rfl (by kernel_rfl) (fun K hK => ?_)
  go_simp
  refine (HGB.out w.drew (Below.drew (Below.refl _ _))).mono ?_
  rintro e w1 ⟨rfl, rfl⟩
  refine hK.out _ _ hHeld ?_
  clear hK K
  try simp only [List.getElem_toArray, List.getElem_cons_succ, List.getElem_cons_zero, Act.put, List.setIfInBounds_toArray, List.set_cons_zero, List.set_cons_succ]
  refine Reg.oneT (i := 6) rfl (by kernel_rfl) (fun K hK => ?_)
  go_simp
  refine (compareI_any gx gy w.drew).mono ?_
  rintro e w1 ⟨rfl, rfl⟩
  refine hK.out _ _ hHeld ?_
  clear hK K
  try simp only [List.getElem_toArray, List.getElem_cons_succ, List.getElem_cons_zero, Act.put, List.setIfInBounds_toArray, List.set_cons_zero, List.set_cons_succ]
  refine Reg.oneT (i := 19) rfl (by kernel_rfl) (fun K hK => ?_)
  go_simp
  refine (compareS_any xn yn w.drew).mono ?_
  rintro e w1 ⟨rfl, rfl⟩
  refine hK.out _ _ hHeld ?_
  clear hK K
  try simp only [List.getElem_toArray, List.getElem_cons_succ, List.getElem_cons_zero, Act.put, List.setIfInBounds_toArray, List.set_cons_zero, List.set_cons_succ]
  generalize cmpN gx gy = ci at *
  generalize cmpS xn yn = cs at *
  refine Reg.oneT (i := 20) rfl (by kernel_rfl) (fun K hK => ?_)
  go_simp
  have B2 : Below w.heap.size w (w.alloc (.cells #[.int .i64 ci, .int .i64 cs] 3)).drew := (by repeat (first | exact Below.refl _ _ | with_reducible assumption | (refine Below.drew ?_) | (refine Below.drewN ?_ _) | (refine Below.alloc ?_ (by simp; try omega) _) | (refine Below.setCell ?_ (by simp; try omega) _)))
  have X2 := (Box.new w 3 #[.int .i64 ci, .int .i64 cs]).drew
  have hHeld := HS.out _ B2
  refine hK.out _ _ hHeld ?_
  clear hK K
  try simp only [List.getElem_toArray, List.getElem_cons_succ, List.getElem_cons_zero, Act.put, List.setIfInBounds_toArray, List.set_cons_zero, List.set_cons_succ]
  have HB2 := hide B2
  have HO := hide (or_any w.heap.size 0 2 ci cs _ (X2.cell 0) (X2.cell 1))
  clear B2 X2
  refine Reg.oneT (i := 21) rfl (by kernel_rfl) (fun K hK => ?_)
  go_simp
  refine HO.out.mono ?_
  rintro e w1 ⟨rfl, rfl⟩
  refine hK.out _ _ hHeld ?_
  clear hK K
  try simp only [List.getElem_toArray, List.getElem_cons_succ, List.getElem_cons_zero, Act.put, List.setIfInBounds_toArray, List.set_cons_zero, List.set_cons_succ]
  refine Reg.takeT (i := 22) (v := ?_) rfl (by kernel_rfl) (by kernel_rfl) (by kernel_rfl) (by kernel_rfl) (fun _ _ _ h => h) (Or.inl ⟨by rfl, ?_⟩) (by assumption) ?_
  rotate_left 1
  focus (intro w hSw; (try dsimp only at hSw); go_simp; (try with_reducible rfl))
  try simp only [List.getElem_toArray, List.getElem_cons_succ, List.getElem_cons_zero, Act.put, List.setIfInBounds_toArray, List.set_cons_zero, List.set_cons_succ]
  refine Reg.doneT (by kernel_rfl) ?_ _
  clear hHeld HS
  go_wp2_with fail
  go_ret
  exact ⟨by rw [HV.out]; rfl, HB2.out⟩
end Go.Proofs.Ytmglgjchemecjaa.CCmpY
/- A region that draws its order, taken operation by operation: what only computes at once; loads under a condition on the world that all keep but those of T; those of T come up alone. -/
namespace Go.Proofs.Ytmglgjchemecjaa.Rv
set_option maxRecDepth 200000
open Go Reg
section
variable {P : Program} {ops : Array Oper} {Q : Exit → Act → World → Prop} {md : Region.Mode} {S : World → Prop} {T : Nat → Bool}
/-- Whatever order is picked from here on, and S stands over every operation that is carried out, but for those of T. -/
def wpAnyV (P : Program) (md : Region.Mode) (ops : Array Oper) (Q : Exit → Act → World → Prop) (S : World → Prop) (T : Nat → Bool) : Nat → Array Bool → Act → World → Prop
  | 0, listed, a, w => Region.ready md ops listed = [] ∧ Q .normal a w
  | fuel + 1, listed, a, w =>
    (Region.ready md ops listed = [] → Q .normal a w) ∧
    ∀ i ∈ Region.ready md ops listed, wpOp P ops Q i (fun a' w' => (T i = false → S w → S w') ∧ wpAnyV P md ops Q S T fuel (listed.setIfInBounds i true) a' w') a w
theorem wpAny_of_V : ∀ (fuel : Nat) (listed : Array Bool) (a : Act) (w : World), wpAnyV P md ops Q S T fuel listed a w → wpAny P md ops Q fuel listed a w
  | 0, _, _, _, h => h
  | fuel + 1, _, _, _, h => ⟨h.1, fun i hi => wpOp_mono (fun a' w' h' => wpAny_of_V fuel _ a' w' h'.2) (h.2 i hi)⟩
/-- All that waits for number i, directly or through others (n rounds). -/
def cl (md : Region.Mode) (ops : Array Oper) (listed : Array Bool) (i : Nat) : Nat → List Nat
  | 0 => (List.range ops.size).filter fun j => !listed.getD j true && (match ops[j]? with | some o => waits md o i | none => false)
  | n + 1 => (List.range ops.size).filter fun j => !listed.getD j true && (match ops[j]? with | some o => waits md o i || o.after.any (fun e => Region.binds md e && (cl md ops listed i n).contains e.on) | none => false)
/-- No member of C is taken while number i is not. -/
def closedB (md : Region.Mode) (ops : Array Oper) (listed : Array Bool) (i : Nat) (C : List Nat) (T : Nat → Bool) : Bool :=
  (C.all fun j => j != i && !listed.getD j true && (match ops[j]? with | some o => waits md o i || o.after.any (fun e => Region.binds md e && C.contains e.on) | none => false)) &&
  (List.range ops.size).all fun j => !T j || j == i || C.contains j
theorem closed_spec {i : Nat} {listed : Array Bool} {C : List Nat} (h : closedB md ops listed i C T = true) :
    (∀ j ∈ C, j ≠ i ∧ listed.getD j true = false ∧ ∃ o, ops[j]? = some o ∧ ∃ e ∈ o.after, Region.binds md e = true ∧ (e.on = i ∨ e.on ∈ C)) ∧ (∀ (j : Nat) (o : Oper), ops[j]? = some o → T j = true → j ≠ i → j ∈ C) := by
  unfold closedB at h
  rw [Bool.and_eq_true] at h
  obtain ⟨h1, h2⟩ := h
  refine ⟨fun j hj => ?_, fun j o ho ht hne => ?_⟩
  · have := List.all_eq_true.1 h1 j hj
    simp only [Bool.and_eq_true, bne_iff_ne, ne_eq, Bool.not_eq_true'] at this
    obtain ⟨⟨a, b⟩, c⟩ := this
    refine ⟨a, b, ?_⟩
    split at c
    · rename_i o ho
      refine ⟨o, ho, ?_⟩
      rcases Bool.or_eq_true_iff.1 c with c | c
      · unfold waits at c
        rw [Array.any_eq_true] at c
        obtain ⟨k, hk, he⟩ := c
        simp only [Bool.and_eq_true, beq_iff_eq] at he
        exact ⟨_, Array.getElem_mem hk, he.1, .inl he.2⟩
      · rw [Array.any_eq_true] at c
        obtain ⟨k, hk, he⟩ := c
        simp only [Bool.and_eq_true, List.contains_iff_mem] at he
        exact ⟨_, Array.getElem_mem hk, he.1, .inr he.2⟩
    · cases c
  · have hj : j < ops.size := (Array.getElem?_eq_some_iff.1 ho).1
    have := List.all_eq_true.1 h2 j (List.mem_range.2 hj)
    simp only [Bool.or_eq_true, Bool.not_eq_true', beq_iff_eq, List.contains_iff_mem] at this
    rcases this with (this | this) | this
    · rw [ht] at this
      cases this
    · exact absurd this hne
    · exact this
theorem first {i : Nat} {oi : Oper} {v : Value} {C : List Nat} {R : World → Prop} (hi : ops[i]? = some oi) (hsel : ∀ (j : Nat) (o : Oper) cs b, ops[j]? = some o → o.op ≠ .select cs b)
    (hQ : ∀ c a w, Q (.panic c) (a.put oi.dst v) w → Q (.panic c) a w) (hR : (∀ w, R w) ∨ ((∀ w, R w ↔ S w) ∧ ∀ (j : Nat) (o : Oper), ops[j]? = some o → T j = true → j ≠ i → j ∈ C)) :
    ∀ (fuel : Nat) (listed : Array Bool) (a : Act) (w : World),
      (∀ j ∈ C, j ≠ i ∧ listed.getD j true = false ∧ ∃ o, ops[j]? = some o ∧ ∃ e ∈ o.after, Region.binds md e = true ∧ (e.on = i ∨ e.on ∈ C)) →
      (∀ j oj, ops[j]? = some oj → j ≠ i → listed.getD j true = false → (∀ e ∈ oj.after, Region.binds md e = true → e.on ≠ i) → oi.apart ops oj = true) →
      i ∈ Region.ready md ops listed → YieldsIf P ops R oi v a → R w →
      wpAnyV P md ops Q S T fuel (listed.setIfInBounds i true) (a.put oi.dst v) w → wpAnyV P md ops Q S T (fuel + 1) listed a w := by
  intro fuel
  induction fuel with
  | zero =>
    intro listed a w _ _ hr hy hS H
    refine ⟨fun h => (by rw [h] at hr; cases hr), fun j hj => ?_⟩
    by_cases hji : j = i
    · subst hji
      exact hy.wpOp hi hS ⟨fun _ h => h, H⟩
    · have := ready_mono hj hji
      rw [H.1] at this
      cases this
  | succ fuel ih =>
    intro listed a w hC hfree hr hy hS H
    refine ⟨fun h => (by rw [h] at hr; cases hr), fun j hj => ?_⟩
    by_cases hji : j = i
    · subst hji
      exact hy.wpOp hi hS ⟨fun _ h => h, H⟩
    · have h1 := H.2 j (ready_mono hj hji)
      obtain ⟨hjun, oj, hoj, hall⟩ := mem_ready.1 hj
      have hun : ∀ k, listed.getD k true = false → ∀ e ∈ oj.after, Region.binds md e = true → e.on ≠ k := fun k h0 e he hb heq => by
        have h1 := hall e he hb
        rw [heq] at h1
        rcases Nat.lt_or_ge k listed.size with h' | h'
        · simp [h'] at h0 h1
          rw [h0] at h1
          cases h1
        · simp [Array.getElem?_eq_none h'] at h1
      have hnot : ∀ e ∈ oj.after, Region.binds md e = true → e.on ≠ i := hun i (mem_ready.1 hr).1
      have hjC : j ∉ C := fun hjc => by
        obtain ⟨_, _, o, ho, e, he, hb, hor⟩ := hC j hjc
        rw [hoj] at ho
        injection ho with ho
        subst ho
        rcases hor with hor | hor
        · exact hnot e he hb hor
        · exact hun _ (hC _ hor).2.1 e he hb rfl
      have h2 := wpOp_putIf hoj (hfree j oj hoj hji hjun hnot) (fun cs b => hsel i oi cs b hi) (fun cs b => hsel j oj cs b hoj) hQ hy h1
      have hfree' : ∀ k ok, ops[k]? = some ok → k ≠ i → (listed.setIfInBounds j true).getD k true = false →
          (∀ e ∈ ok.after, Region.binds md e = true → e.on ≠ i) → oi.apart ops ok = true := fun k ok hk hki hun hno => by
        refine hfree k ok hk hki ?_ hno
        by_cases hjk : j = k
        · subst hjk
          exact hjun
        · rw [getD_set_ne true hjk] at hun
          exact hun
      have hC' : ∀ k ∈ C, k ≠ i ∧ (listed.setIfInBounds j true).getD k true = false ∧ ∃ o, ops[k]? = some o ∧ ∃ e ∈ o.after, Region.binds md e = true ∧ (e.on = i ∨ e.on ∈ C) := fun k hk => by
        obtain ⟨a1, a2, a3⟩ := hC k hk
        refine ⟨a1, ?_, a3⟩
        have hjk : j ≠ k := by
          rintro rfl
          exact hjC hk
        rw [getD_set_ne true hjk]
        exact a2
      have hRk : ∀ w', (T j = false → S w → S w') → R w' := fun w' hk => by
        rcases hR with hR | ⟨hR, hT⟩
        · exact hR w'
        · have hTj : T j = false := by
            cases hT' : T j
            · rfl
            · exact absurd (hT j oj hoj hT' hji) hjC
          exact (hR w').2 (hk hTj ((hR w).1 hS))
      refine wpOp_mono (fun a' w' h3 => ⟨h3.2.1, ih (listed.setIfInBounds j true) a' w' hC' hfree' (ready_mono hr (Ne.symm hji)) h3.1 (hRk w' h3.2.1) ?_⟩) h2
      rw [Array.setIfInBounds_comm _ _ hji]
      exact h3.2.2
/-- A load (what reads the world): take it first, under S. -/
theorem take {i : Nat} {oi : Oper} {v : Value} {fuel : Nat} {listed : Array Bool} {a : Act} {w : World} (hi : ops[i]? = some oi)
    (hs : Region.noSelect ops = true) (hf : Region.free md ops listed i = true) (hr : (Region.ready md ops listed).contains i = true) (hT : closedB md ops listed i (cl md ops listed i 3) T = true)
    (hQ : ∀ c a w, Q (.panic c) (a.put oi.dst v) w → Q (.panic c) a w) (hy : YieldsIf P ops S oi v a) (hS : S w)
    (h : wpAnyV P md ops Q S T fuel (listed.setIfInBounds i true) (a.put oi.dst v) w) : wpAnyV P md ops Q S T (fuel + 1) listed a w :=
  first (R := S) hi (Region.noSelect_spec hs) hQ (.inr ⟨fun _ => Iff.rfl, (closed_spec hT).2⟩) fuel listed a w (closed_spec hT).1 (Region.free_spec hi hf) (by simpa using hr) hy hS h
/-- What only computes: take it first. -/
theorem comp {i : Nat} {oi : Oper} {v : Value} {fuel : Nat} {listed : Array Bool} {a : Act} {w : World} (hi : ops[i]? = some oi)
    (hs : Region.noSelect ops = true) (hf : Region.free md ops listed i = true) (hr : (Region.ready md ops listed).contains i = true)
    (hQ : ∀ c a w, Q (.panic c) (a.put oi.dst v) w → Q (.panic c) a w) (hy : YieldsIf P ops (fun _ => True) oi v a)
    (h : wpAnyV P md ops Q S T fuel (listed.setIfInBounds i true) (a.put oi.dst v) w) : wpAnyV P md ops Q S T (fuel + 1) listed a w :=
  first (R := fun _ => True) (C := []) hi (Region.noSelect_spec hs) hQ (.inl fun _ => trivial) fuel listed a w (fun _ h => by cases h) (Region.free_spec hi hf) (by simpa using hr) hy trivial h
/-- One alone may come up, and it is none of T: S is shown anew behind it. -/
theorem one {i : Nat} {o : Oper} {fuel : Nat} {listed : Array Bool} {a : Act} {w : World} (ho : ops[i]? = some o) (hr : Region.ready md ops listed = [i])
    (h : ∀ K : Act → World → Prop, Shut (∀ a w, S w → wpAnyV P md ops Q S T fuel (listed.setIfInBounds i true) a w → K a w) → if Region.wanted o (yielded ops a.tmps) = true then Oper.wp P o a w K Q else K (a.put o.dst undef) w) :
    wpAnyV P md ops Q S T (fuel + 1) listed a w :=
  ⟨fun h0 => (by rw [hr] at h0; cases h0), fun j hj => by
    rw [hr] at hj
    simp only [List.mem_singleton] at hj
    subst hj
    exact wpOp_step ho (fun K' hK => h K' (fun a w hS hW => hK a w ⟨fun _ _ => hS, hW⟩))⟩
/-- One of T comes up alone. -/
theorem last {i : Nat} {o : Oper} {fuel : Nat} {listed : Array Bool} {a : Act} {w : World} (ho : ops[i]? = some o) (hr : Region.ready md ops listed = [i]) (hT : T i = true)
    (h : ∀ K : Act → World → Prop, Shut (∀ a w, wpAnyV P md ops Q S T fuel (listed.setIfInBounds i true) a w → K a w) → if Region.wanted o (yielded ops a.tmps) = true then Oper.wp P o a w K Q else K (a.put o.dst undef) w) :
    wpAnyV P md ops Q S T (fuel + 1) listed a w :=
  ⟨fun h0 => (by rw [hr] at h0; cases h0), fun j hj => by
    rw [hr] at hj
    simp only [List.mem_singleton] at hj
    subst hj
    exact wpOp_step ho (fun K' hK => h K' (fun a w hW => hK a w ⟨fun hF => (by rw [hT] at hF; cases hF), hW⟩))⟩
/-- Two may come up, neither of T: the one or the other is carried out. -/
theorem two {i j : Nat} {oi oj : Oper} {fuel : Nat} {listed : Array Bool} {a : Act} {w : World} (hoi : ops[i]? = some oi) (hoj : ops[j]? = some oj) (hr : Region.ready md ops listed = [i, j])
    (h : ∀ K : Act → World → Prop, Shut (∀ a w, S w → wpAnyV P md ops Q S T fuel (listed.setIfInBounds i true) a w → K a w) → if Region.wanted oi (yielded ops a.tmps) = true then Oper.wp P oi a w K Q else K (a.put oi.dst undef) w)
    (h' : ∀ K : Act → World → Prop, Shut (∀ a w, S w → wpAnyV P md ops Q S T fuel (listed.setIfInBounds j true) a w → K a w) → if Region.wanted oj (yielded ops a.tmps) = true then Oper.wp P oj a w K Q else K (a.put oj.dst undef) w) :
    wpAnyV P md ops Q S T (fuel + 1) listed a w :=
  ⟨fun h0 => (by rw [hr] at h0; cases h0), fun k hk => by
    rw [hr] at hk
    simp only [List.mem_cons, List.not_mem_nil, or_false] at hk
    rcases hk with rfl | rfl
    · exact wpOp_step hoi (fun K' hK => h K' (fun a w hS hW => hK a w ⟨fun _ _ => hS, hW⟩))
    · exact wpOp_step hoj (fun K' hK => h' K' (fun a w hS hW => hK a w ⟨fun _ _ => hS, hW⟩))⟩
theorem done {listed : Array Bool} {a : Act} {w : World} (hr : Region.ready md ops listed = []) (h : Q .normal a w) : ∀ fuel, wpAnyV P md ops Q S T fuel listed a w
  | 0 => ⟨hr, h⟩
  | _ + 1 => ⟨fun _ => h, by rw [hr]; simp⟩
/-- The beginning. -/
theorem start {id : Nat} {a : Act} {w : World} (S : World → Prop) (T : Nat → Bool) (hm : P.follows .mixedOrders = true)
    (h : wpAnyV P .any ops Q S T ops.size (Array.replicate ops.size false) a w.drew) : (Code.region id ops true).wp P Q a w :=
  wp_region_any hm (wpAny_of_V _ _ _ _ h)
end
end Go.Proofs.Ytmglgjchemecjaa.Rv
/- The library's stable sort of at most 19 numbers that stand in order: the insertion sort, at whatever comparer. -/
namespace Go.Proofs.Ytmglgjchemecjaa.CIns
set_option maxRecDepth 200000
open Go.ChangeShapes Go.WideShapes Go.ChangeAt Go.RowKit Kit CFixups CSymbols PObj BObj PSort CCmp
/-- The row of numbers, sorted so far. -/
def RowI (w : World) (base g n c : Nat) (L : List Nat) : Prop := w.ownsRow base 3 1 (.slice (some ⟨g, 0, none⟩) n c) n (ints .i64 (toI L))
section
variable {w w' : World} {base g n c : Nat} {L : List Nat}
theorem RowI.len (h : RowI w base g n c L) : L.length = n := by
  have := h.1
  simpa using this
theorem RowI.put (h : RowI w base g n c L) (j x : Nat) : RowI (w.setCell ⟨g, j, none⟩ (.int .i64 x)) base g n c (L.set j x) := by
  have e : toI (L.set j x) = (toI L).set j (x : Int) := by simp [toI, List.map_set]
  unfold RowI
  rw [e, ← setInts]
  exact (World.ownsRow.stored h j _).1
theorem RowI.call (h : RowI w base g n c L) (hb : Below w.heap.size w w') : RowI w' base g n c L := own_call hb h
theorem RowI.cell (h : RowI w base g n c L) {j : Nat} (hj : j < n) : w.cell? ⟨g, j, none⟩ = some (.int .i64 (L.getD j 0 : Nat)) := by
  have hl := h.len
  have h1 := World.ownsRow.cellAt h j (by omega)
  rw [h1]
  simp [toI, List.getD_eq_getElem?_getD, List.getElem?_eq_getElem (show j < L.length by omega)]
theorem RowI.frozen (h : RowI w base g n c L) (j : Nat) : w.frozen? ⟨g, j, none⟩ = false := World.ownsRow.frozenAt h j
theorem RowI.lt (h : RowI w base g n c L) : base ≤ g ∧ g < w.heap.size := World.ownsRow.lt h g rfl
end
section
variable {w : World} {base n c : Nat} {A : Option Addr} {L : List Nat}
end
/-- What a sort leaves. -/
def Sorted (w : World) (base g n c : Nat) (L : List Nat) (e : Ending) (w' : World) : Prop := e = .returned (.tuple #[]) ∧ RowI w' base g n c L ∧ w.grownBy w' (some g)
set_option maxHeartbeats 2000000 in
theorem insertion_any (F : FuncId) (X : Array Value) (hF : ∀ zs W, (callFunc F zs).run Try.prog W = .ok (.enter F zs) W) (cv : Nat → Nat → Int) (base g n c : Nat) (w : World) (hrow : RowI w base g n c (List.range n)) (hn : n ≤ 100) (hn0 : 0 < n)
    (HC : ∀ W, w.grownBy W (some g) → ∀ i j, i < n → j < n → Calls Try.prog F (#[.int .i64 i, .int .i64 j] ++ X) W (Ret (.int .i64 (cv i j)) W)) (hbd : ∀ i j, -1 ≤ cv i j ∧ cv i j ≤ 1) :
    Calls Try.prog 172 #[.slice (some ⟨g, 0, none⟩) n c, .int .i64 0, .int .i64 n, .func (.func F) #[] X] w
      (Sorted w base g n c (ord (fun i j => decide (cv i j < 0)) n)) := by
  have HROW := hide (And.intro hrow (grown_refl w (some g)))
  have HCC := hide HC
  have HBD := hide hbd
  have HFF := hide hF
  clear HC hrow hbd hF
  have HST := hide (show ord (fun i j => decide (cv i j < 0)) 1 ++ (List.range n).drop 1 = List.range n by
    obtain ⟨m, rfl⟩ : ∃ m, n = m + 1 := ⟨n - 1, by omega⟩
    rw [List.range_succ_eq_map]
    rfl)
  have HEND := hide (fun (k : Nat) (hk : ¬ k < n) (hk' : k ≤ n) => (show ord (fun i j => decide (cv i j < 0)) k ++ (List.range n).drop k = ord (fun i j => decide (cv i j < 0)) n by
    have : k = n := by omega
    subst this
    rw [List.drop_of_length_le (by simp), List.append_nil]))
  have HSTEP := hide (fun (k : Nat) (hk : k < n) => (show (List.range n).drop k = k :: (List.range n).drop (k + 1) by
    rw [List.drop_eq_getElem_cons (by simpa using hk)]
    simp))
  have HLN := hide (fun k => (show (ord (fun i j => decide (cv i j < 0)) k).length = k from ord_len _ k))
  have HLT := hide (fun k x (h : x ∈ ord (fun i j => decide (cv i j < 0)) k) => (show x < k from ord_lt _ h))
  have HINS := hide (fun k => (show ord (fun i j => decide (cv i j < 0)) (k + 1) = ins (fun i j => decide (cv i j < 0)) (ord (fun i j => decide (cv i j < 0)) k) k from rfl))
  generalize hbf : (fun i j => decide (cv i j < 0)) = bf at *
  have HBF := hide hbf
  clear hbf
  go_enter Try.func172, Try.ntmps172
  go_wp2_with fail
  go_loopw [8] (fun i wi => ∃ (k : Nat), 1 ≤ k ∧ k ≤ n ∧ i = .int .i64 k ∧ RowI wi base g n c (ord bf k ++ (List.range n).drop k) ∧ w.grownBy wi (some g)) (fun i _ => n - (intOf i).toNat)
  case atStart => exact ⟨1, Nat.le_refl _, hn0, rfl, by rw [HST.out]; exact HROW.out.1, HROW.out.2⟩
  case round =>
    clear HROW
    obtain ⟨k, hk1, hk, rfl, hr, hg⟩ := hrel
    by_cases hlt : k < n
    · rw [HSTEP.out k hlt] at hr
      have HR := hide hr
      have HG := hide hg
      have HL := hide (HLN.out k)
      have HLL := hide (HLT.out k)
      have HIN := hide (HINS.out k)
      clear hr hg
      generalize ord bf k = L at *
      generalize hrest : (List.range n).drop (k + 1) = rest at *
      have HREST := hide hrest
      clear hrest
      go_wp2_with fail
      go_loopw [9] (fun i wi => ∃ (j : Nat), j ≤ k ∧ i = .int .i64 j ∧ pos bf L k L.length = pos bf L k j ∧ RowI wi base g n c (L.take j ++ k :: L.drop j ++ rest) ∧ w.grownBy wi (some g)) (fun i _ => (intOf i).toNat)
      case atStart =>
        refine ⟨k, Nat.le_refl _, rfl, by rw [HL.out], ?_, HG.out⟩
        rw [List.take_of_length_le (by rw [HL.out]; exact Nat.le_refl _), List.drop_of_length_le (by rw [HL.out]; exact Nat.le_refl _), List.append_assoc]
        exact HR.out
      case round =>
        clear HR HG
        obtain ⟨j, hj, rfl, hpos, hr, hg⟩ := hrel
        have HR := hide hr
        have HG := hide hg
        have HPOS := hide hpos
        cases j with
        | zero =>
          have HF := hide (show ord bf (k + 1) = L.take 0 ++ k :: L.drop 0 by rw [HIN.out, ins, hpos]; rfl)
          clear hr hg hpos
          have e0 : decide ((0 : Int) < 0) = false := rfl
          go_wp2_with fail
          refine Reg.startT (fun _ => True) (fun _ => false) (by kernel_rfl) ?_
          have hHeld : True := trivial
          refine Reg.takeT (i := 0) (v := ?_) rfl (by kernel_rfl) (by kernel_rfl) (by kernel_rfl) (by kernel_rfl) (fun _ _ _ h => h) (Or.inl ⟨by rfl, ?_⟩) (by assumption) ?_
          rotate_left 1
          focus (intro w hSw; (try dsimp only at hSw); go_simp; (try with_reducible rfl))
          try simp only [List.getElem_toArray, List.getElem_cons_succ, List.getElem_cons_zero, Act.put, List.setIfInBounds_toArray, List.set_cons_zero, List.set_cons_succ]
          refine Reg.takeT (i := 1) (v := ?_) rfl (by kernel_rfl) (by kernel_rfl) (by kernel_rfl) (by kernel_rfl) (fun _ _ _ h => h) (Or.inl ⟨by rfl, ?_⟩) (by assumption) ?_
          rotate_left 1
          focus (intro w hSw; (try dsimp only at hSw); go_simp; (try with_reducible rfl))
          try simp only [List.getElem_toArray, List.getElem_cons_succ, List.getElem_cons_zero, Act.put, List.setIfInBounds_toArray, List.set_cons_zero, List.set_cons_succ]
          refine Reg.takeT (i := 2) (v := ?_) rfl (by kernel_rfl) (by kernel_rfl) (by kernel_rfl) (by kernel_rfl) (fun _ _ _ h => h) (Or.inl ⟨by rfl, ?_⟩) (by assumption) ?_
          rotate_left 1
          focus (intro w hSw; (try dsimp only at hSw); go_simp; (try with_reducible rfl))
          try simp only [List.getElem_toArray, List.getElem_cons_succ, List.getElem_cons_zero, Act.put, List.setIfInBounds_toArray, List.set_cons_zero, List.set_cons_succ]
          refine Reg.takeT (i := 3) (v := ?_) rfl (by kernel_rfl) (by kernel_rfl) (by kernel_rfl) (by kernel_rfl) (fun _ _ _ h => h) (Or.inl ⟨by rfl, ?_⟩) (by assumption) ?_
          rotate_left 1
          focus (intro w hSw; (try dsimp only at hSw); go_simp; (try with_reducible rfl))
          try simp only [List.getElem_toArray, List.getElem_cons_succ, List.getElem_cons_zero, Act.put, List.setIfInBounds_toArray, List.set_cons_zero, List.set_cons_succ]
          refine Reg.takeT (i := 4) (v := undef) rfl (by kernel_rfl) (by kernel_rfl) (by kernel_rfl) (by kernel_rfl) (fun _ _ _ h => h) (Or.inr ⟨by rfl, rfl⟩) (by assumption) ?_
          try simp only [List.getElem_toArray, List.getElem_cons_succ, List.getElem_cons_zero, Act.put, List.setIfInBounds_toArray, List.set_cons_zero, List.set_cons_succ]
          refine Reg.takeT (i := 5) (v := undef) rfl (by kernel_rfl) (by kernel_rfl) (by kernel_rfl) (by kernel_rfl) (fun _ _ _ h => h) (Or.inr ⟨by rfl, rfl⟩) (by assumption) ?_
          try simp only [List.getElem_toArray, List.getElem_cons_succ, List.getElem_cons_zero, Act.put, List.setIfInBounds_toArray, List.set_cons_zero, List.set_cons_succ]
          refine Reg.takeT (i := 6) (v := undef) rfl (by kernel_rfl) (by kernel_rfl) (by kernel_rfl) (by kernel_rfl) (fun _ _ _ h => h) (Or.inr ⟨by rfl, rfl⟩) (by assumption) ?_
          try simp only [List.getElem_toArray, List.getElem_cons_succ, List.getElem_cons_zero, Act.put, List.setIfInBounds_toArray, List.set_cons_zero, List.set_cons_succ]
          refine Reg.takeT (i := 7) (v := undef) rfl (by kernel_rfl) (by kernel_rfl) (by kernel_rfl) (by kernel_rfl) (fun _ _ _ h => h) (Or.inr ⟨by rfl, rfl⟩) (by assumption) ?_
          try simp only [List.getElem_toArray, List.getElem_cons_succ, List.getElem_cons_zero, Act.put, List.setIfInBounds_toArray, List.set_cons_zero, List.set_cons_succ]
          refine Reg.takeT (i := 8) (v := undef) rfl (by kernel_rfl) (by kernel_rfl) (by kernel_rfl) (by kernel_rfl) (fun _ _ _ h => h) (Or.inr ⟨by rfl, rfl⟩) (by assumption) ?_
          try simp only [List.getElem_toArray, List.getElem_cons_succ, List.getElem_cons_zero, Act.put, List.setIfInBounds_toArray, List.set_cons_zero, List.set_cons_succ]
          refine Reg.takeT (i := 9) (v := undef) rfl (by kernel_rfl) (by kernel_rfl) (by kernel_rfl) (by kernel_rfl) (fun _ _ _ h => h) (Or.inr ⟨by rfl, rfl⟩) (by assumption) ?_
          try simp only [List.getElem_toArray, List.getElem_cons_succ, List.getElem_cons_zero, Act.put, List.setIfInBounds_toArray, List.set_cons_zero, List.set_cons_succ]
          refine Reg.takeT (i := 10) (v := undef) rfl (by kernel_rfl) (by kernel_rfl) (by kernel_rfl) (by kernel_rfl) (fun _ _ _ h => h) (Or.inr ⟨by rfl, rfl⟩) (by assumption) ?_
          try simp only [List.getElem_toArray, List.getElem_cons_succ, List.getElem_cons_zero, Act.put, List.setIfInBounds_toArray, List.set_cons_zero, List.set_cons_succ]
          refine Reg.takeT (i := 11) (v := undef) rfl (by kernel_rfl) (by kernel_rfl) (by kernel_rfl) (by kernel_rfl) (fun _ _ _ h => h) (Or.inr ⟨by rfl, rfl⟩) (by assumption) ?_
          try simp only [List.getElem_toArray, List.getElem_cons_succ, List.getElem_cons_zero, Act.put, List.setIfInBounds_toArray, List.set_cons_zero, List.set_cons_succ]
          refine Reg.takeT (i := 12) (v := undef) rfl (by kernel_rfl) (by kernel_rfl) (by kernel_rfl) (by kernel_rfl) (fun _ _ _ h => h) (Or.inr ⟨by rfl, rfl⟩) (by assumption) ?_
          try simp only [List.getElem_toArray, List.getElem_cons_succ, List.getElem_cons_zero, Act.put, List.setIfInBounds_toArray, List.set_cons_zero, List.set_cons_succ]
          refine Reg.takeT (i := 13) (v := undef) rfl (by kernel_rfl) (by kernel_rfl) (by kernel_rfl) (by kernel_rfl) (fun _ _ _ h => h) (Or.inr ⟨by rfl, rfl⟩) (by assumption) ?_
          try simp only [List.getElem_toArray, List.getElem_cons_succ, List.getElem_cons_zero, Act.put, List.setIfInBounds_toArray, List.set_cons_zero, List.set_cons_succ]
          refine Reg.takeT (i := 14) (v := undef) rfl (by kernel_rfl) (by kernel_rfl) (by kernel_rfl) (by kernel_rfl) (fun _ _ _ h => h) (Or.inr ⟨by rfl, rfl⟩) (by assumption) ?_
          try simp only [List.getElem_toArray, List.getElem_cons_succ, List.getElem_cons_zero, Act.put, List.setIfInBounds_toArray, List.set_cons_zero, List.set_cons_succ]
          refine Reg.takeT (i := 15) (v := undef) rfl (by kernel_rfl) (by kernel_rfl) (by kernel_rfl) (by kernel_rfl) (fun _ _ _ h => h) (Or.inr ⟨by rfl, rfl⟩) (by assumption) ?_
          try simp only [List.getElem_toArray, List.getElem_cons_succ, List.getElem_cons_zero, Act.put, List.setIfInBounds_toArray, List.set_cons_zero, List.set_cons_succ]
          refine Reg.takeT (i := 16) (v := ?_) rfl (by kernel_rfl) (by kernel_rfl) (by kernel_rfl) (by kernel_rfl) (fun _ _ _ h => h) (Or.inl ⟨by rfl, ?_⟩) (by assumption) ?_
          rotate_left 1
          focus (intro w hSw; (try dsimp only at hSw); go_simp; (try with_reducible rfl))
          try simp only [List.getElem_toArray, List.getElem_cons_succ, List.getElem_cons_zero, Act.put, List.setIfInBounds_toArray, List.set_cons_zero, List.set_cons_succ]
          refine Reg.doneT (by kernel_rfl) ?_ _
          go_wp2_with fail
          refine ⟨⟨k + 1, by omega, by omega, by go_num, by rw [HF.out, HREST.out]; exact HR.out.call (below_dr (Below.refl _ _)), grown_drew HG.out⟩, by simp [intOf]; omega⟩
        | succ j =>
          have hjl : j < L.length := by rw [HL.out]; omega
          have c1 := hr.cell (j := j + 1) (by omega)
          have c0 := hr.cell (j := j) (by omega)
          rw [row_x L k (j + 1) rest (by omega)] at c1
          rw [row_p L k j rest hjl] at c0
          have hpl : L.getD j 0 < n := by
            have := HLL.out (L.getD j 0) (by rw [List.getD_eq_getElem?_getD, List.getElem?_eq_getElem hjl]; exact List.getElem_mem hjl)
            omega
          have hbdj := HBD.out k (L.getD j 0)
          have HCALL := hide (fun V (hV : w.grownBy V (some g)) => HCC.out V hV k (L.getD j 0) hlt hpl)
          have HSW := hide (swap_row L k j rest hjl)
          have HP2 := hide (show pos bf L k (j + 1) = if bf k (L.getD j 0) = true then pos bf L k j else j + 1 from rfl)
          have f1 := hr.frozen (j + 1)
          have f0 := hr.frozen j
          have hgl := hr.lt.2
          have HBB := hide (show bf k (L.getD j 0) = decide (cv k (L.getD j 0) < 0) by rw [← HBF.out])
          generalize L.getD j 0 = p at *
          generalize cv k p = cvp at *
          clear hr hg hpos hjl
          have Z0 : wr.cell? ⟨g, j + 1, none⟩ = some (.int .i64 k) ∧ wr.cell? ⟨g, j, none⟩ = some (.int .i64 p) := ⟨c1, c0⟩
          clear c1 c0
          generalize hm : j + 1 = m at *
          have HM := hide hm
          have hm0 : 0 < m := by omega
          have hw1 : IntKind.i64.wrap ((m : Int) - 1) = (m : Int) - 1 := IntWalk.i64_in _ (by omega)
          have ht1 : ((m : Int) - 1).toNat = j := by omega
          have hq1 : (0 : Int) ≤ (m : Int) - 1 := by omega
          have hq2 : (1 : Int) ≤ (m : Int) := by omega
          have hq3 : 1 ≤ m := by omega
          have hjn : j < n := by omega
          have hq4 : (m : Int) - 1 < n := by omega
          have hmn : m < n := by omega
          clear hm
          cases hb : decide (cvp < 0)
          · have HP3 := hide (show pos bf L k m = m by rw [HP2.out, HBB.out, hb]; rfl)
            clear HP2 HBB
            go_wp2_with fail
            refine Reg.startT (fun W => W.cell? ⟨g, m, none⟩ = some (.int .i64 k) ∧ W.cell? ⟨g, j, none⟩ = some (.int .i64 p)) (fun _ => false) (by kernel_rfl) ?_
            have hHeld : wr.drew.cell? ⟨g, m, none⟩ = some (.int .i64 k) ∧ wr.drew.cell? ⟨g, j, none⟩ = some (.int .i64 p) := Z0
            refine Reg.takeT (i := 0) (v := ?_) rfl (by kernel_rfl) (by kernel_rfl) (by kernel_rfl) (by kernel_rfl) (fun _ _ _ h => h) (Or.inl ⟨by rfl, ?_⟩) (by assumption) ?_
            rotate_left 1
            focus (intro w hSw; (try dsimp only at hSw); go_simp; (try with_reducible rfl))
            try simp only [List.getElem_toArray, List.getElem_cons_succ, List.getElem_cons_zero, Act.put, List.setIfInBounds_toArray, List.set_cons_zero, List.set_cons_succ]
            refine Reg.takeT (i := 1) (v := ?_) rfl (by kernel_rfl) (by kernel_rfl) (by kernel_rfl) (by kernel_rfl) (fun _ _ _ h => h) (Or.inl ⟨by rfl, ?_⟩) (by assumption) ?_
            rotate_left 1
            focus (intro w hSw; (try dsimp only at hSw); go_simp; (try with_reducible rfl))
            try simp only [List.getElem_toArray, List.getElem_cons_succ, List.getElem_cons_zero, Act.put, List.setIfInBounds_toArray, List.set_cons_zero, List.set_cons_succ]
            refine Reg.takeT (i := 2) (v := ?_) rfl (by kernel_rfl) (by kernel_rfl) (by kernel_rfl) (by kernel_rfl) (fun _ _ _ h => h) (Or.inl ⟨by rfl, ?_⟩) (by assumption) ?_
            rotate_left 1
            focus (intro w hSw; (try dsimp only at hSw); go_simp; (try with_reducible rfl))
            try simp only [List.getElem_toArray, List.getElem_cons_succ, List.getElem_cons_zero, Act.put, List.setIfInBounds_toArray, List.set_cons_zero, List.set_cons_succ]
            refine Reg.takeT (i := 3) (v := ?_) rfl (by kernel_rfl) (by kernel_rfl) (by kernel_rfl) (by kernel_rfl) (fun _ _ _ h => h) (Or.inl ⟨by rfl, ?_⟩) (by assumption) ?_
            rotate_left 1
            focus (intro w hSw; (try dsimp only at hSw); go_simp; (try with_reducible rfl))
            try simp only [List.getElem_toArray, List.getElem_cons_succ, List.getElem_cons_zero, Act.put, List.setIfInBounds_toArray, List.set_cons_zero, List.set_cons_succ]
            refine Reg.takeT (i := 4) (v := ?_) rfl (by kernel_rfl) (by kernel_rfl) (by kernel_rfl) (by kernel_rfl) (fun _ _ _ h => h) (Or.inl ⟨by rfl, ?_⟩) (by assumption) ?_
            rotate_left 1
            focus (intro w hSw; (try dsimp only at hSw); go_simp; (try with_reducible rfl))
            try simp only [List.getElem_toArray, List.getElem_cons_succ, List.getElem_cons_zero, Act.put, List.setIfInBounds_toArray, List.set_cons_zero, List.set_cons_succ]
            refine Reg.takeT (i := 5) (v := ?_) rfl (by kernel_rfl) (by kernel_rfl) (by kernel_rfl) (by kernel_rfl) (fun _ _ _ h => h) (Or.inl ⟨by rfl, ?_⟩) (by assumption) ?_
            rotate_left 1
            focus (intro w hSw; (try dsimp only at hSw); go_simp; (try with_reducible rfl))
            try simp only [List.getElem_toArray, List.getElem_cons_succ, List.getElem_cons_zero, Act.put, List.setIfInBounds_toArray, List.set_cons_zero, List.set_cons_succ]
            refine Reg.takeT (i := 6) (v := ?_) rfl (by kernel_rfl) (by kernel_rfl) (by kernel_rfl) (by kernel_rfl) (fun _ _ _ h => h) (Or.inl ⟨by rfl, ?_⟩) (by assumption) ?_
            rotate_left 1
            focus (intro w hSw; (try dsimp only at hSw); go_simp; (try with_reducible rfl))
            try simp only [List.getElem_toArray, List.getElem_cons_succ, List.getElem_cons_zero, Act.put, List.setIfInBounds_toArray, List.set_cons_zero, List.set_cons_succ]
            refine Reg.takeT (i := 7) (v := ?_) rfl (by kernel_rfl) (by kernel_rfl) (by kernel_rfl) (by kernel_rfl) (fun _ _ _ h => h) (Or.inl ⟨by rfl, ?_⟩) (by assumption) ?_
            rotate_left 1
            focus (intro w hSw; (try dsimp only at hSw); go_simp; (try with_reducible rfl))
            try simp only [List.getElem_toArray, List.getElem_cons_succ, List.getElem_cons_zero, Act.put, List.setIfInBounds_toArray, List.set_cons_zero, List.set_cons_succ]
            refine Reg.takeT (i := 8) (v := ?_) rfl (by kernel_rfl) (by kernel_rfl) (by kernel_rfl) (by kernel_rfl) (fun _ _ _ h => h) (Or.inl ⟨by rfl, ?_⟩) (by assumption) ?_
            rotate_left 1
            focus (intro w hSw; (try dsimp only at hSw); go_simp; (try with_reducible rfl))
            try simp only [List.getElem_toArray, List.getElem_cons_succ, List.getElem_cons_zero, Act.put, List.setIfInBounds_toArray, List.set_cons_zero, List.set_cons_succ]
            refine Reg.takeT (i := 9) (v := ?_) rfl (by kernel_rfl) (by kernel_rfl) (by kernel_rfl) (by kernel_rfl) (fun _ _ _ h => h) (Or.inl ⟨by rfl, ?_⟩) (by assumption) ?_
            rotate_left 1
            focus (intro w hSw; (try dsimp only at hSw); go_simp; (try with_reducible rfl))
            try simp only [List.getElem_toArray, List.getElem_cons_succ, List.getElem_cons_zero, Act.put, List.setIfInBounds_toArray, List.set_cons_zero, List.set_cons_succ]
            refine Reg.takeT (i := 10) (v := ?_) rfl (by kernel_rfl) (by kernel_rfl) (by kernel_rfl) (by kernel_rfl) (fun _ _ _ h => h) (Or.inl ⟨by rfl, ?_⟩) (by assumption) ?_
            rotate_left 1
            focus (intro w hSw; (try dsimp only at hSw); go_simp; (try with_reducible rfl))
            try simp only [List.getElem_toArray, List.getElem_cons_succ, List.getElem_cons_zero, Act.put, List.setIfInBounds_toArray, List.set_cons_zero, List.set_cons_succ]
            refine Reg.takeT (i := 11) (v := ?_) rfl (by kernel_rfl) (by kernel_rfl) (by kernel_rfl) (by kernel_rfl) (fun _ _ _ h => h) (Or.inl ⟨by rfl, ?_⟩) (by assumption) ?_
            rotate_left 1
            focus (intro w hSw; (try dsimp only at hSw); go_simp; (try with_reducible rfl))
            try simp only [List.getElem_toArray, List.getElem_cons_succ, List.getElem_cons_zero, Act.put, List.setIfInBounds_toArray, List.set_cons_zero, List.set_cons_succ]
            refine Reg.takeT (i := 12) (v := ?_) rfl (by kernel_rfl) (by kernel_rfl) (by kernel_rfl) (by kernel_rfl) (fun _ _ _ h => h) (Or.inl ⟨by rfl, ?_⟩) (by assumption) ?_
            rotate_left 1
            focus (intro w hSw; (try dsimp only at hSw); go_simp; (try with_reducible rfl))
            try simp only [List.getElem_toArray, List.getElem_cons_succ, List.getElem_cons_zero, Act.put, List.setIfInBounds_toArray, List.set_cons_zero, List.set_cons_succ]
            refine Reg.takeT (i := 13) (v := ?_) rfl (by kernel_rfl) (by kernel_rfl) (by kernel_rfl) (by kernel_rfl) (fun _ _ _ h => h) (Or.inl ⟨by rfl, ?_⟩) (by assumption) ?_
            rotate_left 1
            focus (intro w hSw; (try dsimp only at hSw); go_simp; (try with_reducible rfl))
            try simp only [List.getElem_toArray, List.getElem_cons_succ, List.getElem_cons_zero, Act.put, List.setIfInBounds_toArray, List.set_cons_zero, List.set_cons_succ]
            refine Reg.oneT (i := 14) rfl (by kernel_rfl) (fun K hK => ?_)
            go_simp
            rw [HFF.out, Oper.upon_enter]
            refine (HCALL.out wr.drew (grown_drew HG.out)).mono ?_
            rintro e w2 ⟨rfl, b2⟩
            have b2' : Below wr.heap.size wr w2 := of_drew b2
            have HR2 := hide (HR.out.call b2')
            have HG2 := hide (grown_below HG.out b2')
            have hHeld : w2.cell? ⟨g, m, none⟩ = some (.int .i64 k) ∧ w2.cell? ⟨g, j, none⟩ = some (.int .i64 p) := ⟨(b2'.cell (p := ⟨g, m, none⟩) hgl).trans Z0.1, (b2'.cell (p := ⟨g, j, none⟩) hgl).trans Z0.2⟩
            clear b2 b2' Z0 HR HG
            refine hK.out _ _ hHeld ?_
            clear hK K
            try simp only [List.getElem_toArray, List.getElem_cons_succ, List.getElem_cons_zero, Act.put, List.setIfInBounds_toArray, List.set_cons_zero, List.set_cons_succ]
            refine Reg.takeT (i := 15) (v := ?_) rfl (by kernel_rfl) (by kernel_rfl) (by kernel_rfl) (by kernel_rfl) (fun _ _ _ h => h) (Or.inl ⟨by rfl, ?_⟩) (by assumption) ?_
            rotate_left 1
            focus (intro w hSw; (try dsimp only at hSw); go_simp; (try with_reducible rfl))
            try simp only [List.getElem_toArray, List.getElem_cons_succ, List.getElem_cons_zero, Act.put, List.setIfInBounds_toArray, List.set_cons_zero, List.set_cons_succ]
            refine Reg.takeT (i := 16) (v := ?_) rfl (by kernel_rfl) (by kernel_rfl) (by kernel_rfl) (by kernel_rfl) (fun _ _ _ h => h) (Or.inl ⟨by rfl, ?_⟩) (by assumption) ?_
            rotate_left 1
            focus (intro w hSw; (try dsimp only at hSw); go_simp; (try with_reducible rfl))
            try simp only [List.getElem_toArray, List.getElem_cons_succ, List.getElem_cons_zero, Act.put, List.setIfInBounds_toArray, List.set_cons_zero, List.set_cons_succ]
            refine Reg.doneT (by kernel_rfl) ?_ _
            clear hHeld
            go_wp2_with fail
            have HF := hide (show ord bf (k + 1) = L.take m ++ k :: L.drop m by rw [HIN.out, ins, HPOS.out, HP3.out])
            refine ⟨⟨k + 1, by omega, by omega, by go_num, by rw [HF.out, HREST.out]; exact HR2.out, HG2.out⟩, by simp [intOf]; omega⟩
          · have HP3 := hide (show pos bf L k m = pos bf L k j by rw [HP2.out, HBB.out, hb]; rfl)
            clear HP2 HBB
            go_wp2_with fail
            refine Reg.startT (fun W => W.cell? ⟨g, m, none⟩ = some (.int .i64 k) ∧ W.cell? ⟨g, j, none⟩ = some (.int .i64 p)) (fun _ => false) (by kernel_rfl) ?_
            have hHeld : wr.drew.cell? ⟨g, m, none⟩ = some (.int .i64 k) ∧ wr.drew.cell? ⟨g, j, none⟩ = some (.int .i64 p) := Z0
            refine Reg.takeT (i := 0) (v := ?_) rfl (by kernel_rfl) (by kernel_rfl) (by kernel_rfl) (by kernel_rfl) (fun _ _ _ h => h) (Or.inl ⟨by rfl, ?_⟩) (by assumption) ?_
            rotate_left 1
            focus (intro w hSw; (try dsimp only at hSw); go_simp; (try with_reducible rfl))
            try simp only [List.getElem_toArray, List.getElem_cons_succ, List.getElem_cons_zero, Act.put, List.setIfInBounds_toArray, List.set_cons_zero, List.set_cons_succ]
            refine Reg.takeT (i := 1) (v := ?_) rfl (by kernel_rfl) (by kernel_rfl) (by kernel_rfl) (by kernel_rfl) (fun _ _ _ h => h) (Or.inl ⟨by rfl, ?_⟩) (by assumption) ?_
            rotate_left 1
            focus (intro w hSw; (try dsimp only at hSw); go_simp; (try with_reducible rfl))
            try simp only [List.getElem_toArray, List.getElem_cons_succ, List.getElem_cons_zero, Act.put, List.setIfInBounds_toArray, List.set_cons_zero, List.set_cons_succ]
            refine Reg.takeT (i := 2) (v := ?_) rfl (by kernel_rfl) (by kernel_rfl) (by kernel_rfl) (by kernel_rfl) (fun _ _ _ h => h) (Or.inl ⟨by rfl, ?_⟩) (by assumption) ?_
            rotate_left 1
            focus (intro w hSw; (try dsimp only at hSw); go_simp; (try with_reducible rfl))
            try simp only [List.getElem_toArray, List.getElem_cons_succ, List.getElem_cons_zero, Act.put, List.setIfInBounds_toArray, List.set_cons_zero, List.set_cons_succ]
            refine Reg.takeT (i := 3) (v := ?_) rfl (by kernel_rfl) (by kernel_rfl) (by kernel_rfl) (by kernel_rfl) (fun _ _ _ h => h) (Or.inl ⟨by rfl, ?_⟩) (by assumption) ?_
            rotate_left 1
            focus (intro w hSw; (try dsimp only at hSw); go_simp; (try with_reducible rfl))
            try simp only [List.getElem_toArray, List.getElem_cons_succ, List.getElem_cons_zero, Act.put, List.setIfInBounds_toArray, List.set_cons_zero, List.set_cons_succ]
            refine Reg.takeT (i := 4) (v := ?_) rfl (by kernel_rfl) (by kernel_rfl) (by kernel_rfl) (by kernel_rfl) (fun _ _ _ h => h) (Or.inl ⟨by rfl, ?_⟩) (by assumption) ?_
            rotate_left 1
            focus (intro w hSw; (try dsimp only at hSw); go_simp; (try with_reducible rfl))
            try simp only [List.getElem_toArray, List.getElem_cons_succ, List.getElem_cons_zero, Act.put, List.setIfInBounds_toArray, List.set_cons_zero, List.set_cons_succ]
            refine Reg.takeT (i := 5) (v := ?_) rfl (by kernel_rfl) (by kernel_rfl) (by kernel_rfl) (by kernel_rfl) (fun _ _ _ h => h) (Or.inl ⟨by rfl, ?_⟩) (by assumption) ?_
            rotate_left 1
            focus (intro w hSw; (try dsimp only at hSw); go_simp; (try with_reducible rfl))
            try simp only [List.getElem_toArray, List.getElem_cons_succ, List.getElem_cons_zero, Act.put, List.setIfInBounds_toArray, List.set_cons_zero, List.set_cons_succ]
            refine Reg.takeT (i := 6) (v := ?_) rfl (by kernel_rfl) (by kernel_rfl) (by kernel_rfl) (by kernel_rfl) (fun _ _ _ h => h) (Or.inl ⟨by rfl, ?_⟩) (by assumption) ?_
            rotate_left 1
            focus (intro w hSw; (try dsimp only at hSw); go_simp; (try with_reducible rfl))
            try simp only [List.getElem_toArray, List.getElem_cons_succ, List.getElem_cons_zero, Act.put, List.setIfInBounds_toArray, List.set_cons_zero, List.set_cons_succ]
            refine Reg.takeT (i := 7) (v := ?_) rfl (by kernel_rfl) (by kernel_rfl) (by kernel_rfl) (by kernel_rfl) (fun _ _ _ h => h) (Or.inl ⟨by rfl, ?_⟩) (by assumption) ?_
            rotate_left 1
            focus (intro w hSw; (try dsimp only at hSw); go_simp; (try with_reducible rfl))
            try simp only [List.getElem_toArray, List.getElem_cons_succ, List.getElem_cons_zero, Act.put, List.setIfInBounds_toArray, List.set_cons_zero, List.set_cons_succ]
            refine Reg.takeT (i := 8) (v := ?_) rfl (by kernel_rfl) (by kernel_rfl) (by kernel_rfl) (by kernel_rfl) (fun _ _ _ h => h) (Or.inl ⟨by rfl, ?_⟩) (by assumption) ?_
            rotate_left 1
            focus (intro w hSw; (try dsimp only at hSw); go_simp; (try with_reducible rfl))
            try simp only [List.getElem_toArray, List.getElem_cons_succ, List.getElem_cons_zero, Act.put, List.setIfInBounds_toArray, List.set_cons_zero, List.set_cons_succ]
            refine Reg.takeT (i := 9) (v := ?_) rfl (by kernel_rfl) (by kernel_rfl) (by kernel_rfl) (by kernel_rfl) (fun _ _ _ h => h) (Or.inl ⟨by rfl, ?_⟩) (by assumption) ?_
            rotate_left 1
            focus (intro w hSw; (try dsimp only at hSw); go_simp; (try with_reducible rfl))
            try simp only [List.getElem_toArray, List.getElem_cons_succ, List.getElem_cons_zero, Act.put, List.setIfInBounds_toArray, List.set_cons_zero, List.set_cons_succ]
            refine Reg.takeT (i := 10) (v := ?_) rfl (by kernel_rfl) (by kernel_rfl) (by kernel_rfl) (by kernel_rfl) (fun _ _ _ h => h) (Or.inl ⟨by rfl, ?_⟩) (by assumption) ?_
            rotate_left 1
            focus (intro w hSw; (try dsimp only at hSw); go_simp; (try with_reducible rfl))
            try simp only [List.getElem_toArray, List.getElem_cons_succ, List.getElem_cons_zero, Act.put, List.setIfInBounds_toArray, List.set_cons_zero, List.set_cons_succ]
            refine Reg.takeT (i := 11) (v := ?_) rfl (by kernel_rfl) (by kernel_rfl) (by kernel_rfl) (by kernel_rfl) (fun _ _ _ h => h) (Or.inl ⟨by rfl, ?_⟩) (by assumption) ?_
            rotate_left 1
            focus (intro w hSw; (try dsimp only at hSw); go_simp; (try with_reducible rfl))
            try simp only [List.getElem_toArray, List.getElem_cons_succ, List.getElem_cons_zero, Act.put, List.setIfInBounds_toArray, List.set_cons_zero, List.set_cons_succ]
            refine Reg.takeT (i := 12) (v := ?_) rfl (by kernel_rfl) (by kernel_rfl) (by kernel_rfl) (by kernel_rfl) (fun _ _ _ h => h) (Or.inl ⟨by rfl, ?_⟩) (by assumption) ?_
            rotate_left 1
            focus (intro w hSw; (try dsimp only at hSw); go_simp; (try with_reducible rfl))
            try simp only [List.getElem_toArray, List.getElem_cons_succ, List.getElem_cons_zero, Act.put, List.setIfInBounds_toArray, List.set_cons_zero, List.set_cons_succ]
            refine Reg.takeT (i := 13) (v := ?_) rfl (by kernel_rfl) (by kernel_rfl) (by kernel_rfl) (by kernel_rfl) (fun _ _ _ h => h) (Or.inl ⟨by rfl, ?_⟩) (by assumption) ?_
            rotate_left 1
            focus (intro w hSw; (try dsimp only at hSw); go_simp; (try with_reducible rfl))
            try simp only [List.getElem_toArray, List.getElem_cons_succ, List.getElem_cons_zero, Act.put, List.setIfInBounds_toArray, List.set_cons_zero, List.set_cons_succ]
            refine Reg.oneT (i := 14) rfl (by kernel_rfl) (fun K hK => ?_)
            go_simp
            rw [HFF.out, Oper.upon_enter]
            refine (HCALL.out wr.drew (grown_drew HG.out)).mono ?_
            rintro e w2 ⟨rfl, b2⟩
            have b2' : Below wr.heap.size wr w2 := of_drew b2
            have HR2 := hide (HR.out.call b2')
            have HG2 := hide (grown_below HG.out b2')
            have hHeld : w2.cell? ⟨g, m, none⟩ = some (.int .i64 k) ∧ w2.cell? ⟨g, j, none⟩ = some (.int .i64 p) := ⟨(b2'.cell (p := ⟨g, m, none⟩) hgl).trans Z0.1, (b2'.cell (p := ⟨g, j, none⟩) hgl).trans Z0.2⟩
            clear b2 b2' Z0 HR HG
            refine hK.out _ _ hHeld ?_
            clear hK K
            try simp only [List.getElem_toArray, List.getElem_cons_succ, List.getElem_cons_zero, Act.put, List.setIfInBounds_toArray, List.set_cons_zero, List.set_cons_succ]
            refine Reg.takeT (i := 15) (v := ?_) rfl (by kernel_rfl) (by kernel_rfl) (by kernel_rfl) (by kernel_rfl) (fun _ _ _ h => h) (Or.inl ⟨by rfl, ?_⟩) (by assumption) ?_
            rotate_left 1
            focus (intro w hSw; (try dsimp only at hSw); go_simp; (try with_reducible rfl))
            try simp only [List.getElem_toArray, List.getElem_cons_succ, List.getElem_cons_zero, Act.put, List.setIfInBounds_toArray, List.set_cons_zero, List.set_cons_succ]
            refine Reg.takeT (i := 16) (v := ?_) rfl (by kernel_rfl) (by kernel_rfl) (by kernel_rfl) (by kernel_rfl) (fun _ _ _ h => h) (Or.inl ⟨by rfl, ?_⟩) (by assumption) ?_
            rotate_left 1
            focus (intro w hSw; (try dsimp only at hSw); go_simp; (try with_reducible rfl))
            try simp only [List.getElem_toArray, List.getElem_cons_succ, List.getElem_cons_zero, Act.put, List.setIfInBounds_toArray, List.set_cons_zero, List.set_cons_succ]
            refine Reg.doneT (by kernel_rfl) ?_ _
            have Z1 := hHeld
            clear hHeld
            go_wp2_with fail
            clear f0 f1 hgl
            have f1 := HR2.out.frozen m
            have f0 := HR2.out.frozen j
            have hgl := HR2.out.lt.2
            refine Rv.start (fun W => W.cell? ⟨g, m, none⟩ = some (.int .i64 k) ∧ W.cell? ⟨g, j, none⟩ = some (.int .i64 p)) (fun j => j == 15 || j == 17) (by kernel_rfl) ?_
            have hHeld : w2.drew.cell? ⟨g, m, none⟩ = some (.int .i64 k) ∧ w2.drew.cell? ⟨g, j, none⟩ = some (.int .i64 p) := Z1
            refine Rv.comp (i := 0) (v := ?_) rfl (by kernel_rfl) (by kernel_rfl) (by kernel_rfl) (fun _ _ _ h => h) (Or.inl ⟨by rfl, ?_⟩) ?_
            rotate_left 1
            focus (intro w hSw; (try dsimp only at hSw); go_simp; (try with_reducible rfl))
            try simp only [List.getElem_toArray, List.getElem_cons_succ, List.getElem_cons_zero, Act.put, List.setIfInBounds_toArray, List.set_cons_zero, List.set_cons_succ]
            refine Rv.comp (i := 1) (v := ?_) rfl (by kernel_rfl) (by kernel_rfl) (by kernel_rfl) (fun _ _ _ h => h) (Or.inl ⟨by rfl, ?_⟩) ?_
            rotate_left 1
            focus (intro w hSw; (try dsimp only at hSw); go_simp; (try with_reducible rfl))
            try simp only [List.getElem_toArray, List.getElem_cons_succ, List.getElem_cons_zero, Act.put, List.setIfInBounds_toArray, List.set_cons_zero, List.set_cons_succ]
            refine Rv.comp (i := 2) (v := ?_) rfl (by kernel_rfl) (by kernel_rfl) (by kernel_rfl) (fun _ _ _ h => h) (Or.inl ⟨by rfl, ?_⟩) ?_
            rotate_left 1
            focus (intro w hSw; (try dsimp only at hSw); go_simp; (try with_reducible rfl))
            try simp only [List.getElem_toArray, List.getElem_cons_succ, List.getElem_cons_zero, Act.put, List.setIfInBounds_toArray, List.set_cons_zero, List.set_cons_succ]
            refine Rv.comp (i := 3) (v := ?_) rfl (by kernel_rfl) (by kernel_rfl) (by kernel_rfl) (fun _ _ _ h => h) (Or.inl ⟨by rfl, ?_⟩) ?_
            rotate_left 1
            focus (intro w hSw; (try dsimp only at hSw); go_simp; (try with_reducible rfl))
            try simp only [List.getElem_toArray, List.getElem_cons_succ, List.getElem_cons_zero, Act.put, List.setIfInBounds_toArray, List.set_cons_zero, List.set_cons_succ]
            refine Rv.comp (i := 4) (v := ?_) rfl (by kernel_rfl) (by kernel_rfl) (by kernel_rfl) (fun _ _ _ h => h) (Or.inl ⟨by rfl, ?_⟩) ?_
            rotate_left 1
            focus (intro w hSw; (try dsimp only at hSw); go_simp; (try with_reducible rfl))
            try simp only [List.getElem_toArray, List.getElem_cons_succ, List.getElem_cons_zero, Act.put, List.setIfInBounds_toArray, List.set_cons_zero, List.set_cons_succ]
            refine Rv.comp (i := 5) (v := ?_) rfl (by kernel_rfl) (by kernel_rfl) (by kernel_rfl) (fun _ _ _ h => h) (Or.inl ⟨by rfl, ?_⟩) ?_
            rotate_left 1
            focus (intro w hSw; (try dsimp only at hSw); go_simp; (try with_reducible rfl))
            try simp only [List.getElem_toArray, List.getElem_cons_succ, List.getElem_cons_zero, Act.put, List.setIfInBounds_toArray, List.set_cons_zero, List.set_cons_succ]
            refine Rv.comp (i := 6) (v := ?_) rfl (by kernel_rfl) (by kernel_rfl) (by kernel_rfl) (fun _ _ _ h => h) (Or.inl ⟨by rfl, ?_⟩) ?_
            rotate_left 1
            focus (intro w hSw; (try dsimp only at hSw); go_simp; (try with_reducible rfl))
            try simp only [List.getElem_toArray, List.getElem_cons_succ, List.getElem_cons_zero, Act.put, List.setIfInBounds_toArray, List.set_cons_zero, List.set_cons_succ]
            refine Rv.comp (i := 7) (v := ?_) rfl (by kernel_rfl) (by kernel_rfl) (by kernel_rfl) (fun _ _ _ h => h) (Or.inl ⟨by rfl, ?_⟩) ?_
            rotate_left 1
            focus (intro w hSw; (try dsimp only at hSw); go_simp; (try with_reducible rfl))
            try simp only [List.getElem_toArray, List.getElem_cons_succ, List.getElem_cons_zero, Act.put, List.setIfInBounds_toArray, List.set_cons_zero, List.set_cons_succ]
            refine Rv.comp (i := 8) (v := ?_) rfl (by kernel_rfl) (by kernel_rfl) (by kernel_rfl) (fun _ _ _ h => h) (Or.inl ⟨by rfl, ?_⟩) ?_
            rotate_left 1
            focus (intro w hSw; (try dsimp only at hSw); go_simp; (try with_reducible rfl))
            try simp only [List.getElem_toArray, List.getElem_cons_succ, List.getElem_cons_zero, Act.put, List.setIfInBounds_toArray, List.set_cons_zero, List.set_cons_succ]
            refine Rv.take (i := 9) (v := ?_) rfl (by kernel_rfl) (by kernel_rfl) (by kernel_rfl) (by kernel_rfl) (fun _ _ _ h => h) (Or.inl ⟨by rfl, ?_⟩) (by assumption) ?_
            rotate_left 1
            focus (intro w hSw; (try dsimp only at hSw); go_simp; (try with_reducible rfl))
            try simp only [List.getElem_toArray, List.getElem_cons_succ, List.getElem_cons_zero, Act.put, List.setIfInBounds_toArray, List.set_cons_zero, List.set_cons_succ]
            refine Rv.comp (i := 10) (v := ?_) rfl (by kernel_rfl) (by kernel_rfl) (by kernel_rfl) (fun _ _ _ h => h) (Or.inl ⟨by rfl, ?_⟩) ?_
            rotate_left 1
            focus (intro w hSw; (try dsimp only at hSw); go_simp; (try with_reducible rfl))
            try simp only [List.getElem_toArray, List.getElem_cons_succ, List.getElem_cons_zero, Act.put, List.setIfInBounds_toArray, List.set_cons_zero, List.set_cons_succ]
            refine Rv.comp (i := 11) (v := ?_) rfl (by kernel_rfl) (by kernel_rfl) (by kernel_rfl) (fun _ _ _ h => h) (Or.inl ⟨by rfl, ?_⟩) ?_
            rotate_left 1
            focus (intro w hSw; (try dsimp only at hSw); go_simp; (try with_reducible rfl))
            try simp only [List.getElem_toArray, List.getElem_cons_succ, List.getElem_cons_zero, Act.put, List.setIfInBounds_toArray, List.set_cons_zero, List.set_cons_succ]
            refine Rv.comp (i := 12) (v := ?_) rfl (by kernel_rfl) (by kernel_rfl) (by kernel_rfl) (fun _ _ _ h => h) (Or.inl ⟨by rfl, ?_⟩) ?_
            rotate_left 1
            focus (intro w hSw; (try dsimp only at hSw); go_simp; (try with_reducible rfl))
            try simp only [List.getElem_toArray, List.getElem_cons_succ, List.getElem_cons_zero, Act.put, List.setIfInBounds_toArray, List.set_cons_zero, List.set_cons_succ]
            refine Rv.take (i := 13) (v := ?_) rfl (by kernel_rfl) (by kernel_rfl) (by kernel_rfl) (by kernel_rfl) (fun _ _ _ h => h) (Or.inl ⟨by rfl, ?_⟩) (by assumption) ?_
            rotate_left 1
            focus (intro w hSw; (try dsimp only at hSw); go_simp; (try with_reducible rfl))
            try simp only [List.getElem_toArray, List.getElem_cons_succ, List.getElem_cons_zero, Act.put, List.setIfInBounds_toArray, List.set_cons_zero, List.set_cons_succ]
            refine Rv.comp (i := 14) (v := ?_) rfl (by kernel_rfl) (by kernel_rfl) (by kernel_rfl) (fun _ _ _ h => h) (Or.inl ⟨by rfl, ?_⟩) ?_
            rotate_left 1
            focus (intro w hSw; (try dsimp only at hSw); go_simp; (try with_reducible rfl))
            try simp only [List.getElem_toArray, List.getElem_cons_succ, List.getElem_cons_zero, Act.put, List.setIfInBounds_toArray, List.set_cons_zero, List.set_cons_succ]
            have s1 : w2.cell? ⟨g, m, none⟩ = some (.int .i64 k) := hHeld.1
            have s0 : w2.cell? ⟨g, j, none⟩ = some (.int .i64 p) := hHeld.2
            clear hHeld Z1
            refine Rv.last (i := 15) rfl (by kernel_rfl) (by rfl) (fun K hK => ?_)
            go_simp
            refine hK.out _ _ ?_
            clear hK K
            try simp only [List.getElem_toArray, List.getElem_cons_succ, List.getElem_cons_zero, Act.put, List.setIfInBounds_toArray, List.set_cons_zero, List.set_cons_succ]
            refine Rv.comp (i := 16) (v := ?_) rfl (by kernel_rfl) (by kernel_rfl) (by kernel_rfl) (fun _ _ _ h => h) (Or.inl ⟨by rfl, ?_⟩) ?_
            rotate_left 1
            focus (intro w hSw; (try dsimp only at hSw); go_simp; (try with_reducible rfl))
            try simp only [List.getElem_toArray, List.getElem_cons_succ, List.getElem_cons_zero, Act.put, List.setIfInBounds_toArray, List.set_cons_zero, List.set_cons_succ]
            refine Rv.last (i := 17) rfl (by kernel_rfl) (by rfl) (fun K hK => ?_)
            go_simp
            refine hK.out _ _ ?_
            clear hK K
            try simp only [List.getElem_toArray, List.getElem_cons_succ, List.getElem_cons_zero, Act.put, List.setIfInBounds_toArray, List.set_cons_zero, List.set_cons_succ]
            refine Rv.done (by kernel_rfl) ?_ _
            go_wp2_with fail
            have HF := hide (show RowI ((w2.setCell ⟨g, m, none⟩ (.int .i64 p)).setCell ⟨g, j, none⟩ (.int .i64 k)) base g n c (L.take j ++ k :: L.drop j ++ rest) by
              rw [← HSW.out]
              exact (HR2.out.put m p).put j k)
            refine ⟨⟨j, by omega, by go_num, by rw [HPOS.out, HP3.out], HF.out.call (below_dr (Below.refl _ _)), grown_drew (grown_set (grown_set HG2.out _) _)⟩, by simp [intOf]; omega⟩
    · rw [HEND.out k hlt hk] at hr
      have HR := hide (And.intro hr hg)
      clear hr hg
      go_wp2_with fail
      exact bodyPost_ret (v := .tuple #[]) (by simp [results, Try.results172, go_sem]) rfl ⟨rfl, HR.out⟩
set_option maxHeartbeats 1000000 in
theorem stable_any (F : FuncId) (X : Array Value) (hF : ∀ zs W, (callFunc F zs).run Try.prog W = .ok (.enter F zs) W) (cv : Nat → Nat → Int) (base g n c : Nat) (w : World) (hrow : RowI w base g n c (List.range n)) (hn : n < 20) (hn0 : 0 < n)
    (HC : ∀ W, w.grownBy W (some g) → ∀ i j, i < n → j < n → Calls Try.prog F (#[.int .i64 i, .int .i64 j] ++ X) W (Ret (.int .i64 (cv i j)) W)) (hbd : ∀ i j, -1 ≤ cv i j ∧ cv i j ≤ 1) :
    Calls Try.prog 128 #[.slice (some ⟨g, 0, none⟩) n c, .int .i64 n, .func (.func F) #[] X] w
      (Sorted w base g n c (ord (fun i j => decide (cv i j < 0)) n)) := by
  have HI := hide (insertion_any F X hF cv base g n c w hrow (by omega) hn0 HC hbd)
  clear hrow HC hbd hF
  go_enter Try.func128, Try.ntmps128
  go_wp2_with fail
  go_loopw [7, 8] (fun a b wi => a = .int .i64 0 ∧ b = .int .i64 20 ∧ wi = w) (fun _ _ _ => 0)
  case atStart => exact ⟨rfl, rfl, rfl⟩
  case round =>
    obtain ⟨rfl, rfl, rfl⟩ := hrel
    have e1 : decide ((20 : Int) ≤ n) = false := decide_eq_false (by omega)
    go_wp2_with fail
    refine HI.out.mono ?_
    rintro e w2 ⟨rfl, hs⟩
    have HS := hide hs
    clear hs
    go_wp2_with fail
    go_loopw [6] (fun a wi => a = .int .i64 20 ∧ wi = w2) (fun _ _ => 0)
    case atStart => exact ⟨rfl, rfl⟩
    case round =>
      obtain ⟨rfl, rfl⟩ := hrel
      have e2 : decide ((20 : Int) < n) = false := decide_eq_false (by omega)
      go_wp2_with fail
      exact bodyPost_ret (v := .tuple #[]) (by simp [results, Try.results128, go_sem]) rfl ⟨rfl, HS.out⟩
theorem sortStable_any (F : FuncId) (X : Array Value) (hF : ∀ zs W, (callFunc F zs).run Try.prog W = .ok (.enter F zs) W) (cv : Nat → Nat → Int) (base g n c : Nat) (w : World) (hrow : RowI w base g n c (List.range n)) (hn : n < 20) (hn0 : 0 < n)
    (HC : ∀ W, w.grownBy W (some g) → ∀ i j, i < n → j < n → Calls Try.prog F (#[.int .i64 i, .int .i64 j] ++ X) W (Ret (.int .i64 (cv i j)) W)) (hbd : ∀ i j, -1 ≤ cv i j ∧ cv i j ≤ 1) :
    Calls Try.prog 67 #[.slice (some ⟨g, 0, none⟩) n c, .func (.func F) #[] X] w
      (Sorted w base g n c (ord (fun i j => decide (cv i j < 0)) n)) := by
  have HI := hide (stable_any F X hF cv base g n c w hrow hn hn0 HC hbd)
  clear hrow HC hbd hF
  go_enter Try.func67, Try.ntmps67
  go_wp2_with fail
  refine HI.out.mono ?_
  rintro e w2 ⟨rfl, hs⟩
  have HS := hide hs
  clear hs
  go_wp2_with fail
  exact bodyPost_ret (v := .tuple #[]) (by simp [results, Try.results67, go_sem]) rfl ⟨rfl, HS.out⟩
theorem insertion0_any (A : Option Addr) (c : Nat) (F : Value) (w : World) : Calls Try.prog 172 #[.slice A 0 c, .int .i64 0, .int .i64 0, F] w (Pure (.tuple #[]) w) := by
  go_enter Try.func172, Try.ntmps172
  go_wp2_with fail
  go_loopw [8] (fun a wi => a = .int .i64 1 ∧ wi = w) (fun _ _ => 0)
  case atStart => exact ⟨rfl, rfl⟩
  case round =>
    obtain ⟨rfl, rfl⟩ := hrel
    go_wp2_with fail
    exact bodyPost_ret (v := .tuple #[]) (by simp [results, Try.results172, go_sem]) rfl ⟨rfl, rfl⟩
theorem sortStable0_any (A : Option Addr) (c : Nat) (F : Value) (w : World) : Calls Try.prog 67 #[.slice A 0 c, F] w (Pure (.tuple #[]) w) := by
  have HQ : Hid (Calls Try.prog 128 #[.slice A 0 c, .int .i64 0, F] w (Pure (.tuple #[]) w)) := by
    refine hide ?_
    have HI := hide (insertion0_any A c F w)
    go_enter Try.func128, Try.ntmps128
    go_wp2_with fail
    go_loopw [7, 8] (fun a b wi => a = .int .i64 0 ∧ b = .int .i64 20 ∧ wi = w) (fun _ _ _ => 0)
    case atStart => exact ⟨rfl, rfl, rfl⟩
    case round =>
      obtain ⟨rfl, rfl, rfl⟩ := hrel
      go_wp2_with fail
      refine HI.out.mono ?_
      rintro e w2 ⟨rfl, rfl⟩
      go_wp2_with fail
      go_loopw [6] (fun a wi => a = .int .i64 20 ∧ wi = wr) (fun _ _ => 0)
      case atStart => exact ⟨rfl, rfl⟩
      case round =>
        obtain ⟨rfl, rfl⟩ := hrel
        go_wp2_with fail
        exact bodyPost_ret (v := .tuple #[]) (by simp [results, Try.results128, go_sem]) rfl ⟨rfl, rfl⟩
  go_enter Try.func67, Try.ntmps67
  go_wp2_with fail
  refine HQ.out.mono ?_
  rintro e w2 ⟨rfl, rfl⟩
  go_wp2_with fail
  exact bodyPost_ret (v := .tuple #[]) (by simp [results, Try.results67, go_sem]) rfl ⟨rfl, rfl⟩
end Go.Proofs.Ytmglgjchemecjaa.CIns
