/- Draws of lists of objects: what a store into a symbol does, the list as it stands. -/
import Derived.Test.YtmglgjchemecjaaFnLandmarksOfM12
import Derived.BigQuiet
set_option linter.unusedSimpArgs false
set_option linter.unusedVariables false
namespace Go.Proofs.Ytmglgjchemecjaa.DObjH
set_option maxRecDepth 200000
open Go.ChangeShapes Go.WideShapes Go.ChangeAt Go.RowKit Kit CFixups CSymbols PObj BObj PValid BStore BList CSecValid CMarkRows CCopyS DPick DVar DName DBytes DSection BObj2 CEqual DObject CObjL CObjL2 CObjValid PWarn PClear PSort PLink CSorted PIns CNGS
theorem setSym0 (l : List YD) (j : Nat) (z : YD) (hz : l[j]? = some z) (x : ByteArray) : (cellsOf symbolC l).set (j * 4) (.string x) = cellsOf symbolC (l.set j (x, z.2)) := by
  induction l generalizing j with
  | nil => cases hz
  | cons a l ih =>
    have hc : ∀ u (l : List YD), cellsOf symbolC (u :: l) = symbolC u ++ cellsOf symbolC l := fun u l => by simp [cellsOf]
    cases j with
    | zero =>
      simp only [List.getElem?_cons_zero, Option.some.injEq] at hz
      subst hz
      simp [hc, symbolC]
    | succ j =>
      have e : (j + 1) * 4 = (symbolC a).length + (j * 4) := by rw [symbolC_len]; omega
      rw [hc, List.set_cons_succ, hc, e, List.set_append_right _ _ (by omega), Nat.add_sub_cancel_left]
      rw [ih j (by simpa using hz)]
theorem setSym1 (l : List YD) (j : Nat) (z : YD) (hz : l[j]? = some z) (x : Int) : (cellsOf symbolC l).set (j * 4 + 1) (.int .i64 x) = cellsOf symbolC (l.set j (z.1, x, z.2.2)) := by
  induction l generalizing j with
  | nil => cases hz
  | cons a l ih =>
    have hc : ∀ u (l : List YD), cellsOf symbolC (u :: l) = symbolC u ++ cellsOf symbolC l := fun u l => by simp [cellsOf]
    cases j with
    | zero =>
      simp only [List.getElem?_cons_zero, Option.some.injEq] at hz
      subst hz
      simp [hc, symbolC]
    | succ j =>
      have e : (j + 1) * 4 + 1 = (symbolC a).length + (j * 4 + 1) := by rw [symbolC_len]; omega
      rw [hc, List.set_cons_succ, hc, e, List.set_append_right _ _ (by omega), Nat.add_sub_cancel_left]
      rw [ih j (by simpa using hz)]
section
variable {w w' : World} {base g : Nat} {o : OV}
/-- One cell of an object's symbols is put. -/
theorem cellY (h : OwnO w base o) (hY : o.Y = some ⟨g, 0, none⟩) (hn : 0 < o.ys.length) (q : Nat) (u : Value) (ys' : List YD) (hl : ys'.length = o.ys.length) (hc : (cellsOf symbolC o.ys).set q u = cellsOf symbolC ys') :
    OwnO (w.setCell ⟨g, q, none⟩ u) base { o with ys := ys' } ∧ Gp (oblk o) w (w.setCell ⟨g, q, none⟩ u) ∧ base ≤ g ∧ w.frozen? ⟨g, q, none⟩ = false := by
  obtain ⟨⟨hrow, hrw, hpw⟩, hy⟩ := h
  obtain ⟨g', hA', hb1, _, hb, hown⟩ := own_of hy (by omega)
  rw [hY] at hA'
  simp only [Option.some.injEq, Addr.mk.injEq, and_true] at hA'
  subst hA'
  have hkeep : ∀ k, k ≠ g → (w.setCell ⟨g, q, none⟩ u).heap[k]? = w.heap[k]? := fun k hk => Below.heap_setCell w ⟨g, q, none⟩ u k hk
  refine ⟨⟨⟨hrow.keep fun k hk => hkeep k ?_, fun p hp => ⟨(hrw p hp).1.keep fun k hk => hkeep k ?_, (hrw p hp).2.keep fun k hk => hkeep k ?_⟩, hpw⟩, ?_⟩, ?_, hb1, World.ownsRow.frozenAt hown q⟩
  · rintro rfl
    exact apartT hrow hy (by decide) _ hk hb
  · rintro rfl
    exact apartT (hrw p hp).1 hy (by decide) _ hk hb
  · rintro rfl
    exact apartT (hrw p hp).2 hy (by decide) _ hk hb
  · refine .inr ?_
    show (w.setCell _ _).ownsRow base _ 4 (.slice o.Y ys'.length o.yc) ys'.length (cellsOf symbolC ys')
    rw [hl, ← hc, hY]
    exact (hown.stored q _).1
  · refine ⟨rfl, rfl, rfl, by simp [World.setCell], fun k hk hp => hkeep k ?_⟩
    rintro rfl
    exact hp (.inr hb)
theorem smallYs (h : SmallO o.d) {ys' : List YD} (hl : ys'.length = o.ys.length) (hs : ∀ y ∈ ys', y.1.size ≤ 9) : SmallO (OV.d { o with ys := ys' }) :=
  ⟨h.1, by show ys'.length ≤ 13; rw [hl]; exact h.2.1, h.2.2.1, hs⟩
end
/-- The list as it stands. -/
structure Mo (w wi : World) (B R : Nat) (N : Int) (A : Option Addr) (c : Nat) (os : List OV) : Prop where
  own : OwnOs wi w.heap.size A c os
  sm : ∀ o ∈ os, SmallO o.d
  t : Tp w wi B R N
section
variable {w wx wy : World} {B R c : Nat} {N M : Int} {A : Option Addr} {os : List OV}
theorem Mo.turn (h : Mo w wx B R N A c os) (g : wx.grownBy wy (some R)) (hR : R < w.heap.size) (T : Tp w wy B R M) : Mo w wy B R M A c os :=
  ⟨h.own.keep fun k hk => g.block k (h.own.lt k hk).2 (fun e => by injection e with e; have := (h.own.lt k hk).1; omega), h.sm, T⟩
theorem Mo.more (h : Mo w wx B R N A c os) (hM : N ≤ M) : Mo w wx B R M A c os := ⟨h.own, h.sm, h.t.more hM⟩
theorem Mo.call (h : Mo w wx B R N A c os) (hb : Below wx.heap.size wx wy) : Mo w wy B R N A c os := ⟨h.own.call hb, h.sm, h.t.call hb⟩
end
def DrewOs (w0 w : World) (B R : Nat) (N : Int) (e : Ending) (w' : World) : Prop := ∃ (A : Option Addr) (c : Nat) (os : List OV), e = .returned (.slice A os.length c) ∧ os.length ≤ 8 ∧ (∀ o ∈ os, SmallO o.d) ∧ OwnOs w' w.heap.size A c os ∧ Tp w0 w' B R N ∧ w.grownBy w' (some R)
/-- One row of another type grows, the list stands. -/
theorem OwnOs.apart {w : World} {base : Nat} {A : Option Addr} {c : Nat} {os : List OV} (h : OwnOs w base A c os) {b' n' c' size : Nat} {A' : Option Addr} {e : TypeId} {xs : List Value} (hr : Row w b' e size A' n' c' xs)
    (h1 : 26 ≠ e) (h2 : 73 ≠ e) (h3 : 5 ≠ e) (h4 : 77 ≠ e) (h5 : 69 ≠ e) : ∀ k, lblk A c os k → blk A' c' ≠ some k := by
  rintro k (hk | ⟨o, ho, (hk | ⟨p, hp, hk | hk⟩) | hk⟩) e'
  · exact apartT h.1 hr h1 k hk e'
  · exact apartT (h.2.1 o ho).1.1 hr h2 k hk e'
  · exact apartT ((h.2.1 o ho).1.2.1 p hp).1 hr h3 k hk e'
  · exact apartT ((h.2.1 o ho).1.2.1 p hp).2 hr h4 k hk e'
  · exact apartT (h.2.1 o ho).2 hr h5 k hk e'
/-- The object that is being drawn stands in its variable X, the list before it. -/
structure Mi (w wi : World) (B R X K : Nat) (N : Int) (A : Option Addr) (c : Nat) (os : List OV) (o : OV) : Prop where
  own : OwnOs wi w.heap.size A c os
  sm : ∀ x ∈ os, SmallO x.d
  ob : OwnO wi w.heap.size o
  so : SmallO o.d
  bx : Box wi X 26 #[.slice o.A o.ps.length o.c, .slice o.Y o.ys.length o.yc]
  old : ∀ k, lblk A c os k → k < K
  new : ∀ k, oblk o k → K ≤ k
  xk : K ≤ X
  wk : w.heap.size ≤ K
  t : Tp w wi B R N
section
variable {w wx wy : World} {B R X K c : Nat} {N M : Int} {A : Option Addr} {os : List OV} {o : OV}
theorem Mi.turn (h : Mi w wx B R X K N A c os o) (g : wx.grownBy wy (some R)) (hR : R < w.heap.size) (T : Tp w wy B R M) : Mi w wy B R X K M A c os o :=
  ⟨h.own.keep fun k hk => g.block k (h.own.lt k hk).2 (fun e => by injection e with e; have := (h.own.lt k hk).1; omega), h.sm, h.ob.grownR g hR, h.so, h.bx.grown g (by intro k hk; injection hk with hk; have := h.xk; have := h.wk; omega), h.old, h.new, h.xk, h.wk, T⟩
theorem Mi.more (h : Mi w wx B R X K N A c os o) (hM : N ≤ M) : Mi w wx B R X K M A c os o := ⟨h.own, h.sm, h.ob, h.so, h.bx, h.old, h.new, h.xk, h.wk, h.t.more hM⟩
/-- A cell of the object's symbols is put. -/
theorem Mi.put (h : Mi w wx B R X K N A c os o) (hR : R < w.heap.size) {g : Nat} (hY : o.Y = some ⟨g, 0, none⟩) (hn : 0 < o.ys.length) (q : Nat) (u : Value) (ys' : List YD) (hl : ys'.length = o.ys.length) (hc : (cellsOf symbolC o.ys).set q u = cellsOf symbolC ys') (hs : ∀ y ∈ ys', y.1.size ≤ 9) :
    Mi w (wx.setCell ⟨g, q, none⟩ u) B R X K N A c os { o with ys := ys' } := by
  obtain ⟨h1, h2, h3, _⟩ := cellY h.ob hY hn q u ys' hl hc
  have hgX : X ≠ g := by
    obtain ⟨g', hA', _, _, hb, _⟩ := own_of h.ob.2 hn
    rw [hY] at hA'
    simp only [Option.some.injEq, Addr.mk.injEq, and_true] at hA'
    subst hA'
    exact fun e => h.ob.2.box h.bx (by decide) g hb e.symm
  refine ⟨h.own.gp h2 (fun k hk hk' => by have h4 := h.old k hk; have h5 := h.new k hk'; omega), h.sm, h1, smallYs h.so hl hs, ?_, h.old, h.new, h.xk, h.wk, h.t.set (a := ⟨g, q, none⟩) h3 (by show R < g; omega) u⟩
  have hb := h.bx.far (p := ⟨g, q, none⟩) hgX u
  show Box _ X _ #[.slice o.A o.ps.length o.c, .slice o.Y ys'.length o.yc]
  rw [hl]
  exact hb
end
/-- An object of the list turns in one cell of its symbols. -/
theorem Mo.put {w wx : World} {B R c g : Nat} {N : Int} {A : Option Addr} {l1 l2 : List OV} {o : OV} (h : Mo w wx B R N A c (l1 ++ o :: l2)) (hR : R < w.heap.size) (hY : o.Y = some ⟨g, 0, none⟩) (hn : 0 < o.ys.length) (q : Nat) (u : Value) (ys' : List YD) (hl : ys'.length = o.ys.length)
    (hc : (cellsOf symbolC o.ys).set q u = cellsOf symbolC ys') (hs : ∀ y ∈ ys', y.1.size ≤ 9) : Mo w (wx.setCell ⟨g, q, none⟩ u) B R N A c (l1 ++ { o with ys := ys' } :: l2) := by
  have ho := h.own.2.1 o (by simp)
  obtain ⟨h1, h2, h3, _⟩ := cellY ho hY hn q u ys' hl hc
  refine ⟨OwnOs.upd h.own (by simp [objC, hl]) (fun k hk => hk) h1 h2, fun x hx => ?_, h.t.set (a := ⟨g, q, none⟩) h3 (by show R < g; omega) u⟩
  rcases List.mem_append.1 hx with hx | hx
  · exact h.sm x (List.mem_append_left _ hx)
  · rcases List.mem_cons.1 hx with rfl | hx
    · exact smallYs (h.sm o (by simp)) hl hs
    · exact h.sm x (by simp [hx])
theorem names9 {ys : List YD} (hs : ∀ y ∈ ys, y.1.size ≤ 9) (j : Nat) (z : YD) (hz : z.1.size ≤ 9) : ∀ y ∈ ys.set j z, y.1.size ≤ 9 := by
  intro y hy
  rcases List.mem_or_eq_of_mem_set hy with hy | rfl
  · exact hs y hy
  · exact hz
theorem split_at {os : List OV} {k : Nat} (h : k < os.length) : ∃ l1 l2, os = l1 ++ os[k] :: l2 ∧ l1.length = k := ⟨os.take k, os.drop (k + 1), by rw [← List.drop_eq_getElem_cons h, List.take_append_drop], by rw [List.length_take]; omega⟩
/-- A symbol of an object of one's own: where it lies. -/
theorem sym_at {w : World} {base : Nat} {o : OV} (h : OwnO w base o) {j : Nat} (hj : j < o.ys.length) : ∃ g, o.Y = some ⟨g, 0, none⟩ ∧ g < w.heap.size ∧ blk o.Y o.yc = some g ∧ w.cell? ⟨g, j * 4, none⟩ = some (.string (o.ys[j]).1) ∧ w.cell? ⟨g, j * 4 + 1, none⟩ = some (.int .i64 (o.ys[j]).2.1) ∧ w.cell? ⟨g, j * 4 + 2, none⟩ = some (.int .i64 (o.ys[j]).2.2.1) ∧ (∀ q, w.frozen? ⟨g, q, none⟩ = false) := by
  obtain ⟨g, hA, _, hg, hb, hown⟩ := own_of h.2 (by omega)
  have hrd := h.2.rd
  obtain ⟨b, off, hA2, _, hc⟩ := hrd.row symbolC_len (by decide) hj
  rw [hA] at hA2
  simp only [Option.some.injEq, Addr.mk.injEq, and_true] at hA2
  obtain ⟨rfl, rfl⟩ := hA2
  have c0 := hc 0 _ rfl
  have c1 := hc 1 _ rfl
  have c2 := hc 2 _ rfl
  simp only [Nat.zero_add, Nat.add_zero] at c0 c1 c2
  exact ⟨g, hA, hg, hb, c0, c1, c2, fun q => World.ownsRow.frozenAt hown q⟩
theorem giv_small {d : OD} (h : SmallO d) : ∀ s ∈ givN d, s.size ≤ 9 := by
  intro s hs
  unfold givN at hs
  cases ho : objOk d
  · rw [ho] at hs
    cases hs
  · rw [ho, cond_true] at hs
    have h1 := ((insAll_spec _).2 s).1 hs
    obtain ⟨y, hy, rfl⟩ := List.mem_map.1 h1
    exact h.2.2.2 y (List.mem_filter.1 hy).1
theorem giv_len {d : OD} (h : SmallO d) : (givN d).length ≤ 13 := by
  unfold givN
  cases ho : objOk d
  · simp
  · rw [cond_true]
    have h1 := insAll_len (givS d.ys)
    have h2 := givS_len d.ys
    have := h.2.1
    omega
def zeroO : OV := ⟨none, 0, [], none, 0, []⟩
theorem zero_apart : (List.replicate 5 zeroO).Pairwise ApO := by
  rw [List.pairwise_iff_getElem]
  intro i j hi hj _ k hk _
  rw [List.getElem_replicate] at hk
  rcases hk with (hk | ⟨p, hp, _⟩) | hk
  · cases hk
  · cases hp
  · cases hk
theorem made5 : (madeCells #[.slice none 0 0, .slice none 0 0] 10).toList = cellsOf objC (List.replicate 5 zeroO) := by kernel_rfl
theorem one_obj (o : OV) : ∀ u ∈ objC o, u.oneCell' = true := by
  intro u hu
  simp only [objC, List.mem_cons, List.not_mem_nil, or_false] at hu
  rcases hu with rfl | rfl <;> rfl
end Go.Proofs.Ytmglgjchemecjaa.DObjH
/- The draws of objects, and what their sizes give (without what StripWanted asks). -/
namespace Go.Proofs.Ytmglgjchemecjaa.DDrawB
set_option maxRecDepth 200000
open Go.ChangeShapes Go.WideShapes Go.ChangeAt Go.RowKit Kit CCode CFixups CSymbols PObj BObj PValid CObjValid PWarn PClear DPick DVar DSection DObject CCopyS CCopyI
/-- Sizes of what is drawn, stripped or cleared. -/
def Bnd (d : OD) : Prop := d.ss.length ≤ 8 ∧ d.ys.length ≤ 13 ∧ (∀ s ∈ d.ss, s.nm.size ≤ 9 ∧ s.zs.length ≤ 49 ∧ s.fs.length ≤ 6) ∧ ∀ y ∈ d.ys, y.1.size ≤ 9
theorem bnd_small {d : OD} (h : SmallO d) : Bnd d := ⟨by have := h.1; omega, h.2.1, fun s hs => by
  have := h.2.2.1 s hs
  exact ⟨this.1, this.2.1, by have := this.2.2.2.1; omega⟩, h.2.2.2⟩
theorem bnd_fit {o : OV} {w : World} {base : Nat} (h : Bnd o.d) (ho : OwnO w base o) : Fit o ∧ (∀ p ∈ o.ps, p.zs.length ≤ p.c) := by
  have h1 : o.ps.length ≤ 8 := by simpa [OV.d] using h.1
  have h2 : o.ys.length ≤ 13 := h.2.1
  refine ⟨⟨by omega, by omega, ho.2.cap.1, fun p hp => ?_, fun y hy => ?_⟩, fun p hp => ((ho.1.2.1 p hp).1).cap.1⟩
  · have := h.2.2.1 p.d (List.mem_map_of_mem hp)
    have h3 : p.nm.size ≤ 9 ∧ p.zs.length ≤ 49 ∧ p.fs.length ≤ 6 := this
    unfold maxLen
    omega
  · have := h.2.2.2 y hy
    unfold maxLen
    omega
end Go.Proofs.Ytmglgjchemecjaa.DDrawB
/- The draw of a list of objects. -/
namespace Go.Proofs.Ytmglgjchemecjaa.DObjL
set_option maxRecDepth 200000
open Go.ChangeShapes Go.WideShapes Go.ChangeAt Go.RowKit Kit CFixups CSymbols PObj BObj PValid BStore BList CSecValid CMarkRows CCopyS DPick DVar DName DBytes DSection BObj2 CEqual DObject CObjL CObjL2 CObjValid PWarn PClear PSort PLink CSorted PIns CNGS CNames CInsS DDrawB DObjH
def DrewOs (w0 w : World) (B R : Nat) (N : Int) (e : Ending) (w' : World) : Prop := ∃ (A : Option Addr) (c : Nat) (os : List OV), e = .returned (.slice A os.length c) ∧ os.length ≤ 8 ∧ (∀ o ∈ os, SmallO o.d) ∧ OwnOs w' w.heap.size A c os ∧ Tp w0 w' B R N ∧ w.grownBy w' (some R)
set_option maxHeartbeats 4000000 in
theorem objects_any {w0 w : World} {B R : Nat} {N : Int} (T0 : Tp w0 w B R N) (hN : N ≤ 1000) (hN0 : 0 ≤ N) (n : Int) (hn : 0 ≤ n) (hn' : n ≤ 100) :
    Calls Try.prog 152 #[.pointer (some ⟨R, 0, none⟩), .int .i64 n] w (DrewOs w0 w B R (N + 20000)) := by
  obtain ⟨iO, hio1, hio2, hio3, hio4⟩ := info_parts infoO
  have HIO := hide (And.intro hio1 (And.intro hio2 (And.intro hio3 hio4)))
  clear hio1 hio2 hio3 hio4
  obtain ⟨iN, hin1, hin2, hin3, hin4⟩ := info_parts infoStr
  have HIN := hide (And.intro hin1 (And.intro hin2 (And.intro hin3 hin4)))
  clear hin1 hin2 hin3 hin4
  have hR := T0.lt
  have HT0 := hide T0
  have T := tp_new T0
  clear T0
  have HM := hide (show Mo w (w.alloc (.cells #[] 26)) B R N (some ⟨w.heap.size, 0, none⟩) 0 [] from ⟨⟨Row.empty _ _ _ _ _, (fun o ho => by cases ho), List.Pairwise.nil⟩, (fun o ho => by cases ho), T.alloc _⟩)
  clear T
  have hws : w.heap.size ≤ (w.alloc (.cells #[] 26)).heap.size := by simp
  have HWS := hide hws
  clear hws
  go_enter Try.func152, Try.ntmps152
  go_wp2_with fail
  generalize w.alloc (.cells #[] 26) = w1 at *
  refine (pick_tp HM.out.t (by omega) _ (by omega) (by omega)).mono ?_
  rintro e w2 ⟨i0, rfl, i00, i01, T1, g1⟩
  have HWS2 := hide (Nat.le_trans HWS.out g1.size)
  replace HM := hide (HM.out.turn g1 hR T1)
  clear T1 g1 HWS
  obtain ⟨i, rfl⟩ := Int.eq_ofNat_of_zero_le i00
  go_wp2_with fail
  go_loopw [5, 6] (fun s k wi => ∃ (i : Nat) (A : Option Addr) (c : Nat) (os : List OV), s = .slice A os.length c ∧ k = .int .i64 i ∧ i + os.length ≤ 3 ∧ w.heap.size ≤ wi.heap.size ∧ Mo w wi B R (N + 10 + 2100 * (3 - i : Int)) A c os) (fun _ k _ => (intOf k).toNat)
  case atStart => exact ⟨i, _, _, [], rfl, rfl, by simp; omega, HWS2.out, HM.out.more (by omega)⟩
  case round =>
    rename World => wr
    clear HM HWS2
    obtain ⟨i, A, c, os, rfl, rfl, hi, hws, hm⟩ := hrel
    have HM := hide hm
    have HWS := hide hws
    clear hm hws
    by_cases h0 : 0 < i
    · go_wp2_with fail
      refine (object_any (tp_new HM.out.t) (by omega) (by omega) 0 (by omega) (by omega)).mono ?_
      rintro e w3 ⟨o, rfl, hsm, hown, hT, g1⟩
      have HOLD := hide (fun k hk => (HM.out.own.lt k hk).2)
      have hgs := g1.size
      replace HM := hide (HM.out.turn g1 hR (tp_tr HM.out.t hT))
      have b4 : Below w3.heap.size w3 (w3.alloc (.cells #[.slice o.A o.ps.length o.c, .slice o.Y o.ys.length o.yc] 26)) := (by repeat (first | exact Below.refl _ _ | with_reducible assumption | (refine Below.drew ?_) | (refine Below.drewN ?_ _) | (refine Below.alloc ?_ (by simp; try omega) _) | (refine Below.setCell ?_ (by simp; try omega) _)))
      have HMI := hide (show Mi w (w3.alloc (.cells #[.slice o.A o.ps.length o.c, .slice o.Y o.ys.length o.yc] 26)) B R w3.heap.size wr.heap.size _ A c os o from
        ⟨HM.out.own.call b4, HM.out.sm, (hown.down HWS.out).call b4, hsm, Box.new w3 _ _, HOLD.out, fun k hk => (hown.lt k hk).1, hgs, HWS.out, HM.out.t.call b4⟩)
      have HS4 := hide (show wr.heap.size ≤ (w3.alloc (.cells #[.slice o.A o.ps.length o.c, .slice o.Y o.ys.length o.yc] 26)).heap.size from by simp; omega)
      clear hsm hown hT g1 HM HOLD b4 hgs
      unfold OV.v
      go_wp2_with fail
      generalize w3.alloc (.cells #[.slice o.A o.ps.length o.c, .slice o.Y o.ys.length o.yc] 26) = w4 at *
      generalize hX : w3.heap.size = X at *
      have HX := hide hX
      clear hX
      generalize hK : wr.heap.size = K at *
      have HK := hide hK
      clear hK HX
      have HYL := hide HMI.out.so.2.1
      have hyl13 : o.ys.length ≤ 13 := HYL.out
      go_loopw [8] (fun q wi => ∃ (j : Nat) (ys : List YD), q = .int .i64 j ∧ j ≤ ys.length ∧ ys.length = o.ys.length ∧ K ≤ wi.heap.size ∧ Mi w wi B R X K (N + 10 + 2100 * (3 - i : Int) + 2000 + j) A c os { o with ys := ys }) (fun q _ => o.ys.length - (intOf q).toNat)
      case atStart => exact ⟨0, o.ys, rfl, Nat.zero_le _, rfl, HS4.out, HMI.out.more (by omega)⟩
      case round =>
        rename World => wi
        clear HMI HS4
        obtain ⟨j, ys, rfl, hj, hyl, hks, hm⟩ := hrel
        have HM := hide hm
        have HKS := hide hks
        have HYS := hide hyl
        clear hm hks hyl
        have hyl : ys.length ≤ 13 := by have := HYS.out; omega
        have y1 := HM.out.bx.cell 1
        simp only [List.getElem?_toArray, List.getElem?_cons_zero, List.getElem?_cons_succ] at y1
        have hxl := HM.out.bx.lt
        by_cases hlt : j < ys.length
        · go_wp2_with fail
          refine (pick_tp HM.out.t (by omega) _ (by omega) (by omega)).mono ?_
          rintro e w5 ⟨x, rfl, x0, x1, T1, g1⟩
          replace HM := hide (HM.out.turn g1 hR T1)
          have HKS2 := hide (Nat.le_trans HKS.out g1.size)
          clear T1 g1 y1 hxl HKS
          by_cases hx : x = 0
          · subst hx
            have y1 := HM.out.bx.cell 1
            simp only [List.getElem?_toArray, List.getElem?_cons_zero, List.getElem?_cons_succ] at y1
            have hxl := HM.out.bx.lt
            obtain ⟨g, hY, hgl, hgb, c0, c1, c2, hfz⟩ := sym_at HM.out.ob hlt
            have hf1 := hfz (j * 4 + 1)
            have HY := hide hY
            simp only at hY c0 c1 c2
            rw [hY] at y1
            have HPUT := hide (fun (y2 : Int) => HM.out.put hR HY.out (show 0 < ys.length by omega) (j * 4 + 1) (.int .i64 y2) (ys.set j ((ys[j]).1, y2, (ys[j]).2.2)) (by simp) (setSym1 ys j ys[j] (List.getElem?_eq_getElem hlt) y2) (names9 HM.out.so.2.2.2 j _ (show (ys[j]).1.size ≤ 9 from HM.out.so.2.2.2 (ys[j]) (List.getElem_mem hlt))))
            have HSL := hide (show ∀ y2 : Int, (ys.set j ((ys[j]).1, y2, (ys[j]).2.2)).length = ys.length from fun y2 => by simp)
            clear hY hfz hgb c0
            generalize ys[j] = z at *
            obtain ⟨z1, z2, z3, z4⟩ := z
            simp only at c1 c2
            by_cases h3 : z3 = -1
            · have e3 : (z3 != -1) = false := by simp [h3]
              clear h3 HPUT HSL
              go_wp2_with fail
              refine ⟨⟨j + 1, ys, by go_num, by omega, HYS.out, HKS2.out, HM.out.more (by omega)⟩, by simp [intOf]; have := HYS.out; omega⟩
            · have e3 : (z3 != -1) = true := bne_iff_ne.2 h3
              by_cases h2 : z2 = 1
              · subst h2
                have HP2 := hide (HPUT.out 2)
                have HL2 := hide (HSL.out 2)
                have hks' : K ≤ (w5.setCell ⟨g, j * 4 + 1, none⟩ (.int .i64 2)).heap.size := by simpa [World.setCell] using HKS2.out
                have HK3 := hide hks'
                clear h3 HPUT HSL hks'
                go_wp2_with fail
                refine ⟨⟨j + 1, _, by go_num, by rw [HL2.out]; omega, by rw [HL2.out]; exact HYS.out, HK3.out, HP2.out.more (by omega)⟩, by simp [intOf]; have := HYS.out; omega⟩
              · have e2 : (z2 == 1) = false := beq_eq_false_iff_ne.2 h2
                clear h3 h2 HPUT HSL
                go_wp2_with fail
                refine ⟨⟨j + 1, ys, by go_num, by omega, HYS.out, HKS2.out, HM.out.more (by omega)⟩, by simp [intOf]; have := HYS.out; omega⟩
          · have ex : (x == 0) = false := beq_eq_false_iff_ne.2 hx
            have HKS := HKS2
            clear HKS2 hlt
            generalize hoo : ({ o with ys := ys } : OV) = o2 at *
            have hoy : o2.ys = ys := by rw [← hoo]
            clear hoo hoy
            have q0 := HM.out.bx.cell 0
            have q1 := HM.out.bx.cell 1
            simp only [List.getElem?_toArray, List.getElem?_cons_zero, List.getElem?_cons_succ] at q0 q1
            have hql := HM.out.bx.lt
            have B5 : Below w5.heap.size w5 (w5.alloc (.cells #[.slice o2.A o2.ps.length o2.c, .slice o2.Y o2.ys.length o2.yc] 26)) := (by repeat (first | exact Below.refl _ _ | with_reducible assumption | (refine Below.drew ?_) | (refine Below.drewN ?_ _) | (refine Below.alloc ?_ (by simp; try omega) _) | (refine Below.setCell ?_ (by simp; try omega) _)))
            have HROW := hide (HM.out.own.1.alloc (.cells #[.slice o2.A o2.ps.length o2.c, .slice o2.Y o2.ys.length o2.yc] 26))
            have hww : w.heap.size ≤ (w5.alloc (.cells #[.slice o2.A o2.ps.length o2.c, .slice o2.Y o2.ys.length o2.yc] 26)).heap.size := by have := HWS.out; have := HKS.out; simp; omega
            go_wp2_with (at_builtin; refine wpList_app _ rfl (.tmp 58) (.tmp 60) 51 rfl 26 iO (.agg #[.slice none 0 0, .slice none 0 0]) 2 48 Try.underlying51 HIO.out.1 HIO.out.2.1 HIO.out.2.2.1 HIO.out.2.2.2 rfl (by decide) w.heap.size A os.length c (cellsOf objC os) rfl HROW.out hww (some ⟨w5.heap.size, 0, none⟩) 1 1 (objC o2) rfl (rd_lit w5 #[.slice o2.A o2.ps.length o2.c, .slice o2.Y o2.ys.length o2.yc] 26 _ rfl) rfl (fun h => by cases h) (one_obj o2) ?n1 ?n2 ?_)
            case n1 => unfold maxLen; omega
            case n2 => omega
            intro A6 n6 c6 w6 hn6 o6 g6 k6
            have HOW := hide (OwnOs.snoc (HM.out.own.call B5) (HM.out.ob.call B5) (fun x hx k hk => HM.out.old k (.inr ⟨x, hx, hk⟩)) (fun k hk => HM.out.new k hk) hn6 o6 g6)
            have HT6 := hide ((HM.out.t.call B5).own g6 (fun k hk => by have := (HROW.out.lt k hk).1; omega))
            have HSM := hide (show ∀ x ∈ os ++ [o2], SmallO x.d from fun x hx => by
              rcases List.mem_append.1 hx with hx | hx
              · exact HM.out.sm x hx
              · rw [List.mem_singleton.1 hx]
                exact HM.out.so)
            have hgs := g6.size
            have HS6 := hide (show w.heap.size ≤ w6.heap.size from Nat.le_trans hww hgs)
            subst hn6
            clear q0 q1 hql B5 HROW o6 g6 k6 HM hgs hww HKS
            go_wp2_with fail
            refine ⟨⟨i - 1, A6, c6, os ++ [o2], by simp, congrArg (Value.int .i64) (by omega), by simp; omega, HS6.out, HOW.out, HSM.out, HT6.out.more (by omega)⟩, by simp [intOf]; omega⟩
        · clear y1 hxl
          generalize hoo : ({ o with ys := ys } : OV) = o2 at *
          have hoy : o2.ys = ys := by rw [← hoo]
          have hdd : decide ((j : Int) < (o2.ys.length : Int)) = false := decide_eq_false (by rw [hoy]; omega)
          have hde : decide (j < o2.ys.length) = false := decide_eq_false (by rw [hoy]; omega)
          clear hoo hoy
          have q0 := HM.out.bx.cell 0
          have q1 := HM.out.bx.cell 1
          simp only [List.getElem?_toArray, List.getElem?_cons_zero, List.getElem?_cons_succ] at q0 q1
          have hql := HM.out.bx.lt
          have B5 : Below wi.heap.size wi (wi.alloc (.cells #[.slice o2.A o2.ps.length o2.c, .slice o2.Y o2.ys.length o2.yc] 26)) := (by repeat (first | exact Below.refl _ _ | with_reducible assumption | (refine Below.drew ?_) | (refine Below.drewN ?_ _) | (refine Below.alloc ?_ (by simp; try omega) _) | (refine Below.setCell ?_ (by simp; try omega) _)))
          have HROW := hide (HM.out.own.1.alloc (.cells #[.slice o2.A o2.ps.length o2.c, .slice o2.Y o2.ys.length o2.yc] 26))
          have hww : w.heap.size ≤ (wi.alloc (.cells #[.slice o2.A o2.ps.length o2.c, .slice o2.Y o2.ys.length o2.yc] 26)).heap.size := by have := HWS.out; have := HKS.out; simp; omega
          go_wp2_with (at_builtin; refine wpList_app _ rfl (.tmp 58) (.tmp 60) 51 rfl 26 iO (.agg #[.slice none 0 0, .slice none 0 0]) 2 48 Try.underlying51 HIO.out.1 HIO.out.2.1 HIO.out.2.2.1 HIO.out.2.2.2 rfl (by decide) w.heap.size A os.length c (cellsOf objC os) rfl HROW.out hww (some ⟨wi.heap.size, 0, none⟩) 1 1 (objC o2) rfl (rd_lit wi #[.slice o2.A o2.ps.length o2.c, .slice o2.Y o2.ys.length o2.yc] 26 _ rfl) rfl (fun h => by cases h) (one_obj o2) ?n1 ?n2 ?_)
          case n1 => unfold maxLen; omega
          case n2 => omega
          intro A6 n6 c6 w6 hn6 o6 g6 k6
          have HOW := hide (OwnOs.snoc (HM.out.own.call B5) (HM.out.ob.call B5) (fun x hx k hk => HM.out.old k (.inr ⟨x, hx, hk⟩)) (fun k hk => HM.out.new k hk) hn6 o6 g6)
          have HT6 := hide ((HM.out.t.call B5).own g6 (fun k hk => by have := (HROW.out.lt k hk).1; omega))
          have HSM := hide (show ∀ x ∈ os ++ [o2], SmallO x.d from fun x hx => by
            rcases List.mem_append.1 hx with hx | hx
            · exact HM.out.sm x hx
            · rw [List.mem_singleton.1 hx]
              exact HM.out.so)
          have hgs := g6.size
          have HS6 := hide (show w.heap.size ≤ w6.heap.size from Nat.le_trans hww hgs)
          subst hn6
          clear hdd hde q0 q1 hql B5 HROW o6 g6 k6 HM hgs hww HKS
          go_wp2_with fail
          refine ⟨⟨i - 1, A6, c6, os ++ [o2], by simp, congrArg (Value.int .i64) (by omega), by simp; omega, HS6.out, HOW.out, HSM.out, HT6.out.more (by omega)⟩, by simp [intOf]; omega⟩
    · have hi0 : i = 0 := by omega
      subst hi0
      have hd0 : decide ((0 : Int) < ((0 : Nat) : Int)) = false := by decide
      replace HM := hide (HM.out.more (show _ ≤ N + 6400 by omega))
      have hol : os.length ≤ 3 := by omega
      clear h0 hi
      go_wp2_with fail
      refine (pick_tp HM.out.t (by omega) _ (by omega) (by omega)).mono ?_
      rintro e w3 ⟨x, rfl, x0, x1, T1, g1⟩
      have HS3 := hide (Nat.le_trans HWS.out g1.size)
      replace HM := hide (HM.out.turn g1 hR T1)
      clear T1 g1 HWS
      go_upto_if 64 with (fail)
      go_cut [] from 9 to 150 (fun wx => ∃ os2 : List OV, os2.length = os.length ∧ w.heap.size ≤ wx.heap.size ∧ Mo w wx B R (N + 8000) A c os2)
      case first =>
        by_cases hx : x = 0
        · subst hx
          have HG0 := hide (show Row (w3.alloc (.cells #[] 9)) w.heap.size 9 1 (some ⟨w3.heap.size, 0, none⟩) 0 0 (nmC []) from Row.empty _ _ _ _ _)
          have B4 : Below w3.heap.size w3 (w3.alloc (.cells #[] 9)) := (by repeat (first | exact Below.refl _ _ | with_reducible assumption | (refine Below.drew ?_) | (refine Below.drewN ?_ _) | (refine Below.alloc ?_ (by simp; try omega) _) | (refine Below.setCell ?_ (by simp; try omega) _)))
          replace HM := hide (HM.out.call B4)
          have HS4 := hide (Nat.le_trans HS3.out B4.size)
          clear B4 HS3
          go_wp2_with fail
          generalize w3.alloc (.cells #[] 9) = w4 at *
          go_loopw [9, 10] (fun s q wi => ∃ (k : Nat) (GA : Option Addr) (gc : Nat) (gs : List ByteArray), s = .slice GA gs.length gc ∧ q = .int .i64 k ∧ k ≤ os.length ∧ gs.length ≤ 13 * k ∧ (∀ s ∈ gs, s.size ≤ 9) ∧ Row wi w.heap.size 9 1 GA gs.length gc (nmC gs) ∧ w.heap.size ≤ wi.heap.size ∧ Mo w wi B R (N + 6410) A c os) (fun _ q _ => os.length - (intOf q).toNat)
          case atStart => exact ⟨0, _, _, [], rfl, rfl, Nat.zero_le _, Nat.le_refl _, (fun s hs => by cases hs), HG0.out, HS4.out, HM.out.more (by omega)⟩
          case round =>
            rename World => wk
            clear HM HG0 HS4
            obtain ⟨k, GA, gc, gs, rfl, rfl, hk, hgl, hg9, hg, hws, hm⟩ := hrel
            have HM := hide hm
            have HG := hide hg
            have HG9 := hide hg9
            have HWS := hide hws
            clear hm hg hg9 hws
            by_cases hlt : k < os.length
            · obtain ⟨b, off, hA, hbb, c0, c1⟩ := HM.out.own.rd.at hlt
              have HSMO := hide (HM.out.sm _ (List.getElem_mem hlt))
              have HOO := hide (HM.out.own.2.1 _ (List.getElem_mem hlt))
              subst hA
              generalize os[k] = o at *
              go_wp2_with fail
              refine (namesGivenS_any o wk HOO.out.rd (bnd_fit (bnd_small HSMO.out) HOO.out).1).mono ?_
              rintro e w5 ⟨A5, c5, rfl, r5, b5⟩
              have HR5 := hide r5
              have HL5 := hide (And.intro (giv_len HSMO.out) (giv_small HSMO.out))
              have hl5 := HL5.out.1
              replace HM := hide (HM.out.call b5)
              replace HG := hide (HG.out.call b5)
              have HWS5 := hide (Nat.le_trans HWS.out b5.size)
              clear r5 b5 c0 c1 HOO HSMO HWS
              generalize givN o.d = ms at *
              go_wp2_with (at_builtin; refine wpList_app _ rfl (.tmp 72) (.tmp 77) 64 rfl 9 iN (.string ByteArray.empty) 1 16 Try.underlying64 HIN.out.1 HIN.out.2.1 HIN.out.2.2.1 HIN.out.2.2.2 rfl (by decide) w.heap.size GA gs.length gc (nmC gs) rfl HG.out HWS5.out A5 ms.length c5 (nmC ms) rfl HR5.out.rd (by simp [nmC]) HR5.out.nil (one_nm ms) ?n3 ?n4 ?_)
              case n3 => unfold maxLen; omega
              case n4 => omega
              intro A6 n6 c6 w6 hn6 o6 g6 k6
              subst hn6
              have HAP := hide (OwnOs.apart HM.out.own HG.out (by decide) (by decide) (by decide) (by decide) (by decide))
              have HM6 := hide (show Mo w w6 B R (N + 6410) (some ⟨b, off, none⟩) c os from ⟨HM.out.own.keep fun k hk => g6.block k (HM.out.own.lt k hk).2 (fun e => HAP.out k hk e.symm), HM.out.sm, HM.out.t.own g6 (fun k hk => by have := (HG.out.lt k hk).1; omega)⟩)
              have HG6 := hide (show Row w6 w.heap.size 9 1 A6 (gs ++ ms).length c6 (nmC (gs ++ ms)) from by
                have e : nmC (gs ++ ms) = nmC gs ++ nmC ms := by simp [nmC]
                rw [e, List.length_append]
                exact o6)
              have HN9 := hide (show ∀ s ∈ gs ++ ms, s.size ≤ 9 from fun s hs => by
                rcases List.mem_append.1 hs with hs | hs
                · exact HG9.out s hs
                · exact HL5.out.2 s hs)
              have HW6 := hide (Nat.le_trans HWS5.out g6.size)
              clear o6 g6 k6 HM HG HAP HR5 HL5
              go_wp2_with fail
              go_roundw
              case rel =>
                refine ⟨_, _, _, _, _, _, _, _, _, _, _, _, _, _, _, ?_, rfl⟩
                exact ⟨k + 1, A6, c6, gs ++ ms, by simp, by go_num, by omega, by simp; omega, HN9.out, HG6.out, HW6.out, HM6.out⟩
              case measure => simp [intOf]; omega
            · have hke : k = os.length := by omega
              have hgl2 : gs.length ≤ 39 := by omega
              have hdk : decide (k < os.length) = false := decide_eq_false (by omega)
              go_wp2_with fail
              clear hdk hke hlt hk hgl
              go_loopw [11] (fun q wi => ∃ (k : Nat) (os2 : List OV), q = .int .i64 k ∧ os2.length = os.length ∧ k ≤ os.length ∧ Row wi w.heap.size 9 1 GA gs.length gc (nmC gs) ∧ w.heap.size ≤ wi.heap.size ∧ Mo w wi B R (N + 6410 + 20 * k) A c os2) (fun q _ => os.length - (intOf q).toNat)
              case atStart => exact ⟨0, os, rfl, rfl, Nat.zero_le _, HG.out, HWS.out, HM.out.more (by omega)⟩
              case round =>
                rename World => wi
                clear HM HG HWS
                obtain ⟨k, os2, rfl, hol2, hk, hg, hws, hm⟩ := hrel
                have HM := hide hm
                have HG := hide hg
                have HWS := hide hws
                have HOL := hide hol2
                clear hm hg hws hol2
                by_cases hlt : k < os.length
                · go_wp2_with fail
                  go_loopw [12] (fun q wi => ∃ (j : Nat) (os3 : List OV), q = .int .i64 j ∧ os3.length = os.length ∧ j ≤ 13 ∧ Row wi w.heap.size 9 1 GA gs.length gc (nmC gs) ∧ w.heap.size ≤ wi.heap.size ∧ Mo w wi B R (N + 6410 + 20 * k + j) A c os3) (fun q _ => 13 - (intOf q).toNat)
                  case atStart => exact ⟨0, os2, rfl, HOL.out, Nat.zero_le _, HG.out, HWS.out, HM.out.more (by omega)⟩
                  case round =>
                    rename World => wj
                    clear HM HG HWS HOL
                    obtain ⟨j, os3, rfl, hol3, hj, hg, hws, hm⟩ := hrel
                    have HM := hide hm
                    have HG := hide hg
                    have HWS := hide hws
                    have HOL := hide hol3
                    have hlt3 : k < os3.length := by omega
                    clear hm hg hws hol3
                    obtain ⟨b, off, hA, hbb, c0, c1⟩ := HM.out.own.rd.at hlt3
                    have HSMO := hide (HM.out.sm _ (List.getElem_mem hlt3))
                    have HOO := hide (HM.out.own.2.1 _ (List.getElem_mem hlt3))
                    have hyl := HSMO.out.2.1
                    obtain ⟨l1, l2, hsp, hl1⟩ := split_at hlt3
                    generalize hoo : os3[k] = o at *
                    clear hoo
                    subst hsp
                    have hyl : o.ys.length ≤ 13 := hyl
                    have HK := hide hlt3
                    have HL1 := hide hl1
                    have hcs : (j < o.ys.length ∧ 0 < gs.length) ∨ (j < o.ys.length ∧ gs.length = 0) ∨ ¬ j < o.ys.length := by omega
                    clear hlt3 hl1
                    subst hA
                    rcases hcs with ⟨hj1, hg1⟩ | ⟨hj1, hg1⟩ | hj1
                    · obtain ⟨g, hY, hgl, hgb, d0, d1, d2, hfz⟩ := sym_at HOO.out hj1
                      have HY := hide hY
                      have HCC := hide c1
                      rw [hY] at c1
                      clear hY d0 d1 hfz hgb c0 HOO
                      generalize hz : o.ys[j] = z at *
                      have HZ := hide hz
                      clear hz
                      obtain ⟨z1, z2, z3, z4⟩ := z
                      simp only at d2
                      by_cases h3 : z3 = -1
                      · have e3 : (z3 != -1) = false := by simp [h3]
                        clear h3
                        go_wp2_with fail
                        refine (pick_tp HM.out.t (by omega) _ (by omega) (by omega)).mono ?_
                        rintro e w5 ⟨x, rfl, x0, x1, T1, g1⟩
                        obtain ⟨x, rfl⟩ := Int.eq_ofNat_of_zero_le x0
                        have hxl : x < gs.length := by omega
                        have HW5 := hide (Nat.le_trans HWS.out g1.size)
                        replace HG := hide (HG.out.grown g1 (fun k hk e => by injection e with e; have := (HG.out.lt k hk).1; omega))
                        replace HM := hide (HM.out.turn g1 hR T1)
                        clear T1 g1 c1 d2 e3 HCC hbb hgl HWS
                        obtain ⟨nb, no, hNA, hnb, hcn⟩ := HG.out.rd x (.string gs[x]) (by simp [nmC, List.getElem?_eq_getElem hxl])
                        have hn9 := HG9.out gs[x] (List.getElem_mem hxl)
                        subst hNA
                        generalize gs[x] = nm at *
                        have HN9 := hide hn9
                        clear hn9
                        go_wp2_with fail
                        clear hcn hnb hxl x0 x1
                        obtain ⟨b', off', hA', hbb, c0, c1⟩ := HM.out.own.rd.at HK.out
                        simp only [Option.some.injEq, Addr.mk.injEq, and_true] at hA'
                        obtain ⟨rfl, rfl⟩ := hA'
                        have hoe : (l1 ++ o :: l2)[k]'HK.out = o := by
                          rw [List.getElem_append_right (by have := HL1.out; omega)]
                          simp [HL1.out]
                        rw [hoe] at c0 c1
                        have HOO := hide (HM.out.own.2.1 o (by simp))
                        rw [HY.out] at c1
                        clear hoe c0
                        go_loopw [14, 15] (fun f q wi => ∃ (fb : Bool) (i : Nat), f = .bool fb ∧ q = .int .i64 i ∧ i ≤ o.ys.length ∧ w5 = wi) (fun _ q _ => o.ys.length - (intOf q).toNat)
                        case atStart => exact ⟨true, 0, rfl, rfl, Nat.zero_le _, rfl⟩
                        case round =>
                          obtain ⟨fb, i6, rfl, rfl, hi6, hw⟩ := hrel
                          subst hw
                          by_cases hl6 : i6 < o.ys.length
                          · obtain ⟨g', hY', hgl, hgb, d0, d1, d2, hfz⟩ := sym_at HOO.out hl6
                            rw [HY.out] at hY'
                            simp only [Option.some.injEq, Addr.mk.injEq, and_true] at hY'
                            subst hY'
                            clear hfz hgb d1 d2
                            generalize (o.ys[i6]).1 = sn at *
                            cases fb
                            · go_wp2_with fail
                              refine ⟨⟨false, i6 + 1, rfl, by go_num, by omega, trivial⟩, by simp [intOf]; omega⟩
                            · cases hq : (sn.toList == nm.toList)
                              · go_wp2_with fail
                                refine ⟨⟨true, i6 + 1, rfl, by go_num, by omega, trivial⟩, by simp [intOf]; omega⟩
                              · go_wp2_with fail
                                refine ⟨⟨false, i6 + 1, rfl, by go_num, by omega, trivial⟩, by simp [intOf]; omega⟩
                          · have hd6 : decide (i6 < o.ys.length) = false := decide_eq_false hl6
                            cases fb
                            · go_wp2_with fail
                              refine ⟨?_, ?_⟩
                              · first
                                  | exact ⟨j + 1, l1 ++ o :: l2, by go_num, HOL.out, by omega, HG.out, HW5.out, HM.out.more (by omega)⟩
                                  | (repeat apply Exists.intro
                                     refine ⟨?_, rfl⟩
                                     exact ⟨j + 1, l1 ++ o :: l2, by go_num, HOL.out, by omega, HG.out, HW5.out, HM.out.more (by omega)⟩)
                              · simp [intOf]
                                omega
                            · obtain ⟨g', hY', hgl, hgb, d0, d1, d2, hfz⟩ := sym_at HOO.out hj1
                              rw [HY.out] at hY'
                              simp only [Option.some.injEq, Addr.mk.injEq, and_true] at hY'
                              subst hY'
                              have hf0 := hfz (j * 4)
                              have HP := hide (HM.out.put hR HY.out (by omega) (j * 4) (.string nm) (o.ys.set j (nm, (o.ys[j]).2)) (by simp) (setSym0 o.ys j _ (List.getElem?_eq_getElem hj1) nm) (names9 HSMO.out.2.2.2 j _ (show nm.size ≤ 9 from HN9.out)))
                              have HG2 := hide (HG.out.set (a := ⟨g, j * 4, none⟩) (fun q hq e => apartT HOO.out.2 HG.out (by decide) _ hgb (by rw [hq, e])) (.string nm))
                              have HW6 := hide (show w.heap.size ≤ (w5.setCell ⟨g, j * 4, none⟩ (.string nm)).heap.size from by simpa [World.setCell] using HW5.out)
                              have HOL2 := hide (show (l1 ++ { o with ys := o.ys.set j (nm, (o.ys[j]).2) } :: l2).length = os.length from by
                                have := HOL.out
                                simpa using this)
                              clear hfz d1 d2 hgb
                              generalize (o.ys[j]).1 = on at *
                              go_wp2_with fail
                              refine ⟨?_, ?_⟩
                              · first
                                  | exact ⟨j + 1, _, by go_num, HOL2.out, by omega, HG2.out, HW6.out, HP.out.more (by omega)⟩
                                  | (repeat apply Exists.intro
                                     refine ⟨?_, rfl⟩
                                     exact ⟨j + 1, _, by go_num, HOL2.out, by omega, HG2.out, HW6.out, HP.out.more (by omega)⟩)
                              · simp [intOf]
                                omega
                      · have e3 : (z3 != -1) = true := bne_iff_ne.2 h3
                        clear h3
                        go_wp2_with fail
                        refine ⟨?_, ?_⟩
                        · first
                            | exact ⟨j + 1, l1 ++ o :: l2, by go_num, HOL.out, by omega, HG.out, HWS.out, HM.out.more (by omega)⟩
                            | (repeat apply Exists.intro
                               refine ⟨?_, rfl⟩
                               exact ⟨j + 1, l1 ++ o :: l2, by go_num, HOL.out, by omega, HG.out, HWS.out, HM.out.more (by omega)⟩)
                        · simp [intOf]
                          omega
                    · have hd1 : decide (0 < gs.length) = false := decide_eq_false (by omega)
                      go_wp2_with fail
                      refine ⟨?_, ?_⟩
                      · first
                          | exact ⟨k + 1, l1 ++ o :: l2, by go_num, HOL.out, by omega, HG.out, HWS.out, HM.out.more (by omega)⟩
                          | (repeat apply Exists.intro
                             refine ⟨?_, rfl⟩
                             exact ⟨k + 1, l1 ++ o :: l2, by go_num, HOL.out, by omega, HG.out, HWS.out, HM.out.more (by omega)⟩)
                      · simp [intOf]
                        omega
                    · have hd1 : decide (j < o.ys.length) = false := decide_eq_false hj1
                      go_wp2_with fail
                      refine ⟨?_, ?_⟩
                      · first
                          | exact ⟨k + 1, l1 ++ o :: l2, by go_num, HOL.out, by omega, HG.out, HWS.out, HM.out.more (by omega)⟩
                          | (repeat apply Exists.intro
                             refine ⟨?_, rfl⟩
                             exact ⟨k + 1, l1 ++ o :: l2, by go_num, HOL.out, by omega, HG.out, HWS.out, HM.out.more (by omega)⟩)
                      · simp [intOf]
                        omega
                · have hdk : decide (k < os.length) = false := decide_eq_false (by omega)
                  clear hlt
                  go_wp2_with fail
                  go_meet
                  exact ⟨os2, HOL.out, HWS.out, HM.out.more (by omega)⟩
        · have ex : (x == 0) = false := beq_eq_false_iff_ne.2 hx
          clear hx
          go_wp2_with fail
          go_meet
          exact ⟨os, rfl, HS3.out, HM.out.more (by omega)⟩
      case rest =>
        rename World => wc
        obtain ⟨os2, hol2, hws, hm⟩ := hcut
        clear HM HS3
        have HM := hide hm
        have HWS := hide hws
        rw [← hol2]
        have hol3 : os2.length ≤ 3 := by omega
        clear hm hws hol2 hol
        go_wp2_with fail
        refine (odd_tp HM.out.t (by omega) n hn (by omega)).mono ?_
        rintro e w5 ⟨bo, rfl, T1, g1⟩
        replace HWS := hide (Nat.le_trans HWS.out g1.size)
        replace HM := hide (HM.out.turn g1 hR T1)
        clear T1 g1
        go_upto_if 153 with (fail)
        go_cut [5] from 153 to 158 (fun s wx => ∃ (A3 : Option Addr) (c3 : Nat) (os3 : List OV), s = .slice A3 os3.length c3 ∧ os3.length ≤ 4 ∧ w.heap.size ≤ wx.heap.size ∧ Mo w wx B R (N + 10100) A3 c3 os3)
        case first =>
          cases bo
          · go_wp2_with fail
            go_meet
            exact ⟨_, _, os2, rfl, by omega, HWS.out, HM.out.more (by omega)⟩
          · go_wp2_with fail
            refine (object_any (tp_new HM.out.t) (by omega) (by omega) 1 (by omega) (by omega)).mono ?_
            rintro e w6 ⟨o, rfl, hsm, hown, hT, g1⟩
            have HOLD := hide (fun k hk => (HM.out.own.lt k hk).2)
            have HW6 := hide (Nat.le_trans HWS.out g1.size)
            replace HM := hide (HM.out.turn g1 hR (tp_tr HM.out.t hT))
            have HSO := hide hsm
            have HOW := hide hown
            have HNE := hide (fun k (hk : oblk o k) => (hown.lt k hk).1)
            clear hsm hown hT g1
            unfold OV.v
            have B5 : Below w6.heap.size w6 (w6.alloc (.cells #[.slice o.A o.ps.length o.c, .slice o.Y o.ys.length o.yc] 26)) := (by repeat (first | exact Below.refl _ _ | with_reducible assumption | (refine Below.drew ?_) | (refine Below.drewN ?_ _) | (refine Below.alloc ?_ (by simp; try omega) _) | (refine Below.setCell ?_ (by simp; try omega) _)))
            have HROW := hide (HM.out.own.1.alloc (.cells #[.slice o.A o.ps.length o.c, .slice o.Y o.ys.length o.yc] 26))
            have hww : w.heap.size ≤ (w6.alloc (.cells #[.slice o.A o.ps.length o.c, .slice o.Y o.ys.length o.yc] 26)).heap.size := by have := HW6.out; simp; omega
            have HOD := hide (HOW.out.down HWS.out)
            go_wp2_with (at_builtin; refine wpList_app _ rfl (.tmp 154) (.tmp 157) 51 rfl 26 iO (.agg #[.slice none 0 0, .slice none 0 0]) 2 48 Try.underlying51 HIO.out.1 HIO.out.2.1 HIO.out.2.2.1 HIO.out.2.2.2 rfl (by decide) w.heap.size A os2.length c (cellsOf objC os2) rfl HROW.out hww (some ⟨w6.heap.size, 0, none⟩) 1 1 (objC o) rfl (rd_lit w6 #[.slice o.A o.ps.length o.c, .slice o.Y o.ys.length o.yc] 26 _ rfl) rfl (fun h => by cases h) (one_obj o) ?n5 ?n6 ?_)
            case n5 => unfold maxLen; omega
            case n6 => omega
            intro A7 n7 c7 w7 hn7 o7 g7 k7
            have HON := hide (OwnOs.snoc (HM.out.own.call B5) (HOD.out.call B5) (fun x hx k hk => HOLD.out k (.inr ⟨x, hx, hk⟩)) (fun k hk => HNE.out k hk) hn7 o7 g7)
            have HT7 := hide ((HM.out.t.call B5).own g7 (fun k hk => by have := (HROW.out.lt k hk).1; omega))
            have HSM := hide (show ∀ x ∈ os2 ++ [o], SmallO x.d from fun x hx => by
              rcases List.mem_append.1 hx with hx | hx
              · exact HM.out.sm x hx
              · rw [List.mem_singleton.1 hx]
                exact HSO.out)
            have hgs := g7.size
            have HW7 := hide (show w.heap.size ≤ w7.heap.size from Nat.le_trans hww hgs)
            subst hn7
            clear B5 HROW o7 g7 k7 hgs hww HM HOLD HNE HOW HOD
            go_wp2_with fail
            go_meet
            exact ⟨A7, c7, os2 ++ [o], by simp, by simp; omega, HW7.out, ⟨HON.out, HSM.out, HT7.out.more (by omega)⟩⟩
        case rest =>
          rename World => wd
          obtain ⟨A3, c3, os3, rfl, hl4, hws, hm⟩ := hcut
          clear HM HWS
          have HM := hide hm
          have HWS := hide hws
          clear hm hws
          have hn2 : IntKind.i64.wrap (2 * n) = 2 * n := IntWalk.i64_in _ (by omega)
          go_wp2_with fail
          refine (odd_tp HM.out.t (by omega) (2 * n) (by omega) (by omega)).mono ?_
          rintro e w6 ⟨bo, rfl, T1, g1⟩
          replace HWS := hide (Nat.le_trans HWS.out g1.size)
          replace HM := hide (HM.out.turn g1 hR T1)
          clear T1 g1 hn2
          cases bo
          · have HF := hide (show DrewOs w0 w B R (N + 20000) (.returned (.slice A3 os3.length c3)) w6 from ⟨A3, c3, os3, rfl, by omega, HM.out.sm, HM.out.own, (tp_tr HT0.out HM.out.t).more (by omega), HM.out.t.2⟩)
            go_wp2_with fail
            go_ret
            exact HF.out
          · go_wp2_with (at_make; refine wpList_make_full _ rfl _ _ _ rfl w.heap.size 26 iO (.agg #[.slice none 0 0, .slice none 0 0]) 2 Try.underlying51 HIO.out.1 HIO.out.2.1 HIO.out.2.2.1 .i64 .i64 _ _ 5 rfl rfl rfl rfl ?c1 ?c2 ?c3 ?_)
            case c1 => rw [HIO.out.2.2.2]; omega
            case c2 => unfold maxLen; omega
            case c3 => exact HWS.out
            intro w7 hto g8
            have B3 : Below w6.heap.size w6 w7 := (Below.refl _ _).grown g8 (Nat.le_refl _) (by intro k h; cases h)
            have HT7 := hide (HM.out.t.call B3)
            have HF := hide (show DrewOs w0 w B R (N + 20000) (.returned (.slice (some ⟨w6.heap.size, 0, none⟩) 5 5)) w7 from ⟨_, 5, List.replicate 5 zeroO, rfl, by simp, (fun x hx => by rw [List.eq_of_mem_replicate hx]; exact ⟨by simp [OV.d, zeroO], by simp [OV.d, zeroO], (fun s hs => by cases hs), (fun y hy => by cases hy)⟩),
              ⟨Row.own (by rw [← made5]; exact hto), (fun x hx => by rw [List.eq_of_mem_replicate hx]; exact ⟨⟨Row.empty _ _ _ _ _, (fun p hp => by cases hp), List.Pairwise.nil⟩, Row.empty _ _ _ _ _⟩), zero_apart⟩, (tp_tr HT0.out HT7.out).more (by omega), HT7.out.2⟩)
            clear hto g8 B3
            go_wp2_with fail
            go_ret
            exact HF.out
end Go.Proofs.Ytmglgjchemecjaa.DObjL
/- The draw of a base; the draw of objects and a base. -/
namespace Go.Proofs.Ytmglgjchemecjaa.DBase
set_option maxRecDepth 200000
open Go.ChangeShapes Go.WideShapes Go.ChangeAt Go.RowKit Kit CFixups CSymbols PObj BObj PValid BStore BList CSecValid CMarkRows CCopyS DPick DVar DName DBytes DSection BObj2 CEqual DObject CObjL DDrawB DObjH DObjL
def DrewB (w0 : World) (B R : Nat) (N : Int) (e : Ending) (w' : World) : Prop := ∃ x : Int, e = .returned (.int .i64 x) ∧ -8 ≤ x ∧ x ≤ 4104 ∧ Tp w0 w' B R N
set_option maxHeartbeats 2000000 in
theorem base_any {w0 w : World} {B R : Nat} {N : Int} (T0 : Tp w0 w B R N) (hN : N ≤ 100000) (hN0 : 0 ≤ N) (n : Int) (hn : 0 ≤ n) (hn' : n ≤ 1000) :
    Calls Try.prog 153 #[.pointer (some ⟨R, 0, none⟩), .int .i64 n] w (DrewB w0 B R (N + 4)) := by
  have HT := hide T0
  clear T0
  go_enter Try.func153, Try.ntmps153
  go_wp2_with fail
  refine (odd_tp HT.out (by omega) n hn (by omega)).mono ?_
  rintro e w1 ⟨bo, rfl, T1, g1⟩
  replace HT := hide T1
  clear T1 g1
  have hR := HT.out.lt
  cases bo
  · go_wp2_with fail
    refine (pick_tp HT.out (by omega) 16 (by omega) (by omega)).mono ?_
    rintro e w2 ⟨x, rfl, x0, x1, T2, g2⟩
    have hw : IntKind.i64.wrap (8 * x) = 8 * x := IntWalk.i64_in _ (by omega)
    have hR2 : R < w2.heap.size := T2.lt
    have HT2 := hide ((T2.alloc (.cells #[.int .i64 0, .int .i64 (8 * x), .int .i64 4096] 3)).alloc (.cells #[.int .i64 0, .int .i64 1, .int .i64 1, .int .i64 1, .int .i64 2] 3))
    have HL1 := hide ((Box.new w2 3 #[.int .i64 0, .int .i64 (8 * x), .int .i64 4096]).alloc (.cells #[.int .i64 0, .int .i64 1, .int .i64 1, .int .i64 1, .int .i64 2] 3))
    have HL20 := Box.new (w2.alloc (.cells #[.int .i64 0, .int .i64 (8 * x), .int .i64 4096] 3)) 3 #[.int .i64 0, .int .i64 1, .int .i64 1, .int .i64 1, .int .i64 2]
    rw [World.size_alloc] at HL20
    have HL2 := hide HL20
    clear T2 g2 HL20 HT
    go_wp2_with fail
    generalize (w2.alloc (.cells #[.int .i64 0, .int .i64 (8 * x), .int .i64 4096] 3)).alloc (.cells #[.int .i64 0, .int .i64 1, .int .i64 1, .int .i64 1, .int .i64 2] 3) = w3 at *
    generalize hY : w2.heap.size = Y at *
    have HY := hide hY
    clear hY hw
    refine (pick_tp HT2.out (by omega) 5 (by omega) (by omega)).mono ?_
    rintro e w4 ⟨y, rfl, y0, y1, T4, g4⟩
    have HT4 := hide T4
    have HA := hide (HL1.out.grown g4 (by intro k hk; injection hk with hk; omega))
    have HB := hide (HL2.out.grown g4 (by intro k hk; injection hk with hk; omega))
    clear T4 g4 HL1 HL2 HT2
    have a0 := HA.out.cell 0
    have a1 := HA.out.cell 1
    have a2 := HA.out.cell 2
    have b0 := HB.out.cell 0
    have b1 := HB.out.cell 1
    have b2 := HB.out.cell 2
    have b3 := HB.out.cell 3
    have b4 := HB.out.cell 4
    simp only [List.getElem?_toArray, List.getElem?_cons_zero, List.getElem?_cons_succ] at a0 a1 a2 b0 b1 b2 b3 b4
    have hal := HA.out.lt
    have hbl := HB.out.lt
    have hy : y = 0 ∨ y = 1 ∨ y = 2 ∨ y = 3 ∨ y = 4 := by omega
    rcases hy with rfl | rfl | rfl | rfl | rfl
    · go_wp2_with fail
      go_ret
      exact ⟨_, rfl, by omega, by omega, HT4.out.more (by omega)⟩
    · go_wp2_with fail
      go_ret
      exact ⟨_, rfl, by omega, by omega, HT4.out.more (by omega)⟩
    · go_wp2_with fail
      go_ret
      exact ⟨_, rfl, by omega, by omega, HT4.out.more (by omega)⟩
    · go_wp2_with fail
      go_ret
      exact ⟨_, rfl, by omega, by omega, HT4.out.more (by omega)⟩
    · go_wp2_with fail
      go_ret
      exact ⟨_, rfl, by omega, by omega, HT4.out.more (by omega)⟩
  · have HL := hide (Box.new w1 3 #[.int .i64 (-8), .int .i64 4, .int .i64 4104])
    have HT2 := hide (HT.out.alloc (.cells #[.int .i64 (-8), .int .i64 4, .int .i64 4104] 3))
    go_wp2_with fail
    generalize w1.alloc (.cells #[.int .i64 (-8), .int .i64 4, .int .i64 4104] 3) = w3 at *
    generalize hY : w1.heap.size = Y at *
    have HY := hide hY
    clear hY HT
    refine (pick_tp HT2.out (by omega) 3 (by omega) (by omega)).mono ?_
    rintro e w4 ⟨y, rfl, y0, y1, T4, g4⟩
    have HT4 := hide T4
    have HA := hide (HL.out.grown g4 (by intro k hk; injection hk with hk; omega))
    clear T4 g4 HL HT2
    have a0 := HA.out.cell 0
    have a1 := HA.out.cell 1
    have a2 := HA.out.cell 2
    simp only [List.getElem?_toArray, List.getElem?_cons_zero, List.getElem?_cons_succ] at a0 a1 a2
    have hal := HA.out.lt
    have hy : y = 0 ∨ y = 1 ∨ y = 2 := by omega
    rcases hy with rfl | rfl | rfl
    · go_wp2_with fail
      go_ret
      exact ⟨_, rfl, by omega, by omega, HT4.out.more (by omega)⟩
    · go_wp2_with fail
      go_ret
      exact ⟨_, rfl, by omega, by omega, HT4.out.more (by omega)⟩
    · go_wp2_with fail
      go_ret
      exact ⟨_, rfl, by omega, by omega, HT4.out.more (by omega)⟩
def DrewLB (w : World) (e : Ending) (w' : World) : Prop := ∃ (A : Option Addr) (c : Nat) (os : List OV) (b : Int), e = .returned (.tuple #[.slice A os.length c, .int .i64 b]) ∧ os.length ≤ 8 ∧ (∀ o ∈ os, SmallO o.d) ∧ OwnOs w' w.heap.size A c os ∧ -8 ≤ b ∧ b ≤ 4104 ∧ Below w.heap.size w w'
set_option maxHeartbeats 2000000 in
theorem draw_DrawPlaceSections {A : Option Addr} {zs : List Int} {c : Nat} {w : World} (hr : Rd w w.heap.size A (ints .u8 zs)) (hz : InR 0 255 zs) (hc : zs.length ≤ c) (hcm : c ≤ maxLen) :
    Calls Try.prog 91 #[.slice A zs.length c] w (DrewLB w) := by
  have HO := hide (open_any A zs c w hr hz hc hcm)
  clear hr hz hc hcm
  go_enter Try.func91, Try.ntmps91
  go_wp2_with fail
  refine HO.out.mono ?_
  rintro e w1 ⟨R, rfl, T, b1⟩
  have HB := hide b1
  have HT := hide (Tp.start T)
  have hRl := T.1
  clear HO T b1
  go_wp2_with fail
  refine (objects_any HT.out (by omega) (by omega) 9 (by omega) (by omega)).mono ?_
  rintro e w2 ⟨A2, c2, os, rfl, hl, hs, hown, T2, g2⟩
  have HS := hide hs
  have HOW := hide hown
  have hw2 := g2.size
  have HWL := hide HB.out.size
  have HB2 := hide (HB.out.trans (T2.below HB.out.size hRl))
  have HT2 := hide (tp_new T2)
  have hRw := HT.out.lt
  clear hs hown T2 g2 HT HB
  go_wp2_with fail
  refine (base_any HT2.out (by omega) (by omega) 9 (by omega) (by omega)).mono ?_
  rintro e w3 ⟨x, rfl, hx0, hx1, T3⟩
  have HOW3 := hide (show OwnOs w3 w1.heap.size A2 c2 os from HOW.out.keep fun k hk => T3.2.block k (HOW.out.lt k hk).2 (fun e => by injection e with e; have := (HOW.out.lt k hk).1; omega))
  have HB3 := hide (HB2.out.trans (T3.below HB2.out.size hRl))
  clear T3 HOW HT2 HB2
  go_wp2_with fail
  go_ret2
  exact ⟨A2, c2, os, x, rfl, hl, HS.out, HOW3.out.down HWL.out, hx0, hx1, HB3.out⟩
set_option maxHeartbeats 2000000 in
theorem draw_DrawLandmarksOf {A : Option Addr} {zs : List Int} {c : Nat} {w : World} (hr : Rd w w.heap.size A (ints .u8 zs)) (hz : InR 0 255 zs) (hc : zs.length ≤ c) (hcm : c ≤ maxLen) :
    Calls Try.prog 36 #[.slice A zs.length c] w (DrewLB w) := by
  have HO := hide (draw_DrawPlaceSections hr hz hc hcm)
  clear hr hz hc hcm
  go_enter Try.func36, Try.ntmps36
  go_wp2_with fail
  refine HO.out.mono ?_
  rintro e w1 ⟨A2, c2, os, b, rfl, hl, hs, hown, h0, h1, hb⟩
  have HF := hide (And.intro hs (And.intro hown hb))
  clear hs hown hb HO
  go_wp2_with fail
  go_ret2
  exact ⟨A2, c2, os, b, rfl, hl, HF.out.1, HF.out.2.1, h0, h1, HF.out.2.2⟩
end Go.Proofs.Ytmglgjchemecjaa.DBase
/- The laws' question whether the program is there at all: it answers true. -/
namespace Go.Proofs.Ytmglgjchemecjaa.CAlive
set_option maxRecDepth 200000
open Go.ChangeShapes Go.WideShapes Go.ChangeAt Go.RowKit Kit CCode
theorem isAlign4 (w : World) : Calls Try.prog 114 #[.int .i64 4] w (Pure (.bool true) w) := by
  go_enter Try.func114, Try.ntmps114
  go_wp2
  go_ret
  exact ⟨rfl, rfl⟩
theorem aligned54 (w : World) : Calls Try.prog 116 #[.int .i64 5, .int .i64 4] w (Pure (.int .i64 8) w) := by
  go_enter Try.func116, Try.ntmps116
  go_wp2
  go_ret
  exact ⟨rfl, rfl⟩
theorem alignUp54 (w : World) : Calls Try.prog 52 #[.int .i64 5, .int .i64 4] w (Pure (.int .i64 8) w) := by
  have hb : inB 5 0 1000000 = true := by decide
  go_enter Try.func52, Try.ntmps52
  go_wp2_with (first | (go_at_call 114; refine (isAlign4 _).mono ?_; rintro e w' ⟨rfl, rfl⟩) | (go_at_call 116; refine (aligned54 _).mono ?_; rintro e w' ⟨rfl, rfl⟩) | (first | (go_at_call 115; refine (within_any _ _ _ _).mono ?_; rintro e w' ⟨rfl, rfl⟩) | (go_at_call 110; refine (l1In_any _ _ _ _).mono ?_; rintro e w' ⟨rfl, rfl⟩) | fail))
  go_ret
  exact ⟨rfl, rfl⟩
theorem alive_any (w : World) : Calls Try.prog 15 #[] w (Pure (.bool true) w) := by
  go_enter Try.func15, Try.ntmps15
  go_wp2_with (go_at_call 52; refine (alignUp54 _).mono ?_; rintro e w' ⟨rfl, rfl⟩)
  go_ret
  exact ⟨rfl, rfl⟩
end Go.Proofs.Ytmglgjchemecjaa.CAlive
/- The walk of FnLandmarksOf. -/
namespace Go.Proofs.Ytmglgjchemecjaa.WFnLandmarksOf
set_option maxRecDepth 200000
open Go.ChangeShapes Go.WideShapes Go.ChangeAt Go.RowKit Kit CCode CFixups CSymbols PObj BObj PValid CObjValid CMarkRows BList CObjL CObjL2 CPlaceS PLmk CLandmarks CLmkS CLmkI CSorted CNPlS CNPlI PLmk3 DObject DDrawB DObjH DObjL DBase WObj
theorem lst_small {w : World} {base c : Nat} {A : Option Addr} {os : List OV} (hl : os.length ≤ 8) (hs : ∀ o ∈ os, SmallO o.d) (ho : OwnOs w base A c os) : Lst os := by
  have hf : ∀ q ∈ os, Fit q := fun q hq => (bnd_fit (bnd_small (hs q hq)) (ho.2.1 q hq)).1
  exact ⟨by omega, hf, fun q hq => cp_copy rfl (hf q hq) (ho.2.1 q hq)⟩
def NextOk (ls : List LD) : Prop := ∀ (k : Nat) (h : k + 1 < ls.length) (h0 : k < ls.length), ¬ (ls[k + 1]'h).2 < (ls[k]'h0).2
theorem lnext {ls : List LD} (h : NextOk ls) {j : Nat} (hj : j + 1 < ls.length) : ¬ (ls[j + 1]'hj).2 < (ls[j]'(by omega)).2 := h j hj (by omega)
set_option maxHeartbeats 4000000 in
theorem walk (A : Option Addr) (zs : List Int) (c : Nat) (hl : zs.length ≤ c) (hc : c ≤ maxLen) (hz : InR 0 255 zs) (w : World) (hr : Rd w w.heap.size A (ints .u8 zs)) :
    Calls Try.prog 9 #[.slice A zs.length c] w (LawEnds w) := by
  have hcm := hc
  unfold maxLen at hcm
  have HD := hide (draw_DrawLandmarksOf hr hz hl hc)
  clear hr hz hc
  by_cases hbig : 1048576 < zs.length
  · go_enter Try.func9, Try.ntmps9
    go_wp2_with fail
    go_ret
    exact ⟨rfl, Below.refl _ _⟩
  go_enter Try.func9, Try.ntmps9
  go_wp2_with fail
  refine HD.out.mono ?_
  rintro e w1 ⟨A1, c1, os, base, rfl, hol, hs, hown, hb0, hb1, b1⟩
  have HO := hide hown
  have HB := hide b1
  have HL := hide (lst_small hol hs hown)
  clear hs hown b1 HD hbig hcm hl
  go_wp2_with fail
  refine (landmarksOf_any A1 os c1 base w1 HO.out.rd HL.out).mono ?_
  rintro e w2 ⟨AX, cx, rfl, rx, b2⟩
  have HX := hide rx
  have hxl := (PLmk2.lmk_len base (l := os.map OV.d) (fun d _ ho => (PClear.obj_all ho).2.1))
  have HMEM := hide (fun x (hx : x ∈ lmkS (os.map OV.d) base) => lmk_mem hx)
  have HNXT := hide (show NextOk (lmkS (os.map OV.d) base) from fun k (h : k + 1 < (lmkS (os.map OV.d) base).length) (h0 : k < (lmkS (os.map OV.d) base).length) => lmk_next h h0)
  have HSP := hide (landmarksOfS_any A1 os c1 base)
  replace HB := hide (HB.out.trans (b2.mono HB.out.size))
  replace HO := hide (HO.out.call b2)
  clear b2
  clear rx
  generalize lmkS (os.map OV.d) base = ls at *
  go_wp2_with fail
  refine (HSP.out w2 HO.out.rd HL.out).mono ?_
  rintro e w3 ⟨AY, cy, rfl, ry, b3⟩
  have HY := hide ry
  replace HB := hide (HB.out.trans (b3.mono HB.out.size))
  replace HO := hide (HO.out.call b3)
  replace HX := hide (HX.out.call b3)
  clear b3
  clear ry HSP
  go_wp2_with fail
  go_loopw [7] (fun q wi => ∃ k : Nat, k ≤ ls.length ∧ q = .int .i64 k ∧ Below w3.heap.size w3 wi) (fun q _ => ls.length - (intOf q).toNat)
  case atStart => exact ⟨0, Nat.zero_le _, rfl, Below.refl _ _⟩
  case round =>
    rename World => wk
    obtain ⟨k, hk, rfl, hbk⟩ := hrel
    have HBK := hide hbk
    clear hbk
    by_cases hlt : k < ls.length
    · obtain ⟨xb, xo, hXA, hxb, hxc⟩ := (HX.out.rd.below HBK.out).row landmarkC_len (by decide) hlt
      obtain ⟨yb, yo, hYA, hyb, hyc⟩ := (HY.out.rd.below HBK.out).row landmarkC_len (by decide) hlt
      have x0 := hxc 0 _ rfl
      have x1 := hxc 1 _ rfl
      have y0 := hyc 0 _ rfl
      have y1 := hyc 1 _ rfl
      simp only [Nat.add_zero] at x0 y0
      have HM := hide (HMEM.out _ (List.getElem_mem hlt))
      have hprev : ∀ (j : Nat), k = j + 1 → ∃ p : LD, wk.cell? ⟨xb, xo + j * 2 + 1, none⟩ = some (.int .i64 p.2) ∧ ¬ (ls[k]).2 < p.2 := by
        intro j hj
        subst hj
        obtain ⟨b', o', hA', _, hc'⟩ := (HX.out.rd.below HBK.out).row landmarkC_len (by decide) (show j < ls.length by omega)
        rw [hXA] at hA'
        simp only [Option.some.injEq, Addr.mk.injEq, and_true] at hA'
        obtain ⟨rfl, rfl⟩ := hA'
        exact ⟨ls[j], hc' 1 _ rfl, Int.not_lt.2 (Int.not_lt.1 (lnext HNXT.out hlt))⟩
      have HP := hide hprev
      have HOW := hide (HO.out.rd.below HBK.out |>.more HBK.out.size)
      have hxw : xb < wk.heap.size := Nat.lt_of_lt_of_le hxb HBK.out.size
      have hyw : yb < wk.heap.size := Nat.lt_of_lt_of_le hyb HBK.out.size
      clear hxc hyc hprev
      subst hXA hYA
      generalize ls[k] = z at *
      obtain ⟨zn, zp⟩ := z
      simp only at x0 x1 y0 y1 HM HP
      have B4 : Below wk.heap.size wk (wk.alloc (.cells #[.string zn] 9)) := (by repeat (first | exact Below.refl _ _ | with_reducible assumption | (refine Below.drew ?_) | (refine Below.drewN ?_ _) | (refine Below.alloc ?_ (by simp; try omega) _) | (refine Below.setCell ?_ (by simp; try omega) _)))
      have HS4 := hide (show Rd (wk.alloc (.cells #[.string zn] 9)) (wk.alloc (.cells #[.string zn] 9)).heap.size (some ⟨wk.heap.size, 0, none⟩) (nmC [zn]) from by
        have h := rd_lit wk #[.string zn] 9 _ rfl
        rw [World.size_alloc]
        exact h)
      have HOW4 := hide ((HOW.out.below B4).more B4.size)
      go_wp2_with fail
      refine (namePlacesI_any A1 os c1 base (some ⟨wk.heap.size, 0, none⟩) [zn] 1 _ HOW4.out HL.out HS4.out (by simp)).mono ?_
      rintro e w5 ⟨A5, c5, zs5, rfl, hcase, hrow5, b5⟩
      have hz5 : plcs (os.map OV.d) base [zn] = some [zp] := HM.out
      have hz : zs5 = [zp] := by
        rcases hcase with h | ⟨h, _⟩
        · rw [hz5] at h
          exact (Option.some.inj h).symm
        · rw [hz5] at h
          cases h
      subst hz
      rw [hz5]
      obtain ⟨pb, po, hpA, hpb, hpc⟩ := hrow5.rd 0 (.int .i64 zp) rfl
      have b4 := B4.trans (b5.mono B4.size)
      have x0' := (b4.cell (p := ⟨xb, xo + k * 2, none⟩) hxw).trans x0
      have x1' := (b4.cell (p := ⟨xb, xo + k * 2 + 1, none⟩) hxw).trans x1
      have y0' := (b4.cell (p := ⟨yb, yo + k * 2, none⟩) hyw).trans y0
      have y1' := (b4.cell (p := ⟨yb, yo + k * 2 + 1, none⟩) hyw).trans y1
      have HB4 := hide b4
      have HBK5 := hide (HBK.out.trans (b4.mono HBK.out.size))
      subst hpA
      have HPP := hide (fun (q : LD) j (h : wk.cell? ⟨xb, xo + j * 2 + 1, none⟩ = some (.int .i64 q.2)) => (b4.cell (p := ⟨xb, xo + j * 2 + 1, none⟩) hxw).trans h)
      simp only [Nat.add_zero] at hpc
      clear x0 x1 y0 y1 hcase hrow5 b5 b4 hz5 B4 HS4 HOW HOW4 HBK hxb hyb
      go_wp2_with fail
      by_cases hk0 : k = 0
      · subst hk0
        have hd0 : decide ((0 : Int) < ((0 : Nat) : Int)) = false := by decide
        simp only [Nat.zero_mul, Nat.add_zero] at x0' x1' y0' y1'
        go_quiet (fail)
        have HF := hide (Kit.Below.drewN HBK5.out nq)
        clear x0' x1' y0' y1' hpc
        go_wp2_with fail
        refine ⟨⟨0 + 1, by omega, by go_num, HF.out⟩, by simp [intOf]; omega⟩
      · obtain ⟨j, rfl⟩ : ∃ j, k = j + 1 := ⟨k - 1, by omega⟩
        obtain ⟨q, hq, hlq⟩ := HP.out j rfl
        have hq' := HPP.out q j hq
        have hd0 : decide ((0 : Int) < ((j + 1 : Nat) : Int)) = true := decide_eq_true (by omega)
        have hd1 : decide (zp < q.2) = false := decide_eq_false (by omega)
        have hj1 : ((j + 1 : Nat) : Int) - 1 = j := by omega
        have hj2 : (((j + 1 : Nat) : Int) - 1).toNat = j := by omega
        have hj3 : j < ls.length := by omega
        generalize q.2 = qp at *
        clear hq hlq
        go_quiet (fail)
        have HF := hide (Kit.Below.drewN HBK5.out nq)
        clear x0' x1' y0' y1' hpc hd0 hd1 hj1 hj2 hj3 hq'
        go_wp2_with fail
        refine ⟨⟨j + 1 + 1, by omega, by go_num, HF.out⟩, by simp [intOf]; omega⟩
    · go_wp2_with fail
      refine (CAlive.alive_any wk).mono ?_
      rintro e w' ⟨rfl, rfl⟩
      have HF := hide (HB.out.trans (HBK.out.mono HB.out.size))
      go_wp2_with fail
      go_ret
      exact ⟨rfl, HF.out⟩
end Go.Proofs.Ytmglgjchemecjaa.WFnLandmarksOf
