/- Contracts of PutCode and GetCode, the program's and the reference's. -/
import Derived.Test.YtmglgjchemecjaaFnClearFixupsM8
import Derived.Test.YtmglgjchemecjaaRows
import Derived.Deep.RegionHeld3
import Derived.Deep.RegionLaw
import Derived.Deep.RegionLawGrows
import Derived.IntWalk
import Derived.WalkSpells
import Derived.Deep.QuietTactic
import Derived.BigQuiet
import Derived.StillTailTactics
set_option linter.unusedSimpArgs false
set_option linter.unusedVariables false
namespace Go.Proofs.Ytmglgjchemecjaa.CPutCode
set_option maxRecDepth 200000
open Go.ChangeShapes Go.WideShapes Go.ChangeAt Go.RowKit Kit CCode CNumber
def pcode (a b : Int) : List Int := if codeOk a b then a :: (if hasArgB a then putL 2 b else []) else []
/-- The instruction that stands at a place, and the place behind it. -/
def gcode (zs : List Int) (at_ : Int) : Int × Int × Int :=
  if inB at_ 0 (zs.length - 1) then
    (if hasArgB (zs.getD at_.toNat 0) then
      (if codeOk (zs.getD at_.toNat 0) (gnum zs (at_ + 1) 2) then (zs.getD at_.toNat 0, gnum zs (at_ + 1) 2, at_ + 3) else (0, 0, -1))
    else (if codeOk (zs.getD at_.toNat 0) 0 then (zs.getD at_.toNat 0, 0, at_ + 1) else (0, 0, -1)))
  else (0, 0, -1)
def gval (r : Int × Int × Int) : Value := .tuple #[.agg #[.int .i64 r.1, .int .i64 r.2.1], .int .i64 r.2.2]
end Go.Proofs.Ytmglgjchemecjaa.CPutCode
/- What comes in: rows of cells that read as the laws' structs. -/
namespace Go.Proofs.Ytmglgjchemecjaa.In
set_option maxRecDepth 200000
open Go.ChangeShapes Go.WideShapes Go.ChangeAt Go.RowKit Kit
def I64 (x : Int) : Prop := -9223372036854775808 ≤ x ∧ x ≤ 9223372036854775807
def okRow (z : Int × Int) : Prop := I64 z.1 ∧ I64 z.2
def okFrame (z : Int × Int × Int) : Prop := I64 z.1 ∧ I64 z.2.1 ∧ I64 z.2.2
def okLandmark (z : ByteArray × Int) : Prop := z.1.size ≤ maxLen ∧ I64 z.2
end Go.Proofs.Ytmglgjchemecjaa.In
/- Contracts of the laws' helpers on Machine: the copy, the comparison of equal data, the size. -/
namespace Go.Proofs.Ytmglgjchemecjaa.CMachines
set_option maxRecDepth 200000
open Go.ChangeShapes Go.WideShapes Go.ChangeAt Go.RowKit Kit CInts
/-- Two own rows, the second one made after the first. -/
def Two (w : World) (base : Nat) (S : Option Addr) (n cs : Nat) (xs : List Value) (C : Option Addr) (m cc : Nat) (ys : List Value) : Prop :=
  ∃ b, w.ownsRow base 3 1 (.slice S n cs) n xs ∧ w.ownsRow b 3 1 (.slice C m cc) m ys ∧ base ≤ b ∧ (∀ k, (Value.slice S n cs).ownBlock = some k → k < b)
def szI (left n : Int) : Int := if left - n < 0 then -1 else left - n
end Go.Proofs.Ytmglgjchemecjaa.CMachines
/- Contracts of slices.Clone at []int and of the copy of a machine, the program's and the reference's. -/
namespace Go.Proofs.Ytmglgjchemecjaa.CStep
set_option maxRecDepth 200000
open Go.ChangeShapes Go.WideShapes Go.ChangeAt Go.RowKit Kit CCode CMachine CMachines CInts CPutCode
/-- Two own rows that share nothing. -/
def Own2 (w : World) (base : Nat) (S : Option Addr) (cs : Nat) (st : List Int) (C : Option Addr) (cc : Nat) (ca : List Int) : Prop :=
  w.ownsRow base 3 1 (.slice S st.length cs) st.length (ints .i64 st) ∧ w.ownsRow base 3 1 (.slice C ca.length cc) ca.length (ints .i64 ca) ∧ ∀ k, (Value.slice S st.length cs).ownBlock = some k → (Value.slice C ca.length cc).ownBlock ≠ some k
section
variable {w w' : World} {base : Nat} {S C : Option Addr} {cs cc : Nat} {st ca : List Int}
theorem Own2.of_two (h : Two w base S st.length cs (ints .i64 st) C ca.length cc (ints .i64 ca)) : Own2 w base S cs st C cc ca := by
  obtain ⟨b, h1, h2, h3, h4⟩ := h
  refine ⟨h1, own_base h2 h3, fun k hk hc => ?_⟩
  have e1 := h4 k hk
  have e2 := (h2.lt k hc).1
  omega
theorem Own2.call (h : Own2 w base S cs st C cc ca) (hb : Below w.heap.size w w') : Own2 w' base S cs st C cc ca := ⟨own_call hb h.1, own_call hb h.2.1, h.2.2⟩
theorem Own2.down (h : Own2 w base S cs st C cc ca) {b : Nat} (hb : b ≤ base) : Own2 w b S cs st C cc ca := ⟨own_base h.1 hb, own_base h.2.1 hb, h.2.2⟩
theorem Own2.rd (h : Own2 w base S cs st C cc ca) : Rd w w.heap.size S (ints .i64 st) ∧ Rd w w.heap.size C (ints .i64 ca) := ⟨Rd.of_own h.1, Rd.of_own h.2.1⟩
theorem Own2.nil (w : World) (base : Nat) : Own2 w base none 0 [] none 0 [] := ⟨World.ownsRow_nil _ _ _ _, World.ownsRow_nil _ _ _ _, fun k hk => by cases hk⟩
end
/-- What a copy hands back. -/
def Copied (at_ : Int) (st ca : List Int) (w : World) (e : Ending) (w' : World) : Prop := ∃ S C cs cc, e = .returned (.agg #[.int .i64 at_, .slice S st.length cs, .slice C ca.length cc]) ∧ Own2 w' w.heap.size S cs st C cc ca ∧ Below w.heap.size w w'
theorem three {w w' : World} {a : Nat} {u0 u1 u2 : Value} (hb : Below w.heap.size w w') (ha : a < w.heap.size) (h : w.cell? ⟨a, 0, none⟩ = some u0 ∧ w.cell? ⟨a, 1, none⟩ = some u1 ∧ w.cell? ⟨a, 2, none⟩ = some u2) :
    w'.cell? ⟨a, 0, none⟩ = some u0 ∧ w'.cell? ⟨a, 1, none⟩ = some u1 ∧ w'.cell? ⟨a, 2, none⟩ = some u2 :=
  ⟨(hb.cell ha).trans h.1, (hb.cell ha).trans h.2.1, (hb.cell ha).trans h.2.2⟩
theorem put_far {w : World} {X Y : Nat} {u0 u1 u2 : Value} (hne : X ≠ Y) (a b c : Value) (h : w.cell? ⟨X, 0, none⟩ = some u0 ∧ w.cell? ⟨X, 1, none⟩ = some u1 ∧ w.cell? ⟨X, 2, none⟩ = some u2) :
    (((w.setCell ⟨Y, 0, none⟩ a).setCell ⟨Y, 1, none⟩ b).setCell ⟨Y, 2, none⟩ c).cell? ⟨X, 0, none⟩ = some u0 ∧ (((w.setCell ⟨Y, 0, none⟩ a).setCell ⟨Y, 1, none⟩ b).setCell ⟨Y, 2, none⟩ c).cell? ⟨X, 1, none⟩ = some u1 ∧ (((w.setCell ⟨Y, 0, none⟩ a).setCell ⟨Y, 1, none⟩ b).setCell ⟨Y, 2, none⟩ c).cell? ⟨X, 2, none⟩ = some u2 := by
  have k : ∀ o, (((w.setCell ⟨Y, 0, none⟩ a).setCell ⟨Y, 1, none⟩ b).setCell ⟨Y, 2, none⟩ c).cell? ⟨X, o, none⟩ = w.cell? ⟨X, o, none⟩ := fun o =>
    World.cell?_of_block ((Below.heap_setCell _ ⟨Y, 2, none⟩ c X hne).trans ((Below.heap_setCell _ ⟨Y, 1, none⟩ b X hne).trans (Below.heap_setCell _ ⟨Y, 0, none⟩ a X hne)))
  rw [k, k, k]
  exact h
/-- Two rows that share nothing. -/
def Rows2 (w : World) (base : Nat) (S : Option Addr) (cs : Nat) (st : List Int) (C : Option Addr) (cc : Nat) (ca : List Int) : Prop :=
  Row w base 3 1 S st.length cs (ints .i64 st) ∧ Row w base 3 1 C ca.length cc (ints .i64 ca) ∧ Apart S cs C cc
def Copied2 (at_ : Int) (st ca : List Int) (w : World) (e : Ending) (w' : World) : Prop := ∃ S C cs cc, e = .returned (.agg #[.int .i64 at_, .slice S st.length cs, .slice C ca.length cc]) ∧ Rows2 w' w.heap.size S cs st C cc ca ∧ Below w.heap.size w w'
end Go.Proofs.Ytmglgjchemecjaa.CStep
/- Contracts of the marks that the laws lay into rows of ints and into machines. -/
namespace Go.Proofs.Ytmglgjchemecjaa.CMark
set_option maxRecDepth 200000
open Go.ChangeShapes Go.WideShapes Go.ChangeAt Go.RowKit Kit CMachines CInts CStep
/-- The blocks of a machine's rows. -/
def mblk (S : Option Addr) (cs : Nat) (C : Option Addr) (cc : Nat) (k : Nat) : Prop := blk S cs = some k ∨ blk C cc = some k
end Go.Proofs.Ytmglgjchemecjaa.CMark
/- Link: the image of objects. -/
namespace Go.Proofs.Ytmglgjchemecjaa.CLink
set_option maxRecDepth 200000
open Go.ChangeShapes Go.WideShapes Go.ChangeAt Go.RowKit Kit CCode CName CNumber CFixups CSymbols PObj BObj PValid PWarn PClear CSecValid CObjValid BStore CMarkRows BList PLink PLinkL PLayB CValids CFind CSorted CNames CMiss CLayout CPlaceL CSymPl CApFix BCopy
/-- The place behind all sections. -/
theorem end_any (PA : Option Addr) (pn pc : Nat) (EA : Option Addr) (es : List RV) (ec : Nat) (x z : Int) (w : World) (hE : RdRs w w.heap.size EA es) (hl : es.length = 3) (hz : (es.map RV.zs).getD 2 [] = [x, z]) :
    Calls Try.prog 79 #[.agg #[.slice PA pn pc, .slice EA es.length ec]] w (Ret (.int .i64 z) w) := by
  rw [hl]
  have HB := hide (show Below w.heap.size w (w.alloc (.cells #[.slice PA pn pc, .slice EA 3 ec] 101)) from (by repeat (first | exact Below.refl _ _ | with_reducible assumption | (refine Below.drew ?_) | (refine Below.drewN ?_ _) | (refine Below.alloc ?_ (by simp; try omega) _) | (refine Below.setCell ?_ (by simp; try omega) _))))
  have HX := hide (Box.new w 101 #[.slice PA pn pc, .slice EA 3 ec])
  have h2 : 2 < es.length := by omega
  have hzs : (es[2]).zs = [x, z] := by
    rw [List.getD_eq_getElem?_getD, List.getElem?_map, List.getElem?_eq_getElem h2] at hz
    exact hz
  obtain ⟨b1, o1, rfl, hb1, hrow⟩ := (hE.below HB.out).at h2
  obtain ⟨b2, o2, hA, hb2, hcell⟩ := ((hE.below HB.out).2 _ (List.getElem_mem h2)).int (i := 1) (by rw [hzs]; simp)
  rw [hA] at hrow
  simp only [hzs, List.length_cons, List.length_nil, List.getElem_cons_succ, List.getElem_cons_zero] at hcell hrow
  have x1 := HX.out.cell 1
  simp only [List.getElem?_toArray, List.getElem?_cons_zero, List.getElem?_cons_succ] at x1
  have hxl := HX.out.lt
  generalize (es[2]).c = c2 at *
  clear hz hzs hA hE h2
  go_enter Try.func79, Try.ntmps79
  go_wp2_with fail
  go_ret
  exact ⟨rfl, HB.out⟩
theorem all_pl {os : List OV} {rs : List RV} {b : Int} (ho : objsOk (os.map OV.d) = true) (hb0 : 0 ≤ b) (hb1 : b ≤ 4096) (hrs : rs.map RV.zs = (PLink.lay (os.map OV.d) b).2) : AllPl rs os := by
  intro k hk j hj
  obtain ⟨q1, q2, q3, q4⟩ := lay_bd ho hb0 hb1
  rw [← hrs] at q3
  simp only [objsOk, Bool.and_eq_true, decide_eq_true_eq, List.all_eq_true] at ho
  obtain ⟨_, _, h3, h4, _⟩ := (obj_iff _).1 (ho.2 _ (List.mem_map_of_mem (List.getElem_mem hk)))
  have hy := h4 _ (show (os[k]).ys[j] ∈ (os[k]).d.ys from List.getElem_mem hj)
  obtain ⟨_, s2⟩ := sym_facts hy
  refine ⟨s2, fun hn => ?_⟩
  have hkl : k < (os.map OV.d).length := by simpa using hk
  have hP := hy
  simp only [symOk, Bool.and_eq_true] at hP
  have hP := hP.2
  unfold placeOk at hP
  rw [if_neg hn] at hP
  generalize (os[k]).ys[j] = y at *
  by_cases h2 : y.2.2.1 = -2
  · rw [if_pos h2] at hP
    have : 0 ≤ y.2.2.2 ∧ y.2.2.2 ≤ 60000 := by simpa [inB] using hP
    exact ⟨.inl h2, this.1, this.2⟩
  · rw [if_neg h2] at hP
    simp only [Bool.and_eq_true, inB, decide_eq_true_eq] at hP
    obtain ⟨⟨w1, w2⟩, v1, v2⟩ := hP
    have hil : y.2.2.1.toNat < (os[k]).d.ss.length := by omega
    have hsz := (sec_okk (h3 _ (List.getElem_mem hil))).1.1
    have hge : (os[k]).d.ss.getD y.2.2.1.toNat ⟨ByteArray.empty, 0, 0, [], 0, []⟩ = (os[k]).d.ss[y.2.2.1.toNat] := by
      rw [List.getD_eq_getElem?_getD, List.getElem?_eq_getElem hil]
      rfl
    rw [hge] at v2
    have hle : ((os.map OV.d)[k]).ss = (os[k]).d.ss := by simp
    have hil2 : y.2.2.1.toNat < ((os.map OV.d)[k]).ss.length := by rw [hle]; exact hil
    have hsec := sec_at hkl hil2
    obtain ⟨p1, p2⟩ := q3 _ _ _ hsec
    have hpl := q4 k hkl _ hil2
    rw [← hrs] at hpl
    simp only [List.length_map, List.getElem_map] at p1 p2
    rw [getP_at p1 p2] at hpl
    exact ⟨.inr ⟨w1, p1, p2, by omega, by omega⟩, v1, by omega⟩
/-- An image and a fault handed back. -/
def RetL (r : RD) (w : World) (e : Ending) (w' : World) : Prop := ∃ A c, e = .returned (.tuple #[.agg #[.int .i64 r.1, .slice A r.2.1.length c], .int .i64 r.2.2]) ∧ Row w' w.heap.size 5 1 A r.2.1.length c (ints .u8 r.2.1) ∧ Below w.heap.size w w'
theorem ret_bad {w w' : World} (code : Int) (h : Below w.heap.size w w') : RetL (0, [], code) w (.returned (.tuple #[.agg #[.int .i64 0, .slice none 0 0], .int .i64 code])) w' := ⟨none, 0, rfl, Row.empty _ _ _ _ _, h⟩
theorem ap_len {b b2 : List Int} {place : Int} {f : FD} {t : Int} (h : apF b place f t = some b2) : b2.length = b.length := by
  unfold apF at h
  split at h
  · rename_i hc
    cases hv : fixVal f.2.1 (place + f.1) t f.2.2.2 with
    | none => rw [hv] at h; cases h
    | some v =>
      rw [hv] at h
      injection h with h
      subst h
      have h1 : 0 ≤ f.1 ∧ f.1 ≤ (b.length : Int) - wide f.2.1 := by simpa [inB] using hc.2.2
      have hw := wide_bd f.2.1
      exact sp_len (by rw [putL_len]; omega)
  · cases h
/-- What stands while the image is filled. -/
structure LK (w0 : World) (L : Nat) (PA : Option Addr) (pc : Nat) (rs : List RV) (EA : Option Addr) (en ec : Nat) (I g N : Nat) (base : Int) (im : List Int) (w : World) : Prop where
  row : w.ownsRow w0.heap.size 5 1 (.slice (some ⟨g, 0, none⟩) N N) N (ints .u8 im)
  len : im.length = N
  bi : Box w I 48 #[.int .i64 base, .slice (some ⟨g, 0, none⟩) N N]
  bl : Box w L 101 #[.slice PA rs.length pc, .slice EA en ec]
  br : Box w w0.heap.size 48 #[.int .i64 0, .slice none 0 0]
  hp : RdRs w L PA rs
  b : Below w0.heap.size w0 w
section
variable {w0 w w' : World} {L : Nat} {PA : Option Addr} {pc : Nat} {rs : List RV} {EA : Option Addr} {en ec : Nat} {I g N : Nat} {base : Int} {im : List Int}
theorem LK.call (h : LK w0 L PA pc rs EA en ec I g N base im w) (hb : Below w.heap.size w w') : LK w0 L PA pc rs EA en ec I g N base im w' :=
  ⟨own_call hb h.row, h.len, h.bi.call hb, h.bl.call hb, h.br.call hb, h.hp.below (hb.mono (Nat.le_of_lt h.bl.lt)), h.b.trans (hb.mono h.b.size)⟩
/-- Bytes are copied into the image. -/
theorem LK.put (h : LK w0 L PA pc rs EA en ec I g N base im w) (hgL : L < g) : ∃ cur : List Value, w.heap[g]? = some (.cells cur.toArray 5 (0, 0)) ∧ N ≤ cur.length ∧ ∀ (i : Nat) (zs : List Int), i + zs.length ≤ N →
    LK w0 L PA pc rs EA en ec I g N base (sp im i zs) (w.setRow g (Go.splice cur i (ints .u8 zs)).toArray) := by
  obtain ⟨cur, hg, hgb, hn, hf⟩ := copied h.row
  refine ⟨cur, hg, hn, fun i zs hi => ⟨hf i zs hi, by rw [sp_len (by rw [h.len]; exact hi)]; exact h.len, box_setRow h.bi hg (by decide) _, box_setRow h.bl hg (by decide) _, box_setRow h.br hg (by decide) _, ?_, Go.below_setRow h.b hgb _⟩⟩
  exact h.hp.below (Go.below_setRow (Below.refl L w) (Nat.le_of_lt hgL) _)
end
set_option maxHeartbeats 8000000 in
theorem link_any (A : Option Addr) (os : List OV) (c : Nat) (base : Int) (w : World) (hr : RdOs w w.heap.size A os) (hf : Fits os) (hn : ∀ o ∈ os, ∀ p ∈ o.ps, p.A = none → p.c = 0) :
    Calls Try.prog 30 #[.slice A os.length c, .int .i64 base] w (RetL (linkR (os.map OV.d) base) w) := by
  obtain ⟨i0, hi1, hi2, hi3, hi4⟩ := info_parts CNumber.info8
  have HI := hide (And.intro hi1 (And.intro hi2 (And.intro hi3 hi4)))
  clear hi1 hi2 hi3 hi4
  have HR := hide hr
  have HF := hide hf
  have HN := hide hn
  clear hr hf hn
  have HB := hide (show Below w.heap.size w (w.alloc (.cells #[.int .i64 0, .slice none 0 0] 48)) from (by repeat (first | exact Below.refl _ _ | with_reducible assumption | (refine Below.drew ?_) | (refine Below.drewN ?_ _) | (refine Below.alloc ?_ (by simp; try omega) _) | (refine Below.setCell ?_ (by simp; try omega) _))))
  have HRR := hide (Box.new w 48 #[.int .i64 0, .slice none 0 0])
  go_enter Try.func30, Try.ntmps30
  go_wp2_with fail
  generalize w.alloc (.cells #[.int .i64 0, .slice none 0 0] 48) = w0 at *
  refine (layoutOf_any A os c base w0 ((HR.out.below HB.out).more HB.out.size) HF.out).mono ?_
  rintro e w1 ⟨PA, pc, rs, EA, ec, es, rfl, hyes, hP, hE, b1⟩
  have HYES := hide hyes
  have HP := hide hP
  have HE := hide hE
  clear hyes hP hE
  replace HB := hide (HB.out.trans (b1.mono HB.out.size))
  replace HRR := hide (HRR.out.call b1)
  clear b1
  cases hok : (objsOk (os.map OV.d) && baseOk base)
  · have HV := hide (show linkR (os.map OV.d) base = (0, [], -1) from if_pos hok)
    clear hok
    have ba : Below w1.heap.size w1 (w1.alloc (.cells #[.slice PA rs.length pc, .slice EA es.length ec] 101)) := (by repeat (first | exact Below.refl _ _ | with_reducible assumption | (refine Below.drew ?_) | (refine Below.drewN ?_ _) | (refine Below.alloc ?_ (by simp; try omega) _) | (refine Below.setCell ?_ (by simp; try omega) _)))
    replace HB := hide (HB.out.trans (ba.mono HB.out.size))
    replace HRR := hide (HRR.out.call ba)
    clear ba
    have y0 := HRR.out.cell 0
    have y1 := HRR.out.cell 1
    simp only [List.getElem?_toArray, List.getElem?_cons_zero, List.getElem?_cons_succ] at y0 y1
    have yf0 := HRR.out.frozen 0
    have yf1 := HRR.out.frozen 1
    have hrl := HRR.out.lt
    have kk := (HRR.out.set 0 (.int .i64 0)).set 1 (.slice none 0 0)
    have k0 := kk.cell 0
    have k1 := kk.cell 1
    simp only [List.setIfInBounds_toArray, List.set_cons_zero, List.set_cons_succ, List.getElem?_toArray, List.getElem?_cons_zero, List.getElem?_cons_succ] at k0 k1
    clear kk
    have HFB := hide (two_below (Y := w.heap.size) HB.out (Nat.le_refl _) (.int .i64 0) (.slice none 0 0))
    go_wp2_with fail
    (try simp only [Exit.inBlock, Exit.then])
    exact bodyPost_ret (v := .tuple #[.agg #[.int .i64 0, .slice none 0 0], .int .i64 (-1)]) (by simp [results, Try.results30, go_sem, k0, k1]) rfl (by rw [HV.out]; exact ret_bad _ HFB.out)
  obtain ⟨hrz, hel, xx, hend⟩ := HYES.out hok
  clear HYES
  have hok' := hok
  rw [Bool.and_eq_true] at hok'
  obtain ⟨ho, hbs⟩ := hok'
  have hb0 : 0 ≤ base ∧ base ≤ 4096 := by
    simp only [baseOk, Bool.and_eq_true, decide_eq_true_eq] at hbs
    exact hbs.1
  obtain ⟨hb1, hb2⟩ := hb0
  have HPL := hide (all_pl ho hb1 hb2 hrz)
  have HEN := hide (And.intro hel hend)
  have HRZ := hide hrz
  clear hel hend
  obtain ⟨g1, g2, g3, g4⟩ := lay_bd ho hb1 hb2
  have HLB := hide (And.intro g3 g4)
  clear g3 g4
  have HSM := hide (show Small os from by
    simp only [objsOk, Bool.and_eq_true, decide_eq_true_eq, List.all_eq_true, List.length_map] at ho
    refine ⟨ho.1, fun o h => ?_⟩
    obtain ⟨_, h2, _⟩ := (obj_iff _).1 (ho.2 _ (List.mem_map_of_mem h))
    exact h2)
  have HAL := hide (show ∀ o ∈ os, o.ps.length ≤ 8 ∧ ∀ p ∈ o.ps, p.fs.length ≤ 6 ∧ p.zs.length ≤ 48 ∧ ∀ f ∈ p.fs, 0 ≤ f.2.2.1 ∧ f.2.2.1 < o.ys.length from fun o h => by
    simp only [objsOk, Bool.and_eq_true, decide_eq_true_eq, List.all_eq_true, List.length_map] at ho
    obtain ⟨a1, _, a3⟩ := obj_all (ho.2 _ (List.mem_map_of_mem h))
    refine ⟨by simpa [OV.d] using a1, fun p hp => ?_⟩
    obtain ⟨c1, c2, c3⟩ := a3 p.d (List.mem_map_of_mem hp)
    exact ⟨c1, c2, fun f hf => (c3 f hf).2⟩)
  have HLR := hide (show linkR (os.map OV.d) base = if 0 < (twice (os.map OV.d)).length then (0, [], 1) else if 0 < (miss (os.map OV.d)).length then (0, [], 2) else imgR base (image (os.map OV.d) base) from by
    unfold linkR
    rw [if_neg (by rw [hok]; decide)])
  clear hok ho hbs
  have ba : Below w1.heap.size w1 (w1.alloc (.cells #[.slice PA rs.length pc, .slice EA es.length ec] 101)) := (by repeat (first | exact Below.refl _ _ | with_reducible assumption | (refine Below.drew ?_) | (refine Below.drewN ?_ _) | (refine Below.alloc ?_ (by simp; try omega) _) | (refine Below.setCell ?_ (by simp; try omega) _)))
  have HL := hide (Box.new w1 101 #[.slice PA rs.length pc, .slice EA es.length ec])
  replace HP := hide (HP.out.below ba)
  replace HE := hide (HE.out.below ba)
  have hRL : w.heap.size < w1.heap.size := HRR.out.lt
  replace HB := hide (HB.out.trans (ba.mono HB.out.size))
  replace HRR := hide (HRR.out.call ba)
  clear ba
  go_wp2_with fail
  generalize w1.alloc (.cells #[.slice PA rs.length pc, .slice EA es.length ec] 101) = w2 at *
  generalize w1.heap.size = L at *
  refine (namesTwice_any A os c w2 ((HR.out.below HB.out).more HB.out.size) HSM.out).mono ?_
  rintro e w3 ⟨A3, c3, rfl, _, b3⟩
  have hLw : L < w2.heap.size := HL.out.lt
  have HTW := hide (srtN_pos (twice (os.map OV.d)))
  replace HP := hide (HP.out.below (b3.mono (Nat.le_of_lt hLw)))
  replace HE := hide (HE.out.below (b3.mono (Nat.le_of_lt hLw)))
  replace HB := hide (HB.out.trans (b3.mono HB.out.size))
  replace HRR := hide (HRR.out.call b3)
  replace HL := hide (HL.out.call b3)
  clear b3
  clear hLw
  by_cases ht : 0 < (twice (os.map OV.d)).length
  · have HV := hide (show linkR (os.map OV.d) base = (0, [], 1) from by rw [HLR.out, if_pos ht])
    have et : decide (0 < (srtN (twice (os.map OV.d))).length) = true := decide_eq_true (HTW.out.2 ht)
    generalize (srtN (twice (os.map OV.d))).length = tn at *
    clear ht
    have y0 := HRR.out.cell 0
    have y1 := HRR.out.cell 1
    simp only [List.getElem?_toArray, List.getElem?_cons_zero, List.getElem?_cons_succ] at y0 y1
    have yf0 := HRR.out.frozen 0
    have yf1 := HRR.out.frozen 1
    have hrl := HRR.out.lt
    have kk := (HRR.out.set 0 (.int .i64 0)).set 1 (.slice none 0 0)
    have k0 := kk.cell 0
    have k1 := kk.cell 1
    simp only [List.setIfInBounds_toArray, List.set_cons_zero, List.set_cons_succ, List.getElem?_toArray, List.getElem?_cons_zero, List.getElem?_cons_succ] at k0 k1
    clear kk
    have HFB := hide (two_below (Y := w.heap.size) HB.out (Nat.le_refl _) (.int .i64 0) (.slice none 0 0))
    go_wp2_with fail
    (try simp only [Exit.inBlock, Exit.then])
    exact bodyPost_ret (v := .tuple #[.agg #[.int .i64 0, .slice none 0 0], .int .i64 1]) (by simp [results, Try.results30, go_sem, k0, k1]) rfl (by rw [HV.out]; exact ret_bad _ HFB.out)
  have et : decide (0 < (srtN (twice (os.map OV.d))).length) = false := decide_eq_false (fun h => ht (HTW.out.1 h))
  rw [if_neg ht] at HLR
  clear ht HTW
  generalize (srtN (twice (os.map OV.d))).length = tn at *
  go_wp2_with fail
  clear et
  refine (namesMissing_any A os c w3 ((HR.out.below HB.out).more HB.out.size) HSM.out).mono ?_
  rintro e w4 ⟨A4, c4, rfl, _, b4⟩
  have hLw : L < w3.heap.size := HL.out.lt
  have HMI := hide (srtN_pos (miss (os.map OV.d)))
  replace HP := hide (HP.out.below (b4.mono (Nat.le_of_lt hLw)))
  replace HE := hide (HE.out.below (b4.mono (Nat.le_of_lt hLw)))
  replace HB := hide (HB.out.trans (b4.mono HB.out.size))
  replace HRR := hide (HRR.out.call b4)
  replace HL := hide (HL.out.call b4)
  clear b4
  clear hLw
  by_cases ht : 0 < (miss (os.map OV.d)).length
  · have HV := hide (show linkR (os.map OV.d) base = (0, [], 2) from by rw [HLR.out, if_pos ht])
    have et : decide (0 < (srtN (miss (os.map OV.d))).length) = true := decide_eq_true (HMI.out.2 ht)
    generalize (srtN (miss (os.map OV.d))).length = mn at *
    clear ht
    have y0 := HRR.out.cell 0
    have y1 := HRR.out.cell 1
    simp only [List.getElem?_toArray, List.getElem?_cons_zero, List.getElem?_cons_succ] at y0 y1
    have yf0 := HRR.out.frozen 0
    have yf1 := HRR.out.frozen 1
    have hrl := HRR.out.lt
    have kk := (HRR.out.set 0 (.int .i64 0)).set 1 (.slice none 0 0)
    have k0 := kk.cell 0
    have k1 := kk.cell 1
    simp only [List.setIfInBounds_toArray, List.set_cons_zero, List.set_cons_succ, List.getElem?_toArray, List.getElem?_cons_zero, List.getElem?_cons_succ] at k0 k1
    clear kk
    have HFB := hide (two_below (Y := w.heap.size) HB.out (Nat.le_refl _) (.int .i64 0) (.slice none 0 0))
    go_wp2_with fail
    (try simp only [Exit.inBlock, Exit.then])
    exact bodyPost_ret (v := .tuple #[.agg #[.int .i64 0, .slice none 0 0], .int .i64 2]) (by simp [results, Try.results30, go_sem, k0, k1]) rfl (by rw [HV.out]; exact ret_bad _ HFB.out)
  have et : decide (0 < (srtN (miss (os.map OV.d))).length) = false := decide_eq_false (fun h => ht (HMI.out.1 h))
  rw [if_neg ht] at HLR
  clear ht HMI
  generalize (srtN (miss (os.map OV.d))).length = mn at *
  have y0 := HL.out.cell 0
  have y1 := HL.out.cell 1
  simp only [List.getElem?_toArray, List.getElem?_cons_zero, List.getElem?_cons_succ] at y0 y1
  have hll := HL.out.lt
  go_wp2_with fail
  clear et y0 y1 hll
  have hLw : L < w4.heap.size := HL.out.lt
  obtain ⟨N, hN⟩ : ∃ N : Nat, (PLink.lay (os.map OV.d) base).1 = base + N := ⟨((PLink.lay (os.map OV.d) base).1 - base).toNat, by omega⟩
  have HNN := hide hN
  have hN2 : N ≤ 10000 := by omega
  refine (end_any PA rs.length pc EA es ec xx (base + N) w4 (HE.out.more (Nat.le_of_lt hLw)) HEN.out.1 (by rw [← HNN.out]; exact HEN.out.2)).mono ?_
  rintro e w5 ⟨rfl, b5⟩
  replace HP := hide (HP.out.below (b5.mono (Nat.le_of_lt hLw)))
  replace HB := hide (HB.out.trans (b5.mono HB.out.size))
  replace HRR := hide (HRR.out.call b5)
  replace HL := hide (HL.out.call b5)
  clear b5
  clear HE hLw
  have HLI := hide (show ∀ k i, (hk : k < os.length) → (hi : i < (os[k]).ps.length) → ∃ h : k < rs.length, ∃ h2 : i < (rs[k]).zs.length, base ≤ (rs[k]).zs[i] ∧ (rs[k]).zs[i] ≤ base + N from fun k i hk hi => by
    have hkl : k < (os.map OV.d).length := by simpa using hk
    have hil : i < ((os.map OV.d)[k]).ss.length := by simpa [OV.d] using hi
    have hpl := HLB.out.2 k hkl i hil
    have h3 := HLB.out.1
    rw [← HRZ.out] at h3 hpl
    obtain ⟨p1, p2⟩ := h3 _ _ _ (sec_at hkl hil)
    simp only [List.length_map, List.getElem_map] at p1 p2
    rw [getP_at p1 p2, HNN.out] at hpl
    exact ⟨p1, p2, hpl⟩)
  have HT0 := hide (show image (os.map OV.d) base = imO (os.map OV.d) (rs.map RV.zs) base 0 ((os.map OV.d).drop 0) (some (List.replicate N 0)) from by
    unfold image
    rw [HNN.out, HRZ.out, show (base + (N : Int) - base).toNat = N by omega]
    rfl)
  clear HLB hN HRZ HEN g1 g2 HNN hrz
  have hwr : IntKind.i64.wrap (base + N - base) = (N : Int) := by rw [IntKind.wrap_i64]; omega
  have y0 := HL.out.cell 0
  have y1 := HL.out.cell 1
  simp only [List.getElem?_toArray, List.getElem?_cons_zero, List.getElem?_cons_succ] at y0 y1
  have hll := HL.out.lt
  go_wp2_with (at_make; refine wpList_make_full _ rfl _ _ _ rfl w.heap.size 5 i0 (.int .u8 0) 1 Try.underlying22 HI.out.1 HI.out.2.1 HI.out.2.2.1 .i64 .i64 _ _ N rfl rfl rfl rfl ?c1 ?c2 ?c3 ?_)
  case c1 => rw [HI.out.2.2.2]; omega
  case c2 => unfold maxLen; omega
  case c3 => exact HB.out.size
  intro w6 hown hg
  rw [zero_cells'] at hown
  have b6 : Below w5.heap.size w5 w6 := below_grown (Below.refl _ _) hg (Nat.le_refl _) (fun k hk => by cases hk)
  have hLg : L < w5.heap.size := HL.out.lt
  have HOW := hide hown
  replace HP := hide (HP.out.below (b6.mono (Nat.le_of_lt hLg)))
  replace HB := hide (HB.out.trans (b6.mono HB.out.size))
  replace HRR := hide (HRR.out.call b6)
  replace HL := hide (HL.out.call b6)
  clear b6
  clear hown hg y0 y1 hll
  generalize w5.heap.size = g at *
  have hLgg := hide hLg
  go_wp2_with fail
  have b7 : Below w6.heap.size w6 (w6.alloc (.cells #[.int .i64 base, .slice (some ⟨g, 0, none⟩) N N] 48)) := (by repeat (first | exact Below.refl _ _ | with_reducible assumption | (refine Below.drew ?_) | (refine Below.drewN ?_ _) | (refine Below.alloc ?_ (by simp; try omega) _) | (refine Below.setCell ?_ (by simp; try omega) _)))
  have HK := hide (show LK w L PA pc rs EA es.length ec w6.heap.size g N base (List.replicate N 0) (w6.alloc (.cells #[.int .i64 base, .slice (some ⟨g, 0, none⟩) N N] 48)) from ⟨own_call b7 HOW.out, by simp, Box.new _ _ _, HL.out.call b7, HRR.out.call b7, HP.out.below (b7.mono (Nat.le_of_lt HL.out.lt)), HB.out.trans (b7.mono HB.out.size)⟩)
  clear HOW HL HRR HP HB hwr b7
  generalize w6.alloc (.cells #[.int .i64 base, .slice (some ⟨g, 0, none⟩) N N] 48) = w7 at *
  generalize w6.heap.size = I at *
  generalize es.length = en at *
  generalize hTT : image (os.map OV.d) base = T at *
  generalize hLL : os.map OV.d = l at *
  have HLL := hide hLL
  clear hLL hTT
  have hos4 : os.length ≤ 4 := HSM.out.1
  go_loopw [52] (fun i wi => ∃ (k : Nat) (im : List Int), k ≤ os.length ∧ i = .int .i64 k ∧ T = imO l (rs.map RV.zs) base k (l.drop k) (some im) ∧ LK w L PA pc rs EA en ec I g N base im wi) (fun i _ => os.length - (intOf i).toNat)
  case atStart => exact ⟨0, _, Nat.zero_le _, rfl, HT0.out, HK.out⟩
  case round =>
    clear HK HT0
    obtain ⟨k, im, hk, rfl, ht, hlk⟩ := hrel
    have HK := hide hlk
    by_cases hlt : k < os.length
    · obtain ⟨bb, off, hA, hbb, hc0, hc1⟩ := (HR.out.below hlk.b).at hlt
      have hll : k < l.length := by rw [← HLL.out, List.length_map]; exact hlt
      obtain ⟨Gf, hGf⟩ : ∃ Gf : Option (List Int) → Option (List Int), Gf = fun x => imO l (rs.map RV.zs) base (k + 1) (l.drop (k + 1)) x := ⟨_, rfl⟩
      have HGN := hide (show Gf none = none from by rw [hGf]; exact imO_none _ _ _ _ _)
      have HT := hide (show T = Gf (imS l (rs.map RV.zs) base k 0 ((os[k]).ps.map SV.d) (some im)) from by
        rw [ht, imO_drop hll, hGf]
        have := HLL.out
        subst this
        simp [OV.d])
      have HGF := hide hGf
      have HAO := hide (HAL.out _ (List.getElem_mem hlt))
      have hps8 : (os[k]).ps.length ≤ 8 := HAO.out.1
      have HIO := hide (fun i (hi : i < (os[k]).ps.length) => HLI.out k i hlt hi)
      have HSY := hide (fun (W : World) (hb : Below w.heap.size w W) (hw : RdRs W W.heap.size PA rs) (j : Nat) (hj : j < (os[k]).ys.length) => symbolPlace_any PA rs pc EA en ec A os c k j W hw ((HR.out.below hb).more hb.size) hlt hj ⟨by have := HSM.out.1; omega, fun o ho => by have := HSM.out.2 o ho; omega⟩ HPL.out)
      have HRO := hide (HR.out.2 _ (List.getElem_mem hlt)).1
      have HNO := hide (HN.out _ (List.getElem_mem hlt))
      clear hlk ht hGf
      rw [HLL.out] at HSY
      subst hA
      generalize os[k] = o at *
      go_wp2_with fail
      have B1 : Below wr.heap.size wr (wr.alloc (.cells #[.slice o.A o.ps.length o.c, .slice o.Y o.ys.length o.yc] 26)) := (by repeat (first | exact Below.refl _ _ | with_reducible assumption | (refine Below.drew ?_) | (refine Below.drewN ?_ _) | (refine Below.alloc ?_ (by simp; try omega) _) | (refine Below.setCell ?_ (by simp; try omega) _)))
      have HO := hide (Box.new wr 26 #[.slice o.A o.ps.length o.c, .slice o.Y o.ys.length o.yc])
      replace HK := hide (HK.out.call B1)
      clear B1
      generalize wr.alloc (.cells #[.slice o.A o.ps.length o.c, .slice o.Y o.ys.length o.yc] 26) = wa at *
      generalize wr.heap.size = Z at *
      clear hc0 hc1
      have y0 := HO.out.cell 0
      simp only [List.getElem?_toArray, List.getElem?_cons_zero, List.getElem?_cons_succ] at y0
      have hol := HO.out.lt
      go_wp2_with fail
      clear y0 hol HO
      go_loopw [60] (fun i wi => ∃ (m : Nat) (im : List Int), m ≤ o.ps.length ∧ i = .int .i64 m ∧ T = Gf (imS l (rs.map RV.zs) base k m ((o.ps.map SV.d).drop m) (some im)) ∧ LK w L PA pc rs EA en ec I g N base im wi) (fun i _ => o.ps.length - (intOf i).toNat)
      case atStart => exact ⟨0, im, Nat.zero_le _, rfl, HT.out, HK.out⟩
      case round =>
        clear HK HT
        obtain ⟨m, im, hm, rfl, ht, hlk⟩ := hrel
        have HK := hide hlk
        by_cases hlm : m < o.ps.length
        · obtain ⟨b2, off2, hPA, hb2, hc⟩ := (HRO.out.1.below hlk.b).row secC_len (by decide) hlm
          have hc0 := hc 0 _ rfl
          have hc1 := hc 1 _ rfl
          have hc2 := hc 2 _ rfl
          have hc3 := hc 3 _ rfl
          have hc4 := hc 4 _ rfl
          have hc5 := hc 5 _ rfl
          simp only [Nat.add_zero] at hc0
          obtain ⟨hkr, hmr, hp1, hp2⟩ := HIO.out m hlm
          have HT := hide (show T = Gf (imS l (rs.map RV.zs) base k (m + 1) ((o.ps.map SV.d).drop (m + 1)) ((fill l (rs.map RV.zs) k ((rs[k]).zs[m]) (o.ps[m]).fs (some (o.ps[m]).zs)).map fun b => over im ((rs[k]).zs[m] - base).toNat b)) from by
            rw [ht, imS_drop (by simpa using hlm), List.getElem_map, getP_at hkr hmr, Option.bind_some]
            rfl)
          have HAP := hide (HAO.out.2 _ (List.getElem_mem hlm))
          have HRP := hide (HRO.out.2 _ (List.getElem_mem hlm))
          have HNP := hide (HNO.out _ (List.getElem_mem hlm))
          obtain ⟨pb, po, hPP, hpb, hrow⟩ := hlk.hp.at hkr
          obtain ⟨rb, ro, hRR, hrb, hcell⟩ := (hlk.hp.2 _ (List.getElem_mem hkr)).int hmr
          have l0 := hlk.bl.cell 0
          simp only [List.getElem?_toArray, List.getElem?_cons_zero] at l0
          rw [hPP] at l0
          have HPP := hide hPP
          clear hPP
          rw [hRR] at hrow
          have hLl := hlk.bl.lt
          clear hlk ht hc hRR
          rw [hPA]
          clear hPA
          generalize o.ps[m] = p at *
          generalize hpl : (rs[k]).zs[m] = pl at *
          clear hpl
          generalize (rs[k]).zs.length = rn at *
          generalize (rs[k]).c = rc at *
          have B1 : Below wr.heap.size wr (wr.alloc (.cells #[.string p.nm, .int .i64 p.kd, .int .i64 p.al, .slice p.A p.zs.length p.c, .int .i64 p.sz, .slice p.F p.fs.length p.fc] 73)) := (by repeat (first | exact Below.refl _ _ | with_reducible assumption | (refine Below.drew ?_) | (refine Below.drewN ?_ _) | (refine Below.alloc ?_ (by simp; try omega) _) | (refine Below.setCell ?_ (by simp; try omega) _)))
          have HS := hide (Box.new wr 73 #[.string p.nm, .int .i64 p.kd, .int .i64 p.al, .slice p.A p.zs.length p.c, .int .i64 p.sz, .slice p.F p.fs.length p.fc])
          replace HK := hide (HK.out.call B1)
          replace l0 := (B1.cell (p := ⟨L, 0, none⟩) hLl).trans l0
          replace hrow := (B1.cell (p := ⟨pb, po + k, none⟩) (show pb < wr.heap.size by omega)).trans hrow
          replace hcell := (B1.cell (p := ⟨rb, ro + m, none⟩) (show rb < wr.heap.size by omega)).trans hcell
          clear B1
          go_wp2_with fail
          clear hc0 hc1 hc2 hc3 hc4 hc5
          generalize wr.alloc (.cells #[.string p.nm, .int .i64 p.kd, .int .i64 p.al, .slice p.A p.zs.length p.c, .int .i64 p.sz, .slice p.F p.fs.length p.fc] 73) = ws at *
          generalize wr.heap.size = S at *
          have s3 := HS.out.cell 3
          have s5 := HS.out.cell 5
          simp only [List.getElem?_toArray, List.getElem?_cons_zero, List.getElem?_cons_succ] at s3 s5
          have hsl := HS.out.lt
          have hkr' : k < rs.length := hkr
          go_quiet (fail)
          have bd : Below ws.heap.size ws (ws.drewN nq) := below_dn (Below.refl _ _)
          replace HK := hide (HK.out.call bd)
          replace HS := hide (HS.out.call bd)
          clear bd s3 s5 hsl l0 hrow hcell
          generalize ws.drewN nq = wt at *
          clear nq
          have s5 := HS.out.cell 5
          simp only [List.getElem?_toArray, List.getElem?_cons_zero, List.getElem?_cons_succ] at s5
          have hsl := HS.out.lt
          go_wp2_with fail
          clear s5 hsl
          generalize hF : fill l (rs.map RV.zs) k pl p.fs (some p.zs) = F at *
          have hfl6 : p.fs.length ≤ 6 := HAP.out.1
          have HF0 := hide (show F = fill l (rs.map RV.zs) k pl (p.fs.drop 0) (some p.zs) from hF.symm)
          clear hF
          go_loopw [13, 78] (fun bv i wi => ∃ (q : Nat) (b : List Int) (Ab : Option Addr) (cb : Nat), q ≤ p.fs.length ∧ bv = .slice Ab b.length cb ∧ i = .int .i64 q ∧ F = fill l (rs.map RV.zs) k pl (p.fs.drop q) (some b) ∧ b.length = p.zs.length ∧ Rd wi wi.heap.size Ab (ints .u8 b) ∧ (Ab = none → cb = 0) ∧ Box wi S 73 #[.string p.nm, .int .i64 p.kd, .int .i64 p.al, .slice p.A p.zs.length p.c, .int .i64 p.sz, .slice p.F p.fs.length p.fc] ∧ LK w L PA pc rs EA en ec I g N base im wi) (fun _ i _ => p.fs.length - (intOf i).toNat)
          case atStart => exact ⟨0, p.zs, p.A, p.c, Nat.zero_le _, rfl, rfl, HF0.out, rfl, (HRP.out.1.below HK.out.b).more HK.out.b.size, HNP.out, HS.out, HK.out⟩
          case round =>
            clear HK HS HF0
            obtain ⟨q, b, Ab, cb, hq, rfl, rfl, hfl, hbl, hrd, hnil, hs, hlk⟩ := hrel
            have HK := hide hlk
            have HS := hide hs
            have HRD := hide hrd
            have HBL := hide hbl
            have HNB := hide hnil
            by_cases hlq : q < p.fs.length
            · obtain ⟨b3, off3, hFA, hb3, hd⟩ := (HRP.out.2.below hlk.b).row fixupC_len (by decide) hlq
              have hd0 := hd 0 _ rfl
              have hd1 := hd 1 _ rfl
              have hd2 := hd 2 _ rfl
              have hd3 := hd 3 _ rfl
              simp only [Nat.add_zero] at hd0
              have HFL := hide (show F = fill l (rs.map RV.zs) k pl (p.fs.drop (q + 1)) (apF b pl (p.fs[q]) (symPl l (rs.map RV.zs) k (p.fs[q]).2.2.1.toNat)) from by
                rw [hfl, fill_drop hlq]
                rfl)
              obtain ⟨hf0, hf1⟩ := HAP.out.2.2 _ (List.getElem_mem hlq)
              have hLl := hlk.bl.lt
              clear hlk hs hrd hbl hnil hfl hd
              rw [hFA]
              have HFA := hide hFA
              clear hFA
              generalize p.fs[q] = f at *
              obtain ⟨f1, f2, f3, f4⟩ := f
              simp only at hd0 hd1 hd2 hd3 hf0 hf1 HFL
              obtain ⟨j, rfl⟩ : ∃ j : Nat, f3 = (j : Int) := ⟨f3.toNat, by omega⟩
              have hjl : j < o.ys.length := by omega
              simp only [Int.toNat_natCast] at HFL
              have B1 : Below wr.heap.size wr (wr.alloc (.cells #[.int .i64 f1, .int .i64 f2, .int .i64 j, .int .i64 f4] 77)) := (by repeat (first | exact Below.refl _ _ | with_reducible assumption | (refine Below.drew ?_) | (refine Below.drewN ?_ _) | (refine Below.alloc ?_ (by simp; try omega) _) | (refine Below.setCell ?_ (by simp; try omega) _)))
              have HX := hide (Box.new wr 77 #[.int .i64 f1, .int .i64 f2, .int .i64 j, .int .i64 f4])
              replace HRD := hide ((HRD.out.below B1).more B1.size)
              replace HK := hide (HK.out.call B1)
              replace HS := hide (HS.out.call B1)
              clear B1
              have l0 := HK.out.bl.cell 0
              have l1 := HK.out.bl.cell 1
              simp only [List.getElem?_toArray, List.getElem?_cons_zero, List.getElem?_cons_succ] at l0 l1
              have hLl2 := HK.out.bl.lt
              go_wp2_with fail
              clear hd0 hd1 hd2 hd3 l0 l1 hLl2 hLl
              generalize wr.alloc (.cells #[.int .i64 f1, .int .i64 f2, .int .i64 j, .int .i64 f4] 77) = wx at *
              generalize wr.heap.size = Xf at *
              refine (HSY.out wx HK.out.b (HK.out.hp.more (Nat.le_of_lt HK.out.bl.lt)) j hjl).mono ?_
              rintro e w9 ⟨ok1, rfl, b9⟩
              replace HRD := hide ((HRD.out.below b9).more b9.size)
              replace HK := hide (HK.out.call b9)
              replace HS := hide (HS.out.call b9)
              replace HX := hide (HX.out.call b9)
              clear b9
              generalize symPl l (rs.map RV.zs) k j = tv at *
              have x0 := HX.out.cell 0
              have x1 := HX.out.cell 1
              have x2 := HX.out.cell 2
              have x3 := HX.out.cell 3
              simp only [List.getElem?_toArray, List.getElem?_cons_zero, List.getElem?_cons_succ] at x0 x1 x2 x3
              have hxl := HX.out.lt
              go_wp2_with fail
              clear x0 x1 x2 x3 hxl HX
              refine (applyFixup_any Ab b cb pl (f1, f2, (j : Int), f4) tv w9 HRD.out (by have := HBL.out; have := HAP.out.2.1; omega) HNB.out).mono ?_
              rintro e w10 ⟨A10, c10, n10, rfl, b10, hres⟩
              have HRES := hide hres
              clear hres
              replace HK := hide (HK.out.call b10)
              replace HS := hide (HS.out.call b10)
              have hb10 : w.heap.size ≤ w9.heap.size → True := fun _ => trivial
              generalize hap : apF b pl (f1, f2, (j : Int), f4) tv = r at *
              have HAPF := hide hap
              clear hap b10 hb10 HRD HNB
              cases r with
              | none =>
                have HV := hide (show linkR l base = (0, [], 3) from by
                  rw [HLR.out]
                  have e1 : T = none := by
                    rw [HT.out, HFL.out, fill_none, Option.map_none, imS_none, HGN.out]
                  rw [e1]
                  rfl)
                have y0 := HK.out.br.cell 0
                have y1 := HK.out.br.cell 1
                have yf0 := HK.out.br.frozen 0
                have yf1 := HK.out.br.frozen 1
                have hrl := HK.out.br.lt
                have kk := (HK.out.br.set 0 (.int .i64 0)).set 1 (.slice none 0 0)
                have k0 := kk.cell 0
                have k1 := kk.cell 1
                simp only [List.setIfInBounds_toArray, List.set_cons_zero, List.set_cons_succ, List.getElem?_toArray, List.getElem?_cons_zero, List.getElem?_cons_succ] at k0 k1 y0 y1
                clear kk
                have HFB := hide (two_below (Y := w.heap.size) HK.out.b (Nat.le_refl _) (.int .i64 0) (.slice none 0 0))
                simp only [Option.isSome]
                clear HT HFL
                go_wp2_with fail
                (try simp only [Exit.inBlock, Exit.then])
                exact bodyPost_ret (v := .tuple #[.agg #[.int .i64 0, .slice none 0 0], .int .i64 3]) (by simp [results, Try.results30, go_sem, k0, k1]) rfl (by rw [HV.out]; exact ret_bad _ HFB.out)
              | some b2 =>
                obtain ⟨hn10, hrow10⟩ := HRES.out b2 rfl
                have HR10 := hide hrow10
                have HL2 := hide ((ap_len HAPF.out).trans HBL.out)
                have HN10 := hide hn10
                clear hn10 hrow10 HRES HAPF HBL
                simp only [Option.isSome]
                go_wp2_with fail
                refine ⟨⟨q + 1, b2, A10, c10, by omega, by rw [HN10.out], by go_num, HFL.out, HL2.out, HR10.out.rd, HR10.out.nil, (by have h := HS.out; rw [HFA.out] at h; exact h), HK.out⟩, by simp [intOf]; omega⟩
            · obtain rfl : q = p.fs.length := by omega
              have HFS := hide (show F = some b from by
                rw [hfl, List.drop_of_length_le (Nat.le_refl _)]
                rfl)
              clear hfl hlk hs hrd hbl hnil HRP HNP HSY
              obtain ⟨off9, hoff⟩ : ∃ off9 : Nat, pl = base + off9 := ⟨(pl - base).toNat, by omega⟩
              subst hoff
              have hoN : off9 ≤ N := by omega
              have HT2 := hide (show T = Gf (imS l (rs.map RV.zs) base k (m + 1) ((o.ps.map SV.d).drop (m + 1)) (some (over im off9 b))) from by
                rw [HT.out, HFS.out, show (base + (off9 : Int) - base).toNat = off9 by omega]
                rfl)
              have hwo : IntKind.i64.wrap (base + off9 - base) = (off9 : Int) := by rw [IntKind.wrap_i64]; omega
              have i1 := HK.out.bi.cell 1
              simp only [List.getElem?_toArray, List.getElem?_cons_zero, List.getElem?_cons_succ] at i1
              have hil := HK.out.bi.lt
              have himl := HK.out.len
              have HIM := hide himl
              clear himl HT HF HFS
              by_cases hne : off9 = N
              · subst hne
                have HOV := hide (show over im off9 b = im from by
                  unfold over
                  rw [HIM.out, Nat.sub_self, List.take_zero]
                  simp [sp])
                have HZ9 := hide (show Nat.min b.length 0 = 0 from Nat.min_zero _)
                rw [HOV.out] at HT2
                have hrun := run_copy_zero (P := Try.prog) wr 22 22 3 5 (some ⟨g, 0, none⟩) Ab 0 0 b.length cb Try.underlying22 (by kernel_rfl) HZ9.out
                go_wp2_with fail
                refine ⟨⟨m + 1, im, by omega, by go_num, HT2.out, HK.out⟩, by simp [intOf]; omega⟩
              have hne2 : ¬ N = off9 := fun e => hne e.symm
              by_cases hz : b.length = 0
              · have HOV := hide (show over im off9 b = im from by
                  obtain rfl := List.eq_nil_of_length_eq_zero hz
                  simp [over, sp])
                have HZ9 := hide (show Nat.min b.length (N - off9) = 0 from by rw [hz]; exact Nat.zero_min _)
                clear hz hne
                rw [HOV.out] at HT2
                have hrun := run_copy_zero (P := Try.prog) wr 22 22 3 5 (some ⟨g, off9, none⟩) Ab (N - off9) (N - off9) b.length cb Try.underlying22 (by kernel_rfl) HZ9.out
                go_wp2_with fail
                refine ⟨⟨m + 1, im, by omega, by go_num, HT2.out, HK.out⟩, by simp [intOf]; omega⟩
              · have hbp : 0 < b.length := by omega
                obtain ⟨cur, hgv, hcn, hput⟩ := HK.out.put hLgg.out
                have hml : (b.take (im.length - off9)).length = Nat.min b.length (N - off9) := by
                  rw [HIM.out, List.length_take, Nat.min_comm]
                  try rfl
                have hml2 : off9 + (b.take (im.length - off9)).length ≤ N := by
                  rw [hml]
                  have hmr : Nat.min b.length (N - off9) ≤ N - off9 := Nat.min_le_right _ _
                  omega
                have hlk2 := hput off9 (b.take (im.length - off9)) hml2
                obtain ⟨bz, offz, hAb, hbz, hsrc⟩ := rd_addr HRD.out hbp
                have hrun := run_copy_row (P := Try.prog) wr 22 22 3 5 g off9 (N - off9) (N - off9) ⟨bz, offz, none⟩ b.length cb cur.toArray 5 (ints .u8 (b.take (im.length - off9))) Try.underlying22 (by kernel_rfl) hgv (by rw [← hml]; simp) (fun j v hj => hsrc j v (by
                  rw [ints, List.getElem?_map] at hj ⊢
                  cases hq2 : (b.take (im.length - off9))[j]? with
                  | none => rw [hq2] at hj; cases hj
                  | some y =>
                    have hlt2 := (List.getElem?_eq_some_iff.1 hq2).1
                    rw [List.length_take] at hlt2
                    rw [List.getElem?_take_of_lt (by omega)] at hq2
                    rw [hq2]
                    rw [List.getElem?_take_of_lt (by omega), hq2] at hj
                    exact hj)) (by simp only [ints, List.length_map, List.size_toArray]; omega) oneI
                have HK2 := hide (show LK w L PA pc rs EA en ec I g N base (over im off9 b) (wr.setRow g ((cur.toArray.toList.take off9 ++ ints .u8 (b.take (im.length - off9)) ++ cur.toArray.toList.drop (off9 + (ints .u8 (b.take (im.length - off9))).length)).toArray)) from by
                  have e : (cur.toArray.toList.take off9 ++ ints .u8 (b.take (im.length - off9)) ++ cur.toArray.toList.drop (off9 + (ints .u8 (b.take (im.length - off9))).length)) = Go.splice cur off9 (ints .u8 (b.take (im.length - off9))) := by simp [Go.splice]
                  rw [e]
                  exact hlk2)
                generalize wr.setRow g ((cur.toArray.toList.take off9 ++ ints .u8 (b.take (im.length - off9)) ++ cur.toArray.toList.drop (off9 + (ints .u8 (b.take (im.length - off9))).length)).toArray) = w9 at *
                generalize (ints IntKind.u8 (b.take (im.length - off9))).length = cn at *
                subst hAb
                clear hput hgv hcn hml hml2 hlk2 hsrc hz hne HRD
                go_wp2_with fail
                refine ⟨⟨m + 1, over im off9 b, by omega, by go_num, HT2.out, HK2.out⟩, by simp [intOf]; omega⟩
        · have hme : m = o.ps.length := by omega
          subst hme
          have HT2 := hide (show T = imO l (rs.map RV.zs) base (k + 1) (l.drop (k + 1)) (some im) from by
            rw [ht, List.drop_of_length_le (by simp), HGF.out]
            rfl)
          clear ht hlk
          go_wp2_with fail
          refine ⟨⟨k + 1, im, by omega, by go_num, HT2.out, HK.out⟩, by simp [intOf]; omega⟩
    · have hke : k = os.length := by omega
      subst hke
      have HV := hide (show linkR l base = (base, im, 0) from by
        rw [HLR.out, ht, List.drop_of_length_le (by rw [← HLL.out]; simp)]
        rfl)
      have i0' := HK.out.bi.cell 0
      have i1' := HK.out.bi.cell 1
      have y0 := HK.out.br.cell 0
      have y1 := HK.out.br.cell 1
      have yf0 := HK.out.br.frozen 0
      have yf1 := HK.out.br.frozen 1
      have hrl := HK.out.br.lt
      have hil := HK.out.bi.lt
      have kk := (HK.out.br.set 0 (.int .i64 base)).set 1 (.slice (some ⟨g, 0, none⟩) N N)
      have k0 := kk.cell 0
      have k1 := kk.cell 1
      simp only [List.setIfInBounds_toArray, List.set_cons_zero, List.set_cons_succ, List.getElem?_toArray, List.getElem?_cons_zero, List.getElem?_cons_succ] at k0 k1 y0 y1 i0' i1'
      clear kk
      have HIM := hide HK.out.len
      have HFB := hide (show RetL (base, im, 0) w (.returned (.tuple #[.agg #[.int .i64 base, .slice (some ⟨g, 0, none⟩) N N], .int .i64 0])) ((wr.setCell ⟨w.heap.size, 0, none⟩ (.int .i64 base)).setCell ⟨w.heap.size, 1, none⟩ (.slice (some ⟨g, 0, none⟩) N N)) from by
        refine ⟨some ⟨g, 0, none⟩, N, by rw [HIM.out], ?_, two_below (Y := w.heap.size) HK.out.b (Nat.le_refl _) _ _⟩
        have r0 : Row wr w.heap.size 5 1 (some ⟨g, 0, none⟩) N N (ints .u8 im) := .inr HK.out.row
        have r1 := (r0.set (a := ⟨w.heap.size, 0, none⟩) (fun j hj => r0.box HK.out.br (by decide) j hj) (.int .i64 base))
        have r2 := (r1.set (a := ⟨w.heap.size, 1, none⟩) (fun j hj => r0.box HK.out.br (by decide) j hj) (.slice (some ⟨g, 0, none⟩) N N))
        simp only [HIM.out]
        exact r2)
      clear ht hlk
      go_wp2_with fail
      (try simp only [Exit.inBlock, Exit.then])
      exact bodyPost_ret (v := .tuple #[.agg #[.int .i64 base, .slice (some ⟨g, 0, none⟩) N N], .int .i64 0]) (by simp [results, Try.results30, go_sem, k0, k1]) rfl (by rw [HV.out]; exact HFB.out)
end Go.Proofs.Ytmglgjchemecjaa.CLink
/- Contracts of the laws' comparisons of lists. -/
namespace Go.Proofs.Ytmglgjchemecjaa.CSame
set_option maxRecDepth 200000
open Go.ChangeShapes Go.WideShapes Go.ChangeAt Go.RowKit Kit
theorem sameBytes_any (A A' : Option Addr) (xs ys : List Int) (c c' B : Nat) (w : World) (hr : Rd w B A (ints .u8 xs)) (hr' : Rd w B A' (ints .u8 ys)) (hm : xs.length ≤ maxLen) (hm' : ys.length ≤ maxLen) :
    Calls Try.prog 85 #[.slice A xs.length c, .slice A' ys.length c'] w fun e w' => e = .returned (.bool (xs == ys)) ∧ ∃ n, w' = w.drewN n := by
  unfold maxLen at hm hm'
  by_cases hl : xs.length = ys.length
  · have h0 : (((xs.length : Nat) : Int) != (ys.length : Nat)) = false := by simp; omega
    go_enter Try.func85, Try.ntmps85
    go_wp2
    clear h0
    have HL := hide hl
    go_loopw [5] (fun i wr => ∃ k : Nat, k ≤ xs.length ∧ i = .int .i64 k ∧ xs.take k = ys.take k ∧ ∃ n, wr = w.drewN n) (fun i _ => xs.length - (intOf i).toNat)
    case atStart => exact ⟨0, Nat.zero_le _, rfl, rfl, 0, rfl⟩
    case round =>
      obtain ⟨k, hk, rfl, he, n, rfl⟩ := hrel
      have HE := hide he
      clear he hl
      by_cases hlt : k < xs.length
      · obtain ⟨b, off, rfl, _, hc⟩ := hr.int hlt
        obtain ⟨b', off', rfl, _, hc'⟩ := hr'.int (i := k) (by have := HL.out; omega)
        clear hr hr'
        have hlt' : k < ys.length := by have := HL.out; omega
        by_cases hxy : xs[k] = ys[k]
        · have HE' := hide (show xs.take (k + 1) = ys.take (k + 1) by rw [take_succ hlt, take_succ hlt', HE.out, hxy])
          have hn : (xs[k] != ys[k]) = false := by simpa using hxy
          clear hxy
          go_wp2_with fail
          go_quiet (fail)
          go_wp2
          go_roundw
          case rel => exact ⟨k + 1, by omega, by go_num, HE'.out, _, rfl⟩
          case measure => simp [intOf]; omega
        · have hn : (xs[k] != ys[k]) = true := by simpa using hxy
          have HF := hide (show (xs == ys) = false by
            apply beq_eq_false_iff_ne.2
            intro e
            subst e
            exact hxy rfl)
          clear hxy
          go_wp2_with fail
          go_quiet (fail)
          go_wp2
          go_ret
          exact ⟨ret_bool HF.out.symm, _, World.drewN_drewN ..⟩
      · have HF := hide (show (xs == ys) = true by
          have e := HE.out
          have := HL.out
          rw [List.take_of_length_le (by omega), List.take_of_length_le (by omega)] at e
          subst e
          simp)
        clear hr hr'
        go_wp2
        go_ret
        exact ⟨ret_bool HF.out.symm, _, rfl⟩
  · have h1 : (((xs.length : Nat) : Int) != (ys.length : Nat)) = true := by simp; omega
    have h2 : (xs == ys) = false := by simp; intro e; exact hl (by rw [e])
    have H2 := hide h2
    clear h2 hl
    go_enter Try.func85, Try.ntmps85
    go_wp2
    go_ret
    exact ⟨ret_bool H2.out.symm, 0, rfl⟩
end Go.Proofs.Ytmglgjchemecjaa.CSame
/- The laws' comparisons of sections, objects and images, where both are equal. -/
namespace Go.Proofs.Ytmglgjchemecjaa.CSameO
set_option maxRecDepth 200000
open Go.ChangeShapes Go.WideShapes Go.ChangeAt Go.RowKit Kit CFixups CSymbols PObj BObj CSame
theorem sameImage_same (b : Int) (A A' : Option Addr) (zs : List Int) (c c' : Nat) (w : World) (h : Rd w w.heap.size A (ints .u8 zs)) (h' : Rd w w.heap.size A' (ints .u8 zs)) (hm : zs.length ≤ maxLen) :
    Calls Try.prog 32 #[.agg #[.int .i64 b, .slice A zs.length c], .agg #[.int .i64 b, .slice A' zs.length c']] w (Ret (.bool true) w) := by
  have B0 : Below w.heap.size w ((w.alloc (.cells #[.int .i64 b, .slice A zs.length c] 48)).alloc (.cells #[.int .i64 b, .slice A' zs.length c'] 48)) := (by repeat (first | exact Below.refl _ _ | with_reducible assumption | (refine Below.drew ?_) | (refine Below.drewN ?_ _) | (refine Below.alloc ?_ (by simp; try omega) _) | (refine Below.setCell ?_ (by simp; try omega) _)))
  have HR := hide (h.below B0)
  have HR' := hide (h'.below B0)
  have HB := hide B0
  clear h h' B0
  go_enter Try.func32, Try.ntmps32
  go_wp2_with fail
  generalize (w.alloc (.cells #[.int .i64 b, .slice A zs.length c] 48)).alloc (.cells #[.int .i64 b, .slice A' zs.length c'] 48) = w0 at *
  refine (sameBytes_any A A' zs zs c c' w.heap.size w0 HR.out HR'.out hm hm).mono ?_
  rintro e w' ⟨rfl, n, rfl⟩
  rw [beq_self_eq_true]
  go_wp2_with fail
  go_ret
  exact ⟨rfl, Kit.Below.drewN HB.out _⟩
set_option maxHeartbeats 2000000 in
theorem sameSection_same (p : SV) (A' : Option Addr) (c' : Nat) (F' : Option Addr) (fc' : Nat) (w : World) (h : RdS w w.heap.size p) (hA : Rd w w.heap.size A' (ints .u8 p.zs)) (hF : Rd w w.heap.size F' (cellsOf fixupC p.fs)) (hm : p.zs.length ≤ 1000 ∧ p.fs.length ≤ 1000) :
    Calls Try.prog 73 #[.agg #[.string p.nm, .int .i64 p.kd, .int .i64 p.al, .slice p.A p.zs.length p.c, .int .i64 p.sz, .slice p.F p.fs.length p.fc], .agg #[.string p.nm, .int .i64 p.kd, .int .i64 p.al, .slice A' p.zs.length c', .int .i64 p.sz, .slice F' p.fs.length fc']] w (Ret (.bool true) w) := by
  obtain ⟨hm1, hm2⟩ := hm
  have B0 : Below w.heap.size w ((w.alloc (.cells #[.string p.nm, .int .i64 p.kd, .int .i64 p.al, .slice p.A p.zs.length p.c, .int .i64 p.sz, .slice p.F p.fs.length p.fc] 73)).alloc (.cells #[.string p.nm, .int .i64 p.kd, .int .i64 p.al, .slice A' p.zs.length c', .int .i64 p.sz, .slice F' p.fs.length fc'] 73)) := (by repeat (first | exact Below.refl _ _ | with_reducible assumption | (refine Below.drew ?_) | (refine Below.drewN ?_ _) | (refine Below.alloc ?_ (by simp; try omega) _) | (refine Below.setCell ?_ (by simp; try omega) _)))
  have HR := hide (h.below B0)
  have HRA := hide (hA.below B0)
  have HRF := hide (hF.below B0)
  have HB := hide B0
  have HX := hide ((Box.new w 73 #[.string p.nm, .int .i64 p.kd, .int .i64 p.al, .slice p.A p.zs.length p.c, .int .i64 p.sz, .slice p.F p.fs.length p.fc]).alloc (.cells #[.string p.nm, .int .i64 p.kd, .int .i64 p.al, .slice A' p.zs.length c', .int .i64 p.sz, .slice F' p.fs.length fc'] 73))
  have HY0 := Box.new (w.alloc (.cells #[.string p.nm, .int .i64 p.kd, .int .i64 p.al, .slice p.A p.zs.length p.c, .int .i64 p.sz, .slice p.F p.fs.length p.fc] 73)) 73 #[.string p.nm, .int .i64 p.kd, .int .i64 p.al, .slice A' p.zs.length c', .int .i64 p.sz, .slice F' p.fs.length fc']
  simp only [World.size_alloc] at HY0
  have HY := hide HY0
  clear h hA hF B0 HY0
  go_enter Try.func73, Try.ntmps73
  go_wp2_with fail
  generalize (w.alloc (.cells #[.string p.nm, .int .i64 p.kd, .int .i64 p.al, .slice p.A p.zs.length p.c, .int .i64 p.sz, .slice p.F p.fs.length p.fc] 73)).alloc (.cells #[.string p.nm, .int .i64 p.kd, .int .i64 p.al, .slice A' p.zs.length c', .int .i64 p.sz, .slice F' p.fs.length fc'] 73) = w0 at *
  generalize w.heap.size + 1 = Y at *
  refine (sameBytes_any p.A A' p.zs p.zs p.c c' w.heap.size w0 HR.out.1 HRA.out (by unfold maxLen; omega) (by unfold maxLen; omega)).mono ?_
  rintro e w' ⟨rfl, n, rfl⟩
  rw [beq_self_eq_true]
  have bd : Below w0.heap.size w0 (w0.drewN n) := below_dn (Below.refl _ _)
  replace HR := hide (HR.out.below (bd.mono HB.out.size))
  replace HRF := hide (HRF.out.below (bd.mono HB.out.size))
  replace HB := hide (HB.out.trans (bd.mono HB.out.size))
  replace HX := hide (HX.out.call bd)
  replace HY := hide (HY.out.call bd)
  clear bd
  generalize w0.drewN n = w1 at *
  have x5 := HX.out.cell 5
  simp only [List.getElem?_toArray, List.getElem?_cons_zero, List.getElem?_cons_succ] at x5
  have y5 := HY.out.cell 5
  simp only [List.getElem?_toArray, List.getElem?_cons_zero, List.getElem?_cons_succ] at y5
  have hxl := HX.out.lt
  have hyl := HY.out.lt
  go_wp2_with fail
  clear x5 y5 hxl hyl
  go_loopw [5] (fun i wi => ∃ (k : Nat), k ≤ p.fs.length ∧ i = .int .i64 k ∧ Below w1.heap.size w1 wi) (fun i _ => p.fs.length - (intOf i).toNat)
  case atStart => exact ⟨0, Nat.zero_le _, rfl, Below.refl _ _⟩
  case round =>
    obtain ⟨k, hk, rfl, hb⟩ := hrel
    have HBI := hide hb
    have HX2 := hide (HX.out.call hb)
    have HY2 := hide (HY.out.call hb)
    by_cases hlt : k < p.fs.length
    · have hbl : Below w.heap.size w1 wr := hb.mono HB.out.size
      obtain ⟨b1, o1, hA1, hb1, hc⟩ := (HR.out.2.below hbl).row fixupC_len (by decide) hlt
      obtain ⟨b2, o2, hA2, hb2, hd⟩ := (HRF.out.below hbl).row fixupC_len (by decide) hlt
      have hc0 := hc 0 _ rfl
      have hc1 := hc 1 _ rfl
      have hc2 := hc 2 _ rfl
      have hc3 := hc 3 _ rfl
      have hd0 := hd 0 _ rfl
      have hd1 := hd 1 _ rfl
      have hd2 := hd 2 _ rfl
      have hd3 := hd 3 _ rfl
      simp only [Nat.add_zero] at hc0 hd0
      clear hc hd hbl hb
      have x5 := HX2.out.cell 5
      simp only [List.getElem?_toArray, List.getElem?_cons_zero, List.getElem?_cons_succ] at x5
      have y5 := HY2.out.cell 5
      simp only [List.getElem?_toArray, List.getElem?_cons_zero, List.getElem?_cons_succ] at y5
      rw [hA1] at x5
      rw [hA2] at y5
      have hxl := HX2.out.lt
      have hyl := HY2.out.lt
      clear hA1 hA2
      generalize p.fs[k] = z at *
      obtain ⟨z1, z2, z3, z4⟩ := z
      simp only at hc0 hc1 hc2 hc3 hd0 hd1 hd2 hd3
      go_wp2_with fail
      go_quiet (fail)
      go_wp2_with fail
      refine ⟨⟨k + 1, by omega, by go_num, Kit.Below.drewN HBI.out _⟩, by first | (simp [intOf]; done) | (simp [intOf]; omega)⟩
    · have hke : k = p.fs.length := by omega
      have x5 := HX2.out.cell 5
      simp only [List.getElem?_toArray, List.getElem?_cons_zero, List.getElem?_cons_succ] at x5
      have hxl := HX2.out.lt
      subst hke
      clear hb
      go_wp2_with fail
      go_ret
      exact ⟨rfl, HB.out.trans (HBI.out.mono HB.out.size)⟩
def Lim (o : OV) : Prop := o.ps.length ≤ 1000 ∧ o.ys.length ≤ 1000 ∧ ∀ p ∈ o.ps, p.zs.length ≤ 1000 ∧ p.fs.length ≤ 1000
set_option maxHeartbeats 4000000 in
theorem sameObject_same (o o' : OV) (hd : o'.d = o.d) (w : World) (h : RdO w w.heap.size o) (h' : RdO w w.heap.size o') (hm : Lim o) :
    Calls Try.prog 28 #[.agg #[.slice o.A o.ps.length o.c, .slice o.Y o.ys.length o.yc], .agg #[.slice o'.A o'.ps.length o'.c, .slice o'.Y o'.ys.length o'.yc]] w (Ret (.bool true) w) := by
  obtain ⟨hm1, hm2, hm3⟩ := hm
  have hps : o'.ps.map SV.d = o.ps.map SV.d := congrArg OD.ss hd
  have hys : o'.ys = o.ys := congrArg OD.ys hd
  have hpl : o'.ps.length = o.ps.length := by simpa using congrArg List.length hps
  have HM := hide hm3
  have HPS := hide hps
  clear hd hm3 hps
  rw [hys, hpl]
  have B0 : Below w.heap.size w ((w.alloc (.cells #[.slice o.A o.ps.length o.c, .slice o.Y o.ys.length o.yc] 26)).alloc (.cells #[.slice o'.A o.ps.length o'.c, .slice o'.Y o.ys.length o'.yc] 26)) := (by repeat (first | exact Below.refl _ _ | with_reducible assumption | (refine Below.drew ?_) | (refine Below.drewN ?_ _) | (refine Below.alloc ?_ (by simp; try omega) _) | (refine Below.setCell ?_ (by simp; try omega) _)))
  have HR := hide (h.below B0)
  have HR' := hide (h'.below B0)
  have HB := hide B0
  have HX := hide ((Box.new w 26 #[.slice o.A o.ps.length o.c, .slice o.Y o.ys.length o.yc]).alloc (.cells #[.slice o'.A o.ps.length o'.c, .slice o'.Y o.ys.length o'.yc] 26))
  have HY0 := Box.new (w.alloc (.cells #[.slice o.A o.ps.length o.c, .slice o.Y o.ys.length o.yc] 26)) 26 #[.slice o'.A o.ps.length o'.c, .slice o'.Y o.ys.length o'.yc]
  simp only [World.size_alloc] at HY0
  have HY := hide HY0
  have HYS := hide hys
  have HPL := hide hpl
  clear h h' B0 HY0 hys hpl
  go_enter Try.func28, Try.ntmps28
  go_wp2_with fail
  generalize (w.alloc (.cells #[.slice o.A o.ps.length o.c, .slice o.Y o.ys.length o.yc] 26)).alloc (.cells #[.slice o'.A o.ps.length o'.c, .slice o'.Y o.ys.length o'.yc] 26) = w1 at *
  generalize w.heap.size + 1 = Y at *
  go_loopw [5] (fun i wi => ∃ (k : Nat), k ≤ o.ps.length ∧ i = .int .i64 k ∧ Below w1.heap.size w1 wi) (fun i _ => o.ps.length - (intOf i).toNat)
  case atStart => exact ⟨0, Nat.zero_le _, rfl, Below.refl _ _⟩
  case round =>
    obtain ⟨k, hk, rfl, hb⟩ := hrel
    have HBI := hide hb
    have HX2 := hide (HX.out.call hb)
    have HY2 := hide (HY.out.call hb)
    by_cases hlt : k < o.ps.length
    · have hbl : Below w.heap.size w1 wr := hb.mono HB.out.size
      have hlt' : k < o'.ps.length := by rw [HPL.out]; exact hlt
      obtain ⟨b1, o1, hA1, hb1, hc⟩ := (HR.out.1.1.below hbl).row secC_len (by decide) hlt
      obtain ⟨b2, o2, hA2, hb2, hd⟩ := (HR'.out.1.1.below hbl).row secC_len (by decide) hlt'
      have HP := hide ((HR.out.1.2 _ (List.getElem_mem hlt)).below hbl)
      have HP' := hide ((HR'.out.1.2 _ (List.getElem_mem hlt')).below hbl)
      have hdd : (o'.ps[k]).d = (o.ps[k]).d := by
        have e : (o'.ps.map SV.d)[k]? = (o.ps.map SV.d)[k]? := by rw [HPS.out]
        rw [List.getElem?_map, List.getElem?_map, List.getElem?_eq_getElem hlt, List.getElem?_eq_getElem hlt'] at e
        exact Option.some.inj e
      have hlim := HM.out _ (List.getElem_mem hlt)
      have hc0 := hc 0 _ rfl
      have hc1 := hc 1 _ rfl
      have hc2 := hc 2 _ rfl
      have hc3 := hc 3 _ rfl
      have hc4 := hc 4 _ rfl
      have hc5 := hc 5 _ rfl
      have hd0 := hd 0 _ rfl
      have hd1 := hd 1 _ rfl
      have hd2 := hd 2 _ rfl
      have hd3 := hd 3 _ rfl
      have hd4 := hd 4 _ rfl
      have hd5 := hd 5 _ rfl
      simp only [Nat.add_zero] at hc0 hd0
      clear hc hd hb
      have x0 := HX2.out.cell 0
      simp only [List.getElem?_toArray, List.getElem?_cons_zero, List.getElem?_cons_succ] at x0
      have y0 := HY2.out.cell 0
      simp only [List.getElem?_toArray, List.getElem?_cons_zero, List.getElem?_cons_succ] at y0
      rw [hA1] at x0
      rw [hA2] at y0
      clear hA1 hA2
      generalize o'.ps[k] = q at *
      generalize o.ps[k] = p at *
      obtain ⟨qn, qk, qa, qA, qc, qz, qs, qF, qfc, qf⟩ := q
      obtain ⟨pn, pk, pa, pA, pc, pz, psz, pF, pfc, pf⟩ := p
      simp only [SV.d, SD.mk.injEq] at hdd
      obtain ⟨rfl, rfl, rfl, rfl, rfl, rfl⟩ := hdd
      simp only at hc0 hc1 hc2 hc3 hc4 hc5 hd0 hd1 hd2 hd3 hd4 hd5 hlim
      have hxl := HX2.out.lt
      have hyl := HY2.out.lt
      obtain ⟨hlim1, hlim2⟩ := hlim
      have HLM := hide (And.intro hlim1 hlim2)
      go_wp2_with fail
      have Z0 : wr.cell? ⟨w.heap.size, 0, none⟩ = some (.slice (some ⟨b1, o1, none⟩) o.ps.length o.c) ∧ wr.cell? ⟨Y, 0, none⟩ = some (.slice (some ⟨b2, o2, none⟩) o.ps.length o'.c) ∧ wr.cell? ⟨b1, o1 + k * 6, none⟩ = some (.string qn) ∧ wr.cell? ⟨b1, o1 + k * 6 + 1, none⟩ = some (.int .i64 qk) ∧ wr.cell? ⟨b1, o1 + k * 6 + 2, none⟩ = some (.int .i64 qa) ∧ wr.cell? ⟨b1, o1 + k * 6 + 3, none⟩ = some (.slice pA qz.length pc) ∧ wr.cell? ⟨b1, o1 + k * 6 + 4, none⟩ = some (.int .i64 qs) ∧ wr.cell? ⟨b1, o1 + k * 6 + 5, none⟩ = some (.slice pF qf.length pfc) ∧ wr.cell? ⟨b2, o2 + k * 6, none⟩ = some (.string qn) ∧ wr.cell? ⟨b2, o2 + k * 6 + 1, none⟩ = some (.int .i64 qk) ∧ wr.cell? ⟨b2, o2 + k * 6 + 2, none⟩ = some (.int .i64 qa) ∧ wr.cell? ⟨b2, o2 + k * 6 + 3, none⟩ = some (.slice qA qz.length qc) ∧ wr.cell? ⟨b2, o2 + k * 6 + 4, none⟩ = some (.int .i64 qs) ∧ wr.cell? ⟨b2, o2 + k * 6 + 5, none⟩ = some (.slice qF qf.length qfc) := ⟨x0, y0, hc0, hc1, hc2, hc3, hc4, hc5, hd0, hd1, hd2, hd3, hd4, hd5⟩
      refine Reg.startT (fun W => W.cell? ⟨w.heap.size, 0, none⟩ = some (.slice (some ⟨b1, o1, none⟩) o.ps.length o.c) ∧ W.cell? ⟨Y, 0, none⟩ = some (.slice (some ⟨b2, o2, none⟩) o.ps.length o'.c) ∧ W.cell? ⟨b1, o1 + k * 6, none⟩ = some (.string qn) ∧ W.cell? ⟨b1, o1 + k * 6 + 1, none⟩ = some (.int .i64 qk) ∧ W.cell? ⟨b1, o1 + k * 6 + 2, none⟩ = some (.int .i64 qa) ∧ W.cell? ⟨b1, o1 + k * 6 + 3, none⟩ = some (.slice pA qz.length pc) ∧ W.cell? ⟨b1, o1 + k * 6 + 4, none⟩ = some (.int .i64 qs) ∧ W.cell? ⟨b1, o1 + k * 6 + 5, none⟩ = some (.slice pF qf.length pfc) ∧ W.cell? ⟨b2, o2 + k * 6, none⟩ = some (.string qn) ∧ W.cell? ⟨b2, o2 + k * 6 + 1, none⟩ = some (.int .i64 qk) ∧ W.cell? ⟨b2, o2 + k * 6 + 2, none⟩ = some (.int .i64 qa) ∧ W.cell? ⟨b2, o2 + k * 6 + 3, none⟩ = some (.slice qA qz.length qc) ∧ W.cell? ⟨b2, o2 + k * 6 + 4, none⟩ = some (.int .i64 qs) ∧ W.cell? ⟨b2, o2 + k * 6 + 5, none⟩ = some (.slice qF qf.length qfc)) (fun _ => false) (by kernel_rfl) ?_
      have hHeld : wr.drew.cell? ⟨w.heap.size, 0, none⟩ = some (.slice (some ⟨b1, o1, none⟩) o.ps.length o.c) ∧ wr.drew.cell? ⟨Y, 0, none⟩ = some (.slice (some ⟨b2, o2, none⟩) o.ps.length o'.c) ∧ wr.drew.cell? ⟨b1, o1 + k * 6, none⟩ = some (.string qn) ∧ wr.drew.cell? ⟨b1, o1 + k * 6 + 1, none⟩ = some (.int .i64 qk) ∧ wr.drew.cell? ⟨b1, o1 + k * 6 + 2, none⟩ = some (.int .i64 qa) ∧ wr.drew.cell? ⟨b1, o1 + k * 6 + 3, none⟩ = some (.slice pA qz.length pc) ∧ wr.drew.cell? ⟨b1, o1 + k * 6 + 4, none⟩ = some (.int .i64 qs) ∧ wr.drew.cell? ⟨b1, o1 + k * 6 + 5, none⟩ = some (.slice pF qf.length pfc) ∧ wr.drew.cell? ⟨b2, o2 + k * 6, none⟩ = some (.string qn) ∧ wr.drew.cell? ⟨b2, o2 + k * 6 + 1, none⟩ = some (.int .i64 qk) ∧ wr.drew.cell? ⟨b2, o2 + k * 6 + 2, none⟩ = some (.int .i64 qa) ∧ wr.drew.cell? ⟨b2, o2 + k * 6 + 3, none⟩ = some (.slice qA qz.length qc) ∧ wr.drew.cell? ⟨b2, o2 + k * 6 + 4, none⟩ = some (.int .i64 qs) ∧ wr.drew.cell? ⟨b2, o2 + k * 6 + 5, none⟩ = some (.slice qF qf.length qfc) := Z0
      clear Z0 x0 y0 hc0 hc1 hc2 hc3 hc4 hc5 hd0 hd1 hd2 hd3 hd4 hd5
      refine Reg.takeT (i := 0) (v := ?_) rfl (by kernel_rfl) (by kernel_rfl) (by kernel_rfl) (by kernel_rfl) (fun _ _ _ h => h) (Or.inl ⟨by rfl, ?_⟩) (by assumption) ?_
      rotate_left 1
      focus (intro w hSw; (try dsimp only at hSw); go_simp; (try with_reducible rfl))
      try simp only [List.getElem_toArray, List.getElem_cons_succ, List.getElem_cons_zero, Act.put, List.setIfInBounds_toArray, List.set_cons_zero, List.set_cons_succ]
      refine Reg.takeT (i := 1) (v := ?_) rfl (by kernel_rfl) (by kernel_rfl) (by kernel_rfl) (by kernel_rfl) (fun _ _ _ h => h) (Or.inl ⟨by rfl, ?_⟩) (by assumption) ?_
      rotate_left 1
      focus (intro w hSw; (try dsimp only at hSw); go_simp; (try with_reducible rfl))
      try simp only [List.getElem_toArray, List.getElem_cons_succ, List.getElem_cons_zero, Act.put, List.setIfInBounds_toArray, List.set_cons_zero, List.set_cons_succ]
      refine Reg.takeT (i := 2) (v := ?_) rfl (by kernel_rfl) (by kernel_rfl) (by kernel_rfl) (by kernel_rfl) (fun _ _ _ h => h) (Or.inl ⟨by rfl, ?_⟩) (by assumption) ?_
      rotate_left 1
      focus (intro w hSw; (try dsimp only at hSw); go_simp; (try with_reducible rfl))
      try simp only [List.getElem_toArray, List.getElem_cons_succ, List.getElem_cons_zero, Act.put, List.setIfInBounds_toArray, List.set_cons_zero, List.set_cons_succ]
      refine Reg.takeT (i := 3) (v := ?_) rfl (by kernel_rfl) (by kernel_rfl) (by kernel_rfl) (by kernel_rfl) (fun _ _ _ h => h) (Or.inl ⟨by rfl, ?_⟩) (by assumption) ?_
      rotate_left 1
      focus (intro w hSw; (try dsimp only at hSw); go_simp; (try with_reducible rfl))
      try simp only [List.getElem_toArray, List.getElem_cons_succ, List.getElem_cons_zero, Act.put, List.setIfInBounds_toArray, List.set_cons_zero, List.set_cons_succ]
      refine Reg.takeT (i := 4) (v := ?_) rfl (by kernel_rfl) (by kernel_rfl) (by kernel_rfl) (by kernel_rfl) (fun _ _ _ h => h) (Or.inl ⟨by rfl, ?_⟩) (by assumption) ?_
      rotate_left 1
      focus (intro w hSw; (try dsimp only at hSw); go_simp; (try with_reducible rfl))
      try simp only [List.getElem_toArray, List.getElem_cons_succ, List.getElem_cons_zero, Act.put, List.setIfInBounds_toArray, List.set_cons_zero, List.set_cons_succ]
      refine Reg.takeT (i := 5) (v := ?_) rfl (by kernel_rfl) (by kernel_rfl) (by kernel_rfl) (by kernel_rfl) (fun _ _ _ h => h) (Or.inl ⟨by rfl, ?_⟩) (by assumption) ?_
      rotate_left 1
      focus (intro w hSw; (try dsimp only at hSw); go_simp; (try with_reducible rfl))
      try simp only [List.getElem_toArray, List.getElem_cons_succ, List.getElem_cons_zero, Act.put, List.setIfInBounds_toArray, List.set_cons_zero, List.set_cons_succ]
      refine Reg.takeT (i := 6) (v := ?_) rfl (by kernel_rfl) (by kernel_rfl) (by kernel_rfl) (by kernel_rfl) (fun _ _ _ h => h) (Or.inl ⟨by rfl, ?_⟩) (by assumption) ?_
      rotate_left 1
      focus (intro w hSw; (try dsimp only at hSw); go_simp; (try with_reducible rfl))
      try simp only [List.getElem_toArray, List.getElem_cons_succ, List.getElem_cons_zero, Act.put, List.setIfInBounds_toArray, List.set_cons_zero, List.set_cons_succ]
      refine Reg.takeT (i := 7) (v := ?_) rfl (by kernel_rfl) (by kernel_rfl) (by kernel_rfl) (by kernel_rfl) (fun _ _ _ h => h) (Or.inl ⟨by rfl, ?_⟩) (by assumption) ?_
      rotate_left 1
      focus (intro w hSw; (try dsimp only at hSw); go_simp; (try with_reducible rfl))
      try simp only [List.getElem_toArray, List.getElem_cons_succ, List.getElem_cons_zero, Act.put, List.setIfInBounds_toArray, List.set_cons_zero, List.set_cons_succ]
      refine Reg.takeT (i := 8) (v := ?_) rfl (by kernel_rfl) (by kernel_rfl) (by kernel_rfl) (by kernel_rfl) (fun _ _ _ h => h) (Or.inl ⟨by rfl, ?_⟩) (by assumption) ?_
      rotate_left 1
      focus (intro w hSw; (try dsimp only at hSw); go_simp; (try with_reducible rfl))
      try simp only [List.getElem_toArray, List.getElem_cons_succ, List.getElem_cons_zero, Act.put, List.setIfInBounds_toArray, List.set_cons_zero, List.set_cons_succ]
      refine Reg.takeT (i := 9) (v := ?_) rfl (by kernel_rfl) (by kernel_rfl) (by kernel_rfl) (by kernel_rfl) (fun _ _ _ h => h) (Or.inl ⟨by rfl, ?_⟩) (by assumption) ?_
      rotate_left 1
      focus (intro w hSw; (try dsimp only at hSw); go_simp; (try with_reducible rfl))
      try simp only [List.getElem_toArray, List.getElem_cons_succ, List.getElem_cons_zero, Act.put, List.setIfInBounds_toArray, List.set_cons_zero, List.set_cons_succ]
      have bd : Below wr.heap.size wr wr.drew := below_dr (Below.refl _ _)
      have HBD := hide (HBI.out.trans (bd.mono HBI.out.size))
      have hwl : w.heap.size ≤ wr.drew.heap.size := Nat.le_trans (Nat.le_of_lt hxl) (Nat.le_refl _)
      refine Reg.oneT (i := 10) rfl (by kernel_rfl) (fun K hK => ?_)
      go_simp
      refine (sameSection_same ⟨qn, qk, qa, pA, pc, qz, qs, pF, pfc, qf⟩ qA qc qF qfc wr.drew ((HP.out.below (bd.mono (Nat.le_of_lt hxl))).more hwl) ((HP'.out.1.below (bd.mono (Nat.le_of_lt hxl))).more hwl) ((HP'.out.2.below (bd.mono (Nat.le_of_lt hxl))).more hwl) HLM.out).mono ?_
      rintro e w4 ⟨rfl, b4⟩
      have HB4 := hide (HBD.out.trans (b4.mono HBD.out.size))
      obtain ⟨a1, a2, a3, a4, a5, a6, a7, a8, a9, a10, a11, a12, a13, a14⟩ := hHeld
      refine hK.out _ _ ⟨(b4.cell (World.block_lt_of_cell? _ _ a1)).trans a1, (b4.cell (World.block_lt_of_cell? _ _ a2)).trans a2, (b4.cell (World.block_lt_of_cell? _ _ a3)).trans a3, (b4.cell (World.block_lt_of_cell? _ _ a4)).trans a4, (b4.cell (World.block_lt_of_cell? _ _ a5)).trans a5, (b4.cell (World.block_lt_of_cell? _ _ a6)).trans a6, (b4.cell (World.block_lt_of_cell? _ _ a7)).trans a7, (b4.cell (World.block_lt_of_cell? _ _ a8)).trans a8, (b4.cell (World.block_lt_of_cell? _ _ a9)).trans a9, (b4.cell (World.block_lt_of_cell? _ _ a10)).trans a10, (b4.cell (World.block_lt_of_cell? _ _ a11)).trans a11, (b4.cell (World.block_lt_of_cell? _ _ a12)).trans a12, (b4.cell (World.block_lt_of_cell? _ _ a13)).trans a13, (b4.cell (World.block_lt_of_cell? _ _ a14)).trans a14⟩ ?_
      have hHeld : w4.cell? ⟨w.heap.size, 0, none⟩ = some (.slice (some ⟨b1, o1, none⟩) o.ps.length o.c) ∧ w4.cell? ⟨Y, 0, none⟩ = some (.slice (some ⟨b2, o2, none⟩) o.ps.length o'.c) ∧ w4.cell? ⟨b1, o1 + k * 6, none⟩ = some (.string qn) ∧ w4.cell? ⟨b1, o1 + k * 6 + 1, none⟩ = some (.int .i64 qk) ∧ w4.cell? ⟨b1, o1 + k * 6 + 2, none⟩ = some (.int .i64 qa) ∧ w4.cell? ⟨b1, o1 + k * 6 + 3, none⟩ = some (.slice pA qz.length pc) ∧ w4.cell? ⟨b1, o1 + k * 6 + 4, none⟩ = some (.int .i64 qs) ∧ w4.cell? ⟨b1, o1 + k * 6 + 5, none⟩ = some (.slice pF qf.length pfc) ∧ w4.cell? ⟨b2, o2 + k * 6, none⟩ = some (.string qn) ∧ w4.cell? ⟨b2, o2 + k * 6 + 1, none⟩ = some (.int .i64 qk) ∧ w4.cell? ⟨b2, o2 + k * 6 + 2, none⟩ = some (.int .i64 qa) ∧ w4.cell? ⟨b2, o2 + k * 6 + 3, none⟩ = some (.slice qA qz.length qc) ∧ w4.cell? ⟨b2, o2 + k * 6 + 4, none⟩ = some (.int .i64 qs) ∧ w4.cell? ⟨b2, o2 + k * 6 + 5, none⟩ = some (.slice qF qf.length qfc) := ⟨(b4.cell (World.block_lt_of_cell? _ _ a1)).trans a1, (b4.cell (World.block_lt_of_cell? _ _ a2)).trans a2, (b4.cell (World.block_lt_of_cell? _ _ a3)).trans a3, (b4.cell (World.block_lt_of_cell? _ _ a4)).trans a4, (b4.cell (World.block_lt_of_cell? _ _ a5)).trans a5, (b4.cell (World.block_lt_of_cell? _ _ a6)).trans a6, (b4.cell (World.block_lt_of_cell? _ _ a7)).trans a7, (b4.cell (World.block_lt_of_cell? _ _ a8)).trans a8, (b4.cell (World.block_lt_of_cell? _ _ a9)).trans a9, (b4.cell (World.block_lt_of_cell? _ _ a10)).trans a10, (b4.cell (World.block_lt_of_cell? _ _ a11)).trans a11, (b4.cell (World.block_lt_of_cell? _ _ a12)).trans a12, (b4.cell (World.block_lt_of_cell? _ _ a13)).trans a13, (b4.cell (World.block_lt_of_cell? _ _ a14)).trans a14⟩
      clear hK K a1 a2 a3 a4 a5 a6 a7 a8 a9 a10 a11 a12 a13 a14 b4 bd
      try simp only [List.getElem_toArray, List.getElem_cons_succ, List.getElem_cons_zero, Act.put, List.setIfInBounds_toArray, List.set_cons_zero, List.set_cons_succ]
      refine Reg.takeT (i := 11) (v := ?_) rfl (by kernel_rfl) (by kernel_rfl) (by kernel_rfl) (by kernel_rfl) (fun _ _ _ h => h) (Or.inl ⟨by rfl, ?_⟩) (by assumption) ?_
      rotate_left 1
      focus (intro w hSw; (try dsimp only at hSw); go_simp; (try with_reducible rfl))
      try simp only [List.getElem_toArray, List.getElem_cons_succ, List.getElem_cons_zero, Act.put, List.setIfInBounds_toArray, List.set_cons_zero, List.set_cons_succ]
      clear hHeld
      refine Reg.doneT (by kernel_rfl) ?_ _
      go_wp2_with fail
      refine ⟨⟨k + 1, by omega, by go_num, HB4.out⟩, by simp [intOf]; omega⟩
    · have hke : k = o.ps.length := by omega
      have x0 := HX2.out.cell 0
      simp only [List.getElem?_toArray, List.getElem?_cons_zero, List.getElem?_cons_succ] at x0
      have hxl := HX2.out.lt
      subst hke
      have HBS := hide (HB.out.trans (hb.mono HB.out.size))
      clear hb
      have hwy : Below w1.heap.size w1 wr := HBI.out
      clear hwy
      go_wp2_with fail
      clear x0 hxl
      have HXR := hide HX2.out
      have HYR := hide HY2.out
      have HR2 := hide (HR.out.2.below (HBI.out.mono HB.out.size))
      have HR2' := hide (show Rd wr w.heap.size o'.Y (cellsOf symbolC o.ys) from by
        have h := HR'.out.2.below (HBI.out.mono HB.out.size)
        rw [HYS.out] at h
        exact h)
      have hwl : w.heap.size ≤ wr.heap.size := HBS.out.size
      go_loopw [6] (fun i wi => ∃ (k : Nat), k ≤ o.ys.length ∧ i = .int .i64 k ∧ Below wr.heap.size wr wi) (fun i _ => o.ys.length - (intOf i).toNat)
      case atStart => exact ⟨0, Nat.zero_le _, rfl, Below.refl _ _⟩
      case round =>
        obtain ⟨k, hk2, rfl, hb⟩ := hrel
        have HBJ := hide hb
        have HX3 := hide (HXR.out.call hb)
        have HY3 := hide (HYR.out.call hb)
        by_cases hlk : k < o.ys.length
        · obtain ⟨b1, o1, hA1, hb1, hc⟩ := (HR2.out.below (hb.mono hwl)).row symbolC_len (by decide) hlk
          obtain ⟨b2, o2, hA2, hb2, hd⟩ := (HR2'.out.below (hb.mono hwl)).row symbolC_len (by decide) hlk
          have hc0 := hc 0 _ rfl
          have hc1 := hc 1 _ rfl
          have hc2 := hc 2 _ rfl
          have hc3 := hc 3 _ rfl
          have hd0 := hd 0 _ rfl
          have hd1 := hd 1 _ rfl
          have hd2 := hd 2 _ rfl
          have hd3 := hd 3 _ rfl
          simp only [Nat.add_zero] at hc0 hd0
          clear hc hd hb
          have x1 := HX3.out.cell 1
          simp only [List.getElem?_toArray, List.getElem?_cons_zero, List.getElem?_cons_succ] at x1
          have y1 := HY3.out.cell 1
          simp only [List.getElem?_toArray, List.getElem?_cons_zero, List.getElem?_cons_succ] at y1
          rw [hA1] at x1
          rw [hA2] at y1
          have hxl := HX3.out.lt
          have hyl := HY3.out.lt
          clear hA1 hA2
          generalize o.ys[k] = z at *
          obtain ⟨z1, z2, z3, z4⟩ := z
          simp only at hc0 hc1 hc2 hc3 hd0 hd1 hd2 hd3
          go_wp2_with fail
          go_quiet (fail)
          go_wp2_with fail
          refine ⟨⟨k + 1, by omega, by go_num, Kit.Below.drewN HBJ.out _⟩, by first | (simp [intOf]; done) | (simp [intOf]; omega)⟩
        · have hke : k = o.ys.length := by omega
          subst hke
          have x1 := HX3.out.cell 1
          simp only [List.getElem?_toArray, List.getElem?_cons_zero, List.getElem?_cons_succ] at x1
          have hxl := HX3.out.lt
          clear hb
          go_wp2_with fail
          go_ret
          exact ⟨rfl, HBS.out.trans (HBJ.out.mono HBS.out.size)⟩
end Go.Proofs.Ytmglgjchemecjaa.CSameO
/- Contracts of the reference's reader of drawn bytes: it turns its own block alone, and its numbers are in range. -/
namespace Go.Proofs.Ytmglgjchemecjaa.DPick
set_option maxRecDepth 200000
open Go.ChangeShapes Go.WideShapes Go.ChangeAt Go.RowKit Kit
/-- The reader: its block R holds bytes that lie below block B, and a place of at most N. -/
def Tape (w : World) (B R : Nat) (N : Int) : Prop :=
  B ≤ R ∧ ∃ (A : Option Addr) (zs : List Int) (c : Nat) (p : Int), Box w R 129 #[.slice A zs.length c, .int .i64 p] ∧ Rd w B A (ints .u8 zs) ∧ InR 0 255 zs ∧ zs.length ≤ 2000 ∧ 0 ≤ p ∧ p ≤ N
section
variable {w w' : World} {B R : Nat} {N : Int}
theorem Tape.lt (h : Tape w B R N) : R < w.heap.size := by
  obtain ⟨_, A, zs, c, p, hb, _⟩ := h
  exact hb.lt
theorem Tape.more (h : Tape w B R N) {N' : Int} (hN : N ≤ N') : Tape w B R N' := by
  obtain ⟨h0, A, zs, c, p, hb, hr, hz, hl, p0, p1⟩ := h
  exact ⟨h0, A, zs, c, p, hb, hr, hz, hl, p0, by omega⟩
theorem Tape.below (h : Tape w B R N) (hb : Below (R + 1) w w') : Tape w' B R N := by
  obtain ⟨h0, A, zs, c, p, hx, hr, hz, hl, p0, p1⟩ := h
  exact ⟨h0, A, zs, c, p, hx.below hb (by omega), hr.below (hb.mono (by omega)), hz, hl, p0, p1⟩
theorem Tape.call (h : Tape w B R N) (hb : Below w.heap.size w w') : Tape w' B R N := h.below (hb.mono h.lt)
end
theorem xor_i64 (a b : Nat) (ha : a < 9223372036854775808) (hb : b < 9223372036854775808) : bits .xor .i64 (a : Int) (b : Int) = ((a ^^^ b : Nat) : Int) ∧ a ^^^ b < 9223372036854775808 := by
  have hx : a ^^^ b < 2 ^ 63 := Nat.xor_lt_two_pow (by omega) (by omega)
  refine ⟨?_, by omega⟩
  show IntKind.i64.wrap ((BitVec.ofInt 64 (a : Int) ^^^ BitVec.ofInt 64 (b : Int)).toNat : Int) = _
  rw [BitVec.toNat_xor, ofInt_i64 a ha, ofInt_i64 b hb, IntKind.wrap_i64]
  omega
def Picked (w : World) (B R : Nat) (N : Int) (n : Int) (e : Ending) (w' : World) : Prop := ∃ x : Int, e = .returned (.int .i64 x) ∧ 0 ≤ x ∧ x < n ∧ Tape w' B R (N + 1) ∧ w.grownBy w' (some R)
theorem pick_any {w : World} {B R : Nat} {N : Int} (hT : Tape w B R N) (hN : N ≤ 1099511627776) (n : Int) (hn : 1 ≤ n) (hn' : n ≤ 1099511627776) :
    Calls Try.prog 86 #[.pointer (some ⟨R, 0, none⟩), .int .i64 n] w (Picked w B R N n) := by
  obtain ⟨h0, A, zs, c, p, hx, hr, hz, hl, p0, p1⟩ := hT
  have q0 := hx.cell 0
  have q1 := hx.cell 1
  have f0 := hx.frozen 0
  have f1 := hx.frozen 1
  simp only [List.getElem?_toArray, List.getElem?_cons_zero, List.getElem?_cons_succ] at q0 q1
  have HX := hide hx
  clear hx
  have HR := hide hr
  have HZ := hide hz
  clear hr hz
  have hfin : ∀ (x : Int) (w' : World), 0 ≤ x → x < n → w'.heap = (w.setCell ⟨R, 1, none⟩ (.int .i64 (p + 1))).heap → w'.os = w.os → w'.tape = w.tape → w'.output = w.output → Picked w B R N n (.returned (.int .i64 x)) w' := by
    intro x w' x0 x1 hh ho ht hu
    have hk : ∀ k, k ≠ R → w'.heap[k]? = w.heap[k]? := fun k hk => by rw [hh]; exact Below.heap_setCell w ⟨R, 1, none⟩ _ k hk
    refine ⟨x, rfl, x0, x1, ⟨h0, A, zs, c, p + 1, ?_, HR.out.keep (fun a ha => World.cell?_of_block (hk _ (by omega))), HZ.out, hl, by omega, by omega⟩, ho, ht, hu, by rw [hh]; simp [World.setCell], fun k _ hne => hk k (fun e => hne (by rw [e]))⟩
    have := HX.out.set 1 (.int .i64 (p + 1))
    unfold Box at this ⊢
    rw [hh]
    exact this
  have HF := hide hfin
  clear hfin
  have hd : decide (n < 1) = false := by simp; omega
  by_cases hz0 : zs.length = 0
  · go_enter Try.func86, Try.ntmps86
    go_wp2_with fail
    all_goals (go_ret; exact HF.out 0 _ (by omega) (by omega) rfl rfl rfl rfl)
  · by_cases hk : p < zs.length
    · obtain ⟨k, rfl⟩ := Int.eq_ofNat_of_zero_le p0
      obtain ⟨b, off, rfl, hbb, hc⟩ := HR.out.int (i := k) (by omega)
      obtain ⟨x0, x1⟩ := HZ.out.at_ (i := k) (by omega)
      generalize zs[k] = x at *
      have hbR : b ≠ R := by omega
      go_enter Try.func86, Try.ntmps86
      go_wp2_with fail
      all_goals (go_ret; exact HF.out (x % n) _ (Int.emod_nonneg _ (by omega)) (Int.emod_lt_of_pos _ (by omega)) rfl rfl rfl rfl)
    · obtain ⟨i1, e1⟩ := Int.eq_ofNat_of_zero_le (Int.emod_nonneg p (show (zs.length : Int) ≠ 0 by omega))
      obtain ⟨i2, e2⟩ := Int.eq_ofNat_of_zero_le (Int.emod_nonneg (p * 7 + 3) (show (zs.length : Int) ≠ 0 by omega))
      have l1 := Int.emod_lt_of_pos p (show 0 < (zs.length : Int) by omega)
      have l2 := Int.emod_lt_of_pos (p * 7 + 3) (show 0 < (zs.length : Int) by omega)
      rw [e1] at l1
      rw [e2] at l2
      have d0 : 0 ≤ p / (zs.length : Int) := Int.ediv_nonneg p0 (by omega)
      have d1 : p / (zs.length : Int) ≤ p := Int.ediv_le_self _ p0
      generalize hdv : p / (zs.length : Int) = dv at *
      obtain ⟨b, off, rfl, hbb, hc1⟩ := HR.out.int (i := i1) (by omega)
      obtain ⟨b', off', e', _, hc2⟩ := HR.out.int (i := i2) (by omega)
      simp only [Option.some.injEq, Addr.mk.injEq, and_true] at e'
      obtain ⟨rfl, rfl⟩ := e'
      obtain ⟨x0, x1⟩ := HZ.out.at_ (i := i1) (by omega)
      obtain ⟨y0, y1⟩ := HZ.out.at_ (i := i2) (by omega)
      generalize zs[i1] = x at *
      generalize zs[i2] = y at *
      have hbR : b ≠ R := by omega
      go_enter Try.func86, Try.ntmps86
      go_wp2_with fail
      go_quiet (fail)
      obtain ⟨X, hX⟩ := Int.eq_ofNat_of_zero_le (show 0 ≤ x * 131 + y * 1117 + p * 29 + dv * 53 by omega)
      have hXb : (X : Int) ≤ 1125899906842624 := by omega
      rw [hX]
      obtain ⟨M, hM⟩ : ∃ M : Nat, X ^^^ (X / 64) = M := ⟨_, rfl⟩
      obtain ⟨hx1, hx2⟩ := xor_i64 X (X / 64) (by omega) (by omega)
      rw [hM] at hx1 hx2
      have hx1 : bits .xor .i64 (X : Int) ((X : Int) / 64) = (M : Int) := hx1
      have hMb : (M : Int) ≤ 9223372036854775807 := by omega
      clear hX hM hx2 e1 e2 l1 l2 hdv d0 d1 hc1 hc2 hk
      go_wp2_with fail
      all_goals (go_ret; exact HF.out _ _ (Int.emod_nonneg _ (by omega)) (Int.emod_lt_of_pos _ (by omega)) rfl rfl rfl rfl)
theorem odd_any {w : World} {B R : Nat} {N : Int} (hT : Tape w B R N) (hN : N ≤ 1099511627776) (n : Int) (hn : 0 ≤ n) (hn' : n ≤ 1099511627776) :
    Calls Try.prog 105 #[.pointer (some ⟨R, 0, none⟩), .int .i64 n] w fun e w' => ∃ b : Bool, e = .returned (.bool b) ∧ Tape w' B R (N + 1) ∧ w.grownBy w' (some R) := by
  by_cases h0 : n = 0
  · subst h0
    go_enter Try.func105, Try.ntmps105
    go_wp2_with fail
    go_ret
    exact ⟨false, rfl, hT.more (by omega), grown_refl _ _⟩
  · have h1 : 0 < n := by omega
    go_enter Try.func105, Try.ntmps105
    go_wp2_with fail
    refine (pick_any hT hN n (by omega) hn').mono ?_
    rintro e w1 ⟨x, rfl, x0, x1, T1, g1⟩
    have HT := hide (And.intro T1 g1)
    clear T1 g1 hT
    go_wp2_with fail
    go_ret
    exact ⟨_, rfl, HT.out.1, HT.out.2⟩
/-- What a draw's opening hands back: a new reader. -/
theorem open_any (A : Option Addr) (zs : List Int) (c : Nat) (w : World) (hr : Rd w w.heap.size A (ints .u8 zs)) (hz : InR 0 255 zs) (hc : zs.length ≤ c) (hcm : c ≤ maxLen) :
    Calls Try.prog 41 #[.slice A zs.length c] w fun e w' => ∃ R, e = .returned (.pointer (some ⟨R, 0, none⟩)) ∧ Tape w' w.heap.size R 0 ∧ Below w.heap.size w w' := by
  unfold maxLen at hcm
  by_cases h : 2000 < zs.length
  · obtain ⟨b, off, rfl, _, _⟩ := hr.int (i := 0) (by omega)
    obtain ⟨hr', hl'⟩ := hr.slice 0 2000 (by omega)
    simp only [Nat.add_zero, List.drop_zero] at hr' hl'
    have HH := hide (And.intro hr' hl')
    have HZ := hide (show InR 0 255 (zs.take 2000) from fun x hx => hz x (List.mem_of_mem_take hx))
    clear hr hr' hl' hz
    go_enter Try.func41, Try.ntmps41
    go_wp2_with fail
    go_ret
    have hlen : (zs.take 2000).length = 2000 := by rw [List.length_take]; omega
    have hbx := Box.new w 129 #[.slice (some ⟨b, off, none⟩) 2000 c, .int .i64 0]
    have hbl : Below w.heap.size w (w.alloc (.cells #[.slice (some ⟨b, off, none⟩) 2000 c, .int .i64 0] 129)) := (by repeat (first | exact Below.refl _ _ | with_reducible assumption | (refine Below.drew ?_) | (refine Below.drewN ?_ _) | (refine Below.alloc ?_ (by simp; try omega) _) | (refine Below.setCell ?_ (by simp; try omega) _)))
    exact ⟨w.heap.size, rfl, ⟨Nat.le_refl _, _, zs.take 2000, c, 0, by rw [hlen]; exact hbx, HH.out.1.below hbl, HZ.out, by omega, by omega, by omega⟩, hbl⟩
  · have HR := hide hr
    have HZ := hide hz
    clear hr hz
    go_enter Try.func41, Try.ntmps41
    go_wp2_with fail
    go_ret
    have hbl : Below w.heap.size w (w.alloc (.cells #[.slice A zs.length c, .int .i64 0] 129)) := (by repeat (first | exact Below.refl _ _ | with_reducible assumption | (refine Below.drew ?_) | (refine Below.drewN ?_ _) | (refine Below.alloc ?_ (by simp; try omega) _) | (refine Below.setCell ?_ (by simp; try omega) _)))
    exact ⟨w.heap.size, rfl, ⟨Nat.le_refl _, _, zs, c, 0, Box.new _ _ _, HR.out.below hbl, HZ.out, by omega, by omega, by omega⟩, hbl⟩
end Go.Proofs.Ytmglgjchemecjaa.DPick
/- The reader and the world it was opened in; draws of numbers. -/
namespace Go.Proofs.Ytmglgjchemecjaa.DVar
set_option maxRecDepth 200000
open Go.ChangeShapes Go.WideShapes Go.ChangeAt Go.RowKit Kit DPick
/-- The reader stands at w, and from w0 on nothing but its block has turned. -/
def Tp (w0 w : World) (B R : Nat) (N : Int) : Prop := DPick.Tape w B R N ∧ w0.grownBy w (some R)
section
variable {w0 w w' : World} {B R : Nat} {N : Int}
theorem Tp.start (h : DPick.Tape w B R N) : Tp w w B R N := ⟨h, grown_refl _ _⟩
theorem Tp.call (h : Tp w0 w B R N) (hb : Below w.heap.size w w') : Tp w0 w' B R N := ⟨h.1.call hb, grown_below h.2 hb⟩
theorem Tp.alloc (h : Tp w0 w B R N) (o : Obj) : Tp w0 (w.alloc o) B R N := h.call ((Below.refl _ _).alloc (Nat.le_refl _) o)
theorem Tp.drewN (h : Tp w0 w B R N) (n : Nat) : Tp w0 (w.drewN n) B R N := h.call (Kit.Below.drewN (Below.refl _ _) n)
theorem Tp.drew (h : Tp w0 w B R N) : Tp w0 w.drew B R N := h.call ((Below.refl _ _).drew)
theorem Tp.drawn {d : Nat} (h : Tp w0 w B R N) : Tp w0 { heap := w.heap, tape := w.tape, drawn := d, os := w.os, output := w.output } B R N := h.call ⟨rfl, rfl, rfl, Nat.le_refl _, fun _ _ => rfl⟩
theorem Tp.more (h : Tp w0 w B R N) {N' : Int} (hN : N ≤ N') : Tp w0 w B R N' := ⟨h.1.more hN, h.2⟩
theorem Tp.below {B' : Nat} (h : Tp w0 w B R N) (hB : B' ≤ w0.heap.size) (hR : B' ≤ R) : Below B' w0 w := below_of_grown (Below.refl _ _) h.2 hB hR
theorem pick_tp (h : Tp w0 w B R N) (hN : N ≤ 1099511627776) (n : Int) (hn : 1 ≤ n) (hn' : n ≤ 1099511627776) :
    Calls Try.prog 86 #[.pointer (some ⟨R, 0, none⟩), .int .i64 n] w fun e w' => ∃ x : Int, e = .returned (.int .i64 x) ∧ 0 ≤ x ∧ x < n ∧ Tp w0 w' B R (N + 1) ∧ w.grownBy w' (some R) := by
  refine (pick_any h.1 hN n hn hn').mono ?_
  rintro e w' ⟨x, he, x0, x1, T, g⟩
  exact ⟨x, he, x0, x1, ⟨T, grown_trans h.2 g⟩, g⟩
theorem odd_tp (h : Tp w0 w B R N) (hN : N ≤ 1099511627776) (n : Int) (hn : 0 ≤ n) (hn' : n ≤ 1099511627776) :
    Calls Try.prog 105 #[.pointer (some ⟨R, 0, none⟩), .int .i64 n] w fun e w' => ∃ b : Bool, e = .returned (.bool b) ∧ Tp w0 w' B R (N + 1) ∧ w.grownBy w' (some R) := by
  refine (odd_any h.1 hN n hn hn').mono ?_
  rintro e w' ⟨x, he, T, g⟩
  exact ⟨x, he, ⟨T, grown_trans h.2 g⟩, g⟩
end
def DrewInt (w0 : World) (B R : Nat) (N : Int) (lo hi : Int) (e : Ending) (w' : World) : Prop := ∃ x : Int, e = .returned (.int .i64 x) ∧ lo ≤ x ∧ x ≤ hi ∧ Tp w0 w' B R N
theorem Tp.set {w0 w : World} {B R : Nat} {N : Int} (h : Tp w0 w B R N) {a : Addr} (ha : w0.heap.size ≤ a.block) (hR : R < a.block) (u : Value) : Tp w0 (w.setCell a u) B R N := by
  refine ⟨?_, ⟨h.2.os, h.2.tape, h.2.output, by simpa [World.setCell] using h.2.size, fun k hk hne => (Below.heap_setCell w a u k (by omega)).trans (h.2.block k hk hne)⟩⟩
  obtain ⟨h0, A, zs, c, p, hb, hr, hz, hl, p0, p1⟩ := h.1
  exact ⟨h0, A, zs, c, p, hb.far (by omega) u, hr.keep (fun x hx => World.cell?_of_block (Below.heap_setCell w a u _ (by omega))), hz, hl, p0, p1⟩
theorem Tp.own {w0 w w' : World} {B R : Nat} {N : Int} (h : Tp w0 w B R N) {v : Option Nat} (g : w.grownBy w' v) (hv : ∀ k, v = some k → w0.heap.size ≤ k ∧ R < k) : Tp w0 w' B R N := by
  refine ⟨?_, grown_own h.2 g (fun k hk => (hv k hk).1)⟩
  obtain ⟨h0, A, zs, c, p, hb, hr, hz, hl, p0, p1⟩ := h.1
  have hk : ∀ k, k < R + 1 → w'.heap[k]? = w.heap[k]? := fun k hk => g.block k (Nat.lt_of_lt_of_le hk hb.lt) (fun e => by have := (hv k e.symm).2; omega)
  exact ⟨h0, A, zs, c, p, (hk R (by omega)).trans hb, hr.keep (fun x hx => World.cell?_of_block (hk _ (by omega))), hz, hl, p0, p1⟩
theorem own_pick {w w' : World} {base : Nat} {e : TypeId} {size n : Nat} {v : Value} {xs : List Value} {R : Nat} (h : w.ownsRow base e size v n xs) (g : w.grownBy w' (some R)) (hR : R < base) : w'.ownsRow base e size v n xs :=
  own_keep h fun k hk => g.block k (h.lt k hk).2 (fun e => by injection e with e; have := (h.lt k hk).1; omega)
theorem Tp.lt {w0 w : World} {B R : Nat} {N : Int} (h : Tp w0 w B R N) : R < w.heap.size := h.1.lt
/-- A cell of a literal that was laid just before a number was drawn. -/
theorem lit_at {w1 w2 : World} {cs : Array Value} {t : TypeId} {R : Nat} {k : IntKind} (g : (w1.alloc (.cells cs t)).grownBy w2 (some R)) (hR : R < w1.heap.size) {i : Int} (h0 : 0 ≤ i) (h1 : i < cs.size) (hb : ∀ v ∈ cs.toList, ∃ z, v = Value.int k z) :
    ∃ z, Value.int k z ∈ cs.toList ∧ w2.cell? ⟨w1.heap.size, i.toNat, none⟩ = some (.int k z) := by
  have hx : Box w2 w1.heap.size t cs := (Box.new w1 t cs).grown g (fun k hk => by injection hk with hk; omega)
  have hi' : i.toNat < cs.size := by omega
  obtain ⟨z, hz⟩ := hb (cs[i.toNat]'hi') (by simp)
  refine ⟨z, by rw [← hz]; simp, ?_⟩
  rw [hx.cell, Array.getElem?_eq_getElem hi', hz]
theorem pick_lit {w0 w1 : World} {B R : Nat} {N : Int} {cs : Array Value} {t : TypeId} {k : IntKind} (h : Tp w0 w1 B R N) (hN : N ≤ 1099511627776) (n : Int) (hn : 1 ≤ n) (hn' : n ≤ 1099511627776) (hb : ∀ v ∈ cs.toList, ∃ z, v = Value.int k z) (hs : n ≤ cs.size) :
    Calls Try.prog 86 #[.pointer (some ⟨R, 0, none⟩), .int .i64 n] (w1.alloc (.cells cs t)) fun e w' => ∃ x : Int, e = .returned (.int .i64 x) ∧ 0 ≤ x ∧ x < n ∧ Tp w0 w' B R (N + 1) ∧ (w1.alloc (.cells cs t)).grownBy w' (some R) ∧
      ∃ z, Value.int k z ∈ cs.toList ∧ w'.cell? ⟨w1.heap.size, x.toNat, none⟩ = some (.int k z) := by
  refine (pick_tp (h.alloc (.cells cs t)) hN n hn hn').mono ?_
  rintro e w' ⟨x, he, x0, x1, T, g⟩
  exact ⟨x, he, x0, x1, T, g, lit_at g h.lt x0 (by omega) hb⟩
/-- The same where a table of places was laid behind the literal: the number drawn picks a place, the place a cell. -/
theorem pick_lit2 {w0 w1 : World} {B R : Nat} {N : Int} {cs cs2 : Array Value} {t t2 : TypeId} {k : IntKind} (h : Tp w0 w1 B R N) (hN : N ≤ 1099511627776) (n : Int) (hn : 1 ≤ n) (hn' : n ≤ 1099511627776) (hb : ∀ v ∈ cs.toList, ∃ z, v = Value.int k z) (hb2 : ∀ v ∈ cs2.toList, ∃ z, v = Value.int .i64 z ∧ 0 ≤ z ∧ z < cs.size) (hs : n ≤ cs2.size) :
    Calls Try.prog 86 #[.pointer (some ⟨R, 0, none⟩), .int .i64 n] ((w1.alloc (.cells cs t)).alloc (.cells cs2 t2)) fun e w' => ∃ x : Int, e = .returned (.int .i64 x) ∧ 0 ≤ x ∧ x < n ∧ Tp w0 w' B R (N + 1) ∧ ((w1.alloc (.cells cs t)).alloc (.cells cs2 t2)).grownBy w' (some R) ∧
      ∃ z y, Value.int .i64 z ∈ cs2.toList ∧ w'.cell? ⟨w1.heap.size + 1, x.toNat, none⟩ = some (.int .i64 z) ∧ 0 ≤ z ∧ z < cs.size ∧ Value.int k y ∈ cs.toList ∧ w'.cell? ⟨w1.heap.size, z.toNat, none⟩ = some (.int k y) := by
  have hb3 : ∀ v ∈ cs2.toList, ∃ z, v = Value.int .i64 z := fun v hv => by
    obtain ⟨z, hz, _⟩ := hb2 v hv
    exact ⟨z, hz⟩
  refine (pick_lit (h.alloc (.cells cs t)) hN n hn hn' hb3 hs).mono ?_
  rintro e w' ⟨x, he, x0, x1, T, g, z, hm, hz⟩
  obtain ⟨z', hz', z0, z1⟩ := hb2 _ hm
  obtain rfl : z = z' := by injection hz'
  have hsz : (w1.alloc (.cells cs t)).heap.size = w1.heap.size + 1 := by simp
  rw [hsz] at hz
  have hx : Box w' w1.heap.size t cs := ((Box.new w1 t cs).alloc _).grown g (fun k hk => by injection hk with hk; have := h.lt; omega)
  have hi' : z.toNat < cs.size := by omega
  obtain ⟨y, hy⟩ := hb (cs[z.toNat]'hi') (by simp)
  refine ⟨x, he, x0, x1, T, g, z, y, hm, hz, z0, z1, by rw [← hy]; simp, ?_⟩
  rw [hx.cell, Array.getElem?_eq_getElem hi', hy]
end Go.Proofs.Ytmglgjchemecjaa.DVar
/- The draw of a name. -/
namespace Go.Proofs.Ytmglgjchemecjaa.DName
set_option maxRecDepth 200000
open Go.ChangeShapes Go.WideShapes Go.ChangeAt Go.RowKit Kit DPick DVar
/-- A cell of a literal that was laid just before a number was drawn, told by what all its cells are. -/
theorem pick_litP {p : Value → Prop} {w0 w1 : World} {B R : Nat} {N : Int} {cs : Array Value} {t : TypeId} (h : Tp w0 w1 B R N) (hN : N ≤ 1099511627776) (n : Int) (hn : 1 ≤ n) (hn' : n ≤ 1099511627776) (hb : ∀ v ∈ cs.toList, p v) (hs : n ≤ cs.size) :
    Calls Try.prog 86 #[.pointer (some ⟨R, 0, none⟩), .int .i64 n] (w1.alloc (.cells cs t)) fun e w' => ∃ x : Int, e = .returned (.int .i64 x) ∧ 0 ≤ x ∧ x < n ∧ Tp w0 w' B R (N + 1) ∧ (w1.alloc (.cells cs t)).grownBy w' (some R) ∧
      ∃ v, p v ∧ w'.cell? ⟨w1.heap.size, x.toNat, none⟩ = some v := by
  refine (pick_tp (h.alloc (.cells cs t)) hN n hn hn').mono ?_
  rintro e w' ⟨x, he, x0, x1, T, g⟩
  have hx : Box w' w1.heap.size t cs := (Box.new w1 t cs).grown g (fun k hk => by injection hk with hk; have := h.lt; omega)
  have hi' : x.toNat < cs.size := by omega
  refine ⟨x, he, x0, x1, T, g, cs[x.toNat]'hi', hb _ (by simp), ?_⟩
  rw [hx.cell, Array.getElem?_eq_getElem hi']
theorem odd_zero {w : World} {R : Nat} : Calls Try.prog 105 #[.pointer (some ⟨R, 0, none⟩), .int .i64 0] w (Pure (.bool false) w) := by
  go_enter Try.func105, Try.ntmps105
  go_wp2_with fail
  go_ret
  exact ⟨rfl, rfl⟩
def IsName (v : Value) : Prop := ∃ s : ByteArray, v = .string s ∧ 0 < s.size ∧ s.size ≤ 9
def IsText (v : Value) : Prop := ∃ s : ByteArray, v = .string s ∧ s.size ≤ 9
def DrewText (w0 w : World) (B R : Nat) (N : Int) (lo : Nat) (e : Ending) (w' : World) : Prop := ∃ s : ByteArray, e = .returned (.string s) ∧ lo ≤ s.size ∧ s.size ≤ 9 ∧ Tp w0 w' B R N ∧ w.grownBy w' (some R)
theorem grown_lit {w w1 w2 : World} {o : Obj} {R : Nat} (g1 : w.grownBy w1 (some R)) (g2 : (w1.alloc o).grownBy w2 (some R)) : w.grownBy w2 (some R) := grown_trans (grown_alloc g1 o) g2
theorem name_any {w0 w : World} {B R : Nat} {N : Int} (T : Tp w0 w B R N) (hN : N ≤ 1000000) (n : Int) (hn : 0 ≤ n) (hn' : n ≤ 1000) :
    Calls Try.prog 162 #[.pointer (some ⟨R, 0, none⟩), .int .i64 n] w (DrewText w0 w B R (N + 2) 0) := by
  go_enter Try.func162, Try.ntmps162
  go_wp2_with fail
  refine (odd_tp (by first | with_reducible assumption | exact Tp.alloc (by with_reducible assumption) _ | exact Tp.alloc (Tp.alloc (by with_reducible assumption) _) _ | exact Tp.drewN (by with_reducible assumption) _ | exact Tp.drew (by with_reducible assumption) | exact Tp.drawn (by with_reducible assumption) | exact Tp.alloc (Tp.drewN (by with_reducible assumption) _) _ | exact Tp.alloc (Tp.drew (by with_reducible assumption)) _ | exact Tp.alloc (Tp.alloc (Tp.alloc (by with_reducible assumption) _) _) _) (by omega) _ (by omega) (by omega)).mono ?_
  rintro e w1 ⟨bo, rfl, T1, g1⟩
  clear T
  cases bo
  · go_wp2_with fail
    refine (pick_litP (p := IsText) T1 (by omega) _ (by omega) (by omega) (by repeat (first | exact List.forall_mem_nil _ | refine List.forall_mem_cons.2 ⟨⟨_, rfl, by decide⟩, ?_⟩)) (by simp)).mono ?_
    rintro e w2 ⟨x, rfl, x0, x1, T2, g2, v, ⟨s, rfl, s1⟩, hv⟩
    have HG := hide (grown_lit g1 g2)
    clear g1 g2 T1
    go_wp2_with fail
    go_ret
    exact ⟨s, rfl, Nat.zero_le _, s1, T2.more (by omega), HG.out⟩
  · go_wp2_with fail
    refine (pick_litP (p := IsText) T1 (by omega) _ (by omega) (by omega) (by repeat (first | exact List.forall_mem_nil _ | refine List.forall_mem_cons.2 ⟨⟨_, rfl, by decide⟩, ?_⟩)) (by simp)).mono ?_
    rintro e w2 ⟨x, rfl, x0, x1, T2, g2, v, ⟨s, rfl, s1⟩, hv⟩
    have HG := hide (grown_lit g1 g2)
    clear g1 g2 T1
    go_wp2_with fail
    go_ret
    exact ⟨s, rfl, Nat.zero_le _, s1, T2.more (by omega), HG.out⟩
theorem name_ok {w0 w : World} {B R : Nat} {N : Int} (T : Tp w0 w B R N) (hN : N ≤ 1000000) :
    Calls Try.prog 162 #[.pointer (some ⟨R, 0, none⟩), .int .i64 0] w (DrewText w0 w B R (N + 2) 1) := by
  go_enter Try.func162, Try.ntmps162
  go_wp2_with fail
  refine odd_zero.mono ?_
  rintro e w' ⟨rfl, rfl⟩
  go_wp2_with fail
  refine (pick_litP (p := IsName) T (by omega) _ (by omega) (by omega) (by repeat (first | exact List.forall_mem_nil _ | refine List.forall_mem_cons.2 ⟨⟨_, rfl, by decide, by decide⟩, ?_⟩)) (by simp)).mono ?_
  rintro e w2 ⟨x, rfl, x0, x1, T2, g2, v, ⟨s, rfl, s0, s1⟩, hv⟩
  have HG := hide (grown_lit (grown_refl w (some R)) g2)
  clear g2 T
  go_wp2_with fail
  go_ret
  exact ⟨s, rfl, s0, s1, T2.more (by omega), HG.out⟩
end Go.Proofs.Ytmglgjchemecjaa.DName
/- The draw of bytes. -/
namespace Go.Proofs.Ytmglgjchemecjaa.DBytes
set_option maxRecDepth 200000
open Go.ChangeShapes Go.WideShapes Go.ChangeAt Go.RowKit Kit DPick DVar
theorem info8 : (Try.prog.info? 5).map (fun i => (i.zero, i.size, i.bytes)) = some (some (.int .u8 0), 1, 1) := by kernel_rfl
def DrewBytes (w0 w : World) (B R : Nat) (N : Int) (most : Nat) (e : Ending) (w' : World) : Prop := ∃ (A : Option Addr) (zs : List Int) (c : Nat), e = .returned (.slice A zs.length c) ∧ zs.length ≤ most ∧ InR 0 255 zs ∧ w'.ownsRow w.heap.size 5 1 (.slice A zs.length c) zs.length (ints .u8 zs) ∧ Tp w0 w' B R N
theorem bytes_any {w0 w : World} {B R : Nat} {N : Int} (T : Tp w0 w B R N) (hN : N ≤ 1000000) (hN0 : 0 ≤ N) (most : Nat) (hm : most ≤ 1000) :
    Calls Try.prog 163 #[.pointer (some ⟨R, 0, none⟩), .int .i64 most] w (DrewBytes w0 w B R (N + 2 * most + 1) most) := by
  obtain ⟨i0, hi, hz0, hz1, hz2⟩ := info_parts info8
  have hR := T.lt
  have hw0 := T.2.size
  have HO := hide (own_empty (w := w) (E := 5))
  go_enter Try.func163, Try.ntmps163
  go_wp2_with fail
  refine (pick_tp (by first | with_reducible assumption | exact Tp.alloc (by with_reducible assumption) _ | exact Tp.alloc (Tp.alloc (by with_reducible assumption) _) _ | exact Tp.drewN (by with_reducible assumption) _ | exact Tp.drew (by with_reducible assumption) | exact Tp.drawn (by with_reducible assumption) | exact Tp.alloc (Tp.drewN (by with_reducible assumption) _) _ | exact Tp.alloc (Tp.drew (by with_reducible assumption)) _ | exact Tp.alloc (Tp.alloc (Tp.alloc (by with_reducible assumption) _) _) _) (by omega) _ (by omega) (by omega)).mono ?_
  rintro e w1 ⟨x, rfl, x0, x1, T1, g1⟩
  have HO1 := hide (own_pick HO.out g1 hR)
  have HT1 := hide T1
  obtain ⟨j, rfl⟩ := Int.eq_ofNat_of_zero_le x0
  have hsz1 : w.heap.size ≤ w1.heap.size := by have h1 := g1.size; simp at h1; omega
  clear T T1 g1 HO
  go_wp2_with fail
  go_loopw [5, 6] (fun o k wr => ∃ (i : Nat) (A' : Option Addr) (l c' : Nat) (zs : List Int), k = .int .i64 i ∧ o = .slice A' l c' ∧ l = zs.length ∧ l + i ≤ most ∧ InR 0 255 zs ∧ wr.ownsRow w.heap.size 5 1 (.slice A' l c') l (ints .u8 zs) ∧ Tp w0 wr B R (N + 2 * (most - i : Int) + 1) ∧ w.heap.size ≤ wr.heap.size) (fun _ k _ => (intOf k).toNat)
  case atStart => exact ⟨j, _, 0, _, [], rfl, rfl, rfl, by omega, fun x hx => by simp at hx, HO1.out, HT1.out.more (by omega), hsz1⟩
  case round =>
    obtain ⟨i, A', l, c', zs, rfl, rfl, hl, hli, hzs, ho, T, hszr⟩ := hrel
    have HL := hide hl
    have HZ := hide hzs
    have HO := hide ho
    clear hl hzs ho HO1 HT1
    by_cases h0 : 0 < i
    · go_wp2_with fail
      refine (pick_tp (by first | with_reducible assumption | exact Tp.alloc (by with_reducible assumption) _ | exact Tp.alloc (Tp.alloc (by with_reducible assumption) _) _ | exact Tp.drewN (by with_reducible assumption) _ | exact Tp.drew (by with_reducible assumption) | exact Tp.drawn (by with_reducible assumption) | exact Tp.alloc (Tp.drewN (by with_reducible assumption) _) _ | exact Tp.alloc (Tp.drew (by with_reducible assumption)) _ | exact Tp.alloc (Tp.alloc (Tp.alloc (by with_reducible assumption) _) _) _) (by omega) _ (by omega) (by omega)).mono ?_
      rintro e w2 ⟨y, rfl, y0, y1, T2, g2⟩
      have HO2 := hide (own_pick HO.out g2 hR)
      have g2s := g2.size
      clear T g2 HO
      go_wp2_with fail
      refine (pick_lit T2 (by omega) _ (by omega) (by omega) (by repeat (first | exact List.forall_mem_nil _ | refine List.forall_mem_cons.2 ⟨⟨_, rfl⟩, ?_⟩)) (by simp)).mono ?_
      rintro e w3 ⟨v, rfl, v0, v1, T3, g3, z, hm, hz⟩
      simp only [List.mem_cons, Value.int.injEq, true_and, List.not_mem_nil, or_false] at hm
      have hzb : 0 ≤ z ∧ z ≤ 255 := by omega
      have HO3 := hide (own_pick (HO2.out.alloc _) g3 hR)
      have HT3 := hide T3
      have hsz3 : w.heap.size ≤ w3.heap.size := by have h1 := g3.size; have h2 := hszr; have h3 := g2s; simp at h1; omega
      clear T2 g3 HO2 hm T3
      go_wp2_with (at_builtin; refine wpList_app1 w3 rfl (.tmp 16) (.tmp 25) 22 rfl w.heap.size 5 i0 (.int .u8 0) 1 1 Try.underlying22 hi hz0 hz1 hz2 rfl (by decide) _ rfl rfl ?o1 _ _ _ rfl HO3.out ?n1 ?n2 ?n3 ?_)
      case o1 => first | rfl | (simp; done) | (intro u hu; simp at hu; subst hu; rfl)
      case n1 => unfold maxLen; omega
      case n2 => omega
      case n3 => exact hsz3
      intro A4 n4 c4 w4 hn4 o4 g4
      subst hn4
      have T4 := HT3.out.own g4 (fun k hk => ⟨Nat.le_trans hw0 (HO3.out.lt k hk).1, Nat.lt_of_lt_of_le hR (HO3.out.lt k hk).1⟩)
      have HO4 := hide o4
      have HT4 := hide T4
      have hsz4 := Nat.le_trans hsz3 g4.size
      clear o4 g4 T4 HO3 HT3 hz
      go_wp2_with fail
      refine ⟨⟨i - 1, A4, l + 1, c4, zs ++ [z], by go_num, rfl, by rw [HL.out]; simp, by omega, ?_, by simpa using HO4.out, HT4.out.more (by omega), hsz4⟩, by simp [intOf]; omega⟩
      intro a ha
      rcases List.mem_append.1 ha with ha | ha
      · exact HZ.out a ha
      · simp at ha; omega
    · have e : i = 0 := by omega
      subst e
      have hl := HL.out
      subst hl
      go_wp2_with fail
      go_ret
      exact ⟨A', zs, c', rfl, by omega, HZ.out, HO.out, T.more (by omega)⟩
end Go.Proofs.Ytmglgjchemecjaa.DBytes
