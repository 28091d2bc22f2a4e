/- ObjectsValid, AlignUp and PlaceSections: the reference's. -/
import Derived.Test.YtmglgjchemecjaaFnLandmarksOfM5
import Derived.OwnWalk
import Derived.BigQuiet
set_option linter.unusedSimpArgs false
set_option linter.unusedVariables false
namespace Go.Proofs.Ytmglgjchemecjaa.CPlaceS
set_option maxRecDepth 200000
open Go.ChangeShapes Go.WideShapes Go.ChangeAt Go.RowKit Kit CCode CName CFixups CSymbols PObj BObj PValid CSecValid CObjValid CObjValidS BStore CMarkRows BMake BList PLink CValids BLay CLayout CCopyS WObj CObjL COwnL
theorem objectsValidS_any (A : Option Addr) (os : List OV) (c : Nat) (w : World) (hr : RdOs w w.heap.size A os) (hf : Fits os) :
    Calls Try.prog 99 #[.slice A os.length c] w (Ret (.bool (objsOk (os.map OV.d))) w) := by
  obtain ⟨hm, hfo⟩ := hf
  have HR := hide hr
  have HFT := hide hfo
  clear hr hfo
  go_enter Try.func99, Try.ntmps99
  go_wp2_with fail
  go_loopw [3] (fun i wr => ∃ k : Nat, k ≤ os.length ∧ i = .int .i64 k ∧ (∀ o ∈ os.take k, objOk o.d = true) ∧ Below w.heap.size w wr) (fun i _ => os.length - (intOf i).toNat)
  case atStart => exact ⟨0, Nat.zero_le _, rfl, (fun o ho => by cases ho), Below.refl _ _⟩
  case round =>
    obtain ⟨k, hk, rfl, hn, hb⟩ := hrel
    have HB := hide hb
    have HN := hide hn
    clear hn
    by_cases hlt : k < os.length
    · obtain ⟨b, off, hA, hbb, hc0, hc1⟩ := (HR.out.below hb).at hlt
      have HP := hide (objectValidS_any os[k] wr (((HR.out.2 _ (List.getElem_mem hlt)).below hb).more hb.size) (HFT.out _ (List.getElem_mem hlt)))
      have HT := hide (show objOk os[k].d = false → objsOk (os.map OV.d) = false from fun h => by
        unfold objsOk
        rw [List.all_eq_false.2 ⟨_, List.mem_map_of_mem (List.getElem_mem hlt), by rw [h]; decide⟩, Bool.and_false])
      have HS := hide (show objOk os[k].d = true → ∀ o ∈ os.take (k + 1), objOk o.d = true from fun h o ho => by
        rw [take_succ hlt] at ho
        rcases List.mem_append.1 ho with ho | ho
        · exact HN.out o ho
        · rw [List.mem_singleton.1 ho]
          exact h)
      clear hb
      subst hA
      generalize os[k] = o at *
      go_wp2_with fail
      refine HP.out.mono ?_
      rintro e w2 ⟨rfl, b2⟩
      replace HB := hide (HB.out.trans (b2.mono HB.out.size))
      clear b2
      clear hc0 hc1 HP
      cases h : objOk o.d
      · have HV := hide (HT.out h)
        clear h HT HS
        go_wp2_with fail
        go_ret
        exact ⟨by rw [HV.out]; rfl, HB.out⟩
      · have HS' := hide (HS.out h)
        clear h HT HS
        go_wp2_with fail
        refine ⟨⟨k + 1, by omega, by go_num, HS'.out, HB.out⟩, by simp [intOf]; omega⟩
    · have hke : k = os.length := by omega
      have HV := hide (show objsOk (os.map OV.d) = decide (os.length ≤ 4) from by
        unfold objsOk
        rw [List.length_map]
        have h : (os.map OV.d).all objOk = true := List.all_eq_true.2 fun d hd => by
          obtain ⟨o, ho, rfl⟩ := List.mem_map.1 hd
          exact HN.out o (by rw [hke, List.take_length]; exact ho)
        rw [h, Bool.and_true])
      clear hb
      by_cases h4 : os.length ≤ 4
      · have e1 : decide ((os.length : Int) ≤ 4) = true := decide_eq_true (by omega)
        rw [decide_eq_true h4] at HV
        go_wp2_with fail
        go_ret
        exact ⟨by rw [HV.out]; rfl, HB.out⟩
      · have e1 : decide ((os.length : Int) ≤ 4) = false := decide_eq_false (by omega)
        rw [decide_eq_false h4] at HV
        go_wp2_with fail
        go_ret
        exact ⟨by rw [HV.out]; rfl, HB.out⟩
theorem alignUpS_any (n q : Int) (w : World) (h0 : 0 ≤ n) (h1 : n ≤ 1000000) (hq : alignOk q = true) : Calls Try.prog 132 #[.int .i64 n, .int .i64 q] w (Pure (.int .i64 (al n q)) w) := by
  simp only [alignOk, Bool.or_eq_true, decide_eq_true_eq] at hq
  have hi : inB n 0 1000000 = true := by simp [inB]; omega
  have HI := hide hi
  clear hi
  rcases hq with ((rfl | rfl) | rfl) | rfl
  all_goals
    unfold al
    go_enter Try.func132, Try.ntmps132
    go_wp2_with fail
    refine (l1In_any _ _ _ _).mono ?_
    rintro e w' ⟨rfl, rfl⟩
    rw [HI.out]
    go_wp2_with fail
    go_ret
    exact ⟨by first | rfl | (simp; done) | (simp; omega), rfl⟩
/-- What the reference's list functions ask of the objects. -/
structure Lst (os : List OV) : Prop where
  n : os.length ≤ 1048576
  f : ∀ o ∈ os, Fit o
  c : ∀ o ∈ os, CpO o
theorem Lst.fits {os : List OV} (h : Lst os) : Fits os := ⟨h.n, h.f⟩
theorem fit_copy {q o : OV} {w : World} {base : Nat} (hd : q.d = o.d) (hf : Fit o) (ho : OwnO w base q) : Fit q := by
  have e1 : q.ps.map SV.d = o.ps.map SV.d := congrArg OD.ss hd
  have e2 : q.ys = o.ys := congrArg OD.ys hd
  refine ⟨?_, by rw [e2]; exact hf.ny, ho.2.cap.1, fun p hp => ?_, fun y hy => hf.y y (by rw [← e2]; exact hy)⟩
  · have := congrArg List.length e1
    simp only [List.length_map] at this
    rw [this]
    exact hf.np
  · have h1 : p.d ∈ o.ps.map SV.d := by rw [← e1]; exact List.mem_map_of_mem hp
    obtain ⟨x, hx, hxd⟩ := List.mem_map.1 h1
    have h2 := hf.p x hx
    have q1 : x.nm = p.nm := congrArg SD.nm hxd
    have q2 : x.zs = p.zs := congrArg SD.zs hxd
    have q3 : x.fs = p.fs := congrArg SD.fs hxd
    rw [← q1, ← q2, ← q3]
    exact h2
theorem cp_copy {q o : OV} {w : World} {base : Nat} (hd : q.d = o.d) (hf : Fit o) (ho : OwnO w base q) : CpO q := by
  have h := fit_copy hd hf ho
  exact ⟨h.np, h.ny, ho.2.nil, fun p hp => ⟨⟨(ho.1.2.1 p hp).1.nil, (ho.1.2.1 p hp).2.nil⟩, (h.p p hp).2.1, (h.p p hp).2.2⟩⟩
theorem lst_copy {w : World} {base c : Nat} {A : Option Addr} {os qs : List OV} (hd : qs.map OV.d = os.map OV.d) (h : Lst os) (ho : OwnOs w base A c qs) : Lst qs := by
  have hl : qs.length = os.length := by simpa using congrArg List.length hd
  have key : ∀ q ∈ qs, ∃ o ∈ os, q.d = o.d := fun q hq => by
    have h1 : q.d ∈ os.map OV.d := by rw [← hd]; exact List.mem_map_of_mem hq
    obtain ⟨o, ho, e⟩ := List.mem_map.1 h1
    exact ⟨o, ho, e.symm⟩
  refine ⟨by rw [hl]; exact h.n, fun q hq => ?_, fun q hq => ?_⟩
  · obtain ⟨o, ho', e⟩ := key q hq
    exact fit_copy e (h.f o ho') (ho.2.1 q hq)
  · obtain ⟨o, ho', e⟩ := key q hq
    exact cp_copy e (h.f o ho') (ho.2.1 q hq)
/-- What PlaceSections hands back. -/
def PlV (l : List OD) (base : Int) (w : World) (e : Ending) (w' : World) : Prop :=
  ∃ A c rs x, e = .returned (.tuple #[.slice A (rs : List RV).length c, .int .i64 x, .bool (objsOk l && baseOk base)]) ∧ ((objsOk l && baseOk base) = true → rs.map RV.zs = (lay l base).2 ∧ x = (lay l base).1) ∧ RdRs w' w'.heap.size A rs ∧ Below w.heap.size w w'
/-- The rows while they are laid out. -/
structure LQ (w1 : World) (A : Option Addr) (c : Nat) (rs : List RV) (w : World) : Prop where
  own : OwnRs w w1.heap.size A c rs
  b : Below w1.heap.size w1 w
theorem LQ.call {w1 w w' : World} {A : Option Addr} {c : Nat} {rs : List RV} (h : LQ w1 A c rs w) (hb : Below w.heap.size w w') : LQ w1 A c rs w' := ⟨h.own.call hb, h.b.trans (hb.mono h.b.size)⟩
theorem LQ.put {w1 w : World} {A : Option Addr} {c : Nat} {rs : List RV} (h : LQ w1 A c rs w) {k : Nat} (hk : k < rs.length) {i : Nat} (hi : i < rs[k].zs.length) (v : Int) :
    ∃ g, rs[k].A = some ⟨g, 0, none⟩ ∧ g < w.heap.size ∧ (∀ (Y : Nat) (t : TypeId) (cs : Array Value), Box w Y t cs → 3 ≠ t → Y ≠ g) ∧ (w.frozen? ⟨g, i, none⟩ = false) ∧ (∃ u, w.cell? ⟨g, i, none⟩ = some (.int .i64 u)) ∧ LQ w1 A c (rs.set k { rs[k] with zs := rs[k].zs.set i v }) (w.setCell ⟨g, i, none⟩ (.int .i64 v)) := by
  obtain ⟨g, hA, hb1, hb2, hbk, _, hf, hu, hown⟩ := h.own.put hk hi v
  have hq := h.own.2.1 rs[k] (List.getElem_mem hk)
  exact ⟨g, hA, hb2, (fun Y t cs hY ht e => hq.box hY ht g hbk e.symm), hf, hu, hown, h.b.setCell (p := ⟨g, i, none⟩) hb1 _⟩
set_option maxHeartbeats 4000000 in
theorem placeSections_any (A : Option Addr) (os : List OV) (c : Nat) (base : Int) (w : World) (hr : RdOs w w.heap.size A os) (hf : Lst os) :
    Calls Try.prog 159 #[.slice A os.length c, .int .i64 base] w (PlV (os.map OV.d) base w) := by
  obtain ⟨i0, hi1, hi2, hi3, hi4⟩ := info_parts infoR
  have HI := hide (And.intro hi1 (And.intro hi2 (And.intro hi3 hi4)))
  clear hi1 hi2 hi3 hi4
  obtain ⟨j0, hj1, hj2, hj3, hj4⟩ := info_parts CInts.info64
  have HJ := hide (And.intro hj1 (And.intro hj2 (And.intro hj3 hj4)))
  clear hj1 hj2 hj3 hj4
  have HCP := hide (ownObjects_any A os c w hr hf.n hf.c)
  have HL0 := hide (rfl : os.map OV.d = os.map OV.d)
  generalize hl0 : os.map OV.d = l at HCP ⊢
  have HL1 := hide hl0
  clear HL0 hl0
  have HF0 := hide hf
  clear hr hf
  go_enter Try.func159, Try.ntmps159
  go_wp2_with fail
  refine HCP.out.mono ?_
  rintro e w1 ⟨A1, c1, qs, rfl, hqd, own1, b1⟩
  have HF := hide (lst_copy (hqd.trans HL1.out.symm) HF0.out own1).fits
  have HR := hide own1.rd
  have HB := hide b1
  have hln : qs.length = os.length := by simpa using congrArg List.length (hqd.trans HL1.out.symm)
  have HLL := hide hqd
  have HLN := hide hln
  clear hqd own1 b1 HCP HF0 hln
  have bz : Below w1.heap.size w1 (w1.alloc (.cells #[] 59)) := (by repeat (first | exact Below.refl _ _ | with_reducible assumption | (refine Below.drew ?_) | (refine Below.drewN ?_ _) | (refine Below.alloc ?_ (by simp; try omega) _) | (refine Below.setCell ?_ (by simp; try omega) _)))
  have HZ := hide bz
  clear bz
  go_wp2_with fail
  refine (objectsValidS_any A1 qs c1 (w1.alloc (.cells #[] 59)) ((HR.out.below HZ.out).more HZ.out.size) HF.out).mono ?_
  rintro e w2 ⟨rfl, b2⟩
  rw [HLL.out]
  replace HZ := hide (HZ.out.trans (b2.mono HZ.out.size))
  clear b2
  cases hok : objsOk (l)
  · have HV := hide (show (objsOk (l) && baseOk base) = false by rw [hok]; rfl)
    clear hok
    go_wp2_with fail
    go_ret3
    exact ⟨_, 0, [], 0, by rw [HV.out]; rfl, (fun h => by rw [HV.out] at h; cases h), rdRs_nil _ _ _, HB.out.trans (HZ.out.mono HB.out.size)⟩
  go_wp2_with fail
  refine (l1In_any _ _ _ _).mono ?_
  rintro e w' ⟨rfl, rfl⟩
  cases hin : inB base 0 4096
  · have HV := hide (show (objsOk (l) && baseOk base) = false by
      unfold baseOk
      unfold inB at hin
      rw [hok, hin]
      rfl)
    clear hok hin
    go_wp2_with fail
    go_ret3
    exact ⟨_, 0, [], 0, by rw [HV.out]; rfl, (fun h => by rw [HV.out] at h; cases h), rdRs_nil _ _ _, HB.out.trans (HZ.out.mono HB.out.size)⟩
  have hb0 : 0 ≤ base ∧ base ≤ 4096 := by simpa [inB] using hin
  obtain ⟨hb1, hb2⟩ := hb0
  by_cases h8 : base % 8 = 0
  case neg =>
    have HV := hide (show (objsOk (l) && baseOk base) = false by
      unfold baseOk
      rw [decide_eq_false h8, Bool.and_false, Bool.and_false])
    have h8' : (base % 8 != 0) = true := bne_iff_ne.2 h8
    clear hok hin h8
    go_wp2_with fail
    go_ret3
    exact ⟨_, 0, [], 0, by rw [HV.out]; rfl, (fun h => by rw [HV.out] at h; cases h), rdRs_nil _ _ _, HB.out.trans (HZ.out.mono HB.out.size)⟩
  have HV := hide (show (objsOk (l) && baseOk base) = true by
    unfold baseOk
    rw [hok, decide_eq_true (And.intro hb1 hb2), decide_eq_true h8]
    rfl)
  have h8' : (base % 8 != 0) = false := by simp [h8]
  have hol : qs.length ≤ 4 := by
    simp only [objsOk, Bool.and_eq_true, decide_eq_true_eq] at hok
    have h := hok.1
    rw [← HLL.out, List.length_map] at h
    exact h
  have HALL := hide (show ∀ o ∈ qs, o.ps.length ≤ 8 ∧ ∀ p ∈ o.ps, (0 ≤ secSize p.d ∧ secSize p.d ≤ 48) ∧ alignOk p.d.al = true from fun o ho => by
    simp only [objsOk, Bool.and_eq_true, List.all_eq_true] at hok
    have h := hok.2 o.d (by rw [← HLL.out]; exact List.mem_map_of_mem ho)
    simp only [objOk, Bool.and_eq_true, decide_eq_true_eq, List.all_eq_true] at h
    refine ⟨by simpa [OV.d] using h.1.1.1, fun p hp => ?_⟩
    have hs := sec_size (h.1.2 p.d (List.mem_map_of_mem hp))
    exact ⟨hs.1, hs.2.1⟩)
  clear hok hin h8
  go_wp2_with fail
  clear h8'
  go_loopw [7, 8] (fun s i wi => ∃ (k : Nat) (Ar : Option Addr) (cr : Nat) (rs : List RV), k ≤ qs.length ∧ s = .slice Ar rs.length cr ∧ i = .int .i64 k ∧ rs.length = k ∧ rs.map RV.zs = (zeroP l).take k ∧ LQ w1 Ar cr rs wi) (fun _ i _ => qs.length - (intOf i).toNat)
  case atStart => exact ⟨0, _, 0, [], Nat.zero_le _, rfl, rfl, rfl, rfl, ⟨⟨Row.empty _ _ _ _ _, (fun p hp => by cases hp), List.Pairwise.nil⟩, HZ.out⟩⟩
  case round =>
    clear HZ
    obtain ⟨k, Ar, cr, rs, hk, rfl, rfl, hrl, hrz, hlq⟩ := hrel
    have HQ := hide hlq
    have HRZ := hide hrz
    clear hrz
    subst hrl
    by_cases hlt : rs.length < qs.length
    · obtain ⟨bb, off, hA, hbb, hc0, hc1⟩ := (HR.out.below hlq.b).at hlt
      have HZN := hide (show (zeroP l).take (rs.length + 1) = (zeroP l).take rs.length ++ [List.replicate qs[rs.length].ps.length 0] from by
        rw [take_succ (by rw [← HLL.out]; simpa [zeroP] using hlt)]
        have h := HLL.out
        subst h
        simp [zeroP, OV.d])
      have hpl := (HALL.out _ (List.getElem_mem hlt)).1
      clear hlq
      subst hA
      generalize qs[rs.length] = o at *
      go_wp2_with (at_make; refine wpList_make_full _ rfl _ _ _ rfl w1.heap.size 3 j0 (.int .i64 0) 1 Try.underlying59 HJ.out.1 HJ.out.2.1 HJ.out.2.2.1 .i64 .i64 _ _ o.ps.length rfl rfl rfl rfl ?c1 ?c2 ?c3 ?_)
      case c1 => rw [HJ.out.2.2.2]; omega
      case c2 => unfold maxLen; omega
      case c3 => exact HQ.out.b.size
      intro w3 hown hg
      have b3 : Below wr.heap.size wr w3 := (Below.refl _ _).grown hg (Nat.le_refl _) (by intro k h; cases h)
      have HNW := hide (show RwR w3 w1.heap.size ⟨some ⟨wr.heap.size, 0, none⟩, o.ps.length, List.replicate o.ps.length 0⟩ from by
        rw [zero_cells'] at hown
        refine .inr ?_
        simpa using hown)
      have HOLD := hide (HQ.out.own.lt)
      have HQ3 := hide (HQ.out.call b3)
      have b4 : Below w3.heap.size w3 (w3.alloc (.cells #[.slice (some ⟨wr.heap.size, 0, none⟩) o.ps.length o.ps.length] 59)) := (by repeat (first | exact Below.refl _ _ | with_reducible assumption | (refine Below.drew ?_) | (refine Below.drewN ?_ _) | (refine Below.alloc ?_ (by simp; try omega) _) | (refine Below.setCell ?_ (by simp; try omega) _)))
      have HQ4 := hide (HQ3.out.call b4)
      have HNW4 := hide (show RwR (w3.alloc (.cells #[.slice (some ⟨wr.heap.size, 0, none⟩) o.ps.length o.ps.length] 59)) w1.heap.size ⟨some ⟨wr.heap.size, 0, none⟩, o.ps.length, List.replicate o.ps.length 0⟩ from HNW.out.call b4)
      clear hown hg b3 b4 HQ HQ3 HNW hc0 hc1
      generalize wr.heap.size = M at *
      go_wp2_with (at_builtin; refine wpList_app _ rfl (.tmp 37) (.tmp 45) 99 rfl 59 i0 (.slice none 0 0) 1 24 Try.underlying99 HI.out.1 HI.out.2.1 HI.out.2.2.1 HI.out.2.2.2 rfl (by decide) w1.heap.size Ar rs.length cr (cellsOf rowC rs) rfl HQ4.out.own.1 HQ4.out.b.size (some ⟨w3.heap.size, 0, none⟩) 1 1 [.slice (some ⟨M, 0, none⟩) o.ps.length o.ps.length] rfl (rd_lit w3 #[.slice (some ⟨M, 0, none⟩) o.ps.length o.ps.length] 59 _ rfl) rfl (fun h => by cases h) ?o1 ?n1 ?n2 ?_)
      case o1 =>
        intro u hu
        obtain rfl := List.mem_singleton.1 hu
        rfl
      case n1 => unfold maxLen; omega
      case n2 => omega
      intro A2 n2 c2 w7 hn o7 g7 k7
      have HNEW := hide (OwnRs.snoc (N := M) HQ4.out.own (q := ⟨some ⟨M, 0, none⟩, o.ps.length, List.replicate o.ps.length 0⟩) HNW4.out HOLD.out (fun k hk => by
        unfold blk at hk
        split at hk
        · cases hk
        · injection hk with hk
          exact Nat.le_of_eq hk) hn (by simpa [rowC] using o7) g7)
      have HB7 := hide (HQ4.out.b.grown g7 HQ4.out.b.size (fun j hj => (HQ4.out.own.1.lt j hj).1))
      have hn' : n2 = (rs ++ [(⟨some ⟨M, 0, none⟩, o.ps.length, List.replicate o.ps.length 0⟩ : RV)]).length := by rw [hn, List.length_append]; rfl
      subst hn'
      clear hn o7 g7 k7 HQ4 HNW4
      go_wp2_with fail
      refine ⟨⟨rs.length + 1, A2, c2, rs ++ [⟨some ⟨M, 0, none⟩, o.ps.length, List.replicate o.ps.length 0⟩], by omega, by first | rfl | rw [List.length_append], by go_num, by simp, by rw [HZN.out, List.map_append, HRZ.out]; rfl, ⟨HNEW.out, HB7.out⟩⟩, by simp [intOf]; omega⟩
    · have hrl : rs.length = qs.length := by omega
      have hrz : rs.map RV.zs = zeroP l := by rw [HRZ.out, hrl, List.take_of_length_le (by rw [← HLL.out]; simp [zeroP])]
      have HSH := hide (show Shp l (rs.map RV.zs) from by rw [hrz]; exact shp_zero _)
      have HLAY := hide (show lay l base = kindsS l (([1, 2, 3] : List Int).drop 0) (base, rs.map RV.zs) from by rw [hrz]; rfl)
      have HRL := hide hrl
      clear HRZ hrz hlq hrl
      go_wp2_with fail
      clear hlt hk
      generalize hrn : rs.length = n at *
      have HRN := hide hrn
      clear hrn
      go_loopw [9, 10] (fun at_ kd wi => ∃ (j : Nat) (a : Int) (rs : List RV), j ≤ 3 ∧ at_ = .int .i64 a ∧ kd = .int .i64 ((j : Int) + 1) ∧ lay l base = kindsS l (([1, 2, 3] : List Int).drop j) (a, rs.map RV.zs) ∧ Shp l (rs.map RV.zs) ∧ 0 ≤ a ∧ a ≤ 4096 + 2000 * j ∧ rs.length = n ∧ LQ w1 Ar cr rs wi) (fun _ kd _ => 4 - (intOf kd).toNat)
      case atStart => exact ⟨0, base, rs, Nat.zero_le _, rfl, rfl, HLAY.out, HSH.out, hb1, by omega, HRN.out, HQ.out⟩
      case round =>
        rename World => wk
        clear HLAY HSH HQ HRN
        obtain ⟨j, a, rs, hj, rfl, rfl, hlay, hsh, ha0, ha1, hrn, hlq⟩ := hrel
        have HQ := hide hlq
        have HSH := hide hsh
        have HRN := hide hrn
        clear hsh hrn
        by_cases hj3 : j < 3
        · have HLAY := hide (show lay l base = kindsS l (([1, 2, 3] : List Int).drop (j + 1)) (foldO ((j : Int) + 1) 0 l (al a 8, rs.map RV.zs)) from hlay.trans (kinds_drop l hj3 _))
          have e3 : decide ((j : Int) + 1 ≤ 3) = true := decide_eq_true (by omega)
          clear hlay hlq
          go_wp2_with fail
          refine (alignUpS_any a 8 wk ha0 (by omega) (by decide)).mono ?_
          rintro e w' ⟨rfl, rfl⟩
          obtain ⟨g1, g2⟩ := al_bd ha0 (show alignOk 8 = true by decide)
          generalize al a 8 = b at *
          generalize hT : foldO ((j : Int) + 1) 0 l (b, rs.map RV.zs) = T at *
          have HT := hide (show T = foldO ((j : Int) + 1) 0 (l.drop 0) (b, rs.map RV.zs) from hT.symm)
          clear hT e3
          go_wp2_with fail
          go_loopw [9, 11] (fun at_ i wi => ∃ (k : Nat) (d : Int) (rs : List RV), k ≤ qs.length ∧ at_ = .int .i64 d ∧ i = .int .i64 k ∧ T = foldO ((j : Int) + 1) k (l.drop k) (d, rs.map RV.zs) ∧ Shp l (rs.map RV.zs) ∧ 0 ≤ d ∧ d ≤ 4104 + 2000 * j + 490 * k ∧ rs.length = n ∧ LQ w1 Ar cr rs wi) (fun _ i _ => qs.length - (intOf i).toNat)
          case atStart => exact ⟨0, b, rs, Nat.zero_le _, rfl, rfl, HT.out, HSH.out, by omega, by omega, HRN.out, HQ.out⟩
          case round =>
            rename World => wo
            clear HT HSH HQ HRN
            obtain ⟨k, d, rs, hk, rfl, rfl, ht, hsh, hd0, hd1, hrn, hlq⟩ := hrel
            have HQ := hide hlq
            have HSH := hide hsh
            have HRN := hide hrn
            clear hsh hrn
            by_cases hlt : k < qs.length
            · have hll : k < l.length := by rw [← HLL.out, List.length_map]; exact hlt
              have HT := hide (ht.trans (foldO_drop hll k _))
              have HPS := hide (show l[k].ss = qs[k].ps.map SV.d from by
                have := HLL.out
                subst this
                simp [OV.d])
              have HSP := hide (show ∀ P : List (List Int), Shp l P → ∃ hp : k < P.length, P[k].length = qs[k].ps.length from fun P hP => by
                obtain ⟨h1, h2⟩ := shp_at hP hll
                refine ⟨h1, ?_⟩
                rw [h2, HPS.out, List.length_map])
              have HAO := hide (HALL.out _ (List.getElem_mem hlt))
              have hpl := HAO.out.1
              have HRO := hide (HR.out.2 _ (List.getElem_mem hlt)).1
              have HFO := hide (HF.out.o _ (List.getElem_mem hlt)).p
              obtain ⟨bb, off, hA, hbb, hcA, _⟩ := HR.out.at hlt
              have HCE := hide (fun V (hV : Below w1.heap.size w1 V) => (show V.cell? ⟨bb, off + k * 2, none⟩ = some (.slice qs[k].A qs[k].ps.length qs[k].c) from (hV.cell (p := ⟨bb, off + k * 2, none⟩) hbb).trans hcA))
              clear hlq ht hcA
              rw [HPS.out] at HT
              clear HPS
              subst hA
              generalize qs[k] = o at *
              generalize hU : foldS ((j : Int) + 1) k 0 (o.ps.map SV.d) (d, rs.map RV.zs) = U at *
              have HU := hide (show U = foldS ((j : Int) + 1) k 0 ((o.ps.map SV.d).drop 0) (d, rs.map RV.zs) from hU.symm)
              clear hU
              go_wp2_with fail
              go_loopw [9, 12] (fun at_ i wi => ∃ (m : Nat) (f : Int) (rs : List RV), m ≤ o.ps.length ∧ at_ = .int .i64 f ∧ i = .int .i64 m ∧ U = foldS ((j : Int) + 1) k m ((o.ps.map SV.d).drop m) (f, rs.map RV.zs) ∧ Shp l (rs.map RV.zs) ∧ 0 ≤ f ∧ f ≤ 4104 + 2000 * j + 490 * k + 60 * m ∧ rs.length = n ∧ LQ w1 Ar cr rs wi) (fun _ i _ => o.ps.length - (intOf i).toNat)
              case atStart => exact ⟨0, d, rs, Nat.zero_le _, rfl, rfl, HU.out, HSH.out, by omega, by omega, HRN.out, HQ.out⟩
              case round =>
                rename World => wm
                clear HU HSH HQ HRN
                obtain ⟨m, f, rs, hm, rfl, rfl, hu, hsh, hf0, hf1, hrn, hlq⟩ := hrel
                have HQ := hide hlq
                have HSH := hide hsh
                have HRN := hide hrn
                have hcl := HCE.out wm hlq.b
                clear hrn
                by_cases hlm : m < o.ps.length
                · obtain ⟨b2, off2, hPA, hbb2, hc⟩ := (HRO.out.1.below hlq.b).row secC_len (by decide) hlm
                  have hc0 := hc 0 _ rfl
                  have hc1 := hc 1 _ rfl
                  have hc2 := hc 2 _ rfl
                  have hc3 := hc 3 _ rfl
                  have hc4 := hc 4 _ rfl
                  have hc5 := hc 5 _ rfl
                  simp only [Nat.add_zero] at hc0
                  have HU := hide (hu.trans (foldS_drop (show m < (o.ps.map SV.d).length by simpa using hlm) m _))
                  have HSZ := hide (HAO.out.2 _ (List.getElem_mem hlm))
                  have hzl := (HFO.out _ (List.getElem_mem hlm)).2.1
                  have HRS := hide (step_bd (kd := (j : Int) + 1) (k := k) (i := m) (P := rs.map RV.zs) HSZ.out.1 HSZ.out.2 hf0)
                  clear hlq hu hc hsh
                  rw [List.getElem_map] at HU
                  rw [hPA] at hcl
                  clear hPA
                  generalize o.ps[m] = p at *
                  have B1 : Below wm.heap.size wm (wm.alloc (.cells #[.string p.nm, .int .i64 p.kd, .int .i64 p.al, .slice p.A p.zs.length p.c, .int .i64 p.sz, .slice p.F p.fs.length p.fc] 73)) := (by repeat (first | exact Below.refl _ _ | with_reducible assumption | (refine Below.drew ?_) | (refine Below.drewN ?_ _) | (refine Below.alloc ?_ (by simp; try omega) _) | (refine Below.setCell ?_ (by simp; try omega) _)))
                  replace HQ := hide (HQ.out.call B1)
                  have HS := hide (Box.new wm 73 #[.string p.nm, .int .i64 p.kd, .int .i64 p.al, .slice p.A p.zs.length p.c, .int .i64 p.sz, .slice p.F p.fs.length p.fc])
                  clear B1
                  by_cases hkd : p.kd = (j : Int) + 1
                  · have e1 : (p.kd != (j : Int) + 1) = false := by simp [hkd]
                    have HKD := hide hkd
                    have HU2 := hide (show U = foldS ((j : Int) + 1) k (m + 1) ((o.ps.map SV.d).drop (m + 1)) (al f p.al + secSize p.d, setP (rs.map RV.zs) k m (al f p.al)) from by
                      rw [HU.out]
                      unfold stepS
                      rw [show decide (p.d.kd = (j : Int) + 1) = true from decide_eq_true hkd]
                      rfl)
                    clear hkd HU
                    go_wp2_with fail
                    clear e1 hc0 hc1 hc2 hc3 hc4 hc5 hcl
                    generalize wm.alloc (.cells #[.string p.nm, .int .i64 p.kd, .int .i64 p.al, .slice p.A p.zs.length p.c, .int .i64 p.sz, .slice p.F p.fs.length p.fc] 73) = wa at *
                    generalize wm.heap.size = S at *
                    refine (alignUpS_any f p.al wa hf0 (by omega) HSZ.out.2).mono ?_
                    rintro e w' ⟨rfl, rfl⟩
                    obtain ⟨g1, g2⟩ := al_bd hf0 (show alignOk p.al = true from HSZ.out.2)
                    obtain ⟨q1, q2⟩ := HSZ.out.1
                    generalize al f p.al = v at *
                    obtain ⟨hp1, hp2⟩ := HSP.out _ HSH.out
                    rw [List.length_map] at hp1
                    rw [List.getElem_map] at hp2
                    obtain ⟨g, hgA, hgl, hfar, hfz, ⟨u, hcu⟩, hlq2⟩ := HQ.out.put hp1 (i := m) (by omega) v
                    obtain ⟨pb, poff, hPP, hpb, hrow⟩ := HQ.out.own.rd.at hp1
                    have HQ2 := hide hlq2
                    have HS2 := hide (BMake.box_setFar (g := g) (i := m) (u := .int .i64 v) HS.out (hfar _ _ _ HS.out (by decide)))
                    have HMP := hide (map_setP rs k m v hp1)
                    have HSH2 := hide (shp_set HSH.out k m v)
                    rw [hgA, hp2] at hrow
                    have hmi : m < o.ps.length := hlm
                    have HRN2 := hide (show (rs.set k { rs[k] with zs := rs[k].zs.set m v }).length = n from by rw [List.length_set]; exact HRN.out)
                    have hkn : k < n := by have := HRN.out; omega
                    clear hlq2 hgA hp2 HQ hfar HSH HRN
                    subst hPP
                    generalize rs.set k { rs[k] with zs := rs[k].zs.set m v } = rs2 at *
                    generalize (rs[k]).c = rc at hrow
                    clear hp1
                    have s0 := HS2.out.cell 0
                    have s1 := HS2.out.cell 1
                    have s2 := HS2.out.cell 2
                    have s3 := HS2.out.cell 3
                    have s4 := HS2.out.cell 4
                    have s5 := HS2.out.cell 5
                    simp only [List.getElem?_toArray, List.getElem?_cons_zero, List.getElem?_cons_succ] at s0 s1 s2 s3 s4 s5
                    have hsl := HS2.out.lt
                    go_wp2_with fail
                    refine (sectionSizeS_any p _ (by unfold maxLen; omega)).mono ?_
                    rintro e w3 ⟨rfl, b3⟩
                    replace HQ2 := hide (HQ2.out.call b3)
                    have hwr : IntKind.i64.wrap (v + secSize p.d) = v + secSize p.d := IntWalk.i64_in _ (by omega)
                    generalize secSize p.d = z at *
                    clear s0 s1 s2 s3 s4 s5 hsl HS2 b3 hrow hcu hfz
                    go_wp2_with fail
                    refine ⟨⟨m + 1, v + z, rs2, by omega, rfl, by go_num, by rw [HMP.out]; exact HU2.out, by rw [HMP.out]; exact HSH2.out, by omega, by omega, HRN2.out, HQ2.out⟩, by simp [intOf]; omega⟩
                  · have e1 : (p.kd != (j : Int) + 1) = true := bne_iff_ne.2 hkd
                    have HU2 := hide (show U = foldS ((j : Int) + 1) k (m + 1) ((o.ps.map SV.d).drop (m + 1)) (f, rs.map RV.zs) from by
                      rw [HU.out]
                      unfold stepS
                      rw [show decide (p.d.kd = (j : Int) + 1) = false from decide_eq_false hkd]
                      rfl)
                    clear hkd HU
                    go_wp2_with fail
                    refine ⟨⟨m + 1, f, rs, by omega, rfl, by go_num, HU2.out, HSH.out, hf0, by omega, HRN.out, HQ.out⟩, by simp [intOf]; omega⟩
                · obtain rfl : m = o.ps.length := by omega
                  have HT2 := hide (show T = foldO ((j : Int) + 1) (k + 1) (l.drop (k + 1)) (f, rs.map RV.zs) from by
                    have hu2 : U = (f, rs.map RV.zs) := by
                      rw [hu, List.drop_of_length_le (by simp)]
                      rfl
                    rw [HT.out, hu2])
                  clear hu hlq hsh HT
                  go_wp2_with fail
                  refine ⟨⟨k + 1, f, rs, by omega, rfl, by go_num, HT2.out, HSH.out, hf0, by omega, HRN.out, HQ.out⟩, by simp [intOf]; omega⟩
            · obtain rfl : k = qs.length := by omega
              have HT2 := hide (show T = (d, rs.map RV.zs) from by
                rw [ht, List.drop_of_length_le (by rw [← HLL.out]; simp)]
                rfl)
              clear ht hlq
              go_wp2_with fail
              have hwk : IntKind.i64.wrap ((j : Int) + 1 + 1) = (j : Int) + 1 + 1 := IntWalk.i64_in _ (by omega)
              refine ⟨⟨j + 1, d, rs, by omega, rfl, by first | (simp; done) | go_num, by rw [HLAY.out, HT2.out], HSH.out, hd0, by omega, HRN.out, HQ.out⟩, by simp [intOf]; omega⟩
        · obtain rfl : j = 3 := by omega
          have HL3 := hide (show lay l base = (a, rs.map RV.zs) from hlay)
          have HFIN := hide (show PlV l base w (.returned (.tuple #[.slice Ar n cr, .int .i64 a, .bool true])) wk from by
            refine ⟨Ar, cr, rs, a, by rw [HV.out, HRN.out], fun _ => ⟨by rw [HL3.out], by rw [HL3.out]⟩, HQ.out.own.rd, HB.out.trans (HQ.out.b.mono HB.out.size)⟩)
          clear hlay hlq
          go_wp2_with fail
          go_ret3
          exact HFIN.out
end Go.Proofs.Ytmglgjchemecjaa.CPlaceS
/- Where a name is given: one look through all symbols; plain. -/
namespace Go.Proofs.Ytmglgjchemecjaa.P11
set_option maxRecDepth 200000
open Go.ChangeShapes Go.WideShapes Go.ChangeAt Go.RowKit Kit CCode CName CFixups CSymbols PObj PValid PLink
def enS (k : Nat) : Nat → List YD → List (G × YD)
  | _, [] => []
  | j, y :: ys => ((k, j), y) :: enS k (j + 1) ys
def enO : Nat → List OD → List (G × YD)
  | _, [] => []
  | k, d :: ds => enS k 0 d.ys ++ enO (k + 1) ds
theorem enS_app (k : Nat) : ∀ (j : Nat) (a b : List YD), enS k j (a ++ b) = enS k j a ++ enS k (j + a.length) b
  | j, [], b => by simp [enS]
  | j, y :: a, b => by
    simp only [List.cons_append, enS, enS_app k (j + 1) a b, List.length_cons]
    rw [show j + 1 + a.length = j + (a.length + 1) from by omega]
theorem enO_app : ∀ (k : Nat) (a b : List OD), enO k (a ++ b) = enO k a ++ enO (k + a.length) b
  | k, [], b => by simp [enO]
  | k, d :: a, b => by
    simp only [List.cons_append, enO, enO_app (k + 1) a b, List.length_cons, List.append_assoc]
    rw [show k + 1 + a.length = k + (a.length + 1) from by omega]
theorem enS_snoc (k : Nat) {ys : List YD} {j : Nat} (h : j < ys.length) : enS k 0 (ys.take (j + 1)) = enS k 0 (ys.take j) ++ [((k, j), ys[j])] := by
  rw [take_succ h, enS_app, List.length_take, Nat.min_eq_left (by omega), Nat.zero_add]
  rfl
theorem enO_snoc {l : List OD} {k : Nat} (h : k < l.length) : enO 0 (l.take (k + 1)) = enO 0 (l.take k) ++ enS k 0 l[k].ys := by
  rw [take_succ h, enO_app, List.length_take, Nat.min_eq_left (by omega), Nat.zero_add]
  simp [enO]
theorem enS_mem {k : Nat} : ∀ {j : Nat} {ys : List YD} {e : G × YD}, e ∈ enS k j ys → e.2 ∈ ys
  | _, [], _, h => by cases h
  | _, y :: ys, e, h => by
    rcases List.mem_cons.1 h with rfl | h
    · exact List.mem_cons_self
    · exact List.mem_cons_of_mem _ (enS_mem h)
theorem enO_mem : ∀ {k : Nat} {l : List OD} {e : G × YD}, e ∈ enO k l → ∃ d ∈ l, e.2 ∈ d.ys
  | _, [], _, h => by cases h
  | _, d :: ds, e, h => by
    rcases List.mem_append.1 h with h | h
    · exact ⟨d, List.mem_cons_self, enS_mem h⟩
    · obtain ⟨x, hx, hy⟩ := enO_mem h
      exact ⟨x, List.mem_cons_of_mem _ hx, hy⟩
theorem fiS_en (p : YD → Bool) (k : Nat) : ∀ (n : Nat) (ys : List YD), ((enS k n ys).find? fun e => p e.2).map (·.1) = (fiS p n ys).map fun j => (k, j)
  | _, [] => rfl
  | n, y :: ys => by
    rw [enS, List.find?_cons, fiS]
    cases h : p y
    · simpa using fiS_en p k (n + 1) ys
    · rfl
theorem fiO_en (p : YD → Bool) : ∀ (n : Nat) (ds : List OD), ((enO n ds).find? fun e => p e.2).map (·.1) = fiO p n ds
  | _, [] => rfl
  | n, d :: ds => by
    rw [enO, List.find?_append, fiO]
    have h1 := fiS_en p n 0 d.ys
    have h2 := fiO_en p (n + 1) ds
    cases h : fiS p 0 d.ys with
    | none =>
      rw [h] at h1
      have h3 : (enS n 0 d.ys).find? (fun e => p e.2) = none := by simpa using h1
      rw [h3]
      simpa [fiR] using h2
    | some j =>
      rw [h] at h1
      obtain ⟨e, he, he2⟩ := Option.map_eq_some_iff.1 h1
      rw [he]
      simpa [fiR] using he2
theorem find_congr {α : Type} {p q : α → Bool} : ∀ {l : List α}, (∀ x ∈ l, p x = q x) → l.find? p = l.find? q
  | [], _ => rfl
  | x :: xs, h => by
    rw [List.find?_cons, List.find?_cons, h x List.mem_cons_self, find_congr fun y hy => h y (List.mem_cons_of_mem _ hy)]
def hitY (nm : ByteArray) (y : YD) : Bool := decide (y.1 = nm) && (!decide (y.2.1 = 0) && !decide (y.2.2.1 = -1))
abbrev St11 := G × Int × Bool
def step11 (nm : ByteArray) (st : St11) (e : G × YD) : St11 :=
  bif hitY nm e.2 then ((bif (decide (e.2.2.1 = 1) && decide (st.2.1 = 0)) || !st.2.2 then e.1 else st.1), (bif decide (e.2.2.1 = 1) then st.2.1 + 1 else st.2.1), true) else st
def st11 (nm : ByteArray) (E : List (G × YD)) : St11 := E.foldl (step11 nm) ((0, 0), 0, false)
theorem st11_snoc (nm : ByteArray) (E : List (G × YD)) (e : G × YD) : st11 nm (E ++ [e]) = step11 nm (st11 nm E) e := by simp [st11]
def strongY (nm : ByteArray) (y : YD) : Bool := hitY nm y && decide (y.2.1 = 1)
def outE (nm : ByteArray) (E : List (G × YD)) : G :=
  match E.find? fun e => strongY nm e.2 with
  | some e => e.1
  | none => match E.find? fun e => hitY nm e.2 with
    | some e => e.1
    | none => (0, 0)
theorem st11_take (nm : ByteArray) (E : List (G × YD)) : ∀ n, n ≤ E.length → st11 nm (E.take n) = (outE nm (E.take n), (((E.take n).filter fun e => strongY nm e.2).length : Int), (E.take n).any fun e => hitY nm e.2)
  | 0, _ => rfl
  | n + 1, hn => by
    have ih := st11_take nm E n (by omega)
    have hlt : n < E.length := by omega
    rw [take_succ hlt, st11_snoc, ih]
    generalize E.take n = F
    generalize E[n] = e
    have hs : strongY nm e.2 = (hitY nm e.2 && decide (e.2.2.1 = 1)) := rfl
    have hcnt : (((F.filter fun e => strongY nm e.2).length : Int) = 0) ↔ F.find? (fun e => strongY nm e.2) = none := by
      rw [List.find?_eq_none]
      constructor
      · intro h x hx hp
        have h0 : (F.filter fun e => strongY nm e.2) = [] := List.eq_nil_of_length_eq_zero (by omega)
        have : x ∈ F.filter fun e => strongY nm e.2 := List.mem_filter.2 ⟨hx, hp⟩
        rw [h0] at this
        cases this
      · intro h
        have h0 : (F.filter fun e => strongY nm e.2) = [] := List.filter_eq_nil_iff.2 h
        rw [h0]
        rfl
    have hany : (F.any fun e => hitY nm e.2) = false ↔ F.find? (fun e => hitY nm e.2) = none := by
      rw [List.find?_eq_none, List.any_eq_false]
    unfold step11 outE
    simp only [List.find?_append, List.filter_append, List.any_append, List.length_append]
    cases hh : hitY nm e.2
    · have hs0 : strongY nm e.2 = false := by rw [hs, hh]; rfl
      simp [hh, hs0]
    · by_cases h1 : e.2.2.1 = 1
      · have hs1 : strongY nm e.2 = true := by rw [hs, hh, decide_eq_true h1]; rfl
        by_cases hc : F.find? (fun e => strongY nm e.2) = none
        · have hc2 := hcnt.2 hc
          simp [hh, h1, hs1, hc, hc2]
        · have hc2 : ¬ (((F.filter fun e => strongY nm e.2).length : Int) = 0) := fun h => hc (hcnt.1 h)
          obtain ⟨x, hx⟩ := Option.ne_none_iff_exists'.1 hc
          have hf : (F.any fun e => hitY nm e.2) = true := by
            have hm := List.mem_of_find?_eq_some hx
            have hp := List.find?_some hx
            rw [List.any_eq_true]
            simp only [strongY, Bool.and_eq_true] at hp
            exact ⟨x, hm, hp.1⟩
          have hd : decide ((((F.filter fun e => strongY nm e.2).length : Int)) = 0) = false := decide_eq_false hc2
          simp only [hd]
          simp [hh, h1, hs1, hx, hf]
      · have hs0 : strongY nm e.2 = false := by rw [hs, hh, decide_eq_false h1]; rfl
        cases hf : F.any fun e => hitY nm e.2
        · have hn := hany.1 hf
          have hn2 : F.find? (fun e => strongY nm e.2) = none := by
            rw [List.find?_eq_none]
            intro x hx hp
            simp only [strongY, Bool.and_eq_true] at hp
            have := List.any_eq_false.1 hf x hx
            exact this hp.1
          simp [hh, h1, hs0, hn, hn2]
        · cases hq : F.find? (fun e => strongY nm e.2) with
          | some x => simp [hh, h1, hs0, hq]
          | none =>
            have hne : F.find? (fun e => hitY nm e.2) ≠ none := fun h => by rw [hany.2 h] at hf; cases hf
            obtain ⟨x, hx⟩ := Option.ne_none_iff_exists'.1 hne
            simp [hh, h1, hs0, hq, hx]
theorem st11_eq (nm : ByteArray) (E : List (G × YD)) : st11 nm E = (outE nm E, ((E.filter fun e => strongY nm e.2).length : Int), E.any fun e => hitY nm e.2) := by
  have h := st11_take nm E E.length (Nat.le_refl _)
  rwa [List.take_length] at h
/-- The look finds what findName finds. -/
theorem given_find {l : List OD} (hv : ∀ d ∈ l, ∀ y ∈ d.ys, 0 ≤ y.2.1 ∧ y.2.1 ≤ 2) (nm : ByteArray) : (st11 nm (enO 0 l)).1 = (findN l nm).getD (0, 0) ∧ (st11 nm (enO 0 l)).2.2 = (findN l nm).isSome := by
  rw [st11_eq]
  have hE : ∀ e ∈ enO 0 l, 0 ≤ e.2.2.1 ∧ e.2.2.1 ≤ 2 := fun e he => by
    obtain ⟨d, hd, hy⟩ := enO_mem he
    exact hv d hd e.2 hy
  have h1 := fiO_en (gives nm 1) 0 l
  have h2 := fiO_en (gives nm 2) 0 l
  have e1 : ∀ e ∈ enO 0 l, strongY nm e.2 = gives nm 1 e.2 := fun e he => by
    unfold strongY hitY gives
    by_cases a : e.2.1 = nm <;> by_cases b : e.2.2.1 = 1 <;> by_cases c : e.2.2.2.1 = -1 <;> simp [a, b, c]
  have e2 : ∀ e ∈ enO 0 l, gives nm 1 e.2 = false → hitY nm e.2 = gives nm 2 e.2 := fun e he hg => by
    have hb := hE e he
    revert hg
    unfold hitY gives
    by_cases a : e.2.1 = nm <;> by_cases c : e.2.2.2.1 = -1 <;> simp [a, c]
    intro h
    by_cases b : e.2.2.1 = 0
    · simp [b]
    · have : e.2.2.1 = 2 := by omega
      simp [this]
  generalize enO 0 l = E at *
  unfold findN outE
  have g1 : E.find? (fun e => strongY nm e.2) = E.find? (fun e => gives nm 1 e.2) := find_congr e1
  rw [g1, ← h1, ← h2]
  cases hq : E.find? (fun e => gives nm 1 e.2) with
  | some x =>
    have hm := List.mem_of_find?_eq_some hq
    have hp := List.find?_some hq
    have ha : (E.any fun e => hitY nm e.2) = true := List.any_eq_true.2 ⟨x, hm, by
      have h := e1 x hm
      rw [hp] at h
      simp only [strongY, Bool.and_eq_true] at h
      exact h.1⟩
    simp [orG, ha]
  | none =>
    have hn : ∀ e ∈ E, gives nm 1 e.2 = false := fun e he => by
      have := List.find?_eq_none.1 hq e he
      simpa using this
    have g2 : E.find? (fun e => hitY nm e.2) = E.find? (fun e => gives nm 2 e.2) := find_congr fun e he => e2 e he (hn e he)
    have g3 : (E.any fun e => hitY nm e.2) = (E.find? (fun e => hitY nm e.2)).isSome := by
      rw [Bool.eq_iff_iff, List.any_eq_true, List.find?_isSome]
    rw [g3, g2]
    cases hr : E.find? (fun e => gives nm 2 e.2) <;> simp [orG]
end Go.Proofs.Ytmglgjchemecjaa.P11
/- l11Given: where a name is given; the reference's. -/
namespace Go.Proofs.Ytmglgjchemecjaa.C11
set_option maxRecDepth 200000
open Go.ChangeShapes Go.WideShapes Go.ChangeAt Go.RowKit Kit CCode CName CFixups CSymbols PObj BObj PValid CGlobalOf CObjValid BStore BList PLink CFind P11
def gvV (st : St11) : Value := .tuple #[.agg #[.int .i64 st.1.1, .int .i64 st.1.2], .int .i64 st.2.1, .bool st.2.2]
set_option maxHeartbeats 4000000 in
theorem given_any (A : Option Addr) (os : List OV) (c : Nat) (nm : ByteArray) (w : World) (hr : RdOs w w.heap.size A os) (hm : Lens os) :
    Calls Try.prog 160 #[.slice A os.length c, .string nm] w (Ret (gvV (st11 nm (enO 0 (os.map OV.d)))) w) := by
  obtain ⟨hm1, hm2⟩ := hm
  have HR := hide hr
  have HM2 := hide hm2
  clear hr hm2
  have HB := hide (show Below w.heap.size w ((w.alloc (.cells #[.int .i64 0, .int .i64 0] 117)).alloc (.cells #[.int .i64 0, .int .i64 0] 117)) from (by repeat (first | exact Below.refl _ _ | with_reducible assumption | (refine Below.drew ?_) | (refine Below.drewN ?_ _) | (refine Below.alloc ?_ (by simp; try omega) _) | (refine Below.setCell ?_ (by simp; try omega) _))))
  have HP := hide ((Box.new w 117 #[.int .i64 0, .int .i64 0]).alloc (.cells #[.int .i64 0, .int .i64 0] 117))
  have HX0 := Box.new (w.alloc (.cells #[.int .i64 0, .int .i64 0] 117)) 117 #[.int .i64 0, .int .i64 0]
  rw [World.size_alloc] at HX0
  have HX := hide HX0
  clear HX0
  go_enter Try.func160, Try.ntmps160
  go_wp2_with fail
  generalize (w.alloc (.cells #[.int .i64 0, .int .i64 0] 117)).alloc (.cells #[.int .i64 0, .int .i64 0] 117) = w0 at *
  generalize hl : os.map OV.d = l at *
  have HL := hide hl
  clear hl
  generalize hXX : w.heap.size + 1 = X at *
  have HXX := hide hXX
  clear hXX
  go_loopw [8, 9, 10] (fun s f i wi => ∃ (k : Nat) (st : St11), k ≤ os.length ∧ s = .int .i64 st.2.1 ∧ f = .bool st.2.2 ∧ i = .int .i64 k ∧ st = st11 nm (enO 0 (l.take k)) ∧ 0 ≤ st.2.1 ∧ st.2.1 ≤ 1048576 * k ∧ Box wi X 117 #[.int .i64 st.1.1, .int .i64 st.1.2] ∧ Box wi w.heap.size 117 #[.int .i64 0, .int .i64 0] ∧ Below w.heap.size w wi) (fun _ _ i _ => os.length - (intOf i).toNat)
  case atStart => exact ⟨0, ((0, 0), 0, false), Nat.zero_le _, rfl, rfl, rfl, rfl, Int.le_refl _, Int.le_refl _, HX.out, HP.out, HB.out⟩
  case round =>
    rename World => wk
    clear HX HP HB
    obtain ⟨k, st, hk, rfl, rfl, rfl, hst, hs0, hs1, hx, hp, hb⟩ := hrel
    have HST := hide hst
    have HX := hide hx
    have HP := hide hp
    have HB := hide hb
    clear hst hx hp
    by_cases hlt : k < os.length
    · obtain ⟨bb, off, hA, hbb, _, hcA⟩ := HR.out.at hlt
      have HCE := hide (fun V (hV : Below w.heap.size w V) => (show V.cell? ⟨bb, off + k * 2 + 1, none⟩ = some (.slice os[k].Y os[k].ys.length os[k].yc) from (hV.cell (p := ⟨bb, off + k * 2 + 1, none⟩) hbb).trans hcA))
      have HRY := hide (HR.out.2 _ (List.getElem_mem hlt)).2
      have hyl := HM2.out _ (List.getElem_mem hlt)
      have HSN := hide (show enO 0 (l.take (k + 1)) = enO 0 (l.take k) ++ enS k 0 os[k].ys from by
        have h := HL.out
        subst h
        rw [enO_snoc (by simpa using hlt)]
        simp [OV.d])
      clear hb hcA
      subst hA
      generalize enO 0 (l.take k) = E0 at *
      generalize os[k] = o at *
      go_wp2_with fail
      go_loopw [8, 9, 11] (fun s f i wi => ∃ (j : Nat) (st : St11), j ≤ o.ys.length ∧ s = .int .i64 st.2.1 ∧ f = .bool st.2.2 ∧ i = .int .i64 j ∧ st = st11 nm (E0 ++ enS k 0 (o.ys.take j)) ∧ 0 ≤ st.2.1 ∧ st.2.1 ≤ 1048576 * k + j ∧ Box wi X 117 #[.int .i64 st.1.1, .int .i64 st.1.2] ∧ Box wi w.heap.size 117 #[.int .i64 0, .int .i64 0] ∧ Below w.heap.size w wi) (fun _ _ i _ => o.ys.length - (intOf i).toNat)
      case atStart => exact ⟨0, st, Nat.zero_le _, rfl, rfl, rfl, by simpa [enS] using HST.out, hs0, by omega, HX.out, HP.out, HB.out⟩
      case round =>
        rename World => wj
        clear HX HP HB HST
        obtain ⟨j, st, hj, rfl, rfl, rfl, hst, hs0, hs1, hx, hp, hb⟩ := hrel
        obtain ⟨g, s, f⟩ := st
        simp only at hs0 hs1 hx
        simp only
        have HST := hide hst
        have HX := hide hx
        have HP := hide hp
        have HB := hide hb
        have hcl := HCE.out wj hb
        clear hst hx hp
        by_cases hjl : j < o.ys.length
        · obtain ⟨b2, off2, hY, hb2, hc⟩ := (HRY.out.below hb).row symbolC_len (by decide) hjl
          have hc0 := hc 0 _ rfl
          have hc1 := hc 1 _ rfl
          have hc2 := hc 2 _ rfl
          have hc3 := hc 3 _ rfl
          simp only [Nat.add_zero] at hc0
          have HNX := hide (show st11 nm (E0 ++ enS k 0 (o.ys.take (j + 1))) = step11 nm (g, s, f) ((k, j), o.ys[j]) from by rw [enS_snoc k hjl, ← List.append_assoc, st11_snoc, ← HST.out])
          clear hb hc
          rw [hY] at hcl
          clear hY HST
          generalize o.ys[j] = z at *
          obtain ⟨z1, z2, z3, z4⟩ := z
          simp only at hc0 hc1 hc2 hc3
          have B1 : Below wj.heap.size wj (wj.alloc (.cells #[.string z1, .int .i64 z2, .int .i64 z3, .int .i64 z4] 69)) := (by repeat (first | exact Below.refl _ _ | with_reducible assumption | (refine Below.drew ?_) | (refine Below.drewN ?_ _) | (refine Below.alloc ?_ (by simp; try omega) _) | (refine Below.setCell ?_ (by simp; try omega) _)))
          have HS := hide (Box.new wj 69 #[.string z1, .int .i64 z2, .int .i64 z3, .int .i64 z4])
          have hXj : X < wj.heap.size := HX.out.lt
          have HXj := hide HX.out
          have HPj := hide HP.out
          have HBj := hide HB.out
          replace HB := hide (HB.out.trans (B1.mono HB.out.size))
          replace HX := hide (HX.out.call B1)
          replace HP := hide (HP.out.call B1)
          clear B1
          have y0 := HS.out.cell 0
          have y1 := HS.out.cell 1
          have y2 := HS.out.cell 2
          simp only [List.getElem?_toArray, List.getElem?_cons_zero, List.getElem?_cons_succ] at y0 y1 y2
          have hsl := HS.out.lt
          have HU := hide (show step11 nm (g, s, f) ((k, j), (z1, z2, z3, z4)) = bif hitY nm (z1, z2, z3, z4) then ((bif (decide (z2 = 1) && decide (s = 0)) || !f then (k, j) else g), (bif decide (z2 = 1) then s + 1 else s), true) else (g, s, f) from rfl)
          cases hn : (z1.toList == nm.toList)
          · have HH := hide (show hitY nm (z1, z2, z3, z4) = false from by
              unfold hitY
              rw [← str_eq, hn]
              rfl)
            have hr2 := HU.out
            rw [HH.out, cond_false] at hr2
            have HF := hide (HNX.out.trans hr2)
            clear hr2 HH HU HNX
            go_wp2_with fail
            refine ⟨⟨j + 1, (g, s, f), by omega, rfl, rfl, by go_num, HF.out.symm, hs0, by show s ≤ _; omega, HX.out, HP.out, HB.out⟩, by simp [intOf]; omega⟩
          have HNM := hide (show z1 = nm from by
            rw [str_eq, decide_eq_true_iff] at hn
            exact hn)
          by_cases hz2 : z2 = 0
          case pos =>
            have HH := hide (show hitY nm (z1, z2, z3, z4) = false from by unfold hitY; simp [hz2])
            have e2 : (z2 == 0) = true := beq_iff_eq.2 hz2
            clear hz2
            have HF := hide (HNX.out.trans (by rw [HU.out, HH.out, cond_false]))
            clear HH HU HNX
            go_wp2_with fail
            refine ⟨⟨j + 1, (g, s, f), by omega, rfl, rfl, by go_num, HF.out.symm, hs0, by show s ≤ _; omega, HX.out, HP.out, HB.out⟩, by simp [intOf]; omega⟩
          by_cases hz3 : z3 = -1
          case pos =>
            have HH := hide (show hitY nm (z1, z2, z3, z4) = false from by unfold hitY; simp [hz3])
            have e2 : (z2 == 0) = false := beq_eq_false_iff_ne.2 hz2
            have e3 : (z3 == -1) = true := beq_iff_eq.2 hz3
            clear hz2 hz3
            have HF := hide (HNX.out.trans (by rw [HU.out, HH.out, cond_false]))
            clear HH HU HNX
            go_wp2_with fail
            refine ⟨⟨j + 1, (g, s, f), by omega, rfl, rfl, by go_num, HF.out.symm, hs0, by show s ≤ _; omega, HX.out, HP.out, HB.out⟩, by simp [intOf]; omega⟩
          have HH := hide (show hitY nm (z1, z2, z3, z4) = true from by unfold hitY; simp [HNM.out, hz2, hz3])
          have e2 : (z2 == 0) = false := beq_eq_false_iff_ne.2 hz2
          have e3 : (z3 == -1) = false := beq_eq_false_iff_ne.2 hz3
          clear hz2 hz3
          have HXL := hide (show X < wj.heap.size from hXj)
          by_cases h1 : z2 = 1
          · have e1 : (z2 == 1) = true := beq_iff_eq.2 h1
            by_cases hs : s = 0
            · have es : (s == 0) = true := beq_iff_eq.2 hs
              have HF := hide (HNX.out.trans (show step11 nm (g, s, f) ((k, j), (z1, z2, z3, z4)) = ((k, j), s + 1, true) from by rw [HU.out, HH.out]; simp [h1, hs]))
              clear HH HU HNX h1 hs
              have hwr : IntKind.i64.wrap (s + 1) = s + 1 := IntWalk.i64_in _ (by omega)
              have x0 := HXj.out.cell 0
              have x1 := HXj.out.cell 1
              simp only [List.getElem?_toArray, List.getElem?_cons_zero, List.getElem?_cons_succ] at x0 x1
              have fx0 := HXj.out.frozen 0
              have fx1 := HXj.out.frozen 1
              have hxl := HXj.out.lt
              have hXl := HXL.out
              have HXN := hide (((HXj.out.set 0 (.int .i64 k)).set 1 (.int .i64 j)).alloc (.cells #[.string z1, .int .i64 z2, .int .i64 z3, .int .i64 z4] 69))
              have HPN := hide (((HPj.out.far (p := ⟨X, 0, none⟩) (by have := HXX.out; show w.heap.size ≠ X; omega) (.int .i64 k)).far (p := ⟨X, 1, none⟩) (by have := HXX.out; show w.heap.size ≠ X; omega) (.int .i64 j)).alloc (.cells #[.string z1, .int .i64 z2, .int .i64 z3, .int .i64 z4] 69))
              have HBN := hide ((two_below (Y := X) HBj.out (by have := HXX.out; omega) (.int .i64 k) (.int .i64 j)).alloc (two_below (Y := X) HBj.out (by have := HXX.out; omega) (.int .i64 k) (.int .i64 j)).size (.cells #[.string z1, .int .i64 z2, .int .i64 z3, .int .i64 z4] 69))
              have hsz : ((wj.setCell ⟨X, 0, none⟩ (.int .i64 k)).setCell ⟨X, 1, none⟩ (.int .i64 j)).heap.size = wj.heap.size := by simp [World.setCell]
              have HSN := Box.new ((wj.setCell ⟨X, 0, none⟩ (.int .i64 k)).setCell ⟨X, 1, none⟩ (.int .i64 j)) 69 #[.string z1, .int .i64 z2, .int .i64 z3, .int .i64 z4]
              rw [hsz] at HSN
              have y1' := HSN.cell 1
              simp only [List.getElem?_toArray, List.getElem?_cons_zero, List.getElem?_cons_succ] at y1'
              clear HSN
              go_wp2_with fail
              refine ⟨⟨j + 1, ((k, j), s + 1, true), by omega, rfl, rfl, by go_num, HF.out.symm, (by show 0 ≤ s + 1; omega), (by show s + 1 ≤ _; omega), HXN.out, HPN.out, HBN.out⟩, by simp [intOf]; omega⟩
            · have es : (s == 0) = false := beq_eq_false_iff_ne.2 hs
              cases f
              · skip
                have HF := hide (HNX.out.trans (show step11 nm (g, s, false) ((k, j), (z1, z2, z3, z4)) = ((k, j), s + 1, true) from by rw [HU.out, HH.out]; simp [h1, hs]))
                clear HH HU HNX h1 hs
                have hwr : IntKind.i64.wrap (s + 1) = s + 1 := IntWalk.i64_in _ (by omega)
                have x0 := HXj.out.cell 0
                have x1 := HXj.out.cell 1
                simp only [List.getElem?_toArray, List.getElem?_cons_zero, List.getElem?_cons_succ] at x0 x1
                have fx0 := HXj.out.frozen 0
                have fx1 := HXj.out.frozen 1
                have hxl := HXj.out.lt
                have hXl := HXL.out
                have HXN := hide (((HXj.out.set 0 (.int .i64 k)).set 1 (.int .i64 j)).alloc (.cells #[.string z1, .int .i64 z2, .int .i64 z3, .int .i64 z4] 69))
                have HPN := hide (((HPj.out.far (p := ⟨X, 0, none⟩) (by have := HXX.out; show w.heap.size ≠ X; omega) (.int .i64 k)).far (p := ⟨X, 1, none⟩) (by have := HXX.out; show w.heap.size ≠ X; omega) (.int .i64 j)).alloc (.cells #[.string z1, .int .i64 z2, .int .i64 z3, .int .i64 z4] 69))
                have HBN := hide ((two_below (Y := X) HBj.out (by have := HXX.out; omega) (.int .i64 k) (.int .i64 j)).alloc (two_below (Y := X) HBj.out (by have := HXX.out; omega) (.int .i64 k) (.int .i64 j)).size (.cells #[.string z1, .int .i64 z2, .int .i64 z3, .int .i64 z4] 69))
                have hsz : ((wj.setCell ⟨X, 0, none⟩ (.int .i64 k)).setCell ⟨X, 1, none⟩ (.int .i64 j)).heap.size = wj.heap.size := by simp [World.setCell]
                have HSN := Box.new ((wj.setCell ⟨X, 0, none⟩ (.int .i64 k)).setCell ⟨X, 1, none⟩ (.int .i64 j)) 69 #[.string z1, .int .i64 z2, .int .i64 z3, .int .i64 z4]
                rw [hsz] at HSN
                have y1' := HSN.cell 1
                simp only [List.getElem?_toArray, List.getElem?_cons_zero, List.getElem?_cons_succ] at y1'
                clear HSN
                go_wp2_with fail
                refine ⟨⟨j + 1, ((k, j), s + 1, true), by omega, rfl, rfl, by go_num, HF.out.symm, (by show 0 ≤ s + 1; omega), (by show s + 1 ≤ _; omega), HXN.out, HPN.out, HBN.out⟩, by simp [intOf]; omega⟩
              · skip
                have HF := hide (HNX.out.trans (show step11 nm (g, s, true) ((k, j), (z1, z2, z3, z4)) = (g, s + 1, true) from by rw [HU.out, HH.out]; simp [h1, hs]))
                clear HH HU HNX h1 hs
                have hwr : IntKind.i64.wrap (s + 1) = s + 1 := IntWalk.i64_in _ (by omega)
                go_wp2_with fail
                refine ⟨⟨j + 1, (g, s + 1, true), by omega, rfl, rfl, by go_num, HF.out.symm, (by show 0 ≤ s + 1; omega), (by show s + 1 ≤ _; omega), HX.out, HP.out, HB.out⟩, by simp [intOf]; omega⟩
          · have e1 : (z2 == 1) = false := beq_eq_false_iff_ne.2 h1
            cases f
            · skip
              have HF := hide (HNX.out.trans (show step11 nm (g, s, false) ((k, j), (z1, z2, z3, z4)) = ((k, j), s, true) from by rw [HU.out, HH.out]; simp [h1]))
              clear HH HU HNX h1
              have x0 := HXj.out.cell 0
              have x1 := HXj.out.cell 1
              simp only [List.getElem?_toArray, List.getElem?_cons_zero, List.getElem?_cons_succ] at x0 x1
              have fx0 := HXj.out.frozen 0
              have fx1 := HXj.out.frozen 1
              have hxl := HXj.out.lt
              have hXl := HXL.out
              have HXN := hide (((HXj.out.set 0 (.int .i64 k)).set 1 (.int .i64 j)).alloc (.cells #[.string z1, .int .i64 z2, .int .i64 z3, .int .i64 z4] 69))
              have HPN := hide (((HPj.out.far (p := ⟨X, 0, none⟩) (by have := HXX.out; show w.heap.size ≠ X; omega) (.int .i64 k)).far (p := ⟨X, 1, none⟩) (by have := HXX.out; show w.heap.size ≠ X; omega) (.int .i64 j)).alloc (.cells #[.string z1, .int .i64 z2, .int .i64 z3, .int .i64 z4] 69))
              have HBN := hide ((two_below (Y := X) HBj.out (by have := HXX.out; omega) (.int .i64 k) (.int .i64 j)).alloc (two_below (Y := X) HBj.out (by have := HXX.out; omega) (.int .i64 k) (.int .i64 j)).size (.cells #[.string z1, .int .i64 z2, .int .i64 z3, .int .i64 z4] 69))
              have hsz : ((wj.setCell ⟨X, 0, none⟩ (.int .i64 k)).setCell ⟨X, 1, none⟩ (.int .i64 j)).heap.size = wj.heap.size := by simp [World.setCell]
              have HSN := Box.new ((wj.setCell ⟨X, 0, none⟩ (.int .i64 k)).setCell ⟨X, 1, none⟩ (.int .i64 j)) 69 #[.string z1, .int .i64 z2, .int .i64 z3, .int .i64 z4]
              rw [hsz] at HSN
              have y1' := HSN.cell 1
              simp only [List.getElem?_toArray, List.getElem?_cons_zero, List.getElem?_cons_succ] at y1'
              clear HSN
              go_wp2_with fail
              refine ⟨⟨j + 1, ((k, j), s, true), by omega, rfl, rfl, by go_num, HF.out.symm, (by show 0 ≤ s; omega), (by show s ≤ _; omega), HXN.out, HPN.out, HBN.out⟩, by simp [intOf]; omega⟩
            · skip
              have HF := hide (HNX.out.trans (show step11 nm (g, s, true) ((k, j), (z1, z2, z3, z4)) = (g, s, true) from by rw [HU.out, HH.out]; simp [h1]))
              clear HH HU HNX h1
              go_wp2_with fail
              refine ⟨⟨j + 1, (g, s, true), by omega, rfl, rfl, by go_num, HF.out.symm, (by show 0 ≤ s; omega), (by show s ≤ _; omega), HX.out, HP.out, HB.out⟩, by simp [intOf]; omega⟩
        · have hje : j = o.ys.length := by omega
          have HF := hide (show (g, s, f) = st11 nm (enO 0 (l.take (k + 1))) from by
            rw [HST.out, hje, List.take_length, HSN.out])
          have hY2 : s ≤ 1048576 * ((k : Int) + 1) := by omega
          clear hb hje HST
          go_wp2_with fail
          refine ⟨⟨k + 1, (g, s, f), by omega, rfl, rfl, by go_num, HF.out, hs0, by show s ≤ 1048576 * (((k + 1 : Nat)) : Int); omega, HX.out, HP.out, HB.out⟩, by simp [intOf]; omega⟩
    · have hke : k = os.length := by omega
      obtain ⟨g, s, f⟩ := st
      simp only at hs0 hs1
      have HF := hide (show st11 nm (enO 0 l) = (g, s, f) from by
        have h := HST.out
        rw [hke, List.take_of_length_le (by rw [← HL.out, List.length_map]; exact Nat.le_refl _)] at h
        exact h.symm)
      simp only at HX
      simp only
      have x0 := HX.out.cell 0
      have x1 := HX.out.cell 1
      simp only [List.getElem?_toArray, List.getElem?_cons_zero, List.getElem?_cons_succ] at x0 x1
      have hxl := HX.out.lt
      have p0 := HP.out.cell 0
      have p1 := HP.out.cell 1
      simp only [List.getElem?_toArray, List.getElem?_cons_zero, List.getElem?_cons_succ] at p0 p1
      have fp0 := HP.out.frozen 0
      have fp1 := HP.out.frozen 1
      have hpl := HP.out.lt
      have HBN := hide (two_below (Y := w.heap.size) HB.out (Nat.le_refl _) (.int .i64 g.1) (.int .i64 g.2))
      have kk := (HP.out.set 0 (.int .i64 g.1)).set 1 (.int .i64 g.2)
      have k0 := kk.cell 0
      have k1 := kk.cell 1
      simp only [List.setIfInBounds_toArray, List.set_cons_zero, List.set_cons_succ, List.getElem?_toArray, List.getElem?_cons_zero, List.getElem?_cons_succ] at k0 k1
      subst hke
      clear hb kk HST
      go_wp2_with fail
      exact bodyPost_ret (v := gvV (g, s, f)) (by simp [results, Try.results160, go_sem, gvV, k0, k1]) rfl ⟨by rw [HF.out], HBN.out⟩
end Go.Proofs.Ytmglgjchemecjaa.C11
/- placeOf and symbolPlace: the places that symbols mean. -/
namespace Go.Proofs.Ytmglgjchemecjaa.CPlaceL
set_option maxRecDepth 200000
open Go.ChangeShapes Go.WideShapes Go.ChangeAt Go.RowKit Kit CCode CName CFixups CSymbols PObj BObj PValid CGlobalOf CObjValid BStore BList PLink CFind
/-- A symbol's place can be told. -/
def PlOk (rs : List RV) (k : Nat) (y : YD) : Prop :=
  (y.2.2.1 = -2 ∨ (0 ≤ y.2.2.1 ∧ ∃ h : k < rs.length, ∃ h2 : y.2.2.1.toNat < (rs[k]).zs.length, 0 ≤ (rs[k]).zs[y.2.2.1.toNat] ∧ (rs[k]).zs[y.2.2.1.toNat] ≤ 20000)) ∧ 0 ≤ y.2.2.2 ∧ y.2.2.2 ≤ 60000
theorem getP_at {rs : List RV} {k i : Nat} (h : k < rs.length) (h2 : i < (rs[k]).zs.length) : getP (rs.map RV.zs) k i = (rs[k]).zs[i] := by
  unfold getP
  rw [List.getD_eq_getElem?_getD, List.getD_eq_getElem?_getD, List.getElem?_map, List.getElem?_eq_getElem h]
  simp [List.getElem?_eq_getElem h2]
set_option maxHeartbeats 4000000 in
theorem placeOf_any (PA : Option Addr) (rs : List RV) (pc : Nat) (EA : Option Addr) (m ec : Nat) (A : Option Addr) (os : List OV) (c k j : Nat) (w : World) (hP : RdRs w w.heap.size PA rs) (hr : RdOs w w.heap.size A os)
    (hk : k < os.length) (hj : j < (os[k]).ys.length) (hm : os.length ≤ 1048576 ∧ (os[k]).ys.length ≤ 1048576) (hp : PlOk rs k (os[k]).ys[j]) :
    Calls Try.prog 96 #[.agg #[.slice PA rs.length pc, .slice EA m ec], .slice A os.length c, .agg #[.int .i64 k, .int .i64 j]] w (Ret (.int .i64 (tgY (rs.map RV.zs) k (os[k]).ys[j])) w) := by
  obtain ⟨hm1, hm2⟩ := hm
  have B0 : Below w.heap.size w ((w.alloc (.cells #[.slice PA rs.length pc, .slice EA m ec] 101)).alloc (.cells #[.int .i64 k, .int .i64 j] 117)) := (by repeat (first | exact Below.refl _ _ | with_reducible assumption | (refine Below.drew ?_) | (refine Below.drewN ?_ _) | (refine Below.alloc ?_ (by simp; try omega) _) | (refine Below.setCell ?_ (by simp; try omega) _)))
  have HL := hide ((Box.new w 101 #[.slice PA rs.length pc, .slice EA m ec]).alloc (.cells #[.int .i64 k, .int .i64 j] 117))
  have HG0 := Box.new (w.alloc (.cells #[.slice PA rs.length pc, .slice EA m ec] 101)) 117 #[.int .i64 k, .int .i64 j]
  simp only [World.size_alloc] at HG0
  have HG := hide HG0
  have HB := hide B0
  have HRP := hide (hP.below B0)
  obtain ⟨b1, o1, hA, hb1, hc0, hc1⟩ := (hr.below B0).at hk
  obtain ⟨b2, o2, hY, hb2, hc⟩ := ((hr.2 _ (List.getElem_mem hk)).2.below B0).row symbolC_len (by decide) hj
  have hd0 := hc 0 _ rfl
  have hd1 := hc 1 _ rfl
  have hd2 := hc 2 _ rfl
  have hd3 := hc 3 _ rfl
  simp only [Nat.add_zero] at hd0
  have HPL := hide hp
  clear hP hr hc hp HG0 B0 hc0
  subst hA
  rw [hY] at hc1
  clear hY
  generalize (os[k]).ys[j] = z at *
  generalize (os[k]).ys.length = yn at *
  generalize (os[k]).yc = ycc at *
  obtain ⟨z1, z2, z3, z4⟩ := z
  simp only at hd0 hd1 hd2 hd3
  go_enter Try.func96, Try.ntmps96
  go_wp2_with fail
  generalize (w.alloc (.cells #[.slice PA rs.length pc, .slice EA m ec] 101)).alloc (.cells #[.int .i64 k, .int .i64 j] 117) = w0 at *
  have hN : w.heap.size < w.heap.size + 1 := by omega
  generalize w.heap.size + 1 = N at *
  have g0 := HG.out.cell 0
  have g1 := HG.out.cell 1
  simp only [List.getElem?_toArray, List.getElem?_cons_zero, List.getElem?_cons_succ] at g0 g1
  have Z0 : w0.cell? ⟨N, 0, none⟩ = some (.int .i64 k) ∧ w0.cell? ⟨N, 1, none⟩ = some (.int .i64 j) ∧ w0.cell? ⟨b1, o1 + k * 2 + 1, none⟩ = some (.slice (some ⟨b2, o2, none⟩) yn ycc) ∧ w0.cell? ⟨b2, o2 + j * 4, none⟩ = some (.string z1) ∧ w0.cell? ⟨b2, o2 + j * 4 + 1, none⟩ = some (.int .i64 z2) ∧ w0.cell? ⟨b2, o2 + j * 4 + 2, none⟩ = some (.int .i64 z3) ∧ w0.cell? ⟨b2, o2 + j * 4 + 3, none⟩ = some (.int .i64 z4) := ⟨g0, g1, hc1, hd0, hd1, hd2, hd3⟩
  refine Reg.startT (fun W => W.cell? ⟨N, 0, none⟩ = some (.int .i64 k) ∧ W.cell? ⟨N, 1, none⟩ = some (.int .i64 j) ∧ W.cell? ⟨b1, o1 + k * 2 + 1, none⟩ = some (.slice (some ⟨b2, o2, none⟩) yn ycc) ∧ W.cell? ⟨b2, o2 + j * 4, none⟩ = some (.string z1) ∧ W.cell? ⟨b2, o2 + j * 4 + 1, none⟩ = some (.int .i64 z2) ∧ W.cell? ⟨b2, o2 + j * 4 + 2, none⟩ = some (.int .i64 z3) ∧ W.cell? ⟨b2, o2 + j * 4 + 3, none⟩ = some (.int .i64 z4)) (fun j => j == 11) (by kernel_rfl) ?_
  have hHeld : w0.drew.cell? ⟨N, 0, none⟩ = some (.int .i64 k) ∧ w0.drew.cell? ⟨N, 1, none⟩ = some (.int .i64 j) ∧ w0.drew.cell? ⟨b1, o1 + k * 2 + 1, none⟩ = some (.slice (some ⟨b2, o2, none⟩) yn ycc) ∧ w0.drew.cell? ⟨b2, o2 + j * 4, none⟩ = some (.string z1) ∧ w0.drew.cell? ⟨b2, o2 + j * 4 + 1, none⟩ = some (.int .i64 z2) ∧ w0.drew.cell? ⟨b2, o2 + j * 4 + 2, none⟩ = some (.int .i64 z3) ∧ w0.drew.cell? ⟨b2, o2 + j * 4 + 3, none⟩ = some (.int .i64 z4) := Z0
  clear Z0 g0 g1 hc1 hd0 hd1 hd2 hd3
  refine Reg.takeT (i := 0) (v := ?_) rfl (by kernel_rfl) (by kernel_rfl) (by kernel_rfl) (by kernel_rfl) (fun _ _ _ h => h) (Or.inl ⟨by rfl, ?_⟩) (by assumption) ?_
  rotate_left 1
  focus (intro w hSw; (try dsimp only at hSw); go_simp; (try with_reducible rfl))
  try simp only [List.getElem_toArray, List.getElem_cons_succ, List.getElem_cons_zero, Act.put, List.setIfInBounds_toArray, List.set_cons_zero, List.set_cons_succ]
  refine Reg.takeT (i := 1) (v := ?_) rfl (by kernel_rfl) (by kernel_rfl) (by kernel_rfl) (by kernel_rfl) (fun _ _ _ h => h) (Or.inl ⟨by rfl, ?_⟩) (by assumption) ?_
  rotate_left 1
  focus (intro w hSw; (try dsimp only at hSw); go_simp; (try with_reducible rfl))
  try simp only [List.getElem_toArray, List.getElem_cons_succ, List.getElem_cons_zero, Act.put, List.setIfInBounds_toArray, List.set_cons_zero, List.set_cons_succ]
  refine Reg.takeT (i := 2) (v := ?_) rfl (by kernel_rfl) (by kernel_rfl) (by kernel_rfl) (by kernel_rfl) (fun _ _ _ h => h) (Or.inl ⟨by rfl, ?_⟩) (by assumption) ?_
  rotate_left 1
  focus (intro w hSw; (try dsimp only at hSw); go_simp; (try with_reducible rfl))
  try simp only [List.getElem_toArray, List.getElem_cons_succ, List.getElem_cons_zero, Act.put, List.setIfInBounds_toArray, List.set_cons_zero, List.set_cons_succ]
  refine Reg.takeT (i := 3) (v := ?_) rfl (by kernel_rfl) (by kernel_rfl) (by kernel_rfl) (by kernel_rfl) (fun _ _ _ h => h) (Or.inl ⟨by rfl, ?_⟩) (by assumption) ?_
  rotate_left 1
  focus (intro w hSw; (try dsimp only at hSw); go_simp; (try with_reducible rfl))
  try simp only [List.getElem_toArray, List.getElem_cons_succ, List.getElem_cons_zero, Act.put, List.setIfInBounds_toArray, List.set_cons_zero, List.set_cons_succ]
  refine Reg.takeT (i := 4) (v := ?_) rfl (by kernel_rfl) (by kernel_rfl) (by kernel_rfl) (by kernel_rfl) (fun _ _ _ h => h) (Or.inl ⟨by rfl, ?_⟩) (by assumption) ?_
  rotate_left 1
  focus (intro w hSw; (try dsimp only at hSw); go_simp; (try with_reducible rfl))
  try simp only [List.getElem_toArray, List.getElem_cons_succ, List.getElem_cons_zero, Act.put, List.setIfInBounds_toArray, List.set_cons_zero, List.set_cons_succ]
  refine Reg.takeT (i := 5) (v := ?_) rfl (by kernel_rfl) (by kernel_rfl) (by kernel_rfl) (by kernel_rfl) (fun _ _ _ h => h) (Or.inl ⟨by rfl, ?_⟩) (by assumption) ?_
  rotate_left 1
  focus (intro w hSw; (try dsimp only at hSw); go_simp; (try with_reducible rfl))
  try simp only [List.getElem_toArray, List.getElem_cons_succ, List.getElem_cons_zero, Act.put, List.setIfInBounds_toArray, List.set_cons_zero, List.set_cons_succ]
  refine Reg.takeT (i := 6) (v := ?_) rfl (by kernel_rfl) (by kernel_rfl) (by kernel_rfl) (by kernel_rfl) (fun _ _ _ h => h) (Or.inl ⟨by rfl, ?_⟩) (by assumption) ?_
  rotate_left 1
  focus (intro w hSw; (try dsimp only at hSw); go_simp; (try with_reducible rfl))
  try simp only [List.getElem_toArray, List.getElem_cons_succ, List.getElem_cons_zero, Act.put, List.setIfInBounds_toArray, List.set_cons_zero, List.set_cons_succ]
  refine Reg.takeT (i := 7) (v := ?_) rfl (by kernel_rfl) (by kernel_rfl) (by kernel_rfl) (by kernel_rfl) (fun _ _ _ h => h) (Or.inl ⟨by rfl, ?_⟩) (by assumption) ?_
  rotate_left 1
  focus (intro w hSw; (try dsimp only at hSw); go_simp; (try with_reducible rfl))
  try simp only [List.getElem_toArray, List.getElem_cons_succ, List.getElem_cons_zero, Act.put, List.setIfInBounds_toArray, List.set_cons_zero, List.set_cons_succ]
  refine Reg.takeT (i := 8) (v := ?_) rfl (by kernel_rfl) (by kernel_rfl) (by kernel_rfl) (by kernel_rfl) (fun _ _ _ h => h) (Or.inl ⟨by rfl, ?_⟩) (by assumption) ?_
  rotate_left 1
  focus (intro w hSw; (try dsimp only at hSw); go_simp; (try with_reducible rfl))
  try simp only [List.getElem_toArray, List.getElem_cons_succ, List.getElem_cons_zero, Act.put, List.setIfInBounds_toArray, List.set_cons_zero, List.set_cons_succ]
  refine Reg.takeT (i := 9) (v := ?_) rfl (by kernel_rfl) (by kernel_rfl) (by kernel_rfl) (by kernel_rfl) (fun _ _ _ h => h) (Or.inl ⟨by rfl, ?_⟩) (by assumption) ?_
  rotate_left 1
  focus (intro w hSw; (try dsimp only at hSw); go_simp; (try with_reducible rfl))
  try simp only [List.getElem_toArray, List.getElem_cons_succ, List.getElem_cons_zero, Act.put, List.setIfInBounds_toArray, List.set_cons_zero, List.set_cons_succ]
  have bd : Below w0.heap.size w0 w0.drew := below_dr (Below.refl _ _)
  replace HRP := hide (HRP.out.below (bd.mono HB.out.size))
  replace HB := hide (HB.out.trans (bd.mono HB.out.size))
  replace HL := hide (HL.out.call bd)
  replace HG := hide (HG.out.call bd)
  clear bd
  generalize w0.drew = w1 at *
  refine Reg.oneT (i := 10) rfl (by kernel_rfl) (fun K hK => ?_)
  go_simp
  have ba : Below w1.heap.size w1 (w1.alloc (.cells #[.string ⟨#[]⟩, .int .i64 0, .int .i64 0, .int .i64 0] 69)) := (by repeat (first | exact Below.refl _ _ | with_reducible assumption | (refine Below.drew ?_) | (refine Below.drewN ?_ _) | (refine Below.alloc ?_ (by simp; try omega) _) | (refine Below.setCell ?_ (by simp; try omega) _)))
  have HZ := hide (Box.new w1 69 #[.string ⟨#[]⟩, .int .i64 0, .int .i64 0, .int .i64 0])
  have hls : w.heap.size ≤ w1.heap.size := HB.out.size
  have hNw : N < w1.heap.size := HG.out.lt
  replace hHeld := And.intro ((ba.cell (p := ⟨N, 0, none⟩) hNw).trans hHeld.1) (And.intro ((ba.cell (p := ⟨N, 1, none⟩) hNw).trans hHeld.2.1) (And.intro ((ba.cell (p := ⟨b1, o1 + k * 2 + 1, none⟩) (show b1 < w1.heap.size by omega)).trans hHeld.2.2.1) (And.intro ((ba.cell (p := ⟨b2, o2 + j * 4, none⟩) (show b2 < w1.heap.size by omega)).trans hHeld.2.2.2.1) (And.intro ((ba.cell (p := ⟨b2, o2 + j * 4 + 1, none⟩) (show b2 < w1.heap.size by omega)).trans hHeld.2.2.2.2.1) (And.intro ((ba.cell (p := ⟨b2, o2 + j * 4 + 2, none⟩) (show b2 < w1.heap.size by omega)).trans hHeld.2.2.2.2.2.1) ((ba.cell (p := ⟨b2, o2 + j * 4 + 3, none⟩) (show b2 < w1.heap.size by omega)).trans hHeld.2.2.2.2.2.2))))))
  refine hK.out _ _ hHeld ?_
  clear hK K
  try simp only [List.getElem_toArray, List.getElem_cons_succ, List.getElem_cons_zero, Act.put, List.setIfInBounds_toArray, List.set_cons_zero, List.set_cons_succ]
  replace HRP := hide (HRP.out.below (ba.mono hls))
  replace HB := hide (HB.out.trans (ba.mono HB.out.size))
  replace HL := hide (HL.out.call ba)
  replace HG := hide (HG.out.call ba)
  clear ba
  generalize w1.alloc (.cells #[.string ⟨#[]⟩, .int .i64 0, .int .i64 0, .int .i64 0] 69) = w2 at *
  generalize w1.heap.size = Z at *
  clear hHeld
  have y0 := HZ.out.cell 0
  have y1 := HZ.out.cell 1
  have y2 := HZ.out.cell 2
  have y3 := HZ.out.cell 3
  simp only [List.getElem?_toArray, List.getElem?_cons_zero, List.getElem?_cons_succ] at y0 y1 y2 y3
  have yf0 := HZ.out.frozen 0
  have yf1 := HZ.out.frozen 1
  have yf2 := HZ.out.frozen 2
  have yf3 := HZ.out.frozen 3
  have hzl := HZ.out.lt
  refine Reg.lastT (i := 11) rfl (by kernel_rfl) (by rfl) (fun K hK => ?_)
  go_simp
  refine hK.out _ _ ?_
  clear hK K
  try simp only [List.getElem_toArray, List.getElem_cons_succ, List.getElem_cons_zero, Act.put, List.setIfInBounds_toArray, List.set_cons_zero, List.set_cons_succ]
  refine Reg.doneT (by kernel_rfl) ?_ _
  generalize hW : (((w2.setCell ⟨Z, 0, none⟩ (.string z1)).setCell ⟨Z, 1, none⟩ (.int .i64 z2)).setCell ⟨Z, 2, none⟩ (.int .i64 z3)).setCell ⟨Z, 3, none⟩ (.int .i64 z4) = w3 at *
  have HZ3 := hide (show Box w3 Z 69 #[.string z1, .int .i64 z2, .int .i64 z3, .int .i64 z4] from by
    rw [← hW]
    exact (((HZ.out.set 0 _).set 1 _).set 2 _).set 3 _)
  have bz : Below Z w2 w3 := by
    rw [← hW]
    exact ((((Below.refl _ _).setCell (p := ⟨Z, 0, none⟩) (Nat.le_refl _) _).setCell (p := ⟨Z, 1, none⟩) (Nat.le_refl _) _).setCell (p := ⟨Z, 2, none⟩) (Nat.le_refl _) _).setCell (p := ⟨Z, 3, none⟩) (Nat.le_refl _) _
  have HB3 := hide (HB.out.trans (bz.mono hls))
  have HRP3 := hide (HRP.out.below (bz.mono hls))
  have HL3 := hide (show Box w3 w.heap.size 101 #[.slice PA rs.length pc, .slice EA m ec] from (bz.block _ (show w.heap.size < Z by omega)).trans HL.out)
  have HG3 := hide (show Box w3 N 117 #[.int .i64 k, .int .i64 j] from (bz.block _ hNw).trans HG.out)
  clear hW bz HZ HB HRP HL HG y0 y1 y2 y3 yf0 yf1 yf2 yf3 hzl
  have y2 := HZ3.out.cell 2
  have y3 := HZ3.out.cell 3
  simp only [List.getElem?_toArray, List.getElem?_cons_zero, List.getElem?_cons_succ] at y2 y3
  have hzl := HZ3.out.lt
  by_cases hz : z3 = -2
  · have e1 : (z3 == -2) = true := beq_iff_eq.2 hz
    have HV := hide (show tgY (rs.map RV.zs) k (z1, z2, z3, z4) = z4 from if_pos hz)
    clear hz
    go_wp2_with fail
    go_ret
    exact ⟨by rw [HV.out]; rfl, HB3.out⟩
  · have e1 : (z3 == -2) = false := beq_eq_false_iff_ne.2 hz
    obtain ⟨hp1, hp2, hp3⟩ := HPL.out
    simp only at hp1 hp2 hp3
    obtain ⟨h0, hkr, hir, hlo, hhi⟩ := hp1.resolve_left hz
    have HV := hide (show tgY (rs.map RV.zs) k (z1, z2, z3, z4) = (rs[k]).zs[z3.toNat] + z4 from by
      unfold tgY
      rw [if_neg hz, getP_at hkr hir])
    obtain ⟨b5, o5, hPA, hb5, hrow⟩ := HRP3.out.at hkr
    obtain ⟨b6, o6, hRA, hb6, hcell⟩ := (HRP3.out.2 _ (List.getElem_mem hkr)).int hir
    have HL4 := HL3.out.cell 0
    simp only [List.getElem?_toArray, List.getElem?_cons_zero] at HL4
    rw [hPA] at HL4
    rw [hRA] at hrow
    obtain ⟨i, hi⟩ : ∃ i : Nat, z3 = (i : Int) := ⟨z3.toNat, by omega⟩
    subst hi
    simp only [Int.toNat_natCast] at hir hlo hhi HV hcell
    generalize (rs[k]).zs[i] = p at *
    generalize (rs[k]).zs.length = rn at *
    generalize (rs[k]).c = rc at *
    have hll := HL3.out.lt
    have g0 := HG3.out.cell 0
    simp only [List.getElem?_toArray, List.getElem?_cons_zero, List.getElem?_cons_succ] at g0
    have hgl := HG3.out.lt
    have hwr : IntKind.i64.wrap (p + z4) = p + z4 := IntWalk.i64_in _ (by omega)
    clear hz hp1 HPL hRA hPA HRP3 h0
    go_wp2_with fail
    go_quiet (fail)
    go_wp2_with fail
    go_ret
    exact ⟨by rw [HV.out]; rfl, Kit.Below.drewN HB3.out _⟩
end Go.Proofs.Ytmglgjchemecjaa.CPlaceL
/- l13Value: the place that a symbol means; the reference's. -/
namespace Go.Proofs.Ytmglgjchemecjaa.C13
set_option maxRecDepth 200000
open Go.ChangeShapes Go.WideShapes Go.ChangeAt Go.RowKit Kit CCode CName CFixups CSymbols PObj BObj PValid CGlobalOf CObjValid BStore BList PLink CFind CPlaceL
set_option maxHeartbeats 2000000 in
theorem value_any (A : Option Addr) (os : List OV) (c : Nat) (PA : Option Addr) (rs : List RV) (pc k j : Nat) (w : World) (hP : RdRs w w.heap.size PA rs) (hr : RdOs w w.heap.size A os)
    (hk : k < os.length) (hj : j < (os[k]).ys.length) (hm : os.length ≤ 1048576 ∧ (os[k]).ys.length ≤ 1048576) (hp : PlOk rs k (os[k]).ys[j]) :
    Calls Try.prog 161 #[.slice A os.length c, .slice PA rs.length pc, .int .i64 k, .int .i64 j] w (Ret (.int .i64 (tgY (rs.map RV.zs) k (os[k]).ys[j])) w) := by
  obtain ⟨hm1, hm2⟩ := hm
  obtain ⟨b1, o1, hA, hb1, hc0, hc1⟩ := hr.at hk
  obtain ⟨b2, o2, hY, hb2, hc⟩ := ((hr.2 _ (List.getElem_mem hk)).2).row symbolC_len (by decide) hj
  have hd0 := hc 0 _ rfl
  have hd1 := hc 1 _ rfl
  have hd2 := hc 2 _ rfl
  have hd3 := hc 3 _ rfl
  simp only [Nat.add_zero] at hd0
  have HPL := hide hp
  have HRP := hide hP
  clear hP hr hc hp hc0
  subst hA
  rw [hY] at hc1
  clear hY
  generalize (os[k]).ys[j] = z at *
  generalize (os[k]).ys.length = yn at *
  generalize (os[k]).yc = ycc at *
  obtain ⟨z1, z2, z3, z4⟩ := z
  simp only at hd0 hd1 hd2 hd3
  have B1 : Below w.heap.size w (w.alloc (.cells #[.string z1, .int .i64 z2, .int .i64 z3, .int .i64 z4] 69)) := (by repeat (first | exact Below.refl _ _ | with_reducible assumption | (refine Below.drew ?_) | (refine Below.drewN ?_ _) | (refine Below.alloc ?_ (by simp; try omega) _) | (refine Below.setCell ?_ (by simp; try omega) _)))
  have HS := hide (Box.new w 69 #[.string z1, .int .i64 z2, .int .i64 z3, .int .i64 z4])
  have y0 := HS.out.cell 0
  have y1 := HS.out.cell 1
  have y2 := HS.out.cell 2
  have y3 := HS.out.cell 3
  simp only [List.getElem?_toArray, List.getElem?_cons_zero, List.getElem?_cons_succ] at y0 y1 y2 y3
  have hsl := HS.out.lt
  have HB := hide B1
  clear B1
  by_cases h2 : z3 = -2
  · have HV := hide (show tgY (rs.map RV.zs) k (z1, z2, z3, z4) = z4 from by unfold tgY; rw [if_pos h2])
    have e2 : (z3 == -2) = true := beq_iff_eq.2 h2
    clear h2 HPL HRP
    go_enter Try.func161, Try.ntmps161
    go_wp2_with fail
    go_ret
    exact ⟨by rw [HV.out]; rfl, HB.out⟩
  · have e2 : (z3 == -2) = false := beq_eq_false_iff_ne.2 h2
    obtain ⟨hq, hv0, hv1⟩ := HPL.out
    simp only at hq hv0 hv1
    rcases hq with hq | ⟨hz0, hkr, hir, hg0, hg1⟩
    · exact absurd hq h2
    obtain ⟨pb, poff, hPP, hpb, hrow⟩ := HRP.out.at hkr
    obtain ⟨rb, ro, hRA, hrb, hcell⟩ := (HRP.out.2 _ (List.getElem_mem hkr)).int hir
    have HV := hide (show tgY (rs.map RV.zs) k (z1, z2, z3, z4) = (rs[k]).zs[z3.toNat] + z4 from by
      unfold tgY
      rw [if_neg h2, getP_at hkr hir])
    rw [hRA] at hrow
    clear HPL HRP hRA h2
    subst hPP
    generalize hgv : (rs[k]).zs[z3.toNat] = v at *
    have hzl : z3.toNat < (rs[k]).zs.length := hir
    clear hgv hir
    generalize (rs[k]).zs.length = rl at *
    generalize (rs[k]).c = rc at *
    obtain ⟨n, rfl⟩ := Int.eq_ofNat_of_zero_le hz0
    simp only [Int.toNat_natCast] at *
    have hrow' := (HB.out.cell (p := ⟨pb, poff + k, none⟩) hpb).trans hrow
    have hcell' := (HB.out.cell (p := ⟨rb, ro + n, none⟩) hrb).trans hcell
    have hwr : IntKind.i64.wrap (v + z4) = v + z4 := IntWalk.i64_in _ (by omega)
    go_enter Try.func161, Try.ntmps161
    go_wp2_with fail
    go_quiet (fail)
    go_wp2_with fail
    go_ret
    exact ⟨by rw [HV.out]; rfl, by have h := HB.out; exact (by (repeat (first | with_reducible assumption | with_reducible exact Below.refl _ _ | with_reducible apply below_al | with_reducible apply below_dr | with_reducible apply below_dn)); done)⟩
end Go.Proofs.Ytmglgjchemecjaa.C13
/- Clearing fixups and sorting symbols change no image; plain. -/
namespace Go.Proofs.Ytmglgjchemecjaa.PLinkL
set_option maxRecDepth 200000
open Go.ChangeShapes Go.WideShapes Go.ChangeAt Go.RowKit Kit CCode CName CNumber CFixups CSymbols PObj PValid PWarn PClear PSort CObjValid PLink
def Uniq (ys : List YD) : Prop := ys.Pairwise fun a b => ¬ a.2.1 = 0 → ¬ b.2.1 = 0 → ¬ a.1 = b.1
theorem syms_iff (ss : List SD) (ys : List YD) : symsOk ss ys = true ↔ (∀ y ∈ ys, symOk ss y = true) ∧ Uniq ys := by
  simp only [symsOk, List.all_eq_true, Bool.and_eq_true, List.mem_range, Bool.not_eq_true']
  constructor
  · intro h
    refine ⟨fun y hy => ?_, ?_⟩
    · obtain ⟨i, hi, rfl⟩ := List.getElem_of_mem hy
      have := (h i hi).1
      rwa [getD_at hi] at this
    · rw [Uniq, List.pairwise_iff_getElem]
      intro i j hi hj hij h1 h2 h3
      have := (h j hj).2
      rw [getD_at hj] at this
      have hc : clash (ys.take j) ys[j] = true := by
        unfold clash
        rw [Bool.and_eq_true]
        refine ⟨by simpa using h2, List.any_eq_true.2 ⟨ys[i], ?_, ?_⟩⟩
        · exact List.mem_take_iff_getElem.2 ⟨i, by omega, rfl⟩
        · simpa using ⟨h1, h3⟩
      rw [hc] at this
      cases this
  · rintro ⟨h1, h2⟩ i hi
    rw [getD_at hi]
    refine ⟨h1 _ (List.getElem_mem hi), ?_⟩
    rw [← Bool.not_eq_true]
    intro hc
    unfold clash at hc
    rw [Bool.and_eq_true, List.any_eq_true] at hc
    obtain ⟨hb, x, hx, hxx⟩ := hc
    obtain ⟨j, hj, rfl⟩ := List.mem_take_iff_getElem.1 hx
    rw [Uniq, List.pairwise_iff_getElem] at h2
    simp only [Bool.and_eq_true, Bool.not_eq_true', decide_eq_false_iff_not, decide_eq_true_eq] at hb hxx
    exact h2 j i (by omega) hi (by omega) hxx.1 hb hxx.2
theorem obj_iff (d : OD) : objOk d = true ↔ d.ss.length ≤ 8 ∧ d.ys.length ≤ 12 ∧ (∀ s ∈ d.ss, secOk d.ys.length s = true) ∧ (∀ y ∈ d.ys, symOk d.ss y = true) ∧ Uniq d.ys := by
  simp only [objOk, Bool.and_eq_true, decide_eq_true_eq, List.all_eq_true, syms_iff]
  constructor
  · rintro ⟨⟨⟨h1, h2⟩, h3⟩, h4, h5⟩
    exact ⟨h1, h2, h3, h4, h5⟩
  · rintro ⟨h1, h2, h3, h4, h5⟩
    exact ⟨⟨⟨h1, h2⟩, h3⟩, h4, h5⟩
theorem sym_facts {ss : List SD} {y : YD} (h : symOk ss y = true) : (0 ≤ y.2.1 ∧ y.2.1 ≤ 2) ∧ (y.2.2.1 = -1 → ¬ y.2.1 = 0) := by
  simp only [symOk, bindOk, Bool.and_eq_true, inB, decide_eq_true_eq] at h
  refine ⟨h.1.2, fun hy => ?_⟩
  have h2 := h.2
  unfold placeOk at h2
  rw [if_pos hy] at h2
  simp only [Bool.and_eq_true, Bool.not_eq_true', decide_eq_false_iff_not] at h2
  exact h2.2
end Go.Proofs.Ytmglgjchemecjaa.PLinkL
/- Where a layout's places lie; plain. -/
namespace Go.Proofs.Ytmglgjchemecjaa.PLayB
set_option maxRecDepth 200000
open Go.ChangeShapes Go.WideShapes Go.ChangeAt Go.RowKit Kit CCode CName CNumber CFixups CSymbols PObj PValid PWarn PClear PSort CObjValid PLink PLinkL
def Okk (s : SD) : Prop := (0 ≤ secSize s ∧ secSize s ≤ 48) ∧ alignOk s.al = true
def sec (l : List OD) (k i : Nat) : Option SD := (l[k]?).bind fun d => d.ss[i]?
theorem sec_at {l : List OD} {k i : Nat} (hk : k < l.length) (hi : i < (l[k]).ss.length) : sec l k i = some (l[k]).ss[i] := by
  unfold sec
  rw [List.getElem?_eq_getElem hk]
  exact List.getElem?_eq_getElem hi
def Shq (l : List OD) (P : List (List Int)) : Prop := ∀ k i s, sec l k i = some s → ∃ h : k < P.length, i < (P[k]).length
theorem getP_set {P : List (List Int)} {k i : Nat} (v : Int) (hk : k < P.length) (hi : i < (P[k]).length) (a b : Nat) : getP (setP P k i v) a b = if a = k ∧ b = i then v else getP P a b := by
  unfold getP setP
  have e : P.getD k [] = P[k] := by rw [List.getD_eq_getElem?_getD, List.getElem?_eq_getElem hk]; rfl
  rw [e]
  rw [List.getD_eq_getElem?_getD (l := P.set k _), List.getElem?_set]
  by_cases hak : k = a
  · subst hak
    rw [if_pos rfl, if_pos hk, e]
    simp only [Option.getD_some, true_and]
    rw [List.getD_eq_getElem?_getD, List.getElem?_set, List.getD_eq_getElem?_getD]
    by_cases hbi : i = b
    · subst hbi
      rw [if_pos rfl, if_pos hi, if_pos rfl]
      rfl
    · rw [if_neg hbi, if_neg (fun h => hbi h.symm)]
  · rw [if_neg hak, if_neg (fun h => hak h.1.symm), ← List.getD_eq_getElem?_getD]
theorem shq_set {l : List OD} {P : List (List Int)} (h : Shq l P) (k i : Nat) (v : Int) : Shq l (setP P k i v) := by
  intro a b s hs
  obtain ⟨h1, h2⟩ := h a b s hs
  unfold setP
  refine ⟨by rw [List.length_set]; exact h1, ?_⟩
  rw [List.getElem_set]
  by_cases hka : k = a
  · subst hka
    rw [if_pos rfl, List.length_set, List.getD_eq_getElem?_getD, List.getElem?_eq_getElem h1]
    exact h2
  · rw [if_neg hka]
    exact h2
structure Inv (l : List OD) (b : Int) (Dn : Nat → Nat → SD → Prop) (st : St) : Prop where
  lo : b ≤ st.1
  sh : Shq l st.2
  pl : ∀ k i s, sec l k i = some s → Dn k i s → b ≤ getP st.2 k i ∧ getP st.2 k i ≤ st.1
variable {l : List OD} {b : Int}
theorem Inv.weak {Dn Dn' : Nat → Nat → SD → Prop} {st : St} (h : Inv l b Dn st) (hD : ∀ k i s, sec l k i = some s → Dn' k i s → Dn k i s) : Inv l b Dn' st := ⟨h.lo, h.sh, fun k i s hs hd => h.pl k i s hs (hD k i s hs hd)⟩
theorem inv_step (hb : 0 ≤ b) {Dn : Nat → Nat → SD → Prop} {st : St} {kd : Int} {k i : Nat} {s : SD} (h : Inv l b Dn st) (hs : sec l k i = some s) (ho : Okk s) :
    Inv l b (fun k' i' s' => Dn k' i' s' ∨ (k' = k ∧ i' = i ∧ s'.kd = kd)) (stepS kd k i s st) := by
  obtain ⟨a, P⟩ := st
  obtain ⟨h1, h2, h3⟩ := h
  simp only at h1 h2 h3
  unfold stepS
  by_cases hk : s.kd = kd
  · rw [decide_eq_true hk]
    simp only [cond_true]
    obtain ⟨e1, e2⟩ := al_bd (show 0 ≤ a by omega) ho.2
    obtain ⟨q1, q2⟩ := h2 k i s hs
    have hsz := ho.1.1
    refine ⟨by omega, shq_set h2 k i _, fun k' i' s' hs' hd => ?_⟩
    rw [getP_set _ q1 q2]
    by_cases hc : k' = k ∧ i' = i
    · rw [if_pos hc]
      omega
    · rw [if_neg hc]
      rcases hd with hd | ⟨r1, r2, _⟩
      · have := h3 k' i' s' hs' hd
        omega
      · exact absurd ⟨r1, r2⟩ hc
  · rw [decide_eq_false hk]
    simp only [cond_false]
    refine ⟨h1, h2, fun k' i' s' hs' hd => ?_⟩
    rcases hd with hd | ⟨rfl, rfl, r3⟩
    · exact h3 k' i' s' hs' hd
    · rw [hs] at hs'
      injection hs' with hs'
      subst hs'
      exact absurd r3 hk
theorem inv_foldS (hb : 0 ≤ b) (kd : Int) (k : Nat) : ∀ (ss : List SD) (i : Nat) (st : St) (Dn : Nat → Nat → SD → Prop),
    (∀ j s, ss[j]? = some s → sec l k (i + j) = some s ∧ Okk s) → (∀ i', i + ss.length ≤ i' → sec l k i' = none) → Inv l b Dn st →
    Inv l b (fun k' i' s' => Dn k' i' s' ∨ (k' = k ∧ i ≤ i' ∧ s'.kd = kd)) (foldS kd k i ss st)
  | [], i, st, Dn, _, hend, h => by
    refine h.weak fun k' i' s' hs' hd => ?_
    rcases hd with hd | ⟨rfl, r2, _⟩
    · exact hd
    · rw [hend i' (by simpa using r2)] at hs'
      cases hs'
  | s :: ss, i, st, Dn, hss, hend, h => by
    have h0 := hss 0 s rfl
    rw [Nat.add_zero] at h0
    have hst := inv_step hb (kd := kd) h h0.1 h0.2
    have ih := inv_foldS hb kd k ss (i + 1) _ _ (fun j t ht => by
      have := hss (j + 1) t (by simpa using ht)
      rwa [show i + (j + 1) = i + 1 + j by omega] at this) (fun i' hi' => hend i' (by simp; omega)) hst
    refine ih.weak fun k' i' s' hs' hd => ?_
    rcases hd with hd | ⟨r1, r2, r3⟩
    · exact .inl (.inl hd)
    · by_cases hi : i' = i
      · exact .inl (.inr ⟨r1, hi, r3⟩)
      · exact .inr ⟨r1, by omega, r3⟩
theorem inv_foldO (hb : 0 ≤ b) (kd : Int) : ∀ (ds : List OD) (k : Nat) (st : St) (Dn : Nat → Nat → SD → Prop),
    (∀ j d, ds[j]? = some d → l[k + j]? = some d ∧ ∀ s ∈ d.ss, Okk s) → l.length ≤ k + ds.length → Inv l b Dn st →
    Inv l b (fun k' i' s' => Dn k' i' s' ∨ (k ≤ k' ∧ s'.kd = kd)) (foldO kd k ds st)
  | [], k, st, Dn, _, hend, h => by
    refine h.weak fun k' i' s' hs' hd => ?_
    rcases hd with hd | ⟨r1, _⟩
    · exact hd
    · unfold sec at hs'
      rw [List.getElem?_eq_none (by simp at hend; omega)] at hs'
      cases hs'
  | d :: ds, k, st, Dn, hds, hend, h => by
    have h0 := hds 0 d rfl
    rw [Nat.add_zero] at h0
    have hst := inv_foldS hb kd k d.ss 0 st Dn (fun j s hs => by
      refine ⟨?_, h0.2 s (List.mem_of_getElem? hs)⟩
      unfold sec
      rw [h0.1, Nat.zero_add]
      exact hs) (fun i' hi' => by
      unfold sec
      rw [h0.1]
      exact List.getElem?_eq_none (by omega)) h
    have ih := inv_foldO hb kd ds (k + 1) _ _ (fun j t ht => by
      have := hds (j + 1) t (by simpa using ht)
      rwa [show k + (j + 1) = k + 1 + j by omega] at this) (by simp at hend; omega) hst
    refine ih.weak fun k' i' s' hs' hd => ?_
    rcases hd with hd | ⟨r1, r2⟩
    · exact .inl (.inl hd)
    · by_cases hk : k' = k
      · exact .inl (.inr ⟨hk, Nat.zero_le _, r2⟩)
      · exact .inr ⟨by omega, r2⟩
theorem inv_kind (hb : 0 ≤ b) (hl : ∀ d ∈ l, ∀ s ∈ d.ss, Okk s) (kd : Int) {Dn : Nat → Nat → SD → Prop} {st : St} (h : Inv l b Dn st) : Inv l b (fun k' i' s' => Dn k' i' s' ∨ s'.kd = kd) (kindS l kd st) := by
  have hlo := h.lo
  obtain ⟨e1, _⟩ := al_bd (show 0 ≤ st.1 by omega) (show alignOk 8 = true by decide)
  have h1 : Inv l b Dn (al st.1 8, st.2) := ⟨by simp only; omega, h.sh, fun k i s hs hd => by
    have := h.pl k i s hs hd
    simp only
    omega⟩
  have h2 := inv_foldO hb kd l 0 _ Dn (fun j d hj => ⟨by rw [Nat.zero_add]; exact hj, hl d (List.mem_of_getElem? hj)⟩) (by omega) h1
  refine h2.weak fun k' i' s' _ hd => ?_
  rcases hd with hd | hd
  · exact .inl hd
  · exact .inr ⟨Nat.zero_le _, hd⟩
theorem shq_zero (l : List OD) : Shq l (zeroP l) := by
  intro k i s hs
  unfold sec at hs
  unfold zeroP
  cases hk : l[k]? with
  | none =>
    rw [hk] at hs
    cases hs
  | some d =>
    rw [hk] at hs
    obtain ⟨h1, h2⟩ := List.getElem?_eq_some_iff.1 hk
    obtain ⟨h3, _⟩ := List.getElem?_eq_some_iff.1 (show d.ss[i]? = some s from hs)
    refine ⟨by rw [List.length_map]; exact h1, ?_⟩
    rw [List.getElem_map, List.length_replicate, h2]
    exact h3
theorem foldS_le (kd : Int) (k : Nat) : ∀ (ss : List SD) (i : Nat) (st : St), (∀ s ∈ ss, Okk s) → 0 ≤ st.1 → 0 ≤ (foldS kd k i ss st).1 ∧ (foldS kd k i ss st).1 ≤ st.1 + 60 * ss.length
  | [], i, st, _, h0 => by simp only [foldS, List.length_nil]; omega
  | s :: ss, i, st, h, h0 => by
    have ho := h s List.mem_cons_self
    have h1 : 0 ≤ (stepS kd k i s st).1 ∧ (stepS kd k i s st).1 ≤ st.1 + 60 := by
      obtain ⟨e1, e2⟩ := al_bd h0 ho.2
      have := ho.1
      unfold stepS
      by_cases hk : s.kd = kd
      · rw [decide_eq_true hk]
        simp only [cond_true]
        omega
      · rw [decide_eq_false hk]
        simp only [cond_false]
        omega
    have ih := foldS_le kd k ss (i + 1) (stepS kd k i s st) (fun t ht => h t (List.mem_cons_of_mem _ ht)) h1.1
    rw [foldS, List.length_cons]
    omega
theorem foldO_le (kd : Int) : ∀ (ds : List OD) (k : Nat) (st : St), (∀ d ∈ ds, d.ss.length ≤ 8 ∧ ∀ s ∈ d.ss, Okk s) → 0 ≤ st.1 → 0 ≤ (foldO kd k ds st).1 ∧ (foldO kd k ds st).1 ≤ st.1 + 480 * ds.length
  | [], k, st, _, h0 => by simp only [foldO, List.length_nil]; omega
  | d :: ds, k, st, h, h0 => by
    have ho := h d List.mem_cons_self
    have h1 := foldS_le kd k d.ss 0 st ho.2 h0
    have ih := foldO_le kd ds (k + 1) (foldS kd k 0 d.ss st) (fun t ht => h t (List.mem_cons_of_mem _ ht)) h1.1
    rw [foldO, List.length_cons]
    have := ho.1
    omega
theorem kind_le (hl : ∀ d ∈ l, d.ss.length ≤ 8 ∧ ∀ s ∈ d.ss, Okk s) (hn : l.length ≤ 4) (kd : Int) {st : St} (h0 : 0 ≤ st.1) : 0 ≤ (kindS l kd st).1 ∧ (kindS l kd st).1 ≤ st.1 + 1927 := by
  obtain ⟨e1, e2⟩ := al_bd h0 (show alignOk 8 = true by decide)
  have h := foldO_le kd l 0 (al st.1 8, st.2) hl (by simp only; omega)
  simp only at h
  unfold kindS
  omega
theorem sec_okk {many : Int} {d : SD} (h : secOk many d = true) : Okk d ∧ 1 ≤ d.kd ∧ d.kd ≤ 3 := by
  rw [secOk, Bool.and_eq_true] at h
  obtain ⟨h1, h2⟩ := h
  simp only [headOk, Bool.and_eq_true, inB, decide_eq_true_eq] at h1
  refine ⟨⟨?_, h1.2⟩, h1.1.2.1, h1.1.2.2⟩
  unfold secSize
  by_cases hk : d.kd = 3
  · rw [if_pos hk] at h2 ⊢
    simp only [blankOk, Bool.and_eq_true, inB, decide_eq_true_eq] at h2
    exact h2.1.1
  · rw [if_neg hk] at h2 ⊢
    simp only [bodyOk, Bool.and_eq_true, decide_eq_true_eq] at h2
    omega
/-- The places of valid objects' sections. -/
theorem lay_bd (ho : objsOk l = true) (hb0 : 0 ≤ b) (hb1 : b ≤ 4096) : b ≤ (PLink.lay l b).1 ∧ (PLink.lay l b).1 ≤ 10000 ∧ Shq l (PLink.lay l b).2 ∧ ∀ k (hk : k < l.length) i (hi : i < (l[k]).ss.length), b ≤ getP (PLink.lay l b).2 k i ∧ getP (PLink.lay l b).2 k i ≤ (PLink.lay l b).1 := by
  simp only [objsOk, Bool.and_eq_true, decide_eq_true_eq, List.all_eq_true] at ho
  have hl : ∀ d ∈ l, d.ss.length ≤ 8 ∧ ∀ s ∈ d.ss, Okk s ∧ 1 ≤ s.kd ∧ s.kd ≤ 3 := fun d hd => by
    obtain ⟨h1, _, h3, _⟩ := (obj_iff d).1 (ho.2 d hd)
    exact ⟨h1, fun s hs => sec_okk (h3 s hs)⟩
  have hl2 : ∀ d ∈ l, d.ss.length ≤ 8 ∧ ∀ s ∈ d.ss, Okk s := fun d hd => ⟨(hl d hd).1, fun s hs => ((hl d hd).2 s hs).1⟩
  have i0 : Inv l b (fun _ _ _ => False) (b, zeroP l) := ⟨Int.le_refl _, shq_zero l, fun _ _ _ _ h => h.elim⟩
  have i3 := inv_kind hb0 (fun d hd => (hl2 d hd).2) 3 (inv_kind hb0 (fun d hd => (hl2 d hd).2) 2 (inv_kind hb0 (fun d hd => (hl2 d hd).2) 1 i0))
  have b1 := kind_le hl2 ho.1 1 (st := (b, zeroP l)) hb0
  have b2 := kind_le hl2 ho.1 2 b1.1
  have b3 := kind_le hl2 ho.1 3 b2.1
  simp only at b1
  refine ⟨i3.lo, by unfold PLink.lay; omega, i3.sh, fun k hk i hi => ?_⟩
  have hkd := ((hl _ (List.getElem_mem hk)).2 _ (List.getElem_mem hi)).2
  refine i3.pl k i _ (sec_at hk hi) ?_
  generalize (l[k]).ss[i] = s at *
  have h : s.kd = 1 ∨ s.kd = 2 ∨ s.kd = 3 := by omega
  rcases h with h | h | h
  · exact .inl (.inl (.inr h))
  · exact .inl (.inr h)
  · exact .inr h
end Go.Proofs.Ytmglgjchemecjaa.PLayB
/- The places of a layout can be told. -/
namespace Go.Proofs.Ytmglgjchemecjaa.CAllPl
set_option maxRecDepth 200000
open Go.ChangeShapes Go.WideShapes Go.ChangeAt Go.RowKit Kit CCode CName CNumber CFixups CSymbols PObj BObj PValid PWarn PClear CSecValid CObjValid BStore BList PLink PLinkL PLayB CFind CPlaceL
def AllPl2 (rs : List RV) (os : List OV) : Prop := ∀ (k : Nat) (hk : k < os.length) (j : Nat) (hj : j < (os[k]).ys.length), ((os[k]).ys[j].2.2.1 = -1 → ¬ (os[k]).ys[j].2.1 = 0) ∧ (¬ (os[k]).ys[j].2.2.1 = -1 → PlOk rs k (os[k]).ys[j])
theorem sym_at2 (os : List OV) {k j : Nat} (hk : k < os.length) (hj : j < (os[k]).ys.length) : symAtL (os.map OV.d) (k, j) = (os[k]).ys[j] := by
  unfold symAtL
  rw [List.getD_eq_getElem?_getD (l := os.map OV.d), List.getElem?_map, List.getElem?_eq_getElem hk]
  simp only [Option.map_some, Option.getD_some, OV.d]
  exact getD_at hj _
theorem all_pl2 {os : List OV} {rs : List RV} {b : Int} (ho : objsOk (os.map OV.d) = true) (hb0 : 0 ≤ b) (hb1 : b ≤ 4096) (hrs : rs.map RV.zs = (PLink.lay (os.map OV.d) b).2) : AllPl2 rs os := by
  intro k hk j hj
  obtain ⟨q1, q2, q3, q4⟩ := lay_bd ho hb0 hb1
  rw [← hrs] at q3
  simp only [objsOk, Bool.and_eq_true, decide_eq_true_eq, List.all_eq_true] at ho
  obtain ⟨_, _, h3, h4, _⟩ := (obj_iff _).1 (ho.2 _ (List.mem_map_of_mem (List.getElem_mem hk)))
  have hy := h4 _ (show (os[k]).ys[j] ∈ (os[k]).d.ys from List.getElem_mem hj)
  obtain ⟨_, s2⟩ := sym_facts hy
  refine ⟨s2, fun hn => ?_⟩
  have hkl : k < (os.map OV.d).length := by simpa using hk
  have hP := hy
  simp only [symOk, Bool.and_eq_true] at hP
  have hP := hP.2
  unfold placeOk at hP
  rw [if_neg hn] at hP
  generalize (os[k]).ys[j] = y at *
  by_cases h2 : y.2.2.1 = -2
  · rw [if_pos h2] at hP
    have : 0 ≤ y.2.2.2 ∧ y.2.2.2 ≤ 60000 := by simpa [inB] using hP
    exact ⟨.inl h2, this.1, this.2⟩
  · rw [if_neg h2] at hP
    simp only [Bool.and_eq_true, inB, decide_eq_true_eq] at hP
    obtain ⟨⟨w1, w2⟩, v1, v2⟩ := hP
    have hil : y.2.2.1.toNat < (os[k]).d.ss.length := by omega
    have hsz := (sec_okk (h3 _ (List.getElem_mem hil))).1.1
    have hge : (os[k]).d.ss.getD y.2.2.1.toNat ⟨ByteArray.empty, 0, 0, [], 0, []⟩ = (os[k]).d.ss[y.2.2.1.toNat] := by
      rw [List.getD_eq_getElem?_getD, List.getElem?_eq_getElem hil]
      rfl
    rw [hge] at v2
    have hle : ((os.map OV.d)[k]).ss = (os[k]).d.ss := by simp
    have hil2 : y.2.2.1.toNat < ((os.map OV.d)[k]).ss.length := by rw [hle]; exact hil
    have hsec := sec_at hkl hil2
    obtain ⟨p1, p2⟩ := q3 _ _ _ hsec
    have hpl := q4 k hkl _ hil2
    rw [← hrs] at hpl
    simp only [List.length_map, List.getElem_map] at p1 p2
    rw [getP_at p1 p2] at hpl
    exact ⟨.inr ⟨w1, p1, p2, by omega, by omega⟩, v1, by omega⟩
/-- The symbol that a name means, and its place. -/
theorem found_at {os : List OV} {rs : List RV} {nm : ByteArray} {g : G} (ha : AllPl2 rs os) (h : findN (os.map OV.d) nm = some g) : ∃ (hk : g.1 < os.length) (hj : g.2 < (os[g.1]).ys.length), PlOk rs g.1 (os[g.1]).ys[g.2] ∧ tgO (os.map OV.d) (rs.map RV.zs) (some g) = tgY (rs.map RV.zs) g.1 (os[g.1]).ys[g.2] := by
  obtain ⟨h1, h2, h3⟩ := find_ok h
  have hk : g.1 < os.length := by simpa using h1
  have e : (os.map OV.d).getD g.1 ⟨[], []⟩ = (os[g.1]).d := by rw [List.getD_eq_getElem?_getD, List.getElem?_map, List.getElem?_eq_getElem hk]; rfl
  rw [e] at h2 h3
  have hj : g.2 < (os[g.1]).ys.length := h2
  have e2 : (os[g.1]).d.ys.getD g.2 dY = (os[g.1]).ys[g.2] := by rw [List.getD_eq_getElem?_getD]; show ((os[g.1]).ys[g.2]?).getD dY = _; rw [List.getElem?_eq_getElem hj]; rfl
  rw [e2] at h3
  refine ⟨hk, hj, (ha g.1 hk g.2 hj).2 h3, ?_⟩
  have h := sym_at2 os hk hj
  show tgY (rs.map RV.zs) g.1 (symAtL (os.map OV.d) (g.1, g.2)) = _
  rw [h]
end Go.Proofs.Ytmglgjchemecjaa.CAllPl
/- NamePlaces: the reference's. -/
namespace Go.Proofs.Ytmglgjchemecjaa.CNPlS
set_option maxRecDepth 200000
open Go.ChangeShapes Go.WideShapes Go.ChangeAt Go.RowKit Kit CCode CName CFixups CSymbols PObj BObj PValid CObjValid BStore BList PLink PLinkL CFind CPlaceL CSorted CObjL COwnL CLayout CPlaceS P11 C11 C13 CAllPl
/-- The places of names, where all are given. -/
def plcs (l : List OD) (base : Int) (ns : List ByteArray) : Option (List Int) :=
  if (objsOk l && baseOk base) = true ∧ (∀ n ∈ ns, (findN l n).isSome = true) then some (ns.map fun n => tgO l (lay l base).2 (findN l n)) else none
def NPlV (r : Option (List Int)) (w : World) (e : Ending) (w' : World) : Prop :=
  ∃ A c zs, e = .returned (.tuple #[.slice A (zs : List Int).length c, .bool r.isSome]) ∧ (r = some zs ∨ (r = none ∧ zs = [])) ∧ Row w' w.heap.size 3 1 A zs.length c (ints .i64 zs) ∧ Below w.heap.size w w'
theorem valid_bind {l : List OD} (h : objsOk l = true) : ∀ d ∈ l, ∀ y ∈ d.ys, 0 ≤ y.2.1 ∧ y.2.1 ≤ 2 := by
  simp only [objsOk, Bool.and_eq_true, decide_eq_true_eq, List.all_eq_true] at h
  intro d hd y hy
  obtain ⟨_, _, _, h4, _⟩ := (obj_iff d).1 (h.2 d hd)
  have := h4 y hy
  simp only [symOk, bindOk, Bool.and_eq_true, inB, decide_eq_true_eq] at this
  exact this.1.2
set_option maxHeartbeats 4000000 in
theorem namePlaces_any (A : Option Addr) (os : List OV) (c : Nat) (base : Int) (NA : Option Addr) (ns : List ByteArray) (nc : Nat) (w : World) (hr : RdOs w w.heap.size A os) (hf : Lst os) (hns : Rd w w.heap.size NA (nmC ns)) (hm : ns.length ≤ 1000) :
    Calls Try.prog 102 #[.slice A os.length c, .int .i64 base, .slice NA ns.length nc] w (NPlV (plcs (os.map OV.d) base ns) w) := by
  obtain ⟨i0, hi1, hi2, hi3, hi4⟩ := info_parts CInts.info64
  have HI := hide (And.intro hi1 (And.intro hi2 (And.intro hi3 hi4)))
  clear hi1 hi2 hi3 hi4
  have HR := hide hr
  have HF := hide hf
  have HNS := hide hns
  clear hr hf hns
  have HB := hide (show Below w.heap.size w (w.alloc (.cells #[] 3)) from (by repeat (first | exact Below.refl _ _ | with_reducible assumption | (refine Below.drew ?_) | (refine Below.drewN ?_ _) | (refine Below.alloc ?_ (by simp; try omega) _) | (refine Below.setCell ?_ (by simp; try omega) _))))
  go_enter Try.func102, Try.ntmps102
  go_wp2_with fail
  generalize w.alloc (.cells #[] 3) = w0 at *
  refine (placeSections_any A os c base w0 ((HR.out.below HB.out).more HB.out.size) HF.out).mono ?_
  rintro e w1 ⟨PA, pc, rs, x, rfl, hyes, hP, b1⟩
  have HYES := hide hyes
  have HP := hide hP
  replace HB := hide (HB.out.trans (b1.mono HB.out.size))
  clear b1
  clear hyes hP
  cases hok : (objsOk (os.map OV.d) && baseOk base)
  · have HV := hide (show plcs (os.map OV.d) base ns = none from if_neg (fun h => by rw [h.1] at hok; cases hok))
    clear hok
    go_wp2_with fail
    go_ret2
    exact ⟨_, 0, [], by rw [HV.out]; rfl, .inr ⟨HV.out, rfl⟩, Row.empty _ _ _ _ _, HB.out⟩
  obtain ⟨hrz, hx⟩ := HYES.out hok
  clear HYES hx
  have hok' := hok
  rw [Bool.and_eq_true] at hok'
  obtain ⟨ho, hbs⟩ := hok'
  have hb0 : 0 ≤ base ∧ base ≤ 4096 := by
    simp only [baseOk, Bool.and_eq_true, decide_eq_true_eq] at hbs
    exact hbs.1
  have HPL := hide (all_pl2 ho hb0.1 hb0.2 hrz)
  have HVB := hide (valid_bind ho)
  have HRZ := hide hrz
  have HOK := hide hok
  have HLN := hide (show Lens os from ⟨HF.out.n, fun o h => (HF.out.f o h).ny⟩)
  have HWW := hide HB.out.size
  clear hok ho hbs hb0 hrz
  go_wp2_with fail
  go_loopw [8, 12] (fun s i wi => ∃ (k : Nat) (A1 : Option Addr) (c1 : Nat) (zs : List Int), k ≤ ns.length ∧ s = .slice A1 zs.length c1 ∧ i = .int .i64 k ∧ (∀ n ∈ ns.take k, (findN (os.map OV.d) n).isSome = true) ∧ zs = (ns.take k).map (fun n => tgO (os.map OV.d) (rs.map RV.zs) (findN (os.map OV.d) n)) ∧ zs.length = k ∧ Row wi w1.heap.size 3 1 A1 zs.length c1 (ints .i64 zs) ∧ Below w1.heap.size w1 wi ∧ Below w.heap.size w wi) (fun _ i _ => ns.length - (intOf i).toNat)
  case atStart => exact ⟨0, _, 0, [], Nat.zero_le _, rfl, rfl, (fun n hn => by cases hn), rfl, rfl, Row.empty _ _ _ _ _, Below.refl _ _, HB.out⟩
  case round =>
    rename World => wk
    clear HB
    obtain ⟨k, A1, c1, zs, hk, rfl, rfl, hall, hzs, hzl, hrow, hb1, hb⟩ := hrel
    have HALL := hide hall
    have HZS := hide hzs
    have HZL := hide hzl
    have HW := hide hrow
    have HB1 := hide hb1
    have HB := hide hb
    have hz1000 : zs.length ≤ 1000 := by omega
    clear hall hzs hzl hrow hb1
    by_cases hlt : k < ns.length
    · obtain ⟨b, off, hA, hbb, hc⟩ := (HNS.out.below hb) k (.string ns[k]) (by simp [nmC, List.getElem?_eq_getElem hlt])
      have HTK := hide (show ns.take (k + 1) = ns.take k ++ [ns[k]] from take_succ hlt)
      have HIN := hide (show ns[k] ∈ ns from List.getElem_mem hlt)
      clear hb
      subst hA
      generalize ns[k] = nm at *
      obtain ⟨hg1, hg2⟩ := given_find HVB.out nm
      have HG1 := hide hg1
      have HG2 := hide hg2
      clear hg1 hg2
      go_wp2_with fail
      refine (given_any A os c nm wk ((HR.out.below HB.out).more HB.out.size) HLN.out).mono ?_
      rintro e w2 ⟨rfl, b2⟩
      have HW2 := hide (HW.out.call b2)
      replace HB := hide (HB.out.trans (b2.mono HB.out.size))
      replace HB1 := hide (HB1.out.trans (b2.mono HB1.out.size))
      clear b2
      unfold gvV
      rw [HG1.out, HG2.out]
      generalize (st11 nm (enO 0 (os.map OV.d))).2.1 = cnt at *
      clear HG1 HG2 HW hc
      cases hf : findN (os.map OV.d) nm with
      | none =>
        have HV := hide (show plcs (os.map OV.d) base ns = none from if_neg (fun h => by
          have := h.2 nm HIN.out
          rw [hf] at this
          cases this))
        have B3 : Below w2.heap.size w2 (w2.alloc (.cells #[.int .i64 0, .int .i64 0] 117)) := (by repeat (first | exact Below.refl _ _ | with_reducible assumption | (refine Below.drew ?_) | (refine Below.drewN ?_ _) | (refine Below.alloc ?_ (by simp; try omega) _) | (refine Below.setCell ?_ (by simp; try omega) _)))
        replace HB := hide (HB.out.trans (B3.mono HB.out.size))
        clear B3
        have HB4 := hide (HB.out.alloc HB.out.size (.cells #[] 3))
        simp only [Option.getD_none, Option.isSome_none]
        clear hf
        go_wp2_with fail
        go_ret2
        exact ⟨_, 0, [], by rw [HV.out]; rfl, .inr ⟨HV.out, rfl⟩, Row.empty _ _ _ _ _, HB4.out⟩
      | some g =>
        obtain ⟨hgk, hgj, hpo, htg⟩ := found_at HPL.out hf
        have HNX := hide (show (ns.take (k + 1)).map (fun n => tgO (os.map OV.d) (rs.map RV.zs) (findN (os.map OV.d) n)) = zs ++ [tgY (rs.map RV.zs) g.1 (os[g.1]).ys[g.2]] from by
          rw [HTK.out, List.map_append, HZS.out, ← htg, ← hf]
          rfl)
        have HAX := hide (show ∀ n ∈ ns.take (k + 1), (findN (os.map OV.d) n).isSome = true from fun n hn => by
          rw [HTK.out] at hn
          rcases List.mem_append.1 hn with hn | hn
          · exact HALL.out n hn
          · rw [List.mem_singleton.1 hn, hf]
            rfl)
        obtain ⟨g1, g2⟩ := g
        simp only [Option.getD_some, Option.isSome_some]
        simp only at hgk hgj hpo HNX
        have B3 : Below w2.heap.size w2 (w2.alloc (.cells #[.int .i64 g1, .int .i64 g2] 117)) := (by repeat (first | exact Below.refl _ _ | with_reducible assumption | (refine Below.drew ?_) | (refine Below.drewN ?_ _) | (refine Below.alloc ?_ (by simp; try omega) _) | (refine Below.setCell ?_ (by simp; try omega) _)))
        have HX := hide (Box.new w2 117 #[.int .i64 g1, .int .i64 g2])
        have HW3 := hide (HW2.out.call B3)
        replace HB := hide (HB.out.trans (B3.mono HB.out.size))
        replace HB1 := hide (HB1.out.trans (B3.mono HB1.out.size))
        clear B3
        have HCV := hide (value_any A os c PA rs pc g1 g2 (w2.alloc (.cells #[.int .i64 g1, .int .i64 g2] 117)) ((HP.out.below HB1.out).more HB1.out.size) ((HR.out.below HB.out).more HB.out.size) hgk hgj ⟨HLN.out.1, HLN.out.2 _ (List.getElem_mem hgk)⟩ hpo)
        generalize tgY (rs.map RV.zs) g1 (os[g1]).ys[g2] = v at *
        have x0 := HX.out.cell 0
        have x1 := HX.out.cell 1
        simp only [List.getElem?_toArray, List.getElem?_cons_zero, List.getElem?_cons_succ] at x0 x1
        have hxl := HX.out.lt
        clear hf htg hgj hpo HW2
        go_wp2_with fail
        refine HCV.out.mono ?_
        rintro e w4 ⟨rfl, b4⟩
        have HW4 := hide (HW3.out.call b4)
        replace HB := hide (HB.out.trans (b4.mono HB.out.size))
        replace HB1 := hide (HB1.out.trans (b4.mono HB1.out.size))
        clear b4
        clear x0 x1 hxl HX HCV HW3
        have B5 : Below w4.heap.size w4 (w4.alloc (.cells #[.int .i64 v] 3)) := (by repeat (first | exact Below.refl _ _ | with_reducible assumption | (refine Below.drew ?_) | (refine Below.drewN ?_ _) | (refine Below.alloc ?_ (by simp; try omega) _) | (refine Below.setCell ?_ (by simp; try omega) _)))
        have HW5 := hide (HW4.out.call B5)
        replace HB := hide (HB.out.trans (B5.mono HB.out.size))
        replace HB1 := hide (HB1.out.trans (B5.mono HB1.out.size))
        clear B5
        clear HW4
        go_wp2_with (at_builtin; refine wpList_app _ rfl (.tmp 46) (.tmp 54) 59 rfl 3 i0 (.int .i64 0) 1 8 Try.underlying59 HI.out.1 HI.out.2.1 HI.out.2.2.1 HI.out.2.2.2 rfl (by decide) w1.heap.size A1 zs.length c1 (ints .i64 zs) rfl HW5.out HB1.out.size (some ⟨w4.heap.size, 0, none⟩) 1 1 [.int .i64 v] rfl (rd_lit w4 #[.int .i64 v] 3 _ rfl) rfl (fun h => by cases h) oneI1 ?n1 ?n2 ?_)
        case n1 => unfold maxLen; omega
        case n2 => omega
        intro A6 n6 c6 w6 hn6 o6 g6 k6
        have HB6 := hide (HB.out.grown g6 HB.out.size (fun j hj => Nat.le_trans HWW.out (HW5.out.lt j hj).1))
        have HB16 := hide (HB1.out.grown g6 HB1.out.size (fun j hj => (HW5.out.lt j hj).1))
        have hn' : n6 = (zs ++ [v]).length := by rw [hn6, List.length_append]; rfl
        have HW6 := hide (show Row w6 w1.heap.size 3 1 A6 (zs ++ [v]).length c6 (ints .i64 (zs ++ [v])) from by
          rw [← hn']
          simpa [ints] using o6)
        subst hn'
        clear hn6 o6 g6 k6 HW5
        go_wp2_with fail
        refine ⟨⟨k + 1, A6, c6, zs ++ [v], by omega, by first | rfl | rw [List.length_append], by go_num, HAX.out, HNX.out.symm, by simp [HZL.out], HW6.out, HB16.out, HB6.out⟩, by simp [intOf]; omega⟩
    · have hke : k = ns.length := by omega
      have HV := hide (show plcs (os.map OV.d) base ns = some zs from by
        have h1 := HALL.out
        have h2 := HZS.out
        rw [hke, List.take_length] at h1 h2
        rw [plcs, if_pos ⟨HOK.out, h1⟩, h2, HRZ.out])
      clear hb
      go_wp2_with fail
      go_ret2
      exact ⟨A1, c1, zs, by rw [HV.out]; rfl, .inl HV.out, HW.out.down HWW.out, HB.out⟩
end Go.Proofs.Ytmglgjchemecjaa.CNPlS
/- Landmarks put in by their places; plain. -/
namespace Go.Proofs.Ytmglgjchemecjaa.PLmk
set_option maxRecDepth 200000
open Go.ChangeShapes Go.WideShapes Go.ChangeAt Go.RowKit Kit CCode CName PObj PValid PLink CLandmarks CSorted PIns CNGS CNPlS PSort
abbrev LD := CLandmarks.D
/-- Behind the last one that is at the place or before. -/
def lpos (L : List LD) (p : Int) : Nat → Nat
  | 0 => 0
  | n + 1 => if p < (L.getD n (ByteArray.empty, 0)).2 then lpos L p n else n + 1
def insL (L : List LD) (x : LD) : List LD := L.take (lpos L x.2 L.length) ++ [x] ++ L.drop (lpos L x.2 L.length)
theorem lpos_le (L : List LD) (p : Int) : ∀ n, lpos L p n ≤ n
  | 0 => Nat.le_refl _
  | n + 1 => by
    have := lpos_le L p n
    unfold lpos
    split <;> omega
def namesL (l : List OD) : List ByteArray := if objsOk l = true then insAll (l.flatMap givN) else []
def lmkO (r : Option (List Int)) (ns : List ByteArray) : List LD := match r with
  | some zs => (ns.zip zs).foldl insL []
  | none => []
def lmkS (l : List OD) (base : Int) : List LD := lmkO (plcs l base (namesL l)) (namesL l)
theorem insL_len (L : List LD) (x : LD) : (insL L x).length = L.length + 1 := by
  have := lpos_le L x.2 L.length
  unfold insL
  rw [List.length_append, List.length_append, List.length_take, List.length_drop]
  simp only [List.length_singleton]
  omega
theorem lfold_len : ∀ (xs L : List LD), (xs.foldl insL L).length = L.length + xs.length
  | [], L => by simp
  | x :: xs, L => by
    rw [List.foldl_cons, lfold_len xs, insL_len, List.length_cons]
    omega
theorem lfold_take {xs : List LD} {k : Nat} (h : k < xs.length) (L : List LD) : (xs.take (k + 1)).foldl insL L = insL ((xs.take k).foldl insL L) xs[k] := by
  rw [take_succ h, List.foldl_append]
  rfl
end Go.Proofs.Ytmglgjchemecjaa.PLmk
