/- The library's stable sort of landmarks, whole. -/
import Derived.Test.YtmglgjchemecjaaFnLandmarksOfM7
import Derived.Lib.OwnBridge
import Derived.Laws.EntriesVeiled
set_option linter.unusedSimpArgs false
set_option linter.unusedVariables false
namespace Go.Proofs.Ytmglgjchemecjaa.CStab6
set_option maxRecDepth 200000
open Go.ChangeShapes Go.WideShapes Go.ChangeAt Go.RowKit Kit CSorted PIns PSort PLmk CLandmarks PStab PStab2 CStab1 CStab2 CCmp CStab3 CStab4 CStab5
open Go.Sort Go.RowKit
def SrtR (w0 : World) (g : Nat) (l0 : List LD) (e : Ending) (w' : World) : Prop := ∃ M : List LD, M.Perm l0 ∧ Srt M ∧ Fin w0 g M e w'
set_option maxHeartbeats 8000000 in
theorem stableM_any (w0 : World) (g : Nat) (d0 : Array LD) (R : RowM w0 g d0) (c : Nat) (l0 : List LD) (hsz : d0.size ≤ 1000000) (hl : l0.length = d0.size) (hc : Crs l0) (w : World) (hS : SM w0 g l0 w) :
    Calls Try.prog 158 #[.slice (some ⟨g, 0, none⟩) d0.size c, .int .i64 d0.size, .func (.func 98) #[] #[]] w (SrtR w0 g l0) := by
  have HI := hide (show ∃ (Bs : List (List LD)) (T : List LD), Bs.flatten.length = 0 ∧ Bk 20 Bs T l0 ∧ Crs T ∧ SM w0 g (Bs.flatten ++ T) w from ⟨[], l0, rfl, ⟨(fun B hB => by cases hB), List.pairwise_singleton _ _, by simp⟩, hc, by simpa using hS⟩)
  have HL := hide hl
  clear hS hc hl
  generalize hn : d0.size = n at *
  have HN := hide hn
  clear hn
  go_enter Try.func158, Try.ntmps158
  go_wp2_with fail
  go_loopw [7, 8] (fun sa sb wi => ∃ (a b : Nat), a ≤ n ∧ Hid (b = a + 20) ∧ b ≤ n + 20 ∧ sa = .int .i64 a ∧ sb = .int .i64 b ∧ Hid (∃ (Bs : List (List LD)) (T : List LD), Bs.flatten.length = a ∧ Bk 20 Bs T l0 ∧ Crs T ∧ SM w0 g (Bs.flatten ++ T) wi)) (fun a _ _ => n - (intOf a).toNat)
  case atStart => exact ⟨0, 20, Nat.zero_le _, hide rfl, by omega, rfl, rfl, HI⟩
  case round =>
    clear HI
    obtain ⟨a, b, han, HB, hbn, rfl, rfl, HI⟩ := hrel
    obtain ⟨Bs, T, hfl, hbk, hcr, hS⟩ := HI.out
    have hlen : Bs.flatten.length + T.length = n := by
      have h := hbk.perm.length_eq
      rw [List.length_append, HL.out] at h
      exact h
    by_cases hlt : b ≤ n
    · obtain ⟨T1, T2, rfl, ht1, ht2⟩ := split_at T 20 (by have := HB.out; omega)
      have HC := hide (insertion_any w0 g d0 R c Bs.flatten T1 T2 a b wr hfl.symm (by have := HB.out; omega) (List.pairwise_append.1 hcr).1 (by rw [List.length_append, List.length_append, HN.out]; rw [List.length_append] at hlen; omega) (by rw [HN.out]; exact hsz) hS)
      rw [HN.out] at HC
      have HX := hide (And.intro hfl (And.intro hbk (And.intro hcr ht1)))
      have HB2 := hide (show a + 20 = b from HB.out.symm)
      have hab : a < b := by have := HB.out; omega
      clear hfl hbk hcr hS hlen ht1 ht2 HI
      go_wp2_with fail
      refine HC.out.mono ?_
      rintro e w2 ⟨M, p1, s1, rfl, hS2⟩
      have HS2 := hide (show ∃ (Bs : List (List LD)) (T : List LD), Bs.flatten.length = b ∧ Bk 20 Bs T l0 ∧ Crs T ∧ SM w0 g (Bs.flatten ++ T) w2 from ⟨Bs ++ [M], T2, by
        have := p1.length_eq
        rw [List.flatten_append, List.length_append, HX.out.1]
        simp only [List.flatten_cons, List.flatten_nil, List.append_nil]
        rw [this, HX.out.2.2.2]
        exact HB2.out, HX.out.2.1.push HX.out.2.2.1 HX.out.2.2.2 p1 s1, (List.pairwise_append.1 HX.out.2.2.1).2.1, by simpa using hS2⟩)
      clear hS2 p1 s1 HC
      go_wp2_with fail
      refine ⟨⟨b, b + 20, hlt, hide rfl, by omega, rfl, by go_num, HS2⟩, by simp [intOf]; omega⟩
    · have HC := hide (insertion_any w0 g d0 R c Bs.flatten T [] a n wr hfl.symm (by omega) hcr (by rw [List.length_append, List.length_append, HN.out, List.length_nil]; omega) (by rw [HN.out]; exact hsz) (by simpa using hS))
      rw [HN.out] at HC
      have htl : T.length < 20 := by
        have := HB.out
        omega
      have HX := hide (And.intro hbk htl)
      clear hfl hbk hcr hS hlen htl HI
      go_wp2_with fail
      refine HC.out.mono ?_
      rintro e w2 ⟨M, p1, s1, rfl, hS2⟩
      have HI := hide (show ∃ (Bs : List (List LD)) (T : List LD), Bm 20 [] Bs T l0 ∧ SM w0 g (Bs.flatten ++ T) w2 from ⟨Bs, M, Bm.start (HX.out.1.rest p1) s1 (by rw [p1.length_eq]; exact HX.out.2), by simpa using hS2⟩)
      clear hS2 p1 s1 HC HX
      go_wp2_with fail
      go_loopw [6] (fun s6 wi => ∃ (s : Nat), 20 ≤ s ∧ s ≤ 2000000 ∧ s6 = .int .i64 s ∧ Hid (∃ (Bs : List (List LD)) (T : List LD), Bm s [] Bs T l0 ∧ SM w0 g (Bs.flatten ++ T) wi)) (fun s6 _ => n - (intOf s6).toNat)
      case atStart => exact ⟨20, Nat.le_refl _, by omega, rfl, HI⟩
      case round =>
        clear HI
        obtain ⟨s, hs20, hsb, rfl, HI⟩ := hrel
        by_cases hsn : s < n
        · have HJ := hide (show ∃ (Cs Bs : List (List LD)) (T : List LD), Cs.flatten.length = 0 ∧ Bm s Cs Bs T l0 ∧ SM w0 g (Cs.flatten ++ (Bs.flatten ++ T)) wr from by
            obtain ⟨Bs, T, h1, h2⟩ := HI.out
            exact ⟨[], Bs, T, rfl, h1, by simpa using h2⟩)
          clear HI
          go_wp2_with fail
          go_loopw [7, 8] (fun sa sb wi => ∃ (a b : Nat), a ≤ n ∧ Hid (b = a + 2 * s) ∧ b ≤ n + 2 * s ∧ sa = .int .i64 a ∧ sb = .int .i64 b ∧ Hid (∃ (Cs Bs : List (List LD)) (T : List LD), Cs.flatten.length = a ∧ Bm s Cs Bs T l0 ∧ SM w0 g (Cs.flatten ++ (Bs.flatten ++ T)) wi)) (fun a _ _ => n - (intOf a).toNat)
          case atStart => exact ⟨0, 2 * s, Nat.zero_le _, hide (by omega), by omega, rfl, by go_num, HJ⟩
          case round =>
            clear HJ
            obtain ⟨a, b, han, HB, hbn, rfl, rfl, HJ⟩ := hrel
            obtain ⟨Cs, Bs, T, hfl, hbm, hS⟩ := HJ.out
            have hlen : a + (Bs.flatten.length + T.length) = n := by
              have h := hbm.size
              rw [hfl, HL.out] at h
              exact h
            by_cases hlt : b ≤ n
            · obtain ⟨B1, B2, Bs', rfl⟩ := two_of hbm (by have := HB.out; omega)
              have b1 := hbm.lenB B1 List.mem_cons_self
              have b2 := hbm.lenB B2 (List.mem_cons_of_mem _ List.mem_cons_self)
              have HC := hide (show Calls Try.prog 186 #[.slice (some ⟨g, 0, none⟩) n c, .int .i64 a, .int .i64 ((a : Int) + (s : Int)), .int .i64 b, .func (.func 98) #[] #[]] wr (MerR w0 g Cs.flatten B1 B2 (Bs'.flatten ++ T)) from by
                rw [show ((a : Int) + (s : Int)) = ((a + s : Nat) : Int) from by omega]
                have h := symMerge_any w0 g d0 R c (by rw [HN.out]; exact hsz) _ Cs.flatten B1 B2 (Bs'.flatten ++ T) a (a + s) b wr (Nat.le_refl _) hfl.symm (by omega) (by have := HB.out; omega) (by omega) (by omega) b1.2 b2.2 hbm.cc12 (by
                  rw [HN.out]
                  simp only [List.length_append, List.flatten_cons] at *
                  omega) (by simpa using hS)
                rw [HN.out] at h
                exact h)
              have HX := hide (And.intro hfl hbm)
              have HB2 := hide (show a + 2 * s = b from HB.out.symm)
              have hab : a < b := by have := HB.out; omega
              have HBL := hide (And.intro b1.1 b2.1)
              have hw1 : IntKind.i64.wrap (2 * (s : Int)) = 2 * (s : Int) := IntWalk.i64_in _ (by omega)
              clear hfl hbm hS hlen HJ b1 b2
              go_wp2_with fail
              refine HC.out.mono ?_
              rintro e w2 ⟨M, p1, s1, rfl, hS2⟩
              have HS2 := hide (show ∃ (Cs Bs : List (List LD)) (T : List LD), Cs.flatten.length = b ∧ Bm s Cs Bs T l0 ∧ SM w0 g (Cs.flatten ++ (Bs.flatten ++ T)) w2 from ⟨Cs ++ [M], Bs', T, by
                have h1 := p1.length_eq
                have h2 := HX.out.1
                have h3 := HBL.out
                have h4 := HB2.out
                rw [List.length_append] at h1
                rw [List.flatten_append, List.length_append]
                simp only [List.flatten_cons, List.flatten_nil, List.append_nil]
                omega, HX.out.2.merge p1 s1, by simpa using hS2⟩)
              clear hS2 p1 s1 HC
              go_wp2_with fail
              refine ⟨⟨b, b + 2 * s, hlt, hide rfl, by omega, rfl, by go_num, HS2⟩, by simp [intOf]; omega⟩
            · have h2s : ¬ 2 * s ≤ Bs.flatten.length + T.length := by
                have := HB.out
                omega
              by_cases hm : a + s < n
              · obtain ⟨B1, rfl⟩ : ∃ B1, Bs = [B1] := by
                  rcases one_of hbm h2s with rfl | h
                  · have := hbm.lt
                    simp at hlen
                    omega
                  · exact h
                have b1 := hbm.lenB B1 List.mem_cons_self
                have HC := hide (show Calls Try.prog 186 #[.slice (some ⟨g, 0, none⟩) n c, .int .i64 a, .int .i64 ((a : Int) + (s : Int)), .int .i64 n, .func (.func 98) #[] #[]] wr (MerR w0 g Cs.flatten B1 T []) from by
                  rw [show ((a : Int) + (s : Int)) = ((a + s : Nat) : Int) from by omega]
                  simp only [List.flatten_cons, List.flatten_nil, List.append_nil] at hlen
                  have h := symMerge_any w0 g d0 R c (by rw [HN.out]; exact hsz) _ Cs.flatten B1 T [] a (a + s) n wr (Nat.le_refl _) hfl.symm (by omega) (by omega) (by omega) (by omega) b1.2 hbm.srt hbm.cc1T (by
                    rw [HN.out]
                    simp only [List.length_append, List.length_nil] at *
                    omega) (by simpa using hS)
                  rw [HN.out] at h
                  exact h)
                have HX := hide (And.intro h2s hbm)
                clear hfl hbm hS hlen HJ b1 h2s
                go_wp2_with fail
                refine HC.out.mono ?_
                rintro e w2 ⟨M, p1, s1, rfl, hS2⟩
                have HS2 := hide (show ∃ (Bs : List (List LD)) (T : List LD), Bm (s * 2) [] Bs T l0 ∧ SM w0 g (Bs.flatten ++ T) w2 from ⟨Cs, M, HX.out.2.done HX.out.1 (by simpa using p1) s1, by simpa using hS2⟩)
                clear hS2 p1 s1 HC HX
                go_wp2_with fail
                refine ⟨⟨s * 2, by omega, by omega, by go_num, HS2⟩, by simp [intOf]; omega⟩
              · have HS2 := hide (show ∃ (Bs : List (List LD)) (T : List LD), Bm (s * 2) [] Bs T l0 ∧ SM w0 g (Bs.flatten ++ T) wr from ⟨Cs, Bs.flatten ++ T, hbm.done h2s (List.Perm.refl _) (hbm.leaves (by omega)), hS⟩)
                clear hfl hbm hS hlen HJ h2s
                go_wp2_with fail
                refine ⟨⟨s * 2, by omega, by omega, by go_num, HS2⟩, by simp [intOf]; omega⟩
        · have HF := hide (show SrtR w0 g l0 (.returned (.tuple #[])) wr from by
            obtain ⟨Bs, T, h1, h2⟩ := HI.out
            refine ⟨Bs.flatten ++ T, by simpa using h1.perm, h1.whole ?_, rfl, h2⟩
            have h := h1.perm.length_eq
            rw [HL.out, List.flatten_nil, List.nil_append] at h
            omega)
          clear HI
          go_wp2_with fail
          exact bodyPost_ret (v := .tuple #[]) (by simp [results, Try.results158, go_sem]) rfl HF.out
theorem sortStableM_any (w0 : World) (g : Nat) (d0 : Array LD) (R : RowM w0 g d0) (c : Nat) (l0 : List LD) (hsz : d0.size ≤ 1000000) (hl : l0.length = d0.size) (hc : Crs l0) (w : World) (hS : SM w0 g l0 w) :
    Calls Try.prog 97 #[.slice (some ⟨g, 0, none⟩) d0.size c, .func (.func 98) #[] #[]] w (SrtR w0 g l0) := by
  have HC := hide (stableM_any w0 g d0 R c l0 hsz hl hc w hS)
  clear hS
  go_enter Try.func97, Try.ntmps97
  go_wp2_with fail
  refine HC.out.mono ?_
  rintro e w2 ⟨M, p1, s1, rfl, hS2⟩
  have HS2 := hide (show SrtR w0 g l0 (.returned (.tuple #[])) w2 from ⟨M, p1, s1, rfl, hS2⟩)
  clear hS2
  go_wp2_with fail
  exact bodyPost_ret (v := .tuple #[]) (by simp [results, Try.results97, go_sem]) rfl HS2.out
end Go.Proofs.Ytmglgjchemecjaa.CStab6
/- The library's stable sort on a row of landmarks of the call's own. -/
namespace Go.Proofs.Ytmglgjchemecjaa.CStab7
set_option maxRecDepth 200000
open Go.ChangeShapes Go.WideShapes Go.ChangeAt Go.RowKit Kit CSorted PIns PSort PLmk CLandmarks PStab PStab2 CStab1 CStab2 CCmp CStab3 CStab4 CStab5 CStab6
open Go.Sort Go.RowKit
theorem flat_eq (M : List LD) : flatK landmarkC 2 M.toArray = (cellsOf landmarkC M).toArray := by
  apply Array.toList_inj.1
  have hl : (cellsOf landmarkC M).length = M.length * 2 := cellsOf_len landmarkC_len M
  apply List.ext_getElem?
  intro j
  by_cases hj : j < M.length * 2
  · have h1 : j / 2 < M.length := by omega
    have h2 : j % 2 < 2 := by omega
    have e : j = j / 2 * 2 + j % 2 := by omega
    have h3 := cellsOf_at landmarkC_len M (j / 2) (j % 2) h1 h2
    rw [← e] at h3
    have h4 := get_flatK landmarkC 2 M.toArray j (by simpa using hj)
    have hs : j < (flatK landmarkC 2 M.toArray).size := by simpa using hj
    rw [getElem!_pos _ j hs] at h4
    rw [Array.getElem?_toList, Array.getElem?_eq_getElem hs, h4, List.toList_toArray, h3]
    have h5 : M.toArray[j / 2]! = M[j / 2] := by
      rw [getElem!_pos _ _ (by simpa using h1)]
      simp
    rw [h5, getElem!_pos _ _ (by rw [landmarkC_len]; exact h2), List.getElem?_eq_getElem (by rw [landmarkC_len]; exact h2)]
  · rw [List.getElem?_eq_none, List.getElem?_eq_none]
    · simp [hl]; omega
    · simp; omega
theorem holds_of {w : World} {base g c : Nat} {e : TypeId} {xs : List LD} (h : w.ownsRow base e 2 (.slice (some ⟨g, 0, none⟩) xs.length c) xs.length (cellsOf landmarkC xs)) : HoldsK landmarkC 2 w g 0 xs.toArray := by
  unfold HoldsK
  rw [flat_eq]
  intro j hj
  have hj' : j < xs.length * 2 := by
    rw [← cellsOf_len landmarkC_len xs]
    simpa using hj
  refine ⟨?_, ?_⟩
  · have hjl : j < (cellsOf landmarkC xs).length := by simpa using hj
    rw [Nat.zero_add, World.ownsRow.cellAt h j hj', List.getElem?_eq_getElem hjl, getElem!_pos (cellsOf landmarkC xs).toArray j hj]
    simp
  · rw [Nat.zero_add]
    exact World.ownsRow.frozenAt h j
theorem owns_of {w : World} {base g c q : Nat} {e : TypeId} {xs M : List LD} {os : Array Obj} (h : w.ownsRow base e 2 (.slice (some ⟨g, 0, none⟩) xs.length c) xs.length (cellsOf landmarkC xs)) (hM : M.length = xs.length) :
    (sortWorldK landmarkC 2 w g 0 q M.toArray os).ownsRow base e 2 (.slice (some ⟨g, 0, none⟩) M.length c) M.length (cellsOf landmarkC M) := by
  have hl : (cellsOf landmarkC M).length = M.length * 2 := cellsOf_len landmarkC_len M
  rcases h.2 with ⟨e0, _⟩ | ⟨g', cap', cur, e0, hb, hg, hn, hm, hs, ht⟩
  · cases e0
  · injection e0 with e1 _ e3
    injection e1 with e1
    injection e1 with e1
    subst e1; subst e3
    have hlt : g < w.heap.size := (Array.getElem?_eq_some_iff.1 hg).1
    refine ⟨hl, .inr ⟨g, c, putCells id 0 (cellsOf landmarkC M).toArray cur, rfl, hb, ?_, by omega, hm, by simpa [putCells] using hs, ?_⟩⟩
    · unfold sortWorldK putRowK
      rw [heap_grow_old _ _ (by simpa [putRow, mapBlock, Sort.ahead] using hlt), flat_eq]
      simp [putRow, mapBlock, Sort.ahead, Array.getElem?_modify, hg, onCells]
    · apply List.ext_getElem?
      intro j
      rw [List.getElem?_take, Array.getElem?_toList]
      by_cases hj : j < M.length * 2
      · have hjc : j < cur.size := by
          rw [hs]
          have : M.length * 2 ≤ c * 2 := by omega
          omega
        simp only [if_pos hj, putCells, Array.getElem?_mapIdx, Array.getElem?_eq_getElem hjc, Option.map_some]
        rw [if_pos (by simp [hl]; omega), List.getElem?_eq_getElem (by omega)]
        simp only [Nat.sub_zero, id]
        rw [getElem!_pos _ _ (by simp [hl]; omega)]
        simp
      · rw [if_neg hj, List.getElem?_eq_none (by omega)]
theorem below_of {w : World} {base g q : Nat} {M : List LD} {os : Array Obj} (hg : base ≤ g) (hlt : g < w.heap.size) : Below base w (sortWorldK landmarkC 2 w g 0 q M.toArray os) := by
  unfold sortWorldK putRowK
  have h1 := Lib.below_putRow (enc := id) (q := q) (d := flatK landmarkC 2 M.toArray) (Below.refl base w) hg
  refine ⟨h1.os, h1.tape, h1.output, ?_, ?_⟩
  · rw [size_grow]
    exact Nat.le_trans h1.size (Nat.le_add_right _ _)
  · intro k hk
    have hkw : k < (putRow id (Sort.ahead w q) g 0 (flatK landmarkC 2 M.toArray)).heap.size := Nat.lt_of_lt_of_le (Nat.lt_of_lt_of_le hk (Nat.le_of_lt (Nat.lt_of_le_of_lt hg hlt))) h1.size
    rw [heap_grow_old _ _ hkw]
    exact h1.block k hk
def SortedR (base g c : Nat) (xs : List LD) (w : World) (e : Ending) (w' : World) : Prop := e = .returned (.tuple #[]) ∧ ∃ M : List LD, M.Perm xs ∧ Srt M ∧ Row w' base 63 2 (some ⟨g, 0, none⟩) M.length c (cellsOf landmarkC M) ∧ Below base w w'
theorem one_lmkC (x : LD) : ∀ v ∈ landmarkC x, v.oneCell' = true := by
  intro u hz
  simp only [landmarkC, List.mem_cons, List.not_mem_nil, or_false] at hz
  rcases hz with rfl | rfl <;> rfl
theorem sortRow_any (base g c : Nat) (xs : List LD) (w : World) (h : Row w base 63 2 (some ⟨g, 0, none⟩) xs.length c (cellsOf landmarkC xs)) (hg : base ≤ g ∧ g < w.heap.size) (hc : Crs xs) (hm : xs.length ≤ 1000000) :
    Calls Try.prog 97 #[.slice (some ⟨g, 0, none⟩) xs.length c, .func (.func 98) #[] #[]] w (SortedR base g c xs w) := by
  have hH : HoldsK landmarkC 2 w g 0 xs.toArray := by
    rcases h with ⟨h1, h2, h3⟩ | h
    · have : xs = [] := List.eq_nil_of_length_eq_zero h1
      subst this
      intro j hj
      simp at hj
    · exact holds_of h
  have R : RowM w g xs.toArray := ⟨landmarkC_len, fun x v hv => one_lmkC x v hv, hH, hg.2⟩
  have hs := sortStableM_any w g xs.toArray R c xs (by simpa using hm) (by simp) hc w (SWK.start hH)
  rw [List.size_toArray] at hs
  refine hs.mono ?_
  rintro e w' ⟨M, hp, hM, rfl, q, os, rfl⟩
  refine ⟨rfl, M, hp, hM, ?_, below_of hg.1 hg.2⟩
  rcases h with ⟨h1, h2, h3⟩ | h
  · left
    exact ⟨by rw [hp.length_eq]; exact h1, h2, by
      have : xs = [] := List.eq_nil_of_length_eq_zero h1
      subst this
      rw [List.Perm.eq_nil hp]
      rfl⟩
  · exact .inr (owns_of h hp.length_eq)
end Go.Proofs.Ytmglgjchemecjaa.CStab7
/- Landmarks: the two lists are one; plain. -/
namespace Go.Proofs.Ytmglgjchemecjaa.PLmk2
set_option maxRecDepth 200000
open Go.ChangeShapes Go.WideShapes Go.ChangeAt Go.RowKit Kit CCode CName PObj PValid PLink CLandmarks CSorted PIns CNGS CNPlS PSort PLmk PStab
theorem lpos_lo (L : List LD) (p : Int) (hs : Srt L) : ∀ n, n ≤ L.length → ∀ y ∈ L.take (lpos L p n), y.2 ≤ p
  | 0, _ => by simp [lpos]
  | n + 1, hn => by
    have hl : n < L.length := by omega
    have e : L.getD n (ByteArray.empty, 0) = L[n] := by rw [List.getD_eq_getElem?_getD, List.getElem?_eq_getElem hl]; rfl
    unfold lpos
    rw [e]
    split
    · exact lpos_lo L p hs n (by omega)
    · rename_i h
      intro y hy
      rw [take_succ hl] at hy
      rcases List.mem_append.1 hy with hy | hy
      · have e2 : L = L.take n ++ L.drop n := (List.take_append_drop n L).symm
        rw [e2] at hs
        have := (List.pairwise_append.1 hs).2.2 y hy L[n] (by rw [List.drop_eq_getElem_cons hl]; exact List.mem_cons_self)
        rcases this with h2 | ⟨h2, _⟩ <;> omega
      · rw [List.mem_singleton.1 hy]
        omega
theorem lpos_hi (L : List LD) (p : Int) : ∀ n, n ≤ L.length → ∀ y ∈ (L.take n).drop (lpos L p n), p < y.2
  | 0, _ => by simp
  | n + 1, hn => by
    have hl : n < L.length := by omega
    have e : L.getD n (ByteArray.empty, 0) = L[n] := by rw [List.getD_eq_getElem?_getD, List.getElem?_eq_getElem hl]; rfl
    unfold lpos
    rw [e]
    split
    · rename_i h
      intro y hy
      have h1 := lpos_le L p n
      rw [take_succ hl, List.drop_append_of_le_length (by rw [List.length_take]; omega)] at hy
      rcases List.mem_append.1 hy with hy | hy
      · exact lpos_hi L p n (by omega) y hy
      · rw [List.mem_singleton.1 hy]
        exact h
    · intro y hy
      rw [List.drop_of_length_le (by rw [List.length_take]; omega)] at hy
      cases hy
theorem insL_perm (L : List LD) (x : LD) : (insL L x).Perm (L ++ [x]) := by
  unfold insL
  rw [List.append_assoc]
  refine List.Perm.trans (List.Perm.append_left _ List.perm_append_comm) ?_
  rw [← List.append_assoc, List.take_append_drop]
theorem insL_srt {L : List LD} {x : LD} (hs : Srt L) (hc : ∀ y ∈ L, cr y x) : Srt (insL L x) := by
  have h1 := lpos_lo L x.2 hs L.length (Nat.le_refl _)
  have h2 := lpos_hi L x.2 L.length (Nat.le_refl _)
  rw [List.take_length] at h2
  unfold insL
  generalize lpos L x.2 L.length = k at *
  have h := ins_done (M := L) (A := L.take k) (B := L.drop k) (x := x) hs (List.take_append_drop k L) (fun y hy => .inl (h2 y hy)) (fun y hy => lt_cr (hc y (List.mem_of_mem_take hy)) (by have := h1 y hy; omega))
  simpa using h
theorem fold_ok : ∀ (xs L : List LD), Srt L → Crs xs → (∀ y ∈ L, ∀ x ∈ xs, cr y x) → (xs.foldl insL L).Perm (L ++ xs) ∧ Srt (xs.foldl insL L)
  | [], L, hs, _, _ => ⟨by simp, hs⟩
  | x :: xs, L, hs, hc, hx => by
    obtain ⟨c1, c2⟩ := List.pairwise_cons.1 hc
    have h1 := insL_srt (x := x) hs (fun y hy => hx y hy x List.mem_cons_self)
    have h2 := insL_perm L x
    obtain ⟨p, q⟩ := fold_ok xs (insL L x) h1 c2 (fun y hy z hz => by
      rcases List.mem_append.1 (h2.subset hy) with hy | hy
      · exact hx y hy z (List.mem_cons_of_mem _ hz)
      · rw [List.mem_singleton.1 hy]
        exact c1 z hz)
    refine ⟨List.Perm.trans p ?_, q⟩
    have := h2.append_right xs
    simpa using this
theorem srt_uniq : ∀ {a b : List LD}, Srt a → Srt b → a.Perm b → a = b
  | [], b, _, _, h => (List.Perm.eq_nil h.symm).symm
  | x :: a, [], _, _, h => by have := h.length_eq; simp at this
  | x :: a, y :: b, ha, hb, h => by
    obtain ⟨a1, a2⟩ := List.pairwise_cons.1 ha
    obtain ⟨b1, b2⟩ := List.pairwise_cons.1 hb
    have e : x = y := by
      rcases List.mem_cons.1 (h.subset List.mem_cons_self) with e | e
      · exact e
      · rcases List.mem_cons.1 (h.symm.subset List.mem_cons_self) with e2 | e2
        · exact e2.symm
        · exact absurd (ltM_tr (b1 x e) (a1 y e2)) (fun hh => ltM_irr hh)
    subst e
    rw [srt_uniq a2 b2 (List.Perm.cons_inv h)]
theorem sort_is {xs M : List LD} (hc : Crs xs) (hp : M.Perm xs) (hs : Srt M) : M = xs.foldl insL [] := by
  obtain ⟨p, q⟩ := fold_ok xs [] List.Pairwise.nil hc (fun y hy => by cases hy)
  rw [List.nil_append] at p
  exact srt_uniq hs q (hp.trans p.symm)
def atP (l : List OD) (base : Int) (n : ByteArray) : LD := (n, tgO l (lay l base).2 (findN l n))
theorem names_eq {l : List OD} (ho : objsOk l = true) : srtN (l.flatMap fun d => srtN (givS d.ys)) = namesL l := by
  unfold namesL
  rw [if_pos ho, all_srt]
  congr 1
  have h : ∀ d ∈ l, objOk d = true := by
    simp only [objsOk, Bool.and_eq_true, List.all_eq_true] at ho
    exact ho.2
  clear ho
  induction l with
  | nil => rfl
  | cons d l ih =>
    rw [List.flatMap_cons, List.flatMap_cons, ih (fun d hd => h d (List.mem_cons_of_mem _ hd))]
    congr 1
    unfold givN
    rw [h d List.mem_cons_self, all_srt]
    rfl
theorem names_ss (l : List OD) : SS (namesL l) := by
  unfold namesL
  split
  · exact (insAll_spec _).1
  · exact List.Pairwise.nil
theorem fiS_some {p : YD → Bool} : ∀ {ys : List YD} (j : Nat), (∃ y ∈ ys, p y = true) → ∃ r, fiS p j ys = some r
  | [], _, ⟨y, hy, _⟩ => by cases hy
  | z :: ys, j, ⟨y, hy, hp⟩ => by
    unfold fiS
    cases hz : p z
    · rcases List.mem_cons.1 hy with rfl | hy
      · rw [hp] at hz; cases hz
      · simpa using fiS_some (j + 1) ⟨y, hy, hp⟩
    · exact ⟨j, rfl⟩
theorem fiO_some {p : YD → Bool} : ∀ {l : List OD} (k : Nat), (∃ d ∈ l, ∃ y ∈ d.ys, p y = true) → ∃ r, fiO p k l = some r
  | [], _, ⟨d, hd, _⟩ => by cases hd
  | z :: l, k, ⟨d, hd, hy⟩ => by
    unfold fiO
    cases hz : fiS p 0 z.ys with
    | some j => exact ⟨(k, j), rfl⟩
    | none =>
      rcases List.mem_cons.1 hd with rfl | hd
      · obtain ⟨r, hr⟩ := fiS_some 0 hy
        rw [hr] at hz
        cases hz
      · exact fiO_some (k + 1) ⟨d, hd, hy⟩
theorem names_found {l : List OD} (ho : objsOk l = true) : ∀ n ∈ namesL l, (findN l n).isSome = true := by
  intro n hn
  have hvb := valid_bind ho
  rw [← names_eq ho] at hn
  have h1 := ((srt_spec _).2 n).1 hn
  obtain ⟨d, hd, hnd⟩ := List.mem_flatMap.1 h1
  have h2 := ((srt_spec _).2 n).1 hnd
  unfold givS at h2
  obtain ⟨y, hy, rfl⟩ := List.mem_map.1 h2
  obtain ⟨hyd, hg⟩ := List.mem_filter.1 hy
  have hb := hvb d hd y hyd
  simp only [givY, Bool.and_eq_true, Bool.not_eq_true', decide_eq_false_iff_not] at hg
  unfold findN
  have hor : y.2.1 = 1 ∨ y.2.1 = 2 := by omega
  rcases hor with h | h
  · obtain ⟨r, hr⟩ := fiO_some (p := gives y.1 1) 0 ⟨d, hd, y, hyd, by simp [gives, h, hg.1]⟩
    rw [hr]
    rfl
  · obtain ⟨r, hr⟩ := fiO_some (p := gives y.1 2) 0 ⟨d, hd, y, hyd, by simp [gives, h, hg.1]⟩
    rw [hr]
    cases fiO (gives y.1 1) 0 l <;> rfl
theorem lmk_crs (l : List OD) (base : Int) : Crs ((namesL l).map (atP l base)) := by
  refine List.pairwise_map.2 ?_
  exact names_ss l
theorem zip_map_self {α β : Type} (f : α → β) : ∀ l : List α, l.zip (l.map f) = l.map fun x => (x, f x)
  | [] => rfl
  | x :: l => by rw [List.map_cons, List.zip_cons_cons, zip_map_self f l, List.map_cons]
theorem lmk_ok {l : List OD} {base : Int} (h : (objsOk l && baseOk base) = true) : lmkS l base = ((namesL l).map (atP l base)).foldl insL [] := by
  have ho : objsOk l = true := by
    rw [Bool.and_eq_true] at h
    exact h.1
  unfold lmkS plcs
  rw [if_pos ⟨h, names_found ho⟩]
  show ((namesL l).zip ((namesL l).map _)).foldl insL [] = _
  rw [zip_map_self]
  rfl
theorem lmk_bad {l : List OD} {base : Int} (h : (objsOk l && baseOk base) = false) : lmkS l base = [] := by
  unfold lmkS plcs
  rw [if_neg (fun hh => by rw [hh.1] at h; cases h)]
  rfl
theorem names_len {l : List OD} (h : ∀ d ∈ l, objOk d = true → d.ys.length ≤ 12) : (namesL l).length ≤ 48 := by
  unfold namesL
  split
  · rename_i ho
    have ho2 := ho
    simp only [objsOk, Bool.and_eq_true, decide_eq_true_eq, List.all_eq_true] at ho2
    have h1 := insAll_len (l.flatMap givN)
    have h2 : ∀ ds : List OD, (∀ d ∈ ds, objOk d = true ∧ d.ys.length ≤ 12) → (ds.flatMap givN).length ≤ 12 * ds.length := by
      intro ds
      induction ds with
      | nil => intro _; simp
      | cons d ds ih =>
        intro hd
        have h3 := ih (fun x hx => hd x (List.mem_cons_of_mem _ hx))
        obtain ⟨h4, h5⟩ := hd d List.mem_cons_self
        have h6 : (givN d).length ≤ 12 := by
          unfold givN
          rw [h4]
          have := insAll_len (givS d.ys)
          have := givS_len d.ys
          simp only [cond_true]
          omega
        rw [List.flatMap_cons, List.length_append, List.length_cons]
        omega
    have h3 := h2 l (fun d hd => ⟨ho2.2 d hd, h d hd (ho2.2 d hd)⟩)
    have := ho2.1
    omega
  · simp
theorem lmk_len {l : List OD} (base : Int) (h : ∀ d ∈ l, objOk d = true → d.ys.length ≤ 12) : (lmkS l base).length ≤ 48 := by
  have h1 := names_len h
  cases hb : (objsOk l && baseOk base)
  · rw [lmk_bad hb]
    simp
  · rw [lmk_ok hb, lfold_len, List.length_map]
    simpa using h1
end Go.Proofs.Ytmglgjchemecjaa.PLmk2
/- namesOf at Symbol.gives: the program's. -/
namespace Go.Proofs.Ytmglgjchemecjaa.CNamesOf
set_option maxRecDepth 200000
open Go.ChangeShapes Go.WideShapes Go.ChangeAt Go.RowKit Kit CCode CName CFixups CSymbols PObj BObj PValid BStore CMarkRows BList PLink CSorted CNames CNGS
theorem gives_any (z : YD) (w : World) : Calls Try.prog 93 #[.agg #[.string z.1, .int .i64 z.2.1, .int .i64 z.2.2.1, .int .i64 z.2.2.2]] w (Ret (.bool (givY z)) w) := by
  obtain ⟨z1, z2, z3, z4⟩ := z
  have HB := hide (show Below w.heap.size w (w.alloc (.cells #[.string z1, .int .i64 z2, .int .i64 z3, .int .i64 z4] 69)) from (by repeat (first | exact Below.refl _ _ | with_reducible assumption | (refine Below.drew ?_) | (refine Below.drewN ?_ _) | (refine Below.alloc ?_ (by simp; try omega) _) | (refine Below.setCell ?_ (by simp; try omega) _))))
  have HV := hide (show givY (z1, z2, z3, z4) = (!decide (z3 = -1) && !decide (z2 = 0)) from rfl)
  simp only
  go_enter Try.func93, Try.ntmps93
  by_cases h3 : z3 = -1
  · have q : (z3 != -1) = false := by simp [h3]
    have HV2 := hide (show givY (z1, z2, z3, z4) = false from by rw [HV.out, decide_eq_true h3]; rfl)
    clear h3 HV
    go_wp2_with fail
    go_ret
    exact ⟨by rw [HV2.out]; rfl, HB.out⟩
  · have q : (z3 != -1) = true := by simp [h3]
    by_cases h2 : z2 = 0
    · have q2 : (z2 != 0) = false := by simp [h2]
      have HV2 := hide (show givY (z1, z2, z3, z4) = false from by rw [HV.out, decide_eq_true h2]; simp)
      clear h3 h2 HV
      go_wp2_with fail
      go_ret
      exact ⟨by rw [HV2.out]; rfl, HB.out⟩
    · have q2 : (z2 != 0) = true := by simp [h2]
      have HV2 := hide (show givY (z1, z2, z3, z4) = true from by rw [HV.out, decide_eq_false h2, decide_eq_false h3]; rfl)
      clear h3 h2 HV
      go_wp2_with fail
      go_ret
      exact ⟨by rw [HV2.out]; rfl, HB.out⟩
set_option maxHeartbeats 4000000 in
theorem namesOf_any (A : Option Addr) (ys : List YD) (c : Nat) (w : World) (hr : Rd w w.heap.size A (cellsOf symbolC ys)) (hm : ys.length ≤ 1000) :
    Calls Try.prog 92 #[.slice A ys.length c, .func (.func 93) #[] #[]] w (RetN (srtN (givS ys)) w) := by
  obtain ⟨i0, hi1, hi2, hi3, hi4⟩ := info_parts infoStr
  have HI := hide (And.intro hi1 (And.intro hi2 (And.intro hi3 hi4)))
  clear hi1 hi2 hi3 hi4
  have HR := hide hr
  clear hr
  have HB := hide (show Below w.heap.size w (w.alloc (.cells #[] 9)) from (by repeat (first | exact Below.refl _ _ | with_reducible assumption | (refine Below.drew ?_) | (refine Below.drewN ?_ _) | (refine Below.alloc ?_ (by simp; try omega) _) | (refine Below.setCell ?_ (by simp; try omega) _))))
  go_enter Try.func92, Try.ntmps92
  go_wp2_with fail
  generalize w.alloc (.cells #[] 9) = w0 at *
  go_loopw [5, 11] (fun s i wi => ∃ (k : Nat) (A1 : Option Addr) (c1 : Nat) (ns : List ByteArray), k ≤ ys.length ∧ s = .slice A1 ns.length c1 ∧ i = .int .i64 k ∧ ns = givS (ys.take k) ∧ ns.length ≤ k ∧ Row wi w.heap.size 9 1 A1 ns.length c1 (nmC ns) ∧ Below w.heap.size w wi) (fun _ i _ => ys.length - (intOf i).toNat)
  case atStart => exact ⟨0, _, 0, [], Nat.zero_le _, rfl, rfl, rfl, Nat.le_refl _, Row.empty _ _ _ _ _, HB.out⟩
  case round =>
    clear HB
    obtain ⟨k, A1, c1, ns, hk, rfl, rfl, hns, hnl, hrow, hb⟩ := hrel
    have HNS := hide hns
    have HW := hide hrow
    have HB := hide hb
    clear hns hrow
    by_cases hlt : k < ys.length
    · obtain ⟨b2, off2, hYA, hb2, hc⟩ := (HR.out.below hb).row symbolC_len (by decide) hlt
      have hc0 := hc 0 _ rfl
      have hc1 := hc 1 _ rfl
      have hc2 := hc 2 _ rfl
      have hc3 := hc 3 _ rfl
      simp only [Nat.add_zero] at hc0
      have HST := hide (show givS (ys.take (k + 1)) = ns ++ (bif givY ys[k] then [ys[k].1] else []) from by rw [givS_snoc hlt, HNS.out])
      clear hb hc
      subst hYA
      generalize ys[k] = z at *
      have HG := hide (fun W => gives_any z W)
      generalize givY z = gz at *
      obtain ⟨z1, z2, z3, z4⟩ := z
      simp only at hc0 hc1 hc2 hc3 HG HST
      have B1 : Below wr.heap.size wr (wr.alloc (.cells #[.string z1, .int .i64 z2, .int .i64 z3, .int .i64 z4] 69)) := (by repeat (first | exact Below.refl _ _ | with_reducible assumption | (refine Below.drew ?_) | (refine Below.drewN ?_ _) | (refine Below.alloc ?_ (by simp; try omega) _) | (refine Below.setCell ?_ (by simp; try omega) _)))
      have HZ := hide (Box.new wr 69 #[.string z1, .int .i64 z2, .int .i64 z3, .int .i64 z4])
      replace HW := hide (HW.out.call B1)
      replace HB := hide (HB.out.trans (B1.mono HB.out.size))
      go_wp2_with fail
      clear hc0 hc1 hc2 hc3 B1
      generalize wr.alloc (.cells #[.string z1, .int .i64 z2, .int .i64 z3, .int .i64 z4] 69) = wz at *
      generalize wr.heap.size = S at *
      refine (HG.out wz).mono ?_
      rintro e w' ⟨rfl, b'⟩
      replace HZ := hide (HZ.out.call b')
      replace HB := hide (HB.out.trans (b'.mono HB.out.size))
      replace HW := hide (HW.out.call b')
      clear b'
      have hzl := HZ.out.lt
      have z0 := HZ.out.cell 0
      simp only [List.getElem?_toArray, List.getElem?_cons_zero, List.getElem?_cons_succ] at z0
      cases gz with
      | false =>
        simp only [cond_false, List.append_nil] at HST
        go_wp2_with fail
        refine ⟨⟨k + 1, A1, c1, ns, by omega, rfl, by go_num, HST.out.symm, by omega, HW.out, HB.out⟩, by simp [intOf]; omega⟩
      | true =>
        simp only [cond_true] at HST
        go_wp2_with (at_builtin; refine wpList_app (w'.alloc (.cells #[.string z1] 9)) rfl (.tmp 18) (.tmp 21) 64 rfl 9 i0 (.string ByteArray.empty) 1 16 Try.underlying64 HI.out.1 HI.out.2.1 HI.out.2.2.1 HI.out.2.2.2 rfl (by decide) w.heap.size A1 ns.length c1 (nmC ns) rfl (HW.out.alloc _) ?hb (some ⟨w'.heap.size, 0, none⟩) 1 1 [.string z1] rfl (rd_lit w' #[.string z1] 9 _ rfl) rfl (fun h => by cases h) ?o1 ?n1 ?n2 ?_)
        case hb => have h := (HB.out.alloc HB.out.size (.cells #[.string z1] 9)).size; simpa using h
        case o1 => exact one_str z1
        case n1 => unfold maxLen; omega
        case n2 => omega
        intro A3 n3 c3 w3 hn o3 g3 k3
        have bl : Below w'.heap.size w' (w'.alloc (.cells #[.string z1] 9)) := (by repeat (first | exact Below.refl _ _ | with_reducible assumption | (refine Below.drew ?_) | (refine Below.drewN ?_ _) | (refine Below.alloc ?_ (by simp; try omega) _) | (refine Below.setCell ?_ (by simp; try omega) _)))
        have HB3 := hide ((HB.out.trans (bl.mono HB.out.size)).grown g3 (HB.out.trans (bl.mono HB.out.size)).size (fun j hj => (HW.out.lt j hj).1))
        subst hn
        have HW3 := hide (show Row w3 w.heap.size 9 1 A3 (ns.length + 1) c3 (nmC (ns ++ [z1])) from by
          rw [← strs_snoc]
          simpa using o3)
        clear o3 g3 k3 bl HW HB
        go_wp2_with fail
        refine ⟨⟨k + 1, A3, c3, ns ++ [z1], by omega, by simp, by go_num, HST.out.symm, by simp; omega, by simpa using HW3.out, HB3.out⟩, by simp [intOf]; omega⟩
    · have hke : k = ys.length := by omega
      have HF := hide (show ns = givS ys from by rw [HNS.out, hke, List.take_length])
      have hn1 : ns.length ≤ 1048576 := by omega
      clear hb hke HNS
      go_wp2_with fail
      refine (sorted_any ns A1 c1 w.heap.size wr HW.out hn1).mono ?_
      rintro e w2 ⟨A2, c2, rfl, r2, b2⟩
      have HW2 := hide (r2.down HB.out.size)
      have HB2 := hide (HB.out.trans (b2.mono HB.out.size))
      clear r2 b2
      go_wp2_with fail
      go_ret
      rw [← HF.out]
      exact ⟨A2, c2, rfl, HW2.out, HB2.out⟩
end Go.Proofs.Ytmglgjchemecjaa.CNamesOf
/- The comparer of symbols that SortSymbols hands to the library. -/
namespace Go.Proofs.Ytmglgjchemecjaa.CCmpY
set_option maxRecDepth 200000
open Go.ChangeShapes Go.WideShapes Go.ChangeAt Go.RowKit Kit CFixups CSymbols PObj BObj PSort CCmp
theorem group_any (V : Nat) (Y : Option Addr) (ys : List YD) (yc j : Nat) (hj : j < ys.length) (w : World) (hY : w.cell? ⟨V, 1, none⟩ = some (.slice Y ys.length yc)) (hr : Rd w w.heap.size Y (cellsOf symbolC ys)) (hm : ys.length ≤ 1000000) :
    Calls Try.prog 66 #[.int .i64 j, .pointer (some ⟨V, 0, none⟩)] w (Pure (.int .i64 (grp ys[j])) w) := by
  obtain ⟨b, off, hA, hb, hc⟩ := hr.row symbolC_len (by decide) hj
  have hc1 := hc 1 _ rfl
  subst hA
  clear hc hr
  have HV := hide (show grp ys[j] = if (ys[j].2.1 == 0) = true then 0 else 1 from rfl)
  generalize ys[j] = z at *
  go_enter Try.func66, Try.ntmps66
  by_cases h : z.2.1 = 0
  · have e1 : (z.2.1 == 0) = true := beq_iff_eq.2 h
    rw [e1] at HV
    go_wp2_with fail
    go_ret
    exact ⟨by rw [HV.out]; rfl, rfl⟩
  · have e1 : (z.2.1 == 0) = false := beq_eq_false_iff_ne.2 h
    rw [e1] at HV
    clear h
    go_wp2_with fail
    go_ret
    exact ⟨by rw [HV.out]; rfl, rfl⟩
/-- What the comparer reads. -/
def CmpInv (V G : Nat) (Y : Option Addr) (ys : List YD) (yc : Nat) (w : World) : Prop :=
  w.cell? ⟨V, 1, none⟩ = some (.slice Y ys.length yc) ∧ w.cell? ⟨G, 0, none⟩ = some (.func (.func 66) #[] #[.pointer (some ⟨V, 0, none⟩)]) ∧ Rd w w.heap.size Y (cellsOf symbolC ys) ∧ V < w.heap.size ∧ G < w.heap.size
theorem CmpInv.call {V G : Nat} {Y : Option Addr} {ys : List YD} {yc : Nat} {w w' : World} (h : CmpInv V G Y ys yc w) (hb : Below w.heap.size w w') : CmpInv V G Y ys yc w' :=
  ⟨(hb.cell (p := ⟨V, 1, none⟩) h.2.2.2.1).trans h.1, (hb.cell (p := ⟨G, 0, none⟩) h.2.2.2.2).trans h.2.1, (h.2.2.1.below hb).more hb.size, Nat.lt_of_lt_of_le h.2.2.2.1 hb.size, Nat.lt_of_lt_of_le h.2.2.2.2 hb.size⟩
set_option maxHeartbeats 2000000 in
theorem cmp_any (V G : Nat) (Y : Option Addr) (ys : List YD) (yc i j : Nat) (hi : i < ys.length) (hj : j < ys.length) (w : World) (h : CmpInv V G Y ys yc w) (hm : ys.length ≤ 1000000) :
    Calls Try.prog 68 #[.int .i64 i, .int .i64 j, .pointer (some ⟨G, 0, none⟩), .pointer (some ⟨V, 0, none⟩)] w (Ret (.int .i64 (cmpY ys[i] ys[j])) w) := by
  obtain ⟨hV, hG, hr, hVl, hGl⟩ := h
  obtain ⟨b, off, hA, hb, hc⟩ := hr.row symbolC_len (by decide) hi
  obtain ⟨b', off', hA', hb', hc'⟩ := hr.row symbolC_len (by decide) hj
  have e := hA.symm.trans hA'
  simp only [Option.some.injEq, Addr.mk.injEq, and_true] at e
  obtain ⟨rfl, rfl⟩ := e
  have hi0 := hc 0 _ rfl
  have hj0 := hc' 0 _ rfl
  simp only [Nat.add_zero] at hi0 hj0
  have HGA := hide (fun W (hW : Below w.heap.size w W) => group_any V Y ys yc i hi W ((hW.cell (p := ⟨V, 1, none⟩) hVl).trans hV) ((hr.below hW).more hW.size) hm)
  have HGB := hide (fun W (hW : Below w.heap.size w W) => group_any V Y ys yc j hj W ((hW.cell (p := ⟨V, 1, none⟩) hVl).trans hV) ((hr.below hW).more hW.size) hm)
  have HV := hide (show cmpY ys[i] ys[j] = or2 (cmpN (grp ys[i]) (grp ys[j])) (cmpS ys[i].1 ys[j].1) from rfl)
  subst hA
  clear hc hc' hr hA'
  generalize ys[i] = x at *
  generalize ys[j] = y at *
  generalize grp x = gx at *
  generalize grp y = gy at *
  obtain ⟨xn, xr⟩ := x
  obtain ⟨yn, yr⟩ := y
  simp only at hi0 hj0 HV
  go_enter Try.func68, Try.ntmps68
  go_wp2_with fail
  have HS := hide (fun W (hW : Below w.heap.size w W) => (show W.cell? ⟨G, 0, none⟩ = some (.func (.func 66) #[] #[.pointer (some ⟨V, 0, none⟩)]) ∧ W.cell? ⟨V, 1, none⟩ = some (.slice (some ⟨b, off, none⟩) ys.length yc) ∧ W.cell? ⟨b, off + i * 4, none⟩ = some (.string xn) ∧ W.cell? ⟨b, off + j * 4, none⟩ = some (.string yn) from ⟨(hW.cell (p := ⟨G, 0, none⟩) hGl).trans hG, (hW.cell (p := ⟨V, 1, none⟩) hVl).trans hV, (hW.cell (p := ⟨b, off + i * 4, none⟩) hb).trans hi0, (hW.cell (p := ⟨b, off + j * 4, none⟩) hb).trans hj0⟩))
  clear hi0 hj0 hG hV
  refine Reg.startT (fun W => W.cell? ⟨G, 0, none⟩ = some (.func (.func 66) #[] #[.pointer (some ⟨V, 0, none⟩)]) ∧ W.cell? ⟨V, 1, none⟩ = some (.slice (some ⟨b, off, none⟩) ys.length yc) ∧ W.cell? ⟨b, off + i * 4, none⟩ = some (.string xn) ∧ W.cell? ⟨b, off + j * 4, none⟩ = some (.string yn)) (fun _ => false) (by kernel_rfl) ?_
  have hHeld := HS.out w.drew (Below.drew (Below.refl _ _))
  refine Reg.takeT (i := 0) (v := ?_) rfl (by kernel_rfl) (by kernel_rfl) (by kernel_rfl) (by kernel_rfl) (fun _ _ _ h => h) (Or.inl ⟨by rfl, ?_⟩) (by assumption) ?_
  rotate_left 1
  focus (intro w hSw; (try dsimp only at hSw); go_simp; (try with_reducible rfl))
  try simp only [List.getElem_toArray, List.getElem_cons_succ, List.getElem_cons_zero, Act.put, List.setIfInBounds_toArray, List.set_cons_zero, List.set_cons_succ]
  refine Reg.takeT (i := 1) (v := ?_) rfl (by kernel_rfl) (by kernel_rfl) (by kernel_rfl) (by kernel_rfl) (fun _ _ _ h => h) (Or.inl ⟨by rfl, ?_⟩) (by assumption) ?_
  rotate_left 1
  focus (intro w hSw; (try dsimp only at hSw); go_simp; (try with_reducible rfl))
  try simp only [List.getElem_toArray, List.getElem_cons_succ, List.getElem_cons_zero, Act.put, List.setIfInBounds_toArray, List.set_cons_zero, List.set_cons_succ]
  refine Reg.takeT (i := 3) (v := ?_) rfl (by kernel_rfl) (by kernel_rfl) (by kernel_rfl) (by kernel_rfl) (fun _ _ _ h => h) (Or.inl ⟨by rfl, ?_⟩) (by assumption) ?_
  rotate_left 1
  focus (intro w hSw; (try dsimp only at hSw); go_simp; (try with_reducible rfl))
  try simp only [List.getElem_toArray, List.getElem_cons_succ, List.getElem_cons_zero, Act.put, List.setIfInBounds_toArray, List.set_cons_zero, List.set_cons_succ]
  refine Reg.takeT (i := 4) (v := ?_) rfl (by kernel_rfl) (by kernel_rfl) (by kernel_rfl) (by kernel_rfl) (fun _ _ _ h => h) (Or.inl ⟨by rfl, ?_⟩) (by assumption) ?_
  rotate_left 1
  focus (intro w hSw; (try dsimp only at hSw); go_simp; (try with_reducible rfl))
  try simp only [List.getElem_toArray, List.getElem_cons_succ, List.getElem_cons_zero, Act.put, List.setIfInBounds_toArray, List.set_cons_zero, List.set_cons_succ]
  refine Reg.takeT (i := 7) (v := ?_) rfl (by kernel_rfl) (by kernel_rfl) (by kernel_rfl) (by kernel_rfl) (fun _ _ _ h => h) (Or.inl ⟨by rfl, ?_⟩) (by assumption) ?_
  rotate_left 1
  focus (intro w hSw; (try dsimp only at hSw); go_simp; (try with_reducible rfl))
  try simp only [List.getElem_toArray, List.getElem_cons_succ, List.getElem_cons_zero, Act.put, List.setIfInBounds_toArray, List.set_cons_zero, List.set_cons_succ]
  refine Reg.takeT (i := 8) (v := ?_) rfl (by kernel_rfl) (by kernel_rfl) (by kernel_rfl) (by kernel_rfl) (fun _ _ _ h => h) (Or.inl ⟨by rfl, ?_⟩) (by assumption) ?_
  rotate_left 1
  focus (intro w hSw; (try dsimp only at hSw); go_simp; (try with_reducible rfl))
  try simp only [List.getElem_toArray, List.getElem_cons_succ, List.getElem_cons_zero, Act.put, List.setIfInBounds_toArray, List.set_cons_zero, List.set_cons_succ]
  refine Reg.takeT (i := 9) (v := ?_) rfl (by kernel_rfl) (by kernel_rfl) (by kernel_rfl) (by kernel_rfl) (fun _ _ _ h => h) (Or.inl ⟨by rfl, ?_⟩) (by assumption) ?_
  rotate_left 1
  focus (intro w hSw; (try dsimp only at hSw); go_simp; (try with_reducible rfl))
  try simp only [List.getElem_toArray, List.getElem_cons_succ, List.getElem_cons_zero, Act.put, List.setIfInBounds_toArray, List.set_cons_zero, List.set_cons_succ]
  refine Reg.takeT (i := 10) (v := ?_) rfl (by kernel_rfl) (by kernel_rfl) (by kernel_rfl) (by kernel_rfl) (fun _ _ _ h => h) (Or.inl ⟨by rfl, ?_⟩) (by assumption) ?_
  rotate_left 1
  focus (intro w hSw; (try dsimp only at hSw); go_simp; (try with_reducible rfl))
  try simp only [List.getElem_toArray, List.getElem_cons_succ, List.getElem_cons_zero, Act.put, List.setIfInBounds_toArray, List.set_cons_zero, List.set_cons_succ]
  refine Reg.takeT (i := 11) (v := ?_) rfl (by kernel_rfl) (by kernel_rfl) (by kernel_rfl) (by kernel_rfl) (fun _ _ _ h => h) (Or.inl ⟨by rfl, ?_⟩) (by assumption) ?_
  rotate_left 1
  focus (intro w hSw; (try dsimp only at hSw); go_simp; (try with_reducible rfl))
  try simp only [List.getElem_toArray, List.getElem_cons_succ, List.getElem_cons_zero, Act.put, List.setIfInBounds_toArray, List.set_cons_zero, List.set_cons_succ]
  refine Reg.takeT (i := 12) (v := ?_) rfl (by kernel_rfl) (by kernel_rfl) (by kernel_rfl) (by kernel_rfl) (fun _ _ _ h => h) (Or.inl ⟨by rfl, ?_⟩) (by assumption) ?_
  rotate_left 1
  focus (intro w hSw; (try dsimp only at hSw); go_simp; (try with_reducible rfl))
  try simp only [List.getElem_toArray, List.getElem_cons_succ, List.getElem_cons_zero, Act.put, List.setIfInBounds_toArray, List.set_cons_zero, List.set_cons_succ]
  refine Reg.takeT (i := 13) (v := ?_) rfl (by kernel_rfl) (by kernel_rfl) (by kernel_rfl) (by kernel_rfl) (fun _ _ _ h => h) (Or.inl ⟨by rfl, ?_⟩) (by assumption) ?_
  rotate_left 1
  focus (intro w hSw; (try dsimp only at hSw); go_simp; (try with_reducible rfl))
  try simp only [List.getElem_toArray, List.getElem_cons_succ, List.getElem_cons_zero, Act.put, List.setIfInBounds_toArray, List.set_cons_zero, List.set_cons_succ]
  refine Reg.takeT (i := 14) (v := ?_) rfl (by kernel_rfl) (by kernel_rfl) (by kernel_rfl) (by kernel_rfl) (fun _ _ _ h => h) (Or.inl ⟨by rfl, ?_⟩) (by assumption) ?_
  rotate_left 1
  focus (intro w hSw; (try dsimp only at hSw); go_simp; (try with_reducible rfl))
  try simp only [List.getElem_toArray, List.getElem_cons_succ, List.getElem_cons_zero, Act.put, List.setIfInBounds_toArray, List.set_cons_zero, List.set_cons_succ]
  refine Reg.takeT (i := 15) (v := ?_) rfl (by kernel_rfl) (by kernel_rfl) (by kernel_rfl) (by kernel_rfl) (fun _ _ _ h => h) (Or.inl ⟨by rfl, ?_⟩) (by assumption) ?_
  rotate_left 1
  focus (intro w hSw; (try dsimp only at hSw); go_simp; (try with_reducible rfl))
  try simp only [List.getElem_toArray, List.getElem_cons_succ, List.getElem_cons_zero, Act.put, List.setIfInBounds_toArray, List.set_cons_zero, List.set_cons_succ]
  refine Reg.takeT (i := 16) (v := ?_) rfl (by kernel_rfl) (by kernel_rfl) (by kernel_rfl) (by kernel_rfl) (fun _ _ _ h => h) (Or.inl ⟨by rfl, ?_⟩) (by assumption) ?_
  rotate_left 1
  focus (intro w hSw; (try dsimp only at hSw); go_simp; (try with_reducible rfl))
  try simp only [List.getElem_toArray, List.getElem_cons_succ, List.getElem_cons_zero, Act.put, List.setIfInBounds_toArray, List.set_cons_zero, List.set_cons_succ]
  refine Reg.takeT (i := 17) (v := ?_) rfl (by kernel_rfl) (by kernel_rfl) (by kernel_rfl) (by kernel_rfl) (fun _ _ _ h => h) (Or.inl ⟨by rfl, ?_⟩) (by assumption) ?_
  rotate_left 1
  focus (intro w hSw; (try dsimp only at hSw); go_simp; (try with_reducible rfl))
  try simp only [List.getElem_toArray, List.getElem_cons_succ, List.getElem_cons_zero, Act.put, List.setIfInBounds_toArray, List.set_cons_zero, List.set_cons_succ]
  refine Reg.takeT (i := 18) (v := ?_) rfl (by kernel_rfl) (by kernel_rfl) (by kernel_rfl) (by kernel_rfl) (fun _ _ _ h => h) (Or.inl ⟨by rfl, ?_⟩) (by assumption) ?_
  rotate_left 1
  focus (intro w hSw; (try dsimp only at hSw); go_simp; (try with_reducible rfl))
  try simp only [List.getElem_toArray, List.getElem_cons_succ, List.getElem_cons_zero, Act.put, List.setIfInBounds_toArray, List.set_cons_zero, List.set_cons_succ]
  refine Reg.oneT (i := 2) rfl (by kernel_rfl) (fun K hK => ?_)
  go_simp
  refine (HGA.out w.drew (Below.drew (Below.refl _ _))).mono ?_
  rintro e w1 ⟨rfl, rfl⟩
  refine hK.out _ _ hHeld ?_
  clear hK K
  try simp only [List.getElem_toArray, List.getElem_cons_succ, List.getElem_cons_zero, Act.put, List.setIfInBounds_toArray, List.set_cons_zero, List.set_cons_succ]
  refine Reg.oneT (i := 5) rfl (by kernel_rfl) (fun K hK => ?_)
  go_simp
  refine (HGB.out w.drew (Below.drew (Below.refl _ _))).mono ?_
  rintro e w1 ⟨rfl, rfl⟩
  refine hK.out _ _ hHeld ?_
  clear hK K
  try simp only [List.getElem_toArray, List.getElem_cons_succ, List.getElem_cons_zero, Act.put, List.setIfInBounds_toArray, List.set_cons_zero, List.set_cons_succ]
  refine Reg.oneT (i := 6) rfl (by kernel_rfl) (fun K hK => ?_)
  go_simp
  refine (compareI_any gx gy w.drew).mono ?_
  rintro e w1 ⟨rfl, rfl⟩
  refine hK.out _ _ hHeld ?_
  clear hK K
  try simp only [List.getElem_toArray, List.getElem_cons_succ, List.getElem_cons_zero, Act.put, List.setIfInBounds_toArray, List.set_cons_zero, List.set_cons_succ]
  refine Reg.oneT (i := 19) rfl (by kernel_rfl) (fun K hK => ?_)
  go_simp
  refine (compareS_any xn yn w.drew).mono ?_
  rintro e w1 ⟨rfl, rfl⟩
  refine hK.out _ _ hHeld ?_
  clear hK K
  try simp only [List.getElem_toArray, List.getElem_cons_succ, List.getElem_cons_zero, Act.put, List.setIfInBounds_toArray, List.set_cons_zero, List.set_cons_succ]
  generalize cmpN gx gy = ci at *
  generalize cmpS xn yn = cs at *
  refine Reg.oneT (i := 20) rfl (by kernel_rfl) (fun K hK => ?_)
  go_simp
  have B2 : Below w.heap.size w (w.alloc (.cells #[.int .i64 ci, .int .i64 cs] 3)).drew := (by repeat (first | exact Below.refl _ _ | with_reducible assumption | (refine Below.drew ?_) | (refine Below.drewN ?_ _) | (refine Below.alloc ?_ (by simp; try omega) _) | (refine Below.setCell ?_ (by simp; try omega) _)))
  have X2 := (Box.new w 3 #[.int .i64 ci, .int .i64 cs]).drew
  have hHeld := HS.out _ B2
  refine hK.out _ _ hHeld ?_
  clear hK K
  try simp only [List.getElem_toArray, List.getElem_cons_succ, List.getElem_cons_zero, Act.put, List.setIfInBounds_toArray, List.set_cons_zero, List.set_cons_succ]
  have HB2 := hide B2
  have HO := hide (or_any w.heap.size 0 2 ci cs _ (X2.cell 0) (X2.cell 1))
  clear B2 X2
  refine Reg.oneT (i := 21) rfl (by kernel_rfl) (fun K hK => ?_)
  go_simp
  refine HO.out.mono ?_
  rintro e w1 ⟨rfl, rfl⟩
  refine hK.out _ _ hHeld ?_
  clear hK K
  try simp only [List.getElem_toArray, List.getElem_cons_succ, List.getElem_cons_zero, Act.put, List.setIfInBounds_toArray, List.set_cons_zero, List.set_cons_succ]
  refine Reg.takeT (i := 22) (v := ?_) rfl (by kernel_rfl) (by kernel_rfl) (by kernel_rfl) (by kernel_rfl) (fun _ _ _ h => h) (Or.inl ⟨by rfl, ?_⟩) (by assumption) ?_
  rotate_left 1
  focus (intro w hSw; (try dsimp only at hSw); go_simp; (try with_reducible rfl))
  try simp only [List.getElem_toArray, List.getElem_cons_succ, List.getElem_cons_zero, Act.put, List.setIfInBounds_toArray, List.set_cons_zero, List.set_cons_succ]
  refine Reg.doneT (by kernel_rfl) ?_ _
  clear hHeld HS
  go_wp2_with fail
  go_ret
  exact ⟨by rw [HV.out]; rfl, HB2.out⟩
end Go.Proofs.Ytmglgjchemecjaa.CCmpY
/- The library's stable sort of at most 19 numbers that stand in order: the insertion sort, at whatever comparer. -/
namespace Go.Proofs.Ytmglgjchemecjaa.CIns
set_option maxRecDepth 200000
open Go.ChangeShapes Go.WideShapes Go.ChangeAt Go.RowKit Kit CFixups CSymbols PObj BObj PSort CCmp
/-- The row of numbers, sorted so far. -/
def RowI (w : World) (base g n c : Nat) (L : List Nat) : Prop := w.ownsRow base 3 1 (.slice (some ⟨g, 0, none⟩) n c) n (ints .i64 (toI L))
section
variable {w w' : World} {base g n c : Nat} {L : List Nat}
theorem RowI.len (h : RowI w base g n c L) : L.length = n := by
  have := h.1
  simpa using this
theorem RowI.put (h : RowI w base g n c L) (j x : Nat) : RowI (w.setCell ⟨g, j, none⟩ (.int .i64 x)) base g n c (L.set j x) := by
  have e : toI (L.set j x) = (toI L).set j (x : Int) := by simp [toI, List.map_set]
  unfold RowI
  rw [e, ← setInts]
  exact (World.ownsRow.stored h j _).1
theorem RowI.call (h : RowI w base g n c L) (hb : Below w.heap.size w w') : RowI w' base g n c L := own_call hb h
theorem RowI.cell (h : RowI w base g n c L) {j : Nat} (hj : j < n) : w.cell? ⟨g, j, none⟩ = some (.int .i64 (L.getD j 0 : Nat)) := by
  have hl := h.len
  have h1 := World.ownsRow.cellAt h j (by omega)
  rw [h1]
  simp [toI, List.getD_eq_getElem?_getD, List.getElem?_eq_getElem (show j < L.length by omega)]
theorem RowI.frozen (h : RowI w base g n c L) (j : Nat) : w.frozen? ⟨g, j, none⟩ = false := World.ownsRow.frozenAt h j
theorem RowI.lt (h : RowI w base g n c L) : base ≤ g ∧ g < w.heap.size := World.ownsRow.lt h g rfl
end
section
variable {w : World} {base n c : Nat} {A : Option Addr} {L : List Nat}
end
/-- What a sort leaves. -/
def Sorted (w : World) (base g n c : Nat) (L : List Nat) (e : Ending) (w' : World) : Prop := e = .returned (.tuple #[]) ∧ RowI w' base g n c L ∧ w.grownBy w' (some g)
set_option maxHeartbeats 2000000 in
theorem insertion_any (F : FuncId) (X : Array Value) (hF : ∀ zs W, (callFunc F zs).run Try.prog W = .ok (.enter F zs) W) (cv : Nat → Nat → Int) (base g n c : Nat) (w : World) (hrow : RowI w base g n c (List.range n)) (hn : n ≤ 100) (hn0 : 0 < n)
    (HC : ∀ W, w.grownBy W (some g) → ∀ i j, i < n → j < n → Calls Try.prog F (#[.int .i64 i, .int .i64 j] ++ X) W (Ret (.int .i64 (cv i j)) W)) (hbd : ∀ i j, -1 ≤ cv i j ∧ cv i j ≤ 1) :
    Calls Try.prog 172 #[.slice (some ⟨g, 0, none⟩) n c, .int .i64 0, .int .i64 n, .func (.func F) #[] X] w
      (Sorted w base g n c (ord (fun i j => decide (cv i j < 0)) n)) := by
  have HROW := hide (And.intro hrow (grown_refl w (some g)))
  have HCC := hide HC
  have HBD := hide hbd
  have HFF := hide hF
  clear HC hrow hbd hF
  have HST := hide (show ord (fun i j => decide (cv i j < 0)) 1 ++ (List.range n).drop 1 = List.range n by
    obtain ⟨m, rfl⟩ : ∃ m, n = m + 1 := ⟨n - 1, by omega⟩
    rw [List.range_succ_eq_map]
    rfl)
  have HEND := hide (fun (k : Nat) (hk : ¬ k < n) (hk' : k ≤ n) => (show ord (fun i j => decide (cv i j < 0)) k ++ (List.range n).drop k = ord (fun i j => decide (cv i j < 0)) n by
    have : k = n := by omega
    subst this
    rw [List.drop_of_length_le (by simp), List.append_nil]))
  have HSTEP := hide (fun (k : Nat) (hk : k < n) => (show (List.range n).drop k = k :: (List.range n).drop (k + 1) by
    rw [List.drop_eq_getElem_cons (by simpa using hk)]
    simp))
  have HLN := hide (fun k => (show (ord (fun i j => decide (cv i j < 0)) k).length = k from ord_len _ k))
  have HLT := hide (fun k x (h : x ∈ ord (fun i j => decide (cv i j < 0)) k) => (show x < k from ord_lt _ h))
  have HINS := hide (fun k => (show ord (fun i j => decide (cv i j < 0)) (k + 1) = ins (fun i j => decide (cv i j < 0)) (ord (fun i j => decide (cv i j < 0)) k) k from rfl))
  generalize hbf : (fun i j => decide (cv i j < 0)) = bf at *
  have HBF := hide hbf
  clear hbf
  go_enter Try.func172, Try.ntmps172
  go_wp2_with fail
  go_loopw [8] (fun i wi => ∃ (k : Nat), 1 ≤ k ∧ k ≤ n ∧ i = .int .i64 k ∧ RowI wi base g n c (ord bf k ++ (List.range n).drop k) ∧ w.grownBy wi (some g)) (fun i _ => n - (intOf i).toNat)
  case atStart => exact ⟨1, Nat.le_refl _, hn0, rfl, by rw [HST.out]; exact HROW.out.1, HROW.out.2⟩
  case round =>
    clear HROW
    obtain ⟨k, hk1, hk, rfl, hr, hg⟩ := hrel
    by_cases hlt : k < n
    · rw [HSTEP.out k hlt] at hr
      have HR := hide hr
      have HG := hide hg
      have HL := hide (HLN.out k)
      have HLL := hide (HLT.out k)
      have HIN := hide (HINS.out k)
      clear hr hg
      generalize ord bf k = L at *
      generalize hrest : (List.range n).drop (k + 1) = rest at *
      have HREST := hide hrest
      clear hrest
      go_wp2_with fail
      go_loopw [9] (fun i wi => ∃ (j : Nat), j ≤ k ∧ i = .int .i64 j ∧ pos bf L k L.length = pos bf L k j ∧ RowI wi base g n c (L.take j ++ k :: L.drop j ++ rest) ∧ w.grownBy wi (some g)) (fun i _ => (intOf i).toNat)
      case atStart =>
        refine ⟨k, Nat.le_refl _, rfl, by rw [HL.out], ?_, HG.out⟩
        rw [List.take_of_length_le (by rw [HL.out]; exact Nat.le_refl _), List.drop_of_length_le (by rw [HL.out]; exact Nat.le_refl _), List.append_assoc]
        exact HR.out
      case round =>
        clear HR HG
        obtain ⟨j, hj, rfl, hpos, hr, hg⟩ := hrel
        have HR := hide hr
        have HG := hide hg
        have HPOS := hide hpos
        cases j with
        | zero =>
          have HF := hide (show ord bf (k + 1) = L.take 0 ++ k :: L.drop 0 by rw [HIN.out, ins, hpos]; rfl)
          clear hr hg hpos
          have e0 : decide ((0 : Int) < 0) = false := rfl
          go_wp2_with fail
          refine Reg.startT (fun _ => True) (fun _ => false) (by kernel_rfl) ?_
          have hHeld : True := trivial
          refine Reg.takeT (i := 0) (v := ?_) rfl (by kernel_rfl) (by kernel_rfl) (by kernel_rfl) (by kernel_rfl) (fun _ _ _ h => h) (Or.inl ⟨by rfl, ?_⟩) (by assumption) ?_
          rotate_left 1
          focus (intro w hSw; (try dsimp only at hSw); go_simp; (try with_reducible rfl))
          try simp only [List.getElem_toArray, List.getElem_cons_succ, List.getElem_cons_zero, Act.put, List.setIfInBounds_toArray, List.set_cons_zero, List.set_cons_succ]
          refine Reg.takeT (i := 1) (v := ?_) rfl (by kernel_rfl) (by kernel_rfl) (by kernel_rfl) (by kernel_rfl) (fun _ _ _ h => h) (Or.inl ⟨by rfl, ?_⟩) (by assumption) ?_
          rotate_left 1
          focus (intro w hSw; (try dsimp only at hSw); go_simp; (try with_reducible rfl))
          try simp only [List.getElem_toArray, List.getElem_cons_succ, List.getElem_cons_zero, Act.put, List.setIfInBounds_toArray, List.set_cons_zero, List.set_cons_succ]
          refine Reg.takeT (i := 2) (v := ?_) rfl (by kernel_rfl) (by kernel_rfl) (by kernel_rfl) (by kernel_rfl) (fun _ _ _ h => h) (Or.inl ⟨by rfl, ?_⟩) (by assumption) ?_
          rotate_left 1
          focus (intro w hSw; (try dsimp only at hSw); go_simp; (try with_reducible rfl))
          try simp only [List.getElem_toArray, List.getElem_cons_succ, List.getElem_cons_zero, Act.put, List.setIfInBounds_toArray, List.set_cons_zero, List.set_cons_succ]
          refine Reg.takeT (i := 3) (v := ?_) rfl (by kernel_rfl) (by kernel_rfl) (by kernel_rfl) (by kernel_rfl) (fun _ _ _ h => h) (Or.inl ⟨by rfl, ?_⟩) (by assumption) ?_
          rotate_left 1
          focus (intro w hSw; (try dsimp only at hSw); go_simp; (try with_reducible rfl))
          try simp only [List.getElem_toArray, List.getElem_cons_succ, List.getElem_cons_zero, Act.put, List.setIfInBounds_toArray, List.set_cons_zero, List.set_cons_succ]
          refine Reg.takeT (i := 4) (v := undef) rfl (by kernel_rfl) (by kernel_rfl) (by kernel_rfl) (by kernel_rfl) (fun _ _ _ h => h) (Or.inr ⟨by rfl, rfl⟩) (by assumption) ?_
          try simp only [List.getElem_toArray, List.getElem_cons_succ, List.getElem_cons_zero, Act.put, List.setIfInBounds_toArray, List.set_cons_zero, List.set_cons_succ]
          refine Reg.takeT (i := 5) (v := undef) rfl (by kernel_rfl) (by kernel_rfl) (by kernel_rfl) (by kernel_rfl) (fun _ _ _ h => h) (Or.inr ⟨by rfl, rfl⟩) (by assumption) ?_
          try simp only [List.getElem_toArray, List.getElem_cons_succ, List.getElem_cons_zero, Act.put, List.setIfInBounds_toArray, List.set_cons_zero, List.set_cons_succ]
          refine Reg.takeT (i := 6) (v := undef) rfl (by kernel_rfl) (by kernel_rfl) (by kernel_rfl) (by kernel_rfl) (fun _ _ _ h => h) (Or.inr ⟨by rfl, rfl⟩) (by assumption) ?_
          try simp only [List.getElem_toArray, List.getElem_cons_succ, List.getElem_cons_zero, Act.put, List.setIfInBounds_toArray, List.set_cons_zero, List.set_cons_succ]
          refine Reg.takeT (i := 7) (v := undef) rfl (by kernel_rfl) (by kernel_rfl) (by kernel_rfl) (by kernel_rfl) (fun _ _ _ h => h) (Or.inr ⟨by rfl, rfl⟩) (by assumption) ?_
          try simp only [List.getElem_toArray, List.getElem_cons_succ, List.getElem_cons_zero, Act.put, List.setIfInBounds_toArray, List.set_cons_zero, List.set_cons_succ]
          refine Reg.takeT (i := 8) (v := undef) rfl (by kernel_rfl) (by kernel_rfl) (by kernel_rfl) (by kernel_rfl) (fun _ _ _ h => h) (Or.inr ⟨by rfl, rfl⟩) (by assumption) ?_
          try simp only [List.getElem_toArray, List.getElem_cons_succ, List.getElem_cons_zero, Act.put, List.setIfInBounds_toArray, List.set_cons_zero, List.set_cons_succ]
          refine Reg.takeT (i := 9) (v := undef) rfl (by kernel_rfl) (by kernel_rfl) (by kernel_rfl) (by kernel_rfl) (fun _ _ _ h => h) (Or.inr ⟨by rfl, rfl⟩) (by assumption) ?_
          try simp only [List.getElem_toArray, List.getElem_cons_succ, List.getElem_cons_zero, Act.put, List.setIfInBounds_toArray, List.set_cons_zero, List.set_cons_succ]
          refine Reg.takeT (i := 10) (v := undef) rfl (by kernel_rfl) (by kernel_rfl) (by kernel_rfl) (by kernel_rfl) (fun _ _ _ h => h) (Or.inr ⟨by rfl, rfl⟩) (by assumption) ?_
          try simp only [List.getElem_toArray, List.getElem_cons_succ, List.getElem_cons_zero, Act.put, List.setIfInBounds_toArray, List.set_cons_zero, List.set_cons_succ]
          refine Reg.takeT (i := 11) (v := undef) rfl (by kernel_rfl) (by kernel_rfl) (by kernel_rfl) (by kernel_rfl) (fun _ _ _ h => h) (Or.inr ⟨by rfl, rfl⟩) (by assumption) ?_
          try simp only [List.getElem_toArray, List.getElem_cons_succ, List.getElem_cons_zero, Act.put, List.setIfInBounds_toArray, List.set_cons_zero, List.set_cons_succ]
          refine Reg.takeT (i := 12) (v := undef) rfl (by kernel_rfl) (by kernel_rfl) (by kernel_rfl) (by kernel_rfl) (fun _ _ _ h => h) (Or.inr ⟨by rfl, rfl⟩) (by assumption) ?_
          try simp only [List.getElem_toArray, List.getElem_cons_succ, List.getElem_cons_zero, Act.put, List.setIfInBounds_toArray, List.set_cons_zero, List.set_cons_succ]
          refine Reg.takeT (i := 13) (v := undef) rfl (by kernel_rfl) (by kernel_rfl) (by kernel_rfl) (by kernel_rfl) (fun _ _ _ h => h) (Or.inr ⟨by rfl, rfl⟩) (by assumption) ?_
          try simp only [List.getElem_toArray, List.getElem_cons_succ, List.getElem_cons_zero, Act.put, List.setIfInBounds_toArray, List.set_cons_zero, List.set_cons_succ]
          refine Reg.takeT (i := 14) (v := undef) rfl (by kernel_rfl) (by kernel_rfl) (by kernel_rfl) (by kernel_rfl) (fun _ _ _ h => h) (Or.inr ⟨by rfl, rfl⟩) (by assumption) ?_
          try simp only [List.getElem_toArray, List.getElem_cons_succ, List.getElem_cons_zero, Act.put, List.setIfInBounds_toArray, List.set_cons_zero, List.set_cons_succ]
          refine Reg.takeT (i := 15) (v := undef) rfl (by kernel_rfl) (by kernel_rfl) (by kernel_rfl) (by kernel_rfl) (fun _ _ _ h => h) (Or.inr ⟨by rfl, rfl⟩) (by assumption) ?_
          try simp only [List.getElem_toArray, List.getElem_cons_succ, List.getElem_cons_zero, Act.put, List.setIfInBounds_toArray, List.set_cons_zero, List.set_cons_succ]
          refine Reg.takeT (i := 16) (v := ?_) rfl (by kernel_rfl) (by kernel_rfl) (by kernel_rfl) (by kernel_rfl) (fun _ _ _ h => h) (Or.inl ⟨by rfl, ?_⟩) (by assumption) ?_
          rotate_left 1
          focus (intro w hSw; (try dsimp only at hSw); go_simp; (try with_reducible rfl))
          try simp only [List.getElem_toArray, List.getElem_cons_succ, List.getElem_cons_zero, Act.put, List.setIfInBounds_toArray, List.set_cons_zero, List.set_cons_succ]
          refine Reg.doneT (by kernel_rfl) ?_ _
          go_wp2_with fail
          refine ⟨⟨k + 1, by omega, by omega, by go_num, by rw [HF.out, HREST.out]; exact HR.out.call (below_dr (Below.refl _ _)), grown_drew HG.out⟩, by simp [intOf]; omega⟩
        | succ j =>
          have hjl : j < L.length := by rw [HL.out]; omega
          have c1 := hr.cell (j := j + 1) (by omega)
          have c0 := hr.cell (j := j) (by omega)
          rw [row_x L k (j + 1) rest (by omega)] at c1
          rw [row_p L k j rest hjl] at c0
          have hpl : L.getD j 0 < n := by
            have := HLL.out (L.getD j 0) (by rw [List.getD_eq_getElem?_getD, List.getElem?_eq_getElem hjl]; exact List.getElem_mem hjl)
            omega
          have hbdj := HBD.out k (L.getD j 0)
          have HCALL := hide (fun V (hV : w.grownBy V (some g)) => HCC.out V hV k (L.getD j 0) hlt hpl)
          have HSW := hide (swap_row L k j rest hjl)
          have HP2 := hide (show pos bf L k (j + 1) = if bf k (L.getD j 0) = true then pos bf L k j else j + 1 from rfl)
          have f1 := hr.frozen (j + 1)
          have f0 := hr.frozen j
          have hgl := hr.lt.2
          have HBB := hide (show bf k (L.getD j 0) = decide (cv k (L.getD j 0) < 0) by rw [← HBF.out])
          generalize L.getD j 0 = p at *
          generalize cv k p = cvp at *
          clear hr hg hpos hjl
          have Z0 : wr.cell? ⟨g, j + 1, none⟩ = some (.int .i64 k) ∧ wr.cell? ⟨g, j, none⟩ = some (.int .i64 p) := ⟨c1, c0⟩
          clear c1 c0
          generalize hm : j + 1 = m at *
          have HM := hide hm
          have hm0 : 0 < m := by omega
          have hw1 : IntKind.i64.wrap ((m : Int) - 1) = (m : Int) - 1 := IntWalk.i64_in _ (by omega)
          have ht1 : ((m : Int) - 1).toNat = j := by omega
          have hq1 : (0 : Int) ≤ (m : Int) - 1 := by omega
          have hq2 : (1 : Int) ≤ (m : Int) := by omega
          have hq3 : 1 ≤ m := by omega
          have hjn : j < n := by omega
          have hq4 : (m : Int) - 1 < n := by omega
          have hmn : m < n := by omega
          clear hm
          cases hb : decide (cvp < 0)
          · have HP3 := hide (show pos bf L k m = m by rw [HP2.out, HBB.out, hb]; rfl)
            clear HP2 HBB
            go_wp2_with fail
            refine Reg.startT (fun W => W.cell? ⟨g, m, none⟩ = some (.int .i64 k) ∧ W.cell? ⟨g, j, none⟩ = some (.int .i64 p)) (fun _ => false) (by kernel_rfl) ?_
            have hHeld : wr.drew.cell? ⟨g, m, none⟩ = some (.int .i64 k) ∧ wr.drew.cell? ⟨g, j, none⟩ = some (.int .i64 p) := Z0
            refine Reg.takeT (i := 0) (v := ?_) rfl (by kernel_rfl) (by kernel_rfl) (by kernel_rfl) (by kernel_rfl) (fun _ _ _ h => h) (Or.inl ⟨by rfl, ?_⟩) (by assumption) ?_
            rotate_left 1
            focus (intro w hSw; (try dsimp only at hSw); go_simp; (try with_reducible rfl))
            try simp only [List.getElem_toArray, List.getElem_cons_succ, List.getElem_cons_zero, Act.put, List.setIfInBounds_toArray, List.set_cons_zero, List.set_cons_succ]
            refine Reg.takeT (i := 1) (v := ?_) rfl (by kernel_rfl) (by kernel_rfl) (by kernel_rfl) (by kernel_rfl) (fun _ _ _ h => h) (Or.inl ⟨by rfl, ?_⟩) (by assumption) ?_
            rotate_left 1
            focus (intro w hSw; (try dsimp only at hSw); go_simp; (try with_reducible rfl))
            try simp only [List.getElem_toArray, List.getElem_cons_succ, List.getElem_cons_zero, Act.put, List.setIfInBounds_toArray, List.set_cons_zero, List.set_cons_succ]
            refine Reg.takeT (i := 2) (v := ?_) rfl (by kernel_rfl) (by kernel_rfl) (by kernel_rfl) (by kernel_rfl) (fun _ _ _ h => h) (Or.inl ⟨by rfl, ?_⟩) (by assumption) ?_
            rotate_left 1
            focus (intro w hSw; (try dsimp only at hSw); go_simp; (try with_reducible rfl))
            try simp only [List.getElem_toArray, List.getElem_cons_succ, List.getElem_cons_zero, Act.put, List.setIfInBounds_toArray, List.set_cons_zero, List.set_cons_succ]
            refine Reg.takeT (i := 3) (v := ?_) rfl (by kernel_rfl) (by kernel_rfl) (by kernel_rfl) (by kernel_rfl) (fun _ _ _ h => h) (Or.inl ⟨by rfl, ?_⟩) (by assumption) ?_
            rotate_left 1
            focus (intro w hSw; (try dsimp only at hSw); go_simp; (try with_reducible rfl))
            try simp only [List.getElem_toArray, List.getElem_cons_succ, List.getElem_cons_zero, Act.put, List.setIfInBounds_toArray, List.set_cons_zero, List.set_cons_succ]
            refine Reg.takeT (i := 4) (v := ?_) rfl (by kernel_rfl) (by kernel_rfl) (by kernel_rfl) (by kernel_rfl) (fun _ _ _ h => h) (Or.inl ⟨by rfl, ?_⟩) (by assumption) ?_
            rotate_left 1
            focus (intro w hSw; (try dsimp only at hSw); go_simp; (try with_reducible rfl))
            try simp only [List.getElem_toArray, List.getElem_cons_succ, List.getElem_cons_zero, Act.put, List.setIfInBounds_toArray, List.set_cons_zero, List.set_cons_succ]
            refine Reg.takeT (i := 5) (v := ?_) rfl (by kernel_rfl) (by kernel_rfl) (by kernel_rfl) (by kernel_rfl) (fun _ _ _ h => h) (Or.inl ⟨by rfl, ?_⟩) (by assumption) ?_
            rotate_left 1
            focus (intro w hSw; (try dsimp only at hSw); go_simp; (try with_reducible rfl))
            try simp only [List.getElem_toArray, List.getElem_cons_succ, List.getElem_cons_zero, Act.put, List.setIfInBounds_toArray, List.set_cons_zero, List.set_cons_succ]
            refine Reg.takeT (i := 6) (v := ?_) rfl (by kernel_rfl) (by kernel_rfl) (by kernel_rfl) (by kernel_rfl) (fun _ _ _ h => h) (Or.inl ⟨by rfl, ?_⟩) (by assumption) ?_
            rotate_left 1
            focus (intro w hSw; (try dsimp only at hSw); go_simp; (try with_reducible rfl))
            try simp only [List.getElem_toArray, List.getElem_cons_succ, List.getElem_cons_zero, Act.put, List.setIfInBounds_toArray, List.set_cons_zero, List.set_cons_succ]
            refine Reg.takeT (i := 7) (v := ?_) rfl (by kernel_rfl) (by kernel_rfl) (by kernel_rfl) (by kernel_rfl) (fun _ _ _ h => h) (Or.inl ⟨by rfl, ?_⟩) (by assumption) ?_
            rotate_left 1
            focus (intro w hSw; (try dsimp only at hSw); go_simp; (try with_reducible rfl))
            try simp only [List.getElem_toArray, List.getElem_cons_succ, List.getElem_cons_zero, Act.put, List.setIfInBounds_toArray, List.set_cons_zero, List.set_cons_succ]
            refine Reg.takeT (i := 8) (v := ?_) rfl (by kernel_rfl) (by kernel_rfl) (by kernel_rfl) (by kernel_rfl) (fun _ _ _ h => h) (Or.inl ⟨by rfl, ?_⟩) (by assumption) ?_
            rotate_left 1
            focus (intro w hSw; (try dsimp only at hSw); go_simp; (try with_reducible rfl))
            try simp only [List.getElem_toArray, List.getElem_cons_succ, List.getElem_cons_zero, Act.put, List.setIfInBounds_toArray, List.set_cons_zero, List.set_cons_succ]
            refine Reg.takeT (i := 9) (v := ?_) rfl (by kernel_rfl) (by kernel_rfl) (by kernel_rfl) (by kernel_rfl) (fun _ _ _ h => h) (Or.inl ⟨by rfl, ?_⟩) (by assumption) ?_
            rotate_left 1
            focus (intro w hSw; (try dsimp only at hSw); go_simp; (try with_reducible rfl))
            try simp only [List.getElem_toArray, List.getElem_cons_succ, List.getElem_cons_zero, Act.put, List.setIfInBounds_toArray, List.set_cons_zero, List.set_cons_succ]
            refine Reg.takeT (i := 10) (v := ?_) rfl (by kernel_rfl) (by kernel_rfl) (by kernel_rfl) (by kernel_rfl) (fun _ _ _ h => h) (Or.inl ⟨by rfl, ?_⟩) (by assumption) ?_
            rotate_left 1
            focus (intro w hSw; (try dsimp only at hSw); go_simp; (try with_reducible rfl))
            try simp only [List.getElem_toArray, List.getElem_cons_succ, List.getElem_cons_zero, Act.put, List.setIfInBounds_toArray, List.set_cons_zero, List.set_cons_succ]
            refine Reg.takeT (i := 11) (v := ?_) rfl (by kernel_rfl) (by kernel_rfl) (by kernel_rfl) (by kernel_rfl) (fun _ _ _ h => h) (Or.inl ⟨by rfl, ?_⟩) (by assumption) ?_
            rotate_left 1
            focus (intro w hSw; (try dsimp only at hSw); go_simp; (try with_reducible rfl))
            try simp only [List.getElem_toArray, List.getElem_cons_succ, List.getElem_cons_zero, Act.put, List.setIfInBounds_toArray, List.set_cons_zero, List.set_cons_succ]
            refine Reg.takeT (i := 12) (v := ?_) rfl (by kernel_rfl) (by kernel_rfl) (by kernel_rfl) (by kernel_rfl) (fun _ _ _ h => h) (Or.inl ⟨by rfl, ?_⟩) (by assumption) ?_
            rotate_left 1
            focus (intro w hSw; (try dsimp only at hSw); go_simp; (try with_reducible rfl))
            try simp only [List.getElem_toArray, List.getElem_cons_succ, List.getElem_cons_zero, Act.put, List.setIfInBounds_toArray, List.set_cons_zero, List.set_cons_succ]
            refine Reg.takeT (i := 13) (v := ?_) rfl (by kernel_rfl) (by kernel_rfl) (by kernel_rfl) (by kernel_rfl) (fun _ _ _ h => h) (Or.inl ⟨by rfl, ?_⟩) (by assumption) ?_
            rotate_left 1
            focus (intro w hSw; (try dsimp only at hSw); go_simp; (try with_reducible rfl))
            try simp only [List.getElem_toArray, List.getElem_cons_succ, List.getElem_cons_zero, Act.put, List.setIfInBounds_toArray, List.set_cons_zero, List.set_cons_succ]
            refine Reg.oneT (i := 14) rfl (by kernel_rfl) (fun K hK => ?_)
            go_simp
            rw [HFF.out, Oper.upon_enter]
            refine (HCALL.out wr.drew (grown_drew HG.out)).mono ?_
            rintro e w2 ⟨rfl, b2⟩
            have b2' : Below wr.heap.size wr w2 := of_drew b2
            have HR2 := hide (HR.out.call b2')
            have HG2 := hide (grown_below HG.out b2')
            have hHeld : w2.cell? ⟨g, m, none⟩ = some (.int .i64 k) ∧ w2.cell? ⟨g, j, none⟩ = some (.int .i64 p) := ⟨(b2'.cell (p := ⟨g, m, none⟩) hgl).trans Z0.1, (b2'.cell (p := ⟨g, j, none⟩) hgl).trans Z0.2⟩
            clear b2 b2' Z0 HR HG
            refine hK.out _ _ hHeld ?_
            clear hK K
            try simp only [List.getElem_toArray, List.getElem_cons_succ, List.getElem_cons_zero, Act.put, List.setIfInBounds_toArray, List.set_cons_zero, List.set_cons_succ]
            refine Reg.takeT (i := 15) (v := ?_) rfl (by kernel_rfl) (by kernel_rfl) (by kernel_rfl) (by kernel_rfl) (fun _ _ _ h => h) (Or.inl ⟨by rfl, ?_⟩) (by assumption) ?_
            rotate_left 1
            focus (intro w hSw; (try dsimp only at hSw); go_simp; (try with_reducible rfl))
            try simp only [List.getElem_toArray, List.getElem_cons_succ, List.getElem_cons_zero, Act.put, List.setIfInBounds_toArray, List.set_cons_zero, List.set_cons_succ]
            refine Reg.takeT (i := 16) (v := ?_) rfl (by kernel_rfl) (by kernel_rfl) (by kernel_rfl) (by kernel_rfl) (fun _ _ _ h => h) (Or.inl ⟨by rfl, ?_⟩) (by assumption) ?_
            rotate_left 1
            focus (intro w hSw; (try dsimp only at hSw); go_simp; (try with_reducible rfl))
            try simp only [List.getElem_toArray, List.getElem_cons_succ, List.getElem_cons_zero, Act.put, List.setIfInBounds_toArray, List.set_cons_zero, List.set_cons_succ]
            refine Reg.doneT (by kernel_rfl) ?_ _
            clear hHeld
            go_wp2_with fail
            have HF := hide (show ord bf (k + 1) = L.take m ++ k :: L.drop m by rw [HIN.out, ins, HPOS.out, HP3.out])
            refine ⟨⟨k + 1, by omega, by omega, by go_num, by rw [HF.out, HREST.out]; exact HR2.out, HG2.out⟩, by simp [intOf]; omega⟩
          · have HP3 := hide (show pos bf L k m = pos bf L k j by rw [HP2.out, HBB.out, hb]; rfl)
            clear HP2 HBB
            go_wp2_with fail
            refine Reg.startT (fun W => W.cell? ⟨g, m, none⟩ = some (.int .i64 k) ∧ W.cell? ⟨g, j, none⟩ = some (.int .i64 p)) (fun _ => false) (by kernel_rfl) ?_
            have hHeld : wr.drew.cell? ⟨g, m, none⟩ = some (.int .i64 k) ∧ wr.drew.cell? ⟨g, j, none⟩ = some (.int .i64 p) := Z0
            refine Reg.takeT (i := 0) (v := ?_) rfl (by kernel_rfl) (by kernel_rfl) (by kernel_rfl) (by kernel_rfl) (fun _ _ _ h => h) (Or.inl ⟨by rfl, ?_⟩) (by assumption) ?_
            rotate_left 1
            focus (intro w hSw; (try dsimp only at hSw); go_simp; (try with_reducible rfl))
            try simp only [List.getElem_toArray, List.getElem_cons_succ, List.getElem_cons_zero, Act.put, List.setIfInBounds_toArray, List.set_cons_zero, List.set_cons_succ]
            refine Reg.takeT (i := 1) (v := ?_) rfl (by kernel_rfl) (by kernel_rfl) (by kernel_rfl) (by kernel_rfl) (fun _ _ _ h => h) (Or.inl ⟨by rfl, ?_⟩) (by assumption) ?_
            rotate_left 1
            focus (intro w hSw; (try dsimp only at hSw); go_simp; (try with_reducible rfl))
            try simp only [List.getElem_toArray, List.getElem_cons_succ, List.getElem_cons_zero, Act.put, List.setIfInBounds_toArray, List.set_cons_zero, List.set_cons_succ]
            refine Reg.takeT (i := 2) (v := ?_) rfl (by kernel_rfl) (by kernel_rfl) (by kernel_rfl) (by kernel_rfl) (fun _ _ _ h => h) (Or.inl ⟨by rfl, ?_⟩) (by assumption) ?_
            rotate_left 1
            focus (intro w hSw; (try dsimp only at hSw); go_simp; (try with_reducible rfl))
            try simp only [List.getElem_toArray, List.getElem_cons_succ, List.getElem_cons_zero, Act.put, List.setIfInBounds_toArray, List.set_cons_zero, List.set_cons_succ]
            refine Reg.takeT (i := 3) (v := ?_) rfl (by kernel_rfl) (by kernel_rfl) (by kernel_rfl) (by kernel_rfl) (fun _ _ _ h => h) (Or.inl ⟨by rfl, ?_⟩) (by assumption) ?_
            rotate_left 1
            focus (intro w hSw; (try dsimp only at hSw); go_simp; (try with_reducible rfl))
            try simp only [List.getElem_toArray, List.getElem_cons_succ, List.getElem_cons_zero, Act.put, List.setIfInBounds_toArray, List.set_cons_zero, List.set_cons_succ]
            refine Reg.takeT (i := 4) (v := ?_) rfl (by kernel_rfl) (by kernel_rfl) (by kernel_rfl) (by kernel_rfl) (fun _ _ _ h => h) (Or.inl ⟨by rfl, ?_⟩) (by assumption) ?_
            rotate_left 1
            focus (intro w hSw; (try dsimp only at hSw); go_simp; (try with_reducible rfl))
            try simp only [List.getElem_toArray, List.getElem_cons_succ, List.getElem_cons_zero, Act.put, List.setIfInBounds_toArray, List.set_cons_zero, List.set_cons_succ]
            refine Reg.takeT (i := 5) (v := ?_) rfl (by kernel_rfl) (by kernel_rfl) (by kernel_rfl) (by kernel_rfl) (fun _ _ _ h => h) (Or.inl ⟨by rfl, ?_⟩) (by assumption) ?_
            rotate_left 1
            focus (intro w hSw; (try dsimp only at hSw); go_simp; (try with_reducible rfl))
            try simp only [List.getElem_toArray, List.getElem_cons_succ, List.getElem_cons_zero, Act.put, List.setIfInBounds_toArray, List.set_cons_zero, List.set_cons_succ]
            refine Reg.takeT (i := 6) (v := ?_) rfl (by kernel_rfl) (by kernel_rfl) (by kernel_rfl) (by kernel_rfl) (fun _ _ _ h => h) (Or.inl ⟨by rfl, ?_⟩) (by assumption) ?_
            rotate_left 1
            focus (intro w hSw; (try dsimp only at hSw); go_simp; (try with_reducible rfl))
            try simp only [List.getElem_toArray, List.getElem_cons_succ, List.getElem_cons_zero, Act.put, List.setIfInBounds_toArray, List.set_cons_zero, List.set_cons_succ]
            refine Reg.takeT (i := 7) (v := ?_) rfl (by kernel_rfl) (by kernel_rfl) (by kernel_rfl) (by kernel_rfl) (fun _ _ _ h => h) (Or.inl ⟨by rfl, ?_⟩) (by assumption) ?_
            rotate_left 1
            focus (intro w hSw; (try dsimp only at hSw); go_simp; (try with_reducible rfl))
            try simp only [List.getElem_toArray, List.getElem_cons_succ, List.getElem_cons_zero, Act.put, List.setIfInBounds_toArray, List.set_cons_zero, List.set_cons_succ]
            refine Reg.takeT (i := 8) (v := ?_) rfl (by kernel_rfl) (by kernel_rfl) (by kernel_rfl) (by kernel_rfl) (fun _ _ _ h => h) (Or.inl ⟨by rfl, ?_⟩) (by assumption) ?_
            rotate_left 1
            focus (intro w hSw; (try dsimp only at hSw); go_simp; (try with_reducible rfl))
            try simp only [List.getElem_toArray, List.getElem_cons_succ, List.getElem_cons_zero, Act.put, List.setIfInBounds_toArray, List.set_cons_zero, List.set_cons_succ]
            refine Reg.takeT (i := 9) (v := ?_) rfl (by kernel_rfl) (by kernel_rfl) (by kernel_rfl) (by kernel_rfl) (fun _ _ _ h => h) (Or.inl ⟨by rfl, ?_⟩) (by assumption) ?_
            rotate_left 1
            focus (intro w hSw; (try dsimp only at hSw); go_simp; (try with_reducible rfl))
            try simp only [List.getElem_toArray, List.getElem_cons_succ, List.getElem_cons_zero, Act.put, List.setIfInBounds_toArray, List.set_cons_zero, List.set_cons_succ]
            refine Reg.takeT (i := 10) (v := ?_) rfl (by kernel_rfl) (by kernel_rfl) (by kernel_rfl) (by kernel_rfl) (fun _ _ _ h => h) (Or.inl ⟨by rfl, ?_⟩) (by assumption) ?_
            rotate_left 1
            focus (intro w hSw; (try dsimp only at hSw); go_simp; (try with_reducible rfl))
            try simp only [List.getElem_toArray, List.getElem_cons_succ, List.getElem_cons_zero, Act.put, List.setIfInBounds_toArray, List.set_cons_zero, List.set_cons_succ]
            refine Reg.takeT (i := 11) (v := ?_) rfl (by kernel_rfl) (by kernel_rfl) (by kernel_rfl) (by kernel_rfl) (fun _ _ _ h => h) (Or.inl ⟨by rfl, ?_⟩) (by assumption) ?_
            rotate_left 1
            focus (intro w hSw; (try dsimp only at hSw); go_simp; (try with_reducible rfl))
            try simp only [List.getElem_toArray, List.getElem_cons_succ, List.getElem_cons_zero, Act.put, List.setIfInBounds_toArray, List.set_cons_zero, List.set_cons_succ]
            refine Reg.takeT (i := 12) (v := ?_) rfl (by kernel_rfl) (by kernel_rfl) (by kernel_rfl) (by kernel_rfl) (fun _ _ _ h => h) (Or.inl ⟨by rfl, ?_⟩) (by assumption) ?_
            rotate_left 1
            focus (intro w hSw; (try dsimp only at hSw); go_simp; (try with_reducible rfl))
            try simp only [List.getElem_toArray, List.getElem_cons_succ, List.getElem_cons_zero, Act.put, List.setIfInBounds_toArray, List.set_cons_zero, List.set_cons_succ]
            refine Reg.takeT (i := 13) (v := ?_) rfl (by kernel_rfl) (by kernel_rfl) (by kernel_rfl) (by kernel_rfl) (fun _ _ _ h => h) (Or.inl ⟨by rfl, ?_⟩) (by assumption) ?_
            rotate_left 1
            focus (intro w hSw; (try dsimp only at hSw); go_simp; (try with_reducible rfl))
            try simp only [List.getElem_toArray, List.getElem_cons_succ, List.getElem_cons_zero, Act.put, List.setIfInBounds_toArray, List.set_cons_zero, List.set_cons_succ]
            refine Reg.oneT (i := 14) rfl (by kernel_rfl) (fun K hK => ?_)
            go_simp
            rw [HFF.out, Oper.upon_enter]
            refine (HCALL.out wr.drew (grown_drew HG.out)).mono ?_
            rintro e w2 ⟨rfl, b2⟩
            have b2' : Below wr.heap.size wr w2 := of_drew b2
            have HR2 := hide (HR.out.call b2')
            have HG2 := hide (grown_below HG.out b2')
            have hHeld : w2.cell? ⟨g, m, none⟩ = some (.int .i64 k) ∧ w2.cell? ⟨g, j, none⟩ = some (.int .i64 p) := ⟨(b2'.cell (p := ⟨g, m, none⟩) hgl).trans Z0.1, (b2'.cell (p := ⟨g, j, none⟩) hgl).trans Z0.2⟩
            clear b2 b2' Z0 HR HG
            refine hK.out _ _ hHeld ?_
            clear hK K
            try simp only [List.getElem_toArray, List.getElem_cons_succ, List.getElem_cons_zero, Act.put, List.setIfInBounds_toArray, List.set_cons_zero, List.set_cons_succ]
            refine Reg.takeT (i := 15) (v := ?_) rfl (by kernel_rfl) (by kernel_rfl) (by kernel_rfl) (by kernel_rfl) (fun _ _ _ h => h) (Or.inl ⟨by rfl, ?_⟩) (by assumption) ?_
            rotate_left 1
            focus (intro w hSw; (try dsimp only at hSw); go_simp; (try with_reducible rfl))
            try simp only [List.getElem_toArray, List.getElem_cons_succ, List.getElem_cons_zero, Act.put, List.setIfInBounds_toArray, List.set_cons_zero, List.set_cons_succ]
            refine Reg.takeT (i := 16) (v := ?_) rfl (by kernel_rfl) (by kernel_rfl) (by kernel_rfl) (by kernel_rfl) (fun _ _ _ h => h) (Or.inl ⟨by rfl, ?_⟩) (by assumption) ?_
            rotate_left 1
            focus (intro w hSw; (try dsimp only at hSw); go_simp; (try with_reducible rfl))
            try simp only [List.getElem_toArray, List.getElem_cons_succ, List.getElem_cons_zero, Act.put, List.setIfInBounds_toArray, List.set_cons_zero, List.set_cons_succ]
            refine Reg.doneT (by kernel_rfl) ?_ _
            have Z1 := hHeld
            clear hHeld
            go_wp2_with fail
            clear f0 f1 hgl
            have f1 := HR2.out.frozen m
            have f0 := HR2.out.frozen j
            have hgl := HR2.out.lt.2
            refine Rv.start (fun W => W.cell? ⟨g, m, none⟩ = some (.int .i64 k) ∧ W.cell? ⟨g, j, none⟩ = some (.int .i64 p)) (fun j => j == 15 || j == 17) (by kernel_rfl) ?_
            have hHeld : w2.drew.cell? ⟨g, m, none⟩ = some (.int .i64 k) ∧ w2.drew.cell? ⟨g, j, none⟩ = some (.int .i64 p) := Z1
            refine Rv.comp (i := 0) (v := ?_) rfl (by kernel_rfl) (by kernel_rfl) (by kernel_rfl) (fun _ _ _ h => h) (Or.inl ⟨by rfl, ?_⟩) ?_
            rotate_left 1
            focus (intro w hSw; (try dsimp only at hSw); go_simp; (try with_reducible rfl))
            try simp only [List.getElem_toArray, List.getElem_cons_succ, List.getElem_cons_zero, Act.put, List.setIfInBounds_toArray, List.set_cons_zero, List.set_cons_succ]
            refine Rv.comp (i := 1) (v := ?_) rfl (by kernel_rfl) (by kernel_rfl) (by kernel_rfl) (fun _ _ _ h => h) (Or.inl ⟨by rfl, ?_⟩) ?_
            rotate_left 1
            focus (intro w hSw; (try dsimp only at hSw); go_simp; (try with_reducible rfl))
            try simp only [List.getElem_toArray, List.getElem_cons_succ, List.getElem_cons_zero, Act.put, List.setIfInBounds_toArray, List.set_cons_zero, List.set_cons_succ]
            refine Rv.comp (i := 2) (v := ?_) rfl (by kernel_rfl) (by kernel_rfl) (by kernel_rfl) (fun _ _ _ h => h) (Or.inl ⟨by rfl, ?_⟩) ?_
            rotate_left 1
            focus (intro w hSw; (try dsimp only at hSw); go_simp; (try with_reducible rfl))
            try simp only [List.getElem_toArray, List.getElem_cons_succ, List.getElem_cons_zero, Act.put, List.setIfInBounds_toArray, List.set_cons_zero, List.set_cons_succ]
            refine Rv.comp (i := 3) (v := ?_) rfl (by kernel_rfl) (by kernel_rfl) (by kernel_rfl) (fun _ _ _ h => h) (Or.inl ⟨by rfl, ?_⟩) ?_
            rotate_left 1
            focus (intro w hSw; (try dsimp only at hSw); go_simp; (try with_reducible rfl))
            try simp only [List.getElem_toArray, List.getElem_cons_succ, List.getElem_cons_zero, Act.put, List.setIfInBounds_toArray, List.set_cons_zero, List.set_cons_succ]
            refine Rv.comp (i := 4) (v := ?_) rfl (by kernel_rfl) (by kernel_rfl) (by kernel_rfl) (fun _ _ _ h => h) (Or.inl ⟨by rfl, ?_⟩) ?_
            rotate_left 1
            focus (intro w hSw; (try dsimp only at hSw); go_simp; (try with_reducible rfl))
            try simp only [List.getElem_toArray, List.getElem_cons_succ, List.getElem_cons_zero, Act.put, List.setIfInBounds_toArray, List.set_cons_zero, List.set_cons_succ]
            refine Rv.comp (i := 5) (v := ?_) rfl (by kernel_rfl) (by kernel_rfl) (by kernel_rfl) (fun _ _ _ h => h) (Or.inl ⟨by rfl, ?_⟩) ?_
            rotate_left 1
            focus (intro w hSw; (try dsimp only at hSw); go_simp; (try with_reducible rfl))
            try simp only [List.getElem_toArray, List.getElem_cons_succ, List.getElem_cons_zero, Act.put, List.setIfInBounds_toArray, List.set_cons_zero, List.set_cons_succ]
            refine Rv.comp (i := 6) (v := ?_) rfl (by kernel_rfl) (by kernel_rfl) (by kernel_rfl) (fun _ _ _ h => h) (Or.inl ⟨by rfl, ?_⟩) ?_
            rotate_left 1
            focus (intro w hSw; (try dsimp only at hSw); go_simp; (try with_reducible rfl))
            try simp only [List.getElem_toArray, List.getElem_cons_succ, List.getElem_cons_zero, Act.put, List.setIfInBounds_toArray, List.set_cons_zero, List.set_cons_succ]
            refine Rv.comp (i := 7) (v := ?_) rfl (by kernel_rfl) (by kernel_rfl) (by kernel_rfl) (fun _ _ _ h => h) (Or.inl ⟨by rfl, ?_⟩) ?_
            rotate_left 1
            focus (intro w hSw; (try dsimp only at hSw); go_simp; (try with_reducible rfl))
            try simp only [List.getElem_toArray, List.getElem_cons_succ, List.getElem_cons_zero, Act.put, List.setIfInBounds_toArray, List.set_cons_zero, List.set_cons_succ]
            refine Rv.comp (i := 8) (v := ?_) rfl (by kernel_rfl) (by kernel_rfl) (by kernel_rfl) (fun _ _ _ h => h) (Or.inl ⟨by rfl, ?_⟩) ?_
            rotate_left 1
            focus (intro w hSw; (try dsimp only at hSw); go_simp; (try with_reducible rfl))
            try simp only [List.getElem_toArray, List.getElem_cons_succ, List.getElem_cons_zero, Act.put, List.setIfInBounds_toArray, List.set_cons_zero, List.set_cons_succ]
            refine Rv.take (i := 9) (v := ?_) rfl (by kernel_rfl) (by kernel_rfl) (by kernel_rfl) (by kernel_rfl) (fun _ _ _ h => h) (Or.inl ⟨by rfl, ?_⟩) (by assumption) ?_
            rotate_left 1
            focus (intro w hSw; (try dsimp only at hSw); go_simp; (try with_reducible rfl))
            try simp only [List.getElem_toArray, List.getElem_cons_succ, List.getElem_cons_zero, Act.put, List.setIfInBounds_toArray, List.set_cons_zero, List.set_cons_succ]
            refine Rv.comp (i := 10) (v := ?_) rfl (by kernel_rfl) (by kernel_rfl) (by kernel_rfl) (fun _ _ _ h => h) (Or.inl ⟨by rfl, ?_⟩) ?_
            rotate_left 1
            focus (intro w hSw; (try dsimp only at hSw); go_simp; (try with_reducible rfl))
            try simp only [List.getElem_toArray, List.getElem_cons_succ, List.getElem_cons_zero, Act.put, List.setIfInBounds_toArray, List.set_cons_zero, List.set_cons_succ]
            refine Rv.comp (i := 11) (v := ?_) rfl (by kernel_rfl) (by kernel_rfl) (by kernel_rfl) (fun _ _ _ h => h) (Or.inl ⟨by rfl, ?_⟩) ?_
            rotate_left 1
            focus (intro w hSw; (try dsimp only at hSw); go_simp; (try with_reducible rfl))
            try simp only [List.getElem_toArray, List.getElem_cons_succ, List.getElem_cons_zero, Act.put, List.setIfInBounds_toArray, List.set_cons_zero, List.set_cons_succ]
            refine Rv.comp (i := 12) (v := ?_) rfl (by kernel_rfl) (by kernel_rfl) (by kernel_rfl) (fun _ _ _ h => h) (Or.inl ⟨by rfl, ?_⟩) ?_
            rotate_left 1
            focus (intro w hSw; (try dsimp only at hSw); go_simp; (try with_reducible rfl))
            try simp only [List.getElem_toArray, List.getElem_cons_succ, List.getElem_cons_zero, Act.put, List.setIfInBounds_toArray, List.set_cons_zero, List.set_cons_succ]
            refine Rv.take (i := 13) (v := ?_) rfl (by kernel_rfl) (by kernel_rfl) (by kernel_rfl) (by kernel_rfl) (fun _ _ _ h => h) (Or.inl ⟨by rfl, ?_⟩) (by assumption) ?_
            rotate_left 1
            focus (intro w hSw; (try dsimp only at hSw); go_simp; (try with_reducible rfl))
            try simp only [List.getElem_toArray, List.getElem_cons_succ, List.getElem_cons_zero, Act.put, List.setIfInBounds_toArray, List.set_cons_zero, List.set_cons_succ]
            refine Rv.comp (i := 14) (v := ?_) rfl (by kernel_rfl) (by kernel_rfl) (by kernel_rfl) (fun _ _ _ h => h) (Or.inl ⟨by rfl, ?_⟩) ?_
            rotate_left 1
            focus (intro w hSw; (try dsimp only at hSw); go_simp; (try with_reducible rfl))
            try simp only [List.getElem_toArray, List.getElem_cons_succ, List.getElem_cons_zero, Act.put, List.setIfInBounds_toArray, List.set_cons_zero, List.set_cons_succ]
            have s1 : w2.cell? ⟨g, m, none⟩ = some (.int .i64 k) := hHeld.1
            have s0 : w2.cell? ⟨g, j, none⟩ = some (.int .i64 p) := hHeld.2
            clear hHeld Z1
            refine Rv.last (i := 15) rfl (by kernel_rfl) (by rfl) (fun K hK => ?_)
            go_simp
            refine hK.out _ _ ?_
            clear hK K
            try simp only [List.getElem_toArray, List.getElem_cons_succ, List.getElem_cons_zero, Act.put, List.setIfInBounds_toArray, List.set_cons_zero, List.set_cons_succ]
            refine Rv.comp (i := 16) (v := ?_) rfl (by kernel_rfl) (by kernel_rfl) (by kernel_rfl) (fun _ _ _ h => h) (Or.inl ⟨by rfl, ?_⟩) ?_
            rotate_left 1
            focus (intro w hSw; (try dsimp only at hSw); go_simp; (try with_reducible rfl))
            try simp only [List.getElem_toArray, List.getElem_cons_succ, List.getElem_cons_zero, Act.put, List.setIfInBounds_toArray, List.set_cons_zero, List.set_cons_succ]
            refine Rv.last (i := 17) rfl (by kernel_rfl) (by rfl) (fun K hK => ?_)
            go_simp
            refine hK.out _ _ ?_
            clear hK K
            try simp only [List.getElem_toArray, List.getElem_cons_succ, List.getElem_cons_zero, Act.put, List.setIfInBounds_toArray, List.set_cons_zero, List.set_cons_succ]
            refine Rv.done (by kernel_rfl) ?_ _
            go_wp2_with fail
            have HF := hide (show RowI ((w2.setCell ⟨g, m, none⟩ (.int .i64 p)).setCell ⟨g, j, none⟩ (.int .i64 k)) base g n c (L.take j ++ k :: L.drop j ++ rest) by
              rw [← HSW.out]
              exact (HR2.out.put m p).put j k)
            refine ⟨⟨j, by omega, by go_num, by rw [HPOS.out, HP3.out], HF.out.call (below_dr (Below.refl _ _)), grown_drew (grown_set (grown_set HG2.out _) _)⟩, by simp [intOf]; omega⟩
    · rw [HEND.out k hlt hk] at hr
      have HR := hide (And.intro hr hg)
      clear hr hg
      go_wp2_with fail
      exact bodyPost_ret (v := .tuple #[]) (by simp [results, Try.results172, go_sem]) rfl ⟨rfl, HR.out⟩
end Go.Proofs.Ytmglgjchemecjaa.CIns
/- The program's ClearFixups. -/
namespace Go.Proofs.Ytmglgjchemecjaa.CClear
set_option maxRecDepth 200000
open Go.ChangeShapes Go.WideShapes Go.ChangeAt Go.RowKit Kit CCode CFixups CSymbols PObj BObj CMarkRows PValid CSecValid CUses CCovers CObjValid PWarn CCopyS CCopyI BStore PClear
end Go.Proofs.Ytmglgjchemecjaa.CClear
/- The program's SortSymbols. -/
namespace Go.Proofs.Ytmglgjchemecjaa.CSort
set_option maxRecDepth 200000
open Go.ChangeShapes Go.WideShapes Go.ChangeAt Go.RowKit Kit CCode CFixups CSymbols PObj BObj CMarkRows PValid CSecValid CUses CCovers CObjValid PWarn CCopyS CCopyI BStore PClear PSort CCmp CCmpY CIns
theorem CmpInv.grown {V G : Nat} {Y : Option Addr} {ys : List YD} {yc : Nat} {w w' : World} {row : Option Nat} (h : CmpInv V G Y ys yc w) (g : w.grownBy w' row) (hv : row ≠ some V) (hg : row ≠ some G) (hy : ∀ b off, Y = some ⟨b, off, none⟩ → row ≠ some b) : CmpInv V G Y ys yc w' := by
  obtain ⟨h1, h2, h3, h4, h5⟩ := h
  refine ⟨(World.cell?_of_block (g.block V h4 (Ne.symm hv))).trans h1, (World.cell?_of_block (g.block G h5 (Ne.symm hg))).trans h2, fun i u hi => ?_, Nat.lt_of_lt_of_le h4 g.size, Nat.lt_of_lt_of_le h5 g.size⟩
  obtain ⟨b, off, e, hb, hc⟩ := h3 i u hi
  exact ⟨b, off, e, Nat.lt_of_lt_of_le hb g.size, (World.cell?_of_block (g.block b hb (Ne.symm (hy b off e)))).trans hc⟩
/-- The numbers in the order of the symbols. -/
def SortedR (base : Nat) (A : Option Addr) (c : Nat) (ys : List YD) (w : World) (e : Ending) (w' : World) : Prop := e = .returned (.tuple #[]) ∧ Row w' base 3 1 A ys.length c (ints .i64 (toI (order ys))) ∧ w.grownBy w' (blk A c)
theorem box_setFar {w : World} {X g i : Nat} {t : TypeId} {cs : Array Value} {u : Value} (h : Box w X t cs) (hne : X ≠ g) : Box (w.setCell ⟨g, i, none⟩ u) X t cs := (Below.heap_setCell w ⟨g, i, none⟩ u X hne).trans h
def mid (ys : List YD) (L : List Nat) (k : Nat) : List YD := (L.take k).map (fun i => ys.getD i dY) ++ ys.drop k
end Go.Proofs.Ytmglgjchemecjaa.CSort
/- The reference's ClearFixups. -/
namespace Go.Proofs.Ytmglgjchemecjaa.CClearS
set_option maxRecDepth 200000
open Go.ChangeShapes Go.WideShapes Go.ChangeAt Go.RowKit Kit CCode CFixups CSymbols PObj BObj CMarkRows PValid CSecValid CUses CCovers CObjValid CObjValidS PWarn CCopyS CCopyI BStore PClear
end Go.Proofs.Ytmglgjchemecjaa.CClearS
/- The reference's SortSymbols. -/
namespace Go.Proofs.Ytmglgjchemecjaa.CSortS
set_option maxRecDepth 200000
open Go.ChangeShapes Go.WideShapes Go.ChangeAt Go.RowKit Kit CCode CFixups CSymbols PObj BObj CMarkRows PValid CSecValid CUses CCovers CObjValid CObjValidS PWarn CCopyS CCopyI BStore PClear PSort CCmp CCmpY CIns CSort CClearS
/-- What a slice 's[j:]' reads. -/
theorem rd_tail {w : World} {B ga k c j jj : Nat} {xs : List Value} {size : Nat} (h : Rd w B (some ⟨ga, 0, none⟩) xs) (hl : xs.length = k * size) (hk : k ≤ c) (hjj : jj = j * size) :
    Rd w B (if c = j then some ⟨ga, 0, none⟩ else some ⟨ga, jj, none⟩) (xs.drop jj) := by
  subst hjj
  split
  · have : xs.drop (j * size) = [] := List.drop_of_length_le (by rw [hl]; exact Nat.mul_le_mul_right _ (by omega))
    rw [this]
    exact Rd.nil _
  · intro i u hi
    rw [List.getElem?_drop] at hi
    obtain ⟨b, off, e, hb, hc⟩ := h (j * size + i) u hi
    simp only [Option.some.injEq, Addr.mk.injEq, and_true] at e
    obtain ⟨rfl, rfl⟩ := e
    exact ⟨_, j * size, rfl, hb, by rw [Nat.zero_add] at hc; exact hc⟩
end Go.Proofs.Ytmglgjchemecjaa.CSortS
