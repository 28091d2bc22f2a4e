/- The draw of an object that is dumped. -/
import Derived.Test.YtepoiphmmjfbdaaGreatDoorFnDeskLoadM15
import Derived.BigQuiet
set_option linter.unusedSimpArgs false
set_option linter.unusedVariables false
namespace Go.Proofs.YtepoiphmmjfbdaaGreatDoor.DDrawD
set_option maxRecDepth 200000
open Go.ChangeShapes Go.WideShapes Go.ChangeAt Go.RowKit Kit CCode CFixups CSymbols PObj BObj PValid CObjValid PWarn PClear DPick DVar DSection DObject CCopyS CCopyI DDrawB PDump
theorem small_in {d : OD} (h : SmallO d) : InD d := fun s hs => (h.2.2.1 s hs).2.2.1
theorem small_fit {o : OV} {w : World} {base : Nat} (h : SmallO o.d) (ho : OwnO w base o) : Fit o := (bnd_fit (bnd_small h) ho).1
set_option maxHeartbeats 4000000 in
theorem draw_DrawDumpObject {A : Option Addr} {zs : List Int} {c : Nat} {w : World} (hr : Rd w w.heap.size A (ints .u8 zs)) (hz : InR 0 255 zs) (hc : zs.length ≤ c) (hcm : c ≤ maxLen) :
    Calls Tryz.prog 8 #[.slice A zs.length c] w (fun e w' => ∃ d, SmallO d ∧ RetO d w e w') := by
  have b0 : Below w.heap.size w (w.alloc (.cells #[.slice none 0 0, .slice none 0 0] 26)) := (by repeat (first | exact Below.refl _ _ | with_reducible assumption | (refine Below.drew ?_) | (refine Below.drewN ?_ _) | (refine Below.alloc ?_ (by simp; try omega) _) | (refine Below.setCell ?_ (by simp; try omega) _)))
  have HO := hide (open_any A zs c _ ((hr.below b0).more b0.size) hz hc hcm)
  have HX := hide (Box.new w 26 #[.slice none 0 0, .slice none 0 0])
  have HB0 := hide b0
  clear hr hz hc hcm b0
  go_enter Tryz.func8, Tryz.ntmps8
  go_wp2_with fail
  refine HO.out.mono ?_
  rintro e w1 ⟨R, rfl, T, b1⟩
  have T0 := Tp.start T
  have hRl := T.1
  have X1 := HX.out.call b1
  have B1 := HB0.out.trans (b1.mono HB0.out.size)
  have hY1 := X1.lt
  go_wp2_with fail
  refine (object_any T0 (by omega) (by omega) 6 (by omega) (by omega)).mono ?_
  rintro e w2 ⟨⟨A1, c1, ps, Y1, yc1, ys⟩, rfl, sm, own, T2, _⟩
  have hsz : (w.alloc (.cells #[.slice none 0 0, .slice none 0 0] 26)).heap.size = w.heap.size + 1 := by simp
  have X2 := X1.grown T2.2 (fun k hk => by injection hk with hk; omega)
  have B2 := B1.trans (T2.below B1.size (show w.heap.size ≤ R by omega))
  have HSM := hide sm
  have HFIN := hide (CObject.ret_object (own.down B1.size) B2 (fun k hk e => by have := (own.lt k hk).1; omega) (Nat.le_refl _))
  have q0 := X2.cell 0
  have q1 := X2.cell 1
  have f0 := X2.frozen 0
  have f1 := X2.frozen 1
  have hxl := X2.lt
  have kk := (X2.set 0 (.slice A1 ps.length c1)).set 1 (.slice Y1 ys.length yc1)
  have k0 := kk.cell 0
  have k1 := kk.cell 1
  simp only [List.setIfInBounds_toArray, List.set_cons_zero, List.set_cons_succ, List.getElem?_toArray, List.getElem?_cons_zero, List.getElem?_cons_succ] at q0 q1 k0 k1
  clear X1 X2 T T0 T2 b1 B1 B2 hsz HX HO HB0 kk own sm hRl hY1
  simp only [OV.v]
  go_wp2_with fail
  exact bodyPost_ret (v := OV.v ⟨A1, c1, ps, Y1, yc1, ys⟩) (by simp [results, Tryz.results8, go_sem, OV.v, k0, k1]) rfl ⟨_, HSM.out, HFIN.out⟩
end Go.Proofs.YtepoiphmmjfbdaaGreatDoor.DDrawD
/- How long the lines of a valid object are; the desk at a loaded object; plain. -/
namespace Go.Proofs.YtepoiphmmjfbdaaGreatDoor.PLines
set_option maxRecDepth 200000
open Go.ChangeShapes Go.WideShapes Go.ChangeAt Go.RowKit Kit CCode CName CNumTxt CFixups CSymbols PObj PValid PClear PLink PLinkL PNum PDump PDesk CDumpI
theorem itoa_len {n : Int} (h : Num n) : (Lib.itoa n).length ≤ 21 := by
  unfold Num at h
  exact Lib.itoa_length_le n (by omega) (by omega)
theorem nm_len {s : ByteArray} (h : nameOk s = true) : (nmL s).length ≤ 8 := (nmW_ok h).2
theorem lineS_len {s : SD} (h : GoodS s) (hz : s.zs.length ≤ 48) : (lineS s).length ≤ 600 := by
  refine Nat.le_trans (join_len 32 (wordsS s) 99 (fun w hw => ?_)) ?_
  · simp only [wordsS, List.mem_append, List.mem_cons, List.not_mem_nil, or_false] at hw
    rcases hw with (rfl | rfl | rfl | rfl | rfl) | hw
    · decide
    · have := nm_len h.nm; omega
    · have := itoa_len h.kd; omega
    · have := itoa_len h.al; omega
    · have := itoa_len h.size; omega
    · split at hw
      · cases hw
      · rw [List.mem_singleton.1 hw, hexL_len]
        omega
  · unfold wordsS
    split <;> simp
theorem lineF_len {f : FD} (h : GoodF f) : (lineF f).length ≤ 600 := by
  refine Nat.le_trans (join_len 32 (wordsF f) 99 (fun w hw => ?_)) (by simp [wordsF])
  obtain ⟨h1, h2, h3, h4⟩ := h
  simp only [wordsF, List.mem_cons, List.not_mem_nil, or_false] at hw
  rcases hw with rfl | rfl | rfl | rfl | rfl
  · decide
  · have := itoa_len h1; omega
  · have := itoa_len h2; omega
  · have := itoa_len h3; omega
  · have := itoa_len h4; omega
theorem lineY_len {y : YD} (h : GoodY y) : (lineY y).length ≤ 600 := by
  refine Nat.le_trans (join_len 32 (wordsY y) 99 (fun w hw => ?_)) (by simp [wordsY])
  obtain ⟨h1, h2, h3, h4⟩ := h
  simp only [wordsY, List.mem_cons, List.not_mem_nil, or_false] at hw
  rcases hw with rfl | rfl | rfl | rfl | rfl
  · decide
  · have := nm_len h1; omega
  · have := itoa_len h2; omega
  · have := itoa_len h3; omega
  · have := itoa_len h4; omega
theorem lines_len {d : OD} (h : objOk d = true) (hz : InD d) : ∀ l ∈ linesO d, l.length ≤ 600 := by
  obtain ⟨g1, g2⟩ := good_O h hz
  obtain ⟨_, _, h3⟩ := obj_all h
  intro l hl
  rcases List.mem_append.1 hl with hl | hl
  · obtain ⟨s, hs, hl⟩ := List.mem_flatMap.1 hl
    rcases List.mem_cons.1 hl with rfl | hl
    · exact lineS_len (g1 s hs).1 (h3 s hs).2.1
    · obtain ⟨f, hf, rfl⟩ := List.mem_map.1 hl
      exact lineF_len ((g1 s hs).2 f hf)
  · obtain ⟨y, hy, rfl⟩ := List.mem_map.1 hl
    exact lineY_len (g2 y hy)
theorem linesSs_len : ∀ (ss : List SD), (∀ s ∈ ss, s.fs.length ≤ 6) → (linesSs ss).length ≤ 7 * ss.length
  | [], _ => Nat.zero_le _
  | s :: ss, h => by
    have h1 := h s List.mem_cons_self
    have h2 := linesSs_len ss (fun x hx => h x (List.mem_cons_of_mem _ hx))
    show (linesS s ++ linesSs ss).length ≤ _
    rw [List.length_append, List.length_cons]
    simp only [linesS, List.length_cons, List.length_map]
    omega
theorem lines_many {d : OD} (h : objOk d = true) : (linesO d).length ≤ 68 := by
  obtain ⟨h1, h2, h3⟩ := obj_all h
  have h4 := linesSs_len d.ss (fun s hs => (h3 s hs).1)
  rw [linesO, List.length_append, List.length_map]
  omega
theorem dump_many (d : OD) : (dumpL d).length ≤ 68 := by
  unfold dumpL
  cases h : objOk d
  · exact Nat.zero_le _
  · exact lines_many h
theorem dump_len {d : OD} (hz : InD d) : ∀ l ∈ dumpL d, l.length ≤ 600 := by
  unfold dumpL
  cases h : objOk d
  · intro l hl
    cases hl
  · exact lines_len h hz
theorem join_bd {ls : List (List UInt8)} (h : ∀ l ∈ ls, l.length ≤ 600) (hn : ls.length ≤ 68) (k : Nat) : (joinC 124 (ls.take k)).length ≤ 40868 := by
  have h1 := join_len 124 (ls.take k) 600 (fun l hl => h l (List.mem_of_mem_take hl))
  rw [List.length_take] at h1
  have h2 : min k ls.length ≤ 68 := Nat.le_trans (Nat.min_le_right _ _) hn
  have h3 := Nat.mul_le_mul_right 601 h2
  omega
theorem join_next {ls : List (List UInt8)} {k : Nat} (h : k < ls.length) (h1 : 1 ≤ k) : joinC 124 (ls.take (k + 1)) = joinC 124 (ls.take k) ++ 124 :: ls[k] := by
  rw [take_succ h, join_snoc 124 _ _ (by
    intro h2
    have := congrArg List.length h2
    rw [List.length_take, List.length_nil] at this
    omega)]
theorem dump_ok' {d : OD} (h : 0 < (dumpL d).length) : objOk d = true := by
  cases ho : objOk d
  · rw [dumpL, ho] at h
    cases h
  · rfl
theorem objs_nil : objsOk [] = true := rfl
/-- What the desk answers to an object's lines. -/
theorem desk_load {d : OD} (hz : InD d) (h : 0 < (dumpL d).length) : deskA [] (loadT ++ 32 :: joinC 124 (dumpL d)) = ([d], okT) := by
  have hk := dump_ok' h
  have hne : dumpL d ≠ [] := fun e => by rw [e] at h; cases h
  obtain ⟨c1, c2⟩ := cut_at (x := loadT) (r := joinC 124 (dumpL d)) (by decide)
  have hr := read_join hk hz hne
  have ht : joinC 124 (dumpL d) ≠ [] := by
    intro e
    have hs := splt_join 124 (dumpL d) hne (by rw [dump_ok hk]; exact lines_no (good_O hk hz))
    rw [e] at hs hr
    have h2 : splt 124 ([] : List UInt8) = [[]] := rfl
    rw [h2] at hr
    have h3 : readI [[]] = none := by decide
    rw [h3] at hr
    cases hr
  unfold deskA
  rw [if_neg (by rw [objs_nil]; decide), if_neg (by
    intro e
    have := congrArg cutW e
    rw [c1] at this
    exact absurd this (by decide)), c1, c2, if_neg ht, if_pos rfl]
  unfold loadA
  rw [hr]
  rfl
def sixteen : List UInt8 := [49, 54]
theorem itoa16 : Lib.itoa 16 = sixteen := by first | rfl | decide +kernel | (simp [Lib.itoa, sixteen])
theorem canon16 : canon sixteen = some 16 := by
  rw [← itoa16]
  exact canon_itoa (b := 16) (by omega) (by omega)
theorem desk_link {d : OD} (h : objOk d = true) : deskA [d] (linkT ++ 32 :: sixteen) = ([d], codeA (linkR [d] 16)) := by
  obtain ⟨c1, c2⟩ := cut_at (x := linkT) (r := sixteen) (by decide)
  unfold deskA
  rw [if_neg (by simp [objsOk, h]), if_neg (by decide), c1, c2, if_neg (by decide), if_neg (by decide), if_pos rfl]
  unfold linkI
  rw [canon16]
end Go.Proofs.YtepoiphmmjfbdaaGreatDoor.PLines
/- The laws' question whether the program is there at all: it answers true. -/
namespace Go.Proofs.YtepoiphmmjfbdaaGreatDoor.CAlive
set_option maxRecDepth 200000
open Go.ChangeShapes Go.WideShapes Go.ChangeAt Go.RowKit Kit CCode
theorem isAlign4 (w : World) : Calls Tryz.prog 87 #[.int .i64 4] w (Pure (.bool true) w) := by
  go_enter Tryz.func87, Tryz.ntmps87
  go_wp2
  go_ret
  exact ⟨rfl, rfl⟩
theorem aligned54 (w : World) : Calls Tryz.prog 89 #[.int .i64 5, .int .i64 4] w (Pure (.int .i64 8) w) := by
  go_enter Tryz.func89, Tryz.ntmps89
  go_wp2
  go_ret
  exact ⟨rfl, rfl⟩
theorem alignUp54 (w : World) : Calls Tryz.prog 43 #[.int .i64 5, .int .i64 4] w (Pure (.int .i64 8) w) := by
  have hb : inB 5 0 1000000 = true := by decide
  go_enter Tryz.func43, Tryz.ntmps43
  go_wp2_with (first | (go_at_call 87; refine (isAlign4 _).mono ?_; rintro e w' ⟨rfl, rfl⟩) | (go_at_call 89; refine (aligned54 _).mono ?_; rintro e w' ⟨rfl, rfl⟩) | (first | (go_at_call 88; refine (within_any _ _ _ _).mono ?_; rintro e w' ⟨rfl, rfl⟩) | (go_at_call 111; refine (l1In_any _ _ _ _).mono ?_; rintro e w' ⟨rfl, rfl⟩) | fail))
  go_ret
  exact ⟨rfl, rfl⟩
theorem alive_any (w : World) : Calls Tryz.prog 12 #[] w (Pure (.bool true) w) := by
  go_enter Tryz.func12, Tryz.ntmps12
  go_wp2_with (go_at_call 43; refine (alignUp54 _).mono ?_; rintro e w' ⟨rfl, rfl⟩)
  go_ret
  exact ⟨rfl, rfl⟩
end Go.Proofs.YtepoiphmmjfbdaaGreatDoor.CAlive
/- The walk of FnDeskLoad. -/
namespace Go.Proofs.YtepoiphmmjfbdaaGreatDoor.WFnDeskLoad
set_option maxRecDepth 200000
open Go.ChangeShapes Go.WideShapes Go.ChangeAt Go.RowKit Kit CCode CNumTxt CFixups CSymbols PObj BObj PValid CObjValid PWarn PClear DObject DDrawB DDrawD CCopyS CCopyI CAlive BList PLink PLinkL PNum PDump PDesk PDesk2 PLinkIn PLines CLink CSorted CNames CWordsS CStrRows BDesk CHexI CHexS CDeskI CJoinAI PJoin2 CObjL
theorem linkOne_any (o : OV) (base : Int) (b : Nat) (w : World) (hc : Box w b 26 #[.slice o.A o.ps.length o.c, .slice o.Y o.ys.length o.yc]) (hr : RdO w w.heap.size o) (hf : Fit o) (hn : Nils o) :
    Calls Tryz.prog 14 #[.slice (some ⟨b, 0, none⟩) 1 1, .int .i64 base] w (RetL (linkR [o.d] base) w) := by
  refine link_any (some ⟨b, 0, none⟩) [o] 1 base w ⟨?_, fun x hx => ?_⟩ ⟨by simp, fun x hx => ?_⟩ (fun x hx p hp => ?_)
  · intro i u hi
    refine ⟨b, 0, rfl, hc.lt, ?_⟩
    rw [Nat.zero_add, hc.cell i]
    simpa [cellsOf, objC] using hi
  · rw [List.mem_singleton.1 hx]
    exact hr
  · rw [List.mem_singleton.1 hx]
    exact hf
  · rw [List.mem_singleton.1 hx] at hp
    exact (hn.2 p hp).1
/-- An owned list of valid objects as an argument. -/
theorem own_fits {w : World} {base c : Nat} {A : Option Addr} {os : List OV} (h : OwnOs w base A c os) (hv : objsOk (os.map OV.d) = true) : Fits os ∧ (∀ o ∈ os, Nils o) ∧ os.length ≤ c := by
  obtain ⟨h4, hall⟩ := objs_all hv
  exact ⟨⟨by omega, fun o ho => fit_sm (valid_sm (hall o ho)) (h.2.1 o ho).2.cap.1⟩, fun o ho => nils_own (h.2.1 o ho), h.1.cap.1⟩
set_option maxHeartbeats 16000000 in
theorem walk (A : Option Addr) (zs : List Int) (c : Nat) (hl : zs.length ≤ c) (hc : c ≤ maxLen) (hz : InR 0 255 zs) (w : World) (hr : Rd w w.heap.size A (ints .u8 zs)) (he : Env w) :
    Calls Tryz.prog 3 #[.slice A zs.length c] w (LawEnds w) := by
  have hcm := hc
  unfold maxLen at hcm
  have HD := hide (draw_DrawDumpObject hr hz hl hc)
  have HE := hide he
  clear hr hz hc he
  by_cases hbig : 1048576 < zs.length
  · go_enter Tryz.func3, Tryz.ntmps3
    go_wp2_with fail
    go_ret
    exact ⟨rfl, Below.refl _ _⟩
  go_enter Tryz.func3, Tryz.ntmps3
  go_wp2_with fail
  refine HD.out.mono ?_
  rintro e w1 ⟨d, hsm, o, rfl, hd, own1, b1⟩
  subst hd
  have HSM := hide hsm
  have HFT := hide (small_fit hsm own1)
  have HIN := hide (small_in hsm)
  have HNL := hide (nils_own own1)
  have HR := hide own1.rd
  have B1 : Below w1.heap.size w1 (w1.alloc (.cells #[.slice o.A o.ps.length o.c, .slice o.Y o.ys.length o.yc] 26)) := (by repeat (first | exact Below.refl _ _ | with_reducible assumption | (refine Below.drew ?_) | (refine Below.drewN ?_ _) | (refine Below.alloc ?_ (by simp; try omega) _) | (refine Below.setCell ?_ (by simp; try omega) _)))
  have HX := hide (Box.new w1 26 #[.slice o.A o.ps.length o.c, .slice o.Y o.ys.length o.yc])
  have HB := hide (b1.trans (B1.mono b1.size))
  replace HR := hide (HR.out.call B1)
  clear hsm own1 b1 B1 HD
  simp only [OV.v]
  have x0 := HX.out.cell 0
  have x1 := HX.out.cell 1
  simp only [List.getElem?_toArray, List.getElem?_cons_zero, List.getElem?_cons_succ] at x0 x1
  have hxl := HX.out.lt
  go_wp2_with fail
  clear x0 x1 hxl
  generalize w1.alloc (.cells #[.slice o.A o.ps.length o.c, .slice o.Y o.ys.length o.yc] 26) = w2 at *
  generalize w1.heap.size = X at *
  refine (CDumpI.dumpObject_any o w2 HR.out HFT.out HIN.out (HE.out.below HB.out)).mono ?_
  rintro e w3 ⟨A3, c3, rfl, row3, b3⟩
  have HW := hide row3
  replace HR := hide (HR.out.call b3)
  replace HB := hide (HB.out.trans (b3.mono HB.out.size))
  replace HX := hide (HX.out.call b3)
  clear b3
  clear row3
  have x0 := HX.out.cell 0
  have x1 := HX.out.cell 1
  simp only [List.getElem?_toArray, List.getElem?_cons_zero, List.getElem?_cons_succ] at x0 x1
  have hxl := HX.out.lt
  go_wp2_with fail
  clear x0 x1 hxl
  refine (CDumpS.dumpObjectS_any o w3 HR.out HFT.out HIN.out).mono ?_
  rintro e w4 ⟨A4, c4, rfl, row4, b4⟩
  have HW4 := hide row4
  replace HR := hide (HR.out.call b4)
  replace HB := hide (HB.out.trans (b4.mono HB.out.size))
  replace HX := hide (HX.out.call b4)
  replace HW := hide (HW.out.call b4)
  clear b4
  clear row4
  have hml := dump_many o.d
  have HLN := hide (dump_len HIN.out)
  have HLD := hide (fun h => desk_load (d := o.d) HIN.out h)
  have HOK := hide (fun h => dump_ok' (d := o.d) h)
  have HST := hide (sameTexts_same A3 A4 ((dumpL o.d).map bs) c3 c4 w4 HW.out.rd HW4.out.rd (by rw [List.length_map]; omega))
  rw [show (List.map bs (dumpL o.d)).length = (dumpL o.d).length from by simp] at *
  generalize hls : dumpL o.d = ls at *
  clear hls
  go_wp2_with fail
  refine HST.out.mono ?_
  clear HST HW4
  rintro e w5 ⟨rfl, b5⟩
  replace HR := hide (HR.out.call b5)
  replace HB := hide (HB.out.trans (b5.mono HB.out.size))
  replace HX := hide (HX.out.call b5)
  replace HW := hide (HW.out.call b5)
  clear b5
  by_cases h0 : ls.length = 0
  · have hq : ((ls.length : Int) == 0) = true := beq_iff_eq.2 (by omega)
    clear HLD HOK
    go_wp2_with fail
    refine (alive_any _).mono ?_
    rintro e w' ⟨rfl, rfl⟩
    go_wp2_with fail
    go_ret
    exact ⟨rfl, HB.out⟩
  have hq : ((ls.length : Int) == 0) = false := beq_eq_false_iff_ne.2 (by omega)
  have hp : 0 < ls.length := by omega
  have HDL := hide (HLD.out hp)
  have HOK2 := hide (HOK.out hp)
  clear HLD HOK h0
  obtain ⟨b, off, rfl, hbb, hc0⟩ := CNumsI.Rd.str HW.out.rd hp
  simp only [Nat.add_zero] at hc0
  have HT0 := hide (show bs ls[0] = bs (joinC 124 (ls.take 1)) from by
    rw [show ls.take 1 = [ls[0]] from by rw [take_succ hp]; rfl]
    rfl)
  rw [HT0.out] at hc0
  go_wp2_with fail
  clear hc0 hq
  go_loopw [5, 6] (fun t i wi => ∃ k : Nat, 1 ≤ k ∧ k ≤ ls.length ∧ t = .string (bs (joinC 124 (ls.take k))) ∧ i = .int .i64 k ∧ RdO wi wi.heap.size o ∧ Box wi X 26 #[.slice o.A o.ps.length o.c, .slice o.Y o.ys.length o.yc] ∧ Row wi w2.heap.size 9 1 (some ⟨b, off, none⟩) ls.length c3 (nmC (ls.map bs)) ∧ Below w.heap.size w wi) (fun _ i _ => ls.length - (intOf i).toNat)
  case atStart => exact ⟨1, Nat.le_refl _, hp, rfl, rfl, HR.out, HX.out, HW.out, HB.out⟩
  case round =>
    clear HR HX HW HB HT0
    obtain ⟨k, hk1, hk, rfl, rfl, hr, hx, hw, hb⟩ := hrel
    have HR := hide hr
    have HX := hide hx
    have HW := hide hw
    have HB := hide hb
    clear hr hx hw hb
    by_cases hlt : k < ls.length
    · obtain ⟨b', off', hA, hbb', hcc⟩ := CNumsI.Rd.str HW.out.rd hlt
      injection hA with hA
      injection hA with hA1 hA2
      subst hA1
      subst hA2
      have HNX := hide (show bs (joinC 124 (ls.take k)) ++ (⟨#[124]⟩ : ByteArray) ++ bs ls[k] = bs (joinC 124 (ls.take (k + 1))) from by
        rw [show (⟨#[124]⟩ : ByteArray) = bs [124] from rfl, bs_app, bs_app, join_next hlt hk1]
        simp)
      have hs1 : (bs (joinC 124 (ls.take k))).size ≤ 40868 := by rw [bs_size]; exact join_bd HLN.out hml k
      have hs2 : (bs ls[k]).size ≤ 600 := by rw [bs_size]; exact HLN.out _ (List.getElem_mem hlt)
      generalize bs (joinC 124 (ls.take k)) = T at *
      generalize bs ls[k] = L at *
      have hs3 : ¬ 9223372036854775807 < T.size + 1 := by omega
      have hs4 : ¬ 9223372036854775807 < T.size + 1 + L.size := by omega
      go_wp2_with fail
      refine ⟨⟨k + 1, by omega, by omega, by rw [← HNX.out], by go_num, HR.out, HX.out, HW.out, HB.out⟩, by simp [intOf]; omega⟩
    · obtain rfl : k = ls.length := by omega
      rw [List.take_length]
      have hjl : (joinC 124 ls).length ≤ 40868 := by have h := join_bd HLN.out hml ls.length; rwa [List.take_length] at h
      clear HW HLN
      generalize joinC 124 ls = J at *
      have HTX := hide (show (⟨#[108, 111, 97, 100, 32]⟩ : ByteArray) ++ bs J = bs (loadT ++ 32 :: J) from by
        rw [show (⟨#[108, 111, 97, 100, 32]⟩ : ByteArray) = bs [108, 111, 97, 100, 32] from rfl, bs_app]
        rfl)
      have hs3 : ¬ 9223372036854775807 < 5 + (bs J).size := by rw [bs_size]; omega
      have HC1 := hide (deskLine_any none [] 0 (loadT ++ 32 :: J) wr ⟨Rd.nil _, fun o ho => by cases ho⟩ ⟨by simp, fun o ho => by cases ho⟩ (fun o ho => by cases ho) (fun o ho => by cases ho) (Nat.le_refl _) (by rw [List.length_append, List.length_cons]; have : loadT.length = 4 := rfl; omega) (HE.out.below HB.out))
      rw [show List.map OV.d ([] : List OV) = [] from rfl, HDL.out, ← HTX.out] at HC1
      go_wp2_with fail
      refine HC1.out.mono ?_
      clear HC1 HTX HDL hs3
      rintro e w6 ⟨A6, c6, os6, rfl, hd6, own6, b6⟩
      replace HR := hide (HR.out.call b6)
      replace HB := hide (HB.out.trans (b6.mono HB.out.size))
      replace HX := hide (HX.out.call b6)
      clear b6
      have hd6' : os6.map OV.d = [o.d] := hd6
      have hok6 : objsOk (os6.map OV.d) = true := by rw [hd6']; simp [objsOk, HOK2.out]
      obtain ⟨f1, f2, f3⟩ := own_fits own6 hok6
      have HC2 := hide (deskLine_any A6 os6 c6 (linkT ++ 32 :: sixteen) w6 own6.rd f1 f2 (fun x hx => by
        have h := List.mem_map_of_mem (f := OV.d) hx
        rw [hd6', List.mem_singleton] at h
        rw [h]
        exact HIN.out) f3 (by decide) (HE.out.below HB.out))
      rw [hd6', desk_link HOK2.out] at HC2
      clear hd6 hd6' hok6 f1 f2 f3 own6
      go_wp2_with fail
      refine HC2.out.mono ?_
      clear HC2
      rintro e w7 ⟨A7, c7, os7, rfl, hd7, own7, b7⟩
      replace HR := hide (HR.out.call b7)
      replace HB := hide (HB.out.trans (b7.mono HB.out.size))
      replace HX := hide (HX.out.call b7)
      clear b7
      clear hd7 own7
      have x0 := HX.out.cell 0
      have x1 := HX.out.cell 1
      simp only [List.getElem?_toArray, List.getElem?_cons_zero, List.getElem?_cons_succ] at x0 x1
      have hxl := HX.out.lt
      have B8 : Below w7.heap.size w7 (w7.alloc (.cells #[.slice o.A o.ps.length o.c, .slice o.Y o.ys.length o.yc] 26)) := (by repeat (first | exact Below.refl _ _ | with_reducible assumption | (refine Below.drew ?_) | (refine Below.drewN ?_ _) | (refine Below.alloc ?_ (by simp; try omega) _) | (refine Below.setCell ?_ (by simp; try omega) _)))
      have HY := hide (Box.new w7 26 #[.slice o.A o.ps.length o.c, .slice o.Y o.ys.length o.yc])
      replace HR := hide (HR.out.call B8)
      replace HB := hide (HB.out.trans (B8.mono HB.out.size))
      replace HX := hide (HX.out.call B8)
      clear B8
      go_wp2_with fail
      clear x0 x1 hxl
      generalize w7.alloc (.cells #[.slice o.A o.ps.length o.c, .slice o.Y o.ys.length o.yc] 26) = w8 at *
      generalize w7.heap.size = Y at *
      refine (linkOne_any o 16 Y w8 HY.out HR.out HFT.out HNL.out).mono ?_
      rintro e w9 ⟨A9, c9, rfl, row9, b9⟩
      have HW9 := hide row9
      replace HB := hide (HB.out.trans (b9.mono HB.out.size))
      clear b9
      have HI9 := hide (link_in (l := [o.d]) (base := 16) (fun x hx => by rw [List.mem_singleton.1 hx]; exact HIN.out))
      have hr9 := link_len (l := [o.d]) (base := 16)
      clear row9
      generalize linkR [o.d] 16 = r at *
      obtain ⟨r1, r2, r3⟩ := r
      simp only at HW9 HI9 hr9 ⊢
      have HCA := hide (show codeA (r1, r2, r3) = (if r3 = 1 then twiceT else if r3 = 2 then missT else if r3 = 3 then rangeT else if ¬ r3 = 0 then noT else if r2.length = 0 then emptyT else hexL r2) from rfl)
      generalize codeA (r1, r2, r3) = ca at *
      have hq1 : ((bs okT).toList == [111, 107]) = true := text_eq rfl
      have B10 : Below w9.heap.size w9 (w9.alloc (.cells #[.int .i64 r1, .slice A9 r2.length c9] 36)) := (by repeat (first | exact Below.refl _ _ | with_reducible assumption | (refine Below.drew ?_) | (refine Below.drewN ?_ _) | (refine Below.alloc ?_ (by simp; try omega) _) | (refine Below.setCell ?_ (by simp; try omega) _)))
      have HZ := hide (Box.new w9 36 #[.int .i64 r1, .slice A9 r2.length c9])
      have HRD := hide ((HW9.out.rd.below B10).more B10.size)
      replace HB := hide (HB.out.trans (B10.mono HB.out.size))
      clear B10
      have z1 := HZ.out.cell 1
      simp only [List.getElem?_toArray, List.getElem?_cons_zero, List.getElem?_cons_succ] at z1
      have hzl := HZ.out.lt
      by_cases h3 : r3 = 0
      · have e3 : (r3 != 0) = false := by rw [bne, beq_iff_eq.2 h3]; rfl
        have HC3 := hide (HCA.out.trans (show _ = (if r2.length = 0 then emptyT else hexL r2) from by rw [if_neg (by omega), if_neg (by omega), if_neg (by omega), if_neg (by omega)]))
        clear HCA h3
        by_cases h5 : r2.length = 0
        · obtain rfl : ca = emptyT := HC3.out.trans (if_pos h5)
          have e5 : ((r2.length : Int) == 0) = true := beq_iff_eq.2 (by omega)
          have hq2 : ((bs emptyT).toList == [101, 109, 112, 116, 121]) = true := text_eq rfl
          clear h5 HC3
          go_wp2_with fail
          go_ret
          exact ⟨rfl, HB.out⟩
        · obtain rfl : ca = hexL r2 := HC3.out.trans (if_neg h5)
          have e5 : ((r2.length : Int) == 0) = false := beq_eq_false_iff_ne.2 (by omega)
          have e6 : decide (0 < r2.length) = true := decide_eq_true (by omega)
          have e7 : decide (0 < (r2.length : Int)) = true := decide_eq_true (by omega)
          have hq3 : ((bs (hexL r2)).toList == (bs (hexL r2)).toList) = true := by simp
          clear h5 HC3
          go_wp2_with fail
          refine (hexText_any A9 r2 c9 _ HRD.out HI9.out (by omega)).mono ?_
          rintro e w10 ⟨rfl, b10⟩
          replace HB := hide (HB.out.trans (b10.mono HB.out.size))
          clear b10
          clear z1
          go_wp2_with fail
          go_ret
          exact ⟨rfl, HB.out⟩
      · have e3 : (r3 != 0) = true := bne_iff_ne.2 h3
        clear h3 HCA
        go_wp2_with fail
        go_ret
        exact ⟨rfl, HB.out⟩
end Go.Proofs.YtepoiphmmjfbdaaGreatDoor.WFnDeskLoad
