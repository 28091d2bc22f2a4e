/- The walk of FnMachineValid: machines are valid. -/
import Derived.Test.YtjnnjgogpapbhaaDMachine
import Derived.Test.YtjnnjgogpapbhaaCMachine
import Derived.Test.YtjnnjgogpapbhaaCAlive
namespace Go.Proofs.Ytjnnjgogpapbhaa.WFnMachineValid
set_option maxRecDepth 200000
open Go.ChangeShapes Go.WideShapes Go.ChangeAt Go.RowKit Kit CCode CMachine DPick DVar DFrames DMachine CAlive
theorem mach_neg (st ca : List Int) : machOk (-1) st ca = false := by simp [machOk]
theorem mach_ok {a : Int} {st ca : List Int} (h : machOk a st ca = true) : machOk a [] ca = true := by
  simp only [machOk, Bool.and_eq_true] at h ⊢
  exact ⟨⟨⟨⟨h.1.1.1.1, by decide⟩, h.1.1.2⟩, rfl⟩, h.2⟩
def DrewMV (w : World) (e : Ending) (w' : World) : Prop := ∃ (a : Int) (S C : Option Addr) (st ca : List Int) (cs cc : Nat), e = .returned (.agg #[.int .i64 a, .slice S st.length cs, .slice C ca.length cc]) ∧ st.length ≤ 9 ∧ ca.length ≤ 9 ∧ Rd w' w'.heap.size S (ints .i64 st) ∧ Rd w' w'.heap.size C (ints .i64 ca) ∧ Below w.heap.size w w'
set_option maxHeartbeats 4000000 in
theorem draw_any {A : Option Addr} {zs : List Int} {c : Nat} {w : World} (hr : Rd w w.heap.size A (ints .u8 zs)) (hz : InR 0 255 zs) (hc : zs.length ≤ c) (hcm : c ≤ maxLen) :
    Calls Try.prog 7 #[.slice A zs.length c] w (DrewMV w) := by
  have b0 : Below w.heap.size w (w.alloc (.cells #[.int .i64 0, .slice none 0 0, .slice none 0 0] 25)) := (by repeat (first | exact Below.refl _ _ | with_reducible assumption | (refine Below.drew ?_) | (refine Below.drewN ?_ _) | (refine Below.alloc ?_ (by simp; try omega) _) | (refine Below.setCell ?_ (by simp; try omega) _)))
  have HO := hide (open_any A zs c _ ((hr.below b0).more b0.size) hz hc hcm)
  have HX := hide (Box.new w 25 #[.int .i64 0, .slice none 0 0, .slice none 0 0])
  have HB0 := hide b0
  clear hr hz hc hcm b0
  go_enter Try.func7, Try.ntmps7
  go_wp2_with fail
  refine HO.out.mono ?_
  rintro e w1 ⟨R, rfl, T, b1⟩
  have T0 := Tp.start T
  have hRl := T.1
  have X1 := HX.out.call b1
  have B1 := HB0.out.trans (b1.mono HB0.out.size)
  have hY1 := X1.lt
  go_wp2_with fail
  refine (machine_any T0 (by omega) (by omega) _ (by omega) (by omega)).mono ?_
  rintro e w2 ⟨a, S, C, st, ca, cs, cc, rfl, _, _, l0, l1, _, _, _, _, _, _, s2, c2, T2⟩
  have hsz : (w.alloc (.cells #[.int .i64 0, .slice none 0 0, .slice none 0 0] 25)).heap.size = w.heap.size + 1 := by simp
  have X2 := X1.grown T2.2 (fun k hk => by injection hk with hk; omega)
  have B2 := B1.trans (T2.below B1.size (show w.heap.size ≤ R by omega))
  have HX2 := hide X2
  have HS2 := hide s2
  have HC2 := hide c2
  have q0 := X2.cell 0
  have q1 := X2.cell 1
  have q2 := X2.cell 2
  have f0 := X2.frozen 0
  have f1 := X2.frozen 1
  have f2 := X2.frozen 2
  clear X1 X2 T T0 T2 b1 B1 hsz HX HO HB0 s2 c2
  go_wp2_with fail
  have x3 := ((HX2.out.set 0 (.int .i64 a)).set 1 (.slice S st.length cs)).set 2 (.slice C ca.length cc)
  have c0 := x3.cell 0
  have c1 := x3.cell 1
  have c2 := x3.cell 2
  simp only [List.setIfInBounds_toArray, List.set_cons_zero, List.set_cons_succ, List.getElem?_toArray, List.getElem?_cons_zero, List.getElem?_cons_succ] at c0 c1 c2
  exact bodyPost_ret (v := .agg #[.int .i64 a, .slice S st.length cs, .slice C ca.length cc]) (by simp [results, Try.results7, go_sem, c0, c1, c2]) rfl
    ⟨a, S, C, st, ca, cs, cc, rfl, l0, l1, (((HS2.out.far (a := ⟨w.heap.size, 0, none⟩) hY1 _).far (a := ⟨w.heap.size, 1, none⟩) hY1 _).far (a := ⟨w.heap.size, 2, none⟩) hY1 _).rd, (((HC2.out.far (a := ⟨w.heap.size, 0, none⟩) hY1 _).far (a := ⟨w.heap.size, 1, none⟩) hY1 _).far (a := ⟨w.heap.size, 2, none⟩) hY1 _).rd, ((B2.setCell (Nat.le_refl _) _).setCell (Nat.le_refl _) _).setCell (Nat.le_refl _) _⟩
set_option maxHeartbeats 4000000 in
theorem walk (A : Option Addr) (zs : List Int) (c : Nat) (hl : zs.length ≤ c) (hc : c ≤ maxLen) (hz : InR 0 255 zs) (w : World) (hr : Rd w w.heap.size A (ints .u8 zs)) :
    Calls Try.prog 3 #[.slice A zs.length c] w (LawEnds w) := by
  have hcm := hc
  unfold maxLen at hcm
  have HD := hide (draw_any hr hz hl hc)
  clear hr hz hc
  by_cases hbig : 1048576 < zs.length
  · go_enter Try.func3, Try.ntmps3
    go_wp2_with fail
    go_ret
    exact ⟨rfl, Below.refl _ _⟩
  go_enter Try.func3, Try.ntmps3
  go_wp2_with fail
  refine HD.out.mono ?_
  rintro e w1 ⟨a, S, C, st, ca, cs, cc, rfl, l0, l1, r0, r1, b1⟩
  have m0 : st.length ≤ maxLen := by unfold maxLen; omega
  have m1 : ca.length ≤ maxLen := by unfold maxLen; omega
  have B1 : Below w1.heap.size w1 (w1.alloc (.cells #[.int .i64 a, .slice S st.length cs, .slice C ca.length cc] 25)) := (by repeat (first | exact Below.refl _ _ | with_reducible assumption | (refine Below.drew ?_) | (refine Below.drewN ?_ _) | (refine Below.alloc ?_ (by simp; try omega) _) | (refine Below.setCell ?_ (by simp; try omega) _)))
  have HX := hide (Box.new w1 25 #[.int .i64 a, .slice S st.length cs, .slice C ca.length cc])
  have HB := hide (b1.trans (B1.mono b1.size))
  have HR0 := hide (r0.below B1)
  have HR1 := hide (r1.below B1)
  have hs := B1.size
  have HV := hide (fun (a : Int) (S C : Option Addr) (st ca : List Int) (cs cc : Nat) (w : World) h h' h1 h2 => machineValid_any a S C st ca cs cc 0 0 w h h' h1 h2)
  clear b1 r0 r1 B1 HD
  go_wp2_with fail
  refine (HV.out a S C st ca cs cc _ (HR0.out.more hs) (HR1.out.more hs) m0 m1).mono ?_
  rintro e w2 ⟨rfl, b2⟩
  have HX2 := hide (HX.out.call b2)
  have HB2 := hide (HB.out.trans (b2.mono HB.out.size))
  have HR2 := hide (HR0.out.below (b2.mono hs))
  have HR3 := hide (HR1.out.below (b2.mono hs))
  have hs2 := Nat.le_trans hs b2.size
  have q0 := HX2.out.cell 0
  have q1 := HX2.out.cell 1
  have q2 := HX2.out.cell 2
  simp only [List.getElem?_toArray, List.getElem?_cons_zero, List.getElem?_cons_succ] at q0 q1 q2
  clear b2 HB HX HR0 HR1
  go_wp2_with fail
  refine (machineValidS_any a S C st ca cs cc w2 (HR2.out.more hs2) (HR3.out.more hs2) m0 m1).mono ?_
  rintro e w3 ⟨rfl, b3⟩
  have HX3 := hide (HX2.out.call b3)
  have HB3 := hide (HB2.out.trans (b3.mono HB2.out.size))
  have HR4 := hide (HR2.out.below (b3.mono hs2))
  have HR5 := hide (HR3.out.below (b3.mono hs2))
  have hs3 := Nat.le_trans hs2 b3.size
  clear q0 q1 q2
  have q0 := HX3.out.cell 0
  have q1 := HX3.out.cell 1
  have q2 := HX3.out.cell 2
  simp only [List.getElem?_toArray, List.getElem?_cons_zero, List.getElem?_cons_succ] at q0 q1 q2
  clear b3 HB2 HX2 HR2 HR3
  have HN := hide (mach_neg st [])
  have HO := hide (mach_ok (a := a) (st := st) (ca := ca))
  generalize machOk a st ca = ok at *
  go_wp2_with fail
  refine (HV.out (-1) S none st [] cs 0 w3 (HR4.out.more hs3) (Rd.nil _) m0 (Nat.zero_le _)).mono ?_
  rintro e w4 ⟨rfl, b4⟩
  rw [HN.out]
  have HX4 := hide (HX3.out.call b4)
  have HB4 := hide (HB3.out.trans (b4.mono HB3.out.size))
  have HR6 := hide (HR5.out.below (b4.mono hs3))
  have hs4 := Nat.le_trans hs3 b4.size
  clear q0 q1 q2
  have q0 := HX4.out.cell 0
  have q2 := HX4.out.cell 2
  simp only [List.getElem?_toArray, List.getElem?_cons_zero, List.getElem?_cons_succ] at q0 q2
  clear b4 HB3 HX3 HR4 HR5
  cases ok
  · go_wp2_with fail
    refine (alive_any _).mono ?_
    rintro e w' ⟨rfl, rfl⟩
    go_wp2_with fail
    go_ret
    exact ⟨rfl, HB4.out⟩
  · have HK := hide (HO.out rfl)
    go_wp2_with fail
    refine (HV.out a none C [] ca 0 cc w4 (Rd.nil _) (HR6.out.more hs4) (Nat.zero_le _) m1).mono ?_
    rintro e w5 ⟨rfl, b5⟩
    rw [HK.out]
    have HB5 := hide (HB4.out.trans (b5.mono HB4.out.size))
    clear b5
    go_wp2_with fail
    refine (alive_any _).mono ?_
    rintro e w' ⟨rfl, rfl⟩
    go_wp2_with fail
    go_ret
    exact ⟨rfl, HB5.out⟩
end Go.Proofs.Ytjnnjgogpapbhaa.WFnMachineValid
