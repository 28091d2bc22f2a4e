/- The draw of a program's bytes. -/
import Derived.Test.YtjnnjgogpapbhaaDCode
import Derived.Test.YtjnnjgogpapbhaaCPutCode
import Derived.Test.YtjnnjgogpapbhaaBase5
import Derived.IntWalk
namespace Go.Proofs.Ytjnnjgogpapbhaa.DProgram
set_option maxRecDepth 200000
open Go.ChangeShapes Go.WideShapes Go.ChangeAt Go.RowKit Kit CCode CNumber CPutCode DPick DVar DCode
theorem Tp.tr {w0 w w' : World} {B R : Nat} {N N' : Int} (h : Tp w0 w B R N) (k : Tp w w' B R N') : Tp w0 w' B R N' := ⟨k.1, grown_trans h.2 k.2⟩
theorem pcode_len (a b : Int) : (pcode a b).length ≤ 3 := by
  unfold pcode
  split
  · split
    · rw [List.length_cons, putL_len]
      omega
    · simp
  · simp
theorem putL_in (n : Nat) : ∀ x, 0 ≤ x → InR 0 255 (putL n x) := by
  induction n with
  | zero => intro x _ y hy; simp [putL] at hy
  | succ n ih =>
    intro x hx y hy
    simp only [putL, List.mem_cons] at hy
    rcases hy with rfl | hy
    · omega
    · exact ih _ (by omega) y hy
theorem pcode_in (a b : Int) : InR 0 255 (pcode a b) := by
  unfold pcode
  split
  · rename_i h
    simp only [codeOk, decide_eq_true_eq] at h
    intro y hy
    rcases List.mem_cons.1 hy with rfl | hy
    · omega
    · split at hy
      · exact putL_in 2 b h.2.2.1 y hy
      · simp at hy
  · intro y hy
    simp at hy
def DrewP (w0 w : World) (B R : Nat) (N : Int) (e : Ending) (w' : World) : Prop := ∃ (A : Option Addr) (zs : List Int) (c : Nat), e = .returned (.slice A zs.length c) ∧ zs.length ≤ 21 ∧ InR 0 255 zs ∧ Row w' w.heap.size 5 1 A zs.length c (ints .u8 zs) ∧ Tp w0 w' B R N
set_option maxHeartbeats 2000000 in
theorem program_any {w0 w : World} {B R : Nat} {N : Int} (T : Tp w0 w B R N) (hN : N ≤ 1000) (hN0 : 0 ≤ N) :
    Calls Try.prog 62 #[.pointer (some ⟨R, 0, none⟩)] w (DrewP w0 w B R (N + 100)) := by
  obtain ⟨i0, hi, hz0, hz1, hz2⟩ := info_parts CNumber.info8
  go_enter Try.func62, Try.ntmps62
  go_wp2_with fail
  have T1 := T.alloc (.cells #[] 5)
  have hRw := T.lt
  have hw0 := T.2.size
  refine (pick_tp T1 (by omega) _ (by omega) (by omega)).mono ?_
  rintro e w1 ⟨k, rfl, k0, k1, T2, g2⟩
  have HT2 := hide T2
  have hs2 : w.heap.size ≤ w1.heap.size := by have := g2.size; simp at this; omega
  obtain ⟨j, rfl⟩ := Int.eq_ofNat_of_zero_le k0
  clear T T1 T2 g2
  go_wp2_with fail
  go_loopw [3, 4] (fun b k wr => ∃ (i : Nat) (A : Option Addr) (l c : Nat) (zs : List Int), k = .int .i64 i ∧ b = .slice A l c ∧ l = zs.length ∧ i ≤ 7 ∧ zs.length + 3 * i ≤ 21 ∧ InR 0 255 zs ∧ Row wr w.heap.size 5 1 A l c (ints .u8 zs) ∧ Tp w0 wr B R (N + 2 + 12 * (7 - i : Int)) ∧ w.heap.size ≤ wr.heap.size) (fun _ k _ => (intOf k).toNat)
  case atStart => exact ⟨j, some ⟨w.heap.size, 0, none⟩, 0, 0, [], rfl, rfl, rfl, by omega, by simp; omega, fun x hx => by simp at hx, Row.empty _ _ _ _ _, HT2.out.more (by omega), hs2⟩
  case round =>
    obtain ⟨i, A, l, c, zs, rfl, rfl, hl, hi7, hlz, hin, hrow, T, hsz⟩ := hrel
    have HI := hide hin
    have HR := hide hrow
    have HT := hide T
    have HL := hide hl
    clear hin hrow T hl HT2
    by_cases h0 : 0 < i
    · go_wp2_with fail
      refine (code_any (Tp.start HT.out.1) (by omega) 0 (by omega) (by omega)).mono ?_
      rintro e w2 ⟨a, b, rfl, a0, a1, b0, b1, T2⟩
      have HT2 := hide (Tp.tr HT.out T2)
      have HR2 := hide (HR.out.grown T2.2 (fun k hk hR => by injection hR with hR; have := (HR.out.lt k hk).1; omega))
      have hs2 : w.heap.size ≤ w2.heap.size := Nat.le_trans hsz T2.2.size
      have hR2 := T2.lt
      clear T2 HT HR
      have X := hide (Box.new w2 78 #[.int .i64 a, .int .i64 b])
      have T3 := hide (HT2.out.alloc (.cells #[.int .i64 a, .int .i64 b] 78))
      have HR3 := hide (HR2.out.alloc (.cells #[.int .i64 a, .int .i64 b] 78))
      have hX := X.out.lt
      cases hj : inB a 4 6
      · go_wp2_with fail
        refine (l1In_any _ _ _ _).mono ?_
        rintro e w' ⟨rfl, rfl⟩
        rw [hj]
        go_wp2_with fail
        have hs3 : w.heap.size ≤ (w2.alloc (.cells #[.int .i64 a, .int .i64 b] 78)).heap.size := by simp; omega
        generalize (w2.alloc (.cells #[.int .i64 a, .int .i64 b] 78)) = w3 at *
        refine (putCodeS_any a b w3).mono ?_
        have hpl := pcode_len a b
        have HPI := hide (pcode_in a b)
        generalize pcode a b = ys at *
        rintro e w4 ⟨A4, c4, rfl, o4, b4⟩
        have HR4 := hide (HR3.out.call b4)
        have HO4 := hide o4
        have HT4 := hide (T3.out.call b4)
        have hs4 : w.heap.size ≤ w4.heap.size := Nat.le_trans hs3 b4.size
        clear o4 b4 T3 HR3 HR2 HT2
        have hn1 : l + ys.length ≤ maxLen := by have := HL.out; unfold maxLen; omega
        have hn2 : (l + ys.length) * 1 ≤ 140737488355328 := by have := HL.out; omega
        have HN := hide (And.intro hn1 hn2)
        clear hn1 hn2
        go_wp2_with (at_builtin; refine wpList_app w4 rfl (.tmp 21) (.tmp 23) 22 rfl 5 i0 (.int .u8 0) 1 1 Try.underlying22 hi hz0 hz1 hz2 rfl (by decide) w.heap.size A l c _ rfl HR4.out hs4 A4 ys.length c4 (ints .u8 ys) rfl (Rd.of_own HO4.out) (by simp) (own_nil HO4.out) oneI HN.out.1 HN.out.2 ?_)
        intro A5 n5 c5 w5 hn5 o5 g5 k5
        have HO5 := hide o5
        have HN5 := hide hn5
        have HT5 := hide (HT4.out.own g5 (fun k hk => ⟨by have := (HR4.out.lt k hk).1; omega, by have := (HR4.out.lt k hk).1; omega⟩))
        have HZ5 := hide (show n5 = (zs ++ ys).length by rw [hn5, HL.out]; simp)
        have hs5 : w.heap.size ≤ w5.heap.size := Nat.le_trans hs4 g5.size
        have hlz5 : (zs ++ ys).length + 3 * (i - 1) ≤ 21 := by rw [List.length_append]; omega
        have hin5 : InR 0 255 (zs ++ ys) := fun x hx => by
          rcases List.mem_append.1 hx with hx | hx
          · exact HI.out x hx
          · exact HPI.out x hx
        have hr5 : Row w5 w.heap.size 5 1 A5 n5 c5 (ints .u8 (zs ++ ys)) := by simpa [ints] using o5
        have HF := hide (And.intro hlz5 (And.intro hin5 (And.intro hr5 hs5)))
        clear hn5 o5 g5 k5 hs4 HR4 HO4 hlz5 hin5 hr5 hs5 HT4
        go_wp2_with fail
        refine ⟨⟨i - 1, A5, n5, c5, zs ++ ys, by go_num, rfl, HZ5.out, by omega, HF.out.1, HF.out.2.1, HF.out.2.2.1, HT5.out.more (by omega), HF.out.2.2.2⟩, by simp [intOf]; omega⟩
      · go_wp2_with fail
        refine (l1In_any _ _ _ _).mono ?_
        rintro e w' ⟨rfl, rfl⟩
        rw [hj]
        go_wp2_with fail
        refine (pick_tp T3.out (by omega) _ (by omega) (by omega)).mono ?_
        rintro e w6 ⟨y, rfl, y0, y1, T6, g6⟩
        have X6 := X.out.grown g6 (fun k hk => by injection hk with hk; omega)
        have HR6 := HR3.out.grown g6 (fun k hk hR => by injection hR with hR; have := (HR3.out.lt k hk).1; omega)
        have x0 := X6.cell 0
        have x1 := X6.cell 1
        have f1 := X6.frozen 1
        have hX6 := X6.lt
        simp only [List.getElem?_toArray, List.getElem?_cons_zero, List.getElem?_cons_succ] at x0 x1
        have hs6 : w.heap.size ≤ w6.heap.size := by have := g6.size; simp at this; omega
        have b7 : Below w6.heap.size w6 w6 := Below.refl _ _
        have HT7 := hide (T6.set (a := ⟨w2.heap.size, 1, none⟩) (Nat.le_trans hw0 hs2) hR2 (.int .i64 y))
        have HR7 := hide (HR6.set (a := ⟨w2.heap.size, 1, none⟩) (HR6.box X6 (by decide)) (.int .i64 y))
        have hs7 : w.heap.size ≤ (w6.setCell ⟨w2.heap.size, 1, none⟩ (.int .i64 y)).heap.size := by simpa [World.setCell] using hs6
        clear T6 g6 X6 HR6 b7 T3 HR3 HR2 HT2
        go_wp2_with fail
        clear x0 x1 f1
        generalize (w6.setCell ⟨w2.heap.size, 1, none⟩ (.int .i64 y)) = w3 at *
        have T3 := HT7
        have HR3 := HR7
        have hs3 := hs7
        refine (putCodeS_any a y w3).mono ?_
        have hpl := pcode_len a y
        have HPI := hide (pcode_in a y)
        generalize pcode a y = ys at *
        rintro e w4 ⟨A4, c4, rfl, o4, b4⟩
        have HR4 := hide (HR3.out.call b4)
        have HO4 := hide o4
        have HT4 := hide (T3.out.call b4)
        have hs4 : w.heap.size ≤ w4.heap.size := Nat.le_trans hs3 b4.size
        clear o4 b4 T3 HR3 HT7 HR7
        have hn1 : l + ys.length ≤ maxLen := by have := HL.out; unfold maxLen; omega
        have hn2 : (l + ys.length) * 1 ≤ 140737488355328 := by have := HL.out; omega
        have HN := hide (And.intro hn1 hn2)
        clear hn1 hn2
        go_wp2_with (at_builtin; refine wpList_app w4 rfl (.tmp 21) (.tmp 23) 22 rfl 5 i0 (.int .u8 0) 1 1 Try.underlying22 hi hz0 hz1 hz2 rfl (by decide) w.heap.size A l c _ rfl HR4.out hs4 A4 ys.length c4 (ints .u8 ys) rfl (Rd.of_own HO4.out) (by simp) (own_nil HO4.out) oneI HN.out.1 HN.out.2 ?_)
        intro A5 n5 c5 w5 hn5 o5 g5 k5
        have HO5 := hide o5
        have HN5 := hide hn5
        have HT5 := hide (HT4.out.own g5 (fun k hk => ⟨by have := (HR4.out.lt k hk).1; omega, by have := (HR4.out.lt k hk).1; omega⟩))
        have HZ5 := hide (show n5 = (zs ++ ys).length by rw [hn5, HL.out]; simp)
        have hs5 : w.heap.size ≤ w5.heap.size := Nat.le_trans hs4 g5.size
        have hlz5 : (zs ++ ys).length + 3 * (i - 1) ≤ 21 := by rw [List.length_append]; omega
        have hin5 : InR 0 255 (zs ++ ys) := fun x hx => by
          rcases List.mem_append.1 hx with hx | hx
          · exact HI.out x hx
          · exact HPI.out x hx
        have hr5 : Row w5 w.heap.size 5 1 A5 n5 c5 (ints .u8 (zs ++ ys)) := by simpa [ints] using o5
        have HF := hide (And.intro hlz5 (And.intro hin5 (And.intro hr5 hs5)))
        clear hn5 o5 g5 k5 hs4 HR4 HO4 hlz5 hin5 hr5 hs5 HT4
        go_wp2_with fail
        refine ⟨⟨i - 1, A5, n5, c5, zs ++ ys, by go_num, rfl, HZ5.out, by omega, HF.out.1, HF.out.2.1, HF.out.2.2.1, HT5.out.more (by omega), HF.out.2.2.2⟩, by simp [intOf]; omega⟩
    · have e : i = 0 := by omega
      subst e
      clear h0
      go_wp2_with fail
      go_ret
      have h := HL.out
      subst h
      exact ⟨A, zs, c, rfl, by omega, HI.out, HR.out, HT.out.more (by omega)⟩
end Go.Proofs.Ytjnnjgogpapbhaa.DProgram
