/- The walk of FnExactPutCode: the program's PutCode and the reference's answer alike; its result is memory of its own. -/
import Derived.Test.YtbnepccneooemaaCPutCode
import Derived.Test.YtbnepccneooemaaCBytes
namespace Go.Proofs.Ytbnepccneooemaa.WFnExactPutCode
set_option maxRecDepth 200000
open Go.ChangeShapes Go.WideShapes Go.ChangeAt Go.RowKit Kit CCode CPutCode CBytes
theorem pcode_bd (a b : Int) : (pcode a b).length ≤ 3 ∧ InR 0 255 (pcode a b) := by
  unfold pcode
  cases hv : codeOk a b
  · exact ⟨by simp, fun x hx => by simp at hx⟩
  · simp only [codeOk, decide_eq_true_eq] at hv
    cases hA : hasArgB a
    · exact ⟨by simp, fun x hx => by simp at hx; omega⟩
    · refine ⟨by simp [CNumber.putL_len], fun x hx => ?_⟩
      simp only [if_true, List.mem_cons] at hx
      rcases hx with rfl | hx
      · omega
      · exact CNumber.putL_bd 2 b x hx
theorem walk (a0 b0 : Int) (_ : -9223372036854775808 ≤ a0) (_ : a0 ≤ 9223372036854775807) (_ : -9223372036854775808 ≤ b0) (_ : b0 ≤ 9223372036854775807) (w : World) :
    Calls Try.prog 11 #[.agg #[.int .i64 a0, .int .i64 b0]] w (LawEnds w) := by
  obtain ⟨hl, hz⟩ := pcode_bd a0 b0
  have hm : (pcode a0 b0).length ≤ maxLen := by unfold maxLen; omega
  generalize hV : pcode a0 b0 = zs at *
  have HV := hide hV
  clear hV
  have X0 := Box.new w 71 #[.int .i64 a0, .int .i64 b0]
  have B0 : Below w.heap.size w (w.alloc (.cells #[.int .i64 a0, .int .i64 b0] 71)) := (by repeat (first | exact Below.refl _ _ | with_reducible assumption | (refine Below.drew ?_) | (refine Below.drewN ?_ _) | (refine Below.alloc ?_ (by simp; try omega) _) | (refine Below.setCell ?_ (by simp; try omega) _)))
  go_enter Try.func11, Try.ntmps11
  go_wp2_with fail
  refine (toCode_any a0 b0 _).mono ?_
  rintro e w1 ⟨rfl, b1⟩
  have B1 := B0.trans (b1.mono B0.size)
  have X1 := X0.call b1
  go_wp2_with fail
  refine (putCodeS_any a0 b0 w1).mono ?_
  rw [HV.out]
  rintro e w2 ⟨A2, c2, rfl, o2, b2⟩
  have B2 := B1.trans (b2.mono B1.size)
  have X2 := X1.call b2
  have r2 := Rd.of_own o2
  have q0 := X2.cell 0
  have q1 := X2.cell 1
  simp only [List.getElem?_toArray, List.getElem?_cons_zero, List.getElem?_cons_succ] at q0 q1
  go_wp2_with fail
  refine (toCode_any a0 b0 _).mono ?_
  rintro e w3 ⟨rfl, b3⟩
  have B3 := B2.trans (b3.mono B2.size)
  have X3 := X2.call b3
  have r3 := (r2.below b3).more b3.size
  clear q0 q1
  go_wp2_with fail
  refine (putCode_any a0 b0 w3).mono ?_
  rw [HV.out]
  rintro e w4 ⟨A4, c4, rfl, o4, b4⟩
  have B4 := B3.trans (b4.mono B3.size)
  have X4 := X3.call b4
  have r4 := r3.below b4
  go_wp2_with fail
  refine (eqByteS_any A4 A2 zs zs c4 c2 _ w4 (Rd.of_own o4) (r4.more b4.size) hm hm).mono ?_
  rintro e w5 ⟨rfl, n5, rfl⟩
  simp only [beq_self_eq_true]
  go_wp2_with fail
  refine (mark_any w3.heap.size A4 c4 zs 1 (w4.drewN n5) (by omega) (by omega) (by omega) o4).mono ?_
  rintro e w6 ⟨rfl, o6, g6⟩
  have b6 : Below w3.heap.size w3 w6 := (Kit.Below.drewN b4 n5).grown g6 (show w3.heap.size ≤ w4.heap.size from b4.size) (fun k hk => (o4.lt k hk).1)
  have B6 := B3.trans (b6.mono B3.size)
  have X6 := X3.below b6 X3.lt
  have r6 := Rd.of_own o6
  have r36 := r3.below b6
  go_wp2_with fail
  refine (held_any _ A4 c4 zs.length 1 w6 (by omega) (by omega) (by omega) r6).mono ?_
  rintro e w7 ⟨rfl, rfl⟩
  have q0 := X6.cell 0
  have q1 := X6.cell 1
  simp only [List.getElem?_toArray, List.getElem?_cons_zero, List.getElem?_cons_succ] at q0 q1
  go_wp2_with fail
  refine (toCode_any a0 b0 _).mono ?_
  rintro e w8 ⟨rfl, b8⟩
  have B8 := B6.trans (b8.mono B6.size)
  have r8 := (r6.below b8).more b8.size
  have r38 := r36.below (b8.mono b6.size)
  clear q0 q1
  go_wp2_with fail
  refine (putCode_any a0 b0 w8).mono ?_
  rw [HV.out]
  rintro e w9 ⟨A9, c9, rfl, o9, b9⟩
  have B9 := B8.trans (b9.mono B8.size)
  have r9 := (r8.below b9).more b9.size
  have r39 := r38.below (b9.mono (Nat.le_trans b6.size b8.size))
  go_wp2_with fail
  refine (eqByteS_any A9 A2 zs zs c9 c2 _ w9 (Rd.of_own o9) (r39.more (Nat.le_trans b6.size (Nat.le_trans b8.size b9.size))) hm hm).mono ?_
  rintro e w10 ⟨rfl, n10, rfl⟩
  simp only [beq_self_eq_true]
  have r10 : Rd (w9.drewN n10) w9.heap.size A4 (ints .u8 (marks 1 zs.length)) := r9
  go_wp2_with fail
  refine (held_any _ A4 c4 zs.length 1 _ (by omega) (by omega) (by omega) r10).mono ?_
  rintro e w11 ⟨rfl, rfl⟩
  go_wp2_with fail
  go_ret
  exact ⟨rfl, Kit.Below.drewN B9 n10⟩
end Go.Proofs.Ytbnepccneooemaa.WFnExactPutCode
