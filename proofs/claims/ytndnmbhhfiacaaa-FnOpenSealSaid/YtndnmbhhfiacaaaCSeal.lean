/- Contracts of SealBytes and OpenSeal, the program's and the reference's. -/
import Derived.Test.YtndnmbhhfiacaaaCConcat
import Derived.Test.YtndnmbhhfiacaaaPSeal
import Derived.Test.YtndnmbhhfiacaaaCEqual
import Derived.Deep.QuietTactic
import Derived.BigQuiet
import Derived.IntWalk
namespace Go.Proofs.Ytndnmbhhfiacaaa.CSeal
set_option maxRecDepth 200000
open Go.ChangeShapes Go.WideShapes Go.ChangeAt Go.RowKit Kit CCode CSumOf CNumber PSums PSeal CBytes8 CConcat
theorem pnum2 (zs : List Int) : pnum (sumOf zs) 2 = putL 2 (sumOf zs) := by
  have := sumOf_bd zs
  unfold pnum
  rw [if_pos ⟨by decide, inB_t ⟨this.1, by show sumOf zs ≤ 65535; omega⟩⟩]
  rfl
theorem sealBytes_any (A : Option Addr) (zs : List Int) (c B : Nat) (w : World) (hr : Rd w B A (ints .u8 zs)) (hB : B ≤ w.heap.size) (hz : InR 0 255 zs) (hm : zs.length ≤ 1048576) (hnil : A = none → c = 0) :
    Calls Try.prog 54 #[.slice A zs.length c] w (RetInts 5 .u8 (sealed zs) w) := by
  by_cases hbig : 2000 < zs.length
  · have he : sealed zs = [] := by unfold sealed; rw [if_neg (by omega)]
    rw [he]
    clear hr hz hnil he
    go_enter Try.func54, Try.ntmps54
    go_wp2_with fail
    go_ret
    exact RetInts.nil (Below.refl _ _)
  · have HE := hide (show sealed zs = zs ++ putL 2 (sumOf zs) by unfold sealed; rw [if_pos (by omega)])
    have HP := hide (pnum2 zs)
    have HR := hide hr
    have HZ := hide hz
    have HN := hide hnil
    have hpl := putL_len 2 (sumOf zs)
    have HPL := hide hpl
    clear hr hz hnil hpl
    go_enter Try.func54, Try.ntmps54
    go_wp2_with fail
    refine (sumOf_any A zs c B w HR.out HZ.out (by unfold maxLen; omega)).mono ?_
    rintro e w' ⟨rfl, rfl⟩
    go_wp2_with fail
    refine (putNumber_any _ _ _).mono ?_
    rw [HP.out]
    rintro e w1 ⟨A1, c1, rfl, o1, b1⟩
    have HO1 := hide o1
    have HB1 := hide b1
    clear o1 b1
    have hd2 : (putL 2 (sumOf zs)).length ≤ 1048576 := by rw [HPL.out]; omega
    generalize putL 2 (sumOf zs) = ys at *
    have X1 := Box.new w1 22 #[.slice A zs.length c, .slice A1 ys.length c1]
    have HX1 := hide X1
    have b2 : Below w1.heap.size w1 (w1.alloc (.cells #[.slice A zs.length c, .slice A1 ys.length c1] 22)) := (by repeat (first | exact Below.refl _ _ | with_reducible assumption | (refine Below.drew ?_) | (refine Below.drewN ?_ _) | (refine Below.alloc ?_ (by simp; try omega) _) | (refine Below.setCell ?_ (by simp; try omega) _)))
    have HB2 := hide b2
    clear X1 b2
    go_wp2_with fail
    refine (concat_any w1.heap.size A A1 zs ys c c1 (w1.alloc (.cells #[.slice A zs.length c, .slice A1 ys.length c1] 22)).heap.size _ ((((HR.out.more hB).below HB1.out).more HB1.out.size).below HB2.out |>.more HB2.out.size) (((Rd.of_own HO1.out).below HB2.out).more HB2.out.size) (Nat.le_refl _) hm hd2 HN.out (own_nil HO1.out) HX1.out).mono ?_
    rintro e w3 ⟨A3, c3, rfl, o3, b3⟩
    rw [List.length_append] at o3 ⊢
    have HO3 := hide (own_base o3 (Nat.le_trans HB1.out.size HB2.out.size))
    have HB3 := hide ((HB1.out.trans (HB2.out.mono HB1.out.size)).trans (b3.mono (Nat.le_trans HB1.out.size HB2.out.size)))
    clear o3 b3
    go_wp2_with fail
    go_ret
    rw [HE.out]
    exact RetInts.mk (by simp) HO3.out HB3.out
theorem sealBytesS_any (A : Option Addr) (zs : List Int) (c B : Nat) (w : World) (hr : Rd w B A (ints .u8 zs)) (hB : B ≤ w.heap.size) (hz : InR 0 255 zs) (hm : zs.length ≤ 1048576) (hnil : A = none → c = 0) :
    Calls Try.prog 52 #[.slice A zs.length c] w (RetInts 5 .u8 (sealed zs) w) := by
  obtain ⟨i0, hi, hz0, hz1, hz2⟩ := info_parts CBytes8.info8
  have HO := hide (own_empty (w := w) (E := 5))
  have HB : Hid (Below w.heap.size w (w.alloc (.cells #[] 5))) := (by repeat (first | exact Below.refl _ _ | with_reducible assumption | (refine Below.drew ?_) | (refine Below.drewN ?_ _) | (refine Below.alloc ?_ (by simp; try omega) _) | (refine Below.setCell ?_ (by simp; try omega) _)))
  by_cases hbig : 2000 < zs.length
  · have he : sealed zs = [] := by unfold sealed; rw [if_neg (by omega)]
    rw [he]
    clear hr hz hnil he
    go_enter Try.func52, Try.ntmps52
    go_wp2_with fail
    go_ret
    exact RetInts.mk rfl HO.out HB.out
  · have HE := hide (show sealed zs = zs ++ putL 2 (sumOf zs) by unfold sealed; rw [if_pos (by omega)])
    have HP := hide (pnum2 zs)
    have HR := hide ((hr.more hB).below HB.out)
    have HZ := hide hz
    have HN := hide hnil
    have hpl := putL_len 2 (sumOf zs)
    have HPL := hide hpl
    clear hr hz hnil hpl
    go_enter Try.func52, Try.ntmps52
    go_wp2_with (at_builtin; refine wpList_appR _ rfl (.tmp 7) (.tmp 8) 22 rfl w.heap.size 5 i0 (.int .u8 0) 1 1 Try.underlying22 hi hz0 hz1 hz2 rfl (by decide) _ _ _ _ rfl HR.out ?n0 HN.out oneI _ _ _ rfl HO.out ?n1 ?n2 HB.out.size ?_)
    case n0 => simp
    case n1 => unfold maxLen; omega
    case n2 => omega
    intro A1 n1 c1 w1 hn1 o1 g1
    have hn1 : n1 = zs.length := by omega
    subst hn1
    have o1 : w1.ownsRow w.heap.size 5 1 (.slice A1 zs.length c1) zs.length (ints .u8 zs) := o1
    have HO1 := hide o1
    have HB1 := hide (HB.out.grown g1 HB.out.size (fun k hk => (HO.out.lt k hk).1))
    have HR1 := hide (HR.out.keep (w' := w1) (fun p hp => World.cell?_of_block (g1.block _ (Nat.lt_of_lt_of_le hp HB.out.size) (fun e => by have := (HO.out.lt p.block e.symm).1; omega))))
    clear o1 g1 HO HB HR
    go_wp2_with fail
    refine (sumOfS_any A zs c _ w1 HR1.out HZ.out (by unfold maxLen; omega)).mono ?_
    rintro e w' ⟨rfl, rfl⟩
    go_wp2_with fail
    refine (putNumberS_any _ _ _).mono ?_
    rw [HP.out]
    rintro e w2 ⟨A2, c2, rfl, o2, b2⟩
    have HO2 := hide (own_base o2 HB1.out.size)
    have HO1' := hide (own_call b2 HO1.out)
    have HB2 := hide (HB1.out.trans (b2.mono HB1.out.size))
    have hlt := fun k hk => (o2.lt k hk).1
    have hap : ∀ k, (Value.slice A1 zs.length c1).ownBlock = some k → k < w1.heap.size := fun k hk => (HO1.out.lt k hk).2
    have HAP := hide hap
    have HLT := hide hlt
    have hs2 := HB2.out.size
    have hpl2 := HPL.out
    clear o2 b2 hap hlt
    generalize putL 2 (sumOf zs) = ys at *
    have hn2 : zs.length + ys.length ≤ maxLen := by unfold maxLen; omega
    have hn3 : (zs.length + ys.length) * 1 ≤ 140737488355328 := by omega
    have HN2 := hide (And.intro hn2 hn3)
    clear hpl2 hn2 hn3 HO1 HB1
    go_wp2_with (at_builtin; refine wpList_appO _ rfl (.tmp 9) (.tmp 12) 22 rfl w.heap.size _ 5 i0 (.int .u8 0) 1 1 Try.underlying22 hi hz0 hz1 hz2 rfl (by decide) _ _ _ _ rfl HO2.out oneI _ _ _ rfl HO1'.out HN2.out.1 HN2.out.2 hs2 ?_)
    intro A3 n3 c3 w3 hn3 o3 g3
    subst hn3
    rw [ints_app] at o3
    have HO3 := hide o3
    have HB3 := hide (HB2.out.grown g3 hs2 (fun k hk => (HO1'.out.lt k hk).1))
    clear o3 g3
    go_wp2_with fail
    go_ret
    rw [HE.out]
    exact RetInts.mk (by simp) HO3.out HB3.out
/-- A call hands back a slice of bytes in memory of its own, and a bool. -/
def RetBytesB (T : List Int) (V : Bool) (w : World) (e : Ending) (w' : World) : Prop :=
  ∃ A c, e = .returned (.tuple #[.slice A T.length c, .bool V]) ∧ w'.ownsRow w.heap.size 5 1 (.slice A T.length c) T.length (ints .u8 T) ∧ Below w.heap.size w w'
theorem RetBytesB.mk {T : List Int} {V : Bool} {w w' : World} {A : Option Addr} {n c : Nat} (hn : n = T.length) (ho : w'.ownsRow w.heap.size 5 1 (.slice A n c) n (ints .u8 T)) (hb : Below w.heap.size w w') :
    RetBytesB T V w (.returned (.tuple #[.slice A n c, .bool V])) w' := by
  subst hn
  exact ⟨A, c, rfl, ho, hb⟩
theorem RetBytesB.nil {w w' : World} (hb : Below w.heap.size w w') : RetBytesB [] false w (.returned (.tuple #[.slice none 0 0, .bool false])) w' := ⟨none, 0, rfl, World.ownsRow_nil _ _ _ _, hb⟩
theorem opened_no {zs : List Int} (h : openOk zs = false) : (opened zs).1 = [] ∧ (opened zs).2 = false := by unfold opened; rw [h]; exact ⟨rfl, rfl⟩
theorem opened_yes {zs : List Int} (h : openOk zs = true) : (opened zs).1 = zs.take (zs.length - 2) ∧ (opened zs).2 = true := by unfold opened; rw [if_pos h]; exact ⟨rfl, rfl⟩
theorem open_short {zs : List Int} (h : zs.length < 2) : openOk zs = false := by unfold openOk; rw [decide_eq_false (by omega)]; rfl
theorem open_long {zs : List Int} (h : 2002 < zs.length) : openOk zs = false := by unfold openOk; rw [decide_eq_false (p := zs.length ≤ 2002) (by omega), Bool.and_false]; rfl
theorem open_mid {zs : List Int} (h2 : 2 ≤ zs.length) (hm : zs.length ≤ 2002) : openOk zs = decide (sealed (zs.take (zs.length - 2)) = zs) := by unfold openOk; rw [decide_eq_true h2, decide_eq_true hm]; rfl
theorem openSeal_any (A : Option Addr) (zs : List Int) (c B : Nat) (w : World) (hr : Rd w B A (ints .u8 zs)) (hB : B ≤ w.heap.size) (hz : InR 0 255 zs) (hm : zs.length ≤ 1048576) (hc : zs.length ≤ c) :
    Calls Try.prog 59 #[.slice A zs.length c] w (RetBytesB (opened zs).1 (opened zs).2 w) := by
  by_cases h2 : zs.length < 2
  · obtain ⟨e1, e2⟩ := opened_no (open_short h2)
    rw [e1, e2]
    have hb : inB ((zs.length : Int) - 2) 0 2000 = false := inB_f (by omega)
    clear hr hz e1 e2
    go_enter Try.func59, Try.ntmps59
    go_wp2_with (go_at_call 109; refine (within_any _ _ _ _).mono ?_; rintro e w' ⟨rfl, rfl⟩)
    go_ret2
    exact RetBytesB.nil (Below.refl _ _)
  by_cases h3 : 2002 < zs.length
  · obtain ⟨e1, e2⟩ := opened_no (open_long h3)
    rw [e1, e2]
    have hb : inB ((zs.length : Int) - 2) 0 2000 = false := inB_f (by omega)
    clear hr hz e1 e2
    go_enter Try.func59, Try.ntmps59
    go_wp2_with (go_at_call 109; refine (within_any _ _ _ _).mono ?_; rintro e w' ⟨rfl, rfl⟩)
    go_ret2
    exact RetBytesB.nil (Below.refl _ _)
  obtain ⟨n, hn⟩ : ∃ n, zs.length = n + 2 := ⟨zs.length - 2, by omega⟩
  have hmid := open_mid (zs := zs) (by omega) (by omega)
  have hsub : zs.length - 2 = n := by omega
  rw [hsub] at hmid
  obtain ⟨b, off, rfl, hbB, hc0⟩ := hr.int (i := 0) (by omega)
  clear hc0
  obtain ⟨hr1, hl1⟩ := hr.slice 0 n (by omega)
  simp only [Nat.add_zero, List.drop_zero] at hr1 hl1
  have HR1 := hide hr1
  have HR := hide hr
  have HZ := hide hz
  have HZ1 := hide (show InR 0 255 (zs.take n) from fun x hx => hz x (List.mem_of_mem_take hx))
  have HY := hide (fun h : openOk zs = true => opened_yes h)
  rw [hsub] at HY
  have HN := hide (fun h : openOk zs = false => opened_no h)
  have hsb := sealed_bd (zs.take n) HZ1.out
  have HSB := hide hsb
  have HS := hide (sealBytes_any (some ⟨b, off, none⟩) (zs.take n) c B w HR1.out hB HZ1.out (by omega) (by intro h; cases h))
  have HCL := hide (fun w' hr hB => clone_any (some ⟨b, off, none⟩) (zs.take n) c B w' hr hB (by omega) (by intro h; cases h))
  rw [hl1] at HS HCL
  have hb : inB (n : Int) 0 2000 = true := inB_t (by omega)
  have hnc : n ≤ c := by omega
  have HM := hide hmid
  have hsn : ((n + 2 : Nat) : Int) - 2 = n := by omega
  have hcm : (zs.length : Int) = (n : Int) + 2 := by omega
  have HL1 := hide hl1
  clear hr hz hr1 hl1 hmid hsub hsb hm hc h2 h3 hcm hsn
  rw [hn]
  have HNN := hide hn
  clear hn
  have hn0 : n ≤ 2000 := by have := HNN.out; have := of_decide_eq_true hb; omega
  go_enter Try.func59, Try.ntmps59
  go_wp2_with (go_at_call 109; refine (within_any _ _ _ _).mono ?_; rintro e w' ⟨rfl, rfl⟩)
  refine HS.out.mono ?_
  rintro e w1 ⟨A1, c1, rfl, o1, b1⟩
  have HO1 := hide o1
  have HB1 := hide b1
  have HRD := hide (((HR.out.more hB).below b1).more b1.size)
  clear o1 b1
  go_wp2_with fail
  refine (CEqual.equal_n _ _ (sealed (zs.take n)) zs _ _ _ _ _ _ w1 rfl HNN.out.symm (Rd.of_own HO1.out) HRD.out HSB.out.2 HZ.out).mono ?_
  rintro e w' ⟨rfl, rfl⟩
  rw [← HM.out]
  cases hv : openOk zs
  · have HE := hide (HN.out hv)
    clear hv
    go_wp2_with fail
    go_ret2
    rw [HE.out.1, HE.out.2]
    exact RetBytesB.nil HB1.out
  · have HE := hide (HY.out hv)
    clear hv
    go_wp2_with fail
    refine (HCL.out w1 (HR1.out.keep (fun p hp => HB1.out.cell (Nat.lt_of_lt_of_le hp hB))) (Nat.le_trans hB HB1.out.size)).mono ?_
    rintro e w2 ⟨A2, c2, rfl, o2, b2⟩
    rw [HL1.out] at o2 ⊢
    have HO2 := hide (own_base o2 HB1.out.size)
    have HB2 := hide (HB1.out.trans (b2.mono HB1.out.size))
    clear o2 b2
    go_wp2_with fail
    go_ret2
    rw [HE.out.1, HE.out.2]
    exact RetBytesB.mk (n := n) HL1.out.symm HO2.out HB2.out
theorem openSealS_any (A : Option Addr) (zs : List Int) (c B : Nat) (w : World) (hr : Rd w B A (ints .u8 zs)) (hB : B ≤ w.heap.size) (hz : InR 0 255 zs) (hm : zs.length ≤ 1048576) (hc : zs.length ≤ c) :
    Calls Try.prog 58 #[.slice A zs.length c] w (RetBytesB (opened zs).1 (opened zs).2 w) := by
  obtain ⟨i0, hi, hz0, hz1, hz2⟩ := info_parts CBytes8.info8
  by_cases h2 : zs.length < 2
  · obtain ⟨e1, e2⟩ := opened_no (open_short h2)
    rw [e1, e2]
    have hd : decide ((zs.length : Int) - 2 < 0) = true := decide_eq_true (by omega)
    have ew : IntKind.i64.wrap ((zs.length : Int) - 2) = (zs.length : Int) - 2 := IntWalk.i64_in _ (by omega)
    clear hr hz e1 e2
    go_enter Try.func58, Try.ntmps58
    go_wp2_with fail
    go_quiet (fail)
    go_wp2_with fail
    go_ret2
    exact RetBytesB.mk (n := 0) rfl (World.ownsRow_lit (base := w.heap.size) (e := 5) (size := 1) _ #[] 0 (Nat.le_refl _) (Nat.zero_le _) rfl) (by repeat (first | exact Below.refl _ _ | with_reducible assumption | (refine Below.drew ?_) | (refine Below.drewN ?_ _) | (refine Below.alloc ?_ (by simp; try omega) _) | (refine Below.setCell ?_ (by simp; try omega) _)))
  by_cases h3 : 2002 < zs.length
  · obtain ⟨e1, e2⟩ := opened_no (open_long h3)
    rw [e1, e2]
    have hd : decide ((zs.length : Int) - 2 < 0) = false := decide_eq_false (by omega)
    have hd3 : decide (2000 < (zs.length : Int) - 2) = true := decide_eq_true (by omega)
    have ew : IntKind.i64.wrap ((zs.length : Int) - 2) = (zs.length : Int) - 2 := IntWalk.i64_in _ (by omega)
    clear hr hz e1 e2
    go_enter Try.func58, Try.ntmps58
    go_wp2_with fail
    go_quiet (fail)
    go_wp2_with fail
    go_ret2
    exact RetBytesB.mk (n := 0) rfl (World.ownsRow_lit (base := w.heap.size) (e := 5) (size := 1) _ #[] 0 (Nat.le_refl _) (Nat.zero_le _) rfl) (by repeat (first | exact Below.refl _ _ | with_reducible assumption | (refine Below.drew ?_) | (refine Below.drewN ?_ _) | (refine Below.alloc ?_ (by simp; try omega) _) | (refine Below.setCell ?_ (by simp; try omega) _)))
  obtain ⟨n, hn⟩ : ∃ n, zs.length = n + 2 := ⟨zs.length - 2, by omega⟩
  have hmid := open_mid (zs := zs) (by omega) (by omega)
  have htest := open_test (zs := zs) hz (by omega) (by omega)
  have hsub : zs.length - 2 = n := by omega
  have hsn : (zs.length : Int) - 2 = n := by omega
  rw [hsub] at hmid htest
  rw [hsn] at htest
  obtain ⟨b, off, rfl, hbB, hc0⟩ := hr.int (i := 0) (by omega)
  clear hc0
  obtain ⟨hr1, hl1⟩ := hr.slice 0 n (by omega)
  simp only [Nat.add_zero, List.drop_zero] at hr1 hl1
  have HR1 := hide hr1
  have HR := hide hr
  have HZ := hide hz
  have HZ1 := hide (show InR 0 255 (zs.take n) from fun x hx => hz x (List.mem_of_mem_take hx))
  have HY := hide (fun h : openOk zs = true => opened_yes h)
  rw [hsub] at HY
  have HN := hide (fun h : openOk zs = false => opened_no h)
  have HG := hide (fun w' hr' => getNumberS_any (some ⟨b, off, none⟩) zs c B n 2 w' hr' HZ.out (by omega))
  have HSM := hide (fun w' hr' => sumOfS_any (some ⟨b, off, none⟩) (zs.take n) c B w' hr' HZ1.out (by rw [hl1]; unfold maxLen; omega))
  rw [hl1] at HSM
  have hT : openOk zs = (gnum zs n 2 == sumOf (zs.take n)) := by
    rw [hmid, Bool.eq_iff_iff, decide_eq_true_eq, beq_iff_eq]
    exact htest
  have HT := hide hT
  have hnc : n ≤ c := by omega
  have HL1 := hide hl1
  have hn0 : n ≤ 2000 := by omega
  have hd : decide ((n : Int) < 0) = false := decide_eq_false (by omega)
  have hd3 : decide (2000 < (n : Int)) = false := decide_eq_false (by omega)
  clear hr hz hr1 hl1 hmid hsub hm hc h2 h3 hsn htest hT
  rw [hn] at HG ⊢
  clear hn
  generalize gnum zs n 2 = gn at *
  go_enter Try.func58, Try.ntmps58
  go_wp2_with fail
  cases hv : openOk zs
  · have HE := hide (HN.out hv)
    have he : (gn != sumOf (zs.take n)) = true := by
      have := HT.out
      rw [hv] at this
      simp only [bne, ← this]
      rfl
    clear hv
    generalize sumOf (zs.take n) = sm at *
    go_quiet ((first | (go_at_call 123; exact Pure.quiet (HG.out _ HR.out)) | (go_at_call 27; exact Pure.quiet (HSM.out _ HR1.out))))
    go_wp2_with fail
    go_ret2
    rw [HE.out.1, HE.out.2]
    exact RetBytesB.mk (n := 0) rfl (World.ownsRow_lit (base := w.heap.size) (e := 5) (size := 1) _ #[] 0 (Nat.le_refl _) (Nat.zero_le _) rfl) (by repeat (first | exact Below.refl _ _ | with_reducible assumption | (refine Below.drew ?_) | (refine Below.drewN ?_ _) | (refine Below.alloc ?_ (by simp; try omega) _) | (refine Below.setCell ?_ (by simp; try omega) _)))
  · have HE := hide (HY.out hv)
    have he : (gn != sumOf (zs.take n)) = false := by
      have := HT.out
      rw [hv] at this
      simp only [bne, ← this]
      rfl
    clear hv
    generalize sumOf (zs.take n) = sm at *
    go_quiet ((first | (go_at_call 123; exact Pure.quiet (HG.out _ HR.out)) | (go_at_call 27; exact Pure.quiet (HSM.out _ HR1.out))))
    have HO := hide (own_empty (w := w.drewN nq) (E := 5))
    have HB : Hid (Below w.heap.size w ((w.drewN nq).alloc (.cells #[] 5))) := hide ((Kit.Below.drewN (Below.refl _ _) nq).alloc (Nat.le_refl _) _)
    have HRN : Hid (Rd ((w.drewN nq).alloc (.cells #[] 5)) B (some ⟨b, off, none⟩) (ints .u8 (zs.take n))) := hide (HR1.out.keep (fun p hp => HB.out.cell (Nat.lt_of_lt_of_le hp hB)))
    go_wp2_with (at_builtin; refine wpList_appR _ rfl (.tmp 25) (.tmp 28) 22 rfl w.heap.size 5 i0 (.int .u8 0) 1 1 Try.underlying22 hi hz0 hz1 hz2 rfl (by decide) _ n _ _ rfl HRN.out ?n0 ?nn oneI _ _ _ rfl HO.out ?n1 ?n2 HB.out.size ?_)
    case n0 => rw [List.length_map, HL1.out]; omega
    case nn => intro h; cases h
    case n1 => unfold maxLen; omega
    case n2 => omega
    intro A6 n6 c6 w6 hn6 o6 g6
    have hn6 : n6 = n := by omega
    subst hn6
    have HO6 := hide o6
    have HB6 := hide (HB.out.grown g6 HB.out.size (fun k hk => (HO.out.lt k hk).1))
    clear o6 g6
    go_wp2_with fail
    go_ret2
    rw [HE.out.1, HE.out.2]
    exact RetBytesB.mk HL1.out.symm (by have := HO6.out; rwa [← List.map_take] at this) HB6.out
end Go.Proofs.Ytndnmbhhfiacaaa.CSeal
