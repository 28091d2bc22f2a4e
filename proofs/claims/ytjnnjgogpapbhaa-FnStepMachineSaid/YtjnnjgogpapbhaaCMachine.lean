/- Contracts of slices.ContainsFunc at []int, and of MachineValid, the program's and the reference's. -/
import Derived.Test.YtjnnjgogpapbhaaCCode
import Derived.Test.YtjnnjgogpapbhaaRows
namespace Go.Proofs.Ytjnnjgogpapbhaa.CMachine
set_option maxRecDepth 200000
open Go.ChangeShapes Go.WideShapes Go.ChangeAt Go.RowKit Kit CCode
def IxPost (zs : List Int) (p : Int → Bool) (w : World) (e : Ending) (w' : World) : Prop := ∃ k : Int, e = .returned (.int .i64 k) ∧ ((0 ≤ k) ↔ zs.any p = true) ∧ w = w'
theorem indexFunc_any (F : FuncId) (p : Int → Bool) (hcall : ∀ (z : Int) (w : World), (callFunc F #[.int .i64 z]).run Try.prog w = .ok (.enter F #[.int .i64 z]) w) (hF : ∀ (n : Int) (w : World), Calls Try.prog F #[.int .i64 n] w (Pure (.bool (p n)) w)) (A : Option Addr) (zs : List Int) (c B : Nat) (w : World) (hr : Rd w B A (ints .i64 zs)) (hm : zs.length ≤ maxLen) :
    Calls Try.prog 66 #[.slice A zs.length c, .func (.func F) #[] #[]] w (IxPost zs p w) := by
  unfold maxLen at hm
  have HF := hide hF
  clear hF
  go_enter Try.func66, Try.ntmps66
  go_wp2_with fail
  go_loop [8] (fun i => ∃ k : Nat, k ≤ zs.length ∧ i = .int .i64 k ∧ ∀ z ∈ zs.take k, p z = false) (fun i => zs.length - (intOf i).toNat)
  case atStart => exact ⟨0, Nat.zero_le _, rfl, by simp⟩
  case round =>
    obtain ⟨k, hk, rfl, hall⟩ := hrel
    have HA := hide hall
    clear hall
    by_cases hlt : k < zs.length
    · obtain ⟨b, off, rfl, _, hc⟩ := hr.int hlt
      have HT := hide (take_succ hlt)
      have HM := hide (List.getElem_mem hlt)
      clear hr
      generalize zs[k] = z at *
      go_wp2_with fail
      refine (HF.out _ _).mono ?_
      rintro e w' ⟨rfl, rfl⟩
      cases hp : p z
      · have HN : Hid (∀ y ∈ zs.take (k + 1), p y = false) := by
          intro y hy
          rw [HT.out, List.mem_append] at hy
          rcases hy with hy | hy
          · exact HA.out y hy
          · simp at hy
            rw [hy]
            exact hp
        clear hp
        go_wp2_with fail
        go_round
        case rel => exact ⟨k + 1, by omega, by go_num, HN.out⟩
        case measure => simp [intOf]; omega
      · have HY := hide (show zs.any p = true from List.any_eq_true.2 ⟨z, HM.out, hp⟩)
        clear hp
        go_wp2_with fail
        go_ret
        exact ⟨k, rfl, ⟨fun _ => HY.out, fun _ => by omega⟩, rfl⟩
    · have HN := hide (show ¬ zs.any p = true by
        intro h
        obtain ⟨z, hz, hpz⟩ := List.any_eq_true.1 h
        have := HA.out z (by rw [List.take_of_length_le (by omega)]; exact hz)
        rw [this] at hpz
        cases hpz)
      clear hr
      go_wp2_with fail
      go_ret
      refine ⟨-1, rfl, ⟨fun h => by omega, fun h => (HN.out h).elim⟩, rfl⟩
theorem containsFunc_any (F : FuncId) (p : Int → Bool) (hcall : ∀ (z : Int) (w : World), (callFunc F #[.int .i64 z]).run Try.prog w = .ok (.enter F #[.int .i64 z]) w) (hF : ∀ (n : Int) (w : World), Calls Try.prog F #[.int .i64 n] w (Pure (.bool (p n)) w)) (A : Option Addr) (zs : List Int) (c B : Nat) (w : World) (hr : Rd w B A (ints .i64 zs)) (hm : zs.length ≤ maxLen) :
    Calls Try.prog 36 #[.slice A zs.length c, .func (.func F) #[] #[]] w (Pure (.bool (zs.any p)) w) := by
  have HC := hide (indexFunc_any F p hcall hF A zs c B w hr hm)
  clear hF hr hm hcall
  go_enter Try.func36, Try.ntmps36
  go_wp2_with fail
  refine HC.out.mono ?_
  rintro e w' ⟨k, rfl, hk, rfl⟩
  have HK := hide hk
  clear hk
  go_wp2_with fail
  go_ret
  refine ⟨ret_bool ?_, rfl⟩
  rw [Bool.eq_iff_iff, ← HK.out]
  simp
theorem f1_any (n : Int) (w : World) : Calls Try.prog 37 #[.int .i64 n] w (Pure (.bool (!inB n 0 65535)) w) := by
  go_enter Try.func37, Try.ntmps37
  go_wp2_with (first | (go_at_call 38; refine (within_any _ _ _ _).mono ?_; rintro e w' ⟨rfl, rfl⟩) | (go_at_call 76; refine (hasArg_any _ _).mono ?_; rintro e w' ⟨rfl, rfl⟩) | (go_at_call 40; refine (l1In_any _ _ _ _).mono ?_; rintro e w' ⟨rfl, rfl⟩) | (go_at_call 73; refine (l29Has_any _ _).mono ?_; rintro e w' ⟨rfl, rfl⟩) | fail)
  go_ret
  exact ⟨rfl, rfl⟩
theorem f2_any (n : Int) (w : World) : Calls Try.prog 39 #[.int .i64 n] w (Pure (.bool (decide (n < 0))) w) := by
  go_enter Try.func39, Try.ntmps39
  go_wp2_with (first | (go_at_call 38; refine (within_any _ _ _ _).mono ?_; rintro e w' ⟨rfl, rfl⟩) | (go_at_call 76; refine (hasArg_any _ _).mono ?_; rintro e w' ⟨rfl, rfl⟩) | (go_at_call 40; refine (l1In_any _ _ _ _).mono ?_; rintro e w' ⟨rfl, rfl⟩) | (go_at_call 73; refine (l29Has_any _ _).mono ?_; rintro e w' ⟨rfl, rfl⟩) | fail)
  go_ret
  exact ⟨rfl, rfl⟩
def machOk (at_ : Int) (st ca : List Int) : Bool := decide (0 ≤ at_) && decide (st.length ≤ 8) && decide (ca.length ≤ 8) && !(st.any fun n => !inB n 0 65535) && !(ca.any fun n => decide (n < 0))
theorem machineValid_any (at_ : Int) (S C : Option Addr) (st ca : List Int) (cs cc B B' : Nat) (w : World) (hs : Rd w w.heap.size S (ints .i64 st)) (hc : Rd w w.heap.size C (ints .i64 ca)) (hsm : st.length ≤ maxLen) (hcm : ca.length ≤ maxLen) :
    Calls Try.prog 8 #[.agg #[.int .i64 at_, .slice S st.length cs, .slice C ca.length cc]] w (Ret (.bool (machOk at_ st ca)) w) := by
  have HB : Hid (Below w.heap.size w (w.alloc (.cells #[.int .i64 at_, .slice S st.length cs, .slice C ca.length cc] 25))) := (by repeat (first | exact Below.refl _ _ | with_reducible assumption | (refine Below.drew ?_) | (refine Below.drewN ?_ _) | (refine Below.alloc ?_ (by simp; try omega) _) | (refine Below.setCell ?_ (by simp; try omega) _)))
  have HS := hide (containsFunc_any 37 _ (fun _ _ => by kernel_rfl) f1_any S st cs _ _ (hs.below HB.out) hsm)
  have HC := hide (containsFunc_any 39 _ (fun _ _ => by kernel_rfl) f2_any C ca cc _ _ (hc.below HB.out) hcm)
  have hsm' := hsm
  have hcm' := hcm
  unfold maxLen at hsm' hcm'
  clear hs hc hsm hcm
  unfold machOk
  generalize (st.any fun n => !inB n 0 65535) = p at *
  generalize (ca.any fun n => decide (n < 0)) = q at *
  by_cases h1 : 0 ≤ at_
  · by_cases h2 : st.length ≤ 8
    · by_cases h3 : ca.length ≤ 8
      · cases p
        · go_enter Try.func8, Try.ntmps8
          go_wp2_with fail
          refine HS.out.mono ?_
          rintro e w' ⟨rfl, rfl⟩
          go_wp2_with fail
          refine HC.out.mono ?_
          rintro e w' ⟨rfl, rfl⟩
          go_wp2_with fail
          go_ret
          exact ⟨ret_bool (by simp [h1, h2, h3]), HB.out⟩
        · go_enter Try.func8, Try.ntmps8
          go_wp2_with fail
          refine HS.out.mono ?_
          rintro e w' ⟨rfl, rfl⟩
          go_wp2_with fail
          go_ret
          exact ⟨ret_bool (by simp), HB.out⟩
      · have hd3 : decide ((ca.length : Int) ≤ 8) = false := by simp; omega
        go_enter Try.func8, Try.ntmps8
        go_wp2_with fail
        go_ret
        exact ⟨ret_bool (by simp [h3]), HB.out⟩
    · have hd2 : decide ((st.length : Int) ≤ 8) = false := by simp; omega
      go_enter Try.func8, Try.ntmps8
      go_wp2_with fail
      go_ret
      exact ⟨ret_bool (by simp [h2]), HB.out⟩
  · have hd1 : decide (0 ≤ at_) = false := by simp; omega
    go_enter Try.func8, Try.ntmps8
    go_wp2_with fail
    go_ret
    exact ⟨ret_bool (by simp [hd1]), HB.out⟩
theorem take_any {p : Int → Bool} {zs : List Int} {k : Nat} (h : k < zs.length) (hp : ∀ z ∈ zs.take k, p z = false) (hk : p zs[k] = false) : ∀ z ∈ zs.take (k + 1), p z = false := by
  intro y hy
  rw [take_succ h, List.mem_append] at hy
  rcases hy with hy | hy
  · exact hp y hy
  · simp at hy
    rw [hy]
    exact hk
theorem any_all {p : Int → Bool} {zs : List Int} (hp : ∀ z ∈ zs.take zs.length, p z = false) : zs.any p = false := by
  rw [List.take_length] at hp
  rw [List.any_eq_false]
  intro x hx
  rw [hp x hx]
  exact Bool.false_ne_true
theorem machineValidS_any (at_ : Int) (S C : Option Addr) (st ca : List Int) (cs cc : Nat) (w : World) (hs : Rd w w.heap.size S (ints .i64 st)) (hc : Rd w w.heap.size C (ints .i64 ca)) (hsm : st.length ≤ maxLen) (hcm : ca.length ≤ maxLen) :
    Calls Try.prog 9 #[.agg #[.int .i64 at_, .slice S st.length cs, .slice C ca.length cc]] w (Ret (.bool (machOk at_ st ca)) w) := by
  have hsm' := hsm
  have hcm' := hcm
  unfold maxLen at hsm' hcm'
  go_enter Try.func9, Try.ntmps9
  go_wp2_with fail
  have HB : Below w.heap.size w (w.alloc (.cells #[.int .i64 at_, .slice S st.length cs, .slice C ca.length cc] 25)) := (by repeat (first | exact Below.refl _ _ | with_reducible assumption | (refine Below.drew ?_) | (refine Below.drewN ?_ _) | (refine Below.alloc ?_ (by simp; try omega) _) | (refine Below.setCell ?_ (by simp; try omega) _)))
  have X := Box.new w 25 #[.int .i64 at_, .slice S st.length cs, .slice C ca.length cc]
  have hs := hs.below HB
  have hc := hc.below HB
  have hz : w.heap.size < (w.alloc (.cells #[.int .i64 at_, .slice S st.length cs, .slice C ca.length cc] 25)).heap.size := by simp
  generalize (w.alloc (.cells #[.int .i64 at_, .slice S st.length cs, .slice C ca.length cc] 25)) = w0 at *
  have q0 := X.cell 0
  have q1 := X.cell 1
  have q2 := X.cell 2
  simp only [List.getElem?_toArray, List.getElem?_cons_zero, List.getElem?_cons_succ] at q0 q1 q2
  clear X
  go_loopw [3] (fun i wr => ∃ k : Nat, k ≤ st.length ∧ i = .int .i64 k ∧ (∀ z ∈ st.take k, (!inB z 0 65535) = false) ∧ w0 = wr) (fun i _ => st.length - (intOf i).toNat)
  case atStart => exact ⟨0, Nat.zero_le _, rfl, by simp, rfl⟩
  case round =>
    obtain ⟨k, hk, rfl, ha, rfl⟩ := hrel
    have HA := hide ha
    clear ha
    by_cases hlt : k < st.length
    · obtain ⟨b, off, rfl, hbl, hg⟩ := hs.int hlt
      have HT := hide (fun h => take_any hlt HA.out h)
      have HM := hide (List.getElem_mem hlt)
      clear hs hc
      generalize st[k] = z at *
      cases hp : inB z 0 65535
      · have HN := hide (show machOk at_ st ca = false by
          have : (st.any fun n => !inB n 0 65535) = true := List.any_eq_true.2 ⟨z, HM.out, by simp [hp]⟩
          simp [machOk, this])
        go_wp2_with fail
        refine (l1In_any _ _ _ _).mono ?_
        rintro e w' ⟨rfl, rfl⟩
        simp only [hp]
        go_wp2
        go_ret
        exact ⟨ret_bool HN.out.symm, HB⟩
      · have HN := hide (HT.out (by simp [hp]))
        go_wp2_with fail
        refine (l1In_any _ _ _ _).mono ?_
        rintro e w' ⟨rfl, rfl⟩
        simp only [hp]
        go_wp2
        go_roundw
        case rel => exact ⟨k + 1, by omega, by go_num, HN.out, trivial⟩
        case measure => simp [intOf]; omega
    · have e : k = st.length := by omega
      subst e
      have HS := hide (any_all HA.out)
      clear hs
      clear HA
      go_wp2_with fail
      go_loopw [4] (fun i wr => ∃ k : Nat, k ≤ ca.length ∧ i = .int .i64 k ∧ (∀ z ∈ ca.take k, decide (z < 0) = false) ∧ w0 = wr) (fun i _ => ca.length - (intOf i).toNat)
      case atStart => exact ⟨0, Nat.zero_le _, rfl, by simp, rfl⟩
      case round =>
        obtain ⟨k, hk, rfl, ha, rfl⟩ := hrel
        have HA := hide ha
        clear ha
        by_cases hlt : k < ca.length
        · obtain ⟨b, off, rfl, hbl, hg⟩ := hc.int hlt
          have HT := hide (fun h => take_any (p := fun n => decide (n < 0)) hlt HA.out h)
          have HM := hide (List.getElem_mem hlt)
          clear hc
          generalize ca[k] = z at *
          by_cases hp : z < 0
          · have HN := hide (show machOk at_ st ca = false by
              have : (ca.any fun n => decide (n < 0)) = true := List.any_eq_true.2 ⟨z, HM.out, by simp [hp]⟩
              simp [machOk, this])
            go_wp2_with fail
            go_ret
            exact ⟨ret_bool HN.out.symm, HB⟩
          · have HN := hide (HT.out (by simpa using hp))
            go_wp2_with fail
            go_roundw
            case rel => exact ⟨k + 1, by omega, by go_num, HN.out, trivial⟩
            case measure => simp [intOf]; omega
        · have e : k = ca.length := by omega
          subst e
          have HR := hide (show machOk at_ st ca = (decide (0 ≤ at_) && decide (st.length ≤ 8) && decide (ca.length ≤ 8)) by
            unfold machOk
            rw [HS.out, any_all HA.out]
            simp)
          clear hc HA
          by_cases h1 : 0 ≤ at_
          · by_cases h2 : st.length ≤ 8
            · by_cases h3 : ca.length ≤ 8
              · go_wp2_with fail
                go_ret
                exact ⟨ret_bool (by rw [HR.out]; simp [h1, h2, h3]; omega), HB⟩
              · have hd3 : decide ((ca.length : Int) ≤ 8) = false := by simp; omega
                go_wp2_with fail
                go_ret
                exact ⟨ret_bool (by rw [HR.out]; simp [h3]), HB⟩
            · have hd2 : decide ((st.length : Int) ≤ 8) = false := by simp; omega
              go_wp2_with fail
              go_ret
              exact ⟨ret_bool (by rw [HR.out]; simp [h2]), HB⟩
          · have hd1 : decide (0 ≤ at_) = false := by simp; omega
            go_wp2_with fail
            go_ret
            exact ⟨ret_bool (by rw [HR.out]; simp [hd1]), HB⟩
end Go.Proofs.Ytjnnjgogpapbhaa.CMachine
