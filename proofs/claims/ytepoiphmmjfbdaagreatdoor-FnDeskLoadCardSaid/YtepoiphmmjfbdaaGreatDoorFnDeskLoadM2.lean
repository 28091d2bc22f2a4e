/- A region that draws its order: loads and what only computes are taken first under a condition on the world, which need not hold behind the operations that wait for all of them (a store into a cell that was loaded). -/
import Derived.Test.YtepoiphmmjfbdaaGreatDoorFnDeskLoadM1
import Derived.Deep.RegionHeld
import Derived.Test.YtepoiphmmjfbdaaGreatDoorRows
import Derived.BigQuiet
set_option linter.unusedSimpArgs false
set_option linter.unusedVariables false
namespace Go.Proofs.YtepoiphmmjfbdaaGreatDoor.Reg
set_option maxRecDepth 200000
open Go
section
variable {P : Program} {ops : Array Oper} {Q : Exit → Act → World → Prop} {md : Region.Mode} {S : World → Prop} {T : Nat → Bool}
/-- Whatever order is picked from here on, and S holds behind every operation that is carried out, but for those of T. -/
def wpAnyT (P : Program) (md : Region.Mode) (ops : Array Oper) (Q : Exit → Act → World → Prop) (S : World → Prop) (T : Nat → Bool) : Nat → Array Bool → Act → World → Prop
  | 0, listed, a, w => Region.ready md ops listed = [] ∧ Q .normal a w
  | fuel + 1, listed, a, w =>
    (Region.ready md ops listed = [] → Q .normal a w) ∧
    ∀ i ∈ Region.ready md ops listed, wpOp P ops Q i (fun a' w' => (T i = false → S w') ∧ wpAnyT P md ops Q S T fuel (listed.setIfInBounds i true) a' w') a w
theorem wpAny_of_T : ∀ (fuel : Nat) (listed : Array Bool) (a : Act) (w : World), wpAnyT P md ops Q S T fuel listed a w → wpAny P md ops Q fuel listed a w
  | 0, _, _, _, h => h
  | fuel + 1, _, _, _, h => ⟨h.1, fun i hi => wpOp_mono (fun a' w' h' => wpAny_of_T fuel _ a' w' h'.2) (h.2 i hi)⟩
/-- An operation that waits for number i directly. -/
def waits (md : Region.Mode) (o : Oper) (i : Nat) : Bool := o.after.any fun e => Region.binds md e && e.on == i
theorem wpAnyT_first {i : Nat} {oi : Oper} {v : Value} (hi : ops[i]? = some oi) (hsel : ∀ (j : Nat) (o : Oper) cs b, ops[j]? = some o → o.op ≠ .select cs b)
    (hQ : ∀ c a w, Q (.panic c) (a.put oi.dst v) w → Q (.panic c) a w) (hT : ∀ (j : Nat) (o : Oper), ops[j]? = some o → T j = true → j ≠ i → waits md o i = true) :
    ∀ (fuel : Nat) (listed : Array Bool) (a : Act) (w : World),
      (∀ j oj, ops[j]? = some oj → j ≠ i → listed.getD j true = false → (∀ e ∈ oj.after, Region.binds md e = true → e.on ≠ i) → oi.apart ops oj = true) →
      i ∈ Region.ready md ops listed → YieldsIf P ops S oi v a → S w →
      wpAnyT P md ops Q S T fuel (listed.setIfInBounds i true) (a.put oi.dst v) w → wpAnyT P md ops Q S T (fuel + 1) listed a w := by
  intro fuel
  induction fuel with
  | zero =>
    intro listed a w _ hr hy hS H
    refine ⟨fun h => (by rw [h] at hr; cases hr), fun j hj => ?_⟩
    by_cases hji : j = i
    · subst hji
      exact hy.wpOp hi hS ⟨fun _ => hS, H⟩
    · have := ready_mono hj hji
      rw [H.1] at this
      cases this
  | succ fuel ih =>
    intro listed a w hfree hr hy hS H
    refine ⟨fun h => (by rw [h] at hr; cases hr), fun j hj => ?_⟩
    by_cases hji : j = i
    · subst hji
      exact hy.wpOp hi hS ⟨fun _ => hS, H⟩
    · have h1 := H.2 j (ready_mono hj hji)
      obtain ⟨hjun, oj, hoj, hall⟩ := mem_ready.1 hj
      have hnot : ∀ e ∈ oj.after, Region.binds md e = true → e.on ≠ i := fun e he hb heq => by
        have h1 := hall e he hb
        have h0 := (mem_ready.1 hr).1
        rw [heq] at h1
        rcases Nat.lt_or_ge i listed.size with h' | h'
        · simp [h'] at h0 h1
          rw [h0] at h1
          cases h1
        · simp [Array.getElem?_eq_none h'] at h1
      have hTj : T j = false := by
        cases hT' : T j
        · rfl
        · have := hT j oj hoj hT' hji
          unfold waits at this
          rw [Array.any_eq_true] at this
          obtain ⟨k, hk, he⟩ := this
          simp only [Bool.and_eq_true, beq_iff_eq] at he
          exact absurd he.2 (hnot _ (Array.getElem_mem hk) he.1)
      have h2 := wpOp_putIf hoj (hfree j oj hoj hji hjun hnot) (fun cs b => hsel i oi cs b hi) (fun cs b => hsel j oj cs b hoj) hQ hy h1
      have hfree' : ∀ k ok, ops[k]? = some ok → k ≠ i → (listed.setIfInBounds j true).getD k true = false →
          (∀ e ∈ ok.after, Region.binds md e = true → e.on ≠ i) → oi.apart ops ok = true := fun k ok hk hki hun hno => by
        refine hfree k ok hk hki ?_ hno
        by_cases hjk : j = k
        · subst hjk
          exact hjun
        · rw [getD_set_ne true hjk] at hun
          exact hun
      refine wpOp_mono (fun a' w' h3 => ⟨h3.2.1, ih (listed.setIfInBounds j true) a' w' hfree' (ready_mono hr (Ne.symm hji)) h3.1 (h3.2.1 hTj) ?_⟩) h2
      rw [Array.setIfInBounds_comm _ _ hji]
      exact h3.2.2
/-- All that T names wait for number i. -/
def allWait (md : Region.Mode) (ops : Array Oper) (T : Nat → Bool) (i : Nat) : Bool := (List.range ops.size).all fun j => !T j || j == i || match ops[j]? with | some o => waits md o i | none => true
theorem allWait_spec {i : Nat} (h : allWait md ops T i = true) : ∀ (j : Nat) (o : Oper), ops[j]? = some o → T j = true → j ≠ i → waits md o i = true := by
  intro j o ho ht hne
  have hj : j < ops.size := (Array.getElem?_eq_some_iff.1 ho).1
  have := List.all_eq_true.1 h j (List.mem_range.2 hj)
  rw [ho] at this
  simpa [ht, hne] using this
/-- Take number i first. -/
theorem takeT {i : Nat} {oi : Oper} {v : Value} {fuel : Nat} {listed : Array Bool} {a : Act} {w : World} (hi : ops[i]? = some oi)
    (hs : Region.noSelect ops = true) (hf : Region.free md ops listed i = true) (hr : (Region.ready md ops listed).contains i = true) (hT : allWait md ops T i = true)
    (hQ : ∀ c a w, Q (.panic c) (a.put oi.dst v) w → Q (.panic c) a w) (hy : YieldsIf P ops S oi v a) (hS : S w)
    (h : wpAnyT P md ops Q S T fuel (listed.setIfInBounds i true) (a.put oi.dst v) w) : wpAnyT P md ops Q S T (fuel + 1) listed a w :=
  wpAnyT_first hi (Region.noSelect_spec hs) hQ (allWait_spec hT) fuel listed a w (Region.free_spec hi hf) (by simpa using hr) hy hS h
/-- One alone may come up, and it is none of T: S is shown anew behind it. -/
theorem oneT {i : Nat} {o : Oper} {fuel : Nat} {listed : Array Bool} {a : Act} {w : World} (ho : ops[i]? = some o) (hr : Region.ready md ops listed = [i])
    (h : ∀ K : Act → World → Prop, Shut (∀ a w, S w → wpAnyT P md ops Q S T fuel (listed.setIfInBounds i true) a w → K a w) → if Region.wanted o (yielded ops a.tmps) = true then Oper.wp P o a w K Q else K (a.put o.dst undef) w) :
    wpAnyT P md ops Q S T (fuel + 1) listed a w :=
  ⟨fun h0 => (by rw [hr] at h0; cases h0), fun j hj => by
    rw [hr] at hj
    simp only [List.mem_singleton] at hj
    subst hj
    exact wpOp_step ho (fun K' hK => h K' (fun a w hS hW => hK a w ⟨fun _ => hS, hW⟩))⟩
/-- One of T comes up alone. -/
theorem lastT {i : Nat} {o : Oper} {fuel : Nat} {listed : Array Bool} {a : Act} {w : World} (ho : ops[i]? = some o) (hr : Region.ready md ops listed = [i]) (hT : T i = true)
    (h : ∀ K : Act → World → Prop, Shut (∀ a w, wpAnyT P md ops Q S T fuel (listed.setIfInBounds i true) a w → K a w) → if Region.wanted o (yielded ops a.tmps) = true then Oper.wp P o a w K Q else K (a.put o.dst undef) w) :
    wpAnyT P md ops Q S T (fuel + 1) listed a w :=
  ⟨fun h0 => (by rw [hr] at h0; cases h0), fun j hj => by
    rw [hr] at hj
    simp only [List.mem_singleton] at hj
    subst hj
    exact wpOp_step ho (fun K' hK => h K' (fun a w hW => hK a w ⟨fun hF => (by rw [hT] at hF; cases hF), hW⟩))⟩
theorem doneT {listed : Array Bool} {a : Act} {w : World} (hr : Region.ready md ops listed = []) (h : Q .normal a w) : ∀ fuel, wpAnyT P md ops Q S T fuel listed a w
  | 0 => ⟨hr, h⟩
  | _ + 1 => ⟨fun _ => h, by rw [hr]; simp⟩
/-- The beginning. -/
theorem startT {id : Nat} {a : Act} {w : World} (S : World → Prop) (T : Nat → Bool) (hm : P.follows .mixedOrders = true)
    (h : wpAnyT P .any ops Q S T ops.size (Array.replicate ops.size false) a w.drew) : (Code.region id ops true).wp P Q a w :=
  wp_region_any hm (wpAny_of_T _ _ _ _ h)
end
end Go.Proofs.YtepoiphmmjfbdaaGreatDoor.Reg
/- The marks of symbols; marks of rows. -/
namespace Go.Proofs.YtepoiphmmjfbdaaGreatDoor.CSymMarks
set_option maxRecDepth 200000
open Go.ChangeShapes Go.WideShapes Go.ChangeAt Go.RowKit Kit CFixups CSymbols PObj BObj CMarkText
end Go.Proofs.YtepoiphmmjfbdaaGreatDoor.CSymMarks
/- Marks of rows, whether they have room or not. -/
namespace Go.Proofs.YtepoiphmmjfbdaaGreatDoor.CMarkRows
set_option maxRecDepth 200000
open Go.ChangeShapes Go.WideShapes Go.ChangeAt Go.RowKit Kit CFixups CSymbols PObj BObj CMarkText CSymMarks
/-- Two rows of different types lie apart. -/
theorem apartT {w : World} {base base' : Nat} {e e' : TypeId} {size size' n n' c c' : Nat} {A A' : Option Addr} {xs xs' : List Value} (h : Row w base e size A n c xs) (h' : Row w base' e' size' A' n' c' xs') (hne : e ≠ e') : ∀ k, blk A c = some k → blk A' c' ≠ some k := by
  intro k hk hk'
  have hc : c' ≠ 0 := by
    intro h0
    rw [h0] at hk'
    cases hk'
  have hown : w.ownsRow base' e' size' (.slice A' n' c') n' xs' := h'.elim (fun h => absurd h.2.1 hc) id
  rcases hown.2 with ⟨hv, h0⟩ | ⟨g, cap, cur, hv, _, hg, _⟩
  · injection hv with hA
    subst hA
    unfold blk at hk'
    split at hk' <;> cases hk'
  · injection hv with hA
    subst hA
    have hkg : g = k := by
      unfold blk at hk'
      rw [if_neg hc] at hk'
      simpa using hk'
    subst hkg
    exact h.box (show Box w g e' cur from hg) hne g hk rfl
theorem RwS.apart {w : World} {b b' : Nat} {p q : SV} (hp : RwS w b p) (hq : RwS w b' q) (h : ApS p q) : ∀ k, sblk p k → ¬ sblk q k := by
  rintro k (hk | hk) (hk' | hk')
  · exact h.1 k hk hk'
  · exact apartT hp.1 hq.2 (by decide) k hk hk'
  · exact apartT hp.2 hq.1 (by decide) k hk hk'
  · exact h.2 k hk hk'
theorem ApS.symm {p q : SV} (h : ApS p q) : ApS q p := ⟨h.1.symm, h.2.symm⟩
def wd (p : SV) : Int := 4 + p.zs.length + 4 * p.fs.length
end Go.Proofs.YtepoiphmmjfbdaaGreatDoor.CMarkRows
/- The marks of sections. -/
namespace Go.Proofs.YtepoiphmmjfbdaaGreatDoor.CSecMarks
set_option maxRecDepth 200000
open Go.ChangeShapes Go.WideShapes Go.ChangeAt Go.RowKit Kit CFixups CSymbols PObj BObj CMarkText CSymMarks CMarkRows
end Go.Proofs.YtepoiphmmjfbdaaGreatDoor.CSecMarks
/- The marks of sections read again. -/
namespace Go.Proofs.YtepoiphmmjfbdaaGreatDoor.CSecHeld
set_option maxRecDepth 200000
open Go.ChangeShapes Go.WideShapes Go.ChangeAt Go.RowKit Kit CFixups CSymbols PObj BObj CMarkText CSymMarks CMarkRows CSecMarks
end Go.Proofs.YtepoiphmmjfbdaaGreatDoor.CSecHeld
/- Contracts of the laws' helpers on Object: the copy, the comparison of equal data, the size, the marks. -/
namespace Go.Proofs.YtepoiphmmjfbdaaGreatDoor.CObject
set_option maxRecDepth 200000
open Go.ChangeShapes Go.WideShapes Go.ChangeAt Go.RowKit Kit CFixups CSymbols PObj BObj CSection CSections CMarkText CSymMarks CMarkRows CSecMarks CSecHeld
theorem ret_object {w w1 : World} {Y : Nat} {o : OV} (ho : OwnO w1 w.heap.size o) (B : Below w.heap.size w w1) (hY : ∀ k, oblk o k → k ≠ Y) (hYw : w.heap.size ≤ Y) :
    RetO o.d w (.returned o.v) ((w1.setCell ⟨Y, 0, none⟩ (.slice o.A o.ps.length o.c)).setCell ⟨Y, 1, none⟩ (.slice o.Y o.ys.length o.yc)) := by
  refine ⟨o, rfl, rfl, ?_, (B.setCell (p := ⟨Y, 0, none⟩) hYw _).setCell (p := ⟨Y, 1, none⟩) hYw _⟩
  exact ho.keep fun k hk => (Below.heap_setCell _ ⟨Y, 1, none⟩ _ k (hY k hk)).trans (Below.heap_setCell _ ⟨Y, 0, none⟩ _ k (hY k hk))
end Go.Proofs.YtepoiphmmjfbdaaGreatDoor.CObject
/- Contracts of the laws' helpers on Object: the size, the marks. -/
namespace Go.Proofs.YtepoiphmmjfbdaaGreatDoor.CObject2
set_option maxRecDepth 200000
open Go.ChangeShapes Go.WideShapes Go.ChangeAt Go.RowKit Kit CFixups CSymbols PObj BObj CSection CSections CMarkText CSymMarks CMarkRows CSecMarks CSecHeld CObject
end Go.Proofs.YtepoiphmmjfbdaaGreatDoor.CObject2
/- Contracts of hasArg, CodeValid (the program's and the reference's) and of the mirror of Code. -/
namespace Go.Proofs.YtepoiphmmjfbdaaGreatDoor.CCode
set_option maxRecDepth 200000
open Go.ChangeShapes Go.WideShapes Go.ChangeAt Go.RowKit Kit
def inB (n lo hi : Int) : Bool := decide (lo ≤ n ∧ n ≤ hi)
theorem inB_t {n lo hi : Int} (h : lo ≤ n ∧ n ≤ hi) : inB n lo hi = true := decide_eq_true h
theorem inB_f {n lo hi : Int} (h : ¬ (lo ≤ n ∧ n ≤ hi)) : inB n lo hi = false := decide_eq_false h
theorem within_any (n lo hi : Int) (w : World) : Calls Tryz.prog 88 #[.int .i64 n, .int .i64 lo, .int .i64 hi] w (Pure (.bool (inB n lo hi)) w) := by
  by_cases h1 : lo ≤ n
  · by_cases h2 : n ≤ hi
    all_goals
      go_enter Tryz.func88, Tryz.ntmps88
      go_wp2
      go_ret
      exact ⟨ret_bool (by simp [inB, h1, h2]), rfl⟩
  · go_enter Tryz.func88, Tryz.ntmps88
    go_wp2
    go_ret
    exact ⟨ret_bool (inB_f (by omega)).symm, rfl⟩
theorem l1In_any (n lo hi : Int) (w : World) : Calls Tryz.prog 111 #[.int .i64 n, .int .i64 lo, .int .i64 hi] w (Pure (.bool (inB n lo hi)) w) := by
  by_cases h1 : lo ≤ n
  · by_cases h2 : n ≤ hi
    all_goals
      go_enter Tryz.func111, Tryz.ntmps111
      go_wp2
      go_ret
      exact ⟨ret_bool (by simp [inB, h1, h2]), rfl⟩
  · go_enter Tryz.func111, Tryz.ntmps111
    go_wp2
    go_ret
    exact ⟨ret_bool (inB_f (by omega)).symm, rfl⟩
end Go.Proofs.YtepoiphmmjfbdaaGreatDoor.CCode
/- Names that are valid: the program's and the reference's test. -/
namespace Go.Proofs.YtepoiphmmjfbdaaGreatDoor.CName
set_option maxRecDepth 200000
open Go.ChangeShapes Go.WideShapes Go.ChangeAt Go.RowKit Kit CCode
/-- The byte c may stand at place k of a name. -/
def chOk (k : Nat) (x : Int) : Bool := decide (97 ≤ x ∧ x ≤ 122) || decide (x = 95) || decide (x = 46) || (decide (0 < k) && decide (48 ≤ x ∧ x ≤ 57))
def allOk (s : ByteArray) : Bool := (List.range s.size).all fun k => chOk k (s.data.toList.getD k 0).toNat
def nameOk (s : ByteArray) : Bool := allOk s && inB s.size 1 8
theorem all_false {s : ByteArray} {k : Nat} (h : k < s.size) (hc : chOk k (s.data.toList.getD k 0).toNat = false) : nameOk s = false := by
  rw [nameOk, allOk, List.all_eq_false.2 ⟨k, List.mem_range.2 h, by rw [hc]; decide⟩]
  rfl
theorem all_true {s : ByteArray} (h : ∀ k, k < s.size → chOk k (s.data.toList.getD k 0).toNat = true) : nameOk s = inB s.size 1 8 := by
  rw [nameOk, allOk, List.all_eq_true.2 (fun k hk => h k (List.mem_range.1 hk)), Bool.true_and]
theorem get_at (s : ByteArray) (k : Nat) (h : k < s.size) : s.data.toList.getD k 0 = s[k]'h := by
  obtain ⟨x⟩ := s
  show x.toList.getD k 0 = x[k]
  rw [List.getD_eq_getElem?_getD, Array.getElem?_toList, Array.getElem?_eq_getElem h]
  rfl
set_option maxHeartbeats 4000000 in
theorem nameValid_any (s : ByteArray) (hs : s.size ≤ maxLen) (w : World) : Calls Tryz.prog 136 #[.string s] w (Pure (.bool (nameOk s)) w) := by
  unfold maxLen at hs
  go_enter Tryz.func136, Tryz.ntmps136
  go_wp2_with fail
  go_loop [6] (fun i => ∃ k : Nat, k ≤ s.size ∧ i = .int .i64 k ∧ ∀ j, j < k → chOk j (s.data.toList.getD j 0).toNat = true) (fun i => s.size - (intOf i).toNat)
  case atStart => exact ⟨0, Nat.zero_le _, rfl, fun j hj => absurd hj (Nat.not_lt_zero j)⟩
  case round =>
    obtain ⟨k, hk, rfl, hok⟩ := hrel
    have HO := hide hok
    clear hok
    by_cases hlt : k < s.size
    · have hg := get_at s k hlt
      have HN := hide (fun (h : chOk k (s[k]'hlt).toNat = true) => (show ∀ j, j < k + 1 → chOk j (s.data.toList.getD j 0).toNat = true from fun j hj => by
        rcases Nat.lt_or_ge j k with h' | h'
        · exact HO.out j h'
        · obtain rfl : j = k := by omega
          rw [hg]; exact h))
      have HF := hide (fun (h : chOk k (s[k]'hlt).toNat = false) => all_false hlt (by rw [hg]; exact h))
      have hx0 : (0 : Int) ≤ (s[k]'hlt).toNat := by omega
      clear HO hg
      go_wp2_with fail
      all_goals (try simp only [Bool.not_eq_false', Bool.not_eq_true', decide_eq_true_eq, decide_eq_false_iff_not, beq_iff_eq, beq_eq_false_iff_ne, ne_eq, Bool.not_not] at *)
      all_goals first
        | (refine ⟨⟨k + 1, by omega, by go_num, HN.out ?_⟩, by simp [intOf]; omega⟩
           simp only [chOk, Bool.or_eq_true, Bool.and_eq_true, decide_eq_true_eq]
           omega)
        | (have hF := HF.out (by rw [← Bool.not_eq_true]; simp only [chOk, Bool.or_eq_true, Bool.and_eq_true, decide_eq_true_eq]; omega)
           rw [hF]
           go_ret
           exact ⟨rfl, rfl⟩)
        | (exfalso; omega)
    · have HV := hide (all_true (s := s) (fun j hj => HO.out j (by omega)))
      clear HO
      go_wp2_with fail
      refine (within_any _ _ _ _).mono ?_
      rintro e w' ⟨rfl, rfl⟩
      rw [← HV.out]
      go_wp2_with fail
      go_ret
      exact ⟨rfl, rfl⟩
set_option maxHeartbeats 4000000 in
theorem nameValidS_any (s : ByteArray) (hs : s.size ≤ maxLen) (w : World) : Calls Tryz.prog 140 #[.string s] w (Pure (.bool (nameOk s)) w) := by
  unfold maxLen at hs
  go_enter Tryz.func140, Tryz.ntmps140
  go_wp2_with fail
  go_loop [3] (fun i => ∃ k : Nat, k ≤ s.size ∧ i = .int .i64 k ∧ ∀ j, j < k → chOk j (s.data.toList.getD j 0).toNat = true) (fun i => s.size - (intOf i).toNat)
  case atStart => exact ⟨0, Nat.zero_le _, rfl, fun j hj => absurd hj (Nat.not_lt_zero j)⟩
  case round =>
    obtain ⟨k, hk, rfl, hok⟩ := hrel
    have HO := hide hok
    clear hok
    by_cases hlt : k < s.size
    · have hg := get_at s k hlt
      have HN := hide (fun (h : chOk k (s[k]'hlt).toNat = true) => (show ∀ j, j < k + 1 → chOk j (s.data.toList.getD j 0).toNat = true from fun j hj => by
        rcases Nat.lt_or_ge j k with h' | h'
        · exact HO.out j h'
        · obtain rfl : j = k := by omega
          rw [hg]; exact h))
      have HF := hide (fun (h : chOk k (s[k]'hlt).toNat = false) => all_false hlt (by rw [hg]; exact h))
      have hx0 : (0 : Int) ≤ (s[k]'hlt).toNat := by omega
      clear HO hg
      go_wp2_with fail
      all_goals (try simp only [Bool.not_eq_false', Bool.not_eq_true', decide_eq_true_eq, decide_eq_false_iff_not, beq_iff_eq, beq_eq_false_iff_ne, ne_eq, Bool.not_not] at *)
      all_goals first
        | (refine ⟨⟨k + 1, by omega, by go_num, HN.out ?_⟩, by simp [intOf]; omega⟩
           simp only [chOk, Bool.or_eq_true, Bool.and_eq_true, decide_eq_true_eq]
           omega)
        | (have hF := HF.out (by rw [← Bool.not_eq_true]; simp only [chOk, Bool.or_eq_true, Bool.and_eq_true, decide_eq_true_eq]; omega)
           rw [hF]
           go_ret
           exact ⟨rfl, rfl⟩)
        | (exfalso; omega)
        | (exfalso
           have h48 : ((s[k]'hlt).toNat : Int) < 48 := by omega
           rename_i hq hw hb _ _ 
           simp_all)
    · have HV := hide (all_true (s := s) (fun j hj => HO.out j (by omega)))
      clear HO
      go_wp2_with fail
      refine (l1In_any _ _ _ _).mono ?_
      rintro e w' ⟨rfl, rfl⟩
      rw [← HV.out]
      go_wp2_with fail
      go_ret
      exact ⟨rfl, rfl⟩
end Go.Proofs.YtepoiphmmjfbdaaGreatDoor.CName
/- When sections, symbols and objects are valid; plain. -/
namespace Go.Proofs.YtepoiphmmjfbdaaGreatDoor.PValid
set_option maxRecDepth 200000
open Go.ChangeShapes Go.WideShapes Go.ChangeAt Go.RowKit Kit CCode CName PObj
def wide (k : Int) : Int := if k = 1 then 1 else if k = 2 then 2 else if k = 3 then 4 else 0
theorem wide_bd (k : Int) : 0 ≤ wide k ∧ wide k ≤ 4 := by
  unfold wide
  split
  · omega
  · split
    · omega
    · split <;> omega
def alignOk (n : Int) : Bool := decide (n = 1) || decide (n = 2) || decide (n = 4) || decide (n = 8)
def fixOk (many : Int) (n : Nat) (e : Int) (f : FD) : Bool := !decide (wide f.2.1 = 0) && !decide (f.2.2.1 < 0) && !decide (many ≤ f.2.2.1) && inB f.2.2.2 (-1000) 1000 && inB f.1 e (n - wide f.2.1)
def fixesOk (many : Int) (n : Nat) : Int → List FD → Bool
  | _, [] => true
  | e, f :: fs => fixOk many n e f && fixesOk many n (f.1 + wide f.2.1) fs
def headOk (d : SD) : Bool := nameOk d.nm && inB d.kd 1 3 && alignOk d.al
def blankOk (d : SD) : Bool := inB d.sz 0 48 && decide (d.zs.length = 0) && decide (d.fs.length = 0)
def bodyOk (many : Int) (d : SD) : Bool := decide (d.sz = 0) && decide (d.zs.length ≤ 48) && decide (d.fs.length ≤ 6) && fixesOk many d.zs.length 0 d.fs
def secOk (many : Int) (d : SD) : Bool := headOk d && (if d.kd = 3 then blankOk d else bodyOk many d)
def secSize (d : SD) : Int := if d.kd = 3 then d.sz else d.zs.length
theorem fixes_drop {many : Int} {n : Nat} {e : Int} {fs : List FD} {k : Nat} (h : k < fs.length) : fixesOk many n e (fs.drop k) = (fixOk many n e fs[k] && fixesOk many n (fs[k].1 + wide fs[k].2.1) (fs.drop (k + 1))) := by
  rw [List.drop_eq_getElem_cons h]
  rfl
theorem fixOk_iff {many : Int} {n : Nat} {e : Int} {f : FD} : fixOk many n e f = true ↔ wide f.2.1 ≠ 0 ∧ 0 ≤ f.2.2.1 ∧ f.2.2.1 < many ∧ (-1000 ≤ f.2.2.2 ∧ f.2.2.2 ≤ 1000) ∧ (e ≤ f.1 ∧ f.1 ≤ n - wide f.2.1) := by
  simp only [fixOk, inB, Bool.and_eq_true, Bool.not_eq_true', decide_eq_false_iff_not, decide_eq_true_eq]
  omega
def bindOk (y : YD) : Bool := nameOk y.1 && inB y.2.1 0 2
def placeOk (ss : List SD) (y : YD) : Bool :=
  if y.2.2.1 = -1 then decide (y.2.2.2 = 0) && !decide (y.2.1 = 0)
  else if y.2.2.1 = -2 then inB y.2.2.2 0 60000
  else inB y.2.2.1 0 (ss.length - 1) && inB y.2.2.2 0 (secSize (ss.getD y.2.2.1.toNat ⟨ByteArray.empty, 0, 0, [], 0, []⟩))
def symOk (ss : List SD) (y : YD) : Bool := bindOk y && placeOk ss y
/-- A symbol whose name is given again. -/
def clash (ys : List YD) (y : YD) : Bool := !decide (y.2.1 = 0) && ys.any fun x => !decide (x.2.1 = 0) && decide (x.1 = y.1)
def symsOk (ss : List SD) (ys : List YD) : Bool := (List.range ys.length).all fun k => symOk ss (ys.getD k (ByteArray.empty, 0, 0, 0)) && !clash (ys.take k) (ys.getD k (ByteArray.empty, 0, 0, 0))
def objOk (o : OD) : Bool := decide (o.ss.length ≤ 8) && decide (o.ys.length ≤ 12) && (o.ss.all fun d => secOk o.ys.length d) && symsOk o.ss o.ys
end Go.Proofs.YtepoiphmmjfbdaaGreatDoor.PValid
/- The program's and the reference's SectionValid, and what they call. -/
namespace Go.Proofs.YtepoiphmmjfbdaaGreatDoor.CSecValid
set_option maxRecDepth 200000
open Go.ChangeShapes Go.WideShapes Go.ChangeAt Go.RowKit Kit CCode CName CFixups CSymbols PObj BObj PValid
theorem isAlign_any (n : Int) (w : World) : Calls Tryz.prog 87 #[.int .i64 n] w (Pure (.bool (alignOk n)) w) := by
  by_cases h1 : n = 1
  · subst h1
    go_enter Tryz.func87, Tryz.ntmps87
    go_wp2
    go_ret
    exact ⟨rfl, rfl⟩
  by_cases h2 : n = 2
  · subst h2
    go_enter Tryz.func87, Tryz.ntmps87
    go_wp2
    go_ret
    exact ⟨rfl, rfl⟩
  by_cases h4 : n = 4
  · subst h4
    go_enter Tryz.func87, Tryz.ntmps87
    go_wp2
    go_ret
    exact ⟨rfl, rfl⟩
  by_cases h8 : n = 8
  · subst h8
    go_enter Tryz.func87, Tryz.ntmps87
    go_wp2
    go_ret
    exact ⟨rfl, rfl⟩
  have hv : alignOk n = false := by simp [alignOk, h1, h2, h4, h8]
  rw [hv]
  have e1 : (n == 1) = false := beq_eq_false_iff_ne.2 h1
  have e2 : (n == 2) = false := beq_eq_false_iff_ne.2 h2
  have e4 : (n == 4) = false := beq_eq_false_iff_ne.2 h4
  have e8 : (n == 8) = false := beq_eq_false_iff_ne.2 h8
  go_enter Tryz.func87, Tryz.ntmps87
  go_wp2
  go_ret
  exact ⟨rfl, rfl⟩
theorem alignUp0_any (n : Int) (w : World) : Calls Tryz.prog 141 #[.int .i64 0, .int .i64 n] w (Pure (.int .i64 (bif alignOk n then 0 else -1)) w) := by
  by_cases h1 : n = 1
  · subst h1
    go_enter Tryz.func141, Tryz.ntmps141
    go_wp2_with (go_at_call 111; refine (l1In_any _ _ _ _).mono ?_; rintro e w' ⟨rfl, rfl⟩; rw [inB_t (by omega)])
    go_ret
    exact ⟨rfl, rfl⟩
  by_cases h2 : n = 2
  · subst h2
    go_enter Tryz.func141, Tryz.ntmps141
    go_wp2_with (go_at_call 111; refine (l1In_any _ _ _ _).mono ?_; rintro e w' ⟨rfl, rfl⟩; rw [inB_t (by omega)])
    go_ret
    exact ⟨rfl, rfl⟩
  by_cases h4 : n = 4
  · subst h4
    go_enter Tryz.func141, Tryz.ntmps141
    go_wp2_with (go_at_call 111; refine (l1In_any _ _ _ _).mono ?_; rintro e w' ⟨rfl, rfl⟩; rw [inB_t (by omega)])
    go_ret
    exact ⟨rfl, rfl⟩
  by_cases h8 : n = 8
  · subst h8
    go_enter Tryz.func141, Tryz.ntmps141
    go_wp2_with (go_at_call 111; refine (l1In_any _ _ _ _).mono ?_; rintro e w' ⟨rfl, rfl⟩; rw [inB_t (by omega)])
    go_ret
    exact ⟨rfl, rfl⟩
  have hv : alignOk n = false := by simp [alignOk, h1, h2, h4, h8]
  rw [hv]
  have e1 : (n == 1) = false := beq_eq_false_iff_ne.2 h1
  have e2 : (n == 2) = false := beq_eq_false_iff_ne.2 h2
  have e4 : (n == 4) = false := beq_eq_false_iff_ne.2 h4
  have e8 : (n == 8) = false := beq_eq_false_iff_ne.2 h8
  have b1 : (n != 1) = true := bne_iff_ne.2 h1
  have b2 : (n != 2) = true := bne_iff_ne.2 h2
  have b4 : (n != 4) = true := bne_iff_ne.2 h4
  have b8 : (n != 8) = true := bne_iff_ne.2 h8
  go_enter Tryz.func141, Tryz.ntmps141
  go_wp2_with (go_at_call 111; refine (l1In_any _ _ _ _).mono ?_; rintro e w' ⟨rfl, rfl⟩; rw [inB_t (by omega)])
  go_ret
  exact ⟨rfl, rfl⟩
theorem fixupWide_any (k : Int) (w : World) : Calls Tryz.prog 104 #[.int .i64 k] w (Pure (.int .i64 (wide k)) w) := by
  by_cases h1 : k = 1
  · subst h1
    go_enter Tryz.func104, Tryz.ntmps104
    go_wp2
    go_ret
    exact ⟨rfl, rfl⟩
  by_cases h2 : k = 2
  · subst h2
    go_enter Tryz.func104, Tryz.ntmps104
    go_wp2
    go_ret
    exact ⟨rfl, rfl⟩
  by_cases h3 : k = 3
  · subst h3
    go_enter Tryz.func104, Tryz.ntmps104
    go_wp2
    go_ret
    exact ⟨rfl, rfl⟩
  have hv : wide k = 0 := by simp [wide, h1, h2, h3]
  rw [hv]
  have e1 : (k == 1) = false := beq_eq_false_iff_ne.2 h1
  have e2 : (k == 2) = false := beq_eq_false_iff_ne.2 h2
  have e3 : (k == 3) = false := beq_eq_false_iff_ne.2 h3
  go_enter Tryz.func104, Tryz.ntmps104
  go_wp2
  go_ret
  exact ⟨rfl, rfl⟩
theorem fixupWideS_any (k : Int) (w : World) : Calls Tryz.prog 135 #[.int .i64 k] w (Ret (.int .i64 (wide k)) w) := by
  by_cases h1 : k = 1
  · subst h1
    go_enter Tryz.func135, Tryz.ntmps135
    go_wp2_with (go_at_call 111; refine (l1In_any _ _ _ _).mono ?_; rintro e w' ⟨rfl, rfl⟩; rw [inB_t (by omega)])
    go_ret
    exact ⟨rfl, (by repeat (first | exact Below.refl _ _ | with_reducible assumption | (refine Below.drew ?_) | (refine Below.drewN ?_ _) | (refine Below.alloc ?_ (by simp; try omega) _) | (refine Below.setCell ?_ (by simp; try omega) _)))⟩
  by_cases h2 : k = 2
  · subst h2
    go_enter Tryz.func135, Tryz.ntmps135
    go_wp2_with (go_at_call 111; refine (l1In_any _ _ _ _).mono ?_; rintro e w' ⟨rfl, rfl⟩; rw [inB_t (by omega)])
    go_ret
    exact ⟨rfl, (by repeat (first | exact Below.refl _ _ | with_reducible assumption | (refine Below.drew ?_) | (refine Below.drewN ?_ _) | (refine Below.alloc ?_ (by simp; try omega) _) | (refine Below.setCell ?_ (by simp; try omega) _)))⟩
  by_cases h3 : k = 3
  · subst h3
    go_enter Tryz.func135, Tryz.ntmps135
    go_wp2_with (go_at_call 111; refine (l1In_any _ _ _ _).mono ?_; rintro e w' ⟨rfl, rfl⟩; rw [inB_t (by omega)])
    go_ret
    exact ⟨rfl, (by repeat (first | exact Below.refl _ _ | with_reducible assumption | (refine Below.drew ?_) | (refine Below.drewN ?_ _) | (refine Below.alloc ?_ (by simp; try omega) _) | (refine Below.setCell ?_ (by simp; try omega) _)))⟩
  have hv : wide k = 0 := by simp [wide, h1, h2, h3]
  rw [hv]
  go_enter Tryz.func135, Tryz.ntmps135
  go_wp2_with (go_at_call 111; refine (l1In_any _ _ _ _).mono ?_; rintro e w' ⟨rfl, rfl⟩; rw [inB_f (by omega)])
  go_ret
  exact ⟨rfl, (by repeat (first | exact Below.refl _ _ | with_reducible assumption | (refine Below.drew ?_) | (refine Below.drewN ?_ _) | (refine Below.alloc ?_ (by simp; try omega) _) | (refine Below.setCell ?_ (by simp; try omega) _)))⟩
theorem isAdd_any (n : Int) (w : World) : Calls Tryz.prog 137 #[.int .i64 n] w (Pure (.bool (inB n (-1000) 1000)) w) := by
  go_enter Tryz.func137, Tryz.ntmps137
  go_wp2_with fail
  refine (within_any _ _ _ _).mono ?_
  rintro e w' ⟨rfl, rfl⟩
  go_wp2_with fail
  go_ret
  exact ⟨rfl, rfl⟩
theorem sectionSize_any (p : SV) (w : World) (hz : p.zs.length ≤ maxLen) : Calls Tryz.prog 38 #[.agg #[.string p.nm, .int .i64 p.kd, .int .i64 p.al, .slice p.A p.zs.length p.c, .int .i64 p.sz, .slice p.F p.fs.length p.fc]] w (Ret (.int .i64 (secSize p.d)) w) := by
  unfold maxLen at hz
  by_cases h : p.kd = 3
  · have hv : secSize p.d = p.sz := if_pos h
    rw [hv, h]
    go_enter Tryz.func38, Tryz.ntmps38
    go_wp2
    go_ret
    exact ⟨rfl, (by repeat (first | exact Below.refl _ _ | with_reducible assumption | (refine Below.drew ?_) | (refine Below.drewN ?_ _) | (refine Below.alloc ?_ (by simp; try omega) _) | (refine Below.setCell ?_ (by simp; try omega) _)))⟩
  · have hv : secSize p.d = p.zs.length := if_neg h
    rw [hv]
    have e1 : (p.kd == 3) = false := beq_eq_false_iff_ne.2 h
    go_enter Tryz.func38, Tryz.ntmps38
    go_wp2
    go_ret
    exact ⟨rfl, (by repeat (first | exact Below.refl _ _ | with_reducible assumption | (refine Below.drew ?_) | (refine Below.drewN ?_ _) | (refine Below.alloc ?_ (by simp; try omega) _) | (refine Below.setCell ?_ (by simp; try omega) _)))⟩
theorem sectionSizeS_any (p : SV) (w : World) (hz : p.zs.length ≤ maxLen) : Calls Tryz.prog 41 #[.agg #[.string p.nm, .int .i64 p.kd, .int .i64 p.al, .slice p.A p.zs.length p.c, .int .i64 p.sz, .slice p.F p.fs.length p.fc]] w (Ret (.int .i64 (secSize p.d)) w) := by
  unfold maxLen at hz
  by_cases h : p.kd = 3
  · have hv : secSize p.d = p.sz := if_pos h
    rw [hv, h]
    go_enter Tryz.func41, Tryz.ntmps41
    go_wp2
    go_ret
    exact ⟨rfl, (by repeat (first | exact Below.refl _ _ | with_reducible assumption | (refine Below.drew ?_) | (refine Below.drewN ?_ _) | (refine Below.alloc ?_ (by simp; try omega) _) | (refine Below.setCell ?_ (by simp; try omega) _)))⟩
  · have hv : secSize p.d = p.zs.length := if_neg h
    rw [hv]
    have e1 : (p.kd == 3) = false := beq_eq_false_iff_ne.2 h
    go_enter Tryz.func41, Tryz.ntmps41
    go_wp2
    go_ret
    exact ⟨rfl, (by repeat (first | exact Below.refl _ _ | with_reducible assumption | (refine Below.drew ?_) | (refine Below.drewN ?_ _) | (refine Below.alloc ?_ (by simp; try omega) _) | (refine Below.setCell ?_ (by simp; try omega) _)))⟩
end Go.Proofs.YtepoiphmmjfbdaaGreatDoor.CSecValid
/- The program's SectionValid. -/
namespace Go.Proofs.YtepoiphmmjfbdaaGreatDoor.CSecValid2
set_option maxRecDepth 200000
open Go.ChangeShapes Go.WideShapes Go.ChangeAt Go.RowKit Kit CCode CName CFixups CSymbols PObj BObj PValid CSecValid
theorem sec_head {many : Int} {d : SD} (h : headOk d = false) : secOk many d = false := by rw [secOk, h]; rfl
theorem sec_blank {many : Int} {d : SD} (h : headOk d = true) (hk : d.kd = 3) : secOk many d = blankOk d := by rw [secOk, h, if_pos hk]; rfl
theorem sec_body {many : Int} {d : SD} (h : headOk d = true) (hk : ¬ d.kd = 3) : secOk many d = bodyOk many d := by rw [secOk, h, if_neg hk]; rfl
theorem sectionValid_any (p : SV) (many : Int) (w : World) (hr : RdS w w.heap.size p) (h0 : p.nm.size ≤ maxLen) (h1 : p.zs.length ≤ 1048576) (h2 : p.fs.length ≤ 1048576) :
    Calls Tryz.prog 82 #[.agg #[.string p.nm, .int .i64 p.kd, .int .i64 p.al, .slice p.A p.zs.length p.c, .int .i64 p.sz, .slice p.F p.fs.length p.fc], .int .i64 many] w (Ret (.bool (secOk many p.d)) w) := by
  obtain ⟨nm, kd, al, A, c, zs, sz, F, fc, fs⟩ := p
  have HR := hide hr.2
  have H0 := hide h0
  simp only [SV.d] at h0 h1 h2 ⊢
  clear hr h0
  have B0 : Below w.heap.size w (w.alloc (.cells #[.string nm, .int .i64 kd, .int .i64 al, .slice A zs.length c, .int .i64 sz, .slice F fs.length fc] 61)) := (by repeat (first | exact Below.refl _ _ | with_reducible assumption | (refine Below.drew ?_) | (refine Below.drewN ?_ _) | (refine Below.alloc ?_ (by simp; try omega) _) | (refine Below.setCell ?_ (by simp; try omega) _)))
  have X0 := Box.new w 61 #[.string nm, .int .i64 kd, .int .i64 al, .slice A zs.length c, .int .i64 sz, .slice F fs.length fc]
  have HB := hide B0
  have x0 := X0.cell 0
  have x1 := X0.cell 1
  have x2 := X0.cell 2
  have x3 := X0.cell 3
  have x4 := X0.cell 4
  have x5 := X0.cell 5
  simp only [List.getElem?_toArray, List.getElem?_cons_zero, List.getElem?_cons_succ] at x0 x1 x2 x3 x4 x5
  clear B0
  go_enter Tryz.func82, Tryz.ntmps82
  go_wp2_with fail
  generalize w.alloc (.cells #[.string nm, .int .i64 kd, .int .i64 al, .slice A zs.length c, .int .i64 sz, .slice F fs.length fc] 61) = w0 at *
  refine (nameValid_any nm H0.out w0).mono ?_
  rintro e w' ⟨rfl, rfl⟩
  cases hn : nameOk nm
  · have HV := hide (sec_head (many := many) (d := ⟨nm, kd, al, zs, sz, fs⟩) (by simp [headOk, hn]))
    go_wp2_with fail
    go_ret
    exact ⟨by rw [HV.out]; rfl, HB.out⟩
  go_wp2_with fail
  refine (within_any _ _ _ _).mono ?_
  rintro e w' ⟨rfl, rfl⟩
  cases hk : inB kd 1 3
  · have HV := hide (sec_head (many := many) (d := ⟨nm, kd, al, zs, sz, fs⟩) (by simp [headOk, hk]))
    go_wp2_with fail
    go_ret
    exact ⟨by rw [HV.out]; rfl, HB.out⟩
  go_wp2_with fail
  refine (isAlign_any _ _).mono ?_
  rintro e w' ⟨rfl, rfl⟩
  cases ha : alignOk al
  · have HV := hide (sec_head (many := many) (d := ⟨nm, kd, al, zs, sz, fs⟩) (by simp [headOk, ha]))
    go_wp2_with fail
    go_ret
    exact ⟨by rw [HV.out]; rfl, HB.out⟩
  have hh : headOk ⟨nm, kd, al, zs, sz, fs⟩ = true := by simp [headOk, hn, hk, ha]
  by_cases hk3 : kd = 3
  · have HV := hide ((sec_blank (many := many) hh hk3).trans (show blankOk ⟨nm, kd, al, zs, sz, fs⟩ = (inB sz 0 48 && decide (zs.length = 0) && decide (fs.length = 0)) from rfl))
    clear hn hk ha hh
    have e3 : (kd == 3) = true := beq_iff_eq.2 hk3
    clear hk3
    go_wp2_with fail
    refine (within_any _ _ _ _).mono ?_
    rintro e w' ⟨rfl, rfl⟩
    cases hs : inB sz 0 48
    · rw [hs] at HV
      go_wp2_with fail
      go_ret
      exact ⟨by rw [HV.out]; rfl, HB.out⟩
    · rw [hs] at HV
      clear hs
      by_cases hz : zs.length = 0
      · have ez : ((zs.length : Int) == 0) = true := by rw [hz]; rfl
        rw [decide_eq_true hz] at HV
        by_cases hf : fs.length = 0
        · have ef : ((fs.length : Int) == 0) = true := by rw [hf]; rfl
          rw [decide_eq_true hf] at HV
          clear hz hf
          go_wp2_with fail
          go_ret
          exact ⟨by rw [HV.out]; rfl, HB.out⟩
        · have ef : ((fs.length : Int) == 0) = false := beq_eq_false_iff_ne.2 (by omega)
          rw [decide_eq_false hf] at HV
          clear hz hf
          go_wp2_with fail
          go_ret
          exact ⟨by rw [HV.out]; rfl, HB.out⟩
      · have ez : ((zs.length : Int) == 0) = false := beq_eq_false_iff_ne.2 (by omega)
        rw [decide_eq_false hz] at HV
        clear hz
        go_wp2_with fail
        go_ret
        exact ⟨by rw [HV.out]; simp, HB.out⟩
  have HV := hide ((sec_body (many := many) hh hk3).trans (show bodyOk many ⟨nm, kd, al, zs, sz, fs⟩ = (decide (sz = 0) && decide (zs.length ≤ 48) && decide (fs.length ≤ 6) && fixesOk many zs.length 0 fs) from rfl))
  have e3 : (kd == 3) = false := beq_eq_false_iff_ne.2 hk3
  clear hn hk ha hh hk3
  by_cases hs : sz = 0
  · have es : (sz != 0) = false := by rw [hs]; rfl
    rw [decide_eq_true hs] at HV
    by_cases hz : zs.length ≤ 48
    · have ez : decide ((48 : Int) < zs.length) = false := decide_eq_false (by omega)
      rw [decide_eq_true hz] at HV
      by_cases hf : fs.length ≤ 6
      · have ef : decide ((6 : Int) < fs.length) = false := decide_eq_false (by omega)
        rw [decide_eq_true hf] at HV
        have HV' := hide (HV.out.trans (show (true && true && true && fixesOk many zs.length 0 fs) = fixesOk many zs.length 0 fs by simp))
        clear HV hs
        go_wp2_with fail
        clear x0 x1 x2 x4 e3 es ez ef
        go_loopw [5, 61] (fun en ix wi => ∃ (k : Nat) (e : Int), k ≤ fs.length ∧ ix = .int .i64 k ∧ en = .int .i64 e ∧ 0 ≤ e ∧ e ≤ 48 ∧ fixesOk many zs.length 0 fs = fixesOk many zs.length e (fs.drop k) ∧ Box wi w.heap.size 61 #[.string nm, .int .i64 kd, .int .i64 al, .slice A zs.length c, .int .i64 sz, .slice F fs.length fc] ∧ Below w.heap.size w wi) (fun _ ix _ => fs.length - (intOf ix).toNat)
        case atStart => exact ⟨0, 0, Nat.zero_le _, rfl, rfl, by omega, by omega, rfl, X0, HB.out⟩
        case round =>
          obtain ⟨k, e, hk, rfl, rfl, he0, he1, hfx, hbx, hb⟩ := hrel
          have HBX := hide hbx
          have HBI := hide hb
          clear X0 HB x3 x5
          by_cases hlt : k < fs.length
          · obtain ⟨b, off, rfl, hbg, hc⟩ := (HR.out.below hb).row fixupC_len (by decide) hlt
            have hc0 := hc 0 _ rfl
            have hc1 := hc 1 _ rfl
            have hc2 := hc 2 _ rfl
            have hc3 := hc 3 _ rfl
            simp only [Nat.add_zero] at hc0
            have HFX := hide (hfx.trans (fixes_drop hlt))
            have HIF := hide (fixOk_iff (many := many) (n := zs.length) (e := e) (f := fs[k]))
            clear hfx hc hbx hb
            generalize fs[k] = f at *
            go_wp2_with fail
            have X1 := HBX.out.alloc (.cells #[.int .i64 f.1, .int .i64 f.2.1, .int .i64 f.2.2.1, .int .i64 f.2.2.2] 65)
            have Z1 := Box.new wr 65 #[.int .i64 f.1, .int .i64 f.2.1, .int .i64 f.2.2.1, .int .i64 f.2.2.2]
            have HB1 := hide (HBI.out.alloc HBI.out.size (.cells #[.int .i64 f.1, .int .i64 f.2.1, .int .i64 f.2.2.1, .int .i64 f.2.2.2] 65))
            generalize wr.alloc (.cells #[.int .i64 f.1, .int .i64 f.2.1, .int .i64 f.2.2.1, .int .i64 f.2.2.2] 65) = w1 at *
            generalize wr.heap.size = X at *
            have z0 := Z1.cell 0
            have z1 := Z1.cell 1
            have z2 := Z1.cell 2
            have z3 := Z1.cell 3
            have x3 := X1.cell 3
            simp only [List.getElem?_toArray, List.getElem?_cons_zero, List.getElem?_cons_succ] at z0 z1 z2 z3 x3
            have HX1 := hide X1
            clear HBX HBI X1 Z1 hc0 hc1 hc2 hc3
            refine (fixupWide_any _ _).mono ?_
            rintro e' w' ⟨rfl, rfl⟩
            have hwd := wide_bd f.2.1
            generalize hwg : wide f.2.1 = wd at *
            have HWG := hide hwg
            clear hwg
            by_cases g1 : wd = 0
            · have HN := hide (show fixOk many zs.length e f = false by rw [← Bool.not_eq_true, HIF.out]; omega)
              have e1 : (wd == 0) = true := beq_iff_eq.2 g1
              clear HIF g1 hwd
              go_wp2_with fail
              go_ret
              exact ⟨by rw [HV'.out, HFX.out, HN.out]; rfl, HB1.out⟩
            have e1 : (wd == 0) = false := beq_eq_false_iff_ne.2 g1
            by_cases g2 : f.2.2.1 < 0
            · have HN := hide (show fixOk many zs.length e f = false by rw [← Bool.not_eq_true, HIF.out]; omega)
              clear HIF g1
              go_wp2_with fail
              go_ret
              exact ⟨by rw [HV'.out, HFX.out, HN.out]; rfl, HB1.out⟩
            have e2 : decide (f.2.2.1 < 0) = false := decide_eq_false g2
            by_cases g3 : many ≤ f.2.2.1
            · have HN := hide (show fixOk many zs.length e f = false by rw [← Bool.not_eq_true, HIF.out]; omega)
              clear HIF g1 g2
              go_wp2_with fail
              go_ret
              exact ⟨by rw [HV'.out, HFX.out, HN.out]; rfl, HB1.out⟩
            have e3 : decide (many ≤ f.2.2.1) = false := decide_eq_false g3
            go_wp2_with fail
            refine (isAdd_any _ _).mono ?_
            rintro e' w' ⟨rfl, rfl⟩
            by_cases g4 : -1000 ≤ f.2.2.2 ∧ f.2.2.2 ≤ 1000
            · rw [inB_t g4]
              go_wp2_with fail
              refine (within_any _ _ _ _).mono ?_
              rintro e' w' ⟨rfl, rfl⟩
              by_cases g5 : e ≤ f.1 ∧ f.1 ≤ zs.length - wd
              · rw [inB_t g5]
                have HY := hide (show fixOk many zs.length e f = true by rw [HIF.out]; omega)
                have HS := hide (show fixesOk many zs.length 0 fs = fixesOk many zs.length (f.1 + wd) (fs.drop (k + 1)) by rw [HFX.out, HY.out]; rfl)
                have hbd : 0 ≤ f.1 + wd ∧ f.1 + wd ≤ 48 := by omega
                clear HIF g1 g2 g3 g4 HFX HY
                go_wp2_with fail
                refine ⟨⟨k + 1, f.1 + wd, by omega, by go_num, rfl, hbd.1, hbd.2, HS.out, HX1.out, HB1.out⟩, by simp [intOf]; omega⟩
              · rw [inB_f g5]
                have HN := hide (show fixOk many zs.length e f = false by rw [← Bool.not_eq_true, HIF.out]; omega)
                clear HIF g1 g2 g3 g4 g5
                go_wp2_with fail
                go_ret
                exact ⟨by rw [HV'.out, HFX.out, HN.out]; rfl, HB1.out⟩
            · rw [inB_f g4]
              have HN := hide (show fixOk many zs.length e f = false by rw [← Bool.not_eq_true, HIF.out]; omega)
              clear HIF g1 g2 g3 g4
              go_wp2_with fail
              go_ret
              exact ⟨by rw [HV'.out, HFX.out, HN.out]; rfl, HB1.out⟩
          · have hE : fixesOk many zs.length 0 fs = true := by
              rw [hfx, List.drop_of_length_le (by omega)]
              rfl
            have HE := hide hE
            clear hE hfx hbx hb
            go_wp2_with fail
            go_ret
            exact ⟨by rw [HV'.out, HE.out]; rfl, HBI.out⟩
      · have ef : decide ((6 : Int) < fs.length) = true := decide_eq_true (by omega)
        rw [decide_eq_false hf] at HV
        clear hs hz hf
        go_wp2_with fail
        go_ret
        exact ⟨by rw [HV.out]; simp, HB.out⟩
    · have ez : decide ((48 : Int) < zs.length) = true := decide_eq_true (by omega)
      rw [decide_eq_false hz] at HV
      clear hs hz
      go_wp2_with fail
      go_ret
      exact ⟨by rw [HV.out]; simp, HB.out⟩
  · have es : (sz != 0) = true := bne_iff_ne.2 hs
    rw [decide_eq_false hs] at HV
    clear hs
    go_wp2_with fail
    go_ret
    exact ⟨by rw [HV.out]; simp, HB.out⟩
end Go.Proofs.YtepoiphmmjfbdaaGreatDoor.CSecValid2
/- The reference's SectionValid. -/
namespace Go.Proofs.YtepoiphmmjfbdaaGreatDoor.CSecValid3
set_option maxRecDepth 200000
open Go.ChangeShapes Go.WideShapes Go.ChangeAt Go.RowKit Kit CCode CName CFixups CSymbols PObj BObj PValid CSecValid CSecValid2
theorem sec_big {many : Int} {d : SD} (h : ¬ d.zs.length ≤ 48 ∨ ¬ d.fs.length ≤ 6 ∨ inB d.sz 0 48 = false) : secOk many d = false := by
  rw [← Bool.not_eq_true]
  intro ht
  rw [secOk, Bool.and_eq_true] at ht
  obtain ⟨_, ht⟩ := ht
  split at ht
  · simp only [blankOk, Bool.and_eq_true, decide_eq_true_eq] at ht
    rcases h with h | h | h
    · omega
    · omega
    · rw [h] at ht
      exact absurd ht.1.1 (by decide)
  · simp only [bodyOk, Bool.and_eq_true, decide_eq_true_eq] at ht
    rcases h with h | h | h
    · omega
    · omega
    · rw [ht.1.1.1] at h
      exact absurd h (by decide)
theorem sectionValidS_any (p : SV) (many : Int) (w : World) (hr : RdS w w.heap.size p) (h0 : p.nm.size ≤ maxLen) (h1 : p.zs.length ≤ 1048576) (h2 : p.fs.length ≤ 1048576) :
    Calls Tryz.prog 85 #[.agg #[.string p.nm, .int .i64 p.kd, .int .i64 p.al, .slice p.A p.zs.length p.c, .int .i64 p.sz, .slice p.F p.fs.length p.fc], .int .i64 many] w (Ret (.bool (secOk many p.d)) w) := by
  obtain ⟨nm, kd, al, A, c, zs, sz, F, fc, fs⟩ := p
  have HR := hide hr.2
  have H0 := hide h0
  simp only [SV.d] at h0 h1 h2 ⊢
  clear hr h0
  have B0 : Below w.heap.size w (w.alloc (.cells #[.string nm, .int .i64 kd, .int .i64 al, .slice A zs.length c, .int .i64 sz, .slice F fs.length fc] 61)) := (by repeat (first | exact Below.refl _ _ | with_reducible assumption | (refine Below.drew ?_) | (refine Below.drewN ?_ _) | (refine Below.alloc ?_ (by simp; try omega) _) | (refine Below.setCell ?_ (by simp; try omega) _)))
  have X0 := Box.new w 61 #[.string nm, .int .i64 kd, .int .i64 al, .slice A zs.length c, .int .i64 sz, .slice F fs.length fc]
  have HB := hide B0
  have x0 := X0.cell 0
  have x1 := X0.cell 1
  have x2 := X0.cell 2
  have x3 := X0.cell 3
  have x4 := X0.cell 4
  have x5 := X0.cell 5
  simp only [List.getElem?_toArray, List.getElem?_cons_zero, List.getElem?_cons_succ] at x0 x1 x2 x3 x4 x5
  clear B0
  go_enter Tryz.func85, Tryz.ntmps85
  go_wp2_with fail
  generalize w.alloc (.cells #[.string nm, .int .i64 kd, .int .i64 al, .slice A zs.length c, .int .i64 sz, .slice F fs.length fc] 61) = w0 at *
  refine (nameValidS_any nm H0.out w0).mono ?_
  rintro e w' ⟨rfl, rfl⟩
  cases hn : nameOk nm
  · have HV := hide (sec_head (many := many) (d := ⟨nm, kd, al, zs, sz, fs⟩) (by simp [headOk, hn]))
    go_wp2_with fail
    go_ret
    exact ⟨by rw [HV.out]; rfl, HB.out⟩
  go_wp2_with fail
  refine (l1In_any _ _ _ _).mono ?_
  rintro e w' ⟨rfl, rfl⟩
  cases hk : inB kd 1 3
  · have HV := hide (sec_head (many := many) (d := ⟨nm, kd, al, zs, sz, fs⟩) (by simp [headOk, hk]))
    go_wp2_with fail
    go_ret
    exact ⟨by rw [HV.out]; rfl, HB.out⟩
  go_wp2_with fail
  refine (alignUp0_any _ _).mono ?_
  rintro e w' ⟨rfl, rfl⟩
  cases ha : alignOk al
  · have HV := hide (sec_head (many := many) (d := ⟨nm, kd, al, zs, sz, fs⟩) (by simp [headOk, ha]))
    simp only [cond_false]
    go_wp2_with fail
    go_ret
    exact ⟨by rw [HV.out]; rfl, HB.out⟩
  simp only [cond_true]
  have hh : headOk ⟨nm, kd, al, zs, sz, fs⟩ = true := by simp [headOk, hn, hk, ha]
  clear hn hk ha
  by_cases hz : zs.length ≤ 48
  case neg =>
    have HV := hide (sec_big (many := many) (d := ⟨nm, kd, al, zs, sz, fs⟩) (.inl hz))
    have ez : decide ((48 : Int) < zs.length) = true := decide_eq_true (by omega)
    clear hz
    go_wp2_with fail
    go_ret
    exact ⟨by rw [HV.out]; rfl, HB.out⟩
  have ez : decide ((48 : Int) < zs.length) = false := decide_eq_false (by omega)
  by_cases hf : fs.length ≤ 6
  case neg =>
    have HV := hide (sec_big (many := many) (d := ⟨nm, kd, al, zs, sz, fs⟩) (.inr (.inl hf)))
    have ef : decide ((6 : Int) < fs.length) = true := decide_eq_true (by omega)
    clear hf
    go_wp2_with fail
    go_ret
    exact ⟨by rw [HV.out]; rfl, HB.out⟩
  have ef : decide ((6 : Int) < fs.length) = false := decide_eq_false (by omega)
  have HHH := hide hh
  clear hh
  go_wp2_with fail
  refine (l1In_any _ _ _ _).mono ?_
  rintro e w' ⟨rfl, rfl⟩
  cases hs : inB sz 0 48
  · have HV := hide (sec_big (many := many) (d := ⟨nm, kd, al, zs, sz, fs⟩) (.inr (.inr hs)))
    clear hs
    go_wp2_with fail
    go_ret
    exact ⟨by rw [HV.out]; rfl, HB.out⟩
  by_cases hk3 : kd = 3
  · have HV := hide ((sec_blank (many := many) HHH.out hk3).trans (show blankOk ⟨nm, kd, al, zs, sz, fs⟩ = (inB sz 0 48 && decide (zs.length = 0) && decide (fs.length = 0)) from rfl))
    rw [hs] at HV
    have e3 : (kd == 3) = true := beq_iff_eq.2 hk3
    clear hk3 hs
    by_cases hz : zs.length = 0
    · have ez : ((zs.length : Int) == 0) = true := by rw [hz]; rfl
      rw [decide_eq_true hz] at HV
      by_cases hf : fs.length = 0
      · have ef : ((fs.length : Int) == 0) = true := by rw [hf]; rfl
        rw [decide_eq_true hf] at HV
        clear hz hf
        go_wp2_with fail
        go_ret
        exact ⟨by rw [HV.out]; rfl, HB.out⟩
      · have ef : ((fs.length : Int) == 0) = false := beq_eq_false_iff_ne.2 (by omega)
        rw [decide_eq_false hf] at HV
        clear hz hf
        go_wp2_with fail
        go_ret
        exact ⟨by rw [HV.out]; rfl, HB.out⟩
    · have ez : ((zs.length : Int) == 0) = false := beq_eq_false_iff_ne.2 (by omega)
      rw [decide_eq_false hz] at HV
      clear hz
      go_wp2_with fail
      go_ret
      exact ⟨by rw [HV.out]; simp, HB.out⟩
  · have hV := (sec_body (many := many) HHH.out hk3).trans (show bodyOk many ⟨nm, kd, al, zs, sz, fs⟩ = (decide (sz = 0) && decide (zs.length ≤ 48) && decide (fs.length ≤ 6) && fixesOk many zs.length 0 fs) from rfl)
    have HFF := hide (fun (h : fixesOk many zs.length 0 fs = false) => (show secOk many ⟨nm, kd, al, zs, sz, fs⟩ = false by rw [hV, h, Bool.and_false]))
    have HTT := hide (fun (h : fixesOk many zs.length 0 fs = true) => (show secOk many ⟨nm, kd, al, zs, sz, fs⟩ = decide (sz = 0) by rw [hV, h, decide_eq_true hz, decide_eq_true hf, Bool.and_true, Bool.and_true, Bool.and_true]))
    have e3 : (kd == 3) = false := beq_eq_false_iff_ne.2 hk3
    clear hk3 hV hs ez ef HHH
    go_wp2_with fail
    clear x0 x1 x2 x3 x4 x5 e3
    go_loopw [5, 6] (fun en ix wi => ∃ (k : Nat) (e : Int), k ≤ fs.length ∧ ix = .int .i64 k ∧ en = .int .i64 e ∧ 0 ≤ e ∧ e ≤ 48 ∧ fixesOk many zs.length 0 fs = fixesOk many zs.length e (fs.drop k) ∧ Box wi w.heap.size 61 #[.string nm, .int .i64 kd, .int .i64 al, .slice A zs.length c, .int .i64 sz, .slice F fs.length fc] ∧ Below w.heap.size w wi) (fun _ ix _ => fs.length - (intOf ix).toNat)
    case atStart => exact ⟨0, 0, Nat.zero_le _, rfl, rfl, by omega, by omega, rfl, X0, HB.out⟩
    case round =>
      obtain ⟨k, e, hk, rfl, rfl, he0, he1, hfx, hbx, hb⟩ := hrel
      have HBX := hide hbx
      have HBI := hide hb
      have x5 := hbx.cell 5
      have x4 := hbx.cell 4
      simp only [List.getElem?_toArray, List.getElem?_cons_zero, List.getElem?_cons_succ] at x4 x5
      clear X0 HB
      by_cases hlt : k < fs.length
      · obtain ⟨b, off, rfl, hbg, hc⟩ := (HR.out.below hb).row fixupC_len (by decide) hlt
        have hc0 := hc 0 _ rfl
        have hc1 := hc 1 _ rfl
        have hc2 := hc 2 _ rfl
        have hc3 := hc 3 _ rfl
        simp only [Nat.add_zero] at hc0
        have HFX := hide (hfx.trans (fixes_drop hlt))
        have HIF := hide (fixOk_iff (many := many) (n := zs.length) (e := e) (f := fs[k]))
        clear hfx hc hbx hb
        generalize fs[k] = f at *
        go_wp2_with fail
        have X1 := HBX.out.alloc (.cells #[.int .i64 f.1, .int .i64 f.2.1, .int .i64 f.2.2.1, .int .i64 f.2.2.2] 65)
        have Z1 := Box.new wr 65 #[.int .i64 f.1, .int .i64 f.2.1, .int .i64 f.2.2.1, .int .i64 f.2.2.2]
        have HB1 := hide (HBI.out.alloc HBI.out.size (.cells #[.int .i64 f.1, .int .i64 f.2.1, .int .i64 f.2.2.1, .int .i64 f.2.2.2] 65))
        generalize wr.alloc (.cells #[.int .i64 f.1, .int .i64 f.2.1, .int .i64 f.2.2.1, .int .i64 f.2.2.2] 65) = w1 at *
        generalize wr.heap.size = X at *
        have z0 := Z1.cell 0
        have z1 := Z1.cell 1
        have z2 := Z1.cell 2
        have z3 := Z1.cell 3
        have x3 := X1.cell 3
        simp only [List.getElem?_toArray, List.getElem?_cons_zero, List.getElem?_cons_succ] at z0 z1 z2 z3 x3
        have HX1 := hide X1
        have HZ1 := hide Z1
        clear HBX HBI X1 Z1 hc0 hc1 hc2 hc3 x4 x5
        refine (fixupWideS_any _ _).mono ?_
        rintro e' w2 ⟨rfl, b2⟩
        have X2 := HX1.out.call b2
        have Z2 := HZ1.out.call b2
        have HB2 := hide (HB1.out.trans (b2.mono HB1.out.size))
        have HX2 := hide X2
        clear z0 z1 z2 z3 x3 b2 HX1 HZ1 HB1
        have z0 := Z2.cell 0
        have z1 := Z2.cell 1
        have z2 := Z2.cell 2
        have z3 := Z2.cell 3
        have x3 := X2.cell 3
        simp only [List.getElem?_toArray, List.getElem?_cons_zero, List.getElem?_cons_succ] at z0 z1 z2 z3 x3
        clear X2 Z2
        have hwd := wide_bd f.2.1
        generalize hwg : wide f.2.1 = wd at *
        have HWG := hide hwg
        clear hwg
        by_cases g1 : wd = 0
        · have HN := hide (show fixOk many zs.length e f = false by rw [← Bool.not_eq_true, HIF.out]; omega)
          have e1 : (wd == 0) = true := beq_iff_eq.2 g1
          clear HIF g1 hwd
          go_wp2_with fail
          go_ret
          exact ⟨by rw [HFF.out (by rw [HFX.out, HN.out]; rfl)]; rfl, HB2.out⟩
        have e1 : (wd == 0) = false := beq_eq_false_iff_ne.2 g1
        by_cases g2 : f.2.2.1 < 0
        · have HN := hide (show fixOk many zs.length e f = false by rw [← Bool.not_eq_true, HIF.out]; omega)
          clear HIF g1
          go_wp2_with fail
          go_ret
          exact ⟨by rw [HFF.out (by rw [HFX.out, HN.out]; rfl)]; rfl, HB2.out⟩
        have e2 : decide (f.2.2.1 < 0) = false := decide_eq_false g2
        by_cases g3 : many ≤ f.2.2.1
        · have HN := hide (show fixOk many zs.length e f = false by rw [← Bool.not_eq_true, HIF.out]; omega)
          clear HIF g1 g2
          go_wp2_with fail
          go_ret
          exact ⟨by rw [HFF.out (by rw [HFX.out, HN.out]; rfl)]; rfl, HB2.out⟩
        have e3 : decide (many ≤ f.2.2.1) = false := decide_eq_false g3
        go_wp2_with fail
        refine (l1In_any _ _ _ _).mono ?_
        rintro e' w' ⟨rfl, rfl⟩
        by_cases g4 : -1000 ≤ f.2.2.2 ∧ f.2.2.2 ≤ 1000
        · rw [inB_t g4]
          go_wp2_with fail
          refine (l1In_any _ _ _ _).mono ?_
          rintro e' w' ⟨rfl, rfl⟩
          by_cases g5 : e ≤ f.1 ∧ f.1 ≤ zs.length - wd
          · rw [inB_t g5]
            have HY := hide (show fixOk many zs.length e f = true by rw [HIF.out]; omega)
            have HS := hide (show fixesOk many zs.length 0 fs = fixesOk many zs.length (f.1 + wd) (fs.drop (k + 1)) by rw [HFX.out, HY.out]; rfl)
            have hbd : 0 ≤ f.1 + wd ∧ f.1 + wd ≤ 48 := by omega
            clear HIF g1 g2 g3 g4 HFX HY
            go_wp2_with fail
            refine ⟨⟨k + 1, f.1 + wd, by omega, by go_num, rfl, hbd.1, hbd.2, HS.out, HX2.out, HB2.out⟩, by simp [intOf]; omega⟩
          · rw [inB_f g5]
            have HN := hide (show fixOk many zs.length e f = false by rw [← Bool.not_eq_true, HIF.out]; omega)
            clear HIF g1 g2 g3 g4 g5
            go_wp2_with fail
            go_ret
            exact ⟨by rw [HFF.out (by rw [HFX.out, HN.out]; rfl)]; rfl, HB2.out⟩
        · rw [inB_f g4]
          have HN := hide (show fixOk many zs.length e f = false by rw [← Bool.not_eq_true, HIF.out]; omega)
          clear HIF g1 g2 g3 g4
          go_wp2_with fail
          go_ret
          exact ⟨by rw [HFF.out (by rw [HFX.out, HN.out]; rfl)]; rfl, HB2.out⟩
      · have hE : fixesOk many zs.length 0 fs = true := by
          rw [hfx, List.drop_of_length_le (by omega)]
          rfl
        have HE := hide (HTT.out hE)
        clear hE hfx hbx hb
        by_cases hs : sz = 0
        · have es : (sz == 0) = true := beq_iff_eq.2 hs
          rw [decide_eq_true hs] at HE
          clear hs
          go_wp2_with fail
          go_ret
          exact ⟨by rw [HE.out]; rfl, HBI.out⟩
        · have es : (sz == 0) = false := beq_eq_false_iff_ne.2 hs
          rw [decide_eq_false hs] at HE
          clear hs
          go_wp2_with fail
          go_ret
          exact ⟨by rw [HE.out]; rfl, HBI.out⟩
end Go.Proofs.YtepoiphmmjfbdaaGreatDoor.CSecValid3
/- The program's and the reference's SymbolValid. -/
namespace Go.Proofs.YtepoiphmmjfbdaaGreatDoor.CSymValid
set_option maxRecDepth 200000
open Go.ChangeShapes Go.WideShapes Go.ChangeAt Go.RowKit Kit CCode CName CFixups CSymbols PObj BObj PValid CSecValid
theorem sym_bind {ss : List SD} {y : YD} (h : bindOk y = false) : symOk ss y = false := by rw [symOk, h]; rfl
theorem sym_place {ss : List SD} {y : YD} (h : bindOk y = true) : symOk ss y = placeOk ss y := by rw [symOk, h]; rfl
set_option maxHeartbeats 1000000 in
theorem symbolValid_any (y : YD) (A : Option Addr) (ps : List SV) (c : Nat) (w : World) (hr : Rd w w.heap.size A (cellsOf secC ps)) (hn : ps.length ≤ 1048576) (h0 : y.1.size ≤ maxLen) (hz : ∀ p ∈ ps, p.zs.length ≤ maxLen) :
    Calls Tryz.prog 83 #[.agg #[.string y.1, .int .i64 y.2.1, .int .i64 y.2.2.1, .int .i64 y.2.2.2], .slice A ps.length c] w (Ret (.bool (symOk (ps.map SV.d) y)) w) := by
  obtain ⟨nm, bd, wh, vl⟩ := y
  have HR := hide hr
  have H0 := hide h0
  simp only at h0 ⊢
  clear hr h0
  have B0 : Below w.heap.size w (w.alloc (.cells #[.string nm, .int .i64 bd, .int .i64 wh, .int .i64 vl] 67)) := (by repeat (first | exact Below.refl _ _ | with_reducible assumption | (refine Below.drew ?_) | (refine Below.drewN ?_ _) | (refine Below.alloc ?_ (by simp; try omega) _) | (refine Below.setCell ?_ (by simp; try omega) _)))
  have X0 := Box.new w 67 #[.string nm, .int .i64 bd, .int .i64 wh, .int .i64 vl]
  have HB := hide B0
  have x0 := X0.cell 0
  have x1 := X0.cell 1
  have x2 := X0.cell 2
  have x3 := X0.cell 3
  simp only [List.getElem?_toArray, List.getElem?_cons_zero, List.getElem?_cons_succ] at x0 x1 x2 x3
  clear B0
  go_enter Tryz.func83, Tryz.ntmps83
  go_wp2_with fail
  generalize w.alloc (.cells #[.string nm, .int .i64 bd, .int .i64 wh, .int .i64 vl] 67) = w0 at *
  refine (nameValid_any nm H0.out w0).mono ?_
  rintro e w' ⟨rfl, rfl⟩
  cases hn1 : nameOk nm
  · have HV := hide (sym_bind (ss := ps.map SV.d) (y := (nm, bd, wh, vl)) (by simp [bindOk, hn1]))
    go_wp2_with fail
    go_ret
    exact ⟨by rw [HV.out]; rfl, HB.out⟩
  go_wp2_with fail
  refine (within_any _ _ _ _).mono ?_
  rintro e w' ⟨rfl, rfl⟩
  cases hb1 : inB bd 0 2
  · have HV := hide (sym_bind (ss := ps.map SV.d) (y := (nm, bd, wh, vl)) (by simp [bindOk, hb1]))
    go_wp2_with fail
    go_ret
    exact ⟨by rw [HV.out]; rfl, HB.out⟩
  have HV := hide (sym_place (ss := ps.map SV.d) (y := (nm, bd, wh, vl)) (by simp [bindOk, hn1, hb1]))
  clear hn1 hb1
  by_cases h1 : wh = -1
  · have hp : placeOk (ps.map SV.d) (nm, bd, wh, vl) = (decide (vl = 0) && !decide (bd = 0)) := by simp only [placeOk]; rw [if_pos h1]
    have e1 : (wh == -1) = true := beq_iff_eq.2 h1
    rw [hp] at HV
    clear hp h1
    by_cases h2 : vl = 0
    · have e2 : (vl == 0) = true := beq_iff_eq.2 h2
      rw [decide_eq_true h2] at HV
      clear h2
      by_cases h3 : bd = 0
      · have e3 : (bd != 0) = false := by rw [h3]; rfl
        rw [decide_eq_true h3] at HV
        clear h3
        go_wp2_with fail
        go_ret
        exact ⟨by rw [HV.out]; rfl, HB.out⟩
      · have e3 : (bd != 0) = true := bne_iff_ne.2 h3
        rw [decide_eq_false h3] at HV
        clear h3
        go_wp2_with fail
        go_ret
        exact ⟨by rw [HV.out]; rfl, HB.out⟩
    · have e2 : (vl == 0) = false := beq_eq_false_iff_ne.2 h2
      rw [decide_eq_false h2, Bool.false_and] at HV
      clear h2
      go_wp2_with fail
      go_ret
      exact ⟨by rw [HV.out]; rfl, HB.out⟩
  have e1 : (wh == -1) = false := beq_eq_false_iff_ne.2 h1
  by_cases h2 : wh = -2
  · have hp : placeOk (ps.map SV.d) (nm, bd, wh, vl) = inB vl 0 60000 := by simp only [placeOk]; rw [if_neg h1, if_pos h2]
    have e2 : (wh == -2) = true := beq_iff_eq.2 h2
    rw [hp] at HV
    clear hp h1 h2
    go_wp2_with fail
    refine (within_any _ _ _ _).mono ?_
    rintro e w' ⟨rfl, rfl⟩
    generalize inB vl 0 60000 = bb at *
    go_wp2_with fail
    go_ret
    exact ⟨by rw [HV.out]; rfl, HB.out⟩
  have e2 : (wh == -2) = false := beq_eq_false_iff_ne.2 h2
  have hp : placeOk (ps.map SV.d) (nm, bd, wh, vl) = (inB wh 0 ((ps.length : Int) - 1) && inB vl 0 (secSize ((ps.map SV.d).getD wh.toNat ⟨ByteArray.empty, 0, 0, [], 0, []⟩))) := by simp only [placeOk]; rw [if_neg h1, if_neg h2, List.length_map]
  rw [hp] at HV
  clear hp h1 h2
  have hwr : IntKind.i64.wrap ((ps.length : Int) - 1) = (ps.length : Int) - 1 := IntWalk.i64_in _ (by omega)
  go_wp2_with fail
  by_cases hw : 0 ≤ wh ∧ wh ≤ (ps.length : Int) - 1
  · obtain ⟨k, rfl⟩ := Int.eq_ofNat_of_zero_le hw.1
    have hlt : k < ps.length := by omega
    have hgd : (ps.map SV.d).getD (k : Int).toNat ⟨ByteArray.empty, 0, 0, [], 0, []⟩ = ps[k].d := by
      rw [Int.toNat_natCast, List.getD_eq_getElem?_getD, List.getElem?_map, List.getElem?_eq_getElem hlt]
      rfl
    rw [hgd, inB_t hw, Bool.true_and] at HV
    have HIN := hide (inB_t hw)
    obtain ⟨b, off, rfl, hbg, hc⟩ := ((HR.out.below HB.out).more HB.out.size).row secC_len (by decide) hlt
    have hc0 := hc 0 _ rfl
    have hc1 := hc 1 _ rfl
    have hc2 := hc 2 _ rfl
    have hc3 := hc 3 _ rfl
    have hc4 := hc 4 _ rfl
    have hc5 := hc 5 _ rfl
    simp only [Nat.add_zero] at hc0
    have HM := hide (hz _ (List.getElem_mem hlt))
    clear hc hgd hw hz
    generalize ps[k] = p at *
    have HX0 := hide X0
    have hSS : ∀ V : World, Below w0.heap.size w0 V → (V.cell? ⟨w.heap.size, 2, none⟩ = some (.int .i64 k) ∧ V.cell? ⟨w.heap.size, 3, none⟩ = some (.int .i64 vl) ∧ V.cell? ⟨b, off + k * 6, none⟩ = some (.string p.nm) ∧ V.cell? ⟨b, off + k * 6 + 1, none⟩ = some (.int .i64 p.kd) ∧ V.cell? ⟨b, off + k * 6 + 2, none⟩ = some (.int .i64 p.al) ∧ V.cell? ⟨b, off + k * 6 + 3, none⟩ = some (.slice p.A p.zs.length p.c) ∧ V.cell? ⟨b, off + k * 6 + 4, none⟩ = some (.int .i64 p.sz) ∧ V.cell? ⟨b, off + k * 6 + 5, none⟩ = some (.slice p.F p.fs.length p.fc)) := by
      intro V hV
      have hl := HX0.out.lt
      exact ⟨(hV.cell (p := ⟨w.heap.size, 2, none⟩) hl).trans x2, (hV.cell (p := ⟨w.heap.size, 3, none⟩) hl).trans x3, (hV.cell (p := ⟨b, off + k * 6, none⟩) hbg).trans hc0, (hV.cell (p := ⟨b, off + k * 6 + 1, none⟩) hbg).trans hc1, (hV.cell (p := ⟨b, off + k * 6 + 2, none⟩) hbg).trans hc2, (hV.cell (p := ⟨b, off + k * 6 + 3, none⟩) hbg).trans hc3, (hV.cell (p := ⟨b, off + k * 6 + 4, none⟩) hbg).trans hc4, (hV.cell (p := ⟨b, off + k * 6 + 5, none⟩) hbg).trans hc5⟩
    have HSS := hide hSS
    clear hSS X0 x0 x1 x2 x3 hc0 hc1 hc2 hc3 hc4 hc5 hbg
    refine Reg.startT (fun V => V.cell? ⟨w.heap.size, 2, none⟩ = some (.int .i64 k) ∧ V.cell? ⟨w.heap.size, 3, none⟩ = some (.int .i64 vl) ∧ V.cell? ⟨b, off + k * 6, none⟩ = some (.string p.nm) ∧ V.cell? ⟨b, off + k * 6 + 1, none⟩ = some (.int .i64 p.kd) ∧ V.cell? ⟨b, off + k * 6 + 2, none⟩ = some (.int .i64 p.al) ∧ V.cell? ⟨b, off + k * 6 + 3, none⟩ = some (.slice p.A p.zs.length p.c) ∧ V.cell? ⟨b, off + k * 6 + 4, none⟩ = some (.int .i64 p.sz) ∧ V.cell? ⟨b, off + k * 6 + 5, none⟩ = some (.slice p.F p.fs.length p.fc)) (fun _ => false) (by kernel_rfl) ?_
    have hHeld := HSS.out w0.drew (Below.drew (Below.refl _ _))
    refine Reg.takeT (i := 0) (v := ?_) rfl (by kernel_rfl) (by kernel_rfl) (by kernel_rfl) (by kernel_rfl) (fun _ _ _ h => h) (Or.inl ⟨by rfl, ?_⟩) (by assumption) ?_
    rotate_left 1
    focus (intro w hSw; (try dsimp only at hSw); go_simp; (try with_reducible rfl))
    try simp only [List.getElem_toArray, List.getElem_cons_succ, List.getElem_cons_zero, Act.put, List.setIfInBounds_toArray, List.set_cons_zero, List.set_cons_succ]
    refine Reg.takeT (i := 1) (v := ?_) rfl (by kernel_rfl) (by kernel_rfl) (by kernel_rfl) (by kernel_rfl) (fun _ _ _ h => h) (Or.inl ⟨by rfl, ?_⟩) (by assumption) ?_
    rotate_left 1
    focus (intro w hSw; (try dsimp only at hSw); go_simp; (try with_reducible rfl))
    try simp only [List.getElem_toArray, List.getElem_cons_succ, List.getElem_cons_zero, Act.put, List.setIfInBounds_toArray, List.set_cons_zero, List.set_cons_succ]
    refine Reg.takeT (i := 2) (v := ?_) rfl (by kernel_rfl) (by kernel_rfl) (by kernel_rfl) (by kernel_rfl) (fun _ _ _ h => h) (Or.inl ⟨by rfl, ?_⟩) (by assumption) ?_
    rotate_left 1
    focus (intro w hSw; (try dsimp only at hSw); go_simp; (try with_reducible rfl))
    try simp only [List.getElem_toArray, List.getElem_cons_succ, List.getElem_cons_zero, Act.put, List.setIfInBounds_toArray, List.set_cons_zero, List.set_cons_succ]
    refine Reg.takeT (i := 3) (v := ?_) rfl (by kernel_rfl) (by kernel_rfl) (by kernel_rfl) (by kernel_rfl) (fun _ _ _ h => h) (Or.inl ⟨by rfl, ?_⟩) (by assumption) ?_
    rotate_left 1
    focus (intro w hSw; (try dsimp only at hSw); go_simp; (try with_reducible rfl))
    try simp only [List.getElem_toArray, List.getElem_cons_succ, List.getElem_cons_zero, Act.put, List.setIfInBounds_toArray, List.set_cons_zero, List.set_cons_succ]
    refine Reg.takeT (i := 4) (v := ?_) rfl (by kernel_rfl) (by kernel_rfl) (by kernel_rfl) (by kernel_rfl) (fun _ _ _ h => h) (Or.inl ⟨by rfl, ?_⟩) (by assumption) ?_
    rotate_left 1
    focus (intro w hSw; (try dsimp only at hSw); go_simp; (try with_reducible rfl))
    try simp only [List.getElem_toArray, List.getElem_cons_succ, List.getElem_cons_zero, Act.put, List.setIfInBounds_toArray, List.set_cons_zero, List.set_cons_succ]
    refine Reg.oneT (i := 5) rfl (by kernel_rfl) (fun K hK => ?_)
    go_simp
    refine (within_any _ _ _ _).mono ?_
    rintro e w' ⟨rfl, rfl⟩
    rw [HIN.out]
    refine hK.out _ _ hHeld ?_
    clear hK K
    try simp only [List.getElem_toArray, List.getElem_cons_succ, List.getElem_cons_zero, Act.put, List.setIfInBounds_toArray, List.set_cons_zero, List.set_cons_succ]
    refine Reg.takeT (i := 6) (v := ?_) rfl (by kernel_rfl) (by kernel_rfl) (by kernel_rfl) (by kernel_rfl) (fun _ _ _ h => h) (Or.inl ⟨by rfl, ?_⟩) (by assumption) ?_
    rotate_left 1
    focus (intro w hSw; (try dsimp only at hSw); go_simp; (try with_reducible rfl))
    try simp only [List.getElem_toArray, List.getElem_cons_succ, List.getElem_cons_zero, Act.put, List.setIfInBounds_toArray, List.set_cons_zero, List.set_cons_succ]
    refine Reg.takeT (i := 7) (v := ?_) rfl (by kernel_rfl) (by kernel_rfl) (by kernel_rfl) (by kernel_rfl) (fun _ _ _ h => h) (Or.inl ⟨by rfl, ?_⟩) (by assumption) ?_
    rotate_left 1
    focus (intro w hSw; (try dsimp only at hSw); go_simp; (try with_reducible rfl))
    try simp only [List.getElem_toArray, List.getElem_cons_succ, List.getElem_cons_zero, Act.put, List.setIfInBounds_toArray, List.set_cons_zero, List.set_cons_succ]
    refine Reg.takeT (i := 8) (v := ?_) rfl (by kernel_rfl) (by kernel_rfl) (by kernel_rfl) (by kernel_rfl) (fun _ _ _ h => h) (Or.inl ⟨by rfl, ?_⟩) (by assumption) ?_
    rotate_left 1
    focus (intro w hSw; (try dsimp only at hSw); go_simp; (try with_reducible rfl))
    try simp only [List.getElem_toArray, List.getElem_cons_succ, List.getElem_cons_zero, Act.put, List.setIfInBounds_toArray, List.set_cons_zero, List.set_cons_succ]
    refine Reg.takeT (i := 9) (v := ?_) rfl (by kernel_rfl) (by kernel_rfl) (by kernel_rfl) (by kernel_rfl) (fun _ _ _ h => h) (Or.inl ⟨by rfl, ?_⟩) (by assumption) ?_
    rotate_left 1
    focus (intro w hSw; (try dsimp only at hSw); go_simp; (try with_reducible rfl))
    try simp only [List.getElem_toArray, List.getElem_cons_succ, List.getElem_cons_zero, Act.put, List.setIfInBounds_toArray, List.set_cons_zero, List.set_cons_succ]
    refine Reg.takeT (i := 10) (v := ?_) rfl (by kernel_rfl) (by kernel_rfl) (by kernel_rfl) (by kernel_rfl) (fun _ _ _ h => h) (Or.inl ⟨by rfl, ?_⟩) (by assumption) ?_
    rotate_left 1
    focus (intro w hSw; (try dsimp only at hSw); go_simp; (try with_reducible rfl))
    try simp only [List.getElem_toArray, List.getElem_cons_succ, List.getElem_cons_zero, Act.put, List.setIfInBounds_toArray, List.set_cons_zero, List.set_cons_succ]
    refine Reg.takeT (i := 11) (v := ?_) rfl (by kernel_rfl) (by kernel_rfl) (by kernel_rfl) (by kernel_rfl) (fun _ _ _ h => h) (Or.inl ⟨by rfl, ?_⟩) (by assumption) ?_
    rotate_left 1
    focus (intro w hSw; (try dsimp only at hSw); go_simp; (try with_reducible rfl))
    try simp only [List.getElem_toArray, List.getElem_cons_succ, List.getElem_cons_zero, Act.put, List.setIfInBounds_toArray, List.set_cons_zero, List.set_cons_succ]
    refine Reg.takeT (i := 12) (v := ?_) rfl (by kernel_rfl) (by kernel_rfl) (by kernel_rfl) (by kernel_rfl) (fun _ _ _ h => h) (Or.inl ⟨by rfl, ?_⟩) (by assumption) ?_
    rotate_left 1
    focus (intro w hSw; (try dsimp only at hSw); go_simp; (try with_reducible rfl))
    try simp only [List.getElem_toArray, List.getElem_cons_succ, List.getElem_cons_zero, Act.put, List.setIfInBounds_toArray, List.set_cons_zero, List.set_cons_succ]
    refine Reg.takeT (i := 13) (v := ?_) rfl (by kernel_rfl) (by kernel_rfl) (by kernel_rfl) (by kernel_rfl) (fun _ _ _ h => h) (Or.inl ⟨by rfl, ?_⟩) (by assumption) ?_
    rotate_left 1
    focus (intro w hSw; (try dsimp only at hSw); go_simp; (try with_reducible rfl))
    try simp only [List.getElem_toArray, List.getElem_cons_succ, List.getElem_cons_zero, Act.put, List.setIfInBounds_toArray, List.set_cons_zero, List.set_cons_succ]
    refine Reg.oneT (i := 14) rfl (by kernel_rfl) (fun K hK => ?_)
    go_simp
    refine (sectionSize_any p _ HM.out).mono ?_
    rintro e w5 ⟨rfl, b5⟩
    have HB5 := hide (HB.out.trans ((below_drawn b5).mono HB.out.size))
    have hHeld := HSS.out w5 (below_drawn b5)
    refine hK.out _ _ hHeld ?_
    clear hK K b5
    try simp only [List.getElem_toArray, List.getElem_cons_succ, List.getElem_cons_zero, Act.put, List.setIfInBounds_toArray, List.set_cons_zero, List.set_cons_succ]
    generalize secSize p.d = q at *
    refine Reg.oneT (i := 15) rfl (by kernel_rfl) (fun K hK => ?_)
    go_simp
    refine (within_any _ _ _ _).mono ?_
    rintro e w' ⟨rfl, rfl⟩
    refine hK.out _ _ hHeld ?_
    clear hK K
    try simp only [List.getElem_toArray, List.getElem_cons_succ, List.getElem_cons_zero, Act.put, List.setIfInBounds_toArray, List.set_cons_zero, List.set_cons_succ]
    generalize inB vl 0 q = bb at *
    refine Reg.takeT (i := 16) (v := ?_) rfl (by kernel_rfl) (by kernel_rfl) (by kernel_rfl) (by kernel_rfl) (fun _ _ _ h => h) (Or.inl ⟨by rfl, ?_⟩) (by assumption) ?_
    rotate_left 1
    focus (intro w hSw; (try dsimp only at hSw); go_simp; (try with_reducible rfl))
    try simp only [List.getElem_toArray, List.getElem_cons_succ, List.getElem_cons_zero, Act.put, List.setIfInBounds_toArray, List.set_cons_zero, List.set_cons_succ]
    refine Reg.takeT (i := 17) (v := ?_) rfl (by kernel_rfl) (by kernel_rfl) (by kernel_rfl) (by kernel_rfl) (fun _ _ _ h => h) (Or.inl ⟨by rfl, ?_⟩) (by assumption) ?_
    rotate_left 1
    focus (intro w hSw; (try dsimp only at hSw); go_simp; (try with_reducible rfl))
    try simp only [List.getElem_toArray, List.getElem_cons_succ, List.getElem_cons_zero, Act.put, List.setIfInBounds_toArray, List.set_cons_zero, List.set_cons_succ]
    refine Reg.doneT (by kernel_rfl) ?_ _
    clear hHeld HSS
    go_wp2_with fail
    go_ret
    exact ⟨by rw [HV.out]; rfl, HB5.out⟩
  · rw [inB_f hw, Bool.false_and] at HV
    have HIN := hide (inB_f hw)
    clear hw hz
    refine Reg.startT (fun V => V.cell? ⟨w.heap.size, 2, none⟩ = some (.int .i64 wh)) (fun _ => false) (by kernel_rfl) ?_
    have hHeld : w0.drew.cell? ⟨w.heap.size, 2, none⟩ = some (.int .i64 wh) := x2
    refine Reg.takeT (i := 0) (v := ?_) rfl (by kernel_rfl) (by kernel_rfl) (by kernel_rfl) (by kernel_rfl) (fun _ _ _ h => h) (Or.inl ⟨by rfl, ?_⟩) (by assumption) ?_
    rotate_left 1
    focus (intro w hSw; (try dsimp only at hSw); go_simp; (try with_reducible rfl))
    try simp only [List.getElem_toArray, List.getElem_cons_succ, List.getElem_cons_zero, Act.put, List.setIfInBounds_toArray, List.set_cons_zero, List.set_cons_succ]
    refine Reg.takeT (i := 1) (v := ?_) rfl (by kernel_rfl) (by kernel_rfl) (by kernel_rfl) (by kernel_rfl) (fun _ _ _ h => h) (Or.inl ⟨by rfl, ?_⟩) (by assumption) ?_
    rotate_left 1
    focus (intro w hSw; (try dsimp only at hSw); go_simp; (try with_reducible rfl))
    try simp only [List.getElem_toArray, List.getElem_cons_succ, List.getElem_cons_zero, Act.put, List.setIfInBounds_toArray, List.set_cons_zero, List.set_cons_succ]
    refine Reg.takeT (i := 2) (v := ?_) rfl (by kernel_rfl) (by kernel_rfl) (by kernel_rfl) (by kernel_rfl) (fun _ _ _ h => h) (Or.inl ⟨by rfl, ?_⟩) (by assumption) ?_
    rotate_left 1
    focus (intro w hSw; (try dsimp only at hSw); go_simp; (try with_reducible rfl))
    try simp only [List.getElem_toArray, List.getElem_cons_succ, List.getElem_cons_zero, Act.put, List.setIfInBounds_toArray, List.set_cons_zero, List.set_cons_succ]
    refine Reg.takeT (i := 3) (v := ?_) rfl (by kernel_rfl) (by kernel_rfl) (by kernel_rfl) (by kernel_rfl) (fun _ _ _ h => h) (Or.inl ⟨by rfl, ?_⟩) (by assumption) ?_
    rotate_left 1
    focus (intro w hSw; (try dsimp only at hSw); go_simp; (try with_reducible rfl))
    try simp only [List.getElem_toArray, List.getElem_cons_succ, List.getElem_cons_zero, Act.put, List.setIfInBounds_toArray, List.set_cons_zero, List.set_cons_succ]
    refine Reg.takeT (i := 4) (v := ?_) rfl (by kernel_rfl) (by kernel_rfl) (by kernel_rfl) (by kernel_rfl) (fun _ _ _ h => h) (Or.inl ⟨by rfl, ?_⟩) (by assumption) ?_
    rotate_left 1
    focus (intro w hSw; (try dsimp only at hSw); go_simp; (try with_reducible rfl))
    try simp only [List.getElem_toArray, List.getElem_cons_succ, List.getElem_cons_zero, Act.put, List.setIfInBounds_toArray, List.set_cons_zero, List.set_cons_succ]
    refine Reg.oneT (i := 5) rfl (by kernel_rfl) (fun K hK => ?_)
    go_simp
    refine (within_any _ _ _ _).mono ?_
    rintro e w' ⟨rfl, rfl⟩
    rw [HIN.out]
    refine hK.out _ _ hHeld ?_
    clear hK K
    try simp only [List.getElem_toArray, List.getElem_cons_succ, List.getElem_cons_zero, Act.put, List.setIfInBounds_toArray, List.set_cons_zero, List.set_cons_succ]
    refine Reg.takeT (i := 6) (v := ?_) rfl (by kernel_rfl) (by kernel_rfl) (by kernel_rfl) (by kernel_rfl) (fun _ _ _ h => h) (Or.inl ⟨by rfl, ?_⟩) (by assumption) ?_
    rotate_left 1
    focus (intro w hSw; (try dsimp only at hSw); go_simp; (try with_reducible rfl))
    try simp only [List.getElem_toArray, List.getElem_cons_succ, List.getElem_cons_zero, Act.put, List.setIfInBounds_toArray, List.set_cons_zero, List.set_cons_succ]
    refine Reg.takeT (i := 7) (v := undef) rfl (by kernel_rfl) (by kernel_rfl) (by kernel_rfl) (by kernel_rfl) (fun _ _ _ h => h) (Or.inr ⟨by rfl, rfl⟩) (by assumption) ?_
    try simp only [List.getElem_toArray, List.getElem_cons_succ, List.getElem_cons_zero, Act.put, List.setIfInBounds_toArray, List.set_cons_zero, List.set_cons_succ]
    refine Reg.takeT (i := 8) (v := undef) rfl (by kernel_rfl) (by kernel_rfl) (by kernel_rfl) (by kernel_rfl) (fun _ _ _ h => h) (Or.inr ⟨by rfl, rfl⟩) (by assumption) ?_
    try simp only [List.getElem_toArray, List.getElem_cons_succ, List.getElem_cons_zero, Act.put, List.setIfInBounds_toArray, List.set_cons_zero, List.set_cons_succ]
    refine Reg.takeT (i := 9) (v := undef) rfl (by kernel_rfl) (by kernel_rfl) (by kernel_rfl) (by kernel_rfl) (fun _ _ _ h => h) (Or.inr ⟨by rfl, rfl⟩) (by assumption) ?_
    try simp only [List.getElem_toArray, List.getElem_cons_succ, List.getElem_cons_zero, Act.put, List.setIfInBounds_toArray, List.set_cons_zero, List.set_cons_succ]
    refine Reg.takeT (i := 10) (v := undef) rfl (by kernel_rfl) (by kernel_rfl) (by kernel_rfl) (by kernel_rfl) (fun _ _ _ h => h) (Or.inr ⟨by rfl, rfl⟩) (by assumption) ?_
    try simp only [List.getElem_toArray, List.getElem_cons_succ, List.getElem_cons_zero, Act.put, List.setIfInBounds_toArray, List.set_cons_zero, List.set_cons_succ]
    refine Reg.takeT (i := 11) (v := undef) rfl (by kernel_rfl) (by kernel_rfl) (by kernel_rfl) (by kernel_rfl) (fun _ _ _ h => h) (Or.inr ⟨by rfl, rfl⟩) (by assumption) ?_
    try simp only [List.getElem_toArray, List.getElem_cons_succ, List.getElem_cons_zero, Act.put, List.setIfInBounds_toArray, List.set_cons_zero, List.set_cons_succ]
    refine Reg.takeT (i := 12) (v := undef) rfl (by kernel_rfl) (by kernel_rfl) (by kernel_rfl) (by kernel_rfl) (fun _ _ _ h => h) (Or.inr ⟨by rfl, rfl⟩) (by assumption) ?_
    try simp only [List.getElem_toArray, List.getElem_cons_succ, List.getElem_cons_zero, Act.put, List.setIfInBounds_toArray, List.set_cons_zero, List.set_cons_succ]
    refine Reg.takeT (i := 13) (v := undef) rfl (by kernel_rfl) (by kernel_rfl) (by kernel_rfl) (by kernel_rfl) (fun _ _ _ h => h) (Or.inr ⟨by rfl, rfl⟩) (by assumption) ?_
    try simp only [List.getElem_toArray, List.getElem_cons_succ, List.getElem_cons_zero, Act.put, List.setIfInBounds_toArray, List.set_cons_zero, List.set_cons_succ]
    refine Reg.takeT (i := 14) (v := undef) rfl (by kernel_rfl) (by kernel_rfl) (by kernel_rfl) (by kernel_rfl) (fun _ _ _ h => h) (Or.inr ⟨by rfl, rfl⟩) (by assumption) ?_
    try simp only [List.getElem_toArray, List.getElem_cons_succ, List.getElem_cons_zero, Act.put, List.setIfInBounds_toArray, List.set_cons_zero, List.set_cons_succ]
    refine Reg.takeT (i := 15) (v := undef) rfl (by kernel_rfl) (by kernel_rfl) (by kernel_rfl) (by kernel_rfl) (fun _ _ _ h => h) (Or.inr ⟨by rfl, rfl⟩) (by assumption) ?_
    try simp only [List.getElem_toArray, List.getElem_cons_succ, List.getElem_cons_zero, Act.put, List.setIfInBounds_toArray, List.set_cons_zero, List.set_cons_succ]
    refine Reg.takeT (i := 16) (v := ?_) rfl (by kernel_rfl) (by kernel_rfl) (by kernel_rfl) (by kernel_rfl) (fun _ _ _ h => h) (Or.inl ⟨by rfl, ?_⟩) (by assumption) ?_
    rotate_left 1
    focus (intro w hSw; (try dsimp only at hSw); go_simp; (try with_reducible rfl))
    try simp only [List.getElem_toArray, List.getElem_cons_succ, List.getElem_cons_zero, Act.put, List.setIfInBounds_toArray, List.set_cons_zero, List.set_cons_succ]
    refine Reg.takeT (i := 17) (v := ?_) rfl (by kernel_rfl) (by kernel_rfl) (by kernel_rfl) (by kernel_rfl) (fun _ _ _ h => h) (Or.inl ⟨by rfl, ?_⟩) (by assumption) ?_
    rotate_left 1
    focus (intro w hSw; (try dsimp only at hSw); go_simp; (try with_reducible rfl))
    try simp only [List.getElem_toArray, List.getElem_cons_succ, List.getElem_cons_zero, Act.put, List.setIfInBounds_toArray, List.set_cons_zero, List.set_cons_succ]
    refine Reg.doneT (by kernel_rfl) ?_ _
    clear hHeld
    go_wp2_with fail
    go_ret
    exact ⟨by rw [HV.out]; rfl, Below.drew HB.out⟩
set_option maxHeartbeats 1000000 in
theorem symbolValidS_any (y : YD) (A : Option Addr) (ps : List SV) (c : Nat) (w : World) (hr : Rd w w.heap.size A (cellsOf secC ps)) (hn : ps.length ≤ 1048576) (h0 : y.1.size ≤ maxLen) (hz : ∀ p ∈ ps, p.zs.length ≤ maxLen) :
    Calls Tryz.prog 86 #[.agg #[.string y.1, .int .i64 y.2.1, .int .i64 y.2.2.1, .int .i64 y.2.2.2], .slice A ps.length c] w (Ret (.bool (symOk (ps.map SV.d) y)) w) := by
  obtain ⟨nm, bd, wh, vl⟩ := y
  have HR := hide hr
  have H0 := hide h0
  simp only at h0 ⊢
  clear hr h0
  have B0 : Below w.heap.size w (w.alloc (.cells #[.string nm, .int .i64 bd, .int .i64 wh, .int .i64 vl] 67)) := (by repeat (first | exact Below.refl _ _ | with_reducible assumption | (refine Below.drew ?_) | (refine Below.drewN ?_ _) | (refine Below.alloc ?_ (by simp; try omega) _) | (refine Below.setCell ?_ (by simp; try omega) _)))
  have X0 := Box.new w 67 #[.string nm, .int .i64 bd, .int .i64 wh, .int .i64 vl]
  have HB := hide B0
  have x0 := X0.cell 0
  have x1 := X0.cell 1
  have x2 := X0.cell 2
  have x3 := X0.cell 3
  simp only [List.getElem?_toArray, List.getElem?_cons_zero, List.getElem?_cons_succ] at x0 x1 x2 x3
  clear B0
  go_enter Tryz.func86, Tryz.ntmps86
  go_wp2_with fail
  generalize w.alloc (.cells #[.string nm, .int .i64 bd, .int .i64 wh, .int .i64 vl] 67) = w0 at *
  refine (nameValidS_any nm H0.out w0).mono ?_
  rintro e w' ⟨rfl, rfl⟩
  cases hn1 : nameOk nm
  · have HV := hide (sym_bind (ss := ps.map SV.d) (y := (nm, bd, wh, vl)) (by simp [bindOk, hn1]))
    go_wp2_with fail
    go_ret
    exact ⟨by rw [HV.out]; rfl, HB.out⟩
  go_wp2_with fail
  refine (l1In_any _ _ _ _).mono ?_
  rintro e w' ⟨rfl, rfl⟩
  cases hb1 : inB bd 0 2
  · have HV := hide (sym_bind (ss := ps.map SV.d) (y := (nm, bd, wh, vl)) (by simp [bindOk, hb1]))
    go_wp2_with fail
    go_ret
    exact ⟨by rw [HV.out]; rfl, HB.out⟩
  have HV := hide (sym_place (ss := ps.map SV.d) (y := (nm, bd, wh, vl)) (by simp [bindOk, hn1, hb1]))
  clear hn1 hb1
  by_cases h1 : wh = -1
  · have hp : placeOk (ps.map SV.d) (nm, bd, wh, vl) = (decide (vl = 0) && !decide (bd = 0)) := by simp only [placeOk]; rw [if_pos h1]
    have e1 : (wh == -1) = true := beq_iff_eq.2 h1
    rw [hp] at HV
    clear hp h1
    by_cases h2 : vl = 0
    · have e2 : (vl == 0) = true := beq_iff_eq.2 h2
      rw [decide_eq_true h2] at HV
      clear h2
      by_cases h3 : bd = 0
      · have e3 : (bd != 0) = false := by rw [h3]; rfl
        rw [decide_eq_true h3] at HV
        clear h3
        go_wp2_with fail
        go_ret
        exact ⟨by rw [HV.out]; rfl, HB.out⟩
      · have e3 : (bd != 0) = true := bne_iff_ne.2 h3
        rw [decide_eq_false h3] at HV
        clear h3
        go_wp2_with fail
        go_ret
        exact ⟨by rw [HV.out]; rfl, HB.out⟩
    · have e2 : (vl == 0) = false := beq_eq_false_iff_ne.2 h2
      rw [decide_eq_false h2, Bool.false_and] at HV
      clear h2
      go_wp2_with fail
      go_ret
      exact ⟨by rw [HV.out]; rfl, HB.out⟩
  have e1 : (wh == -1) = false := beq_eq_false_iff_ne.2 h1
  by_cases h2 : wh = -2
  · have hp : placeOk (ps.map SV.d) (nm, bd, wh, vl) = inB vl 0 60000 := by simp only [placeOk]; rw [if_neg h1, if_pos h2]
    have e2 : (wh == -2) = true := beq_iff_eq.2 h2
    rw [hp] at HV
    clear hp h1 h2
    go_wp2_with fail
    refine (l1In_any _ _ _ _).mono ?_
    rintro e w' ⟨rfl, rfl⟩
    generalize inB vl 0 60000 = bb at *
    go_wp2_with fail
    go_ret
    exact ⟨by rw [HV.out]; rfl, HB.out⟩
  have e2 : (wh == -2) = false := beq_eq_false_iff_ne.2 h2
  have hp : placeOk (ps.map SV.d) (nm, bd, wh, vl) = (inB wh 0 ((ps.length : Int) - 1) && inB vl 0 (secSize ((ps.map SV.d).getD wh.toNat ⟨ByteArray.empty, 0, 0, [], 0, []⟩))) := by simp only [placeOk]; rw [if_neg h1, if_neg h2, List.length_map]
  rw [hp] at HV
  clear hp h1 h2
  have hwr : IntKind.i64.wrap ((ps.length : Int) - 1) = (ps.length : Int) - 1 := IntWalk.i64_in _ (by omega)
  go_wp2_with fail
  by_cases hw : 0 ≤ wh ∧ wh ≤ (ps.length : Int) - 1
  · obtain ⟨k, rfl⟩ := Int.eq_ofNat_of_zero_le hw.1
    have hlt : k < ps.length := by omega
    have hgd : (ps.map SV.d).getD (k : Int).toNat ⟨ByteArray.empty, 0, 0, [], 0, []⟩ = ps[k].d := by
      rw [Int.toNat_natCast, List.getD_eq_getElem?_getD, List.getElem?_map, List.getElem?_eq_getElem hlt]
      rfl
    rw [hgd, inB_t hw, Bool.true_and] at HV
    have HIN := hide (inB_t hw)
    obtain ⟨b, off, rfl, hbg, hc⟩ := ((HR.out.below HB.out).more HB.out.size).row secC_len (by decide) hlt
    have hc0 := hc 0 _ rfl
    have hc1 := hc 1 _ rfl
    have hc2 := hc 2 _ rfl
    have hc3 := hc 3 _ rfl
    have hc4 := hc 4 _ rfl
    have hc5 := hc 5 _ rfl
    simp only [Nat.add_zero] at hc0
    have HM := hide (hz _ (List.getElem_mem hlt))
    clear hc hgd hw hz
    generalize ps[k] = p at *
    have HX0 := hide X0
    have hSS : ∀ V : World, Below w0.heap.size w0 V → (V.cell? ⟨w.heap.size, 2, none⟩ = some (.int .i64 k) ∧ V.cell? ⟨w.heap.size, 3, none⟩ = some (.int .i64 vl) ∧ V.cell? ⟨b, off + k * 6, none⟩ = some (.string p.nm) ∧ V.cell? ⟨b, off + k * 6 + 1, none⟩ = some (.int .i64 p.kd) ∧ V.cell? ⟨b, off + k * 6 + 2, none⟩ = some (.int .i64 p.al) ∧ V.cell? ⟨b, off + k * 6 + 3, none⟩ = some (.slice p.A p.zs.length p.c) ∧ V.cell? ⟨b, off + k * 6 + 4, none⟩ = some (.int .i64 p.sz) ∧ V.cell? ⟨b, off + k * 6 + 5, none⟩ = some (.slice p.F p.fs.length p.fc)) := by
      intro V hV
      have hl := HX0.out.lt
      exact ⟨(hV.cell (p := ⟨w.heap.size, 2, none⟩) hl).trans x2, (hV.cell (p := ⟨w.heap.size, 3, none⟩) hl).trans x3, (hV.cell (p := ⟨b, off + k * 6, none⟩) hbg).trans hc0, (hV.cell (p := ⟨b, off + k * 6 + 1, none⟩) hbg).trans hc1, (hV.cell (p := ⟨b, off + k * 6 + 2, none⟩) hbg).trans hc2, (hV.cell (p := ⟨b, off + k * 6 + 3, none⟩) hbg).trans hc3, (hV.cell (p := ⟨b, off + k * 6 + 4, none⟩) hbg).trans hc4, (hV.cell (p := ⟨b, off + k * 6 + 5, none⟩) hbg).trans hc5⟩
    have HSS := hide hSS
    clear hSS X0 x0 x1 x2 x3 hc0 hc1 hc2 hc3 hc4 hc5 hbg
    refine Reg.startT (fun V => V.cell? ⟨w.heap.size, 2, none⟩ = some (.int .i64 k) ∧ V.cell? ⟨w.heap.size, 3, none⟩ = some (.int .i64 vl) ∧ V.cell? ⟨b, off + k * 6, none⟩ = some (.string p.nm) ∧ V.cell? ⟨b, off + k * 6 + 1, none⟩ = some (.int .i64 p.kd) ∧ V.cell? ⟨b, off + k * 6 + 2, none⟩ = some (.int .i64 p.al) ∧ V.cell? ⟨b, off + k * 6 + 3, none⟩ = some (.slice p.A p.zs.length p.c) ∧ V.cell? ⟨b, off + k * 6 + 4, none⟩ = some (.int .i64 p.sz) ∧ V.cell? ⟨b, off + k * 6 + 5, none⟩ = some (.slice p.F p.fs.length p.fc)) (fun _ => false) (by kernel_rfl) ?_
    have hHeld := HSS.out w0.drew (Below.drew (Below.refl _ _))
    refine Reg.takeT (i := 0) (v := ?_) rfl (by kernel_rfl) (by kernel_rfl) (by kernel_rfl) (by kernel_rfl) (fun _ _ _ h => h) (Or.inl ⟨by rfl, ?_⟩) (by assumption) ?_
    rotate_left 1
    focus (intro w hSw; (try dsimp only at hSw); go_simp; (try with_reducible rfl))
    try simp only [List.getElem_toArray, List.getElem_cons_succ, List.getElem_cons_zero, Act.put, List.setIfInBounds_toArray, List.set_cons_zero, List.set_cons_succ]
    refine Reg.takeT (i := 1) (v := ?_) rfl (by kernel_rfl) (by kernel_rfl) (by kernel_rfl) (by kernel_rfl) (fun _ _ _ h => h) (Or.inl ⟨by rfl, ?_⟩) (by assumption) ?_
    rotate_left 1
    focus (intro w hSw; (try dsimp only at hSw); go_simp; (try with_reducible rfl))
    try simp only [List.getElem_toArray, List.getElem_cons_succ, List.getElem_cons_zero, Act.put, List.setIfInBounds_toArray, List.set_cons_zero, List.set_cons_succ]
    refine Reg.takeT (i := 2) (v := ?_) rfl (by kernel_rfl) (by kernel_rfl) (by kernel_rfl) (by kernel_rfl) (fun _ _ _ h => h) (Or.inl ⟨by rfl, ?_⟩) (by assumption) ?_
    rotate_left 1
    focus (intro w hSw; (try dsimp only at hSw); go_simp; (try with_reducible rfl))
    try simp only [List.getElem_toArray, List.getElem_cons_succ, List.getElem_cons_zero, Act.put, List.setIfInBounds_toArray, List.set_cons_zero, List.set_cons_succ]
    refine Reg.takeT (i := 3) (v := ?_) rfl (by kernel_rfl) (by kernel_rfl) (by kernel_rfl) (by kernel_rfl) (fun _ _ _ h => h) (Or.inl ⟨by rfl, ?_⟩) (by assumption) ?_
    rotate_left 1
    focus (intro w hSw; (try dsimp only at hSw); go_simp; (try with_reducible rfl))
    try simp only [List.getElem_toArray, List.getElem_cons_succ, List.getElem_cons_zero, Act.put, List.setIfInBounds_toArray, List.set_cons_zero, List.set_cons_succ]
    refine Reg.takeT (i := 4) (v := ?_) rfl (by kernel_rfl) (by kernel_rfl) (by kernel_rfl) (by kernel_rfl) (fun _ _ _ h => h) (Or.inl ⟨by rfl, ?_⟩) (by assumption) ?_
    rotate_left 1
    focus (intro w hSw; (try dsimp only at hSw); go_simp; (try with_reducible rfl))
    try simp only [List.getElem_toArray, List.getElem_cons_succ, List.getElem_cons_zero, Act.put, List.setIfInBounds_toArray, List.set_cons_zero, List.set_cons_succ]
    refine Reg.oneT (i := 5) rfl (by kernel_rfl) (fun K hK => ?_)
    go_simp
    refine (l1In_any _ _ _ _).mono ?_
    rintro e w' ⟨rfl, rfl⟩
    rw [HIN.out]
    refine hK.out _ _ hHeld ?_
    clear hK K
    try simp only [List.getElem_toArray, List.getElem_cons_succ, List.getElem_cons_zero, Act.put, List.setIfInBounds_toArray, List.set_cons_zero, List.set_cons_succ]
    refine Reg.takeT (i := 6) (v := ?_) rfl (by kernel_rfl) (by kernel_rfl) (by kernel_rfl) (by kernel_rfl) (fun _ _ _ h => h) (Or.inl ⟨by rfl, ?_⟩) (by assumption) ?_
    rotate_left 1
    focus (intro w hSw; (try dsimp only at hSw); go_simp; (try with_reducible rfl))
    try simp only [List.getElem_toArray, List.getElem_cons_succ, List.getElem_cons_zero, Act.put, List.setIfInBounds_toArray, List.set_cons_zero, List.set_cons_succ]
    refine Reg.takeT (i := 7) (v := ?_) rfl (by kernel_rfl) (by kernel_rfl) (by kernel_rfl) (by kernel_rfl) (fun _ _ _ h => h) (Or.inl ⟨by rfl, ?_⟩) (by assumption) ?_
    rotate_left 1
    focus (intro w hSw; (try dsimp only at hSw); go_simp; (try with_reducible rfl))
    try simp only [List.getElem_toArray, List.getElem_cons_succ, List.getElem_cons_zero, Act.put, List.setIfInBounds_toArray, List.set_cons_zero, List.set_cons_succ]
    refine Reg.takeT (i := 8) (v := ?_) rfl (by kernel_rfl) (by kernel_rfl) (by kernel_rfl) (by kernel_rfl) (fun _ _ _ h => h) (Or.inl ⟨by rfl, ?_⟩) (by assumption) ?_
    rotate_left 1
    focus (intro w hSw; (try dsimp only at hSw); go_simp; (try with_reducible rfl))
    try simp only [List.getElem_toArray, List.getElem_cons_succ, List.getElem_cons_zero, Act.put, List.setIfInBounds_toArray, List.set_cons_zero, List.set_cons_succ]
    refine Reg.takeT (i := 9) (v := ?_) rfl (by kernel_rfl) (by kernel_rfl) (by kernel_rfl) (by kernel_rfl) (fun _ _ _ h => h) (Or.inl ⟨by rfl, ?_⟩) (by assumption) ?_
    rotate_left 1
    focus (intro w hSw; (try dsimp only at hSw); go_simp; (try with_reducible rfl))
    try simp only [List.getElem_toArray, List.getElem_cons_succ, List.getElem_cons_zero, Act.put, List.setIfInBounds_toArray, List.set_cons_zero, List.set_cons_succ]
    refine Reg.takeT (i := 10) (v := ?_) rfl (by kernel_rfl) (by kernel_rfl) (by kernel_rfl) (by kernel_rfl) (fun _ _ _ h => h) (Or.inl ⟨by rfl, ?_⟩) (by assumption) ?_
    rotate_left 1
    focus (intro w hSw; (try dsimp only at hSw); go_simp; (try with_reducible rfl))
    try simp only [List.getElem_toArray, List.getElem_cons_succ, List.getElem_cons_zero, Act.put, List.setIfInBounds_toArray, List.set_cons_zero, List.set_cons_succ]
    refine Reg.takeT (i := 11) (v := ?_) rfl (by kernel_rfl) (by kernel_rfl) (by kernel_rfl) (by kernel_rfl) (fun _ _ _ h => h) (Or.inl ⟨by rfl, ?_⟩) (by assumption) ?_
    rotate_left 1
    focus (intro w hSw; (try dsimp only at hSw); go_simp; (try with_reducible rfl))
    try simp only [List.getElem_toArray, List.getElem_cons_succ, List.getElem_cons_zero, Act.put, List.setIfInBounds_toArray, List.set_cons_zero, List.set_cons_succ]
    refine Reg.takeT (i := 12) (v := ?_) rfl (by kernel_rfl) (by kernel_rfl) (by kernel_rfl) (by kernel_rfl) (fun _ _ _ h => h) (Or.inl ⟨by rfl, ?_⟩) (by assumption) ?_
    rotate_left 1
    focus (intro w hSw; (try dsimp only at hSw); go_simp; (try with_reducible rfl))
    try simp only [List.getElem_toArray, List.getElem_cons_succ, List.getElem_cons_zero, Act.put, List.setIfInBounds_toArray, List.set_cons_zero, List.set_cons_succ]
    refine Reg.takeT (i := 13) (v := ?_) rfl (by kernel_rfl) (by kernel_rfl) (by kernel_rfl) (by kernel_rfl) (fun _ _ _ h => h) (Or.inl ⟨by rfl, ?_⟩) (by assumption) ?_
    rotate_left 1
    focus (intro w hSw; (try dsimp only at hSw); go_simp; (try with_reducible rfl))
    try simp only [List.getElem_toArray, List.getElem_cons_succ, List.getElem_cons_zero, Act.put, List.setIfInBounds_toArray, List.set_cons_zero, List.set_cons_succ]
    refine Reg.oneT (i := 14) rfl (by kernel_rfl) (fun K hK => ?_)
    go_simp
    refine (sectionSizeS_any p _ HM.out).mono ?_
    rintro e w5 ⟨rfl, b5⟩
    have HB5 := hide (HB.out.trans ((below_drawn b5).mono HB.out.size))
    have hHeld := HSS.out w5 (below_drawn b5)
    refine hK.out _ _ hHeld ?_
    clear hK K b5
    try simp only [List.getElem_toArray, List.getElem_cons_succ, List.getElem_cons_zero, Act.put, List.setIfInBounds_toArray, List.set_cons_zero, List.set_cons_succ]
    generalize secSize p.d = q at *
    refine Reg.oneT (i := 15) rfl (by kernel_rfl) (fun K hK => ?_)
    go_simp
    refine (l1In_any _ _ _ _).mono ?_
    rintro e w' ⟨rfl, rfl⟩
    refine hK.out _ _ hHeld ?_
    clear hK K
    try simp only [List.getElem_toArray, List.getElem_cons_succ, List.getElem_cons_zero, Act.put, List.setIfInBounds_toArray, List.set_cons_zero, List.set_cons_succ]
    generalize inB vl 0 q = bb at *
    refine Reg.takeT (i := 16) (v := ?_) rfl (by kernel_rfl) (by kernel_rfl) (by kernel_rfl) (by kernel_rfl) (fun _ _ _ h => h) (Or.inl ⟨by rfl, ?_⟩) (by assumption) ?_
    rotate_left 1
    focus (intro w hSw; (try dsimp only at hSw); go_simp; (try with_reducible rfl))
    try simp only [List.getElem_toArray, List.getElem_cons_succ, List.getElem_cons_zero, Act.put, List.setIfInBounds_toArray, List.set_cons_zero, List.set_cons_succ]
    refine Reg.takeT (i := 17) (v := ?_) rfl (by kernel_rfl) (by kernel_rfl) (by kernel_rfl) (by kernel_rfl) (fun _ _ _ h => h) (Or.inl ⟨by rfl, ?_⟩) (by assumption) ?_
    rotate_left 1
    focus (intro w hSw; (try dsimp only at hSw); go_simp; (try with_reducible rfl))
    try simp only [List.getElem_toArray, List.getElem_cons_succ, List.getElem_cons_zero, Act.put, List.setIfInBounds_toArray, List.set_cons_zero, List.set_cons_succ]
    refine Reg.doneT (by kernel_rfl) ?_ _
    clear hHeld HSS
    go_wp2_with fail
    go_ret
    exact ⟨by rw [HV.out]; rfl, HB5.out⟩
  · rw [inB_f hw, Bool.false_and] at HV
    have HIN := hide (inB_f hw)
    clear hw hz
    refine Reg.startT (fun V => V.cell? ⟨w.heap.size, 2, none⟩ = some (.int .i64 wh)) (fun _ => false) (by kernel_rfl) ?_
    have hHeld : w0.drew.cell? ⟨w.heap.size, 2, none⟩ = some (.int .i64 wh) := x2
    refine Reg.takeT (i := 0) (v := ?_) rfl (by kernel_rfl) (by kernel_rfl) (by kernel_rfl) (by kernel_rfl) (fun _ _ _ h => h) (Or.inl ⟨by rfl, ?_⟩) (by assumption) ?_
    rotate_left 1
    focus (intro w hSw; (try dsimp only at hSw); go_simp; (try with_reducible rfl))
    try simp only [List.getElem_toArray, List.getElem_cons_succ, List.getElem_cons_zero, Act.put, List.setIfInBounds_toArray, List.set_cons_zero, List.set_cons_succ]
    refine Reg.takeT (i := 1) (v := ?_) rfl (by kernel_rfl) (by kernel_rfl) (by kernel_rfl) (by kernel_rfl) (fun _ _ _ h => h) (Or.inl ⟨by rfl, ?_⟩) (by assumption) ?_
    rotate_left 1
    focus (intro w hSw; (try dsimp only at hSw); go_simp; (try with_reducible rfl))
    try simp only [List.getElem_toArray, List.getElem_cons_succ, List.getElem_cons_zero, Act.put, List.setIfInBounds_toArray, List.set_cons_zero, List.set_cons_succ]
    refine Reg.takeT (i := 2) (v := ?_) rfl (by kernel_rfl) (by kernel_rfl) (by kernel_rfl) (by kernel_rfl) (fun _ _ _ h => h) (Or.inl ⟨by rfl, ?_⟩) (by assumption) ?_
    rotate_left 1
    focus (intro w hSw; (try dsimp only at hSw); go_simp; (try with_reducible rfl))
    try simp only [List.getElem_toArray, List.getElem_cons_succ, List.getElem_cons_zero, Act.put, List.setIfInBounds_toArray, List.set_cons_zero, List.set_cons_succ]
    refine Reg.takeT (i := 3) (v := ?_) rfl (by kernel_rfl) (by kernel_rfl) (by kernel_rfl) (by kernel_rfl) (fun _ _ _ h => h) (Or.inl ⟨by rfl, ?_⟩) (by assumption) ?_
    rotate_left 1
    focus (intro w hSw; (try dsimp only at hSw); go_simp; (try with_reducible rfl))
    try simp only [List.getElem_toArray, List.getElem_cons_succ, List.getElem_cons_zero, Act.put, List.setIfInBounds_toArray, List.set_cons_zero, List.set_cons_succ]
    refine Reg.takeT (i := 4) (v := ?_) rfl (by kernel_rfl) (by kernel_rfl) (by kernel_rfl) (by kernel_rfl) (fun _ _ _ h => h) (Or.inl ⟨by rfl, ?_⟩) (by assumption) ?_
    rotate_left 1
    focus (intro w hSw; (try dsimp only at hSw); go_simp; (try with_reducible rfl))
    try simp only [List.getElem_toArray, List.getElem_cons_succ, List.getElem_cons_zero, Act.put, List.setIfInBounds_toArray, List.set_cons_zero, List.set_cons_succ]
    refine Reg.oneT (i := 5) rfl (by kernel_rfl) (fun K hK => ?_)
    go_simp
    refine (l1In_any _ _ _ _).mono ?_
    rintro e w' ⟨rfl, rfl⟩
    rw [HIN.out]
    refine hK.out _ _ hHeld ?_
    clear hK K
    try simp only [List.getElem_toArray, List.getElem_cons_succ, List.getElem_cons_zero, Act.put, List.setIfInBounds_toArray, List.set_cons_zero, List.set_cons_succ]
    refine Reg.takeT (i := 6) (v := ?_) rfl (by kernel_rfl) (by kernel_rfl) (by kernel_rfl) (by kernel_rfl) (fun _ _ _ h => h) (Or.inl ⟨by rfl, ?_⟩) (by assumption) ?_
    rotate_left 1
    focus (intro w hSw; (try dsimp only at hSw); go_simp; (try with_reducible rfl))
    try simp only [List.getElem_toArray, List.getElem_cons_succ, List.getElem_cons_zero, Act.put, List.setIfInBounds_toArray, List.set_cons_zero, List.set_cons_succ]
    refine Reg.takeT (i := 7) (v := undef) rfl (by kernel_rfl) (by kernel_rfl) (by kernel_rfl) (by kernel_rfl) (fun _ _ _ h => h) (Or.inr ⟨by rfl, rfl⟩) (by assumption) ?_
    try simp only [List.getElem_toArray, List.getElem_cons_succ, List.getElem_cons_zero, Act.put, List.setIfInBounds_toArray, List.set_cons_zero, List.set_cons_succ]
    refine Reg.takeT (i := 8) (v := undef) rfl (by kernel_rfl) (by kernel_rfl) (by kernel_rfl) (by kernel_rfl) (fun _ _ _ h => h) (Or.inr ⟨by rfl, rfl⟩) (by assumption) ?_
    try simp only [List.getElem_toArray, List.getElem_cons_succ, List.getElem_cons_zero, Act.put, List.setIfInBounds_toArray, List.set_cons_zero, List.set_cons_succ]
    refine Reg.takeT (i := 9) (v := undef) rfl (by kernel_rfl) (by kernel_rfl) (by kernel_rfl) (by kernel_rfl) (fun _ _ _ h => h) (Or.inr ⟨by rfl, rfl⟩) (by assumption) ?_
    try simp only [List.getElem_toArray, List.getElem_cons_succ, List.getElem_cons_zero, Act.put, List.setIfInBounds_toArray, List.set_cons_zero, List.set_cons_succ]
    refine Reg.takeT (i := 10) (v := undef) rfl (by kernel_rfl) (by kernel_rfl) (by kernel_rfl) (by kernel_rfl) (fun _ _ _ h => h) (Or.inr ⟨by rfl, rfl⟩) (by assumption) ?_
    try simp only [List.getElem_toArray, List.getElem_cons_succ, List.getElem_cons_zero, Act.put, List.setIfInBounds_toArray, List.set_cons_zero, List.set_cons_succ]
    refine Reg.takeT (i := 11) (v := undef) rfl (by kernel_rfl) (by kernel_rfl) (by kernel_rfl) (by kernel_rfl) (fun _ _ _ h => h) (Or.inr ⟨by rfl, rfl⟩) (by assumption) ?_
    try simp only [List.getElem_toArray, List.getElem_cons_succ, List.getElem_cons_zero, Act.put, List.setIfInBounds_toArray, List.set_cons_zero, List.set_cons_succ]
    refine Reg.takeT (i := 12) (v := undef) rfl (by kernel_rfl) (by kernel_rfl) (by kernel_rfl) (by kernel_rfl) (fun _ _ _ h => h) (Or.inr ⟨by rfl, rfl⟩) (by assumption) ?_
    try simp only [List.getElem_toArray, List.getElem_cons_succ, List.getElem_cons_zero, Act.put, List.setIfInBounds_toArray, List.set_cons_zero, List.set_cons_succ]
    refine Reg.takeT (i := 13) (v := undef) rfl (by kernel_rfl) (by kernel_rfl) (by kernel_rfl) (by kernel_rfl) (fun _ _ _ h => h) (Or.inr ⟨by rfl, rfl⟩) (by assumption) ?_
    try simp only [List.getElem_toArray, List.getElem_cons_succ, List.getElem_cons_zero, Act.put, List.setIfInBounds_toArray, List.set_cons_zero, List.set_cons_succ]
    refine Reg.takeT (i := 14) (v := undef) rfl (by kernel_rfl) (by kernel_rfl) (by kernel_rfl) (by kernel_rfl) (fun _ _ _ h => h) (Or.inr ⟨by rfl, rfl⟩) (by assumption) ?_
    try simp only [List.getElem_toArray, List.getElem_cons_succ, List.getElem_cons_zero, Act.put, List.setIfInBounds_toArray, List.set_cons_zero, List.set_cons_succ]
    refine Reg.takeT (i := 15) (v := undef) rfl (by kernel_rfl) (by kernel_rfl) (by kernel_rfl) (by kernel_rfl) (fun _ _ _ h => h) (Or.inr ⟨by rfl, rfl⟩) (by assumption) ?_
    try simp only [List.getElem_toArray, List.getElem_cons_succ, List.getElem_cons_zero, Act.put, List.setIfInBounds_toArray, List.set_cons_zero, List.set_cons_succ]
    refine Reg.takeT (i := 16) (v := ?_) rfl (by kernel_rfl) (by kernel_rfl) (by kernel_rfl) (by kernel_rfl) (fun _ _ _ h => h) (Or.inl ⟨by rfl, ?_⟩) (by assumption) ?_
    rotate_left 1
    focus (intro w hSw; (try dsimp only at hSw); go_simp; (try with_reducible rfl))
    try simp only [List.getElem_toArray, List.getElem_cons_succ, List.getElem_cons_zero, Act.put, List.setIfInBounds_toArray, List.set_cons_zero, List.set_cons_succ]
    refine Reg.takeT (i := 17) (v := ?_) rfl (by kernel_rfl) (by kernel_rfl) (by kernel_rfl) (by kernel_rfl) (fun _ _ _ h => h) (Or.inl ⟨by rfl, ?_⟩) (by assumption) ?_
    rotate_left 1
    focus (intro w hSw; (try dsimp only at hSw); go_simp; (try with_reducible rfl))
    try simp only [List.getElem_toArray, List.getElem_cons_succ, List.getElem_cons_zero, Act.put, List.setIfInBounds_toArray, List.set_cons_zero, List.set_cons_succ]
    refine Reg.doneT (by kernel_rfl) ?_ _
    clear hHeld
    go_wp2_with fail
    go_ret
    exact ⟨by rw [HV.out]; rfl, Below.drew HB.out⟩
end Go.Proofs.YtepoiphmmjfbdaaGreatDoor.CSymValid
/- globalOf: the first symbol with a name that is not local. -/
namespace Go.Proofs.YtepoiphmmjfbdaaGreatDoor.CGlobalOf
set_option maxRecDepth 200000
open Go.ChangeShapes Go.WideShapes Go.ChangeAt Go.RowKit Kit CCode CName CFixups CSymbols PObj BObj PValid CSecValid
def hit (nm : ByteArray) (x : YD) : Bool := !decide (x.2.1 = 0) && decide (x.1 = nm)
theorem str_eq (a b : ByteArray) : (a.toList == b.toList) = decide (a = b) := by
  rw [ByteArray.toList_eq, ByteArray.toList_eq]
  by_cases h : a = b
  · rw [h, decide_eq_true rfl]
    simp
  · rw [decide_eq_false h, beq_eq_false_iff_ne]
    intro e
    refine h ?_
    obtain ⟨⟨x⟩⟩ := a
    obtain ⟨⟨y⟩⟩ := b
    simp at e
    rw [e]
theorem pred_any (nm : ByteArray) (N : Nat) (z : YD) (w : World) (hN : N < w.heap.size) (hc : w.cell? ⟨N, 0, none⟩ = some (.string nm)) :
    Calls Tryz.prog 139 #[.agg #[.string z.1, .int .i64 z.2.1, .int .i64 z.2.2.1, .int .i64 z.2.2.2], .pointer (some ⟨N, 0, none⟩)] w (Ret (.bool (hit nm z)) w) := by
  obtain ⟨zn, zb, zw, zv⟩ := z
  simp only [hit]
  have B0 : Below w.heap.size w (w.alloc (.cells #[.string zn, .int .i64 zb, .int .i64 zw, .int .i64 zv] 67)) := (by repeat (first | exact Below.refl _ _ | with_reducible assumption | (refine Below.drew ?_) | (refine Below.drewN ?_ _) | (refine Below.alloc ?_ (by simp; try omega) _) | (refine Below.setCell ?_ (by simp; try omega) _)))
  have X0 := Box.new w 67 #[.string zn, .int .i64 zb, .int .i64 zw, .int .i64 zv]
  have hc1 := (B0.cell (p := ⟨N, 0, none⟩) hN).trans hc
  have HB := hide B0
  have x0 := X0.cell 0
  have x1 := X0.cell 1
  simp only [List.getElem?_toArray, List.getElem?_cons_zero, List.getElem?_cons_succ] at x0 x1
  clear B0
  go_enter Tryz.func139, Tryz.ntmps139
  by_cases hz : zb = 0
  · have e1 : (zb != 0) = false := by rw [hz]; rfl
    have HV := hide (show (!decide (zb = 0) && decide (zn = nm)) = false by rw [decide_eq_true hz]; rfl)
    clear hz
    go_wp2_with fail
    go_ret
    exact ⟨by rw [HV.out]; rfl, HB.out⟩
  · have e1 : (zb != 0) = true := bne_iff_ne.2 hz
    have HV := hide (show (!decide (zb = 0) && decide (zn = nm)) = (zn.toList == nm.toList) by rw [decide_eq_false hz, str_eq]; rfl)
    clear hz
    generalize hq : (zn.toList == nm.toList) = q at *
    go_wp2_with fail
    go_ret
    exact ⟨by rw [HV.out]; rfl, HB.out⟩
theorem indexFunc_any (nm : ByteArray) (N : Nat) (A : Option Addr) (ys : List YD) (c : Nat) (w : World) (hr : Rd w w.heap.size A (cellsOf symbolC ys)) (hm : ys.length ≤ maxLen) (hN : N < w.heap.size) (hc : w.cell? ⟨N, 0, none⟩ = some (.string nm)) :
    Calls Tryz.prog 138 #[.slice A ys.length c, .func (.func 139) #[] #[.pointer (some ⟨N, 0, none⟩)]] w fun e w' => ∃ r : Int, e = .returned (.int .i64 r) ∧ decide (0 ≤ r) = ys.any (hit nm) ∧ Below w.heap.size w w' := by
  unfold maxLen at hm
  go_enter Tryz.func138, Tryz.ntmps138
  go_wp2
  go_loopw [8] (fun i wr => ∃ k : Nat, k ≤ ys.length ∧ i = .int .i64 k ∧ (ys.take k).any (hit nm) = false ∧ Below w.heap.size w wr) (fun i _ => ys.length - (intOf i).toNat)
  case atStart => exact ⟨0, Nat.zero_le _, rfl, rfl, Below.refl _ _⟩
  case round =>
    obtain ⟨k, hk, rfl, hn, hb⟩ := hrel
    have HB := hide hb
    by_cases hlt : k < ys.length
    · obtain ⟨b, off, rfl, hbb, hcc⟩ := (hr.below hb).row symbolC_len (by decide) hlt
      have hc0 := hcc 0 _ rfl
      have hc1 := hcc 1 _ rfl
      have hc2 := hcc 2 _ rfl
      have hc3 := hcc 3 _ rfl
      simp only [Nat.add_zero] at hc0
      have HS := hide (show (ys.take (k + 1)).any (hit nm) = hit nm ys[k] by rw [take_succ hlt, List.any_append, hn]; simp)
      have HT := hide (show hit nm ys[k] = true → ys.any (hit nm) = true from fun h => List.any_eq_true.2 ⟨_, List.getElem_mem hlt, h⟩)
      have HP := hide (fun z => pred_any nm N z wr (Nat.lt_of_lt_of_le hN hb.size) ((hb.cell (p := ⟨N, 0, none⟩) hN).trans hc))
      clear hr hb hcc hn hc
      generalize ys[k] = z at *
      have hpred := HP.out z
      cases h : hit nm z
      · have HS' := hide (HS.out.trans h)
        rw [h] at hpred
        clear HT HS h HP
        go_wp2_with fail
        refine hpred.mono ?_
        rintro e w2 ⟨rfl, b2⟩
        have HB' := hide (HB.out.trans (b2.mono HB.out.size))
        clear b2 hc0 hc1 hc2 hc3
        go_wp2_with fail
        refine ⟨⟨k + 1, by omega, by go_num, HS'.out, HB'.out⟩, by simp [intOf]; omega⟩
      · have HT' := hide (HT.out h)
        rw [h] at hpred
        clear HT HS h HP
        go_wp2_with fail
        refine hpred.mono ?_
        rintro e w2 ⟨rfl, b2⟩
        have HB' := hide (HB.out.trans (b2.mono HB.out.size))
        clear b2 hc0 hc1 hc2 hc3
        go_wp2_with fail
        go_ret
        exact ⟨k, rfl, by rw [HT'.out]; simp, HB'.out⟩
    · have HN := hide (show ys.any (hit nm) = false by rw [← hn, List.take_of_length_le (by omega)])
      clear hr hb hn hc
      go_wp2_with fail
      go_ret
      exact ⟨-1, rfl, by rw [HN.out]; rfl, HB.out⟩
theorem globalOf_any (nm : ByteArray) (A : Option Addr) (ys : List YD) (c : Nat) (w : World) (hr : Rd w w.heap.size A (cellsOf symbolC ys)) (hm : ys.length ≤ maxLen) :
    Calls Tryz.prog 84 #[.slice A ys.length c, .string nm] w fun e w' => ∃ r : Int, e = .returned (.int .i64 r) ∧ decide (0 ≤ r) = ys.any (hit nm) ∧ Below w.heap.size w w' := by
  have B0 : Below w.heap.size w (w.alloc (.cells #[.string nm] 9)) := (by repeat (first | exact Below.refl _ _ | with_reducible assumption | (refine Below.drew ?_) | (refine Below.drewN ?_ _) | (refine Below.alloc ?_ (by simp; try omega) _) | (refine Below.setCell ?_ (by simp; try omega) _)))
  have X0 := Box.new w 9 #[.string nm]
  have x0 := X0.cell 0
  simp only [List.getElem?_toArray, List.getElem?_cons_zero, List.getElem?_cons_succ] at x0
  have HX := hide (And.intro X0.lt x0)
  have HB := hide B0
  have HR := hide ((hr.below B0).more B0.size)
  clear B0 hr X0 x0
  go_enter Tryz.func84, Tryz.ntmps84
  go_wp2_with fail
  refine (indexFunc_any nm w.heap.size A ys c _ HR.out hm HX.out.1 HX.out.2).mono ?_
  rintro e w2 ⟨r, rfl, hr2, b2⟩
  have HB2 := hide (HB.out.trans (b2.mono HB.out.size))
  have H2 := hide hr2
  clear b2 hr2
  go_wp2_with fail
  go_ret
  exact ⟨r, rfl, H2.out, HB2.out⟩
end Go.Proofs.YtepoiphmmjfbdaaGreatDoor.CGlobalOf
