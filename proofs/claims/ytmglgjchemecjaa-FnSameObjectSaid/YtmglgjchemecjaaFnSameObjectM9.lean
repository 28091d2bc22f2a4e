/- Names put in one by one, each once: the same list as sorted gives; plain. -/
import Derived.Test.YtmglgjchemecjaaFnSameObjectM8
import Derived.Lib.ConvBytes
set_option linter.unusedSimpArgs false
set_option linter.unusedVariables false
namespace Go.Proofs.Ytmglgjchemecjaa.PIns
set_option maxRecDepth 200000
open Go.ChangeShapes Go.WideShapes Go.ChangeAt Go.RowKit Kit CSorted CNames CNameTab PSort
theorem bl_eq : ∀ x y : List UInt8, Op.bytesLess x y = decide (x < y)
  | [], [] => by simp [Op.bytesLess]
  | _ :: _, [] => by simp [Op.bytesLess]
  | [], _ :: _ => by simp [Op.bytesLess]
  | a :: x, b :: y => by
    rw [Op.bytesLess, bl_eq x y]
    simp only [List.cons_lt_cons_iff]
    by_cases h1 : a < b <;> by_cases h2 : a = b <;> by_cases h3 : x < y <;> simp [h1, h2, h3]
theorem toL_eq (a : ByteArray) : a.toList = a.data.toList := ByteArray.toList_eq a
theorem toL_inj {a b : ByteArray} (h : a.toList = b.toList) : a = b := by
  rw [toL_eq, toL_eq] at h
  exact ByteArray.ext (Array.toList_inj.1 h)
theorem sl_irr (a : ByteArray) : sl a a = false := by
  unfold sl
  rw [bl_eq]
  exact decide_eq_false (List.lt_irrefl _)
theorem sl_tr {a b c : ByteArray} (h1 : sl a b = true) (h2 : sl b c = true) : sl a c = true := by
  unfold sl at *
  rw [bl_eq] at *
  exact decide_eq_true (List.lt_trans (of_decide_eq_true h1) (of_decide_eq_true h2))
theorem sl_as {a b : ByteArray} (h : sl a b = true) : sl b a = false := by
  cases h2 : sl b a
  · rfl
  · have := sl_tr h h2
    rw [sl_irr] at this
    cases this
theorem sl_tri {a b : ByteArray} (h1 : sl a b = false) (h2 : a ≠ b) : sl b a = true := by
  unfold sl at *
  rw [bl_eq] at *
  refine decide_eq_true ?_
  have h := List.not_lt.1 (of_decide_eq_false h1)
  by_cases hlt : b.toList < a.toList
  · exact hlt
  · exact absurd (toL_inj (List.le_antisymm (List.not_lt.1 hlt) h)) h2
def SS (xs : List ByteArray) : Prop := xs.Pairwise fun a b => sl a b = true
theorem SS.nodup {xs : List ByteArray} (h : SS xs) : xs.Nodup := List.Pairwise.imp (fun {a b} hab e => by subst e; rw [sl_irr] at hab; cases hab) h
theorem uniq : ∀ {xs ys : List ByteArray}, SS xs → SS ys → (∀ x, x ∈ xs ↔ x ∈ ys) → xs = ys
  | [], [], _, _, _ => rfl
  | [], y :: ys, _, _, h => by have := (h y).2 List.mem_cons_self; cases this
  | x :: xs, [], _, _, h => by have := (h x).1 List.mem_cons_self; cases this
  | x :: xs, y :: ys, h1, h2, h => by
    obtain ⟨a1, b1⟩ := List.pairwise_cons.1 h1
    obtain ⟨a2, b2⟩ := List.pairwise_cons.1 h2
    have e : x = y := by
      rcases List.mem_cons.1 ((h x).1 List.mem_cons_self) with e | e
      · exact e
      · rcases List.mem_cons.1 ((h y).2 List.mem_cons_self) with e2 | e2
        · exact e2.symm
        · have p := a2 x e
          have q := sl_as (a1 y e2)
          rw [p] at q
          cases q
    subst e
    have hx : x ∉ xs := fun hm => by have := a1 x hm; rw [sl_irr] at this; cases this
    have hy : x ∉ ys := fun hm => by have := a2 x hm; rw [sl_irr] at this; cases this
    rw [uniq b1 b2 fun z => ?_]
    constructor
    · intro hz
      rcases List.mem_cons.1 ((h z).1 (List.mem_cons_of_mem _ hz)) with rfl | hz2
      · exact absurd hz hx
      · exact hz2
    · intro hz
      rcases List.mem_cons.1 ((h z).2 (List.mem_cons_of_mem _ hz)) with rfl | hz2
      · exact absurd hz hy
      · exact hz2
/-- Where a name is put in. -/
def insP (s : ByteArray) : List ByteArray → Nat
  | [] => 0
  | x :: xs => if sl x s = true then insP s xs + 1 else 0
def insN (xs : List ByteArray) (s : ByteArray) : List ByteArray := if xs[insP s xs]? = some s then xs else xs.take (insP s xs) ++ [s] ++ xs.drop (insP s xs)
def insR (s : ByteArray) : List ByteArray → List ByteArray
  | [] => [s]
  | x :: xs => if sl x s = true then x :: insR s xs else if x = s then x :: xs else s :: x :: xs
theorem insP_le (s : ByteArray) : ∀ xs, insP s xs ≤ xs.length
  | [] => Nat.le_refl _
  | x :: xs => by
    have := insP_le s xs
    unfold insP
    split <;> simp <;> omega
theorem ins_eq (s : ByteArray) : ∀ xs, insN xs s = insR s xs
  | [] => by simp [insN, insP, insR]
  | x :: xs => by
    have ih := ins_eq s xs
    unfold insN at ih
    unfold insN insP insR
    by_cases h : sl x s = true
    · simp only [h, if_true, List.getElem?_cons_succ, List.take_succ_cons, List.drop_succ_cons]
      rw [← ih]
      split <;> rfl
    · simp only [h, Bool.false_eq_true, if_false, List.getElem?_cons_zero, Option.some.injEq, List.take_zero, List.drop_zero]
      rfl
theorem insR_mem (s y : ByteArray) : ∀ xs, y ∈ insR s xs ↔ y = s ∨ y ∈ xs
  | [] => by simp [insR]
  | x :: xs => by
    unfold insR
    split
    · rw [List.mem_cons, insR_mem s y xs, List.mem_cons]
      constructor
      · rintro (h | h | h) <;> simp [h]
      · rintro (h | h | h) <;> simp [h]
    · split
      · rename_i h
        subst h
        simp
      · simp
theorem insR_ss (s : ByteArray) : ∀ {xs}, SS xs → SS (insR s xs)
  | [], _ => by simp [insR, SS]
  | x :: xs, h => by
    obtain ⟨h1, h2⟩ := List.pairwise_cons.1 h
    unfold insR
    split
    · rename_i hx
      refine List.pairwise_cons.2 ⟨fun y hy => ?_, insR_ss s h2⟩
      rcases (insR_mem s y xs).1 hy with rfl | hy
      · exact hx
      · exact h1 y hy
    · rename_i hx
      split
      · exact h
      · rename_i hne
        have hsx := sl_tri (Bool.not_eq_true _ ▸ hx) hne
        refine List.pairwise_cons.2 ⟨fun y hy => ?_, h⟩
        rcases List.mem_cons.1 hy with rfl | hy
        · exact hsx
        · exact sl_tr hsx (h1 y hy)
theorem insR_len (s : ByteArray) : ∀ xs, (insR s xs).length ≤ xs.length + 1
  | [] => by simp [insR]
  | x :: xs => by
    have := insR_len s xs
    unfold insR
    split
    · simp only [List.length_cons]
      omega
    · split <;> simp
theorem insN_len (xs : List ByteArray) (s : ByteArray) : (insN xs s).length ≤ xs.length + 1 := by
  rw [ins_eq]
  exact insR_len s xs
def insAll (ns : List ByteArray) : List ByteArray := ns.foldl insN []
theorem insAll_snoc (ns : List ByteArray) (s : ByteArray) : insAll (ns ++ [s]) = insN (insAll ns) s := by simp [insAll]
theorem insAll_spec (ns : List ByteArray) : SS (insAll ns) ∧ ∀ x, x ∈ insAll ns ↔ x ∈ ns := by
  suffices H : ∀ (ns acc : List ByteArray), SS acc → SS (ns.foldl insN acc) ∧ ∀ x, x ∈ ns.foldl insN acc ↔ x ∈ acc ∨ x ∈ ns by
    have := H ns [] List.Pairwise.nil
    exact ⟨this.1, fun x => by rw [insAll, this.2]; simp⟩
  intro ns
  induction ns with
  | nil => intro acc h; exact ⟨h, fun x => by simp⟩
  | cons n ns ih =>
    intro acc h
    have h2 : SS (insN acc n) := by rw [ins_eq]; exact insR_ss n h
    obtain ⟨i1, i2⟩ := ih _ h2
    refine ⟨i1, fun x => ?_⟩
    rw [List.foldl_cons, i2, ins_eq, insR_mem, List.mem_cons]
    constructor
    · rintro ((h | h) | h) <;> simp [h]
    · rintro (h | h | h) <;> simp [h]
section
variable {d : Array (List UInt8)}
theorem cpt_spec (hs : ∀ i j, i ≤ j → j < d.size → d[i]! ≤ d[j]!) : ∀ m, m ≤ d.size →
    (Lib.compactUpTo d m).Pairwise (· < ·) ∧ (∀ x ∈ Lib.compactUpTo d m, 0 < m ∧ x ≤ d[m - 1]!) ∧ ∀ x, x ∈ Lib.compactUpTo d m ↔ ∃ j, j < m ∧ d[j]! = x
  | 0, _ => by
    refine ⟨?_, ?_, ?_⟩ <;> simp [Lib.compactUpTo]
  | m + 1, hm => by
    obtain ⟨h1, h2, h3⟩ := cpt_spec hs m (by omega)
    rw [Lib.compactUpTo_succ]
    cases hk : Lib.keeps d m
    · simp only [Bool.false_eq_true, if_false, List.append_nil]
      have hk2 := of_decide_eq_false hk
      have hm0 : m ≠ 0 := fun e => hk2 (.inl e)
      have heq : d[m]! = d[m - 1]! := Classical.byContradiction fun e => hk2 (.inr e)
      refine ⟨h1, fun x hx => ⟨by omega, ?_⟩, fun x => ?_⟩
      · rw [Nat.add_sub_cancel, heq]
        exact (h2 x hx).2
      · rw [h3]
        constructor
        · rintro ⟨j, hj, e⟩
          exact ⟨j, by omega, e⟩
        · rintro ⟨j, hj, e⟩
          rcases Nat.lt_or_ge j m with h | h
          · exact ⟨j, h, e⟩
          · have : j = m := by omega
            subst this
            exact ⟨j - 1, by omega, heq ▸ e⟩
    · simp only [if_true]
      have hk2 := of_decide_eq_true hk
      refine ⟨List.pairwise_append.2 ⟨h1, List.pairwise_singleton _ _, fun x hx y hy => ?_⟩, fun x hx => ⟨by omega, ?_⟩, fun x => ?_⟩
      · rw [List.mem_singleton.1 hy]
        obtain ⟨p0, p1⟩ := h2 x hx
        have hne : d[m]! ≠ d[m - 1]! := hk2.resolve_left (by omega)
        have hle : d[m - 1]! ≤ d[m]! := hs (m - 1) m (by omega) (by omega)
        have hlt : d[m - 1]! < d[m]! := by
          by_cases hlt : d[m - 1]! < d[m]!
          · exact hlt
          · exact absurd (List.le_antisymm (List.not_lt.1 hlt) hle) hne
        by_cases h : x < d[m]!
        · exact h
        · exact absurd (List.le_trans (List.not_lt.1 h) p1) (List.not_le.2 hlt)
      · rw [Nat.add_sub_cancel]
        rcases List.mem_append.1 hx with hx | hx
        · obtain ⟨p0, p1⟩ := h2 x hx
          exact List.le_trans p1 (hs (m - 1) m (by omega) (by omega))
        · rw [List.mem_singleton.1 hx]
          exact List.le_refl _
      · rw [List.mem_append, h3, List.mem_singleton]
        constructor
        · rintro (⟨j, hj, e⟩ | e)
          · exact ⟨j, by omega, e⟩
          · exact ⟨m, by omega, e.symm⟩
        · rintro ⟨j, hj, e⟩
          rcases Nat.lt_or_ge j m with h | h
          · exact .inl ⟨j, h, e⟩
          · have : j = m := by omega
            subst this
            exact .inr e.symm
end
theorem srt_spec (ns : List ByteArray) : SS (srtN ns) ∧ ∀ x, x ∈ srtN ns ↔ x ∈ ns := by
  have hp := List.pairwise_mergeSort (le := fun x y : List UInt8 => decide (x ≤ y)) (fun a b c h1 h2 => decide_eq_true (List.le_trans (of_decide_eq_true h1) (of_decide_eq_true h2))) (fun a b => by
    rcases List.le_total a b with h | h
    · simp [h]
    · simp [h]) (bytesOf ns)
  have hm : ∀ x, x ∈ (bytesOf ns).mergeSort (fun x y => decide (x ≤ y)) ↔ x ∈ bytesOf ns := fun x => List.mem_mergeSort
  unfold srtN sortB Lib.compact
  generalize (bytesOf ns).mergeSort (fun x y => decide (x ≤ y)) = M at *
  have hs : ∀ i j, i ≤ j → j < M.toArray.size → M.toArray[i]! ≤ M.toArray[j]! := by
    intro i j hij hj
    have hj' : j < M.length := by simpa using hj
    have hi' : i < M.length := by omega
    have e1 : M.toArray[i]! = M[i] := by simp [hi']
    have e2 : M.toArray[j]! = M[j] := by simp [hj']
    rw [e1, e2]
    rcases Nat.lt_or_ge i j with h | h
    · exact of_decide_eq_true (List.pairwise_iff_getElem.1 hp i j hi' hj' h)
    · have : i = j := by omega
      subst this
      exact List.le_refl _
  obtain ⟨h1, _, h3⟩ := cpt_spec hs M.length (by simp)
  refine ⟨?_, fun x => ?_⟩
  · refine List.pairwise_map.2 (List.Pairwise.imp (fun {a b} h => ?_) h1)
    unfold sl
    rw [bl_eq, toL_eq, toL_eq]
    exact decide_eq_true (by simpa using h)
  · rw [List.mem_map]
    constructor
    · rintro ⟨l, hl, rfl⟩
      obtain ⟨j, hj, rfl⟩ := (h3 l).1 hl
      have e1 : M.toArray[j]! = M[j] := by simp [hj]
      rw [e1]
      have := (hm M[j]).1 (List.getElem_mem hj)
      obtain ⟨y, hy, e⟩ := List.mem_map.1 this
      have e2 : (⟨M[j].toArray⟩ : ByteArray) = y := by rw [← e]
      rw [e2]
      exact hy
    · intro hx
      obtain ⟨j, hj, e⟩ := List.mem_iff_getElem.1 ((hm x.data.toList).2 (List.mem_map_of_mem hx))
      refine ⟨x.data.toList, (h3 _).2 ⟨j, hj, ?_⟩, rfl⟩
      have e1 : M.toArray[j]! = M[j] := by simp [hj]
      rw [e1]
      exact e
theorem all_srt (ns : List ByteArray) : insAll ns = srtN ns := by
  obtain ⟨a1, a2⟩ := insAll_spec ns
  obtain ⟨b1, b2⟩ := srt_spec ns
  exact uniq a1 b1 fun x => (a2 x).trans (b2 x).symm
/-- Whether the name at a place of a list is the end of another one there. -/
def endAt (xs : List ByteArray) (k : Nat) : Nat → Bool
  | 0 => false
  | j + 1 => endAt xs k j || (decide (j ≠ k) && Lib.hasSuffix (xs.getD j ByteArray.empty).data.toList (xs.getD k ByteArray.empty).data.toList)
theorem endAt_iff (xs : List ByteArray) (k : Nat) : ∀ n, endAt xs k n = true ↔ ∃ j, j < n ∧ j ≠ k ∧ Lib.hasSuffix (xs.getD j ByteArray.empty).data.toList (xs.getD k ByteArray.empty).data.toList = true
  | 0 => by simp [endAt]
  | n + 1 => by
    rw [endAt, Bool.or_eq_true, endAt_iff xs k n, Bool.and_eq_true, decide_eq_true_eq]
    constructor
    · rintro (⟨j, hj, h⟩ | h)
      · exact ⟨j, by omega, h⟩
      · exact ⟨n, by omega, h⟩
    · rintro ⟨j, hj, h⟩
      rcases Nat.lt_or_ge j n with q | q
      · exact .inl ⟨j, q, h⟩
      · have : j = n := by omega
        subst this
        exact .inr h
theorem getD_get {xs : List ByteArray} {k : Nat} (h : k < xs.length) : xs.getD k ByteArray.empty = xs[k] := by
  rw [List.getD_eq_getElem?_getD, List.getElem?_eq_getElem h]
  rfl
theorem ends_eq {xs : List ByteArray} (hs : SS xs) {k : Nat} (hk : k < xs.length) : endAt xs k xs.length = CNameTab.endsIn xs xs[k] := by
  rw [Bool.eq_iff_iff, endAt_iff, CNameTab.endsIn, List.any_eq_true]
  constructor
  · rintro ⟨j, hj, hne, h⟩
    rw [getD_get hj, getD_get hk] at h
    refine ⟨xs[j], List.getElem_mem hj, ?_⟩
    have h2 : xs[j] ≠ xs[k] := fun e => by
      rcases Nat.lt_or_ge j k with q | q
      · exact List.pairwise_iff_getElem.1 hs.nodup j k hj hk q e
      · exact List.pairwise_iff_getElem.1 hs.nodup k j hk hj (by omega) e.symm
    simp [sfxP, sfx, h, h2]
  · rintro ⟨x, hx, h⟩
    obtain ⟨j, hj, rfl⟩ := List.mem_iff_getElem.1 hx
    simp only [sfxP, sfx, Bool.and_eq_true, Bool.not_eq_true', decide_eq_false_iff_not] at h
    refine ⟨j, hj, fun e => h.1 (by subst e; rfl), ?_⟩
    rw [getD_get hj, getD_get hk]
    exact h.2
end Go.Proofs.Ytmglgjchemecjaa.PIns
/- A region that draws its order, taken operation by operation: what only computes at once; loads under a condition on the world that all keep but those of T; those of T come up alone. -/
namespace Go.Proofs.Ytmglgjchemecjaa.Rv
set_option maxRecDepth 200000
open Go Reg
section
variable {P : Program} {ops : Array Oper} {Q : Exit → Act → World → Prop} {md : Region.Mode} {S : World → Prop} {T : Nat → Bool}
/-- Whatever order is picked from here on, and S stands over every operation that is carried out, but for those of T. -/
def wpAnyV (P : Program) (md : Region.Mode) (ops : Array Oper) (Q : Exit → Act → World → Prop) (S : World → Prop) (T : Nat → Bool) : Nat → Array Bool → Act → World → Prop
  | 0, listed, a, w => Region.ready md ops listed = [] ∧ Q .normal a w
  | fuel + 1, listed, a, w =>
    (Region.ready md ops listed = [] → Q .normal a w) ∧
    ∀ i ∈ Region.ready md ops listed, wpOp P ops Q i (fun a' w' => (T i = false → S w → S w') ∧ wpAnyV P md ops Q S T fuel (listed.setIfInBounds i true) a' w') a w
theorem wpAny_of_V : ∀ (fuel : Nat) (listed : Array Bool) (a : Act) (w : World), wpAnyV P md ops Q S T fuel listed a w → wpAny P md ops Q fuel listed a w
  | 0, _, _, _, h => h
  | fuel + 1, _, _, _, h => ⟨h.1, fun i hi => wpOp_mono (fun a' w' h' => wpAny_of_V fuel _ a' w' h'.2) (h.2 i hi)⟩
/-- All that waits for number i, directly or through others (n rounds). -/
def cl (md : Region.Mode) (ops : Array Oper) (listed : Array Bool) (i : Nat) : Nat → List Nat
  | 0 => (List.range ops.size).filter fun j => !listed.getD j true && (match ops[j]? with | some o => waits md o i | none => false)
  | n + 1 => (List.range ops.size).filter fun j => !listed.getD j true && (match ops[j]? with | some o => waits md o i || o.after.any (fun e => Region.binds md e && (cl md ops listed i n).contains e.on) | none => false)
/-- No member of C is taken while number i is not. -/
def closedB (md : Region.Mode) (ops : Array Oper) (listed : Array Bool) (i : Nat) (C : List Nat) (T : Nat → Bool) : Bool :=
  (C.all fun j => j != i && !listed.getD j true && (match ops[j]? with | some o => waits md o i || o.after.any (fun e => Region.binds md e && C.contains e.on) | none => false)) &&
  (List.range ops.size).all fun j => !T j || j == i || C.contains j
theorem closed_spec {i : Nat} {listed : Array Bool} {C : List Nat} (h : closedB md ops listed i C T = true) :
    (∀ j ∈ C, j ≠ i ∧ listed.getD j true = false ∧ ∃ o, ops[j]? = some o ∧ ∃ e ∈ o.after, Region.binds md e = true ∧ (e.on = i ∨ e.on ∈ C)) ∧ (∀ (j : Nat) (o : Oper), ops[j]? = some o → T j = true → j ≠ i → j ∈ C) := by
  unfold closedB at h
  rw [Bool.and_eq_true] at h
  obtain ⟨h1, h2⟩ := h
  refine ⟨fun j hj => ?_, fun j o ho ht hne => ?_⟩
  · have := List.all_eq_true.1 h1 j hj
    simp only [Bool.and_eq_true, bne_iff_ne, ne_eq, Bool.not_eq_true'] at this
    obtain ⟨⟨a, b⟩, c⟩ := this
    refine ⟨a, b, ?_⟩
    split at c
    · rename_i o ho
      refine ⟨o, ho, ?_⟩
      rcases Bool.or_eq_true_iff.1 c with c | c
      · unfold waits at c
        rw [Array.any_eq_true] at c
        obtain ⟨k, hk, he⟩ := c
        simp only [Bool.and_eq_true, beq_iff_eq] at he
        exact ⟨_, Array.getElem_mem hk, he.1, .inl he.2⟩
      · rw [Array.any_eq_true] at c
        obtain ⟨k, hk, he⟩ := c
        simp only [Bool.and_eq_true, List.contains_iff_mem] at he
        exact ⟨_, Array.getElem_mem hk, he.1, .inr he.2⟩
    · cases c
  · have hj : j < ops.size := (Array.getElem?_eq_some_iff.1 ho).1
    have := List.all_eq_true.1 h2 j (List.mem_range.2 hj)
    simp only [Bool.or_eq_true, Bool.not_eq_true', beq_iff_eq, List.contains_iff_mem] at this
    rcases this with (this | this) | this
    · rw [ht] at this
      cases this
    · exact absurd this hne
    · exact this
theorem first {i : Nat} {oi : Oper} {v : Value} {C : List Nat} {R : World → Prop} (hi : ops[i]? = some oi) (hsel : ∀ (j : Nat) (o : Oper) cs b, ops[j]? = some o → o.op ≠ .select cs b)
    (hQ : ∀ c a w, Q (.panic c) (a.put oi.dst v) w → Q (.panic c) a w) (hR : (∀ w, R w) ∨ ((∀ w, R w ↔ S w) ∧ ∀ (j : Nat) (o : Oper), ops[j]? = some o → T j = true → j ≠ i → j ∈ C)) :
    ∀ (fuel : Nat) (listed : Array Bool) (a : Act) (w : World),
      (∀ j ∈ C, j ≠ i ∧ listed.getD j true = false ∧ ∃ o, ops[j]? = some o ∧ ∃ e ∈ o.after, Region.binds md e = true ∧ (e.on = i ∨ e.on ∈ C)) →
      (∀ j oj, ops[j]? = some oj → j ≠ i → listed.getD j true = false → (∀ e ∈ oj.after, Region.binds md e = true → e.on ≠ i) → oi.apart ops oj = true) →
      i ∈ Region.ready md ops listed → YieldsIf P ops R oi v a → R w →
      wpAnyV P md ops Q S T fuel (listed.setIfInBounds i true) (a.put oi.dst v) w → wpAnyV P md ops Q S T (fuel + 1) listed a w := by
  intro fuel
  induction fuel with
  | zero =>
    intro listed a w _ _ hr hy hS H
    refine ⟨fun h => (by rw [h] at hr; cases hr), fun j hj => ?_⟩
    by_cases hji : j = i
    · subst hji
      exact hy.wpOp hi hS ⟨fun _ h => h, H⟩
    · have := ready_mono hj hji
      rw [H.1] at this
      cases this
  | succ fuel ih =>
    intro listed a w hC hfree hr hy hS H
    refine ⟨fun h => (by rw [h] at hr; cases hr), fun j hj => ?_⟩
    by_cases hji : j = i
    · subst hji
      exact hy.wpOp hi hS ⟨fun _ h => h, H⟩
    · have h1 := H.2 j (ready_mono hj hji)
      obtain ⟨hjun, oj, hoj, hall⟩ := mem_ready.1 hj
      have hun : ∀ k, listed.getD k true = false → ∀ e ∈ oj.after, Region.binds md e = true → e.on ≠ k := fun k h0 e he hb heq => by
        have h1 := hall e he hb
        rw [heq] at h1
        rcases Nat.lt_or_ge k listed.size with h' | h'
        · simp [h'] at h0 h1
          rw [h0] at h1
          cases h1
        · simp [Array.getElem?_eq_none h'] at h1
      have hnot : ∀ e ∈ oj.after, Region.binds md e = true → e.on ≠ i := hun i (mem_ready.1 hr).1
      have hjC : j ∉ C := fun hjc => by
        obtain ⟨_, _, o, ho, e, he, hb, hor⟩ := hC j hjc
        rw [hoj] at ho
        injection ho with ho
        subst ho
        rcases hor with hor | hor
        · exact hnot e he hb hor
        · exact hun _ (hC _ hor).2.1 e he hb rfl
      have h2 := wpOp_putIf hoj (hfree j oj hoj hji hjun hnot) (fun cs b => hsel i oi cs b hi) (fun cs b => hsel j oj cs b hoj) hQ hy h1
      have hfree' : ∀ k ok, ops[k]? = some ok → k ≠ i → (listed.setIfInBounds j true).getD k true = false →
          (∀ e ∈ ok.after, Region.binds md e = true → e.on ≠ i) → oi.apart ops ok = true := fun k ok hk hki hun hno => by
        refine hfree k ok hk hki ?_ hno
        by_cases hjk : j = k
        · subst hjk
          exact hjun
        · rw [getD_set_ne true hjk] at hun
          exact hun
      have hC' : ∀ k ∈ C, k ≠ i ∧ (listed.setIfInBounds j true).getD k true = false ∧ ∃ o, ops[k]? = some o ∧ ∃ e ∈ o.after, Region.binds md e = true ∧ (e.on = i ∨ e.on ∈ C) := fun k hk => by
        obtain ⟨a1, a2, a3⟩ := hC k hk
        refine ⟨a1, ?_, a3⟩
        have hjk : j ≠ k := by
          rintro rfl
          exact hjC hk
        rw [getD_set_ne true hjk]
        exact a2
      have hRk : ∀ w', (T j = false → S w → S w') → R w' := fun w' hk => by
        rcases hR with hR | ⟨hR, hT⟩
        · exact hR w'
        · have hTj : T j = false := by
            cases hT' : T j
            · rfl
            · exact absurd (hT j oj hoj hT' hji) hjC
          exact (hR w').2 (hk hTj ((hR w).1 hS))
      refine wpOp_mono (fun a' w' h3 => ⟨h3.2.1, ih (listed.setIfInBounds j true) a' w' hC' hfree' (ready_mono hr (Ne.symm hji)) h3.1 (hRk w' h3.2.1) ?_⟩) h2
      rw [Array.setIfInBounds_comm _ _ hji]
      exact h3.2.2
/-- A load (what reads the world): take it first, under S. -/
theorem take {i : Nat} {oi : Oper} {v : Value} {fuel : Nat} {listed : Array Bool} {a : Act} {w : World} (hi : ops[i]? = some oi)
    (hs : Region.noSelect ops = true) (hf : Region.free md ops listed i = true) (hr : (Region.ready md ops listed).contains i = true) (hT : closedB md ops listed i (cl md ops listed i 3) T = true)
    (hQ : ∀ c a w, Q (.panic c) (a.put oi.dst v) w → Q (.panic c) a w) (hy : YieldsIf P ops S oi v a) (hS : S w)
    (h : wpAnyV P md ops Q S T fuel (listed.setIfInBounds i true) (a.put oi.dst v) w) : wpAnyV P md ops Q S T (fuel + 1) listed a w :=
  first (R := S) hi (Region.noSelect_spec hs) hQ (.inr ⟨fun _ => Iff.rfl, (closed_spec hT).2⟩) fuel listed a w (closed_spec hT).1 (Region.free_spec hi hf) (by simpa using hr) hy hS h
/-- What only computes: take it first. -/
theorem comp {i : Nat} {oi : Oper} {v : Value} {fuel : Nat} {listed : Array Bool} {a : Act} {w : World} (hi : ops[i]? = some oi)
    (hs : Region.noSelect ops = true) (hf : Region.free md ops listed i = true) (hr : (Region.ready md ops listed).contains i = true)
    (hQ : ∀ c a w, Q (.panic c) (a.put oi.dst v) w → Q (.panic c) a w) (hy : YieldsIf P ops (fun _ => True) oi v a)
    (h : wpAnyV P md ops Q S T fuel (listed.setIfInBounds i true) (a.put oi.dst v) w) : wpAnyV P md ops Q S T (fuel + 1) listed a w :=
  first (R := fun _ => True) (C := []) hi (Region.noSelect_spec hs) hQ (.inl fun _ => trivial) fuel listed a w (fun _ h => by cases h) (Region.free_spec hi hf) (by simpa using hr) hy trivial h
/-- One alone may come up, and it is none of T: S is shown anew behind it. -/
theorem one {i : Nat} {o : Oper} {fuel : Nat} {listed : Array Bool} {a : Act} {w : World} (ho : ops[i]? = some o) (hr : Region.ready md ops listed = [i])
    (h : ∀ K : Act → World → Prop, Shut (∀ a w, S w → wpAnyV P md ops Q S T fuel (listed.setIfInBounds i true) a w → K a w) → if Region.wanted o (yielded ops a.tmps) = true then Oper.wp P o a w K Q else K (a.put o.dst undef) w) :
    wpAnyV P md ops Q S T (fuel + 1) listed a w :=
  ⟨fun h0 => (by rw [hr] at h0; cases h0), fun j hj => by
    rw [hr] at hj
    simp only [List.mem_singleton] at hj
    subst hj
    exact wpOp_step ho (fun K' hK => h K' (fun a w hS hW => hK a w ⟨fun _ _ => hS, hW⟩))⟩
/-- One of T comes up alone. -/
theorem last {i : Nat} {o : Oper} {fuel : Nat} {listed : Array Bool} {a : Act} {w : World} (ho : ops[i]? = some o) (hr : Region.ready md ops listed = [i]) (hT : T i = true)
    (h : ∀ K : Act → World → Prop, Shut (∀ a w, wpAnyV P md ops Q S T fuel (listed.setIfInBounds i true) a w → K a w) → if Region.wanted o (yielded ops a.tmps) = true then Oper.wp P o a w K Q else K (a.put o.dst undef) w) :
    wpAnyV P md ops Q S T (fuel + 1) listed a w :=
  ⟨fun h0 => (by rw [hr] at h0; cases h0), fun j hj => by
    rw [hr] at hj
    simp only [List.mem_singleton] at hj
    subst hj
    exact wpOp_step ho (fun K' hK => h K' (fun a w hW => hK a w ⟨fun hF => (by rw [hT] at hF; cases hF), hW⟩))⟩
/-- Two may come up, neither of T: the one or the other is carried out. -/
theorem two {i j : Nat} {oi oj : Oper} {fuel : Nat} {listed : Array Bool} {a : Act} {w : World} (hoi : ops[i]? = some oi) (hoj : ops[j]? = some oj) (hr : Region.ready md ops listed = [i, j])
    (h : ∀ K : Act → World → Prop, Shut (∀ a w, S w → wpAnyV P md ops Q S T fuel (listed.setIfInBounds i true) a w → K a w) → if Region.wanted oi (yielded ops a.tmps) = true then Oper.wp P oi a w K Q else K (a.put oi.dst undef) w)
    (h' : ∀ K : Act → World → Prop, Shut (∀ a w, S w → wpAnyV P md ops Q S T fuel (listed.setIfInBounds j true) a w → K a w) → if Region.wanted oj (yielded ops a.tmps) = true then Oper.wp P oj a w K Q else K (a.put oj.dst undef) w) :
    wpAnyV P md ops Q S T (fuel + 1) listed a w :=
  ⟨fun h0 => (by rw [hr] at h0; cases h0), fun k hk => by
    rw [hr] at hk
    simp only [List.mem_cons, List.not_mem_nil, or_false] at hk
    rcases hk with rfl | rfl
    · exact wpOp_step hoi (fun K' hK => h K' (fun a w hS hW => hK a w ⟨fun _ _ => hS, hW⟩))
    · exact wpOp_step hoj (fun K' hK => h' K' (fun a w hS hW => hK a w ⟨fun _ _ => hS, hW⟩))⟩
theorem done {listed : Array Bool} {a : Act} {w : World} (hr : Region.ready md ops listed = []) (h : Q .normal a w) : ∀ fuel, wpAnyV P md ops Q S T fuel listed a w
  | 0 => ⟨hr, h⟩
  | _ + 1 => ⟨fun _ => h, by rw [hr]; simp⟩
/-- The beginning. -/
theorem start {id : Nat} {a : Act} {w : World} (S : World → Prop) (T : Nat → Bool) (hm : P.follows .mixedOrders = true)
    (h : wpAnyV P .any ops Q S T ops.size (Array.replicate ops.size false) a w.drew) : (Code.region id ops true).wp P Q a w :=
  wp_region_any hm (wpAny_of_V _ _ _ _ h)
end
end Go.Proofs.Ytmglgjchemecjaa.Rv
/- l2Insert: the reference's putting of a name into sorted names. -/
namespace Go.Proofs.Ytmglgjchemecjaa.CInsS
set_option maxRecDepth 200000
open Go.ChangeShapes Go.WideShapes Go.ChangeAt Go.RowKit Kit CCode CFixups CSymbols PObj BObj CMarkRows CGlobalOf BStore BList PSort PLink CSorted CNames CNameTab CTable PIns
theorem one_nm (l : List ByteArray) : ∀ u ∈ nmC l, u.oneCell' = true := fun u hu => by
  obtain ⟨x, _, rfl⟩ := List.mem_map.1 hu
  rfl
theorem insP_go {s : ByteArray} {xs : List ByteArray} {k : Nat} (hk : k < xs.length) (h : insP s xs = k + insP s (xs.drop k)) (hl : sl xs[k] s = true) : insP s xs = k + 1 + insP s (xs.drop (k + 1)) := by
  rw [List.drop_eq_getElem_cons hk, insP, if_pos hl] at h
  omega
theorem insP_stop {s : ByteArray} {xs : List ByteArray} {k : Nat} (hk : k < xs.length) (h : insP s xs = k + insP s (xs.drop k)) (hl : sl xs[k] s = false) : insP s xs = k := by
  rw [List.drop_eq_getElem_cons hk, insP, if_neg (by rw [hl]; decide)] at h
  omega
theorem rd_tail1 {w : World} {B ga k c j : Nat} {xs : List Value} (h : Rd w B (some ⟨ga, 0, none⟩) xs) (hl : xs.length = k) (hk : k ≤ c) :
    Rd w B (if c = j then some ⟨ga, 0, none⟩ else some ⟨ga, j, none⟩) (xs.drop j) := by
  split
  · have : xs.drop j = [] := List.drop_of_length_le (by omega)
    rw [this]
    exact Rd.nil _
  · intro i u hi
    rw [List.getElem?_drop] at hi
    obtain ⟨b, off, e, hb, hc⟩ := h (j + i) u hi
    simp only [Option.some.injEq, Addr.mk.injEq, and_true] at e
    obtain ⟨rfl, rfl⟩ := e
    exact ⟨_, j, rfl, hb, by rw [Nat.zero_add] at hc; exact hc⟩
/-- What is handed back: the names' row, old or new. -/
def RetL (base : Nat) (ys : List ByteArray) (w : World) (e : Ending) (w' : World) : Prop := ∃ g c, e = .returned (.slice (some ⟨g, 0, none⟩) ys.length c) ∧ Row w' base 9 1 (some ⟨g, 0, none⟩) ys.length c (nmC ys) ∧ Below w.heap.size w w'
set_option maxHeartbeats 4000000 in
theorem l2Insert_any (ga : Nat) (xs : List ByteArray) (s : ByteArray) (c base : Nat) (w : World) (h : Row w base 9 1 (some ⟨ga, 0, none⟩) xs.length c (nmC xs)) (hbase : base ≤ w.heap.size) (hm : xs.length ≤ 1000) :
    Calls Try.prog 101 #[.slice (some ⟨ga, 0, none⟩) xs.length c, .string s] w (RetL base (insN xs s) w) := by
  obtain ⟨i0, hi1, hi2, hi3, hi4⟩ := info_parts infoStr
  have HI := hide (And.intro hi1 (And.intro hi2 (And.intro hi3 hi4)))
  clear hi1 hi2 hi3 hi4
  have HR := hide h
  clear h
  have hkc := HR.out.cap.1
  go_enter Try.func101, Try.ntmps101
  go_wp2_with fail
  go_loopw [5] (fun i wi => ∃ k : Nat, k ≤ xs.length ∧ i = .int .i64 k ∧ insP s xs = k + insP s (xs.drop k) ∧ wi = w) (fun i _ => xs.length - (intOf i).toNat)
  case atStart => exact ⟨0, Nat.zero_le _, rfl, by simp, rfl⟩
  case round =>
    obtain ⟨k, hk, rfl, hp, rfl⟩ := hrel
    have HP := hide hp
    clear hp
    by_cases hlt : k < xs.length
    · obtain ⟨b, off, hA, _, hc⟩ := HR.out.rd k (.string xs[k]) (by simp [nmC, List.getElem?_eq_getElem hlt])
      simp only [Option.some.injEq, Addr.mk.injEq, and_true] at hA
      obtain ⟨rfl, rfl⟩ := hA
      rw [Nat.zero_add] at hc
      have HGO := hide (fun h => insP_go hlt HP.out h)
      have HSTOP := hide (fun h => insP_stop hlt HP.out h)
      have HXK := hide (show xs[k]? = some xs[k] from List.getElem?_eq_getElem hlt)
      clear HP
      generalize xs[k] = x at *
      cases hl : sl x s
      · have HI2 := hide (HSTOP.out hl)
        have hl2 : Op.bytesLess x.toList s.toList = false := hl
        clear HGO HSTOP hl
        cases he : (x.toList == s.toList)
        · have HST := hide (show insN xs s = xs.take k ++ [s] ++ xs.drop k from by
            unfold insN
            rw [HI2.out, HXK.out, if_neg]
            intro e
            have e2 := Option.some.inj e
            rw [str_eq, e2] at he
            simp at he)
          clear HXK HI2
          go_wp2_with fail
          clear hl2 he hc hlt
          have HLK := hide (show (xs.take k).length = k ∧ (xs.drop k).length = xs.length - k from ⟨by rw [List.length_take]; omega, by rw [List.length_drop]⟩)
          have HP1 := hide (fun V (hV : Below wr.heap.size wr V) => (show Rd V V.heap.size (some ⟨ga, 0, none⟩) (nmC (xs.take k)) from by
            have h := ((HR.out.prefix hk).rd.below hV).more hV.size
            rw [Nat.mul_one] at h
            simpa only [nmC, List.map_take] using h))
          have HP2 := hide (fun V (hV : Below wr.heap.size wr V) => (show Rd V V.heap.size (if c = k then some ⟨ga, 0, none⟩ else some ⟨ga, k, none⟩) (nmC (xs.drop k)) from by
            have h := rd_tail1 (j := k) ((HR.out.rd.below hV).more hV.size) (by simp [nmC]) hkc
            simpa only [nmC, List.map_drop] using h))
          have HA2 := hide (show (if c = k then some (⟨ga, 0, none⟩ : Addr) else some ⟨ga, k, none⟩) = none → c - k = 0 from fun h => by split at h <;> cases h)
          have hkn : k ≤ c := by omega
          generalize hnl : xs.length = n at *
          have HNL := hide hnl
          clear hnl
          refine Rv.start (fun _ => True) (fun _ => false) (by kernel_rfl) ?_
          have hHeld : True := trivial
          refine Rv.comp (i := 1) (v := ?_) rfl (by kernel_rfl) (by kernel_rfl) (by kernel_rfl) (fun _ _ _ h => h) (Or.inl ⟨by rfl, ?_⟩) ?_
          rotate_left 1
          focus (intro w hSw; (try dsimp only at hSw); go_simp; (try with_reducible rfl))
          try simp only [List.getElem_toArray, List.getElem_cons_succ, List.getElem_cons_zero, Act.put, List.setIfInBounds_toArray, List.set_cons_zero, List.set_cons_succ]
          refine Rv.comp (i := 2) (v := ?_) rfl (by kernel_rfl) (by kernel_rfl) (by kernel_rfl) (fun _ _ _ h => h) (Or.inl ⟨by rfl, ?_⟩) ?_
          rotate_left 1
          focus (intro w hSw; (try dsimp only at hSw); go_simp; (try with_reducible rfl))
          try simp only [List.getElem_toArray, List.getElem_cons_succ, List.getElem_cons_zero, Act.put, List.setIfInBounds_toArray, List.set_cons_zero, List.set_cons_succ]
          refine Rv.comp (i := 3) (v := ?_) rfl (by kernel_rfl) (by kernel_rfl) (by kernel_rfl) (fun _ _ _ h => h) (Or.inl ⟨by rfl, ?_⟩) ?_
          rotate_left 1
          focus (intro w hSw; (try dsimp only at hSw); go_simp; (try with_reducible rfl))
          try simp only [List.getElem_toArray, List.getElem_cons_succ, List.getElem_cons_zero, Act.put, List.setIfInBounds_toArray, List.set_cons_zero, List.set_cons_succ]
          refine Rv.comp (i := 5) (v := ?_) rfl (by kernel_rfl) (by kernel_rfl) (by kernel_rfl) (fun _ _ _ h => h) (Or.inl ⟨by rfl, ?_⟩) ?_
          rotate_left 1
          focus (intro w hSw; (try dsimp only at hSw); go_simp; (try with_reducible rfl))
          try simp only [List.getElem_toArray, List.getElem_cons_succ, List.getElem_cons_zero, Act.put, List.setIfInBounds_toArray, List.set_cons_zero, List.set_cons_succ]
          refine Rv.comp (i := 8) (v := ?_) rfl (by kernel_rfl) (by kernel_rfl) (by kernel_rfl) (fun _ _ _ h => h) (Or.inl ⟨by rfl, ?_⟩) ?_
          rotate_left 1
          focus (intro w hSw; (try dsimp only at hSw); go_simp; (try with_reducible rfl))
          try simp only [List.getElem_toArray, List.getElem_cons_succ, List.getElem_cons_zero, Act.put, List.setIfInBounds_toArray, List.set_cons_zero, List.set_cons_succ]
          refine Rv.comp (i := 9) (v := ?_) rfl (by kernel_rfl) (by kernel_rfl) (by kernel_rfl) (fun _ _ _ h => h) (Or.inl ⟨by rfl, ?_⟩) ?_
          rotate_left 1
          focus (intro w hSw; (try dsimp only at hSw); go_simp; (try with_reducible rfl))
          try simp only [List.getElem_toArray, List.getElem_cons_succ, List.getElem_cons_zero, Act.put, List.setIfInBounds_toArray, List.set_cons_zero, List.set_cons_succ]
          refine Rv.comp (i := 10) (v := ?_) rfl (by kernel_rfl) (by kernel_rfl) (by kernel_rfl) (fun _ _ _ h => h) (Or.inl ⟨by rfl, ?_⟩) ?_
          rotate_left 1
          focus (intro w hSw; (try dsimp only at hSw); go_simp; (try with_reducible rfl))
          try simp only [List.getElem_toArray, List.getElem_cons_succ, List.getElem_cons_zero, Act.put, List.setIfInBounds_toArray, List.set_cons_zero, List.set_cons_succ]
          generalize (if c = k then some (⟨ga, 0, none⟩ : Addr) else some ⟨ga, k, none⟩) = A2 at *
          refine Rv.two (i := 0) (j := 6) rfl rfl (by kernel_rfl) (fun K hK => ?p0) (fun K hK => ?p6)
          case' p0 =>
            go_simp
            refine hK.out _ _ hHeld ?_
            clear hK K
            try simp only [List.getElem_toArray, List.getElem_cons_succ, List.getElem_cons_zero, Act.put, List.setIfInBounds_toArray, List.set_cons_zero, List.set_cons_succ]
            refine Rv.two (i := 4) (j := 6) rfl rfl (by kernel_rfl) (fun K hK => ?q4) (fun K hK => ?q6)
          case' q4 =>
            refine step_app (by rfl) _ _ 64 rfl 9 i0 (.string ByteArray.empty) 1 16 Try.underlying64 HI.out.1 HI.out.2.1 HI.out.2.2.1 HI.out.2.2.2 rfl (by decide) wr.heap.size _ 0 0 [] (by rfl) (Row.empty _ _ _ _ _) (Below.size (B := wr.heap.size) (by (repeat (first | with_reducible assumption | with_reducible exact Below.refl _ _ | with_reducible apply below_al | with_reducible apply below_dr | with_reducible apply below_dn)); done)) (some ⟨ga, 0, none⟩) k c (nmC (xs.take k)) (by rfl) (HP1.out _ (by (repeat (first | with_reducible assumption | with_reducible exact Below.refl _ _ | with_reducible apply below_al | with_reducible apply below_dr | with_reducible apply below_dn)); done)) (by rw [nmC, List.length_map, HLK.out.1, Nat.mul_one]) (fun h => by cases h) (one_nm _) (by unfold maxLen; omega) (by omega) ?_
            intro A5 n5 c5 w5 hn5 o5 g5 k5
            have hn5' : n5 = k := by omega
            clear hn5
            subst hn5'
            have HA5 := hide (show Row w5 wr.heap.size 9 1 A5 n5 c5 (nmC (xs.take n5)) from by simpa using o5)
            have HWX := hide (show Below wr.heap.size wr w5 from below_tr (by (repeat (first | with_reducible assumption | with_reducible exact Below.refl _ _ | with_reducible apply below_al | with_reducible apply below_dr | with_reducible apply below_dn)); done) g5)
            clear o5 g5 k5
            refine hK.out _ _ hHeld ?_
            clear hK K
            try simp only [List.getElem_toArray, List.getElem_cons_succ, List.getElem_cons_zero, Act.put, List.setIfInBounds_toArray, List.set_cons_zero, List.set_cons_succ]
            refine Rv.one (i := 6) rfl (by kernel_rfl) (fun K hK => ?_)
            go_simp
            refine hK.out _ _ hHeld ?_
            clear hK K
            try simp only [List.getElem_toArray, List.getElem_cons_succ, List.getElem_cons_zero, Act.put, List.setIfInBounds_toArray, List.set_cons_zero, List.set_cons_succ]
            have HNC := hide (show (w5.alloc (.cells #[.string s] 9)).cell? ⟨w5.heap.size, 0, none⟩ = some (.string s) ∧ w5.heap.size < (w5.alloc (.cells #[.string s] 9)).heap.size from ⟨(Box.new w5 9 #[.string s]).cell 0, (Box.new w5 9 #[.string s]).lt⟩)
            have B6 : Below w5.heap.size w5 (w5.alloc (.cells #[.string s] 9)) := (by repeat (first | exact Below.refl _ _ | with_reducible assumption | (refine Below.drew ?_) | (refine Below.drewN ?_ _) | (refine Below.alloc ?_ (by simp; try omega) _) | (refine Below.setCell ?_ (by simp; try omega) _)))
            replace HWX := hide (HWX.out.trans (B6.mono HWX.out.size))
            replace HA5 := hide (HA5.out.call B6)
            clear B6
            generalize w5.alloc (.cells #[.string s] 9) = wX at *
            generalize w5.heap.size = N at *
          case' q6 =>
            go_simp
            refine hK.out _ _ hHeld ?_
            clear hK K
            try simp only [List.getElem_toArray, List.getElem_cons_succ, List.getElem_cons_zero, Act.put, List.setIfInBounds_toArray, List.set_cons_zero, List.set_cons_succ]
            have HNN := hide (show ((wr.alloc (.cells #[] 9)).alloc (.cells #[.string s] 9)).drew.cell? ⟨wr.heap.size + 1, 0, none⟩ = some (.string s) ∧ wr.heap.size + 1 < ((wr.alloc (.cells #[] 9)).alloc (.cells #[.string s] 9)).drew.heap.size from by
              have h := Box.new (wr.alloc (.cells #[] 9)) 9 #[.string s]
              rw [World.size_alloc] at h
              exact ⟨h.cell 0, h.lt⟩)
            refine Rv.one (i := 4) rfl (by kernel_rfl) (fun K hK => ?_)
            refine step_app (by rfl) _ _ 64 rfl 9 i0 (.string ByteArray.empty) 1 16 Try.underlying64 HI.out.1 HI.out.2.1 HI.out.2.2.1 HI.out.2.2.2 rfl (by decide) wr.heap.size _ 0 0 [] (by rfl) (Row.empty _ _ _ _ _) (Below.size (B := wr.heap.size) (by (repeat (first | with_reducible assumption | with_reducible exact Below.refl _ _ | with_reducible apply below_al | with_reducible apply below_dr | with_reducible apply below_dn)); done)) (some ⟨ga, 0, none⟩) k c (nmC (xs.take k)) (by rfl) (HP1.out _ (by (repeat (first | with_reducible assumption | with_reducible exact Below.refl _ _ | with_reducible apply below_al | with_reducible apply below_dr | with_reducible apply below_dn)); done)) (by rw [nmC, List.length_map, HLK.out.1, Nat.mul_one]) (fun h => by cases h) (one_nm _) (by unfold maxLen; omega) (by omega) ?_
            intro A5 n5 c5 wX hn5 o5 g5 k5
            have hn5' : n5 = k := by omega
            clear hn5
            subst hn5'
            have HA5 := hide (show Row wX wr.heap.size 9 1 A5 n5 c5 (nmC (xs.take n5)) from by simpa using o5)
            have HWX := hide (show Below wr.heap.size wr wX from below_tr (by (repeat (first | with_reducible assumption | with_reducible exact Below.refl _ _ | with_reducible apply below_al | with_reducible apply below_dr | with_reducible apply below_dn)); done) g5)
            have HNC := hide (show wX.cell? ⟨wr.heap.size + 1, 0, none⟩ = some (.string s) ∧ wr.heap.size + 1 < wX.heap.size from ⟨((below_tr (Below.refl _ _) g5).cell (p := ⟨wr.heap.size + 1, 0, none⟩) HNN.out.2).trans HNN.out.1, Nat.lt_of_lt_of_le HNN.out.2 g5.size⟩)
            clear o5 g5 k5 HNN
            refine hK.out _ _ hHeld ?_
            clear hK K
            try simp only [List.getElem_toArray, List.getElem_cons_succ, List.getElem_cons_zero, Act.put, List.setIfInBounds_toArray, List.set_cons_zero, List.set_cons_succ]
            generalize wr.heap.size + 1 = N at *
          case' p6 =>
            go_simp
            refine hK.out _ _ hHeld ?_
            clear hK K
            try simp only [List.getElem_toArray, List.getElem_cons_succ, List.getElem_cons_zero, Act.put, List.setIfInBounds_toArray, List.set_cons_zero, List.set_cons_succ]
            refine Rv.one (i := 0) rfl (by kernel_rfl) (fun K hK => ?_)
            go_simp
            refine hK.out _ _ hHeld ?_
            clear hK K
            try simp only [List.getElem_toArray, List.getElem_cons_succ, List.getElem_cons_zero, Act.put, List.setIfInBounds_toArray, List.set_cons_zero, List.set_cons_succ]
            have HNN := hide (show ((wr.alloc (.cells #[.string s] 9)).alloc (.cells #[] 9)).drew.cell? ⟨wr.heap.size, 0, none⟩ = some (.string s) ∧ wr.heap.size < ((wr.alloc (.cells #[.string s] 9)).alloc (.cells #[] 9)).drew.heap.size from by
              have h := (Box.new wr 9 #[.string s]).alloc (.cells #[] 9)
              exact ⟨h.cell 0, h.lt⟩)
            refine Rv.one (i := 4) rfl (by kernel_rfl) (fun K hK => ?_)
            refine step_app (by rfl) _ _ 64 rfl 9 i0 (.string ByteArray.empty) 1 16 Try.underlying64 HI.out.1 HI.out.2.1 HI.out.2.2.1 HI.out.2.2.2 rfl (by decide) wr.heap.size _ 0 0 [] (by rfl) (Row.empty _ _ _ _ _) (Below.size (B := wr.heap.size) (by (repeat (first | with_reducible assumption | with_reducible exact Below.refl _ _ | with_reducible apply below_al | with_reducible apply below_dr | with_reducible apply below_dn)); done)) (some ⟨ga, 0, none⟩) k c (nmC (xs.take k)) (by rfl) (HP1.out _ (by (repeat (first | with_reducible assumption | with_reducible exact Below.refl _ _ | with_reducible apply below_al | with_reducible apply below_dr | with_reducible apply below_dn)); done)) (by rw [nmC, List.length_map, HLK.out.1, Nat.mul_one]) (fun h => by cases h) (one_nm _) (by unfold maxLen; omega) (by omega) ?_
            intro A5 n5 c5 wX hn5 o5 g5 k5
            have hn5' : n5 = k := by omega
            clear hn5
            subst hn5'
            have HA5 := hide (show Row wX wr.heap.size 9 1 A5 n5 c5 (nmC (xs.take n5)) from by simpa using o5)
            have HWX := hide (show Below wr.heap.size wr wX from below_tr (by (repeat (first | with_reducible assumption | with_reducible exact Below.refl _ _ | with_reducible apply below_al | with_reducible apply below_dr | with_reducible apply below_dn)); done) g5)
            have HNC := hide (show wX.cell? ⟨wr.heap.size, 0, none⟩ = some (.string s) ∧ wr.heap.size < wX.heap.size from ⟨((below_tr (Below.refl _ _) g5).cell (p := ⟨wr.heap.size, 0, none⟩) HNN.out.2).trans HNN.out.1, Nat.lt_of_lt_of_le HNN.out.2 g5.size⟩)
            clear o5 g5 k5 HNN
            refine hK.out _ _ hHeld ?_
            clear hK K
            try simp only [List.getElem_toArray, List.getElem_cons_succ, List.getElem_cons_zero, Act.put, List.setIfInBounds_toArray, List.set_cons_zero, List.set_cons_succ]
            generalize hN : wr.heap.size = N at HNC ⊢
          all_goals
            refine Rv.one (i := 7) rfl (by kernel_rfl) (fun K hK => ?_)
            have hgeA := (fun q hq => (HA5.out.lt q hq).1)
            have HGA := hide hgeA
            clear hgeA
            refine step_app (by rfl) _ _ 64 rfl 9 i0 (.string ByteArray.empty) 1 16 Try.underlying64 HI.out.1 HI.out.2.1 HI.out.2.2.1 HI.out.2.2.2 rfl (by decide) wr.heap.size A5 n5 c5 (nmC (xs.take n5)) (by rfl) HA5.out HWX.out.size (some ⟨N, 0, none⟩) 1 1 [.string s] (by rfl) (B := N + 1) (fun i u hi => by
              have hi0 : i = 0 := by
                rcases Nat.eq_zero_or_pos i with h | h
                · exact h
                · rw [List.getElem?_eq_none (by simp; omega)] at hi
                  cases hi
              subst hi0
              simp only [List.getElem?_cons_zero, Option.some.injEq] at hi
              subst hi
              exact ⟨N, 0, rfl, Nat.lt_succ_self _, HNC.out.1⟩) rfl (fun h => by cases h) (one_str s) (by unfold maxLen; omega) (by omega) ?_
            intro A7 n7 c7 w7 hn7 o7 g7 k7
            have hn7' : n7 = n5 + 1 := hn7
            clear hn7
            subst hn7'
            have HW7 := hide (show Below wr.heap.size wr w7 from HWX.out.grown g7 HWX.out.size (fun q hq => HGA.out q hq))
            have HA7 := hide o7
            clear o7 g7 k7 HA5 HWX HGA HNC
            refine hK.out _ _ hHeld ?_
            clear hK K
            try simp only [List.getElem_toArray, List.getElem_cons_succ, List.getElem_cons_zero, Act.put, List.setIfInBounds_toArray, List.set_cons_zero, List.set_cons_succ]
            refine Rv.one (i := 11) rfl (by kernel_rfl) (fun K hK => ?_)
            refine step_app (by rfl) _ _ 64 rfl 9 i0 (.string ByteArray.empty) 1 16 Try.underlying64 HI.out.1 HI.out.2.1 HI.out.2.2.1 HI.out.2.2.2 rfl (by decide) wr.heap.size A7 (n5 + 1) c7 _ (by rfl) HA7.out HW7.out.size A2 (n - n5) (c - n5) (nmC (xs.drop n5)) (by rfl) (HP2.out _ HW7.out) (by rw [nmC, List.length_map, HLK.out.2, Nat.mul_one]) HA2.out (one_nm _) (by unfold maxLen; omega) (by omega) ?_
            intro A9 n9 c9 w9 hn9 o9 g9 k9
            have hn9' : n9 = n + 1 := by omega
            clear hn9
            subst hn9'
            have HA9 := hide (show Row w9 wr.heap.size 9 1 A9 (n + 1) c9 (nmC (insN xs s)) from by
              rw [HST.out]
              simpa [nmC] using o9)
            have HW9 := hide (show Below wr.heap.size wr w9 from HW7.out.grown g9 HW7.out.size (fun q hq => (HA7.out.lt q hq).1))
            clear o9 g9 k9 HA7 HW7
            refine hK.out _ _ hHeld ?_
            clear hK K
            try simp only [List.getElem_toArray, List.getElem_cons_succ, List.getElem_cons_zero, Act.put, List.setIfInBounds_toArray, List.set_cons_zero, List.set_cons_succ]
            refine Rv.comp (i := 12) (v := ?_) rfl (by kernel_rfl) (by kernel_rfl) (by kernel_rfl) (fun _ _ _ h => h) (Or.inl ⟨by rfl, ?_⟩) ?_
            rotate_left 1
            focus (intro w hSw; (try dsimp only at hSw); go_simp; (try with_reducible rfl))
            try simp only [List.getElem_toArray, List.getElem_cons_succ, List.getElem_cons_zero, Act.put, List.setIfInBounds_toArray, List.set_cons_zero, List.set_cons_succ]
            refine Rv.done (by kernel_rfl) ?_ _
            clear hHeld
            obtain ⟨g', hA', _, _, _, _⟩ := own_of HA9.out (by omega)
            subst hA'
            have hlen : (insN xs s).length = n + 1 := by
              rw [HST.out, List.length_append, List.length_append, HLK.out.1, HLK.out.2, List.length_singleton]
              omega
            have HLEN := hide hlen
            clear hlen
            go_wp2_with fail
            go_ret
            exact ⟨g', c9, by rw [HLEN.out]; rfl, by rw [HLEN.out]; exact HA9.out.down hbase, HW9.out⟩
        · have HST := hide (show insN xs s = xs from by
            unfold insN
            rw [HI2.out, HXK.out, if_pos]
            rw [str_eq, decide_eq_true_iff] at he
            rw [he])
          clear HXK HI2
          go_wp2_with fail
          go_ret
          rw [HST.out]
          exact ⟨ga, c, rfl, HR.out, Below.refl _ _⟩
      · have HN := hide (HGO.out hl)
        have hl2 : Op.bytesLess x.toList s.toList = true := hl
        clear HGO HSTOP HXK hl
        go_wp2_with fail
        refine ⟨⟨k + 1, by omega, by go_num, HN.out, by first | rfl | trivial⟩, by simp [intOf]; omega⟩
    · have hke : k = xs.length := by omega
      have HST := hide (show insN xs s = xs.take k ++ [s] ++ xs.drop k from by
        have h := HP.out
        rw [hke, List.drop_length, insP, Nat.add_zero] at h
        unfold insN
        rw [h, List.getElem?_eq_none (Nat.le_refl _), if_neg (by simp), hke])
      have hlt' : ¬ (k : Int) < xs.length := by omega
      clear HP hke
      go_wp2_with fail
      clear hlt hlt'
      have HLK := hide (show (xs.take k).length = k ∧ (xs.drop k).length = xs.length - k from ⟨by rw [List.length_take]; omega, by rw [List.length_drop]⟩)
      have HP1 := hide (fun V (hV : Below wr.heap.size wr V) => (show Rd V V.heap.size (some ⟨ga, 0, none⟩) (nmC (xs.take k)) from by
        have h := ((HR.out.prefix hk).rd.below hV).more hV.size
        rw [Nat.mul_one] at h
        simpa only [nmC, List.map_take] using h))
      have HP2 := hide (fun V (hV : Below wr.heap.size wr V) => (show Rd V V.heap.size (if c = k then some ⟨ga, 0, none⟩ else some ⟨ga, k, none⟩) (nmC (xs.drop k)) from by
        have h := rd_tail1 (j := k) ((HR.out.rd.below hV).more hV.size) (by simp [nmC]) hkc
        simpa only [nmC, List.map_drop] using h))
      have HA2 := hide (show (if c = k then some (⟨ga, 0, none⟩ : Addr) else some ⟨ga, k, none⟩) = none → c - k = 0 from fun h => by split at h <;> cases h)
      have hkn : k ≤ c := by omega
      generalize hnl : xs.length = n at *
      have HNL := hide hnl
      clear hnl
      refine Rv.start (fun _ => True) (fun _ => false) (by kernel_rfl) ?_
      have hHeld : True := trivial
      refine Rv.comp (i := 1) (v := ?_) rfl (by kernel_rfl) (by kernel_rfl) (by kernel_rfl) (fun _ _ _ h => h) (Or.inl ⟨by rfl, ?_⟩) ?_
      rotate_left 1
      focus (intro w hSw; (try dsimp only at hSw); go_simp; (try with_reducible rfl))
      try simp only [List.getElem_toArray, List.getElem_cons_succ, List.getElem_cons_zero, Act.put, List.setIfInBounds_toArray, List.set_cons_zero, List.set_cons_succ]
      refine Rv.comp (i := 2) (v := ?_) rfl (by kernel_rfl) (by kernel_rfl) (by kernel_rfl) (fun _ _ _ h => h) (Or.inl ⟨by rfl, ?_⟩) ?_
      rotate_left 1
      focus (intro w hSw; (try dsimp only at hSw); go_simp; (try with_reducible rfl))
      try simp only [List.getElem_toArray, List.getElem_cons_succ, List.getElem_cons_zero, Act.put, List.setIfInBounds_toArray, List.set_cons_zero, List.set_cons_succ]
      refine Rv.comp (i := 3) (v := ?_) rfl (by kernel_rfl) (by kernel_rfl) (by kernel_rfl) (fun _ _ _ h => h) (Or.inl ⟨by rfl, ?_⟩) ?_
      rotate_left 1
      focus (intro w hSw; (try dsimp only at hSw); go_simp; (try with_reducible rfl))
      try simp only [List.getElem_toArray, List.getElem_cons_succ, List.getElem_cons_zero, Act.put, List.setIfInBounds_toArray, List.set_cons_zero, List.set_cons_succ]
      refine Rv.comp (i := 5) (v := ?_) rfl (by kernel_rfl) (by kernel_rfl) (by kernel_rfl) (fun _ _ _ h => h) (Or.inl ⟨by rfl, ?_⟩) ?_
      rotate_left 1
      focus (intro w hSw; (try dsimp only at hSw); go_simp; (try with_reducible rfl))
      try simp only [List.getElem_toArray, List.getElem_cons_succ, List.getElem_cons_zero, Act.put, List.setIfInBounds_toArray, List.set_cons_zero, List.set_cons_succ]
      refine Rv.comp (i := 8) (v := ?_) rfl (by kernel_rfl) (by kernel_rfl) (by kernel_rfl) (fun _ _ _ h => h) (Or.inl ⟨by rfl, ?_⟩) ?_
      rotate_left 1
      focus (intro w hSw; (try dsimp only at hSw); go_simp; (try with_reducible rfl))
      try simp only [List.getElem_toArray, List.getElem_cons_succ, List.getElem_cons_zero, Act.put, List.setIfInBounds_toArray, List.set_cons_zero, List.set_cons_succ]
      refine Rv.comp (i := 9) (v := ?_) rfl (by kernel_rfl) (by kernel_rfl) (by kernel_rfl) (fun _ _ _ h => h) (Or.inl ⟨by rfl, ?_⟩) ?_
      rotate_left 1
      focus (intro w hSw; (try dsimp only at hSw); go_simp; (try with_reducible rfl))
      try simp only [List.getElem_toArray, List.getElem_cons_succ, List.getElem_cons_zero, Act.put, List.setIfInBounds_toArray, List.set_cons_zero, List.set_cons_succ]
      refine Rv.comp (i := 10) (v := ?_) rfl (by kernel_rfl) (by kernel_rfl) (by kernel_rfl) (fun _ _ _ h => h) (Or.inl ⟨by rfl, ?_⟩) ?_
      rotate_left 1
      focus (intro w hSw; (try dsimp only at hSw); go_simp; (try with_reducible rfl))
      try simp only [List.getElem_toArray, List.getElem_cons_succ, List.getElem_cons_zero, Act.put, List.setIfInBounds_toArray, List.set_cons_zero, List.set_cons_succ]
      generalize (if c = k then some (⟨ga, 0, none⟩ : Addr) else some ⟨ga, k, none⟩) = A2 at *
      refine Rv.two (i := 0) (j := 6) rfl rfl (by kernel_rfl) (fun K hK => ?s0) (fun K hK => ?s6)
      case' s0 =>
        go_simp
        refine hK.out _ _ hHeld ?_
        clear hK K
        try simp only [List.getElem_toArray, List.getElem_cons_succ, List.getElem_cons_zero, Act.put, List.setIfInBounds_toArray, List.set_cons_zero, List.set_cons_succ]
        refine Rv.two (i := 4) (j := 6) rfl rfl (by kernel_rfl) (fun K hK => ?t4) (fun K hK => ?t6)
      case' t4 =>
        refine step_app (by rfl) _ _ 64 rfl 9 i0 (.string ByteArray.empty) 1 16 Try.underlying64 HI.out.1 HI.out.2.1 HI.out.2.2.1 HI.out.2.2.2 rfl (by decide) wr.heap.size _ 0 0 [] (by rfl) (Row.empty _ _ _ _ _) (Below.size (B := wr.heap.size) (by (repeat (first | with_reducible assumption | with_reducible exact Below.refl _ _ | with_reducible apply below_al | with_reducible apply below_dr | with_reducible apply below_dn)); done)) (some ⟨ga, 0, none⟩) k c (nmC (xs.take k)) (by rfl) (HP1.out _ (by (repeat (first | with_reducible assumption | with_reducible exact Below.refl _ _ | with_reducible apply below_al | with_reducible apply below_dr | with_reducible apply below_dn)); done)) (by rw [nmC, List.length_map, HLK.out.1, Nat.mul_one]) (fun h => by cases h) (one_nm _) (by unfold maxLen; omega) (by omega) ?_
        intro A5 n5 c5 w5 hn5 o5 g5 k5
        have hn5' : n5 = k := by omega
        clear hn5
        subst hn5'
        have HA5 := hide (show Row w5 wr.heap.size 9 1 A5 n5 c5 (nmC (xs.take n5)) from by simpa using o5)
        have HWX := hide (show Below wr.heap.size wr w5 from below_tr (by (repeat (first | with_reducible assumption | with_reducible exact Below.refl _ _ | with_reducible apply below_al | with_reducible apply below_dr | with_reducible apply below_dn)); done) g5)
        clear o5 g5 k5
        refine hK.out _ _ hHeld ?_
        clear hK K
        try simp only [List.getElem_toArray, List.getElem_cons_succ, List.getElem_cons_zero, Act.put, List.setIfInBounds_toArray, List.set_cons_zero, List.set_cons_succ]
        refine Rv.one (i := 6) rfl (by kernel_rfl) (fun K hK => ?_)
        go_simp
        refine hK.out _ _ hHeld ?_
        clear hK K
        try simp only [List.getElem_toArray, List.getElem_cons_succ, List.getElem_cons_zero, Act.put, List.setIfInBounds_toArray, List.set_cons_zero, List.set_cons_succ]
        have HNC := hide (show (w5.alloc (.cells #[.string s] 9)).cell? ⟨w5.heap.size, 0, none⟩ = some (.string s) ∧ w5.heap.size < (w5.alloc (.cells #[.string s] 9)).heap.size from ⟨(Box.new w5 9 #[.string s]).cell 0, (Box.new w5 9 #[.string s]).lt⟩)
        have B6 : Below w5.heap.size w5 (w5.alloc (.cells #[.string s] 9)) := (by repeat (first | exact Below.refl _ _ | with_reducible assumption | (refine Below.drew ?_) | (refine Below.drewN ?_ _) | (refine Below.alloc ?_ (by simp; try omega) _) | (refine Below.setCell ?_ (by simp; try omega) _)))
        replace HWX := hide (HWX.out.trans (B6.mono HWX.out.size))
        replace HA5 := hide (HA5.out.call B6)
        clear B6
        generalize w5.alloc (.cells #[.string s] 9) = wX at *
        generalize w5.heap.size = N at *
      case' t6 =>
        go_simp
        refine hK.out _ _ hHeld ?_
        clear hK K
        try simp only [List.getElem_toArray, List.getElem_cons_succ, List.getElem_cons_zero, Act.put, List.setIfInBounds_toArray, List.set_cons_zero, List.set_cons_succ]
        have HNN := hide (show ((wr.alloc (.cells #[] 9)).alloc (.cells #[.string s] 9)).drew.cell? ⟨wr.heap.size + 1, 0, none⟩ = some (.string s) ∧ wr.heap.size + 1 < ((wr.alloc (.cells #[] 9)).alloc (.cells #[.string s] 9)).drew.heap.size from by
          have h := Box.new (wr.alloc (.cells #[] 9)) 9 #[.string s]
          rw [World.size_alloc] at h
          exact ⟨h.cell 0, h.lt⟩)
        refine Rv.one (i := 4) rfl (by kernel_rfl) (fun K hK => ?_)
        refine step_app (by rfl) _ _ 64 rfl 9 i0 (.string ByteArray.empty) 1 16 Try.underlying64 HI.out.1 HI.out.2.1 HI.out.2.2.1 HI.out.2.2.2 rfl (by decide) wr.heap.size _ 0 0 [] (by rfl) (Row.empty _ _ _ _ _) (Below.size (B := wr.heap.size) (by (repeat (first | with_reducible assumption | with_reducible exact Below.refl _ _ | with_reducible apply below_al | with_reducible apply below_dr | with_reducible apply below_dn)); done)) (some ⟨ga, 0, none⟩) k c (nmC (xs.take k)) (by rfl) (HP1.out _ (by (repeat (first | with_reducible assumption | with_reducible exact Below.refl _ _ | with_reducible apply below_al | with_reducible apply below_dr | with_reducible apply below_dn)); done)) (by rw [nmC, List.length_map, HLK.out.1, Nat.mul_one]) (fun h => by cases h) (one_nm _) (by unfold maxLen; omega) (by omega) ?_
        intro A5 n5 c5 wX hn5 o5 g5 k5
        have hn5' : n5 = k := by omega
        clear hn5
        subst hn5'
        have HA5 := hide (show Row wX wr.heap.size 9 1 A5 n5 c5 (nmC (xs.take n5)) from by simpa using o5)
        have HWX := hide (show Below wr.heap.size wr wX from below_tr (by (repeat (first | with_reducible assumption | with_reducible exact Below.refl _ _ | with_reducible apply below_al | with_reducible apply below_dr | with_reducible apply below_dn)); done) g5)
        have HNC := hide (show wX.cell? ⟨wr.heap.size + 1, 0, none⟩ = some (.string s) ∧ wr.heap.size + 1 < wX.heap.size from ⟨((below_tr (Below.refl _ _) g5).cell (p := ⟨wr.heap.size + 1, 0, none⟩) HNN.out.2).trans HNN.out.1, Nat.lt_of_lt_of_le HNN.out.2 g5.size⟩)
        clear o5 g5 k5 HNN
        refine hK.out _ _ hHeld ?_
        clear hK K
        try simp only [List.getElem_toArray, List.getElem_cons_succ, List.getElem_cons_zero, Act.put, List.setIfInBounds_toArray, List.set_cons_zero, List.set_cons_succ]
        generalize wr.heap.size + 1 = N at *
      case' s6 =>
        go_simp
        refine hK.out _ _ hHeld ?_
        clear hK K
        try simp only [List.getElem_toArray, List.getElem_cons_succ, List.getElem_cons_zero, Act.put, List.setIfInBounds_toArray, List.set_cons_zero, List.set_cons_succ]
        refine Rv.one (i := 0) rfl (by kernel_rfl) (fun K hK => ?_)
        go_simp
        refine hK.out _ _ hHeld ?_
        clear hK K
        try simp only [List.getElem_toArray, List.getElem_cons_succ, List.getElem_cons_zero, Act.put, List.setIfInBounds_toArray, List.set_cons_zero, List.set_cons_succ]
        have HNN := hide (show ((wr.alloc (.cells #[.string s] 9)).alloc (.cells #[] 9)).drew.cell? ⟨wr.heap.size, 0, none⟩ = some (.string s) ∧ wr.heap.size < ((wr.alloc (.cells #[.string s] 9)).alloc (.cells #[] 9)).drew.heap.size from by
          have h := (Box.new wr 9 #[.string s]).alloc (.cells #[] 9)
          exact ⟨h.cell 0, h.lt⟩)
        refine Rv.one (i := 4) rfl (by kernel_rfl) (fun K hK => ?_)
        refine step_app (by rfl) _ _ 64 rfl 9 i0 (.string ByteArray.empty) 1 16 Try.underlying64 HI.out.1 HI.out.2.1 HI.out.2.2.1 HI.out.2.2.2 rfl (by decide) wr.heap.size _ 0 0 [] (by rfl) (Row.empty _ _ _ _ _) (Below.size (B := wr.heap.size) (by (repeat (first | with_reducible assumption | with_reducible exact Below.refl _ _ | with_reducible apply below_al | with_reducible apply below_dr | with_reducible apply below_dn)); done)) (some ⟨ga, 0, none⟩) k c (nmC (xs.take k)) (by rfl) (HP1.out _ (by (repeat (first | with_reducible assumption | with_reducible exact Below.refl _ _ | with_reducible apply below_al | with_reducible apply below_dr | with_reducible apply below_dn)); done)) (by rw [nmC, List.length_map, HLK.out.1, Nat.mul_one]) (fun h => by cases h) (one_nm _) (by unfold maxLen; omega) (by omega) ?_
        intro A5 n5 c5 wX hn5 o5 g5 k5
        have hn5' : n5 = k := by omega
        clear hn5
        subst hn5'
        have HA5 := hide (show Row wX wr.heap.size 9 1 A5 n5 c5 (nmC (xs.take n5)) from by simpa using o5)
        have HWX := hide (show Below wr.heap.size wr wX from below_tr (by (repeat (first | with_reducible assumption | with_reducible exact Below.refl _ _ | with_reducible apply below_al | with_reducible apply below_dr | with_reducible apply below_dn)); done) g5)
        have HNC := hide (show wX.cell? ⟨wr.heap.size, 0, none⟩ = some (.string s) ∧ wr.heap.size < wX.heap.size from ⟨((below_tr (Below.refl _ _) g5).cell (p := ⟨wr.heap.size, 0, none⟩) HNN.out.2).trans HNN.out.1, Nat.lt_of_lt_of_le HNN.out.2 g5.size⟩)
        clear o5 g5 k5 HNN
        refine hK.out _ _ hHeld ?_
        clear hK K
        try simp only [List.getElem_toArray, List.getElem_cons_succ, List.getElem_cons_zero, Act.put, List.setIfInBounds_toArray, List.set_cons_zero, List.set_cons_succ]
        generalize hN : wr.heap.size = N at HNC ⊢
      all_goals
        refine Rv.one (i := 7) rfl (by kernel_rfl) (fun K hK => ?_)
        have hgeA := (fun q hq => (HA5.out.lt q hq).1)
        have HGA := hide hgeA
        clear hgeA
        refine step_app (by rfl) _ _ 64 rfl 9 i0 (.string ByteArray.empty) 1 16 Try.underlying64 HI.out.1 HI.out.2.1 HI.out.2.2.1 HI.out.2.2.2 rfl (by decide) wr.heap.size A5 n5 c5 (nmC (xs.take n5)) (by rfl) HA5.out HWX.out.size (some ⟨N, 0, none⟩) 1 1 [.string s] (by rfl) (B := N + 1) (fun i u hi => by
          have hi0 : i = 0 := by
            rcases Nat.eq_zero_or_pos i with h | h
            · exact h
            · rw [List.getElem?_eq_none (by simp; omega)] at hi
              cases hi
          subst hi0
          simp only [List.getElem?_cons_zero, Option.some.injEq] at hi
          subst hi
          exact ⟨N, 0, rfl, Nat.lt_succ_self _, HNC.out.1⟩) rfl (fun h => by cases h) (one_str s) (by unfold maxLen; omega) (by omega) ?_
        intro A7 n7 c7 w7 hn7 o7 g7 k7
        have hn7' : n7 = n5 + 1 := hn7
        clear hn7
        subst hn7'
        have HW7 := hide (show Below wr.heap.size wr w7 from HWX.out.grown g7 HWX.out.size (fun q hq => HGA.out q hq))
        have HA7 := hide o7
        clear o7 g7 k7 HA5 HWX HGA HNC
        refine hK.out _ _ hHeld ?_
        clear hK K
        try simp only [List.getElem_toArray, List.getElem_cons_succ, List.getElem_cons_zero, Act.put, List.setIfInBounds_toArray, List.set_cons_zero, List.set_cons_succ]
        refine Rv.one (i := 11) rfl (by kernel_rfl) (fun K hK => ?_)
        refine step_app (by rfl) _ _ 64 rfl 9 i0 (.string ByteArray.empty) 1 16 Try.underlying64 HI.out.1 HI.out.2.1 HI.out.2.2.1 HI.out.2.2.2 rfl (by decide) wr.heap.size A7 (n5 + 1) c7 _ (by rfl) HA7.out HW7.out.size A2 (n - n5) (c - n5) (nmC (xs.drop n5)) (by rfl) (HP2.out _ HW7.out) (by rw [nmC, List.length_map, HLK.out.2, Nat.mul_one]) HA2.out (one_nm _) (by unfold maxLen; omega) (by omega) ?_
        intro A9 n9 c9 w9 hn9 o9 g9 k9
        have hn9' : n9 = n + 1 := by omega
        clear hn9
        subst hn9'
        have HA9 := hide (show Row w9 wr.heap.size 9 1 A9 (n + 1) c9 (nmC (insN xs s)) from by
          rw [HST.out]
          simpa [nmC] using o9)
        have HW9 := hide (show Below wr.heap.size wr w9 from HW7.out.grown g9 HW7.out.size (fun q hq => (HA7.out.lt q hq).1))
        clear o9 g9 k9 HA7 HW7
        refine hK.out _ _ hHeld ?_
        clear hK K
        try simp only [List.getElem_toArray, List.getElem_cons_succ, List.getElem_cons_zero, Act.put, List.setIfInBounds_toArray, List.set_cons_zero, List.set_cons_succ]
        refine Rv.comp (i := 12) (v := ?_) rfl (by kernel_rfl) (by kernel_rfl) (by kernel_rfl) (fun _ _ _ h => h) (Or.inl ⟨by rfl, ?_⟩) ?_
        rotate_left 1
        focus (intro w hSw; (try dsimp only at hSw); go_simp; (try with_reducible rfl))
        try simp only [List.getElem_toArray, List.getElem_cons_succ, List.getElem_cons_zero, Act.put, List.setIfInBounds_toArray, List.set_cons_zero, List.set_cons_succ]
        refine Rv.done (by kernel_rfl) ?_ _
        clear hHeld
        obtain ⟨g', hA', _, _, _, _⟩ := own_of HA9.out (by omega)
        subst hA'
        have hlen : (insN xs s).length = n + 1 := by
          rw [HST.out, List.length_append, List.length_append, HLK.out.1, HLK.out.2, List.length_singleton]
          omega
        have HLEN := hide hlen
        clear hlen
        go_wp2_with fail
        go_ret
        exact ⟨g', c9, by rw [HLEN.out]; rfl, by rw [HLEN.out]; exact HA9.out.down hbase, HW9.out⟩
end Go.Proofs.Ytmglgjchemecjaa.CInsS
/- l2Ends: the reference's look whether a name ends in another. -/
namespace Go.Proofs.Ytmglgjchemecjaa.CEndsS
set_option maxRecDepth 200000
open Go.ChangeShapes Go.WideShapes Go.ChangeAt Go.RowKit Kit CCode CFixups CSymbols PObj BObj CGlobalOf BStore BList PLink CSorted CNames CNameTab
theorem ext_suf (o n : ByteArray) (h : n.size ≤ o.size) : decide (o.extract (o.size - n.size) o.size = n) = Lib.hasSuffix o.data.toList n.data.toList := by
  unfold Lib.hasSuffix
  rw [Bool.eq_iff_iff, decide_eq_true_iff, List.isSuffixOf_iff_suffix, List.suffix_iff_eq_drop]
  have e1 : (o.extract (o.size - n.size) o.size).data.toList = o.data.toList.drop (o.data.toList.length - n.data.toList.length) := by
    rw [ByteArray.data_extract, Array.toList_extract]
    simp only [List.extract_eq_take_drop, Array.length_toList, ByteArray.size_data]
    rw [List.take_of_length_le]
    simp
  constructor
  · intro e
    rw [← e1, e]
  · intro e
    rw [← e1] at e
    apply ByteArray.ext
    exact (Array.toList_inj.1 e).symm
theorem l2Ends_any (o n : ByteArray) (w : World) (ho : o.size ≤ 1048576) (hn : n.size ≤ 1048576) :
    Calls Try.prog 179 #[.string o, .string n] w (Pure (.bool (Lib.hasSuffix o.data.toList n.data.toList)) w) := by
  have HP := hide (show Lib.hasSuffix o.data.toList n.data.toList = true ↔ n.data.toList <:+ o.data.toList from by unfold Lib.hasSuffix; simp)
  by_cases h : n.size ≤ o.size
  · have e1 : IntKind.i64.wrap ((o.size : Int) - n.size) = (o.size : Int) - n.size := IntWalk.i64_in _ (by omega)
    have q1 : (n.size : Int) ≤ o.size := by omega
    have q2 : (0 : Int) ≤ (o.size : Int) - n.size := by omega
    have q3 : (o.size : Int) - n.size ≤ o.size := by omega
    have q4 : ((o.size : Int) - n.size).toNat = o.size - n.size := by omega
    go_enter Try.func179, Try.ntmps179
    go_wp2_with fail
    go_ret
    exact ⟨by rw [CGlobalOf.str_eq, ext_suf o n h]; rfl, rfl⟩
  · have q1 : ¬ (n.size : Int) ≤ o.size := by omega
    go_enter Try.func179, Try.ntmps179
    go_wp2_with fail
    have hv : Lib.hasSuffix o.data.toList n.data.toList = false := by
      rw [← Bool.not_eq_true, HP.out]
      intro hs
      have := hs.length_le
      simp at this
      omega
    go_ret
    exact ⟨by rw [hv]; rfl, rfl⟩
end Go.Proofs.Ytmglgjchemecjaa.CEndsS
/- NameTable: the reference's. -/
namespace Go.Proofs.Ytmglgjchemecjaa.CTableS
set_option maxRecDepth 200000
open Go.ChangeShapes Go.WideShapes Go.ChangeAt Go.RowKit Kit CCode CName CFixups CSymbols PObj BObj CGlobalOf BStore BList PSort PLink CSorted CNames CNameTab CTable PIns CInsS CEndsS
theorem below_bytes (w : World) (e : TypeId) (s : ByteArray) : Below w.heap.size w (Lib.bytesWorld w e s) :=
  ⟨rfl, rfl, rfl, by rw [Lib.bytesWorld_size]; omega, fun j hj => Lib.bytesWorld_at_old w e s j hj⟩
theorem rd_bytes (w : World) (e : TypeId) (s : ByteArray) : Rd (Lib.bytesWorld w e s) (w.heap.size + 1) (some ⟨w.heap.size, 0, none⟩) (ints .u8 (strI s)) := by
  intro i u hu
  have hi : i < s.size := by
    rcases Nat.lt_or_ge i s.size with h | h
    · exact h
    · rw [List.getElem?_eq_none (by simp [strI_len]; omega)] at hu
      cases hu
  refine ⟨_, 0, rfl, Nat.lt_succ_self _, ?_⟩
  rw [Nat.zero_add, Lib.bytesWorld_cell w e s i hi]
  have hi2 : i < s.data.toList.length := by simpa using hi
  rw [ints, List.getElem?_map, strI, List.getElem?_map, List.getElem?_eq_getElem hi2] at hu
  rw [List.getD_eq_getElem?_getD, List.getElem?_eq_getElem hi2]
  exact hu
set_option maxHeartbeats 8000000 in
theorem nameTableS_any (A : Option Addr) (xs : List ByteArray) (c base : Nat) (w : World) (h : Row w base 9 1 A xs.length c (nmC xs)) (hm : xs.length ≤ 1000) (hs : ∀ x ∈ xs, x.size ≤ maxLen) :
    Calls Try.prog 146 #[.slice A xs.length c] w (RetB (tabN xs) w) := by
  obtain ⟨i0, hi1, hi2, hi3, hi4⟩ := info_parts CNumber.info8
  have HI := hide (And.intro hi1 (And.intro hi2 (And.intro hi3 hi4)))
  clear hi1 hi2 hi3 hi4
  have HR := hide h
  have HSZ0 := hide hs
  clear h hs
  have HB := hide (show Below w.heap.size w (w.alloc (.cells #[] 9)) from (by repeat (first | exact Below.refl _ _ | with_reducible assumption | (refine Below.drew ?_) | (refine Below.drewN ?_ _) | (refine Below.alloc ?_ (by simp; try omega) _) | (refine Below.setCell ?_ (by simp; try omega) _))))
  replace HR := hide (HR.out.alloc (.cells #[] 9))
  go_enter Try.func146, Try.ntmps146
  go_wp2_with fail
  generalize w.alloc (.cells #[] 9) = w0 at *
  go_loopw [3, 4] (fun s i wi => ∃ (k g c1 : Nat) (ys : List ByteArray), k ≤ xs.length ∧ s = .slice (some ⟨g, 0, none⟩) ys.length c1 ∧ i = .int .i64 k ∧ ys = insAll (xs.take k) ∧ ys.length ≤ k ∧ (∀ x ∈ xs.take k, nameOk x = true) ∧ (k = 0 ∨ xs.length ≤ 40) ∧ Row wi w.heap.size 9 1 (some ⟨g, 0, none⟩) ys.length c1 (nmC ys) ∧ Below w.heap.size w wi ∧ Below w0.heap.size w0 wi) (fun _ i _ => xs.length - (intOf i).toNat)
  case atStart => exact ⟨0, w.heap.size, 0, [], Nat.zero_le _, rfl, rfl, rfl, Nat.le_refl _, (fun x hx => by cases hx), .inl rfl, Row.empty _ _ _ _ _, HB.out, Below.refl _ _⟩
  case round =>
    clear HB
    obtain ⟨k, g, c1, ys, hk, rfl, rfl, hys, hyl, hok, h40, hrow, hb, hb0⟩ := hrel
    have HB := hide hb
    have HRW := hide hrow
    have HYS := hide hys
    have HOK := hide hok
    have H40 := hide h40
    have HRD := hide (HR.out.call hb0).rd
    have HB0 := hide hb0
    clear hb hrow hys hok h40 hb0
    by_cases hlt : k < xs.length
    · obtain ⟨b, off, hA, hbb, hc⟩ := HRD.out k (.string xs[k]) (by simp [nmC, List.getElem?_eq_getElem hlt])
      have hsz := HSZ0.out _ (List.getElem_mem hlt)
      have HTK := hide (show xs.take (k + 1) = xs.take k ++ [xs[k]] from take_succ hlt)
      have HBAD := hide (show nameOk xs[k] = false → tabN xs = [] from fun h => by
        unfold tabN namesOk
        rw [show xs.all nameOk = false from List.all_eq_false.2 ⟨_, List.getElem_mem hlt, by rw [h]; decide⟩, Bool.and_false]
        rfl)
      have HA := hide hA
      rw [hA]
      clear hA
      generalize xs[k] = x at *
      go_wp2_with fail
      refine (nameValidS_any x hsz wr).mono ?_
      rintro e w1 ⟨rfl, rfl⟩
      cases hx : nameOk x
      · have HV := hide (HBAD.out hx)
        clear hx hc
        go_wp2_with fail
        go_ret
        rw [HV.out]
        exact ⟨_, 0, rfl, Row.empty _ _ _ _ _, by have h := HB.out; exact h.alloc h.size _⟩
      · by_cases h4 : 40 < xs.length
        · have HV := hide (show tabN xs = [] from by
            unfold tabN namesOk
            rw [show decide (xs.length ≤ 40) = false from decide_eq_false (by omega), Bool.false_and]
            rfl)
          have h41 : decide ((40 : Int) < xs.length) = true := decide_eq_true (by omega)
          clear hc hx
          go_wp2_with fail
          go_ret
          rw [HV.out]
          exact ⟨_, 0, rfl, Row.empty _ _ _ _ _, by have h := HB.out; exact h.alloc h.size _⟩
        · have h41 : decide ((40 : Int) < xs.length) = false := decide_eq_false (by omega)
          have HX := hide hx
          have HYN := hide (show insN ys x = insAll (xs.take (k + 1)) from by rw [HTK.out, insAll_snoc, HYS.out])
          have hyl2 : (insN ys x).length ≤ k + 1 := by have := insN_len ys x; omega
          have HINS := hide (l2Insert_any g ys x c1 w.heap.size wr HRW.out HB.out.size (by omega))
          clear hx
          go_wp2_with fail
          refine HINS.out.mono ?_
          rintro e w2 ⟨g2, c2, rfl, r2, b2⟩
          have HR2 := hide r2
          replace HB := hide (HB.out.trans (b2.mono HB.out.size))
          replace HB0 := hide (HB0.out.trans (b2.mono HB0.out.size))
          clear r2 b2 hc HINS
          generalize insN ys x = zs at *
          go_wp2_with fail
          refine ⟨⟨k + 1, g2, c2, zs, by omega, rfl, by go_num, HYN.out, hyl2, ?_, .inr (by omega), HR2.out, HB.out, HB0.out⟩, by simp [intOf]; omega⟩
          intro y hy
          rw [HTK.out] at hy
          rcases List.mem_append.1 hy with hy | hy
          · exact HOK.out y hy
          · rw [List.mem_singleton.1 hy]
            exact HX.out
    · have hke : k = xs.length := by omega
      subst hke
      have hx40 : xs.length ≤ 40 := by
        rcases H40.out with h | h
        · omega
        · exact h
      have HALL := hide (show ys = srtN xs from by rw [HYS.out, List.take_length, all_srt])
      have HSS := hide (show SS ys from by rw [HALL.out]; exact (srt_spec xs).1)
      have HSZ := hide (show ∀ x ∈ ys, x.size ≤ 8 from fun x hx => by
        rw [HALL.out] at hx
        have h := HOK.out x (by rw [List.take_length]; exact srt_mem hx)
        exact name_size h)
      have HV := hide (show tabN xs = tabL ys from by
        have h : namesOk xs = true := by
          have := HOK.out
          rw [List.take_length] at this
          rw [namesOk, Bool.and_eq_true]
          exact ⟨decide_eq_true hx40, List.all_eq_true.2 this⟩
        unfold tabN
        rw [h, HALL.out]
        rfl)
      clear HYS HOK H40 HALL HRD HB0 HR hlt
      go_wp2_with fail
      have b2 : Below wr.heap.size wr (wr.alloc (.cells #[.int .u8 0] 5)) := (by repeat (first | exact Below.refl _ _ | with_reducible assumption | (refine Below.drew ?_) | (refine Below.drewN ?_ _) | (refine Below.alloc ?_ (by simp; try omega) _) | (refine Below.setCell ?_ (by simp; try omega) _)))
      have HO := hide (show (wr.alloc (.cells #[.int .u8 0] 5)).ownsRow w.heap.size 5 1 (.slice (some ⟨wr.heap.size, 0, none⟩) 1 1) 1 (ints .u8 [0]) from own_base (World.ownsRow_lit (base := wr.heap.size) (e := 5) (size := 1) wr #[.int .u8 0] 1 (Nat.le_refl _) (by unfold maxLen; omega) rfl) HB.out.size)
      replace HB := hide (HB.out.trans (b2.mono HB.out.size))
      replace HRW := hide (HRW.out.call b2)
      clear b2
      generalize wr.alloc (.cells #[.int .u8 0] 5) = w2 at *
      generalize wr.heap.size = L at *
      have hyl40 : ys.length ≤ 40 := by omega
      go_loopw [5, 6] (fun s i wi => ∃ (k : Nat) (A1 : Option Addr) (c2 : Nat) (zs : List Int), k ≤ ys.length ∧ s = .slice A1 zs.length c2 ∧ i = .int .i64 k ∧ zs = 0 :: (ys.take k).flatMap (tabStep ys) ∧ zs.length ≤ 1 + 9 * k ∧ Row wi w.heap.size 5 1 A1 zs.length c2 (ints .u8 zs) ∧ Row wi w.heap.size 9 1 (some ⟨g, 0, none⟩) ys.length c1 (nmC ys) ∧ Below w.heap.size w wi) (fun _ i _ => ys.length - (intOf i).toNat)
      case atStart => exact ⟨0, _, 1, [0], Nat.zero_le _, rfl, rfl, rfl, by simp, .inr HO.out, HRW.out, HB.out⟩
      case round =>
        rename World => wk
        clear HO HRW HB
        obtain ⟨k, A1, c2, zs, hk2, rfl, rfl, hzs, hzl, hown, hrow, hb⟩ := hrel
        have HO := hide hown
        have HN := hide hrow
        have HB := hide hb
        have HZS := hide hzs
        clear hown hrow hb hzs
        by_cases hlt : k < ys.length
        · have HST := hide (show 0 :: (ys.take (k + 1)).flatMap (tabStep ys) = zs ++ tabStep ys ys[k] from by
            rw [take_succ hlt, List.flatMap_append, HZS.out]
            simp)
          have HEE := hide (ends_eq HSS.out hlt)
          obtain ⟨b, off, hA, hbb, hc⟩ := HN.out.rd k (.string ys[k]) (by simp [nmC, List.getElem?_eq_getElem hlt])
          simp only [Option.some.injEq, Addr.mk.injEq, and_true] at hA
          obtain ⟨rfl, rfl⟩ := hA
          rw [Nat.zero_add] at hc
          have HCK := hide (And.intro hbb hc)
          have hszk := HSZ.out _ (List.getElem_mem hlt)
          have HGK := hide (show ys.getD k ByteArray.empty = ys[k] from getD_get hlt)
          clear hc hbb HZS
          generalize ys[k] = x at *
          go_wp2_with fail
          go_loopw [7, 8] (fun e i wi => ∃ j : Nat, j ≤ ys.length ∧ e = .bool (endAt ys k j) ∧ i = .int .i64 j ∧ Below wk.heap.size wk wi) (fun _ i _ => ys.length - (intOf i).toNat)
          case atStart => exact ⟨0, Nat.zero_le _, rfl, rfl, Below.refl _ _⟩
          case round =>
            rename World => wj
            obtain ⟨j, hj, rfl, rfl, hbj⟩ := hrel
            have HBJ := hide hbj
            clear hbj
            by_cases hjl : j < ys.length
            · obtain ⟨b', off', hA', hbb', hc'⟩ := HN.out.rd j (.string ys[j]) (by simp [nmC, List.getElem?_eq_getElem hjl])
              simp only [Option.some.injEq, Addr.mk.injEq, and_true] at hA'
              obtain ⟨rfl, rfl⟩ := hA'
              rw [Nat.zero_add] at hc'
              have HSJ := hide (HSZ.out _ (List.getElem_mem hjl))
              have HES := hide (show endAt ys k (j + 1) = (endAt ys k j || (decide (j ≠ k) && Lib.hasSuffix ys[j].data.toList x.data.toList)) from by rw [endAt, HGK.out, getD_get hjl])
              have hcj := (HBJ.out.cell (p := ⟨g, j, none⟩) hbb').trans hc'
              have hck := (HBJ.out.cell (p := ⟨g, k, none⟩) HCK.out.1).trans HCK.out.2
              clear hc'
              generalize ys[j] = y at *
              cases he : endAt ys k j
              · rw [he] at HES
                clear he
                by_cases hjk : j = k
                · have hne : decide (j ≠ k) = false := decide_eq_false (fun h => h hjk)
                  rw [hne] at HES
                  have hne2 : ((j : Int) != (k : Int)) = false := by simp [hjk]
                  clear hjk hne
                  go_wp2_with fail
                  go_quiet (fail)
                  go_wp2_with fail
                  refine ⟨⟨j + 1, by omega, by rw [HES.out]; rfl, by go_num, by have h := HBJ.out; exact (by (repeat (first | with_reducible assumption | with_reducible exact Below.refl _ _ | with_reducible apply below_al | with_reducible apply below_dr | with_reducible apply below_dn)); done)⟩, by simp [intOf]; omega⟩
                · have hne : decide (j ≠ k) = true := decide_eq_true hjk
                  rw [hne] at HES
                  have hne2 : ((j : Int) != (k : Int)) = true := by
                    rw [bne_iff_ne]
                    intro h
                    exact hjk (by omega)
                  have h8 : y.size ≤ 1048576 := by have := HSJ.out; omega
                  have h8' : x.size ≤ 1048576 := by omega
                  clear hjk hne
                  go_wp2_with fail
                  go_quiet ((go_at_call 179; exact Pure.quiet (l2Ends_any _ _ _ h8 h8')))
                  go_wp2_with fail
                  refine ⟨⟨j + 1, by omega, by rw [HES.out]; rfl, by go_num, by have h := HBJ.out; exact (by (repeat (first | with_reducible assumption | with_reducible exact Below.refl _ _ | with_reducible apply below_al | with_reducible apply below_dr | with_reducible apply below_dn)); done)⟩, by simp [intOf]; omega⟩
              · rw [he] at HES
                clear he hcj hck
                go_wp2_with fail
                go_quiet (fail)
                go_wp2_with fail
                refine ⟨⟨j + 1, by omega, by rw [HES.out]; rfl, by go_num, by have h := HBJ.out; exact (by (repeat (first | with_reducible assumption | with_reducible exact Below.refl _ _ | with_reducible apply below_al | with_reducible apply below_dr | with_reducible apply below_dn)); done)⟩, by simp [intOf]; omega⟩
            · have hje : j = ys.length := by omega
              subst hje
              rw [HEE.out]
              have HCJ := hide ((HBJ.out.cell (p := ⟨g, k, none⟩) HCK.out.1).trans HCK.out.2)
              replace HO := hide (HO.out.call HBJ.out)
              replace HN := hide (HN.out.call HBJ.out)
              replace HB := hide (HB.out.trans (HBJ.out.mono HB.out.size))
              clear HCK HBJ HEE
              cases hh : CNameTab.endsIn ys x
              · have HTS := hide (show tabStep ys x = strI x ++ [0] from by unfold tabStep; rw [hh]; rfl)
                clear hh
                have hcv := Lib.run_convert_string_bytes (P := Try.prog) wj 9 22 5 x (u := .string) Try.underlying9 Try.underlying22 Try.underlying5
                have hck := HCJ.out
                have bb := below_bytes wj 5 x
                have HRB := hide (rd_bytes wj 5 x)
                have HO5 := hide (HO.out.call bb)
                have HN5 := hide (HN.out.call bb)
                have HB5 := hide (HB.out.trans (bb.mono HB.out.size))
                clear bb HO HN HB
                generalize hcap : grownCap wj x.size 0 5 = gc at *
                clear hcap
                go_wp2_with (at_builtin; refine wpList_app (Lib.bytesWorld wj 5 x) rfl (.tmp 66) (.tmp 71) 22 rfl 5 i0 (.int .u8 0) 1 1 Try.underlying22 HI.out.1 HI.out.2.1 HI.out.2.2.1 HI.out.2.2.2 rfl (by decide) w.heap.size A1 zs.length c2 (ints .u8 zs) rfl HO5.out HB5.out.size (some ⟨wj.heap.size, 0, none⟩) x.size gc (ints .u8 (strI x)) rfl HRB.out ?ll (fun h => by cases h) oneI ?n1 ?n2 ?_)
                case ll => simp [strI_len]
                case n1 => unfold maxLen; omega
                case n2 => omega
                intro A6 n6 c6 w6 hn6 o6 g6 k6
                have HB6 := hide (HB5.out.grown g6 HB5.out.size (fun j hj => (HO5.out.lt j hj).1))
                have HN6 := hide (HN5.out.grown g6 (fun j hj e => CMarkRows.apartT HN5.out HO5.out (by decide) j hj e))
                have HR6 := hide (show Row w6 w.heap.size 5 1 A6 (zs ++ strI x).length c6 (ints .u8 (zs ++ strI x)) from by
                  rw [List.length_append, strI_len, ← hn6, show ints .u8 (zs ++ strI x) = ints .u8 zs ++ ints .u8 (strI x) from by simp [ints]]
                  exact o6)
                have hn6' : n6 = (zs ++ strI x).length := by rw [hn6, List.length_append, strI_len]
                have hl6 : (zs ++ strI x).length ≤ 1 + 9 * k + 8 := by rw [← hn6', hn6]; omega
                subst hn6'
                clear hn6 o6 g6 k6 HO5 HN5 HB5 HRB hck hcv
                generalize hq : zs ++ strI x = qs at *
                have HQ := hide hq
                clear hq
                go_wp2_with (at_builtin; refine wpList_app (w6.alloc (.cells #[.int .u8 0] 5)) rfl (.tmp 72) (.tmp 73) 22 rfl 5 i0 (.int .u8 0) 1 1 Try.underlying22 HI.out.1 HI.out.2.1 HI.out.2.2.1 HI.out.2.2.2 rfl (by decide) w.heap.size A6 qs.length c6 (ints .u8 qs) rfl (HR6.out.alloc _) ?hb (some ⟨w6.heap.size, 0, none⟩) 1 1 [.int .u8 0] rfl (rd_lit w6 #[.int .u8 0] 5 _ rfl) rfl (fun h => by cases h) ?o1 ?n1 ?n2 ?_)
                case hb => have h := (HB6.out.alloc HB6.out.size (.cells #[.int .u8 0] 5)).size; simpa using h
                case o1 => exact oneI1
                case n1 => unfold maxLen; omega
                case n2 => omega
                intro A7 n7 c7 w7 hn o7 g7 k7
                have HB7 := hide ((HB6.out.alloc HB6.out.size (.cells #[.int .u8 0] 5)).grown g7 (HB6.out.alloc HB6.out.size (.cells #[.int .u8 0] 5)).size (fun j hj => (HR6.out.lt j hj).1))
                have HN7 := hide ((HN6.out.alloc (.cells #[.int .u8 0] 5)).grown g7 (fun j hj e => CMarkRows.apartT (HN6.out.alloc (.cells #[.int .u8 0] 5)) (HR6.out.alloc (.cells #[.int .u8 0] 5)) (by decide) j hj e))
                have HR7 := hide (show Row w7 w.heap.size 5 1 A7 (qs ++ [0]).length c7 (ints .u8 (qs ++ [0])) from by
                  rw [List.length_append, show ([0] : List Int).length = 1 from rfl, ← hn]
                  simpa [ints] using o7)
                have hn' : n7 = (qs ++ [0]).length := by rw [hn, List.length_append]; rfl
                have hl7 : (qs ++ [0]).length ≤ 1 + 9 * (k + 1) := by rw [← hn', hn]; omega
                subst hn'
                clear hn o7 g7 k7
                have HYS := hide (show qs ++ [0] = 0 :: (ys.take (k + 1)).flatMap (tabStep ys) from by rw [HST.out, HTS.out, ← List.append_assoc, HQ.out])
                go_wp2_with fail
                refine ⟨⟨k + 1, A7, c7, qs ++ [0], by omega, by first | rfl | rw [List.length_append], by go_num, HYS.out, hl7, HR7.out, HN7.out, HB7.out⟩, by simp [intOf]; omega⟩
              · have HTS := hide (show tabStep ys x = [] from by unfold tabStep; rw [hh]; rfl)
                clear hh HCJ
                go_wp2_with fail
                refine ⟨⟨k + 1, A1, c2, zs, by omega, rfl, by go_num, by rw [HST.out, HTS.out, List.append_nil], by omega, HO.out, HN.out, HB.out⟩, by simp [intOf]; omega⟩
        · have hke : k = ys.length := by omega
          subst hke
          have HF := hide (show tabN xs = zs from by
            rw [HV.out, HZS.out, List.take_length]
            rfl)
          go_wp2_with fail
          go_ret
          rw [HF.out]
          exact ⟨A1, c2, rfl, HO.out, HB.out⟩
end Go.Proofs.Ytmglgjchemecjaa.CTableS
/- l6Names: all names of an object; the reference's. -/
namespace Go.Proofs.Ytmglgjchemecjaa.CNamesS
set_option maxRecDepth 200000
open Go.ChangeShapes Go.WideShapes Go.ChangeAt Go.RowKit Kit CCode CName CFixups CSymbols PObj BObj CGlobalOf CObjValid BStore BList PLink CSorted CNames CNameTab CTable CTableOf
set_option maxHeartbeats 4000000 in
theorem l6Names_any (o : OV) (w : World) (hr : RdO w w.heap.size o) (h8 : o.ps.length ≤ 8) (h12 : o.ys.length ≤ 12) :
    Calls Try.prog 147 #[.agg #[.slice o.A o.ps.length o.c, .slice o.Y o.ys.length o.yc]] w (RetN (namesD o.d) w) := by
  obtain ⟨i0, hi1, hi2, hi3, hi4⟩ := info_parts infoStr
  have HI := hide (And.intro hi1 (And.intro hi2 (And.intro hi3 hi4)))
  clear hi1 hi2 hi3 hi4
  have HR := hide hr
  have HX := hide ((Box.new w 26 #[.slice o.A o.ps.length o.c, .slice o.Y o.ys.length o.yc]).alloc (.cells #[] 9))
  have HB := hide (show Below w.heap.size w ((w.alloc (.cells #[.slice o.A o.ps.length o.c, .slice o.Y o.ys.length o.yc] 26)).alloc (.cells #[] 9)) from (by repeat (first | exact Below.refl _ _ | with_reducible assumption | (refine Below.drew ?_) | (refine Below.drewN ?_ _) | (refine Below.alloc ?_ (by simp; try omega) _) | (refine Below.setCell ?_ (by simp; try omega) _))))
  clear hr
  have x0 := HX.out.cell 0
  simp only [List.getElem?_toArray, List.getElem?_cons_zero, List.getElem?_cons_succ] at x0
  have hxl := HX.out.lt
  go_enter Try.func147, Try.ntmps147
  go_wp2_with fail
  clear x0 hxl
  generalize (w.alloc (.cells #[.slice o.A o.ps.length o.c, .slice o.Y o.ys.length o.yc] 26)).alloc (.cells #[] 9) = w0 at *
  generalize hnn : namesD o.d = nn at *
  have HNN := hide hnn
  clear hnn
  go_loopw [3, 4] (fun s i wi => ∃ (k : Nat) (A1 : Option Addr) (c1 : Nat) (xs : List ByteArray), k ≤ o.ps.length ∧ s = .slice A1 xs.length c1 ∧ i = .int .i64 k ∧ xs = (o.ps.take k).map (·.nm) ∧ xs.length = k ∧ Row wi w.heap.size 9 1 A1 xs.length c1 (nmC xs) ∧ Box wi w.heap.size 26 #[.slice o.A o.ps.length o.c, .slice o.Y o.ys.length o.yc] ∧ Below w.heap.size w wi) (fun _ i _ => o.ps.length - (intOf i).toNat)
  case atStart => exact ⟨0, _, 0, [], Nat.zero_le _, rfl, rfl, rfl, rfl, Row.empty _ _ _ _ _, HX.out, HB.out⟩
  case round =>
    clear HX HB
    obtain ⟨k, A1, c1, xs, hk, rfl, rfl, hxs, hxl, hrow, hx, hb⟩ := hrel
    have HB := hide hb
    have HX := hide hx
    have HRW := hide hrow
    have HXL := hide hxl
    have hxk : xs.length ≤ 8 := by omega
    have HXS0 := hide hxs
    clear hx hrow hxl hxs
    have x0 := HX.out.cell 0
    simp only [List.getElem?_toArray, List.getElem?_cons_zero, List.getElem?_cons_succ] at x0
    have hxl := HX.out.lt
    by_cases hlt : k < o.ps.length
    · obtain ⟨b, off, hA, hbb, hc⟩ := (HR.out.1.1.below hb).row secC_len (by decide) hlt
      have hc0 := hc 0 _ rfl
      simp only [Nat.add_zero] at hc0
      have HXS := hide (show (o.ps.take (k + 1)).map (·.nm) = xs ++ [o.ps[k].nm] from by rw [take_succ hlt, List.map_append, HXS0.out]; rfl)
      have HA := hide hA
      clear hb hc
      rw [hA] at x0
      rw [hA]
      clear hA
      generalize (o.ps[k]).nm = nm at *
      have B1 : Below wr.heap.size wr (wr.alloc (.cells #[.string nm] 9)) := (by repeat (first | exact Below.refl _ _ | with_reducible assumption | (refine Below.drew ?_) | (refine Below.drewN ?_ _) | (refine Below.alloc ?_ (by simp; try omega) _) | (refine Below.setCell ?_ (by simp; try omega) _)))
      have HRW1 := hide (HRW.out.call B1)
      have HX1 := hide (HX.out.call B1)
      have HB1 := hide (HB.out.trans (B1.mono HB.out.size))
      clear B1
      go_wp2_with (at_builtin; refine wpList_app (wr.alloc (.cells #[.string nm] 9)) rfl (.tmp 14) (.tmp 21) 64 rfl 9 i0 (.string ByteArray.empty) 1 16 Try.underlying64 HI.out.1 HI.out.2.1 HI.out.2.2.1 HI.out.2.2.2 rfl (by decide) w.heap.size A1 xs.length c1 (nmC xs) rfl HRW1.out HB1.out.size (some ⟨wr.heap.size, 0, none⟩) 1 1 [.string nm] rfl (rd_lit wr #[.string nm] 9 _ rfl) rfl (fun h => by cases h) (one_str nm) ?n1 ?n2 ?_)
      case n1 => unfold maxLen; omega
      case n2 => omega
      intro A3 n3 c3 w3 hn o3 g3 k3
      have HB3 := hide (HB1.out.grown g3 HB1.out.size (fun j hj => (HRW1.out.lt j hj).1))
      have HX3 := hide (HX1.out.grown g3 (HRW1.out.box HX1.out (by decide)))
      have HR3 := hide (show Row w3 w.heap.size 9 1 A3 (xs ++ [nm]).length c3 (nmC (xs ++ [nm])) from by
        rw [List.length_append, ← strs_snoc, show ([nm] : List ByteArray).length = 1 from rfl, ← hn]
        exact o3)
      have hn' : n3 = (xs ++ [nm]).length := by rw [hn, List.length_append]; rfl
      have hl3 : (xs ++ [nm]).length = k + 1 := by rw [← hn', hn, HXL.out]
      subst hn'
      clear hn o3 g3 k3 HRW1 HX1 HB1 x0 hxl
      have HL3 := hide hl3
      clear hl3
      go_wp2_with fail
      refine ⟨⟨k + 1, A3, c3, xs ++ [nm], by omega, by first | rfl | rw [List.length_append], by go_num, HXS.out.symm, HL3.out, HR3.out, by rw [← HA.out]; exact HX3.out, HB3.out⟩, by simp [intOf]; omega⟩
    · have hke : k = o.ps.length := by omega
      have HXS := hide (show xs = o.ps.map (·.nm) from by rw [HXS0.out, hke, List.take_length])
      clear hb HXS0
      have hxy := HX.out.cell 1
      simp only [List.getElem?_toArray, List.getElem?_cons_zero, List.getElem?_cons_succ] at hxy
      clear hke
      go_wp2_with fail
      clear x0 hxl hxy
      go_loopw [3, 5] (fun s i wi => ∃ (k : Nat) (A1 : Option Addr) (c1 : Nat) (zs : List ByteArray), k ≤ o.ys.length ∧ s = .slice A1 zs.length c1 ∧ i = .int .i64 k ∧ zs = xs ++ (o.ys.take k).map (·.1) ∧ zs.length ≤ 8 + k ∧ Row wi w.heap.size 9 1 A1 zs.length c1 (nmC zs) ∧ Box wi w.heap.size 26 #[.slice o.A o.ps.length o.c, .slice o.Y o.ys.length o.yc] ∧ Below w.heap.size w wi) (fun _ i _ => o.ys.length - (intOf i).toNat)
      case atStart => exact ⟨0, A1, c1, xs, Nat.zero_le _, rfl, rfl, by simp, by omega, HRW.out, HX.out, HB.out⟩
      case round =>
        rename World => wj
        clear HX HB HRW HXL
        obtain ⟨j, A4, c4, zs, hj, rfl, rfl, hzs, hzl, hrow, hx, hb⟩ := hrel
        have HB := hide hb
        have HX := hide hx
        have HRW := hide hrow
        have HZS := hide hzs
        clear hx hrow hzs
        have x1 := HX.out.cell 1
        simp only [List.getElem?_toArray, List.getElem?_cons_zero, List.getElem?_cons_succ] at x1
        have hxl := HX.out.lt
        by_cases hlt2 : j < o.ys.length
        · obtain ⟨b, off, hA, hbb, hc⟩ := (HR.out.2.below hb).row symbolC_len (by decide) hlt2
          have hc0 := hc 0 _ rfl
          simp only [Nat.add_zero] at hc0
          have HXS2 := hide (show xs ++ (o.ys.take (j + 1)).map (·.1) = zs ++ [o.ys[j].1] from by rw [take_succ hlt2, List.map_append, ← List.append_assoc, ← HZS.out]; rfl)
          have HA := hide hA
          clear hb hc
          rw [hA] at x1
          rw [hA]
          clear hA
          generalize (o.ys[j]).1 = nm at *
          have B1 : Below wj.heap.size wj (wj.alloc (.cells #[.string nm] 9)) := (by repeat (first | exact Below.refl _ _ | with_reducible assumption | (refine Below.drew ?_) | (refine Below.drewN ?_ _) | (refine Below.alloc ?_ (by simp; try omega) _) | (refine Below.setCell ?_ (by simp; try omega) _)))
          have HRW1 := hide (HRW.out.call B1)
          have HX1 := hide (HX.out.call B1)
          have HB1 := hide (HB.out.trans (B1.mono HB.out.size))
          clear B1
          go_wp2_with (at_builtin; refine wpList_app (wj.alloc (.cells #[.string nm] 9)) rfl (.tmp 30) (.tmp 37) 64 rfl 9 i0 (.string ByteArray.empty) 1 16 Try.underlying64 HI.out.1 HI.out.2.1 HI.out.2.2.1 HI.out.2.2.2 rfl (by decide) w.heap.size A4 zs.length c4 (nmC zs) rfl HRW1.out HB1.out.size (some ⟨wj.heap.size, 0, none⟩) 1 1 [.string nm] rfl (rd_lit wj #[.string nm] 9 _ rfl) rfl (fun h => by cases h) (one_str nm) ?m1 ?m2 ?_)
          case m1 => unfold maxLen; omega
          case m2 => omega
          intro A3 n3 c3 w3 hn o3 g3 k3
          have HB3 := hide (HB1.out.grown g3 HB1.out.size (fun j hj => (HRW1.out.lt j hj).1))
          have HX3 := hide (HX1.out.grown g3 (HRW1.out.box HX1.out (by decide)))
          have HR3 := hide (show Row w3 w.heap.size 9 1 A3 (zs ++ [nm]).length c3 (nmC (zs ++ [nm])) from by
            rw [List.length_append, ← strs_snoc, show ([nm] : List ByteArray).length = 1 from rfl, ← hn]
            exact o3)
          have hn' : n3 = (zs ++ [nm]).length := by rw [hn, List.length_append]; rfl
          have hl3 : (zs ++ [nm]).length ≤ 8 + (j + 1) := by rw [← hn', hn]; omega
          subst hn'
          clear hn o3 g3 k3 HRW1 HX1 HB1 x1 hxl
          have HL3 := hide hl3
          clear hl3
          go_wp2_with fail
          refine ⟨⟨j + 1, A3, c3, zs ++ [nm], by omega, by first | rfl | rw [List.length_append], by go_num, HXS2.out.symm, HL3.out, HR3.out, by rw [← HA.out]; exact HX3.out, HB3.out⟩, by simp [intOf]; omega⟩
        · have hje : j = o.ys.length := by omega
          have HF := hide (show nn = zs from by
            rw [← HNN.out, HZS.out, HXS.out, hje, List.take_length]
            simp [namesD, OV.d, SV.d])
          clear hb hje
          go_wp2_with fail
          go_ret
          rw [HF.out]
          exact ⟨A4, c4, rfl, HRW.out, HB.out⟩
end Go.Proofs.Ytmglgjchemecjaa.CNamesS
