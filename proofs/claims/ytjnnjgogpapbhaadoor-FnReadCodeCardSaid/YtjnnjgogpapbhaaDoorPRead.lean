/- Which texts are those of instructions; plain. -/
import Derived.Test.YtjnnjgogpapbhaaDoorBWords
import Derived.Lib.AtoiAllCases
namespace Go.Proofs.YtjnnjgogpapbhaaDoor.PRead
set_option maxRecDepth 200000
open Go.ChangeShapes Go.WideShapes Go.ChangeAt Go.RowKit CCode CNumTxt BWords
/-- The text l is the one of instruction d with number b. -/
def Is (l : List UInt8) (d : Nat) (b : Int) : Prop := codeOk d b = true ∧ codeL d b = l
theorem codeOk_iff {d : Nat} {b : Int} : codeOk d b = true ↔ d ≤ 7 ∧ 0 ≤ b ∧ b ≤ 65535 ∧ (b = 0 ∨ hasArgB d = true) := by
  simp only [codeOk, hasArgB, decide_eq_true_eq]
  omega
theorem codeL_arg {d : Nat} {b : Int} (h : codeOk d b = true) (ha : hasArgB d = true) : codeL d b = wordL d ++ [32] ++ Lib.itoa b := by
  rw [codeL, h, ha]; rfl
theorem codeL_no {d : Nat} {b : Int} (h : codeOk d b = true) (ha : hasArgB d = false) : codeL d b = wordL d := by
  rw [codeL, h, ha]; rfl
theorem codeL_bad {d b : Int} (h : codeOk d b = false) : codeL d b = [] := by
  rw [codeL, h]; rfl
theorem word_pos {d : Nat} (h : d ≤ 7) : 0 < (wordL d).length := by
  match d, h with
  | 0, _ | 1, _ | 2, _ | 3, _ | 4, _ | 5, _ | 6, _ | 7, _ => decide
theorem word_no32 (d : Nat) : (32 : UInt8) ∉ wordL d := by
  match d with
  | 0 | 1 | 2 | 3 | 4 | 5 | 6 | 7 => decide
  | d + 8 => simp [wordL, words]
theorem word_inj {d e : Nat} (hd : d ≤ 7) (he : e ≤ 7) (h : wordL d = wordL e) : d = e := by
  have key : ∀ i : Fin 8, ∀ j : Fin 8, wordL i.1 = wordL j.1 → i = j := by decide
  have := key ⟨d, by omega⟩ ⟨e, by omega⟩ h
  exact congrArg Fin.val this
/-- What a row of digits spells. -/
def dfold (acc : Int) : List UInt8 → Int
  | [] => acc
  | c :: r => dfold (10 * acc + c.toNat - 48) r
theorem dfold_snoc (acc : Int) (l : List UInt8) (c : UInt8) : dfold acc (l ++ [c]) = 10 * dfold acc l + c.toNat - 48 := by
  induction l generalizing acc with
  | nil => rfl
  | cons x l ih => exact ih _
theorem dig_toNat (v : Nat) : (dch v).toNat = 48 + v % 10 := by
  unfold dch
  rw [UInt8.toNat_ofNat']
  omega
theorem dfold_dec (u : Nat) (r : List UInt8) : dfold 0 (Lib.decDigits u ++ r) = dfold u r := by
  induction u using Nat.strongRecOn generalizing r with
  | ind u ih =>
    rw [dec_pre]
    unfold dpre
    by_cases h : u < 10
    · rw [if_pos h]
      show dfold (10 * 0 + (dch u).toNat - 48) r = _
      rw [dig_toNat]
      congr 1
      omega
    · rw [if_neg h, List.append_assoc, ih (u / 10) (by omega)]
      show dfold (10 * ((u / 10 : Nat) : Int) + (dch u).toNat - 48) r = _
      rw [dig_toNat]
      congr 1
      omega
theorem parse_dec (u : Nat) (hu : u ≤ 1000000) (r : List UInt8) : Lib.parseUint10 0 (Lib.decDigits u ++ r) = Lib.parseUint10 u r := by
  induction u using Nat.strongRecOn generalizing r with
  | ind u ih =>
    rw [dec_pre]
    unfold dpre
    by_cases h : u < 10
    · rw [if_pos h]
      show Lib.parseUint10 0 (dch u :: r) = _
      rw [Lib.parseUint10, dig_toNat, if_pos (by omega), if_neg (by omega), if_neg (by omega)]
      congr 1
      omega
    · rw [if_neg h, List.append_assoc, ih (u / 10) (by omega) (by omega)]
      show Lib.parseUint10 (u / 10) (dch u :: r) = _
      rw [Lib.parseUint10, dig_toNat, if_pos (by omega), if_neg (by omega), if_neg (by omega)]
      congr 1
      omega
theorem dec_ne (u : Nat) : Lib.decDigits u ≠ [] := by
  rw [dec_pre]
  simp
theorem dec_digit (u : Nat) : ∀ c ∈ Lib.decDigits u, 48 ≤ c.toNat ∧ c.toNat ≤ 57 := by
  induction u using Nat.strongRecOn with
  | ind u ih =>
    intro c hc
    rw [dec_pre] at hc
    rcases List.mem_append.1 hc with hc | hc
    · unfold dpre at hc
      split at hc
      · cases hc
      · exact ih (u / 10) (by omega) c hc
    · simp only [List.mem_singleton] at hc
      subst hc
      rw [dig_toNat]
      omega
theorem itoa_nat (u : Nat) : Lib.itoa (u : Int) = Lib.decDigits u := by
  unfold Lib.itoa
  rw [if_neg (by omega)]
  simp
theorem atoi_itoa {b : Int} (h0 : 0 ≤ b) (h1 : b ≤ 65535) : Lib.atoiAll (Lib.itoa b) = .ok b := by
  obtain ⟨u, rfl⟩ := Int.eq_ofNat_of_zero_le h0
  rw [itoa_nat]
  have hp : Lib.parseMag (Lib.decDigits u) = .ok u := by
    unfold Lib.parseMag
    rw [if_neg (dec_ne u)]
    have := parse_dec u (by omega) []
    rw [List.append_nil] at this
    rw [this]
    rfl
  have hd := dec_digit u
  cases hl : Lib.decDigits u with
  | nil => exact absurd hl (dec_ne u)
  | cons c r =>
    rw [hl] at hp hd
    have hc := hd c (by simp)
    rw [Lib.atoiAll_plain c r (by omega) (by omega), hp]
    unfold Lib.signless
    simp only
    rw [if_neg (by omega)]
theorem dfold_itoa {b : Int} (h0 : 0 ≤ b) : dfold 0 (Lib.itoa b) = b := by
  obtain ⟨u, rfl⟩ := Int.eq_ofNat_of_zero_le h0
  rw [itoa_nat]
  have := dfold_dec u []
  rw [List.append_nil] at this
  exact this
theorem itoa_len {b : Int} (h0 : 0 ≤ b) (h1 : b ≤ 65535) : 0 < (Lib.itoa b).length ∧ (Lib.itoa b).length ≤ 5 := by
  obtain ⟨u, rfl⟩ := Int.eq_ofNat_of_zero_le h0
  rw [itoa_nat, Lib.decDigits_length]
  refine ⟨Lib.nDigits_pos u, ?_⟩
  rw [Lib.nDigits]
  split
  · omega
  rw [Lib.nDigits]
  split
  · omega
  rw [Lib.nDigits]
  split
  · omega
  rw [Lib.nDigits]
  split
  · omega
  rw [Lib.nDigits_small (by omega)]
  decide
/-- The number that the program tries. -/
def atN (l : List UInt8) : Int := match Lib.atoiAll l with
  | .ok v => v
  | .range => Lib.atoiSat l
  | _ => 0
def numI (l : List UInt8) (d : Nat) : Int := if hasArgB d = true ∧ (wordL d).length < l.length then atN (l.drop ((wordL d).length + 1)) else 0
/-- The number that the reference tries. -/
def numS (l : List UInt8) (d : Nat) : Int := if hasArgB d = true ∧ (wordL d).length < l.length ∧ l.length < (wordL d).length + 7 ∧ l.take (wordL d).length = wordL d then dfold 0 (l.drop ((wordL d).length + 1)) else 0
theorem is_arg {l : List UInt8} {d : Nat} {b : Int} (h : Is l d b) (ha : hasArgB d = true) : l = wordL d ++ [32] ++ Lib.itoa b ∧ 0 ≤ b ∧ b ≤ 65535 := by
  have hk := codeOk_iff.1 h.1
  refine ⟨?_, hk.2.1, hk.2.2.1⟩
  rw [← codeL_arg h.1 ha]
  exact h.2.symm
theorem is_no {l : List UInt8} {d : Nat} {b : Int} (h : Is l d b) (ha : hasArgB d = false) : l = wordL d ∧ b = 0 := by
  have hk := codeOk_iff.1 h.1
  refine ⟨?_, ?_⟩
  · rw [← codeL_no h.1 ha]
    exact h.2.symm
  · rcases hk.2.2.2 with h' | h'
    · exact h'
    · rw [ha] at h'
      cases h'
theorem drop_arg (d : Nat) (x : List UInt8) : (wordL d ++ [32] ++ x).drop ((wordL d).length + 1) = x := by
  rw [show (wordL d).length + 1 = (wordL d ++ [32]).length by simp, List.drop_left]
theorem is_numI {l : List UInt8} {d : Nat} {b : Int} (h : Is l d b) : numI l d = b := by
  unfold numI
  cases ha : hasArgB d
  · obtain ⟨rfl, rfl⟩ := is_no h ha
    rw [if_neg (by simp)]
  · obtain ⟨rfl, h0, h1⟩ := is_arg h ha
    rw [if_pos ⟨rfl, by simp⟩, drop_arg, atN, atoi_itoa h0 h1]
theorem is_numS {l : List UInt8} {d : Nat} {b : Int} (h : Is l d b) : numS l d = b := by
  unfold numS
  cases ha : hasArgB d
  · obtain ⟨rfl, rfl⟩ := is_no h ha
    rw [if_neg (by simp)]
  · obtain ⟨rfl, h0, h1⟩ := is_arg h ha
    have hl := itoa_len h0 h1
    rw [if_pos ⟨rfl, by simp, by simp; omega, by rw [List.append_assoc, List.take_left]⟩, drop_arg, dfold_itoa h0]
theorem is_ne {l : List UInt8} {d : Nat} {b : Int} (h : Is l d b) : l ≠ [] := by
  intro hl
  have hw := word_pos (codeOk_iff.1 h.1).1
  cases ha : hasArgB d
  · rw [← (is_no h ha).1, hl] at hw
    cases hw
  · have := (is_arg h ha).1
    rw [hl] at this
    simp at this
/-- A text is the one of one instruction only. -/
theorem is_fst {l : List UInt8} {d : Nat} {b : Int} (h : Is l d b) : l.takeWhile (fun c => c != 32) = wordL d := by
  have hw : ∀ c ∈ wordL d, (c != 32) = true := fun c hc => bne_iff_ne.2 (fun e => word_no32 d (e ▸ hc))
  cases ha : hasArgB d
  · rw [(is_no h ha).1]
    have := List.takeWhile_append_of_pos (p := fun c => c != (32 : UInt8)) (l₁ := wordL d) (l₂ := []) hw
    simpa using this
  · rw [(is_arg h ha).1, List.append_assoc, List.takeWhile_append_of_pos hw]
    simp
theorem is_unique {l : List UInt8} {d e : Nat} {b c : Int} (h : Is l d b) (h' : Is l e c) : d = e ∧ b = c := by
  obtain rfl : d = e := word_inj (codeOk_iff.1 h.1).1 (codeOk_iff.1 h'.1).1 ((is_fst h).symm.trans (is_fst h'))
  exact ⟨rfl, (is_numI h).symm.trans (is_numI h')⟩
/-- No text of an instruction ends in a space. -/
theorem is_no_space {l : List UInt8} {d : Nat} {b : Int} : ¬ Is (l ++ [32]) d b := by
  intro h
  cases ha : hasArgB d
  · have h1 := (is_no h ha).1
    exact word_no32 d (by rw [← h1]; simp)
  · obtain ⟨h1, h0, hb⟩ := is_arg h ha
    obtain ⟨u, rfl⟩ := Int.eq_ofNat_of_zero_le h0
    have h2 := congrArg List.getLast? h1
    rw [itoa_nat] at h2
    rw [dec_pre, ← List.append_assoc] at h2
    rw [List.getLast?_append, List.getLast?_append] at h2
    simp only [List.getLast?_singleton, Option.some_or, Option.some.injEq] at h2
    have h3 := congrArg UInt8.toNat h2
    rw [dig_toNat] at h3
    have : (32 : UInt8).toNat = 32 := rfl
    omega
/-- The program's test. -/
theorem testI {l : List UInt8} {d : Nat} (hd : d ≤ 7) (h : l ≠ []) (ht : codeL d (numI l d) = l) : Is l d (numI l d) := by
  cases hk : codeOk d (numI l d)
  · rw [codeL_bad hk] at ht
    exact absurd ht.symm h
  · exact ⟨hk, ht⟩
theorem testI_no {l : List UInt8} {d : Nat} (h : l = [] ∨ codeL d (numI l d) ≠ l) (b : Int) : ¬ Is l d b := by
  intro hi
  rcases h with h | h
  · exact is_ne hi h
  · rw [is_numI hi] at h
    exact h hi.2
theorem testS_no {l : List UInt8} {d : Nat} (h : codeOk d (numS l d) = false ∨ codeL d (numS l d) ≠ l) (b : Int) : ¬ Is l d b := by
  intro hi
  rcases h with h | h
  · rw [is_numS hi, hi.1] at h
    cases h
  · rw [is_numS hi] at h
    exact h hi.2
/-- How ReadCode ends. -/
def ReadE (l : List UInt8) (e : Ending) : Prop :=
  (∃ (d : Nat) (b : Int), e = .returned (.tuple #[.agg #[.int .i64 d, .int .i64 b], .bool true]) ∧ Is l d b) ∨
  (e = .returned (.tuple #[.agg #[.int .i64 0, .int .i64 0], .bool false]) ∧ ∀ d b, ¬ Is l d b)
theorem readE_none {l : List UInt8} (h : ∀ d, d < 8 → ∀ b, ¬ Is l d b) : ∀ d b, ¬ Is l d b := by
  intro d b hi
  have := (codeOk_iff.1 hi.1).1
  exact h d (by omega) b hi
end Go.Proofs.YtjnnjgogpapbhaaDoor.PRead
