/- Plain mathematics of numbers in groups of seven bits: no program here. -/
namespace Go.Proofs.Ytndnmbhhfiacaaa.PVar
set_option maxRecDepth 200000
def varN (n : Nat) : List Int := if 127 < n then ((n % 128 + 128 : Nat) : Int) :: varN (n / 128) else [(n : Int)]
termination_by n
decreasing_by omega
def dec : List Int → Nat
  | [] => 0
  | x :: r => x.toNat % 128 + 128 * dec r
theorem dec_snoc (p : List Int) (x : Int) : dec (p ++ [x]) = dec p + 128 ^ p.length * (x.toNat % 128) := by
  induction p with
  | nil => simp [dec]
  | cons y r ih =>
    simp only [List.cons_append, dec, ih, List.length_cons, Nat.pow_succ]
    rw [Nat.mul_add, Nat.add_assoc, Nat.mul_comm (128 ^ r.length) 128, Nat.mul_assoc]
theorem dec_lt (p : List Int) : dec p < 128 ^ p.length := by
  induction p with
  | nil => simp [dec]
  | cons y r ih =>
    simp only [dec, List.length_cons, Nat.pow_succ]
    omega
theorem varN_pos {n : Nat} (h : 127 < n) : varN n = ((n % 128 + 128 : Nat) : Int) :: varN (n / 128) := by rw [varN, if_pos h]
theorem varN_one {n : Nat} (h : n ≤ 127) : varN n = [(n : Int)] := by rw [varN, if_neg (by omega)]
/-- The bytes of the number that bytes stand for are these bytes, but where the last one of several is 0. -/
theorem varN_dec : ∀ (p : List Int) (x : Int), (∀ z ∈ p, 128 ≤ z ∧ z ≤ 255) → 0 ≤ x → x ≤ 127 → (x ≠ 0 ∨ p = []) → varN (dec (p ++ [x])) = p ++ [x]
  | [], x, _, h0, h1, _ => by
    have e : dec ([] ++ [x]) = x.toNat := by simp [dec]; omega
    rw [e, varN_one (by omega)]
    simp; omega
  | y :: r, x, hp, h0, h1, hx => by
    have hx' : x ≠ 0 := hx.resolve_right (by simp)
    have hy := hp y (by simp)
    have ih := varN_dec r x (fun z hz => hp z (by simp [hz])) h0 h1 (.inl hx')
    have hpos : 0 < dec (r ++ [x]) := by
      rw [dec_snoc]
      have : 0 < 128 ^ r.length := Nat.pow_pos (by omega)
      have : 0 < 128 ^ r.length * (x.toNat % 128) := Nat.mul_pos this (by omega)
      omega
    show varN (y.toNat % 128 + 128 * dec (r ++ [x])) = y :: (r ++ [x])
    rw [varN_pos (by omega)]
    have e1 : (y.toNat % 128 + 128 * dec (r ++ [x])) / 128 = dec (r ++ [x]) := by omega
    have e2 : (((y.toNat % 128 + 128 * dec (r ++ [x])) % 128 + 128 : Nat) : Int) = y := by omega
    rw [e1, e2, ih]
theorem varN_dec_ne : ∀ (p : List Int), (∀ z ∈ p, 128 ≤ z ∧ z ≤ 255) → p ≠ [] → varN (dec (p ++ [0])) ≠ p ++ [0]
  | [], _, h => absurd rfl h
  | [y], hp, _ => by
    have hy := hp y (by simp)
    have e : dec ([y] ++ [0]) = y.toNat % 128 := by simp [dec]
    rw [e, varN_one (by omega)]
    simp
  | y :: y' :: r, hp, _ => by
    have hy := hp y (by simp)
    have ih := varN_dec_ne (y' :: r) (fun z hz => hp z (by simp at hz ⊢; exact .inr hz)) (by simp)
    show varN (y.toNat % 128 + 128 * dec ((y' :: r) ++ [0])) ≠ y :: ((y' :: r) ++ [0])
    by_cases h : 127 < y.toNat % 128 + 128 * dec ((y' :: r) ++ [0])
    · rw [varN_pos h]
      have e1 : (y.toNat % 128 + 128 * dec ((y' :: r) ++ [0])) / 128 = dec ((y' :: r) ++ [0]) := by omega
      rw [e1]
      intro e
      injection e with _ e
      exact ih e
    · rw [varN_one (by omega)]
      intro e
      injection e with _ e
      simp at e
theorem putVar_test (p : List Int) (x : Int) (hp : ∀ z ∈ p, 128 ≤ z ∧ z ≤ 255) (h0 : 0 ≤ x) (h1 : x ≤ 127) : (varN (dec (p ++ [x])) = p ++ [x]) ↔ ¬ (x = 0 ∧ 0 < p.length) := by
  constructor
  · rintro h ⟨rfl, hl⟩
    exact varN_dec_ne p hp (by intro e; subst e; simp at hl) h
  · intro h
    refine varN_dec p x hp h0 h1 ?_
    by_cases hx : x = 0
    · right
      cases p with
      | nil => rfl
      | cons y r => exact absurd ⟨hx, by simp⟩ h
    · exact .inl hx
/-- The number that stands from the head of a list on, and how many bytes it has. -/
def gvF (k n : Nat) : List Int → Option (Nat × Nat)
  | [] => none
  | x :: r => if 4 ≤ k then none else if x < 128 then (if x = 0 ∧ 0 < k then none else some (n + 128 ^ k * (x.toNat % 128), k + 1)) else gvF (k + 1) (n + 128 ^ k * (x.toNat % 128)) r
def getV (b : List Int) (at_ : Int) : Int × Int :=
  if 0 ≤ at_ ∧ at_ < b.length then (match gvF 0 0 (b.drop at_.toNat) with
    | some (n, j) => ((n : Int), at_ + j)
    | none => (-1, at_)) else (-1, at_)
theorem gv_step {zs : List Int} {a k : Nat} (hl : a + k < zs.length) :
    (zs.drop a).take (k + 1) = (zs.drop a).take k ++ [zs[a + k]] ∧ dec ((zs.drop a).take (k + 1)) = dec ((zs.drop a).take k) + 128 ^ k * (zs[a + k].toNat % 128) ∧
      dec ((zs.drop a).take k) < 128 ^ k ∧ (zs.drop a).drop k = zs[a + k] :: (zs.drop a).drop (k + 1) ∧ ((zs.drop a).take k).length = k := by
  have hlen : ((zs.drop a).take k).length = k := by rw [List.length_take, List.length_drop]; omega
  have ht : (zs.drop a).take (k + 1) = (zs.drop a).take k ++ [zs[a + k]] := by
    rw [List.take_succ_eq_append_getElem (by rw [List.length_drop]; omega)]
    simp
  have hdl := dec_lt ((zs.drop a).take k)
  rw [hlen] at hdl
  refine ⟨ht, by rw [ht, dec_snoc, hlen], hdl, ?_, hlen⟩
  rw [List.drop_drop, List.drop_eq_getElem_cons hl, List.drop_drop]
  rfl
theorem gv_go {k n : Nat} {x : Int} {r : List Int} (hk : k < 4) (hx : ¬ x < 128) : gvF k n (x :: r) = gvF (k + 1) (n + 128 ^ k * (x.toNat % 128)) r := by
  rw [gvF, if_neg (by omega), if_neg hx]
theorem gv_hit {k n : Nat} {x : Int} {r : List Int} (hk : k < 4) (hx : x < 128) : gvF k n (x :: r) = if x = 0 ∧ 0 < k then none else some (n + 128 ^ k * (x.toNat % 128), k + 1) := by
  rw [gvF, if_neg (by omega), if_pos hx]
theorem gv_end {k n : Nat} {r : List Int} (h : 4 ≤ k ∨ r = []) : gvF k n r = none := by
  cases r with
  | nil => rfl
  | cons x r => rw [gvF, if_pos (h.resolve_right (by simp))]
end Go.Proofs.Ytndnmbhhfiacaaa.PVar
