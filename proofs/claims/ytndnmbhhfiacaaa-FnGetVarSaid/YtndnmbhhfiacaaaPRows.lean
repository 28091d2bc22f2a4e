/- Plain mathematics of numbers in groups of seven bits and of the bytes of rows: what is put can be read, and what is read was put. No program is walked here. -/
import Derived.Test.YtndnmbhhfiacaaaCPutVar
import Derived.Test.YtndnmbhhfiacaaaCZig
namespace Go.Proofs.Ytndnmbhhfiacaaa.PRows
set_option maxRecDepth 200000
open Go.ChangeShapes Go.WideShapes Go.ChangeAt Go.RowKit Kit CCode PVar CPutVar CZig
theorem varN_len4 (n : Nat) (h : n ≤ 268435455) : (varN n).length ≤ 4 := by
  rw [varN]
  split
  · rw [varN]
    split
    · rw [varN]
      split
      · rw [varN_one (by omega)]
        simp
      · simp
    · simp
  · simp
theorem varN_pos0 (n : Nat) : 0 < (varN n).length := by
  rw [varN]
  split <;> simp
theorem var_len4 (n : Int) : (var n).length ≤ 4 := by
  unfold var
  by_cases h : 0 ≤ n ∧ n ≤ 268435455
  · rw [if_pos (inB_t h)]
    exact varN_len4 _ (by omega)
  · rw [inB_f h]
    simp
theorem var_nat {n : Nat} (h : n ≤ 268435455) : var (n : Int) = varN n := by rw [var, if_pos (inB_t (by omega))]; rfl
theorem gvF_some : ∀ (r pre : List Int) (k n m j : Nat), (∀ z ∈ pre, 128 ≤ z ∧ z ≤ 255) → pre.length = k → n = dec pre → InR 0 255 r → gvF k n r = some (m, j) →
    varN m = (pre ++ r).take j ∧ k < j ∧ j ≤ (pre ++ r).length ∧ j ≤ 4 ∧ m ≤ 268435455
  | [], pre, k, n, m, j, _, _, _, _, h => by simp [gvF] at h
  | x :: r, pre, k, n, m, j, hp, hk, hn, hr, h => by
    have hx := hr x (by simp)
    by_cases h4 : 4 ≤ k
    · rw [gvF, if_pos h4] at h; cases h
    by_cases hx8 : x < 128
    · rw [gv_hit (by omega) hx8] at h
      by_cases hz : x = 0 ∧ 0 < k
      · rw [if_pos hz] at h; cases h
      · rw [if_neg hz] at h
        simp only [Option.some.injEq, Prod.mk.injEq] at h
        obtain ⟨rfl, rfl⟩ := h
        have e : n + 128 ^ k * (x.toNat % 128) = dec (pre ++ [x]) := by rw [dec_snoc, hk, hn]
        have hv : varN (dec (pre ++ [x])) = pre ++ [x] := (putVar_test pre x hp (by omega) (by omega)).2 (by rw [hk]; exact hz)
        have hd := dec_lt (pre ++ [x])
        have hpl : (pre ++ [x]).length = k + 1 := by simp [hk]
        have hpw : 128 ^ (k + 1) ≤ 128 ^ 4 := Nat.pow_le_pow_right (by omega) (by omega)
        rw [hpl] at hd
        refine ⟨?_, by omega, by simp [hk], by omega, by rw [e]; omega⟩
        rw [e, hv, show pre ++ x :: r = (pre ++ [x]) ++ r by simp, List.take_left' hpl]
    · rw [gv_go (by omega) hx8] at h
      have ih := gvF_some r (pre ++ [x]) (k + 1) (n + 128 ^ k * (x.toNat % 128)) m j (by
        intro z hz
        rcases List.mem_append.1 hz with hz | hz
        · exact hp z hz
        · simp at hz; omega) (by simp [hk]) (by rw [dec_snoc, hk, hn]) (fun z hz => hr z (by simp [hz])) h
      rw [List.append_assoc] at ih
      exact ⟨ih.1, by omega, ih.2.2.1, ih.2.2.2⟩
theorem getV_yes {zs : List Int} {a : Nat} (hz : InR 0 255 zs) (h : 0 ≤ (getV zs a).1) : ∃ j n : Nat, a + j ≤ zs.length ∧ 0 < j ∧ j ≤ 4 ∧ getV zs a = ((n : Int), ((a + j : Nat) : Int)) ∧ varN n = (zs.drop a).take j ∧ n ≤ 268435455 := by
  unfold getV at h ⊢
  by_cases hr : 0 ≤ (a : Int) ∧ (a : Int) < zs.length
  · rw [if_pos hr] at h ⊢
    rw [Int.toNat_natCast] at h ⊢
    cases hg : gvF 0 0 (zs.drop a) with
    | none => rw [hg] at h; simp at h
    | some q =>
      obtain ⟨n, j⟩ := q
      obtain ⟨h1, h2, h3, h4, h5⟩ := gvF_some (zs.drop a) [] 0 0 n j (by simp) rfl rfl (fun x hx => hz x (List.mem_of_mem_drop hx)) hg
      simp only [List.nil_append, List.length_drop] at h1 h3
      exact ⟨j, n, by omega, by omega, h4, by simp, h1, h5⟩
  · rw [if_neg hr] at h; simp at h
theorem getV_no {zs : List Int} {a : Int} (h : (getV zs a).1 < 0) : getV zs a = (-1, a) := by
  unfold getV at h ⊢
  split at h
  · rename_i hr
    rw [if_pos hr]
    cases hg : gvF 0 0 (zs.drop a.toNat) with
    | none => rfl
    | some q => rw [hg] at h; simp at h; omega
  · rename_i hr
    rw [if_neg hr]
theorem gvF_varN (n : Nat) : ∀ (k acc : Nat) (r : List Int), n < 128 ^ (4 - k) → k < 4 → (0 < n ∨ k = 0) → gvF k acc (varN n ++ r) = some (acc + 128 ^ k * n, k + (varN n).length) := by
  induction n using Nat.strongRecOn with
  | _ n ih =>
    intro k acc r hn hk h0
    by_cases h : 127 < n
    · rw [varN_pos h, List.cons_append, gv_go hk (by omega)]
      have hk3 : k ≠ 3 := by rintro rfl; simp at hn; omega
      have hk4 : 4 - k = (4 - (k + 1)) + 1 := by omega
      rw [ih (n / 128) (by omega) (k + 1) _ r (by rw [hk4, Nat.pow_succ] at hn; omega) (by omega) (.inl (by omega))]
      have e1 : (((n % 128 + 128 : Nat) : Int).toNat % 128) = n % 128 := by omega
      have e2 : 128 ^ k * n = 128 ^ k * (n % 128) + 128 ^ (k + 1) * (n / 128) := by
        rw [Nat.pow_succ, Nat.mul_assoc, ← Nat.mul_add]
        congr 1
        omega
      rw [e1]
      simp only [List.length_cons, Option.some.injEq, Prod.mk.injEq]
      constructor
      · rw [e2]; omega
      · omega
    · rw [varN_one (by omega), List.cons_append, gv_hit hk (by omega), if_neg (by omega)]
      have e1 : ((n : Nat) : Int).toNat % 128 = n := by omega
      rw [e1]
      simp
theorem getV_put {pre : List Int} {n : Nat} {r : List Int} (hn : n ≤ 268435455) : getV (pre ++ (varN n ++ r)) (pre.length : Nat) = ((n : Int), ((pre.length + (varN n).length : Nat) : Int)) := by
  have hp := varN_pos0 n
  unfold getV
  rw [if_pos (by simp; omega), Int.toNat_natCast, List.drop_left, gvF_varN n 0 0 r (by omega) (by omega) (.inr rfl)]
  simp

abbrev RD := Int × Int
def prow (p z : RD) : List Int := var (z.1 - p.1) ++ var (zig (z.2 - p.2))
def prs : RD → List RD → List Int
  | _, [] => []
  | p, z :: r => prow p z ++ prs z r
theorem prow_bd (p z : RD) : (prow p z).length ≤ 8 ∧ InR 0 255 (prow p z) := by
  have h1 := var_len4 (z.1 - p.1)
  have h2 := var_len4 (zig (z.2 - p.2))
  refine ⟨by unfold prow; rw [List.length_append]; omega, fun x hx => ?_⟩
  rcases List.mem_append.1 hx with hx | hx
  · exact (var_bd _).2 x hx
  · exact (var_bd _).2 x hx
theorem prs_bd : ∀ (p : RD) (r : List RD), (prs p r).length ≤ 8 * r.length ∧ InR 0 255 (prs p r)
  | _, [] => ⟨Nat.le_refl _, fun x hx => by simp [prs] at hx⟩
  | p, z :: r => by
    obtain ⟨h1, h2⟩ := prow_bd p z
    obtain ⟨h3, h4⟩ := prs_bd z r
    refine ⟨by simp only [prs, List.length_append, List.length_cons]; omega, fun x hx => ?_⟩
    rcases List.mem_append.1 hx with hx | hx
    · exact h2 x hx
    · exact h4 x hx
/-- The rows that bytes stand for, from a place on. -/
def parse (zs : List Int) : Nat → Int → RD → Option (List RD)
  | 0, _, _ => none
  | f + 1, at_, p =>
    if at_ < zs.length then
      if (getV zs at_).1 < 0 ∨ (getV zs (getV zs at_).2).1 < 0 ∨ inB (getV zs (getV zs at_).2).1 0 268435454 = false then none
      else (parse zs f (getV zs (getV zs at_).2).2 (p.1 + (getV zs at_).1, p.2 + unzig (getV zs (getV zs at_).2).1)).map fun r => (p.1 + (getV zs at_).1, p.2 + unzig (getV zs (getV zs at_).2).1) :: r
    else some []
theorem parse_end {zs : List Int} {f : Nat} {a : Int} {p : RD} (h : (zs.length : Int) ≤ a) : parse zs (f + 1) a p = some [] := by rw [parse, if_neg (by omega)]
theorem parse_no {zs : List Int} {f : Nat} {a : Int} {p : RD} (h : a < zs.length) (hb : (getV zs a).1 < 0 ∨ (getV zs (getV zs a).2).1 < 0 ∨ inB (getV zs (getV zs a).2).1 0 268435454 = false) : parse zs (f + 1) a p = none := by
  rw [parse, if_pos h, if_pos hb]
theorem parse_go {zs : List Int} {f : Nat} {a mid nx n m : Int} {p : RD} (h : a < zs.length) (h1 : getV zs a = (n, mid)) (h2 : getV zs mid = (m, nx)) (hn : 0 ≤ n) (hm : 0 ≤ m) (hb : inB m 0 268435454 = true) :
    parse zs (f + 1) a p = (parse zs f nx (p.1 + n, p.2 + unzig m)).map fun r => (p.1 + n, p.2 + unzig m) :: r := by
  rw [parse, if_pos h, h1]
  dsimp only
  rw [h2]
  dsimp only
  rw [if_neg (by rintro (h | h | h) <;> first | omega | (rw [hb] at h; cases h))]
theorem parse_put : ∀ (f : Nat) (zs : List Int) (a : Nat) (p : RD) (r : List RD), InR 0 255 zs → a ≤ zs.length → parse zs f a p = some r → prs p r = zs.drop a ∧ 2 * r.length ≤ zs.length - a
  | 0, _, _, _, _, _, _, h => by simp [parse] at h
  | f + 1, zs, a, p, r, hz, ha, h => by
    by_cases hl : (a : Int) < zs.length
    · by_cases hb : (getV zs a).1 < 0 ∨ (getV zs (getV zs a).2).1 < 0 ∨ inB (getV zs (getV zs a).2).1 0 268435454 = false
      · rw [parse_no hl hb] at h; cases h
      · obtain ⟨j, n, hj, hj0, hj4, e1, hv, hn⟩ := getV_yes (a := a) hz (by omega)
        rw [e1] at hb
        dsimp only at hb
        obtain ⟨j', m, hj', hj0', hj4', e2, hv', hm⟩ := getV_yes (a := a + j) hz (by omega)
        rw [e2] at hb
        dsimp only at hb
        have hi : inB (m : Int) 0 268435454 = true := by
          cases hx : inB (m : Int) 0 268435454
          · exact absurd (.inr (.inr hx)) hb
          · rfl
        have hmb : (m : Int) ≤ 268435454 := by simp only [inB, decide_eq_true_eq] at hi; omega
        rw [parse_go hl e1 e2 (by omega) (by omega) hi] at h
        cases hp : parse zs f ((a + j + j' : Nat) : Int) (p.1 + (n : Int), p.2 + unzig (m : Int)) with
        | none => rw [hp] at h; cases h
        | some r' =>
          rw [hp] at h
          simp only [Option.map_some, Option.some.injEq] at h
          subst h
          obtain ⟨ih, ihl⟩ := parse_put f zs (a + j + j') _ r' hz (by omega) hp
          refine ⟨?_, by simp only [List.length_cons]; omega⟩
          show prow p _ ++ prs _ r' = _
          rw [ih]
          unfold prow
          dsimp only
          rw [show p.1 + (n : Int) - p.1 = n by omega, show p.2 + unzig (m : Int) - p.2 = unzig m by omega, zig_unzig (by omega), var_nat hn, var_nat hm, hv, hv']
          have d1 : (zs.drop a) = (zs.drop a).take j ++ zs.drop (a + j) := by rw [← List.drop_drop, List.take_append_drop]
          have d2 : (zs.drop (a + j)) = (zs.drop (a + j)).take j' ++ zs.drop (a + j + j') := by rw [← List.drop_drop (i := j') (j := a + j), List.take_append_drop]
          rw [List.append_assoc, ← d2, ← d1]
    · rw [parse_end (by omega)] at h
      simp only [Option.some.injEq] at h
      subst h
      rw [List.drop_eq_nil_of_le (by omega)]
      exact ⟨rfl, by simp⟩
end Go.Proofs.Ytndnmbhhfiacaaa.PRows
