/- Plain laws of reading rows: what stands when some rows have been read. -/
import Derived.Test.YtndnmbhhfiacaaaCPutRows
namespace Go.Proofs.Ytndnmbhhfiacaaa.PGetRows
set_option maxRecDepth 200000
open Go.ChangeShapes Go.WideShapes Go.ChangeAt Go.RowKit Kit CCode CRows CRowsValid PVar CPutVar CZig PRows CPutRows
def gOpt (zs : List Int) : Option (List RD) := match parse zs (zs.length + 1) 0 (0, 0) with
  | some r => if rowsOk r then some r else none
  | none => none
def growsOf (zs : List Int) : List RD × Bool := match gOpt zs with
  | some r => (r, true)
  | none => ([], false)
theorem grows_none {zs : List Int} (h : gOpt zs = none) : (growsOf zs).1 = [] ∧ (growsOf zs).2 = false := by unfold growsOf; rw [h]; exact ⟨rfl, rfl⟩
theorem grows_some {zs : List Int} {r : List RD} (h : gOpt zs = some r) : (growsOf zs).1 = r ∧ (growsOf zs).2 = true := by unfold growsOf; rw [h]; exact ⟨rfl, rfl⟩
theorem getRows_len (zs : List Int) : (growsOf zs).1.length ≤ 12 := by
  cases h : gOpt zs with
  | none => rw [(grows_none h).1]; simp
  | some r =>
    rw [(grows_some h).1]
    unfold gOpt at h
    split at h
    · split at h
      · rename_i hr
        injection h with h
        subst h
        exact rowsOk_len hr
      · cases h
    · cases h
/-- Some rows have been read: what is left tells the rest. -/
def Rel (zs : List Int) (a : Nat) (pre : List RD) (p : RD) : Prop :=
  a ≤ zs.length ∧ 2 * pre.length ≤ a ∧ 0 ≤ p.1 ∧ p.1 ≤ 268435455 * (pre.length : Int) ∧ -(134217727 * (pre.length : Int)) ≤ p.2 ∧ p.2 ≤ 134217727 * (pre.length : Int) ∧
    ∃ f, zs.length - a < f ∧ parse zs (zs.length + 1) 0 (0, 0) = (parse zs f a p).map (pre ++ ·)
theorem rel_start (zs : List Int) : Rel zs 0 [] (0, 0) := by
  refine ⟨Nat.zero_le _, by simp, by simp, by simp, by simp, by simp, zs.length + 1, by omega, ?_⟩
  show _ = (parse zs (zs.length + 1) 0 (0, 0)).map _
  cases parse zs (zs.length + 1) 0 (0, 0) <;> simp
theorem rel_end {zs : List Int} {a : Nat} {pre : List RD} {p : RD} (h : Rel zs a pre p) (ha : ¬ a < zs.length) : parse zs (zs.length + 1) 0 (0, 0) = some pre := by
  obtain ⟨_, _, _, _, _, _, f, hf, e⟩ := h
  obtain ⟨f', rfl⟩ : ∃ f', f = f' + 1 := ⟨f - 1, by omega⟩
  rw [e, parse_end (by omega)]
  simp
theorem gOpt_end {zs : List Int} {a : Nat} {pre : List RD} {p : RD} (h : Rel zs a pre p) (ha : ¬ a < zs.length) : gOpt zs = if rowsOk pre then some pre else none := by
  unfold gOpt
  rw [rel_end h ha]
theorem prows_end {zs : List Int} {a : Nat} {pre : List RD} {p : RD} (hz : InR 0 255 zs) (h : Rel zs a pre p) (ha : ¬ a < zs.length) (hv : rowsOk pre = true) : prows pre = zs := by
  have := parse_put (zs.length + 1) zs 0 (0, 0) pre hz (Nat.zero_le _) (rel_end h ha)
  rw [prows, if_pos hv, this.1]
  rfl
theorem gOpt_no {zs : List Int} {a : Nat} {pre : List RD} {p : RD} (h : Rel zs a pre p) (ha : a < zs.length) (hb : (getV zs a).1 < 0 ∨ (getV zs (getV zs a).2).1 < 0 ∨ inB (getV zs (getV zs a).2).1 0 268435454 = false) : gOpt zs = none := by
  obtain ⟨_, _, _, _, _, _, f, hf, e⟩ := h
  obtain ⟨f', rfl⟩ : ∃ f', f = f' + 1 := ⟨f - 1, by omega⟩
  unfold gOpt
  rw [e, parse_no (by omega) hb]
  rfl
theorem gOpt_many {zs : List Int} {a : Nat} {pre : List RD} {p : RD} (h : Rel zs a pre p) (ha : a < zs.length) (hp : pre.length = 12) : gOpt zs = none := by
  obtain ⟨_, _, _, _, _, _, f, hf, e⟩ := h
  obtain ⟨f', rfl⟩ : ∃ f', f = f' + 1 := ⟨f - 1, by omega⟩
  have key : ∀ r, parse zs (f' + 1) a p = some r → 0 < r.length := by
    intro r hr
    rw [parse, if_pos (by omega)] at hr
    split at hr
    · cases hr
    · cases hq : parse zs f' (getV zs (getV zs a).2).2 (p.1 + (getV zs a).1, p.2 + unzig (getV zs (getV zs a).2).1) with
      | none => rw [hq] at hr; cases hr
      | some r' =>
        rw [hq] at hr
        simp only [Option.map_some, Option.some.injEq] at hr
        subst hr
        simp
  unfold gOpt
  rw [e]
  cases hq : parse zs (f' + 1) a p with
  | none => rfl
  | some r =>
    have hl := key r hq
    show (if rowsOk (pre ++ r) = true then some (pre ++ r) else none) = none
    rw [if_neg]
    intro hv
    have := rowsOk_len hv
    rw [List.length_append] at this
    omega
theorem rel_cases {zs : List Int} {a : Nat} {pre : List RD} {p : RD} (hz : InR 0 255 zs) (h : Rel zs a pre p) (ha : a < zs.length) :
    (getV zs a = (-1, (a : Int)) ∧ gOpt zs = none) ∨
    (∃ n mid : Nat, getV zs a = ((n : Int), (mid : Int)) ∧ getV zs mid = (-1, (mid : Int)) ∧ n ≤ 268435455 ∧ mid ≤ zs.length ∧ gOpt zs = none) ∨
    (∃ n mid m nx : Nat, getV zs a = ((n : Int), (mid : Int)) ∧ getV zs mid = ((m : Int), (nx : Int)) ∧ n ≤ 268435455 ∧ mid ≤ zs.length ∧ m ≤ 268435455 ∧ inB (m : Int) 0 268435454 = false ∧ gOpt zs = none) ∨
    (∃ n mid m nx : Nat, getV zs a = ((n : Int), (mid : Int)) ∧ getV zs mid = ((m : Int), (nx : Int)) ∧ n ≤ 268435455 ∧ mid ≤ zs.length ∧ m ≤ 268435454 ∧ inB (m : Int) 0 268435454 = true ∧ a < nx ∧ nx ≤ zs.length ∧ Rel zs nx (pre ++ [(p.1 + (n : Int), p.2 + unzig (m : Int))]) (p.1 + (n : Int), p.2 + unzig (m : Int))) := by
  by_cases h1 : (getV zs a).1 < 0
  · exact .inl ⟨getV_no h1, gOpt_no h ha (.inl h1)⟩
  right
  obtain ⟨j, n, hj, hj0, hj4, e1, _, hn⟩ := getV_yes (a := a) hz (by omega)
  by_cases h2 : (getV zs ((a + j : Nat) : Int)).1 < 0
  · exact .inl ⟨n, a + j, e1, getV_no h2, hn, by omega, gOpt_no h ha (.inr (.inl (by rw [e1]; exact h2)))⟩
  right
  obtain ⟨j', m, hj', hj0', hj4', e2, _, hm⟩ := getV_yes (a := a + j) hz (by omega)
  cases hi : inB (m : Int) 0 268435454
  · exact .inl ⟨n, a + j, m, a + j + j', e1, e2, hn, by omega, hm, hi, gOpt_no h ha (.inr (.inr (by rw [e1]; dsimp only; rw [e2]; exact hi)))⟩
  · right
    have hmb : (m : Int) ≤ 268435454 := by simp only [inB, decide_eq_true_eq] at hi; omega
    have hu := unzig_bd (m : Int)
    obtain ⟨_, hl2, p0, p1, p2, p3, f, hf, e⟩ := h
    obtain ⟨f', rfl⟩ : ∃ f', f = f' + 1 := ⟨f - 1, by omega⟩
    refine ⟨n, a + j, m, a + j + j', e1, e2, hn, by omega, by omega, hi, by omega, by omega, by omega, by simp; omega, by dsimp only; omega, by simp; omega, by simp; omega, by simp; omega, f', by omega, ?_⟩
    rw [e, parse_go (by omega) e1 e2 (by omega) (by omega) hi]
    cases parse zs f' ((a + j + j' : Nat) : Int) (p.1 + (n : Int), p.2 + unzig (m : Int)) <;> simp
end Go.Proofs.Ytndnmbhhfiacaaa.PGetRows
