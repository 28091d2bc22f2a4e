/- Plain laws of rows and their bytes: bytes of rows are read back; no shorter bytes are read. -/
import Derived.Test.YtndnmbhhfiacaaaPGetRows
namespace Go.Proofs.Ytndnmbhhfiacaaa.PBack
set_option maxRecDepth 200000
open Go.ChangeShapes Go.WideShapes Go.ChangeAt Go.RowKit Kit CCode CRows CRowsValid PVar CPutVar CZig PRows CPutRows PGetRows
/-- Each row is near enough to the one before. -/
def Good : RD → List RD → Prop
  | _, [] => True
  | p, z :: r => (0 ≤ z.1 - p.1 ∧ z.1 - p.1 ≤ 268435455) ∧ (-134217727 ≤ z.2 - p.2 ∧ z.2 - p.2 ≤ 134217727) ∧ Good z r
theorem prow_form {p z : RD} (h1 : 0 ≤ z.1 - p.1 ∧ z.1 - p.1 ≤ 268435455) (h2 : -134217727 ≤ z.2 - p.2 ∧ z.2 - p.2 ≤ 134217727) :
    ∃ n m : Nat, n ≤ 268435455 ∧ m ≤ 268435454 ∧ (n : Int) = z.1 - p.1 ∧ unzig (m : Int) = z.2 - p.2 ∧ inB (m : Int) 0 268435454 = true ∧ prow p z = varN n ++ varN m := by
  obtain ⟨n, hn⟩ := Int.eq_ofNat_of_zero_le h1.1
  obtain ⟨hu, hi⟩ := unzig_zig h2
  have hi' := hi
  simp only [inB, decide_eq_true_eq] at hi'
  obtain ⟨m, hm⟩ := Int.eq_ofNat_of_zero_le hi'.1
  refine ⟨n, m, by omega, by omega, hn.symm, by rw [← hm]; exact hu, by rw [← hm]; exact hi, ?_⟩
  unfold prow
  rw [hn, hm, var_nat (by omega), var_nat (by omega)]
theorem prs_len : ∀ {p : RD} {r : List RD}, Good p r → 2 * r.length ≤ (prs p r).length
  | _, [], _ => by simp [prs]
  | p, z :: r, ⟨h1, h2, h3⟩ => by
    obtain ⟨n, m, _, _, _, _, _, e⟩ := prow_form h1 h2
    have := prs_len h3
    have := varN_pos0 n
    have := varN_pos0 m
    simp only [prs, e, List.length_append, List.length_cons]
    omega
theorem parse_back : ∀ (r : List RD) (p : RD) (pre : List Int) (f : Nat), Good p r → r.length < f → parse (pre ++ prs p r) f (pre.length : Nat) p = some r
  | [], p, pre, f, _, hf => by
    obtain ⟨f', rfl⟩ : ∃ f', f = f' + 1 := ⟨f - 1, by omega⟩
    rw [parse_end (by simp [prs])]
  | z :: r, p, pre, f, ⟨h1, h2, h3⟩, hf => by
    obtain ⟨f', rfl⟩ : ∃ f', f = f' + 1 := ⟨f - 1, by omega⟩
    obtain ⟨n, m, hn, hm, en, em, hi, e⟩ := prow_form h1 h2
    have hp := varN_pos0 n
    have e1 : pre ++ prs p (z :: r) = pre ++ (varN n ++ (varN m ++ prs z r)) := by simp only [prs, e, List.append_assoc]
    have e2 : pre ++ (varN n ++ (varN m ++ prs z r)) = (pre ++ varN n) ++ (varN m ++ prs z r) := by simp only [List.append_assoc]
    have e3 : pre ++ (varN n ++ (varN m ++ prs z r)) = (pre ++ varN n ++ varN m) ++ prs z r := by simp only [List.append_assoc]
    have g1 := getV_put (pre := pre) (n := n) (r := varN m ++ prs z r) hn
    have g2 := getV_put (pre := pre ++ varN n) (n := m) (r := prs z r) (by omega)
    rw [← e2, List.length_append] at g2
    have ih := parse_back r z (pre ++ varN n ++ varN m) f' h3 (by simp at hf; omega)
    rw [← e3] at ih
    simp only [List.length_append] at ih
    rw [e1, parse_go (by simp only [List.length_append]; omega) g1 g2 (by omega) (by omega) hi]
    have ez : (p.1 + (n : Int), p.2 + unzig (m : Int)) = z := by
      rw [en, em]
      apply Prod.ext
      · dsimp only; omega
      · dsimp only; omega
    rw [ez, ih]
    rfl
theorem good_of {zs : List RD} (h : rowsOk zs = true) : Good (0, 0) zs := by
  have key : ∀ (k : Nat), k ≤ zs.length → Good (lastR zs k) (zs.drop k) := by
    intro k hk
    induction hd : zs.length - k generalizing k with
    | zero =>
      rw [List.drop_eq_nil_of_le (by omega)]
      trivial
    | succ d ih =>
      rw [List.drop_eq_getElem_cons (by omega)]
      have hb := lastR_bd h hk
      obtain ⟨a0, a1, l0, l1, hor⟩ := rowsOk_at h (k := k) (by omega)
      have hlt : (lastR zs k).1 ≤ zs[k].1 := by
        unfold lastR
        split
        · omega
        · rename_i h0
          have := hor.resolve_left h0
          omega
      refine ⟨by omega, by omega, ?_⟩
      have := ih (k + 1) (by omega) (by omega)
      rw [lastR_succ (by omega)] at this
      exact this
  have := key 0 (Nat.zero_le _)
  simpa [lastR] using this
theorem gOpt_prows {zs : List RD} (h : rowsOk zs = true) : gOpt (prows zs) = some zs := by
  have hg := good_of h
  have hl := prs_len hg
  have e : prows zs = prs (0, 0) zs := by rw [prows, if_pos h]
  have hp := parse_back zs (0, 0) [] ((prs (0, 0) zs).length + 1) hg (by omega)
  simp only [List.nil_append, List.length_nil] at hp
  unfold gOpt
  rw [e, show ((0 : Nat) : Int) = 0 from rfl] at *
  rw [hp]
  show (if rowsOk zs = true then some zs else none) = some zs
  rw [if_pos h]
theorem prows_none {zs : List RD} (h : rowsOk zs = false) : prows zs = [] := by rw [prows, h]; rfl
theorem gOpt_inv {zs : List Int} {r : List RD} (hz : InR 0 255 zs) (h : gOpt zs = some r) : rowsOk r = true ∧ prows r = zs := by
  unfold gOpt at h
  split at h
  · rename_i r' hr
    split at h
    · rename_i hv
      injection h with h
      subst h
      refine ⟨hv, ?_⟩
      have := parse_put (zs.length + 1) zs 0 (0, 0) r' hz (Nat.zero_le _) hr
      rw [prows, if_pos hv, this.1]
      rfl
    · cases h
  · cases h
theorem varN_free {n n' : Nat} {A B : List Int} (hn : n ≤ 268435455) (hn' : n' ≤ 268435455) (h : varN n ++ A = varN n' ++ B) : n = n' ∧ A = B := by
  have g1 := getV_put (pre := []) (n := n) (r := A) hn
  have g2 := getV_put (pre := []) (n := n') (r := B) hn'
  simp only [List.nil_append] at g1 g2
  rw [h] at g1
  have e := g1.symm.trans g2
  have e1 : n = n' := by
    have := congrArg Prod.fst e
    dsimp only at this
    omega
  subst e1
  exact ⟨rfl, List.append_cancel_left h⟩
theorem no_less : ∀ (r' r : List RD) (p : RD) (x : Int), Good p r → Good p r' → prs p r ≠ prs p r' ++ [x]
  | [], r, p, x, hg, _ => by
    intro h
    have hl := prs_len hg
    have hlen := congrArg List.length h
    simp only [prs, List.nil_append, List.length_singleton] at hlen
    have : r = [] := List.eq_nil_of_length_eq_zero (by omega)
    subst this
    simp [prs] at hlen
  | z' :: t', r, p, x, hg, ⟨h1', h2', h3'⟩ => by
    intro h
    cases r with
    | nil =>
      have hlen := congrArg List.length h
      simp [prs] at hlen
    | cons z t =>
      obtain ⟨h1, h2, h3⟩ := hg
      obtain ⟨n, m, hn, hm, en, em, _, e⟩ := prow_form h1 h2
      obtain ⟨n', m', hn', hm', en', em', _, e'⟩ := prow_form h1' h2'
      simp only [prs, e, e', List.append_assoc] at h
      obtain ⟨hnn, ha⟩ := varN_free hn hn' h
      obtain ⟨hmm, hb⟩ := varN_free (n := m) (n' := m') (by omega) (by omega) ha
      subst hnn hmm
      have ez : z = z' := by
        apply Prod.ext
        · omega
        · omega
      subst ez
      exact no_less t' t z x h3 h3' hb
theorem gOpt_less {zs : List Int} {r : List RD} (hz : InR 0 255 zs) (h : gOpt zs = some r) (hn : 0 < zs.length) : gOpt (zs.take (zs.length - 1)) = none := by
  cases hq : gOpt (zs.take (zs.length - 1)) with
  | none => rfl
  | some r' =>
    exfalso
    obtain ⟨v1, e1⟩ := gOpt_inv hz h
    obtain ⟨v2, e2⟩ := gOpt_inv (fun x hx => hz x (List.mem_of_mem_take hx)) hq
    rw [prows, if_pos v1] at e1
    rw [prows, if_pos v2] at e2
    refine no_less r' r (0, 0) (zs[zs.length - 1]'(by omega)) (good_of v1) (good_of v2) ?_
    rw [e1, e2]
    have := (List.take_succ_eq_append_getElem (l := zs) (i := zs.length - 1) (by omega))
    rw [← this, show zs.length - 1 + 1 = zs.length by omega, List.take_length]
end Go.Proofs.Ytndnmbhhfiacaaa.PBack
