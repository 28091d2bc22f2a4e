/- Patches in plain: what they are, when they are valid, and what they make of bytes. -/
import Derived.Test.YtjnnjgogpapbhaaBase5
namespace Go.Proofs.Ytjnnjgogpapbhaa.PPatch
set_option maxRecDepth 200000
open Go.ChangeShapes Go.WideShapes Go.ChangeAt Go.RowKit Kit
/-- A patch as a value: its place, where its bytes lie, their room, and the bytes. -/
structure PV where
  at_ : Int
  A : Option Addr
  c : Nat
  zs : List Int
abbrev PD := Int × List Int
def PV.d (p : PV) : PD := (p.at_, p.zs)
def patchC (p : PV) : List Value := [.int .i64 p.at_, .slice p.A p.zs.length p.c]
theorem patchC_len (p : PV) : (patchC p).length = 2 := rfl
/-- What all patches count as for the laws' sizes. -/
def tot : List PV → Int
  | [] => 0
  | p :: ps => (p.zs.length : Int) + tot ps
theorem tot_nonneg : ∀ ps, 0 ≤ tot ps
  | [] => Int.le_refl 0
  | p :: ps => by
    have := tot_nonneg ps
    simp only [tot]
    omega
theorem tot_mem : ∀ (ps : List PV) (p : PV), p ∈ ps → (p.zs.length : Int) ≤ tot ps
  | [], p, h => by simp at h
  | q :: ps, p, h => by
    have := tot_nonneg ps
    simp only [tot]
    rcases List.mem_cons.1 h with rfl | h
    · omega
    · have := tot_mem ps p h
      omega
theorem tot_drop {ps : List PV} {k : Nat} (h : k < ps.length) : tot (ps.drop k) = (ps[k].zs.length : Int) + tot (ps.drop (k + 1)) := by
  rw [List.drop_eq_getElem_cons h]
  rfl
theorem tot_drop_le : ∀ (ps : List PV) (k : Nat), tot (ps.drop k) ≤ tot ps
  | [], k => by simp [tot]
  | p :: ps, 0 => Int.le_refl _
  | p :: ps, k + 1 => by
    have := tot_drop_le ps k
    simp only [List.drop_succ_cons, tot]
    omega
theorem tot_eq : ∀ {ps qs : List PV}, ps.map PV.d = qs.map PV.d → tot ps = tot qs
  | [], [], _ => rfl
  | [], _ :: _, h => by simp at h
  | _ :: _, [], h => by simp at h
  | p :: ps, q :: qs, h => by
    simp only [List.map_cons, List.cons.injEq, PV.d, Prod.mk.injEq] at h
    simp only [tot]
    rw [h.1.2, tot_eq h.2]
/-- Bytes with others put in at place i. -/
def splice (l : List Int) (i : Nat) (zs : List Int) : List Int := l.take i ++ zs ++ l.drop (i + zs.length)
theorem splice_len {l zs : List Int} {i : Nat} (h : i + zs.length ≤ l.length) : (splice l i zs).length = l.length := by
  unfold splice
  simp only [List.length_append, List.length_take, List.length_drop]
  omega
theorem splice_zero (l zs : List Int) (i : Nat) : splice l i (zs.take 0) = l := by simp [splice]
theorem splice_next {l zs : List Int} {i j : Nat} (hj : j < zs.length) (h : i + zs.length ≤ l.length) : (splice l i (zs.take j)).set (i + j) zs[j] = splice l i (zs.take (j + 1)) := by
  unfold splice
  have h1 : (zs.take j).length = j := by rw [List.length_take]; omega
  have h2 : (zs.take (j + 1)).length = j + 1 := by rw [List.length_take]; omega
  have h3 : (l.take i).length = i := by rw [List.length_take]; omega
  rw [List.set_append_right _ _ (by simp only [List.length_append, h1, h3]; omega), h1, h2]
  simp only [List.length_append, h1, h3, Nat.sub_self]
  rw [List.drop_eq_getElem_cons (show i + j < l.length by omega), List.set_cons_zero, List.take_succ_eq_append_getElem hj]
  simp only [List.append_assoc, List.cons_append, List.nil_append, Nat.add_assoc]
theorem splice_all (l zs : List Int) (i : Nat) : splice l i (zs.take zs.length) = splice l i zs := by rw [List.take_length]
theorem splice_in {l zs : List Int} {i : Nat} {lo hi : Int} (h : InR lo hi l) (h' : InR lo hi zs) : InR lo hi (splice l i zs) := by
  intro x hx
  unfold splice at hx
  rcases List.mem_append.1 hx with hx | hx
  · rcases List.mem_append.1 hx with hx | hx
    · exact h x (List.mem_of_mem_take hx)
    · exact h' x hx
  · exact h x (List.mem_of_mem_drop hx)
/-- What patches make of bytes that begin at place b. -/
def apply (b : Int) : List Int → List PD → List Int
  | l, [] => l
  | l, d :: ds => apply b (splice l (d.1 - b).toNat d.2) ds
def okP (hi : Int) : Int → List PD → Bool
  | _, [] => true
  | a, d :: ds => decide (a ≤ d.1) && decide (d.2.length ≠ 0) && decide (d.1 ≤ hi - d.2.length) && okP hi (d.1 + d.2.length + 1) ds
theorem okP_cons {hi a : Int} {d : PD} {ds : List PD} (h : okP hi a (d :: ds) = true) : a ≤ d.1 ∧ d.2.length ≠ 0 ∧ d.1 ≤ hi - d.2.length ∧ okP hi (d.1 + d.2.length + 1) ds = true := by
  simp only [okP, Bool.and_eq_true, decide_eq_true_eq] at h
  exact ⟨h.1.1.1, h.1.1.2, h.1.2, h.2⟩
/-- The same with the machine's sums. -/
def okW (b : Int) (n : Nat) : Int → List PD → Bool
  | _, [] => true
  | a, d :: ds => !decide (d.1 < a) && !(d.2.length == 0) && !decide (wrap64 (wrap64 (b + n) - d.2.length) < d.1) && okW b n (wrap64 (wrap64 (d.1 + d.2.length) + 1)) ds
theorem okW_eq {b : Int} {n : Nat} (h0 : 0 ≤ b) (h1 : b ≤ 4096) (hn : n ≤ 2000) : ∀ (ds : List PD) (a : Int), (∀ d ∈ ds, (d.2.length : Int) ≤ 1048576) → 0 ≤ a → okW b n a ds = okP (b + n) a ds
  | [], a, _, _ => rfl
  | d :: ds, a, hl, ha => by
    have hd := hl d (by simp)
    have e1 : wrap64 (b + n) = b + n := by unfold wrap64; omega
    have e2 : wrap64 (b + n - d.2.length) = b + n - d.2.length := by unfold wrap64; omega
    simp only [okW, okP, e1, e2]
    by_cases k1 : d.1 < a
    · have k1' : ¬ a ≤ d.1 := by omega
      rw [decide_eq_true k1, decide_eq_false k1']
      simp
    · have k1' : a ≤ d.1 := by omega
      by_cases k2 : b + n - d.2.length < d.1
      · have k2' : ¬ d.1 ≤ b + n - d.2.length := by omega
        rw [decide_eq_true k2, decide_eq_false k2']
        simp
      · have k2' : d.1 ≤ b + n - d.2.length := by omega
        have e3 : wrap64 (d.1 + d.2.length) = d.1 + d.2.length := by unfold wrap64; omega
        have e4 : wrap64 (d.1 + d.2.length + 1) = d.1 + d.2.length + 1 := by unfold wrap64; omega
        rw [e3, e4, okW_eq h0 h1 hn ds _ (fun x hx => hl x (by simp [hx])) (by omega), decide_eq_false k1, decide_eq_false k2, decide_eq_true k1', decide_eq_true k2']
        by_cases k3 : d.2.length = 0 <;> simp [k3]
end Go.Proofs.Ytjnnjgogpapbhaa.PPatch
