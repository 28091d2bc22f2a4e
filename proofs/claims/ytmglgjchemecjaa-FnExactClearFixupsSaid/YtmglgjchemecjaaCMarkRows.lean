/- Marks of rows, whether they have room or not. -/
import Derived.Test.YtmglgjchemecjaaCSymMarks
namespace Go.Proofs.Ytmglgjchemecjaa.CMarkRows
set_option maxRecDepth 200000
open Go.ChangeShapes Go.WideShapes Go.ChangeAt Go.RowKit Kit CFixups CSymbols PObj BObj CMarkText CSymMarks
theorem blk_own {A : Option Addr} {n c : Nat} (hc : c ≠ 0) : blk A c = (Value.slice A n c).ownBlock := by
  unfold blk
  rw [if_neg hc]
  cases A <;> rfl
theorem markB_none (A : Option Addr) (k0 : Int) (w : World) : Calls Try.prog 124 #[.slice A 0 0, .int .i64 k0] w (Pure (.int .i64 k0) w) := by
  go_enter Try.func124, Try.ntmps124
  go_wp2
  go_loop [1, 5] (fun k i => i = .int .i64 0 ∧ k = .int .i64 k0) (fun _ _ => 0)
  case atStart => exact ⟨rfl, rfl⟩
  case round =>
    obtain ⟨rfl, rfl⟩ := hrel
    go_wp2
    go_ret
    exact ⟨rfl, rfl⟩
theorem markF_none (A : Option Addr) (k0 : Int) (w : World) : Calls Try.prog 125 #[.slice A 0 0, .int .i64 k0] w (Pure (.int .i64 k0) w) := by
  go_enter Try.func125, Try.ntmps125
  go_wp2
  go_loop [1, 5] (fun k i => i = .int .i64 0 ∧ k = .int .i64 k0) (fun _ _ => 0)
  case atStart => exact ⟨rfl, rfl⟩
  case round =>
    obtain ⟨rfl, rfl⟩ := hrel
    go_wp2
    go_ret
    exact ⟨rfl, rfl⟩
theorem markY_none (A : Option Addr) (k0 : Int) (w : World) : Calls Try.prog 61 #[.slice A 0 0, .int .i64 k0] w (Pure (.int .i64 k0) w) := by
  go_enter Try.func61, Try.ntmps61
  go_wp2
  go_loop [1, 5] (fun k i => i = .int .i64 0 ∧ k = .int .i64 k0) (fun _ _ => 0)
  case atStart => exact ⟨rfl, rfl⟩
  case round =>
    obtain ⟨rfl, rfl⟩ := hrel
    go_wp2
    go_ret
    exact ⟨rfl, rfl⟩
theorem markB_row (base : Nat) (A : Option Addr) (c : Nat) (xs : List Int) (k0 : Int) (w : World) (h0 : 0 ≤ k0) (hk0 : k0 ≤ 4294967296) (hm : xs.length ≤ 4294967296) (h : Row w base 5 1 A xs.length c (ints .u8 xs)) :
    Calls Try.prog 124 #[.slice A xs.length c, .int .i64 k0] w fun e w' => e = .returned (.int .i64 (k0 + xs.length)) ∧ Row w' base 5 1 A xs.length c (ints .u8 (CBytes.marks k0 xs.length)) ∧ w.grownBy w' (blk A c) := by
  by_cases hc : c = 0
  · subst hc
    have hx : xs = [] := List.eq_nil_of_length_eq_zero (Nat.le_zero.1 h.cap.1)
    subst hx
    refine (markB_none A k0 w).mono ?_
    rintro e w' ⟨rfl, rfl⟩
    exact ⟨by simp, .inl ⟨rfl, rfl, rfl⟩, World.grownBy.refl w _⟩
  · have hown : w.ownsRow base 5 1 (.slice A xs.length c) xs.length (ints .u8 xs) := h.elim (fun h => absurd h.2.1 hc) id
    refine (CBytes.mark_any base A c xs k0 w h0 hk0 hm hown).mono ?_
    rintro e w' ⟨rfl, o, g⟩
    exact ⟨rfl, .inr o, by rw [blk_own (n := xs.length) hc]; exact g⟩
theorem markF_row (base : Nat) (A : Option Addr) (c m : Nat) (xs : List Value) (k0 : Int) (w : World) (h0 : 0 ≤ k0) (hk0 : k0 ≤ 4294967296) (hm : m ≤ 4294967296) (h : Row w base 77 4 A m c xs) :
    Calls Try.prog 125 #[.slice A m c, .int .i64 k0] w fun e w' => e = .returned (.int .i64 (k0 + 4 * m)) ∧ Row w' base 77 4 A m c (cellsOf fixupC (CFixups.marks k0 m)) ∧ w.grownBy w' (blk A c) := by
  by_cases hc : c = 0
  · subst hc
    obtain rfl : m = 0 := Nat.le_zero.1 h.cap.1
    refine (markF_none A k0 w).mono ?_
    rintro e w' ⟨rfl, rfl⟩
    exact ⟨by simp, .inl ⟨rfl, rfl, rfl⟩, World.grownBy.refl w _⟩
  · have hown : w.ownsRow base 77 4 (.slice A m c) m xs := h.elim (fun h => absurd h.2.1 hc) id
    refine (CFixups.mark_any base A c m xs k0 w h0 hk0 hm hown).mono ?_
    rintro e w' ⟨rfl, o, g⟩
    exact ⟨rfl, .inr o, by rw [blk_own (n := m) hc]; exact g⟩
theorem markY_row (base : Nat) (A : Option Addr) (c m : Nat) (xs : List Value) (k0 : Int) (w : World) (h0 : 0 ≤ k0) (hk0 : k0 ≤ 4294967296) (hm : m ≤ 4294967296) (h : Row w base 69 4 A m c xs) :
    Calls Try.prog 61 #[.slice A m c, .int .i64 k0] w fun e w' => e = .returned (.int .i64 (k0 + 4 * m)) ∧ Row w' base 69 4 A m c (cellsOf symbolC (ymarks k0 m)) ∧ w.grownBy w' (blk A c) := by
  by_cases hc : c = 0
  · subst hc
    obtain rfl : m = 0 := Nat.le_zero.1 h.cap.1
    refine (markY_none A k0 w).mono ?_
    rintro e w' ⟨rfl, rfl⟩
    exact ⟨by simp, .inl ⟨rfl, rfl, rfl⟩, World.grownBy.refl w _⟩
  · have hown : w.ownsRow base 69 4 (.slice A m c) m xs := h.elim (fun h => absurd h.2.1 hc) id
    refine (ymark_any base A c m xs k0 w h0 hk0 hm hown).mono ?_
    rintro e w' ⟨rfl, o, g⟩
    exact ⟨rfl, .inr o, by rw [blk_own (n := m) hc]; exact g⟩
/-- Two rows of different types lie apart. -/
theorem apartT {w : World} {base base' : Nat} {e e' : TypeId} {size size' n n' c c' : Nat} {A A' : Option Addr} {xs xs' : List Value} (h : Row w base e size A n c xs) (h' : Row w base' e' size' A' n' c' xs') (hne : e ≠ e') : ∀ k, blk A c = some k → blk A' c' ≠ some k := by
  intro k hk hk'
  have hc : c' ≠ 0 := by
    intro h0
    rw [h0] at hk'
    cases hk'
  have hown : w.ownsRow base' e' size' (.slice A' n' c') n' xs' := h'.elim (fun h => absurd h.2.1 hc) id
  rcases hown.2 with ⟨hv, h0⟩ | ⟨g, cap, cur, hv, _, hg, _⟩
  · injection hv with hA
    subst hA
    unfold blk at hk'
    split at hk' <;> cases hk'
  · injection hv with hA
    subst hA
    have hkg : g = k := by
      unfold blk at hk'
      rw [if_neg hc] at hk'
      simpa using hk'
    subst hkg
    exact h.box (show Box w g e' cur from hg) hne g hk rfl
theorem RwS.apart {w : World} {b b' : Nat} {p q : SV} (hp : RwS w b p) (hq : RwS w b' q) (h : ApS p q) : ∀ k, sblk p k → ¬ sblk q k := by
  rintro k (hk | hk) (hk' | hk')
  · exact h.1 k hk hk'
  · exact apartT hp.1 hq.2 (by decide) k hk hk'
  · exact apartT hp.2 hq.1 (by decide) k hk hk'
  · exact h.2 k hk hk'
theorem ApS.symm {p q : SV} (h : ApS p q) : ApS q p := ⟨h.1.symm, h.2.symm⟩
/-- A section behind its marks from number k on. -/
def mS (k : Int) (p : SV) : SV := { p with nm := mtx k, kd := k + 1, al := k + 1 + 1, zs := CBytes.marks (k + 1 + 1 + 1) p.zs.length, sz := k + 1 + 1 + 1 + p.zs.length, fs := CFixups.marks (k + 1 + 1 + 1 + p.zs.length + 1) p.fs.length }
def wd (p : SV) : Int := 4 + p.zs.length + 4 * p.fs.length
def mSs : Int → List SV → List SV
  | _, [] => []
  | k, p :: ps => mS k p :: mSs (k + wd p) ps
def wds : List SV → Int
  | [] => 0
  | p :: ps => wd p + wds ps
theorem wds_nonneg : ∀ ps, 0 ≤ wds ps
  | [] => Int.le_refl 0
  | p :: ps => by
    have := wds_nonneg ps
    unfold wds wd
    omega
theorem wds_append : ∀ (ps qs : List SV), wds (ps ++ qs) = wds ps + wds qs
  | [], qs => by simp [wds]
  | p :: ps, qs => by
    have := wds_append ps qs
    simp only [List.cons_append, wds]
    omega
theorem mSs_len : ∀ (k : Int) (ps : List SV), (mSs k ps).length = ps.length
  | _, [] => rfl
  | k, p :: ps => by simp [mSs, mSs_len]
theorem mSs_snoc : ∀ (k : Int) (ps : List SV) (q : SV), mSs k (ps ++ [q]) = mSs k ps ++ [mS (k + wds ps) q]
  | k, [], q => by simp [mSs, wds]
  | k, p :: ps, q => by
    simp only [List.cons_append, mSs, wds, mSs_snoc (k + wd p) ps q]
    rw [show k + wd p + wds ps = k + (wd p + wds ps) by omega]
theorem mSs_mem : ∀ {k : Int} {ps : List SV} {x : SV}, x ∈ mSs k ps → ∃ q ∈ ps, ∃ k', x = mS k' q
  | _, [], _, h => by cases h
  | k, p :: ps, x, h => by
    rcases List.mem_cons.1 h with rfl | h
    · exact ⟨p, by simp, k, rfl⟩
    · obtain ⟨q, hq, k', e⟩ := mSs_mem h
      exact ⟨q, by simp [hq], k', e⟩
theorem mSs_get {k : Int} {ps : List SV} {j : Nat} (h : j < ps.length) : (mSs k ps)[j]'(by rw [mSs_len]; exact h) = mS (k + wds (ps.take j)) ps[j] := by
  have h1 : ps = ps.take j ++ ps[j] :: ps.drop (j + 1) := by rw [← List.drop_eq_getElem_cons h, List.take_append_drop]
  have h2 : ∀ (k : Int) (xs : List SV) (q : SV) (ys : List SV), mSs k (xs ++ q :: ys) = mSs k xs ++ mS (k + wds xs) q :: mSs (k + wds xs + wd q) ys := by
    intro k xs
    induction xs generalizing k with
    | nil => intro q ys; simp [mSs, wds]
    | cons x xs ih =>
      intro q ys
      simp only [List.cons_append, mSs, wds, ih]
      rw [show k + wd x + wds xs = k + (wd x + wds xs) by omega]
  have h3 := h2 k (ps.take j) ps[j] (ps.drop (j + 1))
  rw [← h1] at h3
  have h4 : (mSs k (ps.take j)).length = j := by rw [mSs_len, List.length_take]; omega
  rw [List.getElem_of_eq h3, List.getElem_append_right (by omega)]
  simp [h4]
theorem mSs_pw {k : Int} {ps : List SV} (h : PwSs ps) : PwSs (mSs k ps) := by
  induction ps generalizing k with
  | nil => exact List.Pairwise.nil
  | cons p ps ih =>
    obtain ⟨h1, h2⟩ := List.pairwise_cons.1 h
    refine List.pairwise_cons.2 ⟨fun x hx => ?_, ih h2⟩
    obtain ⟨q, hq, k', rfl⟩ := mSs_mem hx
    exact h1 q hq
theorem own_grown {w w' : World} {base g n c size : Nat} {e : TypeId} {xs : List Value} {v : Option Nat} (h : w.ownsRow base e size (.slice (some ⟨g, 0, none⟩) n c) n xs) (hg : w.grownBy w' v) (hv : v ≠ some g) : w'.ownsRow base e size (.slice (some ⟨g, 0, none⟩) n c) n xs :=
  own_keep h fun k hk => hg.block k (h.lt k hk).2 (fun e => hv (by
    have : g = k := by simpa [Value.ownBlock] using hk
    rw [← e, this]))
end Go.Proofs.Ytmglgjchemecjaa.CMarkRows
