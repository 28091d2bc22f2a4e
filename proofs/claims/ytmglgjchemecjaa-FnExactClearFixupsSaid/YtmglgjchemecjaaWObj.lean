/- What the walks of exact laws on objects share. -/
import Derived.Test.YtmglgjchemecjaaPClear
import Derived.Test.YtmglgjchemecjaaCObject2
namespace Go.Proofs.Ytmglgjchemecjaa.WObj
set_option maxRecDepth 200000
open Go.ChangeShapes Go.WideShapes Go.ChangeAt Go.RowKit Kit CCode CFixups CSymbols PObj BObj PValid CObjValid CSections CObject CObject2 CMarkRows
def sumD (d : OD) : Int := (d.ss.length : Int) + tot d.ss + d.ys.length + toty d.ys
theorem sum_D (o : OV) : sum o = sumD o.d := by simp [sum, sumD, OV.d]
theorem sum_d {o o' : OV} (h : o'.d = o.d) : sum o' = sum o := by rw [sum_D, sum_D, h]
theorem sumD_nonneg (d : OD) : 0 ≤ sumD d := by
  have h1 := tot_nonneg d.ss
  have h2 := toty_nonneg d.ys
  unfold sumD
  omega
theorem fit_own {o : OV} {w : World} {base : Nat} (hs : sum o ≤ 1048576) (ho : OwnO w base o) : Fit o ∧ (∀ p ∈ o.ps, p.zs.length ≤ p.c) := by
  obtain ⟨⟨l1, l2, l3⟩, l4, l5⟩ := sum_lim hs
  have hmx : (1048576 : Nat) ≤ maxLen := by decide
  refine ⟨⟨l1, l2, ho.2.cap.1, fun p hp => ⟨Nat.le_trans (l4 p hp) hmx, (l3 p hp).1, (l3 p hp).2⟩, fun y hy => Nat.le_trans (l5 y hy) hmx⟩, fun p hp => ((ho.1.2.1 p hp).1).cap.1⟩
theorem RdO.call2 {w w' : World} {o : OV} (h : RdO w w.heap.size o) (hb : Below w.heap.size w w') : RdO w' w'.heap.size o := (h.below hb).more hb.size
theorem own_up {w : World} {base b : Nat} {o : OV} (h : OwnO w base o) (hb : ∀ k, oblk o k → b ≤ k) : OwnO w b o :=
  ⟨⟨h.1.1.up (fun k hk => hb k (.inl (.inl hk))), fun p hp => ⟨(h.1.2.1 p hp).1.up (fun k hk => hb k (.inl (.inr ⟨p, hp, .inl hk⟩))), (h.1.2.1 p hp).2.up (fun k hk => hb k (.inl (.inr ⟨p, hp, .inr hk⟩)))⟩, h.1.2.2⟩, h.2.up (fun k hk => hb k (.inr hk))⟩
/-- A mark in the memory of another: the same sum. -/
theorem tot_map {f : SD → SD} (hf : ∀ s, wt (f s) = wt s) : ∀ ds : List SD, tot (ds.map f) = tot ds
  | [] => rfl
  | d :: ds => by
    have := tot_map hf ds
    simp [tot, hf, this]
theorem clear_sum (d : OD) : sumD (PClear.clearD d) ≤ sumD d := by
  have h0 := sumD_nonneg d
  unfold PClear.clearD
  cases objOk d
  · simpa [sumD, tot, toty] using h0
  · simp only [sumD, cond_true, List.length_map]
    rw [tot_map (fun s => by simp [wt, PClear.clearS, PClear.clrs_len])]
    exact Int.le_refl _
end Go.Proofs.Ytmglgjchemecjaa.WObj
