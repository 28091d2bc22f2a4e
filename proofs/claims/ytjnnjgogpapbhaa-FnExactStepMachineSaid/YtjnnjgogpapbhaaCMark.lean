/- Contracts of the marks that the laws lay into rows of ints and into machines. -/
import Derived.Test.YtjnnjgogpapbhaaCStep
import Derived.Test.YtjnnjgogpapbhaaBGp
namespace Go.Proofs.Ytjnnjgogpapbhaa.CMark
set_option maxRecDepth 200000
open Go.ChangeShapes Go.WideShapes Go.ChangeAt Go.RowKit Kit CMachines CInts CStep
theorem mark_none (A : Option Addr) (k0 : Int) (w : World) : Calls Try.prog 60 #[.slice A 0 0, .int .i64 k0] w (Pure (.int .i64 k0) w) := by
  go_enter Try.func60, Try.ntmps60
  go_wp2
  go_loop [1, 5] (fun k i => i = .int .i64 0 ∧ k = .int .i64 k0) (fun _ _ => 0)
  case atStart => exact ⟨rfl, rfl⟩
  case round =>
    obtain ⟨rfl, rfl⟩ := hrel
    go_wp2
    go_ret
    exact ⟨rfl, rfl⟩
theorem mark_row (base : Nat) (A : Option Addr) (c : Nat) (xs : List Int) (k0 : Int) (w : World) (h0 : 0 ≤ k0) (hk0 : k0 ≤ 4294967296) (hm : xs.length ≤ 4294967296) (h : Row w base 3 1 A xs.length c (ints .i64 xs)) :
    Calls Try.prog 60 #[.slice A xs.length c, .int .i64 k0] w fun e w' => e = .returned (.int .i64 (k0 + xs.length)) ∧ Row w' base 3 1 A xs.length c (ints .i64 (marks k0 xs.length)) ∧ w.grownBy w' (blk A c) := by
  by_cases hc : c = 0
  · subst hc
    have hx : xs = [] := List.eq_nil_of_length_eq_zero (Nat.le_zero.1 h.cap.1)
    subst hx
    refine (mark_none A k0 w).mono ?_
    rintro e w' ⟨rfl, rfl⟩
    exact ⟨by simp, .inl ⟨rfl, rfl, rfl⟩, World.grownBy.refl w _⟩
  · have hown : w.ownsRow base 3 1 (.slice A xs.length c) xs.length (ints .i64 xs) := h.elim (fun h => absurd h.2.1 hc) id
    refine (mark_any base A c xs k0 w h0 hk0 hm hown).mono ?_
    rintro e w' ⟨rfl, o, g⟩
    have hb : blk A c = (Value.slice A xs.length c).ownBlock := by
      unfold blk
      rw [if_neg hc]
      cases A <;> rfl
    exact ⟨rfl, .inr o, by rw [hb]; exact g⟩
/-- The blocks of a machine's rows. -/
def mblk (S : Option Addr) (cs : Nat) (C : Option Addr) (cc : Nat) (k : Nat) : Prop := blk S cs = some k ∨ blk C cc = some k
theorem mark_machine (at_ : Int) (base : Nat) (S C : Option Addr) (cs cc : Nat) (st ca : List Int) (k0 : Int) (w : World) (h0 : 0 ≤ k0) (hk0 : k0 ≤ 2147483648) (hm : st.length ≤ 1073741824) (hm' : ca.length ≤ 1073741824) (h : Rows2 w base S cs st C cc ca) :
    Calls Try.prog 29 #[.agg #[.int .i64 at_, .slice S st.length cs, .slice C ca.length cc], .int .i64 k0] w fun e w' => e = .returned (.int .i64 (k0 + st.length + ca.length)) ∧ Rows2 w' base S cs (marks k0 st.length) C cc (marks (k0 + st.length) ca.length) ∧ Gp (mblk S cs C cc) w w' := by
  have X := Box.new w 25 #[.int .i64 at_, .slice S st.length cs, .slice C ca.length cc]
  have b0 : Below w.heap.size w (w.alloc (.cells #[.int .i64 at_, .slice S st.length cs, .slice C ca.length cc] 25)) := below_al (Below.refl _ _)
  have H0 : Rows2 (w.alloc (.cells #[.int .i64 at_, .slice S st.length cs, .slice C ca.length cc] 25)) base S cs st C cc ca := ⟨h.1.call b0, h.2.1.call b0, h.2.2⟩
  have HB := hide (Gp.of_below (p := mblk S cs C cc) b0)
  clear h b0
  go_enter Try.func29, Try.ntmps29
  go_wp2_with fail
  generalize (w.alloc (.cells #[.int .i64 at_, .slice S st.length cs, .slice C ca.length cc] 25)) = w0 at *
  have HX := hide X
  have hX0 := X.lt
  clear X
  refine (mark_row base S cs st k0 w0 h0 (by omega) (by omega) H0.1).mono ?_
  rintro e w1 ⟨rfl, r1, g1⟩
  have X1 := HX.out.grown g1 (H0.1.box HX.out (by decide))
  have C1 := H0.2.1.grown g1 (fun k hk hk' => H0.2.2 k hk' hk)
  have HB1 := hide (HB.out.trans (Gp.of_grown g1 (fun k hk => .inl hk)))
  have HR1 := hide r1
  have q2 := X1.cell 2
  have hX1 := X1.lt
  simp only [List.getElem?_toArray, List.getElem?_cons_zero, List.getElem?_cons_succ] at q2
  have HD := hide H0.2.2
  clear r1 g1 X1 HX HB H0
  go_wp2_with fail
  refine (mark_row base C cc ca (k0 + st.length) w1 (by omega) (by omega) (by omega) C1).mono ?_
  rintro e w2 ⟨rfl, r2, g2⟩
  have HB2 := hide (HB1.out.trans (Gp.of_grown g2 (fun k hk => .inr hk)))
  have HR2 := hide r2
  have HS2 := hide (HR1.out.grown g2 (fun k hk hk' => HD.out k hk hk'))
  clear r2 g2 C1 q2
  go_wp2_with fail
  go_ret
  refine ⟨rfl, ⟨?_, ?_, HD.out⟩, HB2.out⟩
  · rw [marks_len]
    exact HS2.out
  · rw [marks_len]
    exact HR2.out
theorem held_machine (at_ : Int) (B : Nat) (S C : Option Addr) (cs cc n m : Nat) (k0 : Int) (w : World) (h0 : 0 ≤ k0) (hk0 : k0 ≤ 2147483648) (hm : n ≤ 1073741824) (hm' : m ≤ 1073741824) (hs : Rd w B S (ints .i64 (marks k0 n))) (hc : Rd w B C (ints .i64 (marks (k0 + n) m))) (hB : B ≤ w.heap.size) :
    Calls Try.prog 31 #[.agg #[.int .i64 at_, .slice S n cs, .slice C m cc], .int .i64 k0] w (Ret (.int .i64 (k0 + n + m)) w) := by
  have b0 : Below w.heap.size w (w.alloc (.cells #[.int .i64 at_, .slice S n cs, .slice C m cc] 25)) := below_al (Below.refl _ _)
  have HS := hide ((hs.more hB).below b0)
  have HC := hide ((hc.more hB).below b0)
  have HB := hide b0
  clear hs hc b0
  go_enter Try.func31, Try.ntmps31
  go_wp2_with fail
  refine (held_any _ S cs n k0 _ h0 (by omega) (by omega) HS.out).mono ?_
  rintro e w1 ⟨rfl, rfl⟩
  go_wp2_with fail
  refine (held_any _ C cc m (k0 + n) _ (by omega) (by omega) (by omega) HC.out).mono ?_
  rintro e w1 ⟨rfl, rfl⟩
  go_wp2_with fail
  go_ret
  exact ⟨rfl, HB.out⟩
end Go.Proofs.Ytjnnjgogpapbhaa.CMark
