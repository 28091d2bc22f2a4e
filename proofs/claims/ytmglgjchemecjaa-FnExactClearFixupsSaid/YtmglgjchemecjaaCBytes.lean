/- Contracts of the laws' helpers on []byte: the copy, the comparison, the marks. -/
import Derived.Test.YtmglgjchemecjaaBase
import Derived.Deep.QuietTactic
import Derived.BigQuiet
import Derived.Test.YtmglgjchemecjaaRows
namespace Go.Proofs.Ytmglgjchemecjaa.CBytes
set_option maxRecDepth 200000
open Go.ChangeShapes Go.WideShapes Go.ChangeAt Go.RowKit Kit
theorem info8 : (Try.prog.info? 5).map (fun i => (i.zero, i.size, i.bytes)) = some (some (.int .u8 0), 1, 1) := by kernel_rfl
theorem toByteS_any (A : Option Addr) (zs : List Int) (c : Nat) (w : World) (hr : Rd w w.heap.size A (ints .u8 zs)) (hm : zs.length ≤ 1048576) :
    Calls Try.prog 168 #[.slice A zs.length c] w fun e w' => ∃ A' c', e = .returned (.slice A' zs.length c') ∧ w'.ownsRow w.heap.size 5 1 (.slice A' zs.length c') zs.length (ints .u8 zs) ∧ Below w.heap.size w w' := by
  obtain ⟨i0, hi, hz0, hz1, hz2⟩ := info_parts info8
  go_enter Try.func168, Try.ntmps168
  go_wp2_with (at_make; refine wpList_make_full _ rfl _ _ _ rfl w.heap.size 5 i0 (.int .u8 0) 1 Try.underlying22 hi hz0 hz1 .i64 .i64 _ _ zs.length rfl rfl rfl rfl ?c1 ?c2 ?c3 ?_)
  case c1 => rw [hz2]; omega
  case c2 => unfold maxLen; omega
  case c3 => exact Nat.le_refl _
  intro w1 hown hg
  rw [zero_cells', show List.replicate zs.length 0 = upTo zs 0 from by simp [upTo]] at hown
  have hb1 : Below w.heap.size w w1 := (Below.refl _ _).grown hg (Nat.le_refl _) (by intro k h; cases h)
  clear hg
  go_wp2
  go_loopw [4] (fun i wr => ∃ k : Nat, k ≤ zs.length ∧ i = .int .i64 k ∧ wr.ownsRow w.heap.size 5 1 (.slice (some ⟨w.heap.size, 0, none⟩) zs.length zs.length) zs.length (ints .u8 (upTo zs k)) ∧ Below w.heap.size w wr) (fun i _ => zs.length - (intOf i).toNat)
  case atStart => exact ⟨0, Nat.zero_le _, rfl, hown, hb1⟩
  case round =>
    obtain ⟨k, hk, rfl, ho, hb⟩ := hrel
    clear hown hb1
    by_cases hlt : k < zs.length
    · obtain ⟨b, off, rfl, hbg, hc⟩ := (hr.below hb).int hlt
      have hs := ho.stored k (.int .u8 zs[k])
      have hcell := ho.cellAt k (by omega)
      have hfz := ho.frozenAt k
      have hold : (ints IntKind.u8 (upTo zs k))[k]? = some (Value.int .u8 ((upTo zs k)[k]'(by rw [upTo_len _ _ hk]; exact hlt))) := by
        rw [List.getElem?_eq_getElem (by simp [upTo_len _ _ hk, hlt])]; simp
      rw [hold] at hcell
      generalize ((upTo zs k)[k]'(by rw [upTo_len _ _ hk]; exact hlt)) = old at hcell
      rw [setInts, upTo_set zs k hlt] at hs
      obtain ⟨ho', hg'⟩ := hs
      have hb' := hb.setCell (p := ⟨w.heap.size, k, none⟩) (Nat.le_refl _) (.int .u8 zs[k])
      have HH := hide (And.intro ho' hb')
      clear hold ho' hg' hb' ho hb hr
      generalize zs[k] = z at *
      go_wp2
      go_roundw
      case rel => exact ⟨k + 1, by omega, by go_num, HH.out.1, HH.out.2⟩
      case measure => simp [intOf]; omega
    · have e : k = zs.length := by omega
      subst e
      rw [upTo_all] at ho
      clear hr
      go_wp2
      go_ret
      exact ⟨_, _, rfl, ho, hb⟩
theorem eqByteS_any (A A' : Option Addr) (xs ys : List Int) (c c' B : Nat) (w : World) (hr : Rd w B A (ints .u8 xs)) (hr' : Rd w B A' (ints .u8 ys)) (hm : xs.length ≤ maxLen) (hm' : ys.length ≤ maxLen) :
    Calls Try.prog 170 #[.slice A xs.length c, .slice A' ys.length c'] w fun e w' => e = .returned (.bool (xs == ys)) ∧ ∃ n, w' = w.drewN n := by
  unfold maxLen at hm hm'
  by_cases hl : xs.length = ys.length
  · have h0 : (((xs.length : Nat) : Int) != (ys.length : Nat)) = false := by simp; omega
    go_enter Try.func170, Try.ntmps170
    go_wp2
    clear h0
    have HL := hide hl
    go_loopw [5] (fun i wr => ∃ k : Nat, k ≤ xs.length ∧ i = .int .i64 k ∧ xs.take k = ys.take k ∧ ∃ n, wr = w.drewN n) (fun i _ => xs.length - (intOf i).toNat)
    case atStart => exact ⟨0, Nat.zero_le _, rfl, rfl, 0, rfl⟩
    case round =>
      obtain ⟨k, hk, rfl, he, n, rfl⟩ := hrel
      have HE := hide he
      clear he hl
      by_cases hlt : k < xs.length
      · obtain ⟨b, off, rfl, _, hc⟩ := hr.int hlt
        obtain ⟨b', off', rfl, _, hc'⟩ := hr'.int (i := k) (by have := HL.out; omega)
        clear hr hr'
        have hlt' : k < ys.length := by have := HL.out; omega
        by_cases hxy : xs[k] = ys[k]
        · have HE' := hide (show xs.take (k + 1) = ys.take (k + 1) by rw [take_succ hlt, take_succ hlt', HE.out, hxy])
          have hn : (xs[k] != ys[k]) = false := by simpa using hxy
          clear hxy
          go_wp2_with fail
          go_quiet (fail)
          go_wp2
          go_roundw
          case rel => exact ⟨k + 1, by omega, by go_num, HE'.out, _, rfl⟩
          case measure => simp [intOf]; omega
        · have hn : (xs[k] != ys[k]) = true := by simpa using hxy
          have HF := hide (show (xs == ys) = false by
            apply beq_eq_false_iff_ne.2
            intro e
            subst e
            exact hxy rfl)
          clear hxy
          go_wp2_with fail
          go_quiet (fail)
          go_wp2
          go_ret
          exact ⟨ret_bool HF.out.symm, _, World.drewN_drewN ..⟩
      · have HF := hide (show (xs == ys) = true by
          have e := HE.out
          have := HL.out
          rw [List.take_of_length_le (by omega), List.take_of_length_le (by omega)] at e
          subst e
          simp)
        clear hr hr'
        go_wp2
        go_ret
        exact ⟨ret_bool HF.out.symm, _, rfl⟩
  · have h1 : (((xs.length : Nat) : Int) != (ys.length : Nat)) = true := by simp; omega
    have h2 : (xs == ys) = false := by simp; intro e; exact hl (by rw [e])
    have H2 := hide h2
    clear h2 hl
    go_enter Try.func170, Try.ntmps170
    go_wp2
    go_ret
    exact ⟨ret_bool H2.out.symm, 0, rfl⟩

def marks (k0 : Int) (n : Nat) : List Int := (List.range n).map fun (i : Nat) => (k0 + (i : Int)) % 256
theorem marks_len (k0 : Int) (n : Nat) : (marks k0 n).length = n := by simp [marks]
theorem marks_at (k0 : Int) (n i : Nat) (h : i < n) : (marks k0 n)[i]'(by rw [marks_len]; exact h) = (k0 + i) % 256 := by simp [marks]
theorem marks_set (k0 : Int) (n i : Nat) (xs : List Int) (h : i < xs.length) (hn : xs.length = n) : (marks k0 i ++ xs.drop i).set i ((k0 + i) % 256) = marks k0 (i + 1) ++ xs.drop (i + 1) := by
  rw [List.set_append_right _ _ (by rw [marks_len]; exact Nat.le_refl _), marks_len, Nat.sub_self, List.drop_eq_getElem_cons h, List.set_cons_zero]
  simp [marks, List.range_succ]
theorem mark_any (base : Nat) (A : Option Addr) (c : Nat) (xs : List Int) (k0 : Int) (w : World) (h0 : 0 ≤ k0) (hk0 : k0 ≤ 4294967296) (hm : xs.length ≤ 4294967296)
    (hown : w.ownsRow base 5 1 (.slice A xs.length c) xs.length (ints .u8 xs)) :
    Calls Try.prog 124 #[.slice A xs.length c, .int .i64 k0] w fun e w' => e = .returned (.int .i64 (k0 + xs.length)) ∧ w'.ownsRow base 5 1 (.slice A xs.length c) xs.length (ints .u8 (marks k0 xs.length)) ∧ w.grownBy w' (Value.slice A xs.length c).ownBlock := by
  go_enter Try.func124, Try.ntmps124
  go_wp2
  have hg0 := World.grownBy.refl w (Value.slice A xs.length c).ownBlock
  go_loopw [1, 5] (fun k i wr => ∃ j : Nat, j ≤ xs.length ∧ i = .int .i64 j ∧ k = .int .i64 (k0 + j) ∧ wr.ownsRow base 5 1 (.slice A xs.length c) xs.length (ints .u8 (marks k0 j ++ xs.drop j)) ∧ w.grownBy wr (Value.slice A xs.length c).ownBlock) (fun _ i _ => xs.length - (intOf i).toNat)
  case atStart => exact ⟨0, Nat.zero_le _, rfl, by simp, by simpa [marks] using hown, hg0⟩
  case round =>
    obtain ⟨j, hj, rfl, rfl, ho, hg⟩ := hrel
    clear hown hg0
    by_cases hlt : j < xs.length
    · have hform : ∃ g, A = some ⟨g, 0, none⟩ := by
        rcases ho.2 with ⟨hv, h0⟩ | ⟨g, cap, cur, hv, _⟩
        · omega
        · injection hv with hA
          exact ⟨g, hA⟩
      obtain ⟨g, rfl⟩ := hform
      have hs := ho.stored j (.int .u8 ((k0 + j) % 256))
      have hcell := ho.cellAt j (by omega)
      have hfz := ho.frozenAt j
      have hlen : (marks k0 j ++ xs.drop j).length = xs.length := by rw [List.length_append, marks_len, List.length_drop]; omega
      have hold : (ints IntKind.u8 (marks k0 j ++ xs.drop j))[j]? = some (Value.int .u8 ((marks k0 j ++ xs.drop j)[j]'(by omega))) := by
        rw [List.getElem?_map, List.getElem?_eq_getElem (by omega)]; rfl
      rw [hold] at hcell
      generalize ((marks k0 j ++ xs.drop j)[j]'(by omega)) = old at hcell
      rw [setInts, marks_set k0 xs.length j xs hlt rfl] at hs
      obtain ⟨ho', hg'⟩ := hs
      have HH := hide (And.intro ho' (show w.grownBy _ (some g) from
        ⟨hg'.os.trans hg.os, hg'.tape.trans hg.tape, hg'.output.trans hg.output, Nat.le_trans hg.size hg'.size, fun k hk hne => (hg'.block k (Nat.lt_of_lt_of_le hk hg.size) hne).trans (hg.block k hk (by simpa [Value.ownBlock] using hne))⟩))
      clear hold ho' hg' hg ho hlen
      have e1 : k0 + (j : Int) + 1 = k0 + ((j + 1 : Nat) : Int) := by omega
      have E1 := hide e1
      clear e1
      go_wp2
      refine ⟨⟨j + 1, by omega, by go_num, by rw [E1.out], HH.out.1, HH.out.2⟩, by simp [intOf]; omega⟩
    · have e : j = xs.length := by omega
      subst e
      rw [List.drop_length, List.append_nil] at ho
      go_wp2
      go_ret
      exact ⟨rfl, ho, hg⟩
theorem held_any (B : Nat) (A : Option Addr) (c n : Nat) (k0 : Int) (w : World) (h0 : 0 ≤ k0) (hk0 : k0 ≤ 4294967296) (hm : n ≤ 4294967296) (hr : Rd w B A (ints .u8 (marks k0 n))) :
    Calls Try.prog 126 #[.slice A n c, .int .i64 k0] w (Pure (.int .i64 (k0 + n)) w) := by
  go_enter Try.func126, Try.ntmps126
  go_wp2
  go_loop [1, 5] (fun k i => ∃ j : Nat, j ≤ n ∧ i = .int .i64 j ∧ k = .int .i64 (k0 + j)) (fun _ i => n - (intOf i).toNat)
  case atStart => exact ⟨0, Nat.zero_le _, rfl, by simp⟩
  case round =>
    obtain ⟨j, hj, rfl, rfl⟩ := hrel
    by_cases hlt : j < n
    · obtain ⟨b, off, rfl, _, hc⟩ := hr.int (i := j) (by rw [marks_len]; exact hlt)
      rw [marks_at _ _ _ hlt] at hc
      have hne : ((k0 + (j : Int)) % 256 != (k0 + (j : Int)) % 256) = false := by simp
      have E1 := hide (show k0 + (j : Int) + 1 = k0 + ((j + 1 : Nat) : Int) by omega)
      clear hr
      go_wp2
      go_round
      case rel => exact ⟨j + 1, by omega, by go_num, by rw [E1.out]⟩
      case measure => simp [intOf]; omega
    · have e : j = n := by omega
      subst e
      clear hr
      go_wp2
      go_ret
      exact ⟨rfl, rfl⟩
end Go.Proofs.Ytmglgjchemecjaa.CBytes
