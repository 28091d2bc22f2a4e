/- The order of symbols; plain. -/
import Derived.Test.YtmglgjchemecjaaGreatFnExactLandmarksOfM5
import Derived.Lib.AppendStr
set_option linter.unusedSimpArgs false
set_option linter.unusedVariables false
namespace Go.Proofs.YtmglgjchemecjaaGreat.PSort
set_option maxRecDepth 200000
open Go.ChangeShapes Go.WideShapes Go.ChangeAt Go.RowKit Kit CFixups CSymbols PObj BObj PValid PWarn PClear WObj
def sl (a b : ByteArray) : Bool := Op.bytesLess a.toList b.toList
def loc (y : YD) : Bool := y.2.1 == 0
def bef (a b : YD) : Bool := bif loc a != loc b then loc a else sl a.1 b.1
def cmpS (a b : ByteArray) : Int := if sl a b = true then -1 else if (a.toList == b.toList) = true then 0 else 1
def grp (y : YD) : Int := if loc y = true then 0 else 1
def cmpN (a b : Int) : Int := if a < b then -1 else if b < a then 1 else 0
def cmpY (a b : YD) : Int := if cmpN (grp a) (grp b) ≠ 0 then cmpN (grp a) (grp b) else cmpS a.1 b.1
theorem cmp_lt (a b : YD) : decide (cmpY a b < 0) = bef a b := by
  unfold cmpY bef grp cmpN cmpS
  cases loc a <;> cases loc b <;> simp
  cases sl a.1 b.1
  · simp
    split <;> simp
  · simp
  · cases sl a.1 b.1
    · simp
      split <;> simp
    · simp
theorem cmp_bd (a b : YD) : -1 ≤ cmpY a b ∧ cmpY a b ≤ 1 := by
  unfold cmpY cmpN cmpS
  split <;> (repeat' split) <;> omega
section
variable (bf : Nat → Nat → Bool)
def pos (L : List Nat) (x : Nat) : Nat → Nat
  | 0 => 0
  | n + 1 => if bf x (L.getD n 0) = true then pos L x n else n + 1
def ins (L : List Nat) (x : Nat) : List Nat := L.take (pos bf L x L.length) ++ x :: L.drop (pos bf L x L.length)
def ord : Nat → List Nat
  | 0 => []
  | k + 1 => ins bf (ord k) k
theorem ins_perm (L : List Nat) (x : Nat) : (ins bf L x).Perm (x :: L) := by
  unfold ins
  refine List.perm_middle.trans (List.Perm.cons x ?_)
  rw [List.take_append_drop]
theorem ord_perm : ∀ n, (ord bf n).Perm (List.range n)
  | 0 => by simp [ord]
  | n + 1 => by
    rw [ord, List.range_succ]
    refine (ins_perm bf _ n).trans ((List.Perm.cons n (ord_perm n)).trans ?_)
    exact (List.perm_append_comm (l₁ := [n]) (l₂ := List.range n))
theorem ord_len (n : Nat) : (ord bf n).length = n := by rw [(ord_perm bf n).length_eq, List.length_range]
theorem ord_lt {n x : Nat} (h : x ∈ ord bf n) : x < n := List.mem_range.1 ((ord_perm bf n).mem_iff.1 h)
theorem ord_mem {n x : Nat} (h : x < n) : x ∈ ord bf n := (ord_perm bf n).mem_iff.2 (List.mem_range.2 h)
theorem ord_nodup (n : Nat) : (ord bf n).Nodup := (ord_perm bf n).nodup_iff.2 List.nodup_range
theorem ord_get {n k : Nat} (h : k < n) : (ord bf n).getD k 0 < n := by
  have hk : k < (ord bf n).length := by rw [ord_len]; exact h
  rw [List.getD_eq_getElem?_getD, List.getElem?_eq_getElem hk]
  exact ord_lt bf (List.getElem_mem hk)
end
/-- One swap of the insertion sort. -/
theorem swap_row (L : List Nat) (x j : Nat) (rest : List Nat) (h : j < L.length) : ((L.take (j + 1) ++ x :: L.drop (j + 1) ++ rest).set (j + 1) (L.getD j 0)).set j x = L.take j ++ x :: L.drop j ++ rest := by
  have h1 : L.take (j + 1) = L.take j ++ [L[j]] := take_succ h
  have h2 : L.drop j = L[j] :: L.drop (j + 1) := List.drop_eq_getElem_cons h
  have h3 : (L.take j).length = j := by rw [List.length_take]; omega
  have h4 : L.getD j 0 = L[j] := by rw [List.getD_eq_getElem?_getD, List.getElem?_eq_getElem h]; rfl
  rw [h1, h2, h4]
  generalize L.take j = T at *
  subst h3
  simp [List.set_append]
  rw [h2]
  rfl
theorem row_x (L : List Nat) (x j : Nat) (rest : List Nat) (h : j ≤ L.length) : (L.take j ++ x :: L.drop j ++ rest).getD j 0 = x := by
  have h3 : (L.take j).length = j := by rw [List.length_take]; omega
  rw [List.getD_eq_getElem?_getD, List.append_assoc, List.getElem?_append_right (by omega), h3]
  simp
theorem row_p (L : List Nat) (x j : Nat) (rest : List Nat) (h : j < L.length) : (L.take (j + 1) ++ x :: L.drop (j + 1) ++ rest).getD j 0 = L.getD j 0 := by
  have h3 : (L.take (j + 1)).length = j + 1 := by rw [List.length_take]; omega
  rw [List.getD_eq_getElem?_getD, List.append_assoc, List.getElem?_append_left (by omega), List.getElem?_take_of_lt (by omega), ← List.getD_eq_getElem?_getD]
def bfY (ys : List YD) (i j : Nat) : Bool := bef (ys.getD i dY) (ys.getD j dY)
def order (ys : List YD) : List Nat := ord (bfY ys) ys.length
def renum (L : List Nat) (f : FD) : FD := (f.1, f.2.1, ((L.idxOf f.2.2.1.toNat : Nat) : Int), f.2.2.2)
def sortS (L : List Nat) (s : SD) : SD := { s with fs := s.fs.map (renum L) }
def sortD (d : OD) : OD := bif objOk d then ⟨d.ss.map (sortS (order d.ys)), (order d.ys).map fun i => d.ys.getD i dY⟩ else ⟨[], []⟩
theorem toty_perm {a b : List YD} (h : a.Perm b) : toty a = toty b := by
  induction h with
  | nil => rfl
  | cons x _ ih => simp [toty, ih]
  | swap x y l => simp only [toty]; omega
  | trans _ _ h1 h2 => exact h1.trans h2
theorem map_range (ys : List YD) : (List.range ys.length).map (fun i => ys.getD i dY) = ys := by
  apply List.ext_getElem
  · simp
  · intro i h1 h2
    simp [List.getD_eq_getElem?_getD, List.getElem?_eq_getElem h2]
theorem sort_sum (d : OD) : sumD (sortD d) ≤ sumD d := by
  have h0 := sumD_nonneg d
  unfold sortD
  cases objOk d
  · simpa [sumD, tot, toty] using h0
  · simp only [sumD, cond_true, List.length_map]
    rw [tot_map (fun s => by simp [wt, sortS]), show (order d.ys).length = d.ys.length from ord_len _ _]
    have h := (ord_perm (bfY d.ys) d.ys.length).map (fun i => d.ys.getD i dY)
    rw [map_range] at h
    rw [toty_perm (show ((order d.ys).map fun i => d.ys.getD i dY).Perm d.ys from h)]
    exact Int.le_refl _
theorem sort_bad {d : OD} (h : objOk d = false) : sortD d = ⟨[], []⟩ := by rw [sortD, h]; rfl
/-- A section with its fixups numbered anew. -/
def renP (L : List Nat) (p : SV) : SV := { p with fs := p.fs.map (renum L) }
def renJ (L : List Nat) (p : SV) (j : Nat) : SV := { p with fs := (p.fs.take j).map (renum L) ++ p.fs.drop j }
theorem renJ_zero (L : List Nat) (p : SV) : renJ L p 0 = p := by simp [renJ]
theorem renJ_all (L : List Nat) (p : SV) {j : Nat} (h : p.fs.length ≤ j) : renJ L p j = renP L p := by
  simp [renJ, renP, List.take_of_length_le h, List.drop_of_length_le h]
theorem renJ_len (L : List Nat) (p : SV) (j : Nat) : (renJ L p j).fs.length = p.fs.length := by simp [renJ]; omega
theorem renJ_cells (L : List Nat) (p : SV) (j : Nat) : secC (renJ L p j) = secC p := by
  simp only [secC, renJ_len]
  rfl
theorem renJ_at (L : List Nat) (p : SV) (j : Nat) (h : j < p.fs.length) : (renJ L p j).fs[j]? = some p.fs[j] := by
  simp only [renJ]
  rw [List.getElem?_append_right (by simp; omega)]
  simp [List.length_take, Nat.min_eq_left (Nat.le_of_lt h), List.getElem?_eq_getElem h]
theorem renJ_succ (L : List Nat) (p : SV) (j : Nat) (h : j < p.fs.length) : renJ L p (j + 1) = { renJ L p j with fs := (renJ L p j).fs.set j (renum L p.fs[j]) } := by
  have h1 : p.fs.take (j + 1) = p.fs.take j ++ [p.fs[j]] := take_succ h
  have h2 : p.fs.drop j = p.fs[j] :: p.fs.drop (j + 1) := List.drop_eq_getElem_cons h
  have h3 : (p.fs.take j).length = j := by rw [List.length_take]; omega
  simp only [renJ, SV.mk.injEq, true_and]
  rw [h1, h2]
  generalize p.fs.take j = T at *
  subst h3
  simp [List.set_append]
  rw [h2]
  rfl
theorem sort_ok {ps : List SV} {ys : List YD} (h : objOk ⟨ps.map SV.d, ys⟩ = true) : sortD ⟨ps.map SV.d, ys⟩ = ⟨(ps.map (renP (order ys))).map SV.d, (order ys).map fun i => ys.getD i dY⟩ := by
  rw [sortD, h, cond_true, List.map_map, List.map_map]
  rfl
end Go.Proofs.YtmglgjchemecjaaGreat.PSort
/- Contracts of PutNumber and GetNumber, the program's and the reference's. -/
namespace Go.Proofs.YtmglgjchemecjaaGreat.CNumber
set_option maxRecDepth 200000
open Go.ChangeShapes Go.WideShapes Go.ChangeAt Go.RowKit Kit CCode
theorem info8 : (Tryz.prog.info? 5).map (fun i => (i.zero, i.size, i.bytes)) = some (some (.int .u8 0), 1, 1) := by kernel_rfl
/-- The w lowest bytes of a number, the lowest one first. -/
def putL : Nat → Int → List Int
  | 0, _ => []
  | w + 1, n => n % 256 :: putL w (n / 256)
theorem putL_len : ∀ (w : Nat) (n : Int), (putL w n).length = w
  | 0, _ => rfl
  | w + 1, n => by simp [putL, putL_len w]
theorem putL_bd : ∀ (w : Nat) (n : Int), InR 0 255 (putL w n)
  | 0, _ => fun x hx => by simp [putL] at hx
  | w + 1, n => fun x hx => by
    rcases List.mem_cons.1 hx with rfl | hx
    · omega
    · exact putL_bd w _ x hx
def all : Int → Int := fun w => if w = 1 then 255 else if w = 2 then 65535 else if w = 3 then 16777215 else 4294967295
def pnum (n wide : Int) : List Int := if inB wide 1 4 = true ∧ inB n 0 (all wide) = true then putL wide.toNat n else []
theorem putL_step {w w' : Nat} {m : Int} (h : w = w' + 1) : putL w m = m % 256 :: putL w' (m / 256) := by rw [h]; rfl
def powI : Int → Int := fun w => if w = 1 then 256 else if w = 2 then 65536 else if w = 3 then 16777216 else 4294967296
def p256 : Nat → Int
  | 0 => 1
  | k + 1 => 256 * p256 k
theorem p256_bd {k : Nat} (h : k < 4) : 0 ≤ p256 k ∧ p256 k ≤ 16777216 := by
  obtain rfl | rfl | rfl | rfl : k = 0 ∨ k = 1 ∨ k = 2 ∨ k = 3 := by omega
  all_goals simp [p256]
theorem p256_pow {k : Nat} (h : 1 ≤ k ∧ k ≤ 4) : p256 k = powI k := by
  obtain rfl | rfl | rfl | rfl : k = 1 ∨ k = 2 ∨ k = 3 ∨ k = 4 := by omega
  all_goals simp [p256, powI]
theorem power_any (W : Nat) (hW : 1 ≤ W ∧ W ≤ 4) (w : World) : Calls Tryz.prog 139 #[.int .i64 W] w (Pure (.int .i64 (powI W)) w) := by
  go_enter Tryz.func139, Tryz.ntmps139
  go_wp2_with fail
  go_loop [3, 4] (fun n i => ∃ k : Nat, k ≤ W ∧ i = .int .i64 k ∧ n = .int .i64 (p256 k)) (fun _ i => W - (intOf i).toNat)
  case atStart => exact ⟨0, by omega, rfl, rfl⟩
  case round =>
    obtain ⟨k, hk, rfl, rfl⟩ := hrel
    by_cases hlt : k < W
    · obtain ⟨b0, b1⟩ := p256_bd (k := k) (by omega)
      have HS := hide (show p256 (k + 1) = 256 * p256 k from rfl)
      generalize p256 k = q at *
      go_wp2_with fail
      go_round
      case rel => exact ⟨k + 1, by omega, by go_num, by rw [HS.out]⟩
      case measure => simp [intOf]; omega
    · have e : k = W := by omega
      subst e
      have HS := hide (p256_pow hW)
      go_wp2_with fail
      go_ret
      exact ⟨ret_int HS.out, rfl⟩
theorem putNumber_go (n : Int) (W : Nat) (w : World) (hW : 1 ≤ W ∧ W ≤ 4) (h0 : 0 ≤ n) (h1 : n ≤ all W) : Calls Tryz.prog 94 #[.int .i64 n, .int .i64 W] w (RetInts 5 .u8 (putL W n) w) := by
  obtain ⟨i0, hi, hz0, hz1, hz2⟩ := info_parts info8
  have hn : n ≤ 4294967295 := by unfold all at h1; split at h1 <;> (try split at h1) <;> (try split at h1) <;> omega
  have hA := inB_t (n := n) (lo := 0) (hi := all W) ⟨h0, h1⟩
  have ho0 := hide (own_empty (w := w) (E := 5))
  have hb0 : Hid (Below w.heap.size w (w.alloc (.cells #[] 5))) := (by repeat (first | exact Below.refl _ _ | with_reducible assumption | (refine Below.drew ?_) | (refine Below.drewN ?_ _) | (refine Below.alloc ?_ (by simp; try omega) _) | (refine Below.setCell ?_ (by simp; try omega) _)))
  obtain rfl | rfl | rfl | rfl : W = 1 ∨ W = 2 ∨ W = 3 ∨ W = 4 := by omega
  · have hb : inB 1 1 4 = true := by decide
    have hA' : inB n 0 255 = true := hA
    clear hA h1
    go_enter Tryz.func94, Tryz.ntmps94
    go_wp2_with (first | (go_at_call 114; refine (within_any _ _ _ _).mono ?_; rintro e w' ⟨rfl, rfl⟩) | (go_at_call 110; refine (l1In_any _ _ _ _).mono ?_; rintro e w' ⟨rfl, rfl⟩) | fail)
    clear hb hA'
    go_loopw [0, 5, 21] (fun n' v i wr => ∃ (k : Nat) (m : Int) (pre : List Int) (A : Option Addr) (l c : Nat), k ≤ 1 ∧ i = .int .i64 k ∧ n' = .int .i64 m ∧ 0 ≤ m ∧ m ≤ 4294967295 ∧ v = .slice A l c ∧ l = pre.length ∧ l = k ∧ pre ++ putL (1 - k) m = putL 1 n ∧ wr.ownsRow w.heap.size 5 1 (.slice A l c) l (ints .u8 pre) ∧ Below w.heap.size w wr) (fun _ _ i _ => 1 - (intOf i).toNat)
    case atStart => exact ⟨0, n, [], _, _, _, by omega, rfl, rfl, h0, hn, rfl, rfl, rfl, rfl, ho0.out, hb0.out⟩
    case round =>
      obtain ⟨k, m, pre, A, l, c, hk, rfl, rfl, m0, m1, rfl, hl, hlk, hpre, ho, hb⟩ := hrel
      have HL := hide hl
      have HP := hide hpre
      have HO := hide ho
      have HB := hide hb
      have HK := hide hlk
      have hl4 : l ≤ 4 := by omega
      clear hl hpre ho hb hlk h0 hn
      by_cases hlt : k < 1
      · have HS := hide (putL_step (m := m) (show 1 - k = (1 - (k + 1)) + 1 by omega))
        go_wp2_with (at_builtin; refine wpList_app1 wr rfl (.tmp 23) (.tmp 26) 34 rfl w.heap.size 5 i0 (.int .u8 0) 1 1 Tryz.underlying34 hi hz0 hz1 hz2 rfl (by decide) _ rfl rfl ?o1 _ _ _ rfl HO.out ?n1 ?n2 ?n3 ?_)
        case o1 => first | rfl | (simp; done) | (intro u hu; simp at hu; subst hu; rfl)
        case n1 => unfold maxLen; omega
        case n2 => omega
        case n3 => exact HB.out.size
        intro A' n' c' w' hn' ho' hg'
        subst hn'
        have HO' := hide ho'
        have HB' := hide (HB.out.grown hg' HB.out.size (fun k hk => (HO.out.lt k hk).1))
        clear ho' hg'
        go_wp2_with fail
        refine ⟨⟨k + 1, m / 256, pre ++ [m % 256], A', l + 1, c', by omega, by go_num, rfl, by omega, by omega, rfl, ?_, ?_, ?_, ?_, HB'.out⟩, by simp [intOf]; omega⟩
        · rw [HL.out]; simp
        · rw [HK.out]
        · rw [List.append_assoc, ← HP.out, HS.out]; rfl
        · rw [← ints_snoc]
          first | exact HO'.out | (simpa using HO'.out)
      · have e : 1 - k = 0 := by omega
        have HV := hide (show putL 1 n = pre by rw [← HP.out, e]; simp [putL])
        clear e
        go_wp2_with fail
        go_ret
        exact HV.out ▸ RetInts.mk HL.out HO.out HB.out
  · have hb : inB 2 1 4 = true := by decide
    have hA' : inB n 0 65535 = true := hA
    clear hA h1
    go_enter Tryz.func94, Tryz.ntmps94
    go_wp2_with (first | (go_at_call 114; refine (within_any _ _ _ _).mono ?_; rintro e w' ⟨rfl, rfl⟩) | (go_at_call 110; refine (l1In_any _ _ _ _).mono ?_; rintro e w' ⟨rfl, rfl⟩) | fail)
    clear hb hA'
    go_loopw [0, 5, 21] (fun n' v i wr => ∃ (k : Nat) (m : Int) (pre : List Int) (A : Option Addr) (l c : Nat), k ≤ 2 ∧ i = .int .i64 k ∧ n' = .int .i64 m ∧ 0 ≤ m ∧ m ≤ 4294967295 ∧ v = .slice A l c ∧ l = pre.length ∧ l = k ∧ pre ++ putL (2 - k) m = putL 2 n ∧ wr.ownsRow w.heap.size 5 1 (.slice A l c) l (ints .u8 pre) ∧ Below w.heap.size w wr) (fun _ _ i _ => 2 - (intOf i).toNat)
    case atStart => exact ⟨0, n, [], _, _, _, by omega, rfl, rfl, h0, hn, rfl, rfl, rfl, rfl, ho0.out, hb0.out⟩
    case round =>
      obtain ⟨k, m, pre, A, l, c, hk, rfl, rfl, m0, m1, rfl, hl, hlk, hpre, ho, hb⟩ := hrel
      have HL := hide hl
      have HP := hide hpre
      have HO := hide ho
      have HB := hide hb
      have HK := hide hlk
      have hl4 : l ≤ 4 := by omega
      clear hl hpre ho hb hlk h0 hn
      by_cases hlt : k < 2
      · have HS := hide (putL_step (m := m) (show 2 - k = (2 - (k + 1)) + 1 by omega))
        go_wp2_with (at_builtin; refine wpList_app1 wr rfl (.tmp 23) (.tmp 26) 34 rfl w.heap.size 5 i0 (.int .u8 0) 1 1 Tryz.underlying34 hi hz0 hz1 hz2 rfl (by decide) _ rfl rfl ?o1 _ _ _ rfl HO.out ?n1 ?n2 ?n3 ?_)
        case o1 => first | rfl | (simp; done) | (intro u hu; simp at hu; subst hu; rfl)
        case n1 => unfold maxLen; omega
        case n2 => omega
        case n3 => exact HB.out.size
        intro A' n' c' w' hn' ho' hg'
        subst hn'
        have HO' := hide ho'
        have HB' := hide (HB.out.grown hg' HB.out.size (fun k hk => (HO.out.lt k hk).1))
        clear ho' hg'
        go_wp2_with fail
        refine ⟨⟨k + 1, m / 256, pre ++ [m % 256], A', l + 1, c', by omega, by go_num, rfl, by omega, by omega, rfl, ?_, ?_, ?_, ?_, HB'.out⟩, by simp [intOf]; omega⟩
        · rw [HL.out]; simp
        · rw [HK.out]
        · rw [List.append_assoc, ← HP.out, HS.out]; rfl
        · rw [← ints_snoc]
          first | exact HO'.out | (simpa using HO'.out)
      · have e : 2 - k = 0 := by omega
        have HV := hide (show putL 2 n = pre by rw [← HP.out, e]; simp [putL])
        clear e
        go_wp2_with fail
        go_ret
        exact HV.out ▸ RetInts.mk HL.out HO.out HB.out
  · have hb : inB 3 1 4 = true := by decide
    have hA' : inB n 0 16777215 = true := hA
    clear hA h1
    go_enter Tryz.func94, Tryz.ntmps94
    go_wp2_with (first | (go_at_call 114; refine (within_any _ _ _ _).mono ?_; rintro e w' ⟨rfl, rfl⟩) | (go_at_call 110; refine (l1In_any _ _ _ _).mono ?_; rintro e w' ⟨rfl, rfl⟩) | fail)
    clear hb hA'
    go_loopw [0, 5, 21] (fun n' v i wr => ∃ (k : Nat) (m : Int) (pre : List Int) (A : Option Addr) (l c : Nat), k ≤ 3 ∧ i = .int .i64 k ∧ n' = .int .i64 m ∧ 0 ≤ m ∧ m ≤ 4294967295 ∧ v = .slice A l c ∧ l = pre.length ∧ l = k ∧ pre ++ putL (3 - k) m = putL 3 n ∧ wr.ownsRow w.heap.size 5 1 (.slice A l c) l (ints .u8 pre) ∧ Below w.heap.size w wr) (fun _ _ i _ => 3 - (intOf i).toNat)
    case atStart => exact ⟨0, n, [], _, _, _, by omega, rfl, rfl, h0, hn, rfl, rfl, rfl, rfl, ho0.out, hb0.out⟩
    case round =>
      obtain ⟨k, m, pre, A, l, c, hk, rfl, rfl, m0, m1, rfl, hl, hlk, hpre, ho, hb⟩ := hrel
      have HL := hide hl
      have HP := hide hpre
      have HO := hide ho
      have HB := hide hb
      have HK := hide hlk
      have hl4 : l ≤ 4 := by omega
      clear hl hpre ho hb hlk h0 hn
      by_cases hlt : k < 3
      · have HS := hide (putL_step (m := m) (show 3 - k = (3 - (k + 1)) + 1 by omega))
        go_wp2_with (at_builtin; refine wpList_app1 wr rfl (.tmp 23) (.tmp 26) 34 rfl w.heap.size 5 i0 (.int .u8 0) 1 1 Tryz.underlying34 hi hz0 hz1 hz2 rfl (by decide) _ rfl rfl ?o1 _ _ _ rfl HO.out ?n1 ?n2 ?n3 ?_)
        case o1 => first | rfl | (simp; done) | (intro u hu; simp at hu; subst hu; rfl)
        case n1 => unfold maxLen; omega
        case n2 => omega
        case n3 => exact HB.out.size
        intro A' n' c' w' hn' ho' hg'
        subst hn'
        have HO' := hide ho'
        have HB' := hide (HB.out.grown hg' HB.out.size (fun k hk => (HO.out.lt k hk).1))
        clear ho' hg'
        go_wp2_with fail
        refine ⟨⟨k + 1, m / 256, pre ++ [m % 256], A', l + 1, c', by omega, by go_num, rfl, by omega, by omega, rfl, ?_, ?_, ?_, ?_, HB'.out⟩, by simp [intOf]; omega⟩
        · rw [HL.out]; simp
        · rw [HK.out]
        · rw [List.append_assoc, ← HP.out, HS.out]; rfl
        · rw [← ints_snoc]
          first | exact HO'.out | (simpa using HO'.out)
      · have e : 3 - k = 0 := by omega
        have HV := hide (show putL 3 n = pre by rw [← HP.out, e]; simp [putL])
        clear e
        go_wp2_with fail
        go_ret
        exact HV.out ▸ RetInts.mk HL.out HO.out HB.out
  · have hb : inB 4 1 4 = true := by decide
    have hA' : inB n 0 4294967295 = true := hA
    clear hA h1
    go_enter Tryz.func94, Tryz.ntmps94
    go_wp2_with (first | (go_at_call 114; refine (within_any _ _ _ _).mono ?_; rintro e w' ⟨rfl, rfl⟩) | (go_at_call 110; refine (l1In_any _ _ _ _).mono ?_; rintro e w' ⟨rfl, rfl⟩) | fail)
    clear hb hA'
    go_loopw [0, 5, 21] (fun n' v i wr => ∃ (k : Nat) (m : Int) (pre : List Int) (A : Option Addr) (l c : Nat), k ≤ 4 ∧ i = .int .i64 k ∧ n' = .int .i64 m ∧ 0 ≤ m ∧ m ≤ 4294967295 ∧ v = .slice A l c ∧ l = pre.length ∧ l = k ∧ pre ++ putL (4 - k) m = putL 4 n ∧ wr.ownsRow w.heap.size 5 1 (.slice A l c) l (ints .u8 pre) ∧ Below w.heap.size w wr) (fun _ _ i _ => 4 - (intOf i).toNat)
    case atStart => exact ⟨0, n, [], _, _, _, by omega, rfl, rfl, h0, hn, rfl, rfl, rfl, rfl, ho0.out, hb0.out⟩
    case round =>
      obtain ⟨k, m, pre, A, l, c, hk, rfl, rfl, m0, m1, rfl, hl, hlk, hpre, ho, hb⟩ := hrel
      have HL := hide hl
      have HP := hide hpre
      have HO := hide ho
      have HB := hide hb
      have HK := hide hlk
      have hl4 : l ≤ 4 := by omega
      clear hl hpre ho hb hlk h0 hn
      by_cases hlt : k < 4
      · have HS := hide (putL_step (m := m) (show 4 - k = (4 - (k + 1)) + 1 by omega))
        go_wp2_with (at_builtin; refine wpList_app1 wr rfl (.tmp 23) (.tmp 26) 34 rfl w.heap.size 5 i0 (.int .u8 0) 1 1 Tryz.underlying34 hi hz0 hz1 hz2 rfl (by decide) _ rfl rfl ?o1 _ _ _ rfl HO.out ?n1 ?n2 ?n3 ?_)
        case o1 => first | rfl | (simp; done) | (intro u hu; simp at hu; subst hu; rfl)
        case n1 => unfold maxLen; omega
        case n2 => omega
        case n3 => exact HB.out.size
        intro A' n' c' w' hn' ho' hg'
        subst hn'
        have HO' := hide ho'
        have HB' := hide (HB.out.grown hg' HB.out.size (fun k hk => (HO.out.lt k hk).1))
        clear ho' hg'
        go_wp2_with fail
        refine ⟨⟨k + 1, m / 256, pre ++ [m % 256], A', l + 1, c', by omega, by go_num, rfl, by omega, by omega, rfl, ?_, ?_, ?_, ?_, HB'.out⟩, by simp [intOf]; omega⟩
        · rw [HL.out]; simp
        · rw [HK.out]
        · rw [List.append_assoc, ← HP.out, HS.out]; rfl
        · rw [← ints_snoc]
          first | exact HO'.out | (simpa using HO'.out)
      · have e : 4 - k = 0 := by omega
        have HV := hide (show putL 4 n = pre by rw [← HP.out, e]; simp [putL])
        clear e
        go_wp2_with fail
        go_ret
        exact HV.out ▸ RetInts.mk HL.out HO.out HB.out
theorem putNumberS_go (n : Int) (W : Nat) (w : World) (hW : 1 ≤ W ∧ W ≤ 4) (h0 : 0 ≤ n) (h1 : n ≤ all W) : Calls Tryz.prog 86 #[.int .i64 n, .int .i64 W] w (RetInts 5 .u8 (putL W n) w) := by
  obtain ⟨i0, hi, hz0, hz1, hz2⟩ := info_parts info8
  have hn : n ≤ 4294967295 := by unfold all at h1; split at h1 <;> (try split at h1) <;> (try split at h1) <;> omega
  have hA := inB_t (n := n) (lo := 0) (hi := all W) ⟨h0, h1⟩
  have ho0 := hide (own_empty (w := w) (E := 5))
  have hb0 : Hid (Below w.heap.size w (w.alloc (.cells #[] 5))) := (by repeat (first | exact Below.refl _ _ | with_reducible assumption | (refine Below.drew ?_) | (refine Below.drewN ?_ _) | (refine Below.alloc ?_ (by simp; try omega) _) | (refine Below.setCell ?_ (by simp; try omega) _)))
  obtain rfl | rfl | rfl | rfl : W = 1 ∨ W = 2 ∨ W = 3 ∨ W = 4 := by omega
  · have hb : inB 1 1 4 = true := by decide
    have hA' : inB n 0 255 = true := hA
    have hpw : powI 1 = 256 := rfl
    clear hA h1
    go_enter Tryz.func86, Tryz.ntmps86
    go_wp2_with (first | (go_at_call 110; refine (l1In_any _ _ _ _).mono ?_; rintro e w' ⟨rfl, rfl⟩) | (go_at_call 139; refine (power_any 1 (by omega) _).mono ?_; rintro e w' ⟨rfl, rfl⟩))
    clear hb hA'
    go_loopw [0, 5, 6] (fun n' v i wr => ∃ (k : Nat) (m : Int) (pre : List Int) (A : Option Addr) (l c : Nat), k ≤ 1 ∧ i = .int .i64 k ∧ n' = .int .i64 m ∧ 0 ≤ m ∧ m ≤ 4294967295 ∧ v = .slice A l c ∧ l = pre.length ∧ l = k ∧ pre ++ putL (1 - k) m = putL 1 n ∧ wr.ownsRow w.heap.size 5 1 (.slice A l c) l (ints .u8 pre) ∧ Below w.heap.size w wr) (fun _ _ i _ => 1 - (intOf i).toNat)
    case atStart => exact ⟨0, n, [], _, _, _, by omega, rfl, rfl, h0, hn, rfl, rfl, rfl, rfl, ho0.out, hb0.out⟩
    case round =>
      obtain ⟨k, m, pre, A, l, c, hk, rfl, rfl, m0, m1, rfl, hl, hlk, hpre, ho, hb⟩ := hrel
      have HL := hide hl
      have HP := hide hpre
      have HO := hide ho
      have HB := hide hb
      have HK := hide hlk
      have hl4 : l ≤ 4 := by omega
      clear hl hpre ho hb hlk h0 hn
      by_cases hlt : k < 1
      · have HS := hide (putL_step (m := m) (show 1 - k = (1 - (k + 1)) + 1 by omega))
        go_wp2_with (at_builtin; refine wpList_app1 wr rfl (.tmp 25) (.tmp 29) 34 rfl w.heap.size 5 i0 (.int .u8 0) 1 1 Tryz.underlying34 hi hz0 hz1 hz2 rfl (by decide) _ rfl rfl ?o1 _ _ _ rfl HO.out ?n1 ?n2 ?n3 ?_)
        case o1 => first | rfl | (simp; done) | (intro u hu; simp at hu; subst hu; rfl)
        case n1 => unfold maxLen; omega
        case n2 => omega
        case n3 => exact HB.out.size
        intro A' n' c' w' hn' ho' hg'
        subst hn'
        have HO' := hide ho'
        have HB' := hide (HB.out.grown hg' HB.out.size (fun k hk => (HO.out.lt k hk).1))
        clear ho' hg'
        go_wp2_with fail
        refine ⟨⟨k + 1, m / 256, pre ++ [m % 256], A', l + 1, c', by omega, by go_num, rfl, by omega, by omega, rfl, ?_, ?_, ?_, ?_, HB'.out⟩, by simp [intOf]; omega⟩
        · rw [HL.out]; simp
        · rw [HK.out]
        · rw [List.append_assoc, ← HP.out, HS.out]; rfl
        · rw [← ints_snoc]
          first | exact HO'.out | (simpa using HO'.out)
      · have e : 1 - k = 0 := by omega
        have HV := hide (show putL 1 n = pre by rw [← HP.out, e]; simp [putL])
        clear e
        go_wp2_with fail
        go_ret
        exact HV.out ▸ RetInts.mk HL.out HO.out HB.out
  · have hb : inB 2 1 4 = true := by decide
    have hA' : inB n 0 65535 = true := hA
    have hpw : powI 2 = 65536 := rfl
    clear hA h1
    go_enter Tryz.func86, Tryz.ntmps86
    go_wp2_with (first | (go_at_call 110; refine (l1In_any _ _ _ _).mono ?_; rintro e w' ⟨rfl, rfl⟩) | (go_at_call 139; refine (power_any 2 (by omega) _).mono ?_; rintro e w' ⟨rfl, rfl⟩))
    clear hb hA'
    go_loopw [0, 5, 6] (fun n' v i wr => ∃ (k : Nat) (m : Int) (pre : List Int) (A : Option Addr) (l c : Nat), k ≤ 2 ∧ i = .int .i64 k ∧ n' = .int .i64 m ∧ 0 ≤ m ∧ m ≤ 4294967295 ∧ v = .slice A l c ∧ l = pre.length ∧ l = k ∧ pre ++ putL (2 - k) m = putL 2 n ∧ wr.ownsRow w.heap.size 5 1 (.slice A l c) l (ints .u8 pre) ∧ Below w.heap.size w wr) (fun _ _ i _ => 2 - (intOf i).toNat)
    case atStart => exact ⟨0, n, [], _, _, _, by omega, rfl, rfl, h0, hn, rfl, rfl, rfl, rfl, ho0.out, hb0.out⟩
    case round =>
      obtain ⟨k, m, pre, A, l, c, hk, rfl, rfl, m0, m1, rfl, hl, hlk, hpre, ho, hb⟩ := hrel
      have HL := hide hl
      have HP := hide hpre
      have HO := hide ho
      have HB := hide hb
      have HK := hide hlk
      have hl4 : l ≤ 4 := by omega
      clear hl hpre ho hb hlk h0 hn
      by_cases hlt : k < 2
      · have HS := hide (putL_step (m := m) (show 2 - k = (2 - (k + 1)) + 1 by omega))
        go_wp2_with (at_builtin; refine wpList_app1 wr rfl (.tmp 25) (.tmp 29) 34 rfl w.heap.size 5 i0 (.int .u8 0) 1 1 Tryz.underlying34 hi hz0 hz1 hz2 rfl (by decide) _ rfl rfl ?o1 _ _ _ rfl HO.out ?n1 ?n2 ?n3 ?_)
        case o1 => first | rfl | (simp; done) | (intro u hu; simp at hu; subst hu; rfl)
        case n1 => unfold maxLen; omega
        case n2 => omega
        case n3 => exact HB.out.size
        intro A' n' c' w' hn' ho' hg'
        subst hn'
        have HO' := hide ho'
        have HB' := hide (HB.out.grown hg' HB.out.size (fun k hk => (HO.out.lt k hk).1))
        clear ho' hg'
        go_wp2_with fail
        refine ⟨⟨k + 1, m / 256, pre ++ [m % 256], A', l + 1, c', by omega, by go_num, rfl, by omega, by omega, rfl, ?_, ?_, ?_, ?_, HB'.out⟩, by simp [intOf]; omega⟩
        · rw [HL.out]; simp
        · rw [HK.out]
        · rw [List.append_assoc, ← HP.out, HS.out]; rfl
        · rw [← ints_snoc]
          first | exact HO'.out | (simpa using HO'.out)
      · have e : 2 - k = 0 := by omega
        have HV := hide (show putL 2 n = pre by rw [← HP.out, e]; simp [putL])
        clear e
        go_wp2_with fail
        go_ret
        exact HV.out ▸ RetInts.mk HL.out HO.out HB.out
  · have hb : inB 3 1 4 = true := by decide
    have hA' : inB n 0 16777215 = true := hA
    have hpw : powI 3 = 16777216 := rfl
    clear hA h1
    go_enter Tryz.func86, Tryz.ntmps86
    go_wp2_with (first | (go_at_call 110; refine (l1In_any _ _ _ _).mono ?_; rintro e w' ⟨rfl, rfl⟩) | (go_at_call 139; refine (power_any 3 (by omega) _).mono ?_; rintro e w' ⟨rfl, rfl⟩))
    clear hb hA'
    go_loopw [0, 5, 6] (fun n' v i wr => ∃ (k : Nat) (m : Int) (pre : List Int) (A : Option Addr) (l c : Nat), k ≤ 3 ∧ i = .int .i64 k ∧ n' = .int .i64 m ∧ 0 ≤ m ∧ m ≤ 4294967295 ∧ v = .slice A l c ∧ l = pre.length ∧ l = k ∧ pre ++ putL (3 - k) m = putL 3 n ∧ wr.ownsRow w.heap.size 5 1 (.slice A l c) l (ints .u8 pre) ∧ Below w.heap.size w wr) (fun _ _ i _ => 3 - (intOf i).toNat)
    case atStart => exact ⟨0, n, [], _, _, _, by omega, rfl, rfl, h0, hn, rfl, rfl, rfl, rfl, ho0.out, hb0.out⟩
    case round =>
      obtain ⟨k, m, pre, A, l, c, hk, rfl, rfl, m0, m1, rfl, hl, hlk, hpre, ho, hb⟩ := hrel
      have HL := hide hl
      have HP := hide hpre
      have HO := hide ho
      have HB := hide hb
      have HK := hide hlk
      have hl4 : l ≤ 4 := by omega
      clear hl hpre ho hb hlk h0 hn
      by_cases hlt : k < 3
      · have HS := hide (putL_step (m := m) (show 3 - k = (3 - (k + 1)) + 1 by omega))
        go_wp2_with (at_builtin; refine wpList_app1 wr rfl (.tmp 25) (.tmp 29) 34 rfl w.heap.size 5 i0 (.int .u8 0) 1 1 Tryz.underlying34 hi hz0 hz1 hz2 rfl (by decide) _ rfl rfl ?o1 _ _ _ rfl HO.out ?n1 ?n2 ?n3 ?_)
        case o1 => first | rfl | (simp; done) | (intro u hu; simp at hu; subst hu; rfl)
        case n1 => unfold maxLen; omega
        case n2 => omega
        case n3 => exact HB.out.size
        intro A' n' c' w' hn' ho' hg'
        subst hn'
        have HO' := hide ho'
        have HB' := hide (HB.out.grown hg' HB.out.size (fun k hk => (HO.out.lt k hk).1))
        clear ho' hg'
        go_wp2_with fail
        refine ⟨⟨k + 1, m / 256, pre ++ [m % 256], A', l + 1, c', by omega, by go_num, rfl, by omega, by omega, rfl, ?_, ?_, ?_, ?_, HB'.out⟩, by simp [intOf]; omega⟩
        · rw [HL.out]; simp
        · rw [HK.out]
        · rw [List.append_assoc, ← HP.out, HS.out]; rfl
        · rw [← ints_snoc]
          first | exact HO'.out | (simpa using HO'.out)
      · have e : 3 - k = 0 := by omega
        have HV := hide (show putL 3 n = pre by rw [← HP.out, e]; simp [putL])
        clear e
        go_wp2_with fail
        go_ret
        exact HV.out ▸ RetInts.mk HL.out HO.out HB.out
  · have hb : inB 4 1 4 = true := by decide
    have hA' : inB n 0 4294967295 = true := hA
    have hpw : powI 4 = 4294967296 := rfl
    clear hA h1
    go_enter Tryz.func86, Tryz.ntmps86
    go_wp2_with (first | (go_at_call 110; refine (l1In_any _ _ _ _).mono ?_; rintro e w' ⟨rfl, rfl⟩) | (go_at_call 139; refine (power_any 4 (by omega) _).mono ?_; rintro e w' ⟨rfl, rfl⟩))
    clear hb hA'
    go_loopw [0, 5, 6] (fun n' v i wr => ∃ (k : Nat) (m : Int) (pre : List Int) (A : Option Addr) (l c : Nat), k ≤ 4 ∧ i = .int .i64 k ∧ n' = .int .i64 m ∧ 0 ≤ m ∧ m ≤ 4294967295 ∧ v = .slice A l c ∧ l = pre.length ∧ l = k ∧ pre ++ putL (4 - k) m = putL 4 n ∧ wr.ownsRow w.heap.size 5 1 (.slice A l c) l (ints .u8 pre) ∧ Below w.heap.size w wr) (fun _ _ i _ => 4 - (intOf i).toNat)
    case atStart => exact ⟨0, n, [], _, _, _, by omega, rfl, rfl, h0, hn, rfl, rfl, rfl, rfl, ho0.out, hb0.out⟩
    case round =>
      obtain ⟨k, m, pre, A, l, c, hk, rfl, rfl, m0, m1, rfl, hl, hlk, hpre, ho, hb⟩ := hrel
      have HL := hide hl
      have HP := hide hpre
      have HO := hide ho
      have HB := hide hb
      have HK := hide hlk
      have hl4 : l ≤ 4 := by omega
      clear hl hpre ho hb hlk h0 hn
      by_cases hlt : k < 4
      · have HS := hide (putL_step (m := m) (show 4 - k = (4 - (k + 1)) + 1 by omega))
        go_wp2_with (at_builtin; refine wpList_app1 wr rfl (.tmp 25) (.tmp 29) 34 rfl w.heap.size 5 i0 (.int .u8 0) 1 1 Tryz.underlying34 hi hz0 hz1 hz2 rfl (by decide) _ rfl rfl ?o1 _ _ _ rfl HO.out ?n1 ?n2 ?n3 ?_)
        case o1 => first | rfl | (simp; done) | (intro u hu; simp at hu; subst hu; rfl)
        case n1 => unfold maxLen; omega
        case n2 => omega
        case n3 => exact HB.out.size
        intro A' n' c' w' hn' ho' hg'
        subst hn'
        have HO' := hide ho'
        have HB' := hide (HB.out.grown hg' HB.out.size (fun k hk => (HO.out.lt k hk).1))
        clear ho' hg'
        go_wp2_with fail
        refine ⟨⟨k + 1, m / 256, pre ++ [m % 256], A', l + 1, c', by omega, by go_num, rfl, by omega, by omega, rfl, ?_, ?_, ?_, ?_, HB'.out⟩, by simp [intOf]; omega⟩
        · rw [HL.out]; simp
        · rw [HK.out]
        · rw [List.append_assoc, ← HP.out, HS.out]; rfl
        · rw [← ints_snoc]
          first | exact HO'.out | (simpa using HO'.out)
      · have e : 4 - k = 0 := by omega
        have HV := hide (show putL 4 n = pre by rw [← HP.out, e]; simp [putL])
        clear e
        go_wp2_with fail
        go_ret
        exact HV.out ▸ RetInts.mk HL.out HO.out HB.out
theorem putNumber_any (n wide : Int) (w : World) : Calls Tryz.prog 94 #[.int .i64 n, .int .i64 wide] w (RetInts 5 .u8 (pnum n wide) w) := by
  by_cases hw : 1 ≤ wide ∧ wide ≤ 4
  · obtain ⟨W, rfl⟩ := Int.eq_ofNat_of_zero_le (show 0 ≤ wide by omega)
    by_cases hn : 0 ≤ n ∧ n ≤ all W
    · rw [show pnum n W = putL W n by rw [pnum, if_pos ⟨inB_t hw, inB_t hn⟩]; rfl]
      exact putNumber_go n W w (by omega) hn.1 hn.2
    · rw [show pnum n W = [] by rw [pnum, if_neg (by rw [inB_f hn]; simp)]]
      have hA := inB_f (n := n) (lo := 0) (hi := all W) hn
      obtain rfl | rfl | rfl | rfl : W = 1 ∨ W = 2 ∨ W = 3 ∨ W = 4 := by omega
      · have hb : inB 1 1 4 = true := by decide
        have hA' : inB n 0 255 = false := hA
        clear hA hn hw
        go_enter Tryz.func94, Tryz.ntmps94
        go_wp2_with (first | (go_at_call 114; refine (within_any _ _ _ _).mono ?_; rintro e w' ⟨rfl, rfl⟩) | (go_at_call 110; refine (l1In_any _ _ _ _).mono ?_; rintro e w' ⟨rfl, rfl⟩) | fail)
        go_ret
        exact RetInts.nil (Below.refl _ _)
      · have hb : inB 2 1 4 = true := by decide
        have hA' : inB n 0 65535 = false := hA
        clear hA hn hw
        go_enter Tryz.func94, Tryz.ntmps94
        go_wp2_with (first | (go_at_call 114; refine (within_any _ _ _ _).mono ?_; rintro e w' ⟨rfl, rfl⟩) | (go_at_call 110; refine (l1In_any _ _ _ _).mono ?_; rintro e w' ⟨rfl, rfl⟩) | fail)
        go_ret
        exact RetInts.nil (Below.refl _ _)
      · have hb : inB 3 1 4 = true := by decide
        have hA' : inB n 0 16777215 = false := hA
        clear hA hn hw
        go_enter Tryz.func94, Tryz.ntmps94
        go_wp2_with (first | (go_at_call 114; refine (within_any _ _ _ _).mono ?_; rintro e w' ⟨rfl, rfl⟩) | (go_at_call 110; refine (l1In_any _ _ _ _).mono ?_; rintro e w' ⟨rfl, rfl⟩) | fail)
        go_ret
        exact RetInts.nil (Below.refl _ _)
      · have hb : inB 4 1 4 = true := by decide
        have hA' : inB n 0 4294967295 = false := hA
        clear hA hn hw
        go_enter Tryz.func94, Tryz.ntmps94
        go_wp2_with (first | (go_at_call 114; refine (within_any _ _ _ _).mono ?_; rintro e w' ⟨rfl, rfl⟩) | (go_at_call 110; refine (l1In_any _ _ _ _).mono ?_; rintro e w' ⟨rfl, rfl⟩) | fail)
        go_ret
        exact RetInts.nil (Below.refl _ _)
  · rw [show pnum n wide = [] by rw [pnum, if_neg (by rw [inB_f hw]; simp)]]
    have hb := inB_f hw
    clear hw
    go_enter Tryz.func94, Tryz.ntmps94
    go_wp2_with (first | (go_at_call 114; refine (within_any _ _ _ _).mono ?_; rintro e w' ⟨rfl, rfl⟩) | (go_at_call 110; refine (l1In_any _ _ _ _).mono ?_; rintro e w' ⟨rfl, rfl⟩) | fail)
    go_ret
    exact RetInts.nil (Below.refl _ _)
theorem putNumberS_any (n wide : Int) (w : World) : Calls Tryz.prog 86 #[.int .i64 n, .int .i64 wide] w (RetInts 5 .u8 (pnum n wide) w) := by
  by_cases hw : 1 ≤ wide ∧ wide ≤ 4
  · obtain ⟨W, rfl⟩ := Int.eq_ofNat_of_zero_le (show 0 ≤ wide by omega)
    by_cases hn : 0 ≤ n ∧ n ≤ all W
    · rw [show pnum n W = putL W n by rw [pnum, if_pos ⟨inB_t hw, inB_t hn⟩]; rfl]
      exact putNumberS_go n W w (by omega) hn.1 hn.2
    · rw [show pnum n W = [] by rw [pnum, if_neg (by rw [inB_f hn]; simp)]]
      have hA := inB_f (n := n) (lo := 0) (hi := all W) hn
      obtain rfl | rfl | rfl | rfl : W = 1 ∨ W = 2 ∨ W = 3 ∨ W = 4 := by omega
      · have hb : inB 1 1 4 = true := by decide
        have hA' : inB n 0 255 = false := hA
        have hpw : powI 1 = 256 := rfl
        clear hA hn hw
        go_enter Tryz.func86, Tryz.ntmps86
        go_wp2_with (first | (go_at_call 110; refine (l1In_any _ _ _ _).mono ?_; rintro e w' ⟨rfl, rfl⟩) | (go_at_call 139; refine (power_any 1 (by omega) _).mono ?_; rintro e w' ⟨rfl, rfl⟩))
        go_ret
        exact RetInts.mk rfl own_empty (by repeat (first | exact Below.refl _ _ | with_reducible assumption | (refine Below.drew ?_) | (refine Below.drewN ?_ _) | (refine Below.alloc ?_ (by simp; try omega) _) | (refine Below.setCell ?_ (by simp; try omega) _)))
      · have hb : inB 2 1 4 = true := by decide
        have hA' : inB n 0 65535 = false := hA
        have hpw : powI 2 = 65536 := rfl
        clear hA hn hw
        go_enter Tryz.func86, Tryz.ntmps86
        go_wp2_with (first | (go_at_call 110; refine (l1In_any _ _ _ _).mono ?_; rintro e w' ⟨rfl, rfl⟩) | (go_at_call 139; refine (power_any 2 (by omega) _).mono ?_; rintro e w' ⟨rfl, rfl⟩))
        go_ret
        exact RetInts.mk rfl own_empty (by repeat (first | exact Below.refl _ _ | with_reducible assumption | (refine Below.drew ?_) | (refine Below.drewN ?_ _) | (refine Below.alloc ?_ (by simp; try omega) _) | (refine Below.setCell ?_ (by simp; try omega) _)))
      · have hb : inB 3 1 4 = true := by decide
        have hA' : inB n 0 16777215 = false := hA
        have hpw : powI 3 = 16777216 := rfl
        clear hA hn hw
        go_enter Tryz.func86, Tryz.ntmps86
        go_wp2_with (first | (go_at_call 110; refine (l1In_any _ _ _ _).mono ?_; rintro e w' ⟨rfl, rfl⟩) | (go_at_call 139; refine (power_any 3 (by omega) _).mono ?_; rintro e w' ⟨rfl, rfl⟩))
        go_ret
        exact RetInts.mk rfl own_empty (by repeat (first | exact Below.refl _ _ | with_reducible assumption | (refine Below.drew ?_) | (refine Below.drewN ?_ _) | (refine Below.alloc ?_ (by simp; try omega) _) | (refine Below.setCell ?_ (by simp; try omega) _)))
      · have hb : inB 4 1 4 = true := by decide
        have hA' : inB n 0 4294967295 = false := hA
        have hpw : powI 4 = 4294967296 := rfl
        clear hA hn hw
        go_enter Tryz.func86, Tryz.ntmps86
        go_wp2_with (first | (go_at_call 110; refine (l1In_any _ _ _ _).mono ?_; rintro e w' ⟨rfl, rfl⟩) | (go_at_call 139; refine (power_any 4 (by omega) _).mono ?_; rintro e w' ⟨rfl, rfl⟩))
        go_ret
        exact RetInts.mk rfl own_empty (by repeat (first | exact Below.refl _ _ | with_reducible assumption | (refine Below.drew ?_) | (refine Below.drewN ?_ _) | (refine Below.alloc ?_ (by simp; try omega) _) | (refine Below.setCell ?_ (by simp; try omega) _)))
  · rw [show pnum n wide = [] by rw [pnum, if_neg (by rw [inB_f hw]; simp)]]
    have hb := inB_f hw
    clear hw
    go_enter Tryz.func86, Tryz.ntmps86
    go_wp2_with (first | (go_at_call 114; refine (within_any _ _ _ _).mono ?_; rintro e w' ⟨rfl, rfl⟩) | (go_at_call 110; refine (l1In_any _ _ _ _).mono ?_; rintro e w' ⟨rfl, rfl⟩) | fail)
    go_ret
    exact RetInts.mk rfl own_empty (by repeat (first | exact Below.refl _ _ | with_reducible assumption | (refine Below.drew ?_) | (refine Below.drewN ?_ _) | (refine Below.alloc ?_ (by simp; try omega) _) | (refine Below.setCell ?_ (by simp; try omega) _)))
/-- The number of bytes, the lowest one first. -/
def numL : List Int → Int
  | [] => 0
  | x :: r => x + 256 * numL r
theorem numL_bd : ∀ {l : List Int}, InR 0 255 l → l.length ≤ 4 → 0 ≤ numL l ∧ numL l ≤ 4294967295
  | [], _, _ => by simp [numL]
  | [a], h, _ => by have := h a (by simp); simp [numL]; omega
  | [a, b], h, _ => by have := h a (by simp); have := h b (by simp); simp [numL]; omega
  | [a, b, c], h, _ => by have := h a (by simp); have := h b (by simp); have := h c (by simp); simp [numL]; omega
  | [a, b, c, d], h, _ => by have := h a (by simp); have := h b (by simp); have := h c (by simp); have := h d (by simp); simp [numL]; omega
  | _ :: _ :: _ :: _ :: _ :: _, _, h => by simp at h
def gnum (b : List Int) (at_ wide : Int) : Int := if inB wide 1 4 = true ∧ inB at_ 0 (b.length - wide) = true then numL ((b.drop at_.toNat).take wide.toNat) else -1
theorem num_step {zs : List Int} {a k W : Nat} (hk : k < W) (hl : a + W ≤ zs.length) : numL (((zs.drop a).take W).drop k) = zs[a + k]'(by omega) + 256 * numL (((zs.drop a).take W).drop (k + 1)) := by
  have hlen : k < ((zs.drop a).take W).length := by rw [List.length_take, List.length_drop]; omega
  rw [List.drop_eq_getElem_cons hlen]
  simp [numL]
theorem rel_num {a x n : Int} (h : a = x + 256 * n) : Value.int .i64 (256 * n + x) = .int .i64 a := by rw [h, Int.add_comm]
theorem num3 {l : List Int} (h : InR 0 255 l) (hl : l.length ≤ 3) : 0 ≤ numL l ∧ numL l ≤ 16777215 := by
  match l, hl, h with
  | [], _, _ => simp [numL]
  | [a], _, h => have := h a (by simp); simp [numL]; omega
  | [a, b], _, h => have := h a (by simp); have := h b (by simp); simp [numL]; omega
  | [a, b, c], _, h => have := h a (by simp); have := h b (by simp); have := h c (by simp); simp [numL]; omega
end Go.Proofs.YtmglgjchemecjaaGreat.CNumber
/- Linking objects: where sections lie, what names mean, what fixups fill; plain. -/
namespace Go.Proofs.YtmglgjchemecjaaGreat.PLink
set_option maxRecDepth 200000
open Go.ChangeShapes Go.WideShapes Go.ChangeAt Go.RowKit Kit CCode CName CNumber CFixups CSymbols PObj PValid PWarn PClear PSort
/-- Bytes put over others. -/
def sp (l : List Int) (i : Nat) (zs : List Int) : List Int := l.take i ++ zs ++ l.drop (i + zs.length)
theorem sp_len {l zs : List Int} {i : Nat} (h : i + zs.length ≤ l.length) : (sp l i zs).length = l.length := by
  unfold sp
  simp only [List.length_append, List.length_take, List.length_drop]
  omega
theorem sp_get {l zs : List Int} {i : Nat} (h : i + zs.length ≤ l.length) (k : Nat) : (sp l i zs)[k]? = if i ≤ k ∧ k < i + zs.length then zs[k - i]? else l[k]? := by
  unfold sp
  have hl : (l.take i).length = i := by rw [List.length_take]; omega
  rcases Nat.lt_or_ge k i with h1 | h1
  · rw [List.append_assoc, List.getElem?_append_left (by omega), List.getElem?_take_of_lt h1, if_neg (by omega)]
  · rw [List.append_assoc, List.getElem?_append_right (by omega), hl]
    rcases Nat.lt_or_ge (k - i) zs.length with h2 | h2
    · rw [List.getElem?_append_left h2, if_pos (by omega)]
    · rw [List.getElem?_append_right h2, List.getElem?_drop, if_neg (by omega)]
      congr 1
      omega
theorem sp_in {l zs : List Int} {i : Nat} {lo hi : Int} (h : InR lo hi l) (h' : InR lo hi zs) : InR lo hi (sp l i zs) := by
  intro x hx
  unfold sp at hx
  rcases List.mem_append.1 hx with hx | hx
  · rcases List.mem_append.1 hx with hx | hx
    · exact h x (List.mem_of_mem_take hx)
    · exact h' x hx
  · exact h x (List.mem_of_mem_drop hx)
abbrev G := Nat × Nat
def gives (nm : ByteArray) (b : Int) (y : YD) : Bool := decide (y.1 = nm) && decide (y.2.1 = b) && !decide (y.2.2.1 = -1)
def fiS (p : YD → Bool) : Nat → List YD → Option Nat
  | _, [] => none
  | j, y :: ys => bif p y then some j else fiS p (j + 1) ys
def fiR (p : YD → Bool) (k : Nat) (r : Option Nat) (rest : Option G) : Option G := match r with
  | some j => some (k, j)
  | none => rest
def fiO (p : YD → Bool) : Nat → List OD → Option G
  | _, [] => none
  | k, d :: ds => fiR p k (fiS p 0 d.ys) (fiO p (k + 1) ds)
theorem fiS_drop {p : YD → Bool} {ys : List YD} {j : Nat} (h : j < ys.length) (n : Nat) : fiS p n (ys.drop j) = bif p ys[j] then some n else fiS p (n + 1) (ys.drop (j + 1)) := by
  rw [List.drop_eq_getElem_cons h]
  rfl
theorem fiO_drop {p : YD → Bool} {ds : List OD} {k : Nat} (h : k < ds.length) (n : Nat) : fiO p n (ds.drop k) = fiR p n (fiS p 0 ds[k].ys) (fiO p (n + 1) (ds.drop (k + 1))) := by
  rw [List.drop_eq_getElem_cons h]
  rfl
def orG (a b : Option G) : Option G := match a with
  | some g => some g
  | none => b
def findN (l : List OD) (nm : ByteArray) : Option G := orG (fiO (gives nm 1) 0 l) (fiO (gives nm 2) 0 l)
def gin : Option G → Int
  | some g => g.1
  | none => 0
def gat : Option G → Int
  | some g => g.2
  | none => 0
theorem fiS_spec {p : YD → Bool} : ∀ (ys : List YD) (n j : Nat), fiS p n ys = some j → n ≤ j ∧ j - n < ys.length ∧ p (ys.getD (j - n) dY) = true
  | [], n, j, h => by cases h
  | y :: ys, n, j, h => by
    rw [fiS] at h
    cases hp : p y
    · rw [hp, cond_false] at h
      obtain ⟨h1, h2, h3⟩ := fiS_spec ys (n + 1) j h
      obtain ⟨m, rfl⟩ : ∃ m, j = n + 1 + m := ⟨j - (n + 1), by omega⟩
      have e1 : n + 1 + m - n = m + 1 := by omega
      have e2 : n + 1 + m - (n + 1) = m := by omega
      rw [e2] at h2 h3
      rw [e1]
      exact ⟨by omega, by simpa using h2, by simpa using h3⟩
    · rw [hp, cond_true] at h
      injection h with h
      subst h
      simp [hp]
theorem fiS_none {p : YD → Bool} : ∀ (ys : List YD) (n : Nat), fiS p n ys = none ↔ ∀ y ∈ ys, p y = false
  | [], n => by simp [fiS]
  | y :: ys, n => by
    rw [fiS]
    cases hp : p y
    · rw [cond_false, fiS_none ys (n + 1)]
      simp [hp]
    · simp [hp]
theorem fiO_spec {p : YD → Bool} : ∀ (ds : List OD) (n : Nat) (g : G), fiO p n ds = some g → n ≤ g.1 ∧ g.1 - n < ds.length ∧ g.2 < (ds.getD (g.1 - n) ⟨[], []⟩).ys.length ∧ p ((ds.getD (g.1 - n) ⟨[], []⟩).ys.getD g.2 dY) = true
  | [], n, g, h => by cases h
  | d :: ds, n, g, h => by
    rw [fiO] at h
    cases hs : fiS p 0 d.ys with
    | some j =>
      rw [hs, fiR] at h
      injection h with h
      subst h
      have := fiS_spec d.ys 0 j hs
      simpa using this
    | none =>
      rw [hs, fiR] at h
      obtain ⟨h1, h2, h3, h4⟩ := fiO_spec ds (n + 1) g h
      obtain ⟨m, hm⟩ : ∃ m, g.1 = n + 1 + m := ⟨g.1 - (n + 1), by omega⟩
      have e1 : g.1 - n = m + 1 := by omega
      have e2 : g.1 - (n + 1) = m := by omega
      rw [e2] at h2 h3 h4
      rw [e1]
      exact ⟨by omega, by simpa using h2, by simpa using h3, by simpa using h4⟩
def Gok (l : List OD) (g : G) : Prop := g.1 < l.length ∧ g.2 < (l.getD g.1 ⟨[], []⟩).ys.length ∧ ¬ ((l.getD g.1 ⟨[], []⟩).ys.getD g.2 dY).2.2.1 = -1
theorem find_ok {l : List OD} {nm : ByteArray} {g : G} (h : findN l nm = some g) : Gok l g := by
  unfold findN at h
  have key : ∀ b, fiO (gives nm b) 0 l = some g → Gok l g := fun b hb => by
    obtain ⟨_, h2, h3, h4⟩ := fiO_spec l 0 g hb
    rw [Nat.sub_zero] at h2 h3 h4
    simp only [gives, Bool.and_eq_true, Bool.not_eq_true', decide_eq_false_iff_not] at h4
    exact ⟨h2, h3, h4.2⟩
  cases h1 : fiO (gives nm 1) 0 l with
  | some a =>
    rw [h1] at h
    injection h with h
    subst h
    exact key 1 h1
  | none =>
    rw [h1] at h
    exact key 2 h
/-- Names given strongly, and those met before. -/
def isStrong (y : YD) : Bool := decide (y.2.1 = 1) && !decide (y.2.2.1 = -1)
def twStep (st : List ByteArray × List ByteArray) (y : YD) : List ByteArray × List ByteArray := bif isStrong y then ((bif st.2.any (fun x => decide (x = y.1)) then st.1 ++ [y.1] else st.1), st.2 ++ [y.1]) else st
def twS (st : List ByteArray × List ByteArray) (ys : List YD) : List ByteArray × List ByteArray := ys.foldl twStep st
def twO (st : List ByteArray × List ByteArray) (l : List OD) : List ByteArray × List ByteArray := l.foldl (fun st d => twS st d.ys) st
def twice (l : List OD) : List ByteArray := (twO ([], []) l).1
def isMiss (l : List OD) (y : YD) : Bool := decide (y.2.1 = 1) && decide (y.2.2.1 = -1) && (findN l y.1).isNone
def missS (l : List OD) (ys : List YD) : List ByteArray := (ys.filter (isMiss l)).map (·.1)
def miss (l : List OD) : List ByteArray := l.flatMap fun d => missS l d.ys
/-- The least multiple from a number on. -/
def al (n q : Int) : Int := (n + q - 1) / q * q
theorem al_bd {n q : Int} (hn : 0 ≤ n) (h : alignOk q = true) : n ≤ al n q ∧ al n q ≤ n + 7 := by
  unfold al
  simp only [alignOk, Bool.or_eq_true, decide_eq_true_eq] at h
  rcases h with ((rfl | rfl) | rfl) | rfl <;> omega
abbrev St := Int × List (List Int)
def setP (P : List (List Int)) (k i : Nat) (v : Int) : List (List Int) := P.set k ((P.getD k []).set i v)
def getP (P : List (List Int)) (k i : Nat) : Int := (P.getD k []).getD i 0
def stepS (kd : Int) (k i : Nat) (s : SD) (st : St) : St := bif decide (s.kd = kd) then (al st.1 s.al + secSize s, setP st.2 k i (al st.1 s.al)) else st
def foldS (kd : Int) (k : Nat) : Nat → List SD → St → St
  | _, [], st => st
  | i, s :: ss, st => foldS kd k (i + 1) ss (stepS kd k i s st)
def foldO (kd : Int) : Nat → List OD → St → St
  | _, [], st => st
  | k, d :: ds, st => foldO kd (k + 1) ds (foldS kd k 0 d.ss st)
theorem foldS_drop {kd : Int} {k : Nat} {ss : List SD} {j : Nat} (h : j < ss.length) (i : Nat) (st : St) : foldS kd k i (ss.drop j) st = foldS kd k (i + 1) (ss.drop (j + 1)) (stepS kd k i ss[j] st) := by
  rw [List.drop_eq_getElem_cons h]
  rfl
theorem foldO_drop {kd : Int} {l : List OD} {j : Nat} (h : j < l.length) (k : Nat) (st : St) : foldO kd k (l.drop j) st = foldO kd (k + 1) (l.drop (j + 1)) (foldS kd k 0 l[j].ss st) := by
  rw [List.drop_eq_getElem_cons h]
  rfl
/-- A kind of sections behind the others. -/
def kindS (l : List OD) (kd : Int) (st : St) : St := foldO kd 0 l (al st.1 8, st.2)
def zeroP (l : List OD) : List (List Int) := l.map fun d => List.replicate d.ss.length 0
def lay (l : List OD) (base : Int) : St := kindS l 3 (kindS l 2 (kindS l 1 (base, zeroP l)))
/-- What lies where: of the objects' sections only kinds, alignments and sizes count. -/
def sh (d : OD) : List (Int × Int × Int) := d.ss.map fun s => (s.kd, s.al, secSize s)
theorem foldS_sh (kd : Int) (k : Nat) : ∀ (a b : List SD) (i : Nat) (st : St), a.map (fun s => (s.kd, s.al, secSize s)) = b.map (fun s => (s.kd, s.al, secSize s)) → foldS kd k i a st = foldS kd k i b st
  | [], [], _, _, _ => rfl
  | [], _ :: _, _, _, h => by simp at h
  | _ :: _, [], _, _, h => by simp at h
  | x :: a, y :: b, i, st, h => by
    simp only [List.map_cons, List.cons.injEq, Prod.mk.injEq] at h
    rw [foldS, foldS]
    have e : stepS kd k i x st = stepS kd k i y st := by
      unfold stepS
      rw [h.1.1, h.1.2.1, h.1.2.2]
    rw [e]
    exact foldS_sh kd k a b _ _ h.2
theorem lay_one {d e : OD} (h : sh d = sh e) (base : Int) : lay [d] base = lay [e] base := by
  have hf : ∀ kd st, kindS [d] kd st = kindS [e] kd st := fun kd st => by
    unfold kindS
    simp only [foldO]
    exact foldS_sh kd 0 d.ss e.ss 0 _ h
  have hz : zeroP [d] = zeroP [e] := by
    have := congrArg List.length h
    simp only [sh, List.length_map] at this
    simp [zeroP, this]
  unfold lay
  rw [hz, hf 1, hf 2, hf 3]
/-- The place that a symbol means. -/
def tgY (P : List (List Int)) (k : Nat) (y : YD) : Int := if y.2.2.1 = -2 then y.2.2.2 else getP P k y.2.2.1.toNat + y.2.2.2
def symAtL (l : List OD) (g : G) : YD := (l.getD g.1 ⟨[], []⟩).ys.getD g.2 dY
def tgG (l : List OD) (P : List (List Int)) (g : G) : Int := tgY P g.1 (symAtL l g)
def tgO (l : List OD) (P : List (List Int)) : Option G → Int
  | some g => tgG l P g
  | none => 0
def symPl (l : List OD) (P : List (List Int)) (k j : Nat) : Int :=
  if (symAtL l (k, j)).2.1 = 0 then tgG l P (k, j) else tgO l P (findN l (symAtL l (k, j)).1)
def near (p v : Int) : Int := v - (p + 1)
def fixVal (kind place target add : Int) : Option Int :=
  if inB place 0 100000 = true ∧ inB target 0 100000 = true ∧ inB add (-1000) 1000 = true then
    (if kind = 2 then (if inB (target + add) 0 65535 = true then some (target + add) else none)
     else if kind = 3 then (if 0 ≤ target + add then some (target + add) else none)
     else if kind = 1 then (if inB (near place (target + add)) (-128) 127 = true then some (near place (target + add) % 256) else none)
     else none)
  else none
def apF (b : List Int) (place : Int) (f : FD) (target : Int) : Option (List Int) :=
  if inB place 0 100000 = true ∧ ¬ wide f.2.1 = 0 ∧ inB f.1 0 (b.length - wide f.2.1) = true then
    (fixVal f.2.1 (place + f.1) target f.2.2.2).map fun v => sp b f.1.toNat (putL (wide f.2.1).toNat v)
  else none
def fill (l : List OD) (P : List (List Int)) (k : Nat) (place : Int) : List FD → Option (List Int) → Option (List Int)
  | [], b => b
  | f :: fs, b => fill l P k place fs (b.bind fun b => apF b place f (symPl l P k f.2.2.1.toNat))
def over (im : List Int) (i : Nat) (b : List Int) : List Int := sp im i (b.take (im.length - i))
def imS (l : List OD) (P : List (List Int)) (base : Int) (k : Nat) : Nat → List SD → Option (List Int) → Option (List Int)
  | _, [], im => im
  | i, s :: ss, im => imS l P base k (i + 1) ss (im.bind fun im => (fill l P k (getP P k i) s.fs (some s.zs)).map fun b => over im (getP P k i - base).toNat b)
def imO (l : List OD) (P : List (List Int)) (base : Int) : Nat → List OD → Option (List Int) → Option (List Int)
  | _, [], im => im
  | k, d :: ds, im => imO l P base (k + 1) ds (imS l P base k 0 d.ss im)
theorem fill_drop {l : List OD} {P : List (List Int)} {k : Nat} {place : Int} {fs : List FD} {j : Nat} (h : j < fs.length) (b : Option (List Int)) : fill l P k place (fs.drop j) b = fill l P k place (fs.drop (j + 1)) (b.bind fun b => apF b place fs[j] (symPl l P k fs[j].2.2.1.toNat)) := by
  rw [List.drop_eq_getElem_cons h]
  rfl
theorem fill_none (l : List OD) (P : List (List Int)) (k : Nat) (place : Int) : ∀ fs, fill l P k place fs none = none
  | [] => rfl
  | f :: fs => by rw [fill, Option.bind_none, fill_none l P k place fs]
theorem imS_drop {l : List OD} {P : List (List Int)} {base : Int} {k : Nat} {ss : List SD} {j : Nat} (h : j < ss.length) (i : Nat) (im : Option (List Int)) : imS l P base k i (ss.drop j) im = imS l P base k (i + 1) (ss.drop (j + 1)) (im.bind fun im => (fill l P k (getP P k i) ss[j].fs (some ss[j].zs)).map fun b => over im (getP P k i - base).toNat b) := by
  rw [List.drop_eq_getElem_cons h]
  rfl
theorem imS_none (l : List OD) (P : List (List Int)) (base : Int) (k : Nat) : ∀ i ss, imS l P base k i ss none = none
  | _, [] => rfl
  | i, s :: ss => by rw [imS, Option.bind_none, imS_none l P base k (i + 1) ss]
theorem imO_drop {l : List OD} {P : List (List Int)} {base : Int} {ds : List OD} {j : Nat} (h : j < ds.length) (k : Nat) (im : Option (List Int)) : imO l P base k (ds.drop j) im = imO l P base (k + 1) (ds.drop (j + 1)) (imS l P base k 0 ds[j].ss im) := by
  rw [List.drop_eq_getElem_cons h]
  rfl
theorem imO_none (l : List OD) (P : List (List Int)) (base : Int) : ∀ k ds, imO l P base k ds none = none
  | _, [] => rfl
  | k, d :: ds => by rw [imO, imS_none, imO_none l P base (k + 1) ds]
def objsOk (l : List OD) : Bool := decide (l.length ≤ 4) && l.all objOk
def baseOk (b : Int) : Bool := decide (0 ≤ b ∧ b ≤ 4096) && decide (b % 8 = 0)
/-- An image and a fault. -/
abbrev RD := Int × List Int × Int
def imgR (base : Int) : Option (List Int) → RD
  | some im => (base, im, 0)
  | none => (0, [], 3)
def image (l : List OD) (base : Int) : Option (List Int) := imO l (lay l base).2 base 0 l (some (List.replicate ((lay l base).1 - base).toNat 0))
def linkR (l : List OD) (base : Int) : RD :=
  if (objsOk l && baseOk base) = false then (0, [], -1)
  else if 0 < (twice l).length then (0, [], 1)
  else if 0 < (miss l).length then (0, [], 2)
  else imgR base (image l base)
end Go.Proofs.YtmglgjchemecjaaGreat.PLink
/- findBound and findName: which symbol a name means. -/
namespace Go.Proofs.YtmglgjchemecjaaGreat.CFind
set_option maxRecDepth 200000
open Go.ChangeShapes Go.WideShapes Go.ChangeAt Go.RowKit Kit CCode CName CFixups CSymbols PObj BObj PValid CGlobalOf BList PLink
theorem find_name (l : List OD) (nm : ByteArray) : findN l nm = orG (fiO (gives nm 1) 0 l) (fiO (gives nm 2) 0 l) := rfl
/-- What is given back: where, and whether there is one. -/
def givV (r : Option G) : Value := .tuple #[.agg #[.int .i64 (gin r), .int .i64 (gat r)], .bool r.isSome]
def Lens (os : List OV) : Prop := os.length ≤ 1048576 ∧ ∀ o ∈ os, o.ys.length ≤ 1048576
set_option maxHeartbeats 2000000 in
theorem findBound_any (A : Option Addr) (os : List OV) (c : Nat) (nm : ByteArray) (b : Int) (w : World) (hr : RdOs w w.heap.size A os) (hm : Lens os) :
    Calls Tryz.prog 131 #[.slice A os.length c, .string nm, .int .i64 b] w (Ret (givV (fiO (gives nm b) 0 (os.map OV.d))) w) := by
  obtain ⟨hm1, hm2⟩ := hm
  have HY := hide hm2
  clear hm2
  have HB := hide (show Below w.heap.size w (w.alloc (.cells #[.int .i64 0, .int .i64 0] 109)) from (by repeat (first | exact Below.refl _ _ | with_reducible assumption | (refine Below.drew ?_) | (refine Below.drewN ?_ _) | (refine Below.alloc ?_ (by simp; try omega) _) | (refine Below.setCell ?_ (by simp; try omega) _))))
  have HX := hide (Box.new w 109 #[.int .i64 0, .int .i64 0])
  have HR := hide hr
  clear hr
  go_enter Tryz.func131, Tryz.ntmps131
  go_wp2_with fail
  generalize w.alloc (.cells #[.int .i64 0, .int .i64 0] 109) = w0 at *
  go_loopw [14] (fun i wi => ∃ k : Nat, k ≤ os.length ∧ i = .int .i64 k ∧ fiO (gives nm b) 0 (os.map OV.d) = fiO (gives nm b) k ((os.map OV.d).drop k) ∧ Box wi w.heap.size 109 #[.int .i64 0, .int .i64 0] ∧ Below w.heap.size w wi) (fun i _ => os.length - (intOf i).toNat)
  case atStart => exact ⟨0, Nat.zero_le _, rfl, rfl, HX.out, HB.out⟩
  case round =>
    clear HX HB
    obtain ⟨k, hk, rfl, hf, hx, hb⟩ := hrel
    have HX := hide hx
    have HB := hide hb
    by_cases hlt : k < os.length
    · obtain ⟨bb, off, hA, hbb, hc0, hc1⟩ := (HR.out.below hb).at hlt
      have hlm : k < (os.map OV.d).length := by simpa using hlt
      have HF := hide (hf.trans (fiO_drop hlm k))
      have HRO := hide (HR.out.2 _ (List.getElem_mem hlt))
      have hyl := HY.out _ (List.getElem_mem hlt)
      have HE := hide (show (os.map OV.d)[k].ys = os[k].ys by simp [OV.d])
      clear hf hx hb
      subst hA
      rw [HE.out] at HF
      clear HE
      generalize hrest : fiO (gives nm b) (k + 1) ((os.map OV.d).drop (k + 1)) = rest at *
      have HRS := hide hrest
      clear hrest
      generalize os[k] = o at *
      go_wp2_with fail
      have B1 : Below wr.heap.size wr (wr.alloc (.cells #[.slice o.A o.ps.length o.c, .slice o.Y o.ys.length o.yc] 31)) := (by repeat (first | exact Below.refl _ _ | with_reducible assumption | (refine Below.drew ?_) | (refine Below.drewN ?_ _) | (refine Below.alloc ?_ (by simp; try omega) _) | (refine Below.setCell ?_ (by simp; try omega) _)))
      have HO := hide (Box.new wr 31 #[.slice o.A o.ps.length o.c, .slice o.Y o.ys.length o.yc])
      replace HB := hide (HB.out.trans (B1.mono HB.out.size))
      replace HX := hide (HX.out.call B1)
      clear B1
      generalize wr.alloc (.cells #[.slice o.A o.ps.length o.c, .slice o.Y o.ys.length o.yc] 31) = w1 at *
      generalize wr.heap.size = X at *
      clear hc0 hc1
      have x1 := HO.out.cell 1
      simp only [List.getElem?_toArray, List.getElem?_cons_zero, List.getElem?_cons_succ] at x1
      have hxl := HO.out.lt
      go_wp2_with fail
      clear x1 hxl
      go_loopw [22] (fun i wi => ∃ j : Nat, j ≤ o.ys.length ∧ i = .int .i64 j ∧ fiO (gives nm b) 0 (os.map OV.d) = fiR (gives nm b) k (fiS (gives nm b) j (o.ys.drop j)) rest ∧ Box wi w.heap.size 109 #[.int .i64 0, .int .i64 0] ∧ Below w.heap.size w wi) (fun i _ => o.ys.length - (intOf i).toNat)
      case atStart => exact ⟨0, Nat.zero_le _, rfl, HF.out, HX.out, HB.out⟩
      case round =>
        clear HX HB HF HO
        obtain ⟨j, hj, rfl, hf, hx, hb⟩ := hrel
        have HX := hide hx
        have HB := hide hb
        by_cases hlj : j < o.ys.length
        · obtain ⟨b2, off2, hY, hb2, hc⟩ := (HRO.out.2.below hb).row symbolC_len (by decide) hlj
          have hc0 := hc 0 _ rfl
          have hc1 := hc 1 _ rfl
          have hc2 := hc 2 _ rfl
          have hc3 := hc 3 _ rfl
          simp only [Nat.add_zero] at hc0
          have HF := hide (hf.trans (by rw [fiS_drop hlj]))
          clear hf hx hb hc
          rw [hY]
          clear hY
          generalize o.ys[j] = z at *
          have HG := hide (show gives nm b z = ((z.1.toList == nm.toList) && (z.2.1 == b) && (z.2.2.1 != -1)) from by
            rw [str_eq]
            rfl)
          obtain ⟨z1, z2, z3, z4⟩ := z
          simp only at hc0 hc1 hc2 hc3 HG
          have HB2 := hide (HB.out.alloc HB.out.size (.cells #[.string z1, .int .i64 z2, .int .i64 z3, .int .i64 z4] 69))
          have HX2 := hide (HX.out.alloc (.cells #[.string z1, .int .i64 z2, .int .i64 z3, .int .i64 z4] 69))
          cases q1 : (z1.toList == nm.toList)
          · rw [q1, Bool.false_and, Bool.false_and] at HG
            have HF' := hide (HF.out.trans (by rw [HG.out]; try rfl))
            clear HF HG
            go_wp2_with fail
            refine ⟨⟨j + 1, by omega, by go_num, HF'.out, HX2.out, HB2.out⟩, by simp [intOf]; omega⟩
          cases q2 : (z2 == b)
          · rw [q1, q2, Bool.and_false, Bool.false_and] at HG
            have HF' := hide (HF.out.trans (by rw [HG.out]; try rfl))
            clear HF HG
            go_wp2_with fail
            refine ⟨⟨j + 1, by omega, by go_num, HF'.out, HX2.out, HB2.out⟩, by simp [intOf]; omega⟩
          cases q3 : (z3 != -1)
          · rw [q1, q2, q3, Bool.and_false] at HG
            have HF' := hide (HF.out.trans (by rw [HG.out]; try rfl))
            clear HF HG
            go_wp2_with fail
            refine ⟨⟨j + 1, by omega, by go_num, HF'.out, HX2.out, HB2.out⟩, by simp [intOf]; omega⟩
          rw [q1, q2, q3, Bool.and_true, Bool.and_true] at HG
          have HF' := hide (HF.out.trans (by rw [HG.out]; try rfl))
          clear HF HG
          have kk := (HX2.out.set 0 (.int .i64 k)).set 1 (.int .i64 j)
          have k0 := kk.cell 0
          have k1 := kk.cell 1
          simp only [List.setIfInBounds_toArray, List.set_cons_zero, List.set_cons_succ, List.getElem?_toArray, List.getElem?_cons_zero, List.getElem?_cons_succ] at k0 k1
          clear kk
          have hxl := HX2.out.lt
          have x0 := HX2.out.cell 0
          have x1 := HX2.out.cell 1
          simp only [List.getElem?_toArray, List.getElem?_cons_zero, List.getElem?_cons_succ] at x0 x1
          have xf0 := HX2.out.frozen 0
          have xf1 := HX2.out.frozen 1
          have HFB := hide (two_below (Y := w.heap.size) HB2.out (Nat.le_refl _) (.int .i64 k) (.int .i64 j))
          go_wp2_with fail
          (try simp only [Exit.inBlock, Exit.then])
          exact bodyPost_ret (v := givV (some (k, j))) (by simp [results, Tryz.results131, go_sem, givV, gin, gat, k0, k1]) rfl (by rw [HF'.out]; exact ⟨rfl, HFB.out⟩)
        · obtain rfl : j = o.ys.length := by omega
          have HF := hide (hf.trans (by rw [List.drop_length]; rfl : _ = rest))
          have HX := hide hx
          have HB := hide hb
          clear hf hx hb
          go_wp2_with fail
          refine ⟨⟨k + 1, by omega, by go_num, by rw [HRS.out]; exact HF.out, HX.out, HB.out⟩, by simp [intOf]; omega⟩
    · obtain rfl : k = os.length := by omega
      have HF := hide (hf.trans (by rw [List.drop_of_length_le (by simp)]; rfl : _ = none))
      clear hf hx hb
      have kk := (HX.out.set 0 (.int .i64 0)).set 1 (.int .i64 0)
      have k0 := kk.cell 0
      have k1 := kk.cell 1
      simp only [List.setIfInBounds_toArray, List.set_cons_zero, List.set_cons_succ, List.getElem?_toArray, List.getElem?_cons_zero, List.getElem?_cons_succ] at k0 k1
      clear kk
      have hxl := HX.out.lt
      have x0 := HX.out.cell 0
      have x1 := HX.out.cell 1
      simp only [List.getElem?_toArray, List.getElem?_cons_zero, List.getElem?_cons_succ] at x0 x1
      have xf0 := HX.out.frozen 0
      have xf1 := HX.out.frozen 1
      have HFB := hide (two_below (Y := w.heap.size) HB.out (Nat.le_refl _) (.int .i64 0) (.int .i64 0))
      go_wp2_with fail
      (try simp only [Exit.inBlock, Exit.then])
      exact bodyPost_ret (v := givV none) (by simp [results, Tryz.results131, go_sem, givV, gin, gat, k0, k1]) rfl (by rw [HF.out]; exact ⟨rfl, HFB.out⟩)
/-- The name's symbol: one that is given strongly, else one that is given weakly. -/
theorem findName_any (A : Option Addr) (os : List OV) (c : Nat) (nm : ByteArray) (w : World) (hr : RdOs w w.heap.size A os) (hm : Lens os) :
    Calls Tryz.prog 72 #[.slice A os.length c, .string nm] w (Ret (givV (findN (os.map OV.d) nm)) w) := by
  have HB := hide (show Below w.heap.size w (w.alloc (.cells #[.int .i64 0, .int .i64 0] 109)) from (by repeat (first | exact Below.refl _ _ | with_reducible assumption | (refine Below.drew ?_) | (refine Below.drewN ?_ _) | (refine Below.alloc ?_ (by simp; try omega) _) | (refine Below.setCell ?_ (by simp; try omega) _))))
  have HX := hide (Box.new w 109 #[.int .i64 0, .int .i64 0])
  have HR := hide hr
  clear hr
  go_enter Tryz.func72, Tryz.ntmps72
  go_wp2_with fail
  generalize w.alloc (.cells #[.int .i64 0, .int .i64 0] 109) = w0 at *
  refine (findBound_any A os c nm 1 w0 ((HR.out.below HB.out).more HB.out.size) hm).mono ?_
  rintro e w1 ⟨rfl, b1⟩
  replace HB := hide (HB.out.trans (b1.mono HB.out.size))
  replace HX := hide (HX.out.call b1)
  clear b1
  generalize hr1 : fiO (gives nm 1) 0 (os.map OV.d) = r at *
  have HR1 := hide hr1
  clear hr1
  cases r with
  | some g =>
    simp only [givV, gin, gat, Option.isSome]
    have kk := (((HX.out.alloc (.cells #[.int .i64 g.1, .int .i64 g.2] 109)).set 0 (.int .i64 g.1)).set 1 (.int .i64 g.2))
    have k0 := kk.cell 0
    have k1 := kk.cell 1
    simp only [List.setIfInBounds_toArray, List.set_cons_zero, List.set_cons_succ, List.getElem?_toArray, List.getElem?_cons_zero, List.getElem?_cons_succ] at k0 k1
    clear kk
    have HFB := hide (two_below (Y := w.heap.size) (HB.out.alloc HB.out.size (.cells #[.int .i64 g.1, .int .i64 g.2] 109)) (Nat.le_refl _) (.int .i64 g.1) (.int .i64 g.2))
    have HX2 := HX.out.alloc (.cells #[.int .i64 g.1, .int .i64 g.2] 109)
    have hxl := HX2.lt
    have x0 := HX2.cell 0
    have x1 := HX2.cell 1
    simp only [List.getElem?_toArray, List.getElem?_cons_zero, List.getElem?_cons_succ] at x0 x1
    have xf0 := HX2.frozen 0
    have xf1 := HX2.frozen 1
    clear HX2
    go_wp2_with fail
    exact bodyPost_ret (v := givV (some g)) (by simp [results, Tryz.results72, go_sem, givV, gin, gat, k0, k1]) rfl (by rw [find_name, HR1.out]; exact ⟨rfl, HFB.out⟩)
  | none =>
    simp only [givV, gin, gat, Option.isSome]
    go_wp2_with fail
    have B1 : Below w1.heap.size w1 (w1.alloc (.cells #[.int .i64 0, .int .i64 0] 109)) := (by repeat (first | exact Below.refl _ _ | with_reducible assumption | (refine Below.drew ?_) | (refine Below.drewN ?_ _) | (refine Below.alloc ?_ (by simp; try omega) _) | (refine Below.setCell ?_ (by simp; try omega) _)))
    replace HB := hide (HB.out.trans (B1.mono HB.out.size))
    replace HX := hide (HX.out.call B1)
    clear B1
    generalize w1.alloc (.cells #[.int .i64 0, .int .i64 0] 109) = w2 at *
    refine (findBound_any A os c nm 2 w2 ((HR.out.below HB.out).more HB.out.size) hm).mono ?_
    rintro e w3 ⟨rfl, b3⟩
    replace HB := hide (HB.out.trans (b3.mono HB.out.size))
    replace HX := hide (HX.out.call b3)
    clear b3
    generalize hr2 : fiO (gives nm 2) 0 (os.map OV.d) = r at *
    have HR2 := hide hr2
    clear hr2
    simp only [givV]
    have kk := ((HX.out.set 0 (.int .i64 (gin r))).set 1 (.int .i64 (gat r)))
    have k0 := kk.cell 0
    have k1 := kk.cell 1
    simp only [List.setIfInBounds_toArray, List.set_cons_zero, List.set_cons_succ, List.getElem?_toArray, List.getElem?_cons_zero, List.getElem?_cons_succ] at k0 k1
    clear kk
    have HFB := hide (two_below (Y := w.heap.size) HB.out (Nat.le_refl _) (.int .i64 (gin r)) (.int .i64 (gat r)))
    have hxl := HX.out.lt
    have x0 := HX.out.cell 0
    have x1 := HX.out.cell 1
    simp only [List.getElem?_toArray, List.getElem?_cons_zero, List.getElem?_cons_succ] at x0 x1
    have xf0 := HX.out.frozen 0
    have xf1 := HX.out.frozen 1
    go_wp2_with fail
    exact bodyPost_ret (v := givV r) (by simp [results, Tryz.results72, go_sem, givV, k0, k1]) rfl (by rw [find_name, HR1.out, HR2.out]; exact ⟨rfl, HFB.out⟩)
end Go.Proofs.YtmglgjchemecjaaGreat.CFind
/- namesTwice and namesMissing. -/
namespace Go.Proofs.YtmglgjchemecjaaGreat.CNames
set_option maxRecDepth 200000
open Go.ChangeShapes Go.WideShapes Go.ChangeAt Go.RowKit Kit CCode CName CFixups CSymbols PObj BObj CGlobalOf BStore BList PLink CFind CSorted
theorem infoStr : (Tryz.prog.info? 9).map (fun i => (i.zero, i.size, i.bytes)) = some (some (.string ByteArray.empty), 1, 16) := by kernel_rfl
def hasN (ys : List ByteArray) (nm : ByteArray) : Bool := ys.any fun x => decide (x = nm)
theorem has_lib (ys : List ByteArray) (nm : ByteArray) : Lib.containsS ys nm = hasN ys nm := by
  rw [Bool.eq_iff_iff, Lib.containsS_iff, hasN, List.any_eq_true]
  constructor
  · intro h
    exact ⟨nm, h, by simp⟩
  · rintro ⟨x, hx, h⟩
    exact of_decide_eq_true h ▸ hx
theorem containsN_any (ys : List ByteArray) (nm : ByteArray) (A : Option Addr) (c base : Nat) (w : World) (h : Row w base 9 1 A ys.length c (nmC ys)) (hm : ys.length ≤ 1048576) :
    Calls Tryz.prog 118 #[.slice A ys.length c, .string nm] w (Pure (.bool (hasN ys nm)) w) := by
  by_cases h0 : ys.length = 0
  · obtain rfl := List.eq_nil_of_length_eq_zero h0
    refine (XNames.slices_Contains_string_empty A c nm w).mono ?_
    rintro e w' ⟨rfl, rfl⟩
    exact ⟨rfl, rfl⟩
  · obtain ⟨g, rfl, _, _, _, hown⟩ := own_of h (by omega)
    refine (XNames.slices_Contains_string g 0 ys.length c ys nm w (Nat.le_refl _) (by omega) (fun j hj => ?_)).mono ?_
    · have h1 := World.ownsRow.cellAt hown j (by simpa [nmC] using hj)
      rw [Nat.zero_add, h1]
      simp [nmC, List.getD_eq_getElem?_getD, List.getElem?_eq_getElem hj]
    · rintro e w' ⟨rfl, rfl⟩
      rw [List.take_length, has_lib]
      exact ⟨rfl, rfl⟩
theorem strs_snoc (xs : List ByteArray) (x : ByteArray) : nmC xs ++ [.string x] = nmC (xs ++ [x]) := by simp [nmC]
theorem one_str (x : ByteArray) : ∀ u ∈ [Value.string x], u.oneCell' = true := by
  intro u hu
  rw [List.mem_singleton.1 hu]
  rfl
theorem twO_snoc (st : List ByteArray × List ByteArray) (a : List OD) (d : OD) : twO st (a ++ [d]) = twS (twO st a) d.ys := by simp [twO]
theorem twS_snoc (st : List ByteArray × List ByteArray) (a : List YD) (y : YD) : twS st (a ++ [y]) = twStep (twS st a) y := by simp [twS]
def Small (os : List OV) : Prop := os.length ≤ 4 ∧ ∀ o ∈ os, o.ys.length ≤ 12
/-- The two rows of namesTwice. -/
structure TI (w0 : World) (A1 : Option Addr) (c1 : Nat) (xs : List ByteArray) (A2 : Option Addr) (c2 : Nat) (ys : List ByteArray) (w : World) : Prop where
  x : Row w w0.heap.size 9 1 A1 xs.length c1 (nmC xs)
  y : Row w w0.heap.size 9 1 A2 ys.length c2 (nmC ys)
  ap : Apart A1 c1 A2 c2
  b : Below w0.heap.size w0 w
theorem TI.call {w0 w w' : World} {A1 A2 : Option Addr} {c1 c2 : Nat} {xs ys : List ByteArray} (h : TI w0 A1 c1 xs A2 c2 ys w) (hb : Below w.heap.size w w') : TI w0 A1 c1 xs A2 c2 ys w' := ⟨h.x.call hb, h.y.call hb, h.ap, h.b.trans (hb.mono h.b.size)⟩
theorem TI.addX {w0 w w' : World} {A1 A2 A' : Option Addr} {c1 c2 n' c' : Nat} {xs ys : List ByteArray} {x : ByteArray} (h : TI w0 A1 c1 xs A2 c2 ys w) (hn : n' = xs.length + 1) (o : Row w' w0.heap.size 9 1 A' n' c' (nmC xs ++ [.string x])) (g : w.grownBy w' (blk A1 c1)) (hk : ∀ k, blk A' c' = some k → blk A1 c1 = some k ∨ w.heap.size ≤ k) :
    TI w0 A' c' (xs ++ [x]) A2 c2 ys w' := by
  subst hn
  refine ⟨?_, h.y.grown g (fun k hk e => h.ap k e hk), ?_, h.b.grown g h.b.size (fun j hj => (h.x.lt j hj).1)⟩
  · rw [List.length_append, ← strs_snoc]
    exact o
  · intro k h1 h2
    rcases hk k h1 with h3 | h3
    · exact h.ap k h3 h2
    · have := (h.y.lt k h2).2
      omega
theorem TI.addY {w0 w w' : World} {A1 A2 A' : Option Addr} {c1 c2 n' c' : Nat} {xs ys : List ByteArray} {x : ByteArray} (h : TI w0 A1 c1 xs A2 c2 ys w) (hn : n' = ys.length + 1) (o : Row w' w0.heap.size 9 1 A' n' c' (nmC ys ++ [.string x])) (g : w.grownBy w' (blk A2 c2)) (hk : ∀ k, blk A' c' = some k → blk A2 c2 = some k ∨ w.heap.size ≤ k) :
    TI w0 A1 c1 xs A' c' (ys ++ [x]) w' := by
  subst hn
  refine ⟨h.x.grown g (fun k hk e => h.ap k hk e), ?_, ?_, h.b.grown g h.b.size (fun j hj => (h.y.lt j hj).1)⟩
  · rw [List.length_append, ← strs_snoc]
    exact o
  · intro k h1 h2
    rcases hk k h2 with h3 | h3
    · exact h.ap k h1 h3
    · have := (h.x.lt k h1).2
      omega
set_option maxHeartbeats 4000000 in
theorem namesTwice_any (A : Option Addr) (os : List OV) (c : Nat) (w : World) (hr : RdOs w w.heap.size A os) (hs : Small os) :
    Calls Tryz.prog 56 #[.slice A os.length c] w (RetN (srtN (twice (os.map OV.d))) w) := by
  obtain ⟨i0, hi1, hi2, hi3, hi4⟩ := info_parts infoStr
  have HI := hide (And.intro hi1 (And.intro hi2 (And.intro hi3 hi4)))
  clear hi1 hi2 hi3 hi4
  obtain ⟨hs1, hs2⟩ := hs
  have HY := hide hs2
  have HR := hide hr
  clear hs2 hr
  have B0 : Below w.heap.size w ((w.alloc (.cells #[] 9)).alloc (.cells #[] 9)) := (by repeat (first | exact Below.refl _ _ | with_reducible assumption | (refine Below.drew ?_) | (refine Below.drewN ?_ _) | (refine Below.alloc ?_ (by simp; try omega) _) | (refine Below.setCell ?_ (by simp; try omega) _)))
  have HT := hide (show TI w (some ⟨w.heap.size, 0, none⟩) 0 [] (some ⟨w.heap.size + 1, 0, none⟩) 0 [] ((w.alloc (.cells #[] 9)).alloc (.cells #[] 9)) from ⟨Row.empty _ _ _ _ _, Row.empty _ _ _ _ _, (fun k h1 h2 => by cases h1), B0⟩)
  clear B0
  go_enter Tryz.func56, Tryz.ntmps56
  go_wp2_with fail
  generalize (w.alloc (.cells #[] 9)).alloc (.cells #[] 9) = w0 at *
  generalize hLL : os.map OV.d = l at *
  have HLL := hide hLL
  clear hLL
  go_loopw [3, 4, 13] (fun s t i wi => ∃ (k : Nat) (A1 : Option Addr) (c1 : Nat) (xs : List ByteArray) (A2 : Option Addr) (c2 : Nat) (ys : List ByteArray), k ≤ os.length ∧ s = .slice A1 xs.length c1 ∧ t = .slice A2 ys.length c2 ∧ i = .int .i64 k ∧ (xs, ys) = twO ([], []) (l.take k) ∧ xs.length ≤ 12 * k ∧ ys.length ≤ 12 * k ∧ TI w A1 c1 xs A2 c2 ys wi) (fun _ _ i _ => os.length - (intOf i).toNat)
  case atStart => exact ⟨0, _, 0, [], _, 0, [], Nat.zero_le _, rfl, rfl, rfl, rfl, Nat.le_refl _, Nat.le_refl _, HT.out⟩
  case round =>
    clear HT
    obtain ⟨k, A1, c1, xs, A2, c2, ys, hk, rfl, rfl, rfl, hxy, hx1, hy1, hti⟩ := hrel
    have HT := hide hti
    by_cases hlt : k < os.length
    · obtain ⟨bb, off, hA, hbb, hc0, hc1⟩ := (HR.out.below hti.b).at hlt
      have hll : k < l.length := by rw [← HLL.out, List.length_map]; exact hlt
      have HXY := hide (show twO ([], []) (l.take (k + 1)) = twS (xs, ys) os[k].ys from by
        rw [take_succ hll, twO_snoc, ← hxy]
        have := HLL.out
        subst this
        simp [OV.d])
      have HRO := hide (HR.out.2 _ (List.getElem_mem hlt)).2
      have hyl := HY.out _ (List.getElem_mem hlt)
      clear hti hxy
      subst hA
      generalize os[k] = o at *
      go_wp2_with fail
      have B1 : Below wr.heap.size wr (wr.alloc (.cells #[.slice o.A o.ps.length o.c, .slice o.Y o.ys.length o.yc] 31)) := (by repeat (first | exact Below.refl _ _ | with_reducible assumption | (refine Below.drew ?_) | (refine Below.drewN ?_ _) | (refine Below.alloc ?_ (by simp; try omega) _) | (refine Below.setCell ?_ (by simp; try omega) _)))
      have HO := hide (Box.new wr 31 #[.slice o.A o.ps.length o.c, .slice o.Y o.ys.length o.yc])
      replace HT := hide (HT.out.call B1)
      clear B1
      generalize wr.alloc (.cells #[.slice o.A o.ps.length o.c, .slice o.Y o.ys.length o.yc] 31) = wa at *
      generalize wr.heap.size = Z at *
      clear hc0 hc1
      have y1 := HO.out.cell 1
      simp only [List.getElem?_toArray, List.getElem?_cons_zero, List.getElem?_cons_succ] at y1
      have hol := HO.out.lt
      go_wp2_with fail
      clear y1 hol HO
      have HXY2 := hide (show (xs, ys) = twS (xs, ys) (o.ys.take 0) from rfl)
      generalize hq0 : (xs, ys) = q0 at *
      go_loopw [3, 4, 20] (fun s t i wi => ∃ (j : Nat) (A1 : Option Addr) (c1 : Nat) (xs : List ByteArray) (A2 : Option Addr) (c2 : Nat) (ys : List ByteArray), j ≤ o.ys.length ∧ s = .slice A1 xs.length c1 ∧ t = .slice A2 ys.length c2 ∧ i = .int .i64 j ∧ (xs, ys) = twS q0 (o.ys.take j) ∧ xs.length ≤ 12 * k + j ∧ ys.length ≤ 12 * k + j ∧ TI w A1 c1 xs A2 c2 ys wi) (fun _ _ i _ => o.ys.length - (intOf i).toNat)
      case atStart => exact ⟨0, A1, c1, xs, A2, c2, ys, Nat.zero_le _, rfl, rfl, rfl, hq0.trans HXY2.out, by omega, by omega, HT.out⟩
      case round =>
        clear HT HXY2 hq0
        obtain ⟨j, A1, c1, xs, A2, c2, ys, hj, rfl, rfl, rfl, hxy, hx1, hy1, hti⟩ := hrel
        have HT := hide hti
        by_cases hlj : j < o.ys.length
        · obtain ⟨b2, off2, hYA, hb2, hc⟩ := (HRO.out.below hti.b).row symbolC_len (by decide) hlj
          have hc0 := hc 0 _ rfl
          have hc1 := hc 1 _ rfl
          have hc2 := hc 2 _ rfl
          have hc3 := hc 3 _ rfl
          simp only [Nat.add_zero] at hc0
          have HST := hide (show twS q0 (o.ys.take (j + 1)) = twStep (xs, ys) o.ys[j] from by
            rw [take_succ hlj, twS_snoc, ← hxy])
          clear hti hxy hc
          rw [hYA]
          clear hYA
          generalize o.ys[j] = z at *
          obtain ⟨z1, z2, z3, z4⟩ := z
          simp only at hc0 hc1 hc2 hc3
          have B1 : Below wr.heap.size wr (wr.alloc (.cells #[.string z1, .int .i64 z2, .int .i64 z3, .int .i64 z4] 69)) := (by repeat (first | exact Below.refl _ _ | with_reducible assumption | (refine Below.drew ?_) | (refine Below.drewN ?_ _) | (refine Below.alloc ?_ (by simp; try omega) _) | (refine Below.setCell ?_ (by simp; try omega) _)))
          have HZ := hide (Box.new wr 69 #[.string z1, .int .i64 z2, .int .i64 z3, .int .i64 z4])
          replace HT := hide (HT.out.call B1)
          cases q1 : (z2 != 1)
          · cases q2 : (z3 == -1)
            · have hst : isStrong (z1, z2, z3, z4) = true := by
                have e1 : z2 = 1 := by simpa using q1
                have e2 : ¬ z3 = -1 := by simpa using q2
                simp [isStrong, e1, e2]
              have HST2 := hide (show twS q0 (o.ys.take (j + 1)) = (if hasN ys z1 = true then xs ++ [z1] else xs, ys ++ [z1]) from by
                rw [HST.out, twStep, hst]
                simp only [cond_true]
                unfold hasN
                cases ys.any (fun x => decide (x = z1)) <;> rfl)
              clear hst HST
              go_wp2_with fail
              clear hc0 hc1 hc2 hc3 q1 q2 B1
              generalize wr.alloc (.cells #[.string z1, .int .i64 z2, .int .i64 z3, .int .i64 z4] 69) = wz at *
              generalize wr.heap.size = S at *
              refine (containsN_any ys z1 A2 c2 _ wz HT.out.y (by omega)).mono ?_
              rintro e w' ⟨rfl, rfl⟩
              have hzl := HZ.out.lt
              have z0 := HZ.out.cell 0
              simp only [List.getElem?_toArray, List.getElem?_cons_zero, List.getElem?_cons_succ] at z0
              cases hh : hasN ys z1
              · rw [hh, if_neg (by decide)] at HST2
                clear hh
                go_wp2_with (at_builtin; refine wpList_app (wz.alloc (.cells #[.string z1] 9)) rfl (.tmp 41) (.tmp 44) 90 rfl 9 i0 (.string ByteArray.empty) 1 16 Tryz.underlying90 HI.out.1 HI.out.2.1 HI.out.2.2.1 HI.out.2.2.2 rfl (by decide) w.heap.size A2 ys.length c2 (nmC ys) rfl (HT.out.y.alloc _) ?hb (some ⟨wz.heap.size, 0, none⟩) 1 1 [.string z1] rfl (rd_lit wz #[.string z1] 9 _ rfl) rfl (fun h => by cases h) ?o1 ?n1 ?n2 ?_)
                case hb => have h := (HT.out.b.alloc HT.out.b.size (.cells #[.string z1] 9)).size; simpa using h
                case o1 => exact one_str z1
                case n1 => unfold maxLen; omega
                case n2 => omega
                intro A3 n3 c3 w3 hn o3 g3 k3
                have bl : Below wz.heap.size wz (wz.alloc (.cells #[.string z1] 9)) := (by repeat (first | exact Below.refl _ _ | with_reducible assumption | (refine Below.drew ?_) | (refine Below.drewN ?_ _) | (refine Below.alloc ?_ (by simp; try omega) _) | (refine Below.setCell ?_ (by simp; try omega) _)))
                have HT3 := hide (TI.addY (HT.out.call bl) hn (by simpa using o3) g3 (fun k hk => by have h := k3 k hk; simpa using h))
                subst hn
                clear o3 g3 k3 bl HT
                go_wp2_with fail
                refine ⟨⟨j + 1, A1, c1, xs, A3, c3, ys ++ [z1], by omega, rfl, by simp, by go_num, by rw [HST2.out], by omega, by simp; omega, HT3.out⟩, by simp [intOf]; omega⟩
              · rw [hh, if_pos rfl] at HST2
                clear hh
                go_wp2_with (at_builtin; refine wpList_app (wz.alloc (.cells #[.string z1] 9)) rfl (.tmp 36) (.tmp 39) 90 rfl 9 i0 (.string ByteArray.empty) 1 16 Tryz.underlying90 HI.out.1 HI.out.2.1 HI.out.2.2.1 HI.out.2.2.2 rfl (by decide) w.heap.size A1 xs.length c1 (nmC xs) rfl (HT.out.x.alloc _) ?hb (some ⟨wz.heap.size, 0, none⟩) 1 1 [.string z1] rfl (rd_lit wz #[.string z1] 9 _ rfl) rfl (fun h => by cases h) ?o1 ?n1 ?n2 ?_)
                case hb => have h := (HT.out.b.alloc HT.out.b.size (.cells #[.string z1] 9)).size; simpa using h
                case o1 => exact one_str z1
                case n1 => unfold maxLen; omega
                case n2 => omega
                intro A3 n3 c3 w3 hn o3 g3 k3
                have bl : Below wz.heap.size wz (wz.alloc (.cells #[.string z1] 9)) := (by repeat (first | exact Below.refl _ _ | with_reducible assumption | (refine Below.drew ?_) | (refine Below.drewN ?_ _) | (refine Below.alloc ?_ (by simp; try omega) _) | (refine Below.setCell ?_ (by simp; try omega) _)))
                have HZ3 := hide ((HZ.out.call bl).grown g3 ((HT.out.call bl).x.box (HZ.out.call bl) (by decide)))
                have HT3 := hide (TI.addX (HT.out.call bl) hn (by simpa using o3) g3 (fun k hk => by have h := k3 k hk; simpa using h))
                subst hn
                clear o3 g3 k3 bl HT HZ z0 hzl
                have HT := hide HT3.out
                clear HT3
                have hzl := HZ3.out.lt
                have z0 := HZ3.out.cell 0
                simp only [List.getElem?_toArray, List.getElem?_cons_zero, List.getElem?_cons_succ] at z0
                go_wp2_with (at_builtin; refine wpList_app (w3.alloc (.cells #[.string z1] 9)) rfl (.tmp 41) (.tmp 44) 90 rfl 9 i0 (.string ByteArray.empty) 1 16 Tryz.underlying90 HI.out.1 HI.out.2.1 HI.out.2.2.1 HI.out.2.2.2 rfl (by decide) w.heap.size A2 ys.length c2 (nmC ys) rfl (HT.out.y.alloc _) ?hb (some ⟨w3.heap.size, 0, none⟩) 1 1 [.string z1] rfl (rd_lit w3 #[.string z1] 9 _ rfl) rfl (fun h => by cases h) ?o1 ?n1 ?n2 ?_)
                case hb => have h := (HT.out.b.alloc HT.out.b.size (.cells #[.string z1] 9)).size; simpa using h
                case o1 => exact one_str z1
                case n1 => unfold maxLen; omega
                case n2 => omega
                intro A4 n4 c4 w4 hn o4 g4 k4
                have bl : Below w3.heap.size w3 (w3.alloc (.cells #[.string z1] 9)) := (by repeat (first | exact Below.refl _ _ | with_reducible assumption | (refine Below.drew ?_) | (refine Below.drewN ?_ _) | (refine Below.alloc ?_ (by simp; try omega) _) | (refine Below.setCell ?_ (by simp; try omega) _)))
                have HT4 := hide (TI.addY (HT.out.call bl) hn (by simpa using o4) g4 (fun k hk => by have h := k4 k hk; simpa using h))
                subst hn
                clear o4 g4 k4 bl HT
                go_wp2_with fail
                refine ⟨⟨j + 1, A3, c3, xs ++ [z1], A4, c4, ys ++ [z1], by omega, by simp, by simp, by go_num, by rw [HST2.out], by simp; omega, by simp; omega, HT4.out⟩, by simp [intOf]; omega⟩
            · have hst : isStrong (z1, z2, z3, z4) = false := by
                have e2 : z3 = -1 := by simpa using q2
                simp [isStrong, e2]
              have HST2 := hide (show twS q0 (o.ys.take (j + 1)) = (xs, ys) from by
                rw [HST.out, twStep, hst]
                rfl)
              clear hst HST
              go_wp2_with fail
              refine ⟨⟨j + 1, A1, c1, xs, A2, c2, ys, by omega, rfl, rfl, by go_num, HST2.out.symm, by omega, by omega, HT.out⟩, by simp [intOf]; omega⟩
          · have hst : isStrong (z1, z2, z3, z4) = false := by
              have e2 : ¬ z2 = 1 := by simpa using q1
              simp [isStrong, e2]
            have HST2 := hide (show twS q0 (o.ys.take (j + 1)) = (xs, ys) from by
              rw [HST.out, twStep, hst]
              rfl)
            clear hst HST
            go_wp2_with fail
            refine ⟨⟨j + 1, A1, c1, xs, A2, c2, ys, by omega, rfl, rfl, by go_num, HST2.out.symm, by omega, by omega, HT.out⟩, by simp [intOf]; omega⟩
        · have hje : j = o.ys.length := by omega
          subst hje
          have HQ2 := hide (show (xs, ys) = twO ([], []) (l.take (k + 1)) from by
            rw [HXY.out, hxy, List.take_length])
          clear hxy hti HXY
          go_wp2_with fail
          refine ⟨⟨k + 1, A1, c1, xs, A2, c2, ys, by omega, rfl, rfl, by go_num, HQ2.out, by omega, by omega, HT.out⟩, by simp [intOf]; omega⟩
    · have hke : k = os.length := by omega
      subst hke
      have HTW := hide (show twice l = xs from by
        rw [twice, ← List.take_of_length_le (show l.length ≤ os.length by rw [← HLL.out]; simp), ← hxy])
      have HQ := hide (sorted_any xs A1 c1 _ wr hti.x (by omega))
      clear hxy hti
      generalize hzs : srtN xs = zs at HQ
      have HZS := hide hzs
      clear hzs
      go_wp2_with fail
      refine HQ.out.mono ?_
      rintro e w4 ⟨A4, c4, rfl, r4, b4⟩
      have HF := hide (And.intro (r4.down HT.out.b.size) (HT.out.b.trans (b4.mono HT.out.b.size)))
      clear r4 b4 HQ
      go_wp2_with fail
      go_ret
      show RetN (srtN (twice l)) w _ _
      rw [HTW.out, HZS.out]
      exact ⟨A4, c4, rfl, HF.out.1, HF.out.2⟩
end Go.Proofs.YtmglgjchemecjaaGreat.CNames
/- NameTable: the bytes of a table of names; the program's. -/
namespace Go.Proofs.YtmglgjchemecjaaGreat.CNameTab
set_option maxRecDepth 200000
open Go.ChangeShapes Go.WideShapes Go.ChangeAt Go.RowKit Kit CCode CName CFixups CSymbols PObj BObj CGlobalOf BStore BList PLink CSorted CNames
def strI (s : ByteArray) : List Int := s.data.toList.map fun b => (b.toNat : Int)
def badP (x : ByteArray) : Bool := !nameOk x
def sfx (o n : ByteArray) : Bool := !decide (o = n) && Lib.hasSuffix o.data.toList n.data.toList
def sfxP (n o : ByteArray) : Bool := sfx o n
def endsIn (all : List ByteArray) (n : ByteArray) : Bool := all.any (sfxP n)
def tabStep (all : List ByteArray) (n : ByteArray) : List Int := bif endsIn all n then [] else strI n ++ [0]
def tabL (all : List ByteArray) : List Int := 0 :: all.flatMap (tabStep all)
def namesOk (ns : List ByteArray) : Bool := decide (ns.length ≤ 40) && ns.all nameOk
def tabN (ns : List ByteArray) : List Int := bif namesOk ns then tabL (srtN ns) else []
theorem sfxF_any (o n : ByteArray) (N : Nat) (w : World) (ho : o.size ≤ maxLen) (hc : w.cell? ⟨N, 0, none⟩ = some (.string n)) :
    Calls Tryz.prog 162 #[.string o, .pointer (some ⟨N, 0, none⟩)] w (Ret (.bool (sfxP n o)) w) := by
  unfold maxLen at ho
  have HH := hide (XNames.strings_HasSuffix o n w (by omega))
  cases h : (o.toList == n.toList)
  · have hne : decide (o = n) = false := by rw [← str_eq, h]
    have HV := hide (show sfxP n o = Lib.hasSuffix o.data.toList n.data.toList by unfold sfxP sfx; rw [hne]; rfl)
    clear hne
    generalize Lib.hasSuffix o.data.toList n.data.toList = v at *
    go_enter Tryz.func162, Tryz.ntmps162
    go_wp2_with fail
    refine HH.out.mono ?_
    rintro e w' ⟨rfl, rfl⟩
    go_wp2_with fail
    go_ret
    exact ⟨by rw [HV.out]; rfl, Below.refl _ _⟩
  · have hne : decide (o = n) = true := by rw [← str_eq, h]
    have HV := hide (show sfxP n o = false by unfold sfxP sfx; rw [hne]; rfl)
    clear hne HH
    go_enter Tryz.func162, Tryz.ntmps162
    go_wp2_with fail
    go_ret
    exact ⟨by rw [HV.out]; rfl, Below.refl _ _⟩
theorem badF_any (x : ByteArray) (w : World) (hx : x.size ≤ maxLen) : Calls Tryz.prog 182 #[.string x] w (Ret (.bool (badP x)) w) := by
  go_enter Tryz.func182, Tryz.ntmps182
  go_wp2_with fail
  refine (nameValid_any x hx w).mono ?_
  rintro e w' ⟨rfl, rfl⟩
  go_wp2_with fail
  go_ret
  exact ⟨rfl, Below.refl _ _⟩
theorem indexBad_any (A : Option Addr) (xs : List ByteArray) (c : Nat) (w : World) (hr : Rd w w.heap.size A (nmC xs)) (hm : xs.length ≤ 1000) (hs : ∀ x ∈ xs, x.size ≤ maxLen) :
    Calls Tryz.prog 183 #[.slice A xs.length c, .func (.func 182) #[] #[]] w fun e w' => ∃ r : Int, e = .returned (.int .i64 r) ∧ decide (0 ≤ r) = xs.any (badP) ∧ Below w.heap.size w w' := by
  have HR := hide hr
  have HSZ := hide hs
  clear hr hs
  go_enter Tryz.func183, Tryz.ntmps183
  go_wp2_with fail
  go_loopw [8] (fun i wr => ∃ k : Nat, k ≤ xs.length ∧ i = .int .i64 k ∧ (xs.take k).any (badP) = false ∧ Below w.heap.size w wr) (fun i _ => xs.length - (intOf i).toNat)
  case atStart => exact ⟨0, Nat.zero_le _, rfl, rfl, Below.refl _ _⟩
  case round =>
    obtain ⟨k, hk, rfl, hn, hb⟩ := hrel
    have HB := hide hb
    by_cases hlt : k < xs.length
    · obtain ⟨b, off, hA, hbb, hc⟩ := (HR.out.below hb) k (.string xs[k]) (by simp [nmC, List.getElem?_eq_getElem hlt])
      have HS := hide (show (xs.take (k + 1)).any (badP) = (badP) xs[k] by rw [take_succ hlt, List.any_append, hn]; simp)
      have HT := hide (show (badP) xs[k] = true → xs.any (badP) = true from fun h => List.any_eq_true.2 ⟨_, List.getElem_mem hlt, h⟩)
      have HP := hide (fun x (hx : x.size ≤ maxLen) => badF_any x wr hx)
      have hsz := HSZ.out _ (List.getElem_mem hlt)
      clear hb hn
      subst hA
      generalize xs[k] = x at *
      have hpred := HP.out x hsz
      cases h : (badP) x
      · have HS' := hide (HS.out.trans h)
        rw [h] at hpred
        clear HT HS h HP
        go_wp2_with fail
        refine hpred.mono ?_
        rintro e w2 ⟨rfl, b2⟩
        have HB' := hide (HB.out.trans (b2.mono HB.out.size))
        clear b2 hc
        go_wp2_with fail
        refine ⟨⟨k + 1, by omega, by go_num, HS'.out, HB'.out⟩, by simp [intOf]; omega⟩
      · have HT' := hide (HT.out h)
        rw [h] at hpred
        clear HT HS h HP
        go_wp2_with fail
        refine hpred.mono ?_
        rintro e w2 ⟨rfl, b2⟩
        have HB' := hide (HB.out.trans (b2.mono HB.out.size))
        clear b2 hc
        go_wp2_with fail
        go_ret
        exact ⟨k, rfl, by rw [HT'.out]; simp, HB'.out⟩
    · have HN := hide (show xs.any (badP) = false by rw [← hn, List.take_of_length_le (by omega)])
      clear hb hn
      go_wp2_with fail
      go_ret
      exact ⟨-1, rfl, by rw [HN.out]; rfl, HB.out⟩
theorem containsBad_any (A : Option Addr) (xs : List ByteArray) (c : Nat) (w : World) (hr : Rd w w.heap.size A (nmC xs)) (hm : xs.length ≤ 1000) (hs : ∀ x ∈ xs, x.size ≤ maxLen) :
    Calls Tryz.prog 161 #[.slice A xs.length c, .func (.func 182) #[] #[]] w (Ret (.bool (xs.any (badP))) w) := by
  have HQ := hide (indexBad_any A xs c w hr hm hs )
  clear hr hm hs
  go_enter Tryz.func161, Tryz.ntmps161
  go_wp2_with fail
  refine HQ.out.mono ?_
  rintro e w2 ⟨r, rfl, hr2, b2⟩
  have HR := hide hr2
  have HB := hide b2
  clear hr2 b2
  go_wp2_with fail
  go_ret
  exact ⟨by rw [← HR.out]; rfl, HB.out⟩
theorem indexSfx_any (n : ByteArray) (N : Nat) (A : Option Addr) (xs : List ByteArray) (c : Nat) (w : World) (hr : Rd w w.heap.size A (nmC xs)) (hm : xs.length ≤ 1000) (hs : ∀ x ∈ xs, x.size ≤ maxLen) (hN : N < w.heap.size) (hc0 : w.cell? ⟨N, 0, none⟩ = some (.string n)) :
    Calls Tryz.prog 183 #[.slice A xs.length c, .func (.func 162) #[] #[.pointer (some ⟨N, 0, none⟩)]] w fun e w' => ∃ r : Int, e = .returned (.int .i64 r) ∧ decide (0 ≤ r) = xs.any (sfxP n) ∧ Below w.heap.size w w' := by
  have HR := hide hr
  have HSZ := hide hs
  clear hr hs
  go_enter Tryz.func183, Tryz.ntmps183
  go_wp2_with fail
  go_loopw [8] (fun i wr => ∃ k : Nat, k ≤ xs.length ∧ i = .int .i64 k ∧ (xs.take k).any (sfxP n) = false ∧ Below w.heap.size w wr) (fun i _ => xs.length - (intOf i).toNat)
  case atStart => exact ⟨0, Nat.zero_le _, rfl, rfl, Below.refl _ _⟩
  case round =>
    obtain ⟨k, hk, rfl, hn, hb⟩ := hrel
    have HB := hide hb
    by_cases hlt : k < xs.length
    · obtain ⟨b, off, hA, hbb, hc⟩ := (HR.out.below hb) k (.string xs[k]) (by simp [nmC, List.getElem?_eq_getElem hlt])
      have HS := hide (show (xs.take (k + 1)).any (sfxP n) = (sfxP n) xs[k] by rw [take_succ hlt, List.any_append, hn]; simp)
      have HT := hide (show (sfxP n) xs[k] = true → xs.any (sfxP n) = true from fun h => List.any_eq_true.2 ⟨_, List.getElem_mem hlt, h⟩)
      have HP := hide (fun x (hx : x.size ≤ maxLen) => sfxF_any x n N wr hx ((hb.cell (p := ⟨N, 0, none⟩) hN).trans hc0))
      have hsz := HSZ.out _ (List.getElem_mem hlt)
      clear hb hn
      subst hA
      generalize xs[k] = x at *
      have hpred := HP.out x hsz
      cases h : (sfxP n) x
      · have HS' := hide (HS.out.trans h)
        rw [h] at hpred
        clear HT HS h HP
        go_wp2_with fail
        refine hpred.mono ?_
        rintro e w2 ⟨rfl, b2⟩
        have HB' := hide (HB.out.trans (b2.mono HB.out.size))
        clear b2 hc
        go_wp2_with fail
        refine ⟨⟨k + 1, by omega, by go_num, HS'.out, HB'.out⟩, by simp [intOf]; omega⟩
      · have HT' := hide (HT.out h)
        rw [h] at hpred
        clear HT HS h HP
        go_wp2_with fail
        refine hpred.mono ?_
        rintro e w2 ⟨rfl, b2⟩
        have HB' := hide (HB.out.trans (b2.mono HB.out.size))
        clear b2 hc
        go_wp2_with fail
        go_ret
        exact ⟨k, rfl, by rw [HT'.out]; simp, HB'.out⟩
    · have HN := hide (show xs.any (sfxP n) = false by rw [← hn, List.take_of_length_le (by omega)])
      clear hb hn
      go_wp2_with fail
      go_ret
      exact ⟨-1, rfl, by rw [HN.out]; rfl, HB.out⟩
theorem containsSfx_any (n : ByteArray) (N : Nat) (A : Option Addr) (xs : List ByteArray) (c : Nat) (w : World) (hr : Rd w w.heap.size A (nmC xs)) (hm : xs.length ≤ 1000) (hs : ∀ x ∈ xs, x.size ≤ maxLen) (hN : N < w.heap.size) (hc0 : w.cell? ⟨N, 0, none⟩ = some (.string n)) :
    Calls Tryz.prog 161 #[.slice A xs.length c, .func (.func 162) #[] #[.pointer (some ⟨N, 0, none⟩)]] w (Ret (.bool (xs.any (sfxP n))) w) := by
  have HQ := hide (indexSfx_any n N A xs c w hr hm hs hN hc0)
  clear hr hm hs
  go_enter Tryz.func161, Tryz.ntmps161
  go_wp2_with fail
  refine HQ.out.mono ?_
  rintro e w2 ⟨r, rfl, hr2, b2⟩
  have HR := hide hr2
  have HB := hide b2
  clear hr2 b2
  go_wp2_with fail
  go_ret
  exact ⟨by rw [← HR.out]; rfl, HB.out⟩
theorem not_any_all (ns : List ByteArray) : (!(ns.any badP)) = ns.all nameOk := by
  induction ns with
  | nil => rfl
  | cons x xs ih => simp only [List.any_cons, List.all_cons, Bool.not_or, badP, Bool.not_not, ← ih]
theorem areNames_any (A : Option Addr) (xs : List ByteArray) (c : Nat) (w : World) (hr : Rd w w.heap.size A (nmC xs)) (hm : xs.length ≤ 1000) (hs : ∀ x ∈ xs, x.size ≤ maxLen) :
    Calls Tryz.prog 160 #[.slice A xs.length c] w (Ret (.bool (namesOk xs)) w) := by
  have HQ := hide (containsBad_any A xs c w hr hm hs)
  have HE := hide (not_any_all xs)
  clear hr hs
  by_cases h4 : xs.length ≤ 40
  · have e1 : decide ((xs.length : Int) ≤ 40) = true := decide_eq_true (by omega)
    have HV := hide (show namesOk xs = xs.all nameOk by unfold namesOk; rw [decide_eq_true h4]; rfl)
    clear h4
    generalize xs.any badP = v at *
    go_enter Tryz.func160, Tryz.ntmps160
    go_wp2_with fail
    refine HQ.out.mono ?_
    rintro e w2 ⟨rfl, b2⟩
    have HB := hide b2
    clear b2
    go_wp2_with fail
    go_ret
    exact ⟨by rw [HV.out, ← HE.out]; rfl, HB.out⟩
  · have e1 : decide ((xs.length : Int) ≤ 40) = false := decide_eq_false (by omega)
    have HV := hide (show namesOk xs = false by unfold namesOk; rw [decide_eq_false h4]; rfl)
    clear h4
    go_enter Tryz.func160, Tryz.ntmps160
    go_wp2_with fail
    go_ret
    exact ⟨by rw [HV.out]; rfl, Below.refl _ _⟩
end Go.Proofs.YtmglgjchemecjaaGreat.CNameTab
