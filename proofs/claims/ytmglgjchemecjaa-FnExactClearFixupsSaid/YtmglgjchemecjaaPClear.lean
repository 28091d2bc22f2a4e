/- Clearing what fixups fill: plain; and the stores that do it. -/
import Derived.Test.YtmglgjchemecjaaBStore
import Derived.Test.YtmglgjchemecjaaPWarn
import Derived.Lib.VarintMem
import Derived.Lib.EndianMore
namespace Go.Proofs.Ytmglgjchemecjaa.PClear
set_option maxRecDepth 200000
open Go.ChangeShapes Go.WideShapes Go.ChangeAt Go.RowKit Kit CFixups CSymbols PObj BObj CMarkRows PValid BStore CCovers PWarn
def setz (zs : List Int) (a : Nat) : Nat → List Int
  | 0 => zs
  | n + 1 => (setz zs a n).set (a + n) 0
theorem setz_len (zs : List Int) (a : Nat) : ∀ n, (setz zs a n).length = zs.length
  | 0 => rfl
  | n + 1 => by rw [setz, List.length_set, setz_len zs a n]
def clr (zs : List Int) (f : FD) : List Int := setz zs f.1.toNat (wide f.2.1).toNat
theorem clr_len (zs : List Int) (f : FD) : (clr zs f).length = zs.length := setz_len _ _ _
def clrs (zs : List Int) (fs : List FD) : List Int := fs.foldl clr zs
theorem clrs_len (fs : List FD) : ∀ zs, (clrs zs fs).length = zs.length := by
  induction fs with
  | nil => intro zs; rfl
  | cons f fs ih => intro zs; rw [clrs, List.foldl_cons, ← clrs, ih, clr_len]
theorem clrs_snoc (zs : List Int) (fs : List FD) (f : FD) : clrs zs (fs ++ [f]) = clr (clrs zs fs) f := by simp [clrs, List.foldl_append]
def clrP (p : SV) (fs : List FD) : SV := { p with zs := clrs p.zs fs }
def clrA (p : SV) : SV := clrP p p.fs
theorem clrP_nil (p : SV) : clrP p [] = p := rfl
theorem clrP_cells (p : SV) (fs : List FD) : secC (clrP p fs) = secC p := by simp [secC, clrP, clrs_len]
def clearS (s : SD) : SD := { s with zs := clrs s.zs s.fs }
def clearD (d : OD) : OD := bif objOk d then ⟨d.ss.map clearS, d.ys⟩ else ⟨[], []⟩
theorem clear_bad {d : OD} (h : objOk d = false) : clearD d = ⟨[], []⟩ := by rw [clearD, h]; rfl
theorem clear_ok {ps : List SV} {ys : List YD} (h : objOk ⟨ps.map SV.d, ys⟩ = true) : clearD ⟨ps.map SV.d, ys⟩ = ⟨(ps.map clrA).map SV.d, ys⟩ := by
  rw [clearD, h, cond_true, List.map_map, List.map_map]
  rfl
/-- What the clearing of a valid object needs. -/
def FxOk (p : SV) : Prop := ∀ f ∈ p.fs, 0 ≤ f.1 ∧ f.1 + wide f.2.1 ≤ p.zs.length ∧ 0 < wide f.2.1
theorem fixes_all {many : Int} {n : Nat} : ∀ {e : Int} {fs : List FD}, 0 ≤ e → fixesOk many n e fs = true → ∀ f ∈ fs, (0 ≤ f.1 ∧ f.1 + wide f.2.1 ≤ n ∧ 0 < wide f.2.1) ∧ 0 ≤ f.2.2.1 ∧ f.2.2.1 < many
  | _, [], _, _, f, hf => by cases hf
  | e, g :: fs, he, h, f, hf => by
    simp only [fixesOk, Bool.and_eq_true] at h
    have hg := fixOk_iff.1 h.1
    have hw := wide_bd g.2.1
    rcases List.mem_cons.1 hf with rfl | hf
    · omega
    · exact fixes_all (by omega) h.2 f hf
theorem sec_all {many : Int} {d : SD} (h : secOk many d = true) : d.fs.length ≤ 6 ∧ d.zs.length ≤ 48 ∧ ∀ f ∈ d.fs, (0 ≤ f.1 ∧ f.1 + wide f.2.1 ≤ d.zs.length ∧ 0 < wide f.2.1) ∧ 0 ≤ f.2.2.1 ∧ f.2.2.1 < many := by
  rw [secOk, Bool.and_eq_true] at h
  obtain ⟨_, h⟩ := h
  split at h
  · simp only [blankOk, Bool.and_eq_true, decide_eq_true_eq] at h
    have : d.fs = [] := List.eq_nil_of_length_eq_zero h.2
    rw [this]
    refine ⟨by simp, by omega, ?_⟩
    intro f hf
    cases hf
  · simp only [bodyOk, Bool.and_eq_true, decide_eq_true_eq] at h
    exact ⟨h.1.2, h.1.1.2, fixes_all (Int.le_refl 0) h.2⟩
theorem obj_all {d : OD} (h : objOk d = true) : d.ss.length ≤ 8 ∧ d.ys.length ≤ 12 ∧ ∀ s ∈ d.ss, s.fs.length ≤ 6 ∧ s.zs.length ≤ 48 ∧ ∀ f ∈ s.fs, (0 ≤ f.1 ∧ f.1 + wide f.2.1 ≤ s.zs.length ∧ 0 < wide f.2.1) ∧ 0 ≤ f.2.2.1 ∧ f.2.2.1 < d.ys.length := by
  simp only [objOk, Bool.and_eq_true, decide_eq_true_eq, List.all_eq_true] at h
  exact ⟨h.1.1.1, h.1.1.2, fun s hs => sec_all (h.1.2 s hs)⟩
/-- A section's cells in the row of sections. -/
theorem row_at {w : World} {B : Nat} {A : Option Addr} {l1 l2 : List SV} {q : SV} (h : RdSs w B A (l1 ++ q :: l2)) :
    ∃ b off, A = some ⟨b, off, none⟩ ∧ b < B ∧ ∀ j u, (secC q)[j]? = some u → w.cell? ⟨b, off + l1.length * 6 + j, none⟩ = some u := by
  obtain ⟨b, off, hA, hb, hc⟩ := h.1.row secC_len (by decide) (show l1.length < (l1 ++ q :: l2).length by simp)
  refine ⟨b, off, hA, hb, fun j u hu => hc j u ?_⟩
  rw [List.getElem_append_right (Nat.le_refl _)]
  simpa using hu
/-- Bytes cleared at once. -/
theorem OwnO.clear {base c yc : Nat} {A Y : Option Addr} {l1 l2 : List SV} {q : SV} {ys : List YD} {g : Nat} (hA : q.A = some ⟨g, 0, none⟩) (a : Nat) :
    ∀ (n : Nat) (w : World), a + n ≤ q.zs.length → OwnO w base ⟨A, c, l1 ++ q :: l2, Y, yc, ys⟩ →
    OwnO (w.setCells g a (List.replicate n (.int .u8 0))) base ⟨A, c, l1 ++ { q with zs := setz q.zs a n } :: l2, Y, yc, ys⟩
  | 0, w, _, h => h
  | n + 1, w, hn, h => by
    rw [List.replicate_succ', ← Lib.setCells_snoc_w, List.length_replicate]
    exact OwnO.storeB (OwnO.clear hA a n w (by omega) h) hA (a + n) (by simp only [setz_len]; omega) 0
theorem clear_block (g : Nat) (k : Nat) (hk : k ≠ g) : ∀ (vs : List Value) (o : Nat) (w : World), (w.setCells g o vs).heap[k]? = w.heap[k]?
  | [], _, _ => rfl
  | v :: vs, o, w => by
    rw [World.setCells, clear_block g k hk vs]
    exact Below.heap_setCell _ _ _ k hk
theorem clear_box {w : World} {X g o : Nat} {t : TypeId} {cs : Array Value} {vs : List Value} (h : Box w X t cs) (hne : X ≠ g) : Box (w.setCells g o vs) X t cs := (clear_block g X hne vs o w).trans h
theorem zero8 (w : World) : (zeroValue 5).run Try.prog w = .ok (.int .u8 0) w := by
  have e : Try.t5.zero = some (.int .u8 0) := by kernel_rfl
  simp [zeroValue, e]
theorem step_clear {ops : Array Oper} {o : Oper} {a : Act} {w : World} {K : Act → World → Prop} {Q : Exit → Act → World → Prop} {E : Prop} (hgd : o.guard = none) (s : Operand)
    (ho : o.op = .call { callee := .builtin .clear, args := #[s], argTypes := #[22] }) (b off n c : Nat) (hs : a.eval s = .slice (some ⟨b, off, none⟩) n c) (hn : 0 < n)
    (hc : ∀ j, j < n → (w.cell? ⟨b, off + j, none⟩).isSome = true) (hf : ∀ j, j < n → w.frozen? ⟨b, off + j, none⟩ = false)
    (h : K (a.put o.dst (.tuple #[])) (w.setCells b off (List.replicate n (.int .u8 0)))) :
    if Region.wanted o (yielded ops a.tmps) = true then Oper.wp Try.prog o a w K Q else E := by
  have hw : Region.wanted o (yielded ops a.tmps) = true := by simp [Region.wanted, hgd]
  rw [if_pos hw]
  have hrun := Lib.run_clear_slice (P := Try.prog) w 22 5 o.type (.int .u8 0) Try.underlying22 zero8 rfl rfl b off n c hn hc hf
  unfold Oper.wp
  simp [execOp, ho, resolve, invoke, builtin, hs, hrun, Result.andThen]
  exact (show K _ _ from by simpa using h)
end Go.Proofs.Ytmglgjchemecjaa.PClear
