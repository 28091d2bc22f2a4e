/- The warnings for an object; plain. -/
import Derived.Test.YtmglgjchemecjaaCCovers
import Derived.Test.YtmglgjchemecjaaCObjValidS
namespace Go.Proofs.Ytmglgjchemecjaa.PWarn
set_option maxRecDepth 200000
open Go.ChangeShapes Go.WideShapes Go.ChangeAt Go.RowKit Kit CCode CFixups CSymbols PObj BObj PValid CUses CCovers CObjValid
abbrev WD := CWarnings.D
def dS : SD := ⟨ByteArray.empty, 0, 0, [], 0, []⟩
def dY : YD := (ByteArray.empty, 0, 0, 0)
def at1 (d : OD) (k : Nat) : List WD := if (d.ys.getD k dY).2.2.1 = -1 ∧ used d.ss k = false then [(1, (k : Int))] else []
def at2 (d : OD) (k : Nat) : List WD := if secSize (d.ss.getD k dS) = 0 then [(2, (k : Int))] else []
def at3 (d : OD) (k : Nat) : List WD := if coverB (d.ss.getD k dS) = true then [(3, (k : Int))] else []
def upto (f : Nat → List WD) (n : Nat) : List WD := (List.range n).flatMap f
theorem upto_succ (f : Nat → List WD) (n : Nat) : upto f (n + 1) = upto f n ++ f n := by
  unfold upto
  rw [List.range_succ, List.flatMap_append]
  simp
theorem upto_len {f : Nat → List WD} (h : ∀ k, (f k).length ≤ 1) : ∀ n, (upto f n).length ≤ n
  | 0 => by simp [upto]
  | n + 1 => by
    rw [upto_succ, List.length_append]
    have := upto_len h n
    have := h n
    omega
theorem at1_len (d : OD) (k : Nat) : (at1 d k).length ≤ 1 := by unfold at1; split <;> simp
theorem at2_len (d : OD) (k : Nat) : (at2 d k).length ≤ 1 := by unfold at2; split <;> simp
theorem at3_len (d : OD) (k : Nat) : (at3 d k).length ≤ 1 := by unfold at3; split <;> simp
def list (d : OD) : List WD := upto (at1 d) d.ys.length ++ upto (at2 d) d.ss.length ++ upto (at3 d) d.ss.length
def warns (d : OD) : List WD := bif objOk d then list d else []
theorem getS {ps : List SV} {k : Nat} (h : k < ps.length) : (ps.map SV.d).getD k dS = ps[k].d := by
  rw [List.getD_eq_getElem?_getD, List.getElem?_map, List.getElem?_eq_getElem h]
  rfl
theorem fixes_in {many : Int} {n : Nat} : ∀ {e : Int} {fs : List FD}, 0 ≤ e → fixesOk many n e fs = true → ∀ f ∈ fs, 0 ≤ f.1 ∧ f.1 + wide f.2.1 ≤ n
  | _, [], _, _, f, hf => by cases hf
  | e, g :: fs, he, h, f, hf => by
    simp only [fixesOk, Bool.and_eq_true] at h
    have hg := fixOk_iff.1 h.1
    have hw := wide_bd g.2.1
    rcases List.mem_cons.1 hf with rfl | hf
    · omega
    · exact fixes_in (by omega) h.2 f hf
theorem sec_in {many : Int} {d : SD} (h : secOk many d = true) : InB d.zs d.fs := by
  rw [secOk, Bool.and_eq_true] at h
  obtain ⟨_, h⟩ := h
  split at h
  · simp only [blankOk, Bool.and_eq_true, decide_eq_true_eq] at h
    have : d.fs = [] := List.eq_nil_of_length_eq_zero h.2
    rw [this]
    intro f hf
    cases hf
  · simp only [bodyOk, Bool.and_eq_true] at h
    exact fixes_in (Int.le_refl 0) h.2
theorem obj_facts {d : OD} (h : objOk d = true) : d.ss.length ≤ 8 ∧ d.ys.length ≤ 12 ∧ ∀ s ∈ d.ss, InB s.zs s.fs := by
  simp only [objOk, Bool.and_eq_true, decide_eq_true_eq, List.all_eq_true] at h
  exact ⟨h.1.1.1, h.1.1.2, fun s hs => sec_in (h.1.2 s hs)⟩
theorem list_len {d : OD} (h1 : d.ss.length ≤ 8) (h2 : d.ys.length ≤ 12) : (list d).length ≤ 28 := by
  unfold list
  rw [List.length_append, List.length_append]
  have := upto_len (at1_len d) d.ys.length
  have := upto_len (at2_len d) d.ss.length
  have := upto_len (at3_len d) d.ss.length
  omega
def RetW (L : List WD) (w : World) (e : Ending) (w' : World) : Prop := ∃ A c, e = .returned (.slice A L.length c) ∧ Row w' w.heap.size 31 2 A L.length c (cellsOf CWarnings.warningC L) ∧ Below w.heap.size w w'
end Go.Proofs.Ytmglgjchemecjaa.PWarn
