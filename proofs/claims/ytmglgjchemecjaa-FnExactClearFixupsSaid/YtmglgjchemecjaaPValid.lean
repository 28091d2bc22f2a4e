/- When sections, symbols and objects are valid; plain. -/
import Derived.Test.YtmglgjchemecjaaPObj
import Derived.Test.YtmglgjchemecjaaCName
namespace Go.Proofs.Ytmglgjchemecjaa.PValid
set_option maxRecDepth 200000
open Go.ChangeShapes Go.WideShapes Go.ChangeAt Go.RowKit Kit CCode CName PObj
def wide (k : Int) : Int := if k = 1 then 1 else if k = 2 then 2 else if k = 3 then 4 else 0
theorem wide_bd (k : Int) : 0 ≤ wide k ∧ wide k ≤ 4 := by
  unfold wide
  split
  · omega
  · split
    · omega
    · split <;> omega
def alignOk (n : Int) : Bool := decide (n = 1) || decide (n = 2) || decide (n = 4) || decide (n = 8)
def fixOk (many : Int) (n : Nat) (e : Int) (f : FD) : Bool := !decide (wide f.2.1 = 0) && !decide (f.2.2.1 < 0) && !decide (many ≤ f.2.2.1) && inB f.2.2.2 (-1000) 1000 && inB f.1 e (n - wide f.2.1)
def fixesOk (many : Int) (n : Nat) : Int → List FD → Bool
  | _, [] => true
  | e, f :: fs => fixOk many n e f && fixesOk many n (f.1 + wide f.2.1) fs
def headOk (d : SD) : Bool := nameOk d.nm && inB d.kd 1 3 && alignOk d.al
def blankOk (d : SD) : Bool := inB d.sz 0 48 && decide (d.zs.length = 0) && decide (d.fs.length = 0)
def bodyOk (many : Int) (d : SD) : Bool := decide (d.sz = 0) && decide (d.zs.length ≤ 48) && decide (d.fs.length ≤ 6) && fixesOk many d.zs.length 0 d.fs
def secOk (many : Int) (d : SD) : Bool := headOk d && (if d.kd = 3 then blankOk d else bodyOk many d)
def secSize (d : SD) : Int := if d.kd = 3 then d.sz else d.zs.length
theorem fixes_drop {many : Int} {n : Nat} {e : Int} {fs : List FD} {k : Nat} (h : k < fs.length) : fixesOk many n e (fs.drop k) = (fixOk many n e fs[k] && fixesOk many n (fs[k].1 + wide fs[k].2.1) (fs.drop (k + 1))) := by
  rw [List.drop_eq_getElem_cons h]
  rfl
theorem fixOk_iff {many : Int} {n : Nat} {e : Int} {f : FD} : fixOk many n e f = true ↔ wide f.2.1 ≠ 0 ∧ 0 ≤ f.2.2.1 ∧ f.2.2.1 < many ∧ (-1000 ≤ f.2.2.2 ∧ f.2.2.2 ≤ 1000) ∧ (e ≤ f.1 ∧ f.1 ≤ n - wide f.2.1) := by
  simp only [fixOk, inB, Bool.and_eq_true, Bool.not_eq_true', decide_eq_false_iff_not, decide_eq_true_eq]
  omega
def bindOk (y : YD) : Bool := nameOk y.1 && inB y.2.1 0 2
def placeOk (ss : List SD) (y : YD) : Bool :=
  if y.2.2.1 = -1 then decide (y.2.2.2 = 0) && !decide (y.2.1 = 0)
  else if y.2.2.1 = -2 then inB y.2.2.2 0 60000
  else inB y.2.2.1 0 (ss.length - 1) && inB y.2.2.2 0 (secSize (ss.getD y.2.2.1.toNat ⟨ByteArray.empty, 0, 0, [], 0, []⟩))
def symOk (ss : List SD) (y : YD) : Bool := bindOk y && placeOk ss y
/-- A symbol whose name is given again. -/
def clash (ys : List YD) (y : YD) : Bool := !decide (y.2.1 = 0) && ys.any fun x => !decide (x.2.1 = 0) && decide (x.1 = y.1)
def symsOk (ss : List SD) (ys : List YD) : Bool := (List.range ys.length).all fun k => symOk ss (ys.getD k (ByteArray.empty, 0, 0, 0)) && !clash (ys.take k) (ys.getD k (ByteArray.empty, 0, 0, 0))
def objOk (o : OD) : Bool := decide (o.ss.length ≤ 8) && decide (o.ys.length ≤ 12) && (o.ss.all fun d => secOk o.ys.length d) && symsOk o.ss o.ys
end Go.Proofs.Ytmglgjchemecjaa.PValid
