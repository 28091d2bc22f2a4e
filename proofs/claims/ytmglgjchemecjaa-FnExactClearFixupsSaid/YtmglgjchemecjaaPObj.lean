/- Objects as values: their sections and symbols, where these lie, and the plain data. -/
import Derived.Test.YtmglgjchemecjaaBase5
import Derived.Test.YtmglgjchemecjaaCFixups
import Derived.Test.YtmglgjchemecjaaCSymbols
namespace Go.Proofs.Ytmglgjchemecjaa.PObj
set_option maxRecDepth 200000
open Go.ChangeShapes Go.WideShapes Go.ChangeAt Go.RowKit Kit CFixups CSymbols
abbrev FD := CFixups.D
abbrev YD := CSymbols.D
/-- A section as a value: name, kind, align, where its bytes lie, size, where its fixups lie. -/
structure SV where
  nm : ByteArray
  kd : Int
  al : Int
  A : Option Addr
  c : Nat
  zs : List Int
  sz : Int
  F : Option Addr
  fc : Nat
  fs : List FD
/-- .. and its data. -/
structure SD where
  nm : ByteArray
  kd : Int
  al : Int
  zs : List Int
  sz : Int
  fs : List FD
def SV.d (p : SV) : SD := ⟨p.nm, p.kd, p.al, p.zs, p.sz, p.fs⟩
def secC (p : SV) : List Value := [.string p.nm, .int .i64 p.kd, .int .i64 p.al, .slice p.A p.zs.length p.c, .int .i64 p.sz, .slice p.F p.fs.length p.fc]
theorem secC_len (p : SV) : (secC p).length = 6 := rfl
/-- An object as a value. -/
structure OV where
  A : Option Addr
  c : Nat
  ps : List SV
  Y : Option Addr
  yc : Nat
  ys : List YD
structure OD where
  ss : List SD
  ys : List YD
def OV.d (o : OV) : OD := ⟨o.ps.map SV.d, o.ys⟩
def OV.v (o : OV) : Value := .agg #[.slice o.A o.ps.length o.c, .slice o.Y o.ys.length o.yc]
/-- What all counts as for the laws' sizes. -/
def wt (d : SD) : Int := d.nm.size + d.zs.length + d.fs.length
def tot : List SD → Int
  | [] => 0
  | d :: ds => wt d + tot ds
theorem wt_nonneg (d : SD) : 0 ≤ wt d := by unfold wt; omega
theorem tot_nonneg : ∀ ds, 0 ≤ tot ds
  | [] => Int.le_refl 0
  | d :: ds => by
    have := tot_nonneg ds
    have := wt_nonneg d
    simp only [tot]
    omega
theorem tot_mem : ∀ (ds : List SD) (d : SD), d ∈ ds → wt d ≤ tot ds
  | [], d, h => by simp at h
  | e :: ds, d, h => by
    have := tot_nonneg ds
    have := wt_nonneg e
    simp only [tot]
    rcases List.mem_cons.1 h with rfl | h
    · omega
    · have := tot_mem ds d h
      omega
theorem tot_drop {ds : List SD} {k : Nat} (h : k < ds.length) : tot (ds.drop k) = wt ds[k] + tot (ds.drop (k + 1)) := by
  rw [List.drop_eq_getElem_cons h]
  rfl
theorem tot_drop_le : ∀ (ds : List SD) (k : Nat), tot (ds.drop k) ≤ tot ds
  | [], k => by simp [tot]
  | d :: ds, 0 => Int.le_refl _
  | d :: ds, k + 1 => by
    have := tot_drop_le ds k
    have := wt_nonneg d
    simp only [List.drop_succ_cons, tot]
    omega
def toty : List YD → Int
  | [] => 0
  | d :: ds => d.1.size + toty ds
theorem toty_nonneg : ∀ ds, 0 ≤ toty ds
  | [] => Int.le_refl 0
  | d :: ds => by
    have := toty_nonneg ds
    simp only [toty]
    omega
theorem toty_mem : ∀ (ds : List YD) (d : YD), d ∈ ds → (d.1.size : Int) ≤ toty ds
  | [], d, h => by simp at h
  | e :: ds, d, h => by
    have := toty_nonneg ds
    simp only [toty]
    rcases List.mem_cons.1 h with rfl | h
    · omega
    · have := toty_mem ds d h
      omega
theorem toty_drop {ds : List YD} {k : Nat} (h : k < ds.length) : toty (ds.drop k) = ds[k].1.size + toty (ds.drop (k + 1)) := by
  rw [List.drop_eq_getElem_cons h]
  rfl
theorem toty_drop_le : ∀ (ds : List YD) (k : Nat), toty (ds.drop k) ≤ toty ds
  | [], k => by simp [toty]
  | d :: ds, 0 => Int.le_refl _
  | d :: ds, k + 1 => by
    have := toty_drop_le ds k
    simp only [List.drop_succ_cons, toty]
    omega
end Go.Proofs.Ytmglgjchemecjaa.PObj
