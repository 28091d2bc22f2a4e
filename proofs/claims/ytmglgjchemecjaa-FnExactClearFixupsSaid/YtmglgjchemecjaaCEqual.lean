/- The contract of the library's bytes.Equal, at every two slices of bytes. -/
import Derived.Test.YtmglgjchemecjaaBase
import Derived.Test.YtmglgjchemecjaaRows
import Derived.Laws.BytesArg
import Derived.Lib.Bytes
namespace Go.Proofs.Ytmglgjchemecjaa.CEqual
set_option maxRecDepth 200000
open Go.ChangeShapes Go.WideShapes Go.ChangeAt Go.RowKit Kit
theorem conv_run {w : World} {B : Nat} {A : Option Addr} {xs : List Int} (h : Rd w B A (ints .u8 xs)) (c : Nat) : (convert 22 9 (.slice A xs.length c)).run Try.prog w = .ok (.string (strOfNums xs)) w := by
  cases xs with
  | nil =>
    cases A with
    | none => exact run_convert_bytes_nil w 22 5 Try.underlying22 Try.underlying5 0 c 9 Try.underlying9
    | some a =>
      have hl : (loadCells a 0).run Try.prog w = .ok (([] : List Int).map (Value.int .u8)).toArray w := by
        have := run_loadCells_list (P := Try.prog) w a [] (fun j v hj => by simp at hj)
        simpa using this
      have hl0 : ([] : List Int).length = 0 := rfl
      rw [hl0, run_convert_bytes_string w 22 9 5 _ 0 c Try.underlying22 Try.underlying5 Try.underlying9, run_bytesToString w _ 0 c [] hl]
      rfl
  | cons x r =>
    obtain ⟨b, off, rfl, _⟩ := h.int (i := 0) (by simp)
    refine run_convert_bytes_arg w 22 5 Try.underlying22 Try.underlying5 b off _ c (x :: r) rfl (fun i hi => ?_) 9 Try.underlying9
    obtain ⟨b', off', e, _, hc⟩ := h.int hi
    simp only [Option.some.injEq, Addr.mk.injEq, and_true] at e
    obtain ⟨rfl, rfl⟩ := e
    rw [hc, List.getD_eq_getElem?_getD, List.getElem?_eq_getElem hi]
    rfl
theorem bytes_inj : ∀ {xs ys : List Int}, InR 0 255 xs → InR 0 255 ys → Lib.bytesOf xs = Lib.bytesOf ys → xs = ys
  | [], [], _, _, _ => rfl
  | [], y :: s, _, _, h => by simp [Lib.bytesOf] at h
  | x :: r, [], _, _, h => by simp [Lib.bytesOf] at h
  | x :: r, y :: s, hx, hy, h => by
    simp only [Lib.bytesOf, List.map_cons, List.cons.injEq] at h
    have h1 := hx x (by simp)
    have h2 := hy y (by simp)
    have h3 := congrArg UInt8.toNat h.1
    simp only [UInt8.toNat_ofNat'] at h3
    have e : x = y := by omega
    have e2 := bytes_inj (fun z hz => hx z (by simp [hz])) (fun z hz => hy z (by simp [hz])) h.2
    rw [e, e2]
theorem str_eq {xs ys : List Int} (hx : InR 0 255 xs) (hy : InR 0 255 ys) : ((strOfNums xs).toList == (strOfNums ys).toList) = decide (xs = ys) := by
  rw [Lib.strOfNums_toList, Lib.strOfNums_toList]
  by_cases h : xs = ys
  · subst h; simp
  · simp only [h, decide_false]
    exact beq_eq_false_iff_ne.2 fun e => h (bytes_inj hx hy e)
theorem equal_any (A A' : Option Addr) (xs ys : List Int) (c c' B B' : Nat) (w : World) (hr : Rd w B A (ints .u8 xs)) (hr' : Rd w B' A' (ints .u8 ys)) (hx : InR 0 255 xs) (hy : InR 0 255 ys) :
    Calls Try.prog 87 #[.slice A xs.length c, .slice A' ys.length c'] w (Pure (.bool (decide (xs = ys))) w) := by
  have e1 := conv_run hr c
  have e2 := conv_run hr' c'
  have HE := hide (str_eq hx hy)
  generalize decide (xs = ys) = b at *
  clear hr hr'
  generalize strOfNums xs = s at *
  generalize strOfNums ys = s' at *
  go_enter Try.func87, Try.ntmps87
  go_wp2
  go_ret
  exact ⟨ret_bool HE.out, rfl⟩
theorem equal_n (A A' : Option Addr) (xs ys : List Int) (n m c c' B B' : Nat) (w : World) (hn : n = xs.length) (hm : m = ys.length) (hr : Rd w B A (ints .u8 xs)) (hr' : Rd w B' A' (ints .u8 ys)) (hx : InR 0 255 xs) (hy : InR 0 255 ys) :
    Calls Try.prog 87 #[.slice A n c, .slice A' m c'] w (Pure (.bool (decide (xs = ys))) w) := by
  subst hn hm
  exact equal_any A A' xs ys c c' B B' w hr hr' hx hy
end Go.Proofs.Ytmglgjchemecjaa.CEqual
