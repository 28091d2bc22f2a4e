/- The words that head the translation, read off the letters one by one: what the closing facts ask of them. -/
import Derived.Test.YtmglgjchemecjaaRows
import Derived.Test.YtmglgjchemecjaaBase
namespace Go.Proofs.Ytmglgjchemecjaa.Words
set_option maxRecDepth 200000
open Go.ChangeShapes Go.WideShapes Go.ChangeAt Go.RowKit
theorem words_app : ∀ (w : List Nat) (r : List Char), (w.all fun x => Char.ofNat x != Char.ofNat 32) = true → wordsSigns (w.map Char.ofNat ++ Char.ofNat 32 :: r) = w.map Char.ofNat :: wordsSigns r
  | [], r, _ => by
    show wordsSigns (Char.ofNat 32 :: r) = [] :: wordsSigns r
    rw [wordsSigns]
  | x :: w, r, h => by
    simp only [List.all_cons, Bool.and_eq_true, bne_iff_ne, ne_eq] at h
    have ih := words_app w r (by simpa using h.2)
    simp only [List.map_cons, List.cons_append]
    rw [wordsSigns, ih]
    exact h.1
abbrev w0 : List Nat := [104, 97, 114, 110, 101, 115, 115]
abbrev w1 : List Nat := [56, 100, 55, 54, 98, 53, 51, 99, 98, 98, 99, 97, 98, 101, 99, 97, 49, 56, 48, 101, 100, 53, 52, 101, 99, 99, 98, 101, 101, 48, 53, 50, 100, 100, 97, 100, 50, 101, 101, 99, 98, 55, 56, 102, 102, 48, 56, 56, 98, 54, 99, 97, 100, 97, 53, 48, 52, 97, 48, 52, 97, 57, 51, 56]
abbrev w2 : List Nat := [99, 117, 116]
def W0 : List Char := w0.map Char.ofNat
def W1 : List Char := w1.map Char.ofNat
def W2 : List Char := w2.map Char.ofNat
theorem split : ∃ R, wordsSigns Try.prog.initOrder.toList = W0 :: W1 :: W2 :: R := by
  unfold W0 W1 W2
  refine ⟨wordsSigns (([97, 116, 32, 108, 111, 111, 112, 46, 101, 120, 97, 109, 112, 108, 101, 47, 111, 98, 106, 101, 99, 116, 108, 105, 110, 107, 101, 114, 47, 108, 97, 119, 115, 46, 70, 110, 87, 97, 114, 110, 105, 110, 103, 115, 79, 102, 32, 108, 111, 111, 112, 46, 101, 120, 97, 109, 112, 108, 101, 47, 111, 98, 106, 101, 99, 116, 108, 105, 110, 107, 101, 114, 47, 108, 97, 119, 115, 46, 70, 110, 69, 120, 97, 99, 116, 87, 97, 114, 110, 105, 110, 103, 115, 79, 102, 32, 108, 111, 111, 112, 46, 101, 120, 97, 109, 112, 108, 101, 47, 111, 98, 106, 101, 99, 116, 108, 105, 110, 107, 101, 114, 47, 108, 97, 119, 115, 46, 70, 110, 69, 120, 97, 99, 116, 67, 108, 101, 97, 114, 70, 105, 120, 117, 112, 115, 32, 108, 111, 111, 112, 46, 101, 120, 97, 109, 112, 108, 101, 47, 111, 98, 106, 101, 99, 116, 108, 105, 110, 107, 101, 114, 47, 108, 97, 119, 115, 46, 70, 110, 69, 120, 97, 99, 116, 83, 111, 114, 116, 83, 121, 109, 98, 111, 108, 115, 32, 108, 111, 111, 112, 46, 101, 120, 97, 109, 112, 108, 101, 47, 111, 98, 106, 101, 99, 116, 108, 105, 110, 107, 101, 114, 47, 108, 97, 119, 115, 46, 70, 110, 67, 108, 101, 97, 114, 70, 105, 120, 117, 112, 115, 32, 108, 111, 111, 112, 46, 101, 120, 97, 109, 112, 108, 101, 47, 111, 98, 106, 101, 99, 116, 108, 105, 110, 107, 101, 114, 47, 108, 97, 119, 115, 46, 70, 110, 83, 97, 109, 101, 79, 98, 106, 101, 99, 116, 32, 108, 111, 111, 112, 46, 101, 120, 97, 109, 112, 108, 101, 47, 111, 98, 106, 101, 99, 116, 108, 105, 110, 107, 101, 114, 47, 108, 97, 119, 115, 46, 70, 110, 76, 97, 110, 100, 109, 97, 114, 107, 115, 79, 102] : List Nat).map Char.ofNat), ?_⟩
  rw [show Try.prog.initOrder = String.ofList (w0.map Char.ofNat ++ Char.ofNat 32 :: (w1.map Char.ofNat ++ Char.ofNat 32 :: (w2.map Char.ofNat ++ Char.ofNat 32 :: ([97, 116, 32, 108, 111, 111, 112, 46, 101, 120, 97, 109, 112, 108, 101, 47, 111, 98, 106, 101, 99, 116, 108, 105, 110, 107, 101, 114, 47, 108, 97, 119, 115, 46, 70, 110, 87, 97, 114, 110, 105, 110, 103, 115, 79, 102, 32, 108, 111, 111, 112, 46, 101, 120, 97, 109, 112, 108, 101, 47, 111, 98, 106, 101, 99, 116, 108, 105, 110, 107, 101, 114, 47, 108, 97, 119, 115, 46, 70, 110, 69, 120, 97, 99, 116, 87, 97, 114, 110, 105, 110, 103, 115, 79, 102, 32, 108, 111, 111, 112, 46, 101, 120, 97, 109, 112, 108, 101, 47, 111, 98, 106, 101, 99, 116, 108, 105, 110, 107, 101, 114, 47, 108, 97, 119, 115, 46, 70, 110, 69, 120, 97, 99, 116, 67, 108, 101, 97, 114, 70, 105, 120, 117, 112, 115, 32, 108, 111, 111, 112, 46, 101, 120, 97, 109, 112, 108, 101, 47, 111, 98, 106, 101, 99, 116, 108, 105, 110, 107, 101, 114, 47, 108, 97, 119, 115, 46, 70, 110, 69, 120, 97, 99, 116, 83, 111, 114, 116, 83, 121, 109, 98, 111, 108, 115, 32, 108, 111, 111, 112, 46, 101, 120, 97, 109, 112, 108, 101, 47, 111, 98, 106, 101, 99, 116, 108, 105, 110, 107, 101, 114, 47, 108, 97, 119, 115, 46, 70, 110, 67, 108, 101, 97, 114, 70, 105, 120, 117, 112, 115, 32, 108, 111, 111, 112, 46, 101, 120, 97, 109, 112, 108, 101, 47, 111, 98, 106, 101, 99, 116, 108, 105, 110, 107, 101, 114, 47, 108, 97, 119, 115, 46, 70, 110, 83, 97, 109, 101, 79, 98, 106, 101, 99, 116, 32, 108, 111, 111, 112, 46, 101, 120, 97, 109, 112, 108, 101, 47, 111, 98, 106, 101, 99, 116, 108, 105, 110, 107, 101, 114, 47, 108, 97, 119, 115, 46, 70, 110, 76, 97, 110, 100, 109, 97, 114, 107, 115, 79, 102] : List Nat).map Char.ofNat))) from by kernel_rfl, String.toList_ofList]
  rw [words_app _ _ (by kernel_rfl), words_app _ _ (by kernel_rfl), words_app _ _ (by kernel_rfl)]
theorem sum : (W0 == "harness".toList || W0 == "ownmain".toList) = true := by kernel_rfl
theorem sum2 : isSumSigns W1 = true := by kernel_rfl
theorem behind (R : List (List Char)) : behindMainWord (W0 :: W1 :: W2 :: R) = W2 :: R := by
  unfold behindMainWord
  simp only [sum, sum2, Bool.and_self, if_true]
theorem gc : (W2 == "gc".toList || W2 == "spec".toList) = false := by kernel_rfl
theorem cut : (W2 == "cut".toList) = true := by kernel_rfl
theorem carried : (W2 == "carried".toList) = false := by kernel_rfl
theorem carried2 : (W2 != "carried".toList) = true := by kernel_rfl
theorem strip (R : List (List Char)) : stripLifts liftWords (W2 :: R) = ([], W2 :: R) := by kernel_rfl
theorem cutEq : W2 = "cut".toList := beq_iff_eq.1 cut
theorem lays : Try.prog.laysLater = false := by kernel_rfl
theorem bears : Try.prog.bearsReflect = false := by kernel_rfl
theorem door : Try.prog.doorFits [] = true := by kernel_rfl
theorem heads {a b : List Char} (h : a = b) (R : List (List Char)) : ((a :: R).head? == some b) = true := by subst h; simp
theorem headsN {a b : List Char} (h : (a == b) = false) (R : List (List Char)) : ((a :: R).head? == some b) = false := by
  have := beq_eq_false_iff_ne.1 h
  simpa using this
theorem make_of {P : Program} {c : List Char} {r : List (List Char)} (h : behindMainWord (wordsSigns P.initOrder.toList) = c :: r) (h1 : (c == "gc".toList || c == "spec".toList) = false) (h2 : (c == "cut".toList) = true) : P.make = some .cut := by
  unfold Program.make
  rw [h]
  show (if (c == "gc".toList || c == "spec".toList) = true then some Make.whole else if (c == "cut".toList || _) = true then some Make.cut else _) = some Make.cut
  rw [h1, h2, Bool.true_or, if_neg Bool.false_ne_true, if_pos rfl]
theorem may_of {P : Program} {c : List Char} {r : List (List Char)} (h : behindMainWord (wordsSigns P.initOrder.toList) = c :: r) (hs : stripLifts liftWords (c :: r) = ([], c :: r)) (hc : c = "cut".toList) (hl : P.laysLater = false) (hb : P.bearsReflect = false) (hd : P.doorFits [] = true) : P.mayEnter = true := by
  unfold Program.mayEnter
  rw [h]
  show ((_ && _) || (_ && _ && _ && _) || ((stripLifts liftWords (c :: r)).2.head? == some "cut".toList && _ && _ && _ && P.doorFits (stripLifts liftWords (c :: r)).1)) = true
  rw [hs]
  show ((_ && _) || (_ && _ && _ && _) || ((c :: r).head? == some "cut".toList && (_ || !P.laysLater) && (_ || !P.bearsReflect) && (_ || _) && P.doorFits [])) = true
  rw [heads hc, hl, hb, hd]
  simp only [List.contains_nil, Bool.not_false, Bool.or_true, Bool.and_true]
theorem make : Try.prog.make = some .cut := by
  obtain ⟨R, h⟩ := split
  exact make_of (by rw [h]; exact behind R) gc cut
theorem mayEnter : Try.prog.mayEnter = true := by
  obtain ⟨R, h⟩ := split
  exact may_of (by rw [h]; exact behind R) (strip R) cutEq lays bears door
theorem lifted : Try.prog.liftsFinal = false := by
  obtain ⟨R, h⟩ := split
  unfold Program.liftsFinal Program.headLifts
  rw [h, behind, strip]
  dsimp only
  rw [headsN carried, heads cutEq]
  rfl
end Go.Proofs.Ytmglgjchemecjaa.Words
