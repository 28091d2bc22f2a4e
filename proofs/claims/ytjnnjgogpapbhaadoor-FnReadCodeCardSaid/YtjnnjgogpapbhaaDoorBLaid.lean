/- What the listed variables give a law's walk, and the last step of a law whose specification hands variables back. -/
import Derived.Test.YtjnnjgogpapbhaaDoorBase
import Derived.OpenVars
import Derived.Lib.LaidTab
import Derived.Stop.LaidErr
import Derived.LaidMore
import Derived.OpenShut
import Derived.Test.YtjnnjgogpapbhaaDoorBWords
import Derived.Test.YtjnnjgogpapbhaaDoorRows
namespace Go.Proofs.YtjnnjgogpapbhaaDoor.BLaid
set_option maxRecDepth 200000
open Go.ChangeShapes Go.WideShapes Go.ChangeAt Go.RowKit Kit BWords
section
variable {H : Type} {enc : TypeId × Value → H} {P : Program}
theorem trodVars_len {w : World} {sp : Nat → Bool} : ∀ {ns : List String} {gs : List (DataW H)} {ps : List MemPlace}, DataW.TrodVars enc P w sp ns gs ps → gs.length = ns.length
  | [], [], _, _ => rfl
  | [], _ :: _, _, h => h.elim
  | _ :: _, [], _, h => h.elim
  | _ :: _, _ :: _, _, h => by
    obtain ⟨_, _, _, _, _, _, _, _, _, _, hs, _⟩ := h
    simp [trodVars_len hs]
theorem law_post_vars (hl : laidOutB P = true) {f : Func} {s : ChangeSpec} {W : World} {args : Array Value} {ds gs : List (DataW H)} {before : List MemPlace} {e : Ending} {W' : World} {tb : TypeId}
    (hr : ∀ t ∈ f.params.toList, P.readableRec t = true ∧ t < P.types.size) (htb : P.underlying tb = some .bool) (hres : f.resultTypes = #[tb]) (hvr : varsRowed P s.vars = true)
    (hs : ∀ ds gs : List (DataW H), ds.length = f.params.toList.length → gs.length = s.vars.length → s.fn H (ds ++ gs) = { results := [.lit (.bool true)], args := ds, vars := gs })
    (hW : DataW.Whole enc P f.params.toList s.vars false W args.toList ds gs before) (h : LawEnds W e W') :
    ∃ v, e = .returned v ∧ s.post enc P f false true false false W args v W' := by
  obtain ⟨he, hb⟩ := h
  have hlt : ∀ p ∈ before, p.block < W.heap.size := fun p hp => hW.lt p hp
  have hW' := hW
  obtain ⟨p, q, hA, hV, rfl, hfz, hnd⟩ := hW
  obtain ⟨_, hdl⟩ := trodAll_len _ _ _ _ hA
  have hsd := hs ds gs hdl (trodVars_len hV)
  refine ⟨_, he, ds, gs, p ++ q, [], p, q, hW', ?_, ?_, ?_, ?_, fun h => by cases h⟩
  · rw [hsd, hres]
    exact trodAll_mk1 (shut_bool htb true)
  · rw [hsd]
    exact below_trodAll hl hb _ _ _ _ hr (fun x hx => hlt x (by simp [hx])) hA
  · rw [hsd]
    exact Below.trodVars hl hb hvr hV
  · exact hb.frame _
end
/-- The powers of ten, wherever they stand on the list. -/
theorem tab_of {W : World} {rest : List (String × DataW Unit)} (h : laidMet Tryd.prog (("internal/strconv.uint64pow10", Rows.laid_internal_strconv_uint64pow10) :: rest) W) : Tab W :=
  Lib.tabIs_of_head (g := 3) (t := 101) (e := 88) (n := 20) (by kernel_rfl) (by kernel_rfl) (by kernel_rfl) (by kernel_rfl) (by kernel_rfl) (by kernel_rfl) h
theorem lw_of {W : World} {rest : List (String × DataW Unit)} (h : laidMet Tryd.prog (("loop.example/objectlinker/impl.codeWords", Rows.laid_loop_example_objectlinker_impl_codeWords) :: rest) W) : LW W := by
  obtain ⟨ps, ⟨g, t, cs, fuel, p, q, hg, ht, hv, hd, _, _⟩, _, _⟩ := h
  obtain rfl := Option.some.inj ((show Tryd.prog.globalNamed "loop.example/objectlinker/impl.codeWords" = some 0 by kernel_rfl).symm.trans hg)
  obtain rfl := Option.some.inj ((show (Tryd.prog.globals[0]?).map (·.type) = some 55 by kernel_rfl).symm.trans ht)
  obtain ⟨xs, m, rfl, hx, hlen, hn, hel⟩ := DataW.trod_array Tryd.underlying55 hd
  have c1 : Tryd.prog.cellsOf 9 = 1 := by kernel_rfl
  have hpos : 0 < W.heap.size := by
    unfold World.var? at hv
    rw [hg] at hv
    simp only [Option.bind_some] at hv
    rcases Nat.lt_or_ge 0 W.heap.size with h' | h'
    · exact h'
    · simp [Array.getElem?_eq_none h'] at hv
  have hag : Rows.laid_loop_example_objectlinker_impl_codeWords = DataW.agg (xs.map (·.1)) := congrArg Prod.fst hx
  simp only [Rows.laid_loop_example_objectlinker_impl_codeWords, DataW.agg.injEq] at hag
  refine ⟨hpos, fun d hd8 => ?_⟩
  have h1 := hel d hd8
  rw [c1, Nat.mul_one] at h1
  obtain ⟨x, hx1⟩ : ∃ x, xs[d]? = some x := ⟨xs[d]'(by omega), by simp [hn, hd8]⟩
  rw [hx1] at h1
  obtain ⟨s, e1, e2, _⟩ := DataW.trod_string Tryd.underlying9 h1
  have hc := World.var?_cell hg hv d
  rw [hc]
  have e3 : cs.toList[d]? = some (.string s) := by
    have := congrArg (·[0]?) e1
    simpa [List.getElem?_take, List.getElem?_drop] using this
  have e4 : (xs.map (·.1))[d]? = some (.lit (.string s.data.toList)) := by simp [hx1, e2]
  rw [← hag] at e4
  rw [Array.getElem?_toList] at e3
  rw [e3]
  have hfin : s = word d := by
    unfold word wordL words
    match d, hd8, e4 with
    | 0, _, e4 | 1, _, e4 | 2, _, e4 | 3, _, e4 | 4, _, e4 | 5, _, e4 | 6, _, e4 | 7, _, e4 =>
      simp only [List.getElem?_cons_zero, List.getElem?_cons_succ, Option.some.injEq, DataW.lit.injEq, Lit.string.injEq] at e4
      obtain ⟨⟨l⟩⟩ := s
      simp at e4
      subst e4
      rfl
  rw [hfin]
end Go.Proofs.YtjnnjgogpapbhaaDoor.BLaid
