/- Clearing fixups and sorting symbols change no image; plain. -/
import Derived.Test.YtmglgjchemecjaaGreatFnSortSymbolsM7
import Derived.Test.YtmglgjchemecjaaGreatRows
import Derived.Deep.RegionHeld3
import Derived.Deep.RegionLaw
import Derived.Deep.RegionLawGrows
import Derived.IntWalk
import Derived.WalkSpells
import Derived.Deep.QuietTactic
import Derived.BigQuiet
set_option linter.unusedSimpArgs false
set_option linter.unusedVariables false
namespace Go.Proofs.YtmglgjchemecjaaGreat.PLinkL
set_option maxRecDepth 200000
open Go.ChangeShapes Go.WideShapes Go.ChangeAt Go.RowKit Kit CCode CName CNumber CFixups CSymbols PObj PValid PWarn PClear PSort CObjValid PLink
def Uniq (ys : List YD) : Prop := ys.Pairwise fun a b => ¬ a.2.1 = 0 → ¬ b.2.1 = 0 → ¬ a.1 = b.1
theorem syms_iff (ss : List SD) (ys : List YD) : symsOk ss ys = true ↔ (∀ y ∈ ys, symOk ss y = true) ∧ Uniq ys := by
  simp only [symsOk, List.all_eq_true, Bool.and_eq_true, List.mem_range, Bool.not_eq_true']
  constructor
  · intro h
    refine ⟨fun y hy => ?_, ?_⟩
    · obtain ⟨i, hi, rfl⟩ := List.getElem_of_mem hy
      have := (h i hi).1
      rwa [getD_at hi] at this
    · rw [Uniq, List.pairwise_iff_getElem]
      intro i j hi hj hij h1 h2 h3
      have := (h j hj).2
      rw [getD_at hj] at this
      have hc : clash (ys.take j) ys[j] = true := by
        unfold clash
        rw [Bool.and_eq_true]
        refine ⟨by simpa using h2, List.any_eq_true.2 ⟨ys[i], ?_, ?_⟩⟩
        · exact List.mem_take_iff_getElem.2 ⟨i, by omega, rfl⟩
        · simpa using ⟨h1, h3⟩
      rw [hc] at this
      cases this
  · rintro ⟨h1, h2⟩ i hi
    rw [getD_at hi]
    refine ⟨h1 _ (List.getElem_mem hi), ?_⟩
    rw [← Bool.not_eq_true]
    intro hc
    unfold clash at hc
    rw [Bool.and_eq_true, List.any_eq_true] at hc
    obtain ⟨hb, x, hx, hxx⟩ := hc
    obtain ⟨j, hj, rfl⟩ := List.mem_take_iff_getElem.1 hx
    rw [Uniq, List.pairwise_iff_getElem] at h2
    simp only [Bool.and_eq_true, Bool.not_eq_true', decide_eq_false_iff_not, decide_eq_true_eq] at hb hxx
    exact h2 j i (by omega) hi (by omega) hxx.1 hb hxx.2
theorem obj_iff (d : OD) : objOk d = true ↔ d.ss.length ≤ 8 ∧ d.ys.length ≤ 12 ∧ (∀ s ∈ d.ss, secOk d.ys.length s = true) ∧ (∀ y ∈ d.ys, symOk d.ss y = true) ∧ Uniq d.ys := by
  simp only [objOk, Bool.and_eq_true, decide_eq_true_eq, List.all_eq_true, syms_iff]
  constructor
  · rintro ⟨⟨⟨h1, h2⟩, h3⟩, h4, h5⟩
    exact ⟨h1, h2, h3, h4, h5⟩
  · rintro ⟨h1, h2, h3, h4, h5⟩
    exact ⟨⟨⟨h1, h2⟩, h3⟩, h4, h5⟩
theorem size_at (ss : List SD) (n : Nat) : secSize (ss.getD n ⟨ByteArray.empty, 0, 0, [], 0, []⟩) = (ss.map secSize).getD n 0 := by
  rw [List.getD_eq_getElem?_getD, List.getD_eq_getElem?_getD, List.getElem?_map]
  cases ss[n]? <;> rfl
theorem sym_congr {ss ss' : List SD} (h : ss.map secSize = ss'.map secSize) (y : YD) : symOk ss y = symOk ss' y := by
  have hl : ss.length = ss'.length := by simpa using congrArg List.length h
  unfold symOk placeOk
  rw [size_at, size_at, h, hl]
theorem sec_clear (many : Int) (s : SD) : secOk many (clearS s) = secOk many s := by
  simp only [secOk, headOk, blankOk, bodyOk, clearS, clrs_len]
  rfl
theorem clear_objOk {d : OD} (h : objOk d = true) : objOk ⟨d.ss.map clearS, d.ys⟩ = true := by
  obtain ⟨h1, h2, h3, h4, h5⟩ := (obj_iff d).1 h
  refine (obj_iff _).2 ⟨by simpa using h1, h2, ?_, ?_, h5⟩
  · intro s hs
    obtain ⟨t, ht, rfl⟩ := List.mem_map.1 hs
    rw [sec_clear]
    exact h3 t ht
  · intro y hy
    rw [sym_congr (ss' := d.ss) (by simp [secSize, clearS, clrs_len])]
    exact h4 y hy
/-- Bytes that differ at most where fixups fill them. -/
def cov (fs : List FD) (i : Nat) : Prop := ∃ f ∈ fs, f.1 ≤ (i : Int) ∧ (i : Int) < f.1 + wide f.2.1
def Agree (fs : List FD) (a b : List Int) : Prop := a.length = b.length ∧ ∀ i : Nat, ¬ cov fs i → a[i]? = b[i]?
theorem apF_agree {f : FD} {fs : List FD} {a b : List Int} {place t : Int} (h : Agree (f :: fs) a b) :
    (apF a place f t = none ∧ apF b place f t = none) ∨ ∃ a' b', apF a place f t = some a' ∧ apF b place f t = some b' ∧ Agree fs a' b' := by
  unfold apF
  rw [h.1]
  by_cases hc : inB place 0 100000 = true ∧ ¬ wide f.2.1 = 0 ∧ inB f.1 0 (b.length - wide f.2.1) = true
  · rw [if_pos hc, if_pos hc]
    cases hv : fixVal f.2.1 (place + f.1) t f.2.2.2 with
    | none => exact .inl ⟨rfl, rfl⟩
    | some v =>
      refine .inr ⟨_, _, rfl, rfl, ?_⟩
      obtain ⟨_, hw, hin⟩ := hc
      simp only [inB, decide_eq_true_eq] at hin
      have hl := putL_len (wide f.2.1).toNat v
      have hwb := wide_bd f.2.1
      have hab := h.1
      refine ⟨by rw [sp_len (by rw [hl]; omega), sp_len (by rw [hl]; omega), h.1], fun i hi => ?_⟩
      rw [sp_get (by rw [hl]; omega), sp_get (by rw [hl]; omega)]
      by_cases hr : f.1.toNat ≤ i ∧ i < f.1.toNat + (putL (wide f.2.1).toNat v).length
      · rw [if_pos hr, if_pos hr]
      · rw [if_neg hr, if_neg hr]
        refine h.2 i ?_
        rintro ⟨g, hg, hgi⟩
        rcases List.mem_cons.1 hg with rfl | hg
        · rw [hl] at hr
          omega
        · exact hi ⟨g, hg, hgi⟩
  · rw [if_neg hc, if_neg hc]
    exact .inl ⟨rfl, rfl⟩
theorem fill_agree (l : List OD) (P : List (List Int)) (k : Nat) (place : Int) : ∀ (fs : List FD) (a b : List Int), Agree fs a b → fill l P k place fs (some a) = fill l P k place fs (some b)
  | [], a, b, h => by
    rw [fill, fill]
    congr 1
    refine List.ext_getElem? fun i => h.2 i ?_
    rintro ⟨f, hf, _⟩
    cases hf
  | f :: fs, a, b, h => by
    rw [fill, fill, Option.bind_some, Option.bind_some]
    rcases apF_agree (place := place) (t := symPl l P k f.2.2.1.toNat) h with ⟨e1, e2⟩ | ⟨a', b', e1, e2, h'⟩
    · rw [e1, e2]
    · rw [e1, e2]
      exact fill_agree l P k place fs a' b' h'
theorem setz_far (zs : List Int) (a : Nat) : ∀ (n i : Nat), i < a ∨ a + n ≤ i → (setz zs a n)[i]? = zs[i]?
  | 0, i, _ => rfl
  | n + 1, i, h => by
    rw [setz, List.getElem?_set_ne (by omega)]
    exact setz_far zs a n i (by omega)
theorem clrs_agree : ∀ (fs : List FD) (zs : List Int), (∀ f ∈ fs, 0 ≤ f.1) → Agree fs (clrs zs fs) zs
  | [], zs, _ => ⟨rfl, fun _ _ => rfl⟩
  | f :: fs, zs, h => by
    have ih := clrs_agree fs (clr zs f) fun g hg => h g (List.mem_cons_of_mem _ hg)
    have h0 := h f List.mem_cons_self
    have hw := wide_bd f.2.1
    refine ⟨by rw [clrs_len], fun i hi => ?_⟩
    have e : clrs zs (f :: fs) = clrs (clr zs f) fs := rfl
    rw [e, ih.2 i (fun ⟨g, hg, hgi⟩ => hi ⟨g, List.mem_cons_of_mem _ hg, hgi⟩)]
    unfold clr
    refine setz_far zs _ _ i ?_
    rcases Nat.lt_or_ge i f.1.toNat with h1 | h1
    · exact .inl h1
    · refine .inr ?_
      rcases Nat.lt_or_ge i (f.1.toNat + (wide f.2.1).toNat) with h2 | h2
      · exact absurd ⟨f, List.mem_cons_self, by omega, by omega⟩ hi
      · exact h2
theorem fill_map (l l' : List OD) (P : List (List Int)) (k : Nat) (place : Int) (φ : FD → FD) : ∀ (fs : List FD) (b : Option (List Int)),
    (∀ f ∈ fs, (∀ a t, apF a place (φ f) t = apF a place f t) ∧ symPl l' P k (φ f).2.2.1.toNat = symPl l P k f.2.2.1.toNat) → fill l' P k place (fs.map φ) b = fill l P k place fs b
  | [], b, _ => rfl
  | f :: fs, b, h => by
    obtain ⟨h1, h2⟩ := h f List.mem_cons_self
    rw [List.map_cons, fill, fill, h2]
    have e : (b.bind fun b => apF b place (φ f) (symPl l P k f.2.2.1.toNat)) = b.bind fun b => apF b place f (symPl l P k f.2.2.1.toNat) := by
      congr 1
      funext a
      exact h1 a _
    rw [e]
    exact fill_map l l' P k place φ fs _ fun g hg => h g (List.mem_cons_of_mem _ hg)
theorem imS_map (l l' : List OD) (P : List (List Int)) (base : Int) (k : Nat) (φ : SD → SD) : ∀ (ss : List SD) (i : Nat) (im : Option (List Int)),
    (∀ s ∈ ss, ∀ pl, fill l' P k pl (φ s).fs (some (φ s).zs) = fill l P k pl s.fs (some s.zs)) → imS l' P base k i (ss.map φ) im = imS l P base k i ss im
  | [], _, _, _ => rfl
  | s :: ss, i, im, h => by
    rw [List.map_cons, imS, imS, h s List.mem_cons_self]
    exact imS_map l l' P base k φ ss _ _ fun t ht => h t (List.mem_cons_of_mem _ ht)
theorem image_one (d e : OD) (base : Int) (φ : SD → SD) (hs : sh d = sh e) (hd : d.ss = e.ss.map φ)
    (h : ∀ P, ∀ s ∈ e.ss, ∀ pl, fill [d] P 0 pl (φ s).fs (some (φ s).zs) = fill [e] P 0 pl s.fs (some s.zs)) : image [d] base = image [e] base := by
  unfold image
  rw [lay_one hs]
  simp only [imO]
  rw [hd]
  exact imS_map [e] [d] _ base 0 φ e.ss 0 _ (h _)
theorem symAt_one (d : OD) (k j : Nat) : symAtL [d] (k, j) = if k = 0 then d.ys.getD j dY else dY := by
  unfold symAtL
  cases k with
  | zero => rfl
  | succ n => simp [List.getD_eq_getElem?_getD]
theorem find_one (d : OD) (nm : ByteArray) : findN [d] nm = orG (fiR (gives nm 1) 0 (fiS (gives nm 1) 0 d.ys) none) (fiR (gives nm 2) 0 (fiS (gives nm 2) 0 d.ys) none) := rfl
/-- What a symbol of one object means: for itself. -/
def tg1 (P : List (List Int)) (y : YD) : Int := if y.2.2.1 = -1 then 0 else tgY P 0 y
theorem sym_facts {ss : List SD} {y : YD} (h : symOk ss y = true) : (0 ≤ y.2.1 ∧ y.2.1 ≤ 2) ∧ (y.2.2.1 = -1 → ¬ y.2.1 = 0) := by
  simp only [symOk, bindOk, Bool.and_eq_true, inB, decide_eq_true_eq] at h
  refine ⟨h.1.2, fun hy => ?_⟩
  have h2 := h.2
  unfold placeOk at h2
  rw [if_pos hy] at h2
  simp only [Bool.and_eq_true, Bool.not_eq_true', decide_eq_false_iff_not] at h2
  exact h2.2
theorem uniq_at {ys : List YD} (h : Uniq ys) {i j : Nat} (hi : i < ys.length) (hj : j < ys.length) (h1 : ¬ ys[i].2.1 = 0) (h2 : ¬ ys[j].2.1 = 0) (h3 : ys[i].1 = ys[j].1) : i = j := by
  rw [Uniq, List.pairwise_iff_getElem] at h
  rcases Nat.lt_trichotomy i j with hlt | heq | hgt
  · exact absurd h3 (h i j hi hj hlt h1 h2)
  · exact heq
  · exact absurd h3.symm (h j i hj hi hgt h2 h1)
theorem gives_iff {nm : ByteArray} {b : Int} {y : YD} : gives nm b y = true ↔ y.1 = nm ∧ y.2.1 = b ∧ ¬ y.2.2.1 = -1 := by
  simp only [gives, Bool.and_eq_true, decide_eq_true_eq, Bool.not_eq_true', decide_eq_false_iff_not, and_assoc]
theorem find_some {d : OD} (hu : Uniq d.ys) {j : Nat} (hj : j < d.ys.length) (hb : d.ys[j].2.1 = 1 ∨ d.ys[j].2.1 = 2) : findN [d] d.ys[j].1 = if d.ys[j].2.2.1 = -1 then none else some (0, j) := by
  rw [find_one]
  have key : ∀ b, (b = 1 ∨ b = 2) → fiS (gives d.ys[j].1 b) 0 d.ys = if d.ys[j].2.1 = b ∧ ¬ d.ys[j].2.2.1 = -1 then some j else none := fun b hb' => by
    have hn0 : ¬ d.ys[j].2.1 = 0 := by omega
    cases hf : fiS (gives d.ys[j].1 b) 0 d.ys with
    | some i =>
      obtain ⟨_, hi, hg⟩ := fiS_spec d.ys 0 i hf
      rw [Nat.sub_zero] at hi hg
      rw [getD_at hi] at hg
      obtain ⟨e1, e2, e3⟩ := gives_iff.1 hg
      have := uniq_at hu hi hj (by omega) hn0 e1
      subst this
      rw [if_pos ⟨e2, e3⟩]
    | none =>
      have := (fiS_none d.ys 0).1 hf _ (List.getElem_mem hj)
      rw [if_neg]
      rintro ⟨e1, e2⟩
      rw [gives_iff.2 ⟨rfl, e1, e2⟩] at this
      cases this
  rw [key 1 (.inl rfl), key 2 (.inr rfl)]
  by_cases hw : d.ys[j].2.2.1 = -1
  · simp [hw, fiR, orG]
  · rcases hb with hb | hb <;> simp [hw, hb, fiR, orG]
theorem symPl_one {d : OD} (h : objOk d = true) (P : List (List Int)) {j : Nat} (hj : j < d.ys.length) : symPl [d] P 0 j = tg1 P d.ys[j] := by
  obtain ⟨_, _, _, h4, h5⟩ := (obj_iff d).1 h
  obtain ⟨hb, hw⟩ := sym_facts (h4 _ (List.getElem_mem hj))
  have ha : symAtL [d] (0, j) = d.ys[j] := by rw [symAt_one, if_pos rfl, getD_at hj]
  unfold symPl
  rw [ha]
  by_cases h0 : d.ys[j].2.1 = 0
  · rw [if_pos h0, tg1, if_neg (fun e => hw e h0), tgG, ha]
  · rw [if_neg h0, find_some h5 hj (by omega), tg1]
    by_cases h1 : d.ys[j].2.2.1 = -1
    · rw [if_pos h1, if_pos h1]
      rfl
    · rw [if_neg h1, if_neg h1, tgO, tgG, ha]
theorem tw_nil : ∀ (ys : List YD) (o met : List ByteArray), Uniq ys → (∀ y ∈ ys, isStrong y = true → y.1 ∉ met) → (twS (o, met) ys).1 = o
  | [], o, met, _, _ => rfl
  | y :: ys, o, met, hu, hm => by
    obtain ⟨h1, h2⟩ := List.pairwise_cons.1 hu
    have e : twS (o, met) (y :: ys) = twS (twStep (o, met) y) ys := rfl
    rw [e]
    cases hs : isStrong y
    · have : twStep (o, met) y = (o, met) := by rw [twStep, hs]; rfl
      rw [this]
      exact tw_nil ys o met h2 fun z hz => hm z (List.mem_cons_of_mem _ hz)
    · have hn := hm y List.mem_cons_self hs
      have : twStep (o, met) y = (o, met ++ [y.1]) := by
        have hf : (met.any fun x => decide (x = y.1)) = false := by
          rw [← Bool.not_eq_true, List.any_eq_true]
          rintro ⟨x, hx, hxy⟩
          exact hn (of_decide_eq_true hxy ▸ hx)
        rw [twStep, hs]
        simp only [hf, cond_true, cond_false]
      rw [this]
      refine tw_nil ys o _ h2 fun z hz hsz hin => ?_
      rcases List.mem_append.1 hin with hin | hin
      · exact hm z (List.mem_cons_of_mem _ hz) hsz hin
      · have e2 := List.mem_singleton.1 hin
        simp only [isStrong, Bool.and_eq_true, decide_eq_true_eq] at hs hsz
        exact h1 z hz (by omega) (by omega) e2.symm
theorem twice_one {d : OD} (h : objOk d = true) : twice [d] = [] := by
  obtain ⟨_, _, _, _, h5⟩ := (obj_iff d).1 h
  exact tw_nil d.ys [] [] h5 fun _ _ _ hm => by cases hm
theorem isMiss_one {d : OD} (h : objOk d = true) {y : YD} (hy : y ∈ d.ys) : isMiss [d] y = (decide (y.2.1 = 1) && decide (y.2.2.1 = -1)) := by
  obtain ⟨_, _, _, _, h5⟩ := (obj_iff d).1 h
  obtain ⟨j, hj, rfl⟩ := List.getElem_of_mem hy
  unfold isMiss
  by_cases h1 : d.ys[j].2.1 = 1
  · by_cases h2 : d.ys[j].2.2.1 = -1
    · rw [find_some h5 hj (.inl h1), if_pos h2]
      simp
    · simp [h2]
  · simp [h1]
theorem miss_one {d : OD} (h : objOk d = true) : 0 < (miss [d]).length ↔ ∃ y ∈ d.ys, y.2.1 = 1 ∧ y.2.2.1 = -1 := by
  have e : miss [d] = missS [d] d.ys := by simp [miss]
  rw [e, missS, List.length_map, List.length_pos_iff_exists_mem]
  constructor
  · rintro ⟨y, hy⟩
    rw [List.mem_filter] at hy
    rw [isMiss_one h hy.1] at hy
    exact ⟨y, hy.1, by simpa using hy.2⟩
  · rintro ⟨y, hy, h2⟩
    exact ⟨y, List.mem_filter.2 ⟨hy, by rw [isMiss_one h hy]; simpa using h2⟩⟩
theorem link_same {d e : OD} (hd : objOk d = true) (he : objOk e = true) (hm : (∃ y ∈ d.ys, y.2.1 = 1 ∧ y.2.2.1 = -1) ↔ ∃ y ∈ e.ys, y.2.1 = 1 ∧ y.2.2.1 = -1) (base : Int) (hi : image [d] base = image [e] base) : linkR [d] base = linkR [e] base := by
  unfold linkR
  have o1 : objsOk [d] = true := by simp [objsOk, hd]
  have o2 : objsOk [e] = true := by simp [objsOk, he]
  rw [o1, o2, twice_one hd, twice_one he, hi]
  have hiff : 0 < (miss [d]).length ↔ 0 < (miss [e]).length := by rw [miss_one hd, miss_one he]; exact hm
  by_cases hx : 0 < (miss [d]).length
  · rw [if_pos hx, if_pos (hiff.1 hx)]
  · rw [if_neg hx, if_neg (fun h => hx (hiff.2 h))]
theorem clear_is {d : OD} (h : objOk d = true) : clearD d = ⟨d.ss.map clearS, d.ys⟩ := by rw [clearD, h]; rfl
theorem link_clear {d : OD} (h : objOk d = true) (base : Int) : linkR [clearD d] base = linkR [d] base := by
  rw [clear_is h]
  have hc := clear_objOk h
  refine link_same hc h Iff.rfl base (image_one _ _ base clearS ?_ rfl fun P s hs pl => ?_)
  · simp [sh, secSize, clearS, clrs_len]
  · have hsy : ∀ f ∈ s.fs, symPl [⟨d.ss.map clearS, d.ys⟩] P 0 f.2.2.1.toNat = symPl [d] P 0 f.2.2.1.toNat := fun f hf => by
      have hr := (((obj_all h).2.2 s hs).2.2 f hf).2
      have hj : f.2.2.1.toNat < d.ys.length := by omega
      rw [symPl_one hc P (j := f.2.2.1.toNat) hj, symPl_one h P hj]
    have e1 : (clearS s).fs = s.fs.map id := by simp [clearS]
    rw [e1, fill_map [d] _ P 0 pl id s.fs _ fun f hf => ⟨fun _ _ => rfl, hsy f hf⟩]
    refine fill_agree [d] P 0 pl s.fs _ _ (clrs_agree s.fs s.zs fun f hf => ?_)
    exact ((((obj_all h).2.2 s hs).2.2 f hf).1).1
end Go.Proofs.YtmglgjchemecjaaGreat.PLinkL
/- Where a layout's places lie; plain. -/
namespace Go.Proofs.YtmglgjchemecjaaGreat.PLayB
set_option maxRecDepth 200000
open Go.ChangeShapes Go.WideShapes Go.ChangeAt Go.RowKit Kit CCode CName CNumber CFixups CSymbols PObj PValid PWarn PClear PSort CObjValid PLink PLinkL
def Okk (s : SD) : Prop := (0 ≤ secSize s ∧ secSize s ≤ 48) ∧ alignOk s.al = true
def sec (l : List OD) (k i : Nat) : Option SD := (l[k]?).bind fun d => d.ss[i]?
theorem sec_at {l : List OD} {k i : Nat} (hk : k < l.length) (hi : i < (l[k]).ss.length) : sec l k i = some (l[k]).ss[i] := by
  unfold sec
  rw [List.getElem?_eq_getElem hk]
  exact List.getElem?_eq_getElem hi
def Shq (l : List OD) (P : List (List Int)) : Prop := ∀ k i s, sec l k i = some s → ∃ h : k < P.length, i < (P[k]).length
theorem getP_set {P : List (List Int)} {k i : Nat} (v : Int) (hk : k < P.length) (hi : i < (P[k]).length) (a b : Nat) : getP (setP P k i v) a b = if a = k ∧ b = i then v else getP P a b := by
  unfold getP setP
  have e : P.getD k [] = P[k] := by rw [List.getD_eq_getElem?_getD, List.getElem?_eq_getElem hk]; rfl
  rw [e]
  rw [List.getD_eq_getElem?_getD (l := P.set k _), List.getElem?_set]
  by_cases hak : k = a
  · subst hak
    rw [if_pos rfl, if_pos hk, e]
    simp only [Option.getD_some, true_and]
    rw [List.getD_eq_getElem?_getD, List.getElem?_set, List.getD_eq_getElem?_getD]
    by_cases hbi : i = b
    · subst hbi
      rw [if_pos rfl, if_pos hi, if_pos rfl]
      rfl
    · rw [if_neg hbi, if_neg (fun h => hbi h.symm)]
  · rw [if_neg hak, if_neg (fun h => hak h.1.symm), ← List.getD_eq_getElem?_getD]
theorem shq_set {l : List OD} {P : List (List Int)} (h : Shq l P) (k i : Nat) (v : Int) : Shq l (setP P k i v) := by
  intro a b s hs
  obtain ⟨h1, h2⟩ := h a b s hs
  unfold setP
  refine ⟨by rw [List.length_set]; exact h1, ?_⟩
  rw [List.getElem_set]
  by_cases hka : k = a
  · subst hka
    rw [if_pos rfl, List.length_set, List.getD_eq_getElem?_getD, List.getElem?_eq_getElem h1]
    exact h2
  · rw [if_neg hka]
    exact h2
structure Inv (l : List OD) (b : Int) (Dn : Nat → Nat → SD → Prop) (st : St) : Prop where
  lo : b ≤ st.1
  sh : Shq l st.2
  pl : ∀ k i s, sec l k i = some s → Dn k i s → b ≤ getP st.2 k i ∧ getP st.2 k i ≤ st.1
variable {l : List OD} {b : Int}
theorem Inv.weak {Dn Dn' : Nat → Nat → SD → Prop} {st : St} (h : Inv l b Dn st) (hD : ∀ k i s, sec l k i = some s → Dn' k i s → Dn k i s) : Inv l b Dn' st := ⟨h.lo, h.sh, fun k i s hs hd => h.pl k i s hs (hD k i s hs hd)⟩
theorem inv_step (hb : 0 ≤ b) {Dn : Nat → Nat → SD → Prop} {st : St} {kd : Int} {k i : Nat} {s : SD} (h : Inv l b Dn st) (hs : sec l k i = some s) (ho : Okk s) :
    Inv l b (fun k' i' s' => Dn k' i' s' ∨ (k' = k ∧ i' = i ∧ s'.kd = kd)) (stepS kd k i s st) := by
  obtain ⟨a, P⟩ := st
  obtain ⟨h1, h2, h3⟩ := h
  simp only at h1 h2 h3
  unfold stepS
  by_cases hk : s.kd = kd
  · rw [decide_eq_true hk]
    simp only [cond_true]
    obtain ⟨e1, e2⟩ := al_bd (show 0 ≤ a by omega) ho.2
    obtain ⟨q1, q2⟩ := h2 k i s hs
    have hsz := ho.1.1
    refine ⟨by omega, shq_set h2 k i _, fun k' i' s' hs' hd => ?_⟩
    rw [getP_set _ q1 q2]
    by_cases hc : k' = k ∧ i' = i
    · rw [if_pos hc]
      omega
    · rw [if_neg hc]
      rcases hd with hd | ⟨r1, r2, _⟩
      · have := h3 k' i' s' hs' hd
        omega
      · exact absurd ⟨r1, r2⟩ hc
  · rw [decide_eq_false hk]
    simp only [cond_false]
    refine ⟨h1, h2, fun k' i' s' hs' hd => ?_⟩
    rcases hd with hd | ⟨rfl, rfl, r3⟩
    · exact h3 k' i' s' hs' hd
    · rw [hs] at hs'
      injection hs' with hs'
      subst hs'
      exact absurd r3 hk
theorem inv_foldS (hb : 0 ≤ b) (kd : Int) (k : Nat) : ∀ (ss : List SD) (i : Nat) (st : St) (Dn : Nat → Nat → SD → Prop),
    (∀ j s, ss[j]? = some s → sec l k (i + j) = some s ∧ Okk s) → (∀ i', i + ss.length ≤ i' → sec l k i' = none) → Inv l b Dn st →
    Inv l b (fun k' i' s' => Dn k' i' s' ∨ (k' = k ∧ i ≤ i' ∧ s'.kd = kd)) (foldS kd k i ss st)
  | [], i, st, Dn, _, hend, h => by
    refine h.weak fun k' i' s' hs' hd => ?_
    rcases hd with hd | ⟨rfl, r2, _⟩
    · exact hd
    · rw [hend i' (by simpa using r2)] at hs'
      cases hs'
  | s :: ss, i, st, Dn, hss, hend, h => by
    have h0 := hss 0 s rfl
    rw [Nat.add_zero] at h0
    have hst := inv_step hb (kd := kd) h h0.1 h0.2
    have ih := inv_foldS hb kd k ss (i + 1) _ _ (fun j t ht => by
      have := hss (j + 1) t (by simpa using ht)
      rwa [show i + (j + 1) = i + 1 + j by omega] at this) (fun i' hi' => hend i' (by simp; omega)) hst
    refine ih.weak fun k' i' s' hs' hd => ?_
    rcases hd with hd | ⟨r1, r2, r3⟩
    · exact .inl (.inl hd)
    · by_cases hi : i' = i
      · exact .inl (.inr ⟨r1, hi, r3⟩)
      · exact .inr ⟨r1, by omega, r3⟩
theorem inv_foldO (hb : 0 ≤ b) (kd : Int) : ∀ (ds : List OD) (k : Nat) (st : St) (Dn : Nat → Nat → SD → Prop),
    (∀ j d, ds[j]? = some d → l[k + j]? = some d ∧ ∀ s ∈ d.ss, Okk s) → l.length ≤ k + ds.length → Inv l b Dn st →
    Inv l b (fun k' i' s' => Dn k' i' s' ∨ (k ≤ k' ∧ s'.kd = kd)) (foldO kd k ds st)
  | [], k, st, Dn, _, hend, h => by
    refine h.weak fun k' i' s' hs' hd => ?_
    rcases hd with hd | ⟨r1, _⟩
    · exact hd
    · unfold sec at hs'
      rw [List.getElem?_eq_none (by simp at hend; omega)] at hs'
      cases hs'
  | d :: ds, k, st, Dn, hds, hend, h => by
    have h0 := hds 0 d rfl
    rw [Nat.add_zero] at h0
    have hst := inv_foldS hb kd k d.ss 0 st Dn (fun j s hs => by
      refine ⟨?_, h0.2 s (List.mem_of_getElem? hs)⟩
      unfold sec
      rw [h0.1, Nat.zero_add]
      exact hs) (fun i' hi' => by
      unfold sec
      rw [h0.1]
      exact List.getElem?_eq_none (by omega)) h
    have ih := inv_foldO hb kd ds (k + 1) _ _ (fun j t ht => by
      have := hds (j + 1) t (by simpa using ht)
      rwa [show k + (j + 1) = k + 1 + j by omega] at this) (by simp at hend; omega) hst
    refine ih.weak fun k' i' s' hs' hd => ?_
    rcases hd with hd | ⟨r1, r2⟩
    · exact .inl (.inl hd)
    · by_cases hk : k' = k
      · exact .inl (.inr ⟨hk, Nat.zero_le _, r2⟩)
      · exact .inr ⟨by omega, r2⟩
theorem inv_kind (hb : 0 ≤ b) (hl : ∀ d ∈ l, ∀ s ∈ d.ss, Okk s) (kd : Int) {Dn : Nat → Nat → SD → Prop} {st : St} (h : Inv l b Dn st) : Inv l b (fun k' i' s' => Dn k' i' s' ∨ s'.kd = kd) (kindS l kd st) := by
  have hlo := h.lo
  obtain ⟨e1, _⟩ := al_bd (show 0 ≤ st.1 by omega) (show alignOk 8 = true by decide)
  have h1 : Inv l b Dn (al st.1 8, st.2) := ⟨by simp only; omega, h.sh, fun k i s hs hd => by
    have := h.pl k i s hs hd
    simp only
    omega⟩
  have h2 := inv_foldO hb kd l 0 _ Dn (fun j d hj => ⟨by rw [Nat.zero_add]; exact hj, hl d (List.mem_of_getElem? hj)⟩) (by omega) h1
  refine h2.weak fun k' i' s' _ hd => ?_
  rcases hd with hd | hd
  · exact .inl hd
  · exact .inr ⟨Nat.zero_le _, hd⟩
theorem shq_zero (l : List OD) : Shq l (zeroP l) := by
  intro k i s hs
  unfold sec at hs
  unfold zeroP
  cases hk : l[k]? with
  | none =>
    rw [hk] at hs
    cases hs
  | some d =>
    rw [hk] at hs
    obtain ⟨h1, h2⟩ := List.getElem?_eq_some_iff.1 hk
    obtain ⟨h3, _⟩ := List.getElem?_eq_some_iff.1 (show d.ss[i]? = some s from hs)
    refine ⟨by rw [List.length_map]; exact h1, ?_⟩
    rw [List.getElem_map, List.length_replicate, h2]
    exact h3
theorem foldS_le (kd : Int) (k : Nat) : ∀ (ss : List SD) (i : Nat) (st : St), (∀ s ∈ ss, Okk s) → 0 ≤ st.1 → 0 ≤ (foldS kd k i ss st).1 ∧ (foldS kd k i ss st).1 ≤ st.1 + 60 * ss.length
  | [], i, st, _, h0 => by simp only [foldS, List.length_nil]; omega
  | s :: ss, i, st, h, h0 => by
    have ho := h s List.mem_cons_self
    have h1 : 0 ≤ (stepS kd k i s st).1 ∧ (stepS kd k i s st).1 ≤ st.1 + 60 := by
      obtain ⟨e1, e2⟩ := al_bd h0 ho.2
      have := ho.1
      unfold stepS
      by_cases hk : s.kd = kd
      · rw [decide_eq_true hk]
        simp only [cond_true]
        omega
      · rw [decide_eq_false hk]
        simp only [cond_false]
        omega
    have ih := foldS_le kd k ss (i + 1) (stepS kd k i s st) (fun t ht => h t (List.mem_cons_of_mem _ ht)) h1.1
    rw [foldS, List.length_cons]
    omega
theorem foldO_le (kd : Int) : ∀ (ds : List OD) (k : Nat) (st : St), (∀ d ∈ ds, d.ss.length ≤ 8 ∧ ∀ s ∈ d.ss, Okk s) → 0 ≤ st.1 → 0 ≤ (foldO kd k ds st).1 ∧ (foldO kd k ds st).1 ≤ st.1 + 480 * ds.length
  | [], k, st, _, h0 => by simp only [foldO, List.length_nil]; omega
  | d :: ds, k, st, h, h0 => by
    have ho := h d List.mem_cons_self
    have h1 := foldS_le kd k d.ss 0 st ho.2 h0
    have ih := foldO_le kd ds (k + 1) (foldS kd k 0 d.ss st) (fun t ht => h t (List.mem_cons_of_mem _ ht)) h1.1
    rw [foldO, List.length_cons]
    have := ho.1
    omega
theorem kind_le (hl : ∀ d ∈ l, d.ss.length ≤ 8 ∧ ∀ s ∈ d.ss, Okk s) (hn : l.length ≤ 4) (kd : Int) {st : St} (h0 : 0 ≤ st.1) : 0 ≤ (kindS l kd st).1 ∧ (kindS l kd st).1 ≤ st.1 + 1927 := by
  obtain ⟨e1, e2⟩ := al_bd h0 (show alignOk 8 = true by decide)
  have h := foldO_le kd l 0 (al st.1 8, st.2) hl (by simp only; omega)
  simp only at h
  unfold kindS
  omega
theorem sec_okk {many : Int} {d : SD} (h : secOk many d = true) : Okk d ∧ 1 ≤ d.kd ∧ d.kd ≤ 3 := by
  rw [secOk, Bool.and_eq_true] at h
  obtain ⟨h1, h2⟩ := h
  simp only [headOk, Bool.and_eq_true, inB, decide_eq_true_eq] at h1
  refine ⟨⟨?_, h1.2⟩, h1.1.2.1, h1.1.2.2⟩
  unfold secSize
  by_cases hk : d.kd = 3
  · rw [if_pos hk] at h2 ⊢
    simp only [blankOk, Bool.and_eq_true, inB, decide_eq_true_eq] at h2
    exact h2.1.1
  · rw [if_neg hk] at h2 ⊢
    simp only [bodyOk, Bool.and_eq_true, decide_eq_true_eq] at h2
    omega
/-- The places of valid objects' sections. -/
theorem lay_bd (ho : objsOk l = true) (hb0 : 0 ≤ b) (hb1 : b ≤ 4096) : b ≤ (PLink.lay l b).1 ∧ (PLink.lay l b).1 ≤ 10000 ∧ Shq l (PLink.lay l b).2 ∧ ∀ k (hk : k < l.length) i (hi : i < (l[k]).ss.length), b ≤ getP (PLink.lay l b).2 k i ∧ getP (PLink.lay l b).2 k i ≤ (PLink.lay l b).1 := by
  simp only [objsOk, Bool.and_eq_true, decide_eq_true_eq, List.all_eq_true] at ho
  have hl : ∀ d ∈ l, d.ss.length ≤ 8 ∧ ∀ s ∈ d.ss, Okk s ∧ 1 ≤ s.kd ∧ s.kd ≤ 3 := fun d hd => by
    obtain ⟨h1, _, h3, _⟩ := (obj_iff d).1 (ho.2 d hd)
    exact ⟨h1, fun s hs => sec_okk (h3 s hs)⟩
  have hl2 : ∀ d ∈ l, d.ss.length ≤ 8 ∧ ∀ s ∈ d.ss, Okk s := fun d hd => ⟨(hl d hd).1, fun s hs => ((hl d hd).2 s hs).1⟩
  have i0 : Inv l b (fun _ _ _ => False) (b, zeroP l) := ⟨Int.le_refl _, shq_zero l, fun _ _ _ _ h => h.elim⟩
  have i3 := inv_kind hb0 (fun d hd => (hl2 d hd).2) 3 (inv_kind hb0 (fun d hd => (hl2 d hd).2) 2 (inv_kind hb0 (fun d hd => (hl2 d hd).2) 1 i0))
  have b1 := kind_le hl2 ho.1 1 (st := (b, zeroP l)) hb0
  have b2 := kind_le hl2 ho.1 2 b1.1
  have b3 := kind_le hl2 ho.1 3 b2.1
  simp only at b1
  refine ⟨i3.lo, by unfold PLink.lay; omega, i3.sh, fun k hk i hi => ?_⟩
  have hkd := ((hl _ (List.getElem_mem hk)).2 _ (List.getElem_mem hi)).2
  refine i3.pl k i _ (sec_at hk hi) ?_
  generalize (l[k]).ss[i] = s at *
  have h : s.kd = 1 ∨ s.kd = 2 ∨ s.kd = 3 := by omega
  rcases h with h | h | h
  · exact .inl (.inl (.inr h))
  · exact .inl (.inr h)
  · exact .inr h
end Go.Proofs.YtmglgjchemecjaaGreat.PLayB
/- Contracts of slices.ContainsFunc at []int, and of MachineValid, the program's and the reference's. -/
namespace Go.Proofs.YtmglgjchemecjaaGreat.CMachine
set_option maxRecDepth 200000
open Go.ChangeShapes Go.WideShapes Go.ChangeAt Go.RowKit Kit CCode
def IxPost (zs : List Int) (p : Int → Bool) (w : World) (e : Ending) (w' : World) : Prop := ∃ k : Int, e = .returned (.int .i64 k) ∧ ((0 ≤ k) ↔ zs.any p = true) ∧ w = w'
def machOk (at_ : Int) (st ca : List Int) : Bool := decide (0 ≤ at_) && decide (st.length ≤ 8) && decide (ca.length ≤ 8) && !(st.any fun n => !inB n 0 65535) && !(ca.any fun n => decide (n < 0))
theorem take_any {p : Int → Bool} {zs : List Int} {k : Nat} (h : k < zs.length) (hp : ∀ z ∈ zs.take k, p z = false) (hk : p zs[k] = false) : ∀ z ∈ zs.take (k + 1), p z = false := by
  intro y hy
  rw [take_succ h, List.mem_append] at hy
  rcases hy with hy | hy
  · exact hp y hy
  · simp at hy
    rw [hy]
    exact hk
theorem any_all {p : Int → Bool} {zs : List Int} (hp : ∀ z ∈ zs.take zs.length, p z = false) : zs.any p = false := by
  rw [List.take_length] at hp
  rw [List.any_eq_false]
  intro x hx
  rw [hp x hx]
  exact Bool.false_ne_true
end Go.Proofs.YtmglgjchemecjaaGreat.CMachine
/- Contracts of PutCode and GetCode, the program's and the reference's. -/
namespace Go.Proofs.YtmglgjchemecjaaGreat.CPutCode
set_option maxRecDepth 200000
open Go.ChangeShapes Go.WideShapes Go.ChangeAt Go.RowKit Kit CCode CNumber
def pcode (a b : Int) : List Int := if codeOk a b then a :: (if hasArgB a then putL 2 b else []) else []
/-- The instruction that stands at a place, and the place behind it. -/
def gcode (zs : List Int) (at_ : Int) : Int × Int × Int :=
  if inB at_ 0 (zs.length - 1) then
    (if hasArgB (zs.getD at_.toNat 0) then
      (if codeOk (zs.getD at_.toNat 0) (gnum zs (at_ + 1) 2) then (zs.getD at_.toNat 0, gnum zs (at_ + 1) 2, at_ + 3) else (0, 0, -1))
    else (if codeOk (zs.getD at_.toNat 0) 0 then (zs.getD at_.toNat 0, 0, at_ + 1) else (0, 0, -1)))
  else (0, 0, -1)
def gval (r : Int × Int × Int) : Value := .tuple #[.agg #[.int .i64 r.1, .int .i64 r.2.1], .int .i64 r.2.2]
end Go.Proofs.YtmglgjchemecjaaGreat.CPutCode
/- What comes in: rows of cells that read as the laws' structs. -/
namespace Go.Proofs.YtmglgjchemecjaaGreat.In
set_option maxRecDepth 200000
open Go.ChangeShapes Go.WideShapes Go.ChangeAt Go.RowKit Kit
def I64 (x : Int) : Prop := -9223372036854775808 ≤ x ∧ x ≤ 9223372036854775807
def okRow (z : Int × Int) : Prop := I64 z.1 ∧ I64 z.2
def okFrame (z : Int × Int × Int) : Prop := I64 z.1 ∧ I64 z.2.1 ∧ I64 z.2.2
def okLandmark (z : ByteArray × Int) : Prop := z.1.size ≤ maxLen ∧ I64 z.2
end Go.Proofs.YtmglgjchemecjaaGreat.In
/- Contracts of the laws' helpers on Machine: the copy, the comparison of equal data, the size. -/
namespace Go.Proofs.YtmglgjchemecjaaGreat.CMachines
set_option maxRecDepth 200000
open Go.ChangeShapes Go.WideShapes Go.ChangeAt Go.RowKit Kit CInts
/-- Two own rows, the second one made after the first. -/
def Two (w : World) (base : Nat) (S : Option Addr) (n cs : Nat) (xs : List Value) (C : Option Addr) (m cc : Nat) (ys : List Value) : Prop :=
  ∃ b, w.ownsRow base 3 1 (.slice S n cs) n xs ∧ w.ownsRow b 3 1 (.slice C m cc) m ys ∧ base ≤ b ∧ (∀ k, (Value.slice S n cs).ownBlock = some k → k < b)
def szI (left n : Int) : Int := if left - n < 0 then -1 else left - n
end Go.Proofs.YtmglgjchemecjaaGreat.CMachines
/- Contracts of slices.Clone at []int and of the copy of a machine, the program's and the reference's. -/
namespace Go.Proofs.YtmglgjchemecjaaGreat.CStep
set_option maxRecDepth 200000
open Go.ChangeShapes Go.WideShapes Go.ChangeAt Go.RowKit Kit CCode CMachine CMachines CInts CPutCode
/-- Two own rows that share nothing. -/
def Own2 (w : World) (base : Nat) (S : Option Addr) (cs : Nat) (st : List Int) (C : Option Addr) (cc : Nat) (ca : List Int) : Prop :=
  w.ownsRow base 3 1 (.slice S st.length cs) st.length (ints .i64 st) ∧ w.ownsRow base 3 1 (.slice C ca.length cc) ca.length (ints .i64 ca) ∧ ∀ k, (Value.slice S st.length cs).ownBlock = some k → (Value.slice C ca.length cc).ownBlock ≠ some k
section
variable {w w' : World} {base : Nat} {S C : Option Addr} {cs cc : Nat} {st ca : List Int}
theorem Own2.of_two (h : Two w base S st.length cs (ints .i64 st) C ca.length cc (ints .i64 ca)) : Own2 w base S cs st C cc ca := by
  obtain ⟨b, h1, h2, h3, h4⟩ := h
  refine ⟨h1, own_base h2 h3, fun k hk hc => ?_⟩
  have e1 := h4 k hk
  have e2 := (h2.lt k hc).1
  omega
theorem Own2.call (h : Own2 w base S cs st C cc ca) (hb : Below w.heap.size w w') : Own2 w' base S cs st C cc ca := ⟨own_call hb h.1, own_call hb h.2.1, h.2.2⟩
theorem Own2.down (h : Own2 w base S cs st C cc ca) {b : Nat} (hb : b ≤ base) : Own2 w b S cs st C cc ca := ⟨own_base h.1 hb, own_base h.2.1 hb, h.2.2⟩
theorem Own2.rd (h : Own2 w base S cs st C cc ca) : Rd w w.heap.size S (ints .i64 st) ∧ Rd w w.heap.size C (ints .i64 ca) := ⟨Rd.of_own h.1, Rd.of_own h.2.1⟩
theorem Own2.nil (w : World) (base : Nat) : Own2 w base none 0 [] none 0 [] := ⟨World.ownsRow_nil _ _ _ _, World.ownsRow_nil _ _ _ _, fun k hk => by cases hk⟩
end
/-- What a copy hands back. -/
def Copied (at_ : Int) (st ca : List Int) (w : World) (e : Ending) (w' : World) : Prop := ∃ S C cs cc, e = .returned (.agg #[.int .i64 at_, .slice S st.length cs, .slice C ca.length cc]) ∧ Own2 w' w.heap.size S cs st C cc ca ∧ Below w.heap.size w w'
theorem three {w w' : World} {a : Nat} {u0 u1 u2 : Value} (hb : Below w.heap.size w w') (ha : a < w.heap.size) (h : w.cell? ⟨a, 0, none⟩ = some u0 ∧ w.cell? ⟨a, 1, none⟩ = some u1 ∧ w.cell? ⟨a, 2, none⟩ = some u2) :
    w'.cell? ⟨a, 0, none⟩ = some u0 ∧ w'.cell? ⟨a, 1, none⟩ = some u1 ∧ w'.cell? ⟨a, 2, none⟩ = some u2 :=
  ⟨(hb.cell ha).trans h.1, (hb.cell ha).trans h.2.1, (hb.cell ha).trans h.2.2⟩
theorem put_far {w : World} {X Y : Nat} {u0 u1 u2 : Value} (hne : X ≠ Y) (a b c : Value) (h : w.cell? ⟨X, 0, none⟩ = some u0 ∧ w.cell? ⟨X, 1, none⟩ = some u1 ∧ w.cell? ⟨X, 2, none⟩ = some u2) :
    (((w.setCell ⟨Y, 0, none⟩ a).setCell ⟨Y, 1, none⟩ b).setCell ⟨Y, 2, none⟩ c).cell? ⟨X, 0, none⟩ = some u0 ∧ (((w.setCell ⟨Y, 0, none⟩ a).setCell ⟨Y, 1, none⟩ b).setCell ⟨Y, 2, none⟩ c).cell? ⟨X, 1, none⟩ = some u1 ∧ (((w.setCell ⟨Y, 0, none⟩ a).setCell ⟨Y, 1, none⟩ b).setCell ⟨Y, 2, none⟩ c).cell? ⟨X, 2, none⟩ = some u2 := by
  have k : ∀ o, (((w.setCell ⟨Y, 0, none⟩ a).setCell ⟨Y, 1, none⟩ b).setCell ⟨Y, 2, none⟩ c).cell? ⟨X, o, none⟩ = w.cell? ⟨X, o, none⟩ := fun o =>
    World.cell?_of_block ((Below.heap_setCell _ ⟨Y, 2, none⟩ c X hne).trans ((Below.heap_setCell _ ⟨Y, 1, none⟩ b X hne).trans (Below.heap_setCell _ ⟨Y, 0, none⟩ a X hne)))
  rw [k, k, k]
  exact h
/-- Two rows that share nothing. -/
def Rows2 (w : World) (base : Nat) (S : Option Addr) (cs : Nat) (st : List Int) (C : Option Addr) (cc : Nat) (ca : List Int) : Prop :=
  Row w base 3 1 S st.length cs (ints .i64 st) ∧ Row w base 3 1 C ca.length cc (ints .i64 ca) ∧ Apart S cs C cc
def Copied2 (at_ : Int) (st ca : List Int) (w : World) (e : Ending) (w' : World) : Prop := ∃ S C cs cc, e = .returned (.agg #[.int .i64 at_, .slice S st.length cs, .slice C ca.length cc]) ∧ Rows2 w' w.heap.size S cs st C cc ca ∧ Below w.heap.size w w'
end Go.Proofs.YtmglgjchemecjaaGreat.CStep
/- Contracts of the marks that the laws lay into rows of ints and into machines. -/
namespace Go.Proofs.YtmglgjchemecjaaGreat.CMark
set_option maxRecDepth 200000
open Go.ChangeShapes Go.WideShapes Go.ChangeAt Go.RowKit Kit CMachines CInts CStep
/-- The blocks of a machine's rows. -/
def mblk (S : Option Addr) (cs : Nat) (C : Option Addr) (cc : Nat) (k : Nat) : Prop := blk S cs = some k ∨ blk C cc = some k
end Go.Proofs.YtmglgjchemecjaaGreat.CMark
/- Link: the image of objects. -/
namespace Go.Proofs.YtmglgjchemecjaaGreat.CLink
set_option maxRecDepth 200000
open Go.ChangeShapes Go.WideShapes Go.ChangeAt Go.RowKit Kit CCode CName CNumber CFixups CSymbols PObj BObj PValid PWarn PClear CSecValid CObjValid BStore CMarkRows BList PLink PLinkL PLayB CValids CFind CSorted CNames CMiss CLayout CPlaceL CSymPl CApFix BCopy
/-- The place behind all sections. -/
theorem end_any (PA : Option Addr) (pn pc : Nat) (EA : Option Addr) (es : List RV) (ec : Nat) (x z : Int) (w : World) (hE : RdRs w w.heap.size EA es) (hl : es.length = 3) (hz : (es.map RV.zs).getD 2 [] = [x, z]) :
    Calls Tryz.prog 58 #[.agg #[.slice PA pn pc, .slice EA es.length ec]] w (Ret (.int .i64 z) w) := by
  rw [hl]
  have HB := hide (show Below w.heap.size w (w.alloc (.cells #[.slice PA pn pc, .slice EA 3 ec] 87)) from (by repeat (first | exact Below.refl _ _ | with_reducible assumption | (refine Below.drew ?_) | (refine Below.drewN ?_ _) | (refine Below.alloc ?_ (by simp; try omega) _) | (refine Below.setCell ?_ (by simp; try omega) _))))
  have HX := hide (Box.new w 87 #[.slice PA pn pc, .slice EA 3 ec])
  have h2 : 2 < es.length := by omega
  have hzs : (es[2]).zs = [x, z] := by
    rw [List.getD_eq_getElem?_getD, List.getElem?_map, List.getElem?_eq_getElem h2] at hz
    exact hz
  obtain ⟨b1, o1, rfl, hb1, hrow⟩ := (hE.below HB.out).at h2
  obtain ⟨b2, o2, hA, hb2, hcell⟩ := ((hE.below HB.out).2 _ (List.getElem_mem h2)).int (i := 1) (by rw [hzs]; simp)
  rw [hA] at hrow
  simp only [hzs, List.length_cons, List.length_nil, List.getElem_cons_succ, List.getElem_cons_zero] at hcell hrow
  have x1 := HX.out.cell 1
  simp only [List.getElem?_toArray, List.getElem?_cons_zero, List.getElem?_cons_succ] at x1
  have hxl := HX.out.lt
  generalize (es[2]).c = c2 at *
  clear hz hzs hA hE h2
  go_enter Tryz.func58, Tryz.ntmps58
  go_wp2_with fail
  go_ret
  exact ⟨rfl, HB.out⟩
theorem all_pl {os : List OV} {rs : List RV} {b : Int} (ho : objsOk (os.map OV.d) = true) (hb0 : 0 ≤ b) (hb1 : b ≤ 4096) (hrs : rs.map RV.zs = (PLink.lay (os.map OV.d) b).2) : AllPl rs os := by
  intro k hk j hj
  obtain ⟨q1, q2, q3, q4⟩ := lay_bd ho hb0 hb1
  rw [← hrs] at q3
  simp only [objsOk, Bool.and_eq_true, decide_eq_true_eq, List.all_eq_true] at ho
  obtain ⟨_, _, h3, h4, _⟩ := (obj_iff _).1 (ho.2 _ (List.mem_map_of_mem (List.getElem_mem hk)))
  have hy := h4 _ (show (os[k]).ys[j] ∈ (os[k]).d.ys from List.getElem_mem hj)
  obtain ⟨_, s2⟩ := sym_facts hy
  refine ⟨s2, fun hn => ?_⟩
  have hkl : k < (os.map OV.d).length := by simpa using hk
  have hP := hy
  simp only [symOk, Bool.and_eq_true] at hP
  have hP := hP.2
  unfold placeOk at hP
  rw [if_neg hn] at hP
  generalize (os[k]).ys[j] = y at *
  by_cases h2 : y.2.2.1 = -2
  · rw [if_pos h2] at hP
    have : 0 ≤ y.2.2.2 ∧ y.2.2.2 ≤ 60000 := by simpa [inB] using hP
    exact ⟨.inl h2, this.1, this.2⟩
  · rw [if_neg h2] at hP
    simp only [Bool.and_eq_true, inB, decide_eq_true_eq] at hP
    obtain ⟨⟨w1, w2⟩, v1, v2⟩ := hP
    have hil : y.2.2.1.toNat < (os[k]).d.ss.length := by omega
    have hsz := (sec_okk (h3 _ (List.getElem_mem hil))).1.1
    have hge : (os[k]).d.ss.getD y.2.2.1.toNat ⟨ByteArray.empty, 0, 0, [], 0, []⟩ = (os[k]).d.ss[y.2.2.1.toNat] := by
      rw [List.getD_eq_getElem?_getD, List.getElem?_eq_getElem hil]
      rfl
    rw [hge] at v2
    have hle : ((os.map OV.d)[k]).ss = (os[k]).d.ss := by simp
    have hil2 : y.2.2.1.toNat < ((os.map OV.d)[k]).ss.length := by rw [hle]; exact hil
    have hsec := sec_at hkl hil2
    obtain ⟨p1, p2⟩ := q3 _ _ _ hsec
    have hpl := q4 k hkl _ hil2
    rw [← hrs] at hpl
    simp only [List.length_map, List.getElem_map] at p1 p2
    rw [getP_at p1 p2] at hpl
    exact ⟨.inr ⟨w1, p1, p2, by omega, by omega⟩, v1, by omega⟩
/-- An image and a fault handed back. -/
def RetL (r : RD) (w : World) (e : Ending) (w' : World) : Prop := ∃ A c, e = .returned (.tuple #[.agg #[.int .i64 r.1, .slice A r.2.1.length c], .int .i64 r.2.2]) ∧ Row w' w.heap.size 5 1 A r.2.1.length c (ints .u8 r.2.1) ∧ Below w.heap.size w w'
theorem ret_bad {w w' : World} (code : Int) (h : Below w.heap.size w w') : RetL (0, [], code) w (.returned (.tuple #[.agg #[.int .i64 0, .slice none 0 0], .int .i64 code])) w' := ⟨none, 0, rfl, Row.empty _ _ _ _ _, h⟩
theorem ap_len {b b2 : List Int} {place : Int} {f : FD} {t : Int} (h : apF b place f t = some b2) : b2.length = b.length := by
  unfold apF at h
  split at h
  · rename_i hc
    cases hv : fixVal f.2.1 (place + f.1) t f.2.2.2 with
    | none => rw [hv] at h; cases h
    | some v =>
      rw [hv] at h
      injection h with h
      subst h
      have h1 : 0 ≤ f.1 ∧ f.1 ≤ (b.length : Int) - wide f.2.1 := by simpa [inB] using hc.2.2
      have hw := wide_bd f.2.1
      exact sp_len (by rw [putL_len]; omega)
  · cases h
/-- What stands while the image is filled. -/
structure LK (w0 : World) (L : Nat) (PA : Option Addr) (pc : Nat) (rs : List RV) (EA : Option Addr) (en ec : Nat) (I g N : Nat) (base : Int) (im : List Int) (w : World) : Prop where
  row : w.ownsRow w0.heap.size 5 1 (.slice (some ⟨g, 0, none⟩) N N) N (ints .u8 im)
  len : im.length = N
  bi : Box w I 40 #[.int .i64 base, .slice (some ⟨g, 0, none⟩) N N]
  bl : Box w L 87 #[.slice PA rs.length pc, .slice EA en ec]
  br : Box w w0.heap.size 40 #[.int .i64 0, .slice none 0 0]
  hp : RdRs w L PA rs
  b : Below w0.heap.size w0 w
section
variable {w0 w w' : World} {L : Nat} {PA : Option Addr} {pc : Nat} {rs : List RV} {EA : Option Addr} {en ec : Nat} {I g N : Nat} {base : Int} {im : List Int}
theorem LK.call (h : LK w0 L PA pc rs EA en ec I g N base im w) (hb : Below w.heap.size w w') : LK w0 L PA pc rs EA en ec I g N base im w' :=
  ⟨own_call hb h.row, h.len, h.bi.call hb, h.bl.call hb, h.br.call hb, h.hp.below (hb.mono (Nat.le_of_lt h.bl.lt)), h.b.trans (hb.mono h.b.size)⟩
/-- Bytes are copied into the image. -/
theorem LK.put (h : LK w0 L PA pc rs EA en ec I g N base im w) (hgL : L < g) : ∃ cur : List Value, w.heap[g]? = some (.cells cur.toArray 5 (0, 0)) ∧ N ≤ cur.length ∧ ∀ (i : Nat) (zs : List Int), i + zs.length ≤ N →
    LK w0 L PA pc rs EA en ec I g N base (sp im i zs) (w.setRow g (Go.splice cur i (ints .u8 zs)).toArray) := by
  obtain ⟨cur, hg, hgb, hn, hf⟩ := copied h.row
  refine ⟨cur, hg, hn, fun i zs hi => ⟨hf i zs hi, by rw [sp_len (by rw [h.len]; exact hi)]; exact h.len, box_setRow h.bi hg (by decide) _, box_setRow h.bl hg (by decide) _, box_setRow h.br hg (by decide) _, ?_, Go.below_setRow h.b hgb _⟩⟩
  exact h.hp.below (Go.below_setRow (Below.refl L w) (Nat.le_of_lt hgL) _)
end
set_option maxHeartbeats 8000000 in
theorem link_any (A : Option Addr) (os : List OV) (c : Nat) (base : Int) (w : World) (hr : RdOs w w.heap.size A os) (hf : Fits os) (hn : ∀ o ∈ os, ∀ p ∈ o.ps, p.A = none → p.c = 0) :
    Calls Tryz.prog 17 #[.slice A os.length c, .int .i64 base] w (RetL (linkR (os.map OV.d) base) w) := by
  obtain ⟨i0, hi1, hi2, hi3, hi4⟩ := info_parts CNumber.info8
  have HI := hide (And.intro hi1 (And.intro hi2 (And.intro hi3 hi4)))
  clear hi1 hi2 hi3 hi4
  have HR := hide hr
  have HF := hide hf
  have HN := hide hn
  clear hr hf hn
  have HB := hide (show Below w.heap.size w (w.alloc (.cells #[.int .i64 0, .slice none 0 0] 40)) from (by repeat (first | exact Below.refl _ _ | with_reducible assumption | (refine Below.drew ?_) | (refine Below.drewN ?_ _) | (refine Below.alloc ?_ (by simp; try omega) _) | (refine Below.setCell ?_ (by simp; try omega) _))))
  have HRR := hide (Box.new w 40 #[.int .i64 0, .slice none 0 0])
  go_enter Tryz.func17, Tryz.ntmps17
  go_wp2_with fail
  generalize w.alloc (.cells #[.int .i64 0, .slice none 0 0] 40) = w0 at *
  refine (layoutOf_any A os c base w0 ((HR.out.below HB.out).more HB.out.size) HF.out).mono ?_
  rintro e w1 ⟨PA, pc, rs, EA, ec, es, rfl, hyes, hP, hE, b1⟩
  have HYES := hide hyes
  have HP := hide hP
  have HE := hide hE
  clear hyes hP hE
  replace HB := hide (HB.out.trans (b1.mono HB.out.size))
  replace HRR := hide (HRR.out.call b1)
  clear b1
  cases hok : (objsOk (os.map OV.d) && baseOk base)
  · have HV := hide (show linkR (os.map OV.d) base = (0, [], -1) from if_pos hok)
    clear hok
    have ba : Below w1.heap.size w1 (w1.alloc (.cells #[.slice PA rs.length pc, .slice EA es.length ec] 87)) := (by repeat (first | exact Below.refl _ _ | with_reducible assumption | (refine Below.drew ?_) | (refine Below.drewN ?_ _) | (refine Below.alloc ?_ (by simp; try omega) _) | (refine Below.setCell ?_ (by simp; try omega) _)))
    replace HB := hide (HB.out.trans (ba.mono HB.out.size))
    replace HRR := hide (HRR.out.call ba)
    clear ba
    have y0 := HRR.out.cell 0
    have y1 := HRR.out.cell 1
    simp only [List.getElem?_toArray, List.getElem?_cons_zero, List.getElem?_cons_succ] at y0 y1
    have yf0 := HRR.out.frozen 0
    have yf1 := HRR.out.frozen 1
    have hrl := HRR.out.lt
    have kk := (HRR.out.set 0 (.int .i64 0)).set 1 (.slice none 0 0)
    have k0 := kk.cell 0
    have k1 := kk.cell 1
    simp only [List.setIfInBounds_toArray, List.set_cons_zero, List.set_cons_succ, List.getElem?_toArray, List.getElem?_cons_zero, List.getElem?_cons_succ] at k0 k1
    clear kk
    have HFB := hide (two_below (Y := w.heap.size) HB.out (Nat.le_refl _) (.int .i64 0) (.slice none 0 0))
    go_wp2_with fail
    (try simp only [Exit.inBlock, Exit.then])
    exact bodyPost_ret (v := .tuple #[.agg #[.int .i64 0, .slice none 0 0], .int .i64 (-1)]) (by simp [results, Tryz.results17, go_sem, k0, k1]) rfl (by rw [HV.out]; exact ret_bad _ HFB.out)
  obtain ⟨hrz, hel, xx, hend⟩ := HYES.out hok
  clear HYES
  have hok' := hok
  rw [Bool.and_eq_true] at hok'
  obtain ⟨ho, hbs⟩ := hok'
  have hb0 : 0 ≤ base ∧ base ≤ 4096 := by
    simp only [baseOk, Bool.and_eq_true, decide_eq_true_eq] at hbs
    exact hbs.1
  obtain ⟨hb1, hb2⟩ := hb0
  have HPL := hide (all_pl ho hb1 hb2 hrz)
  have HEN := hide (And.intro hel hend)
  have HRZ := hide hrz
  clear hel hend
  obtain ⟨g1, g2, g3, g4⟩ := lay_bd ho hb1 hb2
  have HLB := hide (And.intro g3 g4)
  clear g3 g4
  have HSM := hide (show Small os from by
    simp only [objsOk, Bool.and_eq_true, decide_eq_true_eq, List.all_eq_true, List.length_map] at ho
    refine ⟨ho.1, fun o h => ?_⟩
    obtain ⟨_, h2, _⟩ := (obj_iff _).1 (ho.2 _ (List.mem_map_of_mem h))
    exact h2)
  have HAL := hide (show ∀ o ∈ os, o.ps.length ≤ 8 ∧ ∀ p ∈ o.ps, p.fs.length ≤ 6 ∧ p.zs.length ≤ 48 ∧ ∀ f ∈ p.fs, 0 ≤ f.2.2.1 ∧ f.2.2.1 < o.ys.length from fun o h => by
    simp only [objsOk, Bool.and_eq_true, decide_eq_true_eq, List.all_eq_true, List.length_map] at ho
    obtain ⟨a1, _, a3⟩ := obj_all (ho.2 _ (List.mem_map_of_mem h))
    refine ⟨by simpa [OV.d] using a1, fun p hp => ?_⟩
    obtain ⟨c1, c2, c3⟩ := a3 p.d (List.mem_map_of_mem hp)
    exact ⟨c1, c2, fun f hf => (c3 f hf).2⟩)
  have HLR := hide (show linkR (os.map OV.d) base = if 0 < (twice (os.map OV.d)).length then (0, [], 1) else if 0 < (miss (os.map OV.d)).length then (0, [], 2) else imgR base (image (os.map OV.d) base) from by
    unfold linkR
    rw [if_neg (by rw [hok]; decide)])
  clear hok ho hbs
  have ba : Below w1.heap.size w1 (w1.alloc (.cells #[.slice PA rs.length pc, .slice EA es.length ec] 87)) := (by repeat (first | exact Below.refl _ _ | with_reducible assumption | (refine Below.drew ?_) | (refine Below.drewN ?_ _) | (refine Below.alloc ?_ (by simp; try omega) _) | (refine Below.setCell ?_ (by simp; try omega) _)))
  have HL := hide (Box.new w1 87 #[.slice PA rs.length pc, .slice EA es.length ec])
  replace HP := hide (HP.out.below ba)
  replace HE := hide (HE.out.below ba)
  have hRL : w.heap.size < w1.heap.size := HRR.out.lt
  replace HB := hide (HB.out.trans (ba.mono HB.out.size))
  replace HRR := hide (HRR.out.call ba)
  clear ba
  go_wp2_with fail
  generalize w1.alloc (.cells #[.slice PA rs.length pc, .slice EA es.length ec] 87) = w2 at *
  generalize w1.heap.size = L at *
  refine (namesTwice_any A os c w2 ((HR.out.below HB.out).more HB.out.size) HSM.out).mono ?_
  rintro e w3 ⟨A3, c3, rfl, _, b3⟩
  have hLw : L < w2.heap.size := HL.out.lt
  have HTW := hide (srtN_pos (twice (os.map OV.d)))
  replace HP := hide (HP.out.below (b3.mono (Nat.le_of_lt hLw)))
  replace HE := hide (HE.out.below (b3.mono (Nat.le_of_lt hLw)))
  replace HB := hide (HB.out.trans (b3.mono HB.out.size))
  replace HRR := hide (HRR.out.call b3)
  replace HL := hide (HL.out.call b3)
  clear b3
  clear hLw
  by_cases ht : 0 < (twice (os.map OV.d)).length
  · have HV := hide (show linkR (os.map OV.d) base = (0, [], 1) from by rw [HLR.out, if_pos ht])
    have et : decide (0 < (srtN (twice (os.map OV.d))).length) = true := decide_eq_true (HTW.out.2 ht)
    generalize (srtN (twice (os.map OV.d))).length = tn at *
    clear ht
    have y0 := HRR.out.cell 0
    have y1 := HRR.out.cell 1
    simp only [List.getElem?_toArray, List.getElem?_cons_zero, List.getElem?_cons_succ] at y0 y1
    have yf0 := HRR.out.frozen 0
    have yf1 := HRR.out.frozen 1
    have hrl := HRR.out.lt
    have kk := (HRR.out.set 0 (.int .i64 0)).set 1 (.slice none 0 0)
    have k0 := kk.cell 0
    have k1 := kk.cell 1
    simp only [List.setIfInBounds_toArray, List.set_cons_zero, List.set_cons_succ, List.getElem?_toArray, List.getElem?_cons_zero, List.getElem?_cons_succ] at k0 k1
    clear kk
    have HFB := hide (two_below (Y := w.heap.size) HB.out (Nat.le_refl _) (.int .i64 0) (.slice none 0 0))
    go_wp2_with fail
    (try simp only [Exit.inBlock, Exit.then])
    exact bodyPost_ret (v := .tuple #[.agg #[.int .i64 0, .slice none 0 0], .int .i64 1]) (by simp [results, Tryz.results17, go_sem, k0, k1]) rfl (by rw [HV.out]; exact ret_bad _ HFB.out)
  have et : decide (0 < (srtN (twice (os.map OV.d))).length) = false := decide_eq_false (fun h => ht (HTW.out.1 h))
  rw [if_neg ht] at HLR
  clear ht HTW
  generalize (srtN (twice (os.map OV.d))).length = tn at *
  go_wp2_with fail
  clear et
  refine (namesMissing_any A os c w3 ((HR.out.below HB.out).more HB.out.size) HSM.out).mono ?_
  rintro e w4 ⟨A4, c4, rfl, _, b4⟩
  have hLw : L < w3.heap.size := HL.out.lt
  have HMI := hide (srtN_pos (miss (os.map OV.d)))
  replace HP := hide (HP.out.below (b4.mono (Nat.le_of_lt hLw)))
  replace HE := hide (HE.out.below (b4.mono (Nat.le_of_lt hLw)))
  replace HB := hide (HB.out.trans (b4.mono HB.out.size))
  replace HRR := hide (HRR.out.call b4)
  replace HL := hide (HL.out.call b4)
  clear b4
  clear hLw
  by_cases ht : 0 < (miss (os.map OV.d)).length
  · have HV := hide (show linkR (os.map OV.d) base = (0, [], 2) from by rw [HLR.out, if_pos ht])
    have et : decide (0 < (srtN (miss (os.map OV.d))).length) = true := decide_eq_true (HMI.out.2 ht)
    generalize (srtN (miss (os.map OV.d))).length = mn at *
    clear ht
    have y0 := HRR.out.cell 0
    have y1 := HRR.out.cell 1
    simp only [List.getElem?_toArray, List.getElem?_cons_zero, List.getElem?_cons_succ] at y0 y1
    have yf0 := HRR.out.frozen 0
    have yf1 := HRR.out.frozen 1
    have hrl := HRR.out.lt
    have kk := (HRR.out.set 0 (.int .i64 0)).set 1 (.slice none 0 0)
    have k0 := kk.cell 0
    have k1 := kk.cell 1
    simp only [List.setIfInBounds_toArray, List.set_cons_zero, List.set_cons_succ, List.getElem?_toArray, List.getElem?_cons_zero, List.getElem?_cons_succ] at k0 k1
    clear kk
    have HFB := hide (two_below (Y := w.heap.size) HB.out (Nat.le_refl _) (.int .i64 0) (.slice none 0 0))
    go_wp2_with fail
    (try simp only [Exit.inBlock, Exit.then])
    exact bodyPost_ret (v := .tuple #[.agg #[.int .i64 0, .slice none 0 0], .int .i64 2]) (by simp [results, Tryz.results17, go_sem, k0, k1]) rfl (by rw [HV.out]; exact ret_bad _ HFB.out)
  have et : decide (0 < (srtN (miss (os.map OV.d))).length) = false := decide_eq_false (fun h => ht (HMI.out.1 h))
  rw [if_neg ht] at HLR
  clear ht HMI
  generalize (srtN (miss (os.map OV.d))).length = mn at *
  have y0 := HL.out.cell 0
  have y1 := HL.out.cell 1
  simp only [List.getElem?_toArray, List.getElem?_cons_zero, List.getElem?_cons_succ] at y0 y1
  have hll := HL.out.lt
  go_wp2_with fail
  clear et y0 y1 hll
  have hLw : L < w4.heap.size := HL.out.lt
  obtain ⟨N, hN⟩ : ∃ N : Nat, (PLink.lay (os.map OV.d) base).1 = base + N := ⟨((PLink.lay (os.map OV.d) base).1 - base).toNat, by omega⟩
  have HNN := hide hN
  have hN2 : N ≤ 10000 := by omega
  refine (end_any PA rs.length pc EA es ec xx (base + N) w4 (HE.out.more (Nat.le_of_lt hLw)) HEN.out.1 (by rw [← HNN.out]; exact HEN.out.2)).mono ?_
  rintro e w5 ⟨rfl, b5⟩
  replace HP := hide (HP.out.below (b5.mono (Nat.le_of_lt hLw)))
  replace HB := hide (HB.out.trans (b5.mono HB.out.size))
  replace HRR := hide (HRR.out.call b5)
  replace HL := hide (HL.out.call b5)
  clear b5
  clear HE hLw
  have HLI := hide (show ∀ k i, (hk : k < os.length) → (hi : i < (os[k]).ps.length) → ∃ h : k < rs.length, ∃ h2 : i < (rs[k]).zs.length, base ≤ (rs[k]).zs[i] ∧ (rs[k]).zs[i] ≤ base + N from fun k i hk hi => by
    have hkl : k < (os.map OV.d).length := by simpa using hk
    have hil : i < ((os.map OV.d)[k]).ss.length := by simpa [OV.d] using hi
    have hpl := HLB.out.2 k hkl i hil
    have h3 := HLB.out.1
    rw [← HRZ.out] at h3 hpl
    obtain ⟨p1, p2⟩ := h3 _ _ _ (sec_at hkl hil)
    simp only [List.length_map, List.getElem_map] at p1 p2
    rw [getP_at p1 p2, HNN.out] at hpl
    exact ⟨p1, p2, hpl⟩)
  have HT0 := hide (show image (os.map OV.d) base = imO (os.map OV.d) (rs.map RV.zs) base 0 ((os.map OV.d).drop 0) (some (List.replicate N 0)) from by
    unfold image
    rw [HNN.out, HRZ.out, show (base + (N : Int) - base).toNat = N by omega]
    rfl)
  clear HLB hN HRZ HEN g1 g2 HNN hrz
  have hwr : IntKind.i64.wrap (base + N - base) = (N : Int) := by rw [IntKind.wrap_i64]; omega
  have y0 := HL.out.cell 0
  have y1 := HL.out.cell 1
  simp only [List.getElem?_toArray, List.getElem?_cons_zero, List.getElem?_cons_succ] at y0 y1
  have hll := HL.out.lt
  go_wp2_with (at_make; refine wpList_make_full _ rfl _ _ _ rfl w.heap.size 5 i0 (.int .u8 0) 1 Tryz.underlying34 HI.out.1 HI.out.2.1 HI.out.2.2.1 .i64 .i64 _ _ N rfl rfl rfl rfl ?c1 ?c2 ?c3 ?_)
  case c1 => rw [HI.out.2.2.2]; omega
  case c2 => unfold maxLen; omega
  case c3 => exact HB.out.size
  intro w6 hown hg
  rw [zero_cells'] at hown
  have b6 : Below w5.heap.size w5 w6 := below_grown (Below.refl _ _) hg (Nat.le_refl _) (fun k hk => by cases hk)
  have hLg : L < w5.heap.size := HL.out.lt
  have HOW := hide hown
  replace HP := hide (HP.out.below (b6.mono (Nat.le_of_lt hLg)))
  replace HB := hide (HB.out.trans (b6.mono HB.out.size))
  replace HRR := hide (HRR.out.call b6)
  replace HL := hide (HL.out.call b6)
  clear b6
  clear hown hg y0 y1 hll
  generalize w5.heap.size = g at *
  have hLgg := hide hLg
  go_wp2_with fail
  have b7 : Below w6.heap.size w6 (w6.alloc (.cells #[.int .i64 base, .slice (some ⟨g, 0, none⟩) N N] 40)) := (by repeat (first | exact Below.refl _ _ | with_reducible assumption | (refine Below.drew ?_) | (refine Below.drewN ?_ _) | (refine Below.alloc ?_ (by simp; try omega) _) | (refine Below.setCell ?_ (by simp; try omega) _)))
  have HK := hide (show LK w L PA pc rs EA es.length ec w6.heap.size g N base (List.replicate N 0) (w6.alloc (.cells #[.int .i64 base, .slice (some ⟨g, 0, none⟩) N N] 40)) from ⟨own_call b7 HOW.out, by simp, Box.new _ _ _, HL.out.call b7, HRR.out.call b7, HP.out.below (b7.mono (Nat.le_of_lt HL.out.lt)), HB.out.trans (b7.mono HB.out.size)⟩)
  clear HOW HL HRR HP HB hwr b7
  generalize w6.alloc (.cells #[.int .i64 base, .slice (some ⟨g, 0, none⟩) N N] 40) = w7 at *
  generalize w6.heap.size = I at *
  generalize es.length = en at *
  generalize hTT : image (os.map OV.d) base = T at *
  generalize hLL : os.map OV.d = l at *
  have HLL := hide hLL
  clear hLL hTT
  have hos4 : os.length ≤ 4 := HSM.out.1
  go_loopw [52] (fun i wi => ∃ (k : Nat) (im : List Int), k ≤ os.length ∧ i = .int .i64 k ∧ T = imO l (rs.map RV.zs) base k (l.drop k) (some im) ∧ LK w L PA pc rs EA en ec I g N base im wi) (fun i _ => os.length - (intOf i).toNat)
  case atStart => exact ⟨0, _, Nat.zero_le _, rfl, HT0.out, HK.out⟩
  case round =>
    clear HK HT0
    obtain ⟨k, im, hk, rfl, ht, hlk⟩ := hrel
    have HK := hide hlk
    by_cases hlt : k < os.length
    · obtain ⟨bb, off, hA, hbb, hc0, hc1⟩ := (HR.out.below hlk.b).at hlt
      have hll : k < l.length := by rw [← HLL.out, List.length_map]; exact hlt
      obtain ⟨Gf, hGf⟩ : ∃ Gf : Option (List Int) → Option (List Int), Gf = fun x => imO l (rs.map RV.zs) base (k + 1) (l.drop (k + 1)) x := ⟨_, rfl⟩
      have HGN := hide (show Gf none = none from by rw [hGf]; exact imO_none _ _ _ _ _)
      have HT := hide (show T = Gf (imS l (rs.map RV.zs) base k 0 ((os[k]).ps.map SV.d) (some im)) from by
        rw [ht, imO_drop hll, hGf]
        have := HLL.out
        subst this
        simp [OV.d])
      have HGF := hide hGf
      have HAO := hide (HAL.out _ (List.getElem_mem hlt))
      have hps8 : (os[k]).ps.length ≤ 8 := HAO.out.1
      have HIO := hide (fun i (hi : i < (os[k]).ps.length) => HLI.out k i hlt hi)
      have HSY := hide (fun (W : World) (hb : Below w.heap.size w W) (hw : RdRs W W.heap.size PA rs) (j : Nat) (hj : j < (os[k]).ys.length) => symbolPlace_any PA rs pc EA en ec A os c k j W hw ((HR.out.below hb).more hb.size) hlt hj ⟨by have := HSM.out.1; omega, fun o ho => by have := HSM.out.2 o ho; omega⟩ HPL.out)
      have HRO := hide (HR.out.2 _ (List.getElem_mem hlt)).1
      have HNO := hide (HN.out _ (List.getElem_mem hlt))
      clear hlk ht hGf
      rw [HLL.out] at HSY
      subst hA
      generalize os[k] = o at *
      go_wp2_with fail
      have B1 : Below wr.heap.size wr (wr.alloc (.cells #[.slice o.A o.ps.length o.c, .slice o.Y o.ys.length o.yc] 31)) := (by repeat (first | exact Below.refl _ _ | with_reducible assumption | (refine Below.drew ?_) | (refine Below.drewN ?_ _) | (refine Below.alloc ?_ (by simp; try omega) _) | (refine Below.setCell ?_ (by simp; try omega) _)))
      have HO := hide (Box.new wr 31 #[.slice o.A o.ps.length o.c, .slice o.Y o.ys.length o.yc])
      replace HK := hide (HK.out.call B1)
      clear B1
      generalize wr.alloc (.cells #[.slice o.A o.ps.length o.c, .slice o.Y o.ys.length o.yc] 31) = wa at *
      generalize wr.heap.size = Z at *
      clear hc0 hc1
      have y0 := HO.out.cell 0
      simp only [List.getElem?_toArray, List.getElem?_cons_zero, List.getElem?_cons_succ] at y0
      have hol := HO.out.lt
      go_wp2_with fail
      clear y0 hol HO
      go_loopw [60] (fun i wi => ∃ (m : Nat) (im : List Int), m ≤ o.ps.length ∧ i = .int .i64 m ∧ T = Gf (imS l (rs.map RV.zs) base k m ((o.ps.map SV.d).drop m) (some im)) ∧ LK w L PA pc rs EA en ec I g N base im wi) (fun i _ => o.ps.length - (intOf i).toNat)
      case atStart => exact ⟨0, im, Nat.zero_le _, rfl, HT.out, HK.out⟩
      case round =>
        clear HK HT
        obtain ⟨m, im, hm, rfl, ht, hlk⟩ := hrel
        have HK := hide hlk
        by_cases hlm : m < o.ps.length
        · obtain ⟨b2, off2, hPA, hb2, hc⟩ := (HRO.out.1.below hlk.b).row secC_len (by decide) hlm
          have hc0 := hc 0 _ rfl
          have hc1 := hc 1 _ rfl
          have hc2 := hc 2 _ rfl
          have hc3 := hc 3 _ rfl
          have hc4 := hc 4 _ rfl
          have hc5 := hc 5 _ rfl
          simp only [Nat.add_zero] at hc0
          obtain ⟨hkr, hmr, hp1, hp2⟩ := HIO.out m hlm
          have HT := hide (show T = Gf (imS l (rs.map RV.zs) base k (m + 1) ((o.ps.map SV.d).drop (m + 1)) ((fill l (rs.map RV.zs) k ((rs[k]).zs[m]) (o.ps[m]).fs (some (o.ps[m]).zs)).map fun b => over im ((rs[k]).zs[m] - base).toNat b)) from by
            rw [ht, imS_drop (by simpa using hlm), List.getElem_map, getP_at hkr hmr, Option.bind_some]
            rfl)
          have HAP := hide (HAO.out.2 _ (List.getElem_mem hlm))
          have HRP := hide (HRO.out.2 _ (List.getElem_mem hlm))
          have HNP := hide (HNO.out _ (List.getElem_mem hlm))
          obtain ⟨pb, po, hPP, hpb, hrow⟩ := hlk.hp.at hkr
          obtain ⟨rb, ro, hRR, hrb, hcell⟩ := (hlk.hp.2 _ (List.getElem_mem hkr)).int hmr
          have l0 := hlk.bl.cell 0
          simp only [List.getElem?_toArray, List.getElem?_cons_zero] at l0
          rw [hPP] at l0
          have HPP := hide hPP
          clear hPP
          rw [hRR] at hrow
          have hLl := hlk.bl.lt
          clear hlk ht hc hRR
          rw [hPA]
          clear hPA
          generalize o.ps[m] = p at *
          generalize hpl : (rs[k]).zs[m] = pl at *
          clear hpl
          generalize (rs[k]).zs.length = rn at *
          generalize (rs[k]).c = rc at *
          have B1 : Below wr.heap.size wr (wr.alloc (.cells #[.string p.nm, .int .i64 p.kd, .int .i64 p.al, .slice p.A p.zs.length p.c, .int .i64 p.sz, .slice p.F p.fs.length p.fc] 77)) := (by repeat (first | exact Below.refl _ _ | with_reducible assumption | (refine Below.drew ?_) | (refine Below.drewN ?_ _) | (refine Below.alloc ?_ (by simp; try omega) _) | (refine Below.setCell ?_ (by simp; try omega) _)))
          have HS := hide (Box.new wr 77 #[.string p.nm, .int .i64 p.kd, .int .i64 p.al, .slice p.A p.zs.length p.c, .int .i64 p.sz, .slice p.F p.fs.length p.fc])
          replace HK := hide (HK.out.call B1)
          replace l0 := (B1.cell (p := ⟨L, 0, none⟩) hLl).trans l0
          replace hrow := (B1.cell (p := ⟨pb, po + k, none⟩) (show pb < wr.heap.size by omega)).trans hrow
          replace hcell := (B1.cell (p := ⟨rb, ro + m, none⟩) (show rb < wr.heap.size by omega)).trans hcell
          clear B1
          go_wp2_with fail
          clear hc0 hc1 hc2 hc3 hc4 hc5
          generalize wr.alloc (.cells #[.string p.nm, .int .i64 p.kd, .int .i64 p.al, .slice p.A p.zs.length p.c, .int .i64 p.sz, .slice p.F p.fs.length p.fc] 77) = ws at *
          generalize wr.heap.size = S at *
          have s3 := HS.out.cell 3
          have s5 := HS.out.cell 5
          simp only [List.getElem?_toArray, List.getElem?_cons_zero, List.getElem?_cons_succ] at s3 s5
          have hsl := HS.out.lt
          have hkr' : k < rs.length := hkr
          go_quiet (fail)
          have bd : Below ws.heap.size ws (ws.drewN nq) := below_dn (Below.refl _ _)
          replace HK := hide (HK.out.call bd)
          replace HS := hide (HS.out.call bd)
          clear bd s3 s5 hsl l0 hrow hcell
          generalize ws.drewN nq = wt at *
          clear nq
          have s5 := HS.out.cell 5
          simp only [List.getElem?_toArray, List.getElem?_cons_zero, List.getElem?_cons_succ] at s5
          have hsl := HS.out.lt
          go_wp2_with fail
          clear s5 hsl
          generalize hF : fill l (rs.map RV.zs) k pl p.fs (some p.zs) = F at *
          have hfl6 : p.fs.length ≤ 6 := HAP.out.1
          have HF0 := hide (show F = fill l (rs.map RV.zs) k pl (p.fs.drop 0) (some p.zs) from hF.symm)
          clear hF
          go_loopw [13, 78] (fun bv i wi => ∃ (q : Nat) (b : List Int) (Ab : Option Addr) (cb : Nat), q ≤ p.fs.length ∧ bv = .slice Ab b.length cb ∧ i = .int .i64 q ∧ F = fill l (rs.map RV.zs) k pl (p.fs.drop q) (some b) ∧ b.length = p.zs.length ∧ Rd wi wi.heap.size Ab (ints .u8 b) ∧ (Ab = none → cb = 0) ∧ Box wi S 77 #[.string p.nm, .int .i64 p.kd, .int .i64 p.al, .slice p.A p.zs.length p.c, .int .i64 p.sz, .slice p.F p.fs.length p.fc] ∧ LK w L PA pc rs EA en ec I g N base im wi) (fun _ i _ => p.fs.length - (intOf i).toNat)
          case atStart => exact ⟨0, p.zs, p.A, p.c, Nat.zero_le _, rfl, rfl, HF0.out, rfl, (HRP.out.1.below HK.out.b).more HK.out.b.size, HNP.out, HS.out, HK.out⟩
          case round =>
            clear HK HS HF0
            obtain ⟨q, b, Ab, cb, hq, rfl, rfl, hfl, hbl, hrd, hnil, hs, hlk⟩ := hrel
            have HK := hide hlk
            have HS := hide hs
            have HRD := hide hrd
            have HBL := hide hbl
            have HNB := hide hnil
            by_cases hlq : q < p.fs.length
            · obtain ⟨b3, off3, hFA, hb3, hd⟩ := (HRP.out.2.below hlk.b).row fixupC_len (by decide) hlq
              have hd0 := hd 0 _ rfl
              have hd1 := hd 1 _ rfl
              have hd2 := hd 2 _ rfl
              have hd3 := hd 3 _ rfl
              simp only [Nat.add_zero] at hd0
              have HFL := hide (show F = fill l (rs.map RV.zs) k pl (p.fs.drop (q + 1)) (apF b pl (p.fs[q]) (symPl l (rs.map RV.zs) k (p.fs[q]).2.2.1.toNat)) from by
                rw [hfl, fill_drop hlq]
                rfl)
              obtain ⟨hf0, hf1⟩ := HAP.out.2.2 _ (List.getElem_mem hlq)
              have hLl := hlk.bl.lt
              clear hlk hs hrd hbl hnil hfl hd
              rw [hFA]
              have HFA := hide hFA
              clear hFA
              generalize p.fs[q] = f at *
              obtain ⟨f1, f2, f3, f4⟩ := f
              simp only at hd0 hd1 hd2 hd3 hf0 hf1 HFL
              obtain ⟨j, rfl⟩ : ∃ j : Nat, f3 = (j : Int) := ⟨f3.toNat, by omega⟩
              have hjl : j < o.ys.length := by omega
              simp only [Int.toNat_natCast] at HFL
              have B1 : Below wr.heap.size wr (wr.alloc (.cells #[.int .i64 f1, .int .i64 f2, .int .i64 j, .int .i64 f4] 80)) := (by repeat (first | exact Below.refl _ _ | with_reducible assumption | (refine Below.drew ?_) | (refine Below.drewN ?_ _) | (refine Below.alloc ?_ (by simp; try omega) _) | (refine Below.setCell ?_ (by simp; try omega) _)))
              have HX := hide (Box.new wr 80 #[.int .i64 f1, .int .i64 f2, .int .i64 j, .int .i64 f4])
              replace HRD := hide ((HRD.out.below B1).more B1.size)
              replace HK := hide (HK.out.call B1)
              replace HS := hide (HS.out.call B1)
              clear B1
              have l0 := HK.out.bl.cell 0
              have l1 := HK.out.bl.cell 1
              simp only [List.getElem?_toArray, List.getElem?_cons_zero, List.getElem?_cons_succ] at l0 l1
              have hLl2 := HK.out.bl.lt
              go_wp2_with fail
              clear hd0 hd1 hd2 hd3 l0 l1 hLl2 hLl
              generalize wr.alloc (.cells #[.int .i64 f1, .int .i64 f2, .int .i64 j, .int .i64 f4] 80) = wx at *
              generalize wr.heap.size = Xf at *
              refine (HSY.out wx HK.out.b (HK.out.hp.more (Nat.le_of_lt HK.out.bl.lt)) j hjl).mono ?_
              rintro e w9 ⟨ok1, rfl, b9⟩
              replace HRD := hide ((HRD.out.below b9).more b9.size)
              replace HK := hide (HK.out.call b9)
              replace HS := hide (HS.out.call b9)
              replace HX := hide (HX.out.call b9)
              clear b9
              generalize symPl l (rs.map RV.zs) k j = tv at *
              have x0 := HX.out.cell 0
              have x1 := HX.out.cell 1
              have x2 := HX.out.cell 2
              have x3 := HX.out.cell 3
              simp only [List.getElem?_toArray, List.getElem?_cons_zero, List.getElem?_cons_succ] at x0 x1 x2 x3
              have hxl := HX.out.lt
              go_wp2_with fail
              clear x0 x1 x2 x3 hxl HX
              refine (applyFixup_any Ab b cb pl (f1, f2, (j : Int), f4) tv w9 HRD.out (by have := HBL.out; have := HAP.out.2.1; omega) HNB.out).mono ?_
              rintro e w10 ⟨A10, c10, n10, rfl, b10, hres⟩
              have HRES := hide hres
              clear hres
              replace HK := hide (HK.out.call b10)
              replace HS := hide (HS.out.call b10)
              have hb10 : w.heap.size ≤ w9.heap.size → True := fun _ => trivial
              generalize hap : apF b pl (f1, f2, (j : Int), f4) tv = r at *
              have HAPF := hide hap
              clear hap b10 hb10 HRD HNB
              cases r with
              | none =>
                have HV := hide (show linkR l base = (0, [], 3) from by
                  rw [HLR.out]
                  have e1 : T = none := by
                    rw [HT.out, HFL.out, fill_none, Option.map_none, imS_none, HGN.out]
                  rw [e1]
                  rfl)
                have y0 := HK.out.br.cell 0
                have y1 := HK.out.br.cell 1
                have yf0 := HK.out.br.frozen 0
                have yf1 := HK.out.br.frozen 1
                have hrl := HK.out.br.lt
                have kk := (HK.out.br.set 0 (.int .i64 0)).set 1 (.slice none 0 0)
                have k0 := kk.cell 0
                have k1 := kk.cell 1
                simp only [List.setIfInBounds_toArray, List.set_cons_zero, List.set_cons_succ, List.getElem?_toArray, List.getElem?_cons_zero, List.getElem?_cons_succ] at k0 k1 y0 y1
                clear kk
                have HFB := hide (two_below (Y := w.heap.size) HK.out.b (Nat.le_refl _) (.int .i64 0) (.slice none 0 0))
                simp only [Option.isSome]
                clear HT HFL
                go_wp2_with fail
                (try simp only [Exit.inBlock, Exit.then])
                exact bodyPost_ret (v := .tuple #[.agg #[.int .i64 0, .slice none 0 0], .int .i64 3]) (by simp [results, Tryz.results17, go_sem, k0, k1]) rfl (by rw [HV.out]; exact ret_bad _ HFB.out)
              | some b2 =>
                obtain ⟨hn10, hrow10⟩ := HRES.out b2 rfl
                have HR10 := hide hrow10
                have HL2 := hide ((ap_len HAPF.out).trans HBL.out)
                have HN10 := hide hn10
                clear hn10 hrow10 HRES HAPF HBL
                simp only [Option.isSome]
                go_wp2_with fail
                refine ⟨⟨q + 1, b2, A10, c10, by omega, by rw [HN10.out], by go_num, HFL.out, HL2.out, HR10.out.rd, HR10.out.nil, (by have h := HS.out; rw [HFA.out] at h; exact h), HK.out⟩, by simp [intOf]; omega⟩
            · obtain rfl : q = p.fs.length := by omega
              have HFS := hide (show F = some b from by
                rw [hfl, List.drop_of_length_le (Nat.le_refl _)]
                rfl)
              clear hfl hlk hs hrd hbl hnil HRP HNP HSY
              obtain ⟨off9, hoff⟩ : ∃ off9 : Nat, pl = base + off9 := ⟨(pl - base).toNat, by omega⟩
              subst hoff
              have hoN : off9 ≤ N := by omega
              have HT2 := hide (show T = Gf (imS l (rs.map RV.zs) base k (m + 1) ((o.ps.map SV.d).drop (m + 1)) (some (over im off9 b))) from by
                rw [HT.out, HFS.out, show (base + (off9 : Int) - base).toNat = off9 by omega]
                rfl)
              have hwo : IntKind.i64.wrap (base + off9 - base) = (off9 : Int) := by rw [IntKind.wrap_i64]; omega
              have i1 := HK.out.bi.cell 1
              simp only [List.getElem?_toArray, List.getElem?_cons_zero, List.getElem?_cons_succ] at i1
              have hil := HK.out.bi.lt
              have himl := HK.out.len
              have HIM := hide himl
              clear himl HT HF HFS
              by_cases hne : off9 = N
              · subst hne
                have HOV := hide (show over im off9 b = im from by
                  unfold over
                  rw [HIM.out, Nat.sub_self, List.take_zero]
                  simp [sp])
                have HZ9 := hide (show Nat.min b.length 0 = 0 from Nat.min_zero _)
                rw [HOV.out] at HT2
                have hrun := run_copy_zero (P := Tryz.prog) wr 34 34 3 5 (some ⟨g, 0, none⟩) Ab 0 0 b.length cb Tryz.underlying34 (by kernel_rfl) HZ9.out
                go_wp2_with fail
                refine ⟨⟨m + 1, im, by omega, by go_num, HT2.out, HK.out⟩, by simp [intOf]; omega⟩
              have hne2 : ¬ N = off9 := fun e => hne e.symm
              by_cases hz : b.length = 0
              · have HOV := hide (show over im off9 b = im from by
                  obtain rfl := List.eq_nil_of_length_eq_zero hz
                  simp [over, sp])
                have HZ9 := hide (show Nat.min b.length (N - off9) = 0 from by rw [hz]; exact Nat.zero_min _)
                clear hz hne
                rw [HOV.out] at HT2
                have hrun := run_copy_zero (P := Tryz.prog) wr 34 34 3 5 (some ⟨g, off9, none⟩) Ab (N - off9) (N - off9) b.length cb Tryz.underlying34 (by kernel_rfl) HZ9.out
                go_wp2_with fail
                refine ⟨⟨m + 1, im, by omega, by go_num, HT2.out, HK.out⟩, by simp [intOf]; omega⟩
              · have hbp : 0 < b.length := by omega
                obtain ⟨cur, hgv, hcn, hput⟩ := HK.out.put hLgg.out
                have hml : (b.take (im.length - off9)).length = Nat.min b.length (N - off9) := by
                  rw [HIM.out, List.length_take, Nat.min_comm]
                  try rfl
                have hml2 : off9 + (b.take (im.length - off9)).length ≤ N := by
                  rw [hml]
                  have hmr : Nat.min b.length (N - off9) ≤ N - off9 := Nat.min_le_right _ _
                  omega
                have hlk2 := hput off9 (b.take (im.length - off9)) hml2
                obtain ⟨bz, offz, hAb, hbz, hsrc⟩ := rd_addr HRD.out hbp
                have hrun := run_copy_row (P := Tryz.prog) wr 34 34 3 5 g off9 (N - off9) (N - off9) ⟨bz, offz, none⟩ b.length cb cur.toArray 5 (ints .u8 (b.take (im.length - off9))) Tryz.underlying34 (by kernel_rfl) hgv (by rw [← hml]; simp) (fun j v hj => hsrc j v (by
                  rw [ints, List.getElem?_map] at hj ⊢
                  cases hq2 : (b.take (im.length - off9))[j]? with
                  | none => rw [hq2] at hj; cases hj
                  | some y =>
                    have hlt2 := (List.getElem?_eq_some_iff.1 hq2).1
                    rw [List.length_take] at hlt2
                    rw [List.getElem?_take_of_lt (by omega)] at hq2
                    rw [hq2]
                    rw [List.getElem?_take_of_lt (by omega), hq2] at hj
                    exact hj)) (by simp only [ints, List.length_map, List.size_toArray]; omega) oneI
                have HK2 := hide (show LK w L PA pc rs EA en ec I g N base (over im off9 b) (wr.setRow g ((cur.toArray.toList.take off9 ++ ints .u8 (b.take (im.length - off9)) ++ cur.toArray.toList.drop (off9 + (ints .u8 (b.take (im.length - off9))).length)).toArray)) from by
                  have e : (cur.toArray.toList.take off9 ++ ints .u8 (b.take (im.length - off9)) ++ cur.toArray.toList.drop (off9 + (ints .u8 (b.take (im.length - off9))).length)) = Go.splice cur off9 (ints .u8 (b.take (im.length - off9))) := by simp [Go.splice]
                  rw [e]
                  exact hlk2)
                generalize wr.setRow g ((cur.toArray.toList.take off9 ++ ints .u8 (b.take (im.length - off9)) ++ cur.toArray.toList.drop (off9 + (ints .u8 (b.take (im.length - off9))).length)).toArray) = w9 at *
                generalize (ints IntKind.u8 (b.take (im.length - off9))).length = cn at *
                subst hAb
                clear hput hgv hcn hml hml2 hlk2 hsrc hz hne HRD
                go_wp2_with fail
                refine ⟨⟨m + 1, over im off9 b, by omega, by go_num, HT2.out, HK2.out⟩, by simp [intOf]; omega⟩
        · have hme : m = o.ps.length := by omega
          subst hme
          have HT2 := hide (show T = imO l (rs.map RV.zs) base (k + 1) (l.drop (k + 1)) (some im) from by
            rw [ht, List.drop_of_length_le (by simp), HGF.out]
            rfl)
          clear ht hlk
          go_wp2_with fail
          refine ⟨⟨k + 1, im, by omega, by go_num, HT2.out, HK.out⟩, by simp [intOf]; omega⟩
    · have hke : k = os.length := by omega
      subst hke
      have HV := hide (show linkR l base = (base, im, 0) from by
        rw [HLR.out, ht, List.drop_of_length_le (by rw [← HLL.out]; simp)]
        rfl)
      have i0' := HK.out.bi.cell 0
      have i1' := HK.out.bi.cell 1
      have y0 := HK.out.br.cell 0
      have y1 := HK.out.br.cell 1
      have yf0 := HK.out.br.frozen 0
      have yf1 := HK.out.br.frozen 1
      have hrl := HK.out.br.lt
      have hil := HK.out.bi.lt
      have kk := (HK.out.br.set 0 (.int .i64 base)).set 1 (.slice (some ⟨g, 0, none⟩) N N)
      have k0 := kk.cell 0
      have k1 := kk.cell 1
      simp only [List.setIfInBounds_toArray, List.set_cons_zero, List.set_cons_succ, List.getElem?_toArray, List.getElem?_cons_zero, List.getElem?_cons_succ] at k0 k1 y0 y1 i0' i1'
      clear kk
      have HIM := hide HK.out.len
      have HFB := hide (show RetL (base, im, 0) w (.returned (.tuple #[.agg #[.int .i64 base, .slice (some ⟨g, 0, none⟩) N N], .int .i64 0])) ((wr.setCell ⟨w.heap.size, 0, none⟩ (.int .i64 base)).setCell ⟨w.heap.size, 1, none⟩ (.slice (some ⟨g, 0, none⟩) N N)) from by
        refine ⟨some ⟨g, 0, none⟩, N, by rw [HIM.out], ?_, two_below (Y := w.heap.size) HK.out.b (Nat.le_refl _) _ _⟩
        have r0 : Row wr w.heap.size 5 1 (some ⟨g, 0, none⟩) N N (ints .u8 im) := .inr HK.out.row
        have r1 := (r0.set (a := ⟨w.heap.size, 0, none⟩) (fun j hj => r0.box HK.out.br (by decide) j hj) (.int .i64 base))
        have r2 := (r1.set (a := ⟨w.heap.size, 1, none⟩) (fun j hj => r0.box HK.out.br (by decide) j hj) (.slice (some ⟨g, 0, none⟩) N N))
        simp only [HIM.out]
        exact r2)
      clear ht hlk
      go_wp2_with fail
      (try simp only [Exit.inBlock, Exit.then])
      exact bodyPost_ret (v := .tuple #[.agg #[.int .i64 base, .slice (some ⟨g, 0, none⟩) N N], .int .i64 0]) (by simp [results, Tryz.results17, go_sem, k0, k1]) rfl (by rw [HV.out]; exact HFB.out)
end Go.Proofs.YtmglgjchemecjaaGreat.CLink
/- Contracts of the laws' comparisons of lists. -/
namespace Go.Proofs.YtmglgjchemecjaaGreat.CSame
set_option maxRecDepth 200000
open Go.ChangeShapes Go.WideShapes Go.ChangeAt Go.RowKit Kit
theorem sameBytes_any (A A' : Option Addr) (xs ys : List Int) (c c' B : Nat) (w : World) (hr : Rd w B A (ints .u8 xs)) (hr' : Rd w B A' (ints .u8 ys)) (hm : xs.length ≤ maxLen) (hm' : ys.length ≤ maxLen) :
    Calls Tryz.prog 64 #[.slice A xs.length c, .slice A' ys.length c'] w fun e w' => e = .returned (.bool (xs == ys)) ∧ ∃ n, w' = w.drewN n := by
  unfold maxLen at hm hm'
  by_cases hl : xs.length = ys.length
  · have h0 : (((xs.length : Nat) : Int) != (ys.length : Nat)) = false := by simp; omega
    go_enter Tryz.func64, Tryz.ntmps64
    go_wp2
    clear h0
    have HL := hide hl
    go_loopw [5] (fun i wr => ∃ k : Nat, k ≤ xs.length ∧ i = .int .i64 k ∧ xs.take k = ys.take k ∧ ∃ n, wr = w.drewN n) (fun i _ => xs.length - (intOf i).toNat)
    case atStart => exact ⟨0, Nat.zero_le _, rfl, rfl, 0, rfl⟩
    case round =>
      obtain ⟨k, hk, rfl, he, n, rfl⟩ := hrel
      have HE := hide he
      clear he hl
      by_cases hlt : k < xs.length
      · obtain ⟨b, off, rfl, _, hc⟩ := hr.int hlt
        obtain ⟨b', off', rfl, _, hc'⟩ := hr'.int (i := k) (by have := HL.out; omega)
        clear hr hr'
        have hlt' : k < ys.length := by have := HL.out; omega
        by_cases hxy : xs[k] = ys[k]
        · have HE' := hide (show xs.take (k + 1) = ys.take (k + 1) by rw [take_succ hlt, take_succ hlt', HE.out, hxy])
          have hn : (xs[k] != ys[k]) = false := by simpa using hxy
          clear hxy
          go_wp2_with fail
          go_quiet (fail)
          go_wp2
          go_roundw
          case rel => exact ⟨k + 1, by omega, by go_num, HE'.out, _, rfl⟩
          case measure => simp [intOf]; omega
        · have hn : (xs[k] != ys[k]) = true := by simpa using hxy
          have HF := hide (show (xs == ys) = false by
            apply beq_eq_false_iff_ne.2
            intro e
            subst e
            exact hxy rfl)
          clear hxy
          go_wp2_with fail
          go_quiet (fail)
          go_wp2
          go_ret
          exact ⟨ret_bool HF.out.symm, _, World.drewN_drewN ..⟩
      · have HF := hide (show (xs == ys) = true by
          have e := HE.out
          have := HL.out
          rw [List.take_of_length_le (by omega), List.take_of_length_le (by omega)] at e
          subst e
          simp)
        clear hr hr'
        go_wp2
        go_ret
        exact ⟨ret_bool HF.out.symm, _, rfl⟩
  · have h1 : (((xs.length : Nat) : Int) != (ys.length : Nat)) = true := by simp; omega
    have h2 : (xs == ys) = false := by simp; intro e; exact hl (by rw [e])
    have H2 := hide h2
    clear h2 hl
    go_enter Tryz.func64, Tryz.ntmps64
    go_wp2
    go_ret
    exact ⟨ret_bool H2.out.symm, 0, rfl⟩
end Go.Proofs.YtmglgjchemecjaaGreat.CSame
/- The laws' comparisons of sections, objects and images, where both are equal. -/
namespace Go.Proofs.YtmglgjchemecjaaGreat.CSameO
set_option maxRecDepth 200000
open Go.ChangeShapes Go.WideShapes Go.ChangeAt Go.RowKit Kit CFixups CSymbols PObj BObj CSame
theorem sameImage_same (b : Int) (A A' : Option Addr) (zs : List Int) (c c' : Nat) (w : World) (h : Rd w w.heap.size A (ints .u8 zs)) (h' : Rd w w.heap.size A' (ints .u8 zs)) (hm : zs.length ≤ maxLen) :
    Calls Tryz.prog 19 #[.agg #[.int .i64 b, .slice A zs.length c], .agg #[.int .i64 b, .slice A' zs.length c']] w (Ret (.bool true) w) := by
  have B0 : Below w.heap.size w ((w.alloc (.cells #[.int .i64 b, .slice A zs.length c] 40)).alloc (.cells #[.int .i64 b, .slice A' zs.length c'] 40)) := (by repeat (first | exact Below.refl _ _ | with_reducible assumption | (refine Below.drew ?_) | (refine Below.drewN ?_ _) | (refine Below.alloc ?_ (by simp; try omega) _) | (refine Below.setCell ?_ (by simp; try omega) _)))
  have HR := hide (h.below B0)
  have HR' := hide (h'.below B0)
  have HB := hide B0
  clear h h' B0
  go_enter Tryz.func19, Tryz.ntmps19
  go_wp2_with fail
  generalize (w.alloc (.cells #[.int .i64 b, .slice A zs.length c] 40)).alloc (.cells #[.int .i64 b, .slice A' zs.length c'] 40) = w0 at *
  refine (sameBytes_any A A' zs zs c c' w.heap.size w0 HR.out HR'.out hm hm).mono ?_
  rintro e w' ⟨rfl, n, rfl⟩
  rw [beq_self_eq_true]
  go_wp2_with fail
  go_ret
  exact ⟨rfl, Kit.Below.drewN HB.out _⟩
set_option maxHeartbeats 2000000 in
theorem sameSection_same (p : SV) (A' : Option Addr) (c' : Nat) (F' : Option Addr) (fc' : Nat) (w : World) (h : RdS w w.heap.size p) (hA : Rd w w.heap.size A' (ints .u8 p.zs)) (hF : Rd w w.heap.size F' (cellsOf fixupC p.fs)) (hm : p.zs.length ≤ 1000 ∧ p.fs.length ≤ 1000) :
    Calls Tryz.prog 49 #[.agg #[.string p.nm, .int .i64 p.kd, .int .i64 p.al, .slice p.A p.zs.length p.c, .int .i64 p.sz, .slice p.F p.fs.length p.fc], .agg #[.string p.nm, .int .i64 p.kd, .int .i64 p.al, .slice A' p.zs.length c', .int .i64 p.sz, .slice F' p.fs.length fc']] w (Ret (.bool true) w) := by
  obtain ⟨hm1, hm2⟩ := hm
  have B0 : Below w.heap.size w ((w.alloc (.cells #[.string p.nm, .int .i64 p.kd, .int .i64 p.al, .slice p.A p.zs.length p.c, .int .i64 p.sz, .slice p.F p.fs.length p.fc] 77)).alloc (.cells #[.string p.nm, .int .i64 p.kd, .int .i64 p.al, .slice A' p.zs.length c', .int .i64 p.sz, .slice F' p.fs.length fc'] 77)) := (by repeat (first | exact Below.refl _ _ | with_reducible assumption | (refine Below.drew ?_) | (refine Below.drewN ?_ _) | (refine Below.alloc ?_ (by simp; try omega) _) | (refine Below.setCell ?_ (by simp; try omega) _)))
  have HR := hide (h.below B0)
  have HRA := hide (hA.below B0)
  have HRF := hide (hF.below B0)
  have HB := hide B0
  have HX := hide ((Box.new w 77 #[.string p.nm, .int .i64 p.kd, .int .i64 p.al, .slice p.A p.zs.length p.c, .int .i64 p.sz, .slice p.F p.fs.length p.fc]).alloc (.cells #[.string p.nm, .int .i64 p.kd, .int .i64 p.al, .slice A' p.zs.length c', .int .i64 p.sz, .slice F' p.fs.length fc'] 77))
  have HY0 := Box.new (w.alloc (.cells #[.string p.nm, .int .i64 p.kd, .int .i64 p.al, .slice p.A p.zs.length p.c, .int .i64 p.sz, .slice p.F p.fs.length p.fc] 77)) 77 #[.string p.nm, .int .i64 p.kd, .int .i64 p.al, .slice A' p.zs.length c', .int .i64 p.sz, .slice F' p.fs.length fc']
  simp only [World.size_alloc] at HY0
  have HY := hide HY0
  clear h hA hF B0 HY0
  go_enter Tryz.func49, Tryz.ntmps49
  go_wp2_with fail
  generalize (w.alloc (.cells #[.string p.nm, .int .i64 p.kd, .int .i64 p.al, .slice p.A p.zs.length p.c, .int .i64 p.sz, .slice p.F p.fs.length p.fc] 77)).alloc (.cells #[.string p.nm, .int .i64 p.kd, .int .i64 p.al, .slice A' p.zs.length c', .int .i64 p.sz, .slice F' p.fs.length fc'] 77) = w0 at *
  generalize w.heap.size + 1 = Y at *
  refine (sameBytes_any p.A A' p.zs p.zs p.c c' w.heap.size w0 HR.out.1 HRA.out (by unfold maxLen; omega) (by unfold maxLen; omega)).mono ?_
  rintro e w' ⟨rfl, n, rfl⟩
  rw [beq_self_eq_true]
  have bd : Below w0.heap.size w0 (w0.drewN n) := below_dn (Below.refl _ _)
  replace HR := hide (HR.out.below (bd.mono HB.out.size))
  replace HRF := hide (HRF.out.below (bd.mono HB.out.size))
  replace HB := hide (HB.out.trans (bd.mono HB.out.size))
  replace HX := hide (HX.out.call bd)
  replace HY := hide (HY.out.call bd)
  clear bd
  generalize w0.drewN n = w1 at *
  have x5 := HX.out.cell 5
  simp only [List.getElem?_toArray, List.getElem?_cons_zero, List.getElem?_cons_succ] at x5
  have y5 := HY.out.cell 5
  simp only [List.getElem?_toArray, List.getElem?_cons_zero, List.getElem?_cons_succ] at y5
  have hxl := HX.out.lt
  have hyl := HY.out.lt
  go_wp2_with fail
  clear x5 y5 hxl hyl
  go_loopw [5] (fun i wi => ∃ (k : Nat), k ≤ p.fs.length ∧ i = .int .i64 k ∧ Below w1.heap.size w1 wi) (fun i _ => p.fs.length - (intOf i).toNat)
  case atStart => exact ⟨0, Nat.zero_le _, rfl, Below.refl _ _⟩
  case round =>
    obtain ⟨k, hk, rfl, hb⟩ := hrel
    have HBI := hide hb
    have HX2 := hide (HX.out.call hb)
    have HY2 := hide (HY.out.call hb)
    by_cases hlt : k < p.fs.length
    · have hbl : Below w.heap.size w1 wr := hb.mono HB.out.size
      obtain ⟨b1, o1, hA1, hb1, hc⟩ := (HR.out.2.below hbl).row fixupC_len (by decide) hlt
      obtain ⟨b2, o2, hA2, hb2, hd⟩ := (HRF.out.below hbl).row fixupC_len (by decide) hlt
      have hc0 := hc 0 _ rfl
      have hc1 := hc 1 _ rfl
      have hc2 := hc 2 _ rfl
      have hc3 := hc 3 _ rfl
      have hd0 := hd 0 _ rfl
      have hd1 := hd 1 _ rfl
      have hd2 := hd 2 _ rfl
      have hd3 := hd 3 _ rfl
      simp only [Nat.add_zero] at hc0 hd0
      clear hc hd hbl hb
      have x5 := HX2.out.cell 5
      simp only [List.getElem?_toArray, List.getElem?_cons_zero, List.getElem?_cons_succ] at x5
      have y5 := HY2.out.cell 5
      simp only [List.getElem?_toArray, List.getElem?_cons_zero, List.getElem?_cons_succ] at y5
      rw [hA1] at x5
      rw [hA2] at y5
      have hxl := HX2.out.lt
      have hyl := HY2.out.lt
      clear hA1 hA2
      generalize p.fs[k] = z at *
      obtain ⟨z1, z2, z3, z4⟩ := z
      simp only at hc0 hc1 hc2 hc3 hd0 hd1 hd2 hd3
      go_wp2_with fail
      go_quiet (fail)
      go_wp2_with fail
      refine ⟨⟨k + 1, by omega, by go_num, Kit.Below.drewN HBI.out _⟩, by first | (simp [intOf]; done) | (simp [intOf]; omega)⟩
    · have hke : k = p.fs.length := by omega
      have x5 := HX2.out.cell 5
      simp only [List.getElem?_toArray, List.getElem?_cons_zero, List.getElem?_cons_succ] at x5
      have hxl := HX2.out.lt
      subst hke
      clear hb
      go_wp2_with fail
      go_ret
      exact ⟨rfl, HB.out.trans (HBI.out.mono HB.out.size)⟩
def Lim (o : OV) : Prop := o.ps.length ≤ 1000 ∧ o.ys.length ≤ 1000 ∧ ∀ p ∈ o.ps, p.zs.length ≤ 1000 ∧ p.fs.length ≤ 1000
set_option maxHeartbeats 4000000 in
theorem sameObject_same (o o' : OV) (hd : o'.d = o.d) (w : World) (h : RdO w w.heap.size o) (h' : RdO w w.heap.size o') (hm : Lim o) :
    Calls Tryz.prog 13 #[.agg #[.slice o.A o.ps.length o.c, .slice o.Y o.ys.length o.yc], .agg #[.slice o'.A o'.ps.length o'.c, .slice o'.Y o'.ys.length o'.yc]] w (Ret (.bool true) w) := by
  obtain ⟨hm1, hm2, hm3⟩ := hm
  have hps : o'.ps.map SV.d = o.ps.map SV.d := congrArg OD.ss hd
  have hys : o'.ys = o.ys := congrArg OD.ys hd
  have hpl : o'.ps.length = o.ps.length := by simpa using congrArg List.length hps
  have HM := hide hm3
  have HPS := hide hps
  clear hd hm3 hps
  rw [hys, hpl]
  have B0 : Below w.heap.size w ((w.alloc (.cells #[.slice o.A o.ps.length o.c, .slice o.Y o.ys.length o.yc] 31)).alloc (.cells #[.slice o'.A o.ps.length o'.c, .slice o'.Y o.ys.length o'.yc] 31)) := (by repeat (first | exact Below.refl _ _ | with_reducible assumption | (refine Below.drew ?_) | (refine Below.drewN ?_ _) | (refine Below.alloc ?_ (by simp; try omega) _) | (refine Below.setCell ?_ (by simp; try omega) _)))
  have HR := hide (h.below B0)
  have HR' := hide (h'.below B0)
  have HB := hide B0
  have HX := hide ((Box.new w 31 #[.slice o.A o.ps.length o.c, .slice o.Y o.ys.length o.yc]).alloc (.cells #[.slice o'.A o.ps.length o'.c, .slice o'.Y o.ys.length o'.yc] 31))
  have HY0 := Box.new (w.alloc (.cells #[.slice o.A o.ps.length o.c, .slice o.Y o.ys.length o.yc] 31)) 31 #[.slice o'.A o.ps.length o'.c, .slice o'.Y o.ys.length o'.yc]
  simp only [World.size_alloc] at HY0
  have HY := hide HY0
  have HYS := hide hys
  have HPL := hide hpl
  clear h h' B0 HY0 hys hpl
  go_enter Tryz.func13, Tryz.ntmps13
  go_wp2_with fail
  generalize (w.alloc (.cells #[.slice o.A o.ps.length o.c, .slice o.Y o.ys.length o.yc] 31)).alloc (.cells #[.slice o'.A o.ps.length o'.c, .slice o'.Y o.ys.length o'.yc] 31) = w1 at *
  generalize w.heap.size + 1 = Y at *
  go_loopw [5] (fun i wi => ∃ (k : Nat), k ≤ o.ps.length ∧ i = .int .i64 k ∧ Below w1.heap.size w1 wi) (fun i _ => o.ps.length - (intOf i).toNat)
  case atStart => exact ⟨0, Nat.zero_le _, rfl, Below.refl _ _⟩
  case round =>
    obtain ⟨k, hk, rfl, hb⟩ := hrel
    have HBI := hide hb
    have HX2 := hide (HX.out.call hb)
    have HY2 := hide (HY.out.call hb)
    by_cases hlt : k < o.ps.length
    · have hbl : Below w.heap.size w1 wr := hb.mono HB.out.size
      have hlt' : k < o'.ps.length := by rw [HPL.out]; exact hlt
      obtain ⟨b1, o1, hA1, hb1, hc⟩ := (HR.out.1.1.below hbl).row secC_len (by decide) hlt
      obtain ⟨b2, o2, hA2, hb2, hd⟩ := (HR'.out.1.1.below hbl).row secC_len (by decide) hlt'
      have HP := hide ((HR.out.1.2 _ (List.getElem_mem hlt)).below hbl)
      have HP' := hide ((HR'.out.1.2 _ (List.getElem_mem hlt')).below hbl)
      have hdd : (o'.ps[k]).d = (o.ps[k]).d := by
        have e : (o'.ps.map SV.d)[k]? = (o.ps.map SV.d)[k]? := by rw [HPS.out]
        rw [List.getElem?_map, List.getElem?_map, List.getElem?_eq_getElem hlt, List.getElem?_eq_getElem hlt'] at e
        exact Option.some.inj e
      have hlim := HM.out _ (List.getElem_mem hlt)
      have hc0 := hc 0 _ rfl
      have hc1 := hc 1 _ rfl
      have hc2 := hc 2 _ rfl
      have hc3 := hc 3 _ rfl
      have hc4 := hc 4 _ rfl
      have hc5 := hc 5 _ rfl
      have hd0 := hd 0 _ rfl
      have hd1 := hd 1 _ rfl
      have hd2 := hd 2 _ rfl
      have hd3 := hd 3 _ rfl
      have hd4 := hd 4 _ rfl
      have hd5 := hd 5 _ rfl
      simp only [Nat.add_zero] at hc0 hd0
      clear hc hd hb
      have x0 := HX2.out.cell 0
      simp only [List.getElem?_toArray, List.getElem?_cons_zero, List.getElem?_cons_succ] at x0
      have y0 := HY2.out.cell 0
      simp only [List.getElem?_toArray, List.getElem?_cons_zero, List.getElem?_cons_succ] at y0
      rw [hA1] at x0
      rw [hA2] at y0
      clear hA1 hA2
      generalize o'.ps[k] = q at *
      generalize o.ps[k] = p at *
      obtain ⟨qn, qk, qa, qA, qc, qz, qs, qF, qfc, qf⟩ := q
      obtain ⟨pn, pk, pa, pA, pc, pz, psz, pF, pfc, pf⟩ := p
      simp only [SV.d, SD.mk.injEq] at hdd
      obtain ⟨rfl, rfl, rfl, rfl, rfl, rfl⟩ := hdd
      simp only at hc0 hc1 hc2 hc3 hc4 hc5 hd0 hd1 hd2 hd3 hd4 hd5 hlim
      have hxl := HX2.out.lt
      have hyl := HY2.out.lt
      obtain ⟨hlim1, hlim2⟩ := hlim
      have HLM := hide (And.intro hlim1 hlim2)
      go_wp2_with fail
      have Z0 : wr.cell? ⟨w.heap.size, 0, none⟩ = some (.slice (some ⟨b1, o1, none⟩) o.ps.length o.c) ∧ wr.cell? ⟨Y, 0, none⟩ = some (.slice (some ⟨b2, o2, none⟩) o.ps.length o'.c) ∧ wr.cell? ⟨b1, o1 + k * 6, none⟩ = some (.string qn) ∧ wr.cell? ⟨b1, o1 + k * 6 + 1, none⟩ = some (.int .i64 qk) ∧ wr.cell? ⟨b1, o1 + k * 6 + 2, none⟩ = some (.int .i64 qa) ∧ wr.cell? ⟨b1, o1 + k * 6 + 3, none⟩ = some (.slice pA qz.length pc) ∧ wr.cell? ⟨b1, o1 + k * 6 + 4, none⟩ = some (.int .i64 qs) ∧ wr.cell? ⟨b1, o1 + k * 6 + 5, none⟩ = some (.slice pF qf.length pfc) ∧ wr.cell? ⟨b2, o2 + k * 6, none⟩ = some (.string qn) ∧ wr.cell? ⟨b2, o2 + k * 6 + 1, none⟩ = some (.int .i64 qk) ∧ wr.cell? ⟨b2, o2 + k * 6 + 2, none⟩ = some (.int .i64 qa) ∧ wr.cell? ⟨b2, o2 + k * 6 + 3, none⟩ = some (.slice qA qz.length qc) ∧ wr.cell? ⟨b2, o2 + k * 6 + 4, none⟩ = some (.int .i64 qs) ∧ wr.cell? ⟨b2, o2 + k * 6 + 5, none⟩ = some (.slice qF qf.length qfc) := ⟨x0, y0, hc0, hc1, hc2, hc3, hc4, hc5, hd0, hd1, hd2, hd3, hd4, hd5⟩
      refine Reg.startT (fun W => W.cell? ⟨w.heap.size, 0, none⟩ = some (.slice (some ⟨b1, o1, none⟩) o.ps.length o.c) ∧ W.cell? ⟨Y, 0, none⟩ = some (.slice (some ⟨b2, o2, none⟩) o.ps.length o'.c) ∧ W.cell? ⟨b1, o1 + k * 6, none⟩ = some (.string qn) ∧ W.cell? ⟨b1, o1 + k * 6 + 1, none⟩ = some (.int .i64 qk) ∧ W.cell? ⟨b1, o1 + k * 6 + 2, none⟩ = some (.int .i64 qa) ∧ W.cell? ⟨b1, o1 + k * 6 + 3, none⟩ = some (.slice pA qz.length pc) ∧ W.cell? ⟨b1, o1 + k * 6 + 4, none⟩ = some (.int .i64 qs) ∧ W.cell? ⟨b1, o1 + k * 6 + 5, none⟩ = some (.slice pF qf.length pfc) ∧ W.cell? ⟨b2, o2 + k * 6, none⟩ = some (.string qn) ∧ W.cell? ⟨b2, o2 + k * 6 + 1, none⟩ = some (.int .i64 qk) ∧ W.cell? ⟨b2, o2 + k * 6 + 2, none⟩ = some (.int .i64 qa) ∧ W.cell? ⟨b2, o2 + k * 6 + 3, none⟩ = some (.slice qA qz.length qc) ∧ W.cell? ⟨b2, o2 + k * 6 + 4, none⟩ = some (.int .i64 qs) ∧ W.cell? ⟨b2, o2 + k * 6 + 5, none⟩ = some (.slice qF qf.length qfc)) (fun _ => false) (by kernel_rfl) ?_
      have hHeld : wr.drew.cell? ⟨w.heap.size, 0, none⟩ = some (.slice (some ⟨b1, o1, none⟩) o.ps.length o.c) ∧ wr.drew.cell? ⟨Y, 0, none⟩ = some (.slice (some ⟨b2, o2, none⟩) o.ps.length o'.c) ∧ wr.drew.cell? ⟨b1, o1 + k * 6, none⟩ = some (.string qn) ∧ wr.drew.cell? ⟨b1, o1 + k * 6 + 1, none⟩ = some (.int .i64 qk) ∧ wr.drew.cell? ⟨b1, o1 + k * 6 + 2, none⟩ = some (.int .i64 qa) ∧ wr.drew.cell? ⟨b1, o1 + k * 6 + 3, none⟩ = some (.slice pA qz.length pc) ∧ wr.drew.cell? ⟨b1, o1 + k * 6 + 4, none⟩ = some (.int .i64 qs) ∧ wr.drew.cell? ⟨b1, o1 + k * 6 + 5, none⟩ = some (.slice pF qf.length pfc) ∧ wr.drew.cell? ⟨b2, o2 + k * 6, none⟩ = some (.string qn) ∧ wr.drew.cell? ⟨b2, o2 + k * 6 + 1, none⟩ = some (.int .i64 qk) ∧ wr.drew.cell? ⟨b2, o2 + k * 6 + 2, none⟩ = some (.int .i64 qa) ∧ wr.drew.cell? ⟨b2, o2 + k * 6 + 3, none⟩ = some (.slice qA qz.length qc) ∧ wr.drew.cell? ⟨b2, o2 + k * 6 + 4, none⟩ = some (.int .i64 qs) ∧ wr.drew.cell? ⟨b2, o2 + k * 6 + 5, none⟩ = some (.slice qF qf.length qfc) := Z0
      clear Z0 x0 y0 hc0 hc1 hc2 hc3 hc4 hc5 hd0 hd1 hd2 hd3 hd4 hd5
      refine Reg.takeT (i := 0) (v := ?_) rfl (by kernel_rfl) (by kernel_rfl) (by kernel_rfl) (by kernel_rfl) (fun _ _ _ h => h) (Or.inl ⟨by rfl, ?_⟩) (by assumption) ?_
      rotate_left 1
      focus (intro w hSw; (try dsimp only at hSw); go_simp; (try with_reducible rfl))
      try simp only [List.getElem_toArray, List.getElem_cons_succ, List.getElem_cons_zero, Act.put, List.setIfInBounds_toArray, List.set_cons_zero, List.set_cons_succ]
      refine Reg.takeT (i := 1) (v := ?_) rfl (by kernel_rfl) (by kernel_rfl) (by kernel_rfl) (by kernel_rfl) (fun _ _ _ h => h) (Or.inl ⟨by rfl, ?_⟩) (by assumption) ?_
      rotate_left 1
      focus (intro w hSw; (try dsimp only at hSw); go_simp; (try with_reducible rfl))
      try simp only [List.getElem_toArray, List.getElem_cons_succ, List.getElem_cons_zero, Act.put, List.setIfInBounds_toArray, List.set_cons_zero, List.set_cons_succ]
      refine Reg.takeT (i := 2) (v := ?_) rfl (by kernel_rfl) (by kernel_rfl) (by kernel_rfl) (by kernel_rfl) (fun _ _ _ h => h) (Or.inl ⟨by rfl, ?_⟩) (by assumption) ?_
      rotate_left 1
      focus (intro w hSw; (try dsimp only at hSw); go_simp; (try with_reducible rfl))
      try simp only [List.getElem_toArray, List.getElem_cons_succ, List.getElem_cons_zero, Act.put, List.setIfInBounds_toArray, List.set_cons_zero, List.set_cons_succ]
      refine Reg.takeT (i := 3) (v := ?_) rfl (by kernel_rfl) (by kernel_rfl) (by kernel_rfl) (by kernel_rfl) (fun _ _ _ h => h) (Or.inl ⟨by rfl, ?_⟩) (by assumption) ?_
      rotate_left 1
      focus (intro w hSw; (try dsimp only at hSw); go_simp; (try with_reducible rfl))
      try simp only [List.getElem_toArray, List.getElem_cons_succ, List.getElem_cons_zero, Act.put, List.setIfInBounds_toArray, List.set_cons_zero, List.set_cons_succ]
      refine Reg.takeT (i := 4) (v := ?_) rfl (by kernel_rfl) (by kernel_rfl) (by kernel_rfl) (by kernel_rfl) (fun _ _ _ h => h) (Or.inl ⟨by rfl, ?_⟩) (by assumption) ?_
      rotate_left 1
      focus (intro w hSw; (try dsimp only at hSw); go_simp; (try with_reducible rfl))
      try simp only [List.getElem_toArray, List.getElem_cons_succ, List.getElem_cons_zero, Act.put, List.setIfInBounds_toArray, List.set_cons_zero, List.set_cons_succ]
      refine Reg.takeT (i := 5) (v := ?_) rfl (by kernel_rfl) (by kernel_rfl) (by kernel_rfl) (by kernel_rfl) (fun _ _ _ h => h) (Or.inl ⟨by rfl, ?_⟩) (by assumption) ?_
      rotate_left 1
      focus (intro w hSw; (try dsimp only at hSw); go_simp; (try with_reducible rfl))
      try simp only [List.getElem_toArray, List.getElem_cons_succ, List.getElem_cons_zero, Act.put, List.setIfInBounds_toArray, List.set_cons_zero, List.set_cons_succ]
      refine Reg.takeT (i := 6) (v := ?_) rfl (by kernel_rfl) (by kernel_rfl) (by kernel_rfl) (by kernel_rfl) (fun _ _ _ h => h) (Or.inl ⟨by rfl, ?_⟩) (by assumption) ?_
      rotate_left 1
      focus (intro w hSw; (try dsimp only at hSw); go_simp; (try with_reducible rfl))
      try simp only [List.getElem_toArray, List.getElem_cons_succ, List.getElem_cons_zero, Act.put, List.setIfInBounds_toArray, List.set_cons_zero, List.set_cons_succ]
      refine Reg.takeT (i := 7) (v := ?_) rfl (by kernel_rfl) (by kernel_rfl) (by kernel_rfl) (by kernel_rfl) (fun _ _ _ h => h) (Or.inl ⟨by rfl, ?_⟩) (by assumption) ?_
      rotate_left 1
      focus (intro w hSw; (try dsimp only at hSw); go_simp; (try with_reducible rfl))
      try simp only [List.getElem_toArray, List.getElem_cons_succ, List.getElem_cons_zero, Act.put, List.setIfInBounds_toArray, List.set_cons_zero, List.set_cons_succ]
      refine Reg.takeT (i := 8) (v := ?_) rfl (by kernel_rfl) (by kernel_rfl) (by kernel_rfl) (by kernel_rfl) (fun _ _ _ h => h) (Or.inl ⟨by rfl, ?_⟩) (by assumption) ?_
      rotate_left 1
      focus (intro w hSw; (try dsimp only at hSw); go_simp; (try with_reducible rfl))
      try simp only [List.getElem_toArray, List.getElem_cons_succ, List.getElem_cons_zero, Act.put, List.setIfInBounds_toArray, List.set_cons_zero, List.set_cons_succ]
      refine Reg.takeT (i := 9) (v := ?_) rfl (by kernel_rfl) (by kernel_rfl) (by kernel_rfl) (by kernel_rfl) (fun _ _ _ h => h) (Or.inl ⟨by rfl, ?_⟩) (by assumption) ?_
      rotate_left 1
      focus (intro w hSw; (try dsimp only at hSw); go_simp; (try with_reducible rfl))
      try simp only [List.getElem_toArray, List.getElem_cons_succ, List.getElem_cons_zero, Act.put, List.setIfInBounds_toArray, List.set_cons_zero, List.set_cons_succ]
      have bd : Below wr.heap.size wr wr.drew := below_dr (Below.refl _ _)
      have HBD := hide (HBI.out.trans (bd.mono HBI.out.size))
      have hwl : w.heap.size ≤ wr.drew.heap.size := Nat.le_trans (Nat.le_of_lt hxl) (Nat.le_refl _)
      refine Reg.oneT (i := 10) rfl (by kernel_rfl) (fun K hK => ?_)
      go_simp
      refine (sameSection_same ⟨qn, qk, qa, pA, pc, qz, qs, pF, pfc, qf⟩ qA qc qF qfc wr.drew ((HP.out.below (bd.mono (Nat.le_of_lt hxl))).more hwl) ((HP'.out.1.below (bd.mono (Nat.le_of_lt hxl))).more hwl) ((HP'.out.2.below (bd.mono (Nat.le_of_lt hxl))).more hwl) HLM.out).mono ?_
      rintro e w4 ⟨rfl, b4⟩
      have HB4 := hide (HBD.out.trans (b4.mono HBD.out.size))
      obtain ⟨a1, a2, a3, a4, a5, a6, a7, a8, a9, a10, a11, a12, a13, a14⟩ := hHeld
      refine hK.out _ _ ⟨(b4.cell (World.block_lt_of_cell? _ _ a1)).trans a1, (b4.cell (World.block_lt_of_cell? _ _ a2)).trans a2, (b4.cell (World.block_lt_of_cell? _ _ a3)).trans a3, (b4.cell (World.block_lt_of_cell? _ _ a4)).trans a4, (b4.cell (World.block_lt_of_cell? _ _ a5)).trans a5, (b4.cell (World.block_lt_of_cell? _ _ a6)).trans a6, (b4.cell (World.block_lt_of_cell? _ _ a7)).trans a7, (b4.cell (World.block_lt_of_cell? _ _ a8)).trans a8, (b4.cell (World.block_lt_of_cell? _ _ a9)).trans a9, (b4.cell (World.block_lt_of_cell? _ _ a10)).trans a10, (b4.cell (World.block_lt_of_cell? _ _ a11)).trans a11, (b4.cell (World.block_lt_of_cell? _ _ a12)).trans a12, (b4.cell (World.block_lt_of_cell? _ _ a13)).trans a13, (b4.cell (World.block_lt_of_cell? _ _ a14)).trans a14⟩ ?_
      have hHeld : w4.cell? ⟨w.heap.size, 0, none⟩ = some (.slice (some ⟨b1, o1, none⟩) o.ps.length o.c) ∧ w4.cell? ⟨Y, 0, none⟩ = some (.slice (some ⟨b2, o2, none⟩) o.ps.length o'.c) ∧ w4.cell? ⟨b1, o1 + k * 6, none⟩ = some (.string qn) ∧ w4.cell? ⟨b1, o1 + k * 6 + 1, none⟩ = some (.int .i64 qk) ∧ w4.cell? ⟨b1, o1 + k * 6 + 2, none⟩ = some (.int .i64 qa) ∧ w4.cell? ⟨b1, o1 + k * 6 + 3, none⟩ = some (.slice pA qz.length pc) ∧ w4.cell? ⟨b1, o1 + k * 6 + 4, none⟩ = some (.int .i64 qs) ∧ w4.cell? ⟨b1, o1 + k * 6 + 5, none⟩ = some (.slice pF qf.length pfc) ∧ w4.cell? ⟨b2, o2 + k * 6, none⟩ = some (.string qn) ∧ w4.cell? ⟨b2, o2 + k * 6 + 1, none⟩ = some (.int .i64 qk) ∧ w4.cell? ⟨b2, o2 + k * 6 + 2, none⟩ = some (.int .i64 qa) ∧ w4.cell? ⟨b2, o2 + k * 6 + 3, none⟩ = some (.slice qA qz.length qc) ∧ w4.cell? ⟨b2, o2 + k * 6 + 4, none⟩ = some (.int .i64 qs) ∧ w4.cell? ⟨b2, o2 + k * 6 + 5, none⟩ = some (.slice qF qf.length qfc) := ⟨(b4.cell (World.block_lt_of_cell? _ _ a1)).trans a1, (b4.cell (World.block_lt_of_cell? _ _ a2)).trans a2, (b4.cell (World.block_lt_of_cell? _ _ a3)).trans a3, (b4.cell (World.block_lt_of_cell? _ _ a4)).trans a4, (b4.cell (World.block_lt_of_cell? _ _ a5)).trans a5, (b4.cell (World.block_lt_of_cell? _ _ a6)).trans a6, (b4.cell (World.block_lt_of_cell? _ _ a7)).trans a7, (b4.cell (World.block_lt_of_cell? _ _ a8)).trans a8, (b4.cell (World.block_lt_of_cell? _ _ a9)).trans a9, (b4.cell (World.block_lt_of_cell? _ _ a10)).trans a10, (b4.cell (World.block_lt_of_cell? _ _ a11)).trans a11, (b4.cell (World.block_lt_of_cell? _ _ a12)).trans a12, (b4.cell (World.block_lt_of_cell? _ _ a13)).trans a13, (b4.cell (World.block_lt_of_cell? _ _ a14)).trans a14⟩
      clear hK K a1 a2 a3 a4 a5 a6 a7 a8 a9 a10 a11 a12 a13 a14 b4 bd
      try simp only [List.getElem_toArray, List.getElem_cons_succ, List.getElem_cons_zero, Act.put, List.setIfInBounds_toArray, List.set_cons_zero, List.set_cons_succ]
      refine Reg.takeT (i := 11) (v := ?_) rfl (by kernel_rfl) (by kernel_rfl) (by kernel_rfl) (by kernel_rfl) (fun _ _ _ h => h) (Or.inl ⟨by rfl, ?_⟩) (by assumption) ?_
      rotate_left 1
      focus (intro w hSw; (try dsimp only at hSw); go_simp; (try with_reducible rfl))
      try simp only [List.getElem_toArray, List.getElem_cons_succ, List.getElem_cons_zero, Act.put, List.setIfInBounds_toArray, List.set_cons_zero, List.set_cons_succ]
      clear hHeld
      refine Reg.doneT (by kernel_rfl) ?_ _
      go_wp2_with fail
      refine ⟨⟨k + 1, by omega, by go_num, HB4.out⟩, by simp [intOf]; omega⟩
    · have hke : k = o.ps.length := by omega
      have x0 := HX2.out.cell 0
      simp only [List.getElem?_toArray, List.getElem?_cons_zero, List.getElem?_cons_succ] at x0
      have hxl := HX2.out.lt
      subst hke
      have HBS := hide (HB.out.trans (hb.mono HB.out.size))
      clear hb
      have hwy : Below w1.heap.size w1 wr := HBI.out
      clear hwy
      go_wp2_with fail
      clear x0 hxl
      have HXR := hide HX2.out
      have HYR := hide HY2.out
      have HR2 := hide (HR.out.2.below (HBI.out.mono HB.out.size))
      have HR2' := hide (show Rd wr w.heap.size o'.Y (cellsOf symbolC o.ys) from by
        have h := HR'.out.2.below (HBI.out.mono HB.out.size)
        rw [HYS.out] at h
        exact h)
      have hwl : w.heap.size ≤ wr.heap.size := HBS.out.size
      go_loopw [6] (fun i wi => ∃ (k : Nat), k ≤ o.ys.length ∧ i = .int .i64 k ∧ Below wr.heap.size wr wi) (fun i _ => o.ys.length - (intOf i).toNat)
      case atStart => exact ⟨0, Nat.zero_le _, rfl, Below.refl _ _⟩
      case round =>
        obtain ⟨k, hk2, rfl, hb⟩ := hrel
        have HBJ := hide hb
        have HX3 := hide (HXR.out.call hb)
        have HY3 := hide (HYR.out.call hb)
        by_cases hlk : k < o.ys.length
        · obtain ⟨b1, o1, hA1, hb1, hc⟩ := (HR2.out.below (hb.mono hwl)).row symbolC_len (by decide) hlk
          obtain ⟨b2, o2, hA2, hb2, hd⟩ := (HR2'.out.below (hb.mono hwl)).row symbolC_len (by decide) hlk
          have hc0 := hc 0 _ rfl
          have hc1 := hc 1 _ rfl
          have hc2 := hc 2 _ rfl
          have hc3 := hc 3 _ rfl
          have hd0 := hd 0 _ rfl
          have hd1 := hd 1 _ rfl
          have hd2 := hd 2 _ rfl
          have hd3 := hd 3 _ rfl
          simp only [Nat.add_zero] at hc0 hd0
          clear hc hd hb
          have x1 := HX3.out.cell 1
          simp only [List.getElem?_toArray, List.getElem?_cons_zero, List.getElem?_cons_succ] at x1
          have y1 := HY3.out.cell 1
          simp only [List.getElem?_toArray, List.getElem?_cons_zero, List.getElem?_cons_succ] at y1
          rw [hA1] at x1
          rw [hA2] at y1
          have hxl := HX3.out.lt
          have hyl := HY3.out.lt
          clear hA1 hA2
          generalize o.ys[k] = z at *
          obtain ⟨z1, z2, z3, z4⟩ := z
          simp only at hc0 hc1 hc2 hc3 hd0 hd1 hd2 hd3
          go_wp2_with fail
          go_quiet (fail)
          go_wp2_with fail
          refine ⟨⟨k + 1, by omega, by go_num, Kit.Below.drewN HBJ.out _⟩, by first | (simp [intOf]; done) | (simp [intOf]; omega)⟩
        · have hke : k = o.ys.length := by omega
          subst hke
          have x1 := HX3.out.cell 1
          simp only [List.getElem?_toArray, List.getElem?_cons_zero, List.getElem?_cons_succ] at x1
          have hxl := HX3.out.lt
          clear hb
          go_wp2_with fail
          go_ret
          exact ⟨rfl, HBS.out.trans (HBJ.out.mono HBS.out.size)⟩
end Go.Proofs.YtmglgjchemecjaaGreat.CSameO
