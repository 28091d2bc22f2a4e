/- The draw of landmarks and a place. -/
import Derived.Test.YtjnnjgogpapbhaaDoorDMarks
import Derived.Test.YtjnnjgogpapbhaaDoorBReg
namespace Go.Proofs.YtjnnjgogpapbhaaDoor.DPlace
set_option maxRecDepth 200000
open Go.ChangeShapes Go.WideShapes Go.ChangeAt Go.RowKit Kit CLandmarks DPick DVar DName DMarks
section
variable {P : Program} {ops : Array Oper} {Q : Exit → Act → World → Prop} {md : Region.Mode} {S : World → Prop} {T : Nat → Bool}
/-- Three may come up. -/
theorem threeT {i j l : Nat} {oi oj ol : Oper} {fuel : Nat} {listed : Array Bool} {a : Act} {w : World} (hoi : ops[i]? = some oi) (hoj : ops[j]? = some oj) (hol : ops[l]? = some ol) (hr : Region.ready md ops listed = [i, j, l])
    (h : ∀ K : Act → World → Prop, Shut (∀ a w, S w → Reg.wpAnyT P md ops Q S T fuel (listed.setIfInBounds i true) a w → K a w) → if Region.wanted oi (yielded ops a.tmps) = true then Oper.wp P oi a w K Q else K (a.put oi.dst undef) w)
    (h' : ∀ K : Act → World → Prop, Shut (∀ a w, S w → Reg.wpAnyT P md ops Q S T fuel (listed.setIfInBounds j true) a w → K a w) → if Region.wanted oj (yielded ops a.tmps) = true then Oper.wp P oj a w K Q else K (a.put oj.dst undef) w)
    (h'' : ∀ K : Act → World → Prop, Shut (∀ a w, S w → Reg.wpAnyT P md ops Q S T fuel (listed.setIfInBounds l true) a w → K a w) → if Region.wanted ol (yielded ops a.tmps) = true then Oper.wp P ol a w K Q else K (a.put ol.dst undef) w) :
    Reg.wpAnyT P md ops Q S T (fuel + 1) listed a w :=
  ⟨fun h0 => (by rw [hr] at h0; cases h0), fun k hk => by
    rw [hr] at hk
    simp only [List.mem_cons, List.not_mem_nil, or_false] at hk
    rcases hk with rfl | rfl | rfl
    · exact wpOp_step hoi (fun K' hK => h K' (fun a w hS hW => hK a w ⟨fun _ => hS, hW⟩))
    · exact wpOp_step hoj (fun K' hK => h' K' (fun a w hS hW => hK a w ⟨fun _ => hS, hW⟩))
    · exact wpOp_step hol (fun K' hK => h'' K' (fun a w hS hW => hK a w ⟨fun _ => hS, hW⟩))⟩
end
def L4 (x : Int) : Array Value := #[.int .i64 x, .int .i64 99999, .int .i64 100000, .int .i64 (-100000)]
def L5 : Array Value := #[.int .i64 0, .int .i64 0, .int .i64 0, .int .i64 0, .int .i64 0, .int .i64 1, .int .i64 2, .int .i64 3]
def kV (v : Int) : Int := if v < 5 then 0 else v - 4
def pV (x k : Int) : Int := if k = 0 then x else if k = 1 then 99999 else if k = 2 then 100000 else -100000
theorem L4_at (x k : Int) (h0 : 0 ≤ k) (h1 : k < 4) : (L4 x)[k.toNat]? = some (.int .i64 (pV x k)) := by
  have h : k = 0 ∨ k = 1 ∨ k = 2 ∨ k = 3 := by omega
  rcases h with rfl | rfl | rfl | rfl <;> rfl
theorem L5_at (v : Int) (h0 : 0 ≤ v) (h1 : v < 8) : L5[v.toNat]? = some (.int .i64 (kV v)) := by
  have h : v = 0 ∨ v = 1 ∨ v = 2 ∨ v = 3 ∨ v = 4 ∨ v = 5 ∨ v = 6 ∨ v = 7 := by omega
  rcases h with rfl | rfl | rfl | rfl | rfl | rfl | rfl | rfl <;> rfl
theorem kV_bd {v : Int} (h0 : 0 ≤ v) (h1 : v < 8) : 0 ≤ kV v ∧ kV v < 4 := by unfold kV; split <;> omega
theorem pV_bd {x k : Int} (h0 : -3 ≤ x) (h1 : x ≤ 50) : -100000 ≤ pV x k ∧ pV x k ≤ 100000 := by
  unfold pV
  split
  · omega
  · split
    · omega
    · split <;> omega
/-- What stands in the region: the landmarks, the reader, the two literals where they are laid. -/
structure DS (w0 : World) (B R base : Nat) (A : Option Addr) (ys : List CLandmarks.D) (c : Nat) (V : World) (N : Int) (l4 : Option (Nat × Int)) (l5 : Option Nat) : Prop where
  T : Tp w0 V B R N
  O : V.ownsRow base 40 2 (.slice A ys.length c) ys.length (cellsOf landmarkC ys)
  h4 : ∀ b x, l4 = some (b, x) → R < b ∧ Box V b 3 (L4 x)
  h5 : ∀ b, l5 = some b → R < b ∧ Box V b 3 L5
  hR : R < base
section
variable {w0 V : World} {B R base : Nat} {A : Option Addr} {ys : List CLandmarks.D} {c : Nat} {N : Int} {l4 : Option (Nat × Int)} {l5 : Option Nat}
theorem DS.pick (h : DS w0 B R base A ys c V N l4 l5) (hN : N ≤ 1000) (n : Int) (hn : 1 ≤ n) (hn' : n ≤ 1000) :
    Calls Tryd.prog 42 #[.pointer (some ⟨R, 0, none⟩), .int .i64 n] V fun e V' => ∃ x : Int, e = .returned (.int .i64 x) ∧ 0 ≤ x ∧ x < n ∧ DS w0 B R base A ys c V' (N + 1) l4 l5 := by
  refine (pick_tp h.T (by omega) n hn (by omega)).mono ?_
  rintro e V' ⟨x, he, x0, x1, T, g⟩
  refine ⟨x, he, x0, x1, T, own_pick h.O g h.hR, ?_, ?_, h.hR⟩
  · intro b y hb
    obtain ⟨h1, h2⟩ := h.h4 b y hb
    exact ⟨h1, h2.grown g (fun k hk => by injection hk with hk; omega)⟩
  · intro b hb
    obtain ⟨h1, h2⟩ := h.h5 b hb
    exact ⟨h1, h2.grown g (fun k hk => by injection hk with hk; omega)⟩
theorem DS.lay4 (h : DS w0 B R base A ys c V N none l5) (x : Int) : DS w0 B R base A ys c (V.alloc (.cells (L4 x) 3)) N (some (V.heap.size, x)) l5 := by
  refine ⟨h.T.alloc _, h.O.alloc _, ?_, ?_, h.hR⟩
  · intro b y hb
    injection hb with hb
    injection hb with hb1 hb2
    subst hb1 hb2
    exact ⟨h.T.lt, Box.new _ _ _⟩
  · intro b hb
    obtain ⟨h1, h2⟩ := h.h5 b hb
    exact ⟨h1, h2.alloc _⟩
theorem DS.lay5 (h : DS w0 B R base A ys c V N l4 none) : DS w0 B R base A ys c (V.alloc (.cells L5 3)) N l4 (some V.heap.size) := by
  refine ⟨h.T.alloc _, h.O.alloc _, ?_, ?_, h.hR⟩
  · intro b y hb
    obtain ⟨h1, h2⟩ := h.h4 b y hb
    exact ⟨h1, h2.alloc _⟩
  · intro b hb
    injection hb with hb
    subst hb
    exact ⟨h.T.lt, Box.new _ _ _⟩
theorem DS.ld4 {b : Nat} {x : Int} (h : DS w0 B R base A ys c V N (some (b, x)) l5) (k : Int) (h0 : 0 ≤ k) (h1 : k < 4) : V.cell? ⟨b, k.toNat, none⟩ = some (.int .i64 (pV x k)) := by
  rw [(h.h4 b x rfl).2.cell, L4_at x k h0 h1]
theorem DS.ld5 {b : Nat} (h : DS w0 B R base A ys c V N l4 (some b)) (v : Int) (h0 : 0 ≤ v) (h1 : v < 8) : V.cell? ⟨b, v.toNat, none⟩ = some (.int .i64 (kV v)) := by
  rw [(h.h5 b rfl).2.cell, L5_at v h0 h1]
end
set_option maxHeartbeats 8000000 in
theorem draw_any {A : Option Addr} {zs : List Int} {c : Nat} {w : World} (hr : Rd w w.heap.size A (ints .u8 zs)) (hz : InR 0 255 zs) (hc : zs.length ≤ c) (hcm : c ≤ maxLen) :
    Calls Tryd.prog 17 #[.slice A zs.length c] w (fun e w' => ∃ (A' : Option Addr) (ys : List CLandmarks.D) (c' : Nat) (a : Int), e = .returned (.tuple #[.slice A' ys.length c', .int .i64 a]) ∧ ys.length ≤ 4 ∧ (∀ z ∈ ys, SmallM z) ∧ -100000 ≤ a ∧ a ≤ 100000 ∧ w'.ownsRow w.heap.size 40 2 (.slice A' ys.length c') ys.length (cellsOf landmarkC ys) ∧ Below w.heap.size w w') := by
  have HO := hide (open_any A zs c w hr hz hc hcm)
  clear hr hz hc hcm
  go_enter Tryd.func17, Tryd.ntmps17
  go_wp2_with fail
  refine HO.out.mono ?_
  rintro e w1 ⟨R, rfl, T, b1⟩
  have T0 := Tp.start T
  have hRl := T.1
  have HB := hide b1
  clear T b1
  go_wp2_with fail
  refine (marks_any T0 (by omega) (by omega)).mono ?_
  rintro e w2 ⟨A', ys, c', rfl, y0, y1, o2, T2⟩
  have HY := hide y1
  have hR2 := T0.lt
  have HW := hide (And.intro HB.out (And.intro hRl y0))
  have D0 : DS w1 w.heap.size R w1.heap.size A' ys c' w2.drew _ none none := ⟨T2.drew, own_drawn o2 rfl, fun _ _ h => (by cases h), fun _ h => (by cases h), hR2⟩
  clear o2 HO T0 y1 T2 HB hRl y0
  go_wp2_with fail
  refine Reg.startT (fun _ => True) (fun _ => false) (by kernel_rfl) ?_
  have hHeld : True := trivial
  have D := hide D0
  clear D0
  generalize w2.drew = V at *
  refine Reg.takeT (i := 0) (v := ?_) rfl (by kernel_rfl) (by kernel_rfl) (by kernel_rfl) (by kernel_rfl) (fun _ _ _ h => h) (Or.inl ⟨by rfl, ?_⟩) (by assumption) ?_
  rotate_left 1
  focus (intro w hSw; (try dsimp only at hSw); go_simp; (try with_reducible rfl))
  try simp only [List.getElem_toArray, List.getElem_cons_succ, List.getElem_cons_zero, Act.put, List.setIfInBounds_toArray, List.set_cons_zero, List.set_cons_succ]
  refine Reg.takeT (i := 1) (v := ?_) rfl (by kernel_rfl) (by kernel_rfl) (by kernel_rfl) (by kernel_rfl) (fun _ _ _ h => h) (Or.inl ⟨by rfl, ?_⟩) (by assumption) ?_
  rotate_left 1
  focus (intro w hSw; (try dsimp only at hSw); go_simp; (try with_reducible rfl))
  try simp only [List.getElem_toArray, List.getElem_cons_succ, List.getElem_cons_zero, Act.put, List.setIfInBounds_toArray, List.set_cons_zero, List.set_cons_succ]
  refine Reg.takeT (i := 6) (v := ?_) rfl (by kernel_rfl) (by kernel_rfl) (by kernel_rfl) (by kernel_rfl) (fun _ _ _ h => h) (Or.inl ⟨by rfl, ?_⟩) (by assumption) ?_
  rotate_left 1
  focus (intro w hSw; (try dsimp only at hSw); go_simp; (try with_reducible rfl))
  try simp only [List.getElem_toArray, List.getElem_cons_succ, List.getElem_cons_zero, Act.put, List.setIfInBounds_toArray, List.set_cons_zero, List.set_cons_succ]
  refine Reg.twoT (i := 2) (j := 5) rfl rfl (by kernel_rfl) (fun K hK => ?_) (fun K hK => ?_)
  · go_simp
    refine (D.out.pick (by omega) 50 (by omega) (by omega)).mono ?_
    rintro e V1 ⟨p, rfl, p0, p1, D'⟩
    refine hK.out _ _ trivial ?_
    clear hK K
    try simp only [List.getElem_toArray, List.getElem_cons_succ, List.getElem_cons_zero, Act.put, List.setIfInBounds_toArray, List.set_cons_zero, List.set_cons_succ]
    clear D
    have D := hide D'
    clear D'
    have hwr : IntKind.i64.wrap (p - 3) = p - 3 := IntWalk.i64_in _ (by omega)
    refine Reg.takeT (i := 3) (v := ?_) rfl (by kernel_rfl) (by kernel_rfl) (by kernel_rfl) (by kernel_rfl) (fun _ _ _ h => h) (Or.inl ⟨by rfl, ?_⟩) (by assumption) ?_
    rotate_left 1
    focus (intro w hSw; (try dsimp only at hSw); go_simp; (try with_reducible rfl))
    try simp only [List.getElem_toArray, List.getElem_cons_succ, List.getElem_cons_zero, Act.put, List.setIfInBounds_toArray, List.set_cons_zero, List.set_cons_succ]
    refine threeT (i := 4) (j := 5) (l := 7) rfl rfl rfl (by kernel_rfl) (fun K hK => ?_) (fun K hK => ?_) (fun K hK => ?_)
    · have D' := D.out.lay4 (p - 3)
      go_simp
      refine hK.out _ _ trivial ?_
      clear hK K
      try simp only [List.getElem_toArray, List.getElem_cons_succ, List.getElem_cons_zero, Act.put, List.setIfInBounds_toArray, List.set_cons_zero, List.set_cons_succ]
      clear D
      simp only [L4] at D'
      have D := hide D'
      clear D'
      generalize V1.alloc (.cells #[.int .i64 (p - 3), .int .i64 99999, .int .i64 100000, .int .i64 (-100000)] 3) = V2 at *
      refine Reg.twoT (i := 5) (j := 7) rfl rfl (by kernel_rfl) (fun K hK => ?_) (fun K hK => ?_)
      · have D' := D.out.lay5
        go_simp
        refine hK.out _ _ trivial ?_
        clear hK K
        try simp only [List.getElem_toArray, List.getElem_cons_succ, List.getElem_cons_zero, Act.put, List.setIfInBounds_toArray, List.set_cons_zero, List.set_cons_succ]
        clear D
        simp only [L5] at D'
        have D := hide D'
        clear D'
        generalize V2.alloc (.cells #[.int .i64 0, .int .i64 0, .int .i64 0, .int .i64 0, .int .i64 0, .int .i64 1, .int .i64 2, .int .i64 3] 3) = V3 at *
        refine Reg.oneT (i := 7) rfl (by kernel_rfl) (fun K hK => ?_)
        go_simp
        refine (D.out.pick (by omega) 8 (by omega) (by omega)).mono ?_
        rintro e V4 ⟨v, rfl, v0, v1, D'⟩
        refine hK.out _ _ trivial ?_
        clear hK K
        try simp only [List.getElem_toArray, List.getElem_cons_succ, List.getElem_cons_zero, Act.put, List.setIfInBounds_toArray, List.set_cons_zero, List.set_cons_succ]
        clear D
        have D := hide D'
        clear D'
        have hk := kV_bd v0 v1
        refine Reg.takeT (i := 8) (v := ?_) rfl (by kernel_rfl) (by kernel_rfl) (by kernel_rfl) (by kernel_rfl) (fun _ _ _ h => h) (Or.inl ⟨by rfl, ?_⟩) (by assumption) ?_
        rotate_left 1
        focus (intro w hSw; (try dsimp only at hSw); go_simp; (try with_reducible rfl))
        try simp only [List.getElem_toArray, List.getElem_cons_succ, List.getElem_cons_zero, Act.put, List.setIfInBounds_toArray, List.set_cons_zero, List.set_cons_succ]
        refine Reg.takeT (i := 12) (v := ?_) rfl (by kernel_rfl) (by kernel_rfl) (by kernel_rfl) (by kernel_rfl) (fun _ _ _ h => h) (Or.inl ⟨by rfl, ?_⟩) (by assumption) ?_
        rotate_left 1
        focus (intro w hSw; (try dsimp only at hSw); go_simp; (try with_reducible rfl))
        try simp only [List.getElem_toArray, List.getElem_cons_succ, List.getElem_cons_zero, Act.put, List.setIfInBounds_toArray, List.set_cons_zero, List.set_cons_succ]
        refine Reg.oneT (i := 9) rfl (by kernel_rfl) (fun K hK => ?_)
        have q := D.out.ld5 v v0 v1
        go_simp
        refine hK.out _ _ trivial ?_
        clear hK K
        try simp only [List.getElem_toArray, List.getElem_cons_succ, List.getElem_cons_zero, Act.put, List.setIfInBounds_toArray, List.set_cons_zero, List.set_cons_succ]
        clear q
        refine Reg.takeT (i := 10) (v := ?_) rfl (by kernel_rfl) (by kernel_rfl) (by kernel_rfl) (by kernel_rfl) (fun _ _ _ h => h) (Or.inl ⟨by rfl, ?_⟩) (by assumption) ?_
        rotate_left 1
        focus (intro w hSw; (try dsimp only at hSw); go_simp; (try with_reducible rfl))
        try simp only [List.getElem_toArray, List.getElem_cons_succ, List.getElem_cons_zero, Act.put, List.setIfInBounds_toArray, List.set_cons_zero, List.set_cons_succ]
        refine Reg.oneT (i := 11) rfl (by kernel_rfl) (fun K hK => ?_)
        have q := D.out.ld4 (kV v) hk.1 hk.2
        go_simp
        refine hK.out _ _ trivial ?_
        clear hK K
        try simp only [List.getElem_toArray, List.getElem_cons_succ, List.getElem_cons_zero, Act.put, List.setIfInBounds_toArray, List.set_cons_zero, List.set_cons_succ]
        clear q
        refine Reg.takeT (i := 13) (v := ?_) rfl (by kernel_rfl) (by kernel_rfl) (by kernel_rfl) (by kernel_rfl) (fun _ _ _ h => h) (Or.inl ⟨by rfl, ?_⟩) (by assumption) ?_
        rotate_left 1
        focus (intro w hSw; (try dsimp only at hSw); go_simp; (try with_reducible rfl))
        try simp only [List.getElem_toArray, List.getElem_cons_succ, List.getElem_cons_zero, Act.put, List.setIfInBounds_toArray, List.set_cons_zero, List.set_cons_succ]
        refine Reg.doneT (by kernel_rfl) ?_ _
        clear hHeld
        go_wp2_with fail
        go_ret2
        have hb := pV_bd (x := p - 3) (k := kV v) (by omega) (by omega)
        exact ⟨A', ys, c', _, rfl, HW.out.2.2, HY.out, hb.1, hb.2, own_base D.out.O HW.out.1.size, HW.out.1.trans (D.out.T.below HW.out.1.size HW.out.2.1)⟩
      · go_simp
        refine (D.out.pick (by omega) 8 (by omega) (by omega)).mono ?_
        rintro e V3 ⟨v, rfl, v0, v1, D'⟩
        refine hK.out _ _ trivial ?_
        clear hK K
        try simp only [List.getElem_toArray, List.getElem_cons_succ, List.getElem_cons_zero, Act.put, List.setIfInBounds_toArray, List.set_cons_zero, List.set_cons_succ]
        clear D
        have D := hide D'
        clear D'
        have hk := kV_bd v0 v1
        refine Reg.takeT (i := 12) (v := ?_) rfl (by kernel_rfl) (by kernel_rfl) (by kernel_rfl) (by kernel_rfl) (fun _ _ _ h => h) (Or.inl ⟨by rfl, ?_⟩) (by assumption) ?_
        rotate_left 1
        focus (intro w hSw; (try dsimp only at hSw); go_simp; (try with_reducible rfl))
        try simp only [List.getElem_toArray, List.getElem_cons_succ, List.getElem_cons_zero, Act.put, List.setIfInBounds_toArray, List.set_cons_zero, List.set_cons_succ]
        refine Reg.oneT (i := 5) rfl (by kernel_rfl) (fun K hK => ?_)
        have D' := D.out.lay5
        go_simp
        refine hK.out _ _ trivial ?_
        clear hK K
        try simp only [List.getElem_toArray, List.getElem_cons_succ, List.getElem_cons_zero, Act.put, List.setIfInBounds_toArray, List.set_cons_zero, List.set_cons_succ]
        clear D
        simp only [L5] at D'
        have D := hide D'
        clear D'
        generalize V3.alloc (.cells #[.int .i64 0, .int .i64 0, .int .i64 0, .int .i64 0, .int .i64 0, .int .i64 1, .int .i64 2, .int .i64 3] 3) = V4 at *
        refine Reg.takeT (i := 8) (v := ?_) rfl (by kernel_rfl) (by kernel_rfl) (by kernel_rfl) (by kernel_rfl) (fun _ _ _ h => h) (Or.inl ⟨by rfl, ?_⟩) (by assumption) ?_
        rotate_left 1
        focus (intro w hSw; (try dsimp only at hSw); go_simp; (try with_reducible rfl))
        try simp only [List.getElem_toArray, List.getElem_cons_succ, List.getElem_cons_zero, Act.put, List.setIfInBounds_toArray, List.set_cons_zero, List.set_cons_succ]
        refine Reg.oneT (i := 9) rfl (by kernel_rfl) (fun K hK => ?_)
        have q := D.out.ld5 v v0 v1
        go_simp
        refine hK.out _ _ trivial ?_
        clear hK K
        try simp only [List.getElem_toArray, List.getElem_cons_succ, List.getElem_cons_zero, Act.put, List.setIfInBounds_toArray, List.set_cons_zero, List.set_cons_succ]
        clear q
        refine Reg.takeT (i := 10) (v := ?_) rfl (by kernel_rfl) (by kernel_rfl) (by kernel_rfl) (by kernel_rfl) (fun _ _ _ h => h) (Or.inl ⟨by rfl, ?_⟩) (by assumption) ?_
        rotate_left 1
        focus (intro w hSw; (try dsimp only at hSw); go_simp; (try with_reducible rfl))
        try simp only [List.getElem_toArray, List.getElem_cons_succ, List.getElem_cons_zero, Act.put, List.setIfInBounds_toArray, List.set_cons_zero, List.set_cons_succ]
        refine Reg.oneT (i := 11) rfl (by kernel_rfl) (fun K hK => ?_)
        have q := D.out.ld4 (kV v) hk.1 hk.2
        go_simp
        refine hK.out _ _ trivial ?_
        clear hK K
        try simp only [List.getElem_toArray, List.getElem_cons_succ, List.getElem_cons_zero, Act.put, List.setIfInBounds_toArray, List.set_cons_zero, List.set_cons_succ]
        clear q
        refine Reg.takeT (i := 13) (v := ?_) rfl (by kernel_rfl) (by kernel_rfl) (by kernel_rfl) (by kernel_rfl) (fun _ _ _ h => h) (Or.inl ⟨by rfl, ?_⟩) (by assumption) ?_
        rotate_left 1
        focus (intro w hSw; (try dsimp only at hSw); go_simp; (try with_reducible rfl))
        try simp only [List.getElem_toArray, List.getElem_cons_succ, List.getElem_cons_zero, Act.put, List.setIfInBounds_toArray, List.set_cons_zero, List.set_cons_succ]
        refine Reg.doneT (by kernel_rfl) ?_ _
        clear hHeld
        go_wp2_with fail
        go_ret2
        have hb := pV_bd (x := p - 3) (k := kV v) (by omega) (by omega)
        exact ⟨A', ys, c', _, rfl, HW.out.2.2, HY.out, hb.1, hb.2, own_base D.out.O HW.out.1.size, HW.out.1.trans (D.out.T.below HW.out.1.size HW.out.2.1)⟩
    · have D' := D.out.lay5
      go_simp
      refine hK.out _ _ trivial ?_
      clear hK K
      try simp only [List.getElem_toArray, List.getElem_cons_succ, List.getElem_cons_zero, Act.put, List.setIfInBounds_toArray, List.set_cons_zero, List.set_cons_succ]
      clear D
      simp only [L5] at D'
      have D := hide D'
      clear D'
      generalize V1.alloc (.cells #[.int .i64 0, .int .i64 0, .int .i64 0, .int .i64 0, .int .i64 0, .int .i64 1, .int .i64 2, .int .i64 3] 3) = V2 at *
      refine Reg.twoT (i := 4) (j := 7) rfl rfl (by kernel_rfl) (fun K hK => ?_) (fun K hK => ?_)
      · have D' := D.out.lay4 (p - 3)
        go_simp
        refine hK.out _ _ trivial ?_
        clear hK K
        try simp only [List.getElem_toArray, List.getElem_cons_succ, List.getElem_cons_zero, Act.put, List.setIfInBounds_toArray, List.set_cons_zero, List.set_cons_succ]
        clear D
        simp only [L4] at D'
        have D := hide D'
        clear D'
        generalize V2.alloc (.cells #[.int .i64 (p - 3), .int .i64 99999, .int .i64 100000, .int .i64 (-100000)] 3) = V3 at *
        refine Reg.oneT (i := 7) rfl (by kernel_rfl) (fun K hK => ?_)
        go_simp
        refine (D.out.pick (by omega) 8 (by omega) (by omega)).mono ?_
        rintro e V4 ⟨v, rfl, v0, v1, D'⟩
        refine hK.out _ _ trivial ?_
        clear hK K
        try simp only [List.getElem_toArray, List.getElem_cons_succ, List.getElem_cons_zero, Act.put, List.setIfInBounds_toArray, List.set_cons_zero, List.set_cons_succ]
        clear D
        have D := hide D'
        clear D'
        have hk := kV_bd v0 v1
        refine Reg.takeT (i := 8) (v := ?_) rfl (by kernel_rfl) (by kernel_rfl) (by kernel_rfl) (by kernel_rfl) (fun _ _ _ h => h) (Or.inl ⟨by rfl, ?_⟩) (by assumption) ?_
        rotate_left 1
        focus (intro w hSw; (try dsimp only at hSw); go_simp; (try with_reducible rfl))
        try simp only [List.getElem_toArray, List.getElem_cons_succ, List.getElem_cons_zero, Act.put, List.setIfInBounds_toArray, List.set_cons_zero, List.set_cons_succ]
        refine Reg.takeT (i := 12) (v := ?_) rfl (by kernel_rfl) (by kernel_rfl) (by kernel_rfl) (by kernel_rfl) (fun _ _ _ h => h) (Or.inl ⟨by rfl, ?_⟩) (by assumption) ?_
        rotate_left 1
        focus (intro w hSw; (try dsimp only at hSw); go_simp; (try with_reducible rfl))
        try simp only [List.getElem_toArray, List.getElem_cons_succ, List.getElem_cons_zero, Act.put, List.setIfInBounds_toArray, List.set_cons_zero, List.set_cons_succ]
        refine Reg.oneT (i := 9) rfl (by kernel_rfl) (fun K hK => ?_)
        have q := D.out.ld5 v v0 v1
        go_simp
        refine hK.out _ _ trivial ?_
        clear hK K
        try simp only [List.getElem_toArray, List.getElem_cons_succ, List.getElem_cons_zero, Act.put, List.setIfInBounds_toArray, List.set_cons_zero, List.set_cons_succ]
        clear q
        refine Reg.takeT (i := 10) (v := ?_) rfl (by kernel_rfl) (by kernel_rfl) (by kernel_rfl) (by kernel_rfl) (fun _ _ _ h => h) (Or.inl ⟨by rfl, ?_⟩) (by assumption) ?_
        rotate_left 1
        focus (intro w hSw; (try dsimp only at hSw); go_simp; (try with_reducible rfl))
        try simp only [List.getElem_toArray, List.getElem_cons_succ, List.getElem_cons_zero, Act.put, List.setIfInBounds_toArray, List.set_cons_zero, List.set_cons_succ]
        refine Reg.oneT (i := 11) rfl (by kernel_rfl) (fun K hK => ?_)
        have q := D.out.ld4 (kV v) hk.1 hk.2
        go_simp
        refine hK.out _ _ trivial ?_
        clear hK K
        try simp only [List.getElem_toArray, List.getElem_cons_succ, List.getElem_cons_zero, Act.put, List.setIfInBounds_toArray, List.set_cons_zero, List.set_cons_succ]
        clear q
        refine Reg.takeT (i := 13) (v := ?_) rfl (by kernel_rfl) (by kernel_rfl) (by kernel_rfl) (by kernel_rfl) (fun _ _ _ h => h) (Or.inl ⟨by rfl, ?_⟩) (by assumption) ?_
        rotate_left 1
        focus (intro w hSw; (try dsimp only at hSw); go_simp; (try with_reducible rfl))
        try simp only [List.getElem_toArray, List.getElem_cons_succ, List.getElem_cons_zero, Act.put, List.setIfInBounds_toArray, List.set_cons_zero, List.set_cons_succ]
        refine Reg.doneT (by kernel_rfl) ?_ _
        clear hHeld
        go_wp2_with fail
        go_ret2
        have hb := pV_bd (x := p - 3) (k := kV v) (by omega) (by omega)
        exact ⟨A', ys, c', _, rfl, HW.out.2.2, HY.out, hb.1, hb.2, own_base D.out.O HW.out.1.size, HW.out.1.trans (D.out.T.below HW.out.1.size HW.out.2.1)⟩
      · go_simp
        refine (D.out.pick (by omega) 8 (by omega) (by omega)).mono ?_
        rintro e V3 ⟨v, rfl, v0, v1, D'⟩
        refine hK.out _ _ trivial ?_
        clear hK K
        try simp only [List.getElem_toArray, List.getElem_cons_succ, List.getElem_cons_zero, Act.put, List.setIfInBounds_toArray, List.set_cons_zero, List.set_cons_succ]
        clear D
        have D := hide D'
        clear D'
        have hk := kV_bd v0 v1
        refine Reg.takeT (i := 8) (v := ?_) rfl (by kernel_rfl) (by kernel_rfl) (by kernel_rfl) (by kernel_rfl) (fun _ _ _ h => h) (Or.inl ⟨by rfl, ?_⟩) (by assumption) ?_
        rotate_left 1
        focus (intro w hSw; (try dsimp only at hSw); go_simp; (try with_reducible rfl))
        try simp only [List.getElem_toArray, List.getElem_cons_succ, List.getElem_cons_zero, Act.put, List.setIfInBounds_toArray, List.set_cons_zero, List.set_cons_succ]
        refine Reg.takeT (i := 12) (v := ?_) rfl (by kernel_rfl) (by kernel_rfl) (by kernel_rfl) (by kernel_rfl) (fun _ _ _ h => h) (Or.inl ⟨by rfl, ?_⟩) (by assumption) ?_
        rotate_left 1
        focus (intro w hSw; (try dsimp only at hSw); go_simp; (try with_reducible rfl))
        try simp only [List.getElem_toArray, List.getElem_cons_succ, List.getElem_cons_zero, Act.put, List.setIfInBounds_toArray, List.set_cons_zero, List.set_cons_succ]
        refine Reg.twoT (i := 4) (j := 9) rfl rfl (by kernel_rfl) (fun K hK => ?_) (fun K hK => ?_)
        · have D' := D.out.lay4 (p - 3)
          go_simp
          refine hK.out _ _ trivial ?_
          clear hK K
          try simp only [List.getElem_toArray, List.getElem_cons_succ, List.getElem_cons_zero, Act.put, List.setIfInBounds_toArray, List.set_cons_zero, List.set_cons_succ]
          clear D
          simp only [L4] at D'
          have D := hide D'
          clear D'
          generalize V3.alloc (.cells #[.int .i64 (p - 3), .int .i64 99999, .int .i64 100000, .int .i64 (-100000)] 3) = V4 at *
          refine Reg.oneT (i := 9) rfl (by kernel_rfl) (fun K hK => ?_)
          have q := D.out.ld5 v v0 v1
          go_simp
          refine hK.out _ _ trivial ?_
          clear hK K
          try simp only [List.getElem_toArray, List.getElem_cons_succ, List.getElem_cons_zero, Act.put, List.setIfInBounds_toArray, List.set_cons_zero, List.set_cons_succ]
          clear q
          refine Reg.takeT (i := 10) (v := ?_) rfl (by kernel_rfl) (by kernel_rfl) (by kernel_rfl) (by kernel_rfl) (fun _ _ _ h => h) (Or.inl ⟨by rfl, ?_⟩) (by assumption) ?_
          rotate_left 1
          focus (intro w hSw; (try dsimp only at hSw); go_simp; (try with_reducible rfl))
          try simp only [List.getElem_toArray, List.getElem_cons_succ, List.getElem_cons_zero, Act.put, List.setIfInBounds_toArray, List.set_cons_zero, List.set_cons_succ]
          refine Reg.oneT (i := 11) rfl (by kernel_rfl) (fun K hK => ?_)
          have q := D.out.ld4 (kV v) hk.1 hk.2
          go_simp
          refine hK.out _ _ trivial ?_
          clear hK K
          try simp only [List.getElem_toArray, List.getElem_cons_succ, List.getElem_cons_zero, Act.put, List.setIfInBounds_toArray, List.set_cons_zero, List.set_cons_succ]
          clear q
          refine Reg.takeT (i := 13) (v := ?_) rfl (by kernel_rfl) (by kernel_rfl) (by kernel_rfl) (by kernel_rfl) (fun _ _ _ h => h) (Or.inl ⟨by rfl, ?_⟩) (by assumption) ?_
          rotate_left 1
          focus (intro w hSw; (try dsimp only at hSw); go_simp; (try with_reducible rfl))
          try simp only [List.getElem_toArray, List.getElem_cons_succ, List.getElem_cons_zero, Act.put, List.setIfInBounds_toArray, List.set_cons_zero, List.set_cons_succ]
          refine Reg.doneT (by kernel_rfl) ?_ _
          clear hHeld
          go_wp2_with fail
          go_ret2
          have hb := pV_bd (x := p - 3) (k := kV v) (by omega) (by omega)
          exact ⟨A', ys, c', _, rfl, HW.out.2.2, HY.out, hb.1, hb.2, own_base D.out.O HW.out.1.size, HW.out.1.trans (D.out.T.below HW.out.1.size HW.out.2.1)⟩
        · have q := D.out.ld5 v v0 v1
          go_simp
          refine hK.out _ _ trivial ?_
          clear hK K
          try simp only [List.getElem_toArray, List.getElem_cons_succ, List.getElem_cons_zero, Act.put, List.setIfInBounds_toArray, List.set_cons_zero, List.set_cons_succ]
          clear q
          refine Reg.oneT (i := 4) rfl (by kernel_rfl) (fun K hK => ?_)
          have D' := D.out.lay4 (p - 3)
          go_simp
          refine hK.out _ _ trivial ?_
          clear hK K
          try simp only [List.getElem_toArray, List.getElem_cons_succ, List.getElem_cons_zero, Act.put, List.setIfInBounds_toArray, List.set_cons_zero, List.set_cons_succ]
          clear D
          simp only [L4] at D'
          have D := hide D'
          clear D'
          generalize V3.alloc (.cells #[.int .i64 (p - 3), .int .i64 99999, .int .i64 100000, .int .i64 (-100000)] 3) = V4 at *
          refine Reg.takeT (i := 10) (v := ?_) rfl (by kernel_rfl) (by kernel_rfl) (by kernel_rfl) (by kernel_rfl) (fun _ _ _ h => h) (Or.inl ⟨by rfl, ?_⟩) (by assumption) ?_
          rotate_left 1
          focus (intro w hSw; (try dsimp only at hSw); go_simp; (try with_reducible rfl))
          try simp only [List.getElem_toArray, List.getElem_cons_succ, List.getElem_cons_zero, Act.put, List.setIfInBounds_toArray, List.set_cons_zero, List.set_cons_succ]
          refine Reg.oneT (i := 11) rfl (by kernel_rfl) (fun K hK => ?_)
          have q := D.out.ld4 (kV v) hk.1 hk.2
          go_simp
          refine hK.out _ _ trivial ?_
          clear hK K
          try simp only [List.getElem_toArray, List.getElem_cons_succ, List.getElem_cons_zero, Act.put, List.setIfInBounds_toArray, List.set_cons_zero, List.set_cons_succ]
          clear q
          refine Reg.takeT (i := 13) (v := ?_) rfl (by kernel_rfl) (by kernel_rfl) (by kernel_rfl) (by kernel_rfl) (fun _ _ _ h => h) (Or.inl ⟨by rfl, ?_⟩) (by assumption) ?_
          rotate_left 1
          focus (intro w hSw; (try dsimp only at hSw); go_simp; (try with_reducible rfl))
          try simp only [List.getElem_toArray, List.getElem_cons_succ, List.getElem_cons_zero, Act.put, List.setIfInBounds_toArray, List.set_cons_zero, List.set_cons_succ]
          refine Reg.doneT (by kernel_rfl) ?_ _
          clear hHeld
          go_wp2_with fail
          go_ret2
          have hb := pV_bd (x := p - 3) (k := kV v) (by omega) (by omega)
          exact ⟨A', ys, c', _, rfl, HW.out.2.2, HY.out, hb.1, hb.2, own_base D.out.O HW.out.1.size, HW.out.1.trans (D.out.T.below HW.out.1.size HW.out.2.1)⟩
    · go_simp
      refine (D.out.pick (by omega) 8 (by omega) (by omega)).mono ?_
      rintro e V2 ⟨v, rfl, v0, v1, D'⟩
      refine hK.out _ _ trivial ?_
      clear hK K
      try simp only [List.getElem_toArray, List.getElem_cons_succ, List.getElem_cons_zero, Act.put, List.setIfInBounds_toArray, List.set_cons_zero, List.set_cons_succ]
      clear D
      have D := hide D'
      clear D'
      have hk := kV_bd v0 v1
      refine Reg.takeT (i := 12) (v := ?_) rfl (by kernel_rfl) (by kernel_rfl) (by kernel_rfl) (by kernel_rfl) (fun _ _ _ h => h) (Or.inl ⟨by rfl, ?_⟩) (by assumption) ?_
      rotate_left 1
      focus (intro w hSw; (try dsimp only at hSw); go_simp; (try with_reducible rfl))
      try simp only [List.getElem_toArray, List.getElem_cons_succ, List.getElem_cons_zero, Act.put, List.setIfInBounds_toArray, List.set_cons_zero, List.set_cons_succ]
      refine Reg.twoT (i := 4) (j := 5) rfl rfl (by kernel_rfl) (fun K hK => ?_) (fun K hK => ?_)
      · have D' := D.out.lay4 (p - 3)
        go_simp
        refine hK.out _ _ trivial ?_
        clear hK K
        try simp only [List.getElem_toArray, List.getElem_cons_succ, List.getElem_cons_zero, Act.put, List.setIfInBounds_toArray, List.set_cons_zero, List.set_cons_succ]
        clear D
        simp only [L4] at D'
        have D := hide D'
        clear D'
        generalize V2.alloc (.cells #[.int .i64 (p - 3), .int .i64 99999, .int .i64 100000, .int .i64 (-100000)] 3) = V3 at *
        refine Reg.oneT (i := 5) rfl (by kernel_rfl) (fun K hK => ?_)
        have D' := D.out.lay5
        go_simp
        refine hK.out _ _ trivial ?_
        clear hK K
        try simp only [List.getElem_toArray, List.getElem_cons_succ, List.getElem_cons_zero, Act.put, List.setIfInBounds_toArray, List.set_cons_zero, List.set_cons_succ]
        clear D
        simp only [L5] at D'
        have D := hide D'
        clear D'
        generalize V3.alloc (.cells #[.int .i64 0, .int .i64 0, .int .i64 0, .int .i64 0, .int .i64 0, .int .i64 1, .int .i64 2, .int .i64 3] 3) = V4 at *
        refine Reg.takeT (i := 8) (v := ?_) rfl (by kernel_rfl) (by kernel_rfl) (by kernel_rfl) (by kernel_rfl) (fun _ _ _ h => h) (Or.inl ⟨by rfl, ?_⟩) (by assumption) ?_
        rotate_left 1
        focus (intro w hSw; (try dsimp only at hSw); go_simp; (try with_reducible rfl))
        try simp only [List.getElem_toArray, List.getElem_cons_succ, List.getElem_cons_zero, Act.put, List.setIfInBounds_toArray, List.set_cons_zero, List.set_cons_succ]
        refine Reg.oneT (i := 9) rfl (by kernel_rfl) (fun K hK => ?_)
        have q := D.out.ld5 v v0 v1
        go_simp
        refine hK.out _ _ trivial ?_
        clear hK K
        try simp only [List.getElem_toArray, List.getElem_cons_succ, List.getElem_cons_zero, Act.put, List.setIfInBounds_toArray, List.set_cons_zero, List.set_cons_succ]
        clear q
        refine Reg.takeT (i := 10) (v := ?_) rfl (by kernel_rfl) (by kernel_rfl) (by kernel_rfl) (by kernel_rfl) (fun _ _ _ h => h) (Or.inl ⟨by rfl, ?_⟩) (by assumption) ?_
        rotate_left 1
        focus (intro w hSw; (try dsimp only at hSw); go_simp; (try with_reducible rfl))
        try simp only [List.getElem_toArray, List.getElem_cons_succ, List.getElem_cons_zero, Act.put, List.setIfInBounds_toArray, List.set_cons_zero, List.set_cons_succ]
        refine Reg.oneT (i := 11) rfl (by kernel_rfl) (fun K hK => ?_)
        have q := D.out.ld4 (kV v) hk.1 hk.2
        go_simp
        refine hK.out _ _ trivial ?_
        clear hK K
        try simp only [List.getElem_toArray, List.getElem_cons_succ, List.getElem_cons_zero, Act.put, List.setIfInBounds_toArray, List.set_cons_zero, List.set_cons_succ]
        clear q
        refine Reg.takeT (i := 13) (v := ?_) rfl (by kernel_rfl) (by kernel_rfl) (by kernel_rfl) (by kernel_rfl) (fun _ _ _ h => h) (Or.inl ⟨by rfl, ?_⟩) (by assumption) ?_
        rotate_left 1
        focus (intro w hSw; (try dsimp only at hSw); go_simp; (try with_reducible rfl))
        try simp only [List.getElem_toArray, List.getElem_cons_succ, List.getElem_cons_zero, Act.put, List.setIfInBounds_toArray, List.set_cons_zero, List.set_cons_succ]
        refine Reg.doneT (by kernel_rfl) ?_ _
        clear hHeld
        go_wp2_with fail
        go_ret2
        have hb := pV_bd (x := p - 3) (k := kV v) (by omega) (by omega)
        exact ⟨A', ys, c', _, rfl, HW.out.2.2, HY.out, hb.1, hb.2, own_base D.out.O HW.out.1.size, HW.out.1.trans (D.out.T.below HW.out.1.size HW.out.2.1)⟩
      · have D' := D.out.lay5
        go_simp
        refine hK.out _ _ trivial ?_
        clear hK K
        try simp only [List.getElem_toArray, List.getElem_cons_succ, List.getElem_cons_zero, Act.put, List.setIfInBounds_toArray, List.set_cons_zero, List.set_cons_succ]
        clear D
        simp only [L5] at D'
        have D := hide D'
        clear D'
        generalize V2.alloc (.cells #[.int .i64 0, .int .i64 0, .int .i64 0, .int .i64 0, .int .i64 0, .int .i64 1, .int .i64 2, .int .i64 3] 3) = V3 at *
        refine Reg.takeT (i := 8) (v := ?_) rfl (by kernel_rfl) (by kernel_rfl) (by kernel_rfl) (by kernel_rfl) (fun _ _ _ h => h) (Or.inl ⟨by rfl, ?_⟩) (by assumption) ?_
        rotate_left 1
        focus (intro w hSw; (try dsimp only at hSw); go_simp; (try with_reducible rfl))
        try simp only [List.getElem_toArray, List.getElem_cons_succ, List.getElem_cons_zero, Act.put, List.setIfInBounds_toArray, List.set_cons_zero, List.set_cons_succ]
        refine Reg.twoT (i := 4) (j := 9) rfl rfl (by kernel_rfl) (fun K hK => ?_) (fun K hK => ?_)
        · have D' := D.out.lay4 (p - 3)
          go_simp
          refine hK.out _ _ trivial ?_
          clear hK K
          try simp only [List.getElem_toArray, List.getElem_cons_succ, List.getElem_cons_zero, Act.put, List.setIfInBounds_toArray, List.set_cons_zero, List.set_cons_succ]
          clear D
          simp only [L4] at D'
          have D := hide D'
          clear D'
          generalize V3.alloc (.cells #[.int .i64 (p - 3), .int .i64 99999, .int .i64 100000, .int .i64 (-100000)] 3) = V4 at *
          refine Reg.oneT (i := 9) rfl (by kernel_rfl) (fun K hK => ?_)
          have q := D.out.ld5 v v0 v1
          go_simp
          refine hK.out _ _ trivial ?_
          clear hK K
          try simp only [List.getElem_toArray, List.getElem_cons_succ, List.getElem_cons_zero, Act.put, List.setIfInBounds_toArray, List.set_cons_zero, List.set_cons_succ]
          clear q
          refine Reg.takeT (i := 10) (v := ?_) rfl (by kernel_rfl) (by kernel_rfl) (by kernel_rfl) (by kernel_rfl) (fun _ _ _ h => h) (Or.inl ⟨by rfl, ?_⟩) (by assumption) ?_
          rotate_left 1
          focus (intro w hSw; (try dsimp only at hSw); go_simp; (try with_reducible rfl))
          try simp only [List.getElem_toArray, List.getElem_cons_succ, List.getElem_cons_zero, Act.put, List.setIfInBounds_toArray, List.set_cons_zero, List.set_cons_succ]
          refine Reg.oneT (i := 11) rfl (by kernel_rfl) (fun K hK => ?_)
          have q := D.out.ld4 (kV v) hk.1 hk.2
          go_simp
          refine hK.out _ _ trivial ?_
          clear hK K
          try simp only [List.getElem_toArray, List.getElem_cons_succ, List.getElem_cons_zero, Act.put, List.setIfInBounds_toArray, List.set_cons_zero, List.set_cons_succ]
          clear q
          refine Reg.takeT (i := 13) (v := ?_) rfl (by kernel_rfl) (by kernel_rfl) (by kernel_rfl) (by kernel_rfl) (fun _ _ _ h => h) (Or.inl ⟨by rfl, ?_⟩) (by assumption) ?_
          rotate_left 1
          focus (intro w hSw; (try dsimp only at hSw); go_simp; (try with_reducible rfl))
          try simp only [List.getElem_toArray, List.getElem_cons_succ, List.getElem_cons_zero, Act.put, List.setIfInBounds_toArray, List.set_cons_zero, List.set_cons_succ]
          refine Reg.doneT (by kernel_rfl) ?_ _
          clear hHeld
          go_wp2_with fail
          go_ret2
          have hb := pV_bd (x := p - 3) (k := kV v) (by omega) (by omega)
          exact ⟨A', ys, c', _, rfl, HW.out.2.2, HY.out, hb.1, hb.2, own_base D.out.O HW.out.1.size, HW.out.1.trans (D.out.T.below HW.out.1.size HW.out.2.1)⟩
        · have q := D.out.ld5 v v0 v1
          go_simp
          refine hK.out _ _ trivial ?_
          clear hK K
          try simp only [List.getElem_toArray, List.getElem_cons_succ, List.getElem_cons_zero, Act.put, List.setIfInBounds_toArray, List.set_cons_zero, List.set_cons_succ]
          clear q
          refine Reg.oneT (i := 4) rfl (by kernel_rfl) (fun K hK => ?_)
          have D' := D.out.lay4 (p - 3)
          go_simp
          refine hK.out _ _ trivial ?_
          clear hK K
          try simp only [List.getElem_toArray, List.getElem_cons_succ, List.getElem_cons_zero, Act.put, List.setIfInBounds_toArray, List.set_cons_zero, List.set_cons_succ]
          clear D
          simp only [L4] at D'
          have D := hide D'
          clear D'
          generalize V3.alloc (.cells #[.int .i64 (p - 3), .int .i64 99999, .int .i64 100000, .int .i64 (-100000)] 3) = V4 at *
          refine Reg.takeT (i := 10) (v := ?_) rfl (by kernel_rfl) (by kernel_rfl) (by kernel_rfl) (by kernel_rfl) (fun _ _ _ h => h) (Or.inl ⟨by rfl, ?_⟩) (by assumption) ?_
          rotate_left 1
          focus (intro w hSw; (try dsimp only at hSw); go_simp; (try with_reducible rfl))
          try simp only [List.getElem_toArray, List.getElem_cons_succ, List.getElem_cons_zero, Act.put, List.setIfInBounds_toArray, List.set_cons_zero, List.set_cons_succ]
          refine Reg.oneT (i := 11) rfl (by kernel_rfl) (fun K hK => ?_)
          have q := D.out.ld4 (kV v) hk.1 hk.2
          go_simp
          refine hK.out _ _ trivial ?_
          clear hK K
          try simp only [List.getElem_toArray, List.getElem_cons_succ, List.getElem_cons_zero, Act.put, List.setIfInBounds_toArray, List.set_cons_zero, List.set_cons_succ]
          clear q
          refine Reg.takeT (i := 13) (v := ?_) rfl (by kernel_rfl) (by kernel_rfl) (by kernel_rfl) (by kernel_rfl) (fun _ _ _ h => h) (Or.inl ⟨by rfl, ?_⟩) (by assumption) ?_
          rotate_left 1
          focus (intro w hSw; (try dsimp only at hSw); go_simp; (try with_reducible rfl))
          try simp only [List.getElem_toArray, List.getElem_cons_succ, List.getElem_cons_zero, Act.put, List.setIfInBounds_toArray, List.set_cons_zero, List.set_cons_succ]
          refine Reg.doneT (by kernel_rfl) ?_ _
          clear hHeld
          go_wp2_with fail
          go_ret2
          have hb := pV_bd (x := p - 3) (k := kV v) (by omega) (by omega)
          exact ⟨A', ys, c', _, rfl, HW.out.2.2, HY.out, hb.1, hb.2, own_base D.out.O HW.out.1.size, HW.out.1.trans (D.out.T.below HW.out.1.size HW.out.2.1)⟩
  · have D' := D.out.lay5
    go_simp
    refine hK.out _ _ trivial ?_
    clear hK K
    try simp only [List.getElem_toArray, List.getElem_cons_succ, List.getElem_cons_zero, Act.put, List.setIfInBounds_toArray, List.set_cons_zero, List.set_cons_succ]
    clear D
    simp only [L5] at D'
    have D := hide D'
    clear D'
    generalize V.alloc (.cells #[.int .i64 0, .int .i64 0, .int .i64 0, .int .i64 0, .int .i64 0, .int .i64 1, .int .i64 2, .int .i64 3] 3) = V1 at *
    refine Reg.oneT (i := 2) rfl (by kernel_rfl) (fun K hK => ?_)
    go_simp
    refine (D.out.pick (by omega) 50 (by omega) (by omega)).mono ?_
    rintro e V2 ⟨p, rfl, p0, p1, D'⟩
    refine hK.out _ _ trivial ?_
    clear hK K
    try simp only [List.getElem_toArray, List.getElem_cons_succ, List.getElem_cons_zero, Act.put, List.setIfInBounds_toArray, List.set_cons_zero, List.set_cons_succ]
    clear D
    have D := hide D'
    clear D'
    have hwr : IntKind.i64.wrap (p - 3) = p - 3 := IntWalk.i64_in _ (by omega)
    refine Reg.takeT (i := 3) (v := ?_) rfl (by kernel_rfl) (by kernel_rfl) (by kernel_rfl) (by kernel_rfl) (fun _ _ _ h => h) (Or.inl ⟨by rfl, ?_⟩) (by assumption) ?_
    rotate_left 1
    focus (intro w hSw; (try dsimp only at hSw); go_simp; (try with_reducible rfl))
    try simp only [List.getElem_toArray, List.getElem_cons_succ, List.getElem_cons_zero, Act.put, List.setIfInBounds_toArray, List.set_cons_zero, List.set_cons_succ]
    refine Reg.twoT (i := 4) (j := 7) rfl rfl (by kernel_rfl) (fun K hK => ?_) (fun K hK => ?_)
    · have D' := D.out.lay4 (p - 3)
      go_simp
      refine hK.out _ _ trivial ?_
      clear hK K
      try simp only [List.getElem_toArray, List.getElem_cons_succ, List.getElem_cons_zero, Act.put, List.setIfInBounds_toArray, List.set_cons_zero, List.set_cons_succ]
      clear D
      simp only [L4] at D'
      have D := hide D'
      clear D'
      generalize V2.alloc (.cells #[.int .i64 (p - 3), .int .i64 99999, .int .i64 100000, .int .i64 (-100000)] 3) = V3 at *
      refine Reg.oneT (i := 7) rfl (by kernel_rfl) (fun K hK => ?_)
      go_simp
      refine (D.out.pick (by omega) 8 (by omega) (by omega)).mono ?_
      rintro e V4 ⟨v, rfl, v0, v1, D'⟩
      refine hK.out _ _ trivial ?_
      clear hK K
      try simp only [List.getElem_toArray, List.getElem_cons_succ, List.getElem_cons_zero, Act.put, List.setIfInBounds_toArray, List.set_cons_zero, List.set_cons_succ]
      clear D
      have D := hide D'
      clear D'
      have hk := kV_bd v0 v1
      refine Reg.takeT (i := 8) (v := ?_) rfl (by kernel_rfl) (by kernel_rfl) (by kernel_rfl) (by kernel_rfl) (fun _ _ _ h => h) (Or.inl ⟨by rfl, ?_⟩) (by assumption) ?_
      rotate_left 1
      focus (intro w hSw; (try dsimp only at hSw); go_simp; (try with_reducible rfl))
      try simp only [List.getElem_toArray, List.getElem_cons_succ, List.getElem_cons_zero, Act.put, List.setIfInBounds_toArray, List.set_cons_zero, List.set_cons_succ]
      refine Reg.takeT (i := 12) (v := ?_) rfl (by kernel_rfl) (by kernel_rfl) (by kernel_rfl) (by kernel_rfl) (fun _ _ _ h => h) (Or.inl ⟨by rfl, ?_⟩) (by assumption) ?_
      rotate_left 1
      focus (intro w hSw; (try dsimp only at hSw); go_simp; (try with_reducible rfl))
      try simp only [List.getElem_toArray, List.getElem_cons_succ, List.getElem_cons_zero, Act.put, List.setIfInBounds_toArray, List.set_cons_zero, List.set_cons_succ]
      refine Reg.oneT (i := 9) rfl (by kernel_rfl) (fun K hK => ?_)
      have q := D.out.ld5 v v0 v1
      go_simp
      refine hK.out _ _ trivial ?_
      clear hK K
      try simp only [List.getElem_toArray, List.getElem_cons_succ, List.getElem_cons_zero, Act.put, List.setIfInBounds_toArray, List.set_cons_zero, List.set_cons_succ]
      clear q
      refine Reg.takeT (i := 10) (v := ?_) rfl (by kernel_rfl) (by kernel_rfl) (by kernel_rfl) (by kernel_rfl) (fun _ _ _ h => h) (Or.inl ⟨by rfl, ?_⟩) (by assumption) ?_
      rotate_left 1
      focus (intro w hSw; (try dsimp only at hSw); go_simp; (try with_reducible rfl))
      try simp only [List.getElem_toArray, List.getElem_cons_succ, List.getElem_cons_zero, Act.put, List.setIfInBounds_toArray, List.set_cons_zero, List.set_cons_succ]
      refine Reg.oneT (i := 11) rfl (by kernel_rfl) (fun K hK => ?_)
      have q := D.out.ld4 (kV v) hk.1 hk.2
      go_simp
      refine hK.out _ _ trivial ?_
      clear hK K
      try simp only [List.getElem_toArray, List.getElem_cons_succ, List.getElem_cons_zero, Act.put, List.setIfInBounds_toArray, List.set_cons_zero, List.set_cons_succ]
      clear q
      refine Reg.takeT (i := 13) (v := ?_) rfl (by kernel_rfl) (by kernel_rfl) (by kernel_rfl) (by kernel_rfl) (fun _ _ _ h => h) (Or.inl ⟨by rfl, ?_⟩) (by assumption) ?_
      rotate_left 1
      focus (intro w hSw; (try dsimp only at hSw); go_simp; (try with_reducible rfl))
      try simp only [List.getElem_toArray, List.getElem_cons_succ, List.getElem_cons_zero, Act.put, List.setIfInBounds_toArray, List.set_cons_zero, List.set_cons_succ]
      refine Reg.doneT (by kernel_rfl) ?_ _
      clear hHeld
      go_wp2_with fail
      go_ret2
      have hb := pV_bd (x := p - 3) (k := kV v) (by omega) (by omega)
      exact ⟨A', ys, c', _, rfl, HW.out.2.2, HY.out, hb.1, hb.2, own_base D.out.O HW.out.1.size, HW.out.1.trans (D.out.T.below HW.out.1.size HW.out.2.1)⟩
    · go_simp
      refine (D.out.pick (by omega) 8 (by omega) (by omega)).mono ?_
      rintro e V3 ⟨v, rfl, v0, v1, D'⟩
      refine hK.out _ _ trivial ?_
      clear hK K
      try simp only [List.getElem_toArray, List.getElem_cons_succ, List.getElem_cons_zero, Act.put, List.setIfInBounds_toArray, List.set_cons_zero, List.set_cons_succ]
      clear D
      have D := hide D'
      clear D'
      have hk := kV_bd v0 v1
      refine Reg.takeT (i := 8) (v := ?_) rfl (by kernel_rfl) (by kernel_rfl) (by kernel_rfl) (by kernel_rfl) (fun _ _ _ h => h) (Or.inl ⟨by rfl, ?_⟩) (by assumption) ?_
      rotate_left 1
      focus (intro w hSw; (try dsimp only at hSw); go_simp; (try with_reducible rfl))
      try simp only [List.getElem_toArray, List.getElem_cons_succ, List.getElem_cons_zero, Act.put, List.setIfInBounds_toArray, List.set_cons_zero, List.set_cons_succ]
      refine Reg.takeT (i := 12) (v := ?_) rfl (by kernel_rfl) (by kernel_rfl) (by kernel_rfl) (by kernel_rfl) (fun _ _ _ h => h) (Or.inl ⟨by rfl, ?_⟩) (by assumption) ?_
      rotate_left 1
      focus (intro w hSw; (try dsimp only at hSw); go_simp; (try with_reducible rfl))
      try simp only [List.getElem_toArray, List.getElem_cons_succ, List.getElem_cons_zero, Act.put, List.setIfInBounds_toArray, List.set_cons_zero, List.set_cons_succ]
      refine Reg.twoT (i := 4) (j := 9) rfl rfl (by kernel_rfl) (fun K hK => ?_) (fun K hK => ?_)
      · have D' := D.out.lay4 (p - 3)
        go_simp
        refine hK.out _ _ trivial ?_
        clear hK K
        try simp only [List.getElem_toArray, List.getElem_cons_succ, List.getElem_cons_zero, Act.put, List.setIfInBounds_toArray, List.set_cons_zero, List.set_cons_succ]
        clear D
        simp only [L4] at D'
        have D := hide D'
        clear D'
        generalize V3.alloc (.cells #[.int .i64 (p - 3), .int .i64 99999, .int .i64 100000, .int .i64 (-100000)] 3) = V4 at *
        refine Reg.oneT (i := 9) rfl (by kernel_rfl) (fun K hK => ?_)
        have q := D.out.ld5 v v0 v1
        go_simp
        refine hK.out _ _ trivial ?_
        clear hK K
        try simp only [List.getElem_toArray, List.getElem_cons_succ, List.getElem_cons_zero, Act.put, List.setIfInBounds_toArray, List.set_cons_zero, List.set_cons_succ]
        clear q
        refine Reg.takeT (i := 10) (v := ?_) rfl (by kernel_rfl) (by kernel_rfl) (by kernel_rfl) (by kernel_rfl) (fun _ _ _ h => h) (Or.inl ⟨by rfl, ?_⟩) (by assumption) ?_
        rotate_left 1
        focus (intro w hSw; (try dsimp only at hSw); go_simp; (try with_reducible rfl))
        try simp only [List.getElem_toArray, List.getElem_cons_succ, List.getElem_cons_zero, Act.put, List.setIfInBounds_toArray, List.set_cons_zero, List.set_cons_succ]
        refine Reg.oneT (i := 11) rfl (by kernel_rfl) (fun K hK => ?_)
        have q := D.out.ld4 (kV v) hk.1 hk.2
        go_simp
        refine hK.out _ _ trivial ?_
        clear hK K
        try simp only [List.getElem_toArray, List.getElem_cons_succ, List.getElem_cons_zero, Act.put, List.setIfInBounds_toArray, List.set_cons_zero, List.set_cons_succ]
        clear q
        refine Reg.takeT (i := 13) (v := ?_) rfl (by kernel_rfl) (by kernel_rfl) (by kernel_rfl) (by kernel_rfl) (fun _ _ _ h => h) (Or.inl ⟨by rfl, ?_⟩) (by assumption) ?_
        rotate_left 1
        focus (intro w hSw; (try dsimp only at hSw); go_simp; (try with_reducible rfl))
        try simp only [List.getElem_toArray, List.getElem_cons_succ, List.getElem_cons_zero, Act.put, List.setIfInBounds_toArray, List.set_cons_zero, List.set_cons_succ]
        refine Reg.doneT (by kernel_rfl) ?_ _
        clear hHeld
        go_wp2_with fail
        go_ret2
        have hb := pV_bd (x := p - 3) (k := kV v) (by omega) (by omega)
        exact ⟨A', ys, c', _, rfl, HW.out.2.2, HY.out, hb.1, hb.2, own_base D.out.O HW.out.1.size, HW.out.1.trans (D.out.T.below HW.out.1.size HW.out.2.1)⟩
      · have q := D.out.ld5 v v0 v1
        go_simp
        refine hK.out _ _ trivial ?_
        clear hK K
        try simp only [List.getElem_toArray, List.getElem_cons_succ, List.getElem_cons_zero, Act.put, List.setIfInBounds_toArray, List.set_cons_zero, List.set_cons_succ]
        clear q
        refine Reg.oneT (i := 4) rfl (by kernel_rfl) (fun K hK => ?_)
        have D' := D.out.lay4 (p - 3)
        go_simp
        refine hK.out _ _ trivial ?_
        clear hK K
        try simp only [List.getElem_toArray, List.getElem_cons_succ, List.getElem_cons_zero, Act.put, List.setIfInBounds_toArray, List.set_cons_zero, List.set_cons_succ]
        clear D
        simp only [L4] at D'
        have D := hide D'
        clear D'
        generalize V3.alloc (.cells #[.int .i64 (p - 3), .int .i64 99999, .int .i64 100000, .int .i64 (-100000)] 3) = V4 at *
        refine Reg.takeT (i := 10) (v := ?_) rfl (by kernel_rfl) (by kernel_rfl) (by kernel_rfl) (by kernel_rfl) (fun _ _ _ h => h) (Or.inl ⟨by rfl, ?_⟩) (by assumption) ?_
        rotate_left 1
        focus (intro w hSw; (try dsimp only at hSw); go_simp; (try with_reducible rfl))
        try simp only [List.getElem_toArray, List.getElem_cons_succ, List.getElem_cons_zero, Act.put, List.setIfInBounds_toArray, List.set_cons_zero, List.set_cons_succ]
        refine Reg.oneT (i := 11) rfl (by kernel_rfl) (fun K hK => ?_)
        have q := D.out.ld4 (kV v) hk.1 hk.2
        go_simp
        refine hK.out _ _ trivial ?_
        clear hK K
        try simp only [List.getElem_toArray, List.getElem_cons_succ, List.getElem_cons_zero, Act.put, List.setIfInBounds_toArray, List.set_cons_zero, List.set_cons_succ]
        clear q
        refine Reg.takeT (i := 13) (v := ?_) rfl (by kernel_rfl) (by kernel_rfl) (by kernel_rfl) (by kernel_rfl) (fun _ _ _ h => h) (Or.inl ⟨by rfl, ?_⟩) (by assumption) ?_
        rotate_left 1
        focus (intro w hSw; (try dsimp only at hSw); go_simp; (try with_reducible rfl))
        try simp only [List.getElem_toArray, List.getElem_cons_succ, List.getElem_cons_zero, Act.put, List.setIfInBounds_toArray, List.set_cons_zero, List.set_cons_succ]
        refine Reg.doneT (by kernel_rfl) ?_ _
        clear hHeld
        go_wp2_with fail
        go_ret2
        have hb := pV_bd (x := p - 3) (k := kV v) (by omega) (by omega)
        exact ⟨A', ys, c', _, rfl, HW.out.2.2, HY.out, hb.1, hb.2, own_base D.out.O HW.out.1.size, HW.out.1.trans (D.out.T.below HW.out.1.size HW.out.2.1)⟩
end Go.Proofs.YtjnnjgogpapbhaaDoor.DPlace
