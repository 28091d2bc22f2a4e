/- What turns, block by block. -/
import Derived.Test.YtmglgjchemecjaaBase5
namespace Go.Proofs.Ytmglgjchemecjaa.Kit
set_option maxRecDepth 200000
open Go.ChangeShapes Go.WideShapes Go.ChangeAt Go.RowKit
/-- From w to w' nothing that was there has turned but the blocks of p. -/
structure Gp (p : Nat → Prop) (w w' : World) : Prop where
  os : w'.os = w.os
  tape : w'.tape = w.tape
  output : w'.output = w.output
  size : w.heap.size ≤ w'.heap.size
  block : ∀ k, k < w.heap.size → ¬ p k → w'.heap[k]? = w.heap[k]?
section
variable {p q : Nat → Prop} {w w' w'' : World}
theorem Gp.refl (p : Nat → Prop) (w : World) : Gp p w w := ⟨rfl, rfl, rfl, Nat.le_refl _, fun _ _ _ => rfl⟩
theorem Gp.of_below (h : Below w.heap.size w w') : Gp p w w' := ⟨h.os, h.tape, h.output, h.size, fun k hk _ => h.block k hk⟩
theorem Gp.of_grown {v : Option Nat} (h : w.grownBy w' v) (hv : ∀ k, v = some k → p k) : Gp p w w' := ⟨h.os, h.tape, h.output, h.size, fun k hk hp => h.block k hk (fun e => hp (hv k e.symm))⟩
theorem Gp.trans (h : Gp p w w') (k : Gp p w' w'') : Gp p w w'' :=
  ⟨k.os.trans h.os, k.tape.trans h.tape, k.output.trans h.output, Nat.le_trans h.size k.size, fun i hi hp => (k.block i (Nat.lt_of_lt_of_le hi h.size) hp).trans (h.block i hi hp)⟩
theorem Gp.mono (h : Gp p w w') (hp : ∀ k, p k → q k) : Gp q w w' := ⟨h.os, h.tape, h.output, h.size, fun k hk hq => h.block k hk (fun h => hq (hp k h))⟩
theorem Gp.below {B : Nat} {a : World} (h : Below B a w) (g : Gp p w w') (hB : B ≤ w.heap.size) (hp : ∀ k, p k → B ≤ k) : Below B a w' :=
  h.trans ⟨g.os, g.tape, g.output, g.size, fun k hk => g.block k (Nat.lt_of_lt_of_le hk hB) (fun h => by have := hp k h; omega)⟩
theorem Gp.box {g : Nat} {t : TypeId} {cs : Array Value} (h : Gp p w w') (hb : Box w g t cs) (hp : ¬ p g) : Box w' g t cs := (h.block g hb.lt hp).trans hb
theorem Gp.row {base : Nat} {e : TypeId} {size n c : Nat} {A : Option Addr} {xs : List Value} (g : Gp p w w') (h : Row w base e size A n c xs) (hp : ∀ k, blk A c = some k → ¬ p k) : Row w' base e size A n c xs :=
  h.keep fun k hk => g.block k (h.lt k hk).2 (hp k hk)
end
end Go.Proofs.Ytmglgjchemecjaa.Kit
