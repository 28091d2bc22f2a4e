/- Small general lemmas, over any program: how a law (a function that answers one bool) is closed out of its walk; hiding of facts. -/
import Derived.WalkKit
import Derived.ProofKit
import Derived.OpenShut
import Derived.Lib.SmallJoins
import Derived.Deep.Slices
import Derived.Deep.Fields
import Derived.Laws.AppendOwnNone
import Derived.Deep.RegionHeld
import Derived.Laws.OwnMore
import Derived.Deep.RegionLawGrows
import Derived.Deep.Upon
import Derived.Deep.AppendLies
import Derived.Shelf.Small.Bits
import Derived.Shelf.Small.Strs
import Derived.Shelf.Strconv.Atoi
import Derived.Shelf.Strconv.Itoa0
import Derived.Shelf.Strconv.Itoa1
import Derived.Shelf.LaysM
import Derived.Shelf.Strconv.Itoa2
import Derived.Shelf.Strconv.Itoa3
import Derived.Shelf.Strconv.AtoiErrFast
import Derived.Shelf.Strconv.ParseIntEmpty
import Derived.Shelf.Strconv.AtoiFail
import Derived.Shelf.Strconv.Clone
import Derived.Shelf.Strconv.SyntaxError
import Derived.Shelf.LaysC
import Derived.Shelf.Strconv.ToError
import Derived.Shelf.Strconv.Lower
import Derived.Shelf.Strconv.ParseUint10
import Derived.Shelf.Strconv.ParseUint10Empty
import Derived.Shelf.Strconv.ParseUint10Any
import Derived.Shelf.Strconv.ParseInt10
import Derived.Shelf.Strconv.AtoiLong
import Derived.Shelf.Strconv.AtoiInnerAll
import Derived.Shelf.Strconv.RangeError
import Derived.Shelf.Strconv.ToErrorRange
import Derived.Shelf.Strconv.AtoiAll
import Derived.Shelf.Strconv.ErrVarAll
import Derived.Shelf.Strings.Search1
import Derived.Shelf.Strings.Search2
import Derived.Shelf.Strings.Search3
import Derived.Shelf.Strings.Cut
import Derived.Shelf.Strings.Count
import Derived.Shelf.Strings.Shaped
import Derived.Shelf.Sort.Plain
import Derived.Shelf.Strings.Split
import Derived.Shelf.Unicode.DecodeSlow
import Derived.Shelf.Slices.Turned
import Derived.Shelf.Slices.Equal
import Derived.Shelf.Slices.Clone
import Derived.Shelf.Slices.CompactS
import Derived.Shelf.Slices.Delete
import Derived.Shelf.Slices.Cells
import Derived.Shelf.Slices.In.SortNone
import Derived.Shelf.Slices.Empties
import Derived.Shelf.Slices.Empties2
import Derived.Ground.SlgnProg
import Derived.Shelf.SlicesE.Clone
import Derived.Test.YtepoiphmmjfbdaaGreatDoorProg
import Derived.Test.YtepoiphmmjfbdaaGreatDoorRows
import Derived.Laws.BytesArg
import Derived.Lib.Bytes
import Derived.Lib.ItoaNum
import Derived.Lib.ItoaLen
import Derived.Deep.CutRange
import Derived.Lib.AtoiAllCases
import Derived.Lib.SplitLaws
set_option linter.unusedSimpArgs false
set_option linter.unusedVariables false
set_option maxRecDepth 200000
open Go.ChangeShapes Go.WideShapes Go.ChangeAt Go.RowKit
namespace Go.Proofs.YtepoiphmmjfbdaaGreatDoor
namespace Kit
open Go.Deep

def Hd (p:Prop):Prop:=p
theorem Hd.o {p:Prop} (h:Hd p):p:=h
theorem h_ {p:Prop} (h:p):Hd p:=h
def LawEnds (w:World) (e:Ending) (w':World):Prop:=e=.returned (.bool true)/\Below w.heap.size w w'

def Ret (v:Value) (w:World) (e:Ending) (w':World):Prop:=e=.returned v/\Below w.heap.size w w'
def Pure (v:Value) (w:World) (e:Ending) (w':World):Prop:=e=.returned v/\w=w'
theorem bcell {w w':World} (hb:Below w.heap.size w w'):(∀ b o,b<w.heap.size->w'.cell? ⟨b,o,none⟩=w.cell? ⟨b,o,none⟩)/\(∀ b o,b<w.heap.size->w'.frozen? ⟨b,o,none⟩=w.frozen? ⟨b,o,none⟩):=
 ⟨fun b o h=>hb.cell (p:=⟨b,o,none⟩) h,fun b o h=>hb.frozen (p:=⟨b,o,none⟩) h⟩
theorem ret_bool {a b:Bool} (h:a=b):Ending.returned (.bool a)=.returned (.bool b):=by rw [h]
theorem ret_int {k:IntKind} {a b:Int} (h:a=b):Ending.returned (.int k a)=.returned (.int k b):=by rw [h]
theorem Below.drewN {B:Nat} {a w:World} (h:Below B a w) (n:Nat):Below B a (w.drewN n):=⟨h.os,h.tape,h.output,h.size,h.block⟩

theorem of_drew {w w':World} (h:Below w.drew.heap.size w.drew w'):Below w.heap.size w w':=⟨h.os,h.tape,h.output,h.size,h.block⟩
theorem below_drawn {B:Nat} {w w':World} {os tape out} {d:Nat} (h:Below B { heap:=w.heap,tape:=tape,drawn:=d,os:=os,output:=out } w') (ho:os=w.os:=by rfl) (ht:tape=w.tape:=by rfl) (hu:out=w.output:=by rfl):Below B w w':=by
 subst ho ht hu;exact ⟨h.os,h.tape,h.output,h.size,h.block⟩
theorem Pure.quiet {P:Program} {f:FuncId} {args:Array Value} {w:World} {n:Nat} {v:Value} (h:Calls P f args (w.drewN n) (Pure v (w.drewN n))):
  Calls P f args (w.drewN n) fun e w''=>e=.returned v/\∃ m,w''=w.drewN m:=h.mono fun _ _ ⟨he,hm⟩=>⟨he,n,hm.symm⟩
section
variable {H:Type} {enc:TypeId × Value->H} {P:Program}

theorem trodAll_len {w:World} {base:Nat} {sp:Nat->Bool} {held:Bool}:∀ (ts:List TypeId) (vs:List Value) (ds:List (DataW H)) (ps:List MemPlace),
  DataW.TrodAll enc P w base sp held ts vs ds ps->vs.length=ts.length/\ds.length=ts.length
 | [],vs,ds,ps,h=>by obtain ⟨rfl,rfl,_⟩:=trodAll_nil h; exact ⟨rfl,rfl⟩
 | t :: ts,vs,ds,ps,h=>by
  obtain ⟨v,vs',d,ds',p,q,rfl,rfl,rfl,_,h2⟩:=trodAll_cons h;obtain ⟨a,b⟩:=trodAll_len ts vs' ds' q h2;simp [a,b]

theorem below_trodAll (hl:laidOutB P=true) {W W':World} (hb:Below W.heap.size W W'):
  ∀ (ts:List TypeId) (vs:List Value) (ds:List (DataW H)) (ps:List MemPlace),(∀ t ∈ ts,P.readableRec t=true/\t<P.types.size) →
   (∀ x ∈ ps,x.block<W.heap.size)->DataW.TrodAll enc P W 0 (fun _=>true) true ts vs ds ps →
   DataW.TrodAll enc P W' 0 (fun b=>decide (b<W.heap.size)) true ts vs ds ps
 | [],vs,ds,ps,_,_,h=>by obtain ⟨rfl,rfl,rfl⟩:=trodAll_nil h; exact trodAll_mk0
 | t :: ts,vs,ds,ps,hr,hlt,h=>by
  obtain ⟨v,vs',d,ds',p,q,rfl,rfl,rfl,h1,h2⟩:=trodAll_cons h;refine trodAll_cons_mk ?_ (below_trodAll hl hb ts vs' ds' q (fun t ht=>hr t (by simp [ht])) (fun x hx=>hlt x (by simp [hx])) h2);exact Below.trod hl (hr t (by simp)).1 (hr t (by simp)).2 h1 hb (fun x hx=>hlt x (by simp [hx]))

theorem law_post (hl:laidOutB P=true) {f:Func} {s:ChangeSpec} {W:World} {args:Array Value} {ds gs:List (DataW H)} {before:List MemPlace} {e:Ending} {W':World} {tb:TypeId}
  (hr:∀ t ∈ f.params.toList,P.readableRec t=true/\t<P.types.size) (htb:P.underlying tb=some .bool) (hres:f.resultTypes=#[tb]) (hv:s.vars=[])
  (hs:∀ ds:List (DataW H),ds.length=f.params.toList.length->s.fn H ds={ results:=[.lit (.bool true)],args:=ds })
  (hW:DataW.Whole enc P f.params.toList s.vars false W args.toList ds gs before) (h:LawEnds W e W'):
  ∃ v,e=.returned v/\s.post enc P f false true false false W args v W':=by
 obtain ⟨he,hb⟩:=h;have hlt:∀ p ∈ before,p.block<W.heap.size:=fun p hp=>hW.lt p hp;have hW':=hW;obtain ⟨p,q,hA,hV,rfl,hfz,hnd⟩:=hW;rw [hv] at hV;obtain ⟨rfl,rfl⟩:=trodVars_none hV;obtain ⟨_,hdl⟩:=trodAll_len _ _ _ _ hA;have hsd:=hs ds hdl;refine ⟨_,he,ds,[],p++[],[],p,[],hW',?_,?_,?_,?_,fun h=>by cases h⟩
 ·rw [List.append_nil,hsd,hres];exact trodAll_mk1 (shut_bool htb true)
 ·rw [List.append_nil,hsd];exact below_trodAll hl hb _ _ _ _ hr (fun x hx=>hlt x (by simp [hx])) hA
 ·rw [hv];rw [List.append_nil,hsd]
  trivial
 ·exact hb.frame _
end

/-! ### Slices that are read -/
def Rd (w:World) (B:Nat) (A:Option Addr) (xs:List Value):Prop:=
 ∀ (i:Nat) (u:Value),xs[i]?=some u->∃ b off,A=some ⟨b,off,none⟩/\b<B/\w.cell? ⟨b,off+i,none⟩=some u

section
variable {w w':World} {B B':Nat} {A:Option Addr} {xs:List Value}
theorem Rd.nil (A:Option Addr):Rd w B A []:=fun i u h=>by simp at h
theorem Rd.keep (h:Rd w B A xs) (hk:∀ p:Addr,p.block<B->w'.cell? p=w.cell? p):Rd w' B A xs:=fun i u hi=>by
 obtain ⟨b,off,e,hb,hc⟩:=h i u hi;exact ⟨b,off,e,hb,(hk _ hb).trans hc⟩
theorem Rd.more (h:Rd w B A xs) (hB:B<=B'):Rd w B' A xs:=fun i u hi=>by
 obtain ⟨b,off,e,hb,hc⟩:=h i u hi;exact ⟨b,off,e,by omega,hc⟩
theorem Rd.below (h:Rd w B A xs) (hb:Below B w w'):Rd w' B A xs:=h.keep fun _ hp=>hb.cell hp
theorem Rd.at_ (h:Rd w B A xs) {i:Nat} (hi:i<xs.length):∃ b off,A=some ⟨b,off,none⟩/\b<B/\w.cell? ⟨b,off+i,none⟩=some xs[i]:=h i _ (List.getElem?_eq_getElem hi)
theorem Rd.of_own {base:Nat} {e:TypeId} {size n c:Nat} (h:w.ownsRow base e size (.slice A n c) n xs):Rd w w.heap.size A xs:=fun i u hi=>by
 rcases h.2 with ⟨hv,rfl⟩ | ⟨g,cap,cur,hv,_,hg,_⟩
 ·have:=h.1;have hl:xs=[]:=List.eq_nil_of_length_eq_zero (by simpa using this);subst hl;simp at hi
 ·injection hv with hA;subst hA;refine ⟨g,0,rfl,(Array.getElem?_eq_some_iff.1 hg).1,?_⟩;have:=h.cells (g:=g) rfl i u hi
  have hadd:(⟨g,0,none⟩:Addr).add i=⟨g,0+i,none⟩:=by unfold Addr.add; split <;> simp_all
  rwa [hadd] at this
end

abbrev ints (k:IntKind) (zs:List Int):List Value:=zs.map (Value.int k)
theorem Rd.int {w:World} {B:Nat} {A:Option Addr} {k:IntKind} {zs:List Int} (h:Rd w B A (ints k zs)) {i:Nat} (hi:i<zs.length):
  ∃ b off,A=some ⟨b,off,none⟩/\b<B/\w.cell? ⟨b,off+i,none⟩=some (.int k zs[i]):=by
 obtain ⟨b,off,e,hb,hc⟩:=h.at_ (i:=i) (by simpa using hi);exact ⟨b,off,e,hb,by simpa using hc⟩
def InR (lo hi:Int) (zs:List Int):Prop:=∀ x ∈ zs,lo<=x/\x<=hi
theorem InR.at_ {lo hi:Int} {zs:List Int} (h:InR lo hi zs) {i:Nat} (hi':i<zs.length):lo<=zs[i]/\zs[i]<=hi:=h _ (List.getElem_mem hi')
def upTo (zs:List Int) (k:Nat):List Int:=zs.take k++List.replicate (zs.length - k) 0
theorem upTo_len (zs:List Int) (k:Nat) (h:k<=zs.length):(upTo zs k).length=zs.length:=by simp [upTo]; omega
theorem upTo_all (zs:List Int):upTo zs zs.length=zs:=by simp [upTo]
theorem upTo_set (zs:List Int) (k:Nat) (h:k<zs.length):(upTo zs k).set k zs[k]=upTo zs (k+1):=by
 have hl:(zs.take k).length=k:=by rw [List.length_take]; omega
 have e:zs.length - k=(zs.length - (k+1))+1:=by omega
 unfold upTo;rw [List.set_append_right _ _ (by omega),hl,Nat.sub_self,e,List.replicate_succ,List.set_cons_zero,List.take_succ_eq_append_getElem h,List.append_assoc]
 rfl
theorem setInts (k:IntKind) (zs:List Int) (i:Nat) (x:Int):(ints k zs).set i (.int k x)=ints k (zs.set i x):=by simp [ints,List.map_set]
theorem zero_cells (k:IntKind) (n:Nat):(madeCells (Value.int k 0).cells (n*1)).toList=ints k (List.replicate n 0):=by
 rw [show (Value.int k 0).cells=#[Value.int k 0] from rfl,toList_madeCells_one];simp [ints]
theorem zero_cells' (k:IntKind) (n:Nat):(madeCells #[Value.int k 0] n).toList=ints k (List.replicate n 0):=by
 rw [toList_madeCells_one];simp [ints]
theorem take_succ {α:Type} {zs:List α} {i:Nat} (h:i<zs.length):zs.take (i+1)=zs.take i++[zs[i]]:=by
 rw [List.take_succ_eq_append_getElem h]

/-! ### Appending one element to a row of the call's own -/
theorem cells_new (w:World) (cs:Array Value) (e:TypeId):∀ j u,cs.toList[j]?=some u->(w.alloc (.cells cs e)).cell? ((⟨w.heap.size,0,none⟩:Addr).add j)=some u:=by
 intro j u hj
 have hadd:(⟨w.heap.size,0,none⟩:Addr).add j=⟨w.heap.size,j,none⟩:=by unfold Addr.add; split <;> simp_all
 rw [hadd,cell_of_row (w.alloc (.cells cs e)) w.heap.size j cs e (0,0) (heap_alloc_new w _)]
 simpa using hj
theorem wpList_app1 {P:Program} (w:World) {ops:Array Oper} {rest:List Oper} {o:Oper} {a:Act} {Q:Exit->Act->World->Prop} (hgd:o.guard=none) (s x:Operand) (t:TypeId)
  (ho:o.op=.call { callee:=.builtin .append,args:=#[s,x],argTypes:=#[t,t] })
  (base:Nat) (e:TypeId) (i:TypeInfo) (z:Value) (size bytes:Nat) (ht:P.underlying t=some (.slice e)) (hi:P.info? e=some i) (hz:i.zero=some z)
  (hsize:i.size=size) (hby:i.bytes=bytes) (hzs:z.cells.size=size) (hsz:0<size)
  (cs:Array Value) (hx:a.eval x=.slice (some ⟨w.heap.size,0,none⟩) 1 1) (hcs:cs.size=size) (h1:∀ u ∈ cs.toList,u.oneCell'=true)
  (v:Value) (n:Nat) (xs:List Value) (hs:a.eval s=v) (hown:w.ownsRow base e size v n xs) (hn:n+1<=maxLen) (hbytes:(n+1)*bytes<=140737488355328) (hbase:base<=w.heap.size)
  (h:∀ A' n' c' w',n'=n+1->w'.ownsRow base e size (.slice A' n' c') n' (xs++cs.toList)->w.grownBy w' v.ownBlock->wpList P ops Q rest (a.put o.dst (.slice A' n' c')) w'):
  wpList P ops Q (o :: rest) a (w.alloc (.cells cs e)):=by
 refine wpList_append_own _ hgd s x t ho base e i z size bytes ht hi hz hsize hby hzs hsz v n xs hs (hown.alloc _) ⟨w.heap.size,0,none⟩ 1 1 cs.toList hx (by simpa using hcs) (cells_new w cs e) h1 hn hbytes (by simp; omega) ?_;intro v' w' hown' hg hnil;have hg':w.grownBy w' v.ownBlock:=⟨hg.os,hg.tape,hg.output,Nat.le_trans (by simp) hg.size,fun k hk hne=>(hg.block k (by simp; omega) hne).trans (Below.heap_alloc w _ k hk)⟩
 rcases hown'.2 with ⟨rfl,h0⟩ | ⟨g,cap,cur,rfl,r⟩
 ·omega
 ·exact h _ _ _ w' rfl hown' hg'

def RetInts (E:TypeId) (k:IntKind) (zs:List Int) (w:World) (e:Ending) (w':World):Prop:=
 ∃ A c,e=.returned (.slice A zs.length c)/\w'.ownsRow w.heap.size E 1 (.slice A zs.length c) zs.length (ints k zs)/\Below w.heap.size w w'
theorem RetInts.mk {E:TypeId} {k:IntKind} {zs:List Int} {w w':World} {A:Option Addr} {n c:Nat} (hn:n=zs.length) (ho:w'.ownsRow w.heap.size E 1 (.slice A n c) n (ints k zs)) (hb:Below w.heap.size w w'):
  RetInts E k zs w (.returned (.slice A n c)) w':=by
 subst hn;exact ⟨A,c,rfl,ho,hb⟩
theorem RetInts.nil {E:TypeId} {k:IntKind} {w w':World} (hb:Below w.heap.size w w'):RetInts E k [] w (.returned (.slice none 0 0)) w':=⟨none,0,rfl,World.ownsRow_nil _ _ _ _,hb⟩
theorem own_empty {w:World} {E:TypeId}:(w.alloc (.cells #[] E)).ownsRow w.heap.size E 1 (.slice (some ⟨w.heap.size,0,none⟩) 0 0) 0 []:=
 World.ownsRow_lit (base:=w.heap.size) (e:=E) (size:=1) w #[] 0 (Nat.le_refl _) (Nat.zero_le _) rfl
def Box (w:World) (g:Nat) (t:TypeId) (cs:Array Value):Prop:=w.heap[g]?=some (.cells cs t (0,0))
section
variable {w w':World} {g:Nat} {t:TypeId} {cs:Array Value}
theorem Box.lt (h:Box w g t cs):g<w.heap.size:=(Array.getElem?_eq_some_iff.1 h).1
theorem Box.cell (h:Box w g t cs) (i:Nat):w.cell? ⟨g,i,none⟩=cs[i]?:=cell_of_row w g i cs t (0,0) h
theorem Box.frozen (h:Box w g t cs) (i:Nat):w.frozen? ⟨g,i,none⟩=false:=frozen_of_row w g i cs t h
theorem Box.new (w:World) (t:TypeId) (cs:Array Value):Box (w.alloc (.cells cs t)) w.heap.size t cs:=heap_alloc_new w _
theorem Box.drew (h:Box w g t cs):Box w.drew g t cs:=h
theorem Box.drewN (h:Box w g t cs) (n:Nat):Box (w.drewN n) g t cs:=h
theorem Box.alloc (h:Box w g t cs) (o:Obj):Box (w.alloc o) g t cs:=(Below.heap_alloc w o g h.lt).trans h
theorem Box.set (h:Box w g t cs) (i:Nat) (u:Value):Box (w.setCell ⟨g,i,none⟩ u) g t (cs.setIfInBounds i u):=heap_setCell_same w g i cs t u h
theorem Box.far (h:Box w g t cs) {p:Addr} (hp:g ≠ p.block) (u:Value):Box (w.setCell p u) g t cs:=(Below.heap_setCell w p u g hp).trans h
theorem Box.below {B:Nat} (h:Box w g t cs) (hb:Below B w w') (hg:g<B):Box w' g t cs:=(hb.block g hg).trans h
theorem Box.call (h:Box w g t cs) (hb:Below w.heap.size w w'):Box w' g t cs:=h.below hb h.lt
end

/-! ### Bits -/
theorem ints_snoc (k:IntKind) (zs:List Int) (x:Int):ints k zs++[Value.int k x]=ints k (zs++[x]):=by simp [ints]
abbrev cellsOf {α:Type} (f:α->List Value) (xs:List α):List Value:=xs.flatMap f
theorem cellsOf_len {α:Type} {f:α->List Value} {C:Nat} (hf:∀ x,(f x).length=C) (xs:List α):(cellsOf f xs).length=xs.length*C:=by
 induction xs with
 | nil=>simp [cellsOf]
 | cons x r ih=>simp only [cellsOf,List.flatMap_cons,List.length_append,hf] at *; rw [ih,List.length_cons,Nat.add_mul]; omega
theorem cellsOf_at {α:Type} {f:α->List Value} {C:Nat} (hf:∀ x,(f x).length=C) (xs:List α) (k j:Nat) (hk:k<xs.length) (hj:j<C):(cellsOf f xs)[k*C+j]?=(f xs[k])[j]?:=by
 induction xs generalizing k with
 | nil=>simp at hk
 | cons x r ih=>
  simp only [cellsOf,List.flatMap_cons]
  cases k with
  | zero=>rw [List.getElem?_append_left (by rw [hf]; omega)]; simp
  | succ k=>
   rw [List.getElem?_append_right (by rw [hf,Nat.add_mul]; omega),hf,show (k+1)*C+j - C=k*C+j by rw [Nat.add_mul]; omega];exact ih k (by simpa using hk)
theorem Rd.row {α:Type} {f:α->List Value} {C:Nat} {w:World} {B:Nat} {A:Option Addr} {xs:List α} (hf:∀ x,(f x).length=C) (hC:0<C) (h:Rd w B A (cellsOf f xs)) {k:Nat} (hk:k<xs.length):
  ∃ b off,A=some ⟨b,off,none⟩/\b<B/\∀ j u,(f xs[k])[j]?=some u->w.cell? ⟨b,off+k*C+j,none⟩=some u:=by
 have h0:(f xs[k])[0]?=some ((f xs[k])[0]'(by rw [hf]; exact hC)):=List.getElem?_eq_getElem _;obtain ⟨b,off,rfl,hb,_⟩:=h (k*C+0) _ ((cellsOf_at hf xs k 0 hk hC).trans h0);refine ⟨b,off,rfl,hb,fun j u hu=>?_⟩
 have hj:j<C:=by
  have:=(List.getElem?_eq_some_iff.1 hu).1
  rwa [hf] at this
 obtain ⟨b',off',e,_,hc⟩:=h (k*C+j) u ((cellsOf_at hf xs k j hk hj).trans hu);simp only [Option.some.injEq,Addr.mk.injEq,and_true] at e;obtain ⟨rfl,rfl⟩:=e;rw [Nat.add_assoc];exact hc
theorem own_cap {w:World} {base:Nat} {e:TypeId} {size n c:Nat} {A:Option Addr} {xs:List Value} (h:w.ownsRow base e size (.slice A n c) n xs):n<=c:=by
 rcases h.2 with ⟨_,h0⟩ | ⟨g,cap,cur,hv,_,_,hn,_⟩
 ·omega
 ·injection hv with _ _ hc;omega
theorem own_call {w w':World} {base:Nat} {e:TypeId} {size n:Nat} {v:Value} {xs:List Value} (hb:Below w.heap.size w w') (h:w.ownsRow base e size v n xs):w'.ownsRow base e size v n xs:=by
 refine ⟨h.1,?_⟩
 rcases h.2 with hn | ⟨g,cap,cur,rfl,hbg,hg,rest⟩
 ·exact .inl hn
 ·exact .inr ⟨g,cap,cur,rfl,hbg,(hb.block g (Array.getElem?_eq_some_iff.1 hg).1).trans hg,rest⟩
theorem own_old {w:World} {base:Nat} {e:TypeId} {size g n cap:Nat} {xs:List Value} (h:w.ownsRow base e size (.slice (some ⟨g,0,none⟩) n cap) n xs) {j:Nat} (hj:j<n*size):
  (∃ u,w.cell? ⟨g,j,none⟩=some u)/\w.frozen? ⟨g,j,none⟩=false:=by
 refine ⟨⟨xs[j]'(by rw [h.1]; exact hj),?_⟩,h.frozenAt j⟩;rw [h.cellAt j hj];exact List.getElem?_eq_getElem _
theorem own_put {w:World} {base:Nat} {e:TypeId} {size g n cap:Nat} {pre xs:List Value} {j:Nat} (h:w.ownsRow base e size (.slice (some ⟨g,0,none⟩) n cap) n (pre++xs)) (hp:pre.length=j) (hj:j<n*size) (u:Value):
  (w.setCell ⟨g,j,none⟩ u).ownsRow base e size (.slice (some ⟨g,0,none⟩) n cap) n ((pre++[u])++xs.tail):=by
 have hs:=(h.stored j u).1;have hl:=h.1;rw [List.length_append] at hl
 cases xs with
 | nil=>simp at hl; omega
 | cons x r=>
  rw [List.set_append_right _ _ (by omega),hp,Nat.sub_self,List.set_cons_zero] at hs
  simpa using hs
theorem grown_put {w wr:World} {g n c j:Nat} {u:Value} (h:w.grownBy wr (Value.slice (some ⟨g,0,none⟩) n c).ownBlock):w.grownBy (wr.setCell ⟨g,j,none⟩ u) (Value.slice (some ⟨g,0,none⟩) n c).ownBlock:=
 ⟨h.os,h.tape,h.output,by simpa [World.setCell] using h.size,fun k hk hne=>(Below.heap_setCell wr ⟨g,j,none⟩ u k (fun e=>hne (by simp [Value.ownBlock,e]))).trans (h.block k hk hne)⟩

/-! ### Arguments as they come in: cells that read as data of a type -/
def Trd (P:Program) (w:World) (t:TypeId) (cs:List Value):Prop:=
 ∃ (H:Type) (enc:TypeId × Value->H) (base:Nat) (sp:Nat->Bool) (held:Bool) (fuel:Nat) (x:DataW H × List MemPlace),DataW.trod enc P w base sp held fuel t cs=some x

section
variable {P:Program} {w:World} {t e:TypeId} {cs:List Value}
theorem Trd.of_trod {H:Type} {enc:TypeId × Value->H} {base:Nat} {sp:Nat->Bool} {held:Bool} {v:Value} {d:DataW H} {ps:List MemPlace} (h:DataW.Trod enc P w base sp held t v d ps):Trd P w t v.cells.toList:=by
 obtain ⟨fuel,h⟩:=h;exact ⟨H,enc,base,sp,held,fuel,_,h⟩
theorem Trd.int {k:IntKind} (ht:P.underlying t=some (.int k)) (h:Trd P w t cs):∃ n,cs=[.int k n]/\(Lit.int k n).wf=true:=by
 obtain ⟨H,enc,base,sp,held,fuel,x,h⟩:=h;obtain ⟨n,h1,_,h2⟩:=DataW.trod_int ht h;exact ⟨n,h1,h2⟩
theorem Trd.str (ht:P.underlying t=some .string) (h:Trd P w t cs):∃ s:ByteArray,cs=[.string s]/\s.size<=maxLen:=by
 obtain ⟨H,enc,base,sp,held,fuel,x,h⟩:=h;obtain ⟨s,h1,_,h2⟩:=DataW.trod_string ht h;exact ⟨s,h1,h2⟩
theorem Trd.fields {fs:Array Field} (ht:P.underlying t=some (.struct fs)) (hone:oneCellFields P fs=true) (h:Trd P w t cs):
  cs.length=P.cellsOf t/\∀ (j:Nat) (f:Field),fs[j]?=some f->∀ v,cs[j]?=some v->Trd P w f.type [v]:=by
 obtain ⟨H,enc,base,sp,held,fuel,x,h⟩:=h;obtain ⟨xs,n,_,_,hl,hxl,hg⟩:=DataW.trod_struct ht h;refine ⟨hl,fun j f hj v hv=>?_⟩;obtain ⟨ho,hk⟩:=hone_of hone j f hj;have h1:=hg j f hj;rw [ho,hk] at h1;have hjl:j<fs.size:=(Array.getElem?_eq_some_iff.1 hj).1;have hjc:j<cs.length:=(List.getElem?_eq_some_iff.1 hv).1
 have e1:(cs.drop j).take 1=[v]:=by
  rw [List.drop_eq_getElem_cons hjc];have:cs[j]=v:=(List.getElem?_eq_some_iff.1 hv).2;rw [this]
  rfl
 rw [e1] at h1;exact ⟨H,enc,base,sp,held,n,xs[j]'(by omega),h1.trans (List.getElem?_eq_getElem (by omega))⟩

theorem flatten_at {rows:List (List Value)} {C:Nat} (hC:∀ r ∈ rows,r.length=C):∀ (i:Nat) (u:Value),rows.flatten[i]?=some u →
  ∃ q j r,i=q*C+j/\j<C/\rows[q]?=some r/\r[j]?=some u:=by
 induction rows with
 | nil=>intro i u h; simp at h
 | cons r rs ih=>
  intro i u h;have hr:=hC r (by simp);rw [List.flatten_cons] at h
  by_cases hi:i<r.length
  ·rw [List.getElem?_append_left hi] at h;exact ⟨0,i,r,by omega,by omega,rfl,h⟩
  ·rw [List.getElem?_append_right (by omega)] at h;obtain ⟨q,j,r',h1,h2,h3,h4⟩:=ih (fun x hx=>hC x (by simp [hx])) _ u h;exact ⟨q+1,j,r',by rw [Nat.add_mul]; omega,h2,by simpa using h3,h4⟩

theorem addr_form {a:Addr} (hs:a.spot=none) (i:Nat):a=⟨a.block,a.off,none⟩/\a.add i=⟨a.block,a.off+i,none⟩:=by
 obtain ⟨b,off,sp⟩:=a;subst hs;refine ⟨rfl,?_⟩;unfold Addr.add
 split <;> simp_all

theorem Trd.slice (ht:P.underlying t=some (.slice e)) (h:Trd P w t cs):
  ∃ (A:Option Addr) (n c:Nat) (rows:List (List Value)),cs=[.slice A n c]/\n<=c/\c<=maxLen/\rows.length=n/\(∀ r ∈ rows,r.length=P.cellsOf e/\Trd P w e r)/\Rd w w.heap.size A rows.flatten:=by
 obtain ⟨H,enc,base,sp,held,fuel,x,h⟩:=h
 rcases Go.Deep.open_slice ht h with ⟨rfl,_⟩ | ⟨a,len,cap,m,n,D,Pl,rfl,_,hl,hm,hmm,_,hi⟩
 ·exact ⟨none,0,0,[],rfl,Nat.le_refl _,Nat.zero_le _,rfl,by simp,Rd.nil _⟩
 ·have hlm:len<=m:=by rw [hmm]; split <;> omega
  have hex:∀ i:Fin len,∃ cs',w.cells? base (a.add (i*P.cellsOf e)) (P.cellsOf e)=some cs'/\DataW.trod enc P w base sp held n e cs'=some (D i,Pl i):=fun i=>hi i (by omega);refine ⟨some a,len,cap,List.ofFn fun i=>(hex i).choose,rfl,hl,hm,by simp,?_,?_⟩
  ·intro r hr;obtain ⟨i,rfl⟩:=List.mem_ofFn.1 hr;obtain ⟨h1,h2⟩:=(hex i).choose_spec;exact ⟨(World.cells?_some h1).2.1,H,enc,base,sp,held,n,_,h2⟩
  ·intro i u hu
   have hC:∀ r ∈ List.ofFn fun i=>(hex i).choose,r.length=P.cellsOf e:=by
    intro r hr;obtain ⟨i,rfl⟩:=List.mem_ofFn.1 hr;exact (World.cells?_some (hex i).choose_spec.1).2.1
   obtain ⟨q,j,r,rfl,hj,hq,hu'⟩:=flatten_at hC i u hu
   have hql:q<len:=by have:=(List.getElem?_eq_some_iff.1 hq).1; simpa using this
   have hr:(hex ⟨q,hql⟩).choose=r:=by
    rw [List.getElem?_eq_getElem (by simpa using hql)] at hq
    simpa using hq
   have h1:=(World.cells?_some (hex ⟨q,hql⟩).choose_spec.1).2.2 j hj;rw [hr,hu',Go.Deep.add_add] at h1;have h0:=(World.cells?_some (hex ⟨0,by omega⟩).choose_spec.1).2.2 0 (by omega);have hc0:=(World.cells?_some (hex ⟨0,by omega⟩).choose_spec.1).2.1;rw [List.getElem?_eq_getElem (by omega),Go.Deep.add_add] at h0
   have hsp:a.spot=none:=by simpa [Addr.add] using World.cell?_spot h0
   obtain ⟨e1,e2⟩:=addr_form hsp (q*P.cellsOf e+j);have hb:=World.block_lt_of_cell? _ _ h1;rw [e2] at h1 hb;exact ⟨a.block,a.off,by rw [<-e1],hb,h1⟩

theorem rows_of {α:Type} {rows:List (List Value)} {f:α->List Value} {p:α->Prop} (h:∀ r ∈ rows,∃ x,r=f x/\p x):∃ xs:List α,rows=xs.map f/\∀ x ∈ xs,p x:=by
 induction rows with
 | nil=>exact ⟨[],rfl,by simp⟩
 | cons r rs ih=>
  obtain ⟨xs,rfl,hx⟩:=ih fun r hr=>h r (by simp [hr]);obtain ⟨x,rfl,hp⟩:=h r (by simp);exact ⟨x :: xs,rfl,by simpa using ⟨hp,hx⟩⟩
theorem flatten_one (k:IntKind) (zs:List Int):(zs.map fun z=>[Value.int k z]).flatten=ints k zs:=by
 induction zs with
 | nil=>rfl
 | cons z r ih=>simp_all [ints]

theorem Trd.ints {k:IntKind} (ht:P.underlying t=some (.slice e)) (he:P.underlying e=some (.int k)) (h:Trd P w t cs):
  ∃ (A:Option Addr) (zs:List Int) (c:Nat),cs=[.slice A zs.length c]/\zs.length<=c/\c<=maxLen/\Rd w w.heap.size A (ints k zs)/\∀ z ∈ zs,(Lit.int k z).wf=true:=by
 obtain ⟨A,n,c,rows,rfl,hn,hc,rfl,hr,hrd⟩:=Trd.slice ht h;obtain ⟨zs,rfl,hz⟩:=rows_of (f:=fun z=>[Value.int k z]) (p:=fun z=>(Lit.int k z).wf=true) fun r hr'=>(hr r hr').2.int he;rw [flatten_one] at hrd;simp only [List.length_map] at hn ⊢;exact ⟨A,zs,c,rfl,hn,hc,hrd,hz⟩
theorem arg_slice {α:Type} {f:α->List Value} {p:α->Prop} {H:Type} {enc:TypeId × Value->H} {base b0:Nat} {sp:Nat->Bool} {held:Bool} {r:Reach} {v:Value} {d:DataW H} {ps:List MemPlace} (ht:P.underlying t=some (.slice e))
  (hrow:∀ cs,cs.length=P.cellsOf e->Trd P w e cs->∃ x,cs=f x/\p x) (hv:Value.okWide P w r b0 t v) (h:DataW.Trod enc P w base sp held t v d ps):
  ∃ (A:Option Addr) (xs:List α) (c:Nat),v=.slice A xs.length c/\xs.length<=c/\c<=maxLen/\(∀ x ∈ xs,p x)/\Rd w w.heap.size A (cellsOf f xs):=by
 obtain ⟨a,l,c,rfl⟩:=okWide_slice ht hv;obtain ⟨A,n,c',rows,e1,h1,h2,h3,h4,h5⟩:=(Trd.of_trod h).slice ht;simp [Value.cells] at e1;obtain ⟨rfl,rfl,rfl⟩:=e1;obtain ⟨xs,rfl,hx⟩:=rows_of (f:=f) (p:=p) fun r hr=>hrow r (h4 r hr).1 (h4 r hr).2;simp only [List.length_map] at h3;subst h3;refine ⟨_,xs,_,rfl,h1,h2,hx,?_⟩
 simpa [cellsOf,List.flatMap] using h5
end
end Kit
/- A region that draws its order: loads and what only computes are taken first under a condition on the world,which need not hold behind the operations that wait for all of them (a store into a cell that was loaded). -/
namespace Reg
open Go
section
variable {P:Program} {ops:Array Oper} {Q:Exit->Act->World->Prop} {md:Region.Mode} {S:World->Prop} {T:Nat->Bool}
def wpAnyT (P:Program) (md:Region.Mode) (ops:Array Oper) (Q:Exit->Act->World->Prop) (S:World->Prop) (T:Nat->Bool):Nat->Array Bool->Act->World->Prop
 | 0,listed,a,w=>Region.ready md ops listed=[]/\Q .normal a w
 | fuel+1,listed,a,w=>
  (Region.ready md ops listed=[]->Q .normal a w) ∧
  ∀ i ∈ Region.ready md ops listed,wpOp P ops Q i (fun a' w'=>(T i=false->S w')/\wpAnyT P md ops Q S T fuel (listed.setIfInBounds i true) a' w') a w
theorem wpAny_of_T:∀ (fuel:Nat) (listed:Array Bool) (a:Act) (w:World),wpAnyT P md ops Q S T fuel listed a w->wpAny P md ops Q fuel listed a w
 | 0,_,_,_,h=>h
 | fuel+1,_,_,_,h=>⟨h.1,fun i hi=>wpOp_mono (fun a' w' h'=>wpAny_of_T fuel _ a' w' h'.2) (h.2 i hi)⟩
def waits (md:Region.Mode) (o:Oper) (i:Nat):Bool:=o.after.any fun e=>Region.binds md e && e.on == i
theorem wpAnyT_first {i:Nat} {oi:Oper} {v:Value} (hi:ops[i]?=some oi) (hsel:∀ (j:Nat) (o:Oper) cs b,ops[j]?=some o->o.op ≠ .select cs b)
  (hQ:∀ c a w,Q (.panic c) (a.put oi.dst v) w->Q (.panic c) a w) (hT:∀ (j:Nat) (o:Oper),ops[j]?=some o->T j=true->j ≠ i->waits md o i=true):
  ∀ (fuel:Nat) (listed:Array Bool) (a:Act) (w:World),
   (∀ j oj,ops[j]?=some oj->j ≠ i->listed.getD j true=false->(∀ e ∈ oj.after,Region.binds md e=true->e.on ≠ i)->oi.apart ops oj=true) →
   i ∈ Region.ready md ops listed->YieldsIf P ops S oi v a->S w →
   wpAnyT P md ops Q S T fuel (listed.setIfInBounds i true) (a.put oi.dst v) w->wpAnyT P md ops Q S T (fuel+1) listed a w:=by
 intro fuel
 induction fuel with
 | zero=>
  intro listed a w _ hr hy hS H;refine ⟨fun h=>(by rw [h] at hr; cases hr),fun j hj=>?_⟩
  by_cases hji:j=i
  ·subst hji;exact hy.wpOp hi hS ⟨fun _=>hS,H⟩
  ·have:=ready_mono hj hji;rw [H.1] at this
   cases this
 | succ fuel ih=>
  intro listed a w hfree hr hy hS H;refine ⟨fun h=>(by rw [h] at hr; cases hr),fun j hj=>?_⟩
  by_cases hji:j=i
  ·subst hji;exact hy.wpOp hi hS ⟨fun _=>hS,H⟩
  ·have h1:=H.2 j (ready_mono hj hji);obtain ⟨hjun,oj,hoj,hall⟩:=mem_ready.1 hj
   have hnot:∀ e ∈ oj.after,Region.binds md e=true->e.on ≠ i:=fun e he hb heq=>by
    have h1:=hall e he hb;have h0:=(mem_ready.1 hr).1;rw [heq] at h1
    rcases Nat.lt_or_ge i listed.size with h' | h'
    ·simp [h'] at h0 h1;rw [h0] at h1
     cases h1
    ·simp [Array.getElem?_eq_none h'] at h1
   have hTj:T j=false:=by
    cases hT':T j
    ·rfl
    ·have:=hT j oj hoj hT' hji;unfold waits at this;rw [Array.any_eq_true] at this;obtain ⟨k,hk,he⟩:=this;simp only [Bool.and_eq_true,beq_iff_eq] at he;exact absurd he.2 (hnot _ (Array.getElem_mem hk) he.1)
   have h2:=wpOp_putIf hoj (hfree j oj hoj hji hjun hnot) (fun cs b=>hsel i oi cs b hi) (fun cs b=>hsel j oj cs b hoj) hQ hy h1
   have hfree':∀ k ok,ops[k]?=some ok->k ≠ i->(listed.setIfInBounds j true).getD k true=false →
     (∀ e ∈ ok.after,Region.binds md e=true->e.on ≠ i)->oi.apart ops ok=true:=fun k ok hk hki hun hno=>by
    refine hfree k ok hk hki ?_ hno
    by_cases hjk:j=k
    ·subst hjk;exact hjun
    ·rw [getD_set_ne true hjk] at hun;exact hun
   refine wpOp_mono (fun a' w' h3=>⟨h3.2.1,ih (listed.setIfInBounds j true) a' w' hfree' (ready_mono hr (Ne.symm hji)) h3.1 (h3.2.1 hTj) ?_⟩) h2;rw [Array.setIfInBounds_comm _ _ hji];exact h3.2.2
def allWait (md:Region.Mode) (ops:Array Oper) (T:Nat->Bool) (i:Nat):Bool:=(List.range ops.size).all fun j=>!T j || j == i || match ops[j]? with | some o=>waits md o i | none=>true
theorem allWait_spec {i:Nat} (h:allWait md ops T i=true):∀ (j:Nat) (o:Oper),ops[j]?=some o->T j=true->j ≠ i->waits md o i=true:=by
 intro j o ho ht hne;have hj:j<ops.size:=(Array.getElem?_eq_some_iff.1 ho).1;have:=List.all_eq_true.1 h j (List.mem_range.2 hj);rw [ho] at this
 simpa [ht,hne] using this
theorem takeT {i:Nat} {oi:Oper} {v:Value} {fuel:Nat} {listed:Array Bool} {a:Act} {w:World} (hi:ops[i]?=some oi)
  (hs:Region.noSelect ops=true) (hf:Region.free md ops listed i=true) (hr:(Region.ready md ops listed).contains i=true) (hT:allWait md ops T i=true)
  (hQ:∀ c a w,Q (.panic c) (a.put oi.dst v) w->Q (.panic c) a w) (hy:YieldsIf P ops S oi v a) (hS:S w)
  (h:wpAnyT P md ops Q S T fuel (listed.setIfInBounds i true) (a.put oi.dst v) w):wpAnyT P md ops Q S T (fuel+1) listed a w:=
 wpAnyT_first hi (Region.noSelect_spec hs) hQ (allWait_spec hT) fuel listed a w (Region.free_spec hi hf) (by simpa using hr) hy hS h
theorem oneT {i:Nat} {o:Oper} {fuel:Nat} {listed:Array Bool} {a:Act} {w:World} (ho:ops[i]?=some o) (hr:Region.ready md ops listed=[i])
  (h:∀ K:Act->World->Prop,Shut (∀ a w,S w->wpAnyT P md ops Q S T fuel (listed.setIfInBounds i true) a w->K a w)->if Region.wanted o (yielded ops a.tmps)=true then Oper.wp P o a w K Q else K (a.put o.dst undef) w):
  wpAnyT P md ops Q S T (fuel+1) listed a w:=
 ⟨fun h0=>(by rw [hr] at h0; cases h0),fun j hj=>by
  rw [hr] at hj;simp only [List.mem_singleton] at hj;subst hj
  exact wpOp_step ho (fun K' hK=>h K' (fun a w hS hW=>hK a w ⟨fun _=>hS,hW⟩))⟩
theorem twoT {i j:Nat} {oi oj:Oper} {fuel:Nat} {listed:Array Bool} {a:Act} {w:World} (hoi:ops[i]?=some oi) (hoj:ops[j]?=some oj) (hr:Region.ready md ops listed=[i,j])
  (h:∀ K:Act->World->Prop,Shut (∀ a w,S w->wpAnyT P md ops Q S T fuel (listed.setIfInBounds i true) a w->K a w)->if Region.wanted oi (yielded ops a.tmps)=true then Oper.wp P oi a w K Q else K (a.put oi.dst undef) w)
  (h':∀ K:Act->World->Prop,Shut (∀ a w,S w->wpAnyT P md ops Q S T fuel (listed.setIfInBounds j true) a w->K a w)->if Region.wanted oj (yielded ops a.tmps)=true then Oper.wp P oj a w K Q else K (a.put oj.dst undef) w):
  wpAnyT P md ops Q S T (fuel+1) listed a w:=
 ⟨fun h0=>(by rw [hr] at h0; cases h0),fun k hk=>by
  rw [hr] at hk;simp only [List.mem_cons,List.not_mem_nil,or_false] at hk
  rcases hk with rfl | rfl
  ·exact wpOp_step hoi (fun K' hK=>h K' (fun a w hS hW=>hK a w ⟨fun _=>hS,hW⟩))
  ·exact wpOp_step hoj (fun K' hK=>h' K' (fun a w hS hW=>hK a w ⟨fun _=>hS,hW⟩))⟩
theorem lastT {i:Nat} {o:Oper} {fuel:Nat} {listed:Array Bool} {a:Act} {w:World} (ho:ops[i]?=some o) (hr:Region.ready md ops listed=[i]) (hT:T i=true)
  (h:∀ K:Act->World->Prop,Shut (∀ a w,wpAnyT P md ops Q S T fuel (listed.setIfInBounds i true) a w->K a w)->if Region.wanted o (yielded ops a.tmps)=true then Oper.wp P o a w K Q else K (a.put o.dst undef) w):
  wpAnyT P md ops Q S T (fuel+1) listed a w:=
 ⟨fun h0=>(by rw [hr] at h0; cases h0),fun j hj=>by
  rw [hr] at hj;simp only [List.mem_singleton] at hj;subst hj
  exact wpOp_step ho (fun K' hK=>h K' (fun a w hW=>hK a w ⟨fun hF=>(by rw [hT] at hF; cases hF),hW⟩))⟩
theorem doneT {listed:Array Bool} {a:Act} {w:World} (hr:Region.ready md ops listed=[]) (h:Q .normal a w):∀ fuel,wpAnyT P md ops Q S T fuel listed a w
 | 0=>⟨hr,h⟩
 | _+1=>⟨fun _=>h,by rw [hr]; simp⟩
theorem startT {id:Nat} {a:Act} {w:World} (S:World->Prop) (T:Nat->Bool) (hm:P.follows .mixedOrders=true)
  (h:wpAnyT P .any ops Q S T ops.size (Array.replicate ops.size false) a w.drew):(Code.region id ops true).wp P Q a w:=
 wp_region_any hm (wpAny_of_T _ _ _ _ h)
end
end Reg
/- More of the common ground. -/
namespace Kit

theorem own_base {w:World} {base base':Nat} {e:TypeId} {size:Nat} {v:Value} {n:Nat} {xs:List Value} (h:w.ownsRow base e size v n xs) (hb:base'<=base):w.ownsRow base' e size v n xs:=
 ⟨h.1,h.2.imp id fun ⟨g,cap,cur,a,b,r⟩=>⟨g,cap,cur,a,Nat.le_trans hb b,r⟩⟩
theorem own_capm {w:World} {base:Nat} {e:TypeId} {size n c:Nat} {A:Option Addr} {xs:List Value} (h:w.ownsRow base e size (.slice A n c) n xs):c<=maxLen:=by
 rcases h.2 with ⟨hv,_⟩ | ⟨g,cap,cur,hv,_,_,_,hc,_⟩
 ·injection hv with _ _ h3;omega
 ·injection hv with _ _ h3;omega
end Kit
/- More of the common ground: a block known whole beside rows of the call's own. -/
namespace Kit

theorem own_keep {w w':World} {base:Nat} {e:TypeId} {size n:Nat} {v:Value} {xs:List Value} (h:w.ownsRow base e size v n xs) (hk:∀ k,v.ownBlock=some k->w'.heap[k]?=w.heap[k]?):w'.ownsRow base e size v n xs:=by
 refine ⟨h.1,?_⟩
 rcases h.2 with hn | ⟨g,cap,cur,rfl,hbg,hg,rest⟩
 ·exact .inl hn
 ·exact .inr ⟨g,cap,cur,rfl,hbg,(hk g rfl).trans hg,rest⟩
theorem own_box {w:World} {base X:Nat} {e t:TypeId} {size n:Nat} {v:Value} {xs:List Value} {cs:Array Value} (h:w.ownsRow base e size v n xs) (hb:Box w X t cs) (hne:e ≠ t):∀ k,v.ownBlock=some k->k ≠ X:=by
 intro k hk hX;subst hX
 rcases h.2 with ⟨rfl,_⟩ | ⟨g,cap,cur,rfl,_,hg,_⟩
 ·cases hk
 ·obtain rfl:g=k:=by simpa [Value.ownBlock] using hk
  have:=hb.symm.trans hg;simp at this;exact hne this.2.symm
theorem Box.grown {w w':World} {X:Nat} {t:TypeId} {cs:Array Value} {row:Option Nat} (h:Box w X t cs) (hg:w.grownBy w' row) (hr:∀ k,row=some k->k ≠ X):Box w' X t cs:=
 (hg.block X h.lt (fun e=>hr X e.symm rfl)).trans h
theorem grown_trans {a w w':World} {row:Option Nat} (h:a.grownBy w row) (k:w.grownBy w' row):a.grownBy w' row:=
 ⟨k.os.trans h.os,k.tape.trans h.tape,k.output.trans h.output,Nat.le_trans h.size k.size,fun i hi hr=>(k.block i (Nat.lt_of_lt_of_le hi h.size) hr).trans (h.block i hi hr)⟩
theorem grown_below {a w w':World} {row:Option Nat} (h:a.grownBy w row) (hb:Below w.heap.size w w'):a.grownBy w' row:=
 grown_trans h ⟨hb.os,hb.tape,hb.output,hb.size,fun i hi _=>hb.block i hi⟩
theorem oneI {k:IntKind} {zs:List Int}:∀ u ∈ ints k zs,u.oneCell'=true:=by
 intro u hu;obtain ⟨z,_,rfl⟩:=List.mem_map.1 hu
 rfl
end Kit
/- More of the common ground: a list that is read,appended to a row of the call's own. -/
namespace Kit

theorem own_nil {w:World} {base:Nat} {e:TypeId} {size n c:Nat} {A:Option Addr} {xs:List Value} (h:w.ownsRow base e size (.slice A n c) n xs):A=none->c=0:=by
 intro hA
 rcases h.2 with ⟨hv,_⟩ | ⟨g,cap,cur,hv,_⟩
 ·injection hv
 ·injection hv with hA';rw [hA] at hA'
  cases hA'
theorem own_prefix {w:World} {base n c k:Nat} {e:TypeId} {size:Nat} {A:Option Addr} {xs:List Value} (h:w.ownsRow base e size (.slice A n c) n xs) (hk:k<=n):w.ownsRow base e size (.slice A k c) k (xs.take (k*size)):=by
 have hle:k*size<=n*size:=Nat.mul_le_mul_right _ hk;refine ⟨by rw [List.length_take,h.1]; omega,?_⟩
 rcases h.2 with ⟨hv,h0⟩ | ⟨g,cap,cur,hv,hb,hg,hn,hc,hs,ht⟩
 ·left
  injection hv with hA _ hc;subst hA hc h0
  have:k=0:=by omega
  subst this;exact ⟨rfl,rfl⟩
 ·right
  injection hv with hA _ hc';subst hA hc';refine ⟨g,c,cur,rfl,hb,hg,by omega,hc,hs,?_⟩;rw [<-ht,List.take_take]
  congr 1
  omega
end Kit
/- More of the common ground: rows (empty without room,or the call's own),and one law of append for all of them. -/
namespace Kit

def blk (A:Option Addr) (c:Nat):Option Nat:=if c=0 then none else A.map (·.block)
def Row (w:World) (base:Nat) (e:TypeId) (size:Nat) (A:Option Addr) (n c:Nat) (xs:List Value):Prop:=
 (n=0/\c=0/\xs=[])\/w.ownsRow base e size (.slice A n c) n xs
section
variable {w w':World} {base:Nat} {e:TypeId} {size n c:Nat} {A:Option Addr} {xs:List Value}
theorem Row.own (h:w.ownsRow base e size (.slice A n c) n xs):Row w base e size A n c xs:=.inr h
theorem Row.empty (w:World) (base:Nat) (e:TypeId) (size:Nat) (A:Option Addr):Row w base e size A 0 0 []:=.inl ⟨rfl,rfl,rfl⟩
theorem Row.lt (h:Row w base e size A n c xs):∀ k,blk A c=some k->base<=k/\k<w.heap.size:=by
 intro k hk
 rcases h with ⟨_,rfl,_⟩ | h
 ·cases hk
 ·rcases h.2 with ⟨hv,_⟩ | ⟨g,cap,cur,hv,r⟩
  ·injection hv with _ _ hc;subst hc
   cases hk
  ·unfold blk at hk
   split at hk
   ·cases hk
   ·refine h.lt k ?_;injection hv with hA;subst hA
    simpa [Value.ownBlock] using hk
theorem Row.keep (h:Row w base e size A n c xs) (hk:∀ k,blk A c=some k->w'.heap[k]?=w.heap[k]?):Row w' base e size A n c xs:=by
 rcases h with h | h
 ·exact .inl h
 ·by_cases hc:c=0
  ·subst hc;refine .inl ⟨Nat.le_zero.1 (own_cap h),rfl,?_⟩;have h0:n=0:=Nat.le_zero.1 (own_cap h);subst h0;exact List.eq_nil_of_length_eq_zero (by simpa using h.1)
  ·refine .inr (own_keep h fun k hk'=>hk k ?_);unfold blk;rw [if_neg hc]
   cases A with
   | none=>cases hk'
   | some a=>simpa [Value.ownBlock] using hk'
theorem Row.call (h:Row w base e size A n c xs) (hb:Below w.heap.size w w'):Row w' base e size A n c xs:=h.keep fun k hk=>hb.block k (h.lt k hk).2
theorem Row.alloc (h:Row w base e size A n c xs) (o:Obj):Row (w.alloc o) base e size A n c xs:=h.call ((Below.refl _ _).alloc (Nat.le_refl _) o)
theorem Row.drew (h:Row w base e size A n c xs):Row w.drew base e size A n c xs:=h.keep fun _ _=>rfl
theorem Row.drewN (h:Row w base e size A n c xs) (m:Nat):Row (w.drewN m) base e size A n c xs:=h.keep fun _ _=>rfl
theorem Row.grown (h:Row w base e size A n c xs) {v:Option Nat} (g:w.grownBy w' v) (hv:∀ k,blk A c=some k->v ≠ some k):Row w' base e size A n c xs:=h.keep fun k hk=>g.block k (h.lt k hk).2 (fun e=>hv k hk e.symm)
theorem Row.set (h:Row w base e size A n c xs) {a:Addr} (ha:∀ k,blk A c=some k->k ≠ a.block) (u:Value):Row (w.setCell a u) base e size A n c xs:=h.keep fun k hk=>Below.heap_setCell w a u k (ha k hk)
theorem Row.down (h:Row w base e size A n c xs) {b:Nat} (hb:b<=base):Row w b e size A n c xs:=h.imp id fun h=>own_base h hb
theorem Row.rd (h:Row w base e size A n c xs):Rd w w.heap.size A xs:=by
 rcases h with ⟨_,_,rfl⟩ | h
 ·exact Rd.nil _
 ·exact Rd.of_own h
theorem Row.length (h:Row w base e size A n c xs):xs.length=n*size:=by
 rcases h with ⟨rfl,_,rfl⟩ | h
 ·simp
 ·exact h.1
theorem Row.cap (h:Row w base e size A n c xs):n<=c/\c<=maxLen:=by
 rcases h with ⟨rfl,rfl,_⟩ | h
 ·exact ⟨Nat.le_refl _,Nat.zero_le _⟩
 ·exact ⟨own_cap h,own_capm h⟩
theorem Row.nil (h:Row w base e size A n c xs):A=none->c=0:=by
 rcases h with ⟨_,rfl,_⟩ | h
 ·intro _
  rfl
 ·exact own_nil h
theorem Row.box (h:Row w base e size A n c xs) {X:Nat} {t:TypeId} {cs:Array Value} (hb:Box w X t cs) (hne:e ≠ t):∀ k,blk A c=some k->k ≠ X:=by
 intro k hk
 rcases h with ⟨_,rfl,_⟩ | h
 ·cases hk
 ·refine own_box h hb hne k ?_;unfold blk at hk
  split at hk
  ·cases hk
  ·cases A with
   | none=>cases hk
   | some a=>simpa [Value.ownBlock] using hk
end
theorem Row.prefix {w:World} {base:Nat} {e:TypeId} {size n c k:Nat} {A:Option Addr} {xs:List Value} (h:Row w base e size A n c xs) (hk:k<=n):Row w base e size A k c (xs.take (k*size)):=by
 rcases h with ⟨rfl,rfl,rfl⟩ | h
 ·have h0:k=0:=by omega
  subst h0;exact .inl ⟨rfl,rfl,by simp⟩
 ·exact .inr (own_prefix h hk)
theorem Row.at1 {w:World} {base:Nat} {e:TypeId} {n c:Nat} {A:Option Addr} {k:IntKind} {zs:List Int} (h:Row w base e 1 A n c (ints k zs)) {i:Nat} (hi:i<zs.length):∃ g,A=some ⟨g,0,none⟩/\w.cell? ⟨g,i,none⟩=some (.int k (zs.getD i 0))/\g<w.heap.size:=by
 rcases h with ⟨_,_,h0⟩ | h
 ·have:zs=[]:=by simpa [ints] using h0
  subst this;simp at hi
 ·have hl:=h.1
  rcases h.2 with ⟨_,h0⟩ | ⟨g,cap,cur,hv,hb,hg,r⟩
  ·simp only [ints,List.length_map] at hl;omega
  ·injection hv with hA;subst hA;refine ⟨g,rfl,?_,(Array.getElem?_eq_some_iff.1 hg).1⟩;obtain ⟨b,off,hA,_,hc⟩:=(Rd.of_own h).int hi;simp only [Option.some.injEq,Addr.mk.injEq,and_true] at hA;obtain ⟨rfl,rfl⟩:=hA;rw [Nat.zero_add] at hc;rw [hc,List.getD_eq_getElem?_getD,List.getElem?_eq_getElem hi]
   rfl
def Apart (A:Option Addr) (c:Nat) (A':Option Addr) (c':Nat):Prop:=∀ k,blk A c=some k->blk A' c' ≠ some k
theorem Apart.symm {A A':Option Addr} {c c':Nat} (h:Apart A c A' c'):Apart A' c' A c:=fun k hk h'=>h k h' hk
theorem run_app {P:Program} (w:World) (t ty e:TypeId) (i:TypeInfo) (z:Value) (size bytes:Nat) (ht:P.underlying t=some (.slice e)) (hi:P.info? e=some i) (hz:i.zero=some z)
  (hsize:i.size=size) (hby:i.bytes=bytes) (hzs:z.cells.size=size) (hsz:0<size) {base:Nat} {A:Option Addr} {n c:Nat} {xs:List Value} (hrow:Row w base e size A n c xs) (hbase:base<=w.heap.size)
  {B:Nat} {A2:Option Addr} {m c2:Nat} {news:List Value} (hrd:Rd w B A2 news) (hl:news.length=m*size) (hnil:A2=none->c2=0) (h1:∀ u ∈ news,u.oneCell'=true)
  (h63:n+m<=maxLen) (hbytes:(n+m)*bytes<=140737488355328):
  ∃ A' c' w',(Builtin.append_ #[t,t] ty #[.slice A n c,.slice A2 m c2]).run P w=.ok (.slice A' (n+m) c') w'/\Row w' base e size A' (n+m) c' (xs++news)/\w.grownBy w' (blk A c)/\∀ k,blk A' c'=some k->blk A c=some k\/w.heap.size<=k:=by
 by_cases hm:m=0
 ·subst hm;obtain rfl:news=[]:=List.eq_nil_of_length_eq_zero (by simpa using hl)
  have hs:Src P i.size t (.slice A2 0 c2) 0 [] w:=by
   cases A2 with
   | none=>
    have:=hnil rfl;subst this;exact Src.ofNil w ht 0
   | some a=>exact Src.ofSlice w ht a 0 c2 [] (by simp) (by simp) (by simp)
  refine ⟨A,c,w,run_append_nothing w t t ty e i ht hi A n c hrow.cap.1 _ hs,by simpa using hrow,World.grownBy.refl w _,fun k hk=>.inl hk⟩
 ·obtain ⟨ad,rfl,hc⟩:∃ ad,A2=some ad/\∀ j u,news[j]?=some u->w.cell? (ad.add j)=some u:=by
   have h0:0<m*size:=Nat.mul_pos (by omega) hsz;obtain ⟨b,off,e',_⟩:=hrd 0 (news[0]'(by omega)) (List.getElem?_eq_getElem (by omega));refine ⟨_,e',fun j u hj=>?_⟩;obtain ⟨b',off',e'',_,hcc⟩:=hrd j u hj;rw [e'] at e'';simp only [Option.some.injEq,Addr.mk.injEq,and_true] at e'';obtain ⟨rfl,rfl⟩:=e'';rw [(addr_form (a:=⟨b,off,none⟩) rfl j).2];exact hcc
  by_cases hc0:c=0
  ·subst hc0;have hn0:n=0:=Nat.le_zero.1 hrow.cap.1;subst hn0;have hx0:xs=[]:=List.eq_nil_of_length_eq_zero (by simpa using hrow.length);subst hx0
   obtain ⟨v',w',hrun,r1,r2⟩:∃ v' w',(Builtin.append_ #[t,t] ty #[.slice A 0 0,.slice (some ad) m c2]).run P w=.ok v' w'/\w'.ownsRow w.heap.size e size v' (0+m) ([]++news)/\w.grownBy w' none:=by
    cases A with
    | none=>
     obtain ⟨v',w',hrun,r1,r2,_⟩:=run_append_own (P:=P) w w.heap.size t ty e i z size bytes ht hi hz hsize hby hzs hsz (.slice none 0 0) 0 [] (World.ownsRow_nil w _ e size) ad m c2 news hl hc h1 h63 hbytes (Nat.le_refl _);exact ⟨v',w',hrun,r1,r2⟩
    | some a=>exact run_append_arg_grows (P:=P) w t ty e i z size bytes ht hi hz hsize hby hzs hsz a 0 0 [] (by simp) (by simp) ad m c2 news hl hc (by omega) h63 hbytes
   obtain ⟨g,cap,rfl,hg,_⟩:=r1.form (by omega);refine ⟨some ⟨g,0,none⟩,cap,w',hrun,.inr (own_base r1 hbase),r2,fun k hk=>.inr ?_⟩;have:=(Row.own r1).lt k hk;exact this.1
  ·have hown:w.ownsRow base e size (.slice A n c) n xs:=hrow.elim (fun h=>absurd h.2.1 hc0) id;obtain ⟨g,cap,w',hrun,r1,r2,r3,r4⟩:=run_append_lies (P:=P) w t ty base e i z size bytes ht hi hz hsize hby hzs hsz (.slice A n c) n xs hown ad m c2 news hl hc h1 (by omega) h63 hbytes hbase w.heap.size rfl
   have hb:blk A c=(Value.slice A n c).ownBlock:=by
    unfold blk;rw [if_neg hc0]
    cases A <;> rfl
   refine ⟨some ⟨g,0,none⟩,cap,w',hrun,.inr r1,by rw [hb]; exact r2,fun k hk=>?_⟩
   have hk':k=g:=by
    unfold blk at hk
    split at hk
    ·cases hk
    ·simpa using hk.symm
   subst hk';rw [hb]
   rcases r3 with r3 | r3
   ·exact .inl r3
   ·exact .inr (by omega)
theorem wp_app {P:Program} {o:Oper} {a:Act} {K:Act->World->Prop} {Q:Exit->Act->World->Prop} {w:World} (s x:Operand) (t:TypeId)
  (ho:o.op=.call { callee:=.builtin .append,args:=#[s,x],argTypes:=#[t,t] }) (e:TypeId) (i:TypeInfo) (z:Value) (size bytes:Nat) (ht:P.underlying t=some (.slice e)) (hi:P.info? e=some i) (hz:i.zero=some z)
  (hsize:i.size=size) (hby:i.bytes=bytes) (hzs:z.cells.size=size) (hsz:0<size) (base:Nat) (A:Option Addr) (n c:Nat) (xs:List Value) (hs:a.eval s=.slice A n c) (hrow:Row w base e size A n c xs) (hbase:base<=w.heap.size)
  {B:Nat} (A2:Option Addr) (m c2:Nat) (news:List Value) (hx:a.eval x=.slice A2 m c2) (hrd:Rd w B A2 news) (hl:news.length=m*size) (hnil:A2=none->c2=0) (h1:∀ u ∈ news,u.oneCell'=true)
  (h63:n+m<=maxLen) (hbytes:(n+m)*bytes<=140737488355328)
  (h:∀ A' n' c' w',n'=n+m->Row w' base e size A' n' c' (xs++news)->w.grownBy w' (blk A c)->(∀ k,blk A' c'=some k->blk A c=some k\/w.heap.size<=k)->K (a.put o.dst (.slice A' n' c')) w'):
  o.wp P a w K Q:=by
 obtain ⟨A',c',w',hr,h2,h3,h4⟩:=run_app (P:=P) w t o.type e i z size bytes ht hi hz hsize hby hzs hsz hrow hbase hrd hl hnil h1 h63 hbytes;unfold Oper.wp execOp;simp only [ho,resolve,invoke,builtin,Sem.run_bind,Sem.run_pure,Result.andThen_ok,List.map_toArray,List.map_cons,List.map_nil,hs,hx,hr];exact h A' (n+m) c' w' rfl h2 h3 h4
theorem wpList_app {P:Program} (w:World) {ops:Array Oper} {rest:List Oper} {o:Oper} {a:Act} {Q:Exit->Act->World->Prop} (hgd:o.guard=none) (s x:Operand) (t:TypeId)
  (ho:o.op=.call { callee:=.builtin .append,args:=#[s,x],argTypes:=#[t,t] }) (e:TypeId) (i:TypeInfo) (z:Value) (size bytes:Nat) (ht:P.underlying t=some (.slice e)) (hi:P.info? e=some i) (hz:i.zero=some z)
  (hsize:i.size=size) (hby:i.bytes=bytes) (hzs:z.cells.size=size) (hsz:0<size) (base:Nat) (A:Option Addr) (n c:Nat) (xs:List Value) (hs:a.eval s=.slice A n c) (hrow:Row w base e size A n c xs) (hbase:base<=w.heap.size)
  {B:Nat} (A2:Option Addr) (m c2:Nat) (news:List Value) (hx:a.eval x=.slice A2 m c2) (hrd:Rd w B A2 news) (hl:news.length=m*size) (hnil:A2=none->c2=0) (h1:∀ u ∈ news,u.oneCell'=true)
  (h63:n+m<=maxLen) (hbytes:(n+m)*bytes<=140737488355328)
  (h:∀ A' n' c' w',n'=n+m->Row w' base e size A' n' c' (xs++news)->w.grownBy w' (blk A c)->(∀ k,blk A' c'=some k->blk A c=some k\/w.heap.size<=k)->wpList P ops Q rest (a.put o.dst (.slice A' n' c')) w'):
  wpList P ops Q (o :: rest) a w:=
 wpList_plain hgd fun _ hK=>wp_app s x t ho e i z size bytes ht hi hz hsize hby hzs hsz base A n c xs hs hrow hbase A2 m c2 news hx hrd hl hnil h1 h63 hbytes fun A' n' c' w' h1 h2 h3 h4=>hK _ _ (h A' n' c' w' h1 h2 h3 h4)
theorem step_app {P:Program} {ops:Array Oper} {o:Oper} {a:Act} {K:Act->World->Prop} {Q:Exit->Act->World->Prop} {E:Prop} {w:World} (hgd:o.guard=none) (s x:Operand) (t:TypeId)
  (ho:o.op=.call { callee:=.builtin .append,args:=#[s,x],argTypes:=#[t,t] }) (e:TypeId) (i:TypeInfo) (z:Value) (size bytes:Nat) (ht:P.underlying t=some (.slice e)) (hi:P.info? e=some i) (hz:i.zero=some z)
  (hsize:i.size=size) (hby:i.bytes=bytes) (hzs:z.cells.size=size) (hsz:0<size) (base:Nat) (A:Option Addr) (n c:Nat) (xs:List Value) (hs:a.eval s=.slice A n c) (hrow:Row w base e size A n c xs) (hbase:base<=w.heap.size)
  {B:Nat} (A2:Option Addr) (m c2:Nat) (news:List Value) (hx:a.eval x=.slice A2 m c2) (hrd:Rd w B A2 news) (hl:news.length=m*size) (hnil:A2=none->c2=0) (h1:∀ u ∈ news,u.oneCell'=true)
  (h63:n+m<=maxLen) (hbytes:(n+m)*bytes<=140737488355328)
  (h:∀ A' n' c' w',n'=n+m->Row w' base e size A' n' c' (xs++news)->w.grownBy w' (blk A c)->(∀ k,blk A' c'=some k->blk A c=some k\/w.heap.size<=k)->K (a.put o.dst (.slice A' n' c')) w'):
  if Region.wanted o (yielded ops a.tmps)=true then Oper.wp P o a w K Q else E:=by
 have hw:Region.wanted o (yielded ops a.tmps)=true:=by simp [Region.wanted,hgd]
 rw [if_pos hw];exact wp_app s x t ho e i z size bytes ht hi hz hsize hby hzs hsz base A n c xs hs hrow hbase A2 m c2 news hx hrd hl hnil h1 h63 hbytes h
theorem rd_lit (w:World) (cs:Array Value) (e:TypeId) (k:Nat) (hk:k=w.heap.size):Rd (w.alloc (.cells cs e)) (w.heap.size+1) (some ⟨k,0,none⟩) cs.toList:=by
 subst hk;intro i u hu;exact ⟨_,0,rfl,Nat.lt_succ_self _,by rw [Nat.zero_add]; exact (Box.new w e cs).cell i ▸ (by simpa using hu)⟩
theorem oneI1 {k:IntKind} {x:Int}:∀ u ∈ [Value.int k x],u.oneCell'=true:=fun u hu=>by simp only [List.mem_singleton] at hu; subst hu; rfl
theorem below_grown {B:Nat} {a w w':World} {v:Option Nat} (h:Below B a w) (g:w.grownBy w' v) (hB:B<=w.heap.size) (hv:∀ k,v=some k->B<=k):Below B a w':=h.grown g hB hv
theorem lay {p q:Prop} (hp:p) (h:p->q):q:=h hp
theorem below_tr {a w w':World} (h:Below a.heap.size a w) (g:w.grownBy w' none):Below a.heap.size a w':=h.grown g h.size (fun k hk=>by cases hk)
theorem below_al {a w:World} {o:Obj} (h:Below a.heap.size a w):Below a.heap.size a (w.alloc o):=h.alloc h.size o
theorem below_dr {a w:World} (h:Below a.heap.size a w):Below a.heap.size a w.drew:=h.drew
theorem below_dn {a w:World} {n:Nat} (h:Below a.heap.size a w):Below a.heap.size a (w.drewN n):=Kit.Below.drewN h n
end Kit
/- Short forms of what stands often in the walks: each is a lemma whose side proofs are found where it is used. -/
section
open Go Go.RowKit Kit
theorem b_ {B:Nat} {w w':World} (h:Below B w w':=by repeat (first | exact Go.RowKit.Below.refl _ _ | with_reducible assumption | (refine Go.RowKit.Below.drew ?_) | (refine Go.Proofs.YtepoiphmmjfbdaaGreatDoor.Kit.Below.drewN ?_ _) | (refine Go.RowKit.Below.alloc ?_ (by simp; try omega) _) | (refine Go.RowKit.Below.setCell ?_ (by simp; try omega) _))):Below B w w':=h
theorem y1_ {α:Type} {xs:List α} {i:Nat} (h:i<xs.toArray.size):xs.toArray[i]=xs[i]'(by simpa using h):=rfl
theorem y2_ {α:Type} {x:α} {xs:List α} {i:Nat} (h:i+1<(x :: xs).length):(x :: xs)[i+1]=xs[i]'(Nat.lt_of_succ_lt_succ h):=rfl
theorem y3_ {α:Type} {x:α} {xs:List α} (h:0<(x :: xs).length):(x :: xs)[0]=x:=rfl
theorem y4_ {α:Type} {xs:List α} {i:Nat} {x:α}:xs.toArray.setIfInBounds i x=(xs.set i x).toArray:=List.setIfInBounds_toArray ..
theorem y5_ {α:Type} {x y:α} {xs:List α}:(x :: xs).set 0 y=y :: xs:=rfl
theorem y6_ {α:Type} {x y:α} {xs:List α} {n:Nat}:(x :: xs).set (n+1) y=x :: xs.set n y:=rfl
theorem g_ {α:Type}:(∀ {i:Nat} {xs:List α},xs.toArray[i]?=xs[i]?)/\(∀ {x:α} {xs:List α},(x :: xs)[0]?=some x)/\(∀ {x:α} {xs:List α} {i:Nat},(x :: xs)[i+1]?=xs[i]?):=⟨List.getElem?_toArray,List.getElem?_cons_zero,List.getElem?_cons_succ⟩
theorem k_ {α:Type}:(∀ {xs:List α} {i:Nat} {x:α},xs.toArray.setIfInBounds i x=(xs.set i x).toArray)/\(∀ {x y:α} {xs:List α},(x :: xs).set 0 y=y :: xs)/\(∀ {x y:α} {xs:List α} {n:Nat},(x :: xs).set (n+1) y=x :: xs.set n y)/\(∀ {i:Nat} {xs:List α},xs.toArray[i]?=xs[i]?)/\(∀ {x:α} {xs:List α},(x :: xs)[0]?=some x)/\(∀ {x:α} {xs:List α} {i:Nat},(x :: xs)[i+1]?=xs[i]?):=⟨y4_,y5_,y6_,g_.1,g_.2.1,g_.2.2⟩
theorem c_ {w w1 w2:World} (H:Hd (Below w.heap.size w w1)) (b:Below w1.heap.size w1 w2):Hd (Below w.heap.size w w2):=Kit.h_ (H.o.trans (b.mono H.o.size))
theorem d_ {w:World} {g:Nat} {t:TypeId} {cs:Array Value} (h:Kit.Box w g t cs) (i:Nat) {v:Value} (e:cs[i]?=some v:=by exact rfl):w.cell? ⟨g,i,none⟩=some v:=(Kit.Box.cell h i).trans e
section
open Reg
variable {P:Program} {ops:Array Oper} {Q:Exit->Act->World->Prop} {md:Region.Mode} {S:World->Prop} {T:Nat->Bool}
theorem t_ (i:Nat) {oi:Oper} {v:Value} {fuel:Nat} {listed l:Array Bool} {a a':Act} {w:World} (hi:ops[i]?=some oi) (h:wpAnyT P md ops Q S T fuel l a' w)
  (hy:∀ w,S w->(execOp a.eval oi).run P w=.ok (.value v) w:=by intro w hSw; (try dsimp only at hSw); go_simp; (try with_reducible rfl))
  (ea:a.put oi.dst v=a':=by ((try simp only [y1_,y2_,y3_,Act.put,y4_,y5_,y6_]); with_reducible rfl)) (el:listed.setIfInBounds i true=l:=by ((try simp only [y4_,y5_,y6_]); with_reducible rfl))
  (hs:Region.noSelect ops=true:=by kernel_rfl) (hf:Region.free md ops listed i=true:=by kernel_rfl) (hr:(Region.ready md ops listed).contains i=true:=by kernel_rfl) (hT:allWait md ops T i=true:=by kernel_rfl)
  (hw:Region.wanted oi (yielded ops a.tmps)=true:=by rfl) (hQ:∀ c a w,Q (.panic c) (a.put oi.dst v) w->Q (.panic c) a w:=by exact fun _ _ _ h=>h) (hS:S w:=by assumption):wpAnyT P md ops Q S T (fuel+1) listed a w:=by
 subst ea el;exact takeT hi hs hf hr hT hQ (.inl ⟨hw,hy⟩) hS h
theorem u_ (i:Nat) {oi:Oper} {fuel:Nat} {listed:Array Bool} {a:Act} {w:World} (hi:ops[i]?=some oi) (h:wpAnyT P md ops Q S T fuel (listed.setIfInBounds i true) (a.put oi.dst undef) w)
  (hs:Region.noSelect ops=true:=by kernel_rfl) (hf:Region.free md ops listed i=true:=by kernel_rfl) (hr:(Region.ready md ops listed).contains i=true:=by kernel_rfl) (hT:allWait md ops T i=true:=by kernel_rfl)
  (hw:Region.wanted oi (yielded ops a.tmps)=false:=by rfl) (hQ:∀ c a w,Q (.panic c) (a.put oi.dst undef) w->Q (.panic c) a w:=by exact fun _ _ _ h=>h) (hS:S w:=by assumption):wpAnyT P md ops Q S T (fuel+1) listed a w:=
 takeT hi hs hf hr hT hQ (.inr ⟨hw,rfl⟩) hS h
end
end
/- The library at []string,at this dump: printed by the kit's lay-plain. -/
namespace XDesk
open Go.Shelf
def lays137_ren:Go.Shelf.Ren:=⟨fun | 137=>178 | 217=>174 | 266=>201 | n=>n,fun | 9=>9 | 5=>5 | 3=>3 | n=>n,fun | n=>n⟩
theorem lays137:Go.Proofs.Lays.n137 Tryz.prog lays137_ren:={
 mixed:=by kernel_rfl
 f137:=Tryz.func178.trans (congrArg some (by kernel_rfl))
 f217:=Tryz.func174.trans (congrArg some (by kernel_rfl))
 f266:=Tryz.func201.trans (congrArg some (by kernel_rfl))
 t3:=Tryz.underlying3
 a3:=Tryz.isAgg3
 z3:=Tryz.sizeOf3
 v3:=Tryz.zeroValue3
 t5:=Tryz.underlying5
 a5:=Tryz.isAgg5
 z5:=Tryz.sizeOf5
 v5:=Tryz.zeroValue5
 t9:=Tryz.underlying9
 a9:=Tryz.isAgg9
 z9:=Tryz.sizeOf9
 v9:=Tryz.zeroValue9 }
open Go.RowKit in
theorem strings_IndexByte (s:ByteArray) (c:Int) (w:World):
  Calls Tryz.prog 178 #[.string s,.int .u8 c] w fun e w'=>e=.returned (.int .i64 (Lib.indexByte s.data.toList c.toNat.toUInt8))/\w'=w:=Any.strings_IndexByte lays137 s c w
def laysM171_ren:Go.Shelf.Ren:=⟨fun | 171=>51 | 243=>98 | 246=>154 | 283=>187 | 284=>188 | 285=>189 | 286=>190 | 129=>208 | 317=>207 | 318=>209 | 319=>210 | 320=>211 | 337=>227 | 338=>228 | n=>n,fun | 3=>3 | 9=>9 | 2=>2 | 4=>4 | 171=>189 | 0=>0 | 53=>190 | 37=>22 | 5=>5 | 173=>193 | 212=>211 | 51=>201 | 20=>20 | 213=>212 | 46=>94 | 232=>241 | 233=>242 | n=>n,fun | 17=>3 | 18=>6 | 19=>7 | n=>n⟩
theorem laysM171:Go.Proofs.LaysM.n171 Tryz.prog laysM171_ren:={
 mixed:=by kernel_rfl
 f129:=Tryz.func208.trans (congrArg some (by kernel_rfl))
 f171:=Tryz.func51.trans (congrArg some (by kernel_rfl))
 f243:=Tryz.func98.trans (congrArg some (by kernel_rfl))
 f246:=Tryz.func154.trans (congrArg some (by kernel_rfl))
 f283:=Tryz.func187.trans (congrArg some (by kernel_rfl))
 f284:=Tryz.func188.trans (congrArg some (by kernel_rfl))
 f285:=Tryz.func189.trans (congrArg some (by kernel_rfl))
 f286:=Tryz.func190.trans (congrArg some (by kernel_rfl))
 f317:=Tryz.func207.trans (congrArg some (by kernel_rfl))
 f318:=Tryz.func209.trans (congrArg some (by kernel_rfl))
 f319:=Tryz.func210.trans (congrArg some (by kernel_rfl))
 f320:=Tryz.func211.trans (congrArg some (by kernel_rfl))
 f337:=Tryz.func227.trans (congrArg some (by kernel_rfl))
 f338:=Tryz.func228.trans (congrArg some (by kernel_rfl))
 t0:=Tryz.underlying0
 a0:=Tryz.isAgg0
 z0:=Tryz.sizeOf0
 v0:=Tryz.zeroValue0
 t2:=Tryz.underlying2
 a2:=Tryz.isAgg2
 z2:=Tryz.sizeOf2
 v2:=Tryz.zeroValue2
 t3:=Tryz.underlying3
 a3:=Tryz.isAgg3
 z3:=Tryz.sizeOf3
 v3:=Tryz.zeroValue3
 t4:=Tryz.underlying4
 a4:=Tryz.isAgg4
 z4:=Tryz.sizeOf4
 v4:=Tryz.zeroValue4
 t5:=Tryz.underlying5
 a5:=Tryz.isAgg5
 z5:=Tryz.sizeOf5
 v5:=Tryz.zeroValue5
 t9:=Tryz.underlying9
 a9:=Tryz.isAgg9
 z9:=Tryz.sizeOf9
 v9:=Tryz.zeroValue9
 t20:=Tryz.underlying20
 a20:=Tryz.isAgg20
 z20:=Tryz.sizeOf20
 v20:=Tryz.zeroValue20
 t37:=Tryz.underlying22
 a37:=Tryz.isAgg22
 z37:=Tryz.sizeOf22
 v37:=Tryz.zeroValue22
 t46:=Tryz.underlying94
 a46:=Tryz.isAgg94
 z46:=Tryz.sizeOf94
 v46:=Tryz.zeroValue94
 t51:=Tryz.underlying201
 a51:=Tryz.isAgg201
 z51:=Tryz.sizeOf201
 v51:=Tryz.zeroValue201
 t53:=Tryz.underlying190
 a53:=Tryz.isAgg190
 z53:=Tryz.sizeOf190
 v53:=Tryz.zeroValue190
 t171:=Tryz.underlying189
 a171:=Tryz.isAgg189
 z171:=Tryz.sizeOf189
 v171:=Tryz.zeroValue189
 t173:=Tryz.underlying193
 a173:=Tryz.isAgg193
 z173:=Tryz.sizeOf193
 v173:=Tryz.zeroValue193
 t212:=Tryz.underlying211
 a212:=Tryz.isAgg211
 z212:=Tryz.sizeOf211
 v212:=Tryz.zeroValue211
 t213:=Tryz.underlying212
 a213:=Tryz.isAgg212
 z213:=Tryz.sizeOf212
 t232:=Tryz.underlying241
 a232:=Tryz.isAgg241
 z232:=Tryz.sizeOf241
 v232:=Tryz.zeroValue241
 t233:=Tryz.underlying242
 a233:=Tryz.isAgg242
 z233:=Tryz.sizeOf242
 v233:=Tryz.zeroValue242
 g17:=by kernel_rfl
 g18:=by kernel_rfl
 g19:=by kernel_rfl
 i0:=by kernel_rfl
 i2:=by kernel_rfl
 i3:=by kernel_rfl
 i4:=by kernel_rfl
 i5:=by kernel_rfl
 i9:=by kernel_rfl
 i20:=by kernel_rfl
 i37:=by kernel_rfl
 i46:=by kernel_rfl
 i51:=by kernel_rfl
 i53:=by kernel_rfl
 i171:=by kernel_rfl
 i173:=by kernel_rfl
 i212:=by kernel_rfl
 i232:=by kernel_rfl
 i233:=by kernel_rfl
 m17:=by kernel_rfl
 m18:=by kernel_rfl
 m19:=by kernel_rfl }
open Go.RowKit Go.Sort Go.Lib in
theorem strconv_Itoa (n:Int) (h0:-9223372036854775808<=n) (h1:n<=9223372036854775807) (w:World) (htab:Lib.TabIs Tryz.prog w "internal/strconv.uint64pow10" .u64 Lib.pow10Tab):
  Calls Tryz.prog 51 #[.int .i64 n] w fun e w'=>e=.returned (.string ⟨(Lib.itoa n).toArray⟩)/\∃ k os,w'=grow (w.drewN k) os:=Any.strconv_Itoa laysM171 n h0 h1 w htab
def laysC172_ren:Go.Shelf.Ren:=⟨fun | 172=>96 | 244=>152 | 245=>153 | 247=>182 | 279=>183 | 280=>184 | 281=>185 | 282=>186 | 287=>204 | 316=>205 | 171=>51 | 205=>206 | 321=>225 | 322=>226 | 243=>98 | 246=>154 | 283=>187 | 284=>188 | 285=>189 | 286=>190 | 129=>208 | 317=>207 | 318=>209 | 319=>210 | 320=>211 | 337=>227 | 338=>228 | n=>n,fun | 9=>9 | 3=>3 | 75=>125 | 76=>126 | 4=>4 | 5=>5 | 167=>183 | 37=>22 | 0=>0 | 85=>184 | 2=>2 | 168=>186 | 53=>190 | 175=>204 | 46=>94 | 210=>208 | 127=>231 | 145=>234 | 143=>232 | 21=>21 | 171=>189 | 173=>193 | 212=>211 | 51=>201 | 20=>20 | 213=>212 | 232=>241 | 233=>242 | 80=>246 | n=>n,fun | 15=>1 | 16=>2 | 17=>3 | 18=>6 | 19=>7 | n=>n⟩
theorem laysC172:Go.Proofs.LaysC.n172 Tryz.prog laysC172_ren:={
 mixed:=by kernel_rfl
 f129:=Tryz.func208.trans (congrArg some (by kernel_rfl))
 f171:=Tryz.func51.trans (congrArg some (by kernel_rfl))
 f172:=Tryz.func96.trans (congrArg some (by kernel_rfl))
 f205:=Tryz.func206.trans (congrArg some (by kernel_rfl))
 f243:=Tryz.func98.trans (congrArg some (by kernel_rfl))
 f244:=Tryz.func152.trans (congrArg some (by kernel_rfl))
 f245:=Tryz.func153.trans (congrArg some (by kernel_rfl))
 f246:=Tryz.func154.trans (congrArg some (by kernel_rfl))
 f247:=Tryz.func182.trans (congrArg some (by kernel_rfl))
 f279:=Tryz.func183.trans (congrArg some (by kernel_rfl))
 f280:=Tryz.func184.trans (congrArg some (by kernel_rfl))
 f281:=Tryz.func185.trans (congrArg some (by kernel_rfl))
 f282:=Tryz.func186.trans (congrArg some (by kernel_rfl))
 f283:=Tryz.func187.trans (congrArg some (by kernel_rfl))
 f284:=Tryz.func188.trans (congrArg some (by kernel_rfl))
 f285:=Tryz.func189.trans (congrArg some (by kernel_rfl))
 f286:=Tryz.func190.trans (congrArg some (by kernel_rfl))
 f287:=Tryz.func204.trans (congrArg some (by kernel_rfl))
 f316:=Tryz.func205.trans (congrArg some (by kernel_rfl))
 f317:=Tryz.func207.trans (congrArg some (by kernel_rfl))
 f318:=Tryz.func209.trans (congrArg some (by kernel_rfl))
 f319:=Tryz.func210.trans (congrArg some (by kernel_rfl))
 f320:=Tryz.func211.trans (congrArg some (by kernel_rfl))
 f321:=Tryz.func225.trans (congrArg some (by kernel_rfl))
 f322:=Tryz.func226.trans (congrArg some (by kernel_rfl))
 f337:=Tryz.func227.trans (congrArg some (by kernel_rfl))
 f338:=Tryz.func228.trans (congrArg some (by kernel_rfl))
 t0:=Tryz.underlying0
 a0:=Tryz.isAgg0
 z0:=Tryz.sizeOf0
 v0:=Tryz.zeroValue0
 t2:=Tryz.underlying2
 a2:=Tryz.isAgg2
 z2:=Tryz.sizeOf2
 v2:=Tryz.zeroValue2
 t3:=Tryz.underlying3
 a3:=Tryz.isAgg3
 z3:=Tryz.sizeOf3
 v3:=Tryz.zeroValue3
 t4:=Tryz.underlying4
 a4:=Tryz.isAgg4
 z4:=Tryz.sizeOf4
 v4:=Tryz.zeroValue4
 t5:=Tryz.underlying5
 a5:=Tryz.isAgg5
 z5:=Tryz.sizeOf5
 v5:=Tryz.zeroValue5
 t9:=Tryz.underlying9
 a9:=Tryz.isAgg9
 z9:=Tryz.sizeOf9
 v9:=Tryz.zeroValue9
 t20:=Tryz.underlying20
 a20:=Tryz.isAgg20
 z20:=Tryz.sizeOf20
 v20:=Tryz.zeroValue20
 t21:=Tryz.underlying21
 a21:=Tryz.isAgg21
 z21:=Tryz.sizeOf21
 v21:=Tryz.zeroValue21
 t37:=Tryz.underlying22
 a37:=Tryz.isAgg22
 z37:=Tryz.sizeOf22
 v37:=Tryz.zeroValue22
 t46:=Tryz.underlying94
 a46:=Tryz.isAgg94
 z46:=Tryz.sizeOf94
 v46:=Tryz.zeroValue94
 t51:=Tryz.underlying201
 a51:=Tryz.isAgg201
 z51:=Tryz.sizeOf201
 v51:=Tryz.zeroValue201
 t53:=Tryz.underlying190
 a53:=Tryz.isAgg190
 z53:=Tryz.sizeOf190
 v53:=Tryz.zeroValue190
 t75:=Tryz.underlying125
 a75:=Tryz.isAgg125
 z75:=Tryz.sizeOf125
 v75:=Tryz.zeroValue125
 t76:=Tryz.underlying126
 a76:=Tryz.isAgg126
 z76:=Tryz.sizeOf126
 v76:=Tryz.zeroValue126
 t85:=Tryz.underlying184
 a85:=Tryz.isAgg184
 z85:=Tryz.sizeOf184
 v85:=Tryz.zeroValue184
 t127:=Tryz.underlying231
 a127:=Tryz.isAgg231
 z127:=Tryz.sizeOf231
 v127:=Tryz.zeroValue231
 t143:=Tryz.underlying232
 a143:=Tryz.isAgg232
 z143:=Tryz.sizeOf232
 v143:=Tryz.zeroValue232
 t145:=Tryz.underlying234
 a145:=Tryz.isAgg234
 z145:=Tryz.sizeOf234
 v145:=Tryz.zeroValue234
 t167:=Tryz.underlying183
 a167:=Tryz.isAgg183
 z167:=Tryz.sizeOf183
 v167:=Tryz.zeroValue183
 t168:=Tryz.underlying186
 a168:=Tryz.isAgg186
 z168:=Tryz.sizeOf186
 v168:=Tryz.zeroValue186
 t171:=Tryz.underlying189
 a171:=Tryz.isAgg189
 z171:=Tryz.sizeOf189
 v171:=Tryz.zeroValue189
 t173:=Tryz.underlying193
 a173:=Tryz.isAgg193
 z173:=Tryz.sizeOf193
 v173:=Tryz.zeroValue193
 t175:=Tryz.underlying204
 a175:=Tryz.isAgg204
 z175:=Tryz.sizeOf204
 v175:=Tryz.zeroValue204
 t210:=Tryz.underlying208
 a210:=Tryz.isAgg208
 z210:=Tryz.sizeOf208
 v210:=Tryz.zeroValue208
 t212:=Tryz.underlying211
 a212:=Tryz.isAgg211
 z212:=Tryz.sizeOf211
 v212:=Tryz.zeroValue211
 t213:=Tryz.underlying212
 a213:=Tryz.isAgg212
 z213:=Tryz.sizeOf212
 t232:=Tryz.underlying241
 a232:=Tryz.isAgg241
 z232:=Tryz.sizeOf241
 v232:=Tryz.zeroValue241
 t233:=Tryz.underlying242
 a233:=Tryz.isAgg242
 z233:=Tryz.sizeOf242
 v233:=Tryz.zeroValue242
 g15:=by kernel_rfl
 g16:=by kernel_rfl
 g17:=by kernel_rfl
 g18:=by kernel_rfl
 g19:=by kernel_rfl
 t80:=Tryz.underlying246
 a80:=Tryz.isAgg246
 z80:=Tryz.sizeOf246
 v80:=Tryz.zeroValue246
 i0:=by kernel_rfl
 i2:=by kernel_rfl
 i3:=by kernel_rfl
 i4:=by kernel_rfl
 i5:=by kernel_rfl
 i9:=by kernel_rfl
 i20:=by kernel_rfl
 i21:=by kernel_rfl
 i37:=by kernel_rfl
 i46:=by kernel_rfl
 i51:=by kernel_rfl
 i53:=by kernel_rfl
 i75:=by kernel_rfl
 i76:=by kernel_rfl
 i80:=by kernel_rfl
 i85:=by kernel_rfl
 i127:=by kernel_rfl
 i143:=by kernel_rfl
 i145:=by kernel_rfl
 i167:=by kernel_rfl
 i168:=by kernel_rfl
 i171:=by kernel_rfl
 i173:=by kernel_rfl
 i175:=by kernel_rfl
 i210:=by kernel_rfl
 i212:=by kernel_rfl
 i232:=by kernel_rfl
 i233:=by kernel_rfl
 m15:=by kernel_rfl
 m16:=by kernel_rfl
 m17:=by kernel_rfl
 m18:=by kernel_rfl
 m19:=by kernel_rfl
 c0:=by kernel_rfl
 c2:=by kernel_rfl
 c3:=by kernel_rfl
 c4:=by kernel_rfl
 c5:=by kernel_rfl
 c9:=by kernel_rfl
 c20:=by kernel_rfl
 c21:=by kernel_rfl
 c37:=by kernel_rfl
 c46:=by kernel_rfl
 c51:=by kernel_rfl
 c53:=by kernel_rfl
 c75:=by kernel_rfl
 c76:=by kernel_rfl
 c80:=by kernel_rfl
 c85:=by kernel_rfl
 c127:=by kernel_rfl
 c143:=by kernel_rfl
 c145:=by kernel_rfl
 c167:=by kernel_rfl
 c168:=by kernel_rfl
 c171:=by kernel_rfl
 c173:=by kernel_rfl
 c175:=by kernel_rfl
 c210:=by kernel_rfl
 c212:=by kernel_rfl
 c213:=by kernel_rfl
 c232:=by kernel_rfl
 c233:=by kernel_rfl }
open Go.RowKit in
theorem strconv_Atoi_ok (s:ByteArray) (hmax:s.size<=9223372036854775806) (v:Int) (h:Lib.atoiAll s.data.toList=.ok v) (w:World):
  Calls Tryz.prog 96 #[.string s] w fun e w'=>e=.returned (.tuple #[.int .i64 v,.nilIface])/\(w'=w\/∃ t,w'=Lib.bytesWorld w 5 t):=Any.strconv_Atoi_ok laysC172 s hmax v h w
open Go.RowKit in
theorem strconv_Atoi_syntax_var (s:ByteArray) (hlim:s.size<=281474976710656) (h:Lib.atoiAll s.data.toList=Lib.atoiAll []) (tp:TypeId) (p:Value) (w:World) (hvar:w.var? Tryz.prog "strconv.ErrSyntax"=some #[.iface tp p]):
  Calls Tryz.prog 96 #[.string s] w fun e w'=>∃ N,e=.returned (.tuple #[.int .i64 0,.iface 186 (.pointer (some ⟨N,0,none⟩))])/\w.heap.size<=N/\w'.heap[N]?=some (.cells #[.string ⟨#[65,116,111,105]⟩,.string s,.iface tp p] 208 (0,0))/\Below w.heap.size w w':=Any.strconv_Atoi_syntax_var laysC172 s hlim (h.trans (by rfl)) tp p w hvar
open Go.RowKit in
theorem strconv_Atoi_range_var (s:ByteArray) (hlim:s.size<=281474976710656) (h:Lib.atoiAll s.data.toList=.range) (tp:TypeId) (p:Value) (w:World) (hvar:w.var? Tryz.prog "strconv.ErrRange"=some #[.iface tp p]):
  Calls Tryz.prog 96 #[.string s] w fun e w'=>∃ N,e=.returned (.tuple #[.int .i64 (Lib.atoiSat s.data.toList),.iface 186 (.pointer (some ⟨N,0,none⟩))])/\w.heap.size<=N/\w'.heap[N]?=some (.cells #[.string ⟨#[65,116,111,105]⟩,.string s,.iface tp p] 208 (0,0))/\Below w.heap.size w w':=Any.strconv_Atoi_range_var laysC172 s hlim h tp p w hvar
def lays145_ren:Go.Shelf.Ren:=⟨fun | 145=>45 | 220=>91 | 219=>144 | 217=>174 | 225=>175 | 224=>176 | 267=>177 | 266=>201 | 314=>202 | n=>n,fun | 9=>9 | 4=>4 | 59=>71 | 3=>3 | 5=>5 | 46=>94 | 146=>202 | 51=>201 | n=>n,fun | 1=>0 | n=>n⟩
theorem lays145:Go.Proofs.Lays.n145 Tryz.prog lays145_ren:={
 mixed:=by kernel_rfl
 f145:=Tryz.func45.trans (congrArg some (by kernel_rfl))
 f217:=Tryz.func174.trans (congrArg some (by kernel_rfl))
 f219:=Tryz.func144.trans (congrArg some (by kernel_rfl))
 f220:=Tryz.func91.trans (congrArg some (by kernel_rfl))
 f224:=Tryz.func176.trans (congrArg some (by kernel_rfl))
 f225:=Tryz.func175.trans (congrArg some (by kernel_rfl))
 f266:=Tryz.func201.trans (congrArg some (by kernel_rfl))
 f267:=Tryz.func177.trans (congrArg some (by kernel_rfl))
 f314:=Tryz.func202.trans (congrArg some (by kernel_rfl))
 t3:=Tryz.underlying3
 a3:=Tryz.isAgg3
 z3:=Tryz.sizeOf3
 v3:=Tryz.zeroValue3
 t4:=Tryz.underlying4
 a4:=Tryz.isAgg4
 z4:=Tryz.sizeOf4
 v4:=Tryz.zeroValue4
 t5:=Tryz.underlying5
 a5:=Tryz.isAgg5
 z5:=Tryz.sizeOf5
 v5:=Tryz.zeroValue5
 t9:=Tryz.underlying9
 a9:=Tryz.isAgg9
 z9:=Tryz.sizeOf9
 v9:=Tryz.zeroValue9
 t46:=Tryz.underlying94
 a46:=Tryz.isAgg94
 z46:=Tryz.sizeOf94
 v46:=Tryz.zeroValue94
 t51:=Tryz.underlying201
 a51:=Tryz.isAgg201
 z51:=Tryz.sizeOf201
 v51:=Tryz.zeroValue201
 t59:=Tryz.underlying71
 a59:=Tryz.isAgg71
 z59:=Tryz.sizeOf71
 v59:=Tryz.zeroValue71
 t146:=Tryz.underlying202
 a146:=Tryz.isAgg202
 z146:=Tryz.sizeOf202
 v146:=Tryz.zeroValue202
 g1:=by kernel_rfl }
open Go.RowKit Go.Lib in
theorem strings_Cut (s sep:ByteArray) (m:Int) (w:World) (hs:s.size<4294967281) (hm:w.cell? ⟨0,0,none⟩=some (.int .i64 m)):
  Calls Tryz.prog 45 #[.string s,.string sep] w fun e w'=>e=.returned (.tuple #[.string ⟨(Lib.cut s.data.toList sep.data.toList).1.toArray⟩,.string ⟨(Lib.cut s.data.toList sep.data.toList).2.1.toArray⟩,.bool (Lib.cut s.data.toList sep.data.toList).2.2])/\∃ n,w'=w.drewN n:=Any.strings_Cut lays145 s sep m w hs hm
def lays146_ren:Go.Shelf.Ren:=⟨fun | 146=>48 | 221=>95 | 268=>149 | 138=>150 | 143=>151 | 195=>179 | 197=>180 | 218=>181 | 219=>144 | 260=>203 | 217=>174 | 225=>175 | 224=>176 | 267=>177 | 266=>201 | 314=>202 | n=>n,fun | 9=>9 | 31=>28 | 3=>3 | 4=>4 | 0=>0 | 105=>181 | 21=>21 | 5=>5 | 46=>94 | 119=>226 | 139=>229 | 138=>228 | 146=>202 | 51=>201 | n=>n,fun | 1=>0 | 3=>4 | 4=>5 | n=>n⟩
theorem lays146:Go.Proofs.Lays.n146 Tryz.prog lays146_ren:={
 mixed:=by kernel_rfl
 f138:=Tryz.func150.trans (congrArg some (by kernel_rfl))
 f143:=Tryz.func151.trans (congrArg some (by kernel_rfl))
 f146:=Tryz.func48.trans (congrArg some (by kernel_rfl))
 f195:=Tryz.func179.trans (congrArg some (by kernel_rfl))
 f197:=Tryz.func180.trans (congrArg some (by kernel_rfl))
 f217:=Tryz.func174.trans (congrArg some (by kernel_rfl))
 f218:=Tryz.func181.trans (congrArg some (by kernel_rfl))
 f219:=Tryz.func144.trans (congrArg some (by kernel_rfl))
 f221:=Tryz.func95.trans (congrArg some (by kernel_rfl))
 f224:=Tryz.func176.trans (congrArg some (by kernel_rfl))
 f225:=Tryz.func175.trans (congrArg some (by kernel_rfl))
 f260:=Tryz.func203.trans (congrArg some (by kernel_rfl))
 f266:=Tryz.func201.trans (congrArg some (by kernel_rfl))
 f267:=Tryz.func177.trans (congrArg some (by kernel_rfl))
 f268:=Tryz.func149.trans (congrArg some (by kernel_rfl))
 f314:=Tryz.func202.trans (congrArg some (by kernel_rfl))
 t0:=Tryz.underlying0
 a0:=Tryz.isAgg0
 z0:=Tryz.sizeOf0
 v0:=Tryz.zeroValue0
 t3:=Tryz.underlying3
 a3:=Tryz.isAgg3
 z3:=Tryz.sizeOf3
 v3:=Tryz.zeroValue3
 t4:=Tryz.underlying4
 a4:=Tryz.isAgg4
 z4:=Tryz.sizeOf4
 v4:=Tryz.zeroValue4
 t5:=Tryz.underlying5
 a5:=Tryz.isAgg5
 z5:=Tryz.sizeOf5
 v5:=Tryz.zeroValue5
 t9:=Tryz.underlying9
 a9:=Tryz.isAgg9
 z9:=Tryz.sizeOf9
 v9:=Tryz.zeroValue9
 t21:=Tryz.underlying21
 a21:=Tryz.isAgg21
 z21:=Tryz.sizeOf21
 v21:=Tryz.zeroValue21
 t31:=Tryz.underlying28
 a31:=Tryz.isAgg28
 z31:=Tryz.sizeOf28
 v31:=Tryz.zeroValue28
 t46:=Tryz.underlying94
 a46:=Tryz.isAgg94
 z46:=Tryz.sizeOf94
 v46:=Tryz.zeroValue94
 t51:=Tryz.underlying201
 a51:=Tryz.isAgg201
 z51:=Tryz.sizeOf201
 v51:=Tryz.zeroValue201
 t105:=Tryz.underlying181
 a105:=Tryz.isAgg181
 z105:=Tryz.sizeOf181
 v105:=Tryz.zeroValue181
 t119:=Tryz.underlying226
 a119:=Tryz.isAgg226
 z119:=Tryz.sizeOf226
 t138:=Tryz.underlying228
 a138:=Tryz.isAgg228
 z138:=Tryz.sizeOf228
 v138:=Tryz.zeroValue228
 t139:=Tryz.underlying229
 a139:=Tryz.isAgg229
 z139:=Tryz.sizeOf229
 v139:=Tryz.zeroValue229
 t146:=Tryz.underlying202
 a146:=Tryz.isAgg202
 z146:=Tryz.sizeOf202
 v146:=Tryz.zeroValue202
 g1:=by kernel_rfl
 g3:=by kernel_rfl
 g4:=by kernel_rfl }
open Go.RowKit Go.Lib in
theorem strings_Split (s sep:ByteArray) (m:Int) (w:World) (hs:s.size<4294967281) (hm:w.cell? ⟨0,0,none⟩=some (.int .i64 m)) (h1:1<=sep.size):
  Calls Tryz.prog 48 #[.string s,.string sep] w fun e w'=>
   e=.returned (.slice (some ⟨w.heap.size,0,none⟩) (Lib.countB s sep+1) (Lib.countB s sep+1))/\w'=w.alloc (.cells ((Lib.splitB sep 0 (Lib.countB s sep) s).map Value.string).toArray 9):=Any.strings_Split lays146 (by kernel_rfl) s sep m w hs hm h1
def lays193_ren:Go.Shelf.Ren:=⟨fun | 193=>94 | n=>n,fun | 31=>28 | 9=>9 | 4=>4 | 3=>3 | 0=>0 | n=>n,fun | n=>n⟩
theorem lays193:Go.Proofs.Lays.n193 Tryz.prog lays193_ren:={
 mixed:=by kernel_rfl
 f193:=Tryz.func94.trans (congrArg some (by kernel_rfl))
 t0:=Tryz.underlying0
 a0:=Tryz.isAgg0
 z0:=Tryz.sizeOf0
 v0:=Tryz.zeroValue0
 t3:=Tryz.underlying3
 a3:=Tryz.isAgg3
 z3:=Tryz.sizeOf3
 v3:=Tryz.zeroValue3
 t4:=Tryz.underlying4
 a4:=Tryz.isAgg4
 z4:=Tryz.sizeOf4
 v4:=Tryz.zeroValue4
 t9:=Tryz.underlying9
 a9:=Tryz.isAgg9
 z9:=Tryz.sizeOf9
 v9:=Tryz.zeroValue9
 t31:=Tryz.underlying28
 a31:=Tryz.isAgg28
 z31:=Tryz.sizeOf28
 v31:=Tryz.zeroValue28 }
open Go.RowKit Go.Lib in
theorem slices_Equal_string (b1 o1 n c b2 o2 m d:Nat) (xs ys:List ByteArray) (w:World) (hx:n<=xs.length) (hy:m<=ys.length) (hbig:n<=9223372036854775807) (hbig2:m<=9223372036854775807) (hc1:∀ j,j<xs.length->w.cell? ⟨b1,o1+j,none⟩=some (.string (xs.getD j ByteArray.empty))) (hc2:∀ j,j<ys.length->w.cell? ⟨b2,o2+j,none⟩=some (.string (ys.getD j ByteArray.empty))):
  Calls Tryz.prog 94 #[.slice (some ⟨b1,o1,none⟩) n c,.slice (some ⟨b2,o2,none⟩) m d] w fun e w'=>e=.returned (.bool (decide (xs.take n=ys.take m)))/\∃ q,w'=w.drewN q:=Any.slices_Equal_string lays193 b1 o1 n c b2 o2 m d xs ys w hx hy hbig hbig2 hc1 hc2
open Go.RowKit Go.Lib in
theorem slices_Equal_string_empty (a1 a2:Option Addr) (c m d:Nat) (w:World) (hbig2:m<=9223372036854775807):
  Calls Tryz.prog 94 #[.slice a1 0 c,.slice a2 m d] w fun e w'=>e=.returned (.bool (decide (m=0)))/\w'=w:=Any.slices_Equal_string_empty lays193 a1 a2 c m d w hbig2
def laysNm224_ren:Go.Shelf.Ren:=⟨fun | 24=>146 | n=>n,fun | 24=>28 | 9=>9 | 3=>3 | 4=>4 | 0=>0 | n=>n,fun | n=>n⟩
theorem laysNm224:Go.Proofs.Lays2.n24 Tryz.prog laysNm224_ren:={
 mixed:=by kernel_rfl
 f24:=Tryz.func146.trans (congrArg some (by kernel_rfl))
 t0:=Tryz.underlying0
 a0:=Tryz.isAgg0
 z0:=Tryz.sizeOf0
 v0:=Tryz.zeroValue0
 t3:=Tryz.underlying3
 a3:=Tryz.isAgg3
 z3:=Tryz.sizeOf3
 v3:=Tryz.zeroValue3
 t4:=Tryz.underlying4
 a4:=Tryz.isAgg4
 z4:=Tryz.sizeOf4
 v4:=Tryz.zeroValue4
 t9:=Tryz.underlying9
 a9:=Tryz.isAgg9
 z9:=Tryz.sizeOf9
 v9:=Tryz.zeroValue9
 t24:=Tryz.underlying28
 a24:=Tryz.isAgg28
 z24:=Tryz.sizeOf28
 v24:=Tryz.zeroValue28
 i9:=by kernel_rfl }
open Go.RowKit Go.Lib Go.Sort in
theorem slices_Delete_string (blk off cap i j:Nat) (zs:List (List UInt8)) (w:World) (hH:Holds encStr w blk off zs.toArray) (hcap:zs.length<=cap) (hm:cap<=9223372036854775807) (hij:i<=j) (hj:j<=zs.length):
  Calls Tryz.prog 146 #[.slice (some ⟨blk,off,none⟩) zs.length cap,.int .i64 i,.int .i64 j] w fun e w'=>e=.returned (.slice (some ⟨blk,off,none⟩) (zs.length - (j - i)) cap)/\∃ q,w'=putRow encStr (Sort.ahead w q) blk off (zs.take i++zs.drop j++List.replicate (j - i) []).toArray:=Any.slices_Delete_string laysNm224 blk off cap i j zs w hH hcap hm hij hj
open Go.RowKit Go.Lib in
theorem slices_Equal_string_lens (a1 a2:Option Addr) (n c m d:Nat) (w:World) (hnm:n ≠ m):
  Calls Tryz.prog 94 #[.slice a1 n c,.slice a2 m d] w fun e w'=>e=.returned (.bool false)/\w'=w:=Any.slices_Equal_string_lens lays193 a1 a2 n c m d w hnm
end XDesk
/- The contract of the library's bytes.Equal,at every two slices of bytes. -/
namespace CEqual
open Kit
theorem conv_run {w:World} {B:Nat} {A:Option Addr} {xs:List Int} (h:Rd w B A (ints .u8 xs)) (c:Nat):(convert 22 9 (.slice A xs.length c)).run Tryz.prog w=.ok (.string (strOfNums xs)) w:=by
 cases xs with
 | nil=>
  cases A with
  | none=>exact run_convert_bytes_nil w 22 5 Tryz.underlying22 Tryz.underlying5 0 c 9 Tryz.underlying9
  | some a=>
   have hl:(loadCells a 0).run Tryz.prog w=.ok (([]:List Int).map (Value.int .u8)).toArray w:=by
    have:=run_loadCells_list (P:=Tryz.prog) w a [] (fun j v hj=>by simp at hj)
    simpa using this
   have hl0:([]:List Int).length=0:=rfl;rw [hl0,run_convert_bytes_string w 22 9 5 _ 0 c Tryz.underlying22 Tryz.underlying5 Tryz.underlying9,run_bytesToString w _ 0 c [] hl]
   rfl
 | cons x r=>
  obtain ⟨b,off,rfl,_⟩:=h.int (i:=0) (by simp);refine run_convert_bytes_arg w 22 5 Tryz.underlying22 Tryz.underlying5 b off _ c (x :: r) rfl (fun i hi=>?_) 9 Tryz.underlying9;obtain ⟨b',off',e,_,hc⟩:=h.int hi;simp only [Option.some.injEq,Addr.mk.injEq,and_true] at e;obtain ⟨rfl,rfl⟩:=e;rw [hc,List.getD_eq_getElem?_getD,List.getElem?_eq_getElem hi]
  rfl
end CEqual
/- The reference's decimal numbers: they are the library's. -/
namespace CNumTxt
open Kit CEqual
def dch (v:Nat):UInt8:=UInt8.ofNat (48+v % 10)
def dpre (v:Nat):List UInt8:=if v<10 then [] else Lib.decDigits (v / 10)
theorem dec_pre (v:Nat):Lib.decDigits v=dpre v++[dch v]:=by
 rw [Lib.decDigits];unfold dpre dch
 split
 ·rename_i h;rw [show v % 10=v by omega]
  rfl
 ·rfl
theorem dpre_next {v:Nat} (h:¬ v<10):dpre v=dpre (v / 10)++[dch (v / 10)]:=by
 rw [<-dec_pre];unfold dpre;rw [if_neg h]
theorem str_add (a b:List UInt8):((⟨a.toArray⟩:ByteArray)++(⟨b.toArray⟩:ByteArray))=⟨(a++b).toArray⟩:=by
 apply ByteArray.ext
 simp
theorem conv_digit (W:World) (v:Nat):(convert 22 9 (.slice (some ⟨W.heap.size,0,none⟩) 1 1)).run Tryz.prog (W.alloc (.cells #[.int .u8 (48+(v:Int) % 10)] 5))=.ok (.string ⟨[dch v].toArray⟩) (W.alloc (.cells #[.int .u8 (48+(v:Int) % 10)] 5)):=by
 have h:Rd (W.alloc (.cells #[.int .u8 (48+(v:Int) % 10)] 5)) (W.heap.size+1) (some ⟨W.heap.size,0,none⟩) (ints .u8 [48+(v:Int) % 10]):=by
  intro i u hi
  match i,hi with
  | 0,hi=>
   simp at hi;subst hi;exact ⟨_,_,rfl,Nat.lt_succ_self _,(Box.new W 5 #[.int .u8 (48+(v:Int) % 10)]).cell 0⟩
  | i+1,hi=>simp at hi
 have:=conv_run h 1
 rw [show strOfNums [48+(v:Int) % 10]=⟨[dch v].toArray⟩ from by
  unfold strOfNums dch;simp only [List.map_cons,List.map_nil]
  rw [show (48+(v:Int) % 10).toNat=48+v % 10 by omega]] at this
 exact this
theorem l8Number_any (n:Int) (w:World) (h0:-1000000000<=n) (h1:n<=1000000000):
  Calls Tryz.prog 40 #[.int .i64 n] w (Ret (.string ⟨(Lib.itoa n).toArray⟩) w):=by
 by_cases hn:n<0
 ·obtain ⟨u,rfl⟩:∃ u:Nat,n=-(u:Int):=⟨n.natAbs,by omega⟩
  have w1:IntKind.i64.wrap (u:Int)=u:=by rw [IntKind.wrap_i64]; omega
  have hu1:1<=u:=by omega
  have e1:=conv_digit w u
  go_enter Tryz.func40,Tryz.ntmps40
  go_wp2_with fail
  clear e1
  go_loopw [0,4] (fun x s wr=>∃ (v:Nat) (l:List UInt8),x=.int .i64 v/\s=.string ⟨l.toArray⟩/\v<=u/\Lib.decDigits u=dpre v++l/\Below w.heap.size w wr) (fun x _ _=>(intOf x).toNat)
  case atStart=>exact ⟨u,_,rfl,rfl,Nat.le_refl _,dec_pre u,b_⟩
  case round=>
   obtain ⟨v,l,rfl,rfl,hv,hd,hb⟩:=hrel
   have hll:l.length<=20:=by
    have h:=congrArg List.length hd;rw [Lib.decDigits_length,List.length_append] at h;have:=Lib.nDigits_le20 u (by omega);omega
   have hl1:¬ 9223372036854775807<l.length:=by omega
   have hl2:¬ 9223372036854775807<1+l.length:=by omega
   have hl3:¬ 9223372036854775807<l.length+1:=by omega
   have HD:=h_ hd;have HB:=h_ hb;clear hd hb
   by_cases h9:v<10
   ·have HV:=h_ (show ((⟨#[45]⟩:ByteArray)++(⟨l.toArray⟩:ByteArray))=⟨(Lib.itoa (-(u:Int))).toArray⟩ from by
     rw [show ((⟨#[45]⟩:ByteArray)++(⟨l.toArray⟩:ByteArray))=⟨([45]++l).toArray⟩ from str_add [45] l];have h:=HD.o;rw [dpre,if_pos h9,List.nil_append] at h;rw [Lib.itoa_neg u hu1,h]
     rfl)
    go_wp2_with fail
    rw [HV.o];go_ret;exact ⟨rfl,HB.o⟩
   ·have e1:=conv_digit wr (v / 10);rw [show ((v / 10:Nat):Int)=(v:Int) / 10 from by omega] at e1;have HV:=h_ (str_add [dch (v / 10)] l);have HN:=h_ (show (v:Int) / 10=((v / 10:Nat):Int) from by omega);have HP:=h_ (dpre_next h9)
    go_wp2_with fail
    go_roundw
    case rel=>
     refine ⟨v / 10,[dch (v / 10)]++l,by rw [HN.o],by rw [<-HV.o],by omega,?_,HB.o.alloc HB.o.size _⟩;rw [HD.o,HP.o,List.append_assoc]
    case measure=>simp [intOf]; omega
 ·obtain ⟨u,rfl⟩:∃ u:Nat,n=u:=⟨n.toNat,by omega⟩;have e1:=conv_digit w u
  go_enter Tryz.func40,Tryz.ntmps40
  go_wp2_with fail
  clear e1
  go_loopw [0,4] (fun x s wr=>∃ (v:Nat) (l:List UInt8),x=.int .i64 v/\s=.string ⟨l.toArray⟩/\v<=u/\Lib.decDigits u=dpre v++l/\Below w.heap.size w wr) (fun x _ _=>(intOf x).toNat)
  case atStart=>exact ⟨u,_,rfl,rfl,Nat.le_refl _,dec_pre u,b_⟩
  case round=>
   obtain ⟨v,l,rfl,rfl,hv,hd,hb⟩:=hrel
   have hll:l.length<=20:=by
    have h:=congrArg List.length hd;rw [Lib.decDigits_length,List.length_append] at h;have:=Lib.nDigits_le20 u (by omega);omega
   have hl1:¬ 9223372036854775807<l.length:=by omega
   have hl2:¬ 9223372036854775807<1+l.length:=by omega
   have hl3:¬ 9223372036854775807<l.length+1:=by omega
   have HD:=h_ hd;have HB:=h_ hb;clear hd hb
   by_cases h9:v<10
   ·have HV:=h_ (show ((⟨#[]⟩:ByteArray)++(⟨l.toArray⟩:ByteArray))=⟨(Lib.itoa (u:Int)).toArray⟩ from by
     rw [show ((⟨#[]⟩:ByteArray)++(⟨l.toArray⟩:ByteArray))=⟨l.toArray⟩ from str_add [] l];have h:=HD.o;rw [dpre,if_pos h9,List.nil_append] at h
     rw [Lib.itoa,if_neg (by omega),show (u:Int).toNat=u from rfl,h])
    go_wp2_with fail
    rw [HV.o];go_ret;exact ⟨rfl,HB.o⟩
   ·have e1:=conv_digit wr (v / 10);rw [show ((v / 10:Nat):Int)=(v:Int) / 10 from by omega] at e1;have HV:=h_ (str_add [dch (v / 10)] l);have HN:=h_ (show (v:Int) / 10=((v / 10:Nat):Int) from by omega);have HP:=h_ (dpre_next h9)
    go_wp2_with fail
    go_roundw
    case rel=>
     refine ⟨v / 10,[dch (v / 10)]++l,by rw [HN.o],by rw [<-HV.o],by omega,?_,HB.o.alloc HB.o.size _⟩;rw [HD.o,HP.o,List.append_assoc]
    case measure=>simp [intOf]; omega
end CNumTxt
/- Decimal numbers,read and written; and texts divided at a byte: plain. -/
namespace PNum
open CNumTxt
def dfold (acc:Int):List UInt8->Int
 | []=>acc
 | c :: r=>dfold (10*acc+c.toNat - 48) r
theorem dfold_snoc (acc:Int) (l:List UInt8) (c:UInt8):dfold acc (l++[c])=10*dfold acc l+c.toNat - 48:=by
 induction l generalizing acc with
 | nil=>rfl
 | cons x l ih=>exact ih _
theorem dig_toNat (v:Nat):(dch v).toNat=48+v % 10:=by
 unfold dch;rw [UInt8.toNat_ofNat'];omega
theorem dfold_dec (u:Nat) (r:List UInt8):dfold 0 (Lib.decDigits u++r)=dfold u r:=by
 induction u using Nat.strongRecOn generalizing r with
 | ind u ih=>
  rw [dec_pre];unfold dpre
  by_cases h:u<10
  ·rw [if_pos h]
   show dfold (10*0+(dch u).toNat - 48) r=_
   rw [dig_toNat]
   congr 1
   omega
  ·rw [if_neg h,List.append_assoc,ih (u / 10) (by omega)]
   show dfold (10*((u / 10:Nat):Int)+(dch u).toNat - 48) r=_
   rw [dig_toNat]
   congr 1
   omega
theorem parse_dec (u:Nat) (hu:u<=1000000) (r:List UInt8):Lib.parseUint10 0 (Lib.decDigits u++r)=Lib.parseUint10 u r:=by
 induction u using Nat.strongRecOn generalizing r with
 | ind u ih=>
  rw [dec_pre];unfold dpre
  by_cases h:u<10
  ·rw [if_pos h]
   show Lib.parseUint10 0 (dch u :: r)=_
   rw [Lib.parseUint10,dig_toNat,if_pos (by omega),if_neg (by omega),if_neg (by omega)]
   congr 1
   omega
  ·rw [if_neg h,List.append_assoc,ih (u / 10) (by omega) (by omega)]
   show Lib.parseUint10 (u / 10) (dch u :: r)=_
   rw [Lib.parseUint10,dig_toNat,if_pos (by omega),if_neg (by omega),if_neg (by omega)]
   congr 1
   omega
theorem dec_ne (u:Nat):Lib.decDigits u ≠ []:=by
 rw [dec_pre];simp
theorem dec_digit (u:Nat):∀ c ∈ Lib.decDigits u,48<=c.toNat/\c.toNat<=57:=by
 induction u using Nat.strongRecOn with
 | ind u ih=>
  intro c hc;rw [dec_pre] at hc
  rcases List.mem_append.1 hc with hc | hc
  ·unfold dpre at hc
   split at hc
   ·cases hc
   ·exact ih (u / 10) (by omega) c hc
  ·simp only [List.mem_singleton] at hc;subst hc;rw [dig_toNat];omega
theorem itoa_nat (u:Nat):Lib.itoa (u:Int)=Lib.decDigits u:=by
 unfold Lib.itoa;rw [if_neg (by omega)];simp
theorem parseMag_dec (u:Nat) (hu:u<=1000000):Lib.parseMag (Lib.decDigits u)=.ok u:=by
 unfold Lib.parseMag;rw [if_neg (dec_ne u)];have:=parse_dec u hu [];rw [List.append_nil] at this;rw [this]
 rfl
theorem neg_of {b:Int} (h:b<0):∃ u:Nat,b=-(u:Int)/\1<=u:=⟨b.natAbs,by omega,by omega⟩
theorem atoi_itoa {b:Int} (h0:-1000000<=b) (h1:b<=1000000):Lib.atoiAll (Lib.itoa b)=.ok b:=by
 by_cases hb:b<0
 ·obtain ⟨u,rfl,hu⟩:=neg_of hb;rw [Lib.itoa_neg u hu,Lib.atoiAll_minus,parseMag_dec u (by omega)];unfold Lib.signed;simp only;rw [if_neg (by omega)]
 ·obtain ⟨u,rfl⟩:=Int.eq_ofNat_of_zero_le (show 0<=b by omega);rw [itoa_nat];have hp:=parseMag_dec u (by omega);have hd:=dec_digit u
  cases hl:Lib.decDigits u with
  | nil=>exact absurd hl (dec_ne u)
  | cons c r=>
   rw [hl] at hp hd;have hc:=hd c (by simp);rw [Lib.atoiAll_plain c r (by omega) (by omega),hp];unfold Lib.signless;simp only;rw [if_neg (by omega)]
def rdV:List UInt8->Int
 | []=>0
 | c :: r=>if c=45 then -dfold 0 r else dfold 0 (c :: r)
def rdN (l:List UInt8):Int:=if l.length<=6/\Lib.itoa (rdV l)=l then rdV l else 99999
theorem rdV_itoa (b:Int):rdV (Lib.itoa b)=b:=by
 by_cases hb:b<0
 ·obtain ⟨u,rfl,hu⟩:=neg_of hb;rw [Lib.itoa_neg u hu,rdV,if_pos rfl];have:=dfold_dec u [];rw [List.append_nil] at this;rw [this]
  rfl
 ·obtain ⟨u,rfl⟩:=Int.eq_ofNat_of_zero_le (show 0<=b by omega);rw [itoa_nat];have hd:=dec_digit u;have hf:=dfold_dec u [];rw [List.append_nil] at hf
  cases hl:Lib.decDigits u with
  | nil=>exact absurd hl (dec_ne u)
  | cons c r=>
   rw [hl] at hd hf;have hc:=hd c (by simp);rw [rdV,if_neg (by rintro rfl; have:(45:UInt8).toNat=45:=rfl; omega),hf]
   rfl
theorem dec_len (u:Nat) (h:u<=99999):1<=(Lib.decDigits u).length/\(Lib.decDigits u).length<=5:=by
 rw [Lib.decDigits_length];refine ⟨Lib.nDigits_pos u,?_⟩;rw [Lib.nDigits]
 split
 ·omega
 rw [Lib.nDigits]
 split
 ·omega
 rw [Lib.nDigits]
 split
 ·omega
 rw [Lib.nDigits]
 split
 ·omega
 rw [Lib.nDigits_small (by omega)]
 decide
theorem itoa_len {b:Int} (h0:-99999<=b) (h1:b<=99999):1<=(Lib.itoa b).length/\(Lib.itoa b).length<=6:=by
 by_cases hb:b<0
 ·obtain ⟨u,rfl,hu⟩:=neg_of hb;have:=dec_len u (by omega);rw [Lib.itoa_neg u hu,List.length_cons];omega
 ·obtain ⟨u,rfl⟩:=Int.eq_ofNat_of_zero_le (show 0<=b by omega);have:=dec_len u (by omega);rw [itoa_nat];omega
theorem rdN_itoa {b:Int} (h0:-99999<=b) (h1:b<=99999):rdN (Lib.itoa b)=b:=by
 unfold rdN;rw [rdV_itoa,if_pos ⟨(itoa_len h0 h1).2,rfl⟩]
theorem rdN_cases (l:List UInt8):rdN l=99999\/Lib.itoa (rdN l)=l:=by
 unfold rdN
 split
 ·rename_i h;exact .inr h.2
 ·exact .inl rfl
theorem itoa_byte (b:Int):∀ c ∈ Lib.itoa b,c.toNat=45\/(48<=c.toNat/\c.toNat<=57):=by
 intro c hc
 by_cases hb:b<0
 ·obtain ⟨u,rfl,hu⟩:=neg_of hb;rw [Lib.itoa_neg u hu] at hc
  rcases List.mem_cons.1 hc with rfl | hc
  ·exact .inl rfl
  ·exact .inr (dec_digit u c hc)
 ·obtain ⟨u,rfl⟩:=Int.eq_ofNat_of_zero_le (show 0<=b by omega);rw [itoa_nat] at hc;exact .inr (dec_digit u c hc)
theorem itoa_digit (b:Int) (k:Nat) (c:UInt8) (h:(Lib.itoa b)[k]?=some c) (hk:0<k\/c ≠ 45):48<=c.toNat/\c.toNat<=57:=by
 by_cases hb:b<0
 ·obtain ⟨u,rfl,hu⟩:=neg_of hb;rw [Lib.itoa_neg u hu] at h
  cases k with
  | zero=>
   simp only [List.getElem?_cons_zero,Option.some.injEq] at h
   rcases hk with hk | hk
   ·omega
   ·exact absurd h.symm hk
  | succ k=>
   rw [List.getElem?_cons_succ] at h;exact dec_digit u c (List.mem_of_getElem? h)
 ·obtain ⟨u,rfl⟩:=Int.eq_ofNat_of_zero_le (show 0<=b by omega);rw [itoa_nat] at h;exact dec_digit u c (List.mem_of_getElem? h)
theorem itoa_no {c:UInt8} (hc:c.toNat<45\/57<c.toNat) (b:Int):c ∉ Lib.itoa b:=fun h=>by
 have:=itoa_byte b c h;omega
theorem rdN_long {l:List UInt8} (h:6<l.length):rdN l=99999:=if_neg (fun h'=>by omega)
theorem rdN_bad {l:List UInt8} {k:Nat} {c:UInt8} (h:l[k]?=some c) (hk:0<k\/c ≠ 45) (hc:c.toNat<48\/57<c.toNat):rdN l=99999:=by
 refine if_neg fun h'=>?_;rw [<-h'.2] at h;have:=itoa_digit _ k c h hk;omega
def canon (l:List UInt8):Option Int:=match Lib.atoiAll l with
 | .ok v=>if Lib.itoa v=l then some v else none
 | _=>none
theorem canon_itoa {b:Int} (h0:-1000000<=b) (h1:b<=1000000):canon (Lib.itoa b)=some b:=by
 unfold canon;rw [atoi_itoa h0 h1];exact if_pos rfl
theorem canon_some {l:List UInt8} {v:Int} (h:canon l=some v):Lib.itoa v=l:=by
 unfold canon at h
 split at h
 ·split at h
  ·injection h with h;subst h
   assumption
  ·cases h
 ·cases h
/-! ### Texts divided at a byte -/
def headC (b:UInt8):List (List UInt8)->List (List UInt8)
 | []=>[[b]]
 | x :: r=>(b :: x) :: r
def splt (c:UInt8):List UInt8->List (List UInt8)
 | []=>[[]]
 | b :: l=>if b=c then [] :: splt c l else headC b (splt c l)
def lastC (b:UInt8):List (List UInt8)->List (List UInt8)
 | []=>[[b]]
 | [x]=>[x++[b]]
 | x :: y :: r=>x :: lastC b (y :: r)
theorem headC_ne (b:UInt8) (l:List (List UInt8)):headC b l ≠ []:=by
 cases l <;> simp [headC]
theorem splt_ne (c:UInt8) (l:List UInt8):splt c l ≠ []:=by
 cases l with
 | nil=>simp [splt]
 | cons b l=>
  rw [splt]
  split
  ·simp
  ·exact headC_ne b _
theorem splt_len (c:UInt8) (l:List UInt8):1<=(splt c l).length/\(splt c l).length<=l.length+1:=by
 induction l with
 | nil=>simp [splt]
 | cons b l ih=>
  rw [splt]
  split
  ·simp only [List.length_cons];omega
  ·cases h:splt c l with
   | nil=>exact absurd h (splt_ne c l)
   | cons x r=>
    rw [h] at ih;simp only [headC,List.length_cons] at ih ⊢;omega
theorem splt_snoc (c:UInt8) (l:List UInt8) (b:UInt8):splt c (l++[b])=if b=c then splt c l++[[]] else lastC b (splt c l):=by
 induction l with
 | nil=>
  simp only [List.nil_append,splt,headC,lastC]
  split <;> rfl
 | cons a l ih=>
  rw [List.cons_append,splt,splt,ih]
  by_cases hb:b=c
  ·simp only [if_pos hb]
   split
   ·rfl
   ·cases h:splt c l with
    | nil=>exact absurd h (splt_ne c l)
    | cons x r=>rfl
  ·simp only [if_neg hb]
   cases h:splt c l with
   | nil=>exact absurd h (splt_ne c l)
   | cons x r=>
    split
    ·rfl
    ·cases r with
     | nil=>rfl
     | cons y r=>rfl
theorem lastC_snoc (b:UInt8) (l:List (List UInt8)) (x:List UInt8):lastC b (l++[x])=l++[x++[b]]:=by
 induction l with
 | nil=>rfl
 | cons a l ih=>
  cases l with
  | nil=>rfl
  | cons a' l=>rw [List.cons_append,List.cons_append,lastC,<- List.cons_append,ih]; rfl
theorem splt_whole (c:UInt8) {l:List UInt8} (h:c ∉ l):splt c l=[l]:=by
 induction l with
 | nil=>rfl
 | cons b l ih=>
  rw [splt,if_neg (fun e=>h (by simp [e])),ih (fun hc=>h (by simp [hc]))]
  rfl
theorem splt_cut (c:UInt8) {x:List UInt8} (h:c ∉ x) (r:List UInt8):splt c (x++c :: r)=x :: splt c r:=by
 induction x with
 | nil=>simp [splt]
 | cons b x ih=>
  rw [List.cons_append,splt,if_neg (fun e=>h (by simp [e])),ih (fun hc=>h (by simp [hc]))]
  rfl
def joinC (c:UInt8):List (List UInt8)->List UInt8
 | []=>[]
 | [x]=>x
 | x :: y :: r=>x++c :: joinC c (y :: r)
theorem splt_join (c:UInt8):∀ (ws:List (List UInt8)),ws ≠ []->(∀ w ∈ ws,c ∉ w)->splt c (joinC c ws)=ws
 | [],h,_=>absurd rfl h
 | [x],_,h=>splt_whole c (h x (by simp))
 | x :: y :: r,_,h=>by
  rw [joinC,splt_cut c (h x (by simp)),splt_join c (y :: r) (by simp) (fun w hw=>h w (by simp [List.mem_cons.1 hw]))]
theorem join_snoc (c:UInt8):∀ (ws:List (List UInt8)) (x:List UInt8),ws ≠ []->joinC c (ws++[x])=joinC c ws++c :: x
 | [],_,h=>absurd rfl h
 | [a],x,_=>by simp [joinC]
 | a :: b :: r,x,_=>by
  have:=join_snoc c (b :: r) x (by simp);simp only [List.cons_append] at this ⊢;rw [joinC,joinC,this];simp
theorem index_none {c:UInt8}:∀ {l:List UInt8},c ∉ l->Lib.index l [c]=-1
 | [],_=>by simp [Lib.index]
 | b :: l,h=>by
  have hb:b ≠ c:=fun e=>h (by simp [e])
  have hp:([c]:List UInt8).isPrefixOf (b :: l)=false:=by simp [List.isPrefixOf,Ne.symm hb]
  rw [Lib.index,hp,index_none (l:=l) (fun hc=>h (by simp [hc]))];simp
theorem index_cut {c:UInt8}:∀ {x:List UInt8} (_:c ∉ x) (r:List UInt8),Lib.index (x++c :: r) [c]=(x.length:Int)
 | [],_,r=>by simp [Lib.index,List.isPrefixOf]
 | b :: x,h,r=>by
  have hb:b ≠ c:=fun e=>h (by simp [e])
  have hp:([c]:List UInt8).isPrefixOf (b :: (x++c :: r))=false:=by simp [List.isPrefixOf,Ne.symm hb]
  rw [List.cons_append,Lib.index,hp,index_cut (x:=x) (fun hc=>h (by simp [hc])) r]
  have hn:¬ ((x.length:Int) == -1)=true:=by simp
  simp only [Bool.false_eq_true,if_false];rw [if_neg hn,List.length_cons];omega
theorem cut_or (c:UInt8) (l:List UInt8):c ∉ l\/∃ x r,l=x++c :: r/\c ∉ x:=by
 induction l with
 | nil=>exact .inl (by simp)
 | cons b l ih=>
  by_cases hb:b=c
  ·exact .inr ⟨[],l,by simp [hb],by simp⟩
  ·rcases ih with h | ⟨x,r,rfl,h⟩
   ·exact .inl (by simp [Ne.symm hb,h])
   ·exact .inr ⟨b :: x,r,rfl,by simp [Ne.symm hb,h]⟩
theorem splitK_splt (c:UInt8):∀ (k:Nat) (l:List UInt8),l.count c=k->Lib.splitK [c] 0 k l=splt c l
 | 0,l,h=>by
  rw [splt_whole c (List.count_eq_zero.1 h)]
  rfl
 | k+1,l,h=>by
  rcases cut_or c l with h' | ⟨x,r,rfl,hx⟩
  ·rw [List.count_eq_zero.2 h'] at h;omega
  ·rw [Lib.splitK,index_cut hx,splt_cut c hx,if_neg (by simp)];rw [show ((x.length:Int)).toNat=x.length from rfl,Nat.add_zero,List.take_left];rw [show x.length+([c]:List UInt8).length=(x++[c]).length by simp,show x++c :: r=(x++[c])++r by simp,List.drop_left];rw [splitK_splt c k r ?_];rw [List.count_append,List.count_eq_zero.2 hx,List.count_cons_self] at h;omega
theorem split_splt (c:UInt8) (l:List UInt8):Lib.splitK [c] 0 (Lib.count l [c]) l=splt c l:=by
 rw [Lib.count_one];exact splitK_splt c _ l rfl
end PNum
end Go.Proofs.YtepoiphmmjfbdaaGreatDoor
