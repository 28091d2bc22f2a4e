/- Small general lemmas, over any program: how a law (a function that answers one bool) is closed out of its walk; hiding of facts. -/
import Derived.WalkKit
import Derived.ProofKit
import Derived.OpenShut
import Derived.Lib.SmallJoins
import Derived.Deep.Slices
import Derived.Deep.Fields
import Derived.Laws.AppendOwnNone
import Derived.Deep.RegionHeld
import Derived.Laws.OwnMore
import Derived.Deep.RegionLawGrows
import Derived.Deep.Upon
import Derived.Deep.AppendLies
set_option linter.unusedSimpArgs false
set_option linter.unusedVariables false
set_option maxRecDepth 200000
open Go.ChangeShapes Go.WideShapes Go.ChangeAt Go.RowKit
namespace Go.Proofs.YtepoiphmmjfbdaaGreatDoor
namespace Kit
open Go.Deep

def Hd(p:Prop):Prop:=p
theorem Hd.o {p:Prop}(h:Hd p):p:=h
theorem h_{p:Prop}(h:p):Hd p:=h
def LawEnds(w:World)(e:Ending)(w':World):Prop:=e=.returned (.bool true)/\Below w.heap.size w w'

def Ret(v:Value)(w:World)(e:Ending)(w':World):Prop:=e=.returned v/\Below w.heap.size w w'
def Pure(v:Value)(w:World)(e:Ending)(w':World):Prop:=e=.returned v/\w=w'
theorem bcell{w w':World}(hb:Below w.heap.size w w'):(∀b o,b<w.heap.size->w'.cell? ⟨b,o,none⟩=w.cell? ⟨b,o,none⟩)/\(∀b o,b<w.heap.size->w'.frozen? ⟨b,o,none⟩=w.frozen? ⟨b,o,none⟩):=
 ⟨λb o h=>hb.cell (p:=⟨b,o,none⟩) h,λb o h=>hb.frozen (p:=⟨b,o,none⟩) h⟩
theorem ret_bool{a b:Bool}(h:a=b):Ending.returned (.bool a)=.returned (.bool b):=by rw[h]
theorem ret_int{k:IntKind}{a b:Int}(h:a=b):Ending.returned (.int k a)=.returned (.int k b):=by rw[h]
theorem Below.drewN {B:Nat}{a w:World}(h:Below B a w)(n:Nat):Below B a (w.drewN n):=⟨h.os,h.tape,h.output,h.size,h.block⟩

theorem of_drew{w w':World}(h:Below w.drew.heap.size w.drew w'):Below w.heap.size w w':=⟨h.os,h.tape,h.output,h.size,h.block⟩
theorem below_drawn{B:Nat}{w w':World}{os tape out}{d:Nat}(h:Below B {heap:=w.heap,tape:=tape,drawn:=d,os:=os,output:=out} w')(ho:os=w.os:=by rfl)(ht:tape=w.tape:=by rfl)(hu:out=w.output:=by rfl):Below B w w':=by subst ho ht hu;exact⟨h.os,h.tape,h.output,h.size,h.block⟩
theorem Pure.quiet {P:Program}{f:FuncId}{args:Array Value}{w:World}{n:Nat}{v:Value}(h:Calls P f args (w.drewN n) (Pure v (w.drewN n))):
  Calls P f args (w.drewN n) λe w''=>e=.returned v/\∃m,w''=w.drewN m:=h.mono λ_ _ ⟨he,hm⟩=>⟨he,n,hm.symm⟩
section
variable {H:Type}{enc:TypeId×Value->H}{P:Program}

theorem trodAll_len{w:World}{base:Nat}{sp:Nat->Bool}{held:Bool}:∀(ts:List TypeId) (vs:List Value) (ds:List (DataW H)) (ps:List MemPlace),
  DataW.TrodAll enc P w base sp held ts vs ds ps->vs.length=ts.length/\ds.length=ts.length
 |[],vs,ds,ps,h=>by obtain⟨rfl,rfl,_⟩:=trodAll_nil h;exact⟨rfl,rfl⟩
 |t::ts,vs,ds,ps,h=>by obtain⟨v,vs',d,ds',p,q,rfl,rfl,rfl,_,h2⟩:=trodAll_cons h;obtain⟨a,b⟩:=trodAll_len ts vs' ds' q h2;simp[a,b]

theorem below_trodAll(hl:laidOutB P=true){W W':World}(hb:Below W.heap.size W W'):
  ∀(ts:List TypeId) (vs:List Value) (ds:List (DataW H)) (ps:List MemPlace),(∀t∈ts,P.readableRec t=true/\t<P.types.size)→
   (∀x∈ps,x.block<W.heap.size)->DataW.TrodAll enc P W 0 (λ_=>true) true ts vs ds ps→
   DataW.TrodAll enc P W' 0 (λb=>decide (b<W.heap.size)) true ts vs ds ps
 |[],vs,ds,ps,_,_,h=>by obtain⟨rfl,rfl,rfl⟩:=trodAll_nil h;exact trodAll_mk0
 |t::ts,vs,ds,ps,hr,hlt,h=>by obtain⟨v,vs',d,ds',p,q,rfl,rfl,rfl,h1,h2⟩:=trodAll_cons h;refine trodAll_cons_mk ?_ (below_trodAll hl hb ts vs' ds' q (λt ht=>hr t (by simp[ht])) (λx hx=>hlt x (by simp[hx])) h2);exact Below.trod hl (hr t (by simp)).1 (hr t (by simp)).2 h1 hb (λx hx=>hlt x (by simp[hx]))

theorem law_post(hl:laidOutB P=true){f:Func}{s:ChangeSpec}{W:World}{args:Array Value}{ds gs:List (DataW H)}{before:List MemPlace}{e:Ending}{W':World}{tb:TypeId}
  (hr:∀t∈f.params.toList,P.readableRec t=true/\t<P.types.size)(htb:P.underlying tb=some .bool)(hres:f.resultTypes=#[tb])(hv:s.vars=[])
  (hs:∀ds:List (DataW H),ds.length=f.params.toList.length->s.fn H ds={results:=[.lit (.bool true)],args:=ds})
  (hW:DataW.Whole enc P f.params.toList s.vars false W args.toList ds gs before)(h:LawEnds W e W'):
  ∃v,e=.returned v/\s.post enc P f false true false false W args v W':=by
 obtain⟨he,hb⟩:=h;have hlt:∀p∈before,p.block<W.heap.size:=λp hp=>hW.lt p hp;have hW':=hW;obtain⟨p,q,hA,hV,rfl,hfz,hnd⟩:=hW;rw[hv]at hV;obtain⟨rfl,rfl⟩:=trodVars_none hV;obtain⟨_,hdl⟩:=trodAll_len _ _ _ _ hA;have hsd:=hs ds hdl;refine⟨_,he,ds,[],p++[],[],p,[],hW',?_,?_,?_,?_,λh=>by cases h⟩
 ·rw[List.append_nil,hsd,hres];exact trodAll_mk1 (shut_bool htb true)
 ·rw[List.append_nil,hsd];exact below_trodAll hl hb _ _ _ _ hr (λx hx=>hlt x (by simp[hx])) hA
 ·rw[hv];rw[List.append_nil,hsd];trivial
 ·exact hb.frame _
end

/-! ### Slices that are read -/
def Rd(w:World)(B:Nat)(A:Option Addr)(xs:List Value):Prop:=
 ∀(i:Nat) (u:Value),xs[i]?=some u->∃b off,A=some ⟨b,off,none⟩/\b<B/\w.cell? ⟨b,off+i,none⟩=some u

section
variable {w w':World}{B B':Nat}{A:Option Addr}{xs:List Value}
theorem Rd.nil (A:Option Addr):Rd w B A []:=λi u h=>by simp at h
theorem Rd.keep (h:Rd w B A xs)(hk:∀p:Addr,p.block<B->w'.cell? p=w.cell? p):Rd w' B A xs:=λi u hi=>by obtain⟨b,off,e,hb,hc⟩:=h i u hi;exact⟨b,off,e,hb,(hk _ hb).trans hc⟩
theorem Rd.more (h:Rd w B A xs)(hB:B<=B'):Rd w B' A xs:=λi u hi=>by obtain⟨b,off,e,hb,hc⟩:=h i u hi;exact⟨b,off,e,by omega,hc⟩
theorem Rd.below (h:Rd w B A xs)(hb:Below B w w'):Rd w' B A xs:=h.keep λ_ hp=>hb.cell hp
theorem Rd.at_ (h:Rd w B A xs){i:Nat}(hi:i<xs.length):∃b off,A=some ⟨b,off,none⟩/\b<B/\w.cell? ⟨b,off+i,none⟩=some xs[i]:=h i _ (List.getElem?_eq_getElem hi)
theorem Rd.of_own {base:Nat}{e:TypeId}{size n c:Nat}(h:w.ownsRow base e size (.slice A n c) n xs):Rd w w.heap.size A xs:=λi u hi=>by
 rcases h.2 with⟨hv,rfl⟩|⟨g,cap,cur,hv,_,hg,_⟩
 ·have:=h.1;have hl:xs=[]:=List.eq_nil_of_length_eq_zero (by simpa using this);subst hl;simp at hi
 ·injection hv with hA;subst hA;refine⟨g,0,rfl,(Array.getElem?_eq_some_iff.1 hg).1,?_⟩;have:=h.cells (g:=g) rfl i u hi;have hadd:(⟨g,0,none⟩:Addr).add i=⟨g,0+i,none⟩:=by unfold Addr.add;split<;>simp_all
  rwa[hadd]at this
end

theorem Rd.part {w:World}{B:Nat}{A:Option Addr}{xs:List Value}(h:Rd w B A xs)(k n:Nat):Rd w B (A.map λa=>⟨a.block,a.off+k,none⟩) ((xs.drop k).take n):=λi u hi=>by
 rw[List.getElem?_take]at hi;split at hi
 ·rw[List.getElem?_drop]at hi;obtain⟨b,off,rfl,hb,hc⟩:=h (k+i) u hi;exact⟨b,off+k,rfl,hb,by rw[Nat.add_assoc];exact hc⟩
 ·cases hi
abbrev ints(k:IntKind)(zs:List Int):List Value:=zs.map (Value.int k)
theorem Rd.int {w:World}{B:Nat}{A:Option Addr}{k:IntKind}{zs:List Int}(h:Rd w B A (ints k zs)){i:Nat}(hi:i<zs.length):
  ∃b off,A=some ⟨b,off,none⟩/\b<B/\w.cell? ⟨b,off+i,none⟩=some (.int k zs[i]):=by
 obtain⟨b,off,e,hb,hc⟩:=h.at_ (i:=i) (by simpa using hi);exact⟨b,off,e,hb,by simpa using hc⟩
theorem Rd.slice {w:World}{B b off:Nat}{k:IntKind}{zs:List Int}(h:Rd w B (some ⟨b,off,none⟩) (ints k zs))(lo n:Nat)(hl:lo+n<=zs.length):
  Rd w B (some ⟨b,off+lo,none⟩) (ints k ((zs.drop lo).take n))/\((zs.drop lo).take n).length=n:=by
 refine⟨?_,by rw[List.length_take,List.length_drop];omega⟩;have:=h.part lo n;simpa[ints,List.map_take,List.map_drop]using this
def InR(lo hi:Int)(zs:List Int):Prop:=∀x∈zs,lo<=x/\x<=hi
theorem InR.at_ {lo hi:Int}{zs:List Int}(h:InR lo hi zs){i:Nat}(hi':i<zs.length):lo<=zs[i]/\zs[i]<=hi:=h _ (List.getElem_mem hi')
theorem setInts(k:IntKind)(zs:List Int)(i:Nat)(x:Int):(ints k zs).set i (.int k x)=ints k (zs.set i x):=by simp[ints,List.map_set]
theorem zero_cells(k:IntKind)(n:Nat):(madeCells (Value.int k 0).cells (n*1)).toList=ints k (List.replicate n 0):=by rw[show(Value.int k 0).cells=#[Value.int k 0]from rfl,toList_madeCells_one];simp[ints]
theorem zero_cells'(k:IntKind)(n:Nat):(madeCells #[Value.int k 0] n).toList=ints k (List.replicate n 0):=by rw[toList_madeCells_one];simp[ints]
theorem take_succ{α:Type}{zs:List α}{i:Nat}(h:i<zs.length):zs.take (i+1)=zs.take i++[zs[i]]:=by rw[List.take_succ_eq_append_getElem h]

/-! ### Appending one element to a row of the call's own -/
theorem cells_new(w:World)(cs:Array Value)(e:TypeId):∀j u,cs.toList[j]?=some u->(w.alloc (.cells cs e)).cell? ((⟨w.heap.size,0,none⟩:Addr).add j)=some u:=by
 intro j u hj;have hadd:(⟨w.heap.size,0,none⟩:Addr).add j=⟨w.heap.size,j,none⟩:=by unfold Addr.add;split<;>simp_all
 rw[hadd,cell_of_row (w.alloc (.cells cs e)) w.heap.size j cs e (0,0) (heap_alloc_new w _)];simpa using hj
theorem wpList_app1{P:Program}(w:World){ops:Array Oper}{rest:List Oper}{o:Oper}{a:Act}{Q:Exit->Act->World->Prop}(hgd:o.guard=none)(s x:Operand)(t:TypeId)
  (ho:o.op=.call {callee:=.builtin .append,args:=#[s,x],argTypes:=#[t,t]})
  (base:Nat)(e:TypeId)(i:TypeInfo)(z:Value)(size bytes:Nat)(ht:P.underlying t=some (.slice e))(hi:P.info? e=some i)(hz:i.zero=some z)
  (hsize:i.size=size)(hby:i.bytes=bytes)(hzs:z.cells.size=size)(hsz:0<size)
  (cs:Array Value)(hx:a.eval x=.slice (some ⟨w.heap.size,0,none⟩) 1 1)(hcs:cs.size=size)(h1:∀u∈cs.toList,u.oneCell'=true)
  (v:Value)(n:Nat)(xs:List Value)(hs:a.eval s=v)(hown:w.ownsRow base e size v n xs)(hn:n+1<=maxLen)(hbytes:(n+1)*bytes<=140737488355328)(hbase:base<=w.heap.size)
  (h:∀A' n' c' w',n'=n+1->w'.ownsRow base e size (.slice A' n' c') n' (xs++cs.toList)->w.grownBy w' v.ownBlock->wpList P ops Q rest (a.put o.dst (.slice A' n' c')) w'):
  wpList P ops Q (o::rest) a (w.alloc (.cells cs e)):=by
 refine wpList_append_own _ hgd s x t ho base e i z size bytes ht hi hz hsize hby hzs hsz v n xs hs (hown.alloc _) ⟨w.heap.size,0,none⟩ 1 1 cs.toList hx (by simpa using hcs) (cells_new w cs e) h1 hn hbytes (by simp;omega) ?_;intro v' w' hown' hg hnil;have hg':w.grownBy w' v.ownBlock:=⟨hg.os,hg.tape,hg.output,Nat.le_trans (by simp) hg.size,λk hk hne=>(hg.block k (by simp;omega) hne).trans (Below.heap_alloc w _ k hk)⟩;rcases hown'.2 with⟨rfl,h0⟩|⟨g,cap,cur,rfl,r⟩
 ·omega
 ·exact h _ _ _ w' rfl hown' hg'

def RetInts(E:TypeId)(k:IntKind)(zs:List Int)(w:World)(e:Ending)(w':World):Prop:=
 ∃A c,e=.returned (.slice A zs.length c)/\w'.ownsRow w.heap.size E 1 (.slice A zs.length c) zs.length (ints k zs)/\Below w.heap.size w w'
theorem RetInts.mk {E:TypeId}{k:IntKind}{zs:List Int}{w w':World}{A:Option Addr}{n c:Nat}(hn:n=zs.length)(ho:w'.ownsRow w.heap.size E 1 (.slice A n c) n (ints k zs))(hb:Below w.heap.size w w'):
  RetInts E k zs w (.returned (.slice A n c)) w':=by
 subst hn;exact⟨A,c,rfl,ho,hb⟩
theorem RetInts.nil {E:TypeId}{k:IntKind}{w w':World}(hb:Below w.heap.size w w'):RetInts E k [] w (.returned (.slice none 0 0)) w':=⟨none,0,rfl,World.ownsRow_nil _ _ _ _,hb⟩
theorem own_empty{w:World}{E:TypeId}:(w.alloc (.cells #[] E)).ownsRow w.heap.size E 1 (.slice (some ⟨w.heap.size,0,none⟩) 0 0) 0 []:=
 World.ownsRow_lit (base:=w.heap.size) (e:=E) (size:=1) w #[] 0 (Nat.le_refl _) (Nat.zero_le _) rfl
def Box(w:World)(g:Nat)(t:TypeId)(cs:Array Value):Prop:=w.heap[g]?=some (.cells cs t (0,0))
section
variable {w w':World}{g:Nat}{t:TypeId}{cs:Array Value}
theorem Box.lt (h:Box w g t cs):g<w.heap.size:=(Array.getElem?_eq_some_iff.1 h).1
theorem Box.cell (h:Box w g t cs)(i:Nat):w.cell? ⟨g,i,none⟩=cs[i]?:=cell_of_row w g i cs t (0,0) h
theorem Box.frozen (h:Box w g t cs)(i:Nat):w.frozen? ⟨g,i,none⟩=false:=frozen_of_row w g i cs t h
theorem Box.new (w:World)(t:TypeId)(cs:Array Value):Box (w.alloc (.cells cs t)) w.heap.size t cs:=heap_alloc_new w _
theorem Box.drew (h:Box w g t cs):Box w.drew g t cs:=h
theorem Box.drewN (h:Box w g t cs)(n:Nat):Box (w.drewN n) g t cs:=h
theorem Box.alloc (h:Box w g t cs)(o:Obj):Box (w.alloc o) g t cs:=(Below.heap_alloc w o g h.lt).trans h
theorem Box.set (h:Box w g t cs)(i:Nat)(u:Value):Box (w.setCell ⟨g,i,none⟩ u) g t (cs.setIfInBounds i u):=heap_setCell_same w g i cs t u h
theorem Box.far (h:Box w g t cs){p:Addr}(hp:g≠p.block)(u:Value):Box (w.setCell p u) g t cs:=(Below.heap_setCell w p u g hp).trans h
theorem Box.below {B:Nat}(h:Box w g t cs)(hb:Below B w w')(hg:g<B):Box w' g t cs:=(hb.block g hg).trans h
theorem Box.call (h:Box w g t cs)(hb:Below w.heap.size w w'):Box w' g t cs:=h.below hb h.lt
end

/-! ### Bits -/
theorem ofInt_i64(a:Nat)(ha:a<9223372036854775808):(BitVec.ofInt 64 (a:Int)).toNat=a:=by rw[BitVec.ofInt_natCast,BitVec.toNat_ofNat];exact Nat.mod_eq_of_lt (by omega)
theorem ints_snoc(k:IntKind)(zs:List Int)(x:Int):ints k zs++[Value.int k x]=ints k (zs++[x]):=by simp[ints]
abbrev cellsOf{α:Type}(f:α->List Value)(xs:List α):List Value:=xs.flatMap f
theorem cellsOf_len{α:Type}{f:α->List Value}{C:Nat}(hf:∀x,(f x).length=C)(xs:List α):(cellsOf f xs).length=xs.length*C:=by
 induction xs with
 |nil=>simp[cellsOf]
 |cons x r ih=>simp only[cellsOf,List.flatMap_cons,List.length_append,hf]at *;rw[ih,List.length_cons,Nat.add_mul];omega
theorem cellsOf_at{α:Type}{f:α->List Value}{C:Nat}(hf:∀x,(f x).length=C)(xs:List α)(k j:Nat)(hk:k<xs.length)(hj:j<C):(cellsOf f xs)[k*C+j]?=(f xs[k])[j]?:=by
 induction xs generalizing k with
 |nil=>simp at hk
 |cons x r ih=>
  simp only[cellsOf,List.flatMap_cons];cases k with
  |zero=>rw[List.getElem?_append_left (by rw[hf];omega)];simp
  |succ k=>rw[List.getElem?_append_right (by rw[hf,Nat.add_mul];omega),hf,show(k+1)*C+j-C=k*C+j by rw[Nat.add_mul];omega];exact ih k (by simpa using hk)
theorem Rd.row {α:Type}{f:α->List Value}{C:Nat}{w:World}{B:Nat}{A:Option Addr}{xs:List α}(hf:∀x,(f x).length=C)(hC:0<C)(h:Rd w B A (cellsOf f xs)){k:Nat}(hk:k<xs.length):
  ∃b off,A=some ⟨b,off,none⟩/\b<B/\∀j u,(f xs[k])[j]?=some u->w.cell? ⟨b,off+k*C+j,none⟩=some u:=by
 have h0:(f xs[k])[0]?=some ((f xs[k])[0]'(by rw[hf];exact hC)):=List.getElem?_eq_getElem _;obtain⟨b,off,rfl,hb,_⟩:=h (k*C+0) _ ((cellsOf_at hf xs k 0 hk hC).trans h0);refine⟨b,off,rfl,hb,λj u hu=>?_⟩;have hj:j<C:=by
  have:=(List.getElem?_eq_some_iff.1 hu).1
  rwa[hf]at this
 obtain⟨b',off',e,_,hc⟩:=h (k*C+j) u ((cellsOf_at hf xs k j hk hj).trans hu);simp only[Option.some.injEq,Addr.mk.injEq,and_true]at e;obtain⟨rfl,rfl⟩:=e;rw[Nat.add_assoc];exact hc
theorem own_cap{w:World}{base:Nat}{e:TypeId}{size n c:Nat}{A:Option Addr}{xs:List Value}(h:w.ownsRow base e size (.slice A n c) n xs):n<=c:=by
 rcases h.2 with⟨_,h0⟩|⟨g,cap,cur,hv,_,_,hn,_⟩
 ·omega
 ·injection hv with _ _ hc;omega
theorem own_call{w w':World}{base:Nat}{e:TypeId}{size n:Nat}{v:Value}{xs:List Value}(hb:Below w.heap.size w w')(h:w.ownsRow base e size v n xs):w'.ownsRow base e size v n xs:=by
 refine⟨h.1,?_⟩;rcases h.2 with hn|⟨g,cap,cur,rfl,hbg,hg,rest⟩
 ·exact .inl hn
 ·exact .inr ⟨g,cap,cur,rfl,hbg,(hb.block g (Array.getElem?_eq_some_iff.1 hg).1).trans hg,rest⟩
theorem own_old{w:World}{base:Nat}{e:TypeId}{size g n cap:Nat}{xs:List Value}(h:w.ownsRow base e size (.slice (some ⟨g,0,none⟩) n cap) n xs){j:Nat}(hj:j<n*size):
  (∃u,w.cell? ⟨g,j,none⟩=some u)/\w.frozen? ⟨g,j,none⟩=false:=by
 refine⟨⟨xs[j]'(by rw[h.1];exact hj),?_⟩,h.frozenAt j⟩;rw[h.cellAt j hj];exact List.getElem?_eq_getElem _
def Trd(P:Program)(w:World)(t:TypeId)(cs:List Value):Prop:=
 ∃(H:Type) (enc:TypeId×Value->H) (base:Nat) (sp:Nat->Bool) (held:Bool) (fuel:Nat) (x:DataW H×List MemPlace),DataW.trod enc P w base sp held fuel t cs=some x

section
variable {P:Program}{w:World}{t e:TypeId}{cs:List Value}
theorem Trd.of_trod {H:Type}{enc:TypeId×Value->H}{base:Nat}{sp:Nat->Bool}{held:Bool}{v:Value}{d:DataW H}{ps:List MemPlace}(h:DataW.Trod enc P w base sp held t v d ps):Trd P w t v.cells.toList:=by obtain⟨fuel,h⟩:=h;exact⟨H,enc,base,sp,held,fuel,_,h⟩
theorem Trd.int {k:IntKind}(ht:P.underlying t=some (.int k))(h:Trd P w t cs):∃n,cs=[.int k n]/\(Lit.int k n).wf=true:=by obtain⟨H,enc,base,sp,held,fuel,x,h⟩:=h;obtain⟨n,h1,_,h2⟩:=DataW.trod_int ht h;exact⟨n,h1,h2⟩
theorem flatten_at{rows:List (List Value)}{C:Nat}(hC:∀r∈rows,r.length=C):∀(i:Nat) (u:Value),rows.flatten[i]?=some u→
  ∃q j r,i=q*C+j/\j<C/\rows[q]?=some r/\r[j]?=some u:=by
 induction rows with
 |nil=>intro i u h;simp at h
 |cons r rs ih=>
  intro i u h;have hr:=hC r (by simp);rw[List.flatten_cons]at h;by_cases hi:i<r.length
  ·rw[List.getElem?_append_left hi]at h;exact⟨0,i,r,by omega,by omega,rfl,h⟩
  ·rw[List.getElem?_append_right (by omega)]at h;obtain⟨q,j,r',h1,h2,h3,h4⟩:=ih (λx hx=>hC x (by simp[hx])) _ u h;exact⟨q+1,j,r',by rw[Nat.add_mul];omega,h2,by simpa using h3,h4⟩

theorem addr_form{a:Addr}(hs:a.spot=none)(i:Nat):a=⟨a.block,a.off,none⟩/\a.add i=⟨a.block,a.off+i,none⟩:=by
 obtain⟨b,off,sp⟩:=a;subst hs;refine⟨rfl,?_⟩;unfold Addr.add;split<;>simp_all

theorem Trd.slice (ht:P.underlying t=some (.slice e))(h:Trd P w t cs):
  ∃(A:Option Addr) (n c:Nat) (rows:List (List Value)),cs=[.slice A n c]/\n<=c/\c<=maxLen/\rows.length=n/\(∀r∈rows,r.length=P.cellsOf e/\Trd P w e r)/\Rd w w.heap.size A rows.flatten:=by
 obtain⟨H,enc,base,sp,held,fuel,x,h⟩:=h;rcases Go.Deep.open_slice ht h with⟨rfl,_⟩|⟨a,len,cap,m,n,D,Pl,rfl,_,hl,hm,hmm,_,hi⟩
 ·exact⟨none,0,0,[],rfl,Nat.le_refl _,Nat.zero_le _,rfl,by simp,Rd.nil _⟩
 ·have hlm:len<=m:=by rw[hmm];split<;>omega
  have hex:∀i:Fin len,∃cs',w.cells? base (a.add (i*P.cellsOf e)) (P.cellsOf e)=some cs'/\DataW.trod enc P w base sp held n e cs'=some (D i,Pl i):=λi=>hi i (by omega);refine⟨some a,len,cap,List.ofFn λi=>(hex i).choose,rfl,hl,hm,by simp,?_,?_⟩
  ·intro r hr;obtain⟨i,rfl⟩:=List.mem_ofFn.1 hr;obtain⟨h1,h2⟩:=(hex i).choose_spec;exact⟨(World.cells?_some h1).2.1,H,enc,base,sp,held,n,_,h2⟩
  ·intro i u hu;have hC:∀r∈List.ofFn λi=>(hex i).choose,r.length=P.cellsOf e:=by intro r hr;obtain⟨i,rfl⟩:=List.mem_ofFn.1 hr;exact(World.cells?_some (hex i).choose_spec.1).2.1
   obtain⟨q,j,r,rfl,hj,hq,hu'⟩:=flatten_at hC i u hu;have hql:q<len:=by have:=(List.getElem?_eq_some_iff.1 hq).1;simpa using this
   have hr:(hex ⟨q,hql⟩).choose=r:=by
    rw[List.getElem?_eq_getElem (by simpa using hql)]at hq;simpa using hq
   have h1:=(World.cells?_some (hex ⟨q,hql⟩).choose_spec.1).2.2 j hj;rw[hr,hu',Go.Deep.add_add]at h1;have h0:=(World.cells?_some (hex ⟨0,by omega⟩).choose_spec.1).2.2 0 (by omega);have hc0:=(World.cells?_some (hex ⟨0,by omega⟩).choose_spec.1).2.1;rw[List.getElem?_eq_getElem (by omega),Go.Deep.add_add]at h0;have hsp:a.spot=none:=by simpa[Addr.add]using World.cell?_spot h0
   obtain⟨e1,e2⟩:=addr_form hsp (q*P.cellsOf e+j);have hb:=World.block_lt_of_cell? _ _ h1;rw[e2]at h1 hb;exact⟨a.block,a.off,by rw[<-e1],hb,h1⟩

theorem rows_of{α:Type}{rows:List (List Value)}{f:α->List Value}{p:α->Prop}(h:∀r∈rows,∃x,r=f x/\p x):∃xs:List α,rows=xs.map f/\∀x∈xs,p x:=by
 induction rows with
 |nil=>exact⟨[],rfl,by simp⟩
 |cons r rs ih=>obtain⟨xs,rfl,hx⟩:=ih λr hr=>h r (by simp[hr]);obtain⟨x,rfl,hp⟩:=h r (by simp);exact⟨x::xs,rfl,by simpa using⟨hp,hx⟩⟩
theorem flatten_one(k:IntKind)(zs:List Int):(zs.map λz=>[Value.int k z]).flatten=ints k zs:=by
 induction zs with
 |nil=>rfl
 |cons z r ih=>simp_all [ints]

theorem Trd.ints {k:IntKind}(ht:P.underlying t=some (.slice e))(he:P.underlying e=some (.int k))(h:Trd P w t cs):
  ∃(A:Option Addr) (zs:List Int) (c:Nat),cs=[.slice A zs.length c]/\zs.length<=c/\c<=maxLen/\Rd w w.heap.size A (ints k zs)/\∀z∈zs,(Lit.int k z).wf=true:=by
 obtain⟨A,n,c,rows,rfl,hn,hc,rfl,hr,hrd⟩:=Trd.slice ht h;obtain⟨zs,rfl,hz⟩:=rows_of (f:=λz=>[Value.int k z]) (p:=λz=>(Lit.int k z).wf=true) λr hr'=>(hr r hr').2.int he;rw[flatten_one]at hrd;simp only[List.length_map]at hn ⊢;exact⟨A,zs,c,rfl,hn,hc,hrd,hz⟩
theorem wf_u8{zs:List Int}(h:∀z∈zs,(Lit.int .u8 z).wf=true):InR 0 255 zs:=λz hz=>by
 have:=h z hz;simpa[Lit.wf,IntKind.min,IntKind.max,IntKind.signed,IntKind.bits]using this
theorem arg_bytes{H:Type}{enc:TypeId×Value->H}{base b0:Nat}{sp:Nat->Bool}{held:Bool}{r:Reach}{v:Value}{d:DataW H}{ps:List MemPlace}(ht:P.underlying t=some (.slice e))(he:P.underlying e=some (.int .u8))
  (hv:Value.okWide P w r b0 t v)(h:DataW.Trod enc P w base sp held t v d ps):
  ∃(A:Option Addr) (zs:List Int) (c:Nat),v=.slice A zs.length c/\zs.length<=c/\c<=maxLen/\Rd w w.heap.size A (Kit.ints .u8 zs)/\InR 0 255 zs:=by
 obtain⟨a,l,c,rfl⟩:=okWide_slice ht hv;obtain⟨A,zs,c',e1,h1,h2,h3,h4⟩:=(Trd.of_trod h).ints ht he;simp[Value.cells]at e1;obtain⟨rfl,rfl,rfl⟩:=e1;exact⟨_,zs,_,rfl,h1,h2,h3,wf_u8 h4⟩
end
end Kit
/- A region that draws its order: loads and what only computes are taken first under a condition on the world,which need not hold behind the operations that wait for all of them (a store into a cell that was loaded). -/
namespace Reg
open Go
section
variable {P:Program}{ops:Array Oper}{Q:Exit->Act->World->Prop}{md:Region.Mode}{S:World->Prop}{T:Nat->Bool}
def wpAnyT(P:Program)(md:Region.Mode)(ops:Array Oper)(Q:Exit->Act->World->Prop)(S:World->Prop)(T:Nat->Bool):Nat->Array Bool->Act->World->Prop
 |0,listed,a,w=>Region.ready md ops listed=[]/\Q .normal a w
 |fuel+1,listed,a,w=>
  (Region.ready md ops listed=[]->Q .normal a w)∧
  ∀i∈Region.ready md ops listed,wpOp P ops Q i (λa' w'=>(T i=false->S w')/\wpAnyT P md ops Q S T fuel (listed.setIfInBounds i true) a' w') a w
theorem wpAny_of_T:∀(fuel:Nat) (listed:Array Bool) (a:Act) (w:World),wpAnyT P md ops Q S T fuel listed a w->wpAny P md ops Q fuel listed a w
 |0,_,_,_,h=>h
 |fuel+1,_,_,_,h=>⟨h.1,λi hi=>wpOp_mono (λa' w' h'=>wpAny_of_T fuel _ a' w' h'.2) (h.2 i hi)⟩
def waits(md:Region.Mode)(o:Oper)(i:Nat):Bool:=o.after.any λe=>Region.binds md e&&e.on==i
theorem wpAnyT_first{i:Nat}{oi:Oper}{v:Value}(hi:ops[i]?=some oi)(hsel:∀(j:Nat) (o:Oper) cs b,ops[j]?=some o->o.op≠ .select cs b)
  (hQ:∀c a w,Q (.panic c) (a.put oi.dst v) w->Q (.panic c) a w)(hT:∀(j:Nat) (o:Oper),ops[j]?=some o->T j=true->j≠i->waits md o i=true):
  ∀(fuel:Nat) (listed:Array Bool) (a:Act) (w:World),
   (∀j oj,ops[j]?=some oj->j≠i->listed.getD j true=false->(∀e∈oj.after,Region.binds md e=true->e.on≠i)->oi.apart ops oj=true)→
   i∈Region.ready md ops listed->YieldsIf P ops S oi v a->S w→
   wpAnyT P md ops Q S T fuel (listed.setIfInBounds i true) (a.put oi.dst v) w->wpAnyT P md ops Q S T (fuel+1) listed a w:=by
 intro fuel;induction fuel with
 |zero=>
  intro listed a w _ hr hy hS H;refine⟨λh=>(by rw[h]at hr;cases hr),λj hj=>?_⟩;by_cases hji:j=i
  ·subst hji;exact hy.wpOp hi hS ⟨λ_=>hS,H⟩
  ·have:=ready_mono hj hji;rw[H.1]at this;cases this
 |succ fuel ih=>
  intro listed a w hfree hr hy hS H;refine⟨λh=>(by rw[h]at hr;cases hr),λj hj=>?_⟩;by_cases hji:j=i
  ·subst hji;exact hy.wpOp hi hS ⟨λ_=>hS,H⟩
  ·have h1:=H.2 j (ready_mono hj hji);obtain⟨hjun,oj,hoj,hall⟩:=mem_ready.1 hj;have hnot:∀e∈oj.after,Region.binds md e=true->e.on≠i:=λe he hb heq=>by
    have h1:=hall e he hb;have h0:=(mem_ready.1 hr).1;rw[heq]at h1;rcases Nat.lt_or_ge i listed.size with h'|h'
    ·simp[h']at h0 h1;rw[h0]at h1;cases h1
    ·simp[Array.getElem?_eq_none h']at h1
   have hTj:T j=false:=by
    cases hT':T j
    ·rfl
    ·have:=hT j oj hoj hT' hji;unfold waits at this;rw[Array.any_eq_true]at this;obtain⟨k,hk,he⟩:=this;simp only[Bool.and_eq_true,beq_iff_eq]at he;exact absurd he.2 (hnot _ (Array.getElem_mem hk) he.1)
   have h2:=wpOp_putIf hoj (hfree j oj hoj hji hjun hnot) (λcs b=>hsel i oi cs b hi) (λcs b=>hsel j oj cs b hoj) hQ hy h1;have hfree':∀k ok,ops[k]?=some ok->k≠i->(listed.setIfInBounds j true).getD k true=false→
     (∀e∈ok.after,Region.binds md e=true->e.on≠i)->oi.apart ops ok=true:=λk ok hk hki hun hno=>by
    refine hfree k ok hk hki ?_ hno;by_cases hjk:j=k
    ·subst hjk;exact hjun
    ·rw[getD_set_ne true hjk]at hun;exact hun
   refine wpOp_mono (λa' w' h3=>⟨h3.2.1,ih (listed.setIfInBounds j true) a' w' hfree' (ready_mono hr (Ne.symm hji)) h3.1 (h3.2.1 hTj) ?_⟩) h2;rw[Array.setIfInBounds_comm _ _ hji];exact h3.2.2
def allWait(md:Region.Mode)(ops:Array Oper)(T:Nat->Bool)(i:Nat):Bool:=(List.range ops.size).all λj=>!T j||j==i||match ops[j]? with|some o=>waits md o i|none=>true
theorem allWait_spec{i:Nat}(h:allWait md ops T i=true):∀(j:Nat) (o:Oper),ops[j]?=some o->T j=true->j≠i->waits md o i=true:=by
 intro j o ho ht hne;have hj:j<ops.size:=(Array.getElem?_eq_some_iff.1 ho).1;have:=List.all_eq_true.1 h j (List.mem_range.2 hj);rw[ho]at this;simpa[ht,hne]using this
theorem takeT{i:Nat}{oi:Oper}{v:Value}{fuel:Nat}{listed:Array Bool}{a:Act}{w:World}(hi:ops[i]?=some oi)
  (hs:Region.noSelect ops=true)(hf:Region.free md ops listed i=true)(hr:(Region.ready md ops listed).contains i=true)(hT:allWait md ops T i=true)
  (hQ:∀c a w,Q (.panic c) (a.put oi.dst v) w->Q (.panic c) a w)(hy:YieldsIf P ops S oi v a)(hS:S w)
  (h:wpAnyT P md ops Q S T fuel (listed.setIfInBounds i true) (a.put oi.dst v) w):wpAnyT P md ops Q S T (fuel+1) listed a w:=
 wpAnyT_first hi (Region.noSelect_spec hs) hQ (allWait_spec hT) fuel listed a w (Region.free_spec hi hf) (by simpa using hr) hy hS h
theorem oneT{i:Nat}{o:Oper}{fuel:Nat}{listed:Array Bool}{a:Act}{w:World}(ho:ops[i]?=some o)(hr:Region.ready md ops listed=[i])
  (h:∀K:Act->World->Prop,Shut (∀a w,S w->wpAnyT P md ops Q S T fuel (listed.setIfInBounds i true) a w->K a w)->if Region.wanted o (yielded ops a.tmps)=true then Oper.wp P o a w K Q else K (a.put o.dst undef) w):
  wpAnyT P md ops Q S T (fuel+1) listed a w:=
 ⟨λh0=>(by rw[hr]at h0;cases h0),λj hj=>by
  rw[hr]at hj;simp only[List.mem_singleton]at hj;subst hj;exact wpOp_step ho (λK' hK=>h K' (λa w hS hW=>hK a w ⟨λ_=>hS,hW⟩))⟩
theorem twoT{i j:Nat}{oi oj:Oper}{fuel:Nat}{listed:Array Bool}{a:Act}{w:World}(hoi:ops[i]?=some oi)(hoj:ops[j]?=some oj)(hr:Region.ready md ops listed=[i,j])
  (h:∀K:Act->World->Prop,Shut (∀a w,S w->wpAnyT P md ops Q S T fuel (listed.setIfInBounds i true) a w->K a w)->if Region.wanted oi (yielded ops a.tmps)=true then Oper.wp P oi a w K Q else K (a.put oi.dst undef) w)
  (h':∀K:Act->World->Prop,Shut (∀a w,S w->wpAnyT P md ops Q S T fuel (listed.setIfInBounds j true) a w->K a w)->if Region.wanted oj (yielded ops a.tmps)=true then Oper.wp P oj a w K Q else K (a.put oj.dst undef) w):
  wpAnyT P md ops Q S T (fuel+1) listed a w:=
 ⟨λh0=>(by rw[hr]at h0;cases h0),λk hk=>by
  rw[hr]at hk;simp only[List.mem_cons,List.not_mem_nil,or_false]at hk;rcases hk with rfl|rfl
  ·exact wpOp_step hoi (λK' hK=>h K' (λa w hS hW=>hK a w ⟨λ_=>hS,hW⟩))
  ·exact wpOp_step hoj (λK' hK=>h' K' (λa w hS hW=>hK a w ⟨λ_=>hS,hW⟩))⟩
theorem lastT{i:Nat}{o:Oper}{fuel:Nat}{listed:Array Bool}{a:Act}{w:World}(ho:ops[i]?=some o)(hr:Region.ready md ops listed=[i])(hT:T i=true)
  (h:∀K:Act->World->Prop,Shut (∀a w,wpAnyT P md ops Q S T fuel (listed.setIfInBounds i true) a w->K a w)->if Region.wanted o (yielded ops a.tmps)=true then Oper.wp P o a w K Q else K (a.put o.dst undef) w):
  wpAnyT P md ops Q S T (fuel+1) listed a w:=
 ⟨λh0=>(by rw[hr]at h0;cases h0),λj hj=>by
  rw[hr]at hj;simp only[List.mem_singleton]at hj;subst hj;exact wpOp_step ho (λK' hK=>h K' (λa w hW=>hK a w ⟨λhF=>(by rw[hT]at hF;cases hF),hW⟩))⟩
theorem doneT{listed:Array Bool}{a:Act}{w:World}(hr:Region.ready md ops listed=[])(h:Q .normal a w):∀fuel,wpAnyT P md ops Q S T fuel listed a w
 |0=>⟨hr,h⟩
 |_+1=>⟨λ_=>h,by rw[hr];simp⟩
theorem startT{id:Nat}{a:Act}{w:World}(S:World->Prop)(T:Nat->Bool)(hm:P.follows .mixedOrders=true)
  (h:wpAnyT P .any ops Q S T ops.size (Array.replicate ops.size false) a w.drew):(Code.region id ops true).wp P Q a w:=
 wp_region_any hm (wpAny_of_T _ _ _ _ h)
end
end Reg
/- More of the common ground. -/
namespace Kit

theorem own_base{w:World}{base base':Nat}{e:TypeId}{size:Nat}{v:Value}{n:Nat}{xs:List Value}(h:w.ownsRow base e size v n xs)(hb:base'<=base):w.ownsRow base' e size v n xs:=
 ⟨h.1,h.2.imp id λ⟨g,cap,cur,a,b,r⟩=>⟨g,cap,cur,a,Nat.le_trans hb b,r⟩⟩
theorem own_capm{w:World}{base:Nat}{e:TypeId}{size n c:Nat}{A:Option Addr}{xs:List Value}(h:w.ownsRow base e size (.slice A n c) n xs):c<=maxLen:=by
 rcases h.2 with⟨hv,_⟩|⟨g,cap,cur,hv,_,_,_,hc,_⟩
 ·injection hv with _ _ h3;omega
 ·injection hv with _ _ h3;omega
end Kit
/- More of the common ground: a block known whole beside rows of the call's own. -/
namespace Kit

theorem own_keep{w w':World}{base:Nat}{e:TypeId}{size n:Nat}{v:Value}{xs:List Value}(h:w.ownsRow base e size v n xs)(hk:∀k,v.ownBlock=some k->w'.heap[k]?=w.heap[k]?):w'.ownsRow base e size v n xs:=by
 refine⟨h.1,?_⟩;rcases h.2 with hn|⟨g,cap,cur,rfl,hbg,hg,rest⟩
 ·exact .inl hn
 ·exact .inr ⟨g,cap,cur,rfl,hbg,(hk g rfl).trans hg,rest⟩
theorem own_box{w:World}{base X:Nat}{e t:TypeId}{size n:Nat}{v:Value}{xs:List Value}{cs:Array Value}(h:w.ownsRow base e size v n xs)(hb:Box w X t cs)(hne:e≠t):∀k,v.ownBlock=some k->k≠X:=by
 intro k hk hX;subst hX;rcases h.2 with⟨rfl,_⟩|⟨g,cap,cur,rfl,_,hg,_⟩
 ·cases hk
 ·obtain rfl:g=k:=by simpa[Value.ownBlock]using hk
  have:=hb.symm.trans hg;simp at this;exact hne this.2.symm
theorem Box.grown {w w':World}{X:Nat}{t:TypeId}{cs:Array Value}{row:Option Nat}(h:Box w X t cs)(hg:w.grownBy w' row)(hr:∀k,row=some k->k≠X):Box w' X t cs:=
 (hg.block X h.lt (λe=>hr X e.symm rfl)).trans h
theorem grown_refl(w:World)(row:Option Nat):w.grownBy w row:=⟨rfl,rfl,rfl,Nat.le_refl _,λ_ _ _=>rfl⟩
theorem grown_trans{a w w':World}{row:Option Nat}(h:a.grownBy w row)(k:w.grownBy w' row):a.grownBy w' row:=
 ⟨k.os.trans h.os,k.tape.trans h.tape,k.output.trans h.output,Nat.le_trans h.size k.size,λi hi hr=>(k.block i (Nat.lt_of_lt_of_le hi h.size) hr).trans (h.block i hi hr)⟩
theorem grown_below{a w w':World}{row:Option Nat}(h:a.grownBy w row)(hb:Below w.heap.size w w'):a.grownBy w' row:=
 grown_trans h ⟨hb.os,hb.tape,hb.output,hb.size,λi hi _=>hb.block i hi⟩
theorem grown_alloc{a w:World}{row:Option Nat}(h:a.grownBy w row)(o:Obj):a.grownBy (w.alloc o) row:=grown_below h ((Below.refl _ _).alloc (Nat.le_refl _) o)
theorem grown_own{a w w':World}{row:Option Nat}{v:Option Nat}(h:a.grownBy w row)(k:w.grownBy w' v)(hv:∀k,v=some k->a.heap.size<=k):a.grownBy w' row:=
 ⟨k.os.trans h.os,k.tape.trans h.tape,k.output.trans h.output,Nat.le_trans h.size k.size,λi hi hr=>(k.block i (Nat.lt_of_lt_of_le hi h.size) (λe=>by have:=hv i e.symm;omega)).trans (h.block i hi hr)⟩
theorem below_of_grown{B:Nat}{a w w':World}{R:Nat}(h:Below B a w)(hg:w.grownBy w' (some R))(hB:B<=w.heap.size)(hR:B<=R):Below B a w':=
 h.grown hg hB (λk hk=>by injection hk with hk;omega)
theorem oneI{k:IntKind}{zs:List Int}:∀u∈ints k zs,u.oneCell'=true:=by
 intro u hu;obtain⟨z,_,rfl⟩:=List.mem_map.1 hu
 rfl
end Kit
/- More of the common ground: a list that is read,appended to a row of the call's own. -/
namespace Kit

theorem own_nil{w:World}{base:Nat}{e:TypeId}{size n c:Nat}{A:Option Addr}{xs:List Value}(h:w.ownsRow base e size (.slice A n c) n xs):A=none->c=0:=by
 intro hA;rcases h.2 with⟨hv,_⟩|⟨g,cap,cur,hv,_⟩
 ·injection hv
 ·injection hv with hA';rw[hA]at hA';cases hA'
theorem own_prefix{w:World}{base n c k:Nat}{e:TypeId}{size:Nat}{A:Option Addr}{xs:List Value}(h:w.ownsRow base e size (.slice A n c) n xs)(hk:k<=n):w.ownsRow base e size (.slice A k c) k (xs.take (k*size)):=by
 have hle:k*size<=n*size:=Nat.mul_le_mul_right _ hk;refine⟨by rw[List.length_take,h.1];omega,?_⟩;rcases h.2 with⟨hv,h0⟩|⟨g,cap,cur,hv,hb,hg,hn,hc,hs,ht⟩
 ·left
  injection hv with hA _ hc;subst hA hc h0;have:k=0:=by omega
  subst this;exact⟨rfl,rfl⟩
 ·right
  injection hv with hA _ hc';subst hA hc';refine⟨g,c,cur,rfl,hb,hg,by omega,hc,hs,?_⟩;rw[<-ht,List.take_take];congr 1
  omega
end Kit
/- More of the common ground: rows (empty without room,or the call's own),and one law of append for all of them. -/
namespace Kit

def blk(A:Option Addr)(c:Nat):Option Nat:=if c=0 then none else A.map (·.block)
def Row(w:World)(base:Nat)(e:TypeId)(size:Nat)(A:Option Addr)(n c:Nat)(xs:List Value):Prop:=
 (n=0/\c=0/\xs=[])\/w.ownsRow base e size (.slice A n c) n xs
section
variable {w w':World}{base:Nat}{e:TypeId}{size n c:Nat}{A:Option Addr}{xs:List Value}
theorem Row.own (h:w.ownsRow base e size (.slice A n c) n xs):Row w base e size A n c xs:=.inr h
theorem Row.empty (w:World)(base:Nat)(e:TypeId)(size:Nat)(A:Option Addr):Row w base e size A 0 0 []:=.inl ⟨rfl,rfl,rfl⟩
theorem Row.lt (h:Row w base e size A n c xs):∀k,blk A c=some k->base<=k/\k<w.heap.size:=by
 intro k hk;rcases h with⟨_,rfl,_⟩|h
 ·cases hk
 ·rcases h.2 with⟨hv,_⟩|⟨g,cap,cur,hv,r⟩
  ·injection hv with _ _ hc;subst hc;cases hk
  ·unfold blk at hk;split at hk
   ·cases hk
   ·refine h.lt k ?_;injection hv with hA;subst hA;simpa[Value.ownBlock]using hk
theorem Row.keep (h:Row w base e size A n c xs)(hk:∀k,blk A c=some k->w'.heap[k]?=w.heap[k]?):Row w' base e size A n c xs:=by
 rcases h with h|h
 ·exact .inl h
 ·by_cases hc:c=0
  ·subst hc;refine .inl ⟨Nat.le_zero.1 (own_cap h),rfl,?_⟩;have h0:n=0:=Nat.le_zero.1 (own_cap h);subst h0;exact List.eq_nil_of_length_eq_zero (by simpa using h.1)
  ·refine .inr (own_keep h λk hk'=>hk k ?_);unfold blk;rw[if_neg hc];cases A with
   |none=>cases hk'
   |some a=>simpa[Value.ownBlock]using hk'
theorem Row.call (h:Row w base e size A n c xs)(hb:Below w.heap.size w w'):Row w' base e size A n c xs:=h.keep λk hk=>hb.block k (h.lt k hk).2
theorem Row.alloc (h:Row w base e size A n c xs)(o:Obj):Row (w.alloc o) base e size A n c xs:=h.call ((Below.refl _ _).alloc (Nat.le_refl _) o)
theorem Row.drew (h:Row w base e size A n c xs):Row w.drew base e size A n c xs:=h.keep λ_ _=>rfl
theorem Row.drewN (h:Row w base e size A n c xs)(m:Nat):Row (w.drewN m) base e size A n c xs:=h.keep λ_ _=>rfl
theorem Row.grown (h:Row w base e size A n c xs){v:Option Nat}(g:w.grownBy w' v)(hv:∀k,blk A c=some k->v≠some k):Row w' base e size A n c xs:=h.keep λk hk=>g.block k (h.lt k hk).2 (λe=>hv k hk e.symm)
theorem Row.set (h:Row w base e size A n c xs){a:Addr}(ha:∀k,blk A c=some k->k≠a.block)(u:Value):Row (w.setCell a u) base e size A n c xs:=h.keep λk hk=>Below.heap_setCell w a u k (ha k hk)
theorem Row.down (h:Row w base e size A n c xs){b:Nat}(hb:b<=base):Row w b e size A n c xs:=h.imp id λh=>own_base h hb
theorem Row.rd (h:Row w base e size A n c xs):Rd w w.heap.size A xs:=by
 rcases h with⟨_,_,rfl⟩|h
 ·exact Rd.nil _
 ·exact Rd.of_own h
theorem Row.length (h:Row w base e size A n c xs):xs.length=n*size:=by
 rcases h with⟨rfl,_,rfl⟩|h
 ·simp
 ·exact h.1
theorem Row.cap (h:Row w base e size A n c xs):n<=c/\c<=maxLen:=by
 rcases h with⟨rfl,rfl,_⟩|h
 ·exact⟨Nat.le_refl _,Nat.zero_le _⟩
 ·exact⟨own_cap h,own_capm h⟩
theorem Row.nil (h:Row w base e size A n c xs):A=none->c=0:=by
 rcases h with⟨_,rfl,_⟩|h
 ·intro _
  rfl
 ·exact own_nil h
theorem Row.box (h:Row w base e size A n c xs){X:Nat}{t:TypeId}{cs:Array Value}(hb:Box w X t cs)(hne:e≠t):∀k,blk A c=some k->k≠X:=by
 intro k hk;rcases h with⟨_,rfl,_⟩|h
 ·cases hk
 ·refine own_box h hb hne k ?_;unfold blk at hk;split at hk
  ·cases hk
  ·cases A with
   |none=>cases hk
   |some a=>simpa[Value.ownBlock]using hk
end
theorem Row.prefix {w:World}{base:Nat}{e:TypeId}{size n c k:Nat}{A:Option Addr}{xs:List Value}(h:Row w base e size A n c xs)(hk:k<=n):Row w base e size A k c (xs.take (k*size)):=by
 rcases h with⟨rfl,rfl,rfl⟩|h
 ·have h0:k=0:=by omega
  subst h0;exact .inl ⟨rfl,rfl,by simp⟩
 ·exact .inr (own_prefix h hk)
theorem Row.at1 {w:World}{base:Nat}{e:TypeId}{n c:Nat}{A:Option Addr}{k:IntKind}{zs:List Int}(h:Row w base e 1 A n c (ints k zs)){i:Nat}(hi:i<zs.length):∃g,A=some ⟨g,0,none⟩/\w.cell? ⟨g,i,none⟩=some (.int k (zs.getD i 0))/\g<w.heap.size:=by
 rcases h with⟨_,_,h0⟩|h
 ·have:zs=[]:=by simpa[ints]using h0
  subst this;simp at hi
 ·have hl:=h.1;rcases h.2 with⟨_,h0⟩|⟨g,cap,cur,hv,hb,hg,r⟩
  ·simp only[ints,List.length_map]at hl;omega
  ·injection hv with hA;subst hA;refine⟨g,rfl,?_,(Array.getElem?_eq_some_iff.1 hg).1⟩;obtain⟨b,off,hA,_,hc⟩:=(Rd.of_own h).int hi;simp only[Option.some.injEq,Addr.mk.injEq,and_true]at hA;obtain⟨rfl,rfl⟩:=hA;rw[Nat.zero_add]at hc;rw[hc,List.getD_eq_getElem?_getD,List.getElem?_eq_getElem hi]
   rfl
def Apart(A:Option Addr)(c:Nat)(A':Option Addr)(c':Nat):Prop:=∀k,blk A c=some k->blk A' c'≠some k
theorem Apart.symm {A A':Option Addr}{c c':Nat}(h:Apart A c A' c'):Apart A' c' A c:=λk hk h'=>h k h' hk
theorem run_app{P:Program}(w:World)(t ty e:TypeId)(i:TypeInfo)(z:Value)(size bytes:Nat)(ht:P.underlying t=some (.slice e))(hi:P.info? e=some i)(hz:i.zero=some z)
  (hsize:i.size=size)(hby:i.bytes=bytes)(hzs:z.cells.size=size)(hsz:0<size){base:Nat}{A:Option Addr}{n c:Nat}{xs:List Value}(hrow:Row w base e size A n c xs)(hbase:base<=w.heap.size)
  {B:Nat}{A2:Option Addr}{m c2:Nat}{news:List Value}(hrd:Rd w B A2 news)(hl:news.length=m*size)(hnil:A2=none->c2=0)(h1:∀u∈news,u.oneCell'=true)
  (h63:n+m<=maxLen)(hbytes:(n+m)*bytes<=140737488355328):
  ∃A' c' w',(Builtin.append_ #[t,t] ty #[.slice A n c,.slice A2 m c2]).run P w=.ok (.slice A' (n+m) c') w'/\Row w' base e size A' (n+m) c' (xs++news)/\w.grownBy w' (blk A c)/\∀k,blk A' c'=some k->blk A c=some k\/w.heap.size<=k:=by
 by_cases hm:m=0
 ·subst hm;obtain rfl:news=[]:=List.eq_nil_of_length_eq_zero (by simpa using hl);have hs:Src P i.size t (.slice A2 0 c2) 0 [] w:=by
   cases A2 with
   |none=>have:=hnil rfl;subst this;exact Src.ofNil w ht 0
   |some a=>exact Src.ofSlice w ht a 0 c2 [] (by simp) (by simp) (by simp)
  refine⟨A,c,w,run_append_nothing w t t ty e i ht hi A n c hrow.cap.1 _ hs,by simpa using hrow,World.grownBy.refl w _,λk hk=>.inl hk⟩
 ·obtain⟨ad,rfl,hc⟩:∃ad,A2=some ad/\∀j u,news[j]?=some u->w.cell? (ad.add j)=some u:=by have h0:0<m*size:=Nat.mul_pos (by omega) hsz;obtain⟨b,off,e',_⟩:=hrd 0 (news[0]'(by omega)) (List.getElem?_eq_getElem (by omega));refine⟨_,e',λj u hj=>?_⟩;obtain⟨b',off',e'',_,hcc⟩:=hrd j u hj;rw[e']at e'';simp only[Option.some.injEq,Addr.mk.injEq,and_true]at e'';obtain⟨rfl,rfl⟩:=e'';rw[(addr_form (a:=⟨b,off,none⟩) rfl j).2];exact hcc
  by_cases hc0:c=0
  ·subst hc0;have hn0:n=0:=Nat.le_zero.1 hrow.cap.1;subst hn0;have hx0:xs=[]:=List.eq_nil_of_length_eq_zero (by simpa using hrow.length);subst hx0;obtain⟨v',w',hrun,r1,r2⟩:∃v' w',(Builtin.append_ #[t,t] ty #[.slice A 0 0,.slice (some ad) m c2]).run P w=.ok v' w'/\w'.ownsRow w.heap.size e size v' (0+m) ([]++news)/\w.grownBy w' none:=by
    cases A with
    |none=>obtain⟨v',w',hrun,r1,r2,_⟩:=run_append_own (P:=P) w w.heap.size t ty e i z size bytes ht hi hz hsize hby hzs hsz (.slice none 0 0) 0 [] (World.ownsRow_nil w _ e size) ad m c2 news hl hc h1 h63 hbytes (Nat.le_refl _);exact⟨v',w',hrun,r1,r2⟩
    |some a=>exact run_append_arg_grows (P:=P) w t ty e i z size bytes ht hi hz hsize hby hzs hsz a 0 0 [] (by simp) (by simp) ad m c2 news hl hc (by omega) h63 hbytes
   obtain⟨g,cap,rfl,hg,_⟩:=r1.form (by omega);refine⟨some ⟨g,0,none⟩,cap,w',hrun,.inr (own_base r1 hbase),r2,λk hk=>.inr ?_⟩;have:=(Row.own r1).lt k hk;exact this.1
  ·have hown:w.ownsRow base e size (.slice A n c) n xs:=hrow.elim (λh=>absurd h.2.1 hc0) id;obtain⟨g,cap,w',hrun,r1,r2,r3,r4⟩:=run_append_lies (P:=P) w t ty base e i z size bytes ht hi hz hsize hby hzs hsz (.slice A n c) n xs hown ad m c2 news hl hc h1 (by omega) h63 hbytes hbase w.heap.size rfl;have hb:blk A c=(Value.slice A n c).ownBlock:=by
    unfold blk;rw[if_neg hc0];cases A<;>rfl
   refine⟨some ⟨g,0,none⟩,cap,w',hrun,.inr r1,by rw[hb];exact r2,λk hk=>?_⟩;have hk':k=g:=by
    unfold blk at hk;split at hk
    ·cases hk
    ·simpa using hk.symm
   subst hk';rw[hb];rcases r3 with r3|r3
   ·exact .inl r3
   ·exact .inr (by omega)
theorem wp_app{P:Program}{o:Oper}{a:Act}{K:Act->World->Prop}{Q:Exit->Act->World->Prop}{w:World}(s x:Operand)(t:TypeId)
  (ho:o.op=.call {callee:=.builtin .append,args:=#[s,x],argTypes:=#[t,t]})(e:TypeId)(i:TypeInfo)(z:Value)(size bytes:Nat)(ht:P.underlying t=some (.slice e))(hi:P.info? e=some i)(hz:i.zero=some z)
  (hsize:i.size=size)(hby:i.bytes=bytes)(hzs:z.cells.size=size)(hsz:0<size)(base:Nat)(A:Option Addr)(n c:Nat)(xs:List Value)(hs:a.eval s=.slice A n c)(hrow:Row w base e size A n c xs)(hbase:base<=w.heap.size)
  {B:Nat}(A2:Option Addr)(m c2:Nat)(news:List Value)(hx:a.eval x=.slice A2 m c2)(hrd:Rd w B A2 news)(hl:news.length=m*size)(hnil:A2=none->c2=0)(h1:∀u∈news,u.oneCell'=true)
  (h63:n+m<=maxLen)(hbytes:(n+m)*bytes<=140737488355328)
  (h:∀A' n' c' w',n'=n+m->Row w' base e size A' n' c' (xs++news)->w.grownBy w' (blk A c)->(∀k,blk A' c'=some k->blk A c=some k\/w.heap.size<=k)->K (a.put o.dst (.slice A' n' c')) w'):
  o.wp P a w K Q:=by
 obtain⟨A',c',w',hr,h2,h3,h4⟩:=run_app (P:=P) w t o.type e i z size bytes ht hi hz hsize hby hzs hsz hrow hbase hrd hl hnil h1 h63 hbytes;unfold Oper.wp execOp;simp only[ho,resolve,invoke,builtin,Sem.run_bind,Sem.run_pure,Result.andThen_ok,List.map_toArray,List.map_cons,List.map_nil,hs,hx,hr];exact h A' (n+m) c' w' rfl h2 h3 h4
theorem wpList_app{P:Program}(w:World){ops:Array Oper}{rest:List Oper}{o:Oper}{a:Act}{Q:Exit->Act->World->Prop}(hgd:o.guard=none)(s x:Operand)(t:TypeId)
  (ho:o.op=.call {callee:=.builtin .append,args:=#[s,x],argTypes:=#[t,t]})(e:TypeId)(i:TypeInfo)(z:Value)(size bytes:Nat)(ht:P.underlying t=some (.slice e))(hi:P.info? e=some i)(hz:i.zero=some z)
  (hsize:i.size=size)(hby:i.bytes=bytes)(hzs:z.cells.size=size)(hsz:0<size)(base:Nat)(A:Option Addr)(n c:Nat)(xs:List Value)(hs:a.eval s=.slice A n c)(hrow:Row w base e size A n c xs)(hbase:base<=w.heap.size)
  {B:Nat}(A2:Option Addr)(m c2:Nat)(news:List Value)(hx:a.eval x=.slice A2 m c2)(hrd:Rd w B A2 news)(hl:news.length=m*size)(hnil:A2=none->c2=0)(h1:∀u∈news,u.oneCell'=true)
  (h63:n+m<=maxLen)(hbytes:(n+m)*bytes<=140737488355328)
  (h:∀A' n' c' w',n'=n+m->Row w' base e size A' n' c' (xs++news)->w.grownBy w' (blk A c)->(∀k,blk A' c'=some k->blk A c=some k\/w.heap.size<=k)->wpList P ops Q rest (a.put o.dst (.slice A' n' c')) w'):
  wpList P ops Q (o::rest) a w:=
 wpList_plain hgd λ_ hK=>wp_app s x t ho e i z size bytes ht hi hz hsize hby hzs hsz base A n c xs hs hrow hbase A2 m c2 news hx hrd hl hnil h1 h63 hbytes λA' n' c' w' h1 h2 h3 h4=>hK _ _ (h A' n' c' w' h1 h2 h3 h4)
theorem step_app{P:Program}{ops:Array Oper}{o:Oper}{a:Act}{K:Act->World->Prop}{Q:Exit->Act->World->Prop}{E:Prop}{w:World}(hgd:o.guard=none)(s x:Operand)(t:TypeId)
  (ho:o.op=.call {callee:=.builtin .append,args:=#[s,x],argTypes:=#[t,t]})(e:TypeId)(i:TypeInfo)(z:Value)(size bytes:Nat)(ht:P.underlying t=some (.slice e))(hi:P.info? e=some i)(hz:i.zero=some z)
  (hsize:i.size=size)(hby:i.bytes=bytes)(hzs:z.cells.size=size)(hsz:0<size)(base:Nat)(A:Option Addr)(n c:Nat)(xs:List Value)(hs:a.eval s=.slice A n c)(hrow:Row w base e size A n c xs)(hbase:base<=w.heap.size)
  {B:Nat}(A2:Option Addr)(m c2:Nat)(news:List Value)(hx:a.eval x=.slice A2 m c2)(hrd:Rd w B A2 news)(hl:news.length=m*size)(hnil:A2=none->c2=0)(h1:∀u∈news,u.oneCell'=true)
  (h63:n+m<=maxLen)(hbytes:(n+m)*bytes<=140737488355328)
  (h:∀A' n' c' w',n'=n+m->Row w' base e size A' n' c' (xs++news)->w.grownBy w' (blk A c)->(∀k,blk A' c'=some k->blk A c=some k\/w.heap.size<=k)->K (a.put o.dst (.slice A' n' c')) w'):
  if Region.wanted o (yielded ops a.tmps)=true then Oper.wp P o a w K Q else E:=by
 have hw:Region.wanted o (yielded ops a.tmps)=true:=by simp[Region.wanted,hgd]
 rw[if_pos hw];exact wp_app s x t ho e i z size bytes ht hi hz hsize hby hzs hsz base A n c xs hs hrow hbase A2 m c2 news hx hrd hl hnil h1 h63 hbytes h
theorem rd_lit(w:World)(cs:Array Value)(e:TypeId)(k:Nat)(hk:k=w.heap.size):Rd (w.alloc (.cells cs e)) (w.heap.size+1) (some ⟨k,0,none⟩) cs.toList:=by subst hk;intro i u hu;exact⟨_,0,rfl,Nat.lt_succ_self _,by rw[Nat.zero_add];exact(Box.new w e cs).cell i▸(by simpa using hu)⟩
theorem oneI1{k:IntKind}{x:Int}:∀u∈[Value.int k x],u.oneCell'=true:=λu hu=>by simp only[List.mem_singleton]at hu;subst hu;rfl
theorem below_grown{B:Nat}{a w w':World}{v:Option Nat}(h:Below B a w)(g:w.grownBy w' v)(hB:B<=w.heap.size)(hv:∀k,v=some k->B<=k):Below B a w':=h.grown g hB hv
theorem lay{p q:Prop}(hp:p)(h:p->q):q:=h hp
theorem below_tr{a w w':World}(h:Below a.heap.size a w)(g:w.grownBy w' none):Below a.heap.size a w':=h.grown g h.size (λk hk=>by cases hk)
theorem below_al{a w:World}{o:Obj}(h:Below a.heap.size a w):Below a.heap.size a (w.alloc o):=h.alloc h.size o
theorem below_dr{a w:World}(h:Below a.heap.size a w):Below a.heap.size a w.drew:=h.drew
theorem below_dn{a w:World}{n:Nat}(h:Below a.heap.size a w):Below a.heap.size a (w.drewN n):=Kit.Below.drewN h n
end Kit
/- Short forms of what stands often in the walks: each is a lemma whose side proofs are found where it is used. -/
section
open Go Go.RowKit Kit
theorem b_{B:Nat}{w w':World}(h:Below B w w':=by repeat(first|exact Go.RowKit.Below.refl _ _|with_reducible assumption|(refine Go.RowKit.Below.drew ?_)|(refine Go.Proofs.YtepoiphmmjfbdaaGreatDoor.Kit.Below.drewN ?_ _)|(refine Go.RowKit.Below.alloc ?_ (by simp;try omega) _)|(refine Go.RowKit.Below.setCell ?_ (by simp;try omega) _))):Below B w w':=h
theorem y1_{α:Type}{xs:List α}{i:Nat}(h:i<xs.toArray.size):xs.toArray[i]=xs[i]'(by simpa using h):=rfl
theorem y2_{α:Type}{x:α}{xs:List α}{i:Nat}(h:i+1<(x::xs).length):(x::xs)[i+1]=xs[i]'(Nat.lt_of_succ_lt_succ h):=rfl
theorem y3_{α:Type}{x:α}{xs:List α}(h:0<(x::xs).length):(x::xs)[0]=x:=rfl
theorem y4_{α:Type}{xs:List α}{i:Nat}{x:α}:xs.toArray.setIfInBounds i x=(xs.set i x).toArray:=List.setIfInBounds_toArray ..
theorem y5_{α:Type}{x y:α}{xs:List α}:(x::xs).set 0 y=y::xs:=rfl
theorem y6_{α:Type}{x y:α}{xs:List α}{n:Nat}:(x::xs).set (n+1) y=x::xs.set n y:=rfl
theorem g_{α:Type}:(∀{i:Nat} {xs:List α},xs.toArray[i]?=xs[i]?)/\(∀{x:α} {xs:List α},(x::xs)[0]?=some x)/\(∀{x:α} {xs:List α} {i:Nat},(x::xs)[i+1]?=xs[i]?):=⟨List.getElem?_toArray,List.getElem?_cons_zero,List.getElem?_cons_succ⟩
theorem k_{α:Type}:(∀{xs:List α} {i:Nat} {x:α},xs.toArray.setIfInBounds i x=(xs.set i x).toArray)/\(∀{x y:α} {xs:List α},(x::xs).set 0 y=y::xs)/\(∀{x y:α} {xs:List α} {n:Nat},(x::xs).set (n+1) y=x::xs.set n y)/\(∀{i:Nat} {xs:List α},xs.toArray[i]?=xs[i]?)/\(∀{x:α} {xs:List α},(x::xs)[0]?=some x)/\(∀{x:α} {xs:List α} {i:Nat},(x::xs)[i+1]?=xs[i]?):=⟨y4_,y5_,y6_,g_.1,g_.2.1,g_.2.2⟩
theorem c_{w w1 w2:World}(H:Hd (Below w.heap.size w w1))(b:Below w1.heap.size w1 w2):Hd (Below w.heap.size w w2):=Kit.h_ (H.o.trans (b.mono H.o.size))
theorem d_{w:World}{g:Nat}{t:TypeId}{cs:Array Value}(h:Kit.Box w g t cs)(i:Nat){v:Value}(e:cs[i]?=some v:=by exact rfl):w.cell? ⟨g,i,none⟩=some v:=(Kit.Box.cell h i).trans e
section
open Reg
variable {P:Program}{ops:Array Oper}{Q:Exit->Act->World->Prop}{md:Region.Mode}{S:World->Prop}{T:Nat->Bool}
theorem t_(i:Nat){oi:Oper}{v:Value}{fuel:Nat}{listed l:Array Bool}{a a':Act}{w:World}(hi:ops[i]?=some oi)(h:wpAnyT P md ops Q S T fuel l a' w)
  (hy:∀w,S w->(execOp a.eval oi).run P w=.ok (.value v) w:=by intro w hSw;(try dsimp only at hSw);go_simp;(try with_reducible rfl))
  (ea:a.put oi.dst v=a':=by((try simp only[y1_,y2_,y3_,Act.put,y4_,y5_,y6_]);with_reducible rfl))(el:listed.setIfInBounds i true=l:=by((try simp only[y4_,y5_,y6_]);with_reducible rfl))
  (hs:Region.noSelect ops=true:=by kernel_rfl)(hf:Region.free md ops listed i=true:=by kernel_rfl)(hr:(Region.ready md ops listed).contains i=true:=by kernel_rfl)(hT:allWait md ops T i=true:=by kernel_rfl)
  (hw:Region.wanted oi (yielded ops a.tmps)=true:=by rfl)(hQ:∀c a w,Q (.panic c) (a.put oi.dst v) w->Q (.panic c) a w:=by exact λ_ _ _ h=>h)(hS:S w:=by assumption):wpAnyT P md ops Q S T (fuel+1) listed a w:=by
 subst ea el;exact takeT hi hs hf hr hT hQ (.inl ⟨hw,hy⟩) hS h
theorem u_(i:Nat){oi:Oper}{fuel:Nat}{listed:Array Bool}{a:Act}{w:World}(hi:ops[i]?=some oi)(h:wpAnyT P md ops Q S T fuel (listed.setIfInBounds i true) (a.put oi.dst undef) w)
  (hs:Region.noSelect ops=true:=by kernel_rfl)(hf:Region.free md ops listed i=true:=by kernel_rfl)(hr:(Region.ready md ops listed).contains i=true:=by kernel_rfl)(hT:allWait md ops T i=true:=by kernel_rfl)
  (hw:Region.wanted oi (yielded ops a.tmps)=false:=by rfl)(hQ:∀c a w,Q (.panic c) (a.put oi.dst undef) w->Q (.panic c) a w:=by exact λ_ _ _ h=>h)(hS:S w:=by assumption):wpAnyT P md ops Q S T (fuel+1) listed a w:=
 takeT hi hs hf hr hT hQ (.inr ⟨hw,rfl⟩) hS h
end
end
/- A region that draws its order,taken operation by operation: what only computes at once; loads under a condition on the world that all keep but those of T; those of T come up alone. -/
namespace Rv
open Go Reg
section
variable {P:Program}{ops:Array Oper}{Q:Exit->Act->World->Prop}{md:Region.Mode}{S:World->Prop}{T:Nat->Bool}
def wpAnyV(P:Program)(md:Region.Mode)(ops:Array Oper)(Q:Exit->Act->World->Prop)(S:World->Prop)(T:Nat->Bool):Nat->Array Bool->Act->World->Prop
 |0,listed,a,w=>Region.ready md ops listed=[]/\Q .normal a w
 |fuel+1,listed,a,w=>
  (Region.ready md ops listed=[]->Q .normal a w)∧
  ∀i∈Region.ready md ops listed,wpOp P ops Q i (λa' w'=>(T i=false->S w->S w')/\wpAnyV P md ops Q S T fuel (listed.setIfInBounds i true) a' w') a w
theorem wpAny_of_V:∀(fuel:Nat) (listed:Array Bool) (a:Act) (w:World),wpAnyV P md ops Q S T fuel listed a w->wpAny P md ops Q fuel listed a w
 |0,_,_,_,h=>h
 |fuel+1,_,_,_,h=>⟨h.1,λi hi=>wpOp_mono (λa' w' h'=>wpAny_of_V fuel _ a' w' h'.2) (h.2 i hi)⟩
def cl(md:Region.Mode)(ops:Array Oper)(listed:Array Bool)(i:Nat):Nat->List Nat
 |0=>(List.range ops.size).filter λj=>!listed.getD j true&&(match ops[j]? with|some o=>waits md o i|none=>false)
 |n+1=>(List.range ops.size).filter λj=>!listed.getD j true&&(match ops[j]? with|some o=>waits md o i||o.after.any (λe=>Region.binds md e&&(cl md ops listed i n).contains e.on)|none=>false)
def closedB(md:Region.Mode)(ops:Array Oper)(listed:Array Bool)(i:Nat)(C:List Nat)(T:Nat->Bool):Bool:=
 (C.all λj=>j != i&& !listed.getD j true&&(match ops[j]? with|some o=>waits md o i||o.after.any (λe=>Region.binds md e&&C.contains e.on)|none=>false))&&
 (List.range ops.size).all λj=>!T j||j==i||C.contains j
theorem closed_spec{i:Nat}{listed:Array Bool}{C:List Nat}(h:closedB md ops listed i C T=true):
  (∀j∈C,j≠i/\listed.getD j true=false/\∃o,ops[j]?=some o/\∃e∈o.after,Region.binds md e=true/\(e.on=i\/e.on∈C))/\(∀(j:Nat) (o:Oper),ops[j]?=some o->T j=true->j≠i->j∈C):=by
 unfold closedB at h;rw[Bool.and_eq_true]at h;obtain⟨h1,h2⟩:=h;refine⟨λj hj=>?_,λj o ho ht hne=>?_⟩
 ·have:=List.all_eq_true.1 h1 j hj;simp only[Bool.and_eq_true,bne_iff_ne,ne_eq,Bool.not_eq_true']at this;obtain⟨⟨a,b⟩,c⟩:=this;refine⟨a,b,?_⟩;split at c
  ·rename_i o ho;refine⟨o,ho,?_⟩;rcases Bool.or_eq_true_iff.1 c with c|c
   ·unfold waits at c;rw[Array.any_eq_true]at c;obtain⟨k,hk,he⟩:=c;simp only[Bool.and_eq_true,beq_iff_eq]at he;exact⟨_,Array.getElem_mem hk,he.1,.inl he.2⟩
   ·rw[Array.any_eq_true]at c;obtain⟨k,hk,he⟩:=c;simp only[Bool.and_eq_true,List.contains_iff_mem]at he;exact⟨_,Array.getElem_mem hk,he.1,.inr he.2⟩
  ·cases c
 ·have hj:j<ops.size:=(Array.getElem?_eq_some_iff.1 ho).1;have:=List.all_eq_true.1 h2 j (List.mem_range.2 hj);simp only[Bool.or_eq_true,Bool.not_eq_true',beq_iff_eq,List.contains_iff_mem]at this;rcases this with(this|this)|this
  ·rw[ht]at this;cases this
  ·exact absurd this hne
  ·exact this
theorem first{i:Nat}{oi:Oper}{v:Value}{C:List Nat}{R:World->Prop}(hi:ops[i]?=some oi)(hsel:∀(j:Nat) (o:Oper) cs b,ops[j]?=some o->o.op≠ .select cs b)
  (hQ:∀c a w,Q (.panic c) (a.put oi.dst v) w->Q (.panic c) a w)(hR:(∀w,R w)\/((∀w,R w↔S w)/\∀(j:Nat) (o:Oper),ops[j]?=some o->T j=true->j≠i->j∈C)):
  ∀(fuel:Nat) (listed:Array Bool) (a:Act) (w:World),
   (∀j∈C,j≠i/\listed.getD j true=false/\∃o,ops[j]?=some o/\∃e∈o.after,Region.binds md e=true/\(e.on=i\/e.on∈C))→
   (∀j oj,ops[j]?=some oj->j≠i->listed.getD j true=false->(∀e∈oj.after,Region.binds md e=true->e.on≠i)->oi.apart ops oj=true)→
   i∈Region.ready md ops listed->YieldsIf P ops R oi v a->R w→
   wpAnyV P md ops Q S T fuel (listed.setIfInBounds i true) (a.put oi.dst v) w->wpAnyV P md ops Q S T (fuel+1) listed a w:=by
 intro fuel;induction fuel with
 |zero=>
  intro listed a w _ _ hr hy hS H;refine⟨λh=>(by rw[h]at hr;cases hr),λj hj=>?_⟩;by_cases hji:j=i
  ·subst hji;exact hy.wpOp hi hS ⟨λ_ h=>h,H⟩
  ·have:=ready_mono hj hji;rw[H.1]at this;cases this
 |succ fuel ih=>
  intro listed a w hC hfree hr hy hS H;refine⟨λh=>(by rw[h]at hr;cases hr),λj hj=>?_⟩;by_cases hji:j=i
  ·subst hji;exact hy.wpOp hi hS ⟨λ_ h=>h,H⟩
  ·have h1:=H.2 j (ready_mono hj hji);obtain⟨hjun,oj,hoj,hall⟩:=mem_ready.1 hj;have hun:∀k,listed.getD k true=false->∀e∈oj.after,Region.binds md e=true->e.on≠k:=λk h0 e he hb heq=>by
    have h1:=hall e he hb;rw[heq]at h1;rcases Nat.lt_or_ge k listed.size with h'|h'
    ·simp[h']at h0 h1;rw[h0]at h1;cases h1
    ·simp[Array.getElem?_eq_none h']at h1
   have hnot:∀e∈oj.after,Region.binds md e=true->e.on≠i:=hun i (mem_ready.1 hr).1;have hjC:j∉C:=λhjc=>by
    obtain⟨_,_,o,ho,e,he,hb,hor⟩:=hC j hjc;rw[hoj]at ho;injection ho with ho;subst ho;rcases hor with hor|hor
    ·exact hnot e he hb hor
    ·exact hun _ (hC _ hor).2.1 e he hb rfl
   have h2:=wpOp_putIf hoj (hfree j oj hoj hji hjun hnot) (λcs b=>hsel i oi cs b hi) (λcs b=>hsel j oj cs b hoj) hQ hy h1;have hfree':∀k ok,ops[k]?=some ok->k≠i->(listed.setIfInBounds j true).getD k true=false→
     (∀e∈ok.after,Region.binds md e=true->e.on≠i)->oi.apart ops ok=true:=λk ok hk hki hun hno=>by
    refine hfree k ok hk hki ?_ hno;by_cases hjk:j=k
    ·subst hjk;exact hjun
    ·rw[getD_set_ne true hjk]at hun;exact hun
   have hC':∀k∈C,k≠i/\(listed.setIfInBounds j true).getD k true=false/\∃o,ops[k]?=some o/\∃e∈o.after,Region.binds md e=true/\(e.on=i\/e.on∈C):=λk hk=>by
    obtain⟨a1,a2,a3⟩:=hC k hk;refine⟨a1,?_,a3⟩;have hjk:j≠k:=by rintro rfl;exact hjC hk
    rw[getD_set_ne true hjk];exact a2
   have hRk:∀w',(T j=false->S w->S w')->R w':=λw' hk=>by
    rcases hR with hR|⟨hR,hT⟩
    ·exact hR w'
    ·have hTj:T j=false:=by
      cases hT':T j
      ·rfl
      ·exact absurd (hT j oj hoj hT' hji) hjC
     exact(hR w').2 (hk hTj ((hR w).1 hS))
   refine wpOp_mono (λa' w' h3=>⟨h3.2.1,ih (listed.setIfInBounds j true) a' w' hC' hfree' (ready_mono hr (Ne.symm hji)) h3.1 (hRk w' h3.2.1) ?_⟩) h2;rw[Array.setIfInBounds_comm _ _ hji];exact h3.2.2
theorem take{i:Nat}{oi:Oper}{v:Value}{fuel:Nat}{listed:Array Bool}{a:Act}{w:World}(hi:ops[i]?=some oi)
  (hs:Region.noSelect ops=true)(hf:Region.free md ops listed i=true)(hr:(Region.ready md ops listed).contains i=true)(hT:closedB md ops listed i (cl md ops listed i 3) T=true)
  (hQ:∀c a w,Q (.panic c) (a.put oi.dst v) w->Q (.panic c) a w)(hy:YieldsIf P ops S oi v a)(hS:S w)
  (h:wpAnyV P md ops Q S T fuel (listed.setIfInBounds i true) (a.put oi.dst v) w):wpAnyV P md ops Q S T (fuel+1) listed a w:=
 first (R:=S) hi (Region.noSelect_spec hs) hQ (.inr ⟨λ_=>Iff.rfl,(closed_spec hT).2⟩) fuel listed a w (closed_spec hT).1 (Region.free_spec hi hf) (by simpa using hr) hy hS h
theorem comp{i:Nat}{oi:Oper}{v:Value}{fuel:Nat}{listed:Array Bool}{a:Act}{w:World}(hi:ops[i]?=some oi)
  (hs:Region.noSelect ops=true)(hf:Region.free md ops listed i=true)(hr:(Region.ready md ops listed).contains i=true)
  (hQ:∀c a w,Q (.panic c) (a.put oi.dst v) w->Q (.panic c) a w)(hy:YieldsIf P ops (λ_=>True) oi v a)
  (h:wpAnyV P md ops Q S T fuel (listed.setIfInBounds i true) (a.put oi.dst v) w):wpAnyV P md ops Q S T (fuel+1) listed a w:=
 first (R:=λ_=>True) (C:=[]) hi (Region.noSelect_spec hs) hQ (.inl λ_=>trivial) fuel listed a w (λ_ h=>by cases h) (Region.free_spec hi hf) (by simpa using hr) hy trivial h
theorem one{i:Nat}{o:Oper}{fuel:Nat}{listed:Array Bool}{a:Act}{w:World}(ho:ops[i]?=some o)(hr:Region.ready md ops listed=[i])
  (h:∀K:Act->World->Prop,Shut (∀a w,S w->wpAnyV P md ops Q S T fuel (listed.setIfInBounds i true) a w->K a w)->if Region.wanted o (yielded ops a.tmps)=true then Oper.wp P o a w K Q else K (a.put o.dst undef) w):
  wpAnyV P md ops Q S T (fuel+1) listed a w:=
 ⟨λh0=>(by rw[hr]at h0;cases h0),λj hj=>by
  rw[hr]at hj;simp only[List.mem_singleton]at hj;subst hj;exact wpOp_step ho (λK' hK=>h K' (λa w hS hW=>hK a w ⟨λ_ _=>hS,hW⟩))⟩
theorem two{i j:Nat}{oi oj:Oper}{fuel:Nat}{listed:Array Bool}{a:Act}{w:World}(hoi:ops[i]?=some oi)(hoj:ops[j]?=some oj)(hr:Region.ready md ops listed=[i,j])
  (h:∀K:Act->World->Prop,Shut (∀a w,S w->wpAnyV P md ops Q S T fuel (listed.setIfInBounds i true) a w->K a w)->if Region.wanted oi (yielded ops a.tmps)=true then Oper.wp P oi a w K Q else K (a.put oi.dst undef) w)
  (h':∀K:Act->World->Prop,Shut (∀a w,S w->wpAnyV P md ops Q S T fuel (listed.setIfInBounds j true) a w->K a w)->if Region.wanted oj (yielded ops a.tmps)=true then Oper.wp P oj a w K Q else K (a.put oj.dst undef) w):
  wpAnyV P md ops Q S T (fuel+1) listed a w:=
 ⟨λh0=>(by rw[hr]at h0;cases h0),λk hk=>by
  rw[hr]at hk;simp only[List.mem_cons,List.not_mem_nil,or_false]at hk;rcases hk with rfl|rfl
  ·exact wpOp_step hoi (λK' hK=>h K' (λa w hS hW=>hK a w ⟨λ_ _=>hS,hW⟩))
  ·exact wpOp_step hoj (λK' hK=>h' K' (λa w hS hW=>hK a w ⟨λ_ _=>hS,hW⟩))⟩
theorem done{listed:Array Bool}{a:Act}{w:World}(hr:Region.ready md ops listed=[])(h:Q .normal a w):∀fuel,wpAnyV P md ops Q S T fuel listed a w
 |0=>⟨hr,h⟩
 |_+1=>⟨λ_=>h,by rw[hr];simp⟩
theorem start{id:Nat}{a:Act}{w:World}(S:World->Prop)(T:Nat->Bool)(hm:P.follows .mixedOrders=true)
  (h:wpAnyV P .any ops Q S T ops.size (Array.replicate ops.size false) a w.drew):(Code.region id ops true).wp P Q a w:=
 wp_region_any hm (wpAny_of_V _ _ _ _ h)
end
end Rv
/- A region that draws its order,taken operation by operation: each load under a condition of its own,which all that may come before it keep. -/
namespace Rw
open Go Reg Rv
section
variable {P:Program}{ops:Array Oper}{Q:Exit->Act->World->Prop}{md:Region.Mode}{Ob:Nat->World->World->Prop}
def wpAnyW(P:Program)(md:Region.Mode)(ops:Array Oper)(Q:Exit->Act->World->Prop)(Ob:Nat->World->World->Prop):Nat->Array Bool->Act->World->Prop
 |0,listed,a,w=>Region.ready md ops listed=[]/\Q .normal a w
 |fuel+1,listed,a,w=>
  (Region.ready md ops listed=[]->Q .normal a w)∧
  ∀i∈Region.ready md ops listed,wpOp P ops Q i (λa' w'=>Ob i w w'/\wpAnyW P md ops Q Ob fuel (listed.setIfInBounds i true) a' w') a w
theorem wpAny_of_W:∀(fuel:Nat) (listed:Array Bool) (a:Act) (w:World),wpAnyW P md ops Q Ob fuel listed a w->wpAny P md ops Q fuel listed a w
 |0,_,_,_,h=>h
 |fuel+1,_,_,_,h=>⟨h.1,λi hi=>wpOp_mono (λa' w' h'=>wpAny_of_W fuel _ a' w' h'.2) (h.2 i hi)⟩
theorem weaker{Ob':Nat->World->World->Prop}(h:∀j w w',Ob' j w w'->Ob j w w'):∀(fuel:Nat) (listed:Array Bool) (a:Act) (w:World),wpAnyW P md ops Q Ob' fuel listed a w->wpAnyW P md ops Q Ob fuel listed a w
 |0,_,_,_,H=>H
 |fuel+1,_,_,_,H=>⟨H.1,λi hi=>wpOp_mono (λa' w' h'=>⟨h i _ w' h'.1,weaker h fuel _ a' w' h'.2⟩) (H.2 i hi)⟩
def Plus(Ob:Nat->World->World->Prop)(C:List Nat)(R:World->Prop)(j:Nat)(w w':World):Prop:=Ob j w w'/\(C.contains j=false->R w->R w')
theorem first{i:Nat}{oi:Oper}{v:Value}{C:List Nat}{R:World->Prop}(hi:ops[i]?=some oi)(hsel:∀(j:Nat) (o:Oper) cs b,ops[j]?=some o->o.op≠ .select cs b)
  (hQ:∀c a w,Q (.panic c) (a.put oi.dst v) w->Q (.panic c) a w)(hre:∀j w,Ob j w w):
  ∀(fuel:Nat) (listed:Array Bool) (a:Act) (w:World),
   (∀j∈C,j≠i/\listed.getD j true=false/\∃o,ops[j]?=some o/\∃e∈o.after,Region.binds md e=true/\(e.on=i\/e.on∈C))→
   (∀j oj,ops[j]?=some oj->j≠i->listed.getD j true=false->(∀e∈oj.after,Region.binds md e=true->e.on≠i)->oi.apart ops oj=true)→
   i∈Region.ready md ops listed->YieldsIf P ops R oi v a->R w→
   wpAnyW P md ops Q (Plus Ob C R) fuel (listed.setIfInBounds i true) (a.put oi.dst v) w->wpAnyW P md ops Q Ob (fuel+1) listed a w:=by
 intro fuel;induction fuel with
 |zero=>
  intro listed a w _ _ hr hy hS H;refine⟨λh=>(by rw[h]at hr;cases hr),λj hj=>?_⟩;by_cases hji:j=i
  ·subst hji;exact hy.wpOp hi hS ⟨hre _ _,weaker (λ_ _ _ h=>h.1) _ _ _ _ H⟩
  ·have:=ready_mono hj hji;rw[H.1]at this;cases this
 |succ fuel ih=>
  intro listed a w hC hfree hr hy hS H;refine⟨λh=>(by rw[h]at hr;cases hr),λj hj=>?_⟩;by_cases hji:j=i
  ·subst hji;exact hy.wpOp hi hS ⟨hre _ _,weaker (λ_ _ _ h=>h.1) _ _ _ _ H⟩
  ·have h1:=H.2 j (ready_mono hj hji);obtain⟨hjun,oj,hoj,hall⟩:=mem_ready.1 hj;have hun:∀k,listed.getD k true=false->∀e∈oj.after,Region.binds md e=true->e.on≠k:=λk h0 e he hb heq=>by
    have h1:=hall e he hb;rw[heq]at h1;rcases Nat.lt_or_ge k listed.size with h'|h'
    ·simp[h']at h0 h1;rw[h0]at h1;cases h1
    ·simp[Array.getElem?_eq_none h']at h1
   have hnot:∀e∈oj.after,Region.binds md e=true->e.on≠i:=hun i (mem_ready.1 hr).1;have hjC:j∉C:=λhjc=>by
    obtain⟨_,_,o,ho,e,he,hb,hor⟩:=hC j hjc;rw[hoj]at ho;injection ho with ho;subst ho;rcases hor with hor|hor
    ·exact hnot e he hb hor
    ·exact hun _ (hC _ hor).2.1 e he hb rfl
   have h2:=wpOp_putIf hoj (hfree j oj hoj hji hjun hnot) (λcs b=>hsel i oi cs b hi) (λcs b=>hsel j oj cs b hoj) hQ hy h1;have hfree':∀k ok,ops[k]?=some ok->k≠i->(listed.setIfInBounds j true).getD k true=false→
     (∀e∈ok.after,Region.binds md e=true->e.on≠i)->oi.apart ops ok=true:=λk ok hk hki hun hno=>by
    refine hfree k ok hk hki ?_ hno;by_cases hjk:j=k
    ·subst hjk;exact hjun
    ·rw[getD_set_ne true hjk]at hun;exact hun
   have hC':∀k∈C,k≠i/\(listed.setIfInBounds j true).getD k true=false/\∃o,ops[k]?=some o/\∃e∈o.after,Region.binds md e=true/\(e.on=i\/e.on∈C):=λk hk=>by
    obtain⟨a1,a2,a3⟩:=hC k hk;refine⟨a1,?_,a3⟩;have hjk:j≠k:=by rintro rfl;exact hjC hk
    rw[getD_set_ne true hjk];exact a2
   have hjC2:C.contains j=false:=by
    cases h:C.contains j
    ·rfl
    ·exact absurd (List.contains_iff_mem.1 h) hjC
   refine wpOp_mono (λa' w' h3=>⟨h3.2.1.1,ih (listed.setIfInBounds j true) a' w' hC' hfree' (ready_mono hr (Ne.symm hji)) h3.1 (h3.2.1.2 hjC2 hS) ?_⟩) h2;rw[Array.setIfInBounds_comm _ _ hji];exact h3.2.2
theorem take{i:Nat}{oi:Oper}{v:Value}{fuel:Nat}{listed:Array Bool}{a:Act}{w:World}(R:World->Prop)(hi:ops[i]?=some oi)
  (hs:Region.noSelect ops=true)(hf:Region.free md ops listed i=true)(hr:(Region.ready md ops listed).contains i=true)(hT:closedB md ops listed i (cl md ops listed i 4) (λ_=>false)=true)
  (hQ:∀c a w,Q (.panic c) (a.put oi.dst v) w->Q (.panic c) a w)(hre:∀j w,Ob j w w)(hy:YieldsIf P ops R oi v a)(hS:R w)
  (h:wpAnyW P md ops Q (Plus Ob (cl md ops listed i 4) R) fuel (listed.setIfInBounds i true) (a.put oi.dst v) w):wpAnyW P md ops Q Ob (fuel+1) listed a w:=
 first (R:=R) hi (Region.noSelect_spec hs) hQ hre fuel listed a w (closed_spec hT).1 (Region.free_spec hi hf) (by simpa using hr) hy hS h
theorem comp{i:Nat}{oi:Oper}{v:Value}{fuel:Nat}{listed:Array Bool}{a:Act}{w:World}(hi:ops[i]?=some oi)
  (hs:Region.noSelect ops=true)(hf:Region.free md ops listed i=true)(hr:(Region.ready md ops listed).contains i=true)
  (hQ:∀c a w,Q (.panic c) (a.put oi.dst v) w->Q (.panic c) a w)(hre:∀j w,Ob j w w)(hy:YieldsIf P ops (λ_=>True) oi v a)
  (h:wpAnyW P md ops Q Ob fuel (listed.setIfInBounds i true) (a.put oi.dst v) w):wpAnyW P md ops Q Ob (fuel+1) listed a w:=
 first (R:=λ_=>True) (C:=[]) hi (Region.noSelect_spec hs) hQ hre fuel listed a w (λ_ h=>by cases h) (Region.free_spec hi hf) (by simpa using hr) hy trivial (weaker (Ob':=Ob) (λ_ _ _ h=>⟨h,λ_ _=>trivial⟩) _ _ _ _ h)
theorem one{i:Nat}{o:Oper}{fuel:Nat}{listed:Array Bool}{a:Act}{w:World}(ho:ops[i]?=some o)(hr:Region.ready md ops listed=[i])
  (h:∀K:Act->World->Prop,Shut (∀a w',Ob i w w'->wpAnyW P md ops Q Ob fuel (listed.setIfInBounds i true) a w'->K a w')->if Region.wanted o (yielded ops a.tmps)=true then Oper.wp P o a w K Q else K (a.put o.dst undef) w):
  wpAnyW P md ops Q Ob (fuel+1) listed a w:=
 ⟨λh0=>(by rw[hr]at h0;cases h0),λj hj=>by
  rw[hr]at hj;simp only[List.mem_singleton]at hj;subst hj;exact wpOp_step ho (λK' hK=>h K' (λa w hS hW=>hK a w ⟨hS,hW⟩))⟩
theorem two{i j:Nat}{oi oj:Oper}{fuel:Nat}{listed:Array Bool}{a:Act}{w:World}(hoi:ops[i]?=some oi)(hoj:ops[j]?=some oj)(hr:Region.ready md ops listed=[i,j])
  (h:∀K:Act->World->Prop,Shut (∀a w',Ob i w w'->wpAnyW P md ops Q Ob fuel (listed.setIfInBounds i true) a w'->K a w')->if Region.wanted oi (yielded ops a.tmps)=true then Oper.wp P oi a w K Q else K (a.put oi.dst undef) w)
  (h':∀K:Act->World->Prop,Shut (∀a w',Ob j w w'->wpAnyW P md ops Q Ob fuel (listed.setIfInBounds j true) a w'->K a w')->if Region.wanted oj (yielded ops a.tmps)=true then Oper.wp P oj a w K Q else K (a.put oj.dst undef) w):
  wpAnyW P md ops Q Ob (fuel+1) listed a w:=
 ⟨λh0=>(by rw[hr]at h0;cases h0),λk hk=>by
  rw[hr]at hk;simp only[List.mem_cons,List.not_mem_nil,or_false]at hk;rcases hk with rfl|rfl
  ·exact wpOp_step hoi (λK' hK=>h K' (λa w hS hW=>hK a w ⟨hS,hW⟩))
  ·exact wpOp_step hoj (λK' hK=>h' K' (λa w hS hW=>hK a w ⟨hS,hW⟩))⟩
theorem three{i j l:Nat}{oi oj ol:Oper}{fuel:Nat}{listed:Array Bool}{a:Act}{w:World}(hoi:ops[i]?=some oi)(hoj:ops[j]?=some oj)(hol:ops[l]?=some ol)(hr:Region.ready md ops listed=[i,j,l])
  (h:∀K:Act->World->Prop,Shut (∀a w',Ob i w w'->wpAnyW P md ops Q Ob fuel (listed.setIfInBounds i true) a w'->K a w')->if Region.wanted oi (yielded ops a.tmps)=true then Oper.wp P oi a w K Q else K (a.put oi.dst undef) w)
  (h':∀K:Act->World->Prop,Shut (∀a w',Ob j w w'->wpAnyW P md ops Q Ob fuel (listed.setIfInBounds j true) a w'->K a w')->if Region.wanted oj (yielded ops a.tmps)=true then Oper.wp P oj a w K Q else K (a.put oj.dst undef) w)
  (h'':∀K:Act->World->Prop,Shut (∀a w',Ob l w w'->wpAnyW P md ops Q Ob fuel (listed.setIfInBounds l true) a w'->K a w')->if Region.wanted ol (yielded ops a.tmps)=true then Oper.wp P ol a w K Q else K (a.put ol.dst undef) w):
  wpAnyW P md ops Q Ob (fuel+1) listed a w:=
 ⟨λh0=>(by rw[hr]at h0;cases h0),λk hk=>by
  rw[hr]at hk;simp only[List.mem_cons,List.not_mem_nil,or_false]at hk;rcases hk with rfl|rfl|rfl
  ·exact wpOp_step hoi (λK' hK=>h K' (λa w hS hW=>hK a w ⟨hS,hW⟩))
  ·exact wpOp_step hoj (λK' hK=>h' K' (λa w hS hW=>hK a w ⟨hS,hW⟩))
  ·exact wpOp_step hol (λK' hK=>h'' K' (λa w hS hW=>hK a w ⟨hS,hW⟩))⟩
theorem done{listed:Array Bool}{a:Act}{w:World}(hr:Region.ready md ops listed=[])(h:Q .normal a w):∀fuel,wpAnyW P md ops Q Ob fuel listed a w
 |0=>⟨hr,h⟩
 |_+1=>⟨λ_=>h,by rw[hr];simp⟩
theorem relax{C:List Nat}{R:World->Prop}:∀{fuel:Nat} {listed:Array Bool} {a:Act} {w:World},((List.range ops.size).all λj=>listed.getD j true||C.contains j)=true->wpAnyW P md ops Q Ob fuel listed a w->wpAnyW P md ops Q (Plus Ob C R) fuel listed a w
 |0,_,_,_,_,h=>h
 |fuel+1,listed,a,w,hc,h=>⟨h.1,λi hi=>by
  obtain⟨hun,o,ho,_⟩:=mem_ready.1 hi;have hil:i<ops.size:=(Array.getElem?_eq_some_iff.1 ho).1;have hC:C.contains i=true:=by have:=List.all_eq_true.1 hc i (List.mem_range.2 hil);rw[hun,Bool.false_or]at this;exact this
  refine wpOp_mono (λa' w' h'=>⟨⟨h'.1,λhF=>(by rw[hC]at hF;cases hF)⟩,relax ?_ h'.2⟩) (h.2 i hi);refine List.all_eq_true.2 λj hj=>?_;have:=List.all_eq_true.1 hc j hj;rcases Bool.or_eq_true_iff.1 this with h1|h1
  ·by_cases hij:i=j
   ·subst hij;rw[hun]at h1;cases h1
   ·rw[getD_set_ne true hij,h1]
    rfl
  ·rw[h1,Bool.or_true]⟩
theorem canon{listed listed':Array Bool}{fuel:Nat}{a:Act}{w:World}(h:listed=listed')(H:wpAnyW P md ops Q Ob fuel listed' a w):wpAnyW P md ops Q Ob fuel listed a w:=h▸H
def Ob0(_:Nat)(_ _:World):Prop:=True
theorem re0:∀j w,Ob0 j w w:=λ_ _=>trivial
theorem rePlus{C:List Nat}{R:World->Prop}(h:∀j w,Ob j w w):∀j w,Plus Ob C R j w w:=λj w=>⟨h j w,λ_ h=>h⟩
theorem start{id:Nat}{a:Act}{w:World}(hm:P.follows .mixedOrders=true)
  (h:wpAnyW P .any ops Q Ob0 ops.size (Array.replicate ops.size false) a w.drew):(Code.region id ops true).wp P Q a w:=
 wp_region_any hm (wpAny_of_W _ _ _ _ h)
end
theorem out_of{C:List Nat}{j:Nat}{p q:Prop}(h:C.contains j=true):C.contains j=false->p->q:=λh'=>by rw[h]at h';cases h'
open Go.ChangeAt Go.RowKit Go.ChangeShapes Go.WideShapes
theorem cell_below{w w':World}{p:Addr}{u:Value}(hb:Below w.heap.size w w')(h:w.cell? p=some u):w'.cell? p=some u:=by
 have hp:p.block<w.heap.size:=by
  rcases Nat.lt_or_ge p.block w.heap.size with h'|h'
  ·exact h'
  ·exfalso
   unfold World.cell? at h;rw[Array.getElem?_eq_none h']at h;cases h
 exact(hb.cell hp).trans h
theorem cell_grown{w w':World}{p:Addr}{u:Value}{R:Nat}(g:w.grownBy w' (some R))(hne:p.block≠R)(h:w.cell? p=some u):w'.cell? p=some u:=by
 have hp:p.block<w.heap.size:=by
  rcases Nat.lt_or_ge p.block w.heap.size with h'|h'
  ·exact h'
  ·exfalso
   unfold World.cell? at h;rw[Array.getElem?_eq_none h']at h;cases h
 exact(World.cell?_of_block (g.block p.block hp (λe=>hne (by injection e)))).trans h
theorem tail7{α1 α2 α3 α4 α5 α6 α7:Type}{F G:α1->α2->α3->α4->α5->α6->α7->Prop}{A:Prop}(main:Shut (∀x1 x2 x3 x4 x5 x6 x7,F x1 x2 x3 x4 x5 x6 x7->G x1 x2 x3 x4 x5 x6 x7)->A)(tail:∀x1 x2 x3 x4 x5 x6 x7,F x1 x2 x3 x4 x5 x6 x7->G x1 x2 x3 x4 x5 x6 x7):A:=main tail
end Rw
/- Short forms for the regions of the draws. -/
section
open Go Go.RowKit Kit
variable {P:Program}{ops:Array Oper}{Q:Exit->Act->World->Prop}{md:Region.Mode}{S:World->Prop}{T:Nat->Bool}{Ob:Nat->World->World->Prop}
theorem v_(i:Nat){oi:Oper}{v:Value}{fuel:Nat}{listed l:Array Bool}{a a':Act}{w:World}(hi:ops[i]?=some oi)(h:Rv.wpAnyV P md ops Q S T fuel l a' w)
  (hy:∀w,True->(execOp a.eval oi).run P w=.ok (.value v) w:=by intro w hSw;(try dsimp only at hSw);go_simp;(try with_reducible rfl))
  (ea:a.put oi.dst v=a':=by((try simp only[y1_,y2_,y3_,Act.put,y4_,y5_,y6_]);with_reducible rfl))(el:listed.setIfInBounds i true=l:=by((try simp only[y4_,y5_,y6_]);with_reducible rfl))
  (hs:Region.noSelect ops=true:=by kernel_rfl)(hf:Region.free md ops listed i=true:=by kernel_rfl)(hr:(Region.ready md ops listed).contains i=true:=by kernel_rfl)
  (hw:Region.wanted oi (yielded ops a.tmps)=true:=by rfl)(hQ:∀c a w,Q (.panic c) (a.put oi.dst v) w->Q (.panic c) a w:=by exact λ_ _ _ h=>h):Rv.wpAnyV P md ops Q S T (fuel+1) listed a w:=by
 subst ea el;exact Rv.comp hi hs hf hr hQ (.inl ⟨hw,hy⟩) h
theorem vl_(i:Nat){oi:Oper}{v:Value}{fuel:Nat}{listed l:Array Bool}{a a':Act}{w:World}(hi:ops[i]?=some oi)(h:Rv.wpAnyV P md ops Q S T fuel l a' w)
  (hy:∀w,S w->(execOp a.eval oi).run P w=.ok (.value v) w:=by intro w hSw;(try dsimp only at hSw);go_simp;(try with_reducible rfl))
  (ea:a.put oi.dst v=a':=by((try simp only[y1_,y2_,y3_,Act.put,y4_,y5_,y6_]);with_reducible rfl))(el:listed.setIfInBounds i true=l:=by((try simp only[y4_,y5_,y6_]);with_reducible rfl))
  (hs:Region.noSelect ops=true:=by kernel_rfl)(hf:Region.free md ops listed i=true:=by kernel_rfl)(hr:(Region.ready md ops listed).contains i=true:=by kernel_rfl)(hT:Rv.closedB md ops listed i (Rv.cl md ops listed i 3) T=true:=by kernel_rfl)
  (hw:Region.wanted oi (yielded ops a.tmps)=true:=by rfl)(hQ:∀c a w,Q (.panic c) (a.put oi.dst v) w->Q (.panic c) a w:=by exact λ_ _ _ h=>h)(hS:S w:=by assumption):Rv.wpAnyV P md ops Q S T (fuel+1) listed a w:=by
 subst ea el;exact Rv.take hi hs hf hr hT hQ (.inl ⟨hw,hy⟩) hS h
theorem w_(i:Nat){oi:Oper}{v:Value}{fuel:Nat}{listed l:Array Bool}{a a':Act}{w:World}(hi:ops[i]?=some oi)(h:Rw.wpAnyW P md ops Q Ob fuel l a' w)
  (hy:∀w,True->(execOp a.eval oi).run P w=.ok (.value v) w:=by intro w hSw;(try dsimp only at hSw);go_simp;(try with_reducible rfl))
  (ea:a.put oi.dst v=a':=by((try simp only[y1_,y2_,y3_,Act.put,y4_,y5_,y6_]);with_reducible rfl))(el:listed.setIfInBounds i true=l:=by((try simp only[y4_,y5_,y6_]);with_reducible rfl))
  (hs:Region.noSelect ops=true:=by kernel_rfl)(hf:Region.free md ops listed i=true:=by kernel_rfl)(hr:(Region.ready md ops listed).contains i=true:=by kernel_rfl)
  (hw:Region.wanted oi (yielded ops a.tmps)=true:=by rfl)(hQ:∀c a w,Q (.panic c) (a.put oi.dst v) w->Q (.panic c) a w:=by exact λ_ _ _ h=>h)(hre:∀j w,Ob j w w:=by repeat(first|exact Go.Proofs.YtepoiphmmjfbdaaGreatDoor.Rw.re0|apply Go.Proofs.YtepoiphmmjfbdaaGreatDoor.Rw.rePlus)):Rw.wpAnyW P md ops Q Ob (fuel+1) listed a w:=by
 subst ea el;exact Rw.comp hi hs hf hr hQ hre (.inl ⟨hw,hy⟩) h
theorem wl_(i:Nat){oi:Oper}{v:Value}{fuel:Nat}{listed l:Array Bool}{a a':Act}{w:World}(R:World->Prop)(hi:ops[i]?=some oi)(hS:R w)(h:Rw.wpAnyW P md ops Q (Rw.Plus Ob (Rv.cl md ops listed i 4) R) fuel l a' w)
  (hy:∀w,R w->(execOp a.eval oi).run P w=.ok (.value v) w:=by intro w hSw;(try dsimp only at hSw);go_simp;(try with_reducible rfl))
  (ea:a.put oi.dst v=a':=by((try simp only[y1_,y2_,y3_,Act.put,y4_,y5_,y6_]);with_reducible rfl))(el:listed.setIfInBounds i true=l:=by((try simp only[y4_,y5_,y6_]);with_reducible rfl))
  (hs:Region.noSelect ops=true:=by kernel_rfl)(hf:Region.free md ops listed i=true:=by kernel_rfl)(hr:(Region.ready md ops listed).contains i=true:=by kernel_rfl)(hT:Rv.closedB md ops listed i (Rv.cl md ops listed i 4) (λ_=>false)=true:=by kernel_rfl)
  (hw:Region.wanted oi (yielded ops a.tmps)=true:=by rfl)(hQ:∀c a w,Q (.panic c) (a.put oi.dst v) w->Q (.panic c) a w:=by exact λ_ _ _ h=>h)(hre:∀j w,Ob j w w:=by repeat(first|exact Go.Proofs.YtepoiphmmjfbdaaGreatDoor.Rw.re0|apply Go.Proofs.YtepoiphmmjfbdaaGreatDoor.Rw.rePlus)):Rw.wpAnyW P md ops Q Ob (fuel+1) listed a w:=by
 subst ea el;exact Rw.take R hi hs hf hr hT hQ hre (.inl ⟨hw,hy⟩) hS h
end
end Go.Proofs.YtepoiphmmjfbdaaGreatDoor
