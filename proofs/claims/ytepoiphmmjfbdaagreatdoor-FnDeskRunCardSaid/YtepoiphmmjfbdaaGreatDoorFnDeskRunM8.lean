/- Bytes copied into a row of one's own. -/
import Derived.Test.YtepoiphmmjfbdaaGreatDoorFnDeskRunM7
import Derived.Laws.CopyOwn
import Derived.Test.YtepoiphmmjfbdaaGreatDoorRows
import Derived.Deep.RegionHeld3
import Derived.Deep.RegionLaw
import Derived.Deep.RegionLawGrows
import Derived.IntWalk
import Derived.WalkSpells
import Derived.Lib.CutLaws
import Derived.Maps.Own
import Derived.Maps.Views
import Derived.StringKeys
set_option linter.unusedSimpArgs false
set_option linter.unusedVariables false
set_option maxRecDepth 200000
open Go.ChangeShapes Go.WideShapes Go.ChangeAt Go.RowKit
namespace Go.Proofs.YtepoiphmmjfbdaaGreatDoor
namespace BCopy
open Kit PLink
theorem step_copy_row{P:Program}{ops:Array Oper}{o:Oper}{a:Act}{w:World}{K:Act->World->Prop}{Q:Exit->Act->World->Prop}{E:Prop}(hgd:o.guard=none)(d s:Operand)(dT sT:TypeId)
  (ho:o.op=.call {callee:=.builtin .copy,args:=#[d,s],argTypes:=#[dT,sT]})(elem:TypeId)(hu:P.underlying dT=some (.slice elem))(hsz:(P.info? elem).map (·.size)=some 1)
  (g off dLen dCap:Nat)(ad:Addr)(sLen sCap:Nat)(hd:a.eval d=.slice (some ⟨g,off,none⟩) dLen dCap)(hs:a.eval s=.slice (some ad) sLen sCap)
  (cur:List Value)(t:TypeId)(hg:w.heap[g]?=some (.cells cur.toArray t (0,0)))(cs:List Value)(hn:cs.length=Nat.min sLen dLen)
  (hsrc:∀j v,cs[j]?=some v->w.cell? (ad.add j)=some v)(hfit:off+cs.length<=cur.length)(h1:∀v∈cs,v.oneCell'=true)
  (h:K (a.put o.dst (goInt cs.length)) (w.setRow g (Go.splice cur off cs).toArray)):
  if Region.wanted o (yielded ops a.tmps)=true then Oper.wp P o a w K Q else E:=by
 have hw:Region.wanted o (yielded ops a.tmps)=true:=by simp[Region.wanted,hgd]
 rw[if_pos hw];have hrun:=run_copy_row (P:=P) w dT sT o.type elem g off dLen dCap ad sLen sCap cur.toArray t cs hu hsz hg hn hsrc (by simpa using hfit) h1;unfold Oper.wp;simp[execOp,ho,resolve,invoke,builtin,hd,hs,hrun,Result.andThen];exact(show K _ _ from by simpa[Go.splice]using h)
theorem run_copy_zero{P:Program}(w:World)(dT sT ty elem:TypeId)(dA sA:Option Addr)(dLen dCap sLen sCap:Nat)(hu:P.underlying dT=some (.slice elem))(hs:((P.info? elem).map (·.size)).isSome=true)(h0:Nat.min sLen dLen=0):
  (Builtin.copy_ #[dT,sT] ty #[.slice dA dLen dCap,.slice sA sLen sCap]).run P w=.ok (goInt 0) w:=by
 cases hq:P.info? elem with
 |none=>simp[hq]at hs
 |some i=>cases dA<;>cases sA<;>simp[Builtin.copy_,run_underlying hu,Builtin.lenOf,Builtin.firstCells,sizeOf,typeInfo,hq,h0,storeCells,loadCells,loadCellsFrom]
theorem box_setRow{w:World}{Y g:Nat}{t:TypeId}{cs:Array Value}{cur:List Value}(h:Box w Y t cs)(hg:w.heap[g]?=some (.cells cur.toArray 5 (0,0)))(ht:t≠5)(x:Array Value):Box (w.setRow g x) Y t cs:=by
 have hne:Y≠g:=by intro e;subst e;have:=hg.symm.trans h;simp at this;exact ht this.2.symm
 exact(setRow_other w g Y _ hne).trans h
theorem rd_addr{w:World}{B:Nat}{A:Option Addr}{zs:List Int}(h:Rd w B A (ints .u8 zs))(h0:0<zs.length):
  ∃bz off,A=some ⟨bz,off,none⟩/\bz<B/\∀(j:Nat) (v:Value),(ints .u8 zs)[j]?=some v->w.cell? ((⟨bz,off,none⟩:Addr).add j)=some v:=by
 obtain⟨b,off,rfl,hb,_⟩:=h.int h0;refine⟨b,off,rfl,hb,λj v hj=>?_⟩;obtain⟨b',off',hA,_,hc⟩:=h j v hj;injection hA with hA;injection hA with e1 e2;subst e1 e2;by_cases h0:j=0
 ·subst h0;simpa[Addr.add]using hc
 ·simpa[Addr.add,h0]using hc
theorem take_splice{A cs:List Value}{i n:Nat}(hin:i+cs.length<=n)(hn:n<=A.length):(Go.splice A i cs).take n=Go.splice (A.take n) i cs:=by
 unfold Go.splice;have h1:(A.take i).length=i:=by rw[List.length_take];omega
 have h2:(A.take n).take i=A.take i:=by rw[List.take_take];congr 1;omega
 have h3:(A.take i).take n=A.take i:=by rw[List.take_take];congr 1;omega
 have h4:cs.take (n-i)=cs:=List.take_of_length_le (by omega);rw[List.take_append,h1,h2,h3,List.take_append,h4,List.drop_take,show n-i-cs.length=n-(i+cs.length)by omega]
theorem splice_ints(l zs:List Int)(i:Nat):Go.splice (ints .u8 l) i (ints .u8 zs)=ints .u8 (sp l i zs):=by simp[Go.splice,sp,ints]
theorem own_splice{w:World}{base g n c:Nat}{e:TypeId}{xs:List Value}(h:w.ownsRow base e 1 (.slice (some ⟨g,0,none⟩) n c) n xs):
  ∃cur:List Value,w.heap[g]?=some (.cells cur.toArray e (0,0))/\base<=g/\n<=cur.length/\∀(w':World) (i:Nat) (cs:List Value),i+cs.length<=n->w'.heap[g]?=some (.cells (Go.splice cur i cs).toArray e (0,0))->w'.ownsRow base e 1 (.slice (some ⟨g,0,none⟩) n c) n (Go.splice xs i cs):=by
 have hl:=h.1;rcases h.2 with⟨hv,_⟩|⟨g',cap,cur,hv,hb,hg,hn,hc,hs,ht⟩
 ·cases hv
 ·injection hv with hA _ hcap;simp only[Option.some.injEq,Addr.mk.injEq,and_true]at hA;subst hA hcap;simp only[Nat.mul_one]at hs ht hl;have hcl:cur.toList.length=c:=by simpa using hs
  refine⟨cur.toList,by simpa using hg,hb,by omega,λw' i cs hi hw=>⟨?_,.inr ⟨g,c,_,rfl,hb,hw,hn,hc,?_,?_⟩⟩⟩
  ·rw[Go.length_splice _ _ _ (by omega)];omega
  ·simp only[Nat.mul_one,List.size_toArray];rw[Go.length_splice _ _ _ (by omega)];exact hcl
  ·simp only[Nat.mul_one];rw[take_splice hi (by omega),ht]
theorem copied{w:World}{base g n c:Nat}{l:List Int}(h:w.ownsRow base 5 1 (.slice (some ⟨g,0,none⟩) n c) n (ints .u8 l)):
  ∃cur:List Value,w.heap[g]?=some (.cells cur.toArray 5 (0,0))/\base<=g/\n<=cur.length/\∀(i:Nat) (zs:List Int),i+zs.length<=n->(w.setRow g (Go.splice cur i (ints .u8 zs)).toArray).ownsRow base 5 1 (.slice (some ⟨g,0,none⟩) n c) n (ints .u8 (sp l i zs)):=by
 obtain⟨cur,hg,hN,hn,hf⟩:=own_splice h;refine⟨cur,hg,hN,hn,λi zs hi=>?_⟩;rw[<-splice_ints];exact hf _ i _ (by simpa using hi) (setRow_heap w g _ _ _ _ hg)
end BCopy
/- ApplyFixup: bytes with a fixup filled in. -/
namespace CApFix
open Kit CCode CNumber CFixups CSymbols PObj BObj PValid CSecValid BStore CMarkRows CClones CCopyS PLink CFixVal BCopy
theorem fix_bd{kind place target add v:Int}(h:fixVal kind place target add=some v):(kind=1\/kind=2\/kind=3)/\0<=v/\v<=all (wide kind):=by
 unfold fixVal at h;split at h
 ·rename_i hc;have h1:0<=target/\target<=100000:=by simpa[inB]using hc.2.1
  have h2:-1000<=add/\add<=1000:=by simpa[inB]using hc.2.2
  split at h
  ·rename_i hk;subst hk;split at h
   ·rename_i hb;injection h with h;have h3:0<=target+add/\target+add<=65535:=by simpa[inB]using hb
    subst h;refine⟨by omega,by omega,?_⟩;show target+add<=65535
    omega
   ·cases h
  ·split at h
   ·rename_i hk;subst hk;split at h
    ·injection h with h;subst h;refine⟨by omega,by omega,?_⟩;show target+add<=4294967295
     omega
    ·cases h
   ·split at h
    ·rename_i hk;subst hk;split at h
     ·injection h with h;subst h;refine⟨by omega,by omega,?_⟩;show near place (target+add)%256<=255
      omega
     ·cases h
    ·cases h
 ·cases h
theorem pnum_put{kind place target add v:Int}(h:fixVal kind place target add=some v):pnum v (wide kind)=putL (wide kind).toNat v:=by
 obtain⟨hk,h1,h2⟩:=fix_bd h;unfold pnum;rw[if_pos];refine⟨?_,by simpa[inB]using⟨h1,h2⟩⟩;rcases hk with rfl|rfl|rfl<;>decide
def RetF(r:Option (List Int))(w:World)(e:Ending)(w':World):Prop:=∃A c n,e=.returned (.tuple #[.slice A n c,.bool r.isSome])/\Below w.heap.size w w'/\∀b,r=some b->n=b.length/\Row w' w.heap.size 5 1 A n c (ints .u8 b)
theorem ap_out{b:List Int}{place:Int}{f:FD}{t:Int}(h:¬(inB place 0 100000=true/\¬wide f.2.1=0/\inB f.1 0 (b.length-wide f.2.1)=true)):apF b place f t=none:=if_neg h
set_option maxHeartbeats 4000000 in
theorem applyFixup_any(A:Option Addr)(b:List Int)(c:Nat)(place:Int)(f:FD)(t:Int)(w:World)(hr:Rd w w.heap.size A (ints .u8 b))(hm:b.length<=1000)(hnil:A=none->c=0):
  Calls Tryz.prog 57 #[.slice A b.length c,.int .i64 place,.agg #[.int .i64 f.1,.int .i64 f.2.1,.int .i64 f.2.2.1,.int .i64 f.2.2.2],.int .i64 t] w (RetF (apF b place f t) w):=by
 obtain⟨f1,f2,f3,f4⟩:=f;simp only;have HR:=h_ hr;have HNIL:=h_ hnil;clear hr hnil;have hwd:=wide_bd f2;obtain⟨wd1,wd2⟩:=hwd;have HB:=h_ (show Below w.heap.size w (w.alloc (.cells #[.int .i64 f1,.int .i64 f2,.int .i64 f3,.int .i64 f4] 65))from b_);have HX:=h_ (Box.new w 65 #[.int .i64 f1,.int .i64 f2,.int .i64 f3,.int .i64 f4]);go_enter Tryz.func57,Tryz.ntmps57
 go_wp2_with fail
 generalize w.alloc (.cells #[.int .i64 f1,.int .i64 f2,.int .i64 f3,.int .i64 f4] 65)=w0 at *;have x1:=d_ HX.o 1;refine Reg.startT (λW=>W.cell? ⟨w.heap.size,1,none⟩=some (.int .i64 f2)) (λ_=>false) (by kernel_rfl) ?_;have hHeld:w0.drew.cell? ⟨w.heap.size,1,none⟩=some (.int .i64 f2):=x1;clear x1;refine t_ 0 rfl ?_;refine t_ 2 rfl ?_;refine t_ 3 rfl ?_;have bd:Below w0.heap.size w0 w0.drew:=below_dr (Below.refl _ _);replace HB:=c_ HB bd;replace HX:=h_ (HX.o.call bd);clear bd;generalize w0.drew=w1 at *;refine Reg.oneT (i:=1) rfl (by kernel_rfl) (λK hK=>?_);go_simp
 refine(clone8_any A b c w.heap.size w1 (HR.o.below HB.o) HB.o.size (by omega) HNIL.o).mono ?_;rintro e w2 ⟨A2,c2,rfl,o2,b2⟩;have hlow:w.heap.size<=w1.heap.size:=HB.o.size;have HO:=h_ (o2.down hlow);clear o2;replace HB:=c_ HB b2;replace HX:=h_ (HX.o.call b2);clear b2;replace hHeld:=HX.o.cell 1;simp only[g_]at hHeld;refine hK.out _ _ hHeld ?_;clear hK K;try simp only[y1_,y2_,y3_,Act.put,y4_,y5_,y6_]
 refine Reg.oneT (i:=4) rfl (by kernel_rfl) (λK hK=>?_);go_simp
 refine(fixupWide_any f2 w2).mono ?_;rintro e w' ⟨rfl,rfl⟩;refine hK.out _ _ hHeld ?_;clear hK K;try simp only[y1_,y2_,y3_,Act.put,y4_,y5_,y6_]
 refine t_ 5 rfl ?_;refine t_ 6 rfl ?_;clear hHeld;refine Reg.doneT (by kernel_rfl) ?_ _;generalize hwn:wide f2=wd at *;have HW:=h_ hwn;clear hwn;cases hp:inB place 0 100000
 ·have HV:=h_ (ap_out (b:=b) (place:=place) (f:=(f1,f2,f3,f4)) (t:=t) (by rw[hp];simp));go_wp2_with fail
  refine(within_any _ _ _ _).mono ?_;rintro e w' ⟨rfl,rfl⟩;rw[hp];clear hp;go_wp2_with fail
  go_ret2;exact⟨A2,c2,b.length,by rw[HV.o];rfl,HB.o,λb' hb'=>by rw[HV.o]at hb';cases hb'⟩
 by_cases hw0:wd=0
 ·have HV:=h_ (ap_out (b:=b) (place:=place) (f:=(f1,f2,f3,f4)) (t:=t) (by simp only;rw[HW.o,hw0];simp));have e0:(wd==0)=true:=beq_iff_eq.2 hw0;clear hw0;go_wp2_with fail
  refine(within_any _ _ _ _).mono ?_;rintro e w' ⟨rfl,rfl⟩;rw[hp];clear hp;go_wp2_with fail
  go_ret2;exact⟨A2,c2,b.length,by rw[HV.o];rfl,HB.o,λb' hb'=>by rw[HV.o]at hb';cases hb'⟩
 have e0:(wd==0)=false:=beq_eq_false_iff_ne.2 hw0;have hws:IntKind.i64.wrap ((b.length:Int)-wd)=(b.length:Int)-wd:=IntWalk.i64_in _ (by omega);cases hf:inB f1 0 ((b.length:Int)-wd)
 ·have HV:=h_ (ap_out (b:=b) (place:=place) (f:=(f1,f2,f3,f4)) (t:=t) (by simp only;rw[HW.o,hf];simp));have x0:=d_ HX.o 0;have hxl:=HX.o.lt;go_wp2_with fail
  refine(within_any _ _ _ _).mono ?_;rintro e w' ⟨rfl,rfl⟩;rw[hp];clear hp;go_wp2_with fail
  refine(within_any _ _ _ _).mono ?_;rintro e w' ⟨rfl,rfl⟩;rw[hf];clear hf;go_wp2_with fail
  go_ret2;exact⟨A2,c2,b.length,by rw[HV.o];rfl,HB.o,λb' hb'=>by rw[HV.o]at hb';cases hb'⟩
 have HV:=h_ (show apF b place (f1,f2,f3,f4) t=(fixVal f2 (place+f1) t f4).map λv=>sp b f1.toNat (putL (wide f2).toNat v)from if_pos (by simp only;rw[HW.o];exact⟨hp,hw0,hf⟩));have hf1:0<=f1/\f1<=(b.length:Int)-wd:=by simpa[inB]using hf
 have hp1:0<=place/\place<=100000:=by simpa[inB]using hp
 obtain⟨g1,g2⟩:=hf1;obtain⟨g3,g4⟩:=hp1;have hwp:IntKind.i64.wrap (place+f1)=place+f1:=IntWalk.i64_in _ (by omega);have x0:=d_ HX.o 0;have x1:=d_ HX.o 1;have x3:=d_ HX.o 3;have hxl:=HX.o.lt;go_wp2_with fail
 refine(within_any _ _ _ _).mono ?_;rintro e w' ⟨rfl,rfl⟩;rw[hp];clear hp;go_wp2_with fail
 refine(within_any _ _ _ _).mono ?_;rintro e w' ⟨rfl,rfl⟩;rw[hf];clear hf;go_wp2_with fail
 refine(fixupValue_any _ _ _ _ _).mono ?_;rintro e w' ⟨rfl,rfl⟩;generalize hv:fixVal f2 (place+f1) t f4=r at *;have HFV:=h_ hv;clear hv;cases r with
 |none=>
  simp only[fvV,Option.isSome,Option.getD];go_wp2_with fail
  go_ret2;exact⟨A2,c2,b.length,by rw[HV.o];rfl,HB.o,λb' hb'=>by rw[HV.o]at hb';cases hb'⟩
 |some v=>
  simp only[fvV,Option.isSome,Option.getD];go_wp2_with fail
  clear x0 x1 x3 hxl e0 hws hwp;obtain⟨a,rfl⟩:∃a:Nat,f1=(a:Int):=⟨f1.toNat,by omega⟩;obtain⟨n,rfl⟩:∃n:Nat,wd=(n:Int):=⟨wd.toNat,by omega⟩;have hal:a+n<=b.length:=by omega
  have hn0:0<n:=by omega
  have HPU:=h_ (show pnum v n=putL n v from by
   have h:=pnum_put HFV.o;rw[HW.o]at h;rw[h]
   rfl)
  have HV2:=h_ (show apF b place ((a:Int),f2,f3,f4) t=some (sp b a (putL n v))from by
   rw[HV.o,HW.o]
   rfl)
  have hplen:(putL n v).length=n:=putL_len n v;obtain⟨g,rfl,hgb,hgl,hgk,hown⟩:=own_of HO.o (by omega);have hcap:=HO.o.cap.1;have x0:=d_ HX.o 0;have hxl:=HX.o.lt;refine Reg.startT (λW=>W.cell? ⟨w.heap.size,0,none⟩=some (.int .i64 (a:Int))) (λ_=>false) (by kernel_rfl) ?_;have hHeld:w2.drew.cell? ⟨w.heap.size,0,none⟩=some (.int .i64 (a:Int)):=x0;clear x0 hxl;have hin1:a<=b.length:=by omega
  have hin2:a<=c2:=by omega
  refine t_ 0 rfl ?_;refine t_ 1 rfl ?_;refine t_ 2 rfl ?_;refine t_ 3 rfl ?_;refine t_ 4 rfl ?_;refine t_ 5 rfl ?_;have bd:Below w2.heap.size w2 w2.drew:=below_dr (Below.refl _ _);replace HB:=c_ HB bd;replace HX:=h_ (HX.o.call bd);clear bd;have HOW:=h_ (show w2.drew.ownsRow w.heap.size 5 1 (.slice (some ⟨g,0,none⟩) b.length c2) b.length (ints .u8 b)from hown);clear hown HO;have hgl':g<w2.drew.heap.size:=hgl;generalize w2.drew=w3 at *;refine Reg.oneT (i:=6) rfl (by kernel_rfl) (λK hK=>?_);go_simp
  refine(putNumber_any v n w3).mono ?_;rintro e w5 ⟨A5,c5,rfl,o5,b5⟩;rw[HPU.o,hplen]at o5 ⊢;have HS:=h_ (Rd.of_own o5);replace HOW:=h_ (own_call b5 HOW.o);replace HB:=c_ HB b5;replace HX:=h_ (HX.o.call b5);clear b5;replace hHeld:=HX.o.cell 0;simp only[List.getElem?_toArray,List.getElem?_cons_zero]at hHeld;refine hK.out _ _ hHeld ?_;clear hK K;try simp only[y1_,y2_,y3_,Act.put,y4_,y5_,y6_]
  obtain⟨bz,offz,rfl,hbz,hsrc⟩:=rd_addr HS.o (by omega);obtain⟨cur,hgv,hgb2,hcn,hcp⟩:=copied HOW.o;have HGV:=h_ hgv;have HIL:=h_ (show(ints .u8 (putL n v)).length=n by simp[hplen]);have HOUT:=h_ (hcp a (putL n v) (by omega));have HBO:=h_ (Go.below_setRow HB.o hgb2 (Go.splice cur a (ints .u8 (putL n v))).toArray);have HXO:=h_ (box_setRow HX.o hgv (by decide) (Go.splice cur a (ints .u8 (putL n v))).toArray);refine Reg.oneT (i:=7) rfl (by kernel_rfl) (λK hK=>?_);refine step_copy_row (by rfl) _ _ 22 22 (by rfl) 5 Tryz.underlying22 (by kernel_rfl) g a (b.length-a) (c2-a) ⟨bz,offz,none⟩ n c5 (by show Value.slice (if c2=a then _ else _) _ _=_;rw[if_neg (by omega)]) (by rfl) cur 5 HGV.o (ints .u8 (putL n v)) (by rw[HIL.o];exact(Nat.min_eq_left (by omega)).symm) hsrc (by rw[HIL.o];omega) oneI ?_;generalize w5.setRow g (Go.splice cur a (ints .u8 (putL n v))).toArray=w6 at *;refine hK.out _ _ (by have h:=HXO.o.cell 0;simpa using h) ?_;clear hK K;try simp only[y1_,y2_,y3_,Act.put,y4_,y5_,y6_]
  refine Reg.doneT (by kernel_rfl) ?_ _;clear hcp hgv hsrc hHeld;go_wp2_with fail
  go_ret2;refine⟨some ⟨g,0,none⟩,c2,b.length,by rw[HV2.o];rfl,HBO.o,λb' hb'=>?_⟩;rw[HV2.o]at hb';injection hb' with hb';subst hb';have hsl:(sp b a (putL n v)).length=b.length:=sp_len (by omega);exact⟨hsl.symm,.inr HOUT.o⟩
end CApFix
/- Where a layout's places lie; plain. -/
namespace PLayB
open Kit CCode CName CNumber CFixups CSymbols PObj PValid PWarn PClear PSort CObjValid PLink PLinkL
def Okk(s:SD):Prop:=(0<=secSize s/\secSize s<=48)/\alignOk s.al=true
def sec(l:List OD)(k i:Nat):Option SD:=(l[k]?).bind λd=>d.ss[i]?
theorem sec_at{l:List OD}{k i:Nat}(hk:k<l.length)(hi:i<(l[k]).ss.length):sec l k i=some (l[k]).ss[i]:=by unfold sec;rw[List.getElem?_eq_getElem hk];exact List.getElem?_eq_getElem hi
def Shq(l:List OD)(P:List (List Int)):Prop:=∀k i s,sec l k i=some s->∃h:k<P.length,i<(P[k]).length
theorem getP_set{P:List (List Int)}{k i:Nat}(v:Int)(hk:k<P.length)(hi:i<(P[k]).length)(a b:Nat):getP (setP P k i v) a b=if a=k/\b=i then v else getP P a b:=by
 unfold getP setP;have e:P.getD k []=P[k]:=by rw[List.getD_eq_getElem?_getD,List.getElem?_eq_getElem hk];rfl
 rw[e];rw[List.getD_eq_getElem?_getD (l:=P.set k _),List.getElem?_set];by_cases hak:k=a
 ·subst hak;rw[if_pos rfl,if_pos hk,e];simp only[Option.getD_some,true_and];rw[List.getD_eq_getElem?_getD,List.getElem?_set,List.getD_eq_getElem?_getD];by_cases hbi:i=b
  ·subst hbi;rw[if_pos rfl,if_pos hi,if_pos rfl]
   rfl
  ·rw[if_neg hbi,if_neg (λh=>hbi h.symm)]
 ·rw[if_neg hak,if_neg (λh=>hak h.1.symm),<-List.getD_eq_getElem?_getD]
theorem shq_set{l:List OD}{P:List (List Int)}(h:Shq l P)(k i:Nat)(v:Int):Shq l (setP P k i v):=by
 intro a b s hs;obtain⟨h1,h2⟩:=h a b s hs;unfold setP;refine⟨by rw[List.length_set];exact h1,?_⟩;rw[List.getElem_set];by_cases hka:k=a
 ·subst hka;rw[if_pos rfl,List.length_set,List.getD_eq_getElem?_getD,List.getElem?_eq_getElem h1];exact h2
 ·rw[if_neg hka];exact h2
structure Inv(l:List OD)(b:Int)(Dn:Nat->Nat->SD->Prop)(st:St):Prop where
 lo:b<=st.1
 sh:Shq l st.2
 pl:∀k i s,sec l k i=some s->Dn k i s->b<=getP st.2 k i/\getP st.2 k i+secSize s<=st.1
variable {l:List OD}{b:Int}
theorem Inv.weak {Dn Dn':Nat->Nat->SD->Prop}{st:St}(h:Inv l b Dn st)(hD:∀k i s,sec l k i=some s->Dn' k i s->Dn k i s):Inv l b Dn' st:=⟨h.lo,h.sh,λk i s hs hd=>h.pl k i s hs (hD k i s hs hd)⟩
theorem inv_step(hb:0<=b){Dn:Nat->Nat->SD->Prop}{st:St}{kd:Int}{k i:Nat}{s:SD}(h:Inv l b Dn st)(hs:sec l k i=some s)(ho:Okk s):
  Inv l b (λk' i' s'=>Dn k' i' s'\/(k'=k/\i'=i/\s'.kd=kd)) (stepS kd k i s st):=by
 obtain⟨a,P⟩:=st;obtain⟨h1,h2,h3⟩:=h;simp only at h1 h2 h3;unfold stepS;by_cases hk:s.kd=kd
 ·rw[decide_eq_true hk];simp only[cond_true];obtain⟨e1,e2⟩:=al_bd (show 0<=a by omega) ho.2;obtain⟨q1,q2⟩:=h2 k i s hs;have hsz:=ho.1.1;refine⟨by omega,shq_set h2 k i _,λk' i' s' hs' hd=>?_⟩;rw[getP_set _ q1 q2];by_cases hc:k'=k/\i'=i
  ·rw[if_pos hc];obtain⟨rfl,rfl⟩:=hc;rw[hs]at hs';injection hs' with hs';subst hs';omega
  ·rw[if_neg hc];rcases hd with hd|⟨r1,r2,_⟩
   ·have:=h3 k' i' s' hs' hd;omega
   ·exact absurd ⟨r1,r2⟩ hc
 ·rw[decide_eq_false hk];simp only[cond_false];refine⟨h1,h2,λk' i' s' hs' hd=>?_⟩;rcases hd with hd|⟨rfl,rfl,r3⟩
  ·exact h3 k' i' s' hs' hd
  ·rw[hs]at hs';injection hs' with hs';subst hs';exact absurd r3 hk
theorem inv_foldS(hb:0<=b)(kd:Int)(k:Nat):∀(ss:List SD) (i:Nat) (st:St) (Dn:Nat->Nat->SD->Prop),
  (∀j s,ss[j]?=some s->sec l k (i+j)=some s/\Okk s)->(∀i',i+ss.length<=i'->sec l k i'=none)->Inv l b Dn st→
  Inv l b (λk' i' s'=>Dn k' i' s'\/(k'=k/\i<=i'/\s'.kd=kd)) (foldS kd k i ss st)
 |[],i,st,Dn,_,hend,h=>by
  refine h.weak λk' i' s' hs' hd=>?_;rcases hd with hd|⟨rfl,r2,_⟩
  ·exact hd
  ·rw[hend i' (by simpa using r2)]at hs';cases hs'
 |s::ss,i,st,Dn,hss,hend,h=>by
  have h0:=hss 0 s rfl;rw[Nat.add_zero]at h0;have hst:=inv_step hb (kd:=kd) h h0.1 h0.2;have ih:=inv_foldS hb kd k ss (i+1) _ _ (λj t ht=>by
   have:=hss (j+1) t (by simpa using ht)
   rwa[show i+(j+1)=i+1+j by omega]at this) (λi' hi'=>hend i' (by simp;omega)) hst
  refine ih.weak λk' i' s' hs' hd=>?_;rcases hd with hd|⟨r1,r2,r3⟩
  ·exact .inl (.inl hd)
  ·by_cases hi:i'=i
   ·exact .inl (.inr ⟨r1,hi,r3⟩)
   ·exact .inr ⟨r1,by omega,r3⟩
theorem inv_foldO(hb:0<=b)(kd:Int):∀(ds:List OD) (k:Nat) (st:St) (Dn:Nat->Nat->SD->Prop),
  (∀j d,ds[j]?=some d->l[k+j]?=some d/\∀s∈d.ss,Okk s)->l.length<=k+ds.length->Inv l b Dn st→
  Inv l b (λk' i' s'=>Dn k' i' s'\/(k<=k'/\s'.kd=kd)) (foldO kd k ds st)
 |[],k,st,Dn,_,hend,h=>by
  refine h.weak λk' i' s' hs' hd=>?_;rcases hd with hd|⟨r1,_⟩
  ·exact hd
  ·unfold sec at hs';rw[List.getElem?_eq_none (by simp at hend;omega)]at hs';cases hs'
 |d::ds,k,st,Dn,hds,hend,h=>by
  have h0:=hds 0 d rfl;rw[Nat.add_zero]at h0;have hst:=inv_foldS hb kd k d.ss 0 st Dn (λj s hs=>by
   refine⟨?_,h0.2 s (List.mem_of_getElem? hs)⟩;unfold sec;rw[h0.1,Nat.zero_add];exact hs) (λi' hi'=>by
   unfold sec;rw[h0.1];exact List.getElem?_eq_none (by omega)) h
  have ih:=inv_foldO hb kd ds (k+1) _ _ (λj t ht=>by
   have:=hds (j+1) t (by simpa using ht)
   rwa[show k+(j+1)=k+1+j by omega]at this) (by simp at hend;omega) hst
  refine ih.weak λk' i' s' hs' hd=>?_;rcases hd with hd|⟨r1,r2⟩
  ·exact .inl (.inl hd)
  ·by_cases hk:k'=k
   ·exact .inl (.inr ⟨hk,Nat.zero_le _,r2⟩)
   ·exact .inr ⟨by omega,r2⟩
theorem inv_kind(hb:0<=b)(hl:∀d∈l,∀s∈d.ss,Okk s)(kd:Int){Dn:Nat->Nat->SD->Prop}{st:St}(h:Inv l b Dn st):Inv l b (λk' i' s'=>Dn k' i' s'\/s'.kd=kd) (kindS l kd st):=by
 have hlo:=h.lo;obtain⟨e1,_⟩:=al_bd (show 0<=st.1 by omega) (show alignOk 8=true by decide);have h1:Inv l b Dn (al st.1 8,st.2):=⟨by simp only;omega,h.sh,λk i s hs hd=>by
  have:=h.pl k i s hs hd;simp only;omega⟩
 have h2:=inv_foldO hb kd l 0 _ Dn (λj d hj=>⟨by rw[Nat.zero_add];exact hj,hl d (List.mem_of_getElem? hj)⟩) (by omega) h1;refine h2.weak λk' i' s' _ hd=>?_;rcases hd with hd|hd
 ·exact .inl hd
 ·exact .inr ⟨Nat.zero_le _,hd⟩
theorem shq_zero(l:List OD):Shq l (zeroP l):=by
 intro k i s hs;unfold sec at hs;unfold zeroP;cases hk:l[k]? with
 |none=>
  rw[hk]at hs;cases hs
 |some d=>rw[hk]at hs;obtain⟨h1,h2⟩:=List.getElem?_eq_some_iff.1 hk;obtain⟨h3,_⟩:=List.getElem?_eq_some_iff.1 (show d.ss[i]?=some s from hs);refine⟨by rw[List.length_map];exact h1,?_⟩;rw[List.getElem_map,List.length_replicate,h2];exact h3
theorem foldS_le(kd:Int)(k:Nat):∀(ss:List SD) (i:Nat) (st:St),(∀s∈ss,Okk s)->0<=st.1->0<=(foldS kd k i ss st).1/\(foldS kd k i ss st).1<=st.1+60*ss.length
 |[],i,st,_,h0=>by simp only[foldS,List.length_nil];omega
 |s::ss,i,st,h,h0=>by
  have ho:=h s List.mem_cons_self;have h1:0<=(stepS kd k i s st).1/\(stepS kd k i s st).1<=st.1+60:=by
   obtain⟨e1,e2⟩:=al_bd h0 ho.2;have:=ho.1;unfold stepS;by_cases hk:s.kd=kd
   ·rw[decide_eq_true hk];simp only[cond_true];omega
   ·rw[decide_eq_false hk];simp only[cond_false];omega
  have ih:=foldS_le kd k ss (i+1) (stepS kd k i s st) (λt ht=>h t (List.mem_cons_of_mem _ ht)) h1.1;rw[foldS,List.length_cons];omega
theorem foldO_le(kd:Int):∀(ds:List OD) (k:Nat) (st:St),(∀d∈ds,d.ss.length<=8/\∀s∈d.ss,Okk s)->0<=st.1->0<=(foldO kd k ds st).1/\(foldO kd k ds st).1<=st.1+480*ds.length
 |[],k,st,_,h0=>by simp only[foldO,List.length_nil];omega
 |d::ds,k,st,h,h0=>by have ho:=h d List.mem_cons_self;have h1:=foldS_le kd k d.ss 0 st ho.2 h0;have ih:=foldO_le kd ds (k+1) (foldS kd k 0 d.ss st) (λt ht=>h t (List.mem_cons_of_mem _ ht)) h1.1;rw[foldO,List.length_cons];have:=ho.1;omega
theorem kind_le(hl:∀d∈l,d.ss.length<=8/\∀s∈d.ss,Okk s)(hn:l.length<=4)(kd:Int){st:St}(h0:0<=st.1):0<=(kindS l kd st).1/\(kindS l kd st).1<=st.1+1927:=by obtain⟨e1,e2⟩:=al_bd h0 (show alignOk 8=true by decide);have h:=foldO_le kd l 0 (al st.1 8,st.2) hl (by simp only;omega);simp only at h;unfold kindS;omega
theorem sec_okk{many:Int}{d:SD}(h:secOk many d=true):Okk d/\1<=d.kd/\d.kd<=3:=by
 rw[secOk,Bool.and_eq_true]at h;obtain⟨h1,h2⟩:=h;simp only[headOk,Bool.and_eq_true,inB,decide_eq_true_eq]at h1;refine⟨⟨?_,h1.2⟩,h1.1.2.1,h1.1.2.2⟩;unfold secSize;by_cases hk:d.kd=3
 ·rw[if_pos hk]at h2 ⊢;simp only[blankOk,Bool.and_eq_true,inB,decide_eq_true_eq]at h2;exact h2.1.1
 ·rw[if_neg hk]at h2 ⊢;simp only[bodyOk,Bool.and_eq_true,decide_eq_true_eq]at h2;omega
theorem sec_zs{many:Int}{d:SD}(h:secOk many d=true):(d.zs.length:Int)<=secSize d:=by
 rw[secOk,Bool.and_eq_true]at h;obtain⟨_,h2⟩:=h;unfold secSize;by_cases hk:d.kd=3
 ·rw[if_pos hk]at h2 ⊢;simp only[blankOk,Bool.and_eq_true,inB,decide_eq_true_eq]at h2;omega
 ·rw[if_neg hk];exact Int.le_refl _
theorem lay_sz(ho:objsOk l=true)(hb0:0<=b)(hb1:b<=4096):b<=(PLink.lay l b).1/\(PLink.lay l b).1<=10000/\Shq l (PLink.lay l b).2/\∀k (hk:k<l.length) i (hi:i<(l[k]).ss.length),b<=getP (PLink.lay l b).2 k i/\getP (PLink.lay l b).2 k i+secSize (l[k]).ss[i]<=(PLink.lay l b).1:=by
 simp only[objsOk,Bool.and_eq_true,decide_eq_true_eq,List.all_eq_true]at ho;have hl:∀d∈l,d.ss.length<=8/\∀s∈d.ss,Okk s/\1<=s.kd/\s.kd<=3:=λd hd=>by obtain⟨h1,_,h3,_⟩:=(obj_iff d).1 (ho.2 d hd);exact⟨h1,λs hs=>sec_okk (h3 s hs)⟩
 have hl2:∀d∈l,d.ss.length<=8/\∀s∈d.ss,Okk s:=λd hd=>⟨(hl d hd).1,λs hs=>((hl d hd).2 s hs).1⟩;have i0:Inv l b (λ_ _ _=>False) (b,zeroP l):=⟨Int.le_refl _,shq_zero l,λ_ _ _ _ h=>h.elim⟩;have i3:=inv_kind hb0 (λd hd=>(hl2 d hd).2) 3 (inv_kind hb0 (λd hd=>(hl2 d hd).2) 2 (inv_kind hb0 (λd hd=>(hl2 d hd).2) 1 i0));have b1:=kind_le hl2 ho.1 1 (st:=(b,zeroP l)) hb0;have b2:=kind_le hl2 ho.1 2 b1.1;have b3:=kind_le hl2 ho.1 3 b2.1;simp only at b1;refine⟨i3.lo,by unfold PLink.lay;omega,i3.sh,λk hk i hi=>?_⟩;have hkd:=((hl _ (List.getElem_mem hk)).2 _ (List.getElem_mem hi)).2;refine i3.pl k i _ (sec_at hk hi) ?_;generalize (l[k]).ss[i]=s at *;have h:s.kd=1\/s.kd=2\/s.kd=3:=by omega
 rcases h with h|h|h
 ·exact .inl (.inl (.inr h))
 ·exact .inl (.inr h)
 ·exact .inr h
theorem lay_bd(ho:objsOk l=true)(hb0:0<=b)(hb1:b<=4096):b<=(PLink.lay l b).1/\(PLink.lay l b).1<=10000/\Shq l (PLink.lay l b).2/\∀k (hk:k<l.length) i (hi:i<(l[k]).ss.length),b<=getP (PLink.lay l b).2 k i/\getP (PLink.lay l b).2 k i<=(PLink.lay l b).1:=by obtain⟨h1,h2,h3,h4⟩:=lay_sz ho hb0 hb1;refine⟨h1,h2,h3,λk hk i hi=>?_⟩;have h:=h4 k hk i hi;simp only[objsOk,Bool.and_eq_true,decide_eq_true_eq,List.all_eq_true]at ho;obtain⟨_,_,h5,_⟩:=(obj_iff _).1 (ho.2 _ (List.getElem_mem hk));have h6:=(sec_okk (h5 _ (List.getElem_mem hi))).1.1.1;omega
end PLayB
/- Contracts of slices.ContainsFunc at []int,and of MachineValid,the program's and the reference's. -/
namespace CMachine
open Kit CCode
end CMachine
/- Contracts of PutCode and GetCode,the program's and the reference's. -/
namespace CPutCode
open Kit CCode CNumber
end CPutCode
/- What comes in: rows of cells that read as the laws' structs. -/
namespace In
open Kit
end In
/- Contracts of the laws' helpers on Machine: the copy,the comparison of equal data,the size. -/
namespace CMachines
open Kit CInts
end CMachines
/- Contracts of slices.Clone at []int and of the copy of a machine,the program's and the reference's. -/
namespace CStep
open Kit CCode CMachine CMachines CInts CPutCode
section
variable {w w':World}{base:Nat}{S C:Option Addr}{cs cc:Nat}{st ca:List Int}
end
end CStep
/- Contracts of the marks that the laws lay into rows of ints and into machines. -/
namespace CMark
open Kit CMachines CInts CStep
end CMark
/- Link: the image of objects. -/
namespace CLink
open Kit CCode CName CNumber CFixups CSymbols PObj BObj PValid PWarn PClear CSecValid CObjValid BStore CMarkRows BList PLink PLinkL PLayB CValids CFind CSorted CNames CMiss CLayout CPlaceL CSymPl CApFix BCopy
theorem end_any(PA:Option Addr)(pn pc:Nat)(EA:Option Addr)(es:List RV)(ec:Nat)(x z:Int)(w:World)(hE:RdRs w w.heap.size EA es)(hl:es.length=3)(hz:(es.map RV.zs).getD 2 []=[x,z]):
  Calls Tryz.prog 55 #[.agg #[.slice PA pn pc,.slice EA es.length ec]] w (Ret (.int .i64 z) w):=by
 rw[hl];have HB:=h_ (show Below w.heap.size w (w.alloc (.cells #[.slice PA pn pc,.slice EA 3 ec] 84))from b_);have HX:=h_ (Box.new w 84 #[.slice PA pn pc,.slice EA 3 ec]);have h2:2<es.length:=by omega
 have hzs:(es[2]).zs=[x,z]:=by rw[List.getD_eq_getElem?_getD,List.getElem?_map,List.getElem?_eq_getElem h2]at hz;exact hz
 obtain⟨b1,o1,rfl,hb1,hrow⟩:=(hE.below HB.o).at h2;obtain⟨b2,o2,hA,hb2,hcell⟩:=((hE.below HB.o).2 _ (List.getElem_mem h2)).int (i:=1) (by rw[hzs];simp);rw[hA]at hrow;simp only[hzs,List.length_cons,List.length_nil,List.getElem_cons_succ,List.getElem_cons_zero]at hcell hrow;have x1:=d_ HX.o 1;have hxl:=HX.o.lt;generalize (es[2]).c=c2 at *;clear hz hzs hA hE h2;go_enter Tryz.func55,Tryz.ntmps55
 go_wp2_with fail
 go_ret;exact⟨rfl,HB.o⟩
theorem all_pl{os:List OV}{rs:List RV}{b:Int}(ho:objsOk (os.map OV.d)=true)(hb0:0<=b)(hb1:b<=4096)(hrs:rs.map RV.zs=(PLink.lay (os.map OV.d) b).2):AllPl rs os:=by
 intro k hk j hj;obtain⟨q1,q2,q3,q4⟩:=lay_bd ho hb0 hb1;rw[<-hrs]at q3;simp only[objsOk,Bool.and_eq_true,decide_eq_true_eq,List.all_eq_true]at ho;obtain⟨_,_,h3,h4,_⟩:=(obj_iff _).1 (ho.2 _ (List.mem_map_of_mem (List.getElem_mem hk)));have hy:=h4 _ (show(os[k]).ys[j]∈(os[k]).d.ys from List.getElem_mem hj);obtain⟨_,s2⟩:=sym_facts hy;refine⟨s2,λhn=>?_⟩;have hkl:k<(os.map OV.d).length:=by simpa using hk
 have hP:=hy;simp only[symOk,Bool.and_eq_true]at hP;have hP:=hP.2;unfold placeOk at hP;rw[if_neg hn]at hP;generalize (os[k]).ys[j]=y at *;by_cases h2:y.2.2.1=-2
 ·rw[if_pos h2]at hP;have:0<=y.2.2.2/\y.2.2.2<=60000:=by simpa[inB]using hP
  exact⟨.inl h2,this.1,this.2⟩
 ·rw[if_neg h2]at hP;simp only[Bool.and_eq_true,inB,decide_eq_true_eq]at hP;obtain⟨⟨w1,w2⟩,v1,v2⟩:=hP;have hil:y.2.2.1.toNat<(os[k]).d.ss.length:=by omega
  have hsz:=(sec_okk (h3 _ (List.getElem_mem hil))).1.1;have hge:(os[k]).d.ss.getD y.2.2.1.toNat ⟨ByteArray.empty,0,0,[],0,[]⟩=(os[k]).d.ss[y.2.2.1.toNat]:=by
   rw[List.getD_eq_getElem?_getD,List.getElem?_eq_getElem hil]
   rfl
  rw[hge]at v2;have hle:((os.map OV.d)[k]).ss=(os[k]).d.ss:=by simp
  have hil2:y.2.2.1.toNat<((os.map OV.d)[k]).ss.length:=by rw[hle];exact hil
  have hsec:=sec_at hkl hil2;obtain⟨p1,p2⟩:=q3 _ _ _ hsec;have hpl:=q4 k hkl _ hil2;rw[<-hrs]at hpl;simp only[List.length_map,List.getElem_map]at p1 p2;rw[getP_at p1 p2]at hpl;exact⟨.inr ⟨w1,p1,p2,by omega,by omega⟩,v1,by omega⟩
def RetL(r:RD)(w:World)(e:Ending)(w':World):Prop:=∃A c,e=.returned (.tuple #[.agg #[.int .i64 r.1,.slice A r.2.1.length c],.int .i64 r.2.2])/\Row w' w.heap.size 5 1 A r.2.1.length c (ints .u8 r.2.1)/\Below w.heap.size w w'
theorem ret_bad{w w':World}(code:Int)(h:Below w.heap.size w w'):RetL (0,[],code) w (.returned (.tuple #[.agg #[.int .i64 0,.slice none 0 0],.int .i64 code])) w':=⟨none,0,rfl,Row.empty _ _ _ _ _,h⟩
theorem ap_len{b b2:List Int}{place:Int}{f:FD}{t:Int}(h:apF b place f t=some b2):b2.length=b.length:=by
 unfold apF at h;split at h
 ·rename_i hc;cases hv:fixVal f.2.1 (place+f.1) t f.2.2.2 with
  |none=>rw[hv]at h;cases h
  |some v=>
   rw[hv]at h;injection h with h;subst h;have h1:0<=f.1/\f.1<=(b.length:Int)-wide f.2.1:=by simpa[inB]using hc.2.2
   have hw:=wide_bd f.2.1;exact sp_len (by rw[putL_len];omega)
 ·cases h
structure LK(w0:World)(L:Nat)(PA:Option Addr)(pc:Nat)(rs:List RV)(EA:Option Addr)(en ec:Nat)(I g N:Nat)(base:Int)(im:List Int)(w:World):Prop where
 row:w.ownsRow w0.heap.size 5 1 (.slice (some ⟨g,0,none⟩) N N) N (ints .u8 im)
 len:im.length=N
 bi:Box w I 36 #[.int .i64 base,.slice (some ⟨g,0,none⟩) N N]
 bl:Box w L 84 #[.slice PA rs.length pc,.slice EA en ec]
 br:Box w w0.heap.size 36 #[.int .i64 0,.slice none 0 0]
 hp:RdRs w L PA rs
 b:Below w0.heap.size w0 w
section
variable {w0 w w':World}{L:Nat}{PA:Option Addr}{pc:Nat}{rs:List RV}{EA:Option Addr}{en ec:Nat}{I g N:Nat}{base:Int}{im:List Int}
theorem LK.call (h:LK w0 L PA pc rs EA en ec I g N base im w)(hb:Below w.heap.size w w'):LK w0 L PA pc rs EA en ec I g N base im w':=
 ⟨own_call hb h.row,h.len,h.bi.call hb,h.bl.call hb,h.br.call hb,h.hp.below (hb.mono (Nat.le_of_lt h.bl.lt)),h.b.trans (hb.mono h.b.size)⟩
theorem LK.put (h:LK w0 L PA pc rs EA en ec I g N base im w)(hgL:L<g):∃cur:List Value,w.heap[g]?=some (.cells cur.toArray 5 (0,0))/\N<=cur.length/\∀(i:Nat) (zs:List Int),i+zs.length<=N→
  LK w0 L PA pc rs EA en ec I g N base (sp im i zs) (w.setRow g (Go.splice cur i (ints .u8 zs)).toArray):=by
 obtain⟨cur,hg,hgb,hn,hf⟩:=copied h.row;refine⟨cur,hg,hn,λi zs hi=>⟨hf i zs hi,by rw[sp_len (by rw[h.len];exact hi)];exact h.len,box_setRow h.bi hg (by decide) _,box_setRow h.bl hg (by decide) _,box_setRow h.br hg (by decide) _,?_,Go.below_setRow h.b hgb _⟩⟩;exact h.hp.below (Go.below_setRow (Below.refl L w) (Nat.le_of_lt hgL) _)
end
set_option maxHeartbeats 8000000 in
theorem link_any(A:Option Addr)(os:List OV)(c:Nat)(base:Int)(w:World)(hr:RdOs w w.heap.size A os)(hf:Fits os)(hn:∀o∈os,∀p∈o.ps,p.A=none->p.c=0):
  Calls Tryz.prog 14 #[.slice A os.length c,.int .i64 base] w (RetL (linkR (os.map OV.d) base) w):=by
 obtain⟨i0,hi1,hi2,hi3,hi4⟩:=info_parts CNumber.info8;have HI:=h_ (And.intro hi1 (And.intro hi2 (And.intro hi3 hi4)));clear hi1 hi2 hi3 hi4;have HR:=h_ hr;have HF:=h_ hf;have HN:=h_ hn;clear hr hf hn;have HB:=h_ (show Below w.heap.size w (w.alloc (.cells #[.int .i64 0,.slice none 0 0] 36))from b_);have HRR:=h_ (Box.new w 36 #[.int .i64 0,.slice none 0 0]);go_enter Tryz.func14,Tryz.ntmps14
 go_wp2_with fail
 generalize w.alloc (.cells #[.int .i64 0,.slice none 0 0] 36)=w0 at *;refine(layoutOf_any A os c base w0 ((HR.o.below HB.o).more HB.o.size) HF.o).mono ?_;rintro e w1 ⟨PA,pc,rs,EA,ec,es,rfl,hyes,hP,hE,b1⟩;have HYES:=h_ hyes;have HP:=h_ hP;have HE:=h_ hE;clear hyes hP hE;replace HB:=c_ HB b1;replace HRR:=h_ (HRR.o.call b1);clear b1;cases hok:(objsOk (os.map OV.d)&&baseOk base)
 ·have HV:=h_ (show linkR (os.map OV.d) base=(0,[],-1)from if_pos hok);clear hok;have ba:Below w1.heap.size w1 (w1.alloc (.cells #[.slice PA rs.length pc,.slice EA es.length ec] 84)):=b_;replace HB:=c_ HB ba;replace HRR:=h_ (HRR.o.call ba);clear ba;have y0:=d_ HRR.o 0;have y1:=d_ HRR.o 1;have yf0:=HRR.o.frozen 0;have yf1:=HRR.o.frozen 1;have hrl:=HRR.o.lt;have kk:=(HRR.o.set 0 (.int .i64 0)).set 1 (.slice none 0 0);have k0:=kk.cell 0;have k1:=kk.cell 1;simp only[k_]at k0 k1;clear kk;have HFB:=h_ (two_below (Y:=w.heap.size) HB.o (Nat.le_refl _) (.int .i64 0) (.slice none 0 0));go_wp2_with fail
  (try simp only[Exit.inBlock,Exit.then])
  exact bodyPost_ret (v:=.tuple #[.agg #[.int .i64 0,.slice none 0 0],.int .i64 (-1)]) (by simp[results,Tryz.results14,go_sem,k0,k1]) rfl (by rw[HV.o];exact ret_bad _ HFB.o)
 obtain⟨hrz,hel,xx,hend⟩:=HYES.o hok;clear HYES;have hok':=hok;rw[Bool.and_eq_true]at hok';obtain⟨ho,hbs⟩:=hok';have hb0:0<=base/\base<=4096:=by simp only[baseOk,Bool.and_eq_true,decide_eq_true_eq]at hbs;exact hbs.1
 obtain⟨hb1,hb2⟩:=hb0;have HPL:=h_ (all_pl ho hb1 hb2 hrz);have HEN:=h_ (And.intro hel hend);have HRZ:=h_ hrz;clear hel hend;obtain⟨g1,g2,g3,g4⟩:=lay_bd ho hb1 hb2;have HLB:=h_ (And.intro g3 g4);clear g3 g4;have HSM:=h_ (show Small os from by
  simp only[objsOk,Bool.and_eq_true,decide_eq_true_eq,List.all_eq_true,List.length_map]at ho;refine⟨ho.1,λo h=>?_⟩;obtain⟨_,h2,_⟩:=(obj_iff _).1 (ho.2 _ (List.mem_map_of_mem h));exact h2)
 have HAL:=h_ (show ∀o∈os,o.ps.length<=8/\∀p∈o.ps,p.fs.length<=6/\p.zs.length<=48/\∀f∈p.fs,0<=f.2.2.1/\f.2.2.1<o.ys.length from λo h=>by
  simp only[objsOk,Bool.and_eq_true,decide_eq_true_eq,List.all_eq_true,List.length_map]at ho;obtain⟨a1,_,a3⟩:=obj_all (ho.2 _ (List.mem_map_of_mem h));refine⟨by simpa[OV.d]using a1,λp hp=>?_⟩;obtain⟨c1,c2,c3⟩:=a3 p.d (List.mem_map_of_mem hp);exact⟨c1,c2,λf hf=>(c3 f hf).2⟩)
 have HLR:=h_ (show linkR (os.map OV.d) base=if 0<(twice (os.map OV.d)).length then(0,[],1)else if 0<(miss (os.map OV.d)).length then(0,[],2)else imgR base (image (os.map OV.d) base)from by
  unfold linkR;rw[if_neg (by rw[hok];decide)])
 clear hok ho hbs;have ba:Below w1.heap.size w1 (w1.alloc (.cells #[.slice PA rs.length pc,.slice EA es.length ec] 84)):=b_;have HL:=h_ (Box.new w1 84 #[.slice PA rs.length pc,.slice EA es.length ec]);replace HP:=h_ (HP.o.below ba);replace HE:=h_ (HE.o.below ba);have hRL:w.heap.size<w1.heap.size:=HRR.o.lt;replace HB:=c_ HB ba;replace HRR:=h_ (HRR.o.call ba);clear ba;go_wp2_with fail
 generalize w1.alloc (.cells #[.slice PA rs.length pc,.slice EA es.length ec] 84)=w2 at *;generalize w1.heap.size=L at *;refine(namesTwice_any A os c w2 ((HR.o.below HB.o).more HB.o.size) HSM.o).mono ?_;rintro e w3 ⟨A3,c3,rfl,_,b3⟩;have hLw:L<w2.heap.size:=HL.o.lt;have HTW:=h_ (srtN_pos (twice (os.map OV.d)));replace HP:=h_ (HP.o.below (b3.mono (Nat.le_of_lt hLw)));replace HE:=h_ (HE.o.below (b3.mono (Nat.le_of_lt hLw)));replace HB:=c_ HB b3;replace HRR:=h_ (HRR.o.call b3);replace HL:=h_ (HL.o.call b3);clear b3;clear hLw;by_cases ht:0<(twice (os.map OV.d)).length
 ·have HV:=h_ (show linkR (os.map OV.d) base=(0,[],1)from by rw[HLR.o,if_pos ht]);have et:decide (0<(srtN (twice (os.map OV.d))).length)=true:=decide_eq_true (HTW.o.2 ht);generalize (srtN (twice (os.map OV.d))).length=tn at *;clear ht;have y0:=d_ HRR.o 0;have y1:=d_ HRR.o 1;have yf0:=HRR.o.frozen 0;have yf1:=HRR.o.frozen 1;have hrl:=HRR.o.lt;have kk:=(HRR.o.set 0 (.int .i64 0)).set 1 (.slice none 0 0);have k0:=kk.cell 0;have k1:=kk.cell 1;simp only[k_]at k0 k1;clear kk;have HFB:=h_ (two_below (Y:=w.heap.size) HB.o (Nat.le_refl _) (.int .i64 0) (.slice none 0 0));go_wp2_with fail
  (try simp only[Exit.inBlock,Exit.then])
  exact bodyPost_ret (v:=.tuple #[.agg #[.int .i64 0,.slice none 0 0],.int .i64 1]) (by simp[results,Tryz.results14,go_sem,k0,k1]) rfl (by rw[HV.o];exact ret_bad _ HFB.o)
 have et:decide (0<(srtN (twice (os.map OV.d))).length)=false:=decide_eq_false (λh=>ht (HTW.o.1 h));rw[if_neg ht]at HLR;clear ht HTW;generalize (srtN (twice (os.map OV.d))).length=tn at *;go_wp2_with fail
 clear et;refine(namesMissing_any A os c w3 ((HR.o.below HB.o).more HB.o.size) HSM.o).mono ?_;rintro e w4 ⟨A4,c4,rfl,_,b4⟩;have hLw:L<w3.heap.size:=HL.o.lt;have HMI:=h_ (srtN_pos (miss (os.map OV.d)));replace HP:=h_ (HP.o.below (b4.mono (Nat.le_of_lt hLw)));replace HE:=h_ (HE.o.below (b4.mono (Nat.le_of_lt hLw)));replace HB:=c_ HB b4;replace HRR:=h_ (HRR.o.call b4);replace HL:=h_ (HL.o.call b4);clear b4;clear hLw;by_cases ht:0<(miss (os.map OV.d)).length
 ·have HV:=h_ (show linkR (os.map OV.d) base=(0,[],2)from by rw[HLR.o,if_pos ht]);have et:decide (0<(srtN (miss (os.map OV.d))).length)=true:=decide_eq_true (HMI.o.2 ht);generalize (srtN (miss (os.map OV.d))).length=mn at *;clear ht;have y0:=d_ HRR.o 0;have y1:=d_ HRR.o 1;have yf0:=HRR.o.frozen 0;have yf1:=HRR.o.frozen 1;have hrl:=HRR.o.lt;have kk:=(HRR.o.set 0 (.int .i64 0)).set 1 (.slice none 0 0);have k0:=kk.cell 0;have k1:=kk.cell 1;simp only[k_]at k0 k1;clear kk;have HFB:=h_ (two_below (Y:=w.heap.size) HB.o (Nat.le_refl _) (.int .i64 0) (.slice none 0 0));go_wp2_with fail
  (try simp only[Exit.inBlock,Exit.then])
  exact bodyPost_ret (v:=.tuple #[.agg #[.int .i64 0,.slice none 0 0],.int .i64 2]) (by simp[results,Tryz.results14,go_sem,k0,k1]) rfl (by rw[HV.o];exact ret_bad _ HFB.o)
 have et:decide (0<(srtN (miss (os.map OV.d))).length)=false:=decide_eq_false (λh=>ht (HMI.o.1 h));rw[if_neg ht]at HLR;clear ht HMI;generalize (srtN (miss (os.map OV.d))).length=mn at *;have y0:=d_ HL.o 0;have y1:=d_ HL.o 1;have hll:=HL.o.lt;go_wp2_with fail
 clear et y0 y1 hll;have hLw:L<w4.heap.size:=HL.o.lt;obtain⟨N,hN⟩:∃N:Nat,(PLink.lay (os.map OV.d) base).1=base+N:=⟨((PLink.lay (os.map OV.d) base).1-base).toNat,by omega⟩;have HNN:=h_ hN;have hN2:N<=10000:=by omega
 refine(end_any PA rs.length pc EA es ec xx (base+N) w4 (HE.o.more (Nat.le_of_lt hLw)) HEN.o.1 (by rw[<-HNN.o];exact HEN.o.2)).mono ?_;rintro e w5 ⟨rfl,b5⟩;replace HP:=h_ (HP.o.below (b5.mono (Nat.le_of_lt hLw)));replace HB:=c_ HB b5;replace HRR:=h_ (HRR.o.call b5);replace HL:=h_ (HL.o.call b5);clear b5;clear HE hLw;have HLI:=h_ (show ∀k i,(hk:k<os.length)->(hi:i<(os[k]).ps.length)->∃h:k<rs.length,∃h2:i<(rs[k]).zs.length,base<=(rs[k]).zs[i]/\(rs[k]).zs[i]<=base+N from λk i hk hi=>by
  have hkl:k<(os.map OV.d).length:=by simpa using hk
  have hil:i<((os.map OV.d)[k]).ss.length:=by simpa[OV.d]using hi
  have hpl:=HLB.o.2 k hkl i hil;have h3:=HLB.o.1;rw[<-HRZ.o]at h3 hpl;obtain⟨p1,p2⟩:=h3 _ _ _ (sec_at hkl hil);simp only[List.length_map,List.getElem_map]at p1 p2;rw[getP_at p1 p2,HNN.o]at hpl;exact⟨p1,p2,hpl⟩)
 have HT0:=h_ (show image (os.map OV.d) base=imO (os.map OV.d) (rs.map RV.zs) base 0 ((os.map OV.d).drop 0) (some (List.replicate N 0))from by
  unfold image;rw[HNN.o,HRZ.o,show(base+(N:Int)-base).toNat=N by omega]
  rfl)
 clear HLB hN HRZ HEN g1 g2 HNN hrz;have hwr:IntKind.i64.wrap (base+N-base)=(N:Int):=by rw[IntKind.wrap_i64];omega
 have y0:=d_ HL.o 0;have y1:=d_ HL.o 1;have hll:=HL.o.lt;go_wp2_with (at_make;refine wpList_make_full _ rfl _ _ _ rfl w.heap.size 5 i0 (.int .u8 0) 1 Tryz.underlying22 HI.o.1 HI.o.2.1 HI.o.2.2.1 .i64 .i64 _ _ N rfl rfl rfl rfl ?c1 ?c2 ?c3 ?_)
 case c1=>rw[HI.o.2.2.2];omega
 case c2=>unfold maxLen;omega
 case c3=>exact HB.o.size
 intro w6 hown hg;rw[zero_cells']at hown;have b6:Below w5.heap.size w5 w6:=below_grown (Below.refl _ _) hg (Nat.le_refl _) (λk hk=>by cases hk);have hLg:L<w5.heap.size:=HL.o.lt;have HOW:=h_ hown;replace HP:=h_ (HP.o.below (b6.mono (Nat.le_of_lt hLg)));replace HB:=c_ HB b6;replace HRR:=h_ (HRR.o.call b6);replace HL:=h_ (HL.o.call b6);clear b6;clear hown hg y0 y1 hll;generalize w5.heap.size=g at *;have hLgg:=h_ hLg;go_wp2_with fail
 have b7:Below w6.heap.size w6 (w6.alloc (.cells #[.int .i64 base,.slice (some ⟨g,0,none⟩) N N] 36)):=b_;have HK:=h_ (show LK w L PA pc rs EA es.length ec w6.heap.size g N base (List.replicate N 0) (w6.alloc (.cells #[.int .i64 base,.slice (some ⟨g,0,none⟩) N N] 36))from⟨own_call b7 HOW.o,by simp,Box.new _ _ _,HL.o.call b7,HRR.o.call b7,HP.o.below (b7.mono (Nat.le_of_lt HL.o.lt)),HB.o.trans (b7.mono HB.o.size)⟩);clear HOW HL HRR HP HB hwr b7;generalize w6.alloc (.cells #[.int .i64 base,.slice (some ⟨g,0,none⟩) N N] 36)=w7 at *;generalize w6.heap.size=I at *;generalize es.length=en at *;generalize hTT:image (os.map OV.d) base=T at *;generalize hLL:os.map OV.d=l at *;have HLL:=h_ hLL;clear hLL hTT;have hos4:os.length<=4:=HSM.o.1;go_loopw [52] (λi wi=>∃(k:Nat) (im:List Int),k<=os.length/\i=.int .i64 k/\T=imO l (rs.map RV.zs) base k (l.drop k) (some im)/\LK w L PA pc rs EA en ec I g N base im wi) (λi _=>os.length-(intOf i).toNat)
 case atStart=>exact⟨0,_,Nat.zero_le _,rfl,HT0.o,HK.o⟩
 case round=>
  clear HK HT0;obtain⟨k,im,hk,rfl,ht,hlk⟩:=hrel;have HK:=h_ hlk;by_cases hlt:k<os.length
  ·obtain⟨bb,off,hA,hbb,hc0,hc1⟩:=(HR.o.below hlk.b).at hlt;have hll:k<l.length:=by rw[<-HLL.o,List.length_map];exact hlt
   obtain⟨Gf,hGf⟩:∃Gf:Option (List Int)->Option (List Int),Gf=λx=>imO l (rs.map RV.zs) base (k+1) (l.drop (k+1)) x:=⟨_,rfl⟩;have HGN:=h_ (show Gf none=none from by rw[hGf];exact imO_none _ _ _ _ _);have HT:=h_ (show T=Gf (imS l (rs.map RV.zs) base k 0 ((os[k]).ps.map SV.d) (some im))from by
    rw[ht,imO_drop hll,hGf];have:=HLL.o;subst this;simp[OV.d])
   have HGF:=h_ hGf;have HAO:=h_ (HAL.o _ (List.getElem_mem hlt));have hps8:(os[k]).ps.length<=8:=HAO.o.1;have HIO:=h_ (λi (hi:i<(os[k]).ps.length)=>HLI.o k i hlt hi);have HSY:=h_ (λ(W:World) (hb:Below w.heap.size w W) (hw:RdRs W W.heap.size PA rs) (j:Nat) (hj:j<(os[k]).ys.length)=>symbolPlace_any PA rs pc EA en ec A os c k j W hw ((HR.o.below hb).more hb.size) hlt hj ⟨by have:=HSM.o.1;omega,λo ho=>by have:=HSM.o.2 o ho;omega⟩ HPL.o);have HRO:=h_ (HR.o.2 _ (List.getElem_mem hlt)).1;have HNO:=h_ (HN.o _ (List.getElem_mem hlt));clear hlk ht hGf;rw[HLL.o]at HSY;subst hA;generalize os[k]=o at *;go_wp2_with fail
   have B1:Below wr.heap.size wr (wr.alloc (.cells #[.slice o.A o.ps.length o.c,.slice o.Y o.ys.length o.yc] 26)):=b_;have HO:=h_ (Box.new wr 26 #[.slice o.A o.ps.length o.c,.slice o.Y o.ys.length o.yc]);replace HK:=h_ (HK.o.call B1);clear B1;generalize wr.alloc (.cells #[.slice o.A o.ps.length o.c,.slice o.Y o.ys.length o.yc] 26)=wa at *;generalize wr.heap.size=Z at *;clear hc0 hc1;have y0:=d_ HO.o 0;have hol:=HO.o.lt;go_wp2_with fail
   clear y0 hol HO;go_loopw [60] (λi wi=>∃(m:Nat) (im:List Int),m<=o.ps.length/\i=.int .i64 m/\T=Gf (imS l (rs.map RV.zs) base k m ((o.ps.map SV.d).drop m) (some im))/\LK w L PA pc rs EA en ec I g N base im wi) (λi _=>o.ps.length-(intOf i).toNat)
   case atStart=>exact⟨0,im,Nat.zero_le _,rfl,HT.o,HK.o⟩
   case round=>
    clear HK HT;obtain⟨m,im,hm,rfl,ht,hlk⟩:=hrel;have HK:=h_ hlk;by_cases hlm:m<o.ps.length
    ·obtain⟨b2,off2,hPA,hb2,hc⟩:=(HRO.o.1.below hlk.b).row secC_len (by decide) hlm;have hc0:=hc 0 _ rfl;have hc1:=hc 1 _ rfl;have hc2:=hc 2 _ rfl;have hc3:=hc 3 _ rfl;have hc4:=hc 4 _ rfl;have hc5:=hc 5 _ rfl;simp only[Nat.add_zero]at hc0;obtain⟨hkr,hmr,hp1,hp2⟩:=HIO.o m hlm;have HT:=h_ (show T=Gf (imS l (rs.map RV.zs) base k (m+1) ((o.ps.map SV.d).drop (m+1)) ((fill l (rs.map RV.zs) k ((rs[k]).zs[m]) (o.ps[m]).fs (some (o.ps[m]).zs)).map λb=>over im ((rs[k]).zs[m]-base).toNat b))from by
      rw[ht,imS_drop (by simpa using hlm),List.getElem_map,getP_at hkr hmr,Option.bind_some]
      rfl)
     have HAP:=h_ (HAO.o.2 _ (List.getElem_mem hlm));have HRP:=h_ (HRO.o.2 _ (List.getElem_mem hlm));have HNP:=h_ (HNO.o _ (List.getElem_mem hlm));obtain⟨pb,po,hPP,hpb,hrow⟩:=hlk.hp.at hkr;obtain⟨rb,ro,hRR,hrb,hcell⟩:=(hlk.hp.2 _ (List.getElem_mem hkr)).int hmr;have l0:=hlk.bl.cell 0;simp only[List.getElem?_toArray,List.getElem?_cons_zero]at l0;rw[hPP]at l0;have HPP:=h_ hPP;clear hPP;rw[hRR]at hrow;have hLl:=hlk.bl.lt;clear hlk ht hc hRR;rw[hPA];clear hPA;generalize o.ps[m]=p at *;generalize hpl:(rs[k]).zs[m]=pl at *;clear hpl;generalize (rs[k]).zs.length=rn at *;generalize (rs[k]).c=rc at *;have B1:Below wr.heap.size wr (wr.alloc (.cells #[.string p.nm,.int .i64 p.kd,.int .i64 p.al,.slice p.A p.zs.length p.c,.int .i64 p.sz,.slice p.F p.fs.length p.fc] 61)):=b_;have HS:=h_ (Box.new wr 61 #[.string p.nm,.int .i64 p.kd,.int .i64 p.al,.slice p.A p.zs.length p.c,.int .i64 p.sz,.slice p.F p.fs.length p.fc]);replace HK:=h_ (HK.o.call B1);replace l0:=(B1.cell (p:=⟨L,0,none⟩) hLl).trans l0;replace hrow:=(B1.cell (p:=⟨pb,po+k,none⟩) (show pb<wr.heap.size by omega)).trans hrow;replace hcell:=(B1.cell (p:=⟨rb,ro+m,none⟩) (show rb<wr.heap.size by omega)).trans hcell;clear B1;go_wp2_with fail
     clear hc0 hc1 hc2 hc3 hc4 hc5;generalize wr.alloc (.cells #[.string p.nm,.int .i64 p.kd,.int .i64 p.al,.slice p.A p.zs.length p.c,.int .i64 p.sz,.slice p.F p.fs.length p.fc] 61)=ws at *;generalize wr.heap.size=S at *;have s3:=d_ HS.o 3;have s5:=d_ HS.o 5;have hsl:=HS.o.lt;have hkr':k<rs.length:=hkr
     go_quiet (fail)
     have bd:Below ws.heap.size ws (ws.drewN nq):=below_dn (Below.refl _ _);replace HK:=h_ (HK.o.call bd);replace HS:=h_ (HS.o.call bd);clear bd s3 s5 hsl l0 hrow hcell;generalize ws.drewN nq=wt at *;clear nq;have s5:=d_ HS.o 5;have hsl:=HS.o.lt;go_wp2_with fail
     clear s5 hsl;generalize hF:fill l (rs.map RV.zs) k pl p.fs (some p.zs)=F at *;have hfl6:p.fs.length<=6:=HAP.o.1;have HF0:=h_ (show F=fill l (rs.map RV.zs) k pl (p.fs.drop 0) (some p.zs)from hF.symm);clear hF;go_loopw [13,78] (λbv i wi=>∃(q:Nat) (b:List Int) (Ab:Option Addr) (cb:Nat),q<=p.fs.length/\bv=.slice Ab b.length cb/\i=.int .i64 q/\F=fill l (rs.map RV.zs) k pl (p.fs.drop q) (some b)/\b.length=p.zs.length/\Rd wi wi.heap.size Ab (ints .u8 b)/\(Ab=none->cb=0)/\Box wi S 61 #[.string p.nm,.int .i64 p.kd,.int .i64 p.al,.slice p.A p.zs.length p.c,.int .i64 p.sz,.slice p.F p.fs.length p.fc]/\LK w L PA pc rs EA en ec I g N base im wi) (λ_ i _=>p.fs.length-(intOf i).toNat)
     case atStart=>exact⟨0,p.zs,p.A,p.c,Nat.zero_le _,rfl,rfl,HF0.o,rfl,(HRP.o.1.below HK.o.b).more HK.o.b.size,HNP.o,HS.o,HK.o⟩
     case round=>
      clear HK HS HF0;obtain⟨q,b,Ab,cb,hq,rfl,rfl,hfl,hbl,hrd,hnil,hs,hlk⟩:=hrel;have HK:=h_ hlk;have HS:=h_ hs;have HRD:=h_ hrd;have HBL:=h_ hbl;have HNB:=h_ hnil;by_cases hlq:q<p.fs.length
      ·obtain⟨b3,off3,hFA,hb3,hd⟩:=(HRP.o.2.below hlk.b).row fixupC_len (by decide) hlq;have hd0:=hd 0 _ rfl;have hd1:=hd 1 _ rfl;have hd2:=hd 2 _ rfl;have hd3:=hd 3 _ rfl;simp only[Nat.add_zero]at hd0;have HFL:=h_ (show F=fill l (rs.map RV.zs) k pl (p.fs.drop (q+1)) (apF b pl (p.fs[q]) (symPl l (rs.map RV.zs) k (p.fs[q]).2.2.1.toNat))from by
        rw[hfl,fill_drop hlq]
        rfl)
       obtain⟨hf0,hf1⟩:=HAP.o.2.2 _ (List.getElem_mem hlq);have hLl:=hlk.bl.lt;clear hlk hs hrd hbl hnil hfl hd;rw[hFA];have HFA:=h_ hFA;clear hFA;generalize p.fs[q]=f at *;obtain⟨f1,f2,f3,f4⟩:=f;simp only at hd0 hd1 hd2 hd3 hf0 hf1 HFL;obtain⟨j,rfl⟩:∃j:Nat,f3=(j:Int):=⟨f3.toNat,by omega⟩;have hjl:j<o.ys.length:=by omega
       simp only[Int.toNat_natCast]at HFL;have B1:Below wr.heap.size wr (wr.alloc (.cells #[.int .i64 f1,.int .i64 f2,.int .i64 j,.int .i64 f4] 65)):=b_;have HX:=h_ (Box.new wr 65 #[.int .i64 f1,.int .i64 f2,.int .i64 j,.int .i64 f4]);replace HRD:=h_ ((HRD.o.below B1).more B1.size);replace HK:=h_ (HK.o.call B1);replace HS:=h_ (HS.o.call B1);clear B1;have l0:=d_ HK.o.bl 0;have l1:=d_ HK.o.bl 1;have hLl2:=HK.o.bl.lt;go_wp2_with fail
       clear hd0 hd1 hd2 hd3 l0 l1 hLl2 hLl;generalize wr.alloc (.cells #[.int .i64 f1,.int .i64 f2,.int .i64 j,.int .i64 f4] 65)=wx at *;generalize wr.heap.size=Xf at *;refine(HSY.o wx HK.o.b (HK.o.hp.more (Nat.le_of_lt HK.o.bl.lt)) j hjl).mono ?_;rintro e w9 ⟨ok1,rfl,b9⟩;replace HRD:=h_ ((HRD.o.below b9).more b9.size);replace HK:=h_ (HK.o.call b9);replace HS:=h_ (HS.o.call b9);replace HX:=h_ (HX.o.call b9);clear b9;generalize symPl l (rs.map RV.zs) k j=tv at *;have x0:=d_ HX.o 0;have x1:=d_ HX.o 1;have x2:=d_ HX.o 2;have x3:=d_ HX.o 3;have hxl:=HX.o.lt;go_wp2_with fail
       clear x0 x1 x2 x3 hxl HX;refine(applyFixup_any Ab b cb pl (f1,f2,(j:Int),f4) tv w9 HRD.o (by have:=HBL.o;have:=HAP.o.2.1;omega) HNB.o).mono ?_;rintro e w10 ⟨A10,c10,n10,rfl,b10,hres⟩;have HRES:=h_ hres;clear hres;replace HK:=h_ (HK.o.call b10);replace HS:=h_ (HS.o.call b10);have hb10:w.heap.size<=w9.heap.size->True:=λ_=>trivial;generalize hap:apF b pl (f1,f2,(j:Int),f4) tv=r at *;have HAPF:=h_ hap;clear hap b10 hb10 HRD HNB;cases r with
       |none=>
        have HV:=h_ (show linkR l base=(0,[],3)from by
         rw[HLR.o];have e1:T=none:=by rw[HT.o,HFL.o,fill_none,Option.map_none,imS_none,HGN.o]
         rw[e1]
         rfl)
        have y0:=HK.o.br.cell 0;have y1:=HK.o.br.cell 1;have yf0:=HK.o.br.frozen 0;have yf1:=HK.o.br.frozen 1;have hrl:=HK.o.br.lt;have kk:=(HK.o.br.set 0 (.int .i64 0)).set 1 (.slice none 0 0);have k0:=kk.cell 0;have k1:=kk.cell 1;simp only[k_]at k0 k1 y0 y1;clear kk;have HFB:=h_ (two_below (Y:=w.heap.size) HK.o.b (Nat.le_refl _) (.int .i64 0) (.slice none 0 0));simp only[Option.isSome];clear HT HFL;go_wp2_with fail
        (try simp only[Exit.inBlock,Exit.then])
        exact bodyPost_ret (v:=.tuple #[.agg #[.int .i64 0,.slice none 0 0],.int .i64 3]) (by simp[results,Tryz.results14,go_sem,k0,k1]) rfl (by rw[HV.o];exact ret_bad _ HFB.o)
       |some b2=>
        obtain⟨hn10,hrow10⟩:=HRES.o b2 rfl;have HR10:=h_ hrow10;have HL2:=h_ ((ap_len HAPF.o).trans HBL.o);have HN10:=h_ hn10;clear hn10 hrow10 HRES HAPF HBL;simp only[Option.isSome];go_wp2_with fail
        refine⟨⟨q+1,b2,A10,c10,by omega,by rw[HN10.o],by go_num,HFL.o,HL2.o,HR10.o.rd,HR10.o.nil,(by have h:=HS.o;rw[HFA.o]at h;exact h),HK.o⟩,by simp[intOf];omega⟩
      ·obtain rfl:q=p.fs.length:=by omega
       have HFS:=h_ (show F=some b from by
        rw[hfl,List.drop_of_length_le (Nat.le_refl _)]
        rfl)
       clear hfl hlk hs hrd hbl hnil HRP HNP HSY;obtain⟨off9,hoff⟩:∃off9:Nat,pl=base+off9:=⟨(pl-base).toNat,by omega⟩;subst hoff;have hoN:off9<=N:=by omega
       have HT2:=h_ (show T=Gf (imS l (rs.map RV.zs) base k (m+1) ((o.ps.map SV.d).drop (m+1)) (some (over im off9 b)))from by
        rw[HT.o,HFS.o,show(base+(off9:Int)-base).toNat=off9 by omega]
        rfl)
       have hwo:IntKind.i64.wrap (base+off9-base)=(off9:Int):=by rw[IntKind.wrap_i64];omega
       have i1:=d_ HK.o.bi 1;have hil:=HK.o.bi.lt;have himl:=HK.o.len;have HIM:=h_ himl;clear himl HT HF HFS;by_cases hne:off9=N
       ·subst hne;have HOV:=h_ (show over im off9 b=im from by
         unfold over;rw[HIM.o,Nat.sub_self,List.take_zero];simp[sp])
        have HZ9:=h_ (show Nat.min b.length 0=0 from Nat.min_zero _);rw[HOV.o]at HT2;have hrun:=run_copy_zero (P:=Tryz.prog) wr 22 22 3 5 (some ⟨g,0,none⟩) Ab 0 0 b.length cb Tryz.underlying22 (by kernel_rfl) HZ9.o;go_wp2_with fail
        refine⟨⟨m+1,im,by omega,by go_num,HT2.o,HK.o⟩,by simp[intOf];omega⟩
       have hne2:¬N=off9:=λe=>hne e.symm;by_cases hz:b.length=0
       ·have HOV:=h_ (show over im off9 b=im from by
         obtain rfl:=List.eq_nil_of_length_eq_zero hz;simp[over,sp])
        have HZ9:=h_ (show Nat.min b.length (N-off9)=0 from by rw[hz];exact Nat.zero_min _);clear hz hne;rw[HOV.o]at HT2;have hrun:=run_copy_zero (P:=Tryz.prog) wr 22 22 3 5 (some ⟨g,off9,none⟩) Ab (N-off9) (N-off9) b.length cb Tryz.underlying22 (by kernel_rfl) HZ9.o;go_wp2_with fail
        refine⟨⟨m+1,im,by omega,by go_num,HT2.o,HK.o⟩,by simp[intOf];omega⟩
       ·have hbp:0<b.length:=by omega
        obtain⟨cur,hgv,hcn,hput⟩:=HK.o.put hLgg.o;have hml:(b.take (im.length-off9)).length=Nat.min b.length (N-off9):=by
         rw[HIM.o,List.length_take,Nat.min_comm];try rfl
        have hml2:off9+(b.take (im.length-off9)).length<=N:=by rw[hml];have hmr:Nat.min b.length (N-off9)<=N-off9:=Nat.min_le_right _ _;omega
        have hlk2:=hput off9 (b.take (im.length-off9)) hml2;obtain⟨bz,offz,hAb,hbz,hsrc⟩:=rd_addr HRD.o hbp;have hrun:=run_copy_row (P:=Tryz.prog) wr 22 22 3 5 g off9 (N-off9) (N-off9) ⟨bz,offz,none⟩ b.length cb cur.toArray 5 (ints .u8 (b.take (im.length-off9))) Tryz.underlying22 (by kernel_rfl) hgv (by rw[<-hml];simp) (λj v hj=>hsrc j v (by
         rw[ints,List.getElem?_map]at hj ⊢;cases hq2:(b.take (im.length-off9))[j]? with
         |none=>rw[hq2]at hj;cases hj
         |some y=>
          have hlt2:=(List.getElem?_eq_some_iff.1 hq2).1;rw[List.length_take]at hlt2;rw[List.getElem?_take_of_lt (by omega)]at hq2;rw[hq2];rw[List.getElem?_take_of_lt (by omega),hq2]at hj;exact hj)) (by simp only[ints,List.length_map,List.size_toArray];omega) oneI
        have HK2:=h_ (show LK w L PA pc rs EA en ec I g N base (over im off9 b) (wr.setRow g ((cur.toArray.toList.take off9++ints .u8 (b.take (im.length-off9))++cur.toArray.toList.drop (off9+(ints .u8 (b.take (im.length-off9))).length)).toArray))from by
         have e:(cur.toArray.toList.take off9++ints .u8 (b.take (im.length-off9))++cur.toArray.toList.drop (off9+(ints .u8 (b.take (im.length-off9))).length))=Go.splice cur off9 (ints .u8 (b.take (im.length-off9))):=by simp[Go.splice]
         rw[e];exact hlk2)
        generalize wr.setRow g ((cur.toArray.toList.take off9++ints .u8 (b.take (im.length-off9))++cur.toArray.toList.drop (off9+(ints .u8 (b.take (im.length-off9))).length)).toArray)=w9 at *;generalize (ints IntKind.u8 (b.take (im.length-off9))).length=cn at *;subst hAb;clear hput hgv hcn hml hml2 hlk2 hsrc hz hne HRD;go_wp2_with fail
        refine⟨⟨m+1,over im off9 b,by omega,by go_num,HT2.o,HK2.o⟩,by simp[intOf];omega⟩
    ·have hme:m=o.ps.length:=by omega
     subst hme;have HT2:=h_ (show T=imO l (rs.map RV.zs) base (k+1) (l.drop (k+1)) (some im)from by
      rw[ht,List.drop_of_length_le (by simp),HGF.o]
      rfl)
     clear ht hlk;go_wp2_with fail
     refine⟨⟨k+1,im,by omega,by go_num,HT2.o,HK.o⟩,by simp[intOf];omega⟩
  ·have hke:k=os.length:=by omega
   subst hke;have HV:=h_ (show linkR l base=(base,im,0)from by
    rw[HLR.o,ht,List.drop_of_length_le (by rw[<-HLL.o];simp)]
    rfl)
   have i0':=HK.o.bi.cell 0;have i1':=HK.o.bi.cell 1;have y0:=HK.o.br.cell 0;have y1:=HK.o.br.cell 1;have yf0:=HK.o.br.frozen 0;have yf1:=HK.o.br.frozen 1;have hrl:=HK.o.br.lt;have hil:=HK.o.bi.lt;have kk:=(HK.o.br.set 0 (.int .i64 base)).set 1 (.slice (some ⟨g,0,none⟩) N N);have k0:=kk.cell 0;have k1:=kk.cell 1;simp only[k_]at k0 k1 y0 y1 i0' i1';clear kk;have HIM:=h_ HK.o.len;have HFB:=h_ (show RetL (base,im,0) w (.returned (.tuple #[.agg #[.int .i64 base,.slice (some ⟨g,0,none⟩) N N],.int .i64 0])) ((wr.setCell ⟨w.heap.size,0,none⟩ (.int .i64 base)).setCell ⟨w.heap.size,1,none⟩ (.slice (some ⟨g,0,none⟩) N N))from by
    refine⟨some ⟨g,0,none⟩,N,by rw[HIM.o],?_,two_below (Y:=w.heap.size) HK.o.b (Nat.le_refl _) _ _⟩;have r0:Row wr w.heap.size 5 1 (some ⟨g,0,none⟩) N N (ints .u8 im):=.inr HK.o.row;have r1:=(r0.set (a:=⟨w.heap.size,0,none⟩) (λj hj=>r0.box HK.o.br (by decide) j hj) (.int .i64 base));have r2:=(r1.set (a:=⟨w.heap.size,1,none⟩) (λj hj=>r0.box HK.o.br (by decide) j hj) (.slice (some ⟨g,0,none⟩) N N));simp only[HIM.o];exact r2)
   clear ht hlk;go_wp2_with fail
   (try simp only[Exit.inBlock,Exit.then])
   exact bodyPost_ret (v:=.tuple #[.agg #[.int .i64 base,.slice (some ⟨g,0,none⟩) N N],.int .i64 0]) (by simp[results,Tryz.results14,go_sem,k0,k1]) rfl (by rw[HV.o];exact HFB.o)
end CLink
/- A desk: its words,its answers; plain. -/
namespace PDesk
open Kit CCode CName CFixups CSymbols PObj PValid PClear PLink PNum PDump PJoin
def joinT:List UInt8:=[106,111,105,110]
def loadT:List UInt8:=[108,111,97,100]
def linkT:List UInt8:=[108,105,110,107]
def findT:List UInt8:=[102,105,110,100]
def noT:List UInt8:=[110,111]
def okT:List UInt8:=[111,107]
def whatT:List UInt8:=[119,104,97,116]
def twiceT:List UInt8:=[116,119,105,99,101]
def missT:List UInt8:=[109,105,115,115,105,110,103]
def rangeT:List UInt8:=[114,97,110,103,101]
def emptyT:List UInt8:=[101,109,112,116,121]
def no32(c:UInt8):Bool:=c != 32
def cutW(s:List UInt8):List UInt8:=s.takeWhile no32
def cutR(s:List UInt8):List UInt8:=(s.dropWhile no32).drop 1
theorem cut_none{s:List UInt8}(h:(32:UInt8)∉s):cutW s=s/\cutR s=[]:=by have hp:∀c∈s,no32 c=true:=λc hc=>bne_iff_ne.2 (λe=>h (e▸hc));have h1:=List.takeWhile_append_of_pos (p:=no32) (l₁:=s) (l₂:=[]) hp;have h2:=List.dropWhile_append_of_pos (p:=no32) (l₁:=s) (l₂:=[]) hp;rw[List.append_nil]at h1 h2;refine⟨by rw[cutW,h1];simp,by rw[cutR,h2];simp⟩
theorem cut_at{x r:List UInt8}(h:(32:UInt8)∉x):cutW (x++32::r)=x/\cutR (x++32::r)=r:=by
 have hp:∀c∈x,no32 c=true:=λc hc=>bne_iff_ne.2 (λe=>h (e▸hc));refine⟨?_,?_⟩
 ·rw[cutW,List.takeWhile_append_of_pos hp];simp[no32]
 ·rw[cutR,List.dropWhile_append_of_pos hp];simp[no32]
theorem lib_cut(s:List UInt8):(Lib.cut s [32]).1=cutW s/\(Lib.cut s [32]).2.1=cutR s:=by
 rcases cut_or 32 s with h|⟨x,r,rfl,h⟩
 ·obtain⟨e1,e2⟩:=cut_none h;rw[e1,e2];unfold Lib.cut;simp[index_none h]
 ·obtain⟨e1,e2⟩:=cut_at (r:=r) h;rw[e1,e2];unfold Lib.cut;simp only[index_cut h r];simp
def codeA(r:RD):List UInt8:=
 if r.2.2=1 then twiceT else if r.2.2=2 then missT else if r.2.2=3 then rangeT else if ¬r.2.2=0 then noT else if r.2.1.length=0 then emptyT else hexL r.2.1
def linkI(l:List OD)(t:List UInt8):List UInt8:=match canon t with
 |some b=>codeA (linkR l b)
 |none=>noT
def linkS(l:List OD)(t:List UInt8):List UInt8:=codeA (linkR l (rdN t))
theorem link_no{l:List OD}{b:Int}(h:baseOk b=false):codeA (linkR l b)=noT:=by
 unfold linkR;rw[h,Bool.and_false,if_pos rfl]
 rfl
theorem link_same(l:List OD)(t:List UInt8):linkI l t=linkS l t:=by
 unfold linkI linkS;cases hc:canon t with
 |some b=>
  have he:=canon_some hc;show codeA (linkR l b)=_
  cases hb:baseOk b
  ·rw[link_no hb];rcases rdN_cases t with h|h
   ·rw[h,link_no (by decide)]
   ·by_cases hr:baseOk (rdN t)=true
    ·have h1:rdN t=b:=by have h2:=rdV_itoa b;rw[he,<-h,rdV_itoa]at h2;exact h2
     rw[h1,hb]at hr;cases hr
    ·rw[Bool.not_eq_true]at hr;rw[link_no hr]
  ·have hb':0<=b/\b<=4096:=by simp only[baseOk,Bool.and_eq_true,decide_eq_true_eq]at hb;exact hb.1
   rw[<-he,rdN_itoa (by omega) (by omega)]
 |none=>
  show noT=_
  rcases rdN_cases t with h|h
  ·rw[h,link_no (by decide)]
  ·by_cases hr:baseOk (rdN t)=true
   ·have hb':0<=rdN t/\rdN t<=4096:=by simp only[baseOk,Bool.and_eq_true,decide_eq_true_eq]at hr;exact hr.1
    rw[<-h,canon_itoa (by omega) (by omega)]at hc;cases hc
   ·rw[Bool.not_eq_true]at hr;rw[link_no hr]
def findA(l:List OD)(t:List UInt8):List UInt8:=match findN l (bs t)with
 |some g=>Lib.itoa g.1++46::Lib.itoa g.2
 |none=>noT
abbrev DA:=List OD×List UInt8
def joinA(l:List OD):DA:=match joinAll l with
 |some o=>([o],okT)
 |none=>(l,noT)
def loadA(l:List OD)(t:List UInt8):DA:=match readI (splt 124 t)with
 |some o=>if l.length=4 then(l,noT)else(l++[o],okT)
 |none=>(l,noT)
def deskA(l:List OD)(s:List UInt8):DA:=
 if objsOk l=false then([],[])
 else if s=joinT then joinA l
 else if cutR s=[]then(l,whatT)
 else if cutW s=loadT then loadA l (cutR s)
 else if cutW s=linkT then(l,linkI l (cutR s))
 else if cutW s=findT then(l,findA l (cutR s))
 else(l,whatT)
def runStep(st:List OD×List (List UInt8))(s:List UInt8):List OD×List (List UInt8):=((deskA st.1 s).1,st.2++[(deskA st.1 s).2])
def runs(l:List OD)(ls:List (List UInt8)):List OD×List (List UInt8):=ls.foldl runStep (l,[])
def runA(l:List OD)(ls:List (List UInt8)):List OD×List (List UInt8):=if objsOk l=true/\ls.length<=20 then runs l ls else([],[])
theorem code_ne(r:RD):codeA r≠[]:=by
 unfold codeA;split
 ·decide
 split
 ·decide
 split
 ·decide
 split
 ·decide
 split
 ·decide
 ·rename_i h;intro hh;have:=congrArg List.length hh;rw[hexL_len]at this;exact h (by have h2:([]:List UInt8).length=0:=rfl;omega)
theorem linkI_ne(l:List OD)(t:List UInt8):linkI l t≠[]:=by
 unfold linkI;split
 ·exact code_ne _
 ·decide
theorem no_ne:noT≠[]:=by decide
theorem ok_ne:okT≠[]:=by decide
theorem what_ne:whatT≠[]:=by decide
theorem desk_valid{l:List OD}(h:objsOk l=true)(s:List UInt8):objsOk (deskA l s).1=true/\(deskA l s).2≠[]/\((deskA l s).2=okT\/(deskA l s).1=l):=by
 have hl:=h;simp only[objsOk,Bool.and_eq_true,decide_eq_true_eq]at hl;unfold deskA;rw[if_neg (by rw[h];decide)];split
 ·unfold joinA;cases hj:joinAll l with
  |none=>exact⟨h,no_ne,.inr rfl⟩
  |some o=>exact⟨by simp[objsOk,joinAll_ok hj],ok_ne,.inl rfl⟩
 split
 ·exact⟨h,what_ne,.inr rfl⟩
 split
 ·unfold loadA;cases hj:readI (splt 124 (cutR s))with
  |none=>exact⟨h,no_ne,.inr rfl⟩
  |some o=>
   simp only;split
   ·exact⟨h,no_ne,.inr rfl⟩
   ·refine⟨?_,ok_ne,.inl rfl⟩;simp only[objsOk,Bool.and_eq_true,decide_eq_true_eq,List.length_append,List.length_singleton,List.all_append,List.all_cons,List.all_nil,Bool.and_true];exact⟨by omega,hl.2,(readI_some hj).1⟩
 split
 ·exact⟨h,linkI_ne _ _,.inr rfl⟩
 split
 ·refine⟨h,?_,.inr rfl⟩;unfold findA;split
  ·simp
  ·exact no_ne
 ·exact⟨h,what_ne,.inr rfl⟩
theorem runs_app(l:List OD)(a b:List (List UInt8)):runs l (a++b)=((runs (runs l a).1 b).1,(runs l a).2++(runs (runs l a).1 b).2):=by
 have key:∀(b:List (List UInt8)) (x:List OD) (o:List (List UInt8)),b.foldl runStep (x,o)=((b.foldl runStep (x,[])).1,o++(b.foldl runStep (x,[])).2):=by
  intro b;induction b with
  |nil=>intro x o;simp
  |cons s b ih=>intro x o;rw[List.foldl_cons,List.foldl_cons,show runStep (x,o) s=((deskA x s).1,o++[(deskA x s).2])from rfl,show runStep (x,[]) s=((deskA x s).1,[(deskA x s).2])from rfl,ih _ (o++_),ih _ [_]];simp
 unfold runs;rw[List.foldl_append];exact key b _ _
theorem runs_valid:∀(ls:List (List UInt8)) {l:List OD},objsOk l=true->objsOk (runs l ls).1=true/\(runs l ls).2.length=ls.length
 |[],l,h=>⟨h,rfl⟩
 |s::ls,l,h=>by
  have h1:=(desk_valid h s).1;obtain⟨h2,h3⟩:=runs_valid ls h1;rw[show s::ls=[s]++ls from rfl,runs_app];refine⟨h2,?_⟩;rw[List.length_append];show([]++[(deskA l s).2]).length+(runs (deskA l s).1 ls).2.length=_
  rw[h3];simp;omega
end PDesk
/- The bytes of images and joined objects are bytes; how long images are; plain. -/
namespace PLinkIn
open Kit CCode CName CNumber CFixups CSymbols PObj PValid PClear PSort PLink PLinkL PNum PDump PJoin PDesk PLayB
theorem apF_in{b b2:List Int}{place:Int}{f:FD}{t:Int}(h:InR 0 255 b)(e:apF b place f t=some b2):InR 0 255 b2:=by
 unfold apF at e;split at e
 ·obtain⟨v,_,rfl⟩:=Option.map_eq_some_iff.1 e;exact sp_in h (putL_bd _ _)
 ·cases e
theorem fill_in{l:List OD}{P:List (List Int)}{k:Nat}{place:Int}:∀{fs:List FD} {b:Option (List Int)} {b2:List Int},(∀x,b=some x->InR 0 255 x)->fill l P k place fs b=some b2->InR 0 255 b2
 |[],b,b2,h,e=>h b2 e
 |f::fs,b,b2,h,e=>by rw[fill]at e;refine fill_in (fs:=fs) (λx hx=>?_) e;obtain⟨y,hy,hx⟩:=Option.bind_eq_some_iff.1 hx;exact apF_in (h y hy) hx
theorem over_in{im b:List Int}{i:Nat}(h:InR 0 255 im)(hb:InR 0 255 b):InR 0 255 (over im i b):=by unfold over;exact sp_in h (λx hx=>hb x (List.mem_of_mem_take hx))
theorem imS_in{l:List OD}{P:List (List Int)}{base:Int}{k:Nat}:∀{ss:List SD} {i:Nat} {im:Option (List Int)} {im2:List Int},(∀x,im=some x->InR 0 255 x)->(∀s∈ss,InR 0 255 s.zs)->imS l P base k i ss im=some im2->InR 0 255 im2
 |[],_,_,im2,h,_,e=>h im2 e
 |s::ss,i,im,im2,h,hs,e=>by rw[imS]at e;refine imS_in (ss:=ss) (λx hx=>?_) (λt ht=>hs t (List.mem_cons_of_mem _ ht)) e;obtain⟨y,hy,hx⟩:=Option.bind_eq_some_iff.1 hx;obtain⟨b,hb,rfl⟩:=Option.map_eq_some_iff.1 hx;refine over_in (h y hy) (fill_in (λz hz=>?_) hb);injection hz with hz;subst hz;exact hs s List.mem_cons_self
theorem imO_in{l:List OD}{P:List (List Int)}{base:Int}:∀{ds:List OD} {k:Nat} {im:Option (List Int)} {im2:List Int},(∀x,im=some x->InR 0 255 x)->(∀d∈ds,InD d)->imO l P base k ds im=some im2->InR 0 255 im2
 |[],_,_,im2,h,_,e=>h im2 e
 |d::ds,k,im,im2,h,hd,e=>by rw[imO]at e;exact imO_in (ds:=ds) (λx hx=>imS_in h (hd d List.mem_cons_self) hx) (λt ht=>hd t (List.mem_cons_of_mem _ ht)) e
theorem link_in{l:List OD}{base:Int}(h:∀d∈l,InD d):InR 0 255 (linkR l base).2.1:=by
 have hn:InR 0 255 []:=λx hx=>by cases hx
 unfold linkR;split
 ·exact hn
 split
 ·exact hn
 split
 ·exact hn
 ·cases hi:image l base with
  |none=>exact hn
  |some im=>refine imO_in (λx hx=>?_) h hi;injection hx with hx;subst hx;intro y hy;rw[List.eq_of_mem_replicate hy];omega
theorem join_in{a b x:OD}(ha:InD a)(hb:InD b)(e:joinD a b=some x):InD x:=by
 unfold joinD at e;split at e
 ·injection e with e;subst e;intro s hs;rcases List.mem_append.1 hs with hs|hs
  ·exact ha s hs
  ·obtain⟨t,ht,rfl⟩:=List.mem_map.1 hs;exact hb t ht
 ·cases e
theorem joins_in:∀{es:List OD} {d x:OD},InD d->(∀e∈es,InD e)->joins d es=some x->InD x
 |[],d,x,h,_,e=>by injection e with e;subst e;exact h
 |b::es,d,x,h,hb,e=>by obtain⟨y,hy,e⟩:=Option.bind_eq_some_iff.1 e;exact joins_in (join_in h (hb b List.mem_cons_self) hy) (λz hz=>hb z (List.mem_cons_of_mem _ hz)) e
theorem joinAll_in{l:List OD}{x:OD}(h:∀d∈l,InD d)(e:joinAll l=some x):InD x:=by
 cases l with
 |nil=>cases e
 |cons d ds=>
  by_cases hc:objsOk (d::ds)=true
  ·rw[joinAll,if_pos hc]at e;exact joins_in (h d List.mem_cons_self) (λz hz=>h z (List.mem_cons_of_mem _ hz)) e
  ·rw[joinAll,if_neg hc]at e;cases e
theorem over_len(im:List Int)(i:Nat)(b:List Int):(over im i b).length=im.length:=by unfold over sp;simp only[List.length_append,List.length_take,List.length_drop];omega
theorem imS_len{l:List OD}{P:List (List Int)}{base:Int}{k n:Nat}:∀{ss:List SD} {i:Nat} {im:Option (List Int)} {im2:List Int},(∀x,im=some x->x.length=n)->imS l P base k i ss im=some im2->im2.length=n
 |[],_,_,im2,h,e=>h im2 e
 |s::ss,i,im,im2,h,e=>by rw[imS]at e;refine imS_len (ss:=ss) (λx hx=>?_) e;obtain⟨y,hy,hx⟩:=Option.bind_eq_some_iff.1 hx;obtain⟨b,hb,rfl⟩:=Option.map_eq_some_iff.1 hx;rw[over_len];exact h y hy
theorem imO_len{l:List OD}{P:List (List Int)}{base:Int}{n:Nat}:∀{ds:List OD} {k:Nat} {im:Option (List Int)} {im2:List Int},(∀x,im=some x->x.length=n)->imO l P base k ds im=some im2->im2.length=n
 |[],_,_,im2,h,e=>h im2 e
 |d::ds,k,im,im2,h,e=>by rw[imO]at e;exact imO_len (ds:=ds) (λx hx=>imS_len h hx) e
theorem link_len{l:List OD}{base:Int}:(linkR l base).2.1.length<=10000:=by
 unfold linkR;split
 ·exact Nat.zero_le _
 rename_i hc;split
 ·exact Nat.zero_le _
 split
 ·exact Nat.zero_le _
 ·cases hi:image l base with
  |none=>exact Nat.zero_le _
  |some im=>
   rw[Bool.not_eq_false,Bool.and_eq_true]at hc;have hb:0<=base/\base<=4096:=by have h:=hc.2;simp only[baseOk,Bool.and_eq_true,decide_eq_true_eq]at h;exact h.1
   obtain⟨g1,g2,_⟩:=lay_bd hc.1 hb.1 hb.2;have hl:=imO_len (n:=((PLink.lay l base).1-base).toNat) (λx hx=>by
    injection hx with hx;subst hx;simp) hi
   show im.length<=10000
   omega
end PLinkIn
/- copyObjects and deskLink; the program's. -/
namespace CDeskLI
open Kit CCode CName CNumTxt CFixups CSymbols PObj BObj PValid PClear PNum PDump PLink PLinkL BList CMarkRows BObj2 BRetO CObjValid CCopyS CCopyI CValids CObjL COwnL PJoin PJoin2 PDesk PLinkIn BDesk CHexI CHexS CLink CJoinAI
set_option maxHeartbeats 4000000 in
theorem copyObjects_any(A:Option Addr)(os:List OV)(c:Nat)(w:World)(hr:RdOs w w.heap.size A os)(hf:Fits os)(hn:∀o∈os,Nils o)(hs:∀o∈os,o.ps.length<=100/\o.ys.length<=100):
  Calls Tryz.prog 44 #[.slice A os.length c] w (RetOs (os.map OV.d) w):=by
 obtain⟨i0,hi1,hi2,hi3,hi4⟩:=info_parts infoO;have HI:=h_ (And.intro hi1 (And.intro hi2 (And.intro hi3 hi4)));clear hi1 hi2 hi3 hi4;have hm:=hf.n;have HR:=h_ hr;have HL:=h_ (λo (ho:o∈os)=>And.intro (hf.o o ho) (And.intro (hn o ho) (hs o ho)));clear hr hf hn hs;have HB:=h_ (show Below w.heap.size w (w.alloc (.cells #[] 26))from b_);go_enter Tryz.func44,Tryz.ntmps44
 go_wp2_with fail
 generalize w.alloc (.cells #[] 26)=w0 at *;go_loopw [3,9] (λs i wi=>∃(k:Nat) (qs:List OV) (Aq:Option Addr) (cq:Nat),k<=os.length/\qs.length=k/\s=.slice Aq qs.length cq/\i=.int .i64 k/\qs.map OV.d=(os.take k).map OV.d/\OwnOs wi w.heap.size Aq cq qs/\Below w.heap.size w wi) (λ_ i _=>os.length-(intOf i).toNat)
 case atStart=>exact⟨0,[],_,0,Nat.zero_le _,rfl,rfl,rfl,rfl,⟨Row.empty _ _ _ _ _,(λp hp=>by cases hp),List.Pairwise.nil⟩,HB.o⟩
 case round=>
  clear HB;obtain⟨k,qs,Aq,cq,hk,hql,rfl,rfl,hqd,ho,hb⟩:=hrel;have HO:=h_ ho;have HB:=h_ hb;have HQL:=h_ hql;have HQD:=h_ hqd;have hq1:qs.length<=1048576:=by omega
  clear hqd ho hql;by_cases hlt:k<os.length
  ·obtain⟨b,off,rfl,hbg,hc⟩:=(HR.o.1.below hb).row objC_len (by decide) hlt;have hc0:=hc 0 _ rfl;have hc1:=hc 1 _ rfl;simp only[Nat.add_zero]at hc0;have HM:=h_ (HL.o _ (List.getElem_mem hlt));have HRS:=h_ (((HR.o.2 _ (List.getElem_mem hlt)).below hb).more hb.size);have HD:=h_ (show qs.map OV.d++[(os[k]).d]=(os.take (k+1)).map OV.d by rw[take_succ hlt,List.map_append,HQD.o];rfl);clear hb hc;generalize os[k]=p at *;have B1:Below wr.heap.size wr (wr.alloc (.cells #[.slice p.A p.ps.length p.c,.slice p.Y p.ys.length p.yc] 26)):=b_;have HXP:=h_ (Box.new wr 26 #[.slice p.A p.ps.length p.c,.slice p.Y p.ys.length p.yc]);replace HRS:=h_ ((HRS.o.below B1).more B1.size);replace HO:=h_ (HO.o.call B1);replace HB:=c_ HB B1;clear B1;have y0:=d_ HXP.o 0;have y1:=d_ HXP.o 1;have hyl:=HXP.o.lt;go_wp2_with fail
   clear hc0 hc1 y0 y1 hyl HXP;generalize wr.alloc (.cells #[.slice p.A p.ps.length p.c,.slice p.Y p.ys.length p.yc] 26)=w1 at *;refine(copyObject_any p w1 HRS.o HM.o.1 HM.o.2.1 HM.o.2.2).mono ?_;rintro e w2 ⟨q,rfl,hqd,r2,b2⟩;have HRQ:=h_ (r2.down HB.o.size);have HNEW:=h_ (λj (hj:oblk q j)=>(show w1.heap.size<=j from(r2.lt j hj).1));have HOLD:=h_ (λx (hx:x∈qs) j (hj:oblk x j)=>(show j<w1.heap.size from((HO.o.2.1 x hx).lt j hj).2));have HQ:=h_ hqd;have HO2:=h_ (HO.o.call b2);replace HB:=c_ HB b2;clear b2;clear hqd r2 HO HRS;have B3:Below w2.heap.size w2 (w2.alloc (.cells (objC q).toArray 26)):=b_;have HO3:=h_ (HO2.o.call B3);have HRQ3:=h_ (HRQ.o.call B3);replace HB:=c_ HB B3;clear B3;clear HO2 HRQ;simp only[objC]at HO3 HRQ3 HB ⊢;simp only[OV.v];go_wp2_with (at_builtin;refine wpList_app _ rfl (.tmp 13) (.tmp 16) 32 rfl 26 i0 (.agg #[.slice none 0 0,.slice none 0 0]) 2 48 Tryz.underlying32 HI.o.1 HI.o.2.1 HI.o.2.2.1 HI.o.2.2.2 rfl (by decide) w.heap.size Aq qs.length cq (cellsOf objC qs) rfl HO3.o.1 HB.o.size (some ⟨w2.heap.size,0,none⟩) 1 1 (objC q) rfl (rd_lit w2 (objC q).toArray 26 _ rfl) rfl (λh=>by cases h) (one_objC q) ?n1 ?n2 ?_)
   case n1=>unfold maxLen;omega
   case n2=>omega
   intro A8 n8 c8 w8 hn8 o8 g8 k8;have HOW:=h_ (OwnOs.snoc HO3.o HRQ3.o HOLD.o HNEW.o hn8 o8 g8);have HB8:=h_ (HB.o.grown g8 HB.o.size (λj hj=>(HO3.o.1.lt j hj).1));have hn8':n8=(qs++[q]).length:=by rw[hn8,List.length_append];rfl
   subst hn8';clear hn8 o8 g8 k8 HO3 HRQ3;go_wp2_with fail
   refine⟨⟨k+1,qs++[q],A8,c8,by omega,by simp[HQL.o],by first|rfl|rw[List.length_append],by go_num,?_,HOW.o,HB8.o⟩,by simp[intOf];omega⟩
   rw[<-HD.o,List.map_append,List.map_singleton,HQ.o]
  ·have hke:k=os.length:=by omega
   have HH:=h_ (show RetOs (os.map OV.d) w (.returned (.slice Aq qs.length cq)) wr from⟨Aq,cq,qs,rfl,by rw[HQD.o,hke,List.take_length],HO.o,HB.o⟩);subst hke;clear hb;go_wp2_with fail
   go_ret;exact HH.o
theorem bs_list(x:List UInt8):(bs x).toList=x:=by rw[ByteArray.toList_eq];simp[bs]
set_option maxHeartbeats 16000000 in
theorem deskLink_any(A:Option Addr)(os:List OV)(c:Nat)(t:List UInt8)(w:World)(hr:RdOs w w.heap.size A os)(hf:Fits os)(hn:∀o∈os,Nils o)(hz:∀o∈os,InD o.d)(ht:t.length<=1048576)(he:Env w):
  Calls Tryz.prog 49 #[.slice A os.length c,.string (bs t)] w (Ret (.string (bs (linkI (os.map OV.d) t))) w):=by
 have HR:=h_ hr;have HF:=h_ hf;have HN:=h_ hn;have HE:=h_ he;have HZ:=h_ (show ∀d∈os.map OV.d,InD d from λd hd=>by
  obtain⟨o,ho,rfl⟩:=List.mem_map.1 hd;exact hz o ho)
 have HAT:=h_ (atoi_any (bs t) (by rw[bs_size];omega) w he);rw[show(bs t).data.toList=t from by simp[bs]]at HAT;have HQT:=h_ (bs_list t);clear hr hf hn he hz;go_enter Tryz.func49,Tryz.ntmps49
 go_wp2_with fail
 refine HAT.o.mono ?_;clear HAT;rintro e w1 (⟨v,hv,hv0,hv1,rfl,b1⟩|⟨hv,x,t',p,rfl,b1⟩)
 ·have HB:=h_ b1;have HAV:=h_ hv;clear b1 hv;go_wp2_with fail
  refine(itoa_any v hv0 hv1 w1 (HE.o.below HB.o)).mono ?_;rintro e w2 ⟨rfl,b2⟩;replace HB:=c_ HB b2;clear b2;have HQI:=h_ (bs_list (Lib.itoa v));by_cases hc:Lib.itoa v=t
  ·have HCN:=h_ (show canon t=some v from by
    unfold canon;rw[HAV.o];exact if_pos hc)
   have hq1:((bs (Lib.itoa v)).toList==(bs t).toList)=true:=by rw[HQI.o,HQT.o,hc];simp
   have hq2:((bs (Lib.itoa v)).toList != (bs t).toList)=false:=by rw[bne,hq1];rfl
   clear hc HAV;go_wp2_with fail
   clear hq1 hq2;refine(link_any A os c v w2 ((HR.o.below HB.o).more HB.o.size) HF.o (λo ho p hp=>((HN.o o ho).p p hp).1)).mono ?_;rintro e w3 ⟨A3,c3,rfl,row3,b3⟩;have HW:=h_ row3;have HIN:=h_ (link_in (base:=v) HZ.o);have HCA:=h_ (show linkI (os.map OV.d) t=codeA (linkR (os.map OV.d) v)from by
    unfold linkI;rw[HCN.o])
   replace HB:=c_ HB b3;clear b3;clear row3 HCN;have HLN:=h_ (link_len (l:=os.map OV.d) (base:=v));generalize linkR (os.map OV.d) v=r at *;obtain⟨r1,r2,r3⟩:=r;have hrl:r2.length<=10000:=HLN.o;clear HLN;simp only at HW HIN ⊢;have BA:Below w3.heap.size w3 (w3.alloc (.cells #[.int .i64 r1,.slice A3 r2.length c3] 36)):=b_;have HX:=h_ (Box.new w3 36 #[.int .i64 r1,.slice A3 r2.length c3]);have HRD:=h_ ((HW.o.rd.below BA).more BA.size);have hr2:(r2.length:Int)<=9223372036854775807:=by have h:=HW.o.cap;unfold maxLen at h;omega
   replace HB:=c_ HB BA;clear BA;clear HW;by_cases h1:r3=1
   ·have HV:=h_ (HCA.o.trans (show codeA (r1,r2,r3)=twiceT from if_pos h1));have e1:(r3==1)=true:=beq_iff_eq.2 h1;clear h1 HCA;go_wp2_with fail
    go_ret;rw[HV.o];exact⟨rfl,HB.o⟩
   by_cases h2:r3=2
   ·have HV:=h_ (HCA.o.trans (show codeA (r1,r2,r3)=missT from by unfold codeA;rw[if_neg h1,if_pos h2]));have e1:(r3==1)=false:=beq_eq_false_iff_ne.2 h1;have e2:(r3==2)=true:=beq_iff_eq.2 h2;clear h1 h2 HCA;go_wp2_with fail
    go_ret;rw[HV.o];exact⟨rfl,HB.o⟩
   by_cases h3:r3=3
   ·have HV:=h_ (HCA.o.trans (show codeA (r1,r2,r3)=rangeT from by unfold codeA;rw[if_neg h1,if_neg h2,if_pos h3]));have e1:(r3==1)=false:=beq_eq_false_iff_ne.2 h1;have e2:(r3==2)=false:=beq_eq_false_iff_ne.2 h2;have e3:(r3==3)=true:=beq_iff_eq.2 h3;clear h1 h2 h3 HCA;go_wp2_with fail
    go_ret;rw[HV.o];exact⟨rfl,HB.o⟩
   by_cases h4:r3=0
   ·have e1:(r3==1)=false:=beq_eq_false_iff_ne.2 h1;have e2:(r3==2)=false:=beq_eq_false_iff_ne.2 h2;have e3:(r3==3)=false:=beq_eq_false_iff_ne.2 h3;have e4:(r3 != 0)=false:=by rw[bne,beq_iff_eq.2 h4];rfl
    have x1:=d_ HX.o 1;have hxl:=HX.o.lt;by_cases h5:r2.length=0
    ·have HV:=h_ (HCA.o.trans (show codeA (r1,r2,r3)=emptyT from by unfold codeA;rw[if_neg h1,if_neg h2,if_neg h3,if_neg (λh=>h h4),if_pos h5]));have e5:((r2.length:Int)==0)=true:=beq_iff_eq.2 (by omega);clear h1 h2 h3 h4 h5 HCA;go_wp2_with fail
     go_ret;rw[HV.o];exact⟨rfl,HB.o⟩
    ·have HV:=h_ (HCA.o.trans (show codeA (r1,r2,r3)=hexL r2 from by unfold codeA;rw[if_neg h1,if_neg h2,if_neg h3,if_neg (λh=>h h4),if_neg h5]));have e5:((r2.length:Int)==0)=false:=beq_eq_false_iff_ne.2 (by omega);clear h1 h2 h3 h4 h5 HCA;go_wp2_with fail
     refine(hexText_any A3 r2 c3 _ HRD.o HIN.o (by omega)).mono ?_;rintro e w4 ⟨rfl,b4⟩;replace HB:=c_ HB b4;clear b4;go_wp2_with fail
     go_ret;rw[HV.o];exact⟨rfl,HB.o⟩
   ·have HV:=h_ (HCA.o.trans (show codeA (r1,r2,r3)=noT from by unfold codeA;rw[if_neg h1,if_neg h2,if_neg h3,if_pos h4]));have e1:(r3==1)=false:=beq_eq_false_iff_ne.2 h1;have e2:(r3==2)=false:=beq_eq_false_iff_ne.2 h2;have e3:(r3==3)=false:=beq_eq_false_iff_ne.2 h3;have e4:(r3 != 0)=true:=bne_iff_ne.2 h4;clear h1 h2 h3 h4 HCA;go_wp2_with fail
    go_ret;rw[HV.o];exact⟨rfl,HB.o⟩
  ·have HV:=h_ (show linkI (os.map OV.d) t=noT from by
    unfold linkI canon;rw[HAV.o];simp only;rw[if_neg hc])
   have hq1:((bs (Lib.itoa v)).toList==(bs t).toList)=false:=by rw[HQI.o,HQT.o];exact beq_eq_false_iff_ne.2 hc
   have hq2:((bs (Lib.itoa v)).toList != (bs t).toList)=true:=by rw[bne,hq1];rfl
   clear hc HAV;go_wp2_with fail
   go_ret;rw[HV.o];exact⟨rfl,HB.o⟩
 ·have HB:=h_ b1;have HV:=h_ (show linkI (os.map OV.d) t=noT from by
   have h:canon t=none:=by
    unfold canon;split
    ·rename_i v h;exact absurd h (hv v)
    ·rfl
   unfold linkI;rw[h])
  clear b1 hv;go_wp2_with fail
  go_ret;rw[HV.o];exact⟨rfl,HB.o⟩
end CDeskLI
/- The map literal of readLine: three words with five each,and a look-up. -/
namespace BMap
open Go Go.Maps
open Kit PDump
theorem u5:(Lit.int .i64 5).wf=true:=by decide
theorem keyB(l:List UInt8)(h:l.length<=maxLen):keyOf Tryz.prog 9 (.string (bs l))=some (.string l):=by
 have:=Go.WideMaps.keyOf_string_mk (P:=Tryz.prog) Tryz.underlying9 (s:=bs l) (by show(bs l).data.size<=maxLen;simpa[bs]using h);simpa[bs]using this
theorem at3{H:Type}(l:List UInt8):((((DataW.map (H:=H) []).put (.string secW) (.lit (.int .i64 5))).put (.string fixW) (.lit (.int .i64 5))).put (.string symW) (.lit (.int .i64 5))).atKey (.string l) (.lit (.int .i64 0))=.lit (.int .i64 (many l)):=by
 have m0:IsMap (DataW.map (H:=H) []):=⟨_,rfl⟩;have m1:IsMap ((DataW.map (H:=H) []).put (.string secW) (.lit (.int .i64 5))):=⟨_,rfl⟩;have m2:IsMap (((DataW.map (H:=H) []).put (.string secW) (.lit (.int .i64 5))).put (.string fixW) (.lit (.int .i64 5))):=⟨_,rfl⟩;unfold many;by_cases h3:l=symW
 ·subst h3;rw[atKey_put_same m2 (show WideAt.IsKeyLit (.string symW)from trivial)]
  rfl
 rw[atKey_put_other (by simpa using h3)];by_cases h2:l=fixW
 ·subst h2;rw[atKey_put_same m1 (show WideAt.IsKeyLit (.string fixW)from trivial)]
  rfl
 rw[atKey_put_other (by simpa using h2)];by_cases h1:l=secW
 ·subst h1;rw[atKey_put_same m0 (show WideAt.IsKeyLit (.string secW)from trivial)]
  rfl
 rw[atKey_put_other (by simpa using h1)];rw[if_neg (by simp[h1,h2,h3])]
 rfl
theorem three(w:World)(l:List UInt8)(hl:l.length<=maxLen):∃w1 w2 w3,
  (Instr.mapUpdate 159 (.map (some w.heap.size)) (.string ⟨#[115,101,99,116,105,111,110]⟩) (.int .i64 5)).run Tryz.prog (w.alloc (.map #[] 0))=.ok () w1∧
  (Instr.mapUpdate 159 (.map (some w.heap.size)) (.string ⟨#[102,105,120,117,112]⟩) (.int .i64 5)).run Tryz.prog w1=.ok () w2∧
  (Instr.mapUpdate 159 (.map (some w.heap.size)) (.string ⟨#[115,121,109,98,111,108]⟩) (.int .i64 5)).run Tryz.prog w2=.ok () w3∧
  (Instr.lookup 159 (.map (some w.heap.size)) (.string (bs l)) false).run Tryz.prog w3=.ok (.int .i64 (many l)) w3/\Below w.heap.size w w3:=by
 have K:Keyed Tryz.prog 9:=string_keyed Tryz.underlying9;have hT:Tryz.prog.underlying 159=some (.map 9 3):=Tryz.underlying159;have h0:=World.ownsMap_made (H:=Unit) w Tryz.prog 9 (plainElem Tryz.prog 3);have hv:plainElem (H:=Unit) Tryz.prog 3 (.int .i64 5)=some (.lit (.int .i64 5),[]):=plainElem_int Tryz.underlying3 u5;obtain⟨w1,r1,o1,g1⟩:=h0.update K hT (by unfold maxLen;omega) (keyB secW (by decide)) hv;obtain⟨w2,r2,o2,g2⟩:=o1.update K hT (by unfold maxLen;omega) (keyB fixW (by decide)) hv;obtain⟨w3,r3,o3,g3⟩:=o2.update K hT (by unfold maxLen;omega) (keyB symW (by decide)) hv;obtain⟨c,hrun,hat,_⟩:=o3.lookup_int K hT Tryz.underlying3 rfl (keyB l hl);rw[at3 l]at hat;injection hat with hat;injection hat with _ hat;subst hat;refine⟨w1,w2,w3,r1,r2,r3,hrun,?_⟩;have b0:Below w.heap.size w (w.alloc (.map #[] 0)):=(Below.refl _ _).alloc (Nat.le_refl _) _;have b1:=b0.grown g1 b0.size (λj hj=>by injection hj with hj;omega);have b2:=b1.grown g2 b1.size (λj hj=>by injection hj with hj;omega);exact b2.grown g3 b2.size (λj hj=>by injection hj with hj;omega)
end BMap
/- numbersOf: words as numbers; the program's. -/
namespace CNumsI
open Kit CNumTxt PNum PDump CHexI CHexS CSorted CNames CWordsS BStore BDesk
theorem Rd.str {w:World}{B:Nat}{A:Option Addr}{ws:List (List UInt8)}(h:Rd w B A (nmC (ws.map bs))){k:Nat}(hk:k<ws.length):∃b off,A=some ⟨b,off,none⟩/\b<B/\w.cell? ⟨b,off+k,none⟩=some (.string (bs ws[k])):=by obtain⟨b,off,h1,h2,h3⟩:=h k (.string (bs ws[k])) (by simp[nmC,List.getElem?_eq_getElem hk]);exact⟨b,off,h1,h2,h3⟩
def RetFI(r:Option (List Int))(w:World)(e:Ending)(w':World):Prop:=∃A c n,e=.returned (.tuple #[.slice A n c,.bool r.isSome])/\Below w.heap.size w w'/\∀b,r=some b->n=b.length/\Row w' w.heap.size 3 1 A n c (ints .i64 b)
theorem nums_ok{ws:List (List UInt8)}{k:Nat}(h:k<ws.length){v:Int}(hv:Lib.atoiAll ws[k]=.ok v){ys:List Int}(hu:nums ws=(nums (ws.drop k)).map (ys++·)):nums ws=(nums (ws.drop (k+1))).map ((ys++[v])++·):=by
 rw[hu,List.drop_eq_getElem_cons h,nums,hv];simp only[Option.map_map];congr 1
 funext zs
 simp
theorem nums_bad{ws:List (List UInt8)}{k:Nat}(h:k<ws.length)(hv:∀v,Lib.atoiAll ws[k]≠ .ok v){ys:List Int}(hu:nums ws=(nums (ws.drop k)).map (ys++·)):nums ws=none:=by
 rw[hu,List.drop_eq_getElem_cons h,nums];cases ha:Lib.atoiAll ws[k]with
 |ok v=>exact absurd ha (hv v)
 |_=>rfl
theorem one_i(x:Int):∀u∈[Value.int .i64 x],u.oneCell'=true:=λu hu=>by
 rw[List.mem_singleton]at hu;subst hu
 rfl
set_option maxHeartbeats 4000000 in
theorem numbersOf_any(A:Option Addr)(ws:List (List UInt8))(c:Nat)(w:World)(hr:Rd w w.heap.size A (nmC (ws.map bs)))(hn:ws.length<=1048577)(hl:∀x∈ws,x.length<=1048576)(he:Env w):
  Calls Tryz.prog 147 #[.slice A ws.length c] w (RetFI (nums ws) w):=by
 obtain⟨i0,hi1,hi2,hi3,hi4⟩:=info_parts CInts.info64;have HI:=h_ (And.intro hi1 (And.intro hi2 (And.intro hi3 hi4)));clear hi1 hi2 hi3 hi4;have HR:=h_ hr;have HE:=h_ he;have HL:=h_ hl;clear hr he hl;have HB:=h_ (show Below w.heap.size w (w.alloc (.cells #[] 3))from b_);go_enter Tryz.func147,Tryz.ntmps147
 go_wp2_with fail
 generalize w.alloc (.cells #[] 3)=w0 at *;go_loopw [4,12] (λv i wi=>∃(k:Nat) (A1:Option Addr) (c1:Nat) (ys:List Int),k<=ws.length/\v=.slice A1 ys.length c1/\i=.int .i64 k/\ys.length=k/\nums ws=(nums (ws.drop k)).map (ys++·)/\Row wi w.heap.size 3 1 A1 ys.length c1 (ints .i64 ys)/\Below w.heap.size w wi) (λ_ i _=>ws.length-(intOf i).toNat)
 case atStart=>exact⟨0,_,0,[],Nat.zero_le _,rfl,rfl,rfl,by simp,Row.empty _ _ _ _ _,HB.o⟩
 case round=>
  rename World=>wk
  clear HB;obtain⟨k,A1,c1,ys,hk,rfl,rfl,hyl,hu,hrow,hb⟩:=hrel;have HU:=h_ hu;have HW:=h_ hrow;have HB:=h_ hb;have hl2:ys.length<=1048577:=by omega
  have HYL:=h_ hyl;clear hu hrow hb hyl;by_cases hlt:k<ws.length
  ·obtain⟨b,off,hA,hbb,hc⟩:=Rd.str (HR.o.below HB.o) hlt;have HOK:=h_ (λv hv=>nums_ok hlt (v:=v) hv HU.o);have HBD:=h_ (λhv=>nums_bad hlt hv HU.o);have HLX:=h_ (HL.o ws[k] (List.getElem_mem hlt));have HAT:=h_ (λ(V:World) (hE:Env V)=>atoi_any (bs ws[k]) (by rw[bs_size];have:=HLX.o;omega) V hE);rw[show(bs ws[k]).data.toList=ws[k]from by simp[bs]]at HAT;clear HU HL;generalize ws[k]=x at *;rw[hA];clear hA;go_wp2_with fail
   refine(HAT.o _ (HE.o.below HB.o)).mono ?_;rintro e w2 (⟨v,hv,hv0,hv1,rfl,bb⟩|⟨hv,y,t,p,rfl,bb⟩)
   ·have HV:=h_ (HOK.o v hv);clear hv HOK HBD hc;replace HB:=c_ HB bb;replace HW:=h_ (HW.o.call bb);clear bb;have BA:Below w2.heap.size w2 (w2.alloc (.cells #[.int .i64 v] 3)):=b_;replace HB:=c_ HB BA;replace HW:=h_ (HW.o.call BA);clear BA;go_wp2_with (at_builtin;refine wpList_app (w2.alloc (.cells #[.int .i64 v] 3)) rfl (.tmp 23) (.tmp 25) 89 rfl 3 i0 (.int .i64 0) 1 8 Tryz.underlying89 HI.o.1 HI.o.2.1 HI.o.2.2.1 HI.o.2.2.2 rfl (by decide) w.heap.size A1 ys.length c1 (ints .i64 ys) rfl HW.o HB.o.size (some ⟨w2.heap.size,0,none⟩) 1 1 [.int .i64 v] rfl (rd_lit w2 #[.int .i64 v] 3 _ rfl) rfl (λh=>by cases h) (one_i _) ?n1 ?n2 ?_)
    case n1=>unfold maxLen;omega
    case n2=>omega
    intro A9 n9 c9 wz hn9 o9 g9 k9;subst hn9;have HB9:=h_ (HB.o.grown g9 HB.o.size (λj hj=>(HW.o.lt j hj).1));have HW9:=h_ (show Row wz w.heap.size 3 1 A9 (ys++[v]).length c9 (ints .i64 (ys++[v]))from by
     rw[List.length_append,show ints .i64 (ys++[v])=ints .i64 ys++[.int .i64 v]from by simp[ints]];exact o9)
    have hq:=HYL.o;have HLN9:=h_ (show(ys++[v]).length=k+1 from by rw[List.length_append,hq];rfl);clear o9 g9 k9 HW HB hq;generalize hG:ys++[v]=zs at *;have hzl:zs.length=ys.length+1:=by rw[<-hG];simp
    rw[<-hzl];clear hG hzl;go_wp2_with fail
    refine⟨⟨k+1,A9,c9,zs,by omega,rfl,by go_num,HLN9.o,HV.o,HW9.o,HB9.o⟩,by simp[intOf];omega⟩
   ·have HV:=h_ (HBD.o hv);clear hv HOK HBD hc;replace HB:=c_ HB bb;replace HW:=h_ (HW.o.call bb);clear bb;go_wp2_with fail
    go_ret2;rw[HV.o];exact⟨_,_,_,rfl,HB.o,λb h=>by cases h⟩
  ·have hke:k=ws.length:=by omega
   have HV:=h_ (show nums ws=some ys from by
    rw[HU.o,List.drop_eq_nil_of_le (Nat.le_of_eq hke.symm)];simp[nums])
   clear hke;go_wp2_with fail
   go_ret2;rw[HV.o];exact⟨A1,c1,ys.length,rfl,HB.o,λb h=>by cases h;exact⟨rfl,HW.o⟩⟩
end CNumsI
/- ReadHex: digits back to bytes; the program's. -/
namespace CUnhexI
open Kit CEqual PDump CHexI CApFix XDesk
theorem indexV(c:UInt8):Lib.indexByte hexD c=hexV c:=by
 have key:∀i:Fin 256,Lib.indexByte hexD (UInt8.ofNat i.1)=hexV (UInt8.ofNat i.1):=by decide+kernel
 have:=key ⟨c.toNat,UInt8.toNat_lt c⟩
 rwa[UInt8.ofNat_toNat]at this
theorem index_any(c:UInt8)(V:World):Calls Tryz.prog 178 #[.string ⟨#[48,49,50,51,52,53,54,55,56,57,97,98,99,100,101,102]⟩,.int .u8 (c.toNat:Int)] V (Pure (.int .i64 (hexV c)) V):=by have h:=strings_IndexByte ⟨#[48,49,50,51,52,53,54,55,56,57,97,98,99,100,101,102]⟩ (c.toNat:Int) V;rw[show((c.toNat:Int)).toNat.toUInt8=c from by simp]at h;rw[<-indexV];refine h.mono ?_;rintro e w' ⟨rfl,rfl⟩;exact⟨rfl,rfl⟩
theorem drop2(s:ByteArray)(p:Nat)(h:p+1<s.size):s.data.toList.drop p=(s[p]'(by omega))::(s[p+1]'h)::s.data.toList.drop (p+2):=by
 have h1:p<s.data.toList.length:=by rw[Array.length_toList];exact Nat.lt_of_succ_lt h
 have h2:p+1<s.data.toList.length:=by rw[Array.length_toList];exact h
 rw[List.drop_eq_getElem_cons h1,List.drop_eq_getElem_cons h2]
 rfl
theorem unhex_odd:∀(l:List UInt8),l.length%2=1->unhex l=none
 |[],h=>by cases h
 |[_],_=>rfl
 |a::b::r,h=>by
  rw[unhex,unhex_odd r (by simp only[List.length_cons]at h;omega)];split<;>rfl
theorem unhex_step(s:ByteArray)(p:Nat)(h:p+1<s.size)(ys:List Int)(hu:unhex s.data.toList=(unhex (s.data.toList.drop p)).map (ys++·)):
  unhex s.data.toList=if hexV (s[p]'(by omega))<0\/hexV (s[p+1]'h)<0 then none else(unhex (s.data.toList.drop (p+2))).map ((ys++[16*hexV (s[p]'(by omega))+hexV (s[p+1]'h)])++·):=by
 rw[hu,drop2 s p h,unhex];split
 ·rfl
 ·rw[Option.map_map];congr 1
  funext zs
  simp
theorem one_u8(x:Int):∀u∈[Value.int .u8 x],u.oneCell'=true:=λu hu=>by
 rw[List.mem_singleton]at hu;subst hu
 rfl
theorem wrap8(y:Int)(h:0<=y/\y<=255):IntKind.u8.wrap y=y:=by
 have key:∀i:Fin 256,IntKind.u8.wrap (i.1:Int)=(i.1:Int):=by decide+kernel
 obtain⟨n,rfl⟩:=Int.eq_ofNat_of_zero_le h.1;exact key ⟨n,by omega⟩
set_option maxHeartbeats 4000000 in
theorem readHex_any(s:ByteArray)(hs:s.size<=1048576)(w:World):
  Calls Tryz.prog 148 #[.string s] w (RetF (unhex s.data.toList) w):=by
 obtain⟨i0,hi1,hi2,hi3,hi4⟩:=info_parts CBytes.info8;have HI:=h_ (And.intro hi1 (And.intro hi2 (And.intro hi3 hi4)));clear hi1 hi2 hi3 hi4;have HB:=h_ (show Below w.heap.size w (w.alloc (.cells #[] 5))from b_);by_cases hodd:s.size%2=1
 ·have HV:=h_ (unhex_odd s.data.toList (by rw[Array.length_toList];exact hodd));have hm:((s.size:Int)).tmod 2=1:=by rw[Int.tmod_eq_emod_of_nonneg (by omega)];omega
  go_enter Tryz.func148,Tryz.ntmps148
  go_wp2_with fail
  go_ret2;rw[HV.o];exact⟨_,_,_,rfl,HB.o,λb h=>by cases h⟩
 have hm:((s.size:Int)).tmod 2=0:=by rw[Int.tmod_eq_emod_of_nonneg (by omega)];omega
 go_enter Tryz.func148,Tryz.ntmps148
 go_wp2_with fail
 generalize w.alloc (.cells #[] 5)=w0 at *;go_loopw [4,5] (λv i wi=>∃(p:Nat) (A1:Option Addr) (c1:Nat) (ys:List Int),p<=s.size/\p%2=0/\v=.slice A1 ys.length c1/\i=.int .i64 p/\2*ys.length=p/\unhex s.data.toList=(unhex (s.data.toList.drop p)).map (ys++·)/\Row wi w.heap.size 5 1 A1 ys.length c1 (ints .u8 ys)/\Below w.heap.size w wi) (λ_ i _=>s.size-(intOf i).toNat)
 case atStart=>exact⟨0,_,0,[],Nat.zero_le _,rfl,rfl,rfl,rfl,by simp,Row.empty _ _ _ _ _,HB.o⟩
 case round=>
  rename World=>wk
  clear HB;obtain⟨p,A1,c1,ys,hp,hp2,rfl,rfl,hyl,hu,hrow,hb⟩:=hrel;have HU:=h_ hu;have HL:=h_ hyl;have hl2:ys.length<=1048576:=by omega
  have HW:=h_ hrow;have HB:=h_ hb;clear hu hrow hb hyl;by_cases hlt:p<s.size
  ·have hlt1:p+1<s.size:=by omega
   have HST:=h_ (unhex_step s p hlt1 ys HU.o);have HQ1:=h_ (index_any (s[p]'hlt));have HQ2:=h_ (index_any (s[p+1]'hlt1));have hx:=hexV_bd (s[p]'hlt);have hy:=hexV_bd (s[p+1]'hlt1);generalize hexV (s[p]'hlt)=x at *;generalize hexV (s[p+1]'hlt1)=y at *;obtain⟨hx1,hx2⟩:=hx;obtain⟨hy1,hy2⟩:=hy;have hwp:IntKind.i64.wrap ((p:Int)+1)=(p:Int)+1:=IntWalk.i64_in _ (by omega);have htn:((p:Int)+1).toNat=p+1:=by omega
   have hi1:(p:Int)+1<(s.size:Int):=by omega
   have hi0:(0:Int)<=(p:Int)+1:=by omega
   have hi2:¬(p:Int)+1<0:=by omega
   go_wp2_with fail
   go_quiet ((go_at_call 178;first|exact Pure.quiet (HQ1.o _)|exact Pure.quiet (HQ2.o _)))
   replace HW:=h_ (HW.o.drewN nq);replace HB:=h_ (Kit.Below.drewN HB.o nq);generalize wk.drewN nq=wd at *;clear HQ1 HQ2 hm hodd;by_cases hx0:x<0
   ·have HV:=h_ (HST.o.trans (if_pos (Or.inl hx0)));have hd:decide (x<0)=true:=decide_eq_true hx0;go_wp2_with fail
    go_ret2;rw[HV.o];exact⟨_,_,_,rfl,HB.o,λb h=>by cases h⟩
   by_cases hy0:y<0
   ·have HV:=h_ (HST.o.trans (if_pos (Or.inr hy0)));have hd:decide (x<0)=false:=decide_eq_false hx0;have hd2:decide (y<0)=true:=decide_eq_true hy0;go_wp2_with fail
    go_ret2;rw[HV.o];exact⟨_,_,_,rfl,HB.o,λb h=>by cases h⟩
   have HV:=h_ (HST.o.trans (if_neg (by omega)));clear HST HU;have hx0':0<=x:=by omega
   have hy0':0<=y:=by omega
   have hd:decide (x<0)=false:=decide_eq_false hx0;have hd2:decide (y<0)=false:=decide_eq_false hy0;have hw1:IntKind.i64.wrap (16*x)=16*x:=IntWalk.i64_in _ (by omega);have hw2:IntKind.i64.wrap (16*x+y)=16*x+y:=IntWalk.i64_in _ (by omega);have hw3:IntKind.u8.wrap (16*x+y)=16*x+y:=wrap8 _ (by omega);have BA:Below wd.heap.size wd (wd.alloc (.cells #[.int .u8 (16*x+y)] 5)):=b_;replace HB:=c_ HB BA;replace HW:=h_ (HW.o.call BA);clear BA;go_wp2_with (at_builtin;refine wpList_app (wd.alloc (.cells #[.int .u8 (16*x+y)] 5)) rfl (.tmp 34) (.tmp 40) 22 rfl 5 i0 (.int .u8 0) 1 1 Tryz.underlying22 HI.o.1 HI.o.2.1 HI.o.2.2.1 HI.o.2.2.2 rfl (by decide) w.heap.size A1 ys.length c1 (ints .u8 ys) rfl HW.o HB.o.size (some ⟨wd.heap.size,0,none⟩) 1 1 [.int .u8 (16*x+y)] rfl (rd_lit wd #[.int .u8 (16*x+y)] 5 _ rfl) rfl (λh=>by cases h) (one_u8 _) ?n1 ?n2 ?_)
   case n1=>unfold maxLen;omega
   case n2=>omega
   intro A9 n9 c9 wz hn9 o9 g9 k9;subst hn9;have HB9:=h_ (HB.o.grown g9 HB.o.size (λj hj=>(HW.o.lt j hj).1));have HW9:=h_ (show Row wz w.heap.size 5 1 A9 (ys++[16*x+y]).length c9 (ints .u8 (ys++[16*x+y]))from by
    rw[List.length_append,show ints .u8 (ys++[16*x+y])=ints .u8 ys++[.int .u8 (16*x+y)]from by simp[ints]];exact o9)
   have hq:=HL.o;have HLN9:=h_ (show 2*(ys++[16*x+y]).length=p+2 from by rw[List.length_append];simp only[List.length_singleton];omega);have hp22:(p+2)%2=0:=by omega
   have hp3:p+2<=s.size:=by omega
   clear o9 g9 k9 HW HB hq;generalize hG:ys++[16*x+y]=zs at *;have hzl:zs.length=ys.length+1:=by rw[<-hG];simp
   rw[<-hzl];clear hG hzl;go_wp2_with fail
   refine⟨⟨p+2,A9,c9,zs,hp3,hp22,rfl,by go_num,HLN9.o,HV.o,HW9.o,HB9.o⟩,by simp[intOf];omega⟩
  ·have hpe:p=s.size:=by omega
   have HV:=h_ (show unhex s.data.toList=some ys from by
    rw[HU.o,List.drop_eq_nil_of_le (by rw[Array.length_toList];exact Nat.le_of_eq hpe.symm)];simp[unhex])
   clear hpe;go_wp2_with fail
   go_ret2;rw[HV.o];exact⟨A1,c1,ys.length,rfl,HB.o,λb h=>by cases h;exact⟨rfl,HW.o⟩⟩
end CUnhexI
end Go.Proofs.YtepoiphmmjfbdaaGreatDoor
