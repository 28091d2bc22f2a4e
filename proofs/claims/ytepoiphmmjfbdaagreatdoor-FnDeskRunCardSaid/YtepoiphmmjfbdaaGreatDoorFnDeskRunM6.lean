/- Joining objects: plain. -/
import Derived.Test.YtepoiphmmjfbdaaGreatDoorFnDeskRunM5
import Derived.Deep.CutBlock
set_option linter.unusedSimpArgs false
set_option linter.unusedVariables false
set_option maxRecDepth 200000
open Go.ChangeShapes Go.WideShapes Go.ChangeAt Go.RowKit
namespace Go.Proofs.YtepoiphmmjfbdaaGreatDoor
namespace PJoin
open Kit CCode CName CFixups CSymbols PObj PValid PWarn PClear PSort PLink CGlobalOf
def glob(ys:List YD)(nm:ByteArray):Option Nat:=fiS (hit nm) 0 ys
def shiftY(n:Nat)(s:YD):YD:=(s.1,s.2.1,(if s.2.2.1<0 then s.2.2.1 else s.2.2.1+n),s.2.2.2)
def strongB(a b:YD):Bool:=decide (b.2.1=1)&& !decide (a.2.1=1)
def takesB(a b:YD):Bool:=
 if a.2.2.1=-1 then(if b.2.2.1=-1 then strongB a b else true)else(if b.2.2.1=-1 then false else strongB a b)
def betterB(a b:YD):Bool:=
 if b.2.2.1=-1 then !decide (a.2.2.1=-1)||(decide (a.2.1=1)&&decide (b.2.1=2))else !decide (a.2.2.1=-1)&&(decide (a.2.1=1)&&decide (b.2.1=2))
theorem better_takes{a b:YD}(h:b.2.1=1\/b.2.1=2):betterB a b=takesB b a:=by
 unfold betterB takesB strongB;by_cases h1:b.2.2.1=-1<;>by_cases h2:a.2.2.1=-1<;>by_cases h3:a.2.1=1<;>rcases h with h|h<;>simp[h1,h2,h3,h]
abbrev JS:=List YD×List Int
def jput(n:Nat)(st:JS)(s:YD):JS:=(st.1++[shiftY n s],st.2++[(st.1.length:Int)])
def jset(n:Nat)(xs:List YD)(st:JS)(s:YD)(j:Nat):JS:=((bif takesB (xs.getD j dY) s then st.1.set j (shiftY n s)else st.1),st.2++[(j:Int)])
def jstep(n:Nat)(xs:List YD)(st:JS)(s:YD):JS:=
 if s.2.1=0 then jput n st s else match glob xs s.1 with
  |none=>jput n st s
  |some j=>jset n xs st s j
def joinY(n:Nat)(xs bs:List YD):JS:=bs.foldl (jstep n xs) (xs,[])
def mapF(ns:List Int)(f:FD):FD:=(f.1,f.2.1,ns.getD f.2.2.1.toNat 0,f.2.2.2)
def mapS(ns:List Int)(s:SD):SD:={s with fs:=s.fs.map (mapF ns)}
def joinR(a b:OD):OD:=⟨a.ss++b.ss.map (mapS (joinY a.ss.length a.ys b.ys).2),(joinY a.ss.length a.ys b.ys).1⟩
def joinD(a b:OD):Option OD:=if objOk a=true/\objOk b=true/\(twice [a,b]).length=0/\objOk (joinR a b)=true then some (joinR a b)else none
def joins:OD->List OD->Option OD
 |d,[]=>some d
 |d,e::es=>(joinD d e).bind λx=>joins x es
def joinAll:List OD->Option OD
 |[]=>none
 |d::ds=>if objsOk (d::ds)=true then joins d ds else none
theorem joinY_snoc(n:Nat)(xs:List YD){bs:List YD}{k:Nat}(h:k<bs.length):joinY n xs (bs.take (k+1))=jstep n xs (joinY n xs (bs.take k)) bs[k]:=by
 unfold joinY;rw[take_succ h,List.foldl_append]
 rfl
theorem jstep_len(n:Nat)(xs:List YD)(st:JS)(s:YD)(h:xs.length<=st.1.length):xs.length<=(jstep n xs st s).1.length/\(jstep n xs st s).1.length<=st.1.length+1/\(jstep n xs st s).2.length=st.2.length+1:=by
 have hp:xs.length<=(jput n st s).1.length/\(jput n st s).1.length<=st.1.length+1/\(jput n st s).2.length=st.2.length+1:=by simp[jput];omega
 unfold jstep;split
 ·exact hp
 ·split
  ·exact hp
  ·rename_i j _;unfold jset;cases takesB (xs.getD j dY) s<;>simp <;>omega
theorem joinY_len(n:Nat)(xs:List YD):∀(bs:List YD) (st:JS),xs.length<=st.1.length->xs.length<=(bs.foldl (jstep n xs) st).1.length/\(bs.foldl (jstep n xs) st).1.length<=st.1.length+bs.length/\(bs.foldl (jstep n xs) st).2.length=st.2.length+bs.length
 |[],st,h=>⟨h,by simp,by simp⟩
 |b::bs,st,h=>by obtain⟨h1,h2,h3⟩:=jstep_len n xs st b h;obtain⟨h4,h5,h6⟩:=joinY_len n xs bs (jstep n xs st b) h1;rw[List.foldl_cons,List.length_cons];omega
theorem joinD_ok{a b x:OD}(h:joinD a b=some x):objOk x=true:=by
 unfold joinD at h;split at h
 ·rename_i hc;injection h with h;subst h;exact hc.2.2.2
 ·cases h
theorem joins_ok:∀{es:List OD} {d x:OD},objOk d=true->joins d es=some x->objOk x=true
 |[],d,x,h,e=>by injection e with e;subst e;exact h
 |b::es,d,x,h,e=>by obtain⟨y,hy,e⟩:=Option.bind_eq_some_iff.1 e;exact joins_ok (joinD_ok hy) e
theorem joinAll_ok{l:List OD}{x:OD}(h:joinAll l=some x):objOk x=true:=by
 cases l with
 |nil=>cases h
 |cons d ds=>
  by_cases hc:objsOk (d::ds)=true
  ·rw[joinAll,if_pos hc]at h;simp only[objsOk,List.all_cons,Bool.and_eq_true]at hc;exact joins_ok hc.2.1 h
  ·rw[joinAll,if_neg hc]at h;cases h
end PJoin
/- Clearing fixups and sorting symbols change no image; plain. -/
namespace PLinkL
open Kit CCode CName CNumber CFixups CSymbols PObj PValid PWarn PClear PSort CObjValid PLink
def Uniq(ys:List YD):Prop:=ys.Pairwise λa b=>¬a.2.1=0->¬b.2.1=0->¬a.1=b.1
theorem syms_iff(ss:List SD)(ys:List YD):symsOk ss ys=true↔(∀y∈ys,symOk ss y=true)/\Uniq ys:=by
 simp only[symsOk,List.all_eq_true,Bool.and_eq_true,List.mem_range,Bool.not_eq_true'];constructor
 ·intro h;refine⟨λy hy=>?_,?_⟩
  ·obtain⟨i,hi,rfl⟩:=List.getElem_of_mem hy;have:=(h i hi).1
   rwa[getD_at hi]at this
  ·rw[Uniq,List.pairwise_iff_getElem];intro i j hi hj hij h1 h2 h3;have:=(h j hj).2;rw[getD_at hj]at this;have hc:clash (ys.take j) ys[j]=true:=by
    unfold clash;rw[Bool.and_eq_true];refine⟨by simpa using h2,List.any_eq_true.2 ⟨ys[i],?_,?_⟩⟩
    ·exact List.mem_take_iff_getElem.2 ⟨i,by omega,rfl⟩
    ·simpa using⟨h1,h3⟩
   rw[hc]at this;cases this
 ·rintro⟨h1,h2⟩ i hi;rw[getD_at hi];refine⟨h1 _ (List.getElem_mem hi),?_⟩;rw[<-Bool.not_eq_true];intro hc;unfold clash at hc;rw[Bool.and_eq_true,List.any_eq_true]at hc;obtain⟨hb,x,hx,hxx⟩:=hc;obtain⟨j,hj,rfl⟩:=List.mem_take_iff_getElem.1 hx;rw[Uniq,List.pairwise_iff_getElem]at h2;simp only[Bool.and_eq_true,Bool.not_eq_true',decide_eq_false_iff_not,decide_eq_true_eq]at hb hxx;exact h2 j i (by omega) hi (by omega) hxx.1 hb hxx.2
theorem obj_iff(d:OD):objOk d=true↔d.ss.length<=8/\d.ys.length<=12/\(∀s∈d.ss,secOk d.ys.length s=true)/\(∀y∈d.ys,symOk d.ss y=true)/\Uniq d.ys:=by
 simp only[objOk,Bool.and_eq_true,decide_eq_true_eq,List.all_eq_true,syms_iff];constructor
 ·rintro⟨⟨⟨h1,h2⟩,h3⟩,h4,h5⟩;exact⟨h1,h2,h3,h4,h5⟩
 ·rintro⟨h1,h2,h3,h4,h5⟩;exact⟨⟨⟨h1,h2⟩,h3⟩,h4,h5⟩
theorem sym_facts{ss:List SD}{y:YD}(h:symOk ss y=true):(0<=y.2.1/\y.2.1<=2)/\(y.2.2.1=-1->¬y.2.1=0):=by simp only[symOk,bindOk,Bool.and_eq_true,inB,decide_eq_true_eq]at h;refine⟨h.1.2,λhy=>?_⟩;have h2:=h.2;unfold placeOk at h2;rw[if_pos hy]at h2;simp only[Bool.and_eq_true,Bool.not_eq_true',decide_eq_false_iff_not]at h2;exact h2.2
end PLinkL
/- Sizes of valid objects and of what they are joined to: plain. -/
namespace PJoin2
open Kit CCode CName CFixups CSymbols PObj BObj PValid PWarn PClear PSort PLink PLinkL CGlobalOf PJoin CObjValid
def SmD(d:OD):Prop:=d.ss.length<=32/\d.ys.length<=32/\(∀s∈d.ss,s.nm.size<=8/\s.zs.length<=48/\s.fs.length<=6)/\∀y∈d.ys,y.1.size<=8
theorem nm8{s:ByteArray}(h:nameOk s=true):s.size<=8:=by rw[nameOk,Bool.and_eq_true]at h;have:=h.2;simp only[inB,decide_eq_true_eq]at this;omega
theorem sec_nm{n:Int}{s:SD}(h:secOk n s=true):s.nm.size<=8:=by rw[secOk,Bool.and_eq_true,headOk,Bool.and_eq_true,Bool.and_eq_true]at h;exact nm8 h.1.1.1
theorem sym_nm{ss:List SD}{y:YD}(h:symOk ss y=true):y.1.size<=8:=by rw[symOk,Bool.and_eq_true,bindOk,Bool.and_eq_true]at h;exact nm8 h.1.1
theorem sym_wh{ss:List SD}{y:YD}(h:symOk ss y=true)(hs:ss.length<=8):-2<=y.2.2.1/\y.2.2.1<=8:=by
 rw[symOk,Bool.and_eq_true]at h;have h2:=h.2;unfold placeOk at h2;split at h2
 ·omega
 ·split at h2
  ·omega
  ·simp only[inB,Bool.and_eq_true,decide_eq_true_eq]at h2;omega
theorem valid_sm{d:OD}(h:objOk d=true):SmD d:=by obtain⟨h1,h2,h3,h4,_⟩:=(obj_iff d).1 h;obtain⟨_,_,h5⟩:=obj_all h;exact⟨by omega,by omega,λs hs=>⟨sec_nm (h3 s hs),(h5 s hs).2.1,(h5 s hs).1⟩,λy hy=>sym_nm (h4 y hy)⟩
theorem fit_sm{o:OV}(h:SmD o.d)(hc:o.ys.length<=o.yc):Fit o:=by
 have h1:o.ps.length<=32:=by simpa[OV.d]using h.1
 have h2:o.ys.length<=32:=h.2.1;refine⟨by omega,by omega,hc,λp hp=>?_,λy hy=>?_⟩
 ·obtain⟨a,b,c⟩:=h.2.2.1 p.d (List.mem_map_of_mem hp);have a':p.nm.size<=8:=a;have b':p.zs.length<=48:=b;have c':p.fs.length<=6:=c;unfold maxLen;omega
 ·have:=h.2.2.2 y hy;unfold maxLen;omega
theorem jstep_nm(n:Nat)(xs:List YD)(st:JS)(s:YD)(h:∀y∈st.1,y.1.size<=8)(hs:s.1.size<=8):∀y∈(jstep n xs st s).1,y.1.size<=8:=by
 have hp:∀y∈(jput n st s).1,y.1.size<=8:=λy hy=>by
  rcases List.mem_append.1 hy with hy|hy
  ·exact h y hy
  ·rw[List.mem_singleton.1 hy];exact hs
 unfold jstep;split
 ·exact hp
 ·split
  ·exact hp
  ·rename_i j _;unfold jset;cases takesB (xs.getD j dY) s
   ·exact h
   ·intro y hy;rcases List.mem_or_eq_of_mem_set hy with hy|rfl
    ·exact h y hy
    ·exact hs
theorem joinY_nm(n:Nat)(xs:List YD):∀(bs:List YD) (st:JS),(∀y∈st.1,y.1.size<=8)->(∀y∈bs,y.1.size<=8)->∀y∈(bs.foldl (jstep n xs) st).1,y.1.size<=8
 |[],st,h,_=>h
 |b::bs,st,h,hb=>joinY_nm n xs bs _ (jstep_nm n xs st b h (hb b List.mem_cons_self)) (λy hy=>hb y (List.mem_cons_of_mem _ hy))
theorem join_sm{a b:OD}(ha:objOk a=true)(hb:objOk b=true):SmD (joinR a b):=by
 obtain⟨a1,a2,_⟩:=obj_all ha;obtain⟨b1,b2,_⟩:=obj_all hb;obtain⟨_,_,a3,a4⟩:=valid_sm ha;obtain⟨_,_,b3,b4⟩:=valid_sm hb;have hl:=joinY_len a.ss.length a.ys b.ys (a.ys,[]) (Nat.le_refl _);refine⟨by simp only[joinR,List.length_append,List.length_map];omega,?_,λs hs=>?_,λy hy=>?_⟩
 ·show(joinY a.ss.length a.ys b.ys).1.length<=32
  unfold joinY;have:=hl.2.1;simp only at this;omega
 ·rcases List.mem_append.1 hs with hs|hs
  ·exact a3 s hs
  ·obtain⟨t,ht,rfl⟩:=List.mem_map.1 hs;obtain⟨c1,c2,c3⟩:=b3 t ht;exact⟨c1,c2,by show(t.fs.map _).length<=6;rw[List.length_map];exact c3⟩
 ·exact joinY_nm a.ss.length a.ys b.ys (a.ys,[]) a4 b4 y hy
theorem fix_next{ns:List Int}{f0:List FD}{i:Nat}(hi:i<f0.length):((f0.take i).map (mapF ns)++f0.drop i)[i]?=some f0[i]/\((f0.take i).map (mapF ns)++f0.drop i).set i (mapF ns f0[i])=(f0.take (i+1)).map (mapF ns)++f0.drop (i+1):=by
 have hl:((f0.take i).map (mapF ns)).length=i:=by rw[List.length_map,List.length_take];omega
 constructor
 ·rw[List.getElem?_append_right (by omega),hl,Nat.sub_self,List.drop_eq_getElem_cons hi]
  rfl
 ·rw[List.set_append_right _ _ (by omega),hl,Nat.sub_self,List.drop_eq_getElem_cons hi,List.set_cons_zero,take_succ hi,List.map_append,List.append_assoc]
  rfl
theorem fix_len{ns:List Int}{f0:List FD}{i:Nat}:((f0.take i).map (mapF ns)++f0.drop i).length=f0.length:=by rw[List.length_append,List.length_map,List.length_take,List.length_drop];omega
end PJoin2
/- takes: whether the second symbol takes the first one's place; globalOf with its number. -/
namespace CTakes
open Kit CFixups CSymbols PObj BObj PValid PLink PJoin CGlobalOf
set_option maxHeartbeats 2000000 in
theorem takes_any(a b:YD)(w:World):Calls Tryz.prog 145 #[.agg #[.string a.1,.int .i64 a.2.1,.int .i64 a.2.2.1,.int .i64 a.2.2.2],.agg #[.string b.1,.int .i64 b.2.1,.int .i64 b.2.2.1,.int .i64 b.2.2.2]] w (Ret (.bool (takesB a b)) w):=by
 obtain⟨an,ab,aw,av⟩:=a;obtain⟨bn,bb,bw,bv⟩:=b;have HB:=h_ (show Below w.heap.size w ((w.alloc (.cells #[.string an,.int .i64 ab,.int .i64 aw,.int .i64 av] 67)).alloc (.cells #[.string bn,.int .i64 bb,.int .i64 bw,.int .i64 bv] 67))from b_);have X0:=(Box.new w 67 #[.string an,.int .i64 ab,.int .i64 aw,.int .i64 av]).alloc (.cells #[.string bn,.int .i64 bb,.int .i64 bw,.int .i64 bv] 67);have X1:=Box.new (w.alloc (.cells #[.string an,.int .i64 ab,.int .i64 aw,.int .i64 av] 67)) 67 #[.string bn,.int .i64 bb,.int .i64 bw,.int .i64 bv];simp only[World.size_alloc]at X1;have x1:=d_ X0 1;have x2:=d_ X0 2;have y1:=d_ X1 1;have y2:=d_ X1 2;have hxl:=X0.lt;have hyl:=X1.lt;clear X0 X1;simp only;go_enter Tryz.func145,Tryz.ntmps145
 have HV:=h_ (show takesB (an,ab,aw,av) (bn,bb,bw,bv)=if aw=-1 then(if bw=-1 then(decide (bb=1)&& !decide (ab=1))else true)else(if bw=-1 then false else(decide (bb=1)&& !decide (ab=1)))from rfl);by_cases h1:aw=-1
 ·have e0:(aw==(-1))=true:=beq_iff_eq.2 h1;have f0:(aw != (-1))=false:=by rw[bne,e0];rfl
  by_cases h2:bw=-1
  ·have e1:(bw==(-1))=true:=beq_iff_eq.2 h2;have f1:(bw != (-1))=false:=by rw[bne,e1];rfl
   by_cases h3:ab=1
   ·have e2:(ab==1)=true:=beq_iff_eq.2 h3;have f2:(ab != 1)=false:=by rw[bne,e2];rfl
    by_cases h4:bb=1
    ·have e3:(bb==1)=true:=beq_iff_eq.2 h4;have f3:(bb != 1)=false:=by rw[bne,e3];rfl
     have HVV:=h_ (HV.o.trans (show _=false from by simp[h1,h2,h3,h4]));clear HV h1 h2 h3 h4;go_wp2_with fail
     go_ret;refine⟨?_,HB.o⟩;rw[HVV.o];simp[e3,f2,go_sem]
    ·have e3:(bb==1)=false:=beq_eq_false_iff_ne.2 h4;have f3:(bb != 1)=true:=bne_iff_ne.2 h4;have HVV:=h_ (HV.o.trans (show _=false from by simp[h1,h2,h3,h4]));clear HV h1 h2 h3 h4;go_wp2_with fail
     go_ret;refine⟨?_,HB.o⟩;rw[HVV.o];simp[e3,f2,go_sem]
   ·have e2:(ab==1)=false:=beq_eq_false_iff_ne.2 h3;have f2:(ab != 1)=true:=bne_iff_ne.2 h3;by_cases h4:bb=1
    ·have e3:(bb==1)=true:=beq_iff_eq.2 h4;have f3:(bb != 1)=false:=by rw[bne,e3];rfl
     have HVV:=h_ (HV.o.trans (show _=true from by simp[h1,h2,h3,h4]));clear HV h1 h2 h3 h4;go_wp2_with fail
     go_ret;refine⟨?_,HB.o⟩;rw[HVV.o];simp[e3,f2,go_sem]
    ·have e3:(bb==1)=false:=beq_eq_false_iff_ne.2 h4;have f3:(bb != 1)=true:=bne_iff_ne.2 h4;have HVV:=h_ (HV.o.trans (show _=false from by simp[h1,h2,h3,h4]));clear HV h1 h2 h3 h4;go_wp2_with fail
     go_ret;refine⟨?_,HB.o⟩;rw[HVV.o];simp[e3,f2,go_sem]
  ·have e1:(bw==(-1))=false:=beq_eq_false_iff_ne.2 h2;have f1:(bw != (-1))=true:=bne_iff_ne.2 h2;by_cases h3:ab=1
   ·have e2:(ab==1)=true:=beq_iff_eq.2 h3;have f2:(ab != 1)=false:=by rw[bne,e2];rfl
    by_cases h4:bb=1
    ·have e3:(bb==1)=true:=beq_iff_eq.2 h4;have f3:(bb != 1)=false:=by rw[bne,e3];rfl
     have HVV:=h_ (HV.o.trans (show _=true from by simp[h1,h2,h3,h4]));clear HV h1 h2 h3 h4;go_wp2_with fail
     go_ret;refine⟨?_,HB.o⟩;rw[HVV.o];simp[e3,f2,go_sem]
    ·have e3:(bb==1)=false:=beq_eq_false_iff_ne.2 h4;have f3:(bb != 1)=true:=bne_iff_ne.2 h4;have HVV:=h_ (HV.o.trans (show _=true from by simp[h1,h2,h3,h4]));clear HV h1 h2 h3 h4;go_wp2_with fail
     go_ret;refine⟨?_,HB.o⟩;rw[HVV.o];simp[e3,f2,go_sem]
   ·have e2:(ab==1)=false:=beq_eq_false_iff_ne.2 h3;have f2:(ab != 1)=true:=bne_iff_ne.2 h3;by_cases h4:bb=1
    ·have e3:(bb==1)=true:=beq_iff_eq.2 h4;have f3:(bb != 1)=false:=by rw[bne,e3];rfl
     have HVV:=h_ (HV.o.trans (show _=true from by simp[h1,h2,h3,h4]));clear HV h1 h2 h3 h4;go_wp2_with fail
     go_ret;refine⟨?_,HB.o⟩;rw[HVV.o];simp[e3,f2,go_sem]
    ·have e3:(bb==1)=false:=beq_eq_false_iff_ne.2 h4;have f3:(bb != 1)=true:=bne_iff_ne.2 h4;have HVV:=h_ (HV.o.trans (show _=true from by simp[h1,h2,h3,h4]));clear HV h1 h2 h3 h4;go_wp2_with fail
     go_ret;refine⟨?_,HB.o⟩;rw[HVV.o];simp[e3,f2,go_sem]
 ·have e0:(aw==(-1))=false:=beq_eq_false_iff_ne.2 h1;have f0:(aw != (-1))=true:=bne_iff_ne.2 h1;by_cases h2:bw=-1
  ·have e1:(bw==(-1))=true:=beq_iff_eq.2 h2;have f1:(bw != (-1))=false:=by rw[bne,e1];rfl
   by_cases h3:ab=1
   ·have e2:(ab==1)=true:=beq_iff_eq.2 h3;have f2:(ab != 1)=false:=by rw[bne,e2];rfl
    by_cases h4:bb=1
    ·have e3:(bb==1)=true:=beq_iff_eq.2 h4;have f3:(bb != 1)=false:=by rw[bne,e3];rfl
     have HVV:=h_ (HV.o.trans (show _=false from by simp[h1,h2,h3,h4]));clear HV h1 h2 h3 h4;go_wp2_with fail
     go_ret;refine⟨?_,HB.o⟩;rw[HVV.o];simp[e3,f2,go_sem]
    ·have e3:(bb==1)=false:=beq_eq_false_iff_ne.2 h4;have f3:(bb != 1)=true:=bne_iff_ne.2 h4;have HVV:=h_ (HV.o.trans (show _=false from by simp[h1,h2,h3,h4]));clear HV h1 h2 h3 h4;go_wp2_with fail
     go_ret;refine⟨?_,HB.o⟩;rw[HVV.o];simp[e3,f2,go_sem]
   ·have e2:(ab==1)=false:=beq_eq_false_iff_ne.2 h3;have f2:(ab != 1)=true:=bne_iff_ne.2 h3;by_cases h4:bb=1
    ·have e3:(bb==1)=true:=beq_iff_eq.2 h4;have f3:(bb != 1)=false:=by rw[bne,e3];rfl
     have HVV:=h_ (HV.o.trans (show _=false from by simp[h1,h2,h3,h4]));clear HV h1 h2 h3 h4;go_wp2_with fail
     go_ret;refine⟨?_,HB.o⟩;rw[HVV.o];simp[e3,f2,go_sem]
    ·have e3:(bb==1)=false:=beq_eq_false_iff_ne.2 h4;have f3:(bb != 1)=true:=bne_iff_ne.2 h4;have HVV:=h_ (HV.o.trans (show _=false from by simp[h1,h2,h3,h4]));clear HV h1 h2 h3 h4;go_wp2_with fail
     go_ret;refine⟨?_,HB.o⟩;rw[HVV.o];simp[e3,f2,go_sem]
  ·have e1:(bw==(-1))=false:=beq_eq_false_iff_ne.2 h2;have f1:(bw != (-1))=true:=bne_iff_ne.2 h2;by_cases h3:ab=1
   ·have e2:(ab==1)=true:=beq_iff_eq.2 h3;have f2:(ab != 1)=false:=by rw[bne,e2];rfl
    by_cases h4:bb=1
    ·have e3:(bb==1)=true:=beq_iff_eq.2 h4;have f3:(bb != 1)=false:=by rw[bne,e3];rfl
     have HVV:=h_ (HV.o.trans (show _=false from by simp[h1,h2,h3,h4]));clear HV h1 h2 h3 h4;go_wp2_with fail
     go_ret;refine⟨?_,HB.o⟩;rw[HVV.o];simp[e3,f2,go_sem]
    ·have e3:(bb==1)=false:=beq_eq_false_iff_ne.2 h4;have f3:(bb != 1)=true:=bne_iff_ne.2 h4;have HVV:=h_ (HV.o.trans (show _=false from by simp[h1,h2,h3,h4]));clear HV h1 h2 h3 h4;go_wp2_with fail
     go_ret;refine⟨?_,HB.o⟩;rw[HVV.o];simp[e3,f2,go_sem]
   ·have e2:(ab==1)=false:=beq_eq_false_iff_ne.2 h3;have f2:(ab != 1)=true:=bne_iff_ne.2 h3;by_cases h4:bb=1
    ·have e3:(bb==1)=true:=beq_iff_eq.2 h4;have f3:(bb != 1)=false:=by rw[bne,e3];rfl
     have HVV:=h_ (HV.o.trans (show _=true from by simp[h1,h2,h3,h4]));clear HV h1 h2 h3 h4;go_wp2_with fail
     go_ret;refine⟨?_,HB.o⟩;rw[HVV.o];simp[e3,f2,go_sem]
    ·have e3:(bb==1)=false:=beq_eq_false_iff_ne.2 h4;have f3:(bb != 1)=true:=bne_iff_ne.2 h4;have HVV:=h_ (HV.o.trans (show _=false from by simp[h1,h2,h3,h4]));clear HV h1 h2 h3 h4;go_wp2_with fail
     go_ret;refine⟨?_,HB.o⟩;rw[HVV.o];simp[e3,f2,go_sem]
theorem fi_take{nm:ByteArray}{ys:List YD}:∀{k:Nat} (n:Nat),(hk:k<ys.length)->(ys.take k).any (hit nm)=false->hit nm ys[k]=true->fiS (hit nm) n ys=some (n+k):=by
 intro k;induction k generalizing ys with
 |zero=>
  intro n hk _ h;cases ys with
  |nil=>cases hk
  |cons y ys=>
   rw[fiS];simp only[List.getElem_cons_zero]at h;rw[h]
   rfl
 |succ k ih=>
  intro n hk h0 h;cases ys with
  |nil=>cases hk
  |cons y ys=>
   rw[List.take_succ_cons,List.any_cons,Bool.or_eq_false_iff]at h0;rw[fiS,h0.1,cond_false,ih (n+1) (by simpa using hk) h0.2 (by simpa using h)];congr 1
   omega
def globI(ys:List YD)(nm:ByteArray):Int:=match glob ys nm with
 |some j=>j
 |none=>-1
theorem globI_none{ys:List YD}{nm:ByteArray}(h:ys.any (hit nm)=false):globI ys nm=-1:=by
 unfold globI glob;rw[(fiS_none ys 0).2 (λy hy=>by
  rw[List.any_eq_false]at h;simpa using h y hy)]
theorem globI_some{ys:List YD}{nm:ByteArray}{k:Nat}(hk:k<ys.length)(h0:(ys.take k).any (hit nm)=false)(h:hit nm ys[k]=true):globI ys nm=k:=by unfold globI glob;rw[fi_take 0 hk h0 h,Nat.zero_add]
theorem indexX_any(nm:ByteArray)(N:Nat)(A:Option Addr)(ys:List YD)(c:Nat)(w:World)(hr:Rd w w.heap.size A (cellsOf symbolC ys))(hm:ys.length<=maxLen)(hN:N<w.heap.size)(hc:w.cell? ⟨N,0,none⟩=some (.string nm)):
  Calls Tryz.prog 138 #[.slice A ys.length c,.func (.func 139) #[] #[.pointer (some ⟨N,0,none⟩)]] w (Ret (.int .i64 (globI ys nm)) w):=by
 unfold maxLen at hm;go_enter Tryz.func138,Tryz.ntmps138
 go_wp2
 go_loopw [8] (λi wr=>∃k:Nat,k<=ys.length/\i=.int .i64 k/\(ys.take k).any (hit nm)=false/\Below w.heap.size w wr) (λi _=>ys.length-(intOf i).toNat)
 case atStart=>exact⟨0,Nat.zero_le _,rfl,rfl,Below.refl _ _⟩
 case round=>
  obtain⟨k,hk,rfl,hn,hb⟩:=hrel;have HB:=h_ hb;by_cases hlt:k<ys.length
  ·obtain⟨b,off,rfl,hbb,hcc⟩:=(hr.below hb).row symbolC_len (by decide) hlt;have hc0:=hcc 0 _ rfl;have hc1:=hcc 1 _ rfl;have hc2:=hcc 2 _ rfl;have hc3:=hcc 3 _ rfl;simp only[Nat.add_zero]at hc0;have HS:=h_ (show(ys.take (k+1)).any (hit nm)=hit nm ys[k]by rw[take_succ hlt,List.any_append,hn];simp);have HT:=h_ (show hit nm ys[k]=true->globI ys nm=k from λh=>globI_some hlt hn h);have HP:=h_ (λz=>pred_any nm N z wr (Nat.lt_of_lt_of_le hN hb.size) ((hb.cell (p:=⟨N,0,none⟩) hN).trans hc));clear hr hb hcc hn hc;generalize ys[k]=z at *;have hpred:=HP.o z;cases h:hit nm z
   ·have HS':=h_ (HS.o.trans h);rw[h]at hpred;clear HT HS h HP;go_wp2_with fail
    refine hpred.mono ?_;rintro e w2 ⟨rfl,b2⟩;have HB':=h_ (HB.o.trans (b2.mono HB.o.size));clear b2 hc0 hc1 hc2 hc3;go_wp2_with fail
    refine⟨⟨k+1,by omega,by go_num,HS'.o,HB'.o⟩,by simp[intOf];omega⟩
   ·have HT':=h_ (HT.o h);rw[h]at hpred;clear HT HS h HP;go_wp2_with fail
    refine hpred.mono ?_;rintro e w2 ⟨rfl,b2⟩;have HB':=h_ (HB.o.trans (b2.mono HB.o.size));clear b2 hc0 hc1 hc2 hc3;go_wp2_with fail
    go_ret;exact⟨by rw[HT'.o];rfl,HB'.o⟩
  ·have HN:=h_ (globI_none (show ys.any (hit nm)=false by rw[<-hn,List.take_of_length_le (by omega)]));clear hr hb hn hc;go_wp2_with fail
   go_ret;exact⟨by rw[HN.o];rfl,HB.o⟩
theorem globX_any(nm:ByteArray)(A:Option Addr)(ys:List YD)(c:Nat)(w:World)(hr:Rd w w.heap.size A (cellsOf symbolC ys))(hm:ys.length<=maxLen):
  Calls Tryz.prog 84 #[.slice A ys.length c,.string nm] w (Ret (.int .i64 (globI ys nm)) w):=by
 have B0:Below w.heap.size w (w.alloc (.cells #[.string nm] 9)):=b_;have X0:=Box.new w 9 #[.string nm];have x0:=d_ X0 0;have HX:=h_ (And.intro X0.lt x0);have HB:=h_ B0;have HR:=h_ ((hr.below B0).more B0.size);clear B0 hr X0 x0;go_enter Tryz.func84,Tryz.ntmps84
 go_wp2_with fail
 refine(indexX_any nm w.heap.size A ys c _ HR.o hm HX.o.1 HX.o.2).mono ?_;rintro e w2 ⟨rfl,b2⟩;have HB2:=h_ (HB.o.trans (b2.mono HB.o.size));clear b2;generalize globI ys nm=r at *;go_wp2_with fail
 go_ret;exact⟨rfl,HB2.o⟩
end CTakes
/- JoinObjects: one object in place of two; the program's. -/
namespace CJoinI
open Kit CCode CName CFixups CSymbols PObj BObj PValid PWarn PClear PSort PLink PLinkL CSorted CNames BList CMarkRows BObj2 BRetO BStore BJoin PJoin PJoin2 CTakes CObjValid CCopyS CCopyI CGlobalOf CFind
theorem one_sy(y:YD):∀u∈symbolC y,u.oneCell'=true:=by
 intro u hu;simp only[symbolC,List.mem_cons,List.not_mem_nil,or_false]at hu;rcases hu with rfl|rfl|rfl|rfl<;>rfl
theorem one_six{a:ByteArray}{b c e:Int}{A B:Option Addr}{n m p q:Nat}:∀u∈[Value.string a,.int .i64 b,.int .i64 c,.slice A n m,.int .i64 e,.slice B p q],u.oneCell'=true:=by
 intro u hu;simp only[List.mem_cons,List.not_mem_nil,or_false]at hu;rcases hu with rfl|rfl|rfl|rfl|rfl|rfl<;>rfl
theorem wrap_add{x n:Int}(h:-1000<=x+n/\x+n<=1000):IntKind.i64.wrap (x+n)=x+n:=IntWalk.i64_in _ (by omega)
set_option maxHeartbeats 40000000 in
theorem joinObjects_any(a b:OV)(w:World)(hra:RdO w w.heap.size a)(hrb:RdO w w.heap.size b)(hfa:Fit a)(hfb:Fit b)(hna:Nils a)(hnb:Nils b):
  Calls Tryz.prog 92 #[.agg #[.slice a.A a.ps.length a.c,.slice a.Y a.ys.length a.yc],.agg #[.slice b.A b.ps.length b.c,.slice b.Y b.ys.length b.yc]] w (RetOB (joinD a.d b.d) w):=by
 obtain⟨i0,hi1,hi2,hi3,hi4⟩:=info_parts CInts.info64;have HI:=h_ (And.intro hi1 (And.intro hi2 (And.intro hi3 hi4)));clear hi1 hi2 hi3 hi4;obtain⟨iY,hiy1,hiy2,hiy3,hiy4⟩:=info_parts CSymbols.info;have HIY:=h_ (And.intro hiy1 (And.intro hiy2 (And.intro hiy3 hiy4)));clear hiy1 hiy2 hiy3 hiy4;obtain⟨iS,his1,his2,his3,his4⟩:=info_parts BObj.info;have HIS:=h_ (And.intro his1 (And.intro his2 (And.intro his3 his4)));clear his1 his2 his3 his4;obtain⟨aA,ac,aps,aY,ayc,ays⟩:=a;obtain⟨bA,bc,bps,bY,byc,bys⟩:=b;have HRA:=h_ hra;have HRB:=h_ hrb;have HFA:=h_ hfa;have HFB0:=h_ hfb;have HNA:=h_ hna;have HNB:=h_ hnb;clear hra hrb hfa hfb hna hnb;simp only;have HB:=h_ (show Below w.heap.size w (((w.alloc (.cells #[.slice aA aps.length ac,.slice aY ays.length ayc] 26)).alloc (.cells #[.slice bA bps.length bc,.slice bY bys.length byc] 26)).alloc (.cells #[.slice none 0 0,.slice none 0 0] 26))from b_);have HBA:=h_ (((Box.new w 26 #[.slice aA aps.length ac,.slice aY ays.length ayc]).alloc (.cells #[.slice bA bps.length bc,.slice bY bys.length byc] 26)).alloc (.cells #[.slice none 0 0,.slice none 0 0] 26));have h1:=(Box.new (w.alloc (.cells #[.slice aA aps.length ac,.slice aY ays.length ayc] 26)) 26 #[.slice bA bps.length bc,.slice bY bys.length byc]).alloc (.cells #[.slice none 0 0,.slice none 0 0] 26);have h2:=Box.new ((w.alloc (.cells #[.slice aA aps.length ac,.slice aY ays.length ayc] 26)).alloc (.cells #[.slice bA bps.length bc,.slice bY bys.length byc] 26)) 26 #[.slice none 0 0,.slice none 0 0];simp only[World.size_alloc]at h1 h2;have HBB:=h_ h1;have HRR:=h_ h2;clear h1 h2;go_enter Tryz.func92,Tryz.ntmps92
 go_wp2_with fail
 generalize (((w.alloc (.cells #[.slice aA aps.length ac,.slice aY ays.length ayc] 26)).alloc (.cells #[.slice bA bps.length bc,.slice bY bys.length byc] 26)).alloc (.cells #[.slice none 0 0,.slice none 0 0] 26))=w0 at *;generalize hV:w.heap.size+1=V at *;generalize hR:V+1=R at *;have HVR:=h_ (show w.heap.size<V/\V<R from by omega);have HR0:=h_ (show w.heap.size<R from by omega);clear hV hR;refine(objectValid_any ⟨aA,ac,aps,aY,ayc,ays⟩ w0 ((HRA.o.below HB.o).more HB.o.size) HFA.o).mono ?_;rintro e w1 ⟨rfl,b1⟩;replace HB:=c_ HB b1;replace HBA:=h_ (HBA.o.call b1);replace HBB:=h_ (HBB.o.call b1);replace HRR:=h_ (HRR.o.call b1);clear b1;have HJD:=h_ (show joinD (OV.d ⟨aA,ac,aps,aY,ayc,ays⟩) (OV.d ⟨bA,bc,bps,bY,byc,bys⟩)=if objOk (OV.d ⟨aA,ac,aps,aY,ayc,ays⟩)=true/\objOk (OV.d ⟨bA,bc,bps,bY,byc,bys⟩)=true/\(twice [(OV.d ⟨aA,ac,aps,aY,ayc,ays⟩),(OV.d ⟨bA,bc,bps,bY,byc,bys⟩)]).length=0/\objOk (joinR (OV.d ⟨aA,ac,aps,aY,ayc,ays⟩) (OV.d ⟨bA,bc,bps,bY,byc,bys⟩))=true then some (joinR (OV.d ⟨aA,ac,aps,aY,ayc,ays⟩) (OV.d ⟨bA,bc,bps,bY,byc,bys⟩))else none from rfl);cases hoa:objOk (OV.d ⟨aA,ac,aps,aY,ayc,ays⟩)
 ·have HV:=h_ (HJD.o.trans (if_neg (by rw[hoa];rintro⟨h,_⟩;cases h)));clear hoa HJD;have y0:=d_ HRR.o 0;have y1:=d_ HRR.o 1;have yf0:=HRR.o.frozen 0;have yf1:=HRR.o.frozen 1;have hrl:=HRR.o.lt;obtain⟨k0,k1⟩:=cells2 (u:=.slice none 0 0) (v:=.slice none 0 0) HRR.o;have HFB:=h_ (below2 HB.o (Nat.le_of_lt HR0.o) (.slice none 0 0) (.slice none 0 0));go_wp2_with fail
  (try simp only[Exit.inBlock,Exit.then])
  exact bodyPost_ret (v:=.tuple #[.agg #[.slice none 0 0,.slice none 0 0],.bool false]) (by simp[results,Tryz.results92,go_sem,k0,k1]) rfl (by rw[HV.o];exact ret_nilO HFB.o)
 have y0:=d_ HBB.o 0;have y1:=d_ HBB.o 1;have hyl:=HBB.o.lt;have HOA:=h_ hoa;clear hoa;go_wp2_with fail
 clear y0 y1 hyl;refine(objectValid_any ⟨bA,bc,bps,bY,byc,bys⟩ w1 ((HRB.o.below HB.o).more HB.o.size) HFB0.o).mono ?_;rintro e w2 ⟨rfl,b2⟩;replace HB:=c_ HB b2;replace HBA:=h_ (HBA.o.call b2);replace HBB:=h_ (HBB.o.call b2);replace HRR:=h_ (HRR.o.call b2);clear b2;cases hob:objOk (OV.d ⟨bA,bc,bps,bY,byc,bys⟩)
 ·have HV:=h_ (HJD.o.trans (if_neg (by rw[hob];rintro⟨_,h,_⟩;cases h)));clear hob HJD;have y0:=d_ HRR.o 0;have y1:=d_ HRR.o 1;have yf0:=HRR.o.frozen 0;have yf1:=HRR.o.frozen 1;have hrl:=HRR.o.lt;obtain⟨k0,k1⟩:=cells2 (u:=.slice none 0 0) (v:=.slice none 0 0) HRR.o;have HFB:=h_ (below2 HB.o (Nat.le_of_lt HR0.o) (.slice none 0 0) (.slice none 0 0));go_wp2_with fail
  (try simp only[Exit.inBlock,Exit.then])
  exact bodyPost_ret (v:=.tuple #[.agg #[.slice none 0 0,.slice none 0 0],.bool false]) (by simp[results,Tryz.results92,go_sem,k0,k1]) rfl (by rw[HV.o];exact ret_nilO HFB.o)
 have HOB:=h_ hob;clear hob;obtain⟨va1,va2,va3,va4⟩:=valid_sm HOA.o;obtain⟨vb1,vb2,vb3,vb4⟩:=valid_sm HOB.o;have HSA:=h_ (obj_all HOA.o);have HSB:=h_ (obj_all HOB.o);have ha12:ays.length<=12:=HSA.o.2.1;have hb12:bys.length<=12:=HSB.o.2.1;have ha8:aps.length<=8:=by have h:=HSA.o.1;simpa[OV.d]using h
 have hb8:bps.length<=8:=by have h:=HSB.o.1;simpa[OV.d]using h
 have HYB:=h_ (show ∀y∈bys,-2<=y.2.2.1/\y.2.2.1<=8 from λy hy=>sym_wh (((obj_iff _).1 HOB.o).2.2.2.1 y hy) ((obj_iff _).1 HOB.o).1);clear va1 va2 va3 va4 vb1 vb2 vb3 vb4;have x0:=d_ HBA.o 0;have x1:=d_ HBA.o 1;have y0:=d_ HBB.o 0;have y1:=d_ HBB.o 1;have hxl:=HBA.o.lt;have hyl:=HBB.o.lt;have BL:Below w2.heap.size w2 (w2.alloc (.cells #[.slice aA aps.length ac,.slice aY ays.length ayc,.slice bA bps.length bc,.slice bY bys.length byc] 26)):=b_;have HTW:=h_ (show Calls Tryz.prog 53 #[.slice (some ⟨w2.heap.size,0,none⟩) 2 2] (w2.alloc (.cells #[.slice aA aps.length ac,.slice aY ays.length ayc,.slice bA bps.length bc,.slice bY bys.length byc] 26)) (RetN (srtN (twice [(OV.d ⟨aA,ac,aps,aY,ayc,ays⟩),(OV.d ⟨bA,bc,bps,bY,byc,bys⟩)])) (w2.alloc (.cells #[.slice aA aps.length ac,.slice aY ays.length ayc,.slice bA bps.length bc,.slice bY bys.length byc] 26)))from by
  have hrd:=rd_lit w2 #[.slice aA aps.length ac,.slice aY ays.length ayc,.slice bA bps.length bc,.slice bY bys.length byc] 26 _ rfl;have hsz:(w2.alloc (.cells #[.slice aA aps.length ac,.slice aY ays.length ayc,.slice bA bps.length bc,.slice bY bys.length byc] 26)).heap.size=w2.heap.size+1:=by simp
  have h:=namesTwice_any (some ⟨w2.heap.size,0,none⟩) [⟨aA,ac,aps,aY,ayc,ays⟩,⟨bA,bc,bps,bY,byc,bys⟩] 2 (w2.alloc (.cells #[.slice aA aps.length ac,.slice aY ays.length ayc,.slice bA bps.length bc,.slice bY bys.length byc] 26)) ⟨by rw[hsz];exact hrd,λo ho=>by
   simp only[List.mem_cons,List.not_mem_nil,or_false]at ho;rcases ho with rfl|rfl
   ·exact(HRA.o.below (HB.o.trans (BL.mono HB.o.size))).more (by rw[hsz];have:=HB.o.size;omega)
   ·exact(HRB.o.below (HB.o.trans (BL.mono HB.o.size))).more (by rw[hsz];have:=HB.o.size;omega)⟩ ⟨by simp,λo ho=>by
   simp only[List.mem_cons,List.not_mem_nil,or_false]at ho;rcases ho with rfl|rfl
   ·exact ha12
   ·exact hb12⟩
  exact h)
 replace HB:=c_ HB BL;replace HBA:=h_ (HBA.o.call BL);replace HBB:=h_ (HBB.o.call BL);replace HRR:=h_ (HRR.o.call BL);clear BL;go_wp2_with fail
 clear x0 x1 y0 y1 hxl hyl;generalize w2.alloc (.cells #[.slice aA aps.length ac,.slice aY ays.length ayc,.slice bA bps.length bc,.slice bY bys.length byc] 26)=w3 at *;refine HTW.o.mono ?_;rintro e w4 ⟨A3,c3,rfl,_,b3⟩;clear HTW;replace HB:=c_ HB b3;replace HBA:=h_ (HBA.o.call b3);replace HBB:=h_ (HBB.o.call b3);replace HRR:=h_ (HRR.o.call b3);clear b3;have HTP:=h_ (srtN_pos (twice [(OV.d ⟨aA,ac,aps,aY,ayc,ays⟩),(OV.d ⟨bA,bc,bps,bY,byc,bys⟩)]));by_cases ht:0<(twice [(OV.d ⟨aA,ac,aps,aY,ayc,ays⟩),(OV.d ⟨bA,bc,bps,bY,byc,bys⟩)]).length
 ·have HV:=h_ (HJD.o.trans (if_neg (by rintro⟨_,_,h,_⟩;omega)));have et:decide (0<(srtN (twice [(OV.d ⟨aA,ac,aps,aY,ayc,ays⟩),(OV.d ⟨bA,bc,bps,bY,byc,bys⟩)])).length)=true:=decide_eq_true (HTP.o.2 ht);generalize (srtN (twice [(OV.d ⟨aA,ac,aps,aY,ayc,ays⟩),(OV.d ⟨bA,bc,bps,bY,byc,bys⟩)])).length=tn at *;clear ht HJD;have y0:=d_ HRR.o 0;have y1:=d_ HRR.o 1;have yf0:=HRR.o.frozen 0;have yf1:=HRR.o.frozen 1;have hrl:=HRR.o.lt;obtain⟨k0,k1⟩:=cells2 (u:=.slice none 0 0) (v:=.slice none 0 0) HRR.o;have HFB:=h_ (below2 HB.o (Nat.le_of_lt HR0.o) (.slice none 0 0) (.slice none 0 0));go_wp2_with fail
  (try simp only[Exit.inBlock,Exit.then])
  exact bodyPost_ret (v:=.tuple #[.agg #[.slice none 0 0,.slice none 0 0],.bool false]) (by simp[results,Tryz.results92,go_sem,k0,k1]) rfl (by rw[HV.o];exact ret_nilO HFB.o)
 have et:decide (0<(srtN (twice [(OV.d ⟨aA,ac,aps,aY,ayc,ays⟩),(OV.d ⟨bA,bc,bps,bY,byc,bys⟩)])).length)=false:=decide_eq_false (λh=>ht (HTP.o.1 h));have HT0:=h_ (show(twice [(OV.d ⟨aA,ac,aps,aY,ayc,ays⟩),(OV.d ⟨bA,bc,bps,bY,byc,bys⟩)]).length=0 from by omega);clear ht HTP;generalize (srtN (twice [(OV.d ⟨aA,ac,aps,aY,ayc,ays⟩),(OV.d ⟨bA,bc,bps,bY,byc,bys⟩)])).length=tn at *;have x0:=d_ HBA.o 0;have x1:=d_ HBA.o 1;have hxl:=HBA.o.lt;go_wp2_with fail
 clear x0 x1 hxl et;refine(copyObject_any ⟨aA,ac,aps,aY,ayc,ays⟩ w4 ((HRA.o.below HB.o).more HB.o.size) HFA.o HNA.o ⟨by show aps.length<=100;omega,by show ays.length<=100;omega⟩).mono ?_;rintro e w5 ⟨q,rfl,hqd,o5,b5⟩;have HQD:=h_ hqd;simp only[OV.v];have B6:Below w5.heap.size w5 ((w5.alloc (.cells #[] 3)).alloc (.cells #[.slice q.A q.ps.length q.c,.slice q.Y q.ys.length q.yc] 26)):=b_;have hO:=Box.new (w5.alloc (.cells #[] 3)) 26 #[.slice q.A q.ps.length q.c,.slice q.Y q.ys.length q.yc];simp only[World.size_alloc]at hO;have HRw:=h_ HRR.o.lt;have hs45:=b5.size;replace HB:=c_ HB b5;replace HBA:=h_ (HBA.o.call b5);replace HBB:=h_ (HBB.o.call b5);replace HRR:=h_ (HRR.o.call b5);replace HB:=c_ HB B6;replace HBA:=h_ (HBA.o.call B6);replace HBB:=h_ (HBB.o.call B6);replace HRR:=h_ (HRR.o.call B6);have HJ:=h_ (show J1 w V R (w5.heap.size+1) ⟨aA,ac,aps,aY,ayc,ays⟩ ⟨bA,bc,bps,bY,byc,bys⟩ q (some ⟨w5.heap.size,0,none⟩) 0 [] ((w5.alloc (.cells #[] 3)).alloc (.cells #[.slice q.A q.ps.length q.c,.slice q.Y q.ys.length q.yc] 26))from
  ⟨HBA.o,HBB.o,HRR.o,hO,(o5.down (by have:=HRw.o;have:=HR0.o;omega)).call B6,Row.empty _ _ _ _ _,HB.o,⟨HVR.o.1,HVR.o.2,by have:=HRw.o;omega⟩⟩)
 clear o5 b5 B6 hO hqd HRR HBA HBB HB HRw hs45;have y1:=d_ HJ.o.bb 1;have hyl:=HJ.o.bb.lt;go_wp2_with fail
 clear y1 hyl;generalize (w5.alloc (.cells #[] 3)).alloc (.cells #[.slice q.A q.ps.length q.c,.slice q.Y q.ys.length q.yc] 26)=w6 at *;generalize w5.heap.size+1=O at *;have HQY:=h_ (show q.ys=ays/\q.ps.map SV.d=aps.map SV.d from by
  have h:=HQD.o;simp only[OV.d,OD.mk.injEq]at h;exact⟨h.2,h.1⟩)
 go_loopw [7,38] (λnv i wi=>∃(k:Nat) (o:OV) (An:Option Addr) (cn:Nat) (ns:List Int),k<=bys.length/\nv=.slice An ns.length cn/\i=.int .i64 k/\(o.ys,ns)=joinY aps.length ays (bys.take k)/\o.ps.map SV.d=aps.map SV.d/\J1 w V R O ⟨aA,ac,aps,aY,ayc,ays⟩ ⟨bA,bc,bps,bY,byc,bys⟩ o An cn ns wi) (λ_ i _=>bys.length-(intOf i).toNat)
 case atStart=>exact⟨0,q,_,0,[],Nat.zero_le _,rfl,rfl,by rw[HQY.o.1];rfl,HQY.o.2,HJ.o⟩
 case round=>
  clear HJ HQY HQD;obtain⟨k,⟨oA,oc,ops,oY,oyc,oys⟩,An,cn,ns,hk,rfl,rfl,hjy,hod,hj⟩:=hrel;simp only at hjy hod;have HJ:=h_ hj;have HOD:=h_ hod;have HJY:=h_ hjy;clear hj hod hjy;have hol:ays.length<=oys.length/\oys.length<=ays.length+k/\ns.length=k:=by have h:=joinY_len aps.length ays (bys.take k) (ays,[]) (Nat.le_refl _);have h2:(oys,ns)=(bys.take k).foldl (jstep aps.length ays) (ays,[]):=HJY.o;rw[<-h2]at h;simp only[List.length_take,List.length_nil]at h;have hm:min k bys.length=k:=Nat.min_eq_left hk;rw[hm]at h;omega
  obtain⟨hol1,hol2,hol3⟩:=hol;have HNL:=h_ hol3;have hol4:ns.length<=12:=by omega
  clear hol3;by_cases hlt:k<bys.length
  ·obtain⟨bb,off,hbY,hbb,hc⟩:=(HRB.o.2.below HJ.o.b).row symbolC_len (by decide) hlt;simp only at hbY;have hc0:=hc 0 _ rfl;have hc1:=hc 1 _ rfl;have hc2:=hc 2 _ rfl;have hc3:=hc 3 _ rfl;simp only[Nat.add_zero]at hc0;subst hbY;have HYS:=h_ (HYB.o _ (List.getElem_mem hlt));have HSN:=h_ (joinY_snoc aps.length ays hlt);rw[<-HJY.o]at HSN;clear hc HJY;generalize bys[k]=s at *;have B1:Below wr.heap.size wr ((wr.alloc (.cells #[.string s.1,.int .i64 s.2.1,.int .i64 s.2.2.1,.int .i64 s.2.2.2] 67)).alloc (.cells #[.string s.1,.int .i64 s.2.1,.int .i64 s.2.2.1,.int .i64 s.2.2.2] 67)):=b_;have HB1:=h_ B1;have HX9:=h_ ((Box.new wr 67 #[.string s.1,.int .i64 s.2.1,.int .i64 s.2.2.1,.int .i64 s.2.2.2]).alloc (.cells #[.string s.1,.int .i64 s.2.1,.int .i64 s.2.2.1,.int .i64 s.2.2.2] 67));have hx:=Box.new (wr.alloc (.cells #[.string s.1,.int .i64 s.2.1,.int .i64 s.2.2.1,.int .i64 s.2.2.2] 67)) 67 #[.string s.1,.int .i64 s.2.1,.int .i64 s.2.2.1,.int .i64 s.2.2.2];simp only[World.size_alloc]at hx;have HXO:=h_ hx;clear B1 hx;go_upto_if 45 with(fail)
   clear hc0 hc1 hc2 hc3;generalize (wr.alloc (.cells #[.string s.1,.int .i64 s.2.1,.int .i64 s.2.2.1,.int .i64 s.2.2.2] 67)).alloc (.cells #[.string s.1,.int .i64 s.2.1,.int .i64 s.2.2.1,.int .i64 s.2.2.2] 67)=wx at *;generalize hXX:wr.heap.size+1=X at *;have hXw:wr.heap.size<X:=by omega
   clear hXX;go_cut []from 43 to 52 (λwy=>Below wr.heap.size wr wy/\Box wy wr.heap.size 67 #[.string s.1,.int .i64 s.2.1,.int .i64 s.2.2.1,.int .i64 s.2.2.2]/\Box wy X 67 #[.string s.1,.int .i64 s.2.1,.int .i64 (shiftY aps.length s).2.2.1,.int .i64 s.2.2.2])
   case first=>
    obtain⟨hw0,hw1⟩:=HYS.o;by_cases hneg:s.2.2.1<0
    ·have HSH:=h_ (show(shiftY aps.length s).2.2.1=s.2.2.1 from if_pos hneg);have hd:decide (0<=s.2.2.1)=false:=decide_eq_false (by omega);go_wp2_with fail
     go_meet
     rw[HSH.o];exact⟨HB1.o,HX9.o,HXO.o⟩
    ·have HSH:=h_ (show(shiftY aps.length s).2.2.1=s.2.2.1+aps.length from if_neg hneg);have hd:decide (0<=s.2.2.1)=true:=decide_eq_true (by omega);have hwp:IntKind.i64.wrap (s.2.2.1+(aps.length:Int))=s.2.2.1+(aps.length:Int):=wrap_add (by omega);have HJx:=h_ (HJ.o.call HB1.o);have x0:=d_ HJx.o.ba 0;have o2:=d_ HXO.o 2;have of2:=HXO.o.frozen 2;have hxl:=HJx.o.ba.lt;have hol:=HXO.o.lt;have HB2:=h_ (HB1.o.setCell (p:=⟨X,2,none⟩) (Nat.le_of_lt hXw) (.int .i64 (s.2.2.1+(aps.length:Int))));have HX2:=h_ (HXO.o.set 2 (.int .i64 (s.2.2.1+(aps.length:Int))));have HX92:=h_ (HX9.o.far (p:=⟨X,2,none⟩) (by show wr.heap.size≠X;omega) (.int .i64 (s.2.2.1+(aps.length:Int))));go_wp2_with fail
     go_meet
     rw[HSH.o];exact⟨HB2.o,HX92.o,HX2.o⟩
   case rest=>
    rename World=>wy
    obtain⟨bw,h9,h10⟩:=hcut;clear HX9 HXO HB1;replace HJ:=h_ (HJ.o.call bw);have HX9:=h_ h9;have HXO:=h_ h10;clear bw h9 h10 hXw;generalize wr.heap.size=X9 at *;generalize hwh:(shiftY aps.length s).2.2.1=wh at *;have HWH:=h_ (show shiftY aps.length s=(s.1,s.2.1,wh,s.2.2.2)from by rw[<-hwh];rfl);clear hwh;have x1:=d_ HJ.o.ba 1;have s0:=d_ HX9.o 0;have hxl:=HJ.o.ba.lt;have hsl:=HX9.o.lt;go_wp2_with fail
    refine(globX_any s.1 aY ays ayc wy ((HRA.o.2.below HJ.o.b).more HJ.o.b.size) (by unfold maxLen;omega)).mono ?_;rintro e w7 ⟨rfl,b7⟩;clear x1 s0 hxl hsl;replace HJ:=h_ (HJ.o.call b7);replace HX9:=h_ (HX9.o.call b7);replace HXO:=h_ (HXO.o.call b7);clear b7;generalize hgi:globI ays s.1=gi at *;have HGI:=h_ hgi;clear hgi;go_upto_block 2 with(fail)
    go_cut [11]from 58 to 87 (λv wz=>∃(j:Nat) (o2:OV),v=.int .i64 j/\(o2.ys,ns++[(j:Int)])=jstep aps.length ays (oys,ns) s/\o2.ps.map SV.d=aps.map SV.d/\J1 w V R O ⟨aA,ac,aps,aY,ayc,ays⟩ ⟨bA,bc,bps,some ⟨bb,off,none⟩,byc,bys⟩ o2 An cn ns wz)
    case first=>
     go_upto_region 11 with fail
     have s1:=d_ HX9.o 1;have hsl:=HX9.o.lt;go_cut [58]from 59 to 65 (λv wx=>v=.bool (decide (s.2.1=0)||(glob ays s.1).isNone)/\wx=w7)
     case first=>
      by_cases h0:s.2.1=0
      ·have hq:(s.2.1==0)=true:=beq_iff_eq.2 h0;have HD:=h_ (show(decide (s.2.1=0)||(glob ays s.1).isNone)=true from by rw[decide_eq_true h0];rfl)
       clear h0;go_wp2_with fail
       go_meet
       exact⟨by rw[HD.o],rfl⟩
      ·have hq:(s.2.1==0)=false:=beq_eq_false_iff_ne.2 h0;cases hgl:glob ays s.1 with
       |none=>
        have hg:gi=-1:=HGI.o.symm.trans (by unfold globI;rw[hgl]);have hd:decide (gi<0)=true:=decide_eq_true (by omega);have HD:=h_ (show(decide (s.2.1=0)||(glob ays s.1).isNone)=true from by rw[decide_eq_false h0,hgl];rfl)
        clear h0 hgl hg;go_wp2_with fail
        go_meet
        exact⟨by rw[HD.o],rfl⟩
       |some j=>
        have hg:gi=(j:Int):=HGI.o.symm.trans (by unfold globI;rw[hgl]);have hd:decide (gi<0)=false:=decide_eq_false (by omega);have HD:=h_ (show(decide (s.2.1=0)||(glob ays s.1).isNone)=false from by rw[decide_eq_false h0,hgl];rfl)
        clear h0 hgl hg;go_wp2_with fail
        go_meet
        exact⟨by rw[HD.o],rfl⟩
     case rest=>
      obtain⟨rfl,rfl⟩:=hcut;clear s1 hsl;cases hnw:(decide (s.2.1=0)||(glob ays s.1).isNone)
      ·obtain⟨h0,hgn⟩:=Bool.or_eq_false_iff.1 hnw;cases hgl:glob ays s.1 with
       |none=>rw[hgl]at hgn;cases hgn
       |some j=>
        have hjl:j<ays.length:=by have h:=fiS_spec ays 0 j hgl;omega
        obtain rfl:gi=(j:Int):=HGI.o.symm.trans (by unfold globI;rw[hgl]);have HJS:=h_ (show jstep aps.length ays (oys,ns) s=jset aps.length ays (oys,ns) s j from by
         unfold jstep;rw[if_neg (of_decide_eq_false h0),hgl])
        clear hnw h0 hgn hgl HGI;obtain⟨ab,aoff,haY,hab,hca⟩:=(HRA.o.2.below HJ.o.b).row symbolC_len (by decide) hjl;simp only at haY;have c0:=hca 0 _ rfl;have c1:=hca 1 _ rfl;have c2:=hca 2 _ rfl;have c3:=hca 3 _ rfl;simp only[Nat.add_zero]at c0;subst haY;have HYJ:=h_ (show ays.getD j dY=ays[j]from by rw[List.getD_eq_getElem?_getD,List.getElem?_eq_getElem hjl];rfl);generalize ays[j]=y at *;have x1:=d_ HJ.o.ba 1;have s0:=d_ HX9.o 0;have s1:=d_ HX9.o 1;have s2:=d_ HX9.o 2;have s3:=d_ HX9.o 3;have hxl:=HJ.o.ba.lt;have hsl:=HX9.o.lt;have habl:ab<wc.heap.size:=Nat.lt_of_lt_of_le hab HJ.o.b.size;clear hca;have hj0:(0:Int)<=(j:Int):=by omega
        go_wp2_with fail
        refine Reg.startT (λW=>W.cell? ⟨w.heap.size,1,none⟩=some (.slice (some ⟨ab,aoff,none⟩) ays.length ayc)/\W.cell? ⟨ab,aoff+j*4,none⟩=some (.string y.1)/\W.cell? ⟨ab,aoff+j*4+1,none⟩=some (.int .i64 y.2.1)/\W.cell? ⟨ab,aoff+j*4+2,none⟩=some (.int .i64 y.2.2.1)/\W.cell? ⟨ab,aoff+j*4+3,none⟩=some (.int .i64 y.2.2.2)/\W.cell? ⟨X9,0,none⟩=some (.string s.1)/\W.cell? ⟨X9,1,none⟩=some (.int .i64 s.2.1)/\W.cell? ⟨X9,2,none⟩=some (.int .i64 s.2.2.1)/\W.cell? ⟨X9,3,none⟩=some (.int .i64 s.2.2.2)) (λ_=>false) (by kernel_rfl) ?_;have hHeld:=And.intro x1 (And.intro c0 (And.intro c1 (And.intro c2 (And.intro c3 (And.intro s0 (And.intro s1 (And.intro s2 s3)))))));refine t_ 0 rfl ?_;refine t_ 1 rfl ?_;refine t_ 2 rfl ?_;refine t_ 3 rfl ?_;refine t_ 4 rfl ?_;refine t_ 5 rfl ?_;refine Reg.oneT (i:=6) rfl (by kernel_rfl) (λK hK=>?_);go_simp
        refine(takes_any y s _).mono ?_;rintro e w8 ⟨rfl,b8⟩;have b8':=of_drew b8;have hHeld:w8.cell? ⟨w.heap.size,1,none⟩=some (.slice (some ⟨ab,aoff,none⟩) ays.length ayc)/\w8.cell? ⟨ab,aoff+j*4,none⟩=some (.string y.1)/\w8.cell? ⟨ab,aoff+j*4+1,none⟩=some (.int .i64 y.2.1)/\w8.cell? ⟨ab,aoff+j*4+2,none⟩=some (.int .i64 y.2.2.1)/\w8.cell? ⟨ab,aoff+j*4+3,none⟩=some (.int .i64 y.2.2.2)/\w8.cell? ⟨X9,0,none⟩=some (.string s.1)/\w8.cell? ⟨X9,1,none⟩=some (.int .i64 s.2.1)/\w8.cell? ⟨X9,2,none⟩=some (.int .i64 s.2.2.1)/\w8.cell? ⟨X9,3,none⟩=some (.int .i64 s.2.2.2):=⟨(b8'.cell (p:=⟨w.heap.size,1,none⟩) hxl).trans x1,(b8'.cell (p:=⟨ab,aoff+j*4,none⟩) habl).trans c0,(b8'.cell (p:=⟨ab,aoff+j*4+1,none⟩) habl).trans c1,(b8'.cell (p:=⟨ab,aoff+j*4+2,none⟩) habl).trans c2,(b8'.cell (p:=⟨ab,aoff+j*4+3,none⟩) habl).trans c3,(b8'.cell (p:=⟨X9,0,none⟩) hsl).trans s0,(b8'.cell (p:=⟨X9,1,none⟩) hsl).trans s1,(b8'.cell (p:=⟨X9,2,none⟩) hsl).trans s2,(b8'.cell (p:=⟨X9,3,none⟩) hsl).trans s3⟩;refine hK.out _ _ hHeld ?_;clear hK K;try simp only[y1_,y2_,y3_,Act.put,y4_,y5_,y6_]
        refine t_ 7 rfl ?_;refine Reg.doneT (by kernel_rfl) ?_ _;clear hHeld x1 s0 s1 s2 s3 c0 c1 c2 c3 hxl hsl habl hab;replace HJ:=h_ (HJ.o.call b8');replace HXO:=h_ (HXO.o.call b8');clear b8 b8' HX9;cases htb:takesB y s
        ·have HJ2:=h_ (show(oys,ns++[(j:Int)])=jstep aps.length ays (oys,ns) s from by
          rw[HJS.o];unfold jset;rw[HYJ.o,htb]
          rfl)
         clear htb;go_wp2_with fail
         go_meet
         exact⟨j,_,rfl,HJ2.o,HOD.o,HJ.o⟩
        ·have HJ2:=h_ (show(oys.set j (s.1,s.2.1,wh,s.2.2.2),ns++[(j:Int)])=jstep aps.length ays (oys,ns) s from by
          rw[HJS.o];unfold jset;rw[HYJ.o,htb,HWH.o]
          rfl)
         clear htb;obtain⟨g,hYg,hg1,hg2,hgb,hown⟩:=own_of HJ.o.own.2 (by show 0<oys.length;omega);simp only at hYg;subst hYg;have hjo:j<oys.length:=by omega
         simp only at hown;obtain⟨⟨old0,hk0⟩,hfz0⟩:=own_old hown (j:=j*4) (by omega);obtain⟨⟨old1,hk1⟩,hfz1⟩:=own_old hown (j:=j*4+1) (by omega);obtain⟨⟨old2,hk2⟩,hfz2⟩:=own_old hown (j:=j*4+2) (by omega);obtain⟨⟨old3,hk3⟩,hfz3⟩:=own_old hown (j:=j*4+3) (by omega);have HJ3:=h_ (J1.store HJ.o rfl hjo (s.1,s.2.1,wh,s.2.2.2));simp only[putY]at HJ3;have o1:=d_ HJ.o.bo 1;have t0:=d_ HXO.o 0;have t1:=d_ HXO.o 1;have t2:=d_ HXO.o 2;have t3:=d_ HXO.o 3;have hol:=HJ.o.bo.lt;have htl:=HXO.o.lt;clear hown hgb;go_wp2_with fail
         go_meet
         exact⟨j,⟨oA,oc,ops,some ⟨g,0,none⟩,oyc,oys.set j (s.1,s.2.1,wh,s.2.2.2)⟩,rfl,HJ2.o,HOD.o,HJ3.o⟩
      ·have HJS:=h_ (show jstep aps.length ays (oys,ns) s=jput aps.length (oys,ns) s from by
        unfold jstep;split
        ·rfl
        ·rename_i hne;rw[decide_eq_false hne,Bool.false_or]at hnw;cases hgl:glob ays s.1 with
         |none=>rfl
         |some j=>rw[hgl]at hnw;cases hnw)
       clear hnw HGI HX9;have o1:=d_ HJ.o.bo 1;have t0:=d_ HXO.o 0;have t1:=d_ HXO.o 1;have t2:=d_ HXO.o 2;have t3:=d_ HXO.o 3;have hol:=HJ.o.bo.lt;have htl:=HXO.o.lt;have BA:Below wc.heap.size wc (wc.alloc (.cells #[.string s.1,.int .i64 s.2.1,.int .i64 wh,.int .i64 s.2.2.2] 67)):=b_;have HJa:=h_ (HJ.o.call BA);clear BA;go_wp2_with (at_builtin;refine wpList_app (wc.alloc (.cells #[.string s.1,.int .i64 s.2.1,.int .i64 wh,.int .i64 s.2.2.2] 67)) rfl (.tmp 70) (.tmp 72) 24 rfl 67 iY (.agg #[.string ByteArray.empty,.int .i64 0,.int .i64 0,.int .i64 0]) 4 40 Tryz.underlying24 HIY.o.1 HIY.o.2.1 HIY.o.2.2.1 HIY.o.2.2.2 rfl (by decide) w.heap.size oY oys.length oyc (cellsOf symbolC oys) rfl HJa.o.own.2 HJa.o.b.size (some ⟨wc.heap.size,0,none⟩) 1 1 (symbolC (s.1,s.2.1,wh,s.2.2.2)) rfl (rd_lit wc #[.string s.1,.int .i64 s.2.1,.int .i64 wh,.int .i64 s.2.2.2] 67 _ rfl) rfl (λh=>by cases h) (one_sy _) ?n1 ?n2 ?_)
       case n1=>unfold maxLen;omega
       case n2=>omega
       intro A9 n9 c9 wz hn9 o9 g9 k9;subst hn9;have HJ9:=h_ (J1.addY HJa.o (s.1,s.2.1,wh,s.2.2.2) rfl o9 g9);have HBO:=h_ (HJa.o.bo.grown g9 (HJa.o.own.2.box HJa.o.bo (by decide)));have HJ2:=h_ (show(oys++[(s.1,s.2.1,wh,s.2.2.2)],ns++[(oys.length:Int)])=jstep aps.length ays (oys,ns) s from by
        rw[HJS.o];unfold jput;rw[HWH.o])
       clear o9 g9 k9 o1 t0 t1 t2 t3 hol htl HJa;have o1:=d_ HBO.o 1;have of1:=HBO.o.frozen 1;have hol:=HBO.o.lt;go_wp2_with fail
       go_meet
       exact⟨oys.length,⟨oA,oc,ops,A9,c9,oys++[(s.1,s.2.1,wh,s.2.2.2)]⟩,rfl,HJ2.o,HOD.o,HJ9.o⟩
    case rest=>
     rename World=>wz
     obtain⟨j,o2,rfl,hjs,hod2,hj2⟩:=hcut;have HJS:=h_ (HSN.o.trans hjs.symm);have HJ2:=h_ hj2;have HOD2:=h_ hod2;clear hjs hj2 hod2 HSN HJ HX9 HXO HGI HWH HOD;have BA:Below wz.heap.size wz (wz.alloc (.cells #[.int .i64 j] 3)):=b_;have HJa:=h_ (HJ2.o.call BA);clear BA HJ2;go_wp2_with (at_builtin;refine wpList_app (wz.alloc (.cells #[.int .i64 j] 3)) rfl (.tmp 88) (.tmp 90) 89 rfl 3 i0 (.int .i64 0) 1 8 Tryz.underlying89 HI.o.1 HI.o.2.1 HI.o.2.2.1 HI.o.2.2.2 rfl (by decide) w.heap.size An ns.length cn (ints .i64 ns) rfl HJa.o.row HJa.o.b.size (some ⟨wz.heap.size,0,none⟩) 1 1 [.int .i64 j] rfl (rd_lit wz #[.int .i64 j] 3 _ rfl) rfl (λh=>by cases h) oneI1 ?n1 ?n2 ?_)
     case n1=>unfold maxLen;omega
     case n2=>omega
     intro A9 n9 c9 wf hn9 o9 g9 k9;have HJ9:=h_ (J1.addN HJa.o (j:Int) hn9 o9 g9);subst hn9;clear o9 g9 k9 HJa;generalize hG:ns++[(j:Int)]=ms at *;have hzl:ms.length=ns.length+1:=by rw[<-hG];simp
     rw[<-hzl];clear hG hzl;go_wp2_with fail
     refine⟨⟨k+1,o2,A9,c9,ms,by omega,rfl,by go_num,HJS.o.symm,HOD2.o,HJ9.o⟩,by simp[intOf];omega⟩
  ·obtain rfl:k=bys.length:=by omega
   have HJE:=h_ (show(oys,ns)=joinY aps.length ays bys from by rw[HJY.o,List.take_length]);have y0:=d_ HJ.o.bb 0;have y1:=d_ HJ.o.bb 1;have hyl:=HJ.o.bb.lt;clear HJY;go_wp2_with fail
   clear y0 y1 hyl;refine(copyObject_any ⟨bA,bc,bps,bY,byc,bys⟩ wr ((HRB.o.below HJ.o.b).more HJ.o.b.size) HFB0.o HNB.o ⟨by show bps.length<=100;omega,by show bys.length<=100;omega⟩).mono ?_;rintro e w7 ⟨⟨qA,qc,qps,qY,qyc,qys⟩,rfl,hqd,o7,b7⟩;have HQD:=h_ (show qps.map SV.d=bps.map SV.d from by
    simp only[OV.d,OD.mk.injEq]at hqd;exact hqd.1)
   have HK:=h_ (show J2 w R O ⟨oA,oc,ops,oY,oyc,oys⟩ ⟨qA,qc,qps,qY,qyc,qys⟩ ops [] qps An cn ns w7 from by
    have h:=HJ.o.call b7;refine⟨h.br,h.bo,o7.down HJ.o.b.size,rfl,by simp,h.own.1.2.1,?_,h.own.1.1,h.own.2,?_,h.row,h.b,⟨HR0.o,h.hO.2.2⟩⟩
    ·refine List.pairwise_append.2 ⟨h.own.1.2.2,o7.1.2.2,λa ha b hb=>⟨λk hk hk2=>?_,λk hk hk2=>?_⟩⟩
     ·have h1:=((HJ.o.own.1.2.1 a ha).lt k (.inl hk)).2;have h2:=((o7.1.2.1 b hb).lt k (.inl hk2)).1;omega
     ·have h1:=((HJ.o.own.1.2.1 a ha).lt k (.inr hk)).2;have h2:=((o7.1.2.1 b hb).lt k (.inr hk2)).1;omega
    ·intro k hk hk2;have h1:=(HJ.o.own.lt k (.inl (.inl hk))).2;have h2:=(o7.lt k (.inl (.inl hk2))).1;omega)
   have hql:qps.length=bps.length:=by
    have h:=congrArg List.length HQD.o;simpa using h
   have HQL:=h_ hql;have hq8:qps.length<=8:=by omega
   clear hqd o7 b7 HJ hql;simp only[OV.v];have hfd:∀W:World,(Instr.field 26 (.agg #[.slice qA qps.length qc,.slice qY qys.length qyc]) 0).run Tryz.prog W=.ok (.slice qA qps.length qc) W:=λ_=>by kernel_rfl
   go_wp2_with fail
   clear hfd;have HTO:=h_ (show ∀p∈bps,∀f∈p.fs,0<=f.2.2.1/\f.2.2.1<ns.length from λp hp f hf=>by
    have h:=((HSB.o.2.2 p.d (List.mem_map_of_mem hp)).2.2 f hf).2;rw[HNL.o];exact h)
   go_loopw [97] (λi wi=>∃(o:OV) (L N:List SV),i=.int .i64 (L.length:Nat)/\L.length+N.length=qps.length/\L.map SV.d=(bps.take L.length).map (λp=>mapS ns p.d)/\N.map SV.d=(bps.drop L.length).map SV.d/\o.ys=oys/\J2 w R O o ⟨qA,qc,L++N,qY,qyc,qys⟩ ops L N An cn ns wi) (λi _=>qps.length-(intOf i).toNat)
   case atStart=>exact⟨_,[],qps,rfl,by simp,rfl,by simpa using HQD.o,rfl,HK.o⟩
   case round=>
    clear HK HQD;obtain⟨⟨xA,xc,xps,xY,xyc,xys⟩,L,N,rfl,hLN,hLd,hNd,hxy,hk⟩:=hrel;simp only at hxy;subst hxy;have HK:=h_ hk;have HLN:=h_ hLN;have HLD:=h_ hLd;have HND:=h_ hNd;clear hk hLd hNd;by_cases hlt:L.length<qps.length
    ·cases N with
     |nil=>simp at hLN;omega
     |cons p N=>
      obtain⟨pn,pk,pal,pA,pc,pz,psz,pF,pfc,pf⟩:=p;have hLb:L.length<bps.length:=by rw[<-HQL.o];exact hlt
      have HPD:=h_ (show(SV.d ⟨pn,pk,pal,pA,pc,pz,psz,pF,pfc,pf⟩)=(bps[L.length]).d/\N.map SV.d=(bps.drop (L.length+1)).map SV.d from by
       have h:=HND.o;rw[List.drop_eq_getElem_cons hLb,List.map_cons,List.map_cons,List.cons.injEq]at h;exact h)
      have HTP:=h_ (show ∀f∈pf,0<=f.2.2.1/\f.2.2.1<ns.length from by
       have h:=HTO.o _ (List.getElem_mem hLb);have e:pf=(bps[L.length]).fs:=congrArg SD.fs HPD.o.1;rw[<-e]at h;exact h)
      have hpf6:pf.length<=6:=by have h:=(HSB.o.2.2 _ (List.mem_map_of_mem (List.getElem_mem hLb))).1;rw[<-HPD.o.1]at h;exact h
      obtain⟨gb,goff,hqA,hgb,hca⟩:=row_at HK.o.oq.1.rd;simp only at hqA;have c0:=hca 0 _ rfl;have c1:=hca 1 _ rfl;have c2:=hca 2 _ rfl;have c3:=hca 3 _ rfl;have c4:=hca 4 _ rfl;have c5:=hca 5 _ rfl;simp only[Nat.add_zero]at c0;subst hqA;have B1:Below wr.heap.size wr (wr.alloc (.cells #[.string pn,.int .i64 pk,.int .i64 pal,.slice pA pz.length pc,.int .i64 psz,.slice pF pf.length pfc] 61)):=b_;have HS:=h_ (Box.new wr 61 #[.string pn,.int .i64 pk,.int .i64 pal,.slice pA pz.length pc,.int .i64 psz,.slice pF pf.length pfc]);have s5:=d_ HS.o 5;have hsl:=HS.o.lt;replace HK:=h_ (HK.o.call B1);clear B1 hca HND;go_wp2_with fail
      clear c0 c1 c2 c3 c4 c5 s5 hsl hgb;generalize wr.alloc (.cells #[.string pn,.int .i64 pk,.int .i64 pal,.slice pA pz.length pc,.int .i64 psz,.slice pF pf.length pfc] 61)=ws at *;generalize wr.heap.size=S at *;have HK0:=h_ (show J2 w R O ⟨xA,xc,xps,xY,xyc,xys⟩ ⟨(some ⟨gb,goff,none⟩),qc,L++⟨pn,pk,pal,pA,pc,pz,psz,pF,pfc,(pf.take 0).map (mapF ns)++pf.drop 0⟩::N,qY,qyc,qys⟩ ops L (⟨pn,pk,pal,pA,pc,pz,psz,pF,pfc,(pf.take 0).map (mapF ns)++pf.drop 0⟩::N) An cn ns ws from HK.o);clear HK;go_loopw [104] (λi wi=>∃t:Nat,t<=pf.length/\i=.int .i64 t/\J2 w R O ⟨xA,xc,xps,xY,xyc,xys⟩ ⟨(some ⟨gb,goff,none⟩),qc,L++⟨pn,pk,pal,pA,pc,pz,psz,pF,pfc,(pf.take t).map (mapF ns)++pf.drop t⟩::N,qY,qyc,qys⟩ ops L (⟨pn,pk,pal,pA,pc,pz,psz,pF,pfc,(pf.take t).map (mapF ns)++pf.drop t⟩::N) An cn ns wi/\Box wi S 61 #[.string pn,.int .i64 pk,.int .i64 pal,.slice pA pz.length pc,.int .i64 psz,.slice pF pf.length pfc]) (λi _=>pf.length-(intOf i).toNat)
      case atStart=>exact⟨0,Nat.zero_le _,rfl,HK0.o,HS.o⟩
      case round=>
       clear HK0 HS;obtain⟨t,ht,rfl,hk,hs⟩:=hrel;have HK:=h_ hk;have HS:=h_ hs;clear hk hs;by_cases hlt2:t<pf.length
       ·have hfl:((pf.take t).map (mapF ns)++pf.drop t).length=pf.length:=fix_len;have HFN:=h_ (fix_next (ns:=ns) hlt2);have hrowF:=(HK.o.oq.1.2.1 ⟨pn,pk,pal,pA,pc,pz,psz,pF,pfc,(pf.take t).map (mapF ns)++pf.drop t⟩ (by simp)).2;obtain⟨gF,hF,hgF1,hgF2,hgFb,hownF⟩:=own_of hrowF (by show 0<((pf.take t).map (mapF ns)++pf.drop t).length;omega);simp only at hF hownF;subst hF;have HTZ:=h_ (HTP.o _ (List.getElem_mem hlt2));have hcF:=World.ownsRow.cellAt hownF (t*4+2) (by rw[hfl];omega);rw[cellsOf_at fixupC_len _ t 2 (by rw[hfl];exact hlt2) (by omega)]at hcF;have hge:((pf.take t).map (mapF ns)++pf.drop t)[t]'(by rw[hfl];exact hlt2)=pf[t]:=by have h:=HFN.o.1;rw[List.getElem?_eq_getElem (by rw[hfl];exact hlt2)]at h;injection h
        rw[hge]at hcF;have hfz:=World.ownsRow.frozenAt hownF (t*4+2);have HNB2:=h_ (show gF≠S from hrowF.box HS.o (by decide) gF hgFb);clear hge hrowF hownF hgFb;generalize pf[t]=z at *;obtain⟨z1,z2,z3',z4⟩:=z;obtain⟨hz0,hz1⟩:=HTZ.o;simp only at hz0 hz1;obtain⟨z3,rfl⟩:∃n:Nat,z3'=(n:Int):=⟨z3'.toNat,by omega⟩;have hzl:z3<ns.length:=by omega
        have hcF2:wr.cell? ⟨gF,t*4+2,none⟩=some (.int .i64 z3):=hcF;obtain⟨gN,hAn,hcN,hgN⟩:=HK.o.nums.at1 hzl;subst hAn;obtain⟨gv,hgv⟩:∃gv:Int,gv=ns.getD z3 0:=⟨_,rfl⟩;rw[<-hgv]at hcN;have HGV:=h_ hgv;clear hgv;have HSET:=h_ (show((pf.take t).map (mapF ns)++pf.drop t).set t (z1,z2,gv,z4)=(pf.take (t+1)).map (mapF ns)++pf.drop (t+1)from by rw[HGV.o];exact HFN.o.2);have HK2:=h_ (show J2 w R O ⟨xA,xc,xps,xY,xyc,xys⟩ ⟨(some ⟨gb,goff,none⟩),qc,L++⟨pn,pk,pal,pA,pc,pz,psz,some ⟨gF,0,none⟩,pfc,(pf.take (t+1)).map (mapF ns)++pf.drop (t+1)⟩::N,qY,qyc,qys⟩ ops L (⟨pn,pk,pal,pA,pc,pz,psz,some ⟨gF,0,none⟩,pfc,(pf.take (t+1)).map (mapF ns)++pf.drop (t+1)⟩::N) (some ⟨gN,0,none⟩) cn ns ((wr.setCell ⟨gF,t*4+2,none⟩ (.int .i64 gv)).drew)from by
         rw[<-HSET.o];exact(J2.fix HK.o rfl HFN.o.1 gv).call (below_dr (Below.refl _ _)))
        have s5:=d_ HS.o 5;have hsl:=HS.o.lt;have HS2:=h_ ((HS.o.far (p:=⟨gF,t*4+2,none⟩) (Ne.symm HNB2.o) (.int .i64 gv)).drew);clear hcF HFN HTZ HK;go_wp2_with fail
        refine Reg.startT (λW=>W.cell? ⟨S,5,none⟩=some (.slice (some ⟨gF,0,none⟩) pf.length pfc)/\W.cell? ⟨gF,t*4+2,none⟩=some (.int .i64 z3)/\W.cell? ⟨gN,z3,none⟩=some (.int .i64 gv)) (λj=>j==14) (by kernel_rfl) ?_;have hHeld:=And.intro s5 (And.intro hcF2 hcN);have hfz':wr.drew.frozen? ⟨gF,t*4+2,none⟩=false:=hfz;have hcF3:wr.drew.cell? ⟨gF,t*4+2,none⟩=some (.int .i64 z3):=hcF2;refine t_ 0 rfl ?_;refine t_ 1 rfl ?_;refine t_ 2 rfl ?_;refine t_ 3 rfl ?_;refine t_ 4 rfl ?_;refine t_ 5 rfl ?_;refine t_ 6 rfl ?_;refine t_ 7 rfl ?_;refine t_ 8 rfl ?_;refine t_ 9 rfl ?_;refine t_ 10 rfl ?_;refine t_ 11 rfl ?_;refine Reg.oneT (i:=12) rfl (by kernel_rfl) (λK hK=>?_);go_simp
        refine hK.out _ _ hHeld ?_;clear hK K;try simp only[y1_,y2_,y3_,Act.put,y4_,y5_,y6_]
        refine t_ 13 rfl ?_;refine Reg.lastT (i:=14) rfl (by kernel_rfl) (by rfl) (λK hK=>?_);go_simp
        refine hK.out _ _ ?_;clear hK K;try simp only[y1_,y2_,y3_,Act.put,y4_,y5_,y6_]
        refine Reg.doneT (by kernel_rfl) ?_ _;clear hHeld hfz' hcF3 hcF2 hcN s5 hsl hfz hgN;clear HSET;generalize wr.setCell ⟨gF,t*4+2,none⟩ (.int .i64 gv)=wf at *;go_wp2_with fail
        refine⟨⟨t+1,by omega,by go_num,HK2.o,HS2.o⟩,by simp[intOf];omega⟩
       ·obtain rfl:t=pf.length:=by omega
        have HK2:=h_ (show J2 w R O ⟨xA,xc,xps,xY,xyc,xys⟩ ⟨(some ⟨gb,goff,none⟩),qc,L++⟨pn,pk,pal,pA,pc,pz,psz,pF,pfc,pf.map (mapF ns)⟩::N,qY,qyc,qys⟩ ops L (⟨pn,pk,pal,pA,pc,pz,psz,pF,pfc,pf.map (mapF ns)⟩::N) An cn ns wr from by
         have h:=HK.o;rw[List.take_length,List.drop_length,List.append_nil]at h;exact h)
        clear HK;have s0:=d_ HS.o 0;have s1:=d_ HS.o 1;have s2:=d_ HS.o 2;have s3:=d_ HS.o 3;have s4:=d_ HS.o 4;have s5:=d_ HS.o 5;have o0:=d_ HK2.o.bo 0;have hsl:=HS.o.lt;have hol:=HK2.o.bo.lt;have BA:Below wr.heap.size wr (wr.alloc (.cells #[.string pn,.int .i64 pk,.int .i64 pal,.slice pA pz.length pc,.int .i64 psz,.slice pF pf.length pfc] 61)):=b_;have HKa:=h_ (HK2.o.call BA);have hxl:xps.length<=100:=by have h:=congrArg List.length HKa.o.ho;simp only[List.length_append]at h;have h2:=congrArg List.length HOD.o;simp only[List.length_map]at h2;omega
        clear BA HK2;go_wp2_with (at_builtin;refine wpList_app (wr.alloc (.cells #[.string pn,.int .i64 pk,.int .i64 pal,.slice pA pz.length pc,.int .i64 psz,.slice pF pf.length pfc] 61)) rfl (.tmp 123) (.tmp 125) 23 rfl 61 iS (.agg #[.string ByteArray.empty,.int .i64 0,.int .i64 0,.slice none 0 0,.int .i64 0,.slice none 0 0]) 6 88 Tryz.underlying23 HIS.o.1 HIS.o.2.1 HIS.o.2.2.1 HIS.o.2.2.2 rfl (by decide) w.heap.size xA xps.length xc (cellsOf secC xps) rfl HKa.o.row HKa.o.b.size (some ⟨wr.heap.size,0,none⟩) 1 1 [.string pn,.int .i64 pk,.int .i64 pal,.slice pA pz.length pc,.int .i64 psz,.slice pF pf.length pfc] rfl (rd_lit wr #[.string pn,.int .i64 pk,.int .i64 pal,.slice pA pz.length pc,.int .i64 psz,.slice pF pf.length pfc] 61 _ rfl) rfl (λh=>by cases h) one_six ?n1 ?n2 ?_)
        case n1=>unfold maxLen;omega
        case n2=>omega
        intro A9 n9 c9 wz hn9 o9 g9 k9;subst hn9;have HK9:=h_ (J2.add HKa.o (A9:=A9) (c9:=c9) rfl (by
         have e:secC ⟨pn,pk,pal,pA,pc,pz,psz,pF,pfc,pf.map (mapF ns)⟩=[.string pn,.int .i64 pk,.int .i64 pal,.slice pA pz.length pc,.int .i64 psz,.slice pF pf.length pfc]:=by simp[secC]
         rw[e];exact o9) g9 (λk hk=>(k9 k hk).imp id (λh=>by simp only[World.size_alloc];exact h)))
        have HBO:=h_ (HKa.o.bo.grown g9 (HKa.o.row.box HKa.o.bo (by decide)));clear o9 g9 k9 o0 s0 s1 s2 s3 s4 s5 hsl hol HKa HS;have o0:=d_ HBO.o 0;have of0:=HBO.o.frozen 0;have hol:=HBO.o.lt;have HLd2:=h_ (show(L++[(⟨pn,pk,pal,pA,pc,pz,psz,pF,pfc,pf.map (mapF ns)⟩:SV)]).map SV.d=(bps.take (L++[(⟨pn,pk,pal,pA,pc,pz,psz,pF,pfc,pf.map (mapF ns)⟩:SV)]).length).map (λp=>mapS ns p.d)from by
         rw[List.length_append,List.length_singleton,take_succ hLb,List.map_append,List.map_append,HLD.o,List.map_singleton,List.map_singleton];congr 2
         show _=mapS ns (bps[L.length]).d
         rw[<-HPD.o.1]
         rfl)
        have HND2:=h_ (show N.map SV.d=(bps.drop (L++[(⟨pn,pk,pal,pA,pc,pz,psz,pF,pfc,pf.map (mapF ns)⟩:SV)]).length).map SV.d from by
         rw[List.length_append,List.length_singleton];exact HPD.o.2)
        have HLN2:=h_ (show(L++[(⟨pn,pk,pal,pA,pc,pz,psz,pF,pfc,pf.map (mapF ns)⟩:SV)]).length+N.length=qps.length from by
         have h:=HLN.o;simp only[List.length_append,List.length_cons,List.length_nil]at h ⊢;omega)
        have hL1:(L++[(⟨pn,pk,pal,pA,pc,pz,psz,pF,pfc,pf.map (mapF ns)⟩:SV)]).length=L.length+1:=by simp
        have HQQ:=h_ (show J2 w R O ⟨A9,c9,xps++[(⟨pn,pk,pal,pA,pc,pz,psz,pF,pfc,pf.map (mapF ns)⟩:SV)],xY,xyc,xys⟩ ⟨(some ⟨gb,goff,none⟩),qc,(L++[(⟨pn,pk,pal,pA,pc,pz,psz,pF,pfc,pf.map (mapF ns)⟩:SV)])++N,qY,qyc,qys⟩ ops (L++[(⟨pn,pk,pal,pA,pc,pz,psz,pF,pfc,pf.map (mapF ns)⟩:SV)]) N An cn ns (wz.setCell ⟨O,0,none⟩ (.slice A9 (xps.length+1) c9))from by
         rw[List.append_assoc];exact HK9.o)
        clear HK9 HLD HPD HLN hLN;generalize L++[(⟨pn,pk,pal,pA,pc,pz,psz,pF,pfc,pf.map (mapF ns)⟩:SV)]=L2 at *;go_wp2_with fail
        refine⟨⟨_,L2,N,by rw[hL1];go_num,HLN2.o,HLd2.o,HND2.o,rfl,HQQ.o⟩,by simp[intOf];omega⟩
    ·have hN:N=[]:=List.eq_nil_of_length_eq_zero (by omega);subst hN;have HOW:=h_ (J2.own HK.o);have hLl:L.length=bps.length:=by rw[<-HQL.o];simp only[List.length_nil]at hLN;omega
     have HDJ:=h_ (show OV.d ⟨xA,xc,xps,xY,xyc,xys⟩=joinR (OV.d ⟨aA,ac,aps,aY,ayc,ays⟩) (OV.d ⟨bA,bc,bps,bY,byc,bys⟩)from by
      have e1:xps=ops++L:=HK.o.ho;have e2:=HLD.o;rw[hLl,List.take_length]at e2;have e3:=HJE.o;show OD.mk (xps.map SV.d) xys=_
      unfold joinR;simp only[OV.d,List.length_map];rw[<-e3,e1,List.map_append,HOD.o,e2,List.map_map]
      rfl)
     have HFT:=h_ (fit_sm (by rw[HDJ.o];exact join_sm HOA.o HOB.o) HOW.o.2.cap.1);clear hLl hLN HLD HLN HND;have o0:=d_ HK.o.bo 0;have o1:=d_ HK.o.bo 1;have hol:=HK.o.bo.lt;go_wp2_with fail
     clear o0 o1 hol;refine(objectValid_any ⟨xA,xc,xps,xY,xyc,xys⟩ wr HOW.o.rd HFT.o).mono ?_;rintro e w8 ⟨rfl,b8⟩;replace HK:=h_ (HK.o.call b8);replace HOW:=h_ (HOW.o.call b8);clear b8;rw[HDJ.o];cases hjo:objOk (joinR (OV.d ⟨aA,ac,aps,aY,ayc,ays⟩) (OV.d ⟨bA,bc,bps,bY,byc,bys⟩))
     ·have HV:=h_ (HJD.o.trans (if_neg (by rw[hjo];rintro⟨_,_,_,h⟩;cases h)));clear hjo;have y0:=d_ HK.o.br 0;have y1:=d_ HK.o.br 1;have yf0:=HK.o.br.frozen 0;have yf1:=HK.o.br.frozen 1;have hrl:=HK.o.br.lt;obtain⟨k0,k1⟩:=cells2 (u:=.slice none 0 0) (v:=.slice none 0 0) HK.o.br;have HFB:=h_ (below2 HK.o.b (Nat.le_of_lt HR0.o) (.slice none 0 0) (.slice none 0 0));go_wp2_with fail
      (try simp only[Exit.inBlock,Exit.then])
      exact bodyPost_ret (v:=.tuple #[.agg #[.slice none 0 0,.slice none 0 0],.bool false]) (by simp[results,Tryz.results92,go_sem,k0,k1]) rfl (by rw[HV.o];exact ret_nilO HFB.o)
     ·have HV:=h_ (HJD.o.trans (if_pos ⟨HOA.o,HOB.o,HT0.o,hjo⟩));clear hjo;have o0:=d_ HK.o.bo 0;have o1:=d_ HK.o.bo 1;have y0:=d_ HK.o.br 0;have y1:=d_ HK.o.br 1;have hol:=HK.o.bo.lt;have yf0:=HK.o.br.frozen 0;have yf1:=HK.o.br.frozen 1;have hrl:=HK.o.br.lt;obtain⟨k0,k1⟩:=cells2 (u:=.slice xA xps.length xc) (v:=.slice xY xys.length xyc) HK.o.br;have HFIN:=h_ (ret_ok (R:=R) HOW.o HK.o.b (HOW.o.ne_box HK.o.br (by decide) (by decide) (by decide) (by decide)) (Nat.le_of_lt HR0.o));rw[HDJ.o]at HFIN;go_wp2_with fail
      (try simp only[Exit.inBlock,Exit.then])
      exact bodyPost_ret (v:=.tuple #[.agg #[.slice xA xps.length xc,.slice xY xys.length xyc],.bool true]) (by simp[results,Tryz.results92,go_sem,k0,k1]) rfl (by rw[HV.o];exact HFIN.o)
end CJoinI
/- ObjectsValid and isBase,within,aligned. -/
namespace CValids
open Kit CCode CName CFixups CSymbols PObj BObj PValid CObjValid BList PLink
theorem bad_any(o:OV)(w:World)(hr:RdO w w.heap.size o)(hf:Fit o):
  Calls Tryz.prog 123 #[.agg #[.slice o.A o.ps.length o.c,.slice o.Y o.ys.length o.yc]] w (Ret (.bool (!objOk o.d)) w):=by
 have HB:=h_ (show Below w.heap.size w (w.alloc (.cells #[.slice o.A o.ps.length o.c,.slice o.Y o.ys.length o.yc] 26))from b_);have HX:=h_ (Box.new w 26 #[.slice o.A o.ps.length o.c,.slice o.Y o.ys.length o.yc]);have HR:=h_ hr;clear hr;have x0:=d_ HX.o 0;have x1:=d_ HX.o 1;have hxl:=HX.o.lt;go_enter Tryz.func123,Tryz.ntmps123
 go_wp2_with fail
 generalize w.alloc (.cells #[.slice o.A o.ps.length o.c,.slice o.Y o.ys.length o.yc] 26)=w0 at *;refine(objectValid_any o w0 ((HR.o.below HB.o).more HB.o.size) hf).mono ?_;rintro e w1 ⟨rfl,b1⟩;replace HB:=c_ HB b1;clear b1;clear x0 x1 hxl HX;go_wp2_with fail
 go_ret;exact⟨rfl,HB.o⟩
theorem indexBad_any(A:Option Addr)(os:List OV)(c:Nat)(w:World)(hr:RdOs w w.heap.size A os)(hf:Fits os):
  Calls Tryz.prog 167 #[.slice A os.length c,.func (.func 123) #[] #[]] w λe w'=>∃r:Int,e=.returned (.int .i64 r)/\decide (0<=r)=os.any (λo=>!objOk o.d)/\Below w.heap.size w w':=by
 obtain⟨hm,hfo⟩:=hf;have HR:=h_ hr;have HFT:=h_ hfo;clear hr hfo;go_enter Tryz.func167,Tryz.ntmps167
 go_wp2_with fail
 go_loopw [8] (λi wr=>∃k:Nat,k<=os.length/\i=.int .i64 k/\(os.take k).any (λo=>!objOk o.d)=false/\Below w.heap.size w wr) (λi _=>os.length-(intOf i).toNat)
 case atStart=>exact⟨0,Nat.zero_le _,rfl,rfl,Below.refl _ _⟩
 case round=>
  obtain⟨k,hk,rfl,hn,hb⟩:=hrel;have HB:=h_ hb;by_cases hlt:k<os.length
  ·obtain⟨b,off,hA,hbb,hc0,hc1⟩:=(HR.o.below hb).at hlt;have HS:=h_ (show(os.take (k+1)).any (λo=>!objOk o.d)=!objOk os[k].d by rw[take_succ hlt,List.any_append,hn];simp);have HT:=h_ (show objOk os[k].d=false->os.any (λo=>!objOk o.d)=true from λh=>List.any_eq_true.2 ⟨_,List.getElem_mem hlt,by rw[h];rfl⟩);have HP:=h_ (bad_any os[k] wr (((HR.o.2 _ (List.getElem_mem hlt)).below hb).more hb.size) (HFT.o _ (List.getElem_mem hlt)));clear hb hn;subst hA;generalize os[k]=o at *;have hpred:=HP.o;cases h:objOk o.d
   ·have HT':=h_ (HT.o h);rw[h]at hpred;clear HT HS h HP;go_wp2_with fail
    refine hpred.mono ?_;rintro e w2 ⟨rfl,b2⟩;have HB':=h_ (HB.o.trans (b2.mono HB.o.size));clear b2 hc0 hc1 HB;go_wp2_with fail
    go_ret;exact⟨k,rfl,by rw[HT'.o];simp,HB'.o⟩
   ·have HS':=h_ (show(os.take (k+1)).any (λo=>!objOk o.d)=false by rw[HS.o,h];rfl);rw[h]at hpred;clear HT HS h HP;go_wp2_with fail
    refine hpred.mono ?_;rintro e w2 ⟨rfl,b2⟩;have HB':=h_ (HB.o.trans (b2.mono HB.o.size));clear b2 hc0 hc1 HB;go_wp2_with fail
    refine⟨⟨k+1,by omega,by go_num,HS'.o,HB'.o⟩,by simp[intOf];omega⟩
  ·have HN:=h_ (show os.any (λo=>!objOk o.d)=false by rw[<-hn,List.take_of_length_le (by omega)]);clear hb hn;go_wp2_with fail
   go_ret;exact⟨-1,rfl,by rw[HN.o];rfl,HB.o⟩
theorem containsBad_any(A:Option Addr)(os:List OV)(c:Nat)(w:World)(hr:RdOs w w.heap.size A os)(hf:Fits os):
  Calls Tryz.prog 122 #[.slice A os.length c,.func (.func 123) #[] #[]] w (Ret (.bool (os.any (λo=>!objOk o.d))) w):=by
 have HQ:=h_ (indexBad_any A os c w hr hf);clear hr hf;go_enter Tryz.func122,Tryz.ntmps122
 go_wp2_with fail
 refine HQ.o.mono ?_;rintro e w2 ⟨r,rfl,hr2,b2⟩;have HR:=h_ hr2;have HB:=h_ b2;clear hr2 b2;go_wp2_with fail
 go_ret;exact⟨by rw[<-HR.o];rfl,HB.o⟩
theorem all_any(os:List OV):(!(os.any λo=>!objOk o.d))=(os.map OV.d).all objOk:=by
 rw[List.all_map];induction os with
 |nil=>rfl
 |cons o os ih=>
  simp only[List.any_cons,List.all_cons,Bool.not_or,Bool.not_not,ih]
  rfl
theorem allValid_any(A:Option Addr)(os:List OV)(c:Nat)(w:World)(hr:RdOs w w.heap.size A os)(hf:Fits os):
  Calls Tryz.prog 69 #[.slice A os.length c] w (Ret (.bool ((os.map OV.d).all objOk)) w):=by
 have HQ:=h_ (containsBad_any A os c w hr hf);have HE:=h_ (all_any os);clear hr hf;generalize (os.map OV.d).all objOk=v at *;go_enter Tryz.func69,Tryz.ntmps69
 go_wp2_with fail
 refine HQ.o.mono ?_;rintro e w2 ⟨rfl,b2⟩;have HB:=h_ b2;clear b2;go_wp2_with fail
 go_ret;exact⟨by rw[<-HE.o];rfl,HB.o⟩
theorem objectsValid_any(A:Option Addr)(os:List OV)(c:Nat)(w:World)(hr:RdOs w w.heap.size A os)(hf:Fits os):
  Calls Tryz.prog 20 #[.slice A os.length c] w (Ret (.bool (objsOk (os.map OV.d))) w):=by
 have HQ:=h_ (allValid_any A os c w hr hf);have hn:=hf.n;clear hr hf;unfold objsOk;rw[List.length_map];generalize (os.map OV.d).all objOk=v at *;go_enter Tryz.func20,Tryz.ntmps20
 by_cases h4:os.length<=4
 ·have e1:decide ((os.length:Int)<=4)=true:=decide_eq_true (by omega);have HV:=h_ (show(decide (os.length<=4)&&v)=v by rw[decide_eq_true h4];rfl);clear h4;go_wp2_with fail
  refine HQ.o.mono ?_;rintro e w2 ⟨rfl,b2⟩;have HB:=h_ b2;clear b2;go_wp2_with fail
  go_ret;exact⟨by rw[HV.o];rfl,HB.o⟩
 ·have e1:decide ((os.length:Int)<=4)=false:=decide_eq_false (by omega);have HV:=h_ (show(decide (os.length<=4)&&v)=false by rw[decide_eq_false h4];rfl);clear h4;go_wp2_with fail
  go_ret;exact⟨by rw[HV.o];rfl,Below.refl _ _⟩
theorem isBase_any(b:Int)(w:World):Calls Tryz.prog 99 #[.int .i64 b] w (Pure (.bool (baseOk b)) w):=by
 unfold baseOk;cases h1:inB b 0 4096
 ·have HE:=h_ (show(decide (0<=b/\b<=4096)&&decide (b%8=0))=false by unfold inB at h1;rw[h1];rfl);generalize (decide (0<=b/\b<=4096)&&decide (b%8=0))=v at *;go_enter Tryz.func99,Tryz.ntmps99
  go_wp2_with fail
  refine(within_any _ _ _ _).mono ?_;rintro e w' ⟨rfl,rfl⟩;rw[h1];go_wp2_with fail
  go_ret;exact⟨ret_bool HE.o.symm,rfl⟩
 ·have hb:0<=b/\b<=4096:=by simpa[inB]using h1
  have HE:=h_ (show(decide (0<=b/\b<=4096)&&decide (b%8=0))=decide (b%8=0)by unfold inB at h1;rw[h1];rfl);have HI:=h_ h1;clear h1;generalize (decide (0<=b/\b<=4096)&&decide (b%8=0))=v at *;by_cases h2:b%8=0
  ·have h2':(b%8==0)=true:=by simpa using h2
   go_enter Tryz.func99,Tryz.ntmps99
   go_wp2_with fail
   refine(within_any _ _ _ _).mono ?_;rintro e w' ⟨rfl,rfl⟩;rw[HI.o];go_wp2_with fail
   go_ret;exact⟨ret_bool (by rw[HE.o,decide_eq_true h2]),rfl⟩
  ·have h2':(b%8==0)=false:=by simpa using h2
   have HH:=h_ h2;clear h2;go_enter Tryz.func99,Tryz.ntmps99
   go_wp2_with fail
   refine(within_any _ _ _ _).mono ?_;rintro e w' ⟨rfl,rfl⟩;rw[HI.o];go_wp2_with fail
   go_ret;exact⟨ret_bool (by rw[HE.o,decide_eq_false HH.o]),rfl⟩
theorem tdiv_al(n q:Int)(hn:0<=n)(hq:1<=q):Int.tdiv (n+q-1) q*q=al n q:=by unfold al;rw[Int.tdiv_eq_ediv_of_nonneg (by omega)]
theorem aligned_any(n q:Int)(w:World)(hn:0<=n)(hb:n<=1000000)(ht:alignOk q=true):Calls Tryz.prog 89 #[.int .i64 n,.int .i64 q] w (Pure (.int .i64 (al n q)) w):=by
 obtain⟨h1,h2⟩:=al_bd hn ht;have hq8:1<=q/\q<=8:=by simp only[alignOk,Bool.or_eq_true,decide_eq_true_eq]at ht;omega
 obtain⟨q1,q2⟩:=hq8;have HE:=h_ (tdiv_al n q hn q1);have e3:0<=Int.tdiv (n+q-1) q/\Int.tdiv (n+q-1) q<=1000008:=by rw[Int.tdiv_eq_ediv_of_nonneg (by omega)];have a1:0<=(n+q-1)/q:=Int.ediv_nonneg (by omega) (by omega);have a2:=Int.ediv_le_self q (show 0<=n+q-1 by omega);omega
 generalize al n q=m at *;have hq0:(q==0)=false:=beq_eq_false_iff_ne.2 (by omega);have w1:IntKind.i64.wrap (n+q)=n+q:=IntWalk.i64_in _ (by omega);have w2:IntKind.i64.wrap (n+q-1)=n+q-1:=IntWalk.i64_in _ (by omega);clear ht;go_enter Tryz.func89,Tryz.ntmps89
 go_wp2_with fail
 go_ret;refine⟨?_,rfl⟩;show Ending.returned (Value.int .i64 (wrap64 ((n+q-1).tdiv q*q)))=_
 rw[HE.o,show wrap64 m=m from by unfold wrap64;omega]
end CValids
/- The size of an object out of what is left. -/
namespace CSzObj
open Kit CFixups CSymbols PObj BObj CSection CSections CMarkText CSymMarks CMarkRows CSecMarks CSecHeld CObject CObject2
end CSzObj
/- Lists of objects: what is the call's own; the laws' helpers on lists of objects. -/
namespace CObjL
open Kit CFixups CSymbols PObj BObj BObj2 BList CObjValid CSection CSections CMarkText CSymMarks CMarkRows CSecMarks CSecHeld CObject CObject2 CCopyS WObj CSzObj
theorem infoO:(Tryz.prog.info? 26).map (λi=>(i.zero,i.size,i.bytes))=some (some (.agg #[.slice none 0 0,.slice none 0 0]),2,48):=by kernel_rfl
def ApO(o p:OV):Prop:=∀k,oblk o k->¬oblk p k
def OwnOs(w:World)(base:Nat)(A:Option Addr)(c:Nat)(os:List OV):Prop:=Row w base 26 2 A os.length c (cellsOf objC os)/\(∀o∈os,OwnO w base o)/\os.Pairwise ApO
def lblk(A:Option Addr)(c:Nat)(os:List OV)(k:Nat):Prop:=blk A c=some k\/∃o∈os,oblk o k
def RetOs(l:List OD)(w:World)(e:Ending)(w':World):Prop:=∃A c os,e=.returned (.slice A (os:List OV).length c)/\os.map OV.d=l/\OwnOs w' w.heap.size A c os/\Below w.heap.size w w'
section
variable {w w':World}{base b N c:Nat}{A:Option Addr}{os:List OV}
theorem OwnOs.rd (h:OwnOs w base A c os):RdOs w w.heap.size A os:=⟨h.1.rd,λo ho=>(h.2.1 o ho).rd⟩
theorem OwnOs.lt (h:OwnOs w base A c os):∀k,lblk A c os k->base<=k/\k<w.heap.size:=by
 rintro k (hk|⟨o,ho,hk⟩)
 ·exact h.1.lt k hk
 ·exact(h.2.1 o ho).lt k hk
theorem OwnOs.keep (h:OwnOs w base A c os)(hk:∀k,lblk A c os k->w'.heap[k]?=w.heap[k]?):OwnOs w' base A c os:=
 ⟨h.1.keep λk hb=>hk k (.inl hb),λo ho=>(h.2.1 o ho).keep λk hb=>hk k (.inr ⟨o,ho,hb⟩),h.2.2⟩
theorem OwnOs.call (h:OwnOs w base A c os)(hb:Below w.heap.size w w'):OwnOs w' base A c os:=h.keep λk hk=>hb.block k (h.lt k hk).2
theorem OwnOs.down (h:OwnOs w base A c os)(hb:b<=base):OwnOs w b A c os:=⟨h.1.down hb,λo ho=>(h.2.1 o ho).down hb,h.2.2⟩
theorem OwnOs.gp {q:Nat->Prop}(h:OwnOs w base A c os)(g:Gp q w w')(hq:∀k,lblk A c os k->¬q k):OwnOs w' base A c os:=h.keep λk hk=>g.block k (h.lt k hk).2 (hq k hk)
theorem OwnOs.ne (h:OwnOs w base A c os):∀o∈os,∀k,oblk o k->blk A c≠some k:=by
 rintro o ho k ((hk|⟨p,hp,hk|hk⟩)|hk) e
 ·exact apartT (h.2.1 o ho).1.1 h.1 (by decide) k hk e
 ·exact apartT ((h.2.1 o ho).1.2.1 p hp).1 h.1 (by decide) k hk e
 ·exact apartT ((h.2.1 o ho).1.2.1 p hp).2 h.1 (by decide) k hk e
 ·exact apartT (h.2.1 o ho).2 h.1 (by decide) k hk e
theorem objs_snoc(os:List OV)(q:OV):cellsOf objC (os++[q])=cellsOf objC os++objC q:=by simp[cellsOf]
theorem ApO.snoc (h:os.Pairwise ApO){q:OV}(hold:∀o∈os,∀k,oblk o k->k<N)(hnew:∀k,oblk q k->N<=k):(os++[q]).Pairwise ApO:=by refine List.pairwise_append.2 ⟨h,List.pairwise_singleton _ _,λo ho p hp k h1 h2=>?_⟩;rw[List.mem_singleton.1 hp]at h2;have:=hold o ho k h1;have:=hnew k h2;omega
theorem OwnOs.snoc (h:OwnOs w base A c os){q:OV}(hq:OwnO w base q)(hold:∀o∈os,∀k,oblk o k->k<N)(hnew:∀k,oblk q k->N<=k){A':Option Addr}{n' c':Nat}(hn:n'=os.length+1)
  (row:Row w' base 26 2 A' n' c' (cellsOf objC os++objC q))(g:w.grownBy w' (blk A c)):OwnOs w' base A' c' (os++[q]):=by
 subst hn;have hS:∀o:OV,OwnO w base o->OwnO w' base o:=λo ho=>ho.keep λk hk=>g.block k (ho.lt k hk).2 (λe'=>by
  have e:=e'.symm;rcases hk with(hk|⟨p,hp,hk|hk⟩)|hk
  ·exact apartT ho.1.1 h.1 (by decide) k hk e
  ·exact apartT (ho.1.2.1 p hp).1 h.1 (by decide) k hk e
  ·exact apartT (ho.1.2.1 p hp).2 h.1 (by decide) k hk e
  ·exact apartT ho.2 h.1 (by decide) k hk e)
 refine⟨?_,λo ho=>?_,ApO.snoc h.2.2 hold hnew⟩
 ·rw[List.length_append,objs_snoc];exact row
 ·rcases List.mem_append.1 ho with ho|ho
  ·exact hS o (h.2.1 o ho)
  ·rw[List.mem_singleton.1 ho];exact hS q hq
end
end CObjL
end Go.Proofs.YtepoiphmmjfbdaaGreatDoor
