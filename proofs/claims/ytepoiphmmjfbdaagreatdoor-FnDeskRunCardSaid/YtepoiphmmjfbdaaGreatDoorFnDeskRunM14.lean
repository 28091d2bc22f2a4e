/- JoinObjects: one object in place of two; the reference's. -/
import Derived.Test.YtepoiphmmjfbdaaGreatDoorFnDeskRunM13
import Derived.Deep.CutBlock
import Derived.Deep.QuietTactic
import Derived.BigQuiet
import Derived.Test.YtepoiphmmjfbdaaGreatDoorRows
set_option linter.unusedSimpArgs false
set_option linter.unusedVariables false
set_option maxRecDepth 200000
open Go.ChangeShapes Go.WideShapes Go.ChangeAt Go.RowKit
namespace Go.Proofs.YtepoiphmmjfbdaaGreatDoor
namespace CJoinS
open Kit CCode CName CFixups CSymbols PObj BObj PValid PWarn PClear PSort PLink PLinkL CSorted CNames BList CMarkRows BObj2 BRetO BStore BJoin BJoinS PJoin PJoinS PJoin2 CTakes CTakesS CNTwS PTwice CObjValid CObjValidS CCopyS CGlobalOf CFind
theorem one_sy(y:YD):∀u∈symbolC y,u.oneCell'=true:=by
 intro u hu;simp only[symbolC,List.mem_cons,List.not_mem_nil,or_false]at hu;rcases hu with rfl|rfl|rfl|rfl<;>rfl
theorem one_six{a:ByteArray}{b c e:Int}{A B:Option Addr}{n m p q:Nat}:∀u∈[Value.string a,.int .i64 b,.int .i64 c,.slice A n m,.int .i64 e,.slice B p q],u.oneCell'=true:=by
 intro u hu;simp only[List.mem_cons,List.not_mem_nil,or_false]at hu;rcases hu with rfl|rfl|rfl|rfl|rfl|rfl<;>rfl
theorem wrap_add{x n:Int}(h:-1000<=x+n/\x+n<=1000):IntKind.i64.wrap (x+n)=x+n:=IntWalk.i64_in _ (by omega)
theorem hit_bind{d:OD}{nm:ByteArray}{j:Nat}(h:objOk d=true)(hg:glob d.ys nm=some j):(d.ys.getD j dY).2.1=1\/(d.ys.getD j dY).2.1=2:=by
 obtain⟨_,h2,h3⟩:=fiS_spec d.ys 0 j hg;rw[Nat.sub_zero]at h2 h3;obtain⟨_,_,_,h4,_⟩:=(obj_iff d).1 h;have hm:d.ys.getD j dY∈d.ys:=by rw[List.getD_eq_getElem?_getD,List.getElem?_eq_getElem h2];exact List.getElem_mem h2
 have h5:=h4 _ hm;generalize d.ys.getD j dY=y at *;simp only[symOk,bindOk,inB,Bool.and_eq_true,decide_eq_true_eq]at h5;simp only[hit,Bool.and_eq_true,Bool.not_eq_true',decide_eq_false_iff_not]at h3;have:=h5.1.2;omega
set_option maxHeartbeats 40000000 in
theorem joinObjectsS_any(a b:OV)(w:World)(hra:RdO w w.heap.size a)(hrb:RdO w w.heap.size b)(hfa:Fit a)(hfb:Fit b)(hna:Nils a)(hnb:Nils b):
  Calls Tryz.prog 113 #[.agg #[.slice a.A a.ps.length a.c,.slice a.Y a.ys.length a.yc],.agg #[.slice b.A b.ps.length b.c,.slice b.Y b.ys.length b.yc]] w (RetOB (joinD a.d b.d) w):=by
 obtain⟨i0,hi1,hi2,hi3,hi4⟩:=info_parts CInts.info64;have HI:=h_ (And.intro hi1 (And.intro hi2 (And.intro hi3 hi4)));clear hi1 hi2 hi3 hi4;obtain⟨iY,hiy1,hiy2,hiy3,hiy4⟩:=info_parts CSymbols.info;have HIY:=h_ (And.intro hiy1 (And.intro hiy2 (And.intro hiy3 hiy4)));clear hiy1 hiy2 hiy3 hiy4;obtain⟨iS,his1,his2,his3,his4⟩:=info_parts BObj.info;have HIS:=h_ (And.intro his1 (And.intro his2 (And.intro his3 his4)));clear his1 his2 his3 his4;obtain⟨aA,ac,aps,aY,ayc,ays⟩:=a;obtain⟨bA,bc,bps,bY,byc,bys⟩:=b;have HRA:=h_ hra;have HRB:=h_ hrb;have HFA:=h_ hfa;have HFB0:=h_ hfb;have HNA:=h_ hna;have HNB:=h_ hnb;clear hra hrb hfa hfb hna hnb;simp only;have HB:=h_ (show Below w.heap.size w (((w.alloc (.cells #[.slice aA aps.length ac,.slice aY ays.length ayc] 26)).alloc (.cells #[.slice bA bps.length bc,.slice bY bys.length byc] 26)).alloc (.cells #[.slice none 0 0,.slice none 0 0] 26))from b_);have HBA:=h_ (((Box.new w 26 #[.slice aA aps.length ac,.slice aY ays.length ayc]).alloc (.cells #[.slice bA bps.length bc,.slice bY bys.length byc] 26)).alloc (.cells #[.slice none 0 0,.slice none 0 0] 26));have h1:=(Box.new (w.alloc (.cells #[.slice aA aps.length ac,.slice aY ays.length ayc] 26)) 26 #[.slice bA bps.length bc,.slice bY bys.length byc]).alloc (.cells #[.slice none 0 0,.slice none 0 0] 26);have h2:=Box.new ((w.alloc (.cells #[.slice aA aps.length ac,.slice aY ays.length ayc] 26)).alloc (.cells #[.slice bA bps.length bc,.slice bY bys.length byc] 26)) 26 #[.slice none 0 0,.slice none 0 0];simp only[World.size_alloc]at h1 h2;have HBB:=h_ h1;have HRR:=h_ h2;clear h1 h2;go_enter Tryz.func113,Tryz.ntmps113
 go_wp2_with fail
 generalize (((w.alloc (.cells #[.slice aA aps.length ac,.slice aY ays.length ayc] 26)).alloc (.cells #[.slice bA bps.length bc,.slice bY bys.length byc] 26)).alloc (.cells #[.slice none 0 0,.slice none 0 0] 26))=w0 at *;generalize hV:w.heap.size+1=V at *;generalize hR:V+1=R at *;have HVR:=h_ (show w.heap.size<V/\V<R from by omega);have HR0:=h_ (show w.heap.size<R from by omega);clear hV hR;refine(objectValidS_any ⟨aA,ac,aps,aY,ayc,ays⟩ w0 ((HRA.o.below HB.o).more HB.o.size) HFA.o).mono ?_;rintro e w1 ⟨rfl,b1⟩;replace HB:=c_ HB b1;replace HBA:=h_ (HBA.o.call b1);replace HBB:=h_ (HBB.o.call b1);replace HRR:=h_ (HRR.o.call b1);clear b1;have HJD:=h_ (show joinD (OV.d ⟨aA,ac,aps,aY,ayc,ays⟩) (OV.d ⟨bA,bc,bps,bY,byc,bys⟩)=if objOk (OV.d ⟨aA,ac,aps,aY,ayc,ays⟩)=true/\objOk (OV.d ⟨bA,bc,bps,bY,byc,bys⟩)=true/\(twice [(OV.d ⟨aA,ac,aps,aY,ayc,ays⟩),(OV.d ⟨bA,bc,bps,bY,byc,bys⟩)]).length=0/\objOk (joinR (OV.d ⟨aA,ac,aps,aY,ayc,ays⟩) (OV.d ⟨bA,bc,bps,bY,byc,bys⟩))=true then some (joinR (OV.d ⟨aA,ac,aps,aY,ayc,ays⟩) (OV.d ⟨bA,bc,bps,bY,byc,bys⟩))else none from rfl);cases hoa:objOk (OV.d ⟨aA,ac,aps,aY,ayc,ays⟩)
 ·have HV:=h_ (HJD.o.trans (if_neg (by rw[hoa];rintro⟨h,_⟩;cases h)));clear hoa HJD;have y0:=d_ HRR.o 0;have y1:=d_ HRR.o 1;have yf0:=HRR.o.frozen 0;have yf1:=HRR.o.frozen 1;have hrl:=HRR.o.lt;obtain⟨k0,k1⟩:=cells2 (u:=.slice none 0 0) (v:=.slice none 0 0) HRR.o;have HFB:=h_ (below2 HB.o (Nat.le_of_lt HR0.o) (.slice none 0 0) (.slice none 0 0));go_wp2_with fail
  (try simp only[Exit.inBlock,Exit.then])
  exact bodyPost_ret (v:=.tuple #[.agg #[.slice none 0 0,.slice none 0 0],.bool false]) (by simp[results,Tryz.results113,go_sem,k0,k1]) rfl (by rw[HV.o];exact ret_nilO HFB.o)
 have y0:=d_ HBB.o 0;have y1:=d_ HBB.o 1;have hyl:=HBB.o.lt;have HOA:=h_ hoa;clear hoa;go_wp2_with fail
 clear y0 y1 hyl;refine(objectValidS_any ⟨bA,bc,bps,bY,byc,bys⟩ w1 ((HRB.o.below HB.o).more HB.o.size) HFB0.o).mono ?_;rintro e w2 ⟨rfl,b2⟩;replace HB:=c_ HB b2;replace HBA:=h_ (HBA.o.call b2);replace HBB:=h_ (HBB.o.call b2);replace HRR:=h_ (HRR.o.call b2);clear b2;cases hob:objOk (OV.d ⟨bA,bc,bps,bY,byc,bys⟩)
 ·have HV:=h_ (HJD.o.trans (if_neg (by rw[hob];rintro⟨_,h,_⟩;cases h)));clear hob HJD;have y0:=d_ HRR.o 0;have y1:=d_ HRR.o 1;have yf0:=HRR.o.frozen 0;have yf1:=HRR.o.frozen 1;have hrl:=HRR.o.lt;obtain⟨k0,k1⟩:=cells2 (u:=.slice none 0 0) (v:=.slice none 0 0) HRR.o;have HFB:=h_ (below2 HB.o (Nat.le_of_lt HR0.o) (.slice none 0 0) (.slice none 0 0));go_wp2_with fail
  (try simp only[Exit.inBlock,Exit.then])
  exact bodyPost_ret (v:=.tuple #[.agg #[.slice none 0 0,.slice none 0 0],.bool false]) (by simp[results,Tryz.results113,go_sem,k0,k1]) rfl (by rw[HV.o];exact ret_nilO HFB.o)
 have HOB:=h_ hob;clear hob;have HSA:=h_ (obj_all HOA.o);have HSB:=h_ (obj_all HOB.o);have ha12:ays.length<=12:=HSA.o.2.1;have hb12:bys.length<=12:=HSB.o.2.1;have ha8:aps.length<=8:=by have h:=HSA.o.1;simpa[OV.d]using h
 have hb8:bps.length<=8:=by have h:=HSB.o.1;simpa[OV.d]using h
 have HYB:=h_ (show ∀y∈bys,-2<=y.2.2.1/\y.2.2.1<=8 from λy hy=>sym_wh (((obj_iff _).1 HOB.o).2.2.2.1 y hy) ((obj_iff _).1 HOB.o).1);have HOO:=h_ (show ∀d∈[(OV.d ⟨aA,ac,aps,aY,ayc,ays⟩),(OV.d ⟨bA,bc,bps,bY,byc,bys⟩)],objOk d=true from λd hd=>by
  simp only[List.mem_cons,List.not_mem_nil,or_false]at hd;rcases hd with rfl|rfl
  ·exact HOA.o
  ·exact HOB.o)
 have x0:=d_ HBA.o 0;have x1:=d_ HBA.o 1;have y0:=d_ HBB.o 0;have y1:=d_ HBB.o 1;have hxl:=HBA.o.lt;have hyl:=HBB.o.lt;have BL:Below w2.heap.size w2 (w2.alloc (.cells #[.slice aA aps.length ac,.slice aY ays.length ayc,.slice bA bps.length bc,.slice bY bys.length byc] 26)):=b_;have HTW:=h_ (show Calls Tryz.prog 116 #[.slice (some ⟨w2.heap.size,0,none⟩) 2 2] (w2.alloc (.cells #[.slice aA aps.length ac,.slice aY ays.length ayc,.slice bA bps.length bc,.slice bY bys.length byc] 26)) (RetN (twiceS [(OV.d ⟨aA,ac,aps,aY,ayc,ays⟩),(OV.d ⟨bA,bc,bps,bY,byc,bys⟩)]) (w2.alloc (.cells #[.slice aA aps.length ac,.slice aY ays.length ayc,.slice bA bps.length bc,.slice bY bys.length byc] 26)))from by
  have hrd:=rd_lit w2 #[.slice aA aps.length ac,.slice aY ays.length ayc,.slice bA bps.length bc,.slice bY bys.length byc] 26 _ rfl;have hsz:(w2.alloc (.cells #[.slice aA aps.length ac,.slice aY ays.length ayc,.slice bA bps.length bc,.slice bY bys.length byc] 26)).heap.size=w2.heap.size+1:=by simp
  have h:=namesTwiceS_any (some ⟨w2.heap.size,0,none⟩) [⟨aA,ac,aps,aY,ayc,ays⟩,⟨bA,bc,bps,bY,byc,bys⟩] 2 (w2.alloc (.cells #[.slice aA aps.length ac,.slice aY ays.length ayc,.slice bA bps.length bc,.slice bY bys.length byc] 26)) ⟨by rw[hsz];exact hrd,λo ho=>by
   simp only[List.mem_cons,List.not_mem_nil,or_false]at ho;rcases ho with rfl|rfl
   ·exact(HRA.o.below (HB.o.trans (BL.mono HB.o.size))).more (by rw[hsz];have:=HB.o.size;omega)
   ·exact(HRB.o.below (HB.o.trans (BL.mono HB.o.size))).more (by rw[hsz];have:=HB.o.size;omega)⟩ ⟨by simp,λo ho=>by
   simp only[List.mem_cons,List.not_mem_nil,or_false]at ho;rcases ho with rfl|rfl
   ·exact HFA.o
   ·exact HFB0.o⟩ (by
   have h:=HOO.o;simp only[objsOk,Bool.and_eq_true,decide_eq_true_eq,List.all_eq_true];exact⟨by simp,h⟩)
  exact h)
 replace HB:=c_ HB BL;replace HBA:=h_ (HBA.o.call BL);replace HBB:=h_ (HBB.o.call BL);replace HRR:=h_ (HRR.o.call BL);clear BL;go_wp2_with fail
 clear x0 x1 y0 y1 hxl hyl;generalize w2.alloc (.cells #[.slice aA aps.length ac,.slice aY ays.length ayc,.slice bA bps.length bc,.slice bY bys.length byc] 26)=w3 at *;refine HTW.o.mono ?_;rintro e w4 ⟨A3,c3,rfl,_,b3⟩;clear HTW;replace HB:=c_ HB b3;replace HBA:=h_ (HBA.o.call b3);replace HBB:=h_ (HBB.o.call b3);replace HRR:=h_ (HRR.o.call b3);clear b3;have HTP:=h_ (twice_same HOO.o);generalize (twiceS [(OV.d ⟨aA,ac,aps,aY,ayc,ays⟩),(OV.d ⟨bA,bc,bps,bY,byc,bys⟩)]).length=tn at *;by_cases ht:0<tn
 ·have HV:=h_ (HJD.o.trans (if_neg (by rintro⟨_,_,h,_⟩;have:=HTP.o.2 h;omega)));clear HJD;have y0:=d_ HRR.o 0;have y1:=d_ HRR.o 1;have yf0:=HRR.o.frozen 0;have yf1:=HRR.o.frozen 1;have hrl:=HRR.o.lt;obtain⟨k0,k1⟩:=cells2 (u:=.slice none 0 0) (v:=.slice none 0 0) HRR.o;have HFB:=h_ (below2 HB.o (Nat.le_of_lt HR0.o) (.slice none 0 0) (.slice none 0 0));go_wp2_with fail
  (try simp only[Exit.inBlock,Exit.then])
  exact bodyPost_ret (v:=.tuple #[.agg #[.slice none 0 0,.slice none 0 0],.bool false]) (by simp[results,Tryz.results113,go_sem,k0,k1]) rfl (by rw[HV.o];exact ret_nilO HFB.o)
 have HT0:=h_ (show(twice [(OV.d ⟨aA,ac,aps,aY,ayc,ays⟩),(OV.d ⟨bA,bc,bps,bY,byc,bys⟩)]).length=0 from HTP.o.1 (by omega));clear HTP;have x0:=d_ HBA.o 0;have x1:=d_ HBA.o 1;have hxl:=HBA.o.lt;go_wp2_with fail
 clear x0 x1 hxl ht HOO;refine(l4Copy_any ⟨aA,ac,aps,aY,ayc,ays⟩ w4 ((HRA.o.below HB.o).more HB.o.size) HFA.o HNA.o ⟨by show aps.length<=100;omega,by show ays.length<=100;omega⟩).mono ?_;rintro e w5 ⟨⟨qA,qc,qps,qY,qyc,qys⟩,rfl,hqd,o5,b5⟩;obtain⟨hqp,hqy⟩:qps.map SV.d=aps.map SV.d/\ays=qys:=by simp only[OV.d,OD.mk.injEq]at hqd;exact⟨hqd.1,hqd.2.symm⟩
 subst hqy;have HQP:=h_ hqp;simp only[OV.v];have B6:Below w5.heap.size w5 (w5.alloc (.cells #[.slice qA qps.length qc,.slice qY ays.length qyc] 26)):=b_;have HO:=h_ (Box.new w5 26 #[.slice qA qps.length qc,.slice qY ays.length qyc]);have HRw:=h_ HRR.o.lt;have HQ5:=h_ (show OwnO (w5.alloc (.cells #[.slice qA qps.length qc,.slice qY ays.length qyc] 26)) w.heap.size ⟨qA,qc,qps,qY,qyc,ays⟩from(o5.down HB.o.size).call B6);have HQL5:=h_ (λk hk=>(o5.lt k hk).2);have hs45:=b5.size;replace HB:=c_ HB b5;replace HBA:=h_ (HBA.o.call b5);replace HBB:=h_ (HBB.o.call b5);replace HRR:=h_ (HRR.o.call b5);replace HB:=c_ HB B6;replace HBA:=h_ (HBA.o.call B6);replace HBB:=h_ (HBB.o.call B6);replace HRR:=h_ (HRR.o.call B6);have y0:=d_ HBB.o 0;have y1:=d_ HBB.o 1;have hyl:=HBB.o.lt;clear hqd hqp o5 b5 B6;go_wp2_with fail
 clear y0 y1 hyl;have HOS:=h_ (show R<w5.heap.size from by have:=HRw.o;omega);generalize w5.alloc (.cells #[.slice qA qps.length qc,.slice qY ays.length qyc] 26)=w6 at *;have hw56:w5.heap.size<w6.heap.size:=HO.o.lt;generalize w5.heap.size=O at *;refine(l4Copy_any ⟨bA,bc,bps,bY,byc,bys⟩ w6 ((HRB.o.below HB.o).more HB.o.size) HFB0.o HNB.o ⟨by show bps.length<=100;omega,by show bys.length<=100;omega⟩).mono ?_;rintro e w7 ⟨⟨yA,yc,yps,yY,yyc,yys⟩,rfl,hyd,o7,b7⟩;obtain⟨hyp,hyy⟩:yps.map SV.d=bps.map SV.d/\bys=yys:=by simp only[OV.d,OD.mk.injEq]at hyd;exact⟨hyd.1,hyd.2.symm⟩
 subst hyy;have HYP:=h_ hyp;simp only[OV.v];have B8:Below w7.heap.size w7 ((w7.alloc (.cells #[.slice yA yps.length yc,.slice yY bys.length yyc] 26)).alloc (.cells #[] 3)):=b_;have hbq:=(Box.new w7 26 #[.slice yA yps.length yc,.slice yY bys.length yyc]).alloc (.cells #[] 3);have hs67:=b7.size;have hgeY:=(λk hk=>(o7.lt k hk).1);have HSEP:=h_ (show ∀k,oblk ⟨qA,qc,qps,qY,qyc,ays⟩ k->∀m,oblk ⟨yA,yc,yps,yY,yyc,bys⟩ m->k≠m from λk hk m hm e=>by
  have h1:=HQL5.o k hk;have h2:=hgeY m hm;omega)
 have HOY:=h_ (show O<w7.heap.size from by omega);replace HB:=c_ HB b7;replace HBA:=h_ (HBA.o.call b7);replace HBB:=h_ (HBB.o.call b7);replace HRR:=h_ (HRR.o.call b7);replace HO:=h_ (HO.o.call b7);replace HQ5:=h_ (HQ5.o.call b7);replace HB:=c_ HB B8;replace HBA:=h_ (HBA.o.call B8);replace HBB:=h_ (HBB.o.call B8);replace HRR:=h_ (HRR.o.call B8);replace HO:=h_ (HO.o.call B8);replace HQ5:=h_ (HQ5.o.call B8);have HJ:=h_ (show J1S w V R O w7.heap.size ⟨aA,ac,aps,aY,ayc,ays⟩ ⟨bA,bc,bps,bY,byc,bys⟩ ⟨qA,qc,qps,qY,qyc,ays⟩ ⟨yA,yc,yps,yY,yyc,bys⟩ (some ⟨w7.heap.size+1,0,none⟩) 0 [] ((w7.alloc (.cells #[.slice yA yps.length yc,.slice yY bys.length yyc] 26)).alloc (.cells #[] 3))from
  ⟨⟨HBA.o,HBB.o,HRR.o,HO.o,HQ5.o,Row.empty _ _ _ _ _,HB.o,⟨HVR.o.1,HVR.o.2,HOS.o⟩⟩,hbq,(o7.down (by have:=HRw.o;have:=HR0.o;omega)).call B8,λk hk hk2=>HSEP.o k (.inr hk) k (.inr hk2) rfl,HOY.o⟩)
 have HAP:=h_ (show Apart qA qc yA yc from λk hk hk2=>HSEP.o k (.inl (.inl hk)) k (.inl (.inl hk2)) rfl);have HPW:=h_ (show PwSs (qps++yps)from List.pairwise_append.2 ⟨HQ5.o.1.2.2,o7.1.2.2,λa ha b hb=>⟨λk hk hk2=>HSEP.o k (.inl (.inr ⟨a,ha,.inl hk⟩)) k (.inl (.inr ⟨b,hb,.inl hk2⟩)) rfl,λk hk hk2=>HSEP.o k (.inl (.inr ⟨a,ha,.inr hk⟩)) k (.inl (.inr ⟨b,hb,.inr hk2⟩)) rfl⟩⟩);clear hyd hyp o7 b7 B8 hbq hgeY HSEP HQL5 HQ5 HO HRR HBA HBB HB HRw hs45 hs67 hw56;go_wp2_with fail
 generalize (w7.alloc (.cells #[.slice yA yps.length yc,.slice yY bys.length yyc] 26)).alloc (.cells #[] 3)=w8 at *;generalize w7.heap.size+1=N8 at *;generalize w7.heap.size=Y at *;go_loopw [8,9] (λnv i wi=>∃(k:Nat) (oY:Option Addr) (oyc:Nat) (oys:List YD) (An:Option Addr) (cn:Nat) (ns:List Int),k<=bys.length/\nv=.slice An ns.length cn/\i=.int .i64 k/\(oys,ns)=joinY aps.length ays (bys.take k)/\J1S w V R O Y ⟨aA,ac,aps,aY,ayc,ays⟩ ⟨bA,bc,bps,bY,byc,bys⟩ ⟨qA,qc,qps,oY,oyc,oys⟩ ⟨yA,yc,yps,yY,yyc,bys⟩ An cn ns wi) (λ_ i _=>bys.length-(intOf i).toNat)
 case atStart=>exact⟨0,qY,qyc,ays,_,0,[],Nat.zero_le _,rfl,rfl,rfl,HJ.o⟩
 case round=>
  clear HJ;obtain⟨k,oY,oyc,oys,An,cn,ns,hk,rfl,rfl,hjy,hj⟩:=hrel;have HJ:=h_ hj;have HJY:=h_ hjy;clear hj hjy;have hol:ays.length<=oys.length/\oys.length<=ays.length+k/\ns.length=k:=by have h:=joinY_len aps.length ays (bys.take k) (ays,[]) (Nat.le_refl _);have h2:(oys,ns)=(bys.take k).foldl (jstep aps.length ays) (ays,[]):=HJY.o;rw[<-h2]at h;simp only[List.length_take,List.length_nil]at h;have hm:min k bys.length=k:=Nat.min_eq_left hk;rw[hm]at h;omega
  obtain⟨hol1,hol2,hol3⟩:=hol;have HNL:=h_ hol3;have hol4:ns.length<=12:=by omega
  clear hol3;have v1:=d_ HJ.o.bq 1;have hvl:=HJ.o.bq.lt;by_cases hlt:k<bys.length
  ·obtain⟨bb,off,hbY,hbb,hc⟩:=(HJ.o.oq.rd.2).row symbolC_len (by decide) hlt;simp only at hbY;have hc0:=hc 0 _ rfl;have hc1:=hc 1 _ rfl;have hc2:=hc 2 _ rfl;have hc3:=hc 3 _ rfl;simp only[Nat.add_zero]at hc0;subst hbY;have HYS:=h_ (HYB.o _ (List.getElem_mem hlt));have HSN:=h_ (joinY_snoc aps.length ays hlt);rw[<-HJY.o]at HSN;clear hc HJY;generalize bys[k]=s at *;have B1:Below wr.heap.size wr (wr.alloc (.cells #[.string s.1,.int .i64 s.2.1,.int .i64 s.2.2.1,.int .i64 s.2.2.2] 67)):=b_;have HB1:=h_ B1;have HXO:=h_ (Box.new wr 67 #[.string s.1,.int .i64 s.2.1,.int .i64 s.2.2.1,.int .i64 s.2.2.2]);clear B1;go_upto_if 51 with(fail)
   clear hc0 hc1 hc2 hc3 v1 hvl;generalize wr.alloc (.cells #[.string s.1,.int .i64 s.2.1,.int .i64 s.2.2.1,.int .i64 s.2.2.2] 67)=wx at *;generalize hXX:wr.heap.size=X at *;have hXw:=hXX;go_cut []from 49 to 58 (λwy=>Below X wr wy/\Box wy X 67 #[.string s.1,.int .i64 s.2.1,.int .i64 (shiftY aps.length s).2.2.1,.int .i64 s.2.2.2])
   case first=>
    obtain⟨hw0,hw1⟩:=HYS.o;by_cases hneg:s.2.2.1<0
    ·have HSH:=h_ (show(shiftY aps.length s).2.2.1=s.2.2.1 from if_pos hneg);have hd:decide (0<=s.2.2.1)=false:=decide_eq_false (by omega);go_wp2_with fail
     go_meet
     rw[HSH.o];exact⟨HB1.o,HXO.o⟩
    ·have HSH:=h_ (show(shiftY aps.length s).2.2.1=s.2.2.1+aps.length from if_neg hneg);have hd:decide (0<=s.2.2.1)=true:=decide_eq_true (by omega);have hwp:IntKind.i64.wrap (s.2.2.1+(aps.length:Int))=s.2.2.1+(aps.length:Int):=wrap_add (by omega);have HJx:=h_ (HJ.o.call (by rw[hXX];exact HB1.o));have x0:=d_ HJx.o.j.ba 0;have o2:=d_ HXO.o 2;have of2:=HXO.o.frozen 2;have hxl:=HJx.o.j.ba.lt;have hol:=HXO.o.lt;have HB2:=h_ (HB1.o.setCell (p:=⟨X,2,none⟩) (Nat.le_refl _) (.int .i64 (s.2.2.1+(aps.length:Int))));have HX2:=h_ (HXO.o.set 2 (.int .i64 (s.2.2.1+(aps.length:Int))));go_wp2_with fail
     go_meet
     rw[HSH.o];exact⟨HB2.o,HX2.o⟩
   case rest=>
    rename World=>wy
    obtain⟨bw,h10⟩:=hcut;clear HXO HB1;rw[<-hXX]at bw;replace HJ:=h_ (HJ.o.call bw);have HXO:=h_ h10;clear bw h10 hXw hXX;generalize hwh:(shiftY aps.length s).2.2.1=wh at *;have HWH:=h_ (show shiftY aps.length s=(s.1,s.2.1,wh,s.2.2.2)from by rw[<-hwh];rfl);clear hwh;have x1:=d_ HJ.o.j.ba 1;have s0:=d_ HXO.o 0;have hxl:=HJ.o.j.ba.lt;have hsl:=HXO.o.lt;go_wp2_with fail
    refine(known_any s.1 aY ays ayc wy ((HRA.o.2.below HJ.o.j.b).more HJ.o.j.b.size) (by unfold maxLen;omega)).mono ?_;rintro e w7 ⟨rfl,b7⟩;clear x1 s0 hxl hsl;replace HJ:=h_ (HJ.o.call b7);replace HXO:=h_ (HXO.o.call b7);clear b7;generalize hgi:globI ays s.1=gi at *;have HGI:=h_ hgi;clear hgi;have s1:=d_ HXO.o 1;have hsl:=HXO.o.lt
    go_upto_region 13 with fail
    go_cut [70]from 64 to 69 (λv wx=>v=.bool (decide (s.2.1=0)||(glob ays s.1).isNone)/\wx=w7)
    case first=>
     by_cases h0:s.2.1=0
     ·have hq:(s.2.1==0)=true:=beq_iff_eq.2 h0;have HD:=h_ (show(decide (s.2.1=0)||(glob ays s.1).isNone)=true from by rw[decide_eq_true h0];rfl)
      clear h0;go_wp2_with fail
      go_meet
      exact⟨by rw[HD.o],rfl⟩
     ·have hq:(s.2.1==0)=false:=beq_eq_false_iff_ne.2 h0;cases hgl:glob ays s.1 with
      |none=>
       have hg:gi=-1:=HGI.o.symm.trans (by unfold globI;rw[hgl]);have hd:decide (gi<0)=true:=decide_eq_true (by omega);have HD:=h_ (show(decide (s.2.1=0)||(glob ays s.1).isNone)=true from by rw[decide_eq_false h0,hgl];rfl)
       clear h0 hgl hg;go_wp2_with fail
       go_meet
       exact⟨by rw[HD.o],rfl⟩
      |some j=>
       have hg:gi=(j:Int):=HGI.o.symm.trans (by unfold globI;rw[hgl]);have hd:decide (gi<0)=false:=decide_eq_false (by omega);have HD:=h_ (show(decide (s.2.1=0)||(glob ays s.1).isNone)=false from by rw[decide_eq_false h0,hgl];rfl)
       clear h0 hgl hg;go_wp2_with fail
       go_meet
       exact⟨by rw[HD.o],rfl⟩
    case rest=>
     obtain⟨rfl,rfl⟩:=hcut;clear s1 hsl;cases hnw:(decide (s.2.1=0)||(glob ays s.1).isNone)
     ·obtain⟨h0,hgn⟩:=Bool.or_eq_false_iff.1 hnw;cases hgl:glob ays s.1 with
      |none=>rw[hgl]at hgn;cases hgn
      |some j=>
       have hjl:j<ays.length:=by have h:=fiS_spec ays 0 j hgl;omega
       obtain rfl:gi=(j:Int):=HGI.o.symm.trans (by unfold globI;rw[hgl]);have HJS:=h_ (show jstep aps.length ays (oys,ns) s=jset aps.length ays (oys,ns) s j from by
        unfold jstep;rw[if_neg (of_decide_eq_false h0),hgl])
       have hyb:=hit_bind (d:=(OV.d ⟨aA,ac,aps,aY,ayc,ays⟩)) HOA.o hgl;have HYJ0:ays.getD j dY=ays[j]:=by rw[List.getD_eq_getElem?_getD,List.getElem?_eq_getElem hjl];rfl
       have HBE:=h_ (show betterB (s.1,s.2.1,wh,s.2.2.2) (ays[j])=takesB (ays[j]) s from by
        rw[<-HWH.o];have h:(ays.getD j dY).2.1=1\/(ays.getD j dY).2.1=2:=hyb;rw[HYJ0]at h;exact better_same h)
       have HYJ:=h_ HYJ0;clear hnw h0 hgn hgl HGI hyb HYJ0;have BA:Below wc.heap.size wc (wc.alloc (.cells #[.int .i64 j] 3)):=b_;have HJa:=h_ (HJ.o.call BA);have HXa:=h_ (HXO.o.call BA);clear BA;go_wp2_with (at_builtin;refine wpList_app (wc.alloc (.cells #[.int .i64 j] 3)) rfl (.tmp 83) (.tmp 85) 89 rfl 3 i0 (.int .i64 0) 1 8 Tryz.underlying89 HI.o.1 HI.o.2.1 HI.o.2.2.1 HI.o.2.2.2 rfl (by decide) w.heap.size An ns.length cn (ints .i64 ns) rfl HJa.o.j.row HJa.o.j.b.size (some ⟨wc.heap.size,0,none⟩) 1 1 [.int .i64 j] rfl (rd_lit wc #[.int .i64 j] 3 _ rfl) rfl (λh=>by cases h) oneI1 ?n1 ?n2 ?_)
       case n1=>unfold maxLen;omega
       case n2=>omega
       intro A9 n9 c9 wf hn9 o9 g9 k9;have HJ9:=h_ (J1S.addN HJa.o (j:Int) hn9 o9 g9);have HX9:=h_ (HXa.o.grown g9 (HJa.o.j.row.box HXa.o (by decide)));subst hn9;clear o9 g9 k9 HJa HXa HJ HXO;generalize hG:ns++[(j:Int)]=ms at *;have hzl:ms.length=ns.length+1:=by rw[<-hG];simp
       rw[<-hzl];have HG:=h_ hG;clear hG hzl;obtain⟨ab,aoff,haY,hab,hca⟩:=(HRA.o.2.below HJ9.o.j.b).row symbolC_len (by decide) hjl;simp only at haY;have c0:=hca 0 _ rfl;have c1:=hca 1 _ rfl;have c2:=hca 2 _ rfl;have c3:=hca 3 _ rfl;simp only[Nat.add_zero]at c0;subst haY;generalize ays[j]=y at *;have x1:=d_ HJ9.o.j.ba 1;have s0:=d_ HX9.o 0;have s1:=d_ HX9.o 1;have s2:=d_ HX9.o 2;have s3:=d_ HX9.o 3;have hxl:=HJ9.o.j.ba.lt;have hsl:=HX9.o.lt;have habl:ab<wf.heap.size:=Nat.lt_of_lt_of_le hab HJ9.o.j.b.size;clear hca;have hj0:(0:Int)<=(j:Int):=by omega
       go_wp2_with fail
       refine Reg.startT (λW=>W.cell? ⟨X,0,none⟩=some (.string s.1)/\W.cell? ⟨X,1,none⟩=some (.int .i64 s.2.1)/\W.cell? ⟨X,2,none⟩=some (.int .i64 wh)/\W.cell? ⟨X,3,none⟩=some (.int .i64 s.2.2.2)/\W.cell? ⟨w.heap.size,1,none⟩=some (.slice (some ⟨ab,aoff,none⟩) ays.length ayc)/\W.cell? ⟨ab,aoff+j*4,none⟩=some (.string y.1)/\W.cell? ⟨ab,aoff+j*4+1,none⟩=some (.int .i64 y.2.1)/\W.cell? ⟨ab,aoff+j*4+2,none⟩=some (.int .i64 y.2.2.1)/\W.cell? ⟨ab,aoff+j*4+3,none⟩=some (.int .i64 y.2.2.2)) (λ_=>false) (by kernel_rfl) ?_;have hHeld:wf.drew.cell? ⟨X,0,none⟩=some (.string s.1)/\wf.drew.cell? ⟨X,1,none⟩=some (.int .i64 s.2.1)/\wf.drew.cell? ⟨X,2,none⟩=some (.int .i64 wh)/\wf.drew.cell? ⟨X,3,none⟩=some (.int .i64 s.2.2.2)/\wf.drew.cell? ⟨w.heap.size,1,none⟩=some (.slice (some ⟨ab,aoff,none⟩) ays.length ayc)/\wf.drew.cell? ⟨ab,aoff+j*4,none⟩=some (.string y.1)/\wf.drew.cell? ⟨ab,aoff+j*4+1,none⟩=some (.int .i64 y.2.1)/\wf.drew.cell? ⟨ab,aoff+j*4+2,none⟩=some (.int .i64 y.2.2.1)/\wf.drew.cell? ⟨ab,aoff+j*4+3,none⟩=some (.int .i64 y.2.2.2):=⟨s0,s1,s2,s3,x1,c0,c1,c2,c3⟩;refine t_ 0 rfl ?_;refine t_ 1 rfl ?_;refine t_ 2 rfl ?_;refine t_ 3 rfl ?_;refine t_ 4 rfl ?_;refine t_ 5 rfl ?_;refine Reg.oneT (i:=6) rfl (by kernel_rfl) (λK hK=>?_);go_simp
       refine(better_any (s.1,s.2.1,wh,s.2.2.2) y _).mono ?_;rintro e w8 ⟨rfl,b8⟩;have b8':=of_drew b8;have hHeld:w8.cell? ⟨X,0,none⟩=some (.string s.1)/\w8.cell? ⟨X,1,none⟩=some (.int .i64 s.2.1)/\w8.cell? ⟨X,2,none⟩=some (.int .i64 wh)/\w8.cell? ⟨X,3,none⟩=some (.int .i64 s.2.2.2)/\w8.cell? ⟨w.heap.size,1,none⟩=some (.slice (some ⟨ab,aoff,none⟩) ays.length ayc)/\w8.cell? ⟨ab,aoff+j*4,none⟩=some (.string y.1)/\w8.cell? ⟨ab,aoff+j*4+1,none⟩=some (.int .i64 y.2.1)/\w8.cell? ⟨ab,aoff+j*4+2,none⟩=some (.int .i64 y.2.2.1)/\w8.cell? ⟨ab,aoff+j*4+3,none⟩=some (.int .i64 y.2.2.2):=⟨(b8'.cell (p:=⟨X,0,none⟩) hsl).trans s0,(b8'.cell (p:=⟨X,1,none⟩) hsl).trans s1,(b8'.cell (p:=⟨X,2,none⟩) hsl).trans s2,(b8'.cell (p:=⟨X,3,none⟩) hsl).trans s3,(b8'.cell (p:=⟨w.heap.size,1,none⟩) hxl).trans x1,(b8'.cell (p:=⟨ab,aoff+j*4,none⟩) habl).trans c0,(b8'.cell (p:=⟨ab,aoff+j*4+1,none⟩) habl).trans c1,(b8'.cell (p:=⟨ab,aoff+j*4+2,none⟩) habl).trans c2,(b8'.cell (p:=⟨ab,aoff+j*4+3,none⟩) habl).trans c3⟩;refine hK.out _ _ hHeld ?_;clear hK K;try simp only[y1_,y2_,y3_,Act.put,y4_,y5_,y6_]
       refine Reg.doneT (by kernel_rfl) ?_ _;clear hHeld x1 s0 s1 s2 s3 c0 c1 c2 c3 hxl hsl habl hab;replace HJ9:=h_ (HJ9.o.call b8');replace HX9:=h_ (HX9.o.call b8');clear b8 b8';rw[HBE.o];cases htb:takesB y s
       ·have HJ2:=h_ (show joinY aps.length ays (bys.take (k+1))=(oys,ms)from by
         rw[HSN.o,HJS.o,<-HG.o];unfold jset;rw[HYJ.o,htb]
         rfl)
        clear htb HSN;go_wp2_with fail
        refine⟨⟨k+1,oY,oyc,oys,A9,c9,ms,by omega,rfl,by go_num,HJ2.o.symm,HJ9.o⟩,by simp[intOf];omega⟩
       ·have HJ2:=h_ (show joinY aps.length ays (bys.take (k+1))=(oys.set j (s.1,s.2.1,wh,s.2.2.2),ms)from by
         rw[HSN.o,HJS.o,<-HG.o];unfold jset;rw[HYJ.o,htb,HWH.o]
         rfl)
        clear htb HSN;obtain⟨g,hYg,hg1,hg2,hgb,hown⟩:=own_of HJ9.o.j.own.2 (by show 0<oys.length;omega);simp only at hYg;subst hYg;have hjo:j<oys.length:=by omega
        simp only at hown;obtain⟨⟨old0,hk0⟩,hfz0⟩:=own_old hown (j:=j*4) (by omega);obtain⟨⟨old1,hk1⟩,hfz1⟩:=own_old hown (j:=j*4+1) (by omega);obtain⟨⟨old2,hk2⟩,hfz2⟩:=own_old hown (j:=j*4+2) (by omega);obtain⟨⟨old3,hk3⟩,hfz3⟩:=own_old hown (j:=j*4+3) (by omega);have HJ3:=h_ (J1S.store HJ9.o rfl hjo (s.1,s.2.1,wh,s.2.2.2));simp only[putY]at HJ3;have o1:=d_ HJ9.o.j.bo 1;have t0:=d_ HX9.o 0;have t1:=d_ HX9.o 1;have t2:=d_ HX9.o 2;have t3:=d_ HX9.o 3;have hol:=HJ9.o.j.bo.lt;have htl:=HX9.o.lt;clear hown hgb;go_wp2_with fail
        refine⟨⟨k+1,some ⟨g,0,none⟩,oyc,oys.set j (s.1,s.2.1,wh,s.2.2.2),A9,c9,ms,by omega,rfl,by go_num,HJ2.o.symm,HJ3.o⟩,by simp[intOf];omega⟩
     ·have HJS:=h_ (show jstep aps.length ays (oys,ns) s=jput aps.length (oys,ns) s from by
       unfold jstep;split
       ·rfl
       ·rename_i hne;rw[decide_eq_false hne,Bool.false_or]at hnw;cases hgl:glob ays s.1 with
        |none=>rfl
        |some j=>rw[hgl]at hnw;cases hnw)
      clear hnw HGI;have o1:=d_ HJ.o.j.bo 1;have hol:=HJ.o.j.bo.lt;have BA:Below wc.heap.size wc (wc.alloc (.cells #[.int .i64 (oys.length:Nat)] 3)):=b_;have HJa:=h_ (HJ.o.call BA);have HXa:=h_ (HXO.o.call BA);clear BA;go_wp2_with (at_builtin;refine wpList_app (wc.alloc (.cells #[.int .i64 (oys.length:Nat)] 3)) rfl (.tmp 71) (.tmp 75) 89 rfl 3 i0 (.int .i64 0) 1 8 Tryz.underlying89 HI.o.1 HI.o.2.1 HI.o.2.2.1 HI.o.2.2.2 rfl (by decide) w.heap.size An ns.length cn (ints .i64 ns) rfl HJa.o.j.row HJa.o.j.b.size (some ⟨wc.heap.size,0,none⟩) 1 1 [.int .i64 (oys.length:Nat)] rfl (rd_lit wc #[.int .i64 (oys.length:Nat)] 3 _ rfl) rfl (λh=>by cases h) oneI1 ?n1 ?n2 ?_)
      case n1=>unfold maxLen;omega
      case n2=>omega
      intro A8 n8 c8 wf hn8 o8 g8 k8;have HJ8:=h_ (J1S.addN HJa.o (oys.length:Int) hn8 o8 g8);have HX8:=h_ (HXa.o.grown g8 (HJa.o.j.row.box HXa.o (by decide)));subst hn8;clear o8 g8 k8 HJa HXa HJ HXO o1 hol;generalize hG:ns++[(oys.length:Int)]=ms at *;have hzl:ms.length=ns.length+1:=by rw[<-hG];simp
      rw[<-hzl];have HG:=h_ hG;clear hG hzl;have o1:=d_ HJ8.o.j.bo 1;have t0:=d_ HX8.o 0;have t1:=d_ HX8.o 1;have t2:=d_ HX8.o 2;have t3:=d_ HX8.o 3;have hol:=HJ8.o.j.bo.lt;have htl:=HX8.o.lt;have BA:Below wf.heap.size wf (wf.alloc (.cells #[.string s.1,.int .i64 s.2.1,.int .i64 wh,.int .i64 s.2.2.2] 67)):=b_;have HJa:=h_ (HJ8.o.call BA);clear BA;go_wp2_with (at_builtin;refine wpList_app (wf.alloc (.cells #[.string s.1,.int .i64 s.2.1,.int .i64 wh,.int .i64 s.2.2.2] 67)) rfl (.tmp 78) (.tmp 80) 24 rfl 67 iY (.agg #[.string ByteArray.empty,.int .i64 0,.int .i64 0,.int .i64 0]) 4 40 Tryz.underlying24 HIY.o.1 HIY.o.2.1 HIY.o.2.2.1 HIY.o.2.2.2 rfl (by decide) w.heap.size oY oys.length oyc (cellsOf symbolC oys) rfl HJa.o.j.own.2 HJa.o.j.b.size (some ⟨wf.heap.size,0,none⟩) 1 1 (symbolC (s.1,s.2.1,wh,s.2.2.2)) rfl (rd_lit wf #[.string s.1,.int .i64 s.2.1,.int .i64 wh,.int .i64 s.2.2.2] 67 _ rfl) rfl (λh=>by cases h) (one_sy _) ?n1 ?n2 ?_)
      case n1=>unfold maxLen;omega
      case n2=>omega
      intro A9 n9 c9 wz hn9 o9 g9 k9;subst hn9;have HJ9:=h_ (J1S.addY HJa.o (s.1,s.2.1,wh,s.2.2.2) rfl o9 g9 (λk hk=>(k9 k hk).imp id (λh=>by simp only[World.size_alloc];exact h)));have HBO:=h_ (HJa.o.j.bo.grown g9 (HJa.o.j.own.2.box HJa.o.j.bo (by decide)));have HJ2:=h_ (show joinY aps.length ays (bys.take (k+1))=(oys++[(s.1,s.2.1,wh,s.2.2.2)],ms)from by
       rw[HSN.o,HJS.o,<-HG.o];unfold jput;rw[HWH.o])
      clear o9 g9 k9 o1 t0 t1 t2 t3 hol htl HJa HJ8 HX8 HSN;have o1:=d_ HBO.o 1;have of1:=HBO.o.frozen 1;have hol:=HBO.o.lt;go_wp2_with fail
      refine⟨⟨k+1,A9,c9,oys++[(s.1,s.2.1,wh,s.2.2.2)],A8,c8,ms,by omega,rfl,by go_num,HJ2.o.symm,HJ9.o⟩,by simp[intOf];omega⟩
  ·obtain rfl:k=bys.length:=by omega
   have HJE:=h_ (show(oys,ns)=joinY aps.length ays bys from by rw[HJY.o,List.take_length]);clear HJY;have HK:=h_ (show J2S w R O Y ⟨qA,qc,qps,oY,oyc,oys⟩ ⟨yA,yc,yps,yY,yyc,bys⟩ qps [] yps An cn ns wr from by
    have h:=HJ.o;exact⟨⟨h.j.br,h.j.bo,h.oq,rfl,by simp,h.j.own.1.2.1,HPW.o,h.j.own.1.1,h.j.own.2,HAP.o,h.j.row,h.j.b,⟨HR0.o,h.j.hO.2.2⟩⟩,h.bq,h.hY⟩)
   have hyl2:yps.length=bps.length:=by
    have h:=congrArg List.length HYP.o;simpa using h
   have HQL:=h_ hyl2;have hq8:yps.length<=8:=by omega
   clear HJ hyl2 HPW HAP;have HTO:=h_ (show ∀p∈bps,∀f∈p.fs,0<=f.2.2.1/\f.2.2.1<ns.length from λp hp f hf=>by
    have h:=((HSB.o.2.2 p.d (List.mem_map_of_mem hp)).2.2 f hf).2;rw[HNL.o];exact h)
   go_wp2_with fail
   clear v1 hvl;go_loopw [12] (λi wi=>∃(o:OV) (L N:List SV),i=.int .i64 (L.length:Nat)/\L.length+N.length=yps.length/\L.map SV.d=(bps.take L.length).map (λp=>mapS ns p.d)/\N.map SV.d=(bps.drop L.length).map SV.d/\o.ys=oys/\J2S w R O Y o ⟨yA,yc,L++N,yY,yyc,bys⟩ qps L N An cn ns wi) (λi _=>yps.length-(intOf i).toNat)
   case atStart=>exact⟨_,[],yps,rfl,by simp,rfl,by simpa using HYP.o,rfl,HK.o⟩
   case round=>
    clear HK HYP;obtain⟨⟨xA,xc,xps,xY,xyc,xys⟩,L,N,rfl,hLN,hLd,hNd,hxy,hk⟩:=hrel;simp only at hxy;subst hxy;have HK:=h_ hk;have HLN:=h_ hLN;have HLD:=h_ hLd;have HND:=h_ hNd;clear hk hLd hNd;have v0:=d_ HK.o.bq 0;have hvl:=HK.o.bq.lt;have hyl:(L++N).length=yps.length:=by rw[List.length_append];exact hLN
    rw[hyl]at v0;by_cases hlt:L.length<yps.length
    ·cases N with
     |nil=>simp at hLN;omega
     |cons p N=>
      obtain⟨pn,pk,pal,pA,pc,pz,psz,pF,pfc,pf⟩:=p;have hLb:L.length<bps.length:=by rw[<-HQL.o];exact hlt
      have HPD:=h_ (show(SV.d ⟨pn,pk,pal,pA,pc,pz,psz,pF,pfc,pf⟩)=(bps[L.length]).d/\N.map SV.d=(bps.drop (L.length+1)).map SV.d from by
       have h:=HND.o;rw[List.drop_eq_getElem_cons hLb,List.map_cons,List.map_cons,List.cons.injEq]at h;exact h)
      have HTP:=h_ (show ∀f∈pf,0<=f.2.2.1/\f.2.2.1<ns.length from by
       have h:=HTO.o _ (List.getElem_mem hLb);have e:pf=(bps[L.length]).fs:=congrArg SD.fs HPD.o.1;rw[<-e]at h;exact h)
      have hpf6:pf.length<=6:=by have h:=(HSB.o.2.2 _ (List.mem_map_of_mem (List.getElem_mem hLb))).1;rw[<-HPD.o.1]at h;exact h
      obtain⟨gb,goff,hqA,hgb,hca⟩:=row_at HK.o.j.oq.1.rd;simp only at hqA;subst hqA;have HYL:=h_ hyl;have HQ8:=h_ (show ∀M:List SV,M.length=yps.length->(some (Value.slice (some ⟨gb,goff,none⟩) M.length yc))=some (Value.slice (some ⟨gb,goff,none⟩) yps.length yc)from λM h=>by rw[h]);clear hca HND hyl;go_wp2_with fail
      clear v0 hvl;have HK0:=h_ (show J2S w R O Y ⟨xA,xc,xps,xY,xyc,xys⟩ ⟨some ⟨gb,goff,none⟩,yc,L++⟨pn,pk,pal,pA,pc,pz,psz,pF,pfc,(pf.take 0).map (mapF ns)++pf.drop 0⟩::N,yY,yyc,bys⟩ qps L (⟨pn,pk,pal,pA,pc,pz,psz,pF,pfc,(pf.take 0).map (mapF ns)++pf.drop 0⟩::N) An cn ns wr from HK.o);clear HK;go_loopw [13] (λi wi=>∃t:Nat,t<=pf.length/\i=.int .i64 t/\J2S w R O Y ⟨xA,xc,xps,xY,xyc,xys⟩ ⟨some ⟨gb,goff,none⟩,yc,L++⟨pn,pk,pal,pA,pc,pz,psz,pF,pfc,(pf.take t).map (mapF ns)++pf.drop t⟩::N,yY,yyc,bys⟩ qps L (⟨pn,pk,pal,pA,pc,pz,psz,pF,pfc,(pf.take t).map (mapF ns)++pf.drop t⟩::N) An cn ns wi) (λi _=>pf.length-(intOf i).toNat)
      case atStart=>exact⟨0,Nat.zero_le _,rfl,HK0.o⟩
      case round=>
       clear HK0;obtain⟨t,ht,rfl,hk⟩:=hrel;have HK:=h_ hk;clear hk;have hfl:((pf.take t).map (mapF ns)++pf.drop t).length=pf.length:=fix_len;have v0:=d_ HK.o.bq 0;rw[show(L++(⟨pn,pk,pal,pA,pc,pz,psz,pF,pfc,(pf.take t).map (mapF ns)++pf.drop t⟩:SV)::N).length=yps.length from by
        have h:=HYL.o;simp only[List.length_append,List.length_cons]at h ⊢;exact h]at v0
       have hvl:=HK.o.bq.lt;obtain⟨hgb,hca⟩:=sec_cells HK.o.j.oq;have c5:=hca 5 _ rfl;rw[hfl]at c5;have hLy:L.length<yps.length:=hlt;by_cases hlt2:t<pf.length
       ·have HFN:=h_ (fix_next (ns:=ns) hlt2);have hrowF:=(HK.o.j.oq.1.2.1 ⟨pn,pk,pal,pA,pc,pz,psz,pF,pfc,(pf.take t).map (mapF ns)++pf.drop t⟩ (by simp)).2;obtain⟨gF,hF,hgF1,hgF2,hgFb,hownF⟩:=own_of hrowF (by show 0<((pf.take t).map (mapF ns)++pf.drop t).length;omega);simp only at hF hownF;subst hF;have HTZ:=h_ (HTP.o _ (List.getElem_mem hlt2));have hcF:=World.ownsRow.cellAt hownF (t*4+2) (by rw[hfl];omega);rw[cellsOf_at fixupC_len _ t 2 (by rw[hfl];exact hlt2) (by omega)]at hcF;have hge:((pf.take t).map (mapF ns)++pf.drop t)[t]'(by rw[hfl];exact hlt2)=pf[t]:=by have h:=HFN.o.1;rw[List.getElem?_eq_getElem (by rw[hfl];exact hlt2)]at h;injection h
        rw[hge]at hcF;have hfz:=World.ownsRow.frozenAt hownF (t*4+2);clear hge hrowF hownF hgFb hca;generalize pf[t]=z at *;obtain⟨z1,z2,z3',z4⟩:=z;obtain⟨hz0,hz1⟩:=HTZ.o;simp only at hz0 hz1;obtain⟨z3,rfl⟩:∃n:Nat,z3'=(n:Int):=⟨z3'.toNat,by omega⟩;have hzl:z3<ns.length:=by omega
        have hcF2:wr.cell? ⟨gF,t*4+2,none⟩=some (.int .i64 z3):=hcF;obtain⟨gN,hAn,hcN,hgN⟩:=HK.o.j.nums.at1 hzl;subst hAn;obtain⟨gv,hgv⟩:∃gv:Int,gv=ns.getD z3 0:=⟨_,rfl⟩;rw[<-hgv]at hcN;have HGV:=h_ hgv;clear hgv;have HSET:=h_ (show((pf.take t).map (mapF ns)++pf.drop t).set t (z1,z2,gv,z4)=(pf.take (t+1)).map (mapF ns)++pf.drop (t+1)from by rw[HGV.o];exact HFN.o.2);have HK2:=h_ (show J2S w R O Y ⟨xA,xc,xps,xY,xyc,xys⟩ ⟨some ⟨gb,goff,none⟩,yc,L++⟨pn,pk,pal,pA,pc,pz,psz,some ⟨gF,0,none⟩,pfc,(pf.take (t+1)).map (mapF ns)++pf.drop (t+1)⟩::N,yY,yyc,bys⟩ qps L (⟨pn,pk,pal,pA,pc,pz,psz,some ⟨gF,0,none⟩,pfc,(pf.take (t+1)).map (mapF ns)++pf.drop (t+1)⟩::N) (some ⟨gN,0,none⟩) cn ns ((wr.setCell ⟨gF,t*4+2,none⟩ (.int .i64 gv)).drew)from by
         rw[<-HSET.o];exact(J2S.fix HK.o rfl HFN.o.1 gv).call (below_dr (Below.refl _ _)))
        clear hcF HFN HTZ HK HSET;go_wp2_with fail
        refine Reg.startT (λW=>W.cell? ⟨Y,0,none⟩=some (.slice (some ⟨gb,goff,none⟩) yps.length yc)/\W.cell? ⟨gb,goff+L.length*6+5,none⟩=some (.slice (some ⟨gF,0,none⟩) pf.length pfc)/\W.cell? ⟨gN,z3,none⟩=some (.int .i64 gv)) (λj=>j==13) (by kernel_rfl) ?_;have hHeld:wr.drew.cell? ⟨Y,0,none⟩=some (.slice (some ⟨gb,goff,none⟩) yps.length yc)/\wr.drew.cell? ⟨gb,goff+L.length*6+5,none⟩=some (.slice (some ⟨gF,0,none⟩) pf.length pfc)/\wr.drew.cell? ⟨gN,z3,none⟩=some (.int .i64 gv):=⟨v0,c5,hcN⟩;have hfz':wr.drew.frozen? ⟨gF,t*4+2,none⟩=false:=hfz;have hcF3:wr.drew.cell? ⟨gF,t*4+2,none⟩=some (.int .i64 z3):=hcF2;refine t_ 0 rfl ?_;refine t_ 1 rfl ?_;refine t_ 2 rfl ?_;refine t_ 3 rfl ?_;refine t_ 4 rfl ?_;refine t_ 5 rfl ?_;refine t_ 6 rfl ?_;refine t_ 7 rfl ?_;refine t_ 8 rfl ?_;refine t_ 9 rfl ?_;refine t_ 10 rfl ?_;refine Reg.oneT (i:=11) rfl (by kernel_rfl) (λK hK=>?_);go_simp
        refine hK.out _ _ hHeld ?_;clear hK K;try simp only[y1_,y2_,y3_,Act.put,y4_,y5_,y6_]
        refine t_ 12 rfl ?_;refine Reg.lastT (i:=13) rfl (by kernel_rfl) (by rfl) (λK hK=>?_);go_simp
        refine hK.out _ _ ?_;clear hK K;try simp only[y1_,y2_,y3_,Act.put,y4_,y5_,y6_]
        refine Reg.doneT (by kernel_rfl) ?_ _;clear hHeld hfz' hcF3 hcF2 hcN v0 c5 hvl hgb hfz hgN;generalize wr.setCell ⟨gF,t*4+2,none⟩ (.int .i64 gv)=wf at *;go_wp2_with fail
        refine⟨⟨t+1,by omega,by go_num,HK2.o⟩,by simp[intOf];omega⟩
       ·obtain rfl:t=pf.length:=by omega
        have HK2:=h_ (show J2S w R O Y ⟨xA,xc,xps,xY,xyc,xys⟩ ⟨some ⟨gb,goff,none⟩,yc,L++⟨pn,pk,pal,pA,pc,pz,psz,pF,pfc,pf.map (mapF ns)⟩::N,yY,yyc,bys⟩ qps L (⟨pn,pk,pal,pA,pc,pz,psz,pF,pfc,pf.map (mapF ns)⟩::N) An cn ns wr from by
         have h:=HK.o;rw[List.take_length,List.drop_length,List.append_nil]at h;exact h)
        have hc0:=hca 0 _ rfl;have hc1:=hca 1 _ rfl;have hc2:=hca 2 _ rfl;have hc3:=hca 3 _ rfl;have hc4:=hca 4 _ rfl;simp only[Nat.add_zero]at hc0;have o0:=d_ HK2.o.j.bo 0;have hol:=HK2.o.j.bo.lt;have hxl:xps.length<=100:=by have h:=congrArg List.length HK2.o.j.ho;simp only[List.length_append]at h;have h2:=congrArg List.length HQP.o;simp only[List.length_map]at h2;omega
        clear HK hca;go_wp2_with fail
        refine Reg.startT (λW=>W.cell? ⟨O,0,none⟩=some (.slice xA xps.length xc)/\W.cell? ⟨Y,0,none⟩=some (.slice (some ⟨gb,goff,none⟩) yps.length yc)/\W.cell? ⟨gb,goff+L.length*6,none⟩=some (.string pn)/\W.cell? ⟨gb,goff+L.length*6+1,none⟩=some (.int .i64 pk)/\W.cell? ⟨gb,goff+L.length*6+2,none⟩=some (.int .i64 pal)/\W.cell? ⟨gb,goff+L.length*6+3,none⟩=some (.slice pA pz.length pc)/\W.cell? ⟨gb,goff+L.length*6+4,none⟩=some (.int .i64 psz)/\W.cell? ⟨gb,goff+L.length*6+5,none⟩=some (.slice pF pf.length pfc)) (λj=>j==10) (by kernel_rfl) ?_;have hHeld:wr.drew.cell? ⟨O,0,none⟩=some (.slice xA xps.length xc)/\wr.drew.cell? ⟨Y,0,none⟩=some (.slice (some ⟨gb,goff,none⟩) yps.length yc)/\wr.drew.cell? ⟨gb,goff+L.length*6,none⟩=some (.string pn)/\wr.drew.cell? ⟨gb,goff+L.length*6+1,none⟩=some (.int .i64 pk)/\wr.drew.cell? ⟨gb,goff+L.length*6+2,none⟩=some (.int .i64 pal)/\wr.drew.cell? ⟨gb,goff+L.length*6+3,none⟩=some (.slice pA pz.length pc)/\wr.drew.cell? ⟨gb,goff+L.length*6+4,none⟩=some (.int .i64 psz)/\wr.drew.cell? ⟨gb,goff+L.length*6+5,none⟩=some (.slice pF pf.length pfc):=⟨o0,v0,hc0,hc1,hc2,hc3,hc4,c5⟩;have HKd:=h_ (HK2.o.call (below_dr (Below.refl _ _)));have hgbd:gb<wr.drew.heap.size:=hgb;generalize wr.drew=wd at *;clear o0 v0 hc0 hc1 hc2 hc3 hc4 c5 hgb hol hvl HK2;refine t_ 0 rfl ?_;refine t_ 1 rfl ?_;refine t_ 2 rfl ?_;refine t_ 3 rfl ?_;refine t_ 4 rfl ?_;refine t_ 5 rfl ?_;refine t_ 6 rfl ?_;refine Reg.oneT (i:=7) rfl (by kernel_rfl) (λK hK=>?_);go_simp
        have BA:Below wd.heap.size wd (wd.alloc (.cells #[.string pn,.int .i64 pk,.int .i64 pal,.slice pA pz.length pc,.int .i64 psz,.slice pF pf.length pfc] 61)):=b_;have HKa:=h_ (HKd.o.call BA);have hcells:∀V,J2S w R O Y ⟨xA,xc,xps,xY,xyc,xys⟩ ⟨some ⟨gb,goff,none⟩,yc,L++⟨pn,pk,pal,pA,pc,pz,psz,pF,pfc,pf.map (mapF ns)⟩::N,yY,yyc,bys⟩ qps L (⟨pn,pk,pal,pA,pc,pz,psz,pF,pfc,pf.map (mapF ns)⟩::N) An cn ns V->V.cell? ⟨O,0,none⟩=some (.slice xA xps.length xc)/\V.cell? ⟨Y,0,none⟩=some (.slice (some ⟨gb,goff,none⟩) yps.length yc)/\V.cell? ⟨gb,goff+L.length*6,none⟩=some (.string pn)/\V.cell? ⟨gb,goff+L.length*6+1,none⟩=some (.int .i64 pk)/\V.cell? ⟨gb,goff+L.length*6+2,none⟩=some (.int .i64 pal)/\V.cell? ⟨gb,goff+L.length*6+3,none⟩=some (.slice pA pz.length pc)/\V.cell? ⟨gb,goff+L.length*6+4,none⟩=some (.int .i64 psz)/\V.cell? ⟨gb,goff+L.length*6+5,none⟩=some (.slice pF pf.length pfc):=λV h=>by
         obtain⟨_,hca⟩:=sec_cells h.j.oq;have c0:=hca 0 _ rfl;have c1:=hca 1 _ rfl;have c2:=hca 2 _ rfl;have c3:=hca 3 _ rfl;have c4:=hca 4 _ rfl;have c5:=hca 5 _ rfl;simp only[Nat.add_zero]at c0;rw[List.length_map]at c5;have o0:=d_ h.j.bo 0;have v0:=d_ h.bq 0;rw[show(L++(⟨pn,pk,pal,pA,pc,pz,psz,pF,pfc,pf.map (mapF ns)⟩:SV)::N).length=yps.length from by
          have h:=HYL.o;simp only[List.length_append,List.length_cons]at h ⊢;exact h]at v0
         exact⟨o0,v0,c0,c1,c2,c3,c4,c5⟩
        replace hHeld:=hcells _ HKa.o;refine hK.out _ _ hHeld ?_;clear hK K;try simp only[y1_,y2_,y3_,Act.put,y4_,y5_,y6_]
        refine Reg.oneT (i:=8) rfl (by kernel_rfl) (λK hK=>?_);refine step_app (by rfl) _ _ 23 rfl 61 iS (.agg #[.string ByteArray.empty,.int .i64 0,.int .i64 0,.slice none 0 0,.int .i64 0,.slice none 0 0]) 6 88 Tryz.underlying23 HIS.o.1 HIS.o.2.1 HIS.o.2.2.1 HIS.o.2.2.2 rfl (by decide) w.heap.size xA xps.length xc (cellsOf secC xps) (by rfl) HKa.o.j.row HKa.o.j.b.size (some ⟨wd.heap.size,0,none⟩) 1 1 [.string pn,.int .i64 pk,.int .i64 pal,.slice pA pz.length pc,.int .i64 psz,.slice pF pf.length pfc] (by rfl) (rd_lit wd #[.string pn,.int .i64 pk,.int .i64 pal,.slice pA pz.length pc,.int .i64 psz,.slice pF pf.length pfc] 61 _ rfl) (by rfl) (λh=>by cases h) one_six (by unfold maxLen;omega) (by omega) ?_;intro A9 n9 c9 wz hn9 o9 g9 k9;subst hn9;have HK9:=h_ (J2S.add HKa.o (A9:=A9) (c9:=c9) rfl (by
         have e:secC ⟨pn,pk,pal,pA,pc,pz,psz,pF,pfc,pf.map (mapF ns)⟩=[.string pn,.int .i64 pk,.int .i64 pal,.slice pA pz.length pc,.int .i64 psz,.slice pF pf.length pfc]:=by simp[secC]
         rw[e];exact o9) g9 k9)
        have HBO:=h_ (HKa.o.j.bo.grown g9 (HKa.o.j.row.box HKa.o.j.bo (by decide)));have HBQ:=h_ (HKa.o.bq.grown g9 (HKa.o.j.row.box HKa.o.bq (by decide)));have HQ9:=h_ (HKa.o.keepq g9);have hHeld:wz.cell? ⟨O,0,none⟩=some (.slice xA xps.length xc)/\wz.cell? ⟨Y,0,none⟩=some (.slice (some ⟨gb,goff,none⟩) yps.length yc)/\wz.cell? ⟨gb,goff+L.length*6,none⟩=some (.string pn)/\wz.cell? ⟨gb,goff+L.length*6+1,none⟩=some (.int .i64 pk)/\wz.cell? ⟨gb,goff+L.length*6+2,none⟩=some (.int .i64 pal)/\wz.cell? ⟨gb,goff+L.length*6+3,none⟩=some (.slice pA pz.length pc)/\wz.cell? ⟨gb,goff+L.length*6+4,none⟩=some (.int .i64 psz)/\wz.cell? ⟨gb,goff+L.length*6+5,none⟩=some (.slice pF pf.length pfc):=by
         obtain⟨_,hca⟩:=sec_cells HQ9.o;have c0:=hca 0 _ rfl;have c1:=hca 1 _ rfl;have c2:=hca 2 _ rfl;have c3:=hca 3 _ rfl;have c4:=hca 4 _ rfl;have c5:=hca 5 _ rfl;simp only[Nat.add_zero]at c0;rw[List.length_map]at c5;have o0:=d_ HBO.o 0;have v0:=d_ HBQ.o 0;rw[show(L++(⟨pn,pk,pal,pA,pc,pz,psz,pF,pfc,pf.map (mapF ns)⟩:SV)::N).length=yps.length from by
          have h:=HYL.o;simp only[List.length_append,List.length_cons]at h ⊢;exact h]at v0
         exact⟨o0,v0,c0,c1,c2,c3,c4,c5⟩
        refine hK.out _ _ hHeld ?_;clear hK K;try simp only[y1_,y2_,y3_,Act.put,y4_,y5_,y6_]
        refine t_ 9 rfl ?_;have o0:=d_ HBO.o 0;have of0:=HBO.o.frozen 0;have hol:=HBO.o.lt;refine Reg.lastT (i:=10) rfl (by kernel_rfl) (by rfl) (λK hK=>?_);go_simp
        refine hK.out _ _ ?_;clear hK K;try simp only[y1_,y2_,y3_,Act.put,y4_,y5_,y6_]
        refine Reg.doneT (by kernel_rfl) ?_ _;clear hHeld o0 of0 hol hcells o9 g9 k9 HKa HKd HBO HBQ HQ9;have HLd2:=h_ (show(L++[(⟨pn,pk,pal,pA,pc,pz,psz,pF,pfc,pf.map (mapF ns)⟩:SV)]).map SV.d=(bps.take (L++[(⟨pn,pk,pal,pA,pc,pz,psz,pF,pfc,pf.map (mapF ns)⟩:SV)]).length).map (λp=>mapS ns p.d)from by
         rw[List.length_append,List.length_singleton,take_succ hLb,List.map_append,List.map_append,HLD.o,List.map_singleton,List.map_singleton];congr 2
         show _=mapS ns (bps[L.length]).d
         rw[<-HPD.o.1]
         rfl)
        have HND2:=h_ (show N.map SV.d=(bps.drop (L++[(⟨pn,pk,pal,pA,pc,pz,psz,pF,pfc,pf.map (mapF ns)⟩:SV)]).length).map SV.d from by
         rw[List.length_append,List.length_singleton];exact HPD.o.2)
        have HLN2:=h_ (show(L++[(⟨pn,pk,pal,pA,pc,pz,psz,pF,pfc,pf.map (mapF ns)⟩:SV)]).length+N.length=yps.length from by
         have h:=HYL.o;simp only[List.length_append,List.length_cons,List.length_nil]at h ⊢;omega)
        have hL1:(L++[(⟨pn,pk,pal,pA,pc,pz,psz,pF,pfc,pf.map (mapF ns)⟩:SV)]).length=L.length+1:=by simp
        have HQQ:=h_ (show J2S w R O Y ⟨A9,c9,xps++[(⟨pn,pk,pal,pA,pc,pz,psz,pF,pfc,pf.map (mapF ns)⟩:SV)],xY,xyc,xys⟩ ⟨(some ⟨gb,goff,none⟩),yc,(L++[(⟨pn,pk,pal,pA,pc,pz,psz,pF,pfc,pf.map (mapF ns)⟩:SV)])++N,yY,yyc,bys⟩ qps (L++[(⟨pn,pk,pal,pA,pc,pz,psz,pF,pfc,pf.map (mapF ns)⟩:SV)]) N An cn ns (wz.setCell ⟨O,0,none⟩ (.slice A9 (xps.length+1) c9))from by
         rw[List.append_assoc];exact HK9.o)
        clear HK9 HLD HPD HLN hLN HYL;generalize L++[(⟨pn,pk,pal,pA,pc,pz,psz,pF,pfc,pf.map (mapF ns)⟩:SV)]=L2 at *;go_wp2_with fail
        refine⟨⟨_,L2,N,by rw[hL1];go_num,HLN2.o,HLd2.o,HND2.o,rfl,HQQ.o⟩,by simp[intOf];omega⟩
    ·have hN:N=[]:=List.eq_nil_of_length_eq_zero (by omega);subst hN;have HOW:=h_ (J2.own HK.o.j);have hLl:L.length=bps.length:=by rw[<-HQL.o];simp only[List.length_nil]at hLN;omega
     have HDJ:=h_ (show OV.d ⟨xA,xc,xps,xY,xyc,xys⟩=joinR (OV.d ⟨aA,ac,aps,aY,ayc,ays⟩) (OV.d ⟨bA,bc,bps,bY,byc,bys⟩)from by
      have e1:xps=qps++L:=HK.o.j.ho;have e2:=HLD.o;rw[hLl,List.take_length]at e2;have e3:=HJE.o;show OD.mk (xps.map SV.d) xys=_
      unfold joinR;simp only[OV.d,List.length_map];rw[<-e3,e1,List.map_append,HQP.o,e2,List.map_map]
      rfl)
     have HFT:=h_ (fit_sm (by rw[HDJ.o];exact join_sm HOA.o HOB.o) HOW.o.2.cap.1);clear hLl hLN HLD HLN HND;have o0:=d_ HK.o.j.bo 0;have o1:=d_ HK.o.j.bo 1;have hol:=HK.o.j.bo.lt;go_wp2_with fail
     clear o0 o1 hol v0 hvl;refine(objectValidS_any ⟨xA,xc,xps,xY,xyc,xys⟩ wr HOW.o.rd HFT.o).mono ?_;rintro e w8 ⟨rfl,b8⟩;replace HK:=h_ (HK.o.call b8);replace HOW:=h_ (HOW.o.call b8);clear b8;rw[HDJ.o];cases hjo:objOk (joinR (OV.d ⟨aA,ac,aps,aY,ayc,ays⟩) (OV.d ⟨bA,bc,bps,bY,byc,bys⟩))
     ·have HV:=h_ (HJD.o.trans (if_neg (by rw[hjo];rintro⟨_,_,_,h⟩;cases h)));clear hjo;have y0:=d_ HK.o.j.br 0;have y1:=d_ HK.o.j.br 1;have yf0:=HK.o.j.br.frozen 0;have yf1:=HK.o.j.br.frozen 1;have hrl:=HK.o.j.br.lt;obtain⟨k0,k1⟩:=cells2 (u:=.slice none 0 0) (v:=.slice none 0 0) HK.o.j.br;have HFB:=h_ (below2 HK.o.j.b (Nat.le_of_lt HR0.o) (.slice none 0 0) (.slice none 0 0));go_wp2_with fail
      (try simp only[Exit.inBlock,Exit.then])
      exact bodyPost_ret (v:=.tuple #[.agg #[.slice none 0 0,.slice none 0 0],.bool false]) (by simp[results,Tryz.results113,go_sem,k0,k1]) rfl (by rw[HV.o];exact ret_nilO HFB.o)
     ·have HV:=h_ (HJD.o.trans (if_pos ⟨HOA.o,HOB.o,HT0.o,hjo⟩));clear hjo;have o0:=d_ HK.o.j.bo 0;have o1:=d_ HK.o.j.bo 1;have y0:=d_ HK.o.j.br 0;have y1:=d_ HK.o.j.br 1;have hol:=HK.o.j.bo.lt;have yf0:=HK.o.j.br.frozen 0;have yf1:=HK.o.j.br.frozen 1;have hrl:=HK.o.j.br.lt;obtain⟨k0,k1⟩:=cells2 (u:=.slice xA xps.length xc) (v:=.slice xY xys.length xyc) HK.o.j.br;have HFIN:=h_ (ret_ok (R:=R) HOW.o HK.o.j.b (HOW.o.ne_box HK.o.j.br (by decide) (by decide) (by decide) (by decide)) (Nat.le_of_lt HR0.o));rw[HDJ.o]at HFIN;go_wp2_with fail
      (try simp only[Exit.inBlock,Exit.then])
      exact bodyPost_ret (v:=.tuple #[.agg #[.slice xA xps.length xc,.slice xY xys.length xyc],.bool true]) (by simp[results,Tryz.results113,go_sem,k0,k1]) rfl (by rw[HV.o];exact HFIN.o)
end CJoinS
/- JoinAll: one object in place of many; the reference's. -/
namespace CJoinAS
open Kit CCode CName CFixups CSymbols PObj BObj PValid PClear PLink PLinkL BList CMarkRows BObj2 BRetO BStore BJoin PJoin PJoin2 CObjValid CCopyS CPlaceS CJoinAI CJoinS CObjL COwnL
set_option maxHeartbeats 16000000 in
theorem joinAllS_any(A:Option Addr)(os:List OV)(c:Nat)(w:World)(hr:RdOs w w.heap.size A os)(hf:Fits os)(hn:∀o∈os,Nils o):
  Calls Tryz.prog 64 #[.slice A os.length c] w (RetOB (joinAll (os.map OV.d)) w):=by
 have HR:=h_ hr;have HF:=h_ hf;have HN:=h_ hn;clear hr hf hn;have HB:=h_ (show Below w.heap.size w (w.alloc (.cells #[.slice none 0 0,.slice none 0 0] 26))from b_);have HRR:=h_ (Box.new w 26 #[.slice none 0 0,.slice none 0 0]);go_enter Tryz.func64,Tryz.ntmps64
 go_wp2_with fail
 generalize w.alloc (.cells #[.slice none 0 0,.slice none 0 0] 26)=w0 at *;refine(objectsValidS_any A os c w0 ((HR.o.below HB.o).more HB.o.size) HF.o).mono ?_;rintro e w1 ⟨rfl,b1⟩;replace HB:=c_ HB b1;replace HRR:=h_ (HRR.o.call b1);clear b1;cases hok:objsOk (os.map OV.d)
 ·have HV:=h_ (joinAll_bad hok);clear hok;have y0:=d_ HRR.o 0;have y1:=d_ HRR.o 1;have yf0:=HRR.o.frozen 0;have yf1:=HRR.o.frozen 1;have hrl:=HRR.o.lt;obtain⟨k0,k1⟩:=cells2 (u:=.slice none 0 0) (v:=.slice none 0 0) HRR.o;have HFB:=h_ (below2 HB.o (Nat.le_refl _) (.slice none 0 0) (.slice none 0 0));go_wp2_with fail
  (try simp only[Exit.inBlock,Exit.then])
  exact bodyPost_ret (v:=.tuple #[.agg #[.slice none 0 0,.slice none 0 0],.bool false]) (by simp[results,Tryz.results64,go_sem,k0,k1]) rfl (by rw[HV.o];exact ret_nilO HFB.o)
 obtain⟨h4,hall⟩:=objs_all hok;have HAL:=h_ hall;have HOK:=h_ hok;clear hok hall;by_cases h0:os.length=0
 ·have HV:=h_ (show joinAll (os.map OV.d)=none from by rw[List.eq_nil_of_length_eq_zero h0];rfl);have hq:((os.length:Int)==0)=true:=by rw[h0];rfl
  clear h0;have y0:=d_ HRR.o 0;have y1:=d_ HRR.o 1;have yf0:=HRR.o.frozen 0;have yf1:=HRR.o.frozen 1;have hrl:=HRR.o.lt;obtain⟨k0,k1⟩:=cells2 (u:=.slice none 0 0) (v:=.slice none 0 0) HRR.o;have HFB:=h_ (below2 HB.o (Nat.le_refl _) (.slice none 0 0) (.slice none 0 0));go_wp2_with fail
  (try simp only[Exit.inBlock,Exit.then])
  exact bodyPost_ret (v:=.tuple #[.agg #[.slice none 0 0,.slice none 0 0],.bool false]) (by simp[results,Tryz.results64,go_sem,k0,k1]) rfl (by rw[HV.o];exact ret_nilO HFB.o)
 have hq:((os.length:Int)==0)=false:=beq_eq_false_iff_ne.2 (by omega);have hp:0<os.length:=by omega
 clear h0;obtain⟨b,off,rfl,hbb,hcc⟩:=(HR.o.1.below HB.o).row objC_len (by decide) hp;have hc0:=hcc 0 _ rfl;have hc1:=hcc 1 _ rfl;simp only[Nat.zero_mul,Nat.add_zero]at hc0 hc1;have HV:=h_ (show joinAll (os.map OV.d)=joins (os[0]).d ((os.map OV.d).drop 1)from by
  rw[joinAll_ok' HOK.o (by simpa using hp)];simp)
 have HM:=h_ (List.getElem_mem hp);have HRO:=h_ (((HR.o.2 _ HM.o).below HB.o).more HB.o.size);have HFO:=h_ (HF.o.o _ HM.o);have HNO:=h_ (HN.o _ HM.o);have HKO:=h_ (HAL.o _ HM.o);have hle:=valid_len HKO.o;clear hcc HM;generalize os[0]=o at *;obtain⟨hle1,hle2⟩:=hle;go_wp2_with fail
 clear hc0 hc1 hq;refine(l4Copy_any o w1 HRO.o HFO.o HNO.o ⟨by omega,by omega⟩).mono ?_;rintro e w2 ⟨q,rfl,hqd,o2,b2⟩;have HQK:=h_ (show objOk q.d=true from by rw[hqd];exact HKO.o);rw[<-hqd]at HV;have HO:=h_ (o2.down HB.o.size);replace HB:=c_ HB b2;replace HRR:=h_ (HRR.o.call b2);clear b2;clear hqd o2 HRO HFO HNO HKO hle1 hle2;have BA:Below w2.heap.size w2 (w2.alloc (.cells #[.slice q.A q.ps.length q.c,.slice q.Y q.ys.length q.yc] 26)):=b_;have HX:=h_ (Box.new w2 26 #[.slice q.A q.ps.length q.c,.slice q.Y q.ys.length q.yc]);have HRw:=h_ HRR.o.lt;replace HB:=c_ HB BA;replace HRR:=h_ (HRR.o.call BA);replace HO:=h_ (HO.o.call BA);clear BA;simp only[OV.v];go_wp2_with fail
 generalize w2.alloc (.cells #[.slice q.A q.ps.length q.c,.slice q.Y q.ys.length q.yc] 26)=w3 at *;generalize w2.heap.size=O at *;go_loopw [5] (λi wi=>∃(j:Nat) (o:OV),1<=j/\j<=os.length/\i=.int .i64 j/\joinAll (os.map OV.d)=joins o.d ((os.map OV.d).drop j)/\objOk o.d=true/\OwnO wi w.heap.size o/\Box wi O 26 #[.slice o.A o.ps.length o.c,.slice o.Y o.ys.length o.yc]/\Box wi w.heap.size 26 #[.slice none 0 0,.slice none 0 0]/\Below w.heap.size w wi) (λi _=>os.length-(intOf i).toNat)
 case atStart=>exact⟨1,q,Nat.le_refl _,hp,rfl,HV.o,HQK.o,HO.o,HX.o,HRR.o,HB.o⟩
 case round=>
  clear HV HQK HO HX HRR HB;obtain⟨j,o,hj1,hj,rfl,hv,hok,ho,hx,hrr,hb⟩:=hrel;have HV:=h_ hv;have HOK2:=h_ hok;have HO:=h_ ho;have HX:=h_ hx;have HRR:=h_ hrr;have HB:=h_ hb;clear hv hok ho hx hrr hb;by_cases hlt:j<os.length
  ·obtain⟨b',off',hA,hbb',hcc⟩:=(HR.o.1.below HB.o).row objC_len (by decide) hlt;injection hA with hA;injection hA with hA1 hA2;subst hA1;subst hA2;have hc0:=hcc 0 _ rfl;have hc1:=hcc 1 _ rfl;rw[Nat.add_zero]at hc0;have HM:=h_ (List.getElem_mem hlt);have HRP:=h_ (((HR.o.2 _ HM.o).below HB.o).more HB.o.size);have HFP:=h_ (HF.o.o _ HM.o);have HNP:=h_ (HN.o _ HM.o);have HV2:=h_ (show joinAll (os.map OV.d)=(joinD o.d (os[j]).d).bind λx=>joins x ((os.map OV.d).drop (j+1))from by
    rw[HV.o,joins_drop (by simpa using hlt)];simp)
   have hbw:b<wr.heap.size:=Nat.lt_of_lt_of_le hbb' HB.o.size;clear hcc HM HV hbb';generalize os[j]=p at *;have HFO:=h_ (fit_sm (valid_sm HOK2.o) HO.o.2.cap.1);have HNO:=h_ (nils_own HO.o);have HJC:=h_ (show ∀W,Below wr.heap.size wr W->Calls Tryz.prog 113 #[.agg #[.slice o.A o.ps.length o.c,.slice o.Y o.ys.length o.yc],.agg #[.slice p.A p.ps.length p.c,.slice p.Y p.ys.length p.yc]] W (RetOB (joinD o.d p.d) W)from λW hW=>joinObjectsS_any o p W ((HO.o.rd.below hW).more hW.size) ((HRP.o.below hW).more hW.size) HFO.o HFP.o HNO.o HNP.o);have HOB:=h_ HB.o.size;have x0:=d_ HX.o 0;have x1:=d_ HX.o 1;have hxl:=HX.o.lt;have HSS:=h_ (show ∀W,Below wr.heap.size wr W->W.cell? ⟨O,0,none⟩=some (.slice o.A o.ps.length o.c)/\W.cell? ⟨O,1,none⟩=some (.slice o.Y o.ys.length o.yc)/\W.cell? ⟨b,off+j*2,none⟩=some (.slice p.A p.ps.length p.c)/\W.cell? ⟨b,off+j*2+1,none⟩=some (.slice p.Y p.ys.length p.yc)from λW h=>⟨(h.cell (p:=⟨O,0,none⟩) hxl).trans x0,(h.cell (p:=⟨O,1,none⟩) hxl).trans x1,(h.cell (p:=⟨b,off+j*2,none⟩) hbw).trans hc0,(h.cell (p:=⟨b,off+j*2+1,none⟩) hbw).trans hc1⟩);clear HRP HFP HNP HFO HNO hbw hc0 hc1 x0 x1 hxl;generalize hjd:joinD o.d p.d=r at *;have HJD:=h_ hjd;clear hjd
   go_upto_region 7 with(fail)
   go_cut [6,7]from 27 to 35 (λv ok wx=>∃(X:Nat) (q:OV),v=.pointer (some ⟨X,0,none⟩)/\ok=.bool r.isSome/\Below wr.heap.size wr wx/\wr.heap.size<=X/\Box wx X 26 #[.slice q.A q.ps.length q.c,.slice q.Y q.ys.length q.yc]/\∀d,r=some d->q.d=d/\OwnO wx wr.heap.size q)
   case first=>
    refine Reg.startT (λW=>W.cell? ⟨O,0,none⟩=some (.slice o.A o.ps.length o.c)/\W.cell? ⟨O,1,none⟩=some (.slice o.Y o.ys.length o.yc)/\W.cell? ⟨b,off+j*2,none⟩=some (.slice p.A p.ps.length p.c)/\W.cell? ⟨b,off+j*2+1,none⟩=some (.slice p.Y p.ys.length p.yc)) (λ_=>false) (by kernel_rfl) ?_;have BD:Below wr.heap.size wr wr.drew:=below_dr (Below.refl _ _);have hHeld:=HSS.o _ BD;refine t_ 0 rfl ?_;refine t_ 1 rfl ?_;refine t_ 2 rfl ?_;refine t_ 3 rfl ?_;refine t_ 4 rfl ?_;refine Reg.twoT (i:=5) (j:=9) rfl rfl (by kernel_rfl) (λK hK=>?_) (λK hK=>?_)
    ·go_simp
     refine(HJC.o _ BD).mono ?_;rintro e w5 ⟨q,rfl,b5,hq5⟩;have B5:Below wr.heap.size wr w5:=of_drew b5;have hHeld:=HSS.o _ B5;have HQ5:=h_ (show ∀d,r=some d->q.d=d/\OwnO w5 wr.heap.size q from hq5);clear hq5 b5;refine hK.out _ _ hHeld ?_;clear hK K;try simp only[y1_,y2_,y3_,Act.put,y4_,y5_,y6_]
     refine t_ 6 rfl ?_;refine t_ 7 rfl ?_;refine t_ 8 rfl ?_;refine Reg.oneT (i:=9) rfl (by kernel_rfl) (λK hK=>?_);go_simp
     have BA:Below w5.heap.size w5 (w5.alloc (.cells #[.slice none 0 0,.slice none 0 0] 26)):=b_;have HXN:=h_ (Box.new w5 26 #[.slice none 0 0,.slice none 0 0]);have HQ6:=h_ (λd (hd:r=some d)=>And.intro (HQ5.o d hd).1 (And.intro ((HQ5.o d hd).2.call BA) (λk (hk:oblk q k)=>(show k≠w5.heap.size from Nat.ne_of_lt ((HQ5.o d hd).2.lt k hk).2))));have B6:=B5.trans (BA.mono B5.size);have hHeld:=HSS.o _ B6;have hXX:=B5.size;refine hK.out _ _ hHeld ?_;clear hK K;try simp only[y1_,y2_,y3_,Act.put,y4_,y5_,y6_]
     generalize w5.alloc (.cells #[.slice none 0 0,.slice none 0 0] 26)=w6 at *;generalize w5.heap.size=X at *;clear HQ5 BA B5;have z0:=d_ HXN.o 0;have z1:=d_ HXN.o 1;have zf0:=HXN.o.frozen 0;have zf1:=HXN.o.frozen 1;have hzl:=HXN.o.lt;refine Reg.oneT (i:=10) rfl (by kernel_rfl) (λK hK=>?_);go_simp
     have B7:=below2 B6 hXX (.slice q.A q.ps.length q.c) (.slice q.Y q.ys.length q.yc);have hHeld:=HSS.o _ B7;refine hK.out _ _ hHeld ?_;clear hK K;try simp only[y1_,y2_,y3_,Act.put,y4_,y5_,y6_]
     refine t_ 11 rfl ?_;refine Reg.doneT (by kernel_rfl) ?_ _;clear hHeld z0 z1 zf0 zf1 hzl;go_wp2_with fail
     go_meet
     exact⟨X,q,rfl,rfl,B7,hXX,(HXN.o.set 0 (.slice q.A q.ps.length q.c)).set 1 (.slice q.Y q.ys.length q.yc),λd hd=>⟨(HQ6.o d hd).1,own2 (HQ6.o d hd).2.1 (HQ6.o d hd).2.2 _ _⟩⟩
    ·go_simp
     have BA:Below wr.drew.heap.size wr.drew (wr.drew.alloc (.cells #[.slice none 0 0,.slice none 0 0] 26)):=b_;have hHeld:=HSS.o _ (BD.trans BA);have HXN:=h_ (show Box (wr.alloc (.cells #[.slice none 0 0,.slice none 0 0] 26)).drew wr.heap.size 26 #[.slice none 0 0,.slice none 0 0]from(Box.new wr 26 #[.slice none 0 0,.slice none 0 0]).drew);have B6:Below wr.heap.size wr (wr.alloc (.cells #[.slice none 0 0,.slice none 0 0] 26)).drew:=below_dr (below_al (Below.refl _ _));have hXX:wr.heap.size<=wr.heap.size:=Nat.le_refl _;refine hK.out _ _ hHeld ?_;clear hK K;try simp only[y1_,y2_,y3_,Act.put,y4_,y5_,y6_]
     generalize (wr.alloc (.cells #[.slice none 0 0,.slice none 0 0] 26)).drew=w6 at *;clear BA BD;refine Reg.oneT (i:=5) rfl (by kernel_rfl) (λK hK=>?_);go_simp
     refine(HJC.o _ B6).mono ?_;rintro e w5 ⟨q,rfl,b5,hq5⟩;have B5:Below wr.heap.size wr w5:=B6.trans (b5.mono B6.size);have hHeld:=HSS.o _ B5;have hxl6:=HXN.o.lt;have HQ6:=h_ (λd (hd:r=some d)=>And.intro (hq5 d hd).1 (And.intro ((hq5 d hd).2.down B6.size) (λk (hk:oblk q k)=>(show k≠wr.heap.size from Nat.ne_of_gt (Nat.lt_of_lt_of_le hxl6 ((hq5 d hd).2.lt k hk).1)))));replace HXN:=h_ (HXN.o.call b5);clear hq5 b5 hxl6;refine hK.out _ _ hHeld ?_;clear hK K;try simp only[y1_,y2_,y3_,Act.put,y4_,y5_,y6_]
     refine t_ 6 rfl ?_;refine t_ 7 rfl ?_;refine t_ 8 rfl ?_;have z0:=d_ HXN.o 0;have z1:=d_ HXN.o 1;have zf0:=HXN.o.frozen 0;have zf1:=HXN.o.frozen 1;have hzl:=HXN.o.lt;refine Reg.oneT (i:=10) rfl (by kernel_rfl) (λK hK=>?_);go_simp
     have B7:=below2 B5 hXX (.slice q.A q.ps.length q.c) (.slice q.Y q.ys.length q.yc);have hHeld:=HSS.o _ B7;refine hK.out _ _ hHeld ?_;clear hK K;try simp only[y1_,y2_,y3_,Act.put,y4_,y5_,y6_]
     refine t_ 11 rfl ?_;refine Reg.doneT (by kernel_rfl) ?_ _;clear hHeld z0 z1 zf0 zf1 hzl;go_wp2_with fail
     go_meet
     exact⟨wr.heap.size,q,rfl,rfl,B7,hXX,(HXN.o.set 0 (.slice q.A q.ps.length q.c)).set 1 (.slice q.Y q.ys.length q.yc),λd hd=>⟨(HQ6.o d hd).1,own2 (HQ6.o d hd).2.1 (HQ6.o d hd).2.2 _ _⟩⟩
   case rest=>
    rename World=>w6
    obtain⟨X,q,rfl,rfl,b6,hXX,hxq,hq6⟩:=hcut;have HQ5:=h_ hq6;have HXQ:=h_ hxq;have HXO:=h_ HX.o.lt;replace HB:=c_ HB b6;replace HRR:=h_ (HRR.o.call b6);replace HX:=h_ (HX.o.call b6);replace HO:=h_ (HO.o.call b6);clear b6;clear hq6 hxq HJC HSS;cases r with
    |none=>
     have HN9:=h_ (show joinAll (os.map OV.d)=none from by rw[HV2.o,Option.bind_none]);clear HQ5 HV2 HJD;simp only[Option.isSome];have y0:=d_ HRR.o 0;have y1:=d_ HRR.o 1;have yf0:=HRR.o.frozen 0;have yf1:=HRR.o.frozen 1;have hrl:=HRR.o.lt;obtain⟨k0,k1⟩:=cells2 (u:=.slice none 0 0) (v:=.slice none 0 0) HRR.o;have HFB:=h_ (below2 HB.o (Nat.le_refl _) (.slice none 0 0) (.slice none 0 0));go_wp2_with fail
     (try simp only[Exit.inBlock,Exit.then])
     exact bodyPost_ret (v:=.tuple #[.agg #[.slice none 0 0,.slice none 0 0],.bool false]) (by simp[results,Tryz.results64,go_sem,k0,k1]) rfl (by rw[HN9.o];exact ret_nilO HFB.o)
    |some d=>
     obtain⟨rfl,hoq⟩:=HQ5.o d rfl;have HOQ:=h_ (hoq.down HOB.o);have HKQ:=h_ (joinD_ok HJD.o);have HNV:=h_ (show joinAll (os.map OV.d)=joins q.d ((os.map OV.d).drop (j+1))from by rw[HV2.o,Option.bind_some]);have HXO3:=h_ (show ∀k,oblk q k->k≠O from λk hk e=>by
      have h1:=(hoq.lt k hk).1;have h2:=HXO.o;omega)
     clear HQ5 HV2 HJD hoq;simp only[Option.isSome];have z0:=d_ HXQ.o 0;have z1:=d_ HXQ.o 1;have hzl:=HXQ.o.lt;have x0:=d_ HX.o 0;have x1:=d_ HX.o 1;have xf0:=HX.o.frozen 0;have xf1:=HX.o.frozen 1;have hxl:=HX.o.lt;have HO9:=h_ (own2 HOQ.o HXO3.o (.slice q.A q.ps.length q.c) (.slice q.Y q.ys.length q.yc));have HX9:=h_ ((HX.o.set 0 (.slice q.A q.ps.length q.c)).set 1 (.slice q.Y q.ys.length q.yc));have HR9:=h_ ((HRR.o.far (p:=⟨O,0,none⟩) (by show w.heap.size≠O;have:=HRw.o;omega) (.slice q.A q.ps.length q.c)).far (p:=⟨O,1,none⟩) (by show w.heap.size≠O;have:=HRw.o;omega) (.slice q.Y q.ys.length q.yc));have HB9:=h_ (below2 HB.o (Nat.le_of_lt HRw.o) (.slice q.A q.ps.length q.c) (.slice q.Y q.ys.length q.yc));clear HX HRR HB HXQ HOQ HO HXO3;go_wp2_with fail
     refine⟨⟨j+1,q,by omega,by omega,by go_num,HNV.o,HKQ.o,HO9.o,HX9.o,HR9.o,HB9.o⟩,by simp[intOf];omega⟩
  ·obtain rfl:j=os.length:=by omega
   have HV1:=h_ (show joinAll (os.map OV.d)=some o.d from by
    rw[HV.o,List.drop_of_length_le (by rw[List.length_map];exact Nat.le_refl _)]
    rfl)
   clear HV;have x0:=d_ HX.o 0;have x1:=d_ HX.o 1;have hxl:=HX.o.lt;have y0:=d_ HRR.o 0;have y1:=d_ HRR.o 1;have yf0:=HRR.o.frozen 0;have yf1:=HRR.o.frozen 1;have hrl:=HRR.o.lt;obtain⟨k0,k1⟩:=cells2 (u:=.slice o.A o.ps.length o.c) (v:=.slice o.Y o.ys.length o.yc) HRR.o;have HFIN:=h_ (ret_ok (R:=w.heap.size) HO.o HB.o (HO.o.ne_box HRR.o (by decide) (by decide) (by decide) (by decide)) (Nat.le_refl _));go_wp2_with fail
   (try simp only[Exit.inBlock,Exit.then])
   exact bodyPost_ret (v:=.tuple #[.agg #[.slice o.A o.ps.length o.c,.slice o.Y o.ys.length o.yc],.bool true]) (by simp[results,Tryz.results64,go_sem,k0,k1]) rfl (by rw[HV1.o];exact HFIN.o)
end CJoinAS
/- What a session's objects' bytes are within; plain. -/
namespace PDeskZ
open Kit CCode CName CFixups CSymbols PObj PValid PClear PLink PNum PDump PJoin PDesk PDesk2
theorem inD_runs:∀(ls:List (List UInt8)) {l:List OD},(∀e∈l,InD e)->∀d∈(runs l ls).1,InD d
 |[],l,h=>h
 |s::ls,l,h=>by rw[show s::ls=[s]++ls from rfl,runs_app];exact inD_runs ls (desk_in h)
theorem runs_take{l:List OD}{ls:List (List UInt8)}{k:Nat}(h:k<ls.length):runs l (ls.take (k+1))=runStep (runs l (ls.take k)) ls[k]:=by
 unfold runs;rw[List.take_succ_eq_append_getElem h,List.foldl_append]
 rfl
theorem link_code(l:List OD)(b:Int):(linkR l b).2.2=-1\/(linkR l b).2.2=0\/(linkR l b).2.2=1\/(linkR l b).2.2=2\/(linkR l b).2.2=3:=by
 unfold linkR;split
 ·exact .inl rfl
 split
 ·exact .inr (.inr (.inl rfl))
 split
 ·exact .inr (.inr (.inr (.inl rfl)))
 ·unfold imgR;cases image l b with
  |some im=>exact .inr (.inl rfl)
  |none=>exact .inr (.inr (.inr (.inr rfl)))
end PDeskZ
/- DeskLine: a line of a session; the reference's. -/
namespace CDeskS
open Kit CCode CName CNumTxt CFixups CSymbols PObj BObj PValid PClear PNum PDump PLink PLinkL BList CMarkRows BObj2 BRetO CObjValid CCopyS CValids CSorted CNames CWordsS CObjL COwnL CPlaceS PJoin PJoin2 PDesk PDesk2 PDeskZ PLinkIn BDesk CHexI CHexS CJoinAI CLink CFind CFindS CDeskCS CSplitS CLinkS CJoinAS CRdN CDeskI
def fiveT:List Value:=[.string (bs noT),.string (bs []),.string (bs twiceT),.string (bs missT),.string (bs rangeT)]
set_option maxHeartbeats 40000000 in
theorem deskLineS_any(A:Option Addr)(os:List OV)(c:Nat)(s:List UInt8)(w:World)(hr:RdOs w w.heap.size A os)(hf:Lst os)(hn:∀o∈os,Nils o)(hz:∀o∈os,InD o.d)(hc:os.length<=c)(hs:s.length<=1048576)(he:Env w):
  Calls Tryz.prog 17 #[.slice A os.length c,.string (bs s)] w (RetDA (deskA (os.map OV.d) s) w):=by
 obtain⟨i0,hi1,hi2,hi3,hi4⟩:=info_parts infoO;have HI:=h_ (And.intro hi1 (And.intro hi2 (And.intro hi3 hi4)));clear hi1 hi2 hi3 hi4;have HR:=h_ hr;have HF:=h_ hf;have HN:=h_ hn;have HE:=h_ he;have HZ:=h_ (show ∀d∈os.map OV.d,InD d from λd hd=>by
  obtain⟨o,ho,rfl⟩:=List.mem_map.1 hd;exact hz o ho)
 clear hr hf hn he hz;go_enter Tryz.func17,Tryz.ntmps17
 go_wp2_with fail
 refine(objectsValidS_any A os c w HR.o HF.o.fits).mono ?_;rintro e w1 ⟨rfl,b1⟩;have HB:=h_ b1;clear b1;cases hok:objsOk (os.map OV.d)
 ·have HV:=h_ (show deskA (os.map OV.d) s=([],[])from if_pos hok);clear hok;have BA:Below w1.heap.size w1 (w1.alloc (.cells #[] 26)):=b_;replace HB:=c_ HB BA;clear BA;go_wp2_with fail
  go_ret2;rw[HV.o];exact⟨_,0,[],rfl,rfl,⟨Row.empty _ _ _ _ _,(λp hp=>by cases hp),List.Pairwise.nil⟩,HB.o⟩
 obtain⟨h4,hall⟩:=objs_all hok;have HAL:=h_ (λo (ho:o∈os)=>valid_len (hall o ho));have HOK:=h_ hok;have HDA:=h_ (show deskA (os.map OV.d) s=(if s=joinT then joinA (os.map OV.d)else if cutR s=[]then(os.map OV.d,whatT)else if cutW s=loadT then loadA (os.map OV.d) (cutR s)else if cutW s=linkT then(os.map OV.d,linkI (os.map OV.d) (cutR s))else if cutW s=findT then(os.map OV.d,findA (os.map OV.d) (cutR s))else(os.map OV.d,whatT))from by
  unfold deskA;rw[if_neg (by rw[hok];decide)])
 clear hok hall;go_wp2_with fail
 refine(deskCopyS_any A os c w1 ((HR.o.below HB.o).more HB.o.size) HF.o.fits HN.o (λo ho=>by have:=HAL.o o ho;omega)).mono ?_;rintro e w2 ⟨A2,c2,qs,rfl,hqd,o2,b2⟩;have HQ:=h_ hqd;have HC:=h_ (o2.down HB.o.size);have hql:qs.length=os.length:=by
  have h:=congrArg List.length hqd;simpa using h
 have hq4:qs.length<=4:=by omega
 replace HB:=c_ HB b2;clear b2;clear hqd o2 hql;have HCU:=h_ (split_any (bs s) (by rw[bs_size];exact hs) w2);rw[show(bs s).data.toList=s from by simp[bs]]at HCU;go_wp2_with fail
 refine HCU.o.mono ?_;clear HCU;rintro e w3 ⟨rfl,b3⟩;replace HB:=c_ HB b3;replace HC:=h_ (HC.o.call b3);clear b3;obtain⟨hcw,hcr,hct⟩:=cut_len s;have HCT:=h_ hct;clear hct;by_cases hj:s=joinT
 ·have hjq:((bs s).toList==[106,111,105,110])=true:=text_eq hj;have hwq:((bs (cutW s)).toList==[108,111,97,100])=false:=text_ne (by rw[hj];decide);have HDJ:=h_ (HDA.o.trans (if_pos hj));clear hj HDA HCT;generalize cutW s=W at *;generalize cutR s=T at *;go_wp2_with fail
  clear hwq hjq;refine(joinAllS_any A os c w3 ((HR.o.below HB.o).more HB.o.size) HF.o.fits HN.o).mono ?_;rintro e w4 ⟨q,rfl,b4,hq4'⟩;have HQ4:=h_ hq4';have hw34:=HB.o.size;replace HB:=c_ HB b4;replace HC:=h_ (HC.o.call b4);clear b4;clear hq4';have BA:Below w4.heap.size w4 (w4.alloc (.cells #[.slice q.A q.ps.length q.c,.slice q.Y q.ys.length q.yc] 26)):=b_;have HX:=h_ (Box.new w4 26 #[.slice q.A q.ps.length q.c,.slice q.Y q.ys.length q.yc]);have HO:=h_ (λd (hd:joinAll (os.map OV.d)=some d)=>And.intro (HQ4.o d hd).1 (((HQ4.o d hd).2.down hw34).call BA));replace HB:=c_ HB BA;replace HC:=h_ (HC.o.call BA);clear BA;clear HQ4;cases hja:joinAll (os.map OV.d)with
  |none=>
   have HV:=h_ (show deskA (os.map OV.d) s=(os.map OV.d,noT)from by
    rw[HDJ.o];unfold joinA;rw[hja])
   clear HO hja HDJ;simp only[Option.isSome];go_wp2_with fail
   go_ret2;rw[HV.o];exact⟨A2,c2,qs,rfl,HQ.o,HC.o,HB.o⟩
  |some d=>
   have HV:=h_ (show deskA (os.map OV.d) s=([d],okT)from by
    rw[HDJ.o];unfold joinA;rw[hja])
   obtain⟨rfl,hoq⟩:=HO.o d hja;have HOQ:=h_ hoq;clear HO hoq HDJ hja;simp only[Option.isSome];have x0:=d_ HX.o 0;have x1:=d_ HX.o 1;have hxl:=HX.o.lt;go_upto_if 62 with(fail)
   generalize w4.alloc (.cells #[.slice q.A q.ps.length q.c,.slice q.Y q.ys.length q.yc] 26)=w5 at *;generalize w4.heap.size=Z at *;have B6:Below w5.heap.size w5 (w5.alloc (.cells #[.slice q.A q.ps.length q.c,.slice q.Y q.ys.length q.yc] 26)):=b_;have HONE:=h_ (own_one HOQ.o HB.o.size);replace HB:=c_ HB B6;clear B6;go_wp2_with fail
   go_ret2;rw[HV.o];exact⟨_,1,[q],rfl,rfl,HONE.o,HB.o⟩
 have hjq:((bs s).toList==[106,111,105,110])=false:=text_ne hj;have HD1:=h_ (HDA.o.trans (if_neg hj));clear hj HDA;generalize cutW s=W at *;generalize cutR s=T at *;by_cases ht:T=[]
 ·have hq:(bs T).toList.isEmpty=true:=by rw[CDeskLI.bs_list,ht];rfl
  have HV:=h_ (HD1.o.trans (if_pos ht));clear ht HD1 HCT;by_cases hw0:W=loadT
  ·have hwk:((bs W).toList==[108,105,110,107])=false:=text_ne (by rw[hw0];decide);have hwf:((bs W).toList==[102,105,110,100])=false:=text_ne (by rw[hw0];decide);have hwq:((bs W).toList==[108,111,97,100])=true:=text_eq hw0;clear hw0;go_wp2_with fail
   go_ret2;rw[HV.o];exact⟨A2,c2,qs,rfl,HQ.o,HC.o,HB.o⟩
  have hwq:((bs W).toList==[108,111,97,100])=false:=text_ne hw0;clear hw0;by_cases hw1:W=linkT
  ·have hwf:((bs W).toList==[102,105,110,100])=false:=text_ne (by rw[hw1];decide);have hwk:((bs W).toList==[108,105,110,107])=true:=text_eq hw1;clear hw1;go_wp2_with fail
   go_ret2;rw[HV.o];exact⟨A2,c2,qs,rfl,HQ.o,HC.o,HB.o⟩
  have hwk:((bs W).toList==[108,105,110,107])=false:=text_ne hw1;clear hw1;by_cases hw2:W=findT
  ·have hwf:((bs W).toList==[102,105,110,100])=true:=text_eq hw2;clear hw2;go_wp2_with fail
   go_ret2;rw[HV.o];exact⟨A2,c2,qs,rfl,HQ.o,HC.o,HB.o⟩
  have hwf:((bs W).toList==[102,105,110,100])=false:=text_ne hw2;clear hw2;go_wp2_with fail
  go_ret2;rw[HV.o];exact⟨A2,c2,qs,rfl,HQ.o,HC.o,HB.o⟩
 have hq:(bs T).toList.isEmpty=false:=by
  rw[CDeskLI.bs_list];cases T with
  |nil=>exact absurd rfl ht
  |cons x r=>rfl
 have hlen:=HCT.o ht;have HD2:=h_ (HD1.o.trans (if_neg ht));clear ht HD1 HCT;by_cases hw:W=loadT
 ·have hwq:((bs W).toList==[108,111,97,100])=true:=text_eq hw;have hw4:W.length=4:=by rw[hw];rfl
  have HD3:=h_ (HD2.o.trans (if_pos hw));have hT:T.length<=1048571:=by omega
  clear hw HD2 hlen hw4;have HSP:=h_ (parts_any (bs T) (by rw[bs_size];omega) w3);rw[show(bs T).data.toList=T from by simp[bs]]at HSP;have hsl:=(splt_len (124:UInt8) T).2;have HSM:=h_ (splt_mem (124:UInt8) T);have HLO:=h_ (show loadA (os.map OV.d) T=(match readI (splt 124 T)with
   |some o=>if(os.map OV.d).length=4 then(os.map OV.d,noT)else(os.map OV.d++[o],okT)
   |none=>(os.map OV.d,noT))from rfl)
  rw[read_same]at HLO;go_wp2_with fail
  refine HSP.o.mono ?_;clear HSP;rintro e w4 ⟨A4,c4,rfl,row4,b4⟩;rw[show(List.map bs (splt 124 T)).length=(splt 124 T).length from by simp]at *;have HRW:=h_ row4;replace HB:=c_ HB b4;replace HC:=h_ (HC.o.call b4);clear b4;clear row4;generalize splt 124 T=ls at *;have HRD:=h_ (CReadDS.readDumpS_any A4 ls c4 w4 HRW.o.rd (by omega) (λx hx=>by have:=HSM.o x hx;omega));go_wp2_with fail
  refine HRD.o.mono ?_;clear HRD HRW HSM;rintro e w5 ⟨q,rfl,b5,hq5⟩;have HQ5:=h_ hq5;have hw45:=HB.o.size;have HOLD:=h_ (λx (hx:x∈qs) j (hj:oblk x j)=>(show j<w4.heap.size from((HC.o.2.1 x hx).lt j hj).2));replace HB:=c_ HB b5;replace HC:=h_ (HC.o.call b5);clear b5;clear hq5;have BA:Below w5.heap.size w5 (w5.alloc (.cells #[.slice q.A q.ps.length q.c,.slice q.Y q.ys.length q.yc] 26)):=b_;have HX:=h_ (Box.new w5 26 #[.slice q.A q.ps.length q.c,.slice q.Y q.ys.length q.yc]);have HO:=h_ (λd (hd:readS ls=some d)=>And.intro (HQ5.o d hd).1 (And.intro (((HQ5.o d hd).2.down hw45).call BA) (λj (hj:oblk q j)=>(show w4.heap.size<=j from((HQ5.o d hd).2.lt j hj).1))));replace HB:=c_ HB BA;replace HC:=h_ (HC.o.call BA);clear BA;clear HQ5;cases hri:readS ls with
  |none=>
   have HV:=h_ (show deskA (os.map OV.d) s=(os.map OV.d,noT)from by rw[HD3.o,HLO.o,hri]);clear HO hri HD3 HLO hwq hq hjq;simp only[Option.isSome];go_wp2_with fail
   go_ret2;rw[HV.o];exact⟨A2,c2,qs,rfl,HQ.o,HC.o,HB.o⟩
  |some d=>
   obtain⟨rfl,hoq,hnew⟩:=HO.o d hri;have HOQ:=h_ hoq;have HNEW:=h_ hnew;clear HO hoq hnew;simp only[Option.isSome];by_cases h44:os.length=4
   ·have HV:=h_ (show deskA (os.map OV.d) s=(os.map OV.d,noT)from by
     rw[HD3.o,HLO.o,hri];simp only;rw[if_pos (by rw[List.length_map];exact h44)])
    have hqq:((os.length:Int)==4)=true:=beq_iff_eq.2 (by omega);clear hri HD3 HLO h44 hwq hq hjq;go_wp2_with fail
    go_ret2;rw[HV.o];exact⟨A2,c2,qs,rfl,HQ.o,HC.o,HB.o⟩
   ·have HV:=h_ (show deskA (os.map OV.d) s=(os.map OV.d++[q.d],okT)from by
     rw[HD3.o,HLO.o,hri];simp only;rw[if_neg (by rw[List.length_map];exact h44)])
    have hqq:((os.length:Int)==4)=false:=beq_eq_false_iff_ne.2 (by omega);clear hri HD3 HLO h44 hwq hq hjq;have x0:=d_ HX.o 0;have x1:=d_ HX.o 1;have hxl:=HX.o.lt;go_upto_if 47 with(fail)
    generalize w5.alloc (.cells #[.slice q.A q.ps.length q.c,.slice q.Y q.ys.length q.yc] 26)=w6 at *;generalize w5.heap.size=Z at *;have B7:Below w6.heap.size w6 (w6.alloc (.cells (objC q).toArray 26)):=b_;have HC7:=h_ (HC.o.call B7);have HOQ7:=h_ (HOQ.o.call B7);replace HB:=c_ HB B7;clear B7;clear HC HOQ;simp only[objC]at HC7 HOQ7 HB ⊢;go_wp2_with (at_builtin;refine wpList_app _ rfl (.tmp 49) (.tmp 51) 32 rfl 26 i0 (.agg #[.slice none 0 0,.slice none 0 0]) 2 48 Tryz.underlying32 HI.o.1 HI.o.2.1 HI.o.2.2.1 HI.o.2.2.2 rfl (by decide) w.heap.size A2 qs.length c2 (cellsOf objC qs) rfl HC7.o.1 HB.o.size (some ⟨w6.heap.size,0,none⟩) 1 1 (objC q) rfl (rd_lit w6 (objC q).toArray 26 _ rfl) rfl (λh=>by cases h) (one_objC q) ?n1 ?n2 ?_)
    case n1=>unfold maxLen;omega
    case n2=>omega
    intro A8 n8 c8 w8 hn8 o8 g8 k8;have HOW:=h_ (OwnOs.snoc HC7.o HOQ7.o HOLD.o HNEW.o hn8 o8 g8);have HB8:=h_ (HB.o.grown g8 HB.o.size (λj hj=>(HC7.o.1.lt j hj).1));have hn8':n8=(qs++[q]).length:=by rw[hn8,List.length_append];rfl
    subst hn8';clear hn8 o8 g8 k8 HC7 HOQ7;go_wp2_with fail
    go_ret2;rw[HV.o];exact⟨A8,c8,qs++[q],rfl,by rw[List.map_append,HQ.o];rfl,HOW.o,HB8.o⟩
 have hwq:((bs W).toList==[108,111,97,100])=false:=text_ne hw;have HD3:=h_ (HD2.o.trans (if_neg hw));clear hw HD2;by_cases hw:W=linkT
 ·have hwk:((bs W).toList==[108,105,110,107])=true:=text_eq hw;have HV0:=h_ (HD3.o.trans (if_pos hw));clear hw HD3;have HRT:=h_ (read_any (bs T) (by rw[bs_size];omega) w3);rw[show(bs T).data.toList=T from by simp[bs]]at HRT;go_wp2_with fail
  clear hwk hwq hq hjq;refine HRT.o.mono ?_;clear HRT;rintro e w4 ⟨rfl,b4⟩;replace HB:=c_ HB b4;replace HC:=h_ (HC.o.call b4);clear b4;have HCA:=h_ (show linkI (os.map OV.d) T=codeA (linkR (os.map OV.d) (rdN T))from link_same _ _);generalize rdN T=base at *;go_wp2_with fail
  refine(linkS_any A os c base w4 ((HR.o.below HB.o).more HB.o.size) HF.o).mono ?_;rintro e w5 ⟨A3,c3,rfl,row3,b5⟩;have HW:=h_ row3;have HIN:=h_ (link_in (base:=base) HZ.o);replace HB:=c_ HB b5;replace HC:=h_ (HC.o.call b5);clear b5;clear row3;have HLN:=h_ (link_len (l:=os.map OV.d) (base:=base));have HLC:=h_ (link_code (os.map OV.d) base);generalize linkR (os.map OV.d) base=r at *;obtain⟨r1,r2,r3⟩:=r;have hrl:r2.length<=10000:=HLN.o;have hcode:r3=-1\/r3=0\/r3=1\/r3=2\/r3=3:=HLC.o;clear HLN HLC;simp only at HW HIN ⊢;have BA:Below w5.heap.size w5 (w5.alloc (.cells #[.int .i64 r1,.slice A3 r2.length c3] 36)):=b_;have HX:=h_ (Box.new w5 36 #[.int .i64 r1,.slice A3 r2.length c3]);have HRD:=h_ ((HW.o.rd.below BA).more BA.size);replace HB:=c_ HB BA;replace HC:=h_ (HC.o.call BA);clear BA;clear HW;by_cases h0:r3=0
  ·subst h0;have x1:=d_ HX.o 1;have hxl:=HX.o.lt;go_upto_if 81 with(fail)
   generalize w5.alloc (.cells #[.int .i64 r1,.slice A3 r2.length c3] 36)=w6 at *;generalize w5.heap.size=Z at *;by_cases hl0:r2.length=0
   ·have HV:=h_ (show deskA (os.map OV.d) s=(os.map OV.d,emptyT)from by
     rw[HV0.o,HCA.o];have h:codeA (r1,r2,0)=emptyT:=by unfold codeA;simp[hl0]
     rw[h])
    have hqq:((r2.length:Int)==0)=true:=beq_iff_eq.2 (by omega);clear HV0 HCA hl0 hcode;go_wp2_with fail
    go_ret2;rw[HV.o];exact⟨A2,c2,qs,rfl,HQ.o,HC.o,HB.o⟩
   ·have HV:=h_ (show deskA (os.map OV.d) s=(os.map OV.d,hexL r2)from by
     rw[HV0.o,HCA.o];have h:codeA (r1,r2,0)=hexL r2:=by unfold codeA;simp[hl0]
     rw[h])
    have hqq:((r2.length:Int)==0)=false:=beq_eq_false_iff_ne.2 (by omega);clear HV0 HCA hl0 hcode;go_wp2_with fail
    refine(hexTextS_any A3 r2 c3 w6 HRD.o HIN.o (by omega)).mono ?_;rintro e w7 ⟨rfl,b7⟩;replace HB:=c_ HB b7;replace HC:=h_ (HC.o.call b7);clear b7;clear x1 hxl hqq;go_wp2_with fail
    go_ret2;rw[HV.o];exact⟨A2,c2,qs,rfl,HQ.o,HC.o,HB.o⟩
  ·have hn0:(r3 != 0)=true:=bne_iff_ne.2 h0;go_upto_if 81 with(fail)
   generalize w5.alloc (.cells #[.int .i64 r1,.slice A3 r2.length c3] 36)=w6 at *;generalize w5.heap.size=Z at *;clear HX HRD HIN;have B7:Below w6.heap.size w6 (w6.alloc (.cells #[.string ⟨#[110,111]⟩,.string ⟨#[]⟩,.string ⟨#[116,119,105,99,101]⟩,.string ⟨#[109,105,115,115,105,110,103]⟩,.string ⟨#[114,97,110,103,101]⟩] 9)).drew:=below_dr (below_al (Below.refl _ _));have HB7:=h_ (HB.o.trans (B7.mono HB.o.size));have HC7:=h_ (HC.o.call B7);have HL5:=h_ (show Box (w6.alloc (.cells #[.string ⟨#[110,111]⟩,.string ⟨#[]⟩,.string ⟨#[116,119,105,99,101]⟩,.string ⟨#[109,105,115,115,105,110,103]⟩,.string ⟨#[114,97,110,103,101]⟩] 9)).drew w6.heap.size 9 fiveT.toArray from(Box.new w6 9 fiveT.toArray).drew);clear B7;obtain⟨i,hi,hi5⟩:∃i:Nat,r3+1=(i:Int)/\i<5:=⟨(r3+1).toNat,by omega,by omega⟩;have hwi:IntKind.i64.wrap (r3+1)=(i:Int):=by rw[hi];exact IntWalk.i64_in _ (by omega)
   have HV:=h_ (show ∃t,deskA (os.map OV.d) s=(os.map OV.d,t)/\(fiveT.toArray)[i]?=some (.string (bs t))from by
    refine⟨_,HV0.o,?_⟩;rw[HCA.o];rcases hcode with h|h|h|h|h<;>subst h
    ·obtain rfl:i=0:=by omega
     rfl
    ·exact absurd rfl h0
    ·obtain rfl:i=2:=by omega
     rfl
    ·obtain rfl:i=3:=by omega
     rfl
    ·obtain rfl:i=4:=by omega
     rfl)
   obtain⟨t,hv,hti⟩:=HV.o;have HV2:=h_ hv;have l5:=HL5.o.cell i;rw[hti]at l5;have hl5:=HL5.o.lt;clear HV hv hti hcode h0 HV0 HCA HL5 hi;have hi0:(0:Int)<=(i:Int):=by omega
   have hi5':(i:Int)<5:=by omega
   go_wp2_with fail
   refine Reg.startT (λ_=>True) (λ_=>false) (by kernel_rfl) ?_;have hHeld:True:=trivial;refine t_ 0 rfl ?_;refine t_ 2 rfl ?_;refine t_ 3 rfl ?_;refine t_ 6 rfl ?_;refine Reg.oneT (i:=1) rfl (by kernel_rfl) (λK hK=>?_);go_simp
   refine hK.out _ _ hHeld ?_;clear hK K;try simp only[y1_,y2_,y3_,Act.put,y4_,y5_,y6_]
   generalize (w6.alloc (.cells #[.string ⟨#[110,111]⟩,.string ⟨#[]⟩,.string ⟨#[116,119,105,99,101]⟩,.string ⟨#[109,105,115,115,105,110,103]⟩,.string ⟨#[114,97,110,103,101]⟩] 9)).drew=w7 at *;refine t_ 4 rfl ?_;refine Reg.oneT (i:=5) rfl (by kernel_rfl) (λK hK=>?_);go_simp
   refine hK.out _ _ hHeld ?_;clear hK K;try simp only[y1_,y2_,y3_,Act.put,y4_,y5_,y6_]
   refine t_ 7 rfl ?_;refine Reg.doneT (by kernel_rfl) ?_ _;clear hHeld l5 hl5;go_wp2_with fail
   go_ret2;rw[HV2.o];exact⟨A2,c2,qs,rfl,HQ.o,HC7.o,HB7.o⟩
 have hwk:((bs W).toList==[108,105,110,107])=false:=text_ne hw;have HD4:=h_ (HD3.o.trans (if_neg hw));clear hw HD3;by_cases hw:W=findT
 ·have hwf:((bs W).toList==[102,105,110,100])=true:=text_eq hw;have HD5:=h_ (HD4.o.trans (if_pos hw));clear hw HD4;have HFN:=h_ (findNameS_any A os c (bs T) w3 ((HR.o.below HB.o).more HB.o.size) HF.o.fits ⟨by omega,λo ho=>by have:=HAL.o o ho;omega⟩);rw[show fndS (os.map OV.d) (bs T)=findN (os.map OV.d) (bs T)from by unfold fndS;rw[HOK.o];rfl]at HFN;have HFA:=h_ (show findA (os.map OV.d) T=(match findN (os.map OV.d) (bs T)with
   |some g=>Lib.itoa g.1++46::Lib.itoa g.2
   |none=>noT)from rfl)
  have HN8:=h_ (show ∀(n:Int) (W:World),-1000000000<=n->n<=1000000000->Calls Tryz.prog 40 #[.int .i64 n] W (Ret (.string (bs (Lib.itoa n))) W)from λn W h0 h1=>l8Number_any n W h0 h1);cases hfn:findN (os.map OV.d) (bs T)with
  |none=>
   have HV:=h_ (show deskA (os.map OV.d) s=(os.map OV.d,noT)from by rw[HD5.o,HFA.o,hfn]);rw[hfn]at HFN;clear hfn HD5 HFA;go_wp2_with fail
   clear hwf hwk hwq hq hjq;refine HFN.o.mono ?_;clear HFN;rintro e w4 ⟨rfl,b4⟩;replace HB:=c_ HB b4;replace HC:=h_ (HC.o.call b4);clear b4;have BA:Below w4.heap.size w4 (w4.alloc (.cells #[.int .i64 0,.int .i64 0] 79)):=b_;have HX:=h_ (Box.new w4 79 #[.int .i64 0,.int .i64 0]);replace HB:=c_ HB BA;replace HC:=h_ (HC.o.call BA);clear BA;simp only[gvG,Option.getD,Option.isSome];go_wp2_with fail
   go_ret2;rw[HV.o];exact⟨A2,c2,qs,rfl,HQ.o,HC.o,HB.o⟩
  |some g=>
   obtain⟨hg1,hg2⟩:=find_bd HOK.o hfn;have HV:=h_ (show deskA (os.map OV.d) s=(os.map OV.d,Lib.itoa g.1++46::Lib.itoa g.2)from by rw[HD5.o,HFA.o,hfn]);rw[hfn]at HFN;clear hfn HD5 HFA;obtain⟨g1,g2⟩:=g;simp only at HV hg1 hg2;go_wp2_with fail
   clear hwf hwk hwq hq hjq;refine HFN.o.mono ?_;clear HFN;rintro e w4 ⟨rfl,b4⟩;replace HB:=c_ HB b4;replace HC:=h_ (HC.o.call b4);clear b4;have BA:Below w4.heap.size w4 (w4.alloc (.cells #[.int .i64 g1,.int .i64 g2] 79)):=b_;have HX:=h_ (Box.new w4 79 #[.int .i64 g1,.int .i64 g2]);replace HB:=c_ HB BA;replace HC:=h_ (HC.o.call BA);clear BA;simp only[gvG,Option.getD,Option.isSome];have hi1:=Lib.itoa_length_le (g1:Int) (by omega) (by omega);have hi2:=Lib.itoa_length_le (g2:Int) (by omega) (by omega);have x0:=d_ HX.o 0;have x1:=d_ HX.o 1;have hxl:=HX.o.lt;go_upto_if 111 with(fail)
   generalize w4.alloc (.cells #[.int .i64 g1,.int .i64 g2] 79)=w5 at *;generalize w4.heap.size=Z at *;go_wp2_with fail
   refine Reg.startT (λV=>V.cell? ⟨Z,0,none⟩=some (.int .i64 g1)/\V.cell? ⟨Z,1,none⟩=some (.int .i64 g2)) (λ_=>false) (by kernel_rfl) ?_;have hHeld:w5.drew.cell? ⟨Z,0,none⟩=some (.int .i64 g1)/\w5.drew.cell? ⟨Z,1,none⟩=some (.int .i64 g2):=⟨x0,x1⟩;refine t_ 0 rfl ?_;refine t_ 1 rfl ?_;refine t_ 2 rfl ?_;refine t_ 5 rfl ?_;refine t_ 6 rfl ?_;refine Reg.oneT (i:=3) rfl (by kernel_rfl) (λK hK=>?_);go_simp
   refine(HN8.o (g1:Int) _ (by omega) (by omega)).mono ?_;rintro e w6 ⟨rfl,b6⟩;have b6':=of_drew b6;have hHeld:w6.cell? ⟨Z,0,none⟩=some (.int .i64 g1)/\w6.cell? ⟨Z,1,none⟩=some (.int .i64 g2):=⟨(b6'.cell (p:=⟨Z,0,none⟩) hxl).trans x0,(b6'.cell (p:=⟨Z,1,none⟩) hxl).trans x1⟩;have hxl6:Z<w6.heap.size:=Nat.lt_of_lt_of_le hxl b6'.size;replace HB:=h_ (HB.o.trans (b6'.mono HB.o.size));replace HC:=h_ (HC.o.call b6');clear b6';refine hK.out _ _ hHeld ?_;clear hK K b6;try simp only[y1_,y2_,y3_,Act.put,y4_,y5_,y6_]
   have hs1:¬9223372036854775807<(bs (Lib.itoa (g1:Int))).size+1:=by rw[bs_size];omega
   refine t_ 4 rfl ?_;refine Reg.oneT (i:=7) rfl (by kernel_rfl) (λK hK=>?_);go_simp
   refine(HN8.o (g2:Int) _ (by omega) (by omega)).mono ?_;rintro e w7 ⟨rfl,b7⟩;have hHeld:w7.cell? ⟨Z,0,none⟩=some (.int .i64 g1)/\w7.cell? ⟨Z,1,none⟩=some (.int .i64 g2):=⟨(b7.cell (p:=⟨Z,0,none⟩) hxl6).trans hHeld.1,(b7.cell (p:=⟨Z,1,none⟩) hxl6).trans hHeld.2⟩;replace HB:=c_ HB b7;replace HC:=h_ (HC.o.call b7);clear b7;refine hK.out _ _ hHeld ?_;clear hK K;try simp only[y1_,y2_,y3_,Act.put,y4_,y5_,y6_]
   have hs2:¬9223372036854775807<(bs (Lib.itoa (g1:Int))).size+1+(bs (Lib.itoa (g2:Int))).size:=by rw[bs_size,bs_size];omega
   refine t_ 8 rfl ?_;refine t_ 9 rfl ?_;refine t_ 10 rfl ?_;refine Reg.doneT (by kernel_rfl) ?_ _;have HTX:=h_ (show bs (Lib.itoa (g1:Int))++(⟨#[46]⟩:ByteArray)++bs (Lib.itoa (g2:Int))=bs (Lib.itoa (g1:Int)++46::Lib.itoa (g2:Int))from by
    rw[show(⟨#[46]⟩:ByteArray)=bs [46]from rfl,bs_app,bs_app];simp)
   clear hHeld x0 x1 hxl;go_wp2_with fail
   go_ret2;rw[HV.o];exact⟨A2,c2,qs,by rw[HTX.o];rfl,HQ.o,HC.o,HB.o⟩
 have hwf:((bs W).toList==[102,105,110,100])=false:=text_ne hw;have HV:=h_ (HD4.o.trans (if_neg hw));clear hw HD4;go_wp2_with fail
 go_ret2;rw[HV.o];exact⟨A2,c2,qs,rfl,HQ.o,HC.o,HB.o⟩
end CDeskS
/- The laws' comparison and marks on lists of objects. -/
namespace CObjL2
open Kit CFixups CSymbols PObj BObj BObj2 BList CObjValid CSection CSections CMarkText CSymMarks CMarkRows CSecMarks CSecHeld CObject CObject2 CCopyS WObj CObjL
theorem ApO.symm {o p:OV}(h:ApO o p):ApO p o:=λk h1 h2=>h k h2 h1
theorem OwnOs.upd {w w':World}{base c:Nat}{A:Option Addr}{l1 l2:List OV}{o o':OV}(h:OwnOs w base A c (l1++o::l2))(hc:objC o'=objC o)(hb:∀k,oblk o' k->oblk o k)(ho:OwnO w' base o')(g:Gp (oblk o) w w'):OwnOs w' base A c (l1++o'::l2):=by
 have hne:=OwnOs.ne h o (by simp);obtain⟨hr,hw,hp⟩:=h;obtain⟨p1,p2,p3⟩:=List.pairwise_append.1 hp;obtain⟨p4,p5⟩:=List.pairwise_cons.1 p2;refine⟨?_,λx hx=>?_,?_⟩
 ·have e1:(l1++o'::l2).length=(l1++o::l2).length:=by simp
  have e2:cellsOf objC (l1++o'::l2)=cellsOf objC (l1++o::l2):=by simp[cellsOf,hc]
  rw[e1,e2];exact Gp.row g hr λk hk hq=>hne k hq hk
 ·rcases List.mem_append.1 hx with hx|hx
  ·exact(hw x (List.mem_append_left _ hx)).gp g λk hk=>p3 x hx o (by simp) k hk
  ·rcases List.mem_cons.1 hx with rfl|hx
   ·exact ho
   ·exact(hw x (by simp[hx])).gp g λk hk=>ApO.symm (p4 x hx) k hk
 ·refine List.pairwise_append.2 ⟨p1,List.pairwise_cons.2 ⟨λx hx k h1 h2=>p4 x hx k (hb k h1) h2,p5⟩,λx hx y hy k h1 h2=>?_⟩;rcases List.mem_cons.1 hy with rfl|hy
  ·exact p3 x hx o (by simp) k h1 (hb k h2)
  ·exact p3 x hx y (by simp[hy]) k h1 h2
def wdO(o:OV):Int:=wds o.ps+4*o.ys.length
def wdL:List OV->Int
 |[]=>0
 |o::os=>wdO o+wdL os
end CObjL2
/- Lists of objects that a desk's law hands on: their sizes. -/
namespace BDeskW
open Kit CCode CFixups CSymbols PObj BObj PValid PClear CObjValid CSections CObject CObject2 CMarkRows WObj BList CObjL CObjL2 CPlaceS CCopyS CJoinAI PJoin2 PLink PDump PDesk
theorem valid_lim{o:OV}(h:objOk o.d=true):LimO o/\wdO o<=1000:=by
 obtain⟨h1,h2⟩:=valid_len h;obtain⟨_,_,h3⟩:=obj_all h;have h4:∀p∈o.ps,p.fs.length<=6/\p.zs.length<=48:=λp hp=>by obtain⟨a,b,_⟩:=h3 p.d (List.mem_map_of_mem hp);exact⟨a,b⟩
 refine⟨⟨by omega,by omega,λp hp=>⟨by have:=h4 p hp;omega,by have:=h4 p hp;omega⟩⟩,?_⟩;have key:∀ps:List SV,(∀p∈ps,p.fs.length<=6/\p.zs.length<=48)->wds ps<=76*ps.length:=by
  intro ps;induction ps with
  |nil=>intro _;simp[wds]
  |cons p ps ih=>intro h;have h5:=h p List.mem_cons_self;have h6:=ih λq hq=>h q (List.mem_cons_of_mem _ hq);simp only[wds,wd,List.length_cons];omega
 have h5:=key o.ps h4;unfold wdO;omega
theorem valid_lims{os:List OV}(h:objsOk (os.map OV.d)=true):os.length<=4/\(∀o∈os,LimO o)/\(∀o∈os,o.ps.length<=8/\o.ys.length<=12)/\wdL os<=4000:=by
 obtain⟨h1,h2⟩:=objs_all h;have key:∀qs:List OV,(∀o∈qs,objOk o.d=true)->wdL qs<=1000*qs.length:=by
  intro qs;induction qs with
  |nil=>intro _;simp[wdL]
  |cons p ps ih=>intro h;have h5:=(valid_lim (h p List.mem_cons_self)).2;have h6:=ih λq hq=>h q (List.mem_cons_of_mem _ hq);simp only[wdL,List.length_cons];omega
 have h3:=key os h2;exact⟨h1,λo ho=>(valid_lim (h2 o ho)).1,λo ho=>valid_len (h2 o ho),by omega⟩
theorem run_ok(l:List OD)(ls:List (List UInt8)):objsOk (runA l ls).1=true:=by
 unfold runA;by_cases h:objsOk l=true/\ls.length<=20
 ·rw[if_pos h];exact(runs_valid ls h.1).1
 ·rw[if_neg h]
  rfl
structure Args(c:Nat)(qs:List OV):Prop where
 l:Lst qs
 n:∀q∈qs,Nils q
 z:∀q∈qs,InD q.d
 c:qs.length<=c
 m:∀q∈qs,LimO q
 k:qs.length<=1048576
theorem args_valid{w:World}{base c:Nat}{A:Option Addr}{qs:List OV}(ho:OwnOs w base A c qs)(hv:objsOk (qs.map OV.d)=true)(hz:∀d∈qs.map OV.d,InD d):Args c qs:=by obtain⟨h1,h2,h3,_⟩:=valid_lims hv;obtain⟨_,hall⟩:=objs_all hv;have hf:∀q∈qs,Fit q:=λq hq=>fit_sm (valid_sm (hall q hq)) (ho.2.1 q hq).2.cap.1;exact⟨⟨by omega,hf,λq hq=>cp_copy rfl (hf q hq) (ho.2.1 q hq)⟩,λq hq=>nils_own (ho.2.1 q hq),λq hq=>hz q.d (List.mem_map_of_mem hq),ho.1.cap.1,h2,by omega⟩
end BDeskW
/- Contracts of the laws' comparisons of lists. -/
namespace CSame
open Kit
theorem sameBytes_any(A A':Option Addr)(xs ys:List Int)(c c' B:Nat)(w:World)(hr:Rd w B A (ints .u8 xs))(hr':Rd w B A' (ints .u8 ys))(hm:xs.length<=maxLen)(hm':ys.length<=maxLen):
  Calls Tryz.prog 166 #[.slice A xs.length c,.slice A' ys.length c'] w λe w'=>e=.returned (.bool (xs==ys))/\∃n,w'=w.drewN n:=by
 unfold maxLen at hm hm';by_cases hl:xs.length=ys.length
 ·have h0:(((xs.length:Nat):Int) != (ys.length:Nat))=false:=by simp;omega
  go_enter Tryz.func166,Tryz.ntmps166
  go_wp2
  clear h0;have HL:=h_ hl;go_loopw [5] (λi wr=>∃k:Nat,k<=xs.length/\i=.int .i64 k/\xs.take k=ys.take k/\∃n,wr=w.drewN n) (λi _=>xs.length-(intOf i).toNat)
  case atStart=>exact⟨0,Nat.zero_le _,rfl,rfl,0,rfl⟩
  case round=>
   obtain⟨k,hk,rfl,he,n,rfl⟩:=hrel;have HE:=h_ he;clear he hl;by_cases hlt:k<xs.length
   ·obtain⟨b,off,rfl,_,hc⟩:=hr.int hlt;obtain⟨b',off',rfl,_,hc'⟩:=hr'.int (i:=k) (by have:=HL.o;omega);clear hr hr';have hlt':k<ys.length:=by have:=HL.o;omega
    by_cases hxy:xs[k]=ys[k]
    ·have HE':=h_ (show xs.take (k+1)=ys.take (k+1)by rw[take_succ hlt,take_succ hlt',HE.o,hxy]);have hn:(xs[k] != ys[k])=false:=by simpa using hxy
     clear hxy;go_wp2_with fail
     go_quiet (fail)
     go_wp2
     go_roundw
     case rel=>exact⟨k+1,by omega,by go_num,HE'.o,_,rfl⟩
     case measure=>simp[intOf];omega
    ·have hn:(xs[k] != ys[k])=true:=by simpa using hxy
     have HF:=h_ (show(xs==ys)=false by
      apply beq_eq_false_iff_ne.2
      intro e;subst e;exact hxy rfl)
     clear hxy;go_wp2_with fail
     go_quiet (fail)
     go_wp2
     go_ret;exact⟨ret_bool HF.o.symm,_,World.drewN_drewN ..⟩
   ·have HF:=h_ (show(xs==ys)=true by
     have e:=HE.o;have:=HL.o;rw[List.take_of_length_le (by omega),List.take_of_length_le (by omega)]at e;subst e;simp)
    clear hr hr'
    go_wp2
    go_ret;exact⟨ret_bool HF.o.symm,_,rfl⟩
 ·have h1:(((xs.length:Nat):Int) != (ys.length:Nat))=true:=by simp;omega
  have h2:(xs==ys)=false:=by simp;intro e;exact hl (by rw[e])
  have H2:=h_ h2;clear h2 hl;go_enter Tryz.func166,Tryz.ntmps166
  go_wp2
  go_ret;exact⟨ret_bool H2.o.symm,0,rfl⟩
end CSame
end Go.Proofs.YtepoiphmmjfbdaaGreatDoor
