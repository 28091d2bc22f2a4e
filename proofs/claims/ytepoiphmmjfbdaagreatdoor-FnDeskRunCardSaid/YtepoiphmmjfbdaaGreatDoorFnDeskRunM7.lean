/- The reference's copies that share nothing: sections, objects, and lists of them. -/
import Derived.Test.YtepoiphmmjfbdaaGreatDoorFnDeskRunM6
import Derived.Lib.AppendZerosOnto
import Derived.BigQuiet
set_option linter.unusedSimpArgs false
set_option linter.unusedVariables false
set_option maxRecDepth 200000
open Go.ChangeShapes Go.WideShapes Go.ChangeAt Go.RowKit
namespace Go.Proofs.YtepoiphmmjfbdaaGreatDoor
namespace COwnL
open Kit CFixups CSymbols PObj BObj BObj2 BList CObjValid CSection CSections CMarkRows CCopyS WObj CObjL
set_option maxHeartbeats 4000000 in
theorem ownSection_any(p:SV)(w:World)(hr:RdS w w.heap.size p)(hn:(p.A=none->p.c=0)/\(p.F=none->p.fc=0))(h1:p.zs.length<=1048576)(h2:p.fs.length<=1048576):
  Calls Tryz.prog 222 #[.agg #[.string p.nm,.int .i64 p.kd,.int .i64 p.al,.slice p.A p.zs.length p.c,.int .i64 p.sz,.slice p.F p.fs.length p.fc]] w (RetS p.d w):=by
 obtain⟨i8,hi81,hi82,hi83,hi84⟩:=info_parts CBytes.info8;have HI8:=h_ (And.intro hi81 (And.intro hi82 (And.intro hi83 hi84)));clear hi81 hi82 hi83 hi84;obtain⟨iF,hif1,hif2,hif3,hif4⟩:=info_parts CFixups.info;have HIF:=h_ (And.intro hif1 (And.intro hif2 (And.intro hif3 hif4)));clear hif1 hif2 hif3 hif4;have HR:=h_ hr;have HN:=h_ hn;clear hr hn;have HB:=h_ (show Below w.heap.size w ((((w.alloc (.cells #[.string p.nm,.int .i64 p.kd,.int .i64 p.al,.slice p.A p.zs.length p.c,.int .i64 p.sz,.slice p.F p.fs.length p.fc] 61)).alloc (.cells #[.string ⟨#[]⟩,.int .i64 0,.int .i64 0,.slice none 0 0,.int .i64 0,.slice none 0 0] 61)).alloc (.cells #[.string p.nm,.int .i64 p.kd,.int .i64 p.al,.slice p.A p.zs.length p.c,.int .i64 p.sz,.slice p.F p.fs.length p.fc] 61)).alloc (.cells #[] 5))from b_);have HV:=h_ ((((Box.new w 61 #[.string p.nm,.int .i64 p.kd,.int .i64 p.al,.slice p.A p.zs.length p.c,.int .i64 p.sz,.slice p.F p.fs.length p.fc]).alloc (.cells #[.string ⟨#[]⟩,.int .i64 0,.int .i64 0,.slice none 0 0,.int .i64 0,.slice none 0 0] 61)).alloc (.cells #[.string p.nm,.int .i64 p.kd,.int .i64 p.al,.slice p.A p.zs.length p.c,.int .i64 p.sz,.slice p.F p.fs.length p.fc] 61)).alloc (.cells #[] 5));have HR0:=((Box.new (w.alloc (.cells #[.string p.nm,.int .i64 p.kd,.int .i64 p.al,.slice p.A p.zs.length p.c,.int .i64 p.sz,.slice p.F p.fs.length p.fc] 61)) 61 #[.string ⟨#[]⟩,.int .i64 0,.int .i64 0,.slice none 0 0,.int .i64 0,.slice none 0 0]).alloc (.cells #[.string p.nm,.int .i64 p.kd,.int .i64 p.al,.slice p.A p.zs.length p.c,.int .i64 p.sz,.slice p.F p.fs.length p.fc] 61)).alloc (.cells #[] 5);have HX0:=(Box.new ((w.alloc (.cells #[.string p.nm,.int .i64 p.kd,.int .i64 p.al,.slice p.A p.zs.length p.c,.int .i64 p.sz,.slice p.F p.fs.length p.fc] 61)).alloc (.cells #[.string ⟨#[]⟩,.int .i64 0,.int .i64 0,.slice none 0 0,.int .i64 0,.slice none 0 0] 61)) 61 #[.string p.nm,.int .i64 p.kd,.int .i64 p.al,.slice p.A p.zs.length p.c,.int .i64 p.sz,.slice p.F p.fs.length p.fc]).alloc (.cells #[] 5);simp only[World.size_alloc]at HR0 HX0;have HRR:=h_ HR0;have HX:=h_ HX0;clear HR0 HX0;go_enter Tryz.func222,Tryz.ntmps222
 go_wp2_with (at_builtin;refine wpList_app _ rfl (.tmp 5) (.tmp 7) 22 rfl 5 i8 (.int .u8 0) 1 1 Tryz.underlying22 HI8.o.1 HI8.o.2.1 HI8.o.2.2.1 HI8.o.2.2.2 rfl (by decide) w.heap.size _ 0 0 [] rfl (Row.empty _ _ _ _ _) HB.o.size p.A p.zs.length p.c (ints .u8 p.zs) rfl (HR.o.1.below HB.o) (by simp) HN.o.1 (one_ints _ _) ?n1 ?n2 ?_)
 case n1=>unfold maxLen;omega
 case n2=>omega
 intro A1 n1 c1 w1 hn1 o1 g1 k1;have hn1':n1=p.zs.length:=by omega
 clear hn1;subst hn1';generalize (((w.alloc (.cells #[.string p.nm,.int .i64 p.kd,.int .i64 p.al,.slice p.A p.zs.length p.c,.int .i64 p.sz,.slice p.F p.fs.length p.fc] 61)).alloc (.cells #[.string ⟨#[]⟩,.int .i64 0,.int .i64 0,.slice none 0 0,.int .i64 0,.slice none 0 0] 61)).alloc (.cells #[.string p.nm,.int .i64 p.kd,.int .i64 p.al,.slice p.A p.zs.length p.c,.int .i64 p.sz,.slice p.F p.fs.length p.fc] 61)).alloc (.cells #[] 5)=wa at *;have b1:Below wa.heap.size wa w1:=below_tr (Below.refl _ _) g1;have HA1:=h_ (show Row w1 w.heap.size 5 1 A1 p.zs.length c1 (ints .u8 p.zs)from by simpa using o1);replace HB:=c_ HB b1;replace HV:=h_ (HV.o.call b1);replace HRR:=h_ (HRR.o.call b1);replace HX:=h_ (HX.o.call b1);clear b1;clear o1 g1 k1;generalize hRq:w.heap.size+1=R at *;generalize hXq:R+1=X at *;have HLT:=h_ (show w.heap.size<R/\R<X from by omega);clear hRq hXq;have x3:=d_ HX.o 3;have fx:=HX.o.frozen 3;have hxl:=HX.o.lt;have HX1:=h_ (show Box (w1.setCell ⟨X,3,none⟩ (.slice A1 p.zs.length c1)) X 61 #[.string p.nm,.int .i64 p.kd,.int .i64 p.al,.slice A1 p.zs.length c1,.int .i64 p.sz,.slice p.F p.fs.length p.fc]from HX.o.set 3 _);have HV1:=h_ (HV.o.far (p:=⟨X,3,none⟩) (by have:=HLT.o;show w.heap.size≠X;omega) (.slice A1 p.zs.length c1));have HR1:=h_ (HRR.o.far (p:=⟨X,3,none⟩) (by have:=HLT.o;show R≠X;omega) (.slice A1 p.zs.length c1));have HB1:=h_ (HB.o.setCell (p:=⟨X,3,none⟩) (by have:=HLT.o;show w.heap.size<=X;omega) (.slice A1 p.zs.length c1));have HA2:=h_ (HA1.o.set (a:=⟨X,3,none⟩) (HA1.o.box HX.o (by decide)) (.slice A1 p.zs.length c1));have hz1:(w1.setCell ⟨X,3,none⟩ (.slice A1 p.zs.length c1)).heap.size=w1.heap.size:=by simp[World.setCell]
 have B2:Below (w1.setCell ⟨X,3,none⟩ (.slice A1 p.zs.length c1)).heap.size (w1.setCell ⟨X,3,none⟩ (.slice A1 p.zs.length c1)) ((w1.setCell ⟨X,3,none⟩ (.slice A1 p.zs.length c1)).alloc (.cells #[] 65)):=b_;clear HX HV HRR HB HA1;replace HB1:=h_ (HB1.o.trans (B2.mono HB1.o.size));replace HX1:=h_ (HX1.o.call B2);replace HV1:=h_ (HV1.o.call B2);replace HR1:=h_ (HR1.o.call B2);replace HA2:=h_ (HA2.o.call B2);clear B2;have v5:=d_ HV1.o 5;have hvl:=HV1.o.lt;go_wp2_with (at_builtin;refine wpList_app _ rfl (.tmp 10) (.tmp 12) 59 rfl 65 iF (.agg #[.int .i64 0,.int .i64 0,.int .i64 0,.int .i64 0]) 4 32 Tryz.underlying59 HIF.o.1 HIF.o.2.1 HIF.o.2.2.1 HIF.o.2.2.2 rfl (by decide) w.heap.size _ 0 0 [] rfl (Row.empty _ _ _ _ _) HB1.o.size p.F p.fs.length p.fc (cellsOf fixupC p.fs) rfl (HR.o.2.below HB1.o) (cellsOf_len fixupC_len p.fs) HN.o.2 (one_fix _) ?m1 ?m2 ?_)
 case m1=>unfold maxLen;omega
 case m2=>omega
 intro A2 n2 c2 w2 hn2 o2 g2 k2;have hn2':n2=p.fs.length:=by omega
 clear hn2 x3 fx hxl v5 hvl hz1;subst hn2';generalize (w1.setCell ⟨X,3,none⟩ (.slice A1 p.zs.length c1)).alloc (.cells #[] 65)=wb at *;have b2:Below wb.heap.size wb w2:=below_tr (Below.refl _ _) g2;have HF2:=h_ (show Row w2 w.heap.size 65 4 A2 p.fs.length c2 (cellsOf fixupC p.fs)from by simpa using o2);replace HB1:=h_ (HB1.o.trans (b2.mono HB1.o.size));replace HX1:=h_ (HX1.o.call b2);replace HV1:=h_ (HV1.o.call b2);replace HR1:=h_ (HR1.o.call b2);replace HA2:=h_ (HA2.o.call b2);clear b2;clear o2 g2 k2;have x5:=d_ HX1.o 5;have fx:=HX1.o.frozen 5;have hxl:=HX1.o.lt;have HX2:=h_ (show Box (w2.setCell ⟨X,5,none⟩ (.slice A2 p.fs.length c2)) X 61 #[.string p.nm,.int .i64 p.kd,.int .i64 p.al,.slice A1 p.zs.length c1,.int .i64 p.sz,.slice A2 p.fs.length c2]from HX1.o.set 5 _);have HR2:=h_ (HR1.o.far (p:=⟨X,5,none⟩) (by have:=HLT.o;show R≠X;omega) (.slice A2 p.fs.length c2));have HB2:=h_ (HB1.o.setCell (p:=⟨X,5,none⟩) (by have:=HLT.o;show w.heap.size<=X;omega) (.slice A2 p.fs.length c2));have HQ:=h_ (show RwS (w2.setCell ⟨X,5,none⟩ (.slice A2 p.fs.length c2)) w.heap.size ⟨p.nm,p.kd,p.al,A1,c1,p.zs,p.sz,A2,c2,p.fs⟩from⟨HA2.o.set (a:=⟨X,5,none⟩) (HA2.o.box HX1.o (by decide)) _,HF2.o.set (a:=⟨X,5,none⟩) (HF2.o.box HX1.o (by decide)) _⟩);clear HX1 HV1 HR1 HB1 HA2 HF2;have y0:=d_ HX2.o 0;have y1:=d_ HX2.o 1;have y2:=d_ HX2.o 2;have y3:=d_ HX2.o 3;have y4:=d_ HX2.o 4;have y5:=d_ HX2.o 5;have hyl:=HX2.o.lt;have r0:=d_ HR2.o 0;have r1:=d_ HR2.o 1;have r2:=d_ HR2.o 2;have r3:=d_ HR2.o 3;have r4:=d_ HR2.o 4;have r5:=d_ HR2.o 5;have f0:=HR2.o.frozen 0;have f1:=HR2.o.frozen 1;have f2:=HR2.o.frozen 2;have f3:=HR2.o.frozen 3;have f4:=HR2.o.frozen 4;have f5:=HR2.o.frozen 5;have hrl:=HR2.o.lt;go_wp2_with fail
 have hne:∀k,sblk ⟨p.nm,p.kd,p.al,A1,c1,p.zs,p.sz,A2,c2,p.fs⟩ k->k≠R:=HQ.o.box HR2.o (by decide) (by decide);have HFIN:=h_ (show RwS (put6 (w2.setCell ⟨X,5,none⟩ (.slice A2 p.fs.length c2)) R 0 (.string p.nm) (.int .i64 p.kd) (.int .i64 p.al) (.slice A1 p.zs.length c1) (.int .i64 p.sz) (.slice A2 p.fs.length c2)) w.heap.size ⟨p.nm,p.kd,p.al,A1,c1,p.zs,p.sz,A2,c2,p.fs⟩/\Below w.heap.size w (put6 (w2.setCell ⟨X,5,none⟩ (.slice A2 p.fs.length c2)) R 0 (.string p.nm) (.int .i64 p.kd) (.int .i64 p.al) (.slice A1 p.zs.length c1) (.int .i64 p.sz) (.slice A2 p.fs.length c2))from⟨put6_rwS HQ.o hne,put6_below HB2.o (by have:=HLT.o;omega)⟩);have kk:=((((HR2.o.set 0 (.string p.nm)).set 1 (.int .i64 p.kd)).set 2 (.int .i64 p.al)).set 3 (.slice A1 p.zs.length c1)).set 4 (.int .i64 p.sz) |>.set 5 (.slice A2 p.fs.length c2)
 have k0:=kk.cell 0;have k1:=kk.cell 1;have k2:=kk.cell 2;have k3:=kk.cell 3;have k4:=kk.cell 4;have k5:=kk.cell 5;simp only[k_]at k0 k1 k2 k3 k4 k5;exact bodyPost_ret (v:=.agg (secC ⟨p.nm,p.kd,p.al,A1,c1,p.zs,p.sz,A2,c2,p.fs⟩).toArray) (by simp[results,Tryz.results222,go_sem,secC,k0,k1,k2,k3,k4,k5]) rfl ⟨_,rfl,rfl,HFIN.o.1,HFIN.o.2⟩
theorem secs_snoc{w w':World}{base c N:Nat}{A:Option Addr}{ps:List SV}(h:OwnSs w base A c ps){q:SV}(hq:RwS w base q)(hold:∀p∈ps,∀k,sblk p k->k<N)(hnew:∀k,sblk q k->N<=k){A':Option Addr}{n' c':Nat}(hn:n'=ps.length+1)
  (row:Row w' base 61 6 A' n' c' (cellsOf secC ps++secC q))(g:w.grownBy w' (blk A c)):OwnSs w' base A' c' (ps++[q]):=by
 subst hn;have hS:∀p,RwS w base p->RwS w' base p:=λp hp=>⟨hp.1.grown g (λk hk=>apartT hp.1 h.1 (by decide) k hk),hp.2.grown g (λk hk=>apartT hp.2 h.1 (by decide) k hk)⟩;refine⟨?_,RwSs.snoc (λp hp=>hS p (h.2.1 p hp)) (hS q hq),PwSs.snoc h.2.2 hold hnew⟩;rw[<-cells_snoc]at row;show Row w' base _ 6 A' (ps++[q]).length c' _
 rw[List.length_append];exact row
theorem one_secC(q:SV):∀u∈secC q,u.oneCell'=true:=by
 intro u hu;simp only[secC,List.mem_cons,List.not_mem_nil,or_false]at hu;rcases hu with rfl|rfl|rfl|rfl|rfl|rfl<;>rfl
theorem one_objC(q:OV):∀u∈objC q,u.oneCell'=true:=by
 intro u hu;simp only[objC,List.mem_cons,List.not_mem_nil,or_false]at hu;rcases hu with rfl|rfl<;>rfl
def CpS(p:SV):Prop:=((p.A=none->p.c=0)/\(p.F=none->p.fc=0))/\p.zs.length<=1048576/\p.fs.length<=1048576
def CpO(o:OV):Prop:=o.ps.length<=1048576/\o.ys.length<=1048576/\(o.Y=none->o.yc=0)/\∀p∈o.ps,CpS p
set_option maxHeartbeats 2000000 in
theorem ownSections_any(A:Option Addr)(ps:List SV)(c:Nat)(w:World)(hr:RdSs w w.heap.size A ps)(hm:ps.length<=1048576)(hl:∀p∈ps,CpS p):
  Calls Tryz.prog 193 #[.slice A ps.length c] w (RetSs (ps.map SV.d) w):=by
 obtain⟨i0,hi1,hi2,hi3,hi4⟩:=info_parts BObj.info;have HI:=h_ (And.intro hi1 (And.intro hi2 (And.intro hi3 hi4)));clear hi1 hi2 hi3 hi4;have HR:=h_ hr;have HL:=h_ hl;clear hr hl;have HB:=h_ (show Below w.heap.size w (w.alloc (.cells #[] 61))from b_);go_enter Tryz.func193,Tryz.ntmps193
 go_wp2_with fail
 generalize w.alloc (.cells #[] 61)=w0 at *;go_loopw [3,4] (λs i wi=>∃(k:Nat) (qs:List SV) (Aq:Option Addr) (cq:Nat),k<=ps.length/\qs.length=k/\s=.slice Aq qs.length cq/\i=.int .i64 k/\qs.map SV.d=(ps.take k).map SV.d/\OwnSs wi w.heap.size Aq cq qs/\Below w.heap.size w wi) (λ_ i _=>ps.length-(intOf i).toNat)
 case atStart=>exact⟨0,[],_,0,Nat.zero_le _,rfl,rfl,rfl,rfl,⟨Row.empty _ _ _ _ _,(λp hp=>by cases hp),List.Pairwise.nil⟩,HB.o⟩
 case round=>
  clear HB;obtain⟨k,qs,Aq,cq,hk,hql,rfl,rfl,hqd,ho,hb⟩:=hrel;have HO:=h_ ho;have HB:=h_ hb;have HQL:=h_ hql;have HQD:=h_ hqd;have hq1:qs.length<=1048576:=by omega
  clear hqd ho hql;by_cases hlt:k<ps.length
  ·obtain⟨b,off,rfl,hbg,hc⟩:=(HR.o.1.below hb).row secC_len (by decide) hlt;have hc0:=hc 0 _ rfl;have hc1:=hc 1 _ rfl;have hc2:=hc 2 _ rfl;have hc3:=hc 3 _ rfl;have hc4:=hc 4 _ rfl;have hc5:=hc 5 _ rfl;simp only[Nat.add_zero]at hc0;have HM:=h_ (HL.o _ (List.getElem_mem hlt));have HRS:=h_ (((HR.o.2 _ (List.getElem_mem hlt)).below hb).more hb.size);have HD:=h_ (show qs.map SV.d++[(ps[k]).d]=(ps.take (k+1)).map SV.d by rw[take_succ hlt,List.map_append,HQD.o];rfl);clear hb hc;generalize ps[k]=p at *;go_wp2_with fail
   refine(ownSection_any p wr HRS.o HM.o.1 HM.o.2.1 HM.o.2.2).mono ?_;rintro e w2 ⟨q,rfl,hqd,r2,b2⟩;have HRQ:=h_ (r2.down HB.o.size);have HNEW:=h_ (λj (hj:sblk q j)=>(show wr.heap.size<=j from(r2.lt j hj).1));have HOLD:=h_ (λx (hx:x∈qs) j (hj:sblk x j)=>(show j<wr.heap.size from((HO.o.2.1 x hx).lt j hj).2));have HQ:=h_ hqd;have HO2:=h_ (HO.o.call b2);replace HB:=c_ HB b2;clear b2;clear hqd r2 HO HRS hc0 hc1 hc2 hc3 hc4 hc5;have B3:Below w2.heap.size w2 (w2.alloc (.cells (secC q).toArray 61)):=b_;have HO3:=h_ (HO2.o.call B3);have HRQ3:=h_ (HRQ.o.call B3);replace HB:=c_ HB B3;clear B3;clear HO2 HRQ;simp only[secC]at HO3 HRQ3 HB ⊢;go_wp2_with (at_builtin;refine wpList_app _ rfl (.tmp 12) (.tmp 18) 23 rfl 61 i0 (.agg #[.string ByteArray.empty,.int .i64 0,.int .i64 0,.slice none 0 0,.int .i64 0,.slice none 0 0]) 6 88 Tryz.underlying23 HI.o.1 HI.o.2.1 HI.o.2.2.1 HI.o.2.2.2 rfl (by decide) w.heap.size Aq qs.length cq (cellsOf secC qs) rfl HO3.o.1 HB.o.size (some ⟨w2.heap.size,0,none⟩) 1 1 (secC q) rfl (rd_lit w2 (secC q).toArray 61 _ rfl) rfl (λh=>by cases h) (one_secC q) ?n1 ?n2 ?_)
   case n1=>unfold maxLen;omega
   case n2=>omega
   intro A8 n8 c8 w8 hn8 o8 g8 k8;have HOW:=h_ (secs_snoc HO3.o HRQ3.o HOLD.o HNEW.o hn8 o8 g8);have HB8:=h_ (HB.o.grown g8 HB.o.size (λj hj=>(HO3.o.1.lt j hj).1));have hn8':n8=(qs++[q]).length:=by rw[hn8,List.length_append];rfl
   subst hn8';clear hn8 o8 g8 k8 HO3 HRQ3;go_wp2_with fail
   refine⟨⟨k+1,qs++[q],A8,c8,by omega,by simp[HQL.o],by first|rfl|rw[List.length_append],by go_num,?_,HOW.o,HB8.o⟩,by simp[intOf];omega⟩
   rw[<-HD.o,List.map_append,List.map_singleton,HQ.o]
  ·have hke:k=ps.length:=by omega
   have HH:=h_ (show RetSs (ps.map SV.d) w (.returned (.slice Aq qs.length cq)) wr from⟨Aq,cq,qs,rfl,by rw[HQD.o,hke,List.take_length],HO.o,HB.o⟩);subst hke;clear hb;go_wp2_with fail
   go_ret;exact HH.o
set_option maxHeartbeats 2000000 in
theorem ownObject_any(o:OV)(w:World)(hr:RdO w w.heap.size o)(hc:CpO o):
  Calls Tryz.prog 162 #[.agg #[.slice o.A o.ps.length o.c,.slice o.Y o.ys.length o.yc]] w (RetO o.d w):=by
 obtain⟨iY,hiy1,hiy2,hiy3,hiy4⟩:=info_parts CSymbols.info;have HIY:=h_ (And.intro hiy1 (And.intro hiy2 (And.intro hiy3 hiy4)));clear hiy1 hiy2 hiy3 hiy4;have HR:=h_ hr;have HC:=h_ hc;clear hr hc;have HB:=h_ (show Below w.heap.size w (((w.alloc (.cells #[.slice o.A o.ps.length o.c,.slice o.Y o.ys.length o.yc] 26)).alloc (.cells #[.slice none 0 0,.slice none 0 0] 26)).alloc (.cells #[.slice o.A o.ps.length o.c,.slice o.Y o.ys.length o.yc] 26))from b_);have HV:=h_ (((Box.new w 26 #[.slice o.A o.ps.length o.c,.slice o.Y o.ys.length o.yc]).alloc (.cells #[.slice none 0 0,.slice none 0 0] 26)).alloc (.cells #[.slice o.A o.ps.length o.c,.slice o.Y o.ys.length o.yc] 26));have HR0:=(Box.new (w.alloc (.cells #[.slice o.A o.ps.length o.c,.slice o.Y o.ys.length o.yc] 26)) 26 #[.slice none 0 0,.slice none 0 0]).alloc (.cells #[.slice o.A o.ps.length o.c,.slice o.Y o.ys.length o.yc] 26);have HX0:=Box.new ((w.alloc (.cells #[.slice o.A o.ps.length o.c,.slice o.Y o.ys.length o.yc] 26)).alloc (.cells #[.slice none 0 0,.slice none 0 0] 26)) 26 #[.slice o.A o.ps.length o.c,.slice o.Y o.ys.length o.yc];simp only[World.size_alloc]at HR0 HX0;have HRR:=h_ HR0;have HX:=h_ HX0;clear HR0 HX0;have v0:=d_ HV.o 0;have hvl:=HV.o.lt;go_enter Tryz.func162,Tryz.ntmps162
 go_wp2_with fail
 clear v0 hvl;generalize ((w.alloc (.cells #[.slice o.A o.ps.length o.c,.slice o.Y o.ys.length o.yc] 26)).alloc (.cells #[.slice none 0 0,.slice none 0 0] 26)).alloc (.cells #[.slice o.A o.ps.length o.c,.slice o.Y o.ys.length o.yc] 26)=w0 at *;generalize hRq:w.heap.size+1=R at *;generalize hXq:R+1=X at *;have HLT:=h_ (show w.heap.size<R/\R<X from by omega);clear hRq hXq;refine(ownSections_any o.A o.ps o.c w0 ((HR.o.1.below HB.o).more HB.o.size) HC.o.1 HC.o.2.2.2).mono ?_;rintro e w1 ⟨A1,c1,qs,rfl,hqd,o1,b1⟩;have HQ:=h_ hqd;have HO:=h_ (o1.down HB.o.size);replace HB:=c_ HB b1;replace HV:=h_ (HV.o.call b1);replace HRR:=h_ (HRR.o.call b1);replace HX:=h_ (HX.o.call b1);clear b1;clear hqd o1;have x0:=d_ HX.o 0;have x1:=d_ HX.o 1;have fx:=HX.o.frozen 0;have hxl:=HX.o.lt;have HX1:=h_ (show Box (w1.setCell ⟨X,0,none⟩ (.slice A1 qs.length c1)) X 26 #[.slice A1 qs.length c1,.slice o.Y o.ys.length o.yc]from HX.o.set 0 _);have HV1:=h_ (HV.o.far (p:=⟨X,0,none⟩) (by have:=HLT.o;show w.heap.size≠X;omega) (.slice A1 qs.length c1));have HR1:=h_ (HRR.o.far (p:=⟨X,0,none⟩) (by have:=HLT.o;show R≠X;omega) (.slice A1 qs.length c1));have HB1:=h_ (HB.o.setCell (p:=⟨X,0,none⟩) (by have:=HLT.o;show w.heap.size<=X;omega) (.slice A1 qs.length c1));have hneX:∀k,ssblk A1 c1 qs k->k≠X:=by
  rintro k (hk|⟨p,hp,hk⟩)
  ·exact HO.o.1.box HX.o (by decide) k hk
  ·exact(HO.o.2.1 p hp).box HX.o (by decide) (by decide) k hk
 have HO1:=h_ (show OwnSs (w1.setCell ⟨X,0,none⟩ (.slice A1 qs.length c1)) w.heap.size A1 c1 qs from HO.o.keep λk hk=>Below.heap_setCell w1 ⟨X,0,none⟩ _ k (hneX k hk));have B2:Below (w1.setCell ⟨X,0,none⟩ (.slice A1 qs.length c1)).heap.size (w1.setCell ⟨X,0,none⟩ (.slice A1 qs.length c1)) ((w1.setCell ⟨X,0,none⟩ (.slice A1 qs.length c1)).alloc (.cells #[] 67)):=b_;clear HX HV HRR HB HO hneX;replace HB1:=h_ (HB1.o.trans (B2.mono HB1.o.size));replace HX1:=h_ (HX1.o.call B2);replace HV1:=h_ (HV1.o.call B2);replace HR1:=h_ (HR1.o.call B2);replace HO1:=h_ (HO1.o.call B2);clear B2;have v1:=d_ HV1.o 1;have hvl:=HV1.o.lt;go_wp2_with (at_builtin;refine wpList_app _ rfl (.tmp 9) (.tmp 11) 24 rfl 67 iY (.agg #[.string ByteArray.empty,.int .i64 0,.int .i64 0,.int .i64 0]) 4 40 Tryz.underlying24 HIY.o.1 HIY.o.2.1 HIY.o.2.2.1 HIY.o.2.2.2 rfl (by decide) w.heap.size _ 0 0 [] rfl (Row.empty _ _ _ _ _) HB1.o.size o.Y o.ys.length o.yc (cellsOf symbolC o.ys) rfl (HR.o.2.below HB1.o) (cellsOf_len symbolC_len o.ys) HC.o.2.2.1 (one_sym _) ?m1 ?m2 ?_)
 case m1=>have:=HC.o.2.1;unfold maxLen;omega
 case m2=>have:=HC.o.2.1;omega
 intro A2 n2 c2 w2 hn2 o2 g2 k2;have hn2':n2=o.ys.length:=by omega
 clear hn2 x0 x1 fx hxl v1 hvl;subst hn2';generalize (w1.setCell ⟨X,0,none⟩ (.slice A1 qs.length c1)).alloc (.cells #[] 67)=wb at *;have b2:Below wb.heap.size wb w2:=below_tr (Below.refl _ _) g2;have HF2:=h_ (show Row w2 w.heap.size 67 4 A2 o.ys.length c2 (cellsOf symbolC o.ys)from by simpa using o2);replace HB1:=h_ (HB1.o.trans (b2.mono HB1.o.size));replace HX1:=h_ (HX1.o.call b2);replace HV1:=h_ (HV1.o.call b2);replace HR1:=h_ (HR1.o.call b2);replace HO1:=h_ (HO1.o.call b2);clear b2;clear o2 g2 k2;have x0:=d_ HX1.o 0;have x1:=d_ HX1.o 1;have fx:=HX1.o.frozen 1;have hxl:=HX1.o.lt;have HX2:=h_ (show Box (w2.setCell ⟨X,1,none⟩ (.slice A2 o.ys.length c2)) X 26 #[.slice A1 qs.length c1,.slice A2 o.ys.length c2]from HX1.o.set 1 _);have HR2:=h_ (HR1.o.far (p:=⟨X,1,none⟩) (by have:=HLT.o;show R≠X;omega) (.slice A2 o.ys.length c2));have HB2:=h_ (HB1.o.setCell (p:=⟨X,1,none⟩) (by have:=HLT.o;show w.heap.size<=X;omega) (.slice A2 o.ys.length c2));have HOO:=h_ (show OwnO w2 w.heap.size ⟨A1,c1,qs,A2,c2,o.ys⟩from⟨HO1.o,HF2.o⟩);have HQ2:=h_ (show OwnO (w2.setCell ⟨X,1,none⟩ (.slice A2 o.ys.length c2)) w.heap.size ⟨A1,c1,qs,A2,c2,o.ys⟩from OwnO.set (a:=⟨X,1,none⟩) HOO.o (HOO.o.ne_box HX1.o (by decide) (by decide) (by decide) (by decide)) _);clear HX1 HV1 HR1 HB1 HO1 HF2 HOO;have y0:=d_ HX2.o 0;have y1:=d_ HX2.o 1;have hyl:=HX2.o.lt;have r0:=d_ HR2.o 0;have r1:=d_ HR2.o 1;have f0:=HR2.o.frozen 0;have f1:=HR2.o.frozen 1;have hrl:=HR2.o.lt;go_wp2_with fail
 have hne:=HQ2.o.ne_box HR2.o (by decide) (by decide) (by decide) (by decide);have HFIN:=CObject.ret_object (Y:=R) HQ2.o HB2.o hne (by have:=HLT.o;omega);have hdd:OV.d ⟨A1,c1,qs,A2,c2,o.ys⟩=o.d:=by simp only[OV.d,HQ.o]
 rw[hdd]at HFIN;have kk:=(HR2.o.set 0 (.slice A1 qs.length c1)).set 1 (.slice A2 o.ys.length c2);have k0:=kk.cell 0;have k1:=kk.cell 1;simp only[k_]at k0 k1;exact bodyPost_ret (v:=OV.v ⟨A1,c1,qs,A2,c2,o.ys⟩) (by simp[results,Tryz.results162,go_sem,OV.v,k0,k1]) rfl HFIN
set_option maxHeartbeats 2000000 in
theorem ownObjects_any(A:Option Addr)(os:List OV)(c:Nat)(w:World)(hr:RdOs w w.heap.size A os)(hm:os.length<=1048576)(hl:∀o∈os,CpO o):
  Calls Tryz.prog 114 #[.slice A os.length c] w (RetOs (os.map OV.d) w):=by
 obtain⟨i0,hi1,hi2,hi3,hi4⟩:=info_parts infoO;have HI:=h_ (And.intro hi1 (And.intro hi2 (And.intro hi3 hi4)));clear hi1 hi2 hi3 hi4;have HR:=h_ hr;have HL:=h_ hl;clear hr hl;have HB:=h_ (show Below w.heap.size w (w.alloc (.cells #[] 26))from b_);go_enter Tryz.func114,Tryz.ntmps114
 go_wp2_with fail
 generalize w.alloc (.cells #[] 26)=w0 at *;go_loopw [3,4] (λs i wi=>∃(k:Nat) (qs:List OV) (Aq:Option Addr) (cq:Nat),k<=os.length/\qs.length=k/\s=.slice Aq qs.length cq/\i=.int .i64 k/\qs.map OV.d=(os.take k).map OV.d/\OwnOs wi w.heap.size Aq cq qs/\Below w.heap.size w wi) (λ_ i _=>os.length-(intOf i).toNat)
 case atStart=>exact⟨0,[],_,0,Nat.zero_le _,rfl,rfl,rfl,rfl,⟨Row.empty _ _ _ _ _,(λp hp=>by cases hp),List.Pairwise.nil⟩,HB.o⟩
 case round=>
  clear HB;obtain⟨k,qs,Aq,cq,hk,hql,rfl,rfl,hqd,ho,hb⟩:=hrel;have HO:=h_ ho;have HB:=h_ hb;have HQL:=h_ hql;have HQD:=h_ hqd;have hq1:qs.length<=1048576:=by omega
  clear hqd ho hql;by_cases hlt:k<os.length
  ·obtain⟨b,off,rfl,hbg,hc⟩:=(HR.o.1.below hb).row objC_len (by decide) hlt;have hc0:=hc 0 _ rfl;have hc1:=hc 1 _ rfl;simp only[Nat.add_zero]at hc0;have HM:=h_ (HL.o _ (List.getElem_mem hlt));have HRS:=h_ (((HR.o.2 _ (List.getElem_mem hlt)).below hb).more hb.size);have HD:=h_ (show qs.map OV.d++[(os[k]).d]=(os.take (k+1)).map OV.d by rw[take_succ hlt,List.map_append,HQD.o];rfl);clear hb hc;generalize os[k]=p at *;go_wp2_with fail
   refine(ownObject_any p wr HRS.o HM.o).mono ?_;rintro e w2 ⟨q,rfl,hqd,r2,b2⟩;have HRQ:=h_ (r2.down HB.o.size);have HNEW:=h_ (λj (hj:oblk q j)=>(show wr.heap.size<=j from(r2.lt j hj).1));have HOLD:=h_ (λx (hx:x∈qs) j (hj:oblk x j)=>(show j<wr.heap.size from((HO.o.2.1 x hx).lt j hj).2));have HQ:=h_ hqd;have HO2:=h_ (HO.o.call b2);replace HB:=c_ HB b2;clear b2;clear hqd r2 HO HRS hc0 hc1;have B3:Below w2.heap.size w2 (w2.alloc (.cells (objC q).toArray 26)):=b_;have HO3:=h_ (HO2.o.call B3);have HRQ3:=h_ (HRQ.o.call B3);replace HB:=c_ HB B3;clear B3;clear HO2 HRQ;simp only[objC]at HO3 HRQ3 HB ⊢;simp only[OV.v];go_wp2_with (at_builtin;refine wpList_app _ rfl (.tmp 12) (.tmp 18) 32 rfl 26 i0 (.agg #[.slice none 0 0,.slice none 0 0]) 2 48 Tryz.underlying32 HI.o.1 HI.o.2.1 HI.o.2.2.1 HI.o.2.2.2 rfl (by decide) w.heap.size Aq qs.length cq (cellsOf objC qs) rfl HO3.o.1 HB.o.size (some ⟨w2.heap.size,0,none⟩) 1 1 (objC q) rfl (rd_lit w2 (objC q).toArray 26 _ rfl) rfl (λh=>by cases h) (one_objC q) ?n1 ?n2 ?_)
   case n1=>unfold maxLen;omega
   case n2=>omega
   intro A8 n8 c8 w8 hn8 o8 g8 k8;have HOW:=h_ (OwnOs.snoc HO3.o HRQ3.o HOLD.o HNEW.o hn8 o8 g8);have HB8:=h_ (HB.o.grown g8 HB.o.size (λj hj=>(HO3.o.1.lt j hj).1));have hn8':n8=(qs++[q]).length:=by rw[hn8,List.length_append];rfl
   subst hn8';clear hn8 o8 g8 k8 HO3 HRQ3;go_wp2_with fail
   refine⟨⟨k+1,qs++[q],A8,c8,by omega,by simp[HQL.o],by first|rfl|rw[List.length_append],by go_num,?_,HOW.o,HB8.o⟩,by simp[intOf];omega⟩
   rw[<-HD.o,List.map_append,List.map_singleton,HQ.o]
  ·have hke:k=os.length:=by omega
   have HH:=h_ (show RetOs (os.map OV.d) w (.returned (.slice Aq qs.length cq)) wr from⟨Aq,cq,qs,rfl,by rw[HQD.o,hke,List.take_length],HO.o,HB.o⟩);subst hke;clear hb;go_wp2_with fail
   go_ret;exact HH.o
end COwnL
/- JoinAll and copyObjects; the program's. -/
namespace CJoinAI
open Kit CCode CName CFixups CSymbols PObj BObj PValid PClear PLink PLinkL BList CMarkRows BObj2 BRetO BStore BJoin PJoin PJoin2 CObjValid CCopyS CCopyI CValids CJoinI CObjL COwnL
theorem joinAll_bad{l:List OD}(h:objsOk l=false):joinAll l=none:=by
 cases l with
 |nil=>rfl
 |cons d ds=>rw[joinAll,if_neg (by rw[h];decide)]
theorem joinAll_ok'{l:List OD}(h:objsOk l=true)(hl:0<l.length):joinAll l=joins (l[0]'hl) (l.drop 1):=by
 cases l with
 |nil=>cases hl
 |cons d ds=>rw[joinAll,if_pos h];rfl
theorem joins_drop{l:List OD}{k:Nat}(h:k<l.length)(d:OD):joins d (l.drop k)=(joinD d l[k]).bind λx=>joins x (l.drop (k+1)):=by
 rw[List.drop_eq_getElem_cons h]
 rfl
theorem objs_all{os:List OV}(h:objsOk (os.map OV.d)=true):os.length<=4/\∀o∈os,objOk o.d=true:=by simp only[objsOk,Bool.and_eq_true,decide_eq_true_eq,List.all_eq_true,List.length_map]at h;exact⟨h.1,λo ho=>h.2 _ (List.mem_map_of_mem ho)⟩
theorem valid_len{o:OV}(h:objOk o.d=true):o.ps.length<=8/\o.ys.length<=12:=by obtain⟨h1,h2,_⟩:=obj_all h;exact⟨by simpa[OV.d]using h1,h2⟩
set_option maxHeartbeats 16000000 in
theorem joinAll_any(A:Option Addr)(os:List OV)(c:Nat)(w:World)(hr:RdOs w w.heap.size A os)(hf:Fits os)(hn:∀o∈os,Nils o)(hc:os.length<=c):
  Calls Tryz.prog 46 #[.slice A os.length c] w (RetOB (joinAll (os.map OV.d)) w):=by
 have HR:=h_ hr;have HF:=h_ hf;have HN:=h_ hn;clear hr hf hn;have HB:=h_ (show Below w.heap.size w (w.alloc (.cells #[.slice none 0 0,.slice none 0 0] 26))from b_);have HRR:=h_ (Box.new w 26 #[.slice none 0 0,.slice none 0 0]);go_enter Tryz.func46,Tryz.ntmps46
 go_wp2_with fail
 generalize w.alloc (.cells #[.slice none 0 0,.slice none 0 0] 26)=w0 at *;refine(objectsValid_any A os c w0 ((HR.o.below HB.o).more HB.o.size) HF.o).mono ?_;rintro e w1 ⟨rfl,b1⟩;replace HB:=c_ HB b1;replace HRR:=h_ (HRR.o.call b1);clear b1;cases hok:objsOk (os.map OV.d)
 ·have HV:=h_ (joinAll_bad hok);clear hok;have y0:=d_ HRR.o 0;have y1:=d_ HRR.o 1;have yf0:=HRR.o.frozen 0;have yf1:=HRR.o.frozen 1;have hrl:=HRR.o.lt;obtain⟨k0,k1⟩:=cells2 (u:=.slice none 0 0) (v:=.slice none 0 0) HRR.o;have HFB:=h_ (below2 HB.o (Nat.le_refl _) (.slice none 0 0) (.slice none 0 0));go_wp2_with fail
  (try simp only[Exit.inBlock,Exit.then])
  exact bodyPost_ret (v:=.tuple #[.agg #[.slice none 0 0,.slice none 0 0],.bool false]) (by simp[results,Tryz.results46,go_sem,k0,k1]) rfl (by rw[HV.o];exact ret_nilO HFB.o)
 obtain⟨h4,hall⟩:=objs_all hok;have HAL:=h_ hall;have HOK:=h_ hok;clear hok hall;by_cases h0:os.length=0
 ·have HV:=h_ (show joinAll (os.map OV.d)=none from by rw[List.eq_nil_of_length_eq_zero h0];rfl);have hq:((os.length:Int)==0)=true:=by rw[h0];rfl
  clear h0;have y0:=d_ HRR.o 0;have y1:=d_ HRR.o 1;have yf0:=HRR.o.frozen 0;have yf1:=HRR.o.frozen 1;have hrl:=HRR.o.lt;obtain⟨k0,k1⟩:=cells2 (u:=.slice none 0 0) (v:=.slice none 0 0) HRR.o;have HFB:=h_ (below2 HB.o (Nat.le_refl _) (.slice none 0 0) (.slice none 0 0));go_wp2_with fail
  (try simp only[Exit.inBlock,Exit.then])
  exact bodyPost_ret (v:=.tuple #[.agg #[.slice none 0 0,.slice none 0 0],.bool false]) (by simp[results,Tryz.results46,go_sem,k0,k1]) rfl (by rw[HV.o];exact ret_nilO HFB.o)
 have hq:((os.length:Int)==0)=false:=beq_eq_false_iff_ne.2 (by omega);have hp:0<os.length:=by omega
 clear h0;obtain⟨b,off,rfl,hbb,hcc⟩:=(HR.o.1.below HB.o).row objC_len (by decide) hp;have hc0:=hcc 0 _ rfl;have hc1:=hcc 1 _ rfl;simp only[Nat.zero_mul,Nat.add_zero]at hc0 hc1;have HV:=h_ (show joinAll (os.map OV.d)=joins (os[0]).d ((os.map OV.d).drop 1)from by
  rw[joinAll_ok' HOK.o (by simpa using hp)];simp)
 have HM:=h_ (List.getElem_mem hp);have HRO:=h_ (((HR.o.2 _ HM.o).below HB.o).more HB.o.size);have HFO:=h_ (HF.o.o _ HM.o);have HNO:=h_ (HN.o _ HM.o);have HKO:=h_ (HAL.o _ HM.o);have hle:=valid_len HKO.o;clear hcc HM;generalize os[0]=o at *;obtain⟨hle1,hle2⟩:=hle;go_wp2_with fail
 clear hc0 hc1 hq;refine(copyObject_any o w1 HRO.o HFO.o HNO.o ⟨by omega,by omega⟩).mono ?_;rintro e w2 ⟨q,rfl,hqd,o2,b2⟩;have HQK:=h_ (show objOk q.d=true from by rw[hqd];exact HKO.o);rw[<-hqd]at HV;have HO:=h_ (o2.down HB.o.size);replace HB:=c_ HB b2;replace HRR:=h_ (HRR.o.call b2);clear b2;clear hqd o2 HRO HFO HNO HKO hle1 hle2;have BA:Below w2.heap.size w2 (w2.alloc (.cells #[.slice q.A q.ps.length q.c,.slice q.Y q.ys.length q.yc] 26)):=b_;have HX:=h_ (Box.new w2 26 #[.slice q.A q.ps.length q.c,.slice q.Y q.ys.length q.yc]);have HRw:=h_ HRR.o.lt;replace HB:=c_ HB BA;replace HRR:=h_ (HRR.o.call BA);replace HO:=h_ (HO.o.call BA);clear BA;simp only[OV.v];by_cases hc1:c=1
 ·have hl1:os.length=1:=by omega
  have hz:os.length-1=0:=by omega
  have HV1:=h_ (show joinAll (os.map OV.d)=some q.d from by
   rw[HV.o,List.drop_of_length_le (by rw[List.length_map];omega)]
   rfl)
  have hq1:=eq_true hc1;clear hc1 hl1 HV;go_wp2_with fail
  generalize w2.alloc (.cells #[.slice q.A q.ps.length q.c,.slice q.Y q.ys.length q.yc] 26)=w3 at *;generalize w2.heap.size=O at *;go_loopw [25] (λi wi=>i=.int .i64 0/\wi=w3) (λ_ _=>0)
  case atStart=>exact⟨rfl,rfl⟩
  case round=>
   obtain⟨rfl,rfl⟩:=hrel;have x0:=d_ HX.o 0;have x1:=d_ HX.o 1;have hxl:=HX.o.lt;have y0:=d_ HRR.o 0;have y1:=d_ HRR.o 1;have yf0:=HRR.o.frozen 0;have yf1:=HRR.o.frozen 1;have hrl:=HRR.o.lt;obtain⟨k0,k1⟩:=cells2 (u:=.slice q.A q.ps.length q.c) (v:=.slice q.Y q.ys.length q.yc) HRR.o;have HFIN:=h_ (ret_ok (R:=w.heap.size) HO.o HB.o (HO.o.ne_box HRR.o (by decide) (by decide) (by decide) (by decide)) (Nat.le_refl _));go_wp2_with fail
   (try simp only[Exit.inBlock,Exit.then])
   exact bodyPost_ret (v:=.tuple #[.agg #[.slice q.A q.ps.length q.c,.slice q.Y q.ys.length q.yc],.bool true]) (by simp[results,Tryz.results46,go_sem,k0,k1]) rfl (by rw[HV1.o];exact HFIN.o)
 have hq1:=eq_false hc1;clear hc1;go_wp2_with fail
 clear hq1;generalize w2.alloc (.cells #[.slice q.A q.ps.length q.c,.slice q.Y q.ys.length q.yc] 26)=w3 at *;generalize w2.heap.size=O at *;go_loopw [25] (λi wi=>∃(k:Nat) (o:OV),k+1<=os.length/\i=.int .i64 k/\joinAll (os.map OV.d)=joins o.d ((os.map OV.d).drop (k+1))/\objOk o.d=true/\OwnO wi w.heap.size o/\Box wi O 26 #[.slice o.A o.ps.length o.c,.slice o.Y o.ys.length o.yc]/\Box wi w.heap.size 26 #[.slice none 0 0,.slice none 0 0]/\Below w.heap.size w wi) (λi _=>os.length-(intOf i).toNat)
 case atStart=>exact⟨0,q,hp,rfl,HV.o,HQK.o,HO.o,HX.o,HRR.o,HB.o⟩
 case round=>
  clear HV HQK HO HX HRR HB;obtain⟨k,o,hk,rfl,hv,hok,ho,hx,hrr,hb⟩:=hrel;have HV:=h_ hv;have HOK2:=h_ hok;have HO:=h_ ho;have HX:=h_ hx;have HRR:=h_ hrr;have HB:=h_ hb;clear hv hok ho hx hrr hb;by_cases hlt:k+1<os.length
  ·obtain⟨b',off',hA,hbb',hcc⟩:=(HR.o.1.below HB.o).row objC_len (by decide) hlt;injection hA with hA;injection hA with hA1 hA2;subst hA1;subst hA2;have hc0:=hcc 0 _ rfl;have hc1:=hcc 1 _ rfl;rw[Nat.add_zero,show off+(k+1)*2=off+2+k*2 from by omega]at hc0;rw[show off+(k+1)*2+1=off+2+k*2+1 from by omega]at hc1;have hkl:(k:Int)<(os.length:Int)-1:=by omega
   have hkn:k<os.length-1:=by omega
   have HM:=h_ (List.getElem_mem hlt);have HRP:=h_ (((HR.o.2 _ HM.o).below HB.o).more HB.o.size);have HFP:=h_ (HF.o.o _ HM.o);have HNP:=h_ (HN.o _ HM.o);have HV2:=h_ (show joinAll (os.map OV.d)=(joinD o.d (os[k+1]).d).bind λx=>joins x ((os.map OV.d).drop (k+1+1))from by
    rw[HV.o,joins_drop (by simpa using hlt)];simp)
   have HFO:=h_ (fit_sm (valid_sm HOK2.o) HO.o.2.cap.1);have HNO:=h_ (nils_own HO.o);clear hcc HM HV hbb';generalize os[k+1]=p at *;have B1:Below wr.heap.size wr (wr.alloc (.cells #[.slice p.A p.ps.length p.c,.slice p.Y p.ys.length p.yc] 26)):=b_;have HXP:=h_ (Box.new wr 26 #[.slice p.A p.ps.length p.c,.slice p.Y p.ys.length p.yc]);replace HRP:=h_ ((HRP.o.below B1).more B1.size);replace HB:=c_ HB B1;replace HRR:=h_ (HRR.o.call B1);replace HX:=h_ (HX.o.call B1);replace HO:=h_ (HO.o.call B1);clear B1;have x0:=d_ HX.o 0;have x1:=d_ HX.o 1;have y0:=d_ HXP.o 0;have y1:=d_ HXP.o 1;have hxl:=HX.o.lt;have hyl:=HXP.o.lt;go_wp2_with fail
   clear hc0 hc1 x0 x1 y0 y1 hxl hyl HXP;generalize wr.alloc (.cells #[.slice p.A p.ps.length p.c,.slice p.Y p.ys.length p.yc] 26)=w4 at *;refine(joinObjects_any o p w4 HO.o.rd HRP.o HFO.o HFP.o HNO.o HNP.o).mono ?_;rintro e w5 ⟨q,rfl,b5,hq5⟩;have HQ5:=h_ hq5;have hw45:=HB.o.size;have HXO:=h_ HX.o.lt;replace HB:=c_ HB b5;replace HRR:=h_ (HRR.o.call b5);replace HX:=h_ (HX.o.call b5);replace HO:=h_ (HO.o.call b5);generalize hjd:joinD o.d p.d=r at *;have B6:Below w5.heap.size w5 (w5.alloc (.cells #[.slice q.A q.ps.length q.c,.slice q.Y q.ys.length q.yc] 26)):=b_;have HXQ:=h_ (Box.new w5 26 #[.slice q.A q.ps.length q.c,.slice q.Y q.ys.length q.yc]);have HRQ:=h_ (λd (hd:r=some d)=>And.intro (HQ5.o d hd).1 (((HQ5.o d hd).2.down hw45).call B6));have HQN:=h_ (λd (hd:r=some d) k (hk:oblk q k)=>(show w4.heap.size<=k from((HQ5.o d hd).2.lt k hk).1));have hs6:=B6.size;replace HB:=c_ HB B6;replace HRR:=h_ (HRR.o.call B6);replace HX:=h_ (HX.o.call B6);replace HO:=h_ (HO.o.call B6);clear B6;clear hq5 HQ5 b5 HRP HFP HNP HFO HNO;cases r with
   |none=>
    have HN9:=h_ (show joinAll (os.map OV.d)=none from by rw[HV2.o,Option.bind_none]);clear hjd HRQ HQN HV2;simp only[Option.isSome];have y0:=d_ HRR.o 0;have y1:=d_ HRR.o 1;have yf0:=HRR.o.frozen 0;have yf1:=HRR.o.frozen 1;have hrl:=HRR.o.lt;obtain⟨k0,k1⟩:=cells2 (u:=.slice none 0 0) (v:=.slice none 0 0) HRR.o;have HFB:=h_ (below2 HB.o (Nat.le_refl _) (.slice none 0 0) (.slice none 0 0));go_wp2_with fail
    (try simp only[Exit.inBlock,Exit.then])
    exact bodyPost_ret (v:=.tuple #[.agg #[.slice none 0 0,.slice none 0 0],.bool false]) (by simp[results,Tryz.results46,go_sem,k0,k1]) rfl (by rw[HN9.o];exact ret_nilO HFB.o)
   |some d=>
    obtain⟨rfl,hoq⟩:=HRQ.o d rfl;have HOQ:=h_ hoq;have HKQ:=h_ (joinD_ok hjd);have HNV:=h_ (show joinAll (os.map OV.d)=joins q.d ((os.map OV.d).drop (k+1+1))from by rw[HV2.o,Option.bind_some]);have HXO3:=h_ (show ∀k,oblk q k->k≠O from λk hk e=>by
     have h1:=HQN.o _ rfl k hk;have h2:=HXO.o;omega)
    clear hjd HRQ HQN HV2;simp only[Option.isSome];have z0:=d_ HXQ.o 0;have z1:=d_ HXQ.o 1;have hzl:=HXQ.o.lt;have x0:=d_ HX.o 0;have x1:=d_ HX.o 1;have xf0:=HX.o.frozen 0;have xf1:=HX.o.frozen 1;have hxl:=HX.o.lt;have HRO2:=h_ HRw.o;have HO9:=h_ (own2 HOQ.o HXO3.o (.slice q.A q.ps.length q.c) (.slice q.Y q.ys.length q.yc));have HX9:=h_ ((HX.o.set 0 (.slice q.A q.ps.length q.c)).set 1 (.slice q.Y q.ys.length q.yc));have HR9:=h_ ((HRR.o.far (p:=⟨O,0,none⟩) (by show w.heap.size≠O;have:=HRw.o;omega) (.slice q.A q.ps.length q.c)).far (p:=⟨O,1,none⟩) (by show w.heap.size≠O;have:=HRw.o;omega) (.slice q.Y q.ys.length q.yc));have HB9:=h_ (below2 HB.o (Nat.le_of_lt HRw.o) (.slice q.A q.ps.length q.c) (.slice q.Y q.ys.length q.yc));clear HX HRR HB HXQ HOQ HO HXO3;go_wp2_with fail
    refine⟨⟨k+1,q,by omega,by go_num,HNV.o,HKQ.o,HO9.o,HX9.o,HR9.o,HB9.o⟩,by simp[intOf];omega⟩
  ·have hke:k+1=os.length:=by omega
   have HV1:=h_ (show joinAll (os.map OV.d)=some o.d from by
    rw[HV.o,hke,List.drop_of_length_le (by rw[List.length_map];exact Nat.le_refl _)]
    rfl)
   have hk2:k=os.length-1:=by omega
   clear hke HV;subst hk2;have x0:=d_ HX.o 0;have x1:=d_ HX.o 1;have hxl:=HX.o.lt;have y0:=d_ HRR.o 0;have y1:=d_ HRR.o 1;have yf0:=HRR.o.frozen 0;have yf1:=HRR.o.frozen 1;have hrl:=HRR.o.lt;obtain⟨k0,k1⟩:=cells2 (u:=.slice o.A o.ps.length o.c) (v:=.slice o.Y o.ys.length o.yc) HRR.o;have HFIN:=h_ (ret_ok (R:=w.heap.size) HO.o HB.o (HO.o.ne_box HRR.o (by decide) (by decide) (by decide) (by decide)) (Nat.le_refl _));go_wp2_with fail
   (try simp only[Exit.inBlock,Exit.then])
   exact bodyPost_ret (v:=.tuple #[.agg #[.slice o.A o.ps.length o.c,.slice o.Y o.ys.length o.yc],.bool true]) (by simp[results,Tryz.results46,go_sem,k0,k1]) rfl (by rw[HV1.o];exact HFIN.o)
end CJoinAI
/- A slice that is made,in a region that draws its order; a box far from a store. -/
namespace BMake
open Kit CFixups CSymbols PObj BObj
theorem step_make{P:Program}{ops:Array Oper}{o:Oper}{a:Act}{K:Act->World->Prop}{Q:Exit->Act->World->Prop}{E:Prop}{w:World}
  (hg:o.guard=none)(l c:Operand)(t:TypeId)(hop:o.op=Op.makeSlice t l c)
  (base:Nat)(e:TypeId)(i:TypeInfo)(z:Value)(size:Nat)(h1:P.underlying t=some (.slice e))(h2:P.info? e=some i)(h3:i.zero=some z)(h4:i.size=size)
  (kl kc:IntKind)(L C:Int)(n:Nat)(hl:a.eval l=.int kl L)(hc:a.eval c=.int kc C)(hL:L=(n:Int))(hC:C=(n:Int))(b2:i.bytes*n<=281474976710656)(b3:n<=maxLen)(b4:base<=w.heap.size)
  (hK:∀w',w'.ownsRow base e size (.slice (some ⟨w.heap.size,0,none⟩) n n) n (madeCells z.cells (n*size)).toList->w.grownBy w' none->K (a.put o.dst (.slice (some ⟨w.heap.size,0,none⟩) n n)) w'):
  if Region.wanted o (yielded ops a.tmps)=true then Oper.wp P o a w K Q else E:=by
 have hw:Region.wanted o (yielded ops a.tmps)=true:=by simp[Region.wanted,hg]
 rw[if_pos hw];obtain⟨w',hrun,r1,r2⟩:=run_make_full (P:=P) w base t e i z size h1 h2 h3 h4 kl kc n b2 b3 b4;subst hL;subst hC;unfold Oper.wp;simp[execOp,hop,hl,hc,hrun,Result.andThen];exact hK _ r1 r2
theorem box_setFar{w:World}{X g i:Nat}{t:TypeId}{cs:Array Value}{u:Value}(h:Box w X t cs)(hne:X≠g):Box (w.setCell ⟨g,i,none⟩ u) X t cs:=(Below.heap_setCell w ⟨g,i,none⟩ u X hne).trans h
end BMake
/- A layout in memory while it is laid out: the places,where the kinds end. -/
namespace BLay
open Kit CFixups CSymbols PObj BObj CMarkRows BStore BList PLink
structure LI(w0:World)(X:Nat)(A:Option Addr)(c:Nat)(rs:List RV)(E:Option Addr)(ec:Nat)(es:List RV)(w:World):Prop where
 hrs:OwnRs w w0.heap.size A c rs
 hes:OwnRs w w0.heap.size E ec es
 out:Apart A c E ec
 inn:∀p∈rs,∀q∈es,Apart p.A p.c q.A q.c
 x:Box w X 84 #[.slice A rs.length c,.slice E es.length ec]
 r:Box w w0.heap.size 84 #[.slice none 0 0,.slice none 0 0]
 b:Below w0.heap.size w0 w
 xr:w0.heap.size<X
theorem map_setP(rs:List RV)(k i:Nat)(v:Int)(hk:k<rs.length):(rs.set k {rs[k]with zs:=rs[k].zs.set i v}).map RV.zs=setP (rs.map RV.zs) k i v:=by
 unfold setP;rw[List.map_set,List.getD_eq_getElem?_getD,List.getElem?_map,List.getElem?_eq_getElem hk]
 rfl
section
variable {w0 w w':World}{X:Nat}{A E:Option Addr}{c ec:Nat}{rs es:List RV}
theorem LI.call (h:LI w0 X A c rs E ec es w)(hb:Below w.heap.size w w'):LI w0 X A c rs E ec es w':=
 ⟨h.hrs.call hb,h.hes.call hb,h.out,h.inn,h.x.call hb,h.r.call hb,h.b.trans (hb.mono h.b.size),h.xr⟩
theorem LI.put (h:LI w0 X A c rs E ec es w){k:Nat}(hk:k<rs.length){i:Nat}(hi:i<rs[k].zs.length)(v:Int):
  ∃g,rs[k].A=some ⟨g,0,none⟩/\g<w.heap.size/\(∀(Y:Nat) (t:TypeId) (cs:Array Value),Box w Y t cs->3≠t->Y≠g)/\(w.frozen? ⟨g,i,none⟩=false)/\(∃u,w.cell? ⟨g,i,none⟩=some (.int .i64 u))/\LI w0 X A c (rs.set k {rs[k]with zs:=rs[k].zs.set i v}) E ec es (w.setCell ⟨g,i,none⟩ (.int .i64 v)):=by
 obtain⟨g,hA,hb1,hb2,hbk,⟨cs,hbox⟩,hf,hu,hown⟩:=h.hrs.put hk hi v;have hq:=h.hrs.2.1 rs[k] (List.getElem_mem hk);refine⟨g,hA,hb2,(λY t cs hY ht e=>hq.box hY ht g hbk e.symm),hf,hu,hown,?_,h.out,?_,?_,?_,?_,h.xr⟩
 ·refine h.hes.keep λj _ _ hj=>Below.heap_setCell w ⟨g,i,none⟩ _ j ?_;rintro rfl;rcases hj with hj|⟨q,hq2,hj⟩
  ·exact apartT h.hes.1 hq (by decide) _ hj hbk
  ·exact h.inn _ (List.getElem_mem hk) q hq2 _ hbk hj
 ·intro p hp q hq2;obtain⟨j,hj,rfl⟩:=List.getElem_of_mem hp;rw[List.length_set]at hj;rw[List.getElem_set];by_cases hkj:k=j
  ·subst hkj;rw[if_pos rfl];exact h.inn _ (List.getElem_mem hk) q hq2
  ·rw[if_neg hkj];exact h.inn _ (List.getElem_mem hj) q hq2
 ·have hx:=BMake.box_setFar (g:=g) (i:=i) (u:=.int .i64 v) h.x (λe=>hq.box h.x (by decide) g hbk e.symm);rw[List.length_set];exact hx
 ·exact BMake.box_setFar (g:=g) (i:=i) (u:=.int .i64 v) h.r (λe=>hq.box h.r (by decide) g hbk e.symm)
 ·exact h.b.setCell (p:=⟨g,i,none⟩) hb1 _
theorem LI.snoc (h:LI w0 X A c rs E ec es w){q:RV}(hq:RwR w w0.heap.size q){N:Nat}(hold:∀p∈es,∀k,blk p.A p.c=some k->k<N)(holdr:∀p∈rs,∀k,blk p.A p.c=some k->k<N)(hnew:∀k,blk q.A q.c=some k->N<=k)
  {E':Option Addr}{n' c':Nat}(hn:n'=es.length+1)(row:Row w' w0.heap.size 89 1 E' n' c' (cellsOf rowC es++rowC q))(g:w.grownBy w' (blk E ec))(hk:∀k,blk E' c'=some k->blk E ec=some k\/w.heap.size<=k):
  LI w0 X A c rs E' c' (es++[q]) (w'.setCell ⟨X,1,none⟩ (.slice E' n' c')):=by
 have hes:=OwnRs.snoc h.hes hq hold hnew hn row g;have hx:=h.x.grown g (h.hes.1.box h.x (by decide));have hr:=h.r.grown g (h.hes.1.box h.r (by decide));have hrs:OwnRs w' w0.heap.size A c rs:=⟨h.hrs.1.grown g (λj hj e=>h.out j hj e),λp hp=>(h.hrs.2.1 p hp).grown g (λj hj=>apartT (h.hrs.2.1 p hp) h.hes.1 (by decide) j hj),h.hrs.2.2⟩;have hb:=h.b.grown g h.b.size (λj hj=>(h.hes.1.lt j hj).1);have hX:=h.xr;refine⟨hrs.set hx (by decide) (by decide) 1 _,hes.set hx (by decide) (by decide) 1 _,?_,?_,?_,BMake.box_setFar hr (by omega),hb.setCell (p:=⟨X,1,none⟩) (show w0.heap.size<=X by omega) _,h.xr⟩
 ·intro j h1 h2;rcases hk j h2 with h3|h3
  ·exact h.out j h1 h3
  ·have:=(h.hrs.1.lt j h1).2;omega
 ·intro p hp q' hq';rcases List.mem_append.1 hq' with hq'|hq'
  ·exact h.inn p hp q' hq'
  ·have e:=List.mem_singleton.1 hq';subst e;intro j h1 h2;have e1:=holdr p hp j h1;have e2:=hnew j h2;omega
 ·subst hn;have:=hx.set 1 (.slice E' (es.length+1) c');rw[List.length_append];exact this
end
end BLay
/- layoutOf: where the sections of objects lie. -/
namespace CLayout
open Kit CCode CName CFixups CSymbols PObj BObj PValid CSecValid CObjValid BStore CMarkRows BMake BList PLink CValids BLay
theorem infoR:(Tryz.prog.info? 89).map (λi=>(i.zero,i.size,i.bytes))=some (some (.slice none 0 0),1,24):=by kernel_rfl
theorem rdRs_nil(w:World)(B:Nat)(A:Option Addr):RdRs w B A []:=⟨Rd.nil _,λr hr=>by cases hr⟩
def LayV(l:List OD)(base:Int)(w:World)(e:Ending)(w':World):Prop:=
 ∃A c rs E ec es,e=.returned (.tuple #[.agg #[.slice A (rs:List RV).length c,.slice E (es:List RV).length ec],.bool (objsOk l&&baseOk base)])/\((objsOk l&&baseOk base)=true->rs.map RV.zs=(lay l base).2/\es.length=3/\∃x,(es.map RV.zs).getD 2 []=[x,(lay l base).1])/\RdRs w' w'.heap.size A rs/\RdRs w' w'.heap.size E es/\Below w.heap.size w w'
theorem lay_bad{l:List OD}{base:Int}{w w':World}(h:(objsOk l&&baseOk base)=false)(hb:Below w.heap.size w w'):LayV l base w (.returned (.tuple #[.agg #[.slice none 0 0,.slice none 0 0],.bool false])) w':=
 ⟨none,0,[],none,0,[],by rw[h];rfl,(λh'=>by rw[h]at h';cases h'),rdRs_nil _ _ _,rdRs_nil _ _ _,hb⟩
theorem sec_size{many:Int}{d:SD}(h:secOk many d=true):(0<=secSize d/\secSize d<=48)/\alignOk d.al=true/\1<=d.kd/\d.kd<=3:=by
 rw[secOk,Bool.and_eq_true]at h;obtain⟨h1,h2⟩:=h;simp only[headOk,Bool.and_eq_true,inB,decide_eq_true_eq]at h1;refine⟨?_,h1.2,h1.1.2.1,h1.1.2.2⟩;unfold secSize;by_cases hk:d.kd=3
 ·rw[if_pos hk]at h2 ⊢;simp only[blankOk,Bool.and_eq_true,inB,decide_eq_true_eq]at h2;exact h2.1.1
 ·rw[if_neg hk]at h2 ⊢;simp only[bodyOk,Bool.and_eq_true,decide_eq_true_eq]at h2;omega
def Shp(l:List OD)(P:List (List Int)):Prop:=P.map List.length=l.map λd=>d.ss.length
theorem shp_set{l:List OD}{P:List (List Int)}(h:Shp l P)(k i:Nat)(v:Int):Shp l (setP P k i v):=by
 unfold Shp at *;rw[<-h];unfold setP;refine List.ext_getElem? λj=>?_;rw[List.getElem?_map,List.getElem?_map,List.getElem?_set];by_cases hkj:k=j
 ·subst hkj;rw[if_pos rfl];by_cases hk:k<P.length
  ·rw[if_pos hk,List.getD_eq_getElem?_getD,List.getElem?_eq_getElem hk];simp
  ·rw[if_neg hk,List.getElem?_eq_none (by omega)]
 ·rw[if_neg hkj]
theorem shp_at{l:List OD}{P:List (List Int)}(h:Shp l P){k:Nat}(hk:k<l.length):∃hp:k<P.length,P[k].length=l[k].ss.length:=by
 have hl:P.length=l.length:=by simpa using congrArg List.length h
 refine⟨by omega,?_⟩;have h2:(P.map List.length)[k]?=(l.map λd=>d.ss.length)[k]?:=by rw[h]
 rw[List.getElem?_map,List.getElem?_map,List.getElem?_eq_getElem hk,List.getElem?_eq_getElem (by omega)]at h2;simpa using h2
theorem shp_zero(l:List OD):Shp l (zeroP l):=by unfold Shp zeroP;rw[List.map_map];exact List.map_congr_left λd _=>List.length_replicate
def kindsS(l:List OD)(ks:List Int)(st:St):St:=ks.foldl (λst kd=>kindS l kd st) st
theorem kinds_drop(l:List OD){j:Nat}(hj:j<3)(st:St):kindsS l (([1,2,3]:List Int).drop j) st=kindsS l (([1,2,3]:List Int).drop (j+1)) (foldO (j+1) 0 l (al st.1 8,st.2)):=by
 have h:j=0\/j=1\/j=2:=by omega
 rcases h with rfl|rfl|rfl<;>rfl
theorem step_bd{kd a:Int}{k i:Nat}{s:SD}{P:List (List Int)}(h1:0<=secSize s/\secSize s<=48)(h2:alignOk s.al=true)(h0:0<=a):0<=(stepS kd k i s (a,P)).1/\(stepS kd k i s (a,P)).1<=a+60:=by
 obtain⟨e1,e2⟩:=al_bd h0 h2;unfold stepS;by_cases hk:s.kd=kd
 ·rw[decide_eq_true hk];simp only[cond_true];omega
 ·rw[decide_eq_false hk];simp only[cond_false];omega
set_option maxHeartbeats 4000000 in
theorem layoutOf_any(A:Option Addr)(os:List OV)(c:Nat)(base:Int)(w:World)(hr:RdOs w w.heap.size A os)(hf:Fits os):
  Calls Tryz.prog 52 #[.slice A os.length c,.int .i64 base] w (LayV (os.map OV.d) base w):=by
 obtain⟨i0,hi1,hi2,hi3,hi4⟩:=info_parts infoR;have HI:=h_ (And.intro hi1 (And.intro hi2 (And.intro hi3 hi4)));clear hi1 hi2 hi3 hi4;obtain⟨j0,hj1,hj2,hj3,hj4⟩:=info_parts CInts.info64;have HJ:=h_ (And.intro hj1 (And.intro hj2 (And.intro hj3 hj4)));clear hj1 hj2 hj3 hj4;have HR:=h_ hr;have HF:=h_ hf;clear hr hf;have HB:=h_ (show Below w.heap.size w (w.alloc (.cells #[.slice none 0 0,.slice none 0 0] 84))from b_);have HRR:=h_ (Box.new w 84 #[.slice none 0 0,.slice none 0 0]);go_enter Tryz.func52,Tryz.ntmps52
 go_wp2_with fail
 generalize w.alloc (.cells #[.slice none 0 0,.slice none 0 0] 84)=w0 at *;refine(objectsValid_any A os c w0 ((HR.o.below HB.o).more HB.o.size) HF.o).mono ?_;rintro e w1 ⟨rfl,b1⟩;replace HB:=c_ HB b1;replace HRR:=h_ (HRR.o.call b1);clear b1;have HL:=h_ (λ(w9:World)=>@lay_bad (os.map OV.d) base w w9);cases hok:objsOk (os.map OV.d)
 ·have HV:=h_ (show(objsOk (os.map OV.d)&&baseOk base)=false by rw[hok];rfl);clear hok;have y0:=d_ HRR.o 0;have y1:=d_ HRR.o 1;have yf0:=HRR.o.frozen 0;have yf1:=HRR.o.frozen 1;have hrl:=HRR.o.lt;have kk:=(HRR.o.set 0 (.slice none 0 0)).set 1 (.slice none 0 0);have k0:=kk.cell 0;have k1:=kk.cell 1;simp only[k_]at k0 k1;clear kk;have HFB:=h_ (two_below (Y:=w.heap.size) HB.o (Nat.le_refl _) (.slice none 0 0) (.slice none 0 0));go_wp2_with fail
  (try simp only[Exit.inBlock,Exit.then])
  exact bodyPost_ret (v:=.tuple #[.agg #[.slice none 0 0,.slice none 0 0],.bool false]) (by simp[results,Tryz.results52,go_sem,k0,k1]) rfl (HL.o _ HV.o HFB.o)
 go_wp2_with fail
 refine(isBase_any base w1).mono ?_;rintro e w' ⟨rfl,rfl⟩;cases hbs:baseOk base
 ·have HV:=h_ (show(objsOk (os.map OV.d)&&baseOk base)=false by rw[hok,hbs];rfl);clear hok hbs;have y0:=d_ HRR.o 0;have y1:=d_ HRR.o 1;have yf0:=HRR.o.frozen 0;have yf1:=HRR.o.frozen 1;have hrl:=HRR.o.lt;have kk:=(HRR.o.set 0 (.slice none 0 0)).set 1 (.slice none 0 0);have k0:=kk.cell 0;have k1:=kk.cell 1;simp only[k_]at k0 k1;clear kk;have HFB:=h_ (two_below (Y:=w.heap.size) HB.o (Nat.le_refl _) (.slice none 0 0) (.slice none 0 0));go_wp2_with fail
  (try simp only[Exit.inBlock,Exit.then])
  exact bodyPost_ret (v:=.tuple #[.agg #[.slice none 0 0,.slice none 0 0],.bool false]) (by simp[results,Tryz.results52,go_sem,k0,k1]) rfl (HL.o _ HV.o HFB.o)
 clear HL;have HV:=h_ (show(objsOk (os.map OV.d)&&baseOk base)=true by rw[hok,hbs];rfl);have hb0:0<=base/\base<=4096:=by simp only[baseOk,Bool.and_eq_true,decide_eq_true_eq]at hbs;exact hbs.1
 obtain⟨hb1,hb2⟩:=hb0;have hol:os.length<=4:=by simp only[objsOk,Bool.and_eq_true,decide_eq_true_eq,List.length_map]at hok;exact hok.1
 have HALL:=h_ (show ∀o∈os,o.ps.length<=8/\∀p∈o.ps,(0<=secSize p.d/\secSize p.d<=48)/\alignOk p.d.al=true from λo ho=>by
  simp only[objsOk,Bool.and_eq_true,List.all_eq_true]at hok;have h:=hok.2 _ (List.mem_map_of_mem ho);simp only[objOk,Bool.and_eq_true,decide_eq_true_eq,List.all_eq_true]at h;refine⟨by simpa[OV.d]using h.1.1.1,λp hp=>?_⟩;have hs:=sec_size (h.1.2 p.d (List.mem_map_of_mem hp));exact⟨hs.1,hs.2.1⟩)
 clear hok hbs;go_wp2_with fail
 have B2:Below w1.heap.size w1 (w1.alloc (.cells #[.slice none 0 0,.slice none 0 0] 84)):=b_;have HX:=h_ (Box.new w1 84 #[.slice none 0 0,.slice none 0 0]);have hRX:w.heap.size<w1.heap.size:=HRR.o.lt;replace HB:=c_ HB B2;replace HRR:=h_ (HRR.o.call B2);clear B2;generalize w1.alloc (.cells #[.slice none 0 0,.slice none 0 0] 84)=w2 at *;generalize w1.heap.size=X at *;go_loopw [29] (λi wi=>∃(k:Nat) (A1:Option Addr) (c1:Nat) (rs:List RV),k<=os.length/\i=.int .i64 k/\rs.length=k/\rs.map RV.zs=(zeroP (os.map OV.d)).take k/\OwnRs wi w.heap.size A1 c1 rs/\Box wi X 84 #[.slice A1 k c1,.slice none 0 0]/\Box wi w.heap.size 84 #[.slice none 0 0,.slice none 0 0]/\Below w.heap.size w wi) (λi _=>os.length-(intOf i).toNat)
 case atStart=>exact⟨0,none,0,[],Nat.zero_le _,rfl,rfl,rfl,⟨Row.empty _ _ _ _ _,(λp hp=>by cases hp),List.Pairwise.nil⟩,HX.o,HRR.o,HB.o⟩
 case round=>
  clear HX HRR HB;obtain⟨k,A1,c1,rs,hk,rfl,hrl,hrz,hown,hx,hrr,hb⟩:=hrel;have HX:=h_ hx;have HRR:=h_ hrr;have HB:=h_ hb;have HRS:=h_ hown;have HRZ:=h_ hrz;clear hrz hown hx hrr;subst hrl;by_cases hlt:rs.length<os.length
  ·obtain⟨bb,off,hA,hbb,hc0,hc1⟩:=(HR.o.below hb).at hlt;have HZN:=h_ (show(zeroP (os.map OV.d)).take (rs.length+1)=(zeroP (os.map OV.d)).take rs.length++[List.replicate os[rs.length].ps.length 0]from by
    rw[take_succ (by simpa[zeroP]using hlt)];simp[zeroP,OV.d])
   have hpl:=(HALL.o _ (List.getElem_mem hlt)).1;clear hb;subst hA;generalize os[rs.length]=o at *;have x0:=d_ HX.o 0;have hxl:=HX.o.lt;go_wp2_with fail
   have B1:Below wr.heap.size wr (wr.alloc (.cells #[.slice o.A o.ps.length o.c,.slice o.Y o.ys.length o.yc] 26)):=b_;have HO:=h_ (Box.new wr 26 #[.slice o.A o.ps.length o.c,.slice o.Y o.ys.length o.yc]);replace HB:=c_ HB B1;replace HX:=h_ (HX.o.call B1);replace HRR:=h_ (HRR.o.call B1);replace HRS:=h_ (HRS.o.call B1);clear B1;have hXO:X<wr.heap.size:=hxl;generalize wr.alloc (.cells #[.slice o.A o.ps.length o.c,.slice o.Y o.ys.length o.yc] 26)=wa at *;generalize wr.heap.size=Z at *;clear hc0 hc1 x0 hxl;have x0:=d_ HX.o 0;have y0:=d_ HO.o 0;have hZw:=HO.o.lt;have hWB:=HB.o.size;have Z0:wa.cell? ⟨X,0,none⟩=some (.slice A1 rs.length c1)/\wa.cell? ⟨Z,0,none⟩=some (.slice o.A o.ps.length o.c):=⟨x0,y0⟩;refine Reg.startT (λW=>W.cell? ⟨X,0,none⟩=some (.slice A1 rs.length c1)/\W.cell? ⟨Z,0,none⟩=some (.slice o.A o.ps.length o.c)) (λj=>j==9) (by kernel_rfl) ?_;have hHeld:wa.drew.cell? ⟨X,0,none⟩=some (.slice A1 rs.length c1)/\wa.drew.cell? ⟨Z,0,none⟩=some (.slice o.A o.ps.length o.c):=Z0;clear Z0 x0 y0;refine t_ 0 rfl ?_;refine t_ 1 rfl ?_;refine t_ 2 rfl ?_;refine t_ 3 rfl ?_;refine t_ 4 rfl ?_;have bd:Below wa.heap.size wa wa.drew:=below_dr (Below.refl _ _);replace HB:=c_ HB bd;replace HX:=h_ (HX.o.call bd);replace HRR:=h_ (HRR.o.call bd);replace HRS:=h_ (HRS.o.call bd);replace HO:=h_ (HO.o.call bd);clear bd;generalize wa.drew=wd at *;clear hZw hWB;have hZw:=HO.o.lt;refine Reg.oneT (i:=5) rfl (by kernel_rfl) (λK hK=>?_);refine step_make rfl _ _ _ rfl w.heap.size 3 j0 (.int .i64 0) 1 Tryz.underlying89 HJ.o.1 HJ.o.2.1 HJ.o.2.2.1 .i64 .i64 _ _ o.ps.length rfl rfl rfl rfl (by rw[HJ.o.2.2.2];omega) (by unfold maxLen;omega) HB.o.size ?_;intro w5 r1 r2;have b5:Below wd.heap.size wd w5:=below_grown (Below.refl _ _) r2 (Nat.le_refl _) (λk hk=>by cases hk);have hXd:X<wd.heap.size:=HX.o.lt;replace hHeld:w5.cell? ⟨X,0,none⟩=some (.slice A1 rs.length c1)/\w5.cell? ⟨Z,0,none⟩=some (.slice o.A o.ps.length o.c):=⟨(b5.cell (p:=⟨X,0,none⟩) hXd).trans hHeld.1,(b5.cell (p:=⟨Z,0,none⟩) hZw).trans hHeld.2⟩;refine hK.out _ _ hHeld ?_;clear hK K;try simp only[y1_,y2_,y3_,Act.put,y4_,y5_,y6_]
   have HNW:=h_ (show RwR w5 w.heap.size ⟨some ⟨wd.heap.size,0,none⟩,o.ps.length,List.replicate o.ps.length 0⟩from by
    rw[zero_cells]at r1;refine .inr ?_;simpa using r1)
   have HOLD:=h_ (HRS.o.lt);have hlow:w.heap.size<=wd.heap.size:=HB.o.size;clear r1 r2;replace HB:=c_ HB b5;replace HX:=h_ (HX.o.call b5);replace HRR:=h_ (HRR.o.call b5);replace HRS:=h_ (HRS.o.call b5);replace HO:=h_ (HO.o.call b5);clear b5;generalize wd.heap.size=M at *;refine Reg.oneT (i:=6) rfl (by kernel_rfl) (λK hK=>?_);go_simp
   have b6:Below w5.heap.size w5 (w5.alloc (.cells #[.slice (some ⟨M,0,none⟩) o.ps.length o.ps.length] 89)):=b_;have hXd:=HX.o.lt;have hZw:=HO.o.lt;replace hHeld:=And.intro ((b6.cell (p:=⟨X,0,none⟩) hXd).trans hHeld.1) ((b6.cell (p:=⟨Z,0,none⟩) hZw).trans hHeld.2);refine hK.out _ _ hHeld ?_;clear hK K;try simp only[y1_,y2_,y3_,Act.put,y4_,y5_,y6_]
   have HLIT:=h_ (rd_lit w5 #[.slice (some ⟨M,0,none⟩) o.ps.length o.ps.length] 89 _ rfl);replace HNW:=h_ (show RwR (w5.alloc (.cells #[.slice (some ⟨M,0,none⟩) o.ps.length o.ps.length] 89)) w.heap.size ⟨some ⟨M,0,none⟩,o.ps.length,List.replicate o.ps.length 0⟩from HNW.o.call b6);replace HB:=c_ HB b6;replace HX:=h_ (HX.o.call b6);replace HRR:=h_ (HRR.o.call b6);replace HRS:=h_ (HRS.o.call b6);replace HO:=h_ (HO.o.call b6);clear b6;generalize w5.alloc (.cells #[.slice (some ⟨M,0,none⟩) o.ps.length o.ps.length] 89)=w6 at *;generalize w5.heap.size=L at *;have HOWN:=h_ HRS.o;refine Reg.oneT (i:=7) rfl (by kernel_rfl) (λK hK=>?_);refine step_app (by rfl) _ _ 82 rfl 89 i0 (.slice none 0 0) 1 24 Tryz.underlying82 HI.o.1 HI.o.2.1 HI.o.2.2.1 HI.o.2.2.2 rfl (by decide) w.heap.size A1 rs.length c1 (cellsOf rowC rs) (by rfl) HRS.o.1 HB.o.size (some ⟨L,0,none⟩) 1 1 [.slice (some ⟨M,0,none⟩) o.ps.length o.ps.length] (by rfl) HLIT.o rfl (λh=>by cases h) ?o1 (by unfold maxLen;omega) (by omega) ?_
   case o1=>
    intro u hu;obtain rfl:=List.mem_singleton.1 hu
    rfl
   intro A2 n2 c2 w7 hn o7 g7 k7;have HNEW:=h_ (OwnRs.snoc (N:=M) HRS.o (q:=⟨some ⟨M,0,none⟩,o.ps.length,List.replicate o.ps.length 0⟩) HNW.o HOLD.o (λk hk=>by
    unfold blk at hk;split at hk
    ·cases hk
    ·injection hk with hk;exact Nat.le_of_eq hk) hn (by simpa[rowC]using o7) g7)
   replace HX:=h_ (HX.o.grown g7 (HRS.o.1.box HX.o (by decide)));replace HRR:=h_ (HRR.o.grown g7 (HRS.o.1.box HRR.o (by decide)));replace HO:=h_ (HO.o.grown g7 (HRS.o.1.box HO.o (by decide)));replace HB:=h_ (HB.o.grown g7 HB.o.size (λj hj=>(HRS.o.1.lt j hj).1));clear o7 g7 k7 HRS HOWN HLIT hHeld HNW;refine hK.out _ _ ⟨HX.o.cell 0,HO.o.cell 0⟩ ?_;clear hK K;try simp only[y1_,y2_,y3_,Act.put,y4_,y5_,y6_]
   have hHeld:w7.cell? ⟨X,0,none⟩=some (.slice A1 rs.length c1)/\w7.cell? ⟨Z,0,none⟩=some (.slice o.A o.ps.length o.c):=⟨HX.o.cell 0,HO.o.cell 0⟩;refine t_ 8 rfl ?_;clear hHeld;have x0:=d_ HX.o 0;have xf0:=HX.o.frozen 0;have hxl:=HX.o.lt;refine Reg.lastT (i:=9) rfl (by kernel_rfl) (by rfl) (λK hK=>?_);go_simp
   refine hK.out _ _ ?_;clear hK K;try simp only[y1_,y2_,y3_,Act.put,y4_,y5_,y6_]
   have HNE2:=h_ (HNEW.o.set HX.o (by decide) (by decide) 0 (.slice A2 n2 c2));have HXE:=h_ (HX.o.set 0 (.slice A2 n2 c2));have HRE:=h_ (show Box (w7.setCell ⟨X,0,none⟩ (.slice A2 n2 c2)) w.heap.size 84 #[.slice none 0 0,.slice none 0 0]from BMake.box_setFar HRR.o (by omega));have HBE:=h_ (HB.o.setCell (p:=⟨X,0,none⟩) (show w.heap.size<=X by omega) (.slice A2 n2 c2));clear HNEW HX HRR HB x0 xf0 hxl HO;subst hn;refine Reg.doneT (by kernel_rfl) ?_ _;go_wp2_with fail
   refine⟨⟨rs.length+1,A2,c2,rs++[⟨some ⟨M,0,none⟩,o.ps.length,List.replicate o.ps.length 0⟩],by omega,by go_num,by simp,by rw[HZN.o,List.map_append,HRZ.o];rfl,HNE2.o,HXE.o,HRE.o,HBE.o⟩,by simp[intOf];omega⟩
  ·have hrl:rs.length=os.length:=by omega
   have hrz:rs.map RV.zs=zeroP (os.map OV.d):=by rw[HRZ.o,hrl,List.take_of_length_le (by simp[zeroP])]
   have HLI:=h_ (show LI w X A1 c1 rs none 0 [] wr from⟨HRS.o,⟨Row.empty _ _ _ _ _,(λp hp=>by cases hp),List.Pairwise.nil⟩,(λk h1 h2=>by cases h2),(λp hp q hq=>by cases hq),HX.o,HRR.o,HB.o,hRX⟩);have HSH:=h_ (show Shp (os.map OV.d) (rs.map RV.zs)from by rw[hrz];exact shp_zero _);have HLAY:=h_ (show lay (os.map OV.d) base=kindsS (os.map OV.d) (([1,2,3]:List Int).drop 0) (base,rs.map RV.zs)from by rw[hrz];rfl);clear HRS HX HRR HB HRZ hrz hlt hb;rw[hrl];clear hrl hk;generalize hLL:os.map OV.d=l at *;have HLL:=h_ hLL;clear hLL;go_wp2_with fail
   go_loopw [10,7] (λkd at_ wi=>∃(j:Nat) (a:Int) (rs:List RV) (E:Option Addr) (ec:Nat) (es:List RV),j<=3/\kd=.int .i64 ((j:Int)+1)/\at_=.int .i64 a/\lay l base=kindsS l (([1,2,3]:List Int).drop j) (a,rs.map RV.zs)/\Shp l (rs.map RV.zs)/\0<=a/\a<=4096+2000*j/\es.length=j/\(j=0\/∃x,(es.map RV.zs).getD (j-1) []=[x,a])/\LI w X A1 c1 rs E ec es wi) (λkd _ _=>4-(intOf kd).toNat)
   case atStart=>exact⟨0,base,rs,none,0,[],Nat.zero_le _,rfl,rfl,HLAY.o,HSH.o,hb1,by omega,rfl,.inl rfl,HLI.o⟩
   case round=>
    clear HLAY HSH HLI;obtain⟨j,a,rs,E,ec,es,hj,rfl,rfl,hlay,hsh,ha0,ha1,hes,hend,hli⟩:=hrel;have HLI:=h_ hli;have HSH:=h_ hsh;have HEND:=h_ hend;have HES:=h_ hes;have hes3:es.length<=3:=by omega
    clear hsh hend hes;by_cases hj3:j<3
    ·have HLAY:=h_ (show lay l base=kindsS l (([1,2,3]:List Int).drop (j+1)) (foldO ((j:Int)+1) 0 l (al a 8,rs.map RV.zs))from hlay.trans (kinds_drop l hj3 _));have e3:decide ((j:Int)+1<=3)=true:=decide_eq_true (by omega);clear hlay hli;go_wp2_with fail
     refine(aligned_any a 8 wr ha0 (by omega) (by decide)).mono ?_;rintro e w' ⟨rfl,rfl⟩;obtain⟨g1,g2⟩:=al_bd ha0 (show alignOk 8=true by decide);generalize al a 8=b at *;generalize hT:foldO ((j:Int)+1) 0 l (b,rs.map RV.zs)=T at *;have HT:=h_ (show T=foldO ((j:Int)+1) 0 (l.drop 0) (b,rs.map RV.zs)from hT.symm);clear hT e3;go_wp2_with fail
     go_loopw [52,7] (λi at_ wi=>∃(k:Nat) (d:Int) (rs:List RV),k<=os.length/\i=.int .i64 k/\at_=.int .i64 d/\T=foldO ((j:Int)+1) k (l.drop k) (d,rs.map RV.zs)/\Shp l (rs.map RV.zs)/\0<=d/\d<=4104+2000*j+490*k/\LI w X A1 c1 rs E ec es wi) (λi _ _=>os.length-(intOf i).toNat)
     case atStart=>exact⟨0,b,rs,Nat.zero_le _,rfl,rfl,HT.o,HSH.o,by omega,by omega,HLI.o⟩
     case round=>
      clear HT HSH HLI;obtain⟨k,d,rs,hk,rfl,rfl,ht,hsh,hd0,hd1,hli⟩:=hrel;have HLI:=h_ hli;have HSH:=h_ hsh;by_cases hlt:k<os.length
      ·obtain⟨bb,off,hA,hbb,hc0,hc1⟩:=(HR.o.below hli.b).at hlt;have hll:k<l.length:=by rw[<-HLL.o,List.length_map];exact hlt
       have HT:=h_ (ht.trans (foldO_drop hll k _));have HPS:=h_ (show l[k].ss=os[k].ps.map SV.d from by
        have:=HLL.o;subst this;simp[OV.d])
       have HSP:=h_ (show ∀P:List (List Int),Shp l P->∃hp:k<P.length,P[k].length=os[k].ps.length from λP hP=>by
        obtain⟨h1,h2⟩:=shp_at hP hll;refine⟨h1,?_⟩;rw[h2,HPS.o,List.length_map])
       have HAO:=h_ (HALL.o _ (List.getElem_mem hlt));have hpl:=HAO.o.1;have HRO:=h_ (HR.o.2 _ (List.getElem_mem hlt)).1;have HFO:=h_ (HF.o.o _ (List.getElem_mem hlt)).p;clear hli ht hsh;subst hA;rw[HPS.o]at HT;clear HPS;generalize os[k]=o at *;go_wp2_with fail
       have B1:Below wr.heap.size wr (wr.alloc (.cells #[.slice o.A o.ps.length o.c,.slice o.Y o.ys.length o.yc] 26)):=b_;have HO:=h_ (Box.new wr 26 #[.slice o.A o.ps.length o.c,.slice o.Y o.ys.length o.yc]);replace HLI:=h_ (HLI.o.call B1);clear B1;generalize wr.alloc (.cells #[.slice o.A o.ps.length o.c,.slice o.Y o.ys.length o.yc] 26)=wa at *;generalize wr.heap.size=Z at *;clear hc0 hc1;have y0:=d_ HO.o 0;have hol:=HO.o.lt;go_wp2_with fail
       clear y0 hol HO;generalize hU:foldS ((j:Int)+1) k 0 (o.ps.map SV.d) (d,rs.map RV.zs)=U at *;have HU:=h_ (show U=foldS ((j:Int)+1) k 0 ((o.ps.map SV.d).drop 0) (d,rs.map RV.zs)from hU.symm);clear hU;go_loopw [60,7] (λi at_ wi=>∃(m:Nat) (f:Int) (rs:List RV),m<=o.ps.length/\i=.int .i64 m/\at_=.int .i64 f/\U=foldS ((j:Int)+1) k m ((o.ps.map SV.d).drop m) (f,rs.map RV.zs)/\Shp l (rs.map RV.zs)/\0<=f/\f<=4104+2000*j+490*k+60*m/\LI w X A1 c1 rs E ec es wi) (λi _ _=>o.ps.length-(intOf i).toNat)
       case atStart=>exact⟨0,d,rs,Nat.zero_le _,rfl,rfl,HU.o,HSH.o,by omega,by omega,HLI.o⟩
       case round=>
        clear HU HSH HLI;obtain⟨m,f,rs,hm,rfl,rfl,hu,hsh,hf0,hf1,hli⟩:=hrel;have HLI:=h_ hli;have HSH:=h_ hsh;by_cases hlm:m<o.ps.length
        ·obtain⟨b2,off2,hPA,hb2,hc⟩:=(HRO.o.1.below hli.b).row secC_len (by decide) hlm;have hc0:=hc 0 _ rfl;have hc1:=hc 1 _ rfl;have hc2:=hc 2 _ rfl;have hc3:=hc 3 _ rfl;have hc4:=hc 4 _ rfl;have hc5:=hc 5 _ rfl;simp only[Nat.add_zero]at hc0;have HU:=h_ (hu.trans (foldS_drop (show m<(o.ps.map SV.d).length by simpa using hlm) m _));have HSZ:=h_ (HAO.o.2 _ (List.getElem_mem hlm));have hzl:=(HFO.o _ (List.getElem_mem hlm)).2.1;have HRS:=h_ (step_bd (kd:=(j:Int)+1) (k:=k) (i:=m) (P:=rs.map RV.zs) HSZ.o.1 HSZ.o.2 hf0);clear hli hu hc;rw[List.getElem_map]at HU;rw[hPA];clear hPA;generalize o.ps[m]=p at *;have B1:Below wr.heap.size wr (wr.alloc (.cells #[.string p.nm,.int .i64 p.kd,.int .i64 p.al,.slice p.A p.zs.length p.c,.int .i64 p.sz,.slice p.F p.fs.length p.fc] 61)):=b_;replace HLI:=h_ (HLI.o.call B1);have HS:=h_ (Box.new wr 61 #[.string p.nm,.int .i64 p.kd,.int .i64 p.al,.slice p.A p.zs.length p.c,.int .i64 p.sz,.slice p.F p.fs.length p.fc]);by_cases hkd:p.kd=(j:Int)+1
         ·have e1:(p.kd==(j:Int)+1)=true:=beq_iff_eq.2 hkd;have HKD:=h_ hkd;have HU2:=h_ (show U=foldS ((j:Int)+1) k (m+1) ((o.ps.map SV.d).drop (m+1)) (al f p.al+secSize p.d,setP (rs.map RV.zs) k m (al f p.al))from by
           rw[HU.o];unfold stepS;rw[show decide (p.d.kd=(j:Int)+1)=true from decide_eq_true hkd]
           rfl)
          clear hkd HU;go_wp2_with fail
          clear e1 hc0 hc1 hc2 hc3 hc4 hc5 B1;generalize wr.alloc (.cells #[.string p.nm,.int .i64 p.kd,.int .i64 p.al,.slice p.A p.zs.length p.c,.int .i64 p.sz,.slice p.F p.fs.length p.fc] 61)=wa at *;generalize wr.heap.size=S at *;refine(aligned_any f p.al wa hf0 (by omega) HSZ.o.2).mono ?_;rintro e w' ⟨rfl,rfl⟩;obtain⟨g1,g2⟩:=al_bd hf0 (show alignOk p.al=true from HSZ.o.2);obtain⟨q1,q2⟩:=HSZ.o.1;generalize al f p.al=v at *;obtain⟨hp1,hp2⟩:=HSP.o _ HSH.o;rw[List.length_map]at hp1;rw[List.getElem_map]at hp2;obtain⟨g,hgA,hgl,hfar,hfz,⟨u,hcu⟩,hli2⟩:=HLI.o.put hp1 (i:=m) (by omega) v;obtain⟨pb,poff,hPP,hpb,hrow⟩:=HLI.o.hrs.rd.at hp1;have HLI2:=h_ hli2;have HS2:=h_ (BMake.box_setFar (g:=g) (i:=m) (u:=.int .i64 v) HS.o (hfar _ _ _ HS.o (by decide)));have HMP:=h_ (map_setP rs k m v hp1);have HSH2:=h_ (shp_set HSH.o k m v);have x0:=HLI.o.x.cell 0;simp only[List.getElem?_toArray,List.getElem?_cons_zero]at x0;have hxl:=HLI.o.x.lt;rw[hPP]at x0;rw[hgA,hp2]at hrow;have hmi:m<o.ps.length:=hlm;clear hli2 hgA hp2 hPP HLI hfar HSH;generalize rs.set k {rs[k]with zs:=rs[k].zs.set m v}=rs2 at *;have s0:=d_ HS2.o 0;have s1:=d_ HS2.o 1;have s2:=d_ HS2.o 2;have s3:=d_ HS2.o 3;have s4:=d_ HS2.o 4;have s5:=d_ HS2.o 5;have hsl:=HS2.o.lt;go_wp2_with fail
          refine(sectionSize_any p _ (by unfold maxLen;omega)).mono ?_;rintro e w3 ⟨rfl,b3⟩;replace HLI2:=h_ (HLI2.o.call b3);have hwr:IntKind.i64.wrap (v+secSize p.d)=v+secSize p.d:=IntWalk.i64_in _ (by omega);generalize secSize p.d=z at *;clear s0 s1 s2 s3 s4 s5 hsl HS2 b3 hrow x0 hxl hcu hfz;go_wp2_with fail
          refine⟨⟨m+1,v+z,rs2,by omega,by go_num,rfl,by rw[HMP.o];exact HU2.o,by rw[HMP.o];exact HSH2.o,by omega,by omega,HLI2.o⟩,by simp[intOf];omega⟩
         ·have e1:(p.kd==(j:Int)+1)=false:=beq_eq_false_iff_ne.2 hkd;have HU2:=h_ (show U=foldS ((j:Int)+1) k (m+1) ((o.ps.map SV.d).drop (m+1)) (f,rs.map RV.zs)from by
           rw[HU.o];unfold stepS;rw[show decide (p.d.kd=(j:Int)+1)=false from decide_eq_false hkd]
           rfl)
          clear hkd HU;go_wp2_with fail
          refine⟨⟨m+1,f,rs,by omega,by go_num,rfl,HU2.o,HSH.o,hf0,by omega,HLI.o⟩,by simp[intOf];omega⟩
        ·obtain rfl:m=o.ps.length:=by omega
         have HT2:=h_ (show T=foldO ((j:Int)+1) (k+1) (l.drop (k+1)) (f,rs.map RV.zs)from by
          have hu2:U=(f,rs.map RV.zs):=by
           rw[hu,List.drop_of_length_le (by simp)]
           rfl
          rw[HT.o,hu2])
         clear hu hli hsh HT;go_wp2_with fail
         refine⟨⟨k+1,f,rs,by omega,by go_num,rfl,HT2.o,HSH.o,hf0,by omega,HLI.o⟩,by simp[intOf];omega⟩
      ·obtain rfl:k=os.length:=by omega
       have HT2:=h_ (show T=(d,rs.map RV.zs)from by
        rw[ht,List.drop_of_length_le (by rw[<-HLL.o];simp)]
        rfl)
       have HLW:=h_ (show ∀p∈es,∀k,blk p.A p.c=some k->k<wr.heap.size from hli.hes.lt);have HLR:=h_ (show ∀p∈rs,∀k,blk p.A p.c=some k->k<wr.heap.size from hli.hrs.lt);have hlow:w.heap.size<=wr.heap.size:=hli.b.size;clear ht hli hsh;have b1:Below wr.heap.size wr (wr.alloc (.cells #[.int .i64 b,.int .i64 d] 3)):=b_;have b2:Below (wr.alloc (.cells #[.int .i64 b,.int .i64 d] 3)).heap.size (wr.alloc (.cells #[.int .i64 b,.int .i64 d] 3)) ((wr.alloc (.cells #[.int .i64 b,.int .i64 d] 3)).alloc (.cells #[.slice (some ⟨wr.heap.size,0,none⟩) 2 2] 89)):=b_;have HNW:=h_ (show RwR ((wr.alloc (.cells #[.int .i64 b,.int .i64 d] 3)).alloc (.cells #[.slice (some ⟨wr.heap.size,0,none⟩) 2 2] 89)) w.heap.size ⟨some ⟨wr.heap.size,0,none⟩,2,[b,d]⟩from by
        have h:=World.ownsRow_lit (base:=wr.heap.size) (e:=3) (size:=1) wr #[.int .i64 b,.int .i64 d] 2 (Nat.le_refl _) (by unfold maxLen;omega) rfl;exact((Row.own h).down hlow).call b2)
       have HLIT:=h_ (rd_lit (wr.alloc (.cells #[.int .i64 b,.int .i64 d] 3)) #[.slice (some ⟨wr.heap.size,0,none⟩) 2 2] 89 _ rfl);have x1:=d_ HLI.o.x 1;have hxl:=HLI.o.x.lt;have HLI2:=h_ ((HLI.o.call b1).call b2);clear HLI b1 b2;go_wp2_with (at_builtin;refine wpList_app ((wr.alloc (.cells #[.int .i64 b,.int .i64 d] 3)).alloc (.cells #[.slice (some ⟨wr.heap.size,0,none⟩) 2 2] 89)) rfl (.tmp 88) (.tmp 92) 82 rfl 89 i0 (.slice none 0 0) 1 24 Tryz.underlying82 HI.o.1 HI.o.2.1 HI.o.2.2.1 HI.o.2.2.2 rfl (by decide) w.heap.size E es.length ec (cellsOf rowC es) rfl HLI2.o.hes.1 ?hb (some ⟨wr.heap.size+1,0,none⟩) 1 1 [.slice (some ⟨wr.heap.size,0,none⟩) 2 2] rfl (by have h:=HLIT.o;rw[World.size_alloc]at h;exact h) rfl (λh=>by cases h) ?o1 ?n1 ?n2 ?_)
       case hb=>have h:=HLI2.o.b.size;simp only[World.size_alloc]at h;exact h
       case o1=>rfl
       case n1=>unfold maxLen;omega
       case n2=>omega
       intro E2 n2 c2 w3 hn o3 g3 k3;have HXB:=h_ (HLI2.o.x.grown g3 (HLI2.o.hes.1.box HLI2.o.x (by decide)));have HNE:=h_ (LI.snoc (N:=wr.heap.size) HLI2.o HNW.o HLW.o HLR.o (λk hk=>by
        unfold blk at hk;split at hk
        ·cases hk
        ·injection hk with hk;exact Nat.le_of_eq hk) hn (by simpa[rowC]using o3) g3 (λk hk=>by have h:=k3 k hk;simpa using h))
       subst hn;clear o3 g3 k3 x1 hxl HLI2 HNW HLIT;have x1:=d_ HXB.o 1;have hxl:=HXB.o.lt;have xf1:=HXB.o.frozen 1;have hwk:IntKind.i64.wrap ((j:Int)+1+1)=(j:Int)+1+1:=IntWalk.i64_in _ (by omega);go_wp2_with fail
       go_roundw
       case rel=>exact⟨j+1,d,rs,E2,c2,es++[⟨some ⟨wr.heap.size,0,none⟩,2,[b,d]⟩],by omega,by simp,rfl,by rw[HLAY.o,HT2.o],HSH.o,hd0,by omega,by simp[HES.o],.inr ⟨b,by
        rw[List.map_append,List.getD_eq_getElem?_getD,List.getElem?_append_right (by have:=HES.o;simp;omega)];simp[HES.o]⟩,HNE.o⟩
       case measure=>simp[intOf];omega
    ·obtain rfl:j=3:=by omega
     have HL3:=h_ (show lay l base=(a,rs.map RV.zs)from hlay);have HE3:=h_ (show ∃x,(es.map RV.zs).getD 2 []=[x,a]from by
      rcases HEND.o with h|h
      ·cases h
      ·exact h)
     clear hlay HEND hli;have x0:=HLI.o.x.cell 0;have x1:=HLI.o.x.cell 1;have y0:=HLI.o.r.cell 0;have y1:=HLI.o.r.cell 1;have yf0:=HLI.o.r.frozen 0;have yf1:=HLI.o.r.frozen 1;have kk:=(HLI.o.r.set 0 (.slice A1 rs.length c1)).set 1 (.slice E es.length ec);have k0:=kk.cell 0;have k1:=kk.cell 1;simp only[k_]at k0 k1 x0 x1 y0 y1;clear kk;have hxl:=HLI.o.x.lt;have hrl:=HLI.o.r.lt;have HFIN:=h_ (show LayV l base w (.returned (.tuple #[.agg #[.slice A1 rs.length c1,.slice E es.length ec],.bool true])) ((wr.setCell ⟨w.heap.size,0,none⟩ (.slice A1 rs.length c1)).setCell ⟨w.heap.size,1,none⟩ (.slice E es.length ec))from by
      have r1:=HLI.o.r.set 0 (.slice A1 rs.length c1);refine⟨A1,c1,rs,E,ec,es,by rw[HV.o],λ_=>⟨by rw[HL3.o],HES.o,by rw[HL3.o];exact HE3.o⟩,?_,?_,two_below (Y:=w.heap.size) HLI.o.b (Nat.le_refl _) _ _⟩
      ·exact((HLI.o.hrs.set HLI.o.r (by decide) (by decide) 0 _).set r1 (by decide) (by decide) 1 _).rd
      ·exact((HLI.o.hes.set HLI.o.r (by decide) (by decide) 0 _).set r1 (by decide) (by decide) 1 _).rd)
     go_wp2_with fail
     (try simp only[Exit.inBlock,Exit.then])
     exact bodyPost_ret (v:=.tuple #[.agg #[.slice A1 rs.length c1,.slice E es.length ec],.bool true]) (by simp[results,Tryz.results52,go_sem,k0,k1]) rfl HFIN.o
end CLayout
/- namesMissing. -/
namespace CMiss
open Kit CCode CName CFixups CSymbols PObj BObj CGlobalOf BStore BList PLink CFind CSorted CNames
theorem missS_snoc(l:List OD)(a:List YD)(y:YD):missS l (a++[y])=missS l a++(bif isMiss l y then[y.1]else[]):=by
 unfold missS;rw[List.filter_append,List.map_append];cases h:isMiss l y<;>simp[h]
theorem miss_take(l m:List OD)(k:Nat)(h:k<m.length):(m.take (k+1)).flatMap (λd=>missS l d.ys)=(m.take k).flatMap (λd=>missS l d.ys)++missS l m[k].ys:=by rw[take_succ h,List.flatMap_append];simp
set_option maxHeartbeats 4000000 in
theorem namesMissing_any(A:Option Addr)(os:List OV)(c:Nat)(w:World)(hr:RdOs w w.heap.size A os)(hs:Small os):
  Calls Tryz.prog 54 #[.slice A os.length c] w (RetN (srtN (miss (os.map OV.d))) w):=by
 obtain⟨i0,hi1,hi2,hi3,hi4⟩:=info_parts infoStr;have HI:=h_ (And.intro hi1 (And.intro hi2 (And.intro hi3 hi4)));clear hi1 hi2 hi3 hi4;have HLN:=h_ (show Lens os from⟨by have:=hs.1;omega,λo ho=>by have:=hs.2 o ho;omega⟩);obtain⟨hs1,hs2⟩:=hs;have HY:=h_ hs2;have HR:=h_ hr;clear hs2 hr;have HB:=h_ (show Below w.heap.size w (w.alloc (.cells #[] 9))from b_);go_enter Tryz.func54,Tryz.ntmps54
 go_wp2_with fail
 generalize w.alloc (.cells #[] 9)=w0 at *;generalize hLL:os.map OV.d=l at *;have HLL:=h_ hLL;clear hLL;go_loopw [3,13] (λs i wi=>∃(k:Nat) (A1:Option Addr) (c1:Nat) (xs:List ByteArray),k<=os.length/\s=.slice A1 xs.length c1/\i=.int .i64 k/\xs=(l.take k).flatMap (λd=>missS l d.ys)/\xs.length<=12*k/\Row wi w.heap.size 9 1 A1 xs.length c1 (nmC xs)/\Below w.heap.size w wi) (λ_ i _=>os.length-(intOf i).toNat)
 case atStart=>exact⟨0,_,0,[],Nat.zero_le _,rfl,rfl,rfl,Nat.le_refl _,Row.empty _ _ _ _ _,HB.o⟩
 case round=>
  clear HB;obtain⟨k,A1,c1,xs,hk,rfl,rfl,hxy,hx1,hrow,hb⟩:=hrel;have HX:=h_ hrow;have HB:=h_ hb;by_cases hlt:k<os.length
  ·obtain⟨bb,off,hA,hbb,hc0,hc1⟩:=(HR.o.below hb).at hlt;have hll:k<l.length:=by rw[<-HLL.o,List.length_map];exact hlt
   have HXY:=h_ (show(l.take (k+1)).flatMap (λd=>missS l d.ys)=xs++missS l os[k].ys from by
    rw[miss_take l l k hll,<-hxy];congr 2
    have:=HLL.o;subst this;simp[OV.d])
   have HRO:=h_ (HR.o.2 _ (List.getElem_mem hlt)).2;have hyl:=HY.o _ (List.getElem_mem hlt);clear hb hrow hxy;subst hA;generalize os[k]=o at *;go_wp2_with fail
   have B1:Below wr.heap.size wr (wr.alloc (.cells #[.slice o.A o.ps.length o.c,.slice o.Y o.ys.length o.yc] 26)):=b_;have HO:=h_ (Box.new wr 26 #[.slice o.A o.ps.length o.c,.slice o.Y o.ys.length o.yc]);replace HB:=c_ HB B1;replace HX:=h_ (HX.o.call B1);clear B1;generalize wr.alloc (.cells #[.slice o.A o.ps.length o.c,.slice o.Y o.ys.length o.yc] 26)=wa at *;generalize wr.heap.size=Z at *;clear hc0 hc1;have y1:=d_ HO.o 1;have hol:=HO.o.lt;go_wp2_with fail
   clear y1 hol HO;generalize hx0:xs=x0 at *;clear hx0;go_loopw [3,20] (λs i wi=>∃(j:Nat) (A1:Option Addr) (c1:Nat) (xs:List ByteArray),j<=o.ys.length/\s=.slice A1 xs.length c1/\i=.int .i64 j/\xs=x0++missS l (o.ys.take j)/\xs.length<=12*k+j/\Row wi w.heap.size 9 1 A1 xs.length c1 (nmC xs)/\Below w.heap.size w wi) (λ_ i _=>o.ys.length-(intOf i).toNat)
   case atStart=>exact⟨0,A1,c1,x0,Nat.zero_le _,rfl,rfl,(List.append_nil _).symm,by omega,HX.o,HB.o⟩
   case round=>
    clear HX HB;obtain⟨j,A1,c1,xs,hj,rfl,rfl,hxy,hx1,hrow,hb⟩:=hrel;have HX:=h_ hrow;have HB:=h_ hb;by_cases hlj:j<o.ys.length
    ·obtain⟨b2,off2,hYA,hb2,hc⟩:=(HRO.o.below hb).row symbolC_len (by decide) hlj;have hc0:=hc 0 _ rfl;have hc1:=hc 1 _ rfl;have hc2:=hc 2 _ rfl;have hc3:=hc 3 _ rfl;simp only[Nat.add_zero]at hc0;have HST:=h_ (show x0++missS l (o.ys.take (j+1))=xs++(bif isMiss l o.ys[j]then[o.ys[j].1]else[])from by rw[take_succ hlj,missS_snoc,<-List.append_assoc,<-hxy]);clear hb hrow hxy hc;rw[hYA];clear hYA;generalize o.ys[j]=z at *;obtain⟨z1,z2,z3,z4⟩:=z;simp only at hc0 hc1 hc2 hc3 HST;go_wp2_with fail
     have B1:Below wr.heap.size wr (wr.alloc (.cells #[.string z1,.int .i64 z2,.int .i64 z3,.int .i64 z4] 67)):=b_;have HZ:=h_ (Box.new wr 67 #[.string z1,.int .i64 z2,.int .i64 z3,.int .i64 z4]);replace HB:=c_ HB B1;replace HX:=h_ (HX.o.call B1);clear B1;clear hc0 hc1 hc2 hc3;generalize wr.alloc (.cells #[.string z1,.int .i64 z2,.int .i64 z3,.int .i64 z4] 67)=wz at *;generalize wr.heap.size=S at *;refine(findName_any (some ⟨bb,off,none⟩) os c z1 wz ((HR.o.below HB.o).more HB.o.size) HLN.o).mono ?_;rintro e w5 ⟨rfl,b5⟩;replace HB:=c_ HB b5;replace HZ:=h_ (HZ.o.call b5);replace HX:=h_ (HX.o.call b5);clear b5;have HM:=h_ (show isMiss l (z1,z2,z3,z4)=((z2==1)&&(z3== -1)&& !(findN (os.map OV.d) z1).isSome)from by
      rw[HLL.o];simp only[isMiss];cases findN l z1<;>rfl)
     simp only[givV];generalize findN (os.map OV.d) z1=r at *;have y0:=d_ HZ.o 0;have y1:=d_ HZ.o 1;have y2:=d_ HZ.o 2;have hzl:=HZ.o.lt;have bg:Below w5.heap.size w5 (w5.alloc (.cells #[.int .i64 (gin r),.int .i64 (gat r)] 79)):=b_;have HBG:=h_ (HB.o.trans (bg.mono HB.o.size));have HXG:=h_ (HX.o.call bg);cases q1:(z2==1)
     ·rw[q1,Bool.false_and,Bool.false_and]at HM;rw[HM.o,cond_false,List.append_nil]at HST;clear HM bg;go_wp2_with fail
      refine⟨⟨j+1,A1,c1,xs,by omega,rfl,by go_num,HST.o.symm,by omega,HXG.o,HBG.o⟩,by simp[intOf];omega⟩
     cases q2:(z3== -1)
     ·rw[q1,q2,Bool.and_false,Bool.false_and]at HM;rw[HM.o,cond_false,List.append_nil]at HST;clear HM bg;go_wp2_with fail
      refine⟨⟨j+1,A1,c1,xs,by omega,rfl,by go_num,HST.o.symm,by omega,HXG.o,HBG.o⟩,by simp[intOf];omega⟩
     cases q3:r.isSome
     ·rw[q1,q2,q3]at HM;rw[HM.o]at HST;have HST2:=h_ (show x0++missS l (o.ys.take (j+1))=xs++[z1]from HST.o);clear HM HST bg;go_wp2_with (at_builtin;refine wpList_app ((w5.alloc (.cells #[.int .i64 (gin r),.int .i64 (gat r)] 79)).alloc (.cells #[.string z1] 9)) rfl (.tmp 43) (.tmp 46) 28 rfl 9 i0 (.string ByteArray.empty) 1 16 Tryz.underlying28 HI.o.1 HI.o.2.1 HI.o.2.2.1 HI.o.2.2.2 rfl (by decide) w.heap.size A1 xs.length c1 (nmC xs) rfl (HXG.o.alloc _) ?hb (some ⟨w5.heap.size+1,0,none⟩) 1 1 [.string z1] rfl (by have h:=rd_lit (w5.alloc (.cells #[.int .i64 (gin r),.int .i64 (gat r)] 79)) #[.string z1] 9 _ rfl;rw[World.size_alloc]at h;exact h) rfl (λh=>by cases h) ?o1 ?n1 ?n2 ?_)
      case hb=>have h:=(HBG.o.alloc HBG.o.size (.cells #[.string z1] 9)).size;simpa using h
      case o1=>exact one_str z1
      case n1=>unfold maxLen;omega
      case n2=>omega
      intro A3 n3 c3 w6 hn o3 g3 k3;have HB6:=h_ ((HBG.o.alloc HBG.o.size (.cells #[.string z1] 9)).grown g3 (HBG.o.alloc HBG.o.size (.cells #[.string z1] 9)).size (λj hj=>(HXG.o.lt j hj).1));have HX6:=h_ (show Row w6 w.heap.size 9 1 A3 (xs++[z1]).length c3 (nmC (xs++[z1]))from by
       subst hn;rw[List.length_append,<-strs_snoc];simpa using o3)
      subst hn;clear o3 g3 k3;go_wp2_with fail
      refine⟨⟨j+1,A3,c3,xs++[z1],by omega,by simp,by go_num,HST2.o.symm,by simp;omega,HX6.o,HB6.o⟩,by simp[intOf];omega⟩
     ·rw[q1,q2,q3]at HM;rw[HM.o]at HST;have HST2:=h_ (show x0++missS l (o.ys.take (j+1))=xs from HST.o.trans (List.append_nil _));clear HM HST bg;go_wp2_with fail
      refine⟨⟨j+1,A1,c1,xs,by omega,rfl,by go_num,HST2.o.symm,by omega,HXG.o,HBG.o⟩,by simp[intOf];omega⟩
    ·have hje:j=o.ys.length:=by omega
     subst hje;have HQ2:=h_ (show xs=(l.take (k+1)).flatMap (λd=>missS l d.ys)from by rw[HXY.o,hxy,List.take_length]);clear hxy hb hrow HXY;go_wp2_with fail
     refine⟨⟨k+1,A1,c1,xs,by omega,rfl,by go_num,HQ2.o,by omega,HX.o,HB.o⟩,by simp[intOf];omega⟩
  ·have hke:k=os.length:=by omega
   subst hke;have HTW:=h_ (show miss l=xs from by rw[miss,hxy,List.take_of_length_le (show l.length<=os.length by rw[<-HLL.o];simp)]);have HQ:=h_ (sorted_any xs A1 c1 _ wr hrow (by omega));clear hxy hrow hb;generalize hzs:srtN xs=zs at HQ;have HZS:=h_ hzs;clear hzs;go_wp2_with fail
   refine HQ.o.mono ?_;rintro e w4 ⟨A4,c4,rfl,r4,b4⟩;have HF:=h_ (And.intro (r4.down HB.o.size) (HB.o.trans (b4.mono HB.o.size)));clear r4 b4 HQ;go_wp2_with fail
   go_ret;show RetN (srtN (miss l)) w _ _
   rw[HTW.o,HZS.o];exact⟨A4,c4,rfl,HF.o.1,HF.o.2⟩
end CMiss
/- placeOf and symbolPlace: the places that symbols mean. -/
namespace CPlaceL
open Kit CCode CName CFixups CSymbols PObj BObj PValid CGlobalOf CObjValid BStore BList PLink CFind
def PlOk(rs:List RV)(k:Nat)(y:YD):Prop:=
 (y.2.2.1=-2\/(0<=y.2.2.1/\∃h:k<rs.length,∃h2:y.2.2.1.toNat<(rs[k]).zs.length,0<=(rs[k]).zs[y.2.2.1.toNat]/\(rs[k]).zs[y.2.2.1.toNat]<=20000))/\0<=y.2.2.2/\y.2.2.2<=60000
theorem getP_at{rs:List RV}{k i:Nat}(h:k<rs.length)(h2:i<(rs[k]).zs.length):getP (rs.map RV.zs) k i=(rs[k]).zs[i]:=by unfold getP;rw[List.getD_eq_getElem?_getD,List.getD_eq_getElem?_getD,List.getElem?_map,List.getElem?_eq_getElem h];simp[List.getElem?_eq_getElem h2]
set_option maxHeartbeats 4000000 in
theorem placeOf_any(PA:Option Addr)(rs:List RV)(pc:Nat)(EA:Option Addr)(m ec:Nat)(A:Option Addr)(os:List OV)(c k j:Nat)(w:World)(hP:RdRs w w.heap.size PA rs)(hr:RdOs w w.heap.size A os)
  (hk:k<os.length)(hj:j<(os[k]).ys.length)(hm:os.length<=1048576/\(os[k]).ys.length<=1048576)(hp:PlOk rs k (os[k]).ys[j]):
  Calls Tryz.prog 102 #[.agg #[.slice PA rs.length pc,.slice EA m ec],.slice A os.length c,.agg #[.int .i64 k,.int .i64 j]] w (Ret (.int .i64 (tgY (rs.map RV.zs) k (os[k]).ys[j])) w):=by
 obtain⟨hm1,hm2⟩:=hm;have B0:Below w.heap.size w ((w.alloc (.cells #[.slice PA rs.length pc,.slice EA m ec] 84)).alloc (.cells #[.int .i64 k,.int .i64 j] 79)):=b_;have HL:=h_ ((Box.new w 84 #[.slice PA rs.length pc,.slice EA m ec]).alloc (.cells #[.int .i64 k,.int .i64 j] 79));have HG0:=Box.new (w.alloc (.cells #[.slice PA rs.length pc,.slice EA m ec] 84)) 79 #[.int .i64 k,.int .i64 j];simp only[World.size_alloc]at HG0;have HG:=h_ HG0;have HB:=h_ B0;have HRP:=h_ (hP.below B0);obtain⟨b1,o1,hA,hb1,hc0,hc1⟩:=(hr.below B0).at hk;obtain⟨b2,o2,hY,hb2,hc⟩:=((hr.2 _ (List.getElem_mem hk)).2.below B0).row symbolC_len (by decide) hj;have hd0:=hc 0 _ rfl;have hd1:=hc 1 _ rfl;have hd2:=hc 2 _ rfl;have hd3:=hc 3 _ rfl;simp only[Nat.add_zero]at hd0;have HPL:=h_ hp;clear hP hr hc hp HG0 B0 hc0;subst hA;rw[hY]at hc1;clear hY;generalize (os[k]).ys[j]=z at *;generalize (os[k]).ys.length=yn at *;generalize (os[k]).yc=ycc at *;obtain⟨z1,z2,z3,z4⟩:=z;simp only at hd0 hd1 hd2 hd3;go_enter Tryz.func102,Tryz.ntmps102
 go_wp2_with fail
 generalize (w.alloc (.cells #[.slice PA rs.length pc,.slice EA m ec] 84)).alloc (.cells #[.int .i64 k,.int .i64 j] 79)=w0 at *;have hN:w.heap.size<w.heap.size+1:=by omega
 generalize w.heap.size+1=N at *;have g0:=d_ HG.o 0;have g1:=d_ HG.o 1;have Z0:w0.cell? ⟨N,0,none⟩=some (.int .i64 k)/\w0.cell? ⟨N,1,none⟩=some (.int .i64 j)/\w0.cell? ⟨b1,o1+k*2+1,none⟩=some (.slice (some ⟨b2,o2,none⟩) yn ycc)/\w0.cell? ⟨b2,o2+j*4,none⟩=some (.string z1)/\w0.cell? ⟨b2,o2+j*4+1,none⟩=some (.int .i64 z2)/\w0.cell? ⟨b2,o2+j*4+2,none⟩=some (.int .i64 z3)/\w0.cell? ⟨b2,o2+j*4+3,none⟩=some (.int .i64 z4):=⟨g0,g1,hc1,hd0,hd1,hd2,hd3⟩;refine Reg.startT (λW=>W.cell? ⟨N,0,none⟩=some (.int .i64 k)/\W.cell? ⟨N,1,none⟩=some (.int .i64 j)/\W.cell? ⟨b1,o1+k*2+1,none⟩=some (.slice (some ⟨b2,o2,none⟩) yn ycc)/\W.cell? ⟨b2,o2+j*4,none⟩=some (.string z1)/\W.cell? ⟨b2,o2+j*4+1,none⟩=some (.int .i64 z2)/\W.cell? ⟨b2,o2+j*4+2,none⟩=some (.int .i64 z3)/\W.cell? ⟨b2,o2+j*4+3,none⟩=some (.int .i64 z4)) (λj=>j==11) (by kernel_rfl) ?_;have hHeld:w0.drew.cell? ⟨N,0,none⟩=some (.int .i64 k)/\w0.drew.cell? ⟨N,1,none⟩=some (.int .i64 j)/\w0.drew.cell? ⟨b1,o1+k*2+1,none⟩=some (.slice (some ⟨b2,o2,none⟩) yn ycc)/\w0.drew.cell? ⟨b2,o2+j*4,none⟩=some (.string z1)/\w0.drew.cell? ⟨b2,o2+j*4+1,none⟩=some (.int .i64 z2)/\w0.drew.cell? ⟨b2,o2+j*4+2,none⟩=some (.int .i64 z3)/\w0.drew.cell? ⟨b2,o2+j*4+3,none⟩=some (.int .i64 z4):=Z0;clear Z0 g0 g1 hc1 hd0 hd1 hd2 hd3;refine t_ 0 rfl ?_;refine t_ 1 rfl ?_;refine t_ 2 rfl ?_;refine t_ 3 rfl ?_;refine t_ 4 rfl ?_;refine t_ 5 rfl ?_;refine t_ 6 rfl ?_;refine t_ 7 rfl ?_;refine t_ 8 rfl ?_;refine t_ 9 rfl ?_;have bd:Below w0.heap.size w0 w0.drew:=below_dr (Below.refl _ _);replace HRP:=h_ (HRP.o.below (bd.mono HB.o.size));replace HB:=c_ HB bd;replace HL:=h_ (HL.o.call bd);replace HG:=h_ (HG.o.call bd);clear bd;generalize w0.drew=w1 at *;refine Reg.oneT (i:=10) rfl (by kernel_rfl) (λK hK=>?_);go_simp
 have ba:Below w1.heap.size w1 (w1.alloc (.cells #[.string ⟨#[]⟩,.int .i64 0,.int .i64 0,.int .i64 0] 67)):=b_;have HZ:=h_ (Box.new w1 67 #[.string ⟨#[]⟩,.int .i64 0,.int .i64 0,.int .i64 0]);have hls:w.heap.size<=w1.heap.size:=HB.o.size;have hNw:N<w1.heap.size:=HG.o.lt;replace hHeld:=And.intro ((ba.cell (p:=⟨N,0,none⟩) hNw).trans hHeld.1) (And.intro ((ba.cell (p:=⟨N,1,none⟩) hNw).trans hHeld.2.1) (And.intro ((ba.cell (p:=⟨b1,o1+k*2+1,none⟩) (show b1<w1.heap.size by omega)).trans hHeld.2.2.1) (And.intro ((ba.cell (p:=⟨b2,o2+j*4,none⟩) (show b2<w1.heap.size by omega)).trans hHeld.2.2.2.1) (And.intro ((ba.cell (p:=⟨b2,o2+j*4+1,none⟩) (show b2<w1.heap.size by omega)).trans hHeld.2.2.2.2.1) (And.intro ((ba.cell (p:=⟨b2,o2+j*4+2,none⟩) (show b2<w1.heap.size by omega)).trans hHeld.2.2.2.2.2.1) ((ba.cell (p:=⟨b2,o2+j*4+3,none⟩) (show b2<w1.heap.size by omega)).trans hHeld.2.2.2.2.2.2))))));refine hK.out _ _ hHeld ?_;clear hK K;try simp only[y1_,y2_,y3_,Act.put,y4_,y5_,y6_]
 replace HRP:=h_ (HRP.o.below (ba.mono hls));replace HB:=c_ HB ba;replace HL:=h_ (HL.o.call ba);replace HG:=h_ (HG.o.call ba);clear ba;generalize w1.alloc (.cells #[.string ⟨#[]⟩,.int .i64 0,.int .i64 0,.int .i64 0] 67)=w2 at *;generalize w1.heap.size=Z at *;clear hHeld;have y0:=d_ HZ.o 0;have y1:=d_ HZ.o 1;have y2:=d_ HZ.o 2;have y3:=d_ HZ.o 3;have yf0:=HZ.o.frozen 0;have yf1:=HZ.o.frozen 1;have yf2:=HZ.o.frozen 2;have yf3:=HZ.o.frozen 3;have hzl:=HZ.o.lt;refine Reg.lastT (i:=11) rfl (by kernel_rfl) (by rfl) (λK hK=>?_);go_simp
 refine hK.out _ _ ?_;clear hK K;try simp only[y1_,y2_,y3_,Act.put,y4_,y5_,y6_]
 refine Reg.doneT (by kernel_rfl) ?_ _;generalize hW:(((w2.setCell ⟨Z,0,none⟩ (.string z1)).setCell ⟨Z,1,none⟩ (.int .i64 z2)).setCell ⟨Z,2,none⟩ (.int .i64 z3)).setCell ⟨Z,3,none⟩ (.int .i64 z4)=w3 at *;have HZ3:=h_ (show Box w3 Z 67 #[.string z1,.int .i64 z2,.int .i64 z3,.int .i64 z4]from by
  rw[<-hW];exact(((HZ.o.set 0 _).set 1 _).set 2 _).set 3 _)
 have bz:Below Z w2 w3:=by rw[<-hW];exact((((Below.refl _ _).setCell (p:=⟨Z,0,none⟩) (Nat.le_refl _) _).setCell (p:=⟨Z,1,none⟩) (Nat.le_refl _) _).setCell (p:=⟨Z,2,none⟩) (Nat.le_refl _) _).setCell (p:=⟨Z,3,none⟩) (Nat.le_refl _) _
 have HB3:=h_ (HB.o.trans (bz.mono hls));have HRP3:=h_ (HRP.o.below (bz.mono hls));have HL3:=h_ (show Box w3 w.heap.size 84 #[.slice PA rs.length pc,.slice EA m ec]from(bz.block _ (show w.heap.size<Z by omega)).trans HL.o);have HG3:=h_ (show Box w3 N 79 #[.int .i64 k,.int .i64 j]from(bz.block _ hNw).trans HG.o);clear hW bz HZ HB HRP HL HG y0 y1 y2 y3 yf0 yf1 yf2 yf3 hzl;have y2:=d_ HZ3.o 2;have y3:=d_ HZ3.o 3;have hzl:=HZ3.o.lt;by_cases hz:z3=-2
 ·have e1:(z3== -2)=true:=beq_iff_eq.2 hz;have HV:=h_ (show tgY (rs.map RV.zs) k (z1,z2,z3,z4)=z4 from if_pos hz);clear hz;go_wp2_with fail
  go_ret;exact⟨by rw[HV.o];rfl,HB3.o⟩
 ·have e1:(z3== -2)=false:=beq_eq_false_iff_ne.2 hz;obtain⟨hp1,hp2,hp3⟩:=HPL.o;simp only at hp1 hp2 hp3;obtain⟨h0,hkr,hir,hlo,hhi⟩:=hp1.resolve_left hz;have HV:=h_ (show tgY (rs.map RV.zs) k (z1,z2,z3,z4)=(rs[k]).zs[z3.toNat]+z4 from by
   unfold tgY;rw[if_neg hz,getP_at hkr hir])
  obtain⟨b5,o5,hPA,hb5,hrow⟩:=HRP3.o.at hkr;obtain⟨b6,o6,hRA,hb6,hcell⟩:=(HRP3.o.2 _ (List.getElem_mem hkr)).int hir;have HL4:=HL3.o.cell 0;simp only[List.getElem?_toArray,List.getElem?_cons_zero]at HL4;rw[hPA]at HL4;rw[hRA]at hrow;obtain⟨i,hi⟩:∃i:Nat,z3=(i:Int):=⟨z3.toNat,by omega⟩;subst hi;simp only[Int.toNat_natCast]at hir hlo hhi HV hcell;generalize (rs[k]).zs[i]=p at *;generalize (rs[k]).zs.length=rn at *;generalize (rs[k]).c=rc at *;have hll:=HL3.o.lt;have g0:=d_ HG3.o 0;have hgl:=HG3.o.lt;have hwr:IntKind.i64.wrap (p+z4)=p+z4:=IntWalk.i64_in _ (by omega);clear hz hp1 HPL hRA hPA HRP3 h0;go_wp2_with fail
  go_quiet (fail)
  go_wp2_with fail
  go_ret;exact⟨by rw[HV.o];rfl,Kit.Below.drewN HB3.o _⟩
end CPlaceL
/- symbolPlace: the place that a symbol means. -/
namespace CSymPl
open Kit PWarn CCode CName CFixups CSymbols PObj BObj PValid CGlobalOf CObjValid BStore BList PLink CFind CPlaceL
def AllPl(rs:List RV)(os:List OV):Prop:=∀(k:Nat) (hk:k<os.length) (j:Nat) (hj:j<(os[k]).ys.length),((os[k]).ys[j].2.2.1=-1->¬(os[k]).ys[j].2.1=0)/\(¬(os[k]).ys[j].2.2.1=-1->PlOk rs k (os[k]).ys[j])
theorem sym_at(os:List OV){k j:Nat}(hk:k<os.length)(hj:j<(os[k]).ys.length):symAtL (os.map OV.d) (k,j)=(os[k]).ys[j]:=by unfold symAtL;rw[List.getD_eq_getElem?_getD (l:=os.map OV.d),List.getElem?_map,List.getElem?_eq_getElem hk];simp only[Option.map_some,Option.getD_some,OV.d];exact getD_at hj _
def RetP(v:Int)(w:World)(e:Ending)(w':World):Prop:=∃b:Bool,e=.returned (.tuple #[.int .i64 v,.bool b])/\Below w.heap.size w w'
set_option maxHeartbeats 4000000 in
theorem symbolPlace_any(PA:Option Addr)(rs:List RV)(pc:Nat)(EA:Option Addr)(m ec:Nat)(A:Option Addr)(os:List OV)(c k j:Nat)(w:World)(hP:RdRs w w.heap.size PA rs)(hr:RdOs w w.heap.size A os)
  (hk:k<os.length)(hj:j<(os[k]).ys.length)(hm:Lens os)(hp:AllPl rs os):
  Calls Tryz.prog 56 #[.agg #[.slice PA rs.length pc,.slice EA m ec],.slice A os.length c,.int .i64 k,.int .i64 j] w (RetP (symPl (os.map OV.d) (rs.map RV.zs) k j) w):=by
 have hm1:=hm.1;have hm2:=hm.2 _ (List.getElem_mem hk);have HM:=h_ hm;have HPL:=h_ hp;have HV:=h_ (show symPl (os.map OV.d) (rs.map RV.zs) k j=if(os[k]).ys[j].2.1=0 then tgY (rs.map RV.zs) k (os[k]).ys[j]else tgO (os.map OV.d) (rs.map RV.zs) (findN (os.map OV.d) (os[k]).ys[j].1)from by
  unfold symPl tgG;rw[sym_at os hk hj])
 have B0:Below w.heap.size w (w.alloc (.cells #[.slice PA rs.length pc,.slice EA m ec] 84)):=b_;have HL:=h_ (Box.new w 84 #[.slice PA rs.length pc,.slice EA m ec]);have HB:=h_ B0;have HRP:=h_ (hP.below B0);have HRO:=h_ (hr.below B0);obtain⟨b1,o1,hA,hb1,hc0,hc1⟩:=(hr.below B0).at hk;obtain⟨b2,o2,hY,hb2,hc⟩:=((hr.2 _ (List.getElem_mem hk)).2.below B0).row symbolC_len (by decide) hj;have hd0:=hc 0 _ rfl;have hd1:=hc 1 _ rfl;have hd2:=hc 2 _ rfl;have hd3:=hc 3 _ rfl;simp only[Nat.add_zero]at hd0;have HQ:=h_ (hp k hk j hj).1;have HPC:=h_ (λ(W:World) (hb:Below w.heap.size w W) (hw:¬(os[k]).ys[j].2.2.1=-1)=>placeOf_any PA rs pc EA m ec A os c k j W ((hP.below hb).more hb.size) ((hr.below hb).more hb.size) hk hj ⟨hm1,hm2⟩ ((hp k hk j hj).2 hw));have HPG:=h_ (λ(W:World) (hb:Below w.heap.size w W) (g:G) (hg:findN (os.map OV.d) (os[k]).ys[j].1=some g)=>show Calls Tryz.prog 102 #[.agg #[.slice PA rs.length pc,.slice EA m ec],.slice A os.length c,.agg #[.int .i64 g.1,.int .i64 g.2]] W (Ret (.int .i64 (tgG (os.map OV.d) (rs.map RV.zs) g)) W)from by
  obtain⟨h1,h2,h3⟩:=find_ok hg;rw[List.length_map]at h1;have e1:(os.map OV.d).getD g.1 ⟨[],[]⟩=(os[g.1]).d:=by
   rw[List.getD_eq_getElem?_getD,List.getElem?_map,List.getElem?_eq_getElem h1]
   rfl
  rw[e1]at h2 h3;have h2':g.2<(os[g.1]).ys.length:=h2;have e2:(os[g.1]).d.ys.getD g.2 dY=(os[g.1]).ys[g.2]:=getD_at h2' _;rw[e2]at h3;have h:=placeOf_any PA rs pc EA m ec A os c g.1 g.2 W ((hP.below hb).more hb.size) ((hr.below hb).more hb.size) h1 h2' ⟨hm1,hm.2 _ (List.getElem_mem h1)⟩ ((hp g.1 h1 g.2 h2').2 h3);unfold tgG;rw[show symAtL (os.map OV.d) g=(os[g.1]).ys[g.2]from sym_at os h1 h2'];exact h)
 clear hP hr hc hp B0 hc0 hm;subst hA;rw[hY]at hc1;clear hY;generalize (os[k]).ys[j]=z at *;generalize (os[k]).ys.length=yn at *;generalize (os[k]).yc=ycc at *;obtain⟨z1,z2,z3,z4⟩:=z;simp only at hd0 hd1 hd2 hd3 HV HQ HPC HPG;go_enter Tryz.func56,Tryz.ntmps56
 have B1:Below (w.alloc (.cells #[.slice PA rs.length pc,.slice EA m ec] 84)).heap.size (w.alloc (.cells #[.slice PA rs.length pc,.slice EA m ec] 84)) ((w.alloc (.cells #[.slice PA rs.length pc,.slice EA m ec] 84)).alloc (.cells #[.string z1,.int .i64 z2,.int .i64 z3,.int .i64 z4] 67)):=b_;have HZ0:=Box.new (w.alloc (.cells #[.slice PA rs.length pc,.slice EA m ec] 84)) 67 #[.string z1,.int .i64 z2,.int .i64 z3,.int .i64 z4];simp only[World.size_alloc]at HZ0;have HZ:=h_ HZ0;replace HRP:=h_ (HRP.o.below (B1.mono HB.o.size));replace HRO:=h_ (HRO.o.below (B1.mono HB.o.size));replace HB:=c_ HB B1;replace HL:=h_ (HL.o.call B1);clear B1;clear HZ0;cases q:(z2==0)
 ·have hz2:¬z2=0:=by simpa using q
  have HV2:=h_ (show symPl (os.map OV.d) (rs.map RV.zs) k j=tgO (os.map OV.d) (rs.map RV.zs) (findN (os.map OV.d) z1)from by rw[HV.o,if_neg hz2]);clear hz2 HV HPC;go_wp2_with fail
  clear hc1 hd0 hd1 hd2 hd3 q;generalize (w.alloc (.cells #[.slice PA rs.length pc,.slice EA m ec] 84)).alloc (.cells #[.string z1,.int .i64 z2,.int .i64 z3,.int .i64 z4] 67)=w1 at *;refine(findName_any (some ⟨b1,o1,none⟩) os c z1 w1 (HRO.o.more HB.o.size) HM.o).mono ?_;rintro e w2 ⟨rfl,b2⟩;replace HB:=c_ HB b2;replace HL:=h_ (HL.o.call b2);replace HZ:=h_ (HZ.o.call b2);clear b2;generalize hr0:findN (os.map OV.d) z1=r at *;clear hr0;simp only[givV];cases r with
  |none=>
   have bg:Below w2.heap.size w2 (w2.alloc (.cells #[.int .i64 0,.int .i64 0] 79)):=b_;have HBG:=h_ (HB.o.trans (bg.mono HB.o.size));have HZG:=h_ (HZ.o.call bg);have y1:=d_ HZG.o 1;have hzl:=HZG.o.lt;simp only[gin,gat,Option.isSome];clear bg;go_wp2_with fail
   go_quiet (fail)
   go_wp2_with fail
   go_ret2;exact⟨_,by rw[HV2.o];rfl,Kit.Below.drewN HBG.o _⟩
  |some g=>
   simp only[gin,gat,Option.isSome];have bg:Below w2.heap.size w2 (w2.alloc (.cells #[.int .i64 g.1,.int .i64 g.2] 79)):=b_;have HLG:=h_ (HL.o.call bg);have HGG:=h_ (Box.new w2 79 #[.int .i64 g.1,.int .i64 g.2]);replace HB:=c_ HB bg;clear bg;clear HL HZ;have y0:=d_ HLG.o 0;have y1:=d_ HLG.o 1;have g0:=d_ HGG.o 0;have g1:=d_ HGG.o 1;have hll:=HLG.o.lt;have hgl:=HGG.o.lt;go_wp2_with fail
   clear y0 y1 g0 g1 hll hgl HLG HGG;generalize w2.alloc (.cells #[.int .i64 g.1,.int .i64 g.2] 79)=w3 at *;refine(HPG.o w3 HB.o g rfl).mono ?_;rintro e w4 ⟨rfl,b4⟩;replace HB:=c_ HB b4;clear b4;generalize hv:tgG (os.map OV.d) (rs.map RV.zs) g=v at *;have HW:=h_ hv;clear hv;go_wp2_with fail
   go_ret2;exact⟨true,by rw[HV2.o];show _=Ending.returned (.tuple #[.int .i64 (tgG _ _ g),_]);rw[HW.o];rfl,HB.o⟩
 ·have hz2:z2=0:=by simpa using q
  have HV2:=h_ (show symPl (os.map OV.d) (rs.map RV.zs) k j=tgY (rs.map RV.zs) k (z1,z2,z3,z4)from by rw[HV.o,if_pos hz2]);have hz3:¬z3=-1:=λe=>HQ.o e hz2;have HPD:=h_ (λ(W:World) (hb:Below w.heap.size w W)=>HPC.o W hb hz3);clear hz2 hz3 HV HPC HPG HQ;have y0:=d_ HL.o 0;have y1:=d_ HL.o 1;have hll:=HL.o.lt;go_wp2_with fail
  clear hc1 hd0 hd1 hd2 hd3 q y0 y1 hll;refine(HPD.o _ HB.o).mono ?_;rintro e w4 ⟨rfl,b4⟩;have HB4:=h_ (HB.o.trans (b4.mono HB.o.size));clear b4;generalize hv:tgY (rs.map RV.zs) k (z1,z2,z3,z4)=v at *;have HW:=h_ hv;clear hv HB HL HZ HRP HRO HPD;go_wp2_with fail
  go_ret2;exact⟨true,by rw[HV2.o];rfl,HB4.o⟩
end CSymPl
/- FixupValue: what a fixup gets. -/
namespace CFixVal
open Kit CCode PValid CSecValid PLink
def fvV(r:Option Int):Value:=.tuple #[.int .i64 (r.getD 0),.bool r.isSome]
theorem fix_out{kind place target add:Int}(h:¬(inB place 0 100000=true/\inB target 0 100000=true/\inB add (-1000) 1000=true)):fixVal kind place target add=none:=if_neg h
theorem and255:∀m:Fin 256,bits BinOp.and IntKind.i64 ((m.val:Int)-128) 255=((m.val:Int)-128)%256:=by decide+kernel
theorem and_mod{n:Int}(h:-128<=n/\n<=127):bits BinOp.and IntKind.i64 n 255=n%256:=by obtain⟨m,hm⟩:∃m:Nat,n=(m:Int)-128:=⟨(n+128).toNat,by omega⟩;subst hm;exact and255 ⟨m,by omega⟩
set_option maxHeartbeats 4000000 in
theorem fixupValue_any(kind place target add:Int)(w:World):Calls Tryz.prog 105 #[.int .i64 kind,.int .i64 place,.int .i64 target,.int .i64 add] w (Pure (fvV (fixVal kind place target add)) w):=by
 cases hp:inB place 0 100000
 ·have HV:=h_ (fix_out (kind:=kind) (place:=place) (target:=target) (add:=add) (by rw[hp];simp));go_enter Tryz.func105,Tryz.ntmps105
  go_wp2_with fail
  refine(within_any _ _ _ _).mono ?_;rintro e w' ⟨rfl,rfl⟩;rw[hp];go_wp2_with fail
  go_ret2;exact⟨by rw[HV.o];rfl,rfl⟩
 cases ht:inB target 0 100000
 ·have HV:=h_ (fix_out (kind:=kind) (place:=place) (target:=target) (add:=add) (by rw[ht];simp));go_enter Tryz.func105,Tryz.ntmps105
  go_wp2_with fail
  refine(within_any _ _ _ _).mono ?_;rintro e w' ⟨rfl,rfl⟩;rw[hp];go_wp2_with fail
  refine(within_any _ _ _ _).mono ?_;rintro e w' ⟨rfl,rfl⟩;rw[ht];go_wp2_with fail
  go_ret2;exact⟨by rw[HV.o];rfl,rfl⟩
 cases ha:inB add (-1000) 1000
 ·have HV:=h_ (fix_out (kind:=kind) (place:=place) (target:=target) (add:=add) (by rw[ha];simp));go_enter Tryz.func105,Tryz.ntmps105
  go_wp2_with fail
  refine(within_any _ _ _ _).mono ?_;rintro e w' ⟨rfl,rfl⟩;rw[hp];go_wp2_with fail
  refine(within_any _ _ _ _).mono ?_;rintro e w' ⟨rfl,rfl⟩;rw[ht];go_wp2_with fail
  refine(isAdd_any _ _).mono ?_;rintro e w' ⟨rfl,rfl⟩;rw[ha];go_wp2_with fail
  go_ret2;exact⟨by rw[HV.o];rfl,rfl⟩
 have HH:=h_ (And.intro hp (And.intro ht ha));have hp1:0<=place/\place<=100000:=by simpa[inB]using hp
 have ht1:0<=target/\target<=100000:=by simpa[inB]using ht
 have ha1:-1000<=add/\add<=1000:=by simpa[inB]using ha
 obtain⟨p1,p2⟩:=hp1;obtain⟨t1,t2⟩:=ht1;obtain⟨a1,a2⟩:=ha1;have HV:=h_ (show fixVal kind place target add=(if kind=2 then(if inB (target+add) 0 65535=true then some (target+add)else none)else if kind=3 then(if 0<=target+add then some (target+add)else none)else if kind=1 then(if inB (near place (target+add)) (-128) 127=true then some (near place (target+add)%256)else none)else none)from if_pos HH.o);have hwr:IntKind.i64.wrap (target+add)=target+add:=IntWalk.i64_in _ (by omega);have hwp:IntKind.i64.wrap (place+1)=place+1:=IntWalk.i64_in _ (by omega);go_enter Tryz.func105,Tryz.ntmps105
 go_wp2_with fail
 refine(within_any _ _ _ _).mono ?_;rintro e w' ⟨rfl,rfl⟩;rw[hp];go_wp2_with fail
 refine(within_any _ _ _ _).mono ?_;rintro e w' ⟨rfl,rfl⟩;rw[ht];go_wp2_with fail
 refine(isAdd_any _ _).mono ?_;rintro e w' ⟨rfl,rfl⟩;rw[ha];clear hp ht ha;by_cases k2:kind=2
 ·have e2:(kind==2)=true:=beq_iff_eq.2 k2;rw[if_pos k2]at HV;clear k2;generalize hv:target+add=v at *;go_wp2_with fail
  refine(within_any _ _ _ _).mono ?_;rintro e w' ⟨rfl,rfl⟩;cases hc:inB v 0 65535
  ·have HV2:=h_ (HV.o.trans (by rw[hc];rfl:_=none));clear HV hc;go_wp2_with fail
   go_ret2;exact⟨by rw[HV2.o];rfl,rfl⟩
  ·have HV2:=h_ (HV.o.trans (by rw[hc];rfl:_=some v));clear HV hc;go_wp2_with fail
   go_ret2;exact⟨by rw[HV2.o];rfl,rfl⟩
 rw[if_neg k2]at HV;have e2:(kind==2)=false:=beq_eq_false_iff_ne.2 k2;by_cases k3:kind=3
 ·have e3:(kind==3)=true:=beq_iff_eq.2 k3;rw[if_pos k3]at HV;clear k2 k3;generalize hv:target+add=v at *;by_cases hc:0<=v
  ·rw[if_pos hc]at HV;have ec:decide (0<=v)=true:=decide_eq_true hc;clear hc;go_wp2_with fail
   go_ret2;exact⟨by rw[HV.o];rfl,rfl⟩
  ·rw[if_neg hc]at HV;have ec:decide (0<=v)=false:=decide_eq_false hc;clear hc;go_wp2_with fail
   go_ret2;exact⟨by rw[HV.o];rfl,rfl⟩
 rw[if_neg k3]at HV;have e3:(kind==3)=false:=beq_eq_false_iff_ne.2 k3;by_cases k1:kind=1
 ·have e1:(kind==1)=true:=beq_iff_eq.2 k1;rw[if_pos k1]at HV;clear k1 k2 k3;have hwn:IntKind.i64.wrap (target+add-(place+1))=near place (target+add):=IntWalk.i64_in _ (by omega);generalize hn:near place (target+add)=n at *;clear hn;go_wp2_with fail
  refine(within_any _ _ _ _).mono ?_;rintro e w' ⟨rfl,rfl⟩;cases hc:inB n (-128) 127
  ·have HV2:=h_ (HV.o.trans (by rw[hc];rfl:_=none));clear HV hc;go_wp2_with fail
   go_ret2;exact⟨by rw[HV2.o];rfl,rfl⟩
  ·have HV2:=h_ (HV.o.trans (by rw[hc];rfl:_=some (n%256)));have hn:-128<=n/\n<=127:=by simpa[inB]using hc
   clear HV hc;go_wp2_with fail
   go_ret2;refine⟨?_,rfl⟩;rw[HV2.o];show Ending.returned (.tuple #[.int .i64 (bits BinOp.and IntKind.i64 n 255),.bool true])=_
   rw[and_mod hn]
   rfl
 ·rw[if_neg k1]at HV;have e1:(kind==1)=false:=beq_eq_false_iff_ne.2 k1;clear k1 k2 k3;go_wp2_with fail
  go_ret2;exact⟨by rw[HV.o];rfl,rfl⟩
end CFixVal
end Go.Proofs.YtepoiphmmjfbdaaGreatDoor
