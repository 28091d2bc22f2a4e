/- l11Given: where a name is given; the reference's. -/
import Derived.Test.YtepoiphmmjfbdaaGreatDoorFnDeskRunM11
import Derived.OwnWalk
import Derived.Lib.AppendStr
set_option linter.unusedSimpArgs false
set_option linter.unusedVariables false
set_option maxRecDepth 200000
open Go.ChangeShapes Go.WideShapes Go.ChangeAt Go.RowKit
namespace Go.Proofs.YtepoiphmmjfbdaaGreatDoor
namespace C11
open Kit CCode CName CFixups CSymbols PObj BObj PValid CGlobalOf CObjValid BStore BList PLink CFind P11
def gvV(st:St11):Value:=.tuple #[.agg #[.int .i64 st.1.1,.int .i64 st.1.2],.int .i64 st.2.1,.bool st.2.2]
set_option maxHeartbeats 4000000 in
theorem given_any(A:Option Addr)(os:List OV)(c:Nat)(nm:ByteArray)(w:World)(hr:RdOs w w.heap.size A os)(hm:Lens os):
  Calls Tryz.prog 120 #[.slice A os.length c,.string nm] w (Ret (gvV (st11 nm (enO 0 (os.map OV.d)))) w):=by
 obtain⟨hm1,hm2⟩:=hm;have HR:=h_ hr;have HM2:=h_ hm2;clear hr hm2;have HB:=h_ (show Below w.heap.size w ((w.alloc (.cells #[.int .i64 0,.int .i64 0] 79)).alloc (.cells #[.int .i64 0,.int .i64 0] 79))from b_);have HP:=h_ ((Box.new w 79 #[.int .i64 0,.int .i64 0]).alloc (.cells #[.int .i64 0,.int .i64 0] 79));have HX0:=Box.new (w.alloc (.cells #[.int .i64 0,.int .i64 0] 79)) 79 #[.int .i64 0,.int .i64 0];rw[World.size_alloc]at HX0;have HX:=h_ HX0;clear HX0;go_enter Tryz.func120,Tryz.ntmps120
 go_wp2_with fail
 generalize (w.alloc (.cells #[.int .i64 0,.int .i64 0] 79)).alloc (.cells #[.int .i64 0,.int .i64 0] 79)=w0 at *;generalize hl:os.map OV.d=l at *;have HL:=h_ hl;clear hl;generalize hXX:w.heap.size+1=X at *;have HXX:=h_ hXX;clear hXX;go_loopw [8,9,10] (λs f i wi=>∃(k:Nat) (st:St11),k<=os.length/\s=.int .i64 st.2.1/\f=.bool st.2.2/\i=.int .i64 k/\st=st11 nm (enO 0 (l.take k))/\0<=st.2.1/\st.2.1<=1048576*k/\Box wi X 79 #[.int .i64 st.1.1,.int .i64 st.1.2]/\Box wi w.heap.size 79 #[.int .i64 0,.int .i64 0]/\Below w.heap.size w wi) (λ_ _ i _=>os.length-(intOf i).toNat)
 case atStart=>exact⟨0,((0,0),0,false),Nat.zero_le _,rfl,rfl,rfl,rfl,Int.le_refl _,Int.le_refl _,HX.o,HP.o,HB.o⟩
 case round=>
  rename World=>wk
  clear HX HP HB;obtain⟨k,st,hk,rfl,rfl,rfl,hst,hs0,hs1,hx,hp,hb⟩:=hrel;have HST:=h_ hst;have HX:=h_ hx;have HP:=h_ hp;have HB:=h_ hb;clear hst hx hp;by_cases hlt:k<os.length
  ·obtain⟨bb,off,hA,hbb,_,hcA⟩:=HR.o.at hlt;have HCE:=h_ (λV (hV:Below w.heap.size w V)=>(show V.cell? ⟨bb,off+k*2+1,none⟩=some (.slice os[k].Y os[k].ys.length os[k].yc)from(hV.cell (p:=⟨bb,off+k*2+1,none⟩) hbb).trans hcA));have HRY:=h_ (HR.o.2 _ (List.getElem_mem hlt)).2;have hyl:=HM2.o _ (List.getElem_mem hlt);have HSN:=h_ (show enO 0 (l.take (k+1))=enO 0 (l.take k)++enS k 0 os[k].ys from by
    have h:=HL.o;subst h;rw[enO_snoc (by simpa using hlt)];simp[OV.d])
   clear hb hcA;subst hA;generalize enO 0 (l.take k)=E0 at *;generalize os[k]=o at *;go_wp2_with fail
   go_loopw [8,9,11] (λs f i wi=>∃(j:Nat) (st:St11),j<=o.ys.length/\s=.int .i64 st.2.1/\f=.bool st.2.2/\i=.int .i64 j/\st=st11 nm (E0++enS k 0 (o.ys.take j))/\0<=st.2.1/\st.2.1<=1048576*k+j/\Box wi X 79 #[.int .i64 st.1.1,.int .i64 st.1.2]/\Box wi w.heap.size 79 #[.int .i64 0,.int .i64 0]/\Below w.heap.size w wi) (λ_ _ i _=>o.ys.length-(intOf i).toNat)
   case atStart=>exact⟨0,st,Nat.zero_le _,rfl,rfl,rfl,by simpa[enS]using HST.o,hs0,by omega,HX.o,HP.o,HB.o⟩
   case round=>
    rename World=>wj
    clear HX HP HB HST;obtain⟨j,st,hj,rfl,rfl,rfl,hst,hs0,hs1,hx,hp,hb⟩:=hrel;obtain⟨g,s,f⟩:=st;simp only at hs0 hs1 hx;simp only;have HST:=h_ hst;have HX:=h_ hx;have HP:=h_ hp;have HB:=h_ hb;have hcl:=HCE.o wj hb;clear hst hx hp;by_cases hjl:j<o.ys.length
    ·obtain⟨b2,off2,hY,hb2,hc⟩:=(HRY.o.below hb).row symbolC_len (by decide) hjl;have hc0:=hc 0 _ rfl;have hc1:=hc 1 _ rfl;have hc2:=hc 2 _ rfl;have hc3:=hc 3 _ rfl;simp only[Nat.add_zero]at hc0;have HNX:=h_ (show st11 nm (E0++enS k 0 (o.ys.take (j+1)))=step11 nm (g,s,f) ((k,j),o.ys[j])from by rw[enS_snoc k hjl,<-List.append_assoc,st11_snoc,<-HST.o]);clear hb hc;rw[hY]at hcl;clear hY HST;generalize o.ys[j]=z at *;obtain⟨z1,z2,z3,z4⟩:=z;simp only at hc0 hc1 hc2 hc3;have B1:Below wj.heap.size wj (wj.alloc (.cells #[.string z1,.int .i64 z2,.int .i64 z3,.int .i64 z4] 67)):=b_;have HS:=h_ (Box.new wj 67 #[.string z1,.int .i64 z2,.int .i64 z3,.int .i64 z4]);have hXj:X<wj.heap.size:=HX.o.lt;have HXj:=h_ HX.o;have HPj:=h_ HP.o;have HBj:=h_ HB.o;replace HB:=c_ HB B1;replace HX:=h_ (HX.o.call B1);replace HP:=h_ (HP.o.call B1);clear B1;have y0:=d_ HS.o 0;have y1:=d_ HS.o 1;have y2:=d_ HS.o 2;have hsl:=HS.o.lt;have HU:=h_ (show step11 nm (g,s,f) ((k,j),(z1,z2,z3,z4))=bif hitY nm (z1,z2,z3,z4)then((bif (decide (z2=1)&&decide (s=0))|| !f then(k,j)else g),(bif decide (z2=1)then s+1 else s),true)else(g,s,f)from rfl)
     cases hn:(z1.toList==nm.toList)
     ·have HH:=h_ (show hitY nm (z1,z2,z3,z4)=false from by
       unfold hitY;rw[<-str_eq,hn]
       rfl)
      have hr2:=HU.o;rw[HH.o,cond_false]at hr2;have HF:=h_ (HNX.o.trans hr2);clear hr2 HH HU HNX;go_wp2_with fail
      refine⟨⟨j+1,(g,s,f),by omega,rfl,rfl,by go_num,HF.o.symm,hs0,by show s<=_;omega,HX.o,HP.o,HB.o⟩,by simp[intOf];omega⟩
     have HNM:=h_ (show z1=nm from by
      rw[str_eq,decide_eq_true_iff]at hn;exact hn)
     by_cases hz2:z2=0
     case pos=>
      have HH:=h_ (show hitY nm (z1,z2,z3,z4)=false from by unfold hitY;simp[hz2]);have e2:(z2==0)=true:=beq_iff_eq.2 hz2;clear hz2;have HF:=h_ (HNX.o.trans (by rw[HU.o,HH.o,cond_false]));clear HH HU HNX;go_wp2_with fail
      refine⟨⟨j+1,(g,s,f),by omega,rfl,rfl,by go_num,HF.o.symm,hs0,by show s<=_;omega,HX.o,HP.o,HB.o⟩,by simp[intOf];omega⟩
     by_cases hz3:z3=-1
     case pos=>
      have HH:=h_ (show hitY nm (z1,z2,z3,z4)=false from by unfold hitY;simp[hz3]);have e2:(z2==0)=false:=beq_eq_false_iff_ne.2 hz2;have e3:(z3== -1)=true:=beq_iff_eq.2 hz3;clear hz2 hz3;have HF:=h_ (HNX.o.trans (by rw[HU.o,HH.o,cond_false]));clear HH HU HNX;go_wp2_with fail
      refine⟨⟨j+1,(g,s,f),by omega,rfl,rfl,by go_num,HF.o.symm,hs0,by show s<=_;omega,HX.o,HP.o,HB.o⟩,by simp[intOf];omega⟩
     have HH:=h_ (show hitY nm (z1,z2,z3,z4)=true from by unfold hitY;simp[HNM.o,hz2,hz3]);have e2:(z2==0)=false:=beq_eq_false_iff_ne.2 hz2;have e3:(z3== -1)=false:=beq_eq_false_iff_ne.2 hz3;clear hz2 hz3;have HXL:=h_ (show X<wj.heap.size from hXj);by_cases h1:z2=1
     ·have e1:(z2==1)=true:=beq_iff_eq.2 h1;by_cases hs:s=0
      ·have es:(s==0)=true:=beq_iff_eq.2 hs;have HF:=h_ (HNX.o.trans (show step11 nm (g,s,f) ((k,j),(z1,z2,z3,z4))=((k,j),s+1,true)from by rw[HU.o,HH.o];simp[h1,hs]));clear HH HU HNX h1 hs;have hwr:IntKind.i64.wrap (s+1)=s+1:=IntWalk.i64_in _ (by omega);have x0:=d_ HXj.o 0;have x1:=d_ HXj.o 1;have fx0:=HXj.o.frozen 0;have fx1:=HXj.o.frozen 1;have hxl:=HXj.o.lt;have hXl:=HXL.o;have HXN:=h_ (((HXj.o.set 0 (.int .i64 k)).set 1 (.int .i64 j)).alloc (.cells #[.string z1,.int .i64 z2,.int .i64 z3,.int .i64 z4] 67));have HPN:=h_ (((HPj.o.far (p:=⟨X,0,none⟩) (by have:=HXX.o;show w.heap.size≠X;omega) (.int .i64 k)).far (p:=⟨X,1,none⟩) (by have:=HXX.o;show w.heap.size≠X;omega) (.int .i64 j)).alloc (.cells #[.string z1,.int .i64 z2,.int .i64 z3,.int .i64 z4] 67));have HBN:=h_ ((two_below (Y:=X) HBj.o (by have:=HXX.o;omega) (.int .i64 k) (.int .i64 j)).alloc (two_below (Y:=X) HBj.o (by have:=HXX.o;omega) (.int .i64 k) (.int .i64 j)).size (.cells #[.string z1,.int .i64 z2,.int .i64 z3,.int .i64 z4] 67));have hsz:((wj.setCell ⟨X,0,none⟩ (.int .i64 k)).setCell ⟨X,1,none⟩ (.int .i64 j)).heap.size=wj.heap.size:=by simp[World.setCell]
       have HSN:=Box.new ((wj.setCell ⟨X,0,none⟩ (.int .i64 k)).setCell ⟨X,1,none⟩ (.int .i64 j)) 67 #[.string z1,.int .i64 z2,.int .i64 z3,.int .i64 z4];rw[hsz]at HSN;have y1':=HSN.cell 1;simp only[g_]at y1';clear HSN;go_wp2_with fail
       refine⟨⟨j+1,((k,j),s+1,true),by omega,rfl,rfl,by go_num,HF.o.symm,(by show 0<=s+1;omega),(by show s+1<=_;omega),HXN.o,HPN.o,HBN.o⟩,by simp[intOf];omega⟩
      ·have es:(s==0)=false:=beq_eq_false_iff_ne.2 hs;cases f
       ·skip
        have HF:=h_ (HNX.o.trans (show step11 nm (g,s,false) ((k,j),(z1,z2,z3,z4))=((k,j),s+1,true)from by rw[HU.o,HH.o];simp[h1,hs]));clear HH HU HNX h1 hs;have hwr:IntKind.i64.wrap (s+1)=s+1:=IntWalk.i64_in _ (by omega);have x0:=d_ HXj.o 0;have x1:=d_ HXj.o 1;have fx0:=HXj.o.frozen 0;have fx1:=HXj.o.frozen 1;have hxl:=HXj.o.lt;have hXl:=HXL.o;have HXN:=h_ (((HXj.o.set 0 (.int .i64 k)).set 1 (.int .i64 j)).alloc (.cells #[.string z1,.int .i64 z2,.int .i64 z3,.int .i64 z4] 67));have HPN:=h_ (((HPj.o.far (p:=⟨X,0,none⟩) (by have:=HXX.o;show w.heap.size≠X;omega) (.int .i64 k)).far (p:=⟨X,1,none⟩) (by have:=HXX.o;show w.heap.size≠X;omega) (.int .i64 j)).alloc (.cells #[.string z1,.int .i64 z2,.int .i64 z3,.int .i64 z4] 67));have HBN:=h_ ((two_below (Y:=X) HBj.o (by have:=HXX.o;omega) (.int .i64 k) (.int .i64 j)).alloc (two_below (Y:=X) HBj.o (by have:=HXX.o;omega) (.int .i64 k) (.int .i64 j)).size (.cells #[.string z1,.int .i64 z2,.int .i64 z3,.int .i64 z4] 67));have hsz:((wj.setCell ⟨X,0,none⟩ (.int .i64 k)).setCell ⟨X,1,none⟩ (.int .i64 j)).heap.size=wj.heap.size:=by simp[World.setCell]
        have HSN:=Box.new ((wj.setCell ⟨X,0,none⟩ (.int .i64 k)).setCell ⟨X,1,none⟩ (.int .i64 j)) 67 #[.string z1,.int .i64 z2,.int .i64 z3,.int .i64 z4];rw[hsz]at HSN;have y1':=HSN.cell 1;simp only[g_]at y1';clear HSN;go_wp2_with fail
        refine⟨⟨j+1,((k,j),s+1,true),by omega,rfl,rfl,by go_num,HF.o.symm,(by show 0<=s+1;omega),(by show s+1<=_;omega),HXN.o,HPN.o,HBN.o⟩,by simp[intOf];omega⟩
       ·skip
        have HF:=h_ (HNX.o.trans (show step11 nm (g,s,true) ((k,j),(z1,z2,z3,z4))=(g,s+1,true)from by rw[HU.o,HH.o];simp[h1,hs]));clear HH HU HNX h1 hs;have hwr:IntKind.i64.wrap (s+1)=s+1:=IntWalk.i64_in _ (by omega);go_wp2_with fail
        refine⟨⟨j+1,(g,s+1,true),by omega,rfl,rfl,by go_num,HF.o.symm,(by show 0<=s+1;omega),(by show s+1<=_;omega),HX.o,HP.o,HB.o⟩,by simp[intOf];omega⟩
     ·have e1:(z2==1)=false:=beq_eq_false_iff_ne.2 h1;cases f
      ·skip
       have HF:=h_ (HNX.o.trans (show step11 nm (g,s,false) ((k,j),(z1,z2,z3,z4))=((k,j),s,true)from by rw[HU.o,HH.o];simp[h1]));clear HH HU HNX h1;have x0:=d_ HXj.o 0;have x1:=d_ HXj.o 1;have fx0:=HXj.o.frozen 0;have fx1:=HXj.o.frozen 1;have hxl:=HXj.o.lt;have hXl:=HXL.o;have HXN:=h_ (((HXj.o.set 0 (.int .i64 k)).set 1 (.int .i64 j)).alloc (.cells #[.string z1,.int .i64 z2,.int .i64 z3,.int .i64 z4] 67));have HPN:=h_ (((HPj.o.far (p:=⟨X,0,none⟩) (by have:=HXX.o;show w.heap.size≠X;omega) (.int .i64 k)).far (p:=⟨X,1,none⟩) (by have:=HXX.o;show w.heap.size≠X;omega) (.int .i64 j)).alloc (.cells #[.string z1,.int .i64 z2,.int .i64 z3,.int .i64 z4] 67));have HBN:=h_ ((two_below (Y:=X) HBj.o (by have:=HXX.o;omega) (.int .i64 k) (.int .i64 j)).alloc (two_below (Y:=X) HBj.o (by have:=HXX.o;omega) (.int .i64 k) (.int .i64 j)).size (.cells #[.string z1,.int .i64 z2,.int .i64 z3,.int .i64 z4] 67));have hsz:((wj.setCell ⟨X,0,none⟩ (.int .i64 k)).setCell ⟨X,1,none⟩ (.int .i64 j)).heap.size=wj.heap.size:=by simp[World.setCell]
       have HSN:=Box.new ((wj.setCell ⟨X,0,none⟩ (.int .i64 k)).setCell ⟨X,1,none⟩ (.int .i64 j)) 67 #[.string z1,.int .i64 z2,.int .i64 z3,.int .i64 z4];rw[hsz]at HSN;have y1':=HSN.cell 1;simp only[g_]at y1';clear HSN;go_wp2_with fail
       refine⟨⟨j+1,((k,j),s,true),by omega,rfl,rfl,by go_num,HF.o.symm,(by show 0<=s;omega),(by show s<=_;omega),HXN.o,HPN.o,HBN.o⟩,by simp[intOf];omega⟩
      ·skip
       have HF:=h_ (HNX.o.trans (show step11 nm (g,s,true) ((k,j),(z1,z2,z3,z4))=(g,s,true)from by rw[HU.o,HH.o];simp[h1]));clear HH HU HNX h1;go_wp2_with fail
       refine⟨⟨j+1,(g,s,true),by omega,rfl,rfl,by go_num,HF.o.symm,(by show 0<=s;omega),(by show s<=_;omega),HX.o,HP.o,HB.o⟩,by simp[intOf];omega⟩
    ·have hje:j=o.ys.length:=by omega
     have HF:=h_ (show(g,s,f)=st11 nm (enO 0 (l.take (k+1)))from by rw[HST.o,hje,List.take_length,HSN.o]);have hY2:s<=1048576*((k:Int)+1):=by omega
     clear hb hje HST;go_wp2_with fail
     refine⟨⟨k+1,(g,s,f),by omega,rfl,rfl,by go_num,HF.o,hs0,by show s<=1048576*(((k+1:Nat)):Int);omega,HX.o,HP.o,HB.o⟩,by simp[intOf];omega⟩
  ·have hke:k=os.length:=by omega
   obtain⟨g,s,f⟩:=st;simp only at hs0 hs1;have HF:=h_ (show st11 nm (enO 0 l)=(g,s,f)from by
    have h:=HST.o;rw[hke,List.take_of_length_le (by rw[<-HL.o,List.length_map];exact Nat.le_refl _)]at h;exact h.symm)
   simp only at HX;simp only;have x0:=d_ HX.o 0;have x1:=d_ HX.o 1;have hxl:=HX.o.lt;have p0:=d_ HP.o 0;have p1:=d_ HP.o 1;have fp0:=HP.o.frozen 0;have fp1:=HP.o.frozen 1;have hpl:=HP.o.lt;have HBN:=h_ (two_below (Y:=w.heap.size) HB.o (Nat.le_refl _) (.int .i64 g.1) (.int .i64 g.2));have kk:=(HP.o.set 0 (.int .i64 g.1)).set 1 (.int .i64 g.2);have k0:=kk.cell 0;have k1:=kk.cell 1;simp only[k_]at k0 k1;subst hke;clear hb kk HST;go_wp2_with fail
   exact bodyPost_ret (v:=gvV (g,s,f)) (by simp[results,Tryz.results120,go_sem,gvV,k0,k1]) rfl ⟨by rw[HF.o],HBN.o⟩
end C11
/- ObjectsValid,AlignUp and PlaceSections: the reference's. -/
namespace CPlaceS
open Kit CCode CName CFixups CSymbols PObj BObj PValid CSecValid CObjValid CObjValidS BStore CMarkRows BMake BList PLink CValids BLay CLayout CCopyS WObj CObjL COwnL
theorem objectsValidS_any(A:Option Addr)(os:List OV)(c:Nat)(w:World)(hr:RdOs w w.heap.size A os)(hf:Fits os):
  Calls Tryz.prog 19 #[.slice A os.length c] w (Ret (.bool (objsOk (os.map OV.d))) w):=by
 obtain⟨hm,hfo⟩:=hf;have HR:=h_ hr;have HFT:=h_ hfo;clear hr hfo;go_enter Tryz.func19,Tryz.ntmps19
 go_wp2_with fail
 go_loopw [3] (λi wr=>∃k:Nat,k<=os.length/\i=.int .i64 k/\(∀o∈os.take k,objOk o.d=true)/\Below w.heap.size w wr) (λi _=>os.length-(intOf i).toNat)
 case atStart=>exact⟨0,Nat.zero_le _,rfl,(λo ho=>by cases ho),Below.refl _ _⟩
 case round=>
  obtain⟨k,hk,rfl,hn,hb⟩:=hrel;have HB:=h_ hb;have HN:=h_ hn;clear hn;by_cases hlt:k<os.length
  ·obtain⟨b,off,hA,hbb,hc0,hc1⟩:=(HR.o.below hb).at hlt;have HP:=h_ (objectValidS_any os[k] wr (((HR.o.2 _ (List.getElem_mem hlt)).below hb).more hb.size) (HFT.o _ (List.getElem_mem hlt)));have HT:=h_ (show objOk os[k].d=false->objsOk (os.map OV.d)=false from λh=>by
    unfold objsOk;rw[List.all_eq_false.2 ⟨_,List.mem_map_of_mem (List.getElem_mem hlt),by rw[h];decide⟩,Bool.and_false])
   have HS:=h_ (show objOk os[k].d=true->∀o∈os.take (k+1),objOk o.d=true from λh o ho=>by
    rw[take_succ hlt]at ho;rcases List.mem_append.1 ho with ho|ho
    ·exact HN.o o ho
    ·rw[List.mem_singleton.1 ho];exact h)
   clear hb;subst hA;generalize os[k]=o at *;go_wp2_with fail
   refine HP.o.mono ?_;rintro e w2 ⟨rfl,b2⟩;replace HB:=c_ HB b2;clear b2;clear hc0 hc1 HP;cases h:objOk o.d
   ·have HV:=h_ (HT.o h);clear h HT HS;go_wp2_with fail
    go_ret;exact⟨by rw[HV.o];rfl,HB.o⟩
   ·have HS':=h_ (HS.o h);clear h HT HS;go_wp2_with fail
    refine⟨⟨k+1,by omega,by go_num,HS'.o,HB.o⟩,by simp[intOf];omega⟩
  ·have hke:k=os.length:=by omega
   have HV:=h_ (show objsOk (os.map OV.d)=decide (os.length<=4)from by
    unfold objsOk;rw[List.length_map];have h:(os.map OV.d).all objOk=true:=List.all_eq_true.2 λd hd=>by obtain⟨o,ho,rfl⟩:=List.mem_map.1 hd;exact HN.o o (by rw[hke,List.take_length];exact ho)
    rw[h,Bool.and_true])
   clear hb;by_cases h4:os.length<=4
   ·have e1:decide ((os.length:Int)<=4)=true:=decide_eq_true (by omega);rw[decide_eq_true h4]at HV;go_wp2_with fail
    go_ret;exact⟨by rw[HV.o];rfl,HB.o⟩
   ·have e1:decide ((os.length:Int)<=4)=false:=decide_eq_false (by omega);rw[decide_eq_false h4]at HV;go_wp2_with fail
    go_ret;exact⟨by rw[HV.o];rfl,HB.o⟩
theorem alignUpS_any(n q:Int)(w:World)(h0:0<=n)(h1:n<=1000000)(hq:alignOk q=true):Calls Tryz.prog 141 #[.int .i64 n,.int .i64 q] w (Pure (.int .i64 (al n q)) w):=by
 simp only[alignOk,Bool.or_eq_true,decide_eq_true_eq]at hq;have hi:inB n 0 1000000=true:=by simp[inB];omega
 have HI:=h_ hi;clear hi;rcases hq with((rfl|rfl)|rfl)|rfl
 all_goals
  unfold al;go_enter Tryz.func141,Tryz.ntmps141
  go_wp2_with fail
  refine(l1In_any _ _ _ _).mono ?_;rintro e w' ⟨rfl,rfl⟩;rw[HI.o];go_wp2_with fail
  go_ret;exact⟨by first|rfl|(simp;done)|(simp;omega),rfl⟩
structure Lst(os:List OV):Prop where
 n:os.length<=1048576
 f:∀o∈os,Fit o
 c:∀o∈os,CpO o
theorem Lst.fits {os:List OV}(h:Lst os):Fits os:=⟨h.n,h.f⟩
theorem fit_copy{q o:OV}{w:World}{base:Nat}(hd:q.d=o.d)(hf:Fit o)(ho:OwnO w base q):Fit q:=by
 have e1:q.ps.map SV.d=o.ps.map SV.d:=congrArg OD.ss hd;have e2:q.ys=o.ys:=congrArg OD.ys hd;refine⟨?_,by rw[e2];exact hf.ny,ho.2.cap.1,λp hp=>?_,λy hy=>hf.y y (by rw[<-e2];exact hy)⟩
 ·have:=congrArg List.length e1;simp only[List.length_map]at this;rw[this];exact hf.np
 ·have h1:p.d∈o.ps.map SV.d:=by rw[<-e1];exact List.mem_map_of_mem hp
  obtain⟨x,hx,hxd⟩:=List.mem_map.1 h1;have h2:=hf.p x hx;have q1:x.nm=p.nm:=congrArg SD.nm hxd;have q2:x.zs=p.zs:=congrArg SD.zs hxd;have q3:x.fs=p.fs:=congrArg SD.fs hxd;rw[<-q1,<-q2,<-q3];exact h2
theorem cp_copy{q o:OV}{w:World}{base:Nat}(hd:q.d=o.d)(hf:Fit o)(ho:OwnO w base q):CpO q:=by have h:=fit_copy hd hf ho;exact⟨h.np,h.ny,ho.2.nil,λp hp=>⟨⟨(ho.1.2.1 p hp).1.nil,(ho.1.2.1 p hp).2.nil⟩,(h.p p hp).2.1,(h.p p hp).2.2⟩⟩
theorem lst_copy{w:World}{base c:Nat}{A:Option Addr}{os qs:List OV}(hd:qs.map OV.d=os.map OV.d)(h:Lst os)(ho:OwnOs w base A c qs):Lst qs:=by
 have hl:qs.length=os.length:=by simpa using congrArg List.length hd
 have key:∀q∈qs,∃o∈os,q.d=o.d:=λq hq=>by
  have h1:q.d∈os.map OV.d:=by rw[<-hd];exact List.mem_map_of_mem hq
  obtain⟨o,ho,e⟩:=List.mem_map.1 h1;exact⟨o,ho,e.symm⟩
 refine⟨by rw[hl];exact h.n,λq hq=>?_,λq hq=>?_⟩
 ·obtain⟨o,ho',e⟩:=key q hq;exact fit_copy e (h.f o ho') (ho.2.1 q hq)
 ·obtain⟨o,ho',e⟩:=key q hq;exact cp_copy e (h.f o ho') (ho.2.1 q hq)
def PlV(l:List OD)(base:Int)(w:World)(e:Ending)(w':World):Prop:=
 ∃A c rs x,e=.returned (.tuple #[.slice A (rs:List RV).length c,.int .i64 x,.bool (objsOk l&&baseOk base)])/\((objsOk l&&baseOk base)=true->rs.map RV.zs=(lay l base).2/\x=(lay l base).1)/\RdRs w' w'.heap.size A rs/\Below w.heap.size w w'
structure LQ(w1:World)(A:Option Addr)(c:Nat)(rs:List RV)(w:World):Prop where
 own:OwnRs w w1.heap.size A c rs
 b:Below w1.heap.size w1 w
theorem LQ.call {w1 w w':World}{A:Option Addr}{c:Nat}{rs:List RV}(h:LQ w1 A c rs w)(hb:Below w.heap.size w w'):LQ w1 A c rs w':=⟨h.own.call hb,h.b.trans (hb.mono h.b.size)⟩
theorem LQ.put {w1 w:World}{A:Option Addr}{c:Nat}{rs:List RV}(h:LQ w1 A c rs w){k:Nat}(hk:k<rs.length){i:Nat}(hi:i<rs[k].zs.length)(v:Int):
  ∃g,rs[k].A=some ⟨g,0,none⟩/\g<w.heap.size/\(∀(Y:Nat) (t:TypeId) (cs:Array Value),Box w Y t cs->3≠t->Y≠g)/\(w.frozen? ⟨g,i,none⟩=false)/\(∃u,w.cell? ⟨g,i,none⟩=some (.int .i64 u))/\LQ w1 A c (rs.set k {rs[k]with zs:=rs[k].zs.set i v}) (w.setCell ⟨g,i,none⟩ (.int .i64 v)):=by
 obtain⟨g,hA,hb1,hb2,hbk,_,hf,hu,hown⟩:=h.own.put hk hi v;have hq:=h.own.2.1 rs[k] (List.getElem_mem hk);exact⟨g,hA,hb2,(λY t cs hY ht e=>hq.box hY ht g hbk e.symm),hf,hu,hown,h.b.setCell (p:=⟨g,i,none⟩) hb1 _⟩
set_option maxHeartbeats 4000000 in
theorem placeSections_any(A:Option Addr)(os:List OV)(c:Nat)(base:Int)(w:World)(hr:RdOs w w.heap.size A os)(hf:Lst os):
  Calls Tryz.prog 115 #[.slice A os.length c,.int .i64 base] w (PlV (os.map OV.d) base w):=by
 obtain⟨i0,hi1,hi2,hi3,hi4⟩:=info_parts infoR;have HI:=h_ (And.intro hi1 (And.intro hi2 (And.intro hi3 hi4)));clear hi1 hi2 hi3 hi4;obtain⟨j0,hj1,hj2,hj3,hj4⟩:=info_parts CInts.info64;have HJ:=h_ (And.intro hj1 (And.intro hj2 (And.intro hj3 hj4)));clear hj1 hj2 hj3 hj4;have HCP:=h_ (ownObjects_any A os c w hr hf.n hf.c);have HL0:=h_ (rfl:os.map OV.d=os.map OV.d);generalize hl0:os.map OV.d=l at HCP ⊢;have HL1:=h_ hl0;clear HL0 hl0;have HF0:=h_ hf;clear hr hf;go_enter Tryz.func115,Tryz.ntmps115
 go_wp2_with fail
 refine HCP.o.mono ?_;rintro e w1 ⟨A1,c1,qs,rfl,hqd,own1,b1⟩;have HF:=h_ (lst_copy (hqd.trans HL1.o.symm) HF0.o own1).fits;have HR:=h_ own1.rd;have HB:=h_ b1;have hln:qs.length=os.length:=by simpa using congrArg List.length (hqd.trans HL1.o.symm)
 have HLL:=h_ hqd;have HLN:=h_ hln;clear hqd own1 b1 HCP HF0 hln;have bz:Below w1.heap.size w1 (w1.alloc (.cells #[] 89)):=b_;have HZ:=h_ bz;clear bz;go_wp2_with fail
 refine(objectsValidS_any A1 qs c1 (w1.alloc (.cells #[] 89)) ((HR.o.below HZ.o).more HZ.o.size) HF.o).mono ?_;rintro e w2 ⟨rfl,b2⟩;rw[HLL.o];replace HZ:=h_ (HZ.o.trans (b2.mono HZ.o.size));clear b2;cases hok:objsOk (l)
 ·have HV:=h_ (show(objsOk (l)&&baseOk base)=false by rw[hok];rfl);clear hok;go_wp2_with fail
  go_ret3
  exact⟨_,0,[],0,by rw[HV.o];rfl,(λh=>by rw[HV.o]at h;cases h),rdRs_nil _ _ _,HB.o.trans (HZ.o.mono HB.o.size)⟩
 go_wp2_with fail
 refine(l1In_any _ _ _ _).mono ?_;rintro e w' ⟨rfl,rfl⟩;cases hin:inB base 0 4096
 ·have HV:=h_ (show(objsOk (l)&&baseOk base)=false by
   unfold baseOk;unfold inB at hin;rw[hok,hin]
   rfl)
  clear hok hin;go_wp2_with fail
  go_ret3
  exact⟨_,0,[],0,by rw[HV.o];rfl,(λh=>by rw[HV.o]at h;cases h),rdRs_nil _ _ _,HB.o.trans (HZ.o.mono HB.o.size)⟩
 have hb0:0<=base/\base<=4096:=by simpa[inB]using hin
 obtain⟨hb1,hb2⟩:=hb0;by_cases h8:base%8=0
 case neg=>
  have HV:=h_ (show(objsOk (l)&&baseOk base)=false by
   unfold baseOk;rw[decide_eq_false h8,Bool.and_false,Bool.and_false])
  have h8':(base%8 != 0)=true:=bne_iff_ne.2 h8;clear hok hin h8;go_wp2_with fail
  go_ret3
  exact⟨_,0,[],0,by rw[HV.o];rfl,(λh=>by rw[HV.o]at h;cases h),rdRs_nil _ _ _,HB.o.trans (HZ.o.mono HB.o.size)⟩
 have HV:=h_ (show(objsOk (l)&&baseOk base)=true by
  unfold baseOk;rw[hok,decide_eq_true (And.intro hb1 hb2),decide_eq_true h8]
  rfl)
 have h8':(base%8 != 0)=false:=by simp[h8]
 have hol:qs.length<=4:=by simp only[objsOk,Bool.and_eq_true,decide_eq_true_eq]at hok;have h:=hok.1;rw[<-HLL.o,List.length_map]at h;exact h
 have HALL:=h_ (show ∀o∈qs,o.ps.length<=8/\∀p∈o.ps,(0<=secSize p.d/\secSize p.d<=48)/\alignOk p.d.al=true from λo ho=>by
  simp only[objsOk,Bool.and_eq_true,List.all_eq_true]at hok;have h:=hok.2 o.d (by rw[<-HLL.o];exact List.mem_map_of_mem ho);simp only[objOk,Bool.and_eq_true,decide_eq_true_eq,List.all_eq_true]at h;refine⟨by simpa[OV.d]using h.1.1.1,λp hp=>?_⟩;have hs:=sec_size (h.1.2 p.d (List.mem_map_of_mem hp));exact⟨hs.1,hs.2.1⟩)
 clear hok hin h8;go_wp2_with fail
 clear h8';go_loopw [7,8] (λs i wi=>∃(k:Nat) (Ar:Option Addr) (cr:Nat) (rs:List RV),k<=qs.length/\s=.slice Ar rs.length cr/\i=.int .i64 k/\rs.length=k/\rs.map RV.zs=(zeroP l).take k/\LQ w1 Ar cr rs wi) (λ_ i _=>qs.length-(intOf i).toNat)
 case atStart=>exact⟨0,_,0,[],Nat.zero_le _,rfl,rfl,rfl,rfl,⟨⟨Row.empty _ _ _ _ _,(λp hp=>by cases hp),List.Pairwise.nil⟩,HZ.o⟩⟩
 case round=>
  clear HZ;obtain⟨k,Ar,cr,rs,hk,rfl,rfl,hrl,hrz,hlq⟩:=hrel;have HQ:=h_ hlq;have HRZ:=h_ hrz;clear hrz;subst hrl;by_cases hlt:rs.length<qs.length
  ·obtain⟨bb,off,hA,hbb,hc0,hc1⟩:=(HR.o.below hlq.b).at hlt;have HZN:=h_ (show(zeroP l).take (rs.length+1)=(zeroP l).take rs.length++[List.replicate qs[rs.length].ps.length 0]from by
    rw[take_succ (by rw[<-HLL.o];simpa[zeroP]using hlt)];have h:=HLL.o;subst h;simp[zeroP,OV.d])
   have hpl:=(HALL.o _ (List.getElem_mem hlt)).1;clear hlq;subst hA;generalize qs[rs.length]=o at *;go_wp2_with (at_make;refine wpList_make_full _ rfl _ _ _ rfl w1.heap.size 3 j0 (.int .i64 0) 1 Tryz.underlying89 HJ.o.1 HJ.o.2.1 HJ.o.2.2.1 .i64 .i64 _ _ o.ps.length rfl rfl rfl rfl ?c1 ?c2 ?c3 ?_)
   case c1=>rw[HJ.o.2.2.2];omega
   case c2=>unfold maxLen;omega
   case c3=>exact HQ.o.b.size
   intro w3 hown hg;have b3:Below wr.heap.size wr w3:=(Below.refl _ _).grown hg (Nat.le_refl _) (by intro k h;cases h);have HNW:=h_ (show RwR w3 w1.heap.size ⟨some ⟨wr.heap.size,0,none⟩,o.ps.length,List.replicate o.ps.length 0⟩from by
    rw[zero_cells']at hown;refine .inr ?_;simpa using hown)
   have HOLD:=h_ (HQ.o.own.lt);have HQ3:=h_ (HQ.o.call b3);have b4:Below w3.heap.size w3 (w3.alloc (.cells #[.slice (some ⟨wr.heap.size,0,none⟩) o.ps.length o.ps.length] 89)):=b_;have HQ4:=h_ (HQ3.o.call b4);have HNW4:=h_ (show RwR (w3.alloc (.cells #[.slice (some ⟨wr.heap.size,0,none⟩) o.ps.length o.ps.length] 89)) w1.heap.size ⟨some ⟨wr.heap.size,0,none⟩,o.ps.length,List.replicate o.ps.length 0⟩from HNW.o.call b4);clear hown hg b3 b4 HQ HQ3 HNW hc0 hc1;generalize wr.heap.size=M at *;go_wp2_with (at_builtin;refine wpList_app _ rfl (.tmp 37) (.tmp 45) 82 rfl 89 i0 (.slice none 0 0) 1 24 Tryz.underlying82 HI.o.1 HI.o.2.1 HI.o.2.2.1 HI.o.2.2.2 rfl (by decide) w1.heap.size Ar rs.length cr (cellsOf rowC rs) rfl HQ4.o.own.1 HQ4.o.b.size (some ⟨w3.heap.size,0,none⟩) 1 1 [.slice (some ⟨M,0,none⟩) o.ps.length o.ps.length] rfl (rd_lit w3 #[.slice (some ⟨M,0,none⟩) o.ps.length o.ps.length] 89 _ rfl) rfl (λh=>by cases h) ?o1 ?n1 ?n2 ?_)
   case o1=>
    intro u hu;obtain rfl:=List.mem_singleton.1 hu
    rfl
   case n1=>unfold maxLen;omega
   case n2=>omega
   intro A2 n2 c2 w7 hn o7 g7 k7;have HNEW:=h_ (OwnRs.snoc (N:=M) HQ4.o.own (q:=⟨some ⟨M,0,none⟩,o.ps.length,List.replicate o.ps.length 0⟩) HNW4.o HOLD.o (λk hk=>by
    unfold blk at hk;split at hk
    ·cases hk
    ·injection hk with hk;exact Nat.le_of_eq hk) hn (by simpa[rowC]using o7) g7)
   have HB7:=h_ (HQ4.o.b.grown g7 HQ4.o.b.size (λj hj=>(HQ4.o.own.1.lt j hj).1));have hn':n2=(rs++[(⟨some ⟨M,0,none⟩,o.ps.length,List.replicate o.ps.length 0⟩:RV)]).length:=by rw[hn,List.length_append];rfl
   subst hn';clear hn o7 g7 k7 HQ4 HNW4;go_wp2_with fail
   refine⟨⟨rs.length+1,A2,c2,rs++[⟨some ⟨M,0,none⟩,o.ps.length,List.replicate o.ps.length 0⟩],by omega,by first|rfl|rw[List.length_append],by go_num,by simp,by rw[HZN.o,List.map_append,HRZ.o];rfl,⟨HNEW.o,HB7.o⟩⟩,by simp[intOf];omega⟩
  ·have hrl:rs.length=qs.length:=by omega
   have hrz:rs.map RV.zs=zeroP l:=by rw[HRZ.o,hrl,List.take_of_length_le (by rw[<-HLL.o];simp[zeroP])]
   have HSH:=h_ (show Shp l (rs.map RV.zs)from by rw[hrz];exact shp_zero _);have HLAY:=h_ (show lay l base=kindsS l (([1,2,3]:List Int).drop 0) (base,rs.map RV.zs)from by rw[hrz];rfl);have HRL:=h_ hrl;clear HRZ hrz hlq hrl;go_wp2_with fail
   clear hlt hk;generalize hrn:rs.length=n at *;have HRN:=h_ hrn;clear hrn;go_loopw [9,10] (λat_ kd wi=>∃(j:Nat) (a:Int) (rs:List RV),j<=3/\at_=.int .i64 a/\kd=.int .i64 ((j:Int)+1)/\lay l base=kindsS l (([1,2,3]:List Int).drop j) (a,rs.map RV.zs)/\Shp l (rs.map RV.zs)/\0<=a/\a<=4096+2000*j/\rs.length=n/\LQ w1 Ar cr rs wi) (λ_ kd _=>4-(intOf kd).toNat)
   case atStart=>exact⟨0,base,rs,Nat.zero_le _,rfl,rfl,HLAY.o,HSH.o,hb1,by omega,HRN.o,HQ.o⟩
   case round=>
    rename World=>wk
    clear HLAY HSH HQ HRN;obtain⟨j,a,rs,hj,rfl,rfl,hlay,hsh,ha0,ha1,hrn,hlq⟩:=hrel;have HQ:=h_ hlq;have HSH:=h_ hsh;have HRN:=h_ hrn;clear hsh hrn;by_cases hj3:j<3
    ·have HLAY:=h_ (show lay l base=kindsS l (([1,2,3]:List Int).drop (j+1)) (foldO ((j:Int)+1) 0 l (al a 8,rs.map RV.zs))from hlay.trans (kinds_drop l hj3 _));have e3:decide ((j:Int)+1<=3)=true:=decide_eq_true (by omega);clear hlay hlq;go_wp2_with fail
     refine(alignUpS_any a 8 wk ha0 (by omega) (by decide)).mono ?_;rintro e w' ⟨rfl,rfl⟩;obtain⟨g1,g2⟩:=al_bd ha0 (show alignOk 8=true by decide);generalize al a 8=b at *;generalize hT:foldO ((j:Int)+1) 0 l (b,rs.map RV.zs)=T at *;have HT:=h_ (show T=foldO ((j:Int)+1) 0 (l.drop 0) (b,rs.map RV.zs)from hT.symm);clear hT e3;go_wp2_with fail
     go_loopw [9,11] (λat_ i wi=>∃(k:Nat) (d:Int) (rs:List RV),k<=qs.length/\at_=.int .i64 d/\i=.int .i64 k/\T=foldO ((j:Int)+1) k (l.drop k) (d,rs.map RV.zs)/\Shp l (rs.map RV.zs)/\0<=d/\d<=4104+2000*j+490*k/\rs.length=n/\LQ w1 Ar cr rs wi) (λ_ i _=>qs.length-(intOf i).toNat)
     case atStart=>exact⟨0,b,rs,Nat.zero_le _,rfl,rfl,HT.o,HSH.o,by omega,by omega,HRN.o,HQ.o⟩
     case round=>
      rename World=>wo
      clear HT HSH HQ HRN;obtain⟨k,d,rs,hk,rfl,rfl,ht,hsh,hd0,hd1,hrn,hlq⟩:=hrel;have HQ:=h_ hlq;have HSH:=h_ hsh;have HRN:=h_ hrn;clear hsh hrn;by_cases hlt:k<qs.length
      ·have hll:k<l.length:=by rw[<-HLL.o,List.length_map];exact hlt
       have HT:=h_ (ht.trans (foldO_drop hll k _));have HPS:=h_ (show l[k].ss=qs[k].ps.map SV.d from by
        have:=HLL.o;subst this;simp[OV.d])
       have HSP:=h_ (show ∀P:List (List Int),Shp l P->∃hp:k<P.length,P[k].length=qs[k].ps.length from λP hP=>by
        obtain⟨h1,h2⟩:=shp_at hP hll;refine⟨h1,?_⟩;rw[h2,HPS.o,List.length_map])
       have HAO:=h_ (HALL.o _ (List.getElem_mem hlt));have hpl:=HAO.o.1;have HRO:=h_ (HR.o.2 _ (List.getElem_mem hlt)).1;have HFO:=h_ (HF.o.o _ (List.getElem_mem hlt)).p;obtain⟨bb,off,hA,hbb,hcA,_⟩:=HR.o.at hlt;have HCE:=h_ (λV (hV:Below w1.heap.size w1 V)=>(show V.cell? ⟨bb,off+k*2,none⟩=some (.slice qs[k].A qs[k].ps.length qs[k].c)from(hV.cell (p:=⟨bb,off+k*2,none⟩) hbb).trans hcA));clear hlq ht hcA;rw[HPS.o]at HT;clear HPS;subst hA;generalize qs[k]=o at *;generalize hU:foldS ((j:Int)+1) k 0 (o.ps.map SV.d) (d,rs.map RV.zs)=U at *;have HU:=h_ (show U=foldS ((j:Int)+1) k 0 ((o.ps.map SV.d).drop 0) (d,rs.map RV.zs)from hU.symm);clear hU;go_wp2_with fail
       go_loopw [9,12] (λat_ i wi=>∃(m:Nat) (f:Int) (rs:List RV),m<=o.ps.length/\at_=.int .i64 f/\i=.int .i64 m/\U=foldS ((j:Int)+1) k m ((o.ps.map SV.d).drop m) (f,rs.map RV.zs)/\Shp l (rs.map RV.zs)/\0<=f/\f<=4104+2000*j+490*k+60*m/\rs.length=n/\LQ w1 Ar cr rs wi) (λ_ i _=>o.ps.length-(intOf i).toNat)
       case atStart=>exact⟨0,d,rs,Nat.zero_le _,rfl,rfl,HU.o,HSH.o,by omega,by omega,HRN.o,HQ.o⟩
       case round=>
        rename World=>wm
        clear HU HSH HQ HRN;obtain⟨m,f,rs,hm,rfl,rfl,hu,hsh,hf0,hf1,hrn,hlq⟩:=hrel;have HQ:=h_ hlq;have HSH:=h_ hsh;have HRN:=h_ hrn;have hcl:=HCE.o wm hlq.b;clear hrn;by_cases hlm:m<o.ps.length
        ·obtain⟨b2,off2,hPA,hbb2,hc⟩:=(HRO.o.1.below hlq.b).row secC_len (by decide) hlm;have hc0:=hc 0 _ rfl;have hc1:=hc 1 _ rfl;have hc2:=hc 2 _ rfl;have hc3:=hc 3 _ rfl;have hc4:=hc 4 _ rfl;have hc5:=hc 5 _ rfl;simp only[Nat.add_zero]at hc0;have HU:=h_ (hu.trans (foldS_drop (show m<(o.ps.map SV.d).length by simpa using hlm) m _));have HSZ:=h_ (HAO.o.2 _ (List.getElem_mem hlm));have hzl:=(HFO.o _ (List.getElem_mem hlm)).2.1;have HRS:=h_ (step_bd (kd:=(j:Int)+1) (k:=k) (i:=m) (P:=rs.map RV.zs) HSZ.o.1 HSZ.o.2 hf0);clear hlq hu hc hsh;rw[List.getElem_map]at HU;rw[hPA]at hcl;clear hPA;generalize o.ps[m]=p at *;have B1:Below wm.heap.size wm (wm.alloc (.cells #[.string p.nm,.int .i64 p.kd,.int .i64 p.al,.slice p.A p.zs.length p.c,.int .i64 p.sz,.slice p.F p.fs.length p.fc] 61)):=b_;replace HQ:=h_ (HQ.o.call B1);have HS:=h_ (Box.new wm 61 #[.string p.nm,.int .i64 p.kd,.int .i64 p.al,.slice p.A p.zs.length p.c,.int .i64 p.sz,.slice p.F p.fs.length p.fc]);clear B1;by_cases hkd:p.kd=(j:Int)+1
         ·have e1:(p.kd != (j:Int)+1)=false:=by simp[hkd]
          have HKD:=h_ hkd;have HU2:=h_ (show U=foldS ((j:Int)+1) k (m+1) ((o.ps.map SV.d).drop (m+1)) (al f p.al+secSize p.d,setP (rs.map RV.zs) k m (al f p.al))from by
           rw[HU.o];unfold stepS;rw[show decide (p.d.kd=(j:Int)+1)=true from decide_eq_true hkd]
           rfl)
          clear hkd HU;go_wp2_with fail
          clear e1 hc0 hc1 hc2 hc3 hc4 hc5 hcl;generalize wm.alloc (.cells #[.string p.nm,.int .i64 p.kd,.int .i64 p.al,.slice p.A p.zs.length p.c,.int .i64 p.sz,.slice p.F p.fs.length p.fc] 61)=wa at *;generalize wm.heap.size=S at *;refine(alignUpS_any f p.al wa hf0 (by omega) HSZ.o.2).mono ?_;rintro e w' ⟨rfl,rfl⟩;obtain⟨g1,g2⟩:=al_bd hf0 (show alignOk p.al=true from HSZ.o.2);obtain⟨q1,q2⟩:=HSZ.o.1;generalize al f p.al=v at *;obtain⟨hp1,hp2⟩:=HSP.o _ HSH.o;rw[List.length_map]at hp1;rw[List.getElem_map]at hp2;obtain⟨g,hgA,hgl,hfar,hfz,⟨u,hcu⟩,hlq2⟩:=HQ.o.put hp1 (i:=m) (by omega) v;obtain⟨pb,poff,hPP,hpb,hrow⟩:=HQ.o.own.rd.at hp1;have HQ2:=h_ hlq2;have HS2:=h_ (BMake.box_setFar (g:=g) (i:=m) (u:=.int .i64 v) HS.o (hfar _ _ _ HS.o (by decide)));have HMP:=h_ (map_setP rs k m v hp1);have HSH2:=h_ (shp_set HSH.o k m v);rw[hgA,hp2]at hrow;have hmi:m<o.ps.length:=hlm;have HRN2:=h_ (show(rs.set k {rs[k]with zs:=rs[k].zs.set m v}).length=n from by rw[List.length_set];exact HRN.o);have hkn:k<n:=by have:=HRN.o;omega
          clear hlq2 hgA hp2 HQ hfar HSH HRN;subst hPP;generalize rs.set k {rs[k]with zs:=rs[k].zs.set m v}=rs2 at *;generalize (rs[k]).c=rc at hrow;clear hp1;have s0:=d_ HS2.o 0;have s1:=d_ HS2.o 1;have s2:=d_ HS2.o 2;have s3:=d_ HS2.o 3;have s4:=d_ HS2.o 4;have s5:=d_ HS2.o 5;have hsl:=HS2.o.lt;go_wp2_with fail
          refine(sectionSizeS_any p _ (by unfold maxLen;omega)).mono ?_;rintro e w3 ⟨rfl,b3⟩;replace HQ2:=h_ (HQ2.o.call b3);have hwr:IntKind.i64.wrap (v+secSize p.d)=v+secSize p.d:=IntWalk.i64_in _ (by omega);generalize secSize p.d=z at *;clear s0 s1 s2 s3 s4 s5 hsl HS2 b3 hrow hcu hfz;go_wp2_with fail
          refine⟨⟨m+1,v+z,rs2,by omega,rfl,by go_num,by rw[HMP.o];exact HU2.o,by rw[HMP.o];exact HSH2.o,by omega,by omega,HRN2.o,HQ2.o⟩,by simp[intOf];omega⟩
         ·have e1:(p.kd != (j:Int)+1)=true:=bne_iff_ne.2 hkd;have HU2:=h_ (show U=foldS ((j:Int)+1) k (m+1) ((o.ps.map SV.d).drop (m+1)) (f,rs.map RV.zs)from by
           rw[HU.o];unfold stepS;rw[show decide (p.d.kd=(j:Int)+1)=false from decide_eq_false hkd]
           rfl)
          clear hkd HU;go_wp2_with fail
          refine⟨⟨m+1,f,rs,by omega,rfl,by go_num,HU2.o,HSH.o,hf0,by omega,HRN.o,HQ.o⟩,by simp[intOf];omega⟩
        ·obtain rfl:m=o.ps.length:=by omega
         have HT2:=h_ (show T=foldO ((j:Int)+1) (k+1) (l.drop (k+1)) (f,rs.map RV.zs)from by
          have hu2:U=(f,rs.map RV.zs):=by
           rw[hu,List.drop_of_length_le (by simp)]
           rfl
          rw[HT.o,hu2])
         clear hu hlq hsh HT;go_wp2_with fail
         refine⟨⟨k+1,f,rs,by omega,rfl,by go_num,HT2.o,HSH.o,hf0,by omega,HRN.o,HQ.o⟩,by simp[intOf];omega⟩
      ·obtain rfl:k=qs.length:=by omega
       have HT2:=h_ (show T=(d,rs.map RV.zs)from by
        rw[ht,List.drop_of_length_le (by rw[<-HLL.o];simp)]
        rfl)
       clear ht hlq;go_wp2_with fail
       have hwk:IntKind.i64.wrap ((j:Int)+1+1)=(j:Int)+1+1:=IntWalk.i64_in _ (by omega);refine⟨⟨j+1,d,rs,by omega,rfl,by first|(simp;done)|go_num,by rw[HLAY.o,HT2.o],HSH.o,hd0,by omega,HRN.o,HQ.o⟩,by simp[intOf];omega⟩
    ·obtain rfl:j=3:=by omega
     have HL3:=h_ (show lay l base=(a,rs.map RV.zs)from hlay);have HFIN:=h_ (show PlV l base w (.returned (.tuple #[.slice Ar n cr,.int .i64 a,.bool true])) wk from by refine⟨Ar,cr,rs,a,by rw[HV.o,HRN.o],λ_=>⟨by rw[HL3.o],by rw[HL3.o]⟩,HQ.o.own.rd,HB.o.trans (HQ.o.b.mono HB.o.size)⟩);clear hlay hlq;go_wp2_with fail
     go_ret3
     exact HFIN.o
end CPlaceS
/- NameTable: the bytes of a table of names; the program's. -/
namespace CNameTab
open Kit CCode CName CFixups CSymbols PObj BObj CGlobalOf BStore BList PLink CSorted CNames
end CNameTab
/- Names put in one by one,each once: the same list as sorted gives; plain. -/
namespace PIns
open Kit CSorted CNames CNameTab PSort
theorem bl_eq:∀x y:List UInt8,Op.bytesLess x y=decide (x<y)
 |[],[]=>by simp[Op.bytesLess]
 |_::_,[]=>by simp[Op.bytesLess]
 |[],_::_=>by simp[Op.bytesLess]
 |a::x,b::y=>by
  rw[Op.bytesLess,bl_eq x y];simp only[List.cons_lt_cons_iff];by_cases h1:a<b<;>by_cases h2:a=b<;>by_cases h3:x<y<;>simp[h1,h2,h3]
theorem toL_eq(a:ByteArray):a.toList=a.data.toList:=ByteArray.toList_eq a
theorem toL_inj{a b:ByteArray}(h:a.toList=b.toList):a=b:=by rw[toL_eq,toL_eq]at h;exact ByteArray.ext (Array.toList_inj.1 h)
theorem sl_tr{a b c:ByteArray}(h1:sl a b=true)(h2:sl b c=true):sl a c=true:=by unfold sl at *;rw[bl_eq]at *;exact decide_eq_true (List.lt_trans (of_decide_eq_true h1) (of_decide_eq_true h2))
theorem sl_tri{a b:ByteArray}(h1:sl a b=false)(h2:a≠b):sl b a=true:=by
 unfold sl at *;rw[bl_eq]at *;refine decide_eq_true ?_;have h:=List.not_lt.1 (of_decide_eq_false h1);by_cases hlt:b.toList<a.toList
 ·exact hlt
 ·exact absurd (toL_inj (List.le_antisymm (List.not_lt.1 hlt) h)) h2
def SS(xs:List ByteArray):Prop:=xs.Pairwise λa b=>sl a b=true
def insP(s:ByteArray):List ByteArray->Nat
 |[]=>0
 |x::xs=>if sl x s=true then insP s xs+1 else 0
def insN(xs:List ByteArray)(s:ByteArray):List ByteArray:=if xs[insP s xs]?=some s then xs else xs.take (insP s xs)++[s]++xs.drop (insP s xs)
def insR(s:ByteArray):List ByteArray->List ByteArray
 |[]=>[s]
 |x::xs=>if sl x s=true then x::insR s xs else if x=s then x::xs else s::x::xs
theorem ins_eq(s:ByteArray):∀xs,insN xs s=insR s xs
 |[]=>by simp[insN,insP,insR]
 |x::xs=>by
  have ih:=ins_eq s xs;unfold insN at ih;unfold insN insP insR;by_cases h:sl x s=true
  ·simp only[h,if_true,List.getElem?_cons_succ,List.take_succ_cons,List.drop_succ_cons];rw[<-ih];split<;>rfl
  ·simp only[h,Bool.false_eq_true,if_false,List.getElem?_cons_zero,Option.some.injEq,List.take_zero,List.drop_zero]
   rfl
theorem insR_mem(s y:ByteArray):∀xs,y∈insR s xs↔y=s\/y∈xs
 |[]=>by simp[insR]
 |x::xs=>by
  unfold insR;split
  ·rw[List.mem_cons,insR_mem s y xs,List.mem_cons];constructor
   ·rintro(h|h|h)<;>simp[h]
   ·rintro(h|h|h)<;>simp[h]
  ·split
   ·rename_i h;subst h;simp
   ·simp
theorem insR_ss(s:ByteArray):∀{xs},SS xs->SS (insR s xs)
 |[],_=>by simp[insR,SS]
 |x::xs,h=>by
  obtain⟨h1,h2⟩:=List.pairwise_cons.1 h;unfold insR;split
  ·rename_i hx;refine List.pairwise_cons.2 ⟨λy hy=>?_,insR_ss s h2⟩;rcases(insR_mem s y xs).1 hy with rfl|hy
   ·exact hx
   ·exact h1 y hy
  ·rename_i hx;split
   ·exact h
   ·rename_i hne;have hsx:=sl_tri (Bool.not_eq_true _▸hx) hne;refine List.pairwise_cons.2 ⟨λy hy=>?_,h⟩;rcases List.mem_cons.1 hy with rfl|hy
    ·exact hsx
    ·exact sl_tr hsx (h1 y hy)
theorem insR_len(s:ByteArray):∀xs,(insR s xs).length<=xs.length+1
 |[]=>by simp[insR]
 |x::xs=>by
  have:=insR_len s xs;unfold insR;split
  ·simp only[List.length_cons];omega
  ·split<;>simp
theorem insN_len(xs:List ByteArray)(s:ByteArray):(insN xs s).length<=xs.length+1:=by rw[ins_eq];exact insR_len s xs
def insAll(ns:List ByteArray):List ByteArray:=ns.foldl insN []
theorem insAll_snoc(ns:List ByteArray)(s:ByteArray):insAll (ns++[s])=insN (insAll ns) s:=by simp[insAll]
theorem insAll_spec(ns:List ByteArray):SS (insAll ns)/\∀x,x∈insAll ns↔x∈ns:=by
 suffices H:∀(ns acc:List ByteArray),SS acc->SS (ns.foldl insN acc)/\∀x,x∈ns.foldl insN acc↔x∈acc\/x∈ns by have:=H ns [] List.Pairwise.nil;exact⟨this.1,λx=>by rw[insAll,this.2];simp⟩
 intro ns;induction ns with
 |nil=>intro acc h;exact⟨h,λx=>by simp⟩
 |cons n ns ih=>
  intro acc h;have h2:SS (insN acc n):=by rw[ins_eq];exact insR_ss n h
  obtain⟨i1,i2⟩:=ih _ h2;refine⟨i1,λx=>?_⟩;rw[List.foldl_cons,i2,ins_eq,insR_mem,List.mem_cons];constructor
  ·rintro((h|h)|h)<;>simp[h]
  ·rintro(h|h|h)<;>simp[h]
section
variable {d:Array (List UInt8)}
end
end PIns
/- NameTable and tableOf; the program's. -/
namespace CTable
open Kit CCode CName CFixups CSymbols PObj BObj CGlobalOf BStore BList PLink CSorted CNames CNameTab
end CTable
/- l2Insert: the reference's putting of a name into sorted names. -/
namespace CInsS
open Kit CCode CFixups CSymbols PObj BObj CMarkRows CGlobalOf BStore BList PSort PLink CSorted CNames CNameTab CTable PIns
theorem one_nm(l:List ByteArray):∀u∈nmC l,u.oneCell'=true:=λu hu=>by
 obtain⟨x,_,rfl⟩:=List.mem_map.1 hu
 rfl
theorem insP_go{s:ByteArray}{xs:List ByteArray}{k:Nat}(hk:k<xs.length)(h:insP s xs=k+insP s (xs.drop k))(hl:sl xs[k] s=true):insP s xs=k+1+insP s (xs.drop (k+1)):=by rw[List.drop_eq_getElem_cons hk,insP,if_pos hl]at h;omega
theorem insP_stop{s:ByteArray}{xs:List ByteArray}{k:Nat}(hk:k<xs.length)(h:insP s xs=k+insP s (xs.drop k))(hl:sl xs[k] s=false):insP s xs=k:=by rw[List.drop_eq_getElem_cons hk,insP,if_neg (by rw[hl];decide)]at h;omega
theorem rd_tail1{w:World}{B ga k c j:Nat}{xs:List Value}(h:Rd w B (some ⟨ga,0,none⟩) xs)(hl:xs.length=k)(hk:k<=c):
  Rd w B (if c=j then some ⟨ga,0,none⟩else some ⟨ga,j,none⟩) (xs.drop j):=by
 split
 ·have:xs.drop j=[]:=List.drop_of_length_le (by omega);rw[this];exact Rd.nil _
 ·intro i u hi;rw[List.getElem?_drop]at hi;obtain⟨b,off,e,hb,hc⟩:=h (j+i) u hi;simp only[Option.some.injEq,Addr.mk.injEq,and_true]at e;obtain⟨rfl,rfl⟩:=e;exact⟨_,j,rfl,hb,by rw[Nat.zero_add]at hc;exact hc⟩
def RetL(base:Nat)(ys:List ByteArray)(w:World)(e:Ending)(w':World):Prop:=∃g c,e=.returned (.slice (some ⟨g,0,none⟩) ys.length c)/\Row w' base 9 1 (some ⟨g,0,none⟩) ys.length c (nmC ys)/\Below w.heap.size w w'
set_option maxHeartbeats 4000000 in
theorem l2Insert_any(ga:Nat)(xs:List ByteArray)(s:ByteArray)(c base:Nat)(w:World)(h:Row w base 9 1 (some ⟨ga,0,none⟩) xs.length c (nmC xs))(hbase:base<=w.heap.size)(hm:xs.length<=1000):
  Calls Tryz.prog 159 #[.slice (some ⟨ga,0,none⟩) xs.length c,.string s] w (RetL base (insN xs s) w):=by
 obtain⟨i0,hi1,hi2,hi3,hi4⟩:=info_parts infoStr;have HI:=h_ (And.intro hi1 (And.intro hi2 (And.intro hi3 hi4)));clear hi1 hi2 hi3 hi4;have HR:=h_ h;clear h;have hkc:=HR.o.cap.1;go_enter Tryz.func159,Tryz.ntmps159
 go_wp2_with fail
 go_loopw [5] (λi wi=>∃k:Nat,k<=xs.length/\i=.int .i64 k/\insP s xs=k+insP s (xs.drop k)/\wi=w) (λi _=>xs.length-(intOf i).toNat)
 case atStart=>exact⟨0,Nat.zero_le _,rfl,by simp,rfl⟩
 case round=>
  obtain⟨k,hk,rfl,hp,rfl⟩:=hrel;have HP:=h_ hp;clear hp;by_cases hlt:k<xs.length
  ·obtain⟨b,off,hA,_,hc⟩:=HR.o.rd k (.string xs[k]) (by simp[nmC,List.getElem?_eq_getElem hlt]);simp only[Option.some.injEq,Addr.mk.injEq,and_true]at hA;obtain⟨rfl,rfl⟩:=hA;rw[Nat.zero_add]at hc;have HGO:=h_ (λh=>insP_go hlt HP.o h);have HSTOP:=h_ (λh=>insP_stop hlt HP.o h);have HXK:=h_ (show xs[k]?=some xs[k]from List.getElem?_eq_getElem hlt);clear HP;generalize xs[k]=x at *;cases hl:sl x s
   ·have HI2:=h_ (HSTOP.o hl);have hl2:Op.bytesLess x.toList s.toList=false:=hl;clear HGO HSTOP hl;cases he:(x.toList==s.toList)
    ·have HST:=h_ (show insN xs s=xs.take k++[s]++xs.drop k from by
      unfold insN;rw[HI2.o,HXK.o,if_neg];intro e;have e2:=Option.some.inj e;rw[str_eq,e2]at he;simp at he)
     clear HXK HI2;go_wp2_with fail
     clear hl2 he hc hlt;have HLK:=h_ (show(xs.take k).length=k/\(xs.drop k).length=xs.length-k from⟨by rw[List.length_take];omega,by rw[List.length_drop]⟩);have HP1:=h_ (λV (hV:Below wr.heap.size wr V)=>(show Rd V V.heap.size (some ⟨ga,0,none⟩) (nmC (xs.take k))from by
      have h:=((HR.o.prefix hk).rd.below hV).more hV.size;rw[Nat.mul_one]at h;simpa only[nmC,List.map_take]using h))
     have HP2:=h_ (λV (hV:Below wr.heap.size wr V)=>(show Rd V V.heap.size (if c=k then some ⟨ga,0,none⟩else some ⟨ga,k,none⟩) (nmC (xs.drop k))from by
      have h:=rd_tail1 (j:=k) ((HR.o.rd.below hV).more hV.size) (by simp[nmC]) hkc;simpa only[nmC,List.map_drop]using h))
     have HA2:=h_ (show(if c=k then some (⟨ga,0,none⟩:Addr)else some ⟨ga,k,none⟩)=none->c-k=0 from λh=>by split at h<;>cases h);have hkn:k<=c:=by omega
     generalize hnl:xs.length=n at *;have HNL:=h_ hnl;clear hnl;refine Rv.start (λ_=>True) (λ_=>false) (by kernel_rfl) ?_;have hHeld:True:=trivial;refine v_ 1 rfl ?_;refine v_ 2 rfl ?_;refine v_ 3 rfl ?_;refine v_ 5 rfl ?_;refine v_ 8 rfl ?_;refine v_ 9 rfl ?_;refine v_ 10 rfl ?_;generalize (if c=k then some (⟨ga,0,none⟩:Addr)else some ⟨ga,k,none⟩)=A2 at *;refine Rv.two (i:=0) (j:=6) rfl rfl (by kernel_rfl) (λK hK=>?p0) (λK hK=>?p6)
     case' p0=>
      go_simp
      refine hK.out _ _ hHeld ?_;clear hK K;try simp only[y1_,y2_,y3_,Act.put,y4_,y5_,y6_]
      refine Rv.two (i:=4) (j:=6) rfl rfl (by kernel_rfl) (λK hK=>?q4) (λK hK=>?q6)
     case' q4=>
      refine step_app (by rfl) _ _ 28 rfl 9 i0 (.string ByteArray.empty) 1 16 Tryz.underlying28 HI.o.1 HI.o.2.1 HI.o.2.2.1 HI.o.2.2.2 rfl (by decide) wr.heap.size _ 0 0 [] (by rfl) (Row.empty _ _ _ _ _) (Below.size (B:=wr.heap.size) (by(repeat(first|with_reducible assumption|with_reducible exact Below.refl _ _|with_reducible apply below_al|with_reducible apply below_dr|with_reducible apply below_dn));done)) (some ⟨ga,0,none⟩) k c (nmC (xs.take k)) (by rfl) (HP1.o _ (by(repeat(first|with_reducible assumption|with_reducible exact Below.refl _ _|with_reducible apply below_al|with_reducible apply below_dr|with_reducible apply below_dn));done)) (by rw[nmC,List.length_map,HLK.o.1,Nat.mul_one]) (λh=>by cases h) (one_nm _) (by unfold maxLen;omega) (by omega) ?_
      intro A5 n5 c5 w5 hn5 o5 g5 k5;have hn5':n5=k:=by omega
      clear hn5;subst hn5';have HA5:=h_ (show Row w5 wr.heap.size 9 1 A5 n5 c5 (nmC (xs.take n5))from by simpa using o5);have HWX:=h_ (show Below wr.heap.size wr w5 from below_tr (by(repeat(first|with_reducible assumption|with_reducible exact Below.refl _ _|with_reducible apply below_al|with_reducible apply below_dr|with_reducible apply below_dn));done) g5)
      clear o5 g5 k5;refine hK.out _ _ hHeld ?_;clear hK K;try simp only[y1_,y2_,y3_,Act.put,y4_,y5_,y6_]
      refine Rv.one (i:=6) rfl (by kernel_rfl) (λK hK=>?_);go_simp
      refine hK.out _ _ hHeld ?_;clear hK K;try simp only[y1_,y2_,y3_,Act.put,y4_,y5_,y6_]
      have HNC:=h_ (show(w5.alloc (.cells #[.string s] 9)).cell? ⟨w5.heap.size,0,none⟩=some (.string s)/\w5.heap.size<(w5.alloc (.cells #[.string s] 9)).heap.size from⟨(Box.new w5 9 #[.string s]).cell 0,(Box.new w5 9 #[.string s]).lt⟩);have B6:Below w5.heap.size w5 (w5.alloc (.cells #[.string s] 9)):=b_;replace HWX:=h_ (HWX.o.trans (B6.mono HWX.o.size));replace HA5:=h_ (HA5.o.call B6);clear B6;generalize w5.alloc (.cells #[.string s] 9)=wX at *;generalize w5.heap.size=N at *
     case' q6=>
      go_simp
      refine hK.out _ _ hHeld ?_;clear hK K;try simp only[y1_,y2_,y3_,Act.put,y4_,y5_,y6_]
      have HNN:=h_ (show((wr.alloc (.cells #[] 9)).alloc (.cells #[.string s] 9)).drew.cell? ⟨wr.heap.size+1,0,none⟩=some (.string s)/\wr.heap.size+1<((wr.alloc (.cells #[] 9)).alloc (.cells #[.string s] 9)).drew.heap.size from by
       have h:=Box.new (wr.alloc (.cells #[] 9)) 9 #[.string s];rw[World.size_alloc]at h;exact⟨h.cell 0,h.lt⟩)
      refine Rv.one (i:=4) rfl (by kernel_rfl) (λK hK=>?_);refine step_app (by rfl) _ _ 28 rfl 9 i0 (.string ByteArray.empty) 1 16 Tryz.underlying28 HI.o.1 HI.o.2.1 HI.o.2.2.1 HI.o.2.2.2 rfl (by decide) wr.heap.size _ 0 0 [] (by rfl) (Row.empty _ _ _ _ _) (Below.size (B:=wr.heap.size) (by(repeat(first|with_reducible assumption|with_reducible exact Below.refl _ _|with_reducible apply below_al|with_reducible apply below_dr|with_reducible apply below_dn));done)) (some ⟨ga,0,none⟩) k c (nmC (xs.take k)) (by rfl) (HP1.o _ (by(repeat(first|with_reducible assumption|with_reducible exact Below.refl _ _|with_reducible apply below_al|with_reducible apply below_dr|with_reducible apply below_dn));done)) (by rw[nmC,List.length_map,HLK.o.1,Nat.mul_one]) (λh=>by cases h) (one_nm _) (by unfold maxLen;omega) (by omega) ?_
      intro A5 n5 c5 wX hn5 o5 g5 k5;have hn5':n5=k:=by omega
      clear hn5;subst hn5';have HA5:=h_ (show Row wX wr.heap.size 9 1 A5 n5 c5 (nmC (xs.take n5))from by simpa using o5);have HWX:=h_ (show Below wr.heap.size wr wX from below_tr (by(repeat(first|with_reducible assumption|with_reducible exact Below.refl _ _|with_reducible apply below_al|with_reducible apply below_dr|with_reducible apply below_dn));done) g5)
      have HNC:=h_ (show wX.cell? ⟨wr.heap.size+1,0,none⟩=some (.string s)/\wr.heap.size+1<wX.heap.size from⟨((below_tr (Below.refl _ _) g5).cell (p:=⟨wr.heap.size+1,0,none⟩) HNN.o.2).trans HNN.o.1,Nat.lt_of_lt_of_le HNN.o.2 g5.size⟩);clear o5 g5 k5 HNN;refine hK.out _ _ hHeld ?_;clear hK K;try simp only[y1_,y2_,y3_,Act.put,y4_,y5_,y6_]
      generalize wr.heap.size+1=N at *
     case' p6=>
      go_simp
      refine hK.out _ _ hHeld ?_;clear hK K;try simp only[y1_,y2_,y3_,Act.put,y4_,y5_,y6_]
      refine Rv.one (i:=0) rfl (by kernel_rfl) (λK hK=>?_);go_simp
      refine hK.out _ _ hHeld ?_;clear hK K;try simp only[y1_,y2_,y3_,Act.put,y4_,y5_,y6_]
      have HNN:=h_ (show((wr.alloc (.cells #[.string s] 9)).alloc (.cells #[] 9)).drew.cell? ⟨wr.heap.size,0,none⟩=some (.string s)/\wr.heap.size<((wr.alloc (.cells #[.string s] 9)).alloc (.cells #[] 9)).drew.heap.size from by
       have h:=(Box.new wr 9 #[.string s]).alloc (.cells #[] 9);exact⟨h.cell 0,h.lt⟩)
      refine Rv.one (i:=4) rfl (by kernel_rfl) (λK hK=>?_);refine step_app (by rfl) _ _ 28 rfl 9 i0 (.string ByteArray.empty) 1 16 Tryz.underlying28 HI.o.1 HI.o.2.1 HI.o.2.2.1 HI.o.2.2.2 rfl (by decide) wr.heap.size _ 0 0 [] (by rfl) (Row.empty _ _ _ _ _) (Below.size (B:=wr.heap.size) (by(repeat(first|with_reducible assumption|with_reducible exact Below.refl _ _|with_reducible apply below_al|with_reducible apply below_dr|with_reducible apply below_dn));done)) (some ⟨ga,0,none⟩) k c (nmC (xs.take k)) (by rfl) (HP1.o _ (by(repeat(first|with_reducible assumption|with_reducible exact Below.refl _ _|with_reducible apply below_al|with_reducible apply below_dr|with_reducible apply below_dn));done)) (by rw[nmC,List.length_map,HLK.o.1,Nat.mul_one]) (λh=>by cases h) (one_nm _) (by unfold maxLen;omega) (by omega) ?_
      intro A5 n5 c5 wX hn5 o5 g5 k5;have hn5':n5=k:=by omega
      clear hn5;subst hn5';have HA5:=h_ (show Row wX wr.heap.size 9 1 A5 n5 c5 (nmC (xs.take n5))from by simpa using o5);have HWX:=h_ (show Below wr.heap.size wr wX from below_tr (by(repeat(first|with_reducible assumption|with_reducible exact Below.refl _ _|with_reducible apply below_al|with_reducible apply below_dr|with_reducible apply below_dn));done) g5)
      have HNC:=h_ (show wX.cell? ⟨wr.heap.size,0,none⟩=some (.string s)/\wr.heap.size<wX.heap.size from⟨((below_tr (Below.refl _ _) g5).cell (p:=⟨wr.heap.size,0,none⟩) HNN.o.2).trans HNN.o.1,Nat.lt_of_lt_of_le HNN.o.2 g5.size⟩);clear o5 g5 k5 HNN;refine hK.out _ _ hHeld ?_;clear hK K;try simp only[y1_,y2_,y3_,Act.put,y4_,y5_,y6_]
      generalize hN:wr.heap.size=N at HNC ⊢
     all_goals
      refine Rv.one (i:=7) rfl (by kernel_rfl) (λK hK=>?_);have hgeA:=(λq hq=>(HA5.o.lt q hq).1);have HGA:=h_ hgeA;clear hgeA;refine step_app (by rfl) _ _ 28 rfl 9 i0 (.string ByteArray.empty) 1 16 Tryz.underlying28 HI.o.1 HI.o.2.1 HI.o.2.2.1 HI.o.2.2.2 rfl (by decide) wr.heap.size A5 n5 c5 (nmC (xs.take n5)) (by rfl) HA5.o HWX.o.size (some ⟨N,0,none⟩) 1 1 [.string s] (by rfl) (B:=N+1) (λi u hi=>by
       have hi0:i=0:=by
        rcases Nat.eq_zero_or_pos i with h|h
        ·exact h
        ·rw[List.getElem?_eq_none (by simp;omega)]at hi;cases hi
       subst hi0;simp only[List.getElem?_cons_zero,Option.some.injEq]at hi;subst hi;exact⟨N,0,rfl,Nat.lt_succ_self _,HNC.o.1⟩) rfl (λh=>by cases h) (one_str s) (by unfold maxLen;omega) (by omega) ?_
      intro A7 n7 c7 w7 hn7 o7 g7 k7;have hn7':n7=n5+1:=hn7;clear hn7;subst hn7';have HW7:=h_ (show Below wr.heap.size wr w7 from HWX.o.grown g7 HWX.o.size (λq hq=>HGA.o q hq));have HA7:=h_ o7;clear o7 g7 k7 HA5 HWX HGA HNC;refine hK.out _ _ hHeld ?_;clear hK K;try simp only[y1_,y2_,y3_,Act.put,y4_,y5_,y6_]
      refine Rv.one (i:=11) rfl (by kernel_rfl) (λK hK=>?_);refine step_app (by rfl) _ _ 28 rfl 9 i0 (.string ByteArray.empty) 1 16 Tryz.underlying28 HI.o.1 HI.o.2.1 HI.o.2.2.1 HI.o.2.2.2 rfl (by decide) wr.heap.size A7 (n5+1) c7 _ (by rfl) HA7.o HW7.o.size A2 (n-n5) (c-n5) (nmC (xs.drop n5)) (by rfl) (HP2.o _ HW7.o) (by rw[nmC,List.length_map,HLK.o.2,Nat.mul_one]) HA2.o (one_nm _) (by unfold maxLen;omega) (by omega) ?_;intro A9 n9 c9 w9 hn9 o9 g9 k9;have hn9':n9=n+1:=by omega
      clear hn9;subst hn9';have HA9:=h_ (show Row w9 wr.heap.size 9 1 A9 (n+1) c9 (nmC (insN xs s))from by
       rw[HST.o];simpa[nmC]using o9)
      have HW9:=h_ (show Below wr.heap.size wr w9 from HW7.o.grown g9 HW7.o.size (λq hq=>(HA7.o.lt q hq).1));clear o9 g9 k9 HA7 HW7;refine hK.out _ _ hHeld ?_;clear hK K;try simp only[y1_,y2_,y3_,Act.put,y4_,y5_,y6_]
      refine v_ 12 rfl ?_;refine Rv.done (by kernel_rfl) ?_ _;clear hHeld;obtain⟨g',hA',_,_,_,_⟩:=own_of HA9.o (by omega);subst hA';have hlen:(insN xs s).length=n+1:=by rw[HST.o,List.length_append,List.length_append,HLK.o.1,HLK.o.2,List.length_singleton];omega
      have HLEN:=h_ hlen;clear hlen;go_wp2_with fail
      go_ret;exact⟨g',c9,by rw[HLEN.o];rfl,by rw[HLEN.o];exact HA9.o.down hbase,HW9.o⟩
    ·have HST:=h_ (show insN xs s=xs from by
      unfold insN;rw[HI2.o,HXK.o,if_pos];rw[str_eq,decide_eq_true_iff]at he;rw[he])
     clear HXK HI2;go_wp2_with fail
     go_ret;rw[HST.o];exact⟨ga,c,rfl,HR.o,Below.refl _ _⟩
   ·have HN:=h_ (HGO.o hl);have hl2:Op.bytesLess x.toList s.toList=true:=hl;clear HGO HSTOP HXK hl;go_wp2_with fail
    refine⟨⟨k+1,by omega,by go_num,HN.o,by first|rfl|trivial⟩,by simp[intOf];omega⟩
  ·have hke:k=xs.length:=by omega
   have HST:=h_ (show insN xs s=xs.take k++[s]++xs.drop k from by
    have h:=HP.o;rw[hke,List.drop_length,insP,Nat.add_zero]at h;unfold insN;rw[h,List.getElem?_eq_none (Nat.le_refl _),if_neg (by simp),hke])
   have hlt':¬(k:Int)<xs.length:=by omega
   clear HP hke;go_wp2_with fail
   clear hlt hlt';have HLK:=h_ (show(xs.take k).length=k/\(xs.drop k).length=xs.length-k from⟨by rw[List.length_take];omega,by rw[List.length_drop]⟩);have HP1:=h_ (λV (hV:Below wr.heap.size wr V)=>(show Rd V V.heap.size (some ⟨ga,0,none⟩) (nmC (xs.take k))from by
    have h:=((HR.o.prefix hk).rd.below hV).more hV.size;rw[Nat.mul_one]at h;simpa only[nmC,List.map_take]using h))
   have HP2:=h_ (λV (hV:Below wr.heap.size wr V)=>(show Rd V V.heap.size (if c=k then some ⟨ga,0,none⟩else some ⟨ga,k,none⟩) (nmC (xs.drop k))from by
    have h:=rd_tail1 (j:=k) ((HR.o.rd.below hV).more hV.size) (by simp[nmC]) hkc;simpa only[nmC,List.map_drop]using h))
   have HA2:=h_ (show(if c=k then some (⟨ga,0,none⟩:Addr)else some ⟨ga,k,none⟩)=none->c-k=0 from λh=>by split at h<;>cases h);have hkn:k<=c:=by omega
   generalize hnl:xs.length=n at *;have HNL:=h_ hnl;clear hnl;refine Rv.start (λ_=>True) (λ_=>false) (by kernel_rfl) ?_;have hHeld:True:=trivial;refine v_ 1 rfl ?_;refine v_ 2 rfl ?_;refine v_ 3 rfl ?_;refine v_ 5 rfl ?_;refine v_ 8 rfl ?_;refine v_ 9 rfl ?_;refine v_ 10 rfl ?_;generalize (if c=k then some (⟨ga,0,none⟩:Addr)else some ⟨ga,k,none⟩)=A2 at *;refine Rv.two (i:=0) (j:=6) rfl rfl (by kernel_rfl) (λK hK=>?s0) (λK hK=>?s6)
   case' s0=>
    go_simp
    refine hK.out _ _ hHeld ?_;clear hK K;try simp only[y1_,y2_,y3_,Act.put,y4_,y5_,y6_]
    refine Rv.two (i:=4) (j:=6) rfl rfl (by kernel_rfl) (λK hK=>?t4) (λK hK=>?t6)
   case' t4=>
    refine step_app (by rfl) _ _ 28 rfl 9 i0 (.string ByteArray.empty) 1 16 Tryz.underlying28 HI.o.1 HI.o.2.1 HI.o.2.2.1 HI.o.2.2.2 rfl (by decide) wr.heap.size _ 0 0 [] (by rfl) (Row.empty _ _ _ _ _) (Below.size (B:=wr.heap.size) (by(repeat(first|with_reducible assumption|with_reducible exact Below.refl _ _|with_reducible apply below_al|with_reducible apply below_dr|with_reducible apply below_dn));done)) (some ⟨ga,0,none⟩) k c (nmC (xs.take k)) (by rfl) (HP1.o _ (by(repeat(first|with_reducible assumption|with_reducible exact Below.refl _ _|with_reducible apply below_al|with_reducible apply below_dr|with_reducible apply below_dn));done)) (by rw[nmC,List.length_map,HLK.o.1,Nat.mul_one]) (λh=>by cases h) (one_nm _) (by unfold maxLen;omega) (by omega) ?_
    intro A5 n5 c5 w5 hn5 o5 g5 k5;have hn5':n5=k:=by omega
    clear hn5;subst hn5';have HA5:=h_ (show Row w5 wr.heap.size 9 1 A5 n5 c5 (nmC (xs.take n5))from by simpa using o5);have HWX:=h_ (show Below wr.heap.size wr w5 from below_tr (by(repeat(first|with_reducible assumption|with_reducible exact Below.refl _ _|with_reducible apply below_al|with_reducible apply below_dr|with_reducible apply below_dn));done) g5)
    clear o5 g5 k5;refine hK.out _ _ hHeld ?_;clear hK K;try simp only[y1_,y2_,y3_,Act.put,y4_,y5_,y6_]
    refine Rv.one (i:=6) rfl (by kernel_rfl) (λK hK=>?_);go_simp
    refine hK.out _ _ hHeld ?_;clear hK K;try simp only[y1_,y2_,y3_,Act.put,y4_,y5_,y6_]
    have HNC:=h_ (show(w5.alloc (.cells #[.string s] 9)).cell? ⟨w5.heap.size,0,none⟩=some (.string s)/\w5.heap.size<(w5.alloc (.cells #[.string s] 9)).heap.size from⟨(Box.new w5 9 #[.string s]).cell 0,(Box.new w5 9 #[.string s]).lt⟩);have B6:Below w5.heap.size w5 (w5.alloc (.cells #[.string s] 9)):=b_;replace HWX:=h_ (HWX.o.trans (B6.mono HWX.o.size));replace HA5:=h_ (HA5.o.call B6);clear B6;generalize w5.alloc (.cells #[.string s] 9)=wX at *;generalize w5.heap.size=N at *
   case' t6=>
    go_simp
    refine hK.out _ _ hHeld ?_;clear hK K;try simp only[y1_,y2_,y3_,Act.put,y4_,y5_,y6_]
    have HNN:=h_ (show((wr.alloc (.cells #[] 9)).alloc (.cells #[.string s] 9)).drew.cell? ⟨wr.heap.size+1,0,none⟩=some (.string s)/\wr.heap.size+1<((wr.alloc (.cells #[] 9)).alloc (.cells #[.string s] 9)).drew.heap.size from by
     have h:=Box.new (wr.alloc (.cells #[] 9)) 9 #[.string s];rw[World.size_alloc]at h;exact⟨h.cell 0,h.lt⟩)
    refine Rv.one (i:=4) rfl (by kernel_rfl) (λK hK=>?_);refine step_app (by rfl) _ _ 28 rfl 9 i0 (.string ByteArray.empty) 1 16 Tryz.underlying28 HI.o.1 HI.o.2.1 HI.o.2.2.1 HI.o.2.2.2 rfl (by decide) wr.heap.size _ 0 0 [] (by rfl) (Row.empty _ _ _ _ _) (Below.size (B:=wr.heap.size) (by(repeat(first|with_reducible assumption|with_reducible exact Below.refl _ _|with_reducible apply below_al|with_reducible apply below_dr|with_reducible apply below_dn));done)) (some ⟨ga,0,none⟩) k c (nmC (xs.take k)) (by rfl) (HP1.o _ (by(repeat(first|with_reducible assumption|with_reducible exact Below.refl _ _|with_reducible apply below_al|with_reducible apply below_dr|with_reducible apply below_dn));done)) (by rw[nmC,List.length_map,HLK.o.1,Nat.mul_one]) (λh=>by cases h) (one_nm _) (by unfold maxLen;omega) (by omega) ?_
    intro A5 n5 c5 wX hn5 o5 g5 k5;have hn5':n5=k:=by omega
    clear hn5;subst hn5';have HA5:=h_ (show Row wX wr.heap.size 9 1 A5 n5 c5 (nmC (xs.take n5))from by simpa using o5);have HWX:=h_ (show Below wr.heap.size wr wX from below_tr (by(repeat(first|with_reducible assumption|with_reducible exact Below.refl _ _|with_reducible apply below_al|with_reducible apply below_dr|with_reducible apply below_dn));done) g5)
    have HNC:=h_ (show wX.cell? ⟨wr.heap.size+1,0,none⟩=some (.string s)/\wr.heap.size+1<wX.heap.size from⟨((below_tr (Below.refl _ _) g5).cell (p:=⟨wr.heap.size+1,0,none⟩) HNN.o.2).trans HNN.o.1,Nat.lt_of_lt_of_le HNN.o.2 g5.size⟩);clear o5 g5 k5 HNN;refine hK.out _ _ hHeld ?_;clear hK K;try simp only[y1_,y2_,y3_,Act.put,y4_,y5_,y6_]
    generalize wr.heap.size+1=N at *
   case' s6=>
    go_simp
    refine hK.out _ _ hHeld ?_;clear hK K;try simp only[y1_,y2_,y3_,Act.put,y4_,y5_,y6_]
    refine Rv.one (i:=0) rfl (by kernel_rfl) (λK hK=>?_);go_simp
    refine hK.out _ _ hHeld ?_;clear hK K;try simp only[y1_,y2_,y3_,Act.put,y4_,y5_,y6_]
    have HNN:=h_ (show((wr.alloc (.cells #[.string s] 9)).alloc (.cells #[] 9)).drew.cell? ⟨wr.heap.size,0,none⟩=some (.string s)/\wr.heap.size<((wr.alloc (.cells #[.string s] 9)).alloc (.cells #[] 9)).drew.heap.size from by
     have h:=(Box.new wr 9 #[.string s]).alloc (.cells #[] 9);exact⟨h.cell 0,h.lt⟩)
    refine Rv.one (i:=4) rfl (by kernel_rfl) (λK hK=>?_);refine step_app (by rfl) _ _ 28 rfl 9 i0 (.string ByteArray.empty) 1 16 Tryz.underlying28 HI.o.1 HI.o.2.1 HI.o.2.2.1 HI.o.2.2.2 rfl (by decide) wr.heap.size _ 0 0 [] (by rfl) (Row.empty _ _ _ _ _) (Below.size (B:=wr.heap.size) (by(repeat(first|with_reducible assumption|with_reducible exact Below.refl _ _|with_reducible apply below_al|with_reducible apply below_dr|with_reducible apply below_dn));done)) (some ⟨ga,0,none⟩) k c (nmC (xs.take k)) (by rfl) (HP1.o _ (by(repeat(first|with_reducible assumption|with_reducible exact Below.refl _ _|with_reducible apply below_al|with_reducible apply below_dr|with_reducible apply below_dn));done)) (by rw[nmC,List.length_map,HLK.o.1,Nat.mul_one]) (λh=>by cases h) (one_nm _) (by unfold maxLen;omega) (by omega) ?_
    intro A5 n5 c5 wX hn5 o5 g5 k5;have hn5':n5=k:=by omega
    clear hn5;subst hn5';have HA5:=h_ (show Row wX wr.heap.size 9 1 A5 n5 c5 (nmC (xs.take n5))from by simpa using o5);have HWX:=h_ (show Below wr.heap.size wr wX from below_tr (by(repeat(first|with_reducible assumption|with_reducible exact Below.refl _ _|with_reducible apply below_al|with_reducible apply below_dr|with_reducible apply below_dn));done) g5)
    have HNC:=h_ (show wX.cell? ⟨wr.heap.size,0,none⟩=some (.string s)/\wr.heap.size<wX.heap.size from⟨((below_tr (Below.refl _ _) g5).cell (p:=⟨wr.heap.size,0,none⟩) HNN.o.2).trans HNN.o.1,Nat.lt_of_lt_of_le HNN.o.2 g5.size⟩);clear o5 g5 k5 HNN;refine hK.out _ _ hHeld ?_;clear hK K;try simp only[y1_,y2_,y3_,Act.put,y4_,y5_,y6_]
    generalize hN:wr.heap.size=N at HNC ⊢
   all_goals
    refine Rv.one (i:=7) rfl (by kernel_rfl) (λK hK=>?_);have hgeA:=(λq hq=>(HA5.o.lt q hq).1);have HGA:=h_ hgeA;clear hgeA;refine step_app (by rfl) _ _ 28 rfl 9 i0 (.string ByteArray.empty) 1 16 Tryz.underlying28 HI.o.1 HI.o.2.1 HI.o.2.2.1 HI.o.2.2.2 rfl (by decide) wr.heap.size A5 n5 c5 (nmC (xs.take n5)) (by rfl) HA5.o HWX.o.size (some ⟨N,0,none⟩) 1 1 [.string s] (by rfl) (B:=N+1) (λi u hi=>by
     have hi0:i=0:=by
      rcases Nat.eq_zero_or_pos i with h|h
      ·exact h
      ·rw[List.getElem?_eq_none (by simp;omega)]at hi;cases hi
     subst hi0;simp only[List.getElem?_cons_zero,Option.some.injEq]at hi;subst hi;exact⟨N,0,rfl,Nat.lt_succ_self _,HNC.o.1⟩) rfl (λh=>by cases h) (one_str s) (by unfold maxLen;omega) (by omega) ?_
    intro A7 n7 c7 w7 hn7 o7 g7 k7;have hn7':n7=n5+1:=hn7;clear hn7;subst hn7';have HW7:=h_ (show Below wr.heap.size wr w7 from HWX.o.grown g7 HWX.o.size (λq hq=>HGA.o q hq));have HA7:=h_ o7;clear o7 g7 k7 HA5 HWX HGA HNC;refine hK.out _ _ hHeld ?_;clear hK K;try simp only[y1_,y2_,y3_,Act.put,y4_,y5_,y6_]
    refine Rv.one (i:=11) rfl (by kernel_rfl) (λK hK=>?_);refine step_app (by rfl) _ _ 28 rfl 9 i0 (.string ByteArray.empty) 1 16 Tryz.underlying28 HI.o.1 HI.o.2.1 HI.o.2.2.1 HI.o.2.2.2 rfl (by decide) wr.heap.size A7 (n5+1) c7 _ (by rfl) HA7.o HW7.o.size A2 (n-n5) (c-n5) (nmC (xs.drop n5)) (by rfl) (HP2.o _ HW7.o) (by rw[nmC,List.length_map,HLK.o.2,Nat.mul_one]) HA2.o (one_nm _) (by unfold maxLen;omega) (by omega) ?_;intro A9 n9 c9 w9 hn9 o9 g9 k9;have hn9':n9=n+1:=by omega
    clear hn9;subst hn9';have HA9:=h_ (show Row w9 wr.heap.size 9 1 A9 (n+1) c9 (nmC (insN xs s))from by
     rw[HST.o];simpa[nmC]using o9)
    have HW9:=h_ (show Below wr.heap.size wr w9 from HW7.o.grown g9 HW7.o.size (λq hq=>(HA7.o.lt q hq).1));clear o9 g9 k9 HA7 HW7;refine hK.out _ _ hHeld ?_;clear hK K;try simp only[y1_,y2_,y3_,Act.put,y4_,y5_,y6_]
    refine v_ 12 rfl ?_;refine Rv.done (by kernel_rfl) ?_ _;clear hHeld;obtain⟨g',hA',_,_,_,_⟩:=own_of HA9.o (by omega);subst hA';have hlen:(insN xs s).length=n+1:=by rw[HST.o,List.length_append,List.length_append,HLK.o.1,HLK.o.2,List.length_singleton];omega
    have HLEN:=h_ hlen;clear hlen;go_wp2_with fail
    go_ret;exact⟨g',c9,by rw[HLEN.o];rfl,by rw[HLEN.o];exact HA9.o.down hbase,HW9.o⟩
end CInsS
/- NamesGiven: the reference's. -/
namespace CNGS
open Kit CCode CName CFixups CSymbols PObj BObj PValid CObjValid CObjValidS BStore BList PLink CSorted PIns CInsS
def givY(y:YD):Bool:=!decide (y.2.2.1=-1)&& !decide (y.2.1=0)
def givS(ys:List YD):List ByteArray:=(ys.filter givY).map (·.1)
def givN(d:OD):List ByteArray:=bif objOk d then insAll (givS d.ys)else[]
theorem insAll_len(ns:List ByteArray):(insAll ns).length<=ns.length:=by
 suffices H:∀(ns acc:List ByteArray),(ns.foldl insN acc).length<=acc.length+ns.length by
  have:=H ns [];simpa[insAll]using this
 intro ns;induction ns with
 |nil=>intro acc;simp
 |cons n ns ih=>intro acc;have h1:=ih (insN acc n);have h2:=insN_len acc n;simp only[List.foldl_cons,List.length_cons];omega
theorem givS_len(ys:List YD):(givS ys).length<=ys.length:=by unfold givS;rw[List.length_map];exact List.length_filter_le _ _
theorem givS_snoc{ys:List YD}{k:Nat}(h:k<ys.length):givS (ys.take (k+1))=givS (ys.take k)++(bif givY ys[k]then[ys[k].1]else[]):=by
 unfold givS;rw[take_succ h,List.filter_append,List.map_append];cases hg:givY ys[k]<;>simp[hg]
set_option maxHeartbeats 4000000 in
theorem namesGivenS_any(o:OV)(w:World)(hr:RdO w w.heap.size o)(hf:Fit o):
  Calls Tryz.prog 107 #[.agg #[.slice o.A o.ps.length o.c,.slice o.Y o.ys.length o.yc]] w (RetN (givN o.d) w):=by
 have HR:=h_ hr;have HF:=h_ hf;clear hr hf;have HB:=h_ (show Below w.heap.size w ((w.alloc (.cells #[.slice o.A o.ps.length o.c,.slice o.Y o.ys.length o.yc] 26)).alloc (.cells #[] 9))from b_);have HX:=h_ ((Box.new w 26 #[.slice o.A o.ps.length o.c,.slice o.Y o.ys.length o.yc]).alloc (.cells #[] 9));go_enter Tryz.func107,Tryz.ntmps107
 go_wp2_with fail
 have hLg:(w.alloc (.cells #[.slice o.A o.ps.length o.c,.slice o.Y o.ys.length o.yc] 26)).heap.size=w.heap.size+1:=by simp
 generalize (w.alloc (.cells #[.slice o.A o.ps.length o.c,.slice o.Y o.ys.length o.yc] 26)).alloc (.cells #[] 9)=w0 at *;clear hLg;go_loopw [3,4] (λs i wi=>∃(k g c1:Nat) (ns:List ByteArray),k<=o.ys.length/\s=.slice (some ⟨g,0,none⟩) ns.length c1/\i=.int .i64 k/\ns=insAll (givS (o.ys.take k))/\(k=0\/objOk o.d=true)/\Row wi w.heap.size 9 1 (some ⟨g,0,none⟩) ns.length c1 (nmC ns)/\Box wi w.heap.size 26 #[.slice o.A o.ps.length o.c,.slice o.Y o.ys.length o.yc]/\Below w.heap.size w wi) (λ_ i _=>o.ys.length-(intOf i).toNat)
 case atStart=>exact⟨0,w.heap.size+1,0,[],Nat.zero_le _,rfl,rfl,rfl,.inl rfl,Row.empty _ _ _ _ _,HX.o,HB.o⟩
 case round=>
  rename World=>wk
  clear HX HB;obtain⟨k,g,c1,ns,hk,rfl,rfl,hns,hok,hrow,hx,hb⟩:=hrel;have HNS:=h_ hns;have HOK:=h_ hok;have HW:=h_ hrow;have HX:=h_ hx;have HB:=h_ hb;clear hns hok hrow hx hb;have x0:=d_ HX.o 0;have x1:=d_ HX.o 1;have hxl:=HX.o.lt;by_cases hlt:k<o.ys.length
  ·go_wp2_with fail
   refine(objectValidS_any o wk ((HR.o.below HB.o).more HB.o.size) HF.o).mono ?_;rintro e w2 ⟨rfl,b2⟩;have HW2:=h_ (HW.o.call b2);replace HB:=c_ HB b2;replace HX:=h_ (HX.o.call b2);clear b2;clear x0 x1 hxl HW;cases ho:objOk o.d
   ·have hk0:k=0:=by
     rcases HOK.o with h|h
     ·exact h
     ·rw[ho]at h;cases h
    have HV:=h_ (show givN o.d=ns from by
     unfold givN;rw[ho,HNS.o,hk0]
     rfl)
    clear ho hk0;go_wp2_with fail
    go_ret;rw[HV.o];exact⟨_,c1,rfl,HW2.o,HB.o⟩
   ·have HO:=h_ ho;have hy12:o.ys.length<=12:=by have h:=(PClear.obj_all ho).2.1;exact h
    obtain⟨b,off,hA,hbb,hc⟩:=(HR.o.2.below HB.o).row symbolC_len (by decide) hlt;have hc0:=hc 0 _ rfl;have hc1:=hc 1 _ rfl;have hc2:=hc 2 _ rfl;simp only[Nat.add_zero]at hc0;have HSN:=h_ (givS_snoc hlt);have HNL:=h_ (show ns.length<=k from by
     rw[HNS.o];have h1:=insAll_len (givS (o.ys.take k));have h2:=givS_len (o.ys.take k);rw[List.length_take]at h2;omega)
    have x1:=d_ HX.o 1;have hxl:=HX.o.lt;have HA:=h_ hA;rw[hA]at x1;clear ho hc hA;generalize o.ys[k]=z at *;obtain⟨z1,z2,z3,z4⟩:=z;simp only at hc0 hc1 hc2 HSN;by_cases h3:z3=-1
    ·have e3:(z3 != -1)=false:=by simp[h3]
     have HNX:=h_ (show ns=insAll (givS (o.ys.take (k+1)))from by rw[HSN.o,HNS.o];simp[givY,h3]);clear h3 HSN;go_wp2_with fail
     refine⟨⟨k+1,g,c1,ns,by omega,rfl,by go_num,HNX.o,.inr HO.o,HW2.o,HX.o,HB.o⟩,by simp[intOf];omega⟩
    ·have e3:(z3 != -1)=true:=bne_iff_ne.2 h3;by_cases h2:z2=0
     ·have e2:(z2 != 0)=false:=by simp[h2]
      have HNX:=h_ (show ns=insAll (givS (o.ys.take (k+1)))from by rw[HSN.o,HNS.o];simp[givY,h2]);clear h3 h2 HSN;go_wp2_with fail
      refine⟨⟨k+1,g,c1,ns,by omega,rfl,by go_num,HNX.o,.inr HO.o,HW2.o,HX.o,HB.o⟩,by simp[intOf];omega⟩
     ·have e2:(z2 != 0)=true:=bne_iff_ne.2 h2;have HNX:=h_ (show insN ns z1=insAll (givS (o.ys.take (k+1)))from by rw[HSN.o,HNS.o];simp[givY,h2,h3,insAll_snoc]);have HINS:=h_ (l2Insert_any g ns z1 c1 w.heap.size w2 HW2.o HB.o.size (by have:=HNL.o;omega));clear h3 h2 HSN;go_wp2_with fail
      refine HINS.o.mono ?_;rintro e w3 ⟨g3,c3,rfl,r3,b3⟩;have HR3:=h_ r3;replace HB:=c_ HB b3;replace HX:=h_ (HX.o.call b3);clear b3;clear r3 HINS;generalize insN ns z1=ms at *;go_wp2_with fail
      refine⟨⟨k+1,g3,c3,ms,by omega,rfl,by go_num,HNX.o,.inr HO.o,HR3.o,HX.o,HB.o⟩,by simp[intOf];omega⟩
  ·have hke:k=o.ys.length:=by omega
   have HV:=h_ (show givN o.d=ns from by
    unfold givN;rw[HNS.o,hke,List.take_length];rcases HOK.o with h|h
    ·have h0:o.ys=[]:=List.eq_nil_of_length_eq_zero (by omega);have h1:o.d.ys=[]:=h0;rw[h1,h0];cases objOk o.d<;>rfl
    ·rw[h]
     rfl)
   clear hke;go_wp2_with fail
   go_ret;rw[HV.o];exact⟨_,c1,rfl,HW.o,HB.o⟩
end CNGS
/- Names given twice and names missing: plain. -/
namespace PTwice
open Kit CCode CName CFixups CSymbols PObj PValid PLink PClear P11 CSorted PIns CNGS
def strongN(ys:List YD):List ByteArray:=(ys.filter isStrong).map (·.1)
def strongL(l:List OD):List ByteArray:=l.flatMap λd=>strongN d.ys
def TwI(st:List ByteArray×List ByteArray):Prop:=st.1=[]↔st.2.Nodup
theorem tw_step(st:List ByteArray×List ByteArray)(y:YD)(h:TwI st):TwI (twStep st y)/\(twStep st y).2=st.2++strongN [y]:=by
 unfold twStep;cases hs:isStrong y
 ·exact⟨h,by simp[strongN,hs]⟩
 ·refine⟨?_,by simp[strongN,hs]⟩;unfold TwI at h ⊢;simp only[cond_true];cases hd:st.2.any λx=>decide (x=y.1)
  ·have hn:y.1∉st.2:=λhm=>by rw[List.any_eq_false]at hd;exact hd _ hm (by simp)
   simp only[cond_false];rw[h,List.nodup_append];constructor
   ·intro h1;refine⟨h1,by simp,λa ha b hb=>?_⟩;rw[List.mem_singleton.1 hb];exact λe=>hn (e▸ha)
   ·exact λh1=>h1.1
  ·have hm:y.1∈st.2:=by rw[List.any_eq_true]at hd;obtain⟨x,hx,he⟩:=hd;rw[<-of_decide_eq_true he];exact hx
   simp only[cond_true];constructor
   ·intro h1;simp at h1
   ·intro h1;rw[List.nodup_append]at h1;exact absurd rfl (h1.2.2 _ hm _ (by simp))
theorem tw_S:∀(ys:List YD) (st:List ByteArray×List ByteArray),TwI st->TwI (twS st ys)/\(twS st ys).2=st.2++strongN ys
 |[],st,h=>⟨h,by simp[twS,strongN]⟩
 |y::ys,st,h=>by
  obtain⟨h1,h2⟩:=tw_step st y h;obtain⟨h3,h4⟩:=tw_S ys _ h1;refine⟨h3,?_⟩;rw[show twS st (y::ys)=twS (twStep st y) ys from rfl,h4,h2,List.append_assoc];congr 1
  unfold strongN;rw[<-List.map_append,<-List.filter_append]
  rfl
theorem tw_O:∀(l:List OD) (st:List ByteArray×List ByteArray),TwI st->TwI (twO st l)/\(twO st l).2=st.2++strongL l
 |[],st,h=>⟨h,by simp[twO,strongL]⟩
 |d::l,st,h=>by
  obtain⟨h1,h2⟩:=tw_S d.ys st h;obtain⟨h3,h4⟩:=tw_O l _ h1;refine⟨h3,?_⟩;rw[show twO st (d::l)=twO (twS st d.ys) l from rfl,h4,h2,List.append_assoc]
  rfl
theorem twice_nil(l:List OD):twice l=[]↔(strongL l).Nodup:=by obtain⟨h1,h2⟩:=tw_O l ([],[]) (by simp[TwI]);unfold twice;rw[List.nil_append]at h2;rw[<-h2];exact h1
def cntS(l:List OD)(nm:ByteArray):Nat:=((enO 0 l).filter λe=>strongY nm e.2).length
theorem enS_map(k:Nat):∀(j:Nat) (ys:List YD),(enS k j ys).map (·.2)=ys
 |_,[]=>rfl
 |j,y::ys=>by rw[enS,List.map_cons,enS_map k (j+1) ys]
theorem enO_map:∀(k:Nat) (l:List OD),(enO k l).map (·.2)=l.flatMap OD.ys
 |_,[]=>rfl
 |k,d::l=>by rw[enO,List.map_append,enS_map,enO_map (k+1) l,List.flatMap_cons]
theorem strong_flat(l:List OD):strongL l=strongN (l.flatMap OD.ys):=by
 induction l with
 |nil=>rfl
 |cons d l ih=>rw[strongL,List.flatMap_cons,<-strongL,ih,List.flatMap_cons];simp[strongN]
theorem strongY_eq(nm:ByteArray)(y:YD):strongY nm y=(isStrong y&&decide (y.1=nm)):=by
 unfold strongY hitY isStrong;by_cases a:y.1=nm<;>by_cases b:y.2.1=1<;>by_cases c:y.2.2.1=-1<;>simp[a,b,c]
def cntN(xs:List ByteArray)(nm:ByteArray):Nat:=(xs.filter λx=>decide (x=nm)).length
theorem cnt_pos{xs:List ByteArray}{nm:ByteArray}(h:0<cntN xs nm):nm∈xs:=by obtain⟨x,hx⟩:=List.exists_mem_of_length_pos h;obtain⟨h1,h2⟩:=List.mem_filter.1 hx;rw[<-of_decide_eq_true h2];exact h1
theorem cnt_mem{xs:List ByteArray}{nm:ByteArray}(h:nm∈xs):0<cntN xs nm:=List.length_pos_of_mem (List.mem_filter.2 ⟨h,decide_eq_true rfl⟩)
theorem nodup_cnt:∀(xs:List ByteArray),xs.Nodup↔∀nm,cntN xs nm<=1
 |[]=>by simp[cntN]
 |x::xs=>by
  rw[List.nodup_cons,nodup_cnt xs];have hc:∀nm,cntN (x::xs) nm=(if x=nm then 1 else 0)+cntN xs nm:=λnm=>by
   unfold cntN;rw[List.filter_cons];by_cases he:x=nm
   ·simp[he];omega
   ·simp[he]
  constructor
  ·rintro⟨h1,h2⟩ nm;rw[hc];by_cases he:x=nm
   ·subst he;rcases Nat.eq_zero_or_pos (cntN xs x)with h0|h0
    ·simp[h0]
    ·exact absurd (cnt_pos h0) h1
   ·have:=h2 nm;simp[he];exact this
  ·intro h;refine⟨λhm=>?_,λnm=>?_⟩
   ·have h1:=h x;rw[hc]at h1;have h2:=cnt_mem hm;simp at h1;omega
   ·have h1:=h nm;rw[hc]at h1;omega
theorem cnt_eq(l:List OD)(nm:ByteArray):cntS l nm=cntN (strongL l) nm:=by
 unfold cntS;have h1:((enO 0 l).filter λe=>strongY nm e.2).length=(((enO 0 l).map (·.2)).filter λy=>strongY nm y).length:=by
  rw[List.filter_map,List.length_map]
  rfl
 rw[h1,enO_map,strong_flat];generalize l.flatMap OD.ys=ys;induction ys with
 |nil=>rfl
 |cons y ys ih=>
  unfold strongN cntN at ih ⊢;rw[List.filter_cons,List.filter_cons,strongY_eq];cases hs:isStrong y
  ·simpa using ih
  ·by_cases he:y.1=nm
   ·simp[he,ih]
   ·simp[he,ih]
def dupN(l:List OD)(nm:ByteArray):Bool:=decide (1<cntS l nm)
def twiceS(l:List OD):List ByteArray:=insAll ((l.flatMap givN).filter (dupN l))
theorem insAll_nil(xs:List ByteArray):(insAll xs).length=0↔xs=[]:=by
 constructor
 ·intro h;have h0:insAll xs=[]:=List.eq_nil_of_length_eq_zero h;rcases xs with _|⟨x,xs⟩
  ·rfl
  ·have:=((insAll_spec (x::xs)).2 x).2 List.mem_cons_self;rw[h0]at this;cases this
 ·rintro rfl
  rfl
theorem givN_mem{d:OD}(h:objOk d=true){nm:ByteArray}(hm:nm∈strongN d.ys):nm∈givN d:=by unfold givN;rw[h,cond_true];refine((insAll_spec _).2 nm).2 ?_;unfold strongN at hm;obtain⟨y,hy,rfl⟩:=List.mem_map.1 hm;obtain⟨h1,h2⟩:=List.mem_filter.1 hy;refine List.mem_map.2 ⟨y,List.mem_filter.2 ⟨h1,?_⟩,rfl⟩;simp only[isStrong,Bool.and_eq_true,decide_eq_true_eq,Bool.not_eq_true',decide_eq_false_iff_not]at h2;simp only[givY,Bool.and_eq_true,Bool.not_eq_true',decide_eq_false_iff_not];exact⟨h2.2,by omega⟩
theorem twice_same{l:List OD}(h:∀d∈l,objOk d=true):(twiceS l).length=0↔(twice l).length=0:=by
 rw[List.length_eq_zero_iff (l:=twice l),twice_nil];unfold twiceS;rw[insAll_nil,List.filter_eq_nil_iff];simp only[dupN,decide_eq_true_eq,cnt_eq];constructor
 ·intro h1;rw[nodup_cnt];intro nm;rcases Nat.lt_or_ge 1 (cntN (strongL l) nm)with h2|h2
  ·have hm:nm∈strongL l:=cnt_pos (by omega);obtain⟨d,hd,hn⟩:=List.mem_flatMap.1 hm;exact absurd h2 (h1 nm (List.mem_flatMap.2 ⟨d,hd,givN_mem (h d hd) hn⟩))
  ·exact h2
 ·intro h1 nm _ h2;rw[nodup_cnt]at h1;have:=h1 nm;omega
def missSS(l:List OD):List ByteArray:=insAll (miss l)
theorem miss_same(l:List OD):(missSS l).length=0↔(miss l).length=0:=by unfold missSS;rw[insAll_nil,List.length_eq_zero_iff]
end PTwice
/- NamesTwice and NamesMissing; the reference's. -/
namespace CNTwS
open Kit CCode CName CFixups CSymbols PObj BObj PValid PClear CObjValid CObjValidS BStore BList PLink PLinkL CFind P11 C11 CSorted PIns CInsS CNGS CPlaceS PTwice CStrRows
theorem cnt_st(l:List OD)(nm:ByteArray):(st11 nm (enO 0 l)).2.1=(cntS l nm:Int):=by rw[st11_eq];rfl
theorem bind_of{l:List OD}(h:objsOk l=true):∀d∈l,∀y∈d.ys,0<=y.2.1/\y.2.1<=2:=λd hd y hy=>by simp only[objsOk,Bool.and_eq_true,decide_eq_true_eq,List.all_eq_true]at h;exact(sym_facts (((obj_iff d).1 (h.2 d hd)).2.2.2.1 y hy)).1
theorem some_st{l:List OD}(h:objsOk l=true)(nm:ByteArray):(st11 nm (enO 0 l)).2.2=(findN l nm).isSome:=(given_find (bind_of h) nm).2
theorem objs_ok{os:List OV}(h:objsOk (os.map OV.d)=true):os.length<=4/\∀o∈os,o.ys.length<=12/\objOk o.d=true:=by simp only[objsOk,Bool.and_eq_true,decide_eq_true_eq,List.all_eq_true,List.length_map]at h;exact⟨h.1,λo ho=>⟨(obj_all (h.2 _ (List.mem_map_of_mem ho))).2.1,h.2 _ (List.mem_map_of_mem ho)⟩⟩
theorem givN_len{o:OV}(h:o.ys.length<=12):(givN o.d).length<=12:=by
 unfold givN;cases objOk o.d
 ·exact Nat.zero_le _
 ·exact Nat.le_trans (insAll_len _) (Nat.le_trans (givS_len _) h)
theorem twS_next{l:List OD}{k:Nat}(h:k<l.length):((l.take (k+1)).flatMap givN)=(l.take k).flatMap givN++givN l[k]:=by rw[take_succ h,List.flatMap_append];simp
theorem dup_snoc(l:List OD)(xs:List ByteArray)(x:ByteArray):(xs++[x]).filter (dupN l)=xs.filter (dupN l)++(bif dupN l x then[x]else[]):=by
 rw[List.filter_append];cases h:dupN l x<;>simp[h]
set_option maxHeartbeats 8000000 in
theorem namesTwiceS_any(A:Option Addr)(os:List OV)(c:Nat)(w:World)(hr:RdOs w w.heap.size A os)(hf:Fits os)(hok:objsOk (os.map OV.d)=true):
  Calls Tryz.prog 116 #[.slice A os.length c] w (RetN (twiceS (os.map OV.d)) w):=by
 have HR:=h_ hr;have HF:=h_ hf;obtain⟨h4,hall⟩:=objs_ok hok;have HAL:=h_ hall;have HLN:=h_ (show Lens os from⟨hf.n,λo ho=>Nat.le_trans (hall o ho).1 (by decide)⟩);have HOK:=h_ hok;clear hr hf hall hok;have HB:=h_ (show Below w.heap.size w (w.alloc (.cells #[] 9))from b_);go_enter Tryz.func116,Tryz.ntmps116
 go_wp2_with fail
 generalize w.alloc (.cells #[] 9)=w0 at *;generalize hLL:os.map OV.d=l at *;have HLL:=h_ hLL;clear hLL;go_loopw [3,4] (λs i wi=>∃(k g c1:Nat) (ns:List ByteArray),k<=os.length/\s=.slice (some ⟨g,0,none⟩) ns.length c1/\i=.int .i64 k/\ns=insAll (((l.take k).flatMap givN).filter (dupN l))/\ns.length<=12*k/\Row wi w.heap.size 9 1 (some ⟨g,0,none⟩) ns.length c1 (nmC ns)/\Below w.heap.size w wi) (λ_ i _=>os.length-(intOf i).toNat)
 case atStart=>exact⟨0,w.heap.size,0,[],Nat.zero_le _,rfl,rfl,rfl,Nat.le_refl _,Row.empty _ _ _ _ _,HB.o⟩
 case round=>
  rename World=>wk
  clear HB;obtain⟨k,g,c1,ns,hk,rfl,rfl,hns,hnl,hrow,hb⟩:=hrel;have HNS:=h_ hns;have HW:=h_ hrow;have HB:=h_ hb;clear hns hrow hb;by_cases hlt:k<os.length
  ·go_wp2_with fail
   refine(objectsValidS_any A os c wk ((HR.o.below HB.o).more HB.o.size) HF.o).mono ?_;rintro e w1 ⟨rfl,b1⟩;rw[HLL.o,HOK.o];replace HB:=c_ HB b1;replace HW:=h_ (HW.o.call b1);clear b1;obtain⟨bb,fo,hA,hbb,hc0,hc1⟩:=(HR.o.below HB.o).at hlt;have HTK:=h_ (show((l.take (k+1)).flatMap givN)=(l.take k).flatMap givN++givN os[k].d from by
    have hl:k<l.length:=by rw[<-HLL.o];simpa using hlt
    rw[twS_next hl];simp[<-HLL.o])
   have HRO:=h_ (((HR.o.2 _ (List.getElem_mem hlt)).below HB.o).more HB.o.size);have HFO:=h_ (HF.o.o _ (List.getElem_mem hlt));have hgl:=givN_len (HAL.o _ (List.getElem_mem hlt)).1;subst hA;generalize os[k]=o at *;go_wp2_with fail
   refine(namesGivenS_any o w1 HRO.o HFO.o).mono ?_;rintro e w3 ⟨GA,gc,rfl,rg,b3⟩;have HG:=h_ rg;replace HB:=c_ HB b3;replace HW:=h_ (HW.o.call b3);clear b3;generalize hgv:givN o.d=gs at *;clear rg hc0 hc1 HRO HFO hgv;go_wp2_with fail
   go_loopw [3,6] (λs i wi=>∃(j g c1:Nat) (ms:List ByteArray),j<=gs.length/\s=.slice (some ⟨g,0,none⟩) ms.length c1/\i=.int .i64 j/\ms=insAll (((l.take k).flatMap givN++gs.take j).filter (dupN l))/\ms.length<=12*k+j/\Row wi w.heap.size 9 1 (some ⟨g,0,none⟩) ms.length c1 (nmC ms)/\Rd wi wi.heap.size GA (nmC gs)/\Below w.heap.size w wi) (λ_ i _=>gs.length-(intOf i).toNat)
   case atStart=>exact⟨0,g,c1,ns,Nat.zero_le _,rfl,rfl,by simpa using HNS.o,by omega,HW.o,HG.o.rd,HB.o⟩
   case round=>
    rename World=>wi
    clear HG HW HB;obtain⟨j,g,c1,ms,hj,rfl,rfl,hms,hml,hrow,hrg,hb⟩:=hrel;have HMS:=h_ hms;have HW:=h_ hrow;have HRG:=h_ hrg;have HB:=h_ hb;clear hms hrow hb;by_cases hjl:j<gs.length
    ·obtain⟨b,off,hA,hbb,hc⟩:=hrg j (.string gs[j]) (by simp[nmC,List.getElem?_eq_getElem hjl]);have HNX:=h_ (show(bif dupN l gs[j]then insN ms gs[j]else ms)=insAll (((l.take k).flatMap givN++gs.take (j+1)).filter (dupN l))from by
      rw[take_succ hjl,<-List.append_assoc,dup_snoc];cases dupN l gs[j]
      ·simpa using HMS.o
      ·simp only[cond_true];rw[insAll_snoc,<-HMS.o])
     clear hrg;subst hA;generalize gs[j]=nm at *;go_wp2_with fail
     refine(given_any (some ⟨bb,fo,none⟩) os c nm wi ((HR.o.below HB.o).more HB.o.size) HLN.o).mono ?_;rintro e w5 ⟨rfl,b5⟩;have hc5:=(b5.cell (p:=⟨b,off+j,none⟩) hbb).trans (by simpa using hc);have hbb5:=Nat.lt_of_lt_of_le hbb b5.size;have HRG5:=h_ ((HRG.o.below b5).more b5.size);replace HB:=c_ HB b5;replace HW:=h_ (HW.o.call b5);clear b5;unfold gvV;rw[HLL.o,cnt_st];generalize (st11 nm (enO 0 l)).2.2=fl at *;generalize (st11 nm (enO 0 l)).1=gg at *;have B6:Below w5.heap.size w5 (w5.alloc (.cells #[.int .i64 gg.1,.int .i64 gg.2] 79)):=b_;have hc6:=(B6.cell (p:=⟨b,off+j,none⟩) hbb5).trans hc5;have HRG6:=h_ ((HRG5.o.below B6).more B6.size);replace HB:=c_ HB B6;replace HW:=h_ (HW.o.call B6);clear B6;have hl2:=insN_len ms nm;clear hc hc5 hbb;by_cases hd:1<cntS l nm
     ·have HDT:=h_ (show dupN l nm=true from decide_eq_true hd);have hcn:(cntS l nm:Int)>1:=by omega
      generalize (cntS l nm:Int)=cn at *;have HINS:=h_ (l2Insert_any g ms nm c1 w.heap.size _ HW.o HB.o.size (by omega));have HNX':=h_ (show insN ms nm=insAll (((l.take k).flatMap givN++gs.take (j+1)).filter (dupN l))from by
       have h:=HNX.o;rw[HDT.o]at h;exact h)
      clear hd HNX;go_wp2_with fail
      refine HINS.o.mono ?_;rintro e w7 ⟨g7,c7,rfl,r7,b7⟩;have HR7:=h_ r7;have HRG7:=h_ ((HRG6.o.below b7).more b7.size);replace HB:=c_ HB b7;clear b7;clear r7 HINS hc6;generalize insN ms nm=qs at *;go_wp2_with fail
      refine⟨⟨j+1,g7,c7,qs,by omega,rfl,by go_num,HNX'.o,by omega,HR7.o,HRG7.o,HB.o⟩,by simp[intOf];omega⟩
     ·have HDT:=h_ (show dupN l nm=false from decide_eq_false hd);have hcn:¬((cntS l nm:Int)>1):=by omega
      generalize (cntS l nm:Int)=cn at *;have HNX':=h_ (show ms=insAll (((l.take k).flatMap givN++gs.take (j+1)).filter (dupN l))from by
       have h:=HNX.o;rw[HDT.o]at h;exact h)
      clear hd HNX;go_wp2_with fail
      refine⟨⟨j+1,g,c1,ms,by omega,rfl,by go_num,HNX'.o,by omega,HW.o,HRG6.o,HB.o⟩,by simp[intOf];omega⟩
    ·have hje:j=gs.length:=by omega
     have HF2:=h_ (show ms=insAll (((l.take (k+1)).flatMap givN).filter (dupN l))from by rw[HTK.o,HMS.o,hje,List.take_length]);clear hrg;go_wp2_with fail
     refine⟨⟨k+1,g,c1,ms,by omega,rfl,by go_num,HF2.o,by omega,HW.o,HB.o⟩,by simp[intOf];omega⟩
  ·have hke:k=os.length:=by omega
   have HV:=h_ (show twiceS l=ns from by
    unfold twiceS;rw[HNS.o,List.take_of_length_le (by rw[<-HLL.o,hke];simp)])
   clear hke;go_wp2_with fail
   go_ret;rw[HV.o];exact⟨_,c1,rfl,HW.o,HB.o⟩
theorem missS_snoc(l:List OD)(a:List YD)(y:YD):missS l (a++[y])=missS l a++(bif isMiss l y then[y.1]else[]):=by
 unfold missS;rw[List.filter_append,List.map_append];cases h:isMiss l y<;>simp[h]
theorem miss_take(l m:List OD)(k:Nat)(h:k<m.length):(m.take (k+1)).flatMap (λd=>missS l d.ys)=(m.take k).flatMap (λd=>missS l d.ys)++missS l m[k].ys:=by rw[take_succ h,List.flatMap_append];simp
set_option maxHeartbeats 8000000 in
theorem namesMissingS_any(A:Option Addr)(os:List OV)(c:Nat)(w:World)(hr:RdOs w w.heap.size A os)(hf:Fits os)(hok:objsOk (os.map OV.d)=true):
  Calls Tryz.prog 117 #[.slice A os.length c] w (RetN (missSS (os.map OV.d)) w):=by
 have HR:=h_ hr;have HF:=h_ hf;have HBD:=h_ (show ∀nm,(st11 nm (enO 0 (os.map OV.d))).2.2=(findN (os.map OV.d) nm).isSome from some_st hok);obtain⟨h4,hall⟩:=objs_ok hok;have HAL:=h_ hall;have HLN:=h_ (show Lens os from⟨hf.n,λo ho=>Nat.le_trans (hall o ho).1 (by decide)⟩);have HOK:=h_ hok;clear hr hf hall hok;have HB:=h_ (show Below w.heap.size w (w.alloc (.cells #[] 9))from b_);go_enter Tryz.func117,Tryz.ntmps117
 go_wp2_with fail
 generalize w.alloc (.cells #[] 9)=w0 at *;generalize hLL:os.map OV.d=l at *;have HLL:=h_ hLL;clear hLL;go_loopw [3,4] (λs i wi=>∃(k g c1:Nat) (ns:List ByteArray),k<=os.length/\s=.slice (some ⟨g,0,none⟩) ns.length c1/\i=.int .i64 k/\ns=insAll ((l.take k).flatMap λd=>missS l d.ys)/\ns.length<=12*k/\Row wi w.heap.size 9 1 (some ⟨g,0,none⟩) ns.length c1 (nmC ns)/\Below w.heap.size w wi) (λ_ i _=>os.length-(intOf i).toNat)
 case atStart=>exact⟨0,w.heap.size,0,[],Nat.zero_le _,rfl,rfl,rfl,Nat.le_refl _,Row.empty _ _ _ _ _,HB.o⟩
 case round=>
  rename World=>wk
  clear HB;obtain⟨k,g,c1,ns,hk,rfl,rfl,hns,hnl,hrow,hb⟩:=hrel;have HNS:=h_ hns;have HW:=h_ hrow;have HB:=h_ hb;clear hns hrow hb;by_cases hlt:k<os.length
  ·go_wp2_with fail
   refine(objectsValidS_any A os c wk ((HR.o.below HB.o).more HB.o.size) HF.o).mono ?_;rintro e w1 ⟨rfl,b1⟩;rw[HLL.o,HOK.o];replace HB:=c_ HB b1;replace HW:=h_ (HW.o.call b1);clear b1;obtain⟨bb,fo,hA,hbb,hc0,hc1⟩:=HR.o.at hlt;have HTK:=h_ (show(l.take (k+1)).flatMap (λd=>missS l d.ys)=(l.take k).flatMap (λd=>missS l d.ys)++missS l os[k].ys from by
    have hll:k<l.length:=by rw[<-HLL.o];simpa using hlt
    rw[miss_take l l k hll];congr 2
    have:=HLL.o;subst this;simp[OV.d])
   have HRO:=h_ (HR.o.2 _ (List.getElem_mem hlt)).2;have hyl:=(HAL.o _ (List.getElem_mem hlt)).1;have HC1:=h_ hc1;clear hc0 hc1;subst hA;generalize os[k]=o at *;generalize hp:(l.take k).flatMap (λd=>missS l d.ys)=pre at *;clear hp;go_wp2_with fail
   go_loopw [3,5] (λs i wi=>∃(j g c1:Nat) (ms:List ByteArray),j<=o.ys.length/\s=.slice (some ⟨g,0,none⟩) ms.length c1/\i=.int .i64 j/\ms=insAll (pre++missS l (o.ys.take j))/\ms.length<=12*k+j/\Row wi w.heap.size 9 1 (some ⟨g,0,none⟩) ms.length c1 (nmC ms)/\Below w.heap.size w wi) (λ_ i _=>o.ys.length-(intOf i).toNat)
   case atStart=>exact⟨0,g,c1,ns,Nat.zero_le _,rfl,rfl,by rw[HNS.o];simp[missS],by omega,HW.o,HB.o⟩
   case round=>
    rename World=>wi
    clear HW HB;obtain⟨j,g,c1,ms,hj,rfl,rfl,hms,hml,hrow,hb⟩:=hrel;have HMS:=h_ hms;have HW:=h_ hrow;have HB:=h_ hb;have hd1:=(hb.cell (p:=⟨bb,fo+k*2+1,none⟩) hbb).trans HC1.o;clear hms hrow;by_cases hjl:j<o.ys.length
    ·obtain⟨b2,off2,hYA,hb2,hc⟩:=(HRO.o.below hb).row symbolC_len (by decide) hjl;have hc0:=hc 0 _ rfl;have hc1:=hc 1 _ rfl;have hc2:=hc 2 _ rfl;have hc3:=hc 3 _ rfl;simp only[Nat.add_zero]at hc0;have HST:=h_ (show pre++missS l (o.ys.take (j+1))=(pre++missS l (o.ys.take j))++(bif isMiss l o.ys[j]then[o.ys[j].1]else[])from by rw[take_succ hjl,missS_snoc,<-List.append_assoc]);clear hb hc;rw[hYA]at hd1;clear hYA;generalize o.ys[j]=z at *;obtain⟨z1,z2,z3,z4⟩:=z;simp only at hc0 hc1 hc2 hc3 HST;have HNX:=h_ (show(bif isMiss l (z1,z2,z3,z4)then insN ms z1 else ms)=insAll (pre++missS l (o.ys.take (j+1)))from by
      rw[HST.o];cases isMiss l (z1,z2,z3,z4)
      ·simpa using HMS.o
      ·simp only[cond_true];rw[insAll_snoc,<-HMS.o])
     clear HST;go_wp2_with fail
     have B1:Below wi.heap.size wi (wi.alloc (.cells #[.string z1,.int .i64 z2,.int .i64 z3,.int .i64 z4] 67)):=b_;have HZ:=h_ (Box.new wi 67 #[.string z1,.int .i64 z2,.int .i64 z3,.int .i64 z4]);replace HB:=c_ HB B1;replace HW:=h_ (HW.o.call B1);clear B1;clear hc0 hc1 hc2 hc3 hd1;generalize wi.alloc (.cells #[.string z1,.int .i64 z2,.int .i64 z3,.int .i64 z4] 67)=wz at *;generalize wi.heap.size=S at *;refine(given_any (some ⟨bb,fo,none⟩) os c z1 wz ((HR.o.below HB.o).more HB.o.size) HLN.o).mono ?_;rintro e w5 ⟨rfl,b5⟩;replace HB:=c_ HB b5;replace HZ:=h_ (HZ.o.call b5);replace HW:=h_ (HW.o.call b5);clear b5;unfold gvV;rw[HLL.o,HBD.o];have HM:=h_ (show isMiss l (z1,z2,z3,z4)=((z3== -1)&&(z2==1)&& !(findN l z1).isSome)from by
      simp only[isMiss];rw[Bool.and_comm (z3== -1)];cases findN l z1<;>rfl)
     generalize (st11 z1 (enO 0 l)).2.1=cn at *;generalize (st11 z1 (enO 0 l)).1=gg at *;generalize (findN l z1).isSome=fl at *;have B6:Below w5.heap.size w5 (w5.alloc (.cells #[.int .i64 gg.1,.int .i64 gg.2] 79)):=b_;replace HB:=c_ HB B6;replace HW:=h_ (HW.o.call B6);replace HZ:=h_ (HZ.o.call B6);clear B6;have hl2:=insN_len ms z1;have y0:=d_ HZ.o 0;have y1:=d_ HZ.o 1;have y2:=d_ HZ.o 2;have hzl:=HZ.o.lt;cases q2:(z3== -1)
     ·rw[q2,Bool.false_and,Bool.false_and]at HM;rw[HM.o,cond_false]at HNX;clear HM;go_wp2_with fail
      refine⟨⟨j+1,g,c1,ms,by omega,rfl,by go_num,HNX.o,by omega,HW.o,HB.o⟩,by simp[intOf];omega⟩
     cases q1:(z2==1)
     ·rw[q1,q2,Bool.and_false,Bool.false_and]at HM;rw[HM.o,cond_false]at HNX;clear HM;go_wp2_with fail
      refine⟨⟨j+1,g,c1,ms,by omega,rfl,by go_num,HNX.o,by omega,HW.o,HB.o⟩,by simp[intOf];omega⟩
     cases fl
     ·rw[q1,q2]at HM;rw[HM.o]at HNX;have HNX2:=h_ (show insN ms z1=insAll (pre++missS l (o.ys.take (j+1)))from HNX.o);have HINS:=h_ (l2Insert_any g ms z1 c1 w.heap.size _ HW.o HB.o.size (by omega));clear HM HNX;go_wp2_with fail
      refine HINS.o.mono ?_;rintro e w7 ⟨g7,c7,rfl,r7,b7⟩;have HR7:=h_ r7;replace HB:=c_ HB b7;clear b7;clear r7 HINS;generalize insN ms z1=qs at *;go_wp2_with fail
      refine⟨⟨j+1,g7,c7,qs,by omega,rfl,by go_num,HNX2.o,by omega,HR7.o,HB.o⟩,by simp[intOf];omega⟩
     ·rw[q1,q2]at HM;rw[HM.o]at HNX;have HNX2:=h_ (show ms=insAll (pre++missS l (o.ys.take (j+1)))from HNX.o);clear HM HNX;go_wp2_with fail
      refine⟨⟨j+1,g,c1,ms,by omega,rfl,by go_num,HNX2.o,by omega,HW.o,HB.o⟩,by simp[intOf];omega⟩
    ·have hje:j=o.ys.length:=by omega
     have HF2:=h_ (show ms=insAll ((l.take (k+1)).flatMap λd=>missS l d.ys)from by rw[HTK.o,HMS.o,hje,List.take_length]);clear hb;go_wp2_with fail
     refine⟨⟨k+1,g,c1,ms,by omega,rfl,by go_num,HF2.o,by omega,HW.o,HB.o⟩,by simp[intOf];omega⟩
  ·have hke:k=os.length:=by omega
   have HV:=h_ (show missSS l=ns from by
    unfold missSS miss;rw[HNS.o,List.take_of_length_le (by rw[<-HLL.o,hke];simp)])
   clear hke;go_wp2_with fail
   go_ret;rw[HV.o];exact⟨_,c1,rfl,HW.o,HB.o⟩
end CNTwS
/- FindName; the reference's. -/
namespace CFindS
open Kit CCode CName CFixups CSymbols PObj BObj PValid CGlobalOf CObjValid BStore BList PLink CFind CPlaceS P11 C11
def fndS(l:List OD)(nm:ByteArray):Option G:=bif objsOk l then findN l nm else none
def gvG(r:Option G):Value:=.tuple #[.agg #[.int .i64 (r.getD (0,0)).1,.int .i64 (r.getD (0,0)).2],.bool r.isSome]
set_option maxHeartbeats 4000000 in
theorem findNameS_any(A:Option Addr)(os:List OV)(c:Nat)(nm:ByteArray)(w:World)(hr:RdOs w w.heap.size A os)(hf:Fits os)(hl:Lens os):
  Calls Tryz.prog 67 #[.slice A os.length c,.string nm] w (Ret (gvG (fndS (os.map OV.d) nm)) w):=by
 have HR:=h_ hr;have HF:=h_ hf;have HLN:=h_ hl;clear hr hf hl;have HB:=h_ (show Below w.heap.size w (w.alloc (.cells #[.int .i64 0,.int .i64 0] 79))from b_);have HX:=h_ (Box.new w 79 #[.int .i64 0,.int .i64 0]);go_enter Tryz.func67,Tryz.ntmps67
 go_wp2_with fail
 generalize w.alloc (.cells #[.int .i64 0,.int .i64 0] 79)=w0 at *;refine(objectsValidS_any A os c w0 ((HR.o.below HB.o).more HB.o.size) HF.o).mono ?_;rintro e w1 ⟨rfl,b1⟩;replace HB:=c_ HB b1;replace HX:=h_ (HX.o.call b1);clear b1;cases hok:objsOk (os.map OV.d)
 ·have HV:=h_ (show fndS (os.map OV.d) nm=none from by unfold fndS;rw[hok];rfl);have x0:=d_ HX.o 0;have x1:=d_ HX.o 1;have xf0:=HX.o.frozen 0;have xf1:=HX.o.frozen 1;have hxl:=HX.o.lt;have k:=(HX.o.set 0 (.int .i64 0)).set 1 (.int .i64 0);have k0:=k.cell 0;have k1:=k.cell 1;simp only[k_]at k0 k1;have HFB:=h_ (two_below (Y:=w.heap.size) HB.o (Nat.le_refl _) (.int .i64 0) (.int .i64 0));clear k hok;go_wp2_with fail
  exact bodyPost_ret (v:=gvG none) (by simp[results,Tryz.results67,go_sem,k0,k1,gvG]) rfl (by rw[HV.o];exact⟨rfl,HFB.o⟩)
 ·have HVB:=h_ (CNTwS.bind_of hok);have HV:=h_ (show fndS (os.map OV.d) nm=findN (os.map OV.d) nm from by unfold fndS;rw[hok];rfl);clear hok;go_wp2_with fail
  refine(given_any A os c nm w1 ((HR.o.below HB.o).more HB.o.size) HLN.o).mono ?_;rintro e w2 ⟨rfl,b2⟩;replace HB:=c_ HB b2;replace HX:=h_ (HX.o.call b2);clear b2;unfold gvV;obtain⟨hg1,hg2⟩:=given_find HVB.o nm;rw[hg1,hg2];clear hg1 hg2;rw[<-HV.o];generalize (st11 nm (enO 0 (os.map OV.d))).2.1=cnt at *;have HG:=h_ (show gvG (fndS (os.map OV.d) nm)=.tuple #[.agg #[.int .i64 ((fndS (os.map OV.d) nm).getD (0,0)).1,.int .i64 ((fndS (os.map OV.d) nm).getD (0,0)).2],.bool (fndS (os.map OV.d) nm).isSome]from rfl);generalize ((fndS (os.map OV.d) nm).getD (0,0)).1=g1 at *;generalize ((fndS (os.map OV.d) nm).getD (0,0)).2=g2 at *;generalize (fndS (os.map OV.d) nm).isSome=fl at *;have HX2:=HX.o.alloc (.cells #[.int .i64 g1,.int .i64 g2] 79);have kk:=(HX2.set 0 (.int .i64 g1)).set 1 (.int .i64 g2);have k0:=kk.cell 0;have k1:=kk.cell 1;simp only[k_]at k0 k1;clear kk;have HFB:=h_ (two_below (Y:=w.heap.size) (HB.o.alloc HB.o.size (.cells #[.int .i64 g1,.int .i64 g2] 79)) (Nat.le_refl _) (.int .i64 g1) (.int .i64 g2));have hxl:=HX2.lt;have x0:=d_ HX2 0;have x1:=d_ HX2 1;have xf0:=HX2.frozen 0;have xf1:=HX2.frozen 1;clear HX2;go_wp2_with fail
  exact bodyPost_ret (v:=.tuple #[.agg #[.int .i64 g1,.int .i64 g2],.bool fl]) (by simp[results,Tryz.results67,go_sem,k0,k1]) rfl (by rw[HG.o];exact⟨rfl,HFB.o⟩)
end CFindS
end Go.Proofs.YtepoiphmmjfbdaaGreatDoor
