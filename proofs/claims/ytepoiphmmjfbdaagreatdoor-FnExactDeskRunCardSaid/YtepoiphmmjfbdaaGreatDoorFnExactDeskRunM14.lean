/- l11Given: where a name is given; the reference's. -/
import Derived.Test.YtepoiphmmjfbdaaGreatDoorFnExactDeskRunM13
import Derived.Lib.AppendStr
import Derived.BigQuiet
set_option linter.unusedSimpArgs false
set_option linter.unusedVariables false
set_option maxRecDepth 200000
open Go.ChangeShapes Go.WideShapes Go.ChangeAt Go.RowKit
namespace Go.Proofs.YtepoiphmmjfbdaaGreatDoor
namespace C11
open Kit CCode CName CFixups CSymbols PObj BObj PValid CGlobalOf CObjValid BStore BList PLink CFind P11
def gvV (st:St11):Value:=.tuple #[.agg #[.int .i64 st.1.1,.int .i64 st.1.2],.int .i64 st.2.1,.bool st.2.2]
set_option maxHeartbeats 4000000 in
theorem given_any (A:Option Addr) (os:List OV) (c:Nat) (nm:ByteArray) (w:World) (hr:RdOs w w.heap.size A os) (hm:Lens os):
  Calls Tryz.prog 120 #[.slice A os.length c,.string nm] w (Ret (gvV (st11 nm (enO 0 (os.map OV.d)))) w):=by
 obtain ⟨hm1,hm2⟩:=hm;have HR:=h_ hr;have HM2:=h_ hm2;clear hr hm2;have HB:=h_ (show Below w.heap.size w ((w.alloc (.cells #[.int .i64 0,.int .i64 0] 79)).alloc (.cells #[.int .i64 0,.int .i64 0] 79)) from b_);have HP:=h_ ((Box.new w 79 #[.int .i64 0,.int .i64 0]).alloc (.cells #[.int .i64 0,.int .i64 0] 79));have HX0:=Box.new (w.alloc (.cells #[.int .i64 0,.int .i64 0] 79)) 79 #[.int .i64 0,.int .i64 0];rw [World.size_alloc] at HX0;have HX:=h_ HX0;clear HX0
 go_enter Tryz.func120,Tryz.ntmps120
 go_wp2_with fail
 generalize (w.alloc (.cells #[.int .i64 0,.int .i64 0] 79)).alloc (.cells #[.int .i64 0,.int .i64 0] 79)=w0 at *;generalize hl:os.map OV.d=l at *;have HL:=h_ hl;clear hl;generalize hXX:w.heap.size+1=X at *;have HXX:=h_ hXX;clear hXX
 go_loopw [8,9,10] (fun s f i wi=>∃ (k:Nat) (st:St11),k<=os.length/\s=.int .i64 st.2.1/\f=.bool st.2.2/\i=.int .i64 k/\st=st11 nm (enO 0 (l.take k))/\0<=st.2.1/\st.2.1<=1048576*k/\Box wi X 79 #[.int .i64 st.1.1,.int .i64 st.1.2]/\Box wi w.heap.size 79 #[.int .i64 0,.int .i64 0]/\Below w.heap.size w wi) (fun _ _ i _=>os.length - (intOf i).toNat)
 case atStart=>exact ⟨0,((0,0),0,false),Nat.zero_le _,rfl,rfl,rfl,rfl,Int.le_refl _,Int.le_refl _,HX.o,HP.o,HB.o⟩
 case round=>
  rename World=>wk
  clear HX HP HB;obtain ⟨k,st,hk,rfl,rfl,rfl,hst,hs0,hs1,hx,hp,hb⟩:=hrel;have HST:=h_ hst;have HX:=h_ hx;have HP:=h_ hp;have HB:=h_ hb;clear hst hx hp
  by_cases hlt:k<os.length
  ·obtain ⟨bb,off,hA,hbb,_,hcA⟩:=HR.o.at hlt;have HCE:=h_ (fun V (hV:Below w.heap.size w V)=>(show V.cell? ⟨bb,off+k*2+1,none⟩=some (.slice os[k].Y os[k].ys.length os[k].yc) from (hV.cell (p:=⟨bb,off+k*2+1,none⟩) hbb).trans hcA));have HRY:=h_ (HR.o.2 _ (List.getElem_mem hlt)).2;have hyl:=HM2.o _ (List.getElem_mem hlt)
   have HSN:=h_ (show enO 0 (l.take (k+1))=enO 0 (l.take k)++enS k 0 os[k].ys from by
    have h:=HL.o;subst h;rw [enO_snoc (by simpa using hlt)]
    simp [OV.d])
   clear hb hcA;subst hA;generalize enO 0 (l.take k)=E0 at *;generalize os[k]=o at *
   go_wp2_with fail
   go_loopw [8,9,11] (fun s f i wi=>∃ (j:Nat) (st:St11),j<=o.ys.length/\s=.int .i64 st.2.1/\f=.bool st.2.2/\i=.int .i64 j/\st=st11 nm (E0++enS k 0 (o.ys.take j))/\0<=st.2.1/\st.2.1<=1048576*k+j/\Box wi X 79 #[.int .i64 st.1.1,.int .i64 st.1.2]/\Box wi w.heap.size 79 #[.int .i64 0,.int .i64 0]/\Below w.heap.size w wi) (fun _ _ i _=>o.ys.length - (intOf i).toNat)
   case atStart=>exact ⟨0,st,Nat.zero_le _,rfl,rfl,rfl,by simpa [enS] using HST.o,hs0,by omega,HX.o,HP.o,HB.o⟩
   case round=>
    rename World=>wj
    clear HX HP HB HST;obtain ⟨j,st,hj,rfl,rfl,rfl,hst,hs0,hs1,hx,hp,hb⟩:=hrel;obtain ⟨g,s,f⟩:=st;simp only at hs0 hs1 hx;simp only;have HST:=h_ hst;have HX:=h_ hx;have HP:=h_ hp;have HB:=h_ hb;have hcl:=HCE.o wj hb;clear hst hx hp
    by_cases hjl:j<o.ys.length
    ·obtain ⟨b2,off2,hY,hb2,hc⟩:=(HRY.o.below hb).row symbolC_len (by decide) hjl;have hc0:=hc 0 _ rfl;have hc1:=hc 1 _ rfl;have hc2:=hc 2 _ rfl;have hc3:=hc 3 _ rfl;simp only [Nat.add_zero] at hc0;have HNX:=h_ (show st11 nm (E0++enS k 0 (o.ys.take (j+1)))=step11 nm (g,s,f) ((k,j),o.ys[j]) from by rw [enS_snoc k hjl,<- List.append_assoc,st11_snoc,<- HST.o]);clear hb hc;rw [hY] at hcl;clear hY HST;generalize o.ys[j]=z at *;obtain ⟨z1,z2,z3,z4⟩:=z;simp only at hc0 hc1 hc2 hc3;have B1:Below wj.heap.size wj (wj.alloc (.cells #[.string z1,.int .i64 z2,.int .i64 z3,.int .i64 z4] 67)):=b_;have HS:=h_ (Box.new wj 67 #[.string z1,.int .i64 z2,.int .i64 z3,.int .i64 z4]);have hXj:X<wj.heap.size:=HX.o.lt;have HXj:=h_ HX.o;have HPj:=h_ HP.o;have HBj:=h_ HB.o;replace HB:=c_ HB B1;replace HX:=h_ (HX.o.call B1);replace HP:=h_ (HP.o.call B1);clear B1;have y0:=d_ HS.o 0;have y1:=d_ HS.o 1;have y2:=d_ HS.o 2;have hsl:=HS.o.lt
     have HU:=h_ (show step11 nm (g,s,f) ((k,j),(z1,z2,z3,z4))=bif hitY nm (z1,z2,z3,z4) then ((bif (decide (z2=1) && decide (s=0)) || !f then (k,j) else g),(bif decide (z2=1) then s+1 else s),true) else (g,s,f) from rfl)
     cases hn:(z1.toList == nm.toList)
     ·have HH:=h_ (show hitY nm (z1,z2,z3,z4)=false from by
       unfold hitY;rw [<-str_eq,hn]
       rfl)
      have hr2:=HU.o;rw [HH.o,cond_false] at hr2;have HF:=h_ (HNX.o.trans hr2);clear hr2 HH HU HNX
      go_wp2_with fail
      refine ⟨⟨j+1,(g,s,f),by omega,rfl,rfl,by go_num,HF.o.symm,hs0,by show s<=_; omega,HX.o,HP.o,HB.o⟩,by simp [intOf]; omega⟩
     have HNM:=h_ (show z1=nm from by
      rw [str_eq,decide_eq_true_iff] at hn
      exact hn)
     by_cases hz2:z2=0
     case pos=>
      have HH:=h_ (show hitY nm (z1,z2,z3,z4)=false from by unfold hitY; simp [hz2]);have e2:(z2 == 0)=true:=beq_iff_eq.2 hz2;clear hz2;have HF:=h_ (HNX.o.trans (by rw [HU.o,HH.o,cond_false]));clear HH HU HNX
      go_wp2_with fail
      refine ⟨⟨j+1,(g,s,f),by omega,rfl,rfl,by go_num,HF.o.symm,hs0,by show s<=_; omega,HX.o,HP.o,HB.o⟩,by simp [intOf]; omega⟩
     by_cases hz3:z3=-1
     case pos=>
      have HH:=h_ (show hitY nm (z1,z2,z3,z4)=false from by unfold hitY; simp [hz3]);have e2:(z2 == 0)=false:=beq_eq_false_iff_ne.2 hz2;have e3:(z3 == -1)=true:=beq_iff_eq.2 hz3;clear hz2 hz3;have HF:=h_ (HNX.o.trans (by rw [HU.o,HH.o,cond_false]));clear HH HU HNX
      go_wp2_with fail
      refine ⟨⟨j+1,(g,s,f),by omega,rfl,rfl,by go_num,HF.o.symm,hs0,by show s<=_; omega,HX.o,HP.o,HB.o⟩,by simp [intOf]; omega⟩
     have HH:=h_ (show hitY nm (z1,z2,z3,z4)=true from by unfold hitY; simp [HNM.o,hz2,hz3]);have e2:(z2 == 0)=false:=beq_eq_false_iff_ne.2 hz2;have e3:(z3 == -1)=false:=beq_eq_false_iff_ne.2 hz3;clear hz2 hz3;have HXL:=h_ (show X<wj.heap.size from hXj)
     by_cases h1:z2=1
     ·have e1:(z2 == 1)=true:=beq_iff_eq.2 h1
      by_cases hs:s=0
      ·have es:(s == 0)=true:=beq_iff_eq.2 hs;have HF:=h_ (HNX.o.trans (show step11 nm (g,s,f) ((k,j),(z1,z2,z3,z4))=((k,j),s+1,true) from by rw [HU.o,HH.o]; simp [h1,hs]));clear HH HU HNX h1 hs;have hwr:IntKind.i64.wrap (s+1)=s+1:=IntWalk.i64_in _ (by omega);have x0:=d_ HXj.o 0;have x1:=d_ HXj.o 1;have fx0:=HXj.o.frozen 0;have fx1:=HXj.o.frozen 1;have hxl:=HXj.o.lt;have hXl:=HXL.o;have HXN:=h_ (((HXj.o.set 0 (.int .i64 k)).set 1 (.int .i64 j)).alloc (.cells #[.string z1,.int .i64 z2,.int .i64 z3,.int .i64 z4] 67));have HPN:=h_ (((HPj.o.far (p:=⟨X,0,none⟩) (by have:=HXX.o; show w.heap.size ≠ X; omega) (.int .i64 k)).far (p:=⟨X,1,none⟩) (by have:=HXX.o; show w.heap.size ≠ X; omega) (.int .i64 j)).alloc (.cells #[.string z1,.int .i64 z2,.int .i64 z3,.int .i64 z4] 67));have HBN:=h_ ((two_below (Y:=X) HBj.o (by have:=HXX.o; omega) (.int .i64 k) (.int .i64 j)).alloc (two_below (Y:=X) HBj.o (by have:=HXX.o; omega) (.int .i64 k) (.int .i64 j)).size (.cells #[.string z1,.int .i64 z2,.int .i64 z3,.int .i64 z4] 67))
       have hsz:((wj.setCell ⟨X,0,none⟩ (.int .i64 k)).setCell ⟨X,1,none⟩ (.int .i64 j)).heap.size=wj.heap.size:=by simp [World.setCell]
       have HSN:=Box.new ((wj.setCell ⟨X,0,none⟩ (.int .i64 k)).setCell ⟨X,1,none⟩ (.int .i64 j)) 67 #[.string z1,.int .i64 z2,.int .i64 z3,.int .i64 z4];rw [hsz] at HSN;have y1':=HSN.cell 1;simp only [g_] at y1';clear HSN
       go_wp2_with fail
       refine ⟨⟨j+1,((k,j),s+1,true),by omega,rfl,rfl,by go_num,HF.o.symm,(by show 0<=s+1; omega),(by show s+1<=_; omega),HXN.o,HPN.o,HBN.o⟩,by simp [intOf]; omega⟩
      ·have es:(s == 0)=false:=beq_eq_false_iff_ne.2 hs
       cases f
       ·skip
        have HF:=h_ (HNX.o.trans (show step11 nm (g,s,false) ((k,j),(z1,z2,z3,z4))=((k,j),s+1,true) from by rw [HU.o,HH.o]; simp [h1,hs]));clear HH HU HNX h1 hs;have hwr:IntKind.i64.wrap (s+1)=s+1:=IntWalk.i64_in _ (by omega);have x0:=d_ HXj.o 0;have x1:=d_ HXj.o 1;have fx0:=HXj.o.frozen 0;have fx1:=HXj.o.frozen 1;have hxl:=HXj.o.lt;have hXl:=HXL.o;have HXN:=h_ (((HXj.o.set 0 (.int .i64 k)).set 1 (.int .i64 j)).alloc (.cells #[.string z1,.int .i64 z2,.int .i64 z3,.int .i64 z4] 67));have HPN:=h_ (((HPj.o.far (p:=⟨X,0,none⟩) (by have:=HXX.o; show w.heap.size ≠ X; omega) (.int .i64 k)).far (p:=⟨X,1,none⟩) (by have:=HXX.o; show w.heap.size ≠ X; omega) (.int .i64 j)).alloc (.cells #[.string z1,.int .i64 z2,.int .i64 z3,.int .i64 z4] 67));have HBN:=h_ ((two_below (Y:=X) HBj.o (by have:=HXX.o; omega) (.int .i64 k) (.int .i64 j)).alloc (two_below (Y:=X) HBj.o (by have:=HXX.o; omega) (.int .i64 k) (.int .i64 j)).size (.cells #[.string z1,.int .i64 z2,.int .i64 z3,.int .i64 z4] 67))
        have hsz:((wj.setCell ⟨X,0,none⟩ (.int .i64 k)).setCell ⟨X,1,none⟩ (.int .i64 j)).heap.size=wj.heap.size:=by simp [World.setCell]
        have HSN:=Box.new ((wj.setCell ⟨X,0,none⟩ (.int .i64 k)).setCell ⟨X,1,none⟩ (.int .i64 j)) 67 #[.string z1,.int .i64 z2,.int .i64 z3,.int .i64 z4];rw [hsz] at HSN;have y1':=HSN.cell 1;simp only [g_] at y1';clear HSN
        go_wp2_with fail
        refine ⟨⟨j+1,((k,j),s+1,true),by omega,rfl,rfl,by go_num,HF.o.symm,(by show 0<=s+1; omega),(by show s+1<=_; omega),HXN.o,HPN.o,HBN.o⟩,by simp [intOf]; omega⟩
       ·skip
        have HF:=h_ (HNX.o.trans (show step11 nm (g,s,true) ((k,j),(z1,z2,z3,z4))=(g,s+1,true) from by rw [HU.o,HH.o]; simp [h1,hs]));clear HH HU HNX h1 hs;have hwr:IntKind.i64.wrap (s+1)=s+1:=IntWalk.i64_in _ (by omega)
        go_wp2_with fail
        refine ⟨⟨j+1,(g,s+1,true),by omega,rfl,rfl,by go_num,HF.o.symm,(by show 0<=s+1; omega),(by show s+1<=_; omega),HX.o,HP.o,HB.o⟩,by simp [intOf]; omega⟩
     ·have e1:(z2 == 1)=false:=beq_eq_false_iff_ne.2 h1
      cases f
      ·skip
       have HF:=h_ (HNX.o.trans (show step11 nm (g,s,false) ((k,j),(z1,z2,z3,z4))=((k,j),s,true) from by rw [HU.o,HH.o]; simp [h1]));clear HH HU HNX h1;have x0:=d_ HXj.o 0;have x1:=d_ HXj.o 1;have fx0:=HXj.o.frozen 0;have fx1:=HXj.o.frozen 1;have hxl:=HXj.o.lt;have hXl:=HXL.o;have HXN:=h_ (((HXj.o.set 0 (.int .i64 k)).set 1 (.int .i64 j)).alloc (.cells #[.string z1,.int .i64 z2,.int .i64 z3,.int .i64 z4] 67));have HPN:=h_ (((HPj.o.far (p:=⟨X,0,none⟩) (by have:=HXX.o; show w.heap.size ≠ X; omega) (.int .i64 k)).far (p:=⟨X,1,none⟩) (by have:=HXX.o; show w.heap.size ≠ X; omega) (.int .i64 j)).alloc (.cells #[.string z1,.int .i64 z2,.int .i64 z3,.int .i64 z4] 67));have HBN:=h_ ((two_below (Y:=X) HBj.o (by have:=HXX.o; omega) (.int .i64 k) (.int .i64 j)).alloc (two_below (Y:=X) HBj.o (by have:=HXX.o; omega) (.int .i64 k) (.int .i64 j)).size (.cells #[.string z1,.int .i64 z2,.int .i64 z3,.int .i64 z4] 67))
       have hsz:((wj.setCell ⟨X,0,none⟩ (.int .i64 k)).setCell ⟨X,1,none⟩ (.int .i64 j)).heap.size=wj.heap.size:=by simp [World.setCell]
       have HSN:=Box.new ((wj.setCell ⟨X,0,none⟩ (.int .i64 k)).setCell ⟨X,1,none⟩ (.int .i64 j)) 67 #[.string z1,.int .i64 z2,.int .i64 z3,.int .i64 z4];rw [hsz] at HSN;have y1':=HSN.cell 1;simp only [g_] at y1';clear HSN
       go_wp2_with fail
       refine ⟨⟨j+1,((k,j),s,true),by omega,rfl,rfl,by go_num,HF.o.symm,(by show 0<=s; omega),(by show s<=_; omega),HXN.o,HPN.o,HBN.o⟩,by simp [intOf]; omega⟩
      ·skip
       have HF:=h_ (HNX.o.trans (show step11 nm (g,s,true) ((k,j),(z1,z2,z3,z4))=(g,s,true) from by rw [HU.o,HH.o]; simp [h1]));clear HH HU HNX h1
       go_wp2_with fail
       refine ⟨⟨j+1,(g,s,true),by omega,rfl,rfl,by go_num,HF.o.symm,(by show 0<=s; omega),(by show s<=_; omega),HX.o,HP.o,HB.o⟩,by simp [intOf]; omega⟩
    ·have hje:j=o.ys.length:=by omega
     have HF:=h_ (show (g,s,f)=st11 nm (enO 0 (l.take (k+1))) from by
      rw [HST.o,hje,List.take_length,HSN.o])
     have hY2:s<=1048576*((k:Int)+1):=by omega
     clear hb hje HST
     go_wp2_with fail
     refine ⟨⟨k+1,(g,s,f),by omega,rfl,rfl,by go_num,HF.o,hs0,by show s<=1048576*(((k+1:Nat)):Int); omega,HX.o,HP.o,HB.o⟩,by simp [intOf]; omega⟩
  ·have hke:k=os.length:=by omega
   obtain ⟨g,s,f⟩:=st;simp only at hs0 hs1
   have HF:=h_ (show st11 nm (enO 0 l)=(g,s,f) from by
    have h:=HST.o;rw [hke,List.take_of_length_le (by rw [<-HL.o,List.length_map]; exact Nat.le_refl _)] at h
    exact h.symm)
   simp only at HX;simp only;have x0:=d_ HX.o 0;have x1:=d_ HX.o 1;have hxl:=HX.o.lt;have p0:=d_ HP.o 0;have p1:=d_ HP.o 1;have fp0:=HP.o.frozen 0;have fp1:=HP.o.frozen 1;have hpl:=HP.o.lt;have HBN:=h_ (two_below (Y:=w.heap.size) HB.o (Nat.le_refl _) (.int .i64 g.1) (.int .i64 g.2));have kk:=(HP.o.set 0 (.int .i64 g.1)).set 1 (.int .i64 g.2);have k0:=kk.cell 0;have k1:=kk.cell 1;simp only [k_] at k0 k1;subst hke;clear hb kk HST
   go_wp2_with fail
   exact bodyPost_ret (v:=gvV (g,s,f)) (by simp [results,Tryz.results120,go_sem,gvV,k0,k1]) rfl ⟨by rw [HF.o],HBN.o⟩
end C11
/- NameTable: the bytes of a table of names; the program's. -/
namespace CNameTab
open Kit CCode CName CFixups CSymbols PObj BObj CGlobalOf BStore BList PLink CSorted CNames
end CNameTab
/- Names put in one by one,each once: the same list as sorted gives; plain. -/
namespace PIns
open Kit CSorted CNames CNameTab PSort
theorem bl_eq:∀ x y:List UInt8,Op.bytesLess x y=decide (x<y)
 | [],[]=>by simp [Op.bytesLess]
 | _ :: _,[]=>by simp [Op.bytesLess]
 | [],_ :: _=>by simp [Op.bytesLess]
 | a :: x,b :: y=>by
  rw [Op.bytesLess,bl_eq x y];simp only [List.cons_lt_cons_iff]
  by_cases h1:a<b <;> by_cases h2:a=b <;> by_cases h3:x<y <;> simp [h1,h2,h3]
theorem toL_eq (a:ByteArray):a.toList=a.data.toList:=ByteArray.toList_eq a
theorem toL_inj {a b:ByteArray} (h:a.toList=b.toList):a=b:=by
 rw [toL_eq,toL_eq] at h;exact ByteArray.ext (Array.toList_inj.1 h)
theorem sl_tr {a b c:ByteArray} (h1:sl a b=true) (h2:sl b c=true):sl a c=true:=by
 unfold sl at *;rw [bl_eq] at *;exact decide_eq_true (List.lt_trans (of_decide_eq_true h1) (of_decide_eq_true h2))
theorem sl_tri {a b:ByteArray} (h1:sl a b=false) (h2:a ≠ b):sl b a=true:=by
 unfold sl at *;rw [bl_eq] at *;refine decide_eq_true ?_;have h:=List.not_lt.1 (of_decide_eq_false h1)
 by_cases hlt:b.toList<a.toList
 ·exact hlt
 ·exact absurd (toL_inj (List.le_antisymm (List.not_lt.1 hlt) h)) h2
def SS (xs:List ByteArray):Prop:=xs.Pairwise fun a b=>sl a b=true
def insP (s:ByteArray):List ByteArray->Nat
 | []=>0
 | x :: xs=>if sl x s=true then insP s xs+1 else 0
def insN (xs:List ByteArray) (s:ByteArray):List ByteArray:=if xs[insP s xs]?=some s then xs else xs.take (insP s xs)++[s]++xs.drop (insP s xs)
def insR (s:ByteArray):List ByteArray->List ByteArray
 | []=>[s]
 | x :: xs=>if sl x s=true then x :: insR s xs else if x=s then x :: xs else s :: x :: xs
theorem ins_eq (s:ByteArray):∀ xs,insN xs s=insR s xs
 | []=>by simp [insN,insP,insR]
 | x :: xs=>by
  have ih:=ins_eq s xs;unfold insN at ih;unfold insN insP insR
  by_cases h:sl x s=true
  ·simp only [h,if_true,List.getElem?_cons_succ,List.take_succ_cons,List.drop_succ_cons];rw [<-ih]
   split <;> rfl
  ·simp only [h,Bool.false_eq_true,if_false,List.getElem?_cons_zero,Option.some.injEq,List.take_zero,List.drop_zero]
   rfl
theorem insR_mem (s y:ByteArray):∀ xs,y ∈ insR s xs ↔ y=s\/y ∈ xs
 | []=>by simp [insR]
 | x :: xs=>by
  unfold insR
  split
  ·rw [List.mem_cons,insR_mem s y xs,List.mem_cons]
   constructor
   ·rintro (h | h | h) <;> simp [h]
   ·rintro (h | h | h) <;> simp [h]
  ·split
   ·rename_i h;subst h;simp
   ·simp
theorem insR_ss (s:ByteArray):∀ {xs},SS xs->SS (insR s xs)
 | [],_=>by simp [insR,SS]
 | x :: xs,h=>by
  obtain ⟨h1,h2⟩:=List.pairwise_cons.1 h;unfold insR
  split
  ·rename_i hx;refine List.pairwise_cons.2 ⟨fun y hy=>?_,insR_ss s h2⟩
   rcases (insR_mem s y xs).1 hy with rfl | hy
   ·exact hx
   ·exact h1 y hy
  ·rename_i hx
   split
   ·exact h
   ·rename_i hne;have hsx:=sl_tri (Bool.not_eq_true _ ▸ hx) hne;refine List.pairwise_cons.2 ⟨fun y hy=>?_,h⟩
    rcases List.mem_cons.1 hy with rfl | hy
    ·exact hsx
    ·exact sl_tr hsx (h1 y hy)
theorem insR_len (s:ByteArray):∀ xs,(insR s xs).length<=xs.length+1
 | []=>by simp [insR]
 | x :: xs=>by
  have:=insR_len s xs;unfold insR
  split
  ·simp only [List.length_cons];omega
  ·split <;> simp
theorem insN_len (xs:List ByteArray) (s:ByteArray):(insN xs s).length<=xs.length+1:=by
 rw [ins_eq];exact insR_len s xs
def insAll (ns:List ByteArray):List ByteArray:=ns.foldl insN []
theorem insAll_snoc (ns:List ByteArray) (s:ByteArray):insAll (ns++[s])=insN (insAll ns) s:=by simp [insAll]
theorem insAll_spec (ns:List ByteArray):SS (insAll ns)/\∀ x,x ∈ insAll ns ↔ x ∈ ns:=by
 suffices H:∀ (ns acc:List ByteArray),SS acc->SS (ns.foldl insN acc)/\∀ x,x ∈ ns.foldl insN acc ↔ x ∈ acc\/x ∈ ns by
  have:=H ns [] List.Pairwise.nil;exact ⟨this.1,fun x=>by rw [insAll,this.2]; simp⟩
 intro ns
 induction ns with
 | nil=>intro acc h; exact ⟨h,fun x=>by simp⟩
 | cons n ns ih=>
  intro acc h
  have h2:SS (insN acc n):=by rw [ins_eq]; exact insR_ss n h
  obtain ⟨i1,i2⟩:=ih _ h2;refine ⟨i1,fun x=>?_⟩;rw [List.foldl_cons,i2,ins_eq,insR_mem,List.mem_cons]
  constructor
  ·rintro ((h | h) | h) <;> simp [h]
  ·rintro (h | h | h) <;> simp [h]
section
variable {d:Array (List UInt8)}
end
end PIns
/- NameTable and tableOf; the program's. -/
namespace CTable
open Kit CCode CName CFixups CSymbols PObj BObj CGlobalOf BStore BList PLink CSorted CNames CNameTab
end CTable
/- l2Insert: the reference's putting of a name into sorted names. -/
namespace CInsS
open Kit CCode CFixups CSymbols PObj BObj CMarkRows CGlobalOf BStore BList PSort PLink CSorted CNames CNameTab CTable PIns
theorem one_nm (l:List ByteArray):∀ u ∈ nmC l,u.oneCell'=true:=fun u hu=>by
 obtain ⟨x,_,rfl⟩:=List.mem_map.1 hu
 rfl
theorem insP_go {s:ByteArray} {xs:List ByteArray} {k:Nat} (hk:k<xs.length) (h:insP s xs=k+insP s (xs.drop k)) (hl:sl xs[k] s=true):insP s xs=k+1+insP s (xs.drop (k+1)):=by
 rw [List.drop_eq_getElem_cons hk,insP,if_pos hl] at h;omega
theorem insP_stop {s:ByteArray} {xs:List ByteArray} {k:Nat} (hk:k<xs.length) (h:insP s xs=k+insP s (xs.drop k)) (hl:sl xs[k] s=false):insP s xs=k:=by
 rw [List.drop_eq_getElem_cons hk,insP,if_neg (by rw [hl]; decide)] at h;omega
theorem rd_tail1 {w:World} {B ga k c j:Nat} {xs:List Value} (h:Rd w B (some ⟨ga,0,none⟩) xs) (hl:xs.length=k) (hk:k<=c):
  Rd w B (if c=j then some ⟨ga,0,none⟩ else some ⟨ga,j,none⟩) (xs.drop j):=by
 split
 ·have:xs.drop j=[]:=List.drop_of_length_le (by omega);rw [this];exact Rd.nil _
 ·intro i u hi;rw [List.getElem?_drop] at hi;obtain ⟨b,off,e,hb,hc⟩:=h (j+i) u hi;simp only [Option.some.injEq,Addr.mk.injEq,and_true] at e;obtain ⟨rfl,rfl⟩:=e;exact ⟨_,j,rfl,hb,by rw [Nat.zero_add] at hc; exact hc⟩
def RetL (base:Nat) (ys:List ByteArray) (w:World) (e:Ending) (w':World):Prop:=∃ g c,e=.returned (.slice (some ⟨g,0,none⟩) ys.length c)/\Row w' base 9 1 (some ⟨g,0,none⟩) ys.length c (nmC ys)/\Below w.heap.size w w'
set_option maxHeartbeats 4000000 in
theorem l2Insert_any (ga:Nat) (xs:List ByteArray) (s:ByteArray) (c base:Nat) (w:World) (h:Row w base 9 1 (some ⟨ga,0,none⟩) xs.length c (nmC xs)) (hbase:base<=w.heap.size) (hm:xs.length<=1000):
  Calls Tryz.prog 159 #[.slice (some ⟨ga,0,none⟩) xs.length c,.string s] w (RetL base (insN xs s) w):=by
 obtain ⟨i0,hi1,hi2,hi3,hi4⟩:=info_parts infoStr;have HI:=h_ (And.intro hi1 (And.intro hi2 (And.intro hi3 hi4)));clear hi1 hi2 hi3 hi4;have HR:=h_ h;clear h;have hkc:=HR.o.cap.1
 go_enter Tryz.func159,Tryz.ntmps159
 go_wp2_with fail
 go_loopw [5] (fun i wi=>∃ k:Nat,k<=xs.length/\i=.int .i64 k/\insP s xs=k+insP s (xs.drop k)/\wi=w) (fun i _=>xs.length - (intOf i).toNat)
 case atStart=>exact ⟨0,Nat.zero_le _,rfl,by simp,rfl⟩
 case round=>
  obtain ⟨k,hk,rfl,hp,rfl⟩:=hrel;have HP:=h_ hp;clear hp
  by_cases hlt:k<xs.length
  ·obtain ⟨b,off,hA,_,hc⟩:=HR.o.rd k (.string xs[k]) (by simp [nmC,List.getElem?_eq_getElem hlt]);simp only [Option.some.injEq,Addr.mk.injEq,and_true] at hA;obtain ⟨rfl,rfl⟩:=hA;rw [Nat.zero_add] at hc;have HGO:=h_ (fun h=>insP_go hlt HP.o h);have HSTOP:=h_ (fun h=>insP_stop hlt HP.o h);have HXK:=h_ (show xs[k]?=some xs[k] from List.getElem?_eq_getElem hlt);clear HP;generalize xs[k]=x at *
   cases hl:sl x s
   ·have HI2:=h_ (HSTOP.o hl);have hl2:Op.bytesLess x.toList s.toList=false:=hl;clear HGO HSTOP hl
    cases he:(x.toList == s.toList)
    ·have HST:=h_ (show insN xs s=xs.take k++[s]++xs.drop k from by
      unfold insN;rw [HI2.o,HXK.o,if_neg];intro e;have e2:=Option.some.inj e;rw [str_eq,e2] at he
      simp at he)
     clear HXK HI2
     go_wp2_with fail
     clear hl2 he hc hlt;have HLK:=h_ (show (xs.take k).length=k/\(xs.drop k).length=xs.length - k from ⟨by rw [List.length_take]; omega,by rw [List.length_drop]⟩)
     have HP1:=h_ (fun V (hV:Below wr.heap.size wr V)=>(show Rd V V.heap.size (some ⟨ga,0,none⟩) (nmC (xs.take k)) from by
      have h:=((HR.o.prefix hk).rd.below hV).more hV.size;rw [Nat.mul_one] at h
      simpa only [nmC,List.map_take] using h))
     have HP2:=h_ (fun V (hV:Below wr.heap.size wr V)=>(show Rd V V.heap.size (if c=k then some ⟨ga,0,none⟩ else some ⟨ga,k,none⟩) (nmC (xs.drop k)) from by
      have h:=rd_tail1 (j:=k) ((HR.o.rd.below hV).more hV.size) (by simp [nmC]) hkc
      simpa only [nmC,List.map_drop] using h))
     have HA2:=h_ (show (if c=k then some (⟨ga,0,none⟩:Addr) else some ⟨ga,k,none⟩)=none->c - k=0 from fun h=>by split at h <;> cases h)
     have hkn:k<=c:=by omega
     generalize hnl:xs.length=n at *;have HNL:=h_ hnl;clear hnl;refine Rv.start (fun _=>True) (fun _=>false) (by kernel_rfl) ?_;have hHeld:True:=trivial;refine Rv.comp (i:=1) (v:=?_) rfl (by kernel_rfl) (by kernel_rfl) (by kernel_rfl) (fun _ _ _ h=>h) (Or.inl ⟨by rfl,?_⟩) ?_
     rotate_left 1
     focus (intro w hSw; (try dsimp only at hSw); go_simp; (try with_reducible rfl))
     try simp only [y1_,y2_,y3_,Act.put,y4_,y5_,y6_]
     refine Rv.comp (i:=2) (v:=?_) rfl (by kernel_rfl) (by kernel_rfl) (by kernel_rfl) (fun _ _ _ h=>h) (Or.inl ⟨by rfl,?_⟩) ?_
     rotate_left 1
     focus (intro w hSw; (try dsimp only at hSw); go_simp; (try with_reducible rfl))
     try simp only [y1_,y2_,y3_,Act.put,y4_,y5_,y6_]
     refine Rv.comp (i:=3) (v:=?_) rfl (by kernel_rfl) (by kernel_rfl) (by kernel_rfl) (fun _ _ _ h=>h) (Or.inl ⟨by rfl,?_⟩) ?_
     rotate_left 1
     focus (intro w hSw; (try dsimp only at hSw); go_simp; (try with_reducible rfl))
     try simp only [y1_,y2_,y3_,Act.put,y4_,y5_,y6_]
     refine Rv.comp (i:=5) (v:=?_) rfl (by kernel_rfl) (by kernel_rfl) (by kernel_rfl) (fun _ _ _ h=>h) (Or.inl ⟨by rfl,?_⟩) ?_
     rotate_left 1
     focus (intro w hSw; (try dsimp only at hSw); go_simp; (try with_reducible rfl))
     try simp only [y1_,y2_,y3_,Act.put,y4_,y5_,y6_]
     refine Rv.comp (i:=8) (v:=?_) rfl (by kernel_rfl) (by kernel_rfl) (by kernel_rfl) (fun _ _ _ h=>h) (Or.inl ⟨by rfl,?_⟩) ?_
     rotate_left 1
     focus (intro w hSw; (try dsimp only at hSw); go_simp; (try with_reducible rfl))
     try simp only [y1_,y2_,y3_,Act.put,y4_,y5_,y6_]
     refine Rv.comp (i:=9) (v:=?_) rfl (by kernel_rfl) (by kernel_rfl) (by kernel_rfl) (fun _ _ _ h=>h) (Or.inl ⟨by rfl,?_⟩) ?_
     rotate_left 1
     focus (intro w hSw; (try dsimp only at hSw); go_simp; (try with_reducible rfl))
     try simp only [y1_,y2_,y3_,Act.put,y4_,y5_,y6_]
     refine Rv.comp (i:=10) (v:=?_) rfl (by kernel_rfl) (by kernel_rfl) (by kernel_rfl) (fun _ _ _ h=>h) (Or.inl ⟨by rfl,?_⟩) ?_
     rotate_left 1
     focus (intro w hSw; (try dsimp only at hSw); go_simp; (try with_reducible rfl))
     try simp only [y1_,y2_,y3_,Act.put,y4_,y5_,y6_]
     generalize (if c=k then some (⟨ga,0,none⟩:Addr) else some ⟨ga,k,none⟩)=A2 at *;refine Rv.two (i:=0) (j:=6) rfl rfl (by kernel_rfl) (fun K hK=>?p0) (fun K hK=>?p6)
     case' p0=>
      go_simp
      refine hK.out _ _ hHeld ?_;clear hK K
      try simp only [y1_,y2_,y3_,Act.put,y4_,y5_,y6_]
      refine Rv.two (i:=4) (j:=6) rfl rfl (by kernel_rfl) (fun K hK=>?q4) (fun K hK=>?q6)
     case' q4=>
      refine step_app (by rfl) _ _ 28 rfl 9 i0 (.string ByteArray.empty) 1 16 Tryz.underlying28 HI.o.1 HI.o.2.1 HI.o.2.2.1 HI.o.2.2.2 rfl (by decide) wr.heap.size _ 0 0 [] (by rfl) (Row.empty _ _ _ _ _) (Below.size (B:=wr.heap.size) (by (repeat (first | with_reducible assumption | with_reducible exact Below.refl _ _ | with_reducible apply below_al | with_reducible apply below_dr | with_reducible apply below_dn)); done)) (some ⟨ga,0,none⟩) k c (nmC (xs.take k)) (by rfl) (HP1.o _ (by (repeat (first | with_reducible assumption | with_reducible exact Below.refl _ _ | with_reducible apply below_al | with_reducible apply below_dr | with_reducible apply below_dn)); done)) (by rw [nmC,List.length_map,HLK.o.1,Nat.mul_one]) (fun h=>by cases h) (one_nm _) (by unfold maxLen; omega) (by omega) ?_
      intro A5 n5 c5 w5 hn5 o5 g5 k5
      have hn5':n5=k:=by omega
      clear hn5;subst hn5';have HA5:=h_ (show Row w5 wr.heap.size 9 1 A5 n5 c5 (nmC (xs.take n5)) from by simpa using o5)
      have HWX:=h_ (show Below wr.heap.size wr w5 from below_tr (by (repeat (first | with_reducible assumption | with_reducible exact Below.refl _ _ | with_reducible apply below_al | with_reducible apply below_dr | with_reducible apply below_dn)); done) g5)
      clear o5 g5 k5;refine hK.out _ _ hHeld ?_;clear hK K
      try simp only [y1_,y2_,y3_,Act.put,y4_,y5_,y6_]
      refine Rv.one (i:=6) rfl (by kernel_rfl) (fun K hK=>?_)
      go_simp
      refine hK.out _ _ hHeld ?_;clear hK K
      try simp only [y1_,y2_,y3_,Act.put,y4_,y5_,y6_]
      have HNC:=h_ (show (w5.alloc (.cells #[.string s] 9)).cell? ⟨w5.heap.size,0,none⟩=some (.string s)/\w5.heap.size<(w5.alloc (.cells #[.string s] 9)).heap.size from ⟨(Box.new w5 9 #[.string s]).cell 0,(Box.new w5 9 #[.string s]).lt⟩);have B6:Below w5.heap.size w5 (w5.alloc (.cells #[.string s] 9)):=b_;replace HWX:=h_ (HWX.o.trans (B6.mono HWX.o.size));replace HA5:=h_ (HA5.o.call B6);clear B6;generalize w5.alloc (.cells #[.string s] 9)=wX at *;generalize w5.heap.size=N at *
     case' q6=>
      go_simp
      refine hK.out _ _ hHeld ?_;clear hK K
      try simp only [y1_,y2_,y3_,Act.put,y4_,y5_,y6_]
      have HNN:=h_ (show ((wr.alloc (.cells #[] 9)).alloc (.cells #[.string s] 9)).drew.cell? ⟨wr.heap.size+1,0,none⟩=some (.string s)/\wr.heap.size+1<((wr.alloc (.cells #[] 9)).alloc (.cells #[.string s] 9)).drew.heap.size from by
       have h:=Box.new (wr.alloc (.cells #[] 9)) 9 #[.string s];rw [World.size_alloc] at h
       exact ⟨h.cell 0,h.lt⟩)
      refine Rv.one (i:=4) rfl (by kernel_rfl) (fun K hK=>?_)
      refine step_app (by rfl) _ _ 28 rfl 9 i0 (.string ByteArray.empty) 1 16 Tryz.underlying28 HI.o.1 HI.o.2.1 HI.o.2.2.1 HI.o.2.2.2 rfl (by decide) wr.heap.size _ 0 0 [] (by rfl) (Row.empty _ _ _ _ _) (Below.size (B:=wr.heap.size) (by (repeat (first | with_reducible assumption | with_reducible exact Below.refl _ _ | with_reducible apply below_al | with_reducible apply below_dr | with_reducible apply below_dn)); done)) (some ⟨ga,0,none⟩) k c (nmC (xs.take k)) (by rfl) (HP1.o _ (by (repeat (first | with_reducible assumption | with_reducible exact Below.refl _ _ | with_reducible apply below_al | with_reducible apply below_dr | with_reducible apply below_dn)); done)) (by rw [nmC,List.length_map,HLK.o.1,Nat.mul_one]) (fun h=>by cases h) (one_nm _) (by unfold maxLen; omega) (by omega) ?_
      intro A5 n5 c5 wX hn5 o5 g5 k5
      have hn5':n5=k:=by omega
      clear hn5;subst hn5';have HA5:=h_ (show Row wX wr.heap.size 9 1 A5 n5 c5 (nmC (xs.take n5)) from by simpa using o5)
      have HWX:=h_ (show Below wr.heap.size wr wX from below_tr (by (repeat (first | with_reducible assumption | with_reducible exact Below.refl _ _ | with_reducible apply below_al | with_reducible apply below_dr | with_reducible apply below_dn)); done) g5)
      have HNC:=h_ (show wX.cell? ⟨wr.heap.size+1,0,none⟩=some (.string s)/\wr.heap.size+1<wX.heap.size from ⟨((below_tr (Below.refl _ _) g5).cell (p:=⟨wr.heap.size+1,0,none⟩) HNN.o.2).trans HNN.o.1,Nat.lt_of_lt_of_le HNN.o.2 g5.size⟩);clear o5 g5 k5 HNN;refine hK.out _ _ hHeld ?_;clear hK K
      try simp only [y1_,y2_,y3_,Act.put,y4_,y5_,y6_]
      generalize wr.heap.size+1=N at *
     case' p6=>
      go_simp
      refine hK.out _ _ hHeld ?_;clear hK K
      try simp only [y1_,y2_,y3_,Act.put,y4_,y5_,y6_]
      refine Rv.one (i:=0) rfl (by kernel_rfl) (fun K hK=>?_)
      go_simp
      refine hK.out _ _ hHeld ?_;clear hK K
      try simp only [y1_,y2_,y3_,Act.put,y4_,y5_,y6_]
      have HNN:=h_ (show ((wr.alloc (.cells #[.string s] 9)).alloc (.cells #[] 9)).drew.cell? ⟨wr.heap.size,0,none⟩=some (.string s)/\wr.heap.size<((wr.alloc (.cells #[.string s] 9)).alloc (.cells #[] 9)).drew.heap.size from by
       have h:=(Box.new wr 9 #[.string s]).alloc (.cells #[] 9)
       exact ⟨h.cell 0,h.lt⟩)
      refine Rv.one (i:=4) rfl (by kernel_rfl) (fun K hK=>?_)
      refine step_app (by rfl) _ _ 28 rfl 9 i0 (.string ByteArray.empty) 1 16 Tryz.underlying28 HI.o.1 HI.o.2.1 HI.o.2.2.1 HI.o.2.2.2 rfl (by decide) wr.heap.size _ 0 0 [] (by rfl) (Row.empty _ _ _ _ _) (Below.size (B:=wr.heap.size) (by (repeat (first | with_reducible assumption | with_reducible exact Below.refl _ _ | with_reducible apply below_al | with_reducible apply below_dr | with_reducible apply below_dn)); done)) (some ⟨ga,0,none⟩) k c (nmC (xs.take k)) (by rfl) (HP1.o _ (by (repeat (first | with_reducible assumption | with_reducible exact Below.refl _ _ | with_reducible apply below_al | with_reducible apply below_dr | with_reducible apply below_dn)); done)) (by rw [nmC,List.length_map,HLK.o.1,Nat.mul_one]) (fun h=>by cases h) (one_nm _) (by unfold maxLen; omega) (by omega) ?_
      intro A5 n5 c5 wX hn5 o5 g5 k5
      have hn5':n5=k:=by omega
      clear hn5;subst hn5';have HA5:=h_ (show Row wX wr.heap.size 9 1 A5 n5 c5 (nmC (xs.take n5)) from by simpa using o5)
      have HWX:=h_ (show Below wr.heap.size wr wX from below_tr (by (repeat (first | with_reducible assumption | with_reducible exact Below.refl _ _ | with_reducible apply below_al | with_reducible apply below_dr | with_reducible apply below_dn)); done) g5)
      have HNC:=h_ (show wX.cell? ⟨wr.heap.size,0,none⟩=some (.string s)/\wr.heap.size<wX.heap.size from ⟨((below_tr (Below.refl _ _) g5).cell (p:=⟨wr.heap.size,0,none⟩) HNN.o.2).trans HNN.o.1,Nat.lt_of_lt_of_le HNN.o.2 g5.size⟩);clear o5 g5 k5 HNN;refine hK.out _ _ hHeld ?_;clear hK K
      try simp only [y1_,y2_,y3_,Act.put,y4_,y5_,y6_]
      generalize hN:wr.heap.size=N at HNC ⊢
     all_goals
      refine Rv.one (i:=7) rfl (by kernel_rfl) (fun K hK=>?_);have hgeA:=(fun q hq=>(HA5.o.lt q hq).1);have HGA:=h_ hgeA;clear hgeA
      refine step_app (by rfl) _ _ 28 rfl 9 i0 (.string ByteArray.empty) 1 16 Tryz.underlying28 HI.o.1 HI.o.2.1 HI.o.2.2.1 HI.o.2.2.2 rfl (by decide) wr.heap.size A5 n5 c5 (nmC (xs.take n5)) (by rfl) HA5.o HWX.o.size (some ⟨N,0,none⟩) 1 1 [.string s] (by rfl) (B:=N+1) (fun i u hi=>by
       have hi0:i=0:=by
        rcases Nat.eq_zero_or_pos i with h | h
        ·exact h
        ·rw [List.getElem?_eq_none (by simp; omega)] at hi
         cases hi
       subst hi0;simp only [List.getElem?_cons_zero,Option.some.injEq] at hi;subst hi
       exact ⟨N,0,rfl,Nat.lt_succ_self _,HNC.o.1⟩) rfl (fun h=>by cases h) (one_str s) (by unfold maxLen; omega) (by omega) ?_
      intro A7 n7 c7 w7 hn7 o7 g7 k7;have hn7':n7=n5+1:=hn7;clear hn7;subst hn7';have HW7:=h_ (show Below wr.heap.size wr w7 from HWX.o.grown g7 HWX.o.size (fun q hq=>HGA.o q hq));have HA7:=h_ o7;clear o7 g7 k7 HA5 HWX HGA HNC;refine hK.out _ _ hHeld ?_;clear hK K
      try simp only [y1_,y2_,y3_,Act.put,y4_,y5_,y6_]
      refine Rv.one (i:=11) rfl (by kernel_rfl) (fun K hK=>?_);refine step_app (by rfl) _ _ 28 rfl 9 i0 (.string ByteArray.empty) 1 16 Tryz.underlying28 HI.o.1 HI.o.2.1 HI.o.2.2.1 HI.o.2.2.2 rfl (by decide) wr.heap.size A7 (n5+1) c7 _ (by rfl) HA7.o HW7.o.size A2 (n - n5) (c - n5) (nmC (xs.drop n5)) (by rfl) (HP2.o _ HW7.o) (by rw [nmC,List.length_map,HLK.o.2,Nat.mul_one]) HA2.o (one_nm _) (by unfold maxLen; omega) (by omega) ?_;intro A9 n9 c9 w9 hn9 o9 g9 k9
      have hn9':n9=n+1:=by omega
      clear hn9;subst hn9'
      have HA9:=h_ (show Row w9 wr.heap.size 9 1 A9 (n+1) c9 (nmC (insN xs s)) from by
       rw [HST.o]
       simpa [nmC] using o9)
      have HW9:=h_ (show Below wr.heap.size wr w9 from HW7.o.grown g9 HW7.o.size (fun q hq=>(HA7.o.lt q hq).1));clear o9 g9 k9 HA7 HW7;refine hK.out _ _ hHeld ?_;clear hK K
      try simp only [y1_,y2_,y3_,Act.put,y4_,y5_,y6_]
      refine Rv.comp (i:=12) (v:=?_) rfl (by kernel_rfl) (by kernel_rfl) (by kernel_rfl) (fun _ _ _ h=>h) (Or.inl ⟨by rfl,?_⟩) ?_
      rotate_left 1
      focus (intro w hSw; (try dsimp only at hSw); go_simp; (try with_reducible rfl))
      try simp only [y1_,y2_,y3_,Act.put,y4_,y5_,y6_]
      refine Rv.done (by kernel_rfl) ?_ _;clear hHeld;obtain ⟨g',hA',_,_,_,_⟩:=own_of HA9.o (by omega);subst hA'
      have hlen:(insN xs s).length=n+1:=by
       rw [HST.o,List.length_append,List.length_append,HLK.o.1,HLK.o.2,List.length_singleton];omega
      have HLEN:=h_ hlen;clear hlen
      go_wp2_with fail
      go_ret;exact ⟨g',c9,by rw [HLEN.o]; rfl,by rw [HLEN.o]; exact HA9.o.down hbase,HW9.o⟩
    ·have HST:=h_ (show insN xs s=xs from by
      unfold insN;rw [HI2.o,HXK.o,if_pos];rw [str_eq,decide_eq_true_iff] at he
      rw [he])
     clear HXK HI2
     go_wp2_with fail
     go_ret;rw [HST.o];exact ⟨ga,c,rfl,HR.o,Below.refl _ _⟩
   ·have HN:=h_ (HGO.o hl);have hl2:Op.bytesLess x.toList s.toList=true:=hl;clear HGO HSTOP HXK hl
    go_wp2_with fail
    refine ⟨⟨k+1,by omega,by go_num,HN.o,by first | rfl | trivial⟩,by simp [intOf]; omega⟩
  ·have hke:k=xs.length:=by omega
   have HST:=h_ (show insN xs s=xs.take k++[s]++xs.drop k from by
    have h:=HP.o;rw [hke,List.drop_length,insP,Nat.add_zero] at h;unfold insN
    rw [h,List.getElem?_eq_none (Nat.le_refl _),if_neg (by simp),hke])
   have hlt':¬ (k:Int)<xs.length:=by omega
   clear HP hke
   go_wp2_with fail
   clear hlt hlt';have HLK:=h_ (show (xs.take k).length=k/\(xs.drop k).length=xs.length - k from ⟨by rw [List.length_take]; omega,by rw [List.length_drop]⟩)
   have HP1:=h_ (fun V (hV:Below wr.heap.size wr V)=>(show Rd V V.heap.size (some ⟨ga,0,none⟩) (nmC (xs.take k)) from by
    have h:=((HR.o.prefix hk).rd.below hV).more hV.size;rw [Nat.mul_one] at h
    simpa only [nmC,List.map_take] using h))
   have HP2:=h_ (fun V (hV:Below wr.heap.size wr V)=>(show Rd V V.heap.size (if c=k then some ⟨ga,0,none⟩ else some ⟨ga,k,none⟩) (nmC (xs.drop k)) from by
    have h:=rd_tail1 (j:=k) ((HR.o.rd.below hV).more hV.size) (by simp [nmC]) hkc
    simpa only [nmC,List.map_drop] using h))
   have HA2:=h_ (show (if c=k then some (⟨ga,0,none⟩:Addr) else some ⟨ga,k,none⟩)=none->c - k=0 from fun h=>by split at h <;> cases h)
   have hkn:k<=c:=by omega
   generalize hnl:xs.length=n at *;have HNL:=h_ hnl;clear hnl;refine Rv.start (fun _=>True) (fun _=>false) (by kernel_rfl) ?_;have hHeld:True:=trivial;refine Rv.comp (i:=1) (v:=?_) rfl (by kernel_rfl) (by kernel_rfl) (by kernel_rfl) (fun _ _ _ h=>h) (Or.inl ⟨by rfl,?_⟩) ?_
   rotate_left 1
   focus (intro w hSw; (try dsimp only at hSw); go_simp; (try with_reducible rfl))
   try simp only [y1_,y2_,y3_,Act.put,y4_,y5_,y6_]
   refine Rv.comp (i:=2) (v:=?_) rfl (by kernel_rfl) (by kernel_rfl) (by kernel_rfl) (fun _ _ _ h=>h) (Or.inl ⟨by rfl,?_⟩) ?_
   rotate_left 1
   focus (intro w hSw; (try dsimp only at hSw); go_simp; (try with_reducible rfl))
   try simp only [y1_,y2_,y3_,Act.put,y4_,y5_,y6_]
   refine Rv.comp (i:=3) (v:=?_) rfl (by kernel_rfl) (by kernel_rfl) (by kernel_rfl) (fun _ _ _ h=>h) (Or.inl ⟨by rfl,?_⟩) ?_
   rotate_left 1
   focus (intro w hSw; (try dsimp only at hSw); go_simp; (try with_reducible rfl))
   try simp only [y1_,y2_,y3_,Act.put,y4_,y5_,y6_]
   refine Rv.comp (i:=5) (v:=?_) rfl (by kernel_rfl) (by kernel_rfl) (by kernel_rfl) (fun _ _ _ h=>h) (Or.inl ⟨by rfl,?_⟩) ?_
   rotate_left 1
   focus (intro w hSw; (try dsimp only at hSw); go_simp; (try with_reducible rfl))
   try simp only [y1_,y2_,y3_,Act.put,y4_,y5_,y6_]
   refine Rv.comp (i:=8) (v:=?_) rfl (by kernel_rfl) (by kernel_rfl) (by kernel_rfl) (fun _ _ _ h=>h) (Or.inl ⟨by rfl,?_⟩) ?_
   rotate_left 1
   focus (intro w hSw; (try dsimp only at hSw); go_simp; (try with_reducible rfl))
   try simp only [y1_,y2_,y3_,Act.put,y4_,y5_,y6_]
   refine Rv.comp (i:=9) (v:=?_) rfl (by kernel_rfl) (by kernel_rfl) (by kernel_rfl) (fun _ _ _ h=>h) (Or.inl ⟨by rfl,?_⟩) ?_
   rotate_left 1
   focus (intro w hSw; (try dsimp only at hSw); go_simp; (try with_reducible rfl))
   try simp only [y1_,y2_,y3_,Act.put,y4_,y5_,y6_]
   refine Rv.comp (i:=10) (v:=?_) rfl (by kernel_rfl) (by kernel_rfl) (by kernel_rfl) (fun _ _ _ h=>h) (Or.inl ⟨by rfl,?_⟩) ?_
   rotate_left 1
   focus (intro w hSw; (try dsimp only at hSw); go_simp; (try with_reducible rfl))
   try simp only [y1_,y2_,y3_,Act.put,y4_,y5_,y6_]
   generalize (if c=k then some (⟨ga,0,none⟩:Addr) else some ⟨ga,k,none⟩)=A2 at *;refine Rv.two (i:=0) (j:=6) rfl rfl (by kernel_rfl) (fun K hK=>?s0) (fun K hK=>?s6)
   case' s0=>
    go_simp
    refine hK.out _ _ hHeld ?_;clear hK K
    try simp only [y1_,y2_,y3_,Act.put,y4_,y5_,y6_]
    refine Rv.two (i:=4) (j:=6) rfl rfl (by kernel_rfl) (fun K hK=>?t4) (fun K hK=>?t6)
   case' t4=>
    refine step_app (by rfl) _ _ 28 rfl 9 i0 (.string ByteArray.empty) 1 16 Tryz.underlying28 HI.o.1 HI.o.2.1 HI.o.2.2.1 HI.o.2.2.2 rfl (by decide) wr.heap.size _ 0 0 [] (by rfl) (Row.empty _ _ _ _ _) (Below.size (B:=wr.heap.size) (by (repeat (first | with_reducible assumption | with_reducible exact Below.refl _ _ | with_reducible apply below_al | with_reducible apply below_dr | with_reducible apply below_dn)); done)) (some ⟨ga,0,none⟩) k c (nmC (xs.take k)) (by rfl) (HP1.o _ (by (repeat (first | with_reducible assumption | with_reducible exact Below.refl _ _ | with_reducible apply below_al | with_reducible apply below_dr | with_reducible apply below_dn)); done)) (by rw [nmC,List.length_map,HLK.o.1,Nat.mul_one]) (fun h=>by cases h) (one_nm _) (by unfold maxLen; omega) (by omega) ?_
    intro A5 n5 c5 w5 hn5 o5 g5 k5
    have hn5':n5=k:=by omega
    clear hn5;subst hn5';have HA5:=h_ (show Row w5 wr.heap.size 9 1 A5 n5 c5 (nmC (xs.take n5)) from by simpa using o5)
    have HWX:=h_ (show Below wr.heap.size wr w5 from below_tr (by (repeat (first | with_reducible assumption | with_reducible exact Below.refl _ _ | with_reducible apply below_al | with_reducible apply below_dr | with_reducible apply below_dn)); done) g5)
    clear o5 g5 k5;refine hK.out _ _ hHeld ?_;clear hK K
    try simp only [y1_,y2_,y3_,Act.put,y4_,y5_,y6_]
    refine Rv.one (i:=6) rfl (by kernel_rfl) (fun K hK=>?_)
    go_simp
    refine hK.out _ _ hHeld ?_;clear hK K
    try simp only [y1_,y2_,y3_,Act.put,y4_,y5_,y6_]
    have HNC:=h_ (show (w5.alloc (.cells #[.string s] 9)).cell? ⟨w5.heap.size,0,none⟩=some (.string s)/\w5.heap.size<(w5.alloc (.cells #[.string s] 9)).heap.size from ⟨(Box.new w5 9 #[.string s]).cell 0,(Box.new w5 9 #[.string s]).lt⟩);have B6:Below w5.heap.size w5 (w5.alloc (.cells #[.string s] 9)):=b_;replace HWX:=h_ (HWX.o.trans (B6.mono HWX.o.size));replace HA5:=h_ (HA5.o.call B6);clear B6;generalize w5.alloc (.cells #[.string s] 9)=wX at *;generalize w5.heap.size=N at *
   case' t6=>
    go_simp
    refine hK.out _ _ hHeld ?_;clear hK K
    try simp only [y1_,y2_,y3_,Act.put,y4_,y5_,y6_]
    have HNN:=h_ (show ((wr.alloc (.cells #[] 9)).alloc (.cells #[.string s] 9)).drew.cell? ⟨wr.heap.size+1,0,none⟩=some (.string s)/\wr.heap.size+1<((wr.alloc (.cells #[] 9)).alloc (.cells #[.string s] 9)).drew.heap.size from by
     have h:=Box.new (wr.alloc (.cells #[] 9)) 9 #[.string s];rw [World.size_alloc] at h
     exact ⟨h.cell 0,h.lt⟩)
    refine Rv.one (i:=4) rfl (by kernel_rfl) (fun K hK=>?_)
    refine step_app (by rfl) _ _ 28 rfl 9 i0 (.string ByteArray.empty) 1 16 Tryz.underlying28 HI.o.1 HI.o.2.1 HI.o.2.2.1 HI.o.2.2.2 rfl (by decide) wr.heap.size _ 0 0 [] (by rfl) (Row.empty _ _ _ _ _) (Below.size (B:=wr.heap.size) (by (repeat (first | with_reducible assumption | with_reducible exact Below.refl _ _ | with_reducible apply below_al | with_reducible apply below_dr | with_reducible apply below_dn)); done)) (some ⟨ga,0,none⟩) k c (nmC (xs.take k)) (by rfl) (HP1.o _ (by (repeat (first | with_reducible assumption | with_reducible exact Below.refl _ _ | with_reducible apply below_al | with_reducible apply below_dr | with_reducible apply below_dn)); done)) (by rw [nmC,List.length_map,HLK.o.1,Nat.mul_one]) (fun h=>by cases h) (one_nm _) (by unfold maxLen; omega) (by omega) ?_
    intro A5 n5 c5 wX hn5 o5 g5 k5
    have hn5':n5=k:=by omega
    clear hn5;subst hn5';have HA5:=h_ (show Row wX wr.heap.size 9 1 A5 n5 c5 (nmC (xs.take n5)) from by simpa using o5)
    have HWX:=h_ (show Below wr.heap.size wr wX from below_tr (by (repeat (first | with_reducible assumption | with_reducible exact Below.refl _ _ | with_reducible apply below_al | with_reducible apply below_dr | with_reducible apply below_dn)); done) g5)
    have HNC:=h_ (show wX.cell? ⟨wr.heap.size+1,0,none⟩=some (.string s)/\wr.heap.size+1<wX.heap.size from ⟨((below_tr (Below.refl _ _) g5).cell (p:=⟨wr.heap.size+1,0,none⟩) HNN.o.2).trans HNN.o.1,Nat.lt_of_lt_of_le HNN.o.2 g5.size⟩);clear o5 g5 k5 HNN;refine hK.out _ _ hHeld ?_;clear hK K
    try simp only [y1_,y2_,y3_,Act.put,y4_,y5_,y6_]
    generalize wr.heap.size+1=N at *
   case' s6=>
    go_simp
    refine hK.out _ _ hHeld ?_;clear hK K
    try simp only [y1_,y2_,y3_,Act.put,y4_,y5_,y6_]
    refine Rv.one (i:=0) rfl (by kernel_rfl) (fun K hK=>?_)
    go_simp
    refine hK.out _ _ hHeld ?_;clear hK K
    try simp only [y1_,y2_,y3_,Act.put,y4_,y5_,y6_]
    have HNN:=h_ (show ((wr.alloc (.cells #[.string s] 9)).alloc (.cells #[] 9)).drew.cell? ⟨wr.heap.size,0,none⟩=some (.string s)/\wr.heap.size<((wr.alloc (.cells #[.string s] 9)).alloc (.cells #[] 9)).drew.heap.size from by
     have h:=(Box.new wr 9 #[.string s]).alloc (.cells #[] 9)
     exact ⟨h.cell 0,h.lt⟩)
    refine Rv.one (i:=4) rfl (by kernel_rfl) (fun K hK=>?_)
    refine step_app (by rfl) _ _ 28 rfl 9 i0 (.string ByteArray.empty) 1 16 Tryz.underlying28 HI.o.1 HI.o.2.1 HI.o.2.2.1 HI.o.2.2.2 rfl (by decide) wr.heap.size _ 0 0 [] (by rfl) (Row.empty _ _ _ _ _) (Below.size (B:=wr.heap.size) (by (repeat (first | with_reducible assumption | with_reducible exact Below.refl _ _ | with_reducible apply below_al | with_reducible apply below_dr | with_reducible apply below_dn)); done)) (some ⟨ga,0,none⟩) k c (nmC (xs.take k)) (by rfl) (HP1.o _ (by (repeat (first | with_reducible assumption | with_reducible exact Below.refl _ _ | with_reducible apply below_al | with_reducible apply below_dr | with_reducible apply below_dn)); done)) (by rw [nmC,List.length_map,HLK.o.1,Nat.mul_one]) (fun h=>by cases h) (one_nm _) (by unfold maxLen; omega) (by omega) ?_
    intro A5 n5 c5 wX hn5 o5 g5 k5
    have hn5':n5=k:=by omega
    clear hn5;subst hn5';have HA5:=h_ (show Row wX wr.heap.size 9 1 A5 n5 c5 (nmC (xs.take n5)) from by simpa using o5)
    have HWX:=h_ (show Below wr.heap.size wr wX from below_tr (by (repeat (first | with_reducible assumption | with_reducible exact Below.refl _ _ | with_reducible apply below_al | with_reducible apply below_dr | with_reducible apply below_dn)); done) g5)
    have HNC:=h_ (show wX.cell? ⟨wr.heap.size,0,none⟩=some (.string s)/\wr.heap.size<wX.heap.size from ⟨((below_tr (Below.refl _ _) g5).cell (p:=⟨wr.heap.size,0,none⟩) HNN.o.2).trans HNN.o.1,Nat.lt_of_lt_of_le HNN.o.2 g5.size⟩);clear o5 g5 k5 HNN;refine hK.out _ _ hHeld ?_;clear hK K
    try simp only [y1_,y2_,y3_,Act.put,y4_,y5_,y6_]
    generalize hN:wr.heap.size=N at HNC ⊢
   all_goals
    refine Rv.one (i:=7) rfl (by kernel_rfl) (fun K hK=>?_);have hgeA:=(fun q hq=>(HA5.o.lt q hq).1);have HGA:=h_ hgeA;clear hgeA
    refine step_app (by rfl) _ _ 28 rfl 9 i0 (.string ByteArray.empty) 1 16 Tryz.underlying28 HI.o.1 HI.o.2.1 HI.o.2.2.1 HI.o.2.2.2 rfl (by decide) wr.heap.size A5 n5 c5 (nmC (xs.take n5)) (by rfl) HA5.o HWX.o.size (some ⟨N,0,none⟩) 1 1 [.string s] (by rfl) (B:=N+1) (fun i u hi=>by
     have hi0:i=0:=by
      rcases Nat.eq_zero_or_pos i with h | h
      ·exact h
      ·rw [List.getElem?_eq_none (by simp; omega)] at hi
       cases hi
     subst hi0;simp only [List.getElem?_cons_zero,Option.some.injEq] at hi;subst hi
     exact ⟨N,0,rfl,Nat.lt_succ_self _,HNC.o.1⟩) rfl (fun h=>by cases h) (one_str s) (by unfold maxLen; omega) (by omega) ?_
    intro A7 n7 c7 w7 hn7 o7 g7 k7;have hn7':n7=n5+1:=hn7;clear hn7;subst hn7';have HW7:=h_ (show Below wr.heap.size wr w7 from HWX.o.grown g7 HWX.o.size (fun q hq=>HGA.o q hq));have HA7:=h_ o7;clear o7 g7 k7 HA5 HWX HGA HNC;refine hK.out _ _ hHeld ?_;clear hK K
    try simp only [y1_,y2_,y3_,Act.put,y4_,y5_,y6_]
    refine Rv.one (i:=11) rfl (by kernel_rfl) (fun K hK=>?_);refine step_app (by rfl) _ _ 28 rfl 9 i0 (.string ByteArray.empty) 1 16 Tryz.underlying28 HI.o.1 HI.o.2.1 HI.o.2.2.1 HI.o.2.2.2 rfl (by decide) wr.heap.size A7 (n5+1) c7 _ (by rfl) HA7.o HW7.o.size A2 (n - n5) (c - n5) (nmC (xs.drop n5)) (by rfl) (HP2.o _ HW7.o) (by rw [nmC,List.length_map,HLK.o.2,Nat.mul_one]) HA2.o (one_nm _) (by unfold maxLen; omega) (by omega) ?_;intro A9 n9 c9 w9 hn9 o9 g9 k9
    have hn9':n9=n+1:=by omega
    clear hn9;subst hn9'
    have HA9:=h_ (show Row w9 wr.heap.size 9 1 A9 (n+1) c9 (nmC (insN xs s)) from by
     rw [HST.o]
     simpa [nmC] using o9)
    have HW9:=h_ (show Below wr.heap.size wr w9 from HW7.o.grown g9 HW7.o.size (fun q hq=>(HA7.o.lt q hq).1));clear o9 g9 k9 HA7 HW7;refine hK.out _ _ hHeld ?_;clear hK K
    try simp only [y1_,y2_,y3_,Act.put,y4_,y5_,y6_]
    refine Rv.comp (i:=12) (v:=?_) rfl (by kernel_rfl) (by kernel_rfl) (by kernel_rfl) (fun _ _ _ h=>h) (Or.inl ⟨by rfl,?_⟩) ?_
    rotate_left 1
    focus (intro w hSw; (try dsimp only at hSw); go_simp; (try with_reducible rfl))
    try simp only [y1_,y2_,y3_,Act.put,y4_,y5_,y6_]
    refine Rv.done (by kernel_rfl) ?_ _;clear hHeld;obtain ⟨g',hA',_,_,_,_⟩:=own_of HA9.o (by omega);subst hA'
    have hlen:(insN xs s).length=n+1:=by
     rw [HST.o,List.length_append,List.length_append,HLK.o.1,HLK.o.2,List.length_singleton];omega
    have HLEN:=h_ hlen;clear hlen
    go_wp2_with fail
    go_ret;exact ⟨g',c9,by rw [HLEN.o]; rfl,by rw [HLEN.o]; exact HA9.o.down hbase,HW9.o⟩
end CInsS
/- NamesGiven: the reference's. -/
namespace CNGS
open Kit CCode CName CFixups CSymbols PObj BObj PValid CObjValid CObjValidS BStore BList PLink CSorted PIns CInsS
def givY (y:YD):Bool:=!decide (y.2.2.1=-1) && !decide (y.2.1=0)
def givS (ys:List YD):List ByteArray:=(ys.filter givY).map (·.1)
def givN (d:OD):List ByteArray:=bif objOk d then insAll (givS d.ys) else []
theorem insAll_len (ns:List ByteArray):(insAll ns).length<=ns.length:=by
 suffices H:∀ (ns acc:List ByteArray),(ns.foldl insN acc).length<=acc.length+ns.length by
  have:=H ns []
  simpa [insAll] using this
 intro ns
 induction ns with
 | nil=>intro acc; simp
 | cons n ns ih=>
  intro acc;have h1:=ih (insN acc n);have h2:=insN_len acc n;simp only [List.foldl_cons,List.length_cons];omega
theorem givS_len (ys:List YD):(givS ys).length<=ys.length:=by
 unfold givS;rw [List.length_map];exact List.length_filter_le _ _
theorem givS_snoc {ys:List YD} {k:Nat} (h:k<ys.length):givS (ys.take (k+1))=givS (ys.take k)++(bif givY ys[k] then [ys[k].1] else []):=by
 unfold givS;rw [take_succ h,List.filter_append,List.map_append]
 cases hg:givY ys[k] <;> simp [hg]
set_option maxHeartbeats 4000000 in
theorem namesGivenS_any (o:OV) (w:World) (hr:RdO w w.heap.size o) (hf:Fit o):
  Calls Tryz.prog 107 #[.agg #[.slice o.A o.ps.length o.c,.slice o.Y o.ys.length o.yc]] w (RetN (givN o.d) w):=by
 have HR:=h_ hr;have HF:=h_ hf;clear hr hf;have HB:=h_ (show Below w.heap.size w ((w.alloc (.cells #[.slice o.A o.ps.length o.c,.slice o.Y o.ys.length o.yc] 26)).alloc (.cells #[] 9)) from b_);have HX:=h_ ((Box.new w 26 #[.slice o.A o.ps.length o.c,.slice o.Y o.ys.length o.yc]).alloc (.cells #[] 9))
 go_enter Tryz.func107,Tryz.ntmps107
 go_wp2_with fail
 have hLg:(w.alloc (.cells #[.slice o.A o.ps.length o.c,.slice o.Y o.ys.length o.yc] 26)).heap.size=w.heap.size+1:=by simp
 generalize (w.alloc (.cells #[.slice o.A o.ps.length o.c,.slice o.Y o.ys.length o.yc] 26)).alloc (.cells #[] 9)=w0 at *;clear hLg
 go_loopw [3,4] (fun s i wi=>∃ (k g c1:Nat) (ns:List ByteArray),k<=o.ys.length/\s=.slice (some ⟨g,0,none⟩) ns.length c1/\i=.int .i64 k/\ns=insAll (givS (o.ys.take k))/\(k=0\/objOk o.d=true)/\Row wi w.heap.size 9 1 (some ⟨g,0,none⟩) ns.length c1 (nmC ns)/\Box wi w.heap.size 26 #[.slice o.A o.ps.length o.c,.slice o.Y o.ys.length o.yc]/\Below w.heap.size w wi) (fun _ i _=>o.ys.length - (intOf i).toNat)
 case atStart=>exact ⟨0,w.heap.size+1,0,[],Nat.zero_le _,rfl,rfl,rfl,.inl rfl,Row.empty _ _ _ _ _,HX.o,HB.o⟩
 case round=>
  rename World=>wk
  clear HX HB;obtain ⟨k,g,c1,ns,hk,rfl,rfl,hns,hok,hrow,hx,hb⟩:=hrel;have HNS:=h_ hns;have HOK:=h_ hok;have HW:=h_ hrow;have HX:=h_ hx;have HB:=h_ hb;clear hns hok hrow hx hb;have x0:=d_ HX.o 0;have x1:=d_ HX.o 1;have hxl:=HX.o.lt
  by_cases hlt:k<o.ys.length
  ·go_wp2_with fail
   refine (objectValidS_any o wk ((HR.o.below HB.o).more HB.o.size) HF.o).mono ?_;rintro e w2 ⟨rfl,b2⟩;have HW2:=h_ (HW.o.call b2);replace HB:=c_ HB b2;replace HX:=h_ (HX.o.call b2);clear b2;clear x0 x1 hxl HW
   cases ho:objOk o.d
   ·have hk0:k=0:=by
     rcases HOK.o with h | h
     ·exact h
     ·rw [ho] at h
      cases h
    have HV:=h_ (show givN o.d=ns from by
     unfold givN;rw [ho,HNS.o,hk0]
     rfl)
    clear ho hk0
    go_wp2_with fail
    go_ret;rw [HV.o];exact ⟨_,c1,rfl,HW2.o,HB.o⟩
   ·have HO:=h_ ho
    have hy12:o.ys.length<=12:=by
     have h:=(PClear.obj_all ho).2.1;exact h
    obtain ⟨b,off,hA,hbb,hc⟩:=(HR.o.2.below HB.o).row symbolC_len (by decide) hlt;have hc0:=hc 0 _ rfl;have hc1:=hc 1 _ rfl;have hc2:=hc 2 _ rfl;simp only [Nat.add_zero] at hc0;have HSN:=h_ (givS_snoc hlt)
    have HNL:=h_ (show ns.length<=k from by
     rw [HNS.o];have h1:=insAll_len (givS (o.ys.take k));have h2:=givS_len (o.ys.take k);rw [List.length_take] at h2
     omega)
    have x1:=d_ HX.o 1;have hxl:=HX.o.lt;have HA:=h_ hA;rw [hA] at x1;clear ho hc hA;generalize o.ys[k]=z at *;obtain ⟨z1,z2,z3,z4⟩:=z;simp only at hc0 hc1 hc2 HSN
    by_cases h3:z3=-1
    ·have e3:(z3 != -1)=false:=by simp [h3]
     have HNX:=h_ (show ns=insAll (givS (o.ys.take (k+1))) from by rw [HSN.o,HNS.o]; simp [givY,h3]);clear h3 HSN
     go_wp2_with fail
     refine ⟨⟨k+1,g,c1,ns,by omega,rfl,by go_num,HNX.o,.inr HO.o,HW2.o,HX.o,HB.o⟩,by simp [intOf]; omega⟩
    ·have e3:(z3 != -1)=true:=bne_iff_ne.2 h3
     by_cases h2:z2=0
     ·have e2:(z2 != 0)=false:=by simp [h2]
      have HNX:=h_ (show ns=insAll (givS (o.ys.take (k+1))) from by rw [HSN.o,HNS.o]; simp [givY,h2]);clear h3 h2 HSN
      go_wp2_with fail
      refine ⟨⟨k+1,g,c1,ns,by omega,rfl,by go_num,HNX.o,.inr HO.o,HW2.o,HX.o,HB.o⟩,by simp [intOf]; omega⟩
     ·have e2:(z2 != 0)=true:=bne_iff_ne.2 h2;have HNX:=h_ (show insN ns z1=insAll (givS (o.ys.take (k+1))) from by rw [HSN.o,HNS.o]; simp [givY,h2,h3,insAll_snoc]);have HINS:=h_ (l2Insert_any g ns z1 c1 w.heap.size w2 HW2.o HB.o.size (by have:=HNL.o; omega));clear h3 h2 HSN
      go_wp2_with fail
      refine HINS.o.mono ?_;rintro e w3 ⟨g3,c3,rfl,r3,b3⟩;have HR3:=h_ r3;replace HB:=c_ HB b3;replace HX:=h_ (HX.o.call b3);clear b3;clear r3 HINS;generalize insN ns z1=ms at *
      go_wp2_with fail
      refine ⟨⟨k+1,g3,c3,ms,by omega,rfl,by go_num,HNX.o,.inr HO.o,HR3.o,HX.o,HB.o⟩,by simp [intOf]; omega⟩
  ·have hke:k=o.ys.length:=by omega
   have HV:=h_ (show givN o.d=ns from by
    unfold givN;rw [HNS.o,hke,List.take_length]
    rcases HOK.o with h | h
    ·have h0:o.ys=[]:=List.eq_nil_of_length_eq_zero (by omega);have h1:o.d.ys=[]:=h0;rw [h1,h0]
     cases objOk o.d <;> rfl
    ·rw [h]
     rfl)
   clear hke
   go_wp2_with fail
   go_ret;rw [HV.o];exact ⟨_,c1,rfl,HW.o,HB.o⟩
end CNGS
/- Names given twice and names missing: plain. -/
namespace PTwice
open Kit CCode CName CFixups CSymbols PObj PValid PLink PClear P11 CSorted PIns CNGS
def strongN (ys:List YD):List ByteArray:=(ys.filter isStrong).map (·.1)
def strongL (l:List OD):List ByteArray:=l.flatMap fun d=>strongN d.ys
def TwI (st:List ByteArray × List ByteArray):Prop:=st.1=[] ↔ st.2.Nodup
theorem tw_step (st:List ByteArray × List ByteArray) (y:YD) (h:TwI st):TwI (twStep st y)/\(twStep st y).2=st.2++strongN [y]:=by
 unfold twStep
 cases hs:isStrong y
 ·exact ⟨h,by simp [strongN,hs]⟩
 ·refine ⟨?_,by simp [strongN,hs]⟩;unfold TwI at h ⊢;simp only [cond_true]
  cases hd:st.2.any fun x=>decide (x=y.1)
  ·have hn:y.1 ∉ st.2:=fun hm=>by
    rw [List.any_eq_false] at hd;exact hd _ hm (by simp)
   simp only [cond_false];rw [h,List.nodup_append]
   constructor
   ·intro h1;refine ⟨h1,by simp,fun a ha b hb=>?_⟩;rw [List.mem_singleton.1 hb];exact fun e=>hn (e ▸ ha)
   ·exact fun h1=>h1.1
  ·have hm:y.1 ∈ st.2:=by
    rw [List.any_eq_true] at hd;obtain ⟨x,hx,he⟩:=hd;rw [<-of_decide_eq_true he];exact hx
   simp only [cond_true]
   constructor
   ·intro h1;simp at h1
   ·intro h1;rw [List.nodup_append] at h1;exact absurd rfl (h1.2.2 _ hm _ (by simp))
theorem tw_S:∀ (ys:List YD) (st:List ByteArray × List ByteArray),TwI st->TwI (twS st ys)/\(twS st ys).2=st.2++strongN ys
 | [],st,h=>⟨h,by simp [twS,strongN]⟩
 | y :: ys,st,h=>by
  obtain ⟨h1,h2⟩:=tw_step st y h;obtain ⟨h3,h4⟩:=tw_S ys _ h1;refine ⟨h3,?_⟩;rw [show twS st (y :: ys)=twS (twStep st y) ys from rfl,h4,h2,List.append_assoc]
  congr 1
  unfold strongN;rw [<-List.map_append,<- List.filter_append]
  rfl
theorem tw_O:∀ (l:List OD) (st:List ByteArray × List ByteArray),TwI st->TwI (twO st l)/\(twO st l).2=st.2++strongL l
 | [],st,h=>⟨h,by simp [twO,strongL]⟩
 | d :: l,st,h=>by
  obtain ⟨h1,h2⟩:=tw_S d.ys st h;obtain ⟨h3,h4⟩:=tw_O l _ h1;refine ⟨h3,?_⟩;rw [show twO st (d :: l)=twO (twS st d.ys) l from rfl,h4,h2,List.append_assoc]
  rfl
theorem twice_nil (l:List OD):twice l=[] ↔ (strongL l).Nodup:=by
 obtain ⟨h1,h2⟩:=tw_O l ([],[]) (by simp [TwI]);unfold twice;rw [List.nil_append] at h2;rw [<-h2];exact h1
def cntS (l:List OD) (nm:ByteArray):Nat:=((enO 0 l).filter fun e=>strongY nm e.2).length
theorem enS_map (k:Nat):∀ (j:Nat) (ys:List YD),(enS k j ys).map (·.2)=ys
 | _,[]=>rfl
 | j,y :: ys=>by rw [enS,List.map_cons,enS_map k (j+1) ys]
theorem enO_map:∀ (k:Nat) (l:List OD),(enO k l).map (·.2)=l.flatMap OD.ys
 | _,[]=>rfl
 | k,d :: l=>by rw [enO,List.map_append,enS_map,enO_map (k+1) l,List.flatMap_cons]
theorem strong_flat (l:List OD):strongL l=strongN (l.flatMap OD.ys):=by
 induction l with
 | nil=>rfl
 | cons d l ih=>
  rw [strongL,List.flatMap_cons,<- strongL,ih,List.flatMap_cons];simp [strongN]
theorem strongY_eq (nm:ByteArray) (y:YD):strongY nm y=(isStrong y && decide (y.1=nm)):=by
 unfold strongY hitY isStrong
 by_cases a:y.1=nm <;> by_cases b:y.2.1=1 <;> by_cases c:y.2.2.1=-1 <;> simp [a,b,c]
def cntN (xs:List ByteArray) (nm:ByteArray):Nat:=(xs.filter fun x=>decide (x=nm)).length
theorem cnt_pos {xs:List ByteArray} {nm:ByteArray} (h:0<cntN xs nm):nm ∈ xs:=by
 obtain ⟨x,hx⟩:=List.exists_mem_of_length_pos h;obtain ⟨h1,h2⟩:=List.mem_filter.1 hx;rw [<-of_decide_eq_true h2];exact h1
theorem cnt_mem {xs:List ByteArray} {nm:ByteArray} (h:nm ∈ xs):0<cntN xs nm:=List.length_pos_of_mem (List.mem_filter.2 ⟨h,decide_eq_true rfl⟩)
theorem nodup_cnt:∀ (xs:List ByteArray),xs.Nodup ↔ ∀ nm,cntN xs nm<=1
 | []=>by simp [cntN]
 | x :: xs=>by
  rw [List.nodup_cons,nodup_cnt xs]
  have hc:∀ nm,cntN (x :: xs) nm=(if x=nm then 1 else 0)+cntN xs nm:=fun nm=>by
   unfold cntN;rw [List.filter_cons]
   by_cases he:x=nm
   ·simp [he]; omega
   ·simp [he]
  constructor
  ·rintro ⟨h1,h2⟩ nm;rw [hc]
   by_cases he:x=nm
   ·subst he
    rcases Nat.eq_zero_or_pos (cntN xs x) with h0 | h0
    ·simp [h0]
    ·exact absurd (cnt_pos h0) h1
   ·have:=h2 nm;simp [he];exact this
  ·intro h;refine ⟨fun hm=>?_,fun nm=>?_⟩
   ·have h1:=h x;rw [hc] at h1;have h2:=cnt_mem hm;simp at h1;omega
   ·have h1:=h nm;rw [hc] at h1;omega
theorem cnt_eq (l:List OD) (nm:ByteArray):cntS l nm=cntN (strongL l) nm:=by
 unfold cntS
 have h1:((enO 0 l).filter fun e=>strongY nm e.2).length=(((enO 0 l).map (·.2)).filter fun y=>strongY nm y).length:=by
  rw [List.filter_map,List.length_map]
  rfl
 rw [h1,enO_map,strong_flat];generalize l.flatMap OD.ys=ys
 induction ys with
 | nil=>rfl
 | cons y ys ih=>
  unfold strongN cntN at ih ⊢;rw [List.filter_cons,List.filter_cons,strongY_eq]
  cases hs:isStrong y
  ·simpa using ih
  ·by_cases he:y.1=nm
   ·simp [he,ih]
   ·simp [he,ih]
def dupN (l:List OD) (nm:ByteArray):Bool:=decide (1<cntS l nm)
def twiceS (l:List OD):List ByteArray:=insAll ((l.flatMap givN).filter (dupN l))
theorem insAll_nil (xs:List ByteArray):(insAll xs).length=0 ↔ xs=[]:=by
 constructor
 ·intro h;have h0:insAll xs=[]:=List.eq_nil_of_length_eq_zero h
  rcases xs with _ | ⟨x,xs⟩
  ·rfl
  ·have:=((insAll_spec (x :: xs)).2 x).2 List.mem_cons_self;rw [h0] at this
   cases this
 ·rintro rfl
  rfl
theorem givN_mem {d:OD} (h:objOk d=true) {nm:ByteArray} (hm:nm ∈ strongN d.ys):nm ∈ givN d:=by
 unfold givN;rw [h,cond_true];refine ((insAll_spec _).2 nm).2 ?_;unfold strongN at hm;obtain ⟨y,hy,rfl⟩:=List.mem_map.1 hm;obtain ⟨h1,h2⟩:=List.mem_filter.1 hy;refine List.mem_map.2 ⟨y,List.mem_filter.2 ⟨h1,?_⟩,rfl⟩;simp only [isStrong,Bool.and_eq_true,decide_eq_true_eq,Bool.not_eq_true',decide_eq_false_iff_not] at h2;simp only [givY,Bool.and_eq_true,Bool.not_eq_true',decide_eq_false_iff_not];exact ⟨h2.2,by omega⟩
theorem twice_same {l:List OD} (h:∀ d ∈ l,objOk d=true):(twiceS l).length=0 ↔ (twice l).length=0:=by
 rw [List.length_eq_zero_iff (l:=twice l),twice_nil];unfold twiceS;rw [insAll_nil,List.filter_eq_nil_iff];simp only [dupN,decide_eq_true_eq,cnt_eq]
 constructor
 ·intro h1;rw [nodup_cnt];intro nm
  rcases Nat.lt_or_ge 1 (cntN (strongL l) nm) with h2 | h2
  ·have hm:nm ∈ strongL l:=cnt_pos (by omega);obtain ⟨d,hd,hn⟩:=List.mem_flatMap.1 hm;exact absurd h2 (h1 nm (List.mem_flatMap.2 ⟨d,hd,givN_mem (h d hd) hn⟩))
  ·exact h2
 ·intro h1 nm _ h2;rw [nodup_cnt] at h1;have:=h1 nm;omega
def missSS (l:List OD):List ByteArray:=insAll (miss l)
theorem miss_same (l:List OD):(missSS l).length=0 ↔ (miss l).length=0:=by
 unfold missSS;rw [insAll_nil,List.length_eq_zero_iff]
end PTwice
/- NamesTwice and NamesMissing; the reference's. -/
namespace CNTwS
open Kit CCode CName CFixups CSymbols PObj BObj PValid PClear CObjValid CObjValidS BStore BList PLink PLinkL CFind P11 C11 CSorted PIns CInsS CNGS CPlaceS PTwice CStrRows
theorem cnt_st (l:List OD) (nm:ByteArray):(st11 nm (enO 0 l)).2.1=(cntS l nm:Int):=by rw [st11_eq]; rfl
theorem bind_of {l:List OD} (h:objsOk l=true):∀ d ∈ l,∀ y ∈ d.ys,0<=y.2.1/\y.2.1<=2:=fun d hd y hy=>by
 simp only [objsOk,Bool.and_eq_true,decide_eq_true_eq,List.all_eq_true] at h;exact (sym_facts (((obj_iff d).1 (h.2 d hd)).2.2.2.1 y hy)).1
theorem some_st {l:List OD} (h:objsOk l=true) (nm:ByteArray):(st11 nm (enO 0 l)).2.2=(findN l nm).isSome:=(given_find (bind_of h) nm).2
theorem objs_ok {os:List OV} (h:objsOk (os.map OV.d)=true):os.length<=4/\∀ o ∈ os,o.ys.length<=12/\objOk o.d=true:=by
 simp only [objsOk,Bool.and_eq_true,decide_eq_true_eq,List.all_eq_true,List.length_map] at h;exact ⟨h.1,fun o ho=>⟨(obj_all (h.2 _ (List.mem_map_of_mem ho))).2.1,h.2 _ (List.mem_map_of_mem ho)⟩⟩
theorem givN_len {o:OV} (h:o.ys.length<=12):(givN o.d).length<=12:=by
 unfold givN
 cases objOk o.d
 ·exact Nat.zero_le _
 ·exact Nat.le_trans (insAll_len _) (Nat.le_trans (givS_len _) h)
theorem twS_next {l:List OD} {k:Nat} (h:k<l.length):((l.take (k+1)).flatMap givN)=(l.take k).flatMap givN++givN l[k]:=by
 rw [take_succ h,List.flatMap_append];simp
theorem dup_snoc (l:List OD) (xs:List ByteArray) (x:ByteArray):(xs++[x]).filter (dupN l)=xs.filter (dupN l)++(bif dupN l x then [x] else []):=by
 rw [List.filter_append]
 cases h:dupN l x <;> simp [h]
set_option maxHeartbeats 8000000 in
theorem namesTwiceS_any (A:Option Addr) (os:List OV) (c:Nat) (w:World) (hr:RdOs w w.heap.size A os) (hf:Fits os) (hok:objsOk (os.map OV.d)=true):
  Calls Tryz.prog 116 #[.slice A os.length c] w (RetN (twiceS (os.map OV.d)) w):=by
 have HR:=h_ hr;have HF:=h_ hf;obtain ⟨h4,hall⟩:=objs_ok hok;have HAL:=h_ hall;have HLN:=h_ (show Lens os from ⟨hf.n,fun o ho=>Nat.le_trans (hall o ho).1 (by decide)⟩);have HOK:=h_ hok;clear hr hf hall hok;have HB:=h_ (show Below w.heap.size w (w.alloc (.cells #[] 9)) from b_)
 go_enter Tryz.func116,Tryz.ntmps116
 go_wp2_with fail
 generalize w.alloc (.cells #[] 9)=w0 at *;generalize hLL:os.map OV.d=l at *;have HLL:=h_ hLL;clear hLL
 go_loopw [3,4] (fun s i wi=>∃ (k g c1:Nat) (ns:List ByteArray),k<=os.length/\s=.slice (some ⟨g,0,none⟩) ns.length c1/\i=.int .i64 k/\ns=insAll (((l.take k).flatMap givN).filter (dupN l))/\ns.length<=12*k/\Row wi w.heap.size 9 1 (some ⟨g,0,none⟩) ns.length c1 (nmC ns)/\Below w.heap.size w wi) (fun _ i _=>os.length - (intOf i).toNat)
 case atStart=>exact ⟨0,w.heap.size,0,[],Nat.zero_le _,rfl,rfl,rfl,Nat.le_refl _,Row.empty _ _ _ _ _,HB.o⟩
 case round=>
  rename World=>wk
  clear HB;obtain ⟨k,g,c1,ns,hk,rfl,rfl,hns,hnl,hrow,hb⟩:=hrel;have HNS:=h_ hns;have HW:=h_ hrow;have HB:=h_ hb;clear hns hrow hb
  by_cases hlt:k<os.length
  ·go_wp2_with fail
   refine (objectsValidS_any A os c wk ((HR.o.below HB.o).more HB.o.size) HF.o).mono ?_;rintro e w1 ⟨rfl,b1⟩;rw [HLL.o,HOK.o];replace HB:=c_ HB b1;replace HW:=h_ (HW.o.call b1);clear b1;obtain ⟨bb,fo,hA,hbb,hc0,hc1⟩:=(HR.o.below HB.o).at hlt
   have HTK:=h_ (show ((l.take (k+1)).flatMap givN)=(l.take k).flatMap givN++givN os[k].d from by
    have hl:k<l.length:=by rw [<-HLL.o]; simpa using hlt
    rw [twS_next hl]
    simp [<-HLL.o])
   have HRO:=h_ (((HR.o.2 _ (List.getElem_mem hlt)).below HB.o).more HB.o.size);have HFO:=h_ (HF.o.o _ (List.getElem_mem hlt));have hgl:=givN_len (HAL.o _ (List.getElem_mem hlt)).1;subst hA;generalize os[k]=o at *
   go_wp2_with fail
   refine (namesGivenS_any o w1 HRO.o HFO.o).mono ?_;rintro e w3 ⟨GA,gc,rfl,rg,b3⟩;have HG:=h_ rg;replace HB:=c_ HB b3;replace HW:=h_ (HW.o.call b3);clear b3;generalize hgv:givN o.d=gs at *;clear rg hc0 hc1 HRO HFO hgv
   go_wp2_with fail
   go_loopw [3,6] (fun s i wi=>∃ (j g c1:Nat) (ms:List ByteArray),j<=gs.length/\s=.slice (some ⟨g,0,none⟩) ms.length c1/\i=.int .i64 j/\ms=insAll (((l.take k).flatMap givN++gs.take j).filter (dupN l))/\ms.length<=12*k+j/\Row wi w.heap.size 9 1 (some ⟨g,0,none⟩) ms.length c1 (nmC ms)/\Rd wi wi.heap.size GA (nmC gs)/\Below w.heap.size w wi) (fun _ i _=>gs.length - (intOf i).toNat)
   case atStart=>exact ⟨0,g,c1,ns,Nat.zero_le _,rfl,rfl,by simpa using HNS.o,by omega,HW.o,HG.o.rd,HB.o⟩
   case round=>
    rename World=>wi
    clear HG HW HB;obtain ⟨j,g,c1,ms,hj,rfl,rfl,hms,hml,hrow,hrg,hb⟩:=hrel;have HMS:=h_ hms;have HW:=h_ hrow;have HRG:=h_ hrg;have HB:=h_ hb;clear hms hrow hb
    by_cases hjl:j<gs.length
    ·obtain ⟨b,off,hA,hbb,hc⟩:=hrg j (.string gs[j]) (by simp [nmC,List.getElem?_eq_getElem hjl])
     have HNX:=h_ (show (bif dupN l gs[j] then insN ms gs[j] else ms)=insAll (((l.take k).flatMap givN++gs.take (j+1)).filter (dupN l)) from by
      rw [take_succ hjl,<- List.append_assoc,dup_snoc]
      cases dupN l gs[j]
      ·simpa using HMS.o
      ·simp only [cond_true]
       rw [insAll_snoc,<- HMS.o])
     clear hrg;subst hA;generalize gs[j]=nm at *
     go_wp2_with fail
     refine (given_any (some ⟨bb,fo,none⟩) os c nm wi ((HR.o.below HB.o).more HB.o.size) HLN.o).mono ?_;rintro e w5 ⟨rfl,b5⟩;have hc5:=(b5.cell (p:=⟨b,off+j,none⟩) hbb).trans (by simpa using hc);have hbb5:=Nat.lt_of_lt_of_le hbb b5.size;have HRG5:=h_ ((HRG.o.below b5).more b5.size);replace HB:=c_ HB b5;replace HW:=h_ (HW.o.call b5);clear b5;unfold gvV;rw [HLL.o,cnt_st];generalize (st11 nm (enO 0 l)).2.2=fl at *;generalize (st11 nm (enO 0 l)).1=gg at *;have B6:Below w5.heap.size w5 (w5.alloc (.cells #[.int .i64 gg.1,.int .i64 gg.2] 79)):=b_;have hc6:=(B6.cell (p:=⟨b,off+j,none⟩) hbb5).trans hc5;have HRG6:=h_ ((HRG5.o.below B6).more B6.size);replace HB:=c_ HB B6;replace HW:=h_ (HW.o.call B6);clear B6;have hl2:=insN_len ms nm;clear hc hc5 hbb
     by_cases hd:1<cntS l nm
     ·have HDT:=h_ (show dupN l nm=true from decide_eq_true hd)
      have hcn:(cntS l nm:Int) > 1:=by omega
      generalize (cntS l nm:Int)=cn at *;have HINS:=h_ (l2Insert_any g ms nm c1 w.heap.size _ HW.o HB.o.size (by omega))
      have HNX':=h_ (show insN ms nm=insAll (((l.take k).flatMap givN++gs.take (j+1)).filter (dupN l)) from by
       have h:=HNX.o;rw [HDT.o] at h
       exact h)
      clear hd HNX
      go_wp2_with fail
      refine HINS.o.mono ?_;rintro e w7 ⟨g7,c7,rfl,r7,b7⟩;have HR7:=h_ r7;have HRG7:=h_ ((HRG6.o.below b7).more b7.size);replace HB:=c_ HB b7;clear b7;clear r7 HINS hc6;generalize insN ms nm=qs at *
      go_wp2_with fail
      refine ⟨⟨j+1,g7,c7,qs,by omega,rfl,by go_num,HNX'.o,by omega,HR7.o,HRG7.o,HB.o⟩,by simp [intOf]; omega⟩
     ·have HDT:=h_ (show dupN l nm=false from decide_eq_false hd)
      have hcn:¬ ((cntS l nm:Int) > 1):=by omega
      generalize (cntS l nm:Int)=cn at *
      have HNX':=h_ (show ms=insAll (((l.take k).flatMap givN++gs.take (j+1)).filter (dupN l)) from by
       have h:=HNX.o;rw [HDT.o] at h
       exact h)
      clear hd HNX
      go_wp2_with fail
      refine ⟨⟨j+1,g,c1,ms,by omega,rfl,by go_num,HNX'.o,by omega,HW.o,HRG6.o,HB.o⟩,by simp [intOf]; omega⟩
    ·have hje:j=gs.length:=by omega
     have HF2:=h_ (show ms=insAll (((l.take (k+1)).flatMap givN).filter (dupN l)) from by rw [HTK.o,HMS.o,hje,List.take_length]);clear hrg
     go_wp2_with fail
     refine ⟨⟨k+1,g,c1,ms,by omega,rfl,by go_num,HF2.o,by omega,HW.o,HB.o⟩,by simp [intOf]; omega⟩
  ·have hke:k=os.length:=by omega
   have HV:=h_ (show twiceS l=ns from by
    unfold twiceS
    rw [HNS.o,List.take_of_length_le (by rw [<-HLL.o,hke]; simp)])
   clear hke
   go_wp2_with fail
   go_ret;rw [HV.o];exact ⟨_,c1,rfl,HW.o,HB.o⟩
theorem missS_snoc (l:List OD) (a:List YD) (y:YD):missS l (a++[y])=missS l a++(bif isMiss l y then [y.1] else []):=by
 unfold missS;rw [List.filter_append,List.map_append]
 cases h:isMiss l y <;> simp [h]
theorem miss_take (l m:List OD) (k:Nat) (h:k<m.length):(m.take (k+1)).flatMap (fun d=>missS l d.ys)=(m.take k).flatMap (fun d=>missS l d.ys)++missS l m[k].ys:=by
 rw [take_succ h,List.flatMap_append];simp
set_option maxHeartbeats 8000000 in
theorem namesMissingS_any (A:Option Addr) (os:List OV) (c:Nat) (w:World) (hr:RdOs w w.heap.size A os) (hf:Fits os) (hok:objsOk (os.map OV.d)=true):
  Calls Tryz.prog 117 #[.slice A os.length c] w (RetN (missSS (os.map OV.d)) w):=by
 have HR:=h_ hr;have HF:=h_ hf;have HBD:=h_ (show ∀ nm,(st11 nm (enO 0 (os.map OV.d))).2.2=(findN (os.map OV.d) nm).isSome from some_st hok);obtain ⟨h4,hall⟩:=objs_ok hok;have HAL:=h_ hall;have HLN:=h_ (show Lens os from ⟨hf.n,fun o ho=>Nat.le_trans (hall o ho).1 (by decide)⟩);have HOK:=h_ hok;clear hr hf hall hok;have HB:=h_ (show Below w.heap.size w (w.alloc (.cells #[] 9)) from b_)
 go_enter Tryz.func117,Tryz.ntmps117
 go_wp2_with fail
 generalize w.alloc (.cells #[] 9)=w0 at *;generalize hLL:os.map OV.d=l at *;have HLL:=h_ hLL;clear hLL
 go_loopw [3,4] (fun s i wi=>∃ (k g c1:Nat) (ns:List ByteArray),k<=os.length/\s=.slice (some ⟨g,0,none⟩) ns.length c1/\i=.int .i64 k/\ns=insAll ((l.take k).flatMap fun d=>missS l d.ys)/\ns.length<=12*k/\Row wi w.heap.size 9 1 (some ⟨g,0,none⟩) ns.length c1 (nmC ns)/\Below w.heap.size w wi) (fun _ i _=>os.length - (intOf i).toNat)
 case atStart=>exact ⟨0,w.heap.size,0,[],Nat.zero_le _,rfl,rfl,rfl,Nat.le_refl _,Row.empty _ _ _ _ _,HB.o⟩
 case round=>
  rename World=>wk
  clear HB;obtain ⟨k,g,c1,ns,hk,rfl,rfl,hns,hnl,hrow,hb⟩:=hrel;have HNS:=h_ hns;have HW:=h_ hrow;have HB:=h_ hb;clear hns hrow hb
  by_cases hlt:k<os.length
  ·go_wp2_with fail
   refine (objectsValidS_any A os c wk ((HR.o.below HB.o).more HB.o.size) HF.o).mono ?_;rintro e w1 ⟨rfl,b1⟩;rw [HLL.o,HOK.o];replace HB:=c_ HB b1;replace HW:=h_ (HW.o.call b1);clear b1;obtain ⟨bb,fo,hA,hbb,hc0,hc1⟩:=HR.o.at hlt
   have HTK:=h_ (show (l.take (k+1)).flatMap (fun d=>missS l d.ys)=(l.take k).flatMap (fun d=>missS l d.ys)++missS l os[k].ys from by
    have hll:k<l.length:=by rw [<-HLL.o]; simpa using hlt
    rw [miss_take l l k hll]
    congr 2
    have:=HLL.o;subst this
    simp [OV.d])
   have HRO:=h_ (HR.o.2 _ (List.getElem_mem hlt)).2;have hyl:=(HAL.o _ (List.getElem_mem hlt)).1;have HC1:=h_ hc1;clear hc0 hc1;subst hA;generalize os[k]=o at *;generalize hp:(l.take k).flatMap (fun d=>missS l d.ys)=pre at *;clear hp
   go_wp2_with fail
   go_loopw [3,5] (fun s i wi=>∃ (j g c1:Nat) (ms:List ByteArray),j<=o.ys.length/\s=.slice (some ⟨g,0,none⟩) ms.length c1/\i=.int .i64 j/\ms=insAll (pre++missS l (o.ys.take j))/\ms.length<=12*k+j/\Row wi w.heap.size 9 1 (some ⟨g,0,none⟩) ms.length c1 (nmC ms)/\Below w.heap.size w wi) (fun _ i _=>o.ys.length - (intOf i).toNat)
   case atStart=>exact ⟨0,g,c1,ns,Nat.zero_le _,rfl,rfl,by rw [HNS.o]; simp [missS],by omega,HW.o,HB.o⟩
   case round=>
    rename World=>wi
    clear HW HB;obtain ⟨j,g,c1,ms,hj,rfl,rfl,hms,hml,hrow,hb⟩:=hrel;have HMS:=h_ hms;have HW:=h_ hrow;have HB:=h_ hb;have hd1:=(hb.cell (p:=⟨bb,fo+k*2+1,none⟩) hbb).trans HC1.o;clear hms hrow
    by_cases hjl:j<o.ys.length
    ·obtain ⟨b2,off2,hYA,hb2,hc⟩:=(HRO.o.below hb).row symbolC_len (by decide) hjl;have hc0:=hc 0 _ rfl;have hc1:=hc 1 _ rfl;have hc2:=hc 2 _ rfl;have hc3:=hc 3 _ rfl;simp only [Nat.add_zero] at hc0
     have HST:=h_ (show pre++missS l (o.ys.take (j+1))=(pre++missS l (o.ys.take j))++(bif isMiss l o.ys[j] then [o.ys[j].1] else []) from by
      rw [take_succ hjl,missS_snoc,<- List.append_assoc])
     clear hb hc;rw [hYA] at hd1;clear hYA;generalize o.ys[j]=z at *;obtain ⟨z1,z2,z3,z4⟩:=z;simp only at hc0 hc1 hc2 hc3 HST
     have HNX:=h_ (show (bif isMiss l (z1,z2,z3,z4) then insN ms z1 else ms)=insAll (pre++missS l (o.ys.take (j+1))) from by
      rw [HST.o]
      cases isMiss l (z1,z2,z3,z4)
      ·simpa using HMS.o
      ·simp only [cond_true]
       rw [insAll_snoc,<- HMS.o])
     clear HST
     go_wp2_with fail
     have B1:Below wi.heap.size wi (wi.alloc (.cells #[.string z1,.int .i64 z2,.int .i64 z3,.int .i64 z4] 67)):=b_;have HZ:=h_ (Box.new wi 67 #[.string z1,.int .i64 z2,.int .i64 z3,.int .i64 z4]);replace HB:=c_ HB B1;replace HW:=h_ (HW.o.call B1);clear B1;clear hc0 hc1 hc2 hc3 hd1;generalize wi.alloc (.cells #[.string z1,.int .i64 z2,.int .i64 z3,.int .i64 z4] 67)=wz at *;generalize wi.heap.size=S at *;refine (given_any (some ⟨bb,fo,none⟩) os c z1 wz ((HR.o.below HB.o).more HB.o.size) HLN.o).mono ?_;rintro e w5 ⟨rfl,b5⟩;replace HB:=c_ HB b5;replace HZ:=h_ (HZ.o.call b5);replace HW:=h_ (HW.o.call b5);clear b5;unfold gvV;rw [HLL.o,HBD.o]
     have HM:=h_ (show isMiss l (z1,z2,z3,z4)=((z3 == -1) && (z2 == 1) && !(findN l z1).isSome) from by
      simp only [isMiss];rw [Bool.and_comm (z3 == -1)]
      cases findN l z1 <;> rfl)
     generalize (st11 z1 (enO 0 l)).2.1=cn at *;generalize (st11 z1 (enO 0 l)).1=gg at *;generalize (findN l z1).isSome=fl at *;have B6:Below w5.heap.size w5 (w5.alloc (.cells #[.int .i64 gg.1,.int .i64 gg.2] 79)):=b_;replace HB:=c_ HB B6;replace HW:=h_ (HW.o.call B6);replace HZ:=h_ (HZ.o.call B6);clear B6;have hl2:=insN_len ms z1;have y0:=d_ HZ.o 0;have y1:=d_ HZ.o 1;have y2:=d_ HZ.o 2;have hzl:=HZ.o.lt
     cases q2:(z3 == -1)
     ·rw [q2,Bool.false_and,Bool.false_and] at HM;rw [HM.o,cond_false] at HNX;clear HM
      go_wp2_with fail
      refine ⟨⟨j+1,g,c1,ms,by omega,rfl,by go_num,HNX.o,by omega,HW.o,HB.o⟩,by simp [intOf]; omega⟩
     cases q1:(z2 == 1)
     ·rw [q1,q2,Bool.and_false,Bool.false_and] at HM;rw [HM.o,cond_false] at HNX;clear HM
      go_wp2_with fail
      refine ⟨⟨j+1,g,c1,ms,by omega,rfl,by go_num,HNX.o,by omega,HW.o,HB.o⟩,by simp [intOf]; omega⟩
     cases fl
     ·rw [q1,q2] at HM;rw [HM.o] at HNX;have HNX2:=h_ (show insN ms z1=insAll (pre++missS l (o.ys.take (j+1))) from HNX.o);have HINS:=h_ (l2Insert_any g ms z1 c1 w.heap.size _ HW.o HB.o.size (by omega));clear HM HNX
      go_wp2_with fail
      refine HINS.o.mono ?_;rintro e w7 ⟨g7,c7,rfl,r7,b7⟩;have HR7:=h_ r7;replace HB:=c_ HB b7;clear b7;clear r7 HINS;generalize insN ms z1=qs at *
      go_wp2_with fail
      refine ⟨⟨j+1,g7,c7,qs,by omega,rfl,by go_num,HNX2.o,by omega,HR7.o,HB.o⟩,by simp [intOf]; omega⟩
     ·rw [q1,q2] at HM;rw [HM.o] at HNX;have HNX2:=h_ (show ms=insAll (pre++missS l (o.ys.take (j+1))) from HNX.o);clear HM HNX
      go_wp2_with fail
      refine ⟨⟨j+1,g,c1,ms,by omega,rfl,by go_num,HNX2.o,by omega,HW.o,HB.o⟩,by simp [intOf]; omega⟩
    ·have hje:j=o.ys.length:=by omega
     have HF2:=h_ (show ms=insAll ((l.take (k+1)).flatMap fun d=>missS l d.ys) from by rw [HTK.o,HMS.o,hje,List.take_length]);clear hb
     go_wp2_with fail
     refine ⟨⟨k+1,g,c1,ms,by omega,rfl,by go_num,HF2.o,by omega,HW.o,HB.o⟩,by simp [intOf]; omega⟩
  ·have hke:k=os.length:=by omega
   have HV:=h_ (show missSS l=ns from by
    unfold missSS miss
    rw [HNS.o,List.take_of_length_le (by rw [<-HLL.o,hke]; simp)])
   clear hke
   go_wp2_with fail
   go_ret;rw [HV.o];exact ⟨_,c1,rfl,HW.o,HB.o⟩
end CNTwS
/- FindName; the reference's. -/
namespace CFindS
open Kit CCode CName CFixups CSymbols PObj BObj PValid CGlobalOf CObjValid BStore BList PLink CFind CPlaceS P11 C11
def fndS (l:List OD) (nm:ByteArray):Option G:=bif objsOk l then findN l nm else none
def gvG (r:Option G):Value:=.tuple #[.agg #[.int .i64 (r.getD (0,0)).1,.int .i64 (r.getD (0,0)).2],.bool r.isSome]
set_option maxHeartbeats 4000000 in
theorem findNameS_any (A:Option Addr) (os:List OV) (c:Nat) (nm:ByteArray) (w:World) (hr:RdOs w w.heap.size A os) (hf:Fits os) (hl:Lens os):
  Calls Tryz.prog 67 #[.slice A os.length c,.string nm] w (Ret (gvG (fndS (os.map OV.d) nm)) w):=by
 have HR:=h_ hr;have HF:=h_ hf;have HLN:=h_ hl;clear hr hf hl;have HB:=h_ (show Below w.heap.size w (w.alloc (.cells #[.int .i64 0,.int .i64 0] 79)) from b_);have HX:=h_ (Box.new w 79 #[.int .i64 0,.int .i64 0])
 go_enter Tryz.func67,Tryz.ntmps67
 go_wp2_with fail
 generalize w.alloc (.cells #[.int .i64 0,.int .i64 0] 79)=w0 at *;refine (objectsValidS_any A os c w0 ((HR.o.below HB.o).more HB.o.size) HF.o).mono ?_;rintro e w1 ⟨rfl,b1⟩;replace HB:=c_ HB b1;replace HX:=h_ (HX.o.call b1);clear b1
 cases hok:objsOk (os.map OV.d)
 ·have HV:=h_ (show fndS (os.map OV.d) nm=none from by unfold fndS; rw [hok]; rfl);have x0:=d_ HX.o 0;have x1:=d_ HX.o 1;have xf0:=HX.o.frozen 0;have xf1:=HX.o.frozen 1;have hxl:=HX.o.lt;have k:=(HX.o.set 0 (.int .i64 0)).set 1 (.int .i64 0);have k0:=k.cell 0;have k1:=k.cell 1;simp only [k_] at k0 k1;have HFB:=h_ (two_below (Y:=w.heap.size) HB.o (Nat.le_refl _) (.int .i64 0) (.int .i64 0));clear k hok
  go_wp2_with fail
  exact bodyPost_ret (v:=gvG none) (by simp [results,Tryz.results67,go_sem,k0,k1,gvG]) rfl (by rw [HV.o]; exact ⟨rfl,HFB.o⟩)
 ·have HVB:=h_ (CNTwS.bind_of hok);have HV:=h_ (show fndS (os.map OV.d) nm=findN (os.map OV.d) nm from by unfold fndS; rw [hok]; rfl);clear hok
  go_wp2_with fail
  refine (given_any A os c nm w1 ((HR.o.below HB.o).more HB.o.size) HLN.o).mono ?_;rintro e w2 ⟨rfl,b2⟩;replace HB:=c_ HB b2;replace HX:=h_ (HX.o.call b2);clear b2;unfold gvV;obtain ⟨hg1,hg2⟩:=given_find HVB.o nm;rw [hg1,hg2];clear hg1 hg2;rw [<-HV.o];generalize (st11 nm (enO 0 (os.map OV.d))).2.1=cnt at *;have HG:=h_ (show gvG (fndS (os.map OV.d) nm)=.tuple #[.agg #[.int .i64 ((fndS (os.map OV.d) nm).getD (0,0)).1,.int .i64 ((fndS (os.map OV.d) nm).getD (0,0)).2],.bool (fndS (os.map OV.d) nm).isSome] from rfl);generalize ((fndS (os.map OV.d) nm).getD (0,0)).1=g1 at *;generalize ((fndS (os.map OV.d) nm).getD (0,0)).2=g2 at *;generalize (fndS (os.map OV.d) nm).isSome=fl at *;have HX2:=HX.o.alloc (.cells #[.int .i64 g1,.int .i64 g2] 79);have kk:=(HX2.set 0 (.int .i64 g1)).set 1 (.int .i64 g2);have k0:=kk.cell 0;have k1:=kk.cell 1;simp only [k_] at k0 k1;clear kk;have HFB:=h_ (two_below (Y:=w.heap.size) (HB.o.alloc HB.o.size (.cells #[.int .i64 g1,.int .i64 g2] 79)) (Nat.le_refl _) (.int .i64 g1) (.int .i64 g2));have hxl:=HX2.lt;have x0:=d_ HX2 0;have x1:=d_ HX2 1;have xf0:=HX2.frozen 0;have xf1:=HX2.frozen 1;clear HX2
  go_wp2_with fail
  exact bodyPost_ret (v:=.tuple #[.agg #[.int .i64 g1,.int .i64 g2],.bool fl]) (by simp [results,Tryz.results67,go_sem,k0,k1]) rfl (by rw [HG.o]; exact ⟨rfl,HFB.o⟩)
end CFindS
/- l25Split: a line cut at its first blank; the reference's. -/
namespace CSplitS
open Kit CEqual PNum PDump CHexI CHexS CWordsS PDesk
theorem ext_lo (s:ByteArray) (k:Nat):s.extract 0 k=bs (s.data.toList.take k):=by
 apply ByteArray.ext
 rw [ByteArray.data_extract]
 apply Array.ext'
 rw [Array.toList_extract]
 show (s.data.toList.drop 0).take (k - 0)=s.data.toList.take k
 rw [List.drop_zero,Nat.sub_zero]
theorem ext_hi (s:ByteArray) (k:Nat):s.extract k s.size=bs (s.data.toList.drop k):=by
 apply ByteArray.ext
 rw [ByteArray.data_extract]
 apply Array.ext'
 rw [Array.toList_extract]
 show (s.data.toList.drop k).take (s.size - k)=s.data.toList.drop k
 refine List.take_of_length_le ?_;rw [List.length_drop,Array.length_toList];exact Nat.le_refl _
set_option maxHeartbeats 4000000 in
theorem split_any (s:ByteArray) (hs:s.size<=1048576) (w:World):Calls Tryz.prog 61 #[.string s] w (Ret (.tuple #[.string (bs (cutW s.data.toList)),.string (bs (cutR s.data.toList))]) w):=by
 go_enter Tryz.func61,Tryz.ntmps61
 go_wp2_with fail
 go_loopw [4] (fun i wi=>∃ (k:Nat),k<=s.size/\i=.int .i64 k/\(32:UInt8) ∉ s.data.toList.take k/\Below w.heap.size w wi) (fun i _=>s.size - (intOf i).toNat)
 case atStart=>exact ⟨0,Nat.zero_le _,rfl,by simp,Below.refl _ _⟩
 case round=>
  rename World=>wk
  obtain ⟨k,hk,rfl,hno,hb⟩:=hrel;have HB:=h_ hb;have HNO:=h_ hno;clear hb hno
  by_cases hlt:k<s.size
  ·have hlt':k<s.data.toList.length:=by rw [Array.length_toList]; exact hlt
   have HT:=h_ (take_byte s k hlt)
   have HD:=h_ (show s.data.toList=s.data.toList.take k++(s[k]'hlt) :: s.data.toList.drop (k+1) from by
    have h:=List.drop_eq_getElem_cons hlt';have h2:s.data.toList[k]=s[k]'hlt:=rfl;rw [h2] at h
    rw [<-h,List.take_append_drop])
   have hx8:(0:Int)<=((s[k]'hlt).toNat:Int):=by omega
   by_cases hc:s[k]'hlt=(32:UInt8)
   ·have hc1:(((s[k]'hlt).toNat:Int) == 32)=true:=by rw [hc]; rfl
    have HV:=h_ (show cutW s.data.toList=s.data.toList.take k/\cutR s.data.toList=s.data.toList.drop (k+1) from by
     have h:=HD.o;rw [hc] at h;have h2:=cut_at (r:=s.data.toList.drop (k+1)) HNO.o;rw [<-h] at h2
     exact h2)
    have hk1:IntKind.i64.wrap ((k:Int)+1)=((k+1:Nat):Int):=by rw [IntKind.wrap_i64]; omega
    have hk2:k+1<=s.size:=hlt;clear HT HD hc
    have j1:(k:Int)<=s.size:=by omega
    have j2:((k+1:Nat):Int)<=s.size:=by omega
    go_upto_region 5 with (fail)
    go_quiet (fail)
    go_wp2_with fail
    go_ret2;exact ⟨by rw [HV.o.1,HV.o.2,<- ext_lo,<- ext_hi]; rfl,Kit.Below.drewN HB.o nq⟩
   ·have hc1:(((s[k]'hlt).toNat:Int) == 32)=false:=beq_eq_false_iff_ne.2 (fun h=>hc (UInt8.toNat_inj.1 (by have h2:((32:UInt8):UInt8).toNat=32:=rfl; omega)))
    have HN2:=h_ (show (32:UInt8) ∉ s.data.toList.take (k+1) from by
     rw [HT.o,List.mem_append,List.mem_singleton];rintro (h | h)
     ·exact HNO.o h
     ·exact hc h.symm)
    clear hc HT HD
    go_wp2_with fail
    refine ⟨⟨k+1,by omega,by go_num,HN2.o,HB.o⟩,by simp [intOf]; omega⟩
  ·have hke:k=s.size:=by omega
   have HV:=h_ (show cutW s.data.toList=s.data.toList/\cutR s.data.toList=[] from by
    have h:=HNO.o;rw [List.take_of_length_le (by rw [Array.length_toList,hke]; exact Nat.le_refl _)] at h
    exact cut_none h)
   clear hke
   go_wp2_with fail
   go_ret2;exact ⟨by rw [HV.o.1,HV.o.2]; rfl,HB.o⟩
end CSplitS
/- l13Value: the place that a symbol means; the reference's. -/
namespace C13
open Kit CCode CName CFixups CSymbols PObj BObj PValid CGlobalOf CObjValid BStore BList PLink CFind CPlaceL
set_option maxHeartbeats 2000000 in
theorem value_any (A:Option Addr) (os:List OV) (c:Nat) (PA:Option Addr) (rs:List RV) (pc k j:Nat) (w:World) (hP:RdRs w w.heap.size PA rs) (hr:RdOs w w.heap.size A os)
  (hk:k<os.length) (hj:j<(os[k]).ys.length) (hm:os.length<=1048576/\(os[k]).ys.length<=1048576) (hp:PlOk rs k (os[k]).ys[j]):
  Calls Tryz.prog 163 #[.slice A os.length c,.slice PA rs.length pc,.int .i64 k,.int .i64 j] w (Ret (.int .i64 (tgY (rs.map RV.zs) k (os[k]).ys[j])) w):=by
 obtain ⟨hm1,hm2⟩:=hm;obtain ⟨b1,o1,hA,hb1,hc0,hc1⟩:=hr.at hk;obtain ⟨b2,o2,hY,hb2,hc⟩:=((hr.2 _ (List.getElem_mem hk)).2).row symbolC_len (by decide) hj;have hd0:=hc 0 _ rfl;have hd1:=hc 1 _ rfl;have hd2:=hc 2 _ rfl;have hd3:=hc 3 _ rfl;simp only [Nat.add_zero] at hd0;have HPL:=h_ hp;have HRP:=h_ hP;clear hP hr hc hp hc0;subst hA;rw [hY] at hc1;clear hY;generalize (os[k]).ys[j]=z at *;generalize (os[k]).ys.length=yn at *;generalize (os[k]).yc=ycc at *;obtain ⟨z1,z2,z3,z4⟩:=z;simp only at hd0 hd1 hd2 hd3;have B1:Below w.heap.size w (w.alloc (.cells #[.string z1,.int .i64 z2,.int .i64 z3,.int .i64 z4] 67)):=b_;have HS:=h_ (Box.new w 67 #[.string z1,.int .i64 z2,.int .i64 z3,.int .i64 z4]);have y0:=d_ HS.o 0;have y1:=d_ HS.o 1;have y2:=d_ HS.o 2;have y3:=d_ HS.o 3;have hsl:=HS.o.lt;have HB:=h_ B1;clear B1
 by_cases h2:z3=-2
 ·have HV:=h_ (show tgY (rs.map RV.zs) k (z1,z2,z3,z4)=z4 from by unfold tgY; rw [if_pos h2]);have e2:(z3 == -2)=true:=beq_iff_eq.2 h2;clear h2 HPL HRP
  go_enter Tryz.func163,Tryz.ntmps163
  go_wp2_with fail
  go_ret;exact ⟨by rw [HV.o]; rfl,HB.o⟩
 ·have e2:(z3 == -2)=false:=beq_eq_false_iff_ne.2 h2;obtain ⟨hq,hv0,hv1⟩:=HPL.o;simp only at hq hv0 hv1
  rcases hq with hq | ⟨hz0,hkr,hir,hg0,hg1⟩
  ·exact absurd hq h2
  obtain ⟨pb,poff,hPP,hpb,hrow⟩:=HRP.o.at hkr;obtain ⟨rb,ro,hRA,hrb,hcell⟩:=(HRP.o.2 _ (List.getElem_mem hkr)).int hir
  have HV:=h_ (show tgY (rs.map RV.zs) k (z1,z2,z3,z4)=(rs[k]).zs[z3.toNat]+z4 from by
   unfold tgY
   rw [if_neg h2,getP_at hkr hir])
  rw [hRA] at hrow;clear HPL HRP hRA h2;subst hPP;generalize hgv:(rs[k]).zs[z3.toNat]=v at *;have hzl:z3.toNat<(rs[k]).zs.length:=hir;clear hgv hir;generalize (rs[k]).zs.length=rl at *;generalize (rs[k]).c=rc at *;obtain ⟨n,rfl⟩:=Int.eq_ofNat_of_zero_le hz0;simp only [Int.toNat_natCast] at *;have hrow':=(HB.o.cell (p:=⟨pb,poff+k,none⟩) hpb).trans hrow;have hcell':=(HB.o.cell (p:=⟨rb,ro+n,none⟩) hrb).trans hcell;have hwr:IntKind.i64.wrap (v+z4)=v+z4:=IntWalk.i64_in _ (by omega)
  go_enter Tryz.func163,Tryz.ntmps163
  go_wp2_with fail
  go_quiet (fail)
  go_wp2_with fail
  go_ret
  exact ⟨by rw [HV.o]; rfl,by have h:=HB.o; exact (by (repeat (first | with_reducible assumption | with_reducible exact Below.refl _ _ | with_reducible apply below_al | with_reducible apply below_dr | with_reducible apply below_dn)); done)⟩
end C13
/- The places of a layout can be told. -/
namespace CAllPl
open Kit CCode CName CNumber CFixups CSymbols PObj BObj PValid PWarn PClear CSecValid CObjValid BStore BList PLink PLinkL PLayB CFind CPlaceL
def AllPl2 (rs:List RV) (os:List OV):Prop:=∀ (k:Nat) (hk:k<os.length) (j:Nat) (hj:j<(os[k]).ys.length),((os[k]).ys[j].2.2.1=-1->¬ (os[k]).ys[j].2.1=0)/\(¬ (os[k]).ys[j].2.2.1=-1->PlOk rs k (os[k]).ys[j])
theorem sym_at2 (os:List OV) {k j:Nat} (hk:k<os.length) (hj:j<(os[k]).ys.length):symAtL (os.map OV.d) (k,j)=(os[k]).ys[j]:=by
 unfold symAtL;rw [List.getD_eq_getElem?_getD (l:=os.map OV.d),List.getElem?_map,List.getElem?_eq_getElem hk];simp only [Option.map_some,Option.getD_some,OV.d];exact getD_at hj _
theorem all_pl2 {os:List OV} {rs:List RV} {b:Int} (ho:objsOk (os.map OV.d)=true) (hb0:0<=b) (hb1:b<=4096) (hrs:rs.map RV.zs=(PLink.lay (os.map OV.d) b).2):AllPl2 rs os:=by
 intro k hk j hj;obtain ⟨q1,q2,q3,q4⟩:=lay_bd ho hb0 hb1;rw [<-hrs] at q3;simp only [objsOk,Bool.and_eq_true,decide_eq_true_eq,List.all_eq_true] at ho;obtain ⟨_,_,h3,h4,_⟩:=(obj_iff _).1 (ho.2 _ (List.mem_map_of_mem (List.getElem_mem hk)));have hy:=h4 _ (show (os[k]).ys[j] ∈ (os[k]).d.ys from List.getElem_mem hj);obtain ⟨_,s2⟩:=sym_facts hy;refine ⟨s2,fun hn=>?_⟩
 have hkl:k<(os.map OV.d).length:=by simpa using hk
 have hP:=hy;simp only [symOk,Bool.and_eq_true] at hP;have hP:=hP.2;unfold placeOk at hP;rw [if_neg hn] at hP;generalize (os[k]).ys[j]=y at *
 by_cases h2:y.2.2.1=-2
 ·rw [if_pos h2] at hP
  have:0<=y.2.2.2/\y.2.2.2<=60000:=by simpa [inB] using hP
  exact ⟨.inl h2,this.1,this.2⟩
 ·rw [if_neg h2] at hP;simp only [Bool.and_eq_true,inB,decide_eq_true_eq] at hP;obtain ⟨⟨w1,w2⟩,v1,v2⟩:=hP
  have hil:y.2.2.1.toNat<(os[k]).d.ss.length:=by omega
  have hsz:=(sec_okk (h3 _ (List.getElem_mem hil))).1.1
  have hge:(os[k]).d.ss.getD y.2.2.1.toNat ⟨ByteArray.empty,0,0,[],0,[]⟩=(os[k]).d.ss[y.2.2.1.toNat]:=by
   rw [List.getD_eq_getElem?_getD,List.getElem?_eq_getElem hil]
   rfl
  rw [hge] at v2
  have hle:((os.map OV.d)[k]).ss=(os[k]).d.ss:=by simp
  have hil2:y.2.2.1.toNat<((os.map OV.d)[k]).ss.length:=by rw [hle]; exact hil
  have hsec:=sec_at hkl hil2;obtain ⟨p1,p2⟩:=q3 _ _ _ hsec;have hpl:=q4 k hkl _ hil2;rw [<-hrs] at hpl;simp only [List.length_map,List.getElem_map] at p1 p2;rw [getP_at p1 p2] at hpl;exact ⟨.inr ⟨w1,p1,p2,by omega,by omega⟩,v1,by omega⟩
theorem found_at {os:List OV} {rs:List RV} {nm:ByteArray} {g:G} (ha:AllPl2 rs os) (h:findN (os.map OV.d) nm=some g):∃ (hk:g.1<os.length) (hj:g.2<(os[g.1]).ys.length),PlOk rs g.1 (os[g.1]).ys[g.2]/\tgO (os.map OV.d) (rs.map RV.zs) (some g)=tgY (rs.map RV.zs) g.1 (os[g.1]).ys[g.2]:=by
 obtain ⟨h1,h2,h3⟩:=find_ok h
 have hk:g.1<os.length:=by simpa using h1
 have e:(os.map OV.d).getD g.1 ⟨[],[]⟩=(os[g.1]).d:=by rw [List.getD_eq_getElem?_getD,List.getElem?_map,List.getElem?_eq_getElem hk]; rfl
 rw [e] at h2 h3;have hj:g.2<(os[g.1]).ys.length:=h2
 have e2:(os[g.1]).d.ys.getD g.2 dY=(os[g.1]).ys[g.2]:=by rw [List.getD_eq_getElem?_getD]; show ((os[g.1]).ys[g.2]?).getD dY=_; rw [List.getElem?_eq_getElem hj]; rfl
 rw [e2] at h3;refine ⟨hk,hj,(ha g.1 hk g.2 hj).2 h3,?_⟩;have h:=sym_at2 os hk hj
 show tgY (rs.map RV.zs) g.1 (symAtL (os.map OV.d) (g.1,g.2))=_
 rw [h]
end CAllPl
/- NamePlaces: the reference's. -/
namespace CNPlS
open Kit CCode CName CFixups CSymbols PObj BObj PValid CObjValid BStore BList PLink PLinkL CFind CPlaceL CSorted CObjL COwnL CLayout CPlaceS P11 C11 C13 CAllPl
theorem valid_bind {l:List OD} (h:objsOk l=true):∀ d ∈ l,∀ y ∈ d.ys,0<=y.2.1/\y.2.1<=2:=by
 simp only [objsOk,Bool.and_eq_true,decide_eq_true_eq,List.all_eq_true] at h;intro d hd y hy;obtain ⟨_,_,_,h4,_⟩:=(obj_iff d).1 (h.2 d hd);have:=h4 y hy;simp only [symOk,bindOk,Bool.and_eq_true,inB,decide_eq_true_eq] at this;exact this.1.2
end CNPlS
/- SymbolPlace; the reference's. -/
namespace CSymPlS
open Kit CCode CName CFixups CSymbols PObj BObj PValid CGlobalOf CObjValid BStore BList PLink CFind CPlaceL CPlaceS C13 P11 C11 CAllPl CNPlS
set_option maxHeartbeats 8000000 in
theorem symbolPlaceS_any (A:Option Addr) (os:List OV) (c:Nat) (base:Int) (k j:Nat) (w:World) (hr:RdOs w w.heap.size A os) (hf:Lst os) (hok:(objsOk (os.map OV.d) && baseOk base)=true)
  (hk:k<os.length) (hj:j<(os[k]).ys.length):
  Calls Tryz.prog 118 #[.slice A os.length c,.int .i64 base,.int .i64 k,.int .i64 j] w (CSymPl.RetP (symPl (os.map OV.d) (PLink.lay (os.map OV.d) base).2 k j) w):=by
 have HR:=h_ hr;have HF:=h_ hf;have HLN:=h_ (show Lens os from ⟨hf.n,fun o h=>(hf.f o h).ny⟩);have hny:=(hf.f _ (List.getElem_mem hk)).ny;have hno:=hf.n;have HOK:=h_ hok;have hok':=hok;rw [Bool.and_eq_true] at hok';obtain ⟨ho,hbs⟩:=hok'
 have hb0:0<=base/\base<=4096:=by
  simp only [baseOk,Bool.and_eq_true,decide_eq_true_eq] at hbs;exact hbs.1
 have HVB:=h_ (valid_bind ho);have HAPL:=h_ (fun (rs:List RV) (hrz:rs.map RV.zs=(PLink.lay (os.map OV.d) base).2)=>all_pl2 ho hb0.1 hb0.2 hrz);clear hr hf hok ho hbs hb0
 go_enter Tryz.func118,Tryz.ntmps118
 go_wp2_with fail
 refine (placeSections_any A os c base w HR.o HF.o).mono ?_;rintro e w1 ⟨PA,pc,rs,x,rfl,hyes,hP,b1⟩;obtain ⟨hrz,hx⟩:=hyes HOK.o;rw [HOK.o];have HP:=h_ hP;have HB:=h_ b1;have HPL:=h_ (HAPL.o rs hrz);have HRZ:=h_ hrz;clear hyes hP b1 hx hrz HAPL HOK
 have hi1:inB (k:Int) 0 ((os.length:Int) - 1)=true:=by simp [inB]; omega
 have hi2:inB (j:Int) 0 (((os[k]).ys.length:Int) - 1)=true:=by simp [inB]; omega
 have hw1:IntKind.i64.wrap ((os.length:Int) - 1)=(os.length:Int) - 1:=IntWalk.i64_in _ (by omega);have hw2:IntKind.i64.wrap (((os[k]).ys.length:Int) - 1)=((os[k]).ys.length:Int) - 1:=IntWalk.i64_in _ (by omega);have HPK:=h_ (HPL.o k hk j hj);obtain ⟨bb,fo,hA,hbb,hc0,hc1⟩:=(HR.o.below HB.o).at hk;obtain ⟨b2,o2,hY,hb2,hc⟩:=((HR.o.2 _ (List.getElem_mem hk)).2.below HB.o).row symbolC_len (by decide) hj;have hd0:=hc 0 _ rfl;have hd1:=hc 1 _ rfl;have hd2:=hc 2 _ rfl;have hd3:=hc 3 _ rfl;simp only [Nat.add_zero] at hd0;have HCV:=h_ (fun W (hb:Below w1.heap.size w1 W) (hb':Below w.heap.size w W) (hp:PlOk rs k (os[k]).ys[j])=>value_any A os c PA rs pc k j W ((HP.o.below hb).more hb.size) ((HR.o.below hb').more hb'.size) hk hj ⟨HLN.o.1,HLN.o.2 _ (List.getElem_mem hk)⟩ hp)
 have HSY:=h_ (show symPl (os.map OV.d) (PLink.lay (os.map OV.d) base).2 k j=if (os[k]).ys[j].2.1=0 then tgY (rs.map RV.zs) k (os[k]).ys[j] else tgO (os.map OV.d) (rs.map RV.zs) (findN (os.map OV.d) (os[k]).ys[j].1) from by
  rw [<-HRZ.o];unfold symPl tgG
  rw [sym_at2 os hk hj])
 clear hc hc0 HRZ;subst hA;rw [hY] at hc1;clear hY;generalize (os[k]).ys[j]=z at *;generalize (os[k]).ys.length=yn at *;generalize (os[k]).yc=ycc at *;obtain ⟨z1,z2,z3,z4⟩:=z;simp only at hd0 hd1 hd2 hd3 HPK HSY
 go_wp2_with fail
 refine (l1In_any _ _ _ _).mono ?_;rintro e w' ⟨rfl,rfl⟩;rw [hi1];clear hi1
 go_wp2_with fail
 refine (l1In_any _ _ _ _).mono ?_;rintro e w' ⟨rfl,rfl⟩;rw [hi2];clear hi2;have B1:Below w1.heap.size w1 (w1.alloc (.cells #[.string z1,.int .i64 z2,.int .i64 z3,.int .i64 z4] 67)):=b_;have HS:=h_ (Box.new w1 67 #[.string z1,.int .i64 z2,.int .i64 z3,.int .i64 z4]);have HB1:=h_ (Below.refl w1.heap.size w1)
 by_cases h0:z2=0
 ·have e0:(z2 == 0)=true:=beq_iff_eq.2 h0;rw [if_pos h0] at HSY;have HV:=h_ (HCV.o _ B1 (HB.o.trans (B1.mono HB.o.size)) (HPK.o.2 (fun h=>HPK.o.1 h h0)));replace HB:=c_ HB B1;clear B1;clear h0 HCV HPK
  go_wp2_with fail
  refine HV.o.mono ?_;rintro e w3 ⟨rfl,b3⟩;replace HB:=c_ HB b3;clear b3;clear HV
  go_wp2_with fail
  go_ret2;exact ⟨true,by rw [HSY.o]; rfl,HB.o⟩
 ·have e0:(z2 == 0)=false:=beq_eq_false_iff_ne.2 h0;rw [if_neg h0] at HSY;clear h0 HCV HPK;replace HB:=c_ HB B1;replace HB1:=h_ (HB1.o.trans (B1.mono HB1.o.size));clear B1
  go_upto_region 7 with (fail)
  clear hd0 hd1 hd2 hd3 hc1 hw1 hw2 hny hno hbb hb2;generalize w1.alloc (.cells #[.string z1,.int .i64 z2,.int .i64 z3,.int .i64 z4] 67)=w4 at *;have y0:=d_ HS.o 0;have hsl:=HS.o.lt
  go_wp2_with fail
  refine (given_any (some ⟨bb,fo,none⟩) os c z1 w4 ((HR.o.below HB.o).more HB.o.size) HLN.o).mono ?_;rintro e w5 ⟨rfl,b5⟩;clear y0 hsl;replace HB:=c_ HB b5;replace HB1:=h_ (HB1.o.trans (b5.mono HB1.o.size));replace HS:=h_ (HS.o.call b5);clear b5;unfold gvV;obtain ⟨hg1,hg2⟩:=given_find HVB.o z1;rw [hg1,hg2];generalize (st11 z1 (enO 0 (os.map OV.d))).2.1=cnt at *;clear hg1 hg2
  cases hfn:findN (os.map OV.d) z1 with
  | none=>
   rw [hfn] at HSY;have B6:Below w5.heap.size w5 (w5.alloc (.cells #[.int .i64 0,.int .i64 0] 79)):=b_;replace HB:=c_ HB B6;replace HS:=h_ (HS.o.call B6);clear B6;clear hfn;simp only [Option.getD_none,Option.isSome_none];have y1:=d_ HS.o 1;have hsl:=HS.o.lt
   go_upto_region 9 with (fail)
   go_quiet (fail)
   go_wp2_with fail
   go_ret2;exact ⟨z2 == 2,by rw [HSY.o]; rfl,Kit.Below.drewN HB.o nq⟩
  | some g=>
   obtain ⟨hgk,hgj,hpo,htg⟩:=found_at HPL.o hfn;rw [hfn,htg] at HSY;obtain ⟨g1,g2⟩:=g;simp only at hgk hgj hpo HSY;simp only [Option.getD_some,Option.isSome_some];have B6:Below w5.heap.size w5 (w5.alloc (.cells #[.int .i64 g1,.int .i64 g2] 79)):=b_;have HX:=h_ (Box.new w5 79 #[.int .i64 g1,.int .i64 g2]);replace HB:=c_ HB B6;replace HB1:=h_ (HB1.o.trans (B6.mono HB1.o.size));clear B6;have HV:=h_ (value_any (some ⟨bb,fo,none⟩) os c PA rs pc g1 g2 (w5.alloc (.cells #[.int .i64 g1,.int .i64 g2] 79)) ((HP.o.below HB1.o).more HB1.o.size) ((HR.o.below HB.o).more HB.o.size) hgk hgj ⟨HLN.o.1,HLN.o.2 _ (List.getElem_mem hgk)⟩ hpo);generalize tgY (rs.map RV.zs) g1 (os[g1]).ys[g2]=v at *;have x0:=d_ HX.o 0;have x1:=d_ HX.o 1;have hxl:=HX.o.lt;clear hfn hpo htg
   go_wp2_with fail
   refine HV.o.mono ?_;rintro e w7 ⟨rfl,b7⟩;replace HB:=c_ HB b7;clear b7;clear HV
   go_wp2_with fail
   go_ret2;exact ⟨true,by rw [HSY.o]; rfl,HB.o⟩
end CSymPlS
end Go.Proofs.YtepoiphmmjfbdaaGreatDoor
