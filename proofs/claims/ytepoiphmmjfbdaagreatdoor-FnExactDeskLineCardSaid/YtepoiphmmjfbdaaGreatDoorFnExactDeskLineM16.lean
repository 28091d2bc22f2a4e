/- Lists of objects that a desk's law hands on: their sizes. -/
import Derived.Test.YtepoiphmmjfbdaaGreatDoorFnExactDeskLineM15
set_option linter.unusedSimpArgs false
set_option linter.unusedVariables false
set_option maxRecDepth 200000
open Go.ChangeShapes Go.WideShapes Go.ChangeAt Go.RowKit
namespace Go.Proofs.YtepoiphmmjfbdaaGreatDoor
namespace BDeskW
open Kit CCode CFixups CSymbols PObj BObj PValid PClear CObjValid CSections CObject CObject2 CMarkRows WObj BList CObjL CObjL2 CPlaceS CCopyS CJoinAI PJoin2 PLink PDump PDesk
theorem valid_lim {o:OV} (h:objOk o.d=true):LimO o/\wdO o<=1000:=by
 obtain ⟨h1,h2⟩:=valid_len h;obtain ⟨_,_,h3⟩:=obj_all h
 have h4:∀ p ∈ o.ps,p.fs.length<=6/\p.zs.length<=48:=fun p hp=>by
  obtain ⟨a,b,_⟩:=h3 p.d (List.mem_map_of_mem hp);exact ⟨a,b⟩
 refine ⟨⟨by omega,by omega,fun p hp=>⟨by have:=h4 p hp; omega,by have:=h4 p hp; omega⟩⟩,?_⟩
 have key:∀ ps:List SV,(∀ p ∈ ps,p.fs.length<=6/\p.zs.length<=48)->wds ps<=76*ps.length:=by
  intro ps
  induction ps with
  | nil=>intro _; simp [wds]
  | cons p ps ih=>
   intro h;have h5:=h p List.mem_cons_self;have h6:=ih fun q hq=>h q (List.mem_cons_of_mem _ hq);simp only [wds,wd,List.length_cons];omega
 have h5:=key o.ps h4;unfold wdO;omega
theorem valid_lims {os:List OV} (h:objsOk (os.map OV.d)=true):os.length<=4/\(∀ o ∈ os,LimO o)/\(∀ o ∈ os,o.ps.length<=8/\o.ys.length<=12)/\wdL os<=4000:=by
 obtain ⟨h1,h2⟩:=objs_all h
 have key:∀ qs:List OV,(∀ o ∈ qs,objOk o.d=true)->wdL qs<=1000*qs.length:=by
  intro qs
  induction qs with
  | nil=>intro _; simp [wdL]
  | cons p ps ih=>
   intro h;have h5:=(valid_lim (h p List.mem_cons_self)).2;have h6:=ih fun q hq=>h q (List.mem_cons_of_mem _ hq);simp only [wdL,List.length_cons];omega
 have h3:=key os h2;exact ⟨h1,fun o ho=>(valid_lim (h2 o ho)).1,fun o ho=>valid_len (h2 o ho),by omega⟩
theorem desk_ok (l:List OD) (s:List UInt8):objsOk (deskA l s).1=true:=by
 by_cases h:objsOk l=true
 ·exact (desk_valid h s).1
 ·unfold deskA;rw [if_pos (by simpa using h)]
  rfl
structure Args (c:Nat) (qs:List OV):Prop where
 l:Lst qs
 n:∀ q ∈ qs,Nils q
 z:∀ q ∈ qs,InD q.d
 c:qs.length<=c
 m:∀ q ∈ qs,LimO q
 k:qs.length<=1048576
theorem args_of {w:World} {base c:Nat} {A:Option Addr} {os qs:List OV} (hd:qs.map OV.d=os.map OV.d) (hs:sizL (os.map OV.d)<=1048576) (hz:∀ o ∈ os,InD o.d) (ho:OwnOs w base A c qs):Args c qs:=by
 have hz2:∀ q ∈ qs,InD q.d:=fun q hq=>by
  have h:q.d ∈ os.map OV.d:=by rw [<-hd]; exact List.mem_map_of_mem hq
  obtain ⟨o,h1,h2⟩:=List.mem_map.1 h;rw [<-h2];exact hz o h1
 rw [<-hd] at hs;have hf:∀ q ∈ qs,Fit q:=fun q hq=>(fit_own (sizL_mem hs q hq) (ho.2.1 q hq)).1;have hl:=sizL_len hs;exact ⟨⟨hl,hf,fun q hq=>cp_copy rfl (hf q hq) (ho.2.1 q hq)⟩,fun q hq=>nils_own (ho.2.1 q hq),hz2,ho.1.cap.1,fun q hq=>(sum_lim (sizL_mem hs q hq)).1,hl⟩
end BDeskW
/- The walk of FnExactDeskLine. -/
namespace WFnExactDeskLine
open Kit CCode CFixups CSymbols PObj BObj PValid CObjValid CSections CObject CObject2 CMarkRows WObj BList CObjL CObjL2 CPlaceS PLink PDump PDesk BDesk CHexS CDeskI CDeskS CHeldL BDeskW
set_option maxHeartbeats 8000000 in
theorem walk (A:Option Addr) (os:List OV) (c:Nat) (s0:ByteArray) (w:World) (hr:RdOs w w.heap.size A os) (hn:os.length<=maxLen) (hl:∀ o ∈ os,InO o) (hz:∀ o ∈ os,∀ p ∈ o.ps,InR 0 255 p.zs) (hs0:s0.size<=maxLen) (he:Env w):
  Calls Tryz.prog 6 #[.slice A os.length c,.string s0] w (LawEnds w):=by
 have HR:=h_ hr;have HE:=h_ he
 have HZ:=h_ (show ∀ o ∈ os,InD o.d from fun o ho s hs=>by
  obtain ⟨p,hp,rfl⟩:=List.mem_map.1 hs
  exact hz o ho p hp)
 have HSZ:=h_ (szObjectS_any A os c 1048576 w (by omega) (by omega) hr hn hl);clear hr hn hl hz he
 by_cases hbig:1048576<s0.size
 ·go_enter Tryz.func6,Tryz.ntmps6
  go_wp2_with fail
  go_ret;exact ⟨rfl,Below.refl _ _⟩
 go_enter Tryz.func6,Tryz.ntmps6
 go_wp2_with fail
 refine HSZ.o.mono ?_;rintro e w1 ⟨⟨r,rfl,hcase⟩,b1⟩;have HB:=h_ b1;clear b1 HSZ
 rcases hcase with rfl | ⟨hr0,hsum⟩
 ·go_wp2_with fail
  go_ret;exact ⟨rfl,HB.o⟩
 have HSUM:=h_ (show sizL (os.map OV.d)<=1048576 from by omega);have hos:os.length<=1048576:=sizL_len HSUM.o;have HTO:=h_ (fun V (hV:Below w.heap.size w V)=>toObjectS_any A os c V ((HR.o.below hV).more hV.size) hos (fun o ho=>(sum_lim (sizL_mem HSUM.o o ho)).1));have HLS:=h_ (show (nmL s0).length<=1048576 from by rw [<-bs_size,bs_nm]; omega)
 have HIC:=h_ (show ∀ (A:Option Addr) (qs:List OV) (c:Nat) (V:World),RdOs V V.heap.size A qs->Args c qs->Env V->qs.map OV.d=os.map OV.d->Calls Tryz.prog 13 #[.slice A qs.length c,.string s0] V (RetDA (deskA (os.map OV.d) (nmL s0)) V) from fun A qs c V h1 h2 h3 h4=>by
  rw [<-h4]
  exact deskLine_any A qs c (nmL s0) V h1 h2.l.fits h2.n h2.z h2.c HLS.o h3)
 have HSC:=h_ (show ∀ (A:Option Addr) (qs:List OV) (c:Nat) (V:World),RdOs V V.heap.size A qs->Args c qs->Env V->qs.map OV.d=os.map OV.d->Calls Tryz.prog 17 #[.slice A qs.length c,.string s0] V (RetDA (deskA (os.map OV.d) (nmL s0)) V) from fun A qs c V h1 h2 h3 h4=>by
  rw [<-h4]
  exact deskLineS_any A qs c (nmL s0) V h1 h2.l h2.n h2.z h2.c HLS.o h3)
 have HOK:=h_ (desk_ok (os.map OV.d) (nmL s0));clear hsum hbig hs0 HLS;generalize deskA (os.map OV.d) (nmL s0)=r1 at *;obtain ⟨ds,t⟩:=r1
 go_wp2_with fail
 refine (HTO.o w1 HB.o).mono ?_;rintro e w2 ⟨A2,c2,os2,rfl,hd2,own2,b2⟩;have HO2:=h_ own2;have HD2:=h_ hd2;have HA2:=h_ (args_of hd2 HSUM.o HZ.o own2);replace HB:=c_ HB b2;clear b2;clear hd2 own2
 go_wp2_with fail
 refine (HSC.o A2 os2 c2 w2 HO2.o.rd HA2.o (HE.o.below HB.o) HD2.o).mono ?_;rintro e w3 ⟨AW,cw,ws,rfl,hdw,ownw,b3⟩;have HW:=h_ ownw;have HDW:=h_ hdw;have HWB:=h_ (fun k hk=>(ownw.lt k hk).2);replace HB:=c_ HB b3;clear b3;clear hdw ownw HO2 HA2 HD2;have hw3:=HB.o.size
 have htt:((bs t).toList == (bs t).toList)=true:=by simp
 go_wp2_with fail
 refine (HTO.o w3 HB.o).mono ?_;rintro e w4 ⟨AX,cx,xs,rfl,hd4,own4,b4⟩;have HX:=h_ own4;have HXB:=h_ own4.lt;have HDX:=h_ hd4;have HAX:=h_ (args_of hd4 HSUM.o HZ.o own4);have hw34:=b4.size;replace HB:=c_ HB b4;replace HW:=h_ (HW.o.call b4);clear b4;clear hd4 own4;have hw4:=HB.o.size
 go_wp2_with fail
 refine (HIC.o AX xs cx w4 HX.o.rd HAX.o (HE.o.below HB.o) HDX.o).mono ?_;rintro e w5 ⟨AG,cg,gs,rfl,hdg,owng,b5⟩;have HG:=h_ owng;have HGB:=h_ owng.lt;have HDG:=h_ hdg;replace HB:=c_ HB b5;replace HW:=h_ (HW.o.call b5);replace HX:=h_ (HX.o.call b5);clear b5;clear hdg owng;have hgv:=valid_lims (os:=gs) (by rw [HDG.o]; exact HOK.o);have HGL:=h_ hgv.2.1;have HGY:=h_ hgv.2.2.1;obtain ⟨hg4,_,_,hgw⟩:=hgv;have HWL:=h_ (valid_lims (os:=ws) (by rw [HDW.o]; exact HOK.o));have HEQ:=h_ (show ∀ W,OwnOs W w4.heap.size AG cg gs->OwnOs W w2.heap.size AW cw ws->Calls Tryz.prog 26 #[.slice AG gs.length cg,.slice AW ws.length cw] W (Ret (.bool true) W) from fun W h1 h2=>eqObjectS_same AG AW gs ws cg cw W h1.rd h2.rd (by rw [HDG.o,HDW.o]) (by unfold maxLen; omega) HGL.o)
 go_wp2_with fail
 refine (HEQ.o w5 HG.o HW.o).mono ?_;rintro e w6 ⟨rfl,b6⟩;replace HB:=c_ HB b6;replace HW:=h_ (HW.o.call b6);replace HX:=h_ (HX.o.call b6);replace HG:=h_ (HG.o.call b6);clear b6
 go_wp2_with fail
 refine (HTO.o w6 HB.o).mono ?_;rintro e w7 ⟨AY,cy,ys,rfl,hd7,own7,b7⟩;have HY:=h_ (And.intro hd7 own7);replace HB:=c_ HB b7;replace HW:=h_ (HW.o.call b7);replace HX:=h_ (HX.o.call b7);replace HG:=h_ (HG.o.call b7);clear b7;clear hd7 own7
 go_wp2_with fail
 refine (eqObjectS_same AX AY xs ys cx cy w7 HX.o.rd HY.o.2.rd (by rw [HDX.o,HY.o.1]) (by have h:=HAX.o.k; unfold maxLen; omega) HAX.o.m).mono ?_;rintro e w8 ⟨rfl,b8⟩;replace HB:=c_ HB b8;replace HW:=h_ (HW.o.call b8);replace HX:=h_ (HX.o.call b8);replace HG:=h_ (HG.o.call b8);clear b8;clear HY
 go_wp2_with fail
 have hwd:=wdL_nonneg xs
 have hwl:wdL xs<=4194304:=by
  have h1:=wdL_le xs;have h2:=HSUM.o;rw [HDX.o] at h1;unfold sizL at h2;rw [List.length_map] at h2
  have h3:xs.length=os.length:=by simpa using congrArg List.length HDX.o
  rw [h3] at h1;omega
 refine (markObjectS_any w3.heap.size AX cx xs 1 w8 (by omega) (by omega) HAX.o.k (fun o ho=>Nat.le_trans (HAX.o.l.f o ho).ny (by omega)) HX.o).mono ?_;rintro e w9 ⟨rfl,_,g9⟩;have HW9:=h_ (HW.o.gp g9 (fun k hk hl=>by have h1:=HWB.o k hk; have h2:=(HXB.o k hl).1; omega));have HG9:=h_ (HG.o.gp g9 (fun k hk hl=>by have h1:=(HGB.o k hk).1; have h2:=(HXB.o k hl).2; omega));have HB9:=h_ (g9.below HB.o HB.o.size (fun k hk=>Nat.le_trans hw3 (HXB.o k hk).1));clear g9 HX HW HG HB HXB HAX;generalize hkk:1+wdL xs=kk at *
 have hk0:0<=kk:=by omega
 clear hkk hwd hwl;have hd:decide (kk<0)=false:=decide_eq_false (by omega)
 go_wp2_with fail
 refine (HEQ.o w9 HG9.o HW9.o).mono ?_;rintro e w10 ⟨rfl,b10⟩;replace HB9:=h_ (HB9.o.trans (b10.mono HB9.o.size));replace HW9:=h_ (HW9.o.call b10);replace HG9:=h_ (HG9.o.call b10);clear b10;clear hd hk0
 go_wp2_with fail
 have hwd:=wdL_nonneg gs;refine (markObjectS_any w4.heap.size AG cg gs 1 w10 (by omega) (by omega) (by omega) (fun o ho=>by have:=(HGY.o o ho).2; omega) HG9.o).mono ?_;rintro e w11 ⟨rfl,hmk,g11⟩;have HM:=h_ hmk;have HW:=h_ (HW9.o.gp g11 (fun k hk hl=>by have h1:=HWB.o k hk; have h2:=(HGB.o k hl).1; omega));have HB:=h_ (g11.below HB9.o HB9.o.size (fun k hk=>Nat.le_trans hw4 (HGB.o k hk).1));clear g11 hmk HW9 HG9 HB9;have HHE:=h_ (show ∀ W,OwnOs W w4.heap.size AG cg (mOs 1 gs)->Calls Tryz.prog 28 #[.slice AG gs.length cg,.int .i64 1] W (Ret (.int .i64 (1+wdL gs)) W) from fun W h=>heldObjectS_any AG cg gs 1 W (by omega) (by omega) (by omega) (fun o ho=>by have:=HGY.o o ho; omega) h.rd);generalize hkk:1+wdL gs=kk at *
 have hk0:0<=kk:=by omega
 clear hkk hwd hgw;have hd:decide (kk<0)=false:=decide_eq_false (by omega)
 go_wp2_with fail
 refine (HHE.o w11 HM.o).mono ?_;rintro e w12 ⟨rfl,b12⟩;replace HB:=c_ HB b12;replace HW:=h_ (HW.o.call b12);replace HM:=h_ (HM.o.call b12);clear b12
 go_wp2_with fail
 refine (HTO.o w12 HB.o).mono ?_;rintro e w13 ⟨AZ,cz,zs,rfl,hd13,own13,b13⟩;have HA13:=h_ (args_of hd13 HSUM.o HZ.o own13);have HO13:=h_ own13;have HD13:=h_ hd13;replace HB:=c_ HB b13;replace HW:=h_ (HW.o.call b13);replace HM:=h_ (HM.o.call b13);clear b13;clear hd13 own13
 go_wp2_with fail
 refine (HIC.o AZ zs cz w13 HO13.o.rd HA13.o (HE.o.below HB.o) HD13.o).mono ?_;rintro e w14 ⟨AH,ch,hs,rfl,hdh,ownh,b14⟩;have HH:=h_ ownh;have HDH:=h_ hdh;replace HB:=c_ HB b14;replace HW:=h_ (HW.o.call b14);replace HM:=h_ (HM.o.call b14);clear b14;clear hdh ownh HO13 HA13 HD13;have hhv:=valid_lims (os:=hs) (by rw [HDH.o]; exact HOK.o);have HHL:=h_ hhv.2.1;have hh4:=hhv.1;clear hhv
 go_wp2_with fail
 refine (eqObjectS_same AH AW hs ws ch cw w14 HH.o.rd HW.o.rd (by rw [HDH.o,HDW.o]) (by unfold maxLen; omega) HHL.o).mono ?_;rintro e w15 ⟨rfl,b15⟩;replace HB:=c_ HB b15;replace HM:=h_ (HM.o.call b15);clear b15;clear HH HW
 go_wp2_with fail
 refine (HHE.o w15 HM.o).mono ?_;rintro e w16 ⟨rfl,b16⟩;replace HB:=c_ HB b16;clear b16
 go_wp2_with fail
 go_ret;exact ⟨rfl,HB.o⟩
end WFnExactDeskLine
/- What comes in: objects. -/
namespace In
open Kit PObj BObj CFixups CSymbols
theorem trd_slice {α:Type} {f:α->List Value} {p:α->Prop} {P:Program} {w:World} {t e:TypeId} {cs:List Value} (ht:P.underlying t=some (.slice e)) (hrow:∀ cs,cs.length=P.cellsOf e->Trd P w e cs->∃ x,cs=f x/\p x) (h:Trd P w t cs):
  ∃ (A:Option Addr) (xs:List α) (c:Nat),cs=[.slice A xs.length c]/\xs.length<=c/\c<=maxLen/\(∀ x ∈ xs,p x)/\Rd w w.heap.size A (cellsOf f xs):=by
 obtain ⟨A,n,c,rows,rfl,h1,h2,h3,h4,h5⟩:=h.slice ht;obtain ⟨xs,rfl,hx⟩:=rows_of (f:=f) (p:=p) fun r hr=>hrow r (h4 r hr).1 (h4 r hr).2;simp only [List.length_map] at h3;subst h3;refine ⟨_,xs,_,rfl,h1,h2,hx,?_⟩
 simpa [cellsOf,List.flatMap] using h5
theorem fixup_in {w:World} {cs:List Value} (hl:cs.length=Tryz.prog.cellsOf 224) (h:Trd Tryz.prog w 224 cs):∃ z:FD,cs=fixupC z/\True:=by
 rw [show Tryz.prog.cellsOf 224=4 by kernel_rfl] at hl;obtain ⟨_,hf⟩:=Trd.fields Tryz.underlying224 (by kernel_rfl) h
 match cs,hl with
 | [u0,u1,u2,u3],_=>
  obtain ⟨a,e0,_⟩:=(hf 0 _ rfl _ rfl).int Tryz.underlying3;obtain ⟨b,e1,_⟩:=(hf 1 _ rfl _ rfl).int Tryz.underlying3;obtain ⟨c,e2,_⟩:=(hf 2 _ rfl _ rfl).int Tryz.underlying3;obtain ⟨d,e3,_⟩:=(hf 3 _ rfl _ rfl).int Tryz.underlying3;simp at e0 e1 e2 e3;exact ⟨(a,b,c,d),by rw [e0,e1,e2,e3]; rfl,trivial⟩
theorem symbol_in {w:World} {cs:List Value} (hl:cs.length=Tryz.prog.cellsOf 177) (h:Trd Tryz.prog w 177 cs):∃ z:YD,cs=symbolC z/\z.1.size<=maxLen:=by
 rw [show Tryz.prog.cellsOf 177=4 by kernel_rfl] at hl;obtain ⟨_,hf⟩:=Trd.fields Tryz.underlying177 (by kernel_rfl) h
 match cs,hl with
 | [u0,u1,u2,u3],_=>
  obtain ⟨a,e0,h0⟩:=(hf 0 _ rfl _ rfl).str Tryz.underlying9;obtain ⟨b,e1,_⟩:=(hf 1 _ rfl _ rfl).int Tryz.underlying3;obtain ⟨c,e2,_⟩:=(hf 2 _ rfl _ rfl).int Tryz.underlying3;obtain ⟨d,e3,_⟩:=(hf 3 _ rfl _ rfl).int Tryz.underlying3;simp at e0 e1 e2 e3;exact ⟨(a,b,c,d),by rw [e0,e1,e2,e3]; rfl,h0⟩
end In
/- What comes in: objects,with what their bytes are within. -/
namespace In
open Kit PObj BObj CFixups CSymbols
theorem byte_wf {x:Int} (h:(Lit.int .u8 x).wf=true):0<=x/\x<=255:=by
 simpa [Lit.wf,IntKind.min,IntKind.max,IntKind.signed,IntKind.bits] using h
def okS4 (w:World) (p:SV):Prop:=p.nm.size<=maxLen/\p.zs.length<=maxLen/\p.fs.length<=maxLen/\RdS w w.heap.size p/\InR 0 255 p.zs
theorem section_in4 {w:World} {cs:List Value} (hl:cs.length=Tryz.prog.cellsOf 175) (h:Trd Tryz.prog w 175 cs):∃ p:SV,cs=secC p/\okS4 w p:=by
 rw [show Tryz.prog.cellsOf 175=6 by kernel_rfl] at hl;obtain ⟨_,hf⟩:=Trd.fields Tryz.underlying175 (by kernel_rfl) h
 match cs,hl with
 | [u0,u1,u2,u3,u4,u5],_=>
  obtain ⟨nm,e0,h0⟩:=(hf 0 _ rfl _ rfl).str Tryz.underlying9;obtain ⟨kd,e1,_⟩:=(hf 1 _ rfl _ rfl).int Tryz.underlying3;obtain ⟨al,e2,_⟩:=(hf 2 _ rfl _ rfl).int Tryz.underlying3;obtain ⟨A,zs,c,e3,l3,c3,r3,z3⟩:=(hf 3 _ rfl _ rfl).ints Tryz.underlying22 Tryz.underlying5;obtain ⟨sz,e4,_⟩:=(hf 4 _ rfl _ rfl).int Tryz.underlying3;obtain ⟨F,fs,fc,e5,l5,c5,_,r5⟩:=trd_slice Tryz.underlying173 (fun cs hl h=>fixup_in hl h) (hf 5 _ rfl _ rfl);simp at e0 e1 e2 e3 e4 e5;exact ⟨⟨nm,kd,al,A,c,zs,sz,F,fc,fs⟩,by rw [e0,e1,e2,e3,e4,e5]; rfl,h0,Nat.le_trans l3 c3,Nat.le_trans l5 c5,⟨r3,r5⟩,fun x hx=>byte_wf (z3 x hx)⟩
end In
/- What comes in: lists of objects,with what their bytes are within; rows of texts. -/
namespace In
open Kit PObj BObj CFixups CSymbols BList
theorem objc_in6 {w:World} {cs:List Value} (hl:cs.length=Tryz.prog.cellsOf 108) (h:Trd Tryz.prog w 108 cs):∃ o:OV,cs=objC o/\(RdO w w.heap.size o/\CObjL.InO o/\∀ p ∈ o.ps,InR 0 255 p.zs):=by
 rw [show Tryz.prog.cellsOf 108=2 by kernel_rfl] at hl;obtain ⟨_,hf⟩:=Trd.fields Tryz.underlying108 (by kernel_rfl) h
 match cs,hl with
 | [u0,u1],_=>
  obtain ⟨A,qs,c,e0,l0,c0,k0,r0⟩:=trd_slice Tryz.underlying105 (fun cs hl h=>section_in4 hl h) (hf 0 _ rfl _ rfl);obtain ⟨Y,ys,yc,e1,l1,c1,k1,r1⟩:=trd_slice Tryz.underlying106 (fun cs hl h=>symbol_in hl h) (hf 1 _ rfl _ rfl);simp at e0 e1;subst e0 e1;exact ⟨⟨A,c,qs,Y,yc,ys⟩,rfl,⟨⟨r0,fun p hp=>(k0 p hp).2.2.2.1⟩,r1⟩,⟨Nat.le_trans l0 c0,Nat.le_trans l1 c1,fun p hp=>⟨(k0 p hp).1,(k0 p hp).2.1,(k0 p hp).2.2.1⟩,k1⟩,fun p hp=>(k0 p hp).2.2.2.2⟩
end In
end Go.Proofs.YtepoiphmmjfbdaaGreatDoor
