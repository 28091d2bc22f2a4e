/- ReadDump: the object of lines; the reference's. -/
import Derived.Test.YtepoiphmmjfbdaaGreatDoorFnDeskRunM10
import Derived.BigQuiet
set_option linter.unusedSimpArgs false
set_option linter.unusedVariables false
set_option maxRecDepth 200000
open Go.ChangeShapes Go.WideShapes Go.ChangeAt Go.RowKit
namespace Go.Proofs.YtepoiphmmjfbdaaGreatDoor
namespace CReadDS
open Kit CCode CName CFixups CSymbols PObj BObj PValid PClear CNumTxt PNum PDump CHexI CHexS CSorted CNames CWordsS BStore CReadI CMarkRows BObj2 BObj3 CEqN PStep CObjValid CStrRows BRetO CReadDI CUnhexS CRdN
theorem read_bs(y:List UInt8)(hy:y.length<=1048576)(w:World):Calls Tryz.prog 66 #[.string (bs y)] w (Ret (.int .i64 (rdN y)) w):=by have h:=read_any (bs y) (by rw[bs_size];exact hy) w;rw[show(bs y).data.toList=y from by simp[bs]]at h;exact h
theorem wordS_sec{d:OD}{ws:List (List UInt8)}(h:ws.getD 0 []=secW)(h5:5<=ws.length)(h6:ws.length<=6):wordS d ws=some (addS d (mkSS ws)):=if_pos ⟨h,h5,h6⟩
theorem wordS_fix{d:OD}{ws:List (List UInt8)}(h:ws.getD 0 []=fixW)(h5:ws.length=5)(hp:0<d.ss.length):wordS d ws=addF d (mkFS ws):=by unfold wordS;rw[if_neg (by rw[h];rintro⟨h,_⟩;exact absurd h (by decide)),if_pos ⟨h,h5,hp⟩]
theorem wordS_sym{d:OD}{ws:List (List UInt8)}(h:ws.getD 0 []=symW)(h5:ws.length=5):wordS d ws=some (addY d (mkYS ws)):=by unfold wordS;rw[if_neg (by rw[h];rintro⟨h,_⟩;exact absurd h (by decide)),if_neg (by rw[h];rintro⟨h,_⟩;exact absurd h (by decide)),if_pos ⟨h,h5⟩]
theorem wordS_bad{d:OD}{ws:List (List UInt8)}(h1:¬(ws.getD 0 []=secW/\5<=ws.length/\ws.length<=6))(h2:¬(ws.getD 0 []=fixW/\ws.length=5/\0<d.ss.length))(h3:¬(ws.getD 0 []=symW/\ws.length=5)):wordS d ws=none:=by unfold wordS;rw[if_neg h1,if_neg h2,if_neg h3]
theorem Rd.strAt4 {w:World}{B b off:Nat}{ws:List (List UInt8)}(h:Rd w B (some ⟨b,off,none⟩) (nmC (ws.map bs))){x:List UInt8}(hk:4<ws.length)(hx:ws.getD 4 []=x):w.cell? ⟨b,off+4,none⟩=some (.string (bs x)):=by rw[<-hx];exact CReadI.Rd.strAt h hk
theorem text_eq{x y:List UInt8}(h:x=y):((bs x).toList==y)=true:=by rw[bs_list,h];simp
theorem text_ne{x y:List UInt8}(h:¬x=y):((bs x).toList==y)=false:=by rw[bs_list];exact beq_eq_false_iff_ne.2 h
set_option maxHeartbeats 40000000 in
theorem readDumpS_any(A:Option Addr)(ls:List (List UInt8))(c:Nat)(w:World)(hr:Rd w w.heap.size A (nmC (ls.map bs)))(hm:ls.length<=1048576)(hl:∀x∈ls,x.length<=1048576):
  Calls Tryz.prog 62 #[.slice A ls.length c] w (RetOB (readS ls) w):=by
 obtain⟨j0,hj1,hj2,hj3,hj4⟩:=info_parts CFixups.info;have HJ:=h_ (And.intro hj1 (And.intro hj2 (And.intro hj3 hj4)));clear hj1 hj2 hj3 hj4;obtain⟨k0,hk1,hk2,hk3,hk4⟩:=info_parts CSymbols.info;have HK:=h_ (And.intro hk1 (And.intro hk2 (And.intro hk3 hk4)));clear hk1 hk2 hk3 hk4;obtain⟨q9,hqs1,hqs2,hqs3,hqs4⟩:=info_parts BObj.info;have HQS:=h_ (And.intro hqs1 (And.intro hqs2 (And.intro hqs3 hqs4)));clear hqs1 hqs2 hqs3 hqs4;have HR:=h_ hr;have HL:=h_ hl;clear hr hl;have HB:=h_ (show Below w.heap.size w ((w.alloc (.cells #[.slice none 0 0,.slice none 0 0] 26)).alloc (.cells #[.slice none 0 0,.slice none 0 0] 26))from b_);have HRR:=h_ ((Box.new w 26 #[.slice none 0 0,.slice none 0 0]).alloc (.cells #[.slice none 0 0,.slice none 0 0] 26));have hx:=Box.new (w.alloc (.cells #[.slice none 0 0,.slice none 0 0] 26)) 26 #[.slice none 0 0,.slice none 0 0];simp only[World.size_alloc]at hx;have HX:=h_ hx;have hwz:((w.alloc (.cells #[.slice none 0 0,.slice none 0 0] 26)).alloc (.cells #[.slice none 0 0,.slice none 0 0] 26)).heap.size=w.heap.size+2:=by simp only[World.size_alloc]
 clear hx;go_enter Tryz.func62,Tryz.ntmps62
 go_wp2_with fail
 generalize (w.alloc (.cells #[.slice none 0 0,.slice none 0 0] 26)).alloc (.cells #[.slice none 0 0,.slice none 0 0] 26)=w0 at *;generalize hg:w.heap.size+1=g at *;have HG:=h_ (show w.heap.size<g from by omega);have HGW:=h_ (show g<=w0.heap.size from by omega);have HH:=h_ (show Held w0 g g nilO from⟨HX.o,own_nilO _ _,by
  rintro k ((hk|⟨p,hp,hk⟩)|hk)
  ·cases hk
  ·cases hp
  ·cases hk⟩)
 clear HX hg hwz;go_loopw [5] (λi wi=>∃(k:Nat) (o:OV),k<=ls.length/\i=.int .i64 k/\stepsS ⟨[],[]⟩ ls=stepsS o.d (ls.drop k)/\SzD 1048576 k o.d/\InD o.d/\Held wi g g o/\Box wi w.heap.size 26 #[.slice none 0 0,.slice none 0 0]/\Below w.heap.size w wi/\g<=wi.heap.size) (λi _=>ls.length-(intOf i).toNat)
 case atStart=>exact⟨0,nilO,Nat.zero_le _,rfl,rfl,sz_nil _ _,inD_nil,HH.o,HRR.o,HB.o,HGW.o⟩
 case round=>
  clear HH HRR HB HGW;obtain⟨k,o,hk,rfl,hst,hsz,hin,hh,hrr,hb,hgw⟩:=hrel;have HST:=h_ hst;have HSZ:=h_ hsz;have HIN:=h_ hin;have HH:=h_ hh;have hgx:=hh.box.lt;have HRR:=h_ hrr;have HB:=h_ hb;clear hst hsz hin hh hrr;by_cases hlt:k<ls.length
  ·obtain⟨b0,off0,rfl,hbg,hc⟩:=CNumsI.Rd.str (HR.o.below hb) hlt;have hlx:=HL.o _ (List.getElem_mem hlt);have HST2:=h_ (show stepsS ⟨[],[]⟩ ls=(stepS o.d ls[k]).bind λd'=>stepsS d' (ls.drop (k+1))from by
    rw[HST.o,List.drop_eq_getElem_cons hlt]
    rfl)
   clear hb HST;generalize ls[k]=x at *;have hon1:o.ps.length<=4000000:=by have h:=HSZ.o.1;simp[OV.d]at h;omega
   have hon2:o.ys.length<=4000000:=by have h:o.ys.length<=k:=HSZ.o.2.1;omega
   have HON3:=h_ (show ∀p∈o.ps,p.fs.length<=4000000 from λp hp=>by
    have h:p.fs.length<=k:=(HSZ.o.2.2.1 p.d (List.mem_map_of_mem hp)).2.2;omega)
   have HC:=h_ (words_any (bs x) (by rw[bs_size];exact hlx) wr);rw[show(bs x).data.toList=x from by simp[bs]]at HC;have HSP:=h_ (show stepS o.d x=wordS o.d (splt 32 x)from rfl);have hwl:=(splt_len (32:UInt8) x);have HWB:=h_ (splt_bd (32:UInt8) x);go_wp2_with fail
   refine HC.o.mono ?_;rintro e w1 ⟨A1,c1,rfl,row1,b1⟩;rw[show(List.map bs (splt 32 x)).length=(splt 32 x).length from by simp]at *;have HW:=h_ row1;replace HB:=c_ HB b1;replace HRR:=h_ (HRR.o.call b1);replace HH:=h_ (show Held w1 g g o from⟨HH.o.box.call b1,HH.o.own.call b1,HH.o.ne⟩);have HWN:=h_ (λk (hk:blk A1 c1=some k)=>(show wr.heap.size<=k from(row1.lt k hk).1));have hgw1:g<=w1.heap.size:=Nat.le_trans hgw b1.size;have hS2:=h_ (λd' (h:stepS o.d x=some d')=>And.intro (sz_stepS HSZ.o hlx h) (inD_stepS HIN.o h));clear HC b1 hc hgw row1 hbg HSZ HIN;generalize splt 32 x=ws at *;obtain⟨hw1,hw2⟩:=hwl;obtain⟨b,off,rfl,hbb,-⟩:=CNumsI.Rd.str HW.o.rd (show 0<ws.length by omega);have hc0:=CReadI.Rd.strAt HW.o.rd (show 0<ws.length by omega);simp only[Nat.add_zero]at hc0;generalize hx0e:ws.getD 0 []=x0 at *;have HXE:=h_ hx0e;clear hx0e;by_cases e0:x0=secW
   ·have hq:((bs x0).toList==[115,101,99,116,105,111,110])=true:=text_eq e0;have E0:=h_ e0;clear e0;go_wp2_with fail
    refine(l1In_any _ _ _ _).mono ?_;rintro e w' ⟨rfl,rfl⟩;by_cases h56:5<=ws.length/\ws.length<=6
    ·obtain⟨h5,h6⟩:=h56;have hin:inB (ws.length:Int) 5 6=true:=by simp only[inB,decide_eq_true_eq];omega
     rw[hin];clear hin;have hc1:=CReadI.Rd.strAt HW.o.rd (show 1<ws.length by omega);have hxl1:(ws.getD 1 []).length<=1048576:=Nat.le_trans (HWB.o 1) hlx;have hc2:=CReadI.Rd.strAt HW.o.rd (show 2<ws.length by omega);have hxl2:(ws.getD 2 []).length<=1048576:=Nat.le_trans (HWB.o 2) hlx;have hc3:=CReadI.Rd.strAt HW.o.rd (show 3<ws.length by omega);have hxl3:(ws.getD 3 []).length<=1048576:=Nat.le_trans (HWB.o 3) hlx;have hc4:=CReadI.Rd.strAt HW.o.rd (show 4<ws.length by omega);have hxl4:(ws.getD 4 []).length<=1048576:=Nat.le_trans (HWB.o 4) hlx;generalize hx1e:ws.getD 1 []=x1 at *;have HX1:=h_ hx1e;clear hx1e;generalize hx2e:ws.getD 2 []=x2 at *;have HX2:=h_ hx2e;clear hx2e;generalize hx3e:ws.getD 3 []=x3 at *;have HX3:=h_ hx3e;clear hx3e;generalize hx4e:ws.getD 4 []=x4 at *;have HX4:=h_ hx4e;clear hx4e;have HV:=h_ (show wordS o.d ws=some (addS o.d ⟨bs x1,rdN x2,rdN x3,hexS ws,blankSz (rdN x2) (rdN x4),[]⟩)from by
      rw[wordS_sec (HXE.o.trans E0.o) h5 h6];unfold mkSS;rw[HX1.o,HX2.o,HX3.o,HX4.o])
     have hbw:b<w1.heap.size:=hbb;clear h6;have hi1:(1:Int)<(ws.length:Int):=by omega
     have hn1:1<ws.length:=by omega
     have hi2:(2:Int)<(ws.length:Int):=by omega
     have hn2:2<ws.length:=by omega
     have hi3:(3:Int)<(ws.length:Int):=by omega
     have hn3:3<ws.length:=by omega
     have hi4:(4:Int)<(ws.length:Int):=by omega
     have hn4:4<ws.length:=by omega
     go_upto_region 8 with fail
     clear hq hc0;go_cut [7]from 36 to 47 (λv wx=>∃V,v=.pointer (some ⟨V,0,none⟩)/\Below w1.heap.size w1 wx/\w1.heap.size<=V/\Box wx V 61 #[.string (bs x1),.int .i64 (rdN x2),.int .i64 (rdN x3),.slice none 0 0,.int .i64 0,.slice none 0 0])
     case first=>
      refine Reg.startT (λW=>W.cell? ⟨b,off+1,none⟩=some (.string (bs x1))/\W.cell? ⟨b,off+2,none⟩=some (.string (bs x2))/\W.cell? ⟨b,off+3,none⟩=some (.string (bs x3))) (λ_=>false) (by kernel_rfl) ?_;have hHeld:=And.intro hc1 (And.intro hc2 hc3);have HBT:=h_ (Below.refl w1.heap.size w1);refine t_ 0 rfl ?_;refine t_ 1 rfl ?_;refine t_ 2 rfl ?_;refine t_ 3 rfl ?_;refine t_ 4 rfl ?_;refine t_ 5 rfl ?_;refine t_ 7 rfl ?_;refine t_ 8 rfl ?_;refine t_ 9 rfl ?_;refine Reg.twoT (i:=6) (j:=12) rfl rfl (by kernel_rfl) (λK hK=>?_) (λK hK=>?_)
      ·go_simp
       refine(read_bs x2 hxl2 _).mono ?_;rintro e w2x ⟨rfl,bq⟩;have bw:Below w1.heap.size w1 w2x:=of_drew bq;replace hc1:=(bw.cell (p:=⟨b,off+1,none⟩) (Nat.lt_of_lt_of_le hbw HBT.o.size)).trans hc1;replace hc2:=(bw.cell (p:=⟨b,off+2,none⟩) (Nat.lt_of_lt_of_le hbw HBT.o.size)).trans hc2;replace hc3:=(bw.cell (p:=⟨b,off+3,none⟩) (Nat.lt_of_lt_of_le hbw HBT.o.size)).trans hc3;replace HBT:=h_ (HBT.o.trans (bw.mono HBT.o.size));have hHeld:=And.intro hc1 (And.intro hc2 hc3);refine hK.out _ _ hHeld ?_;clear hK K bw;try simp only[y1_,y2_,y3_,Act.put,y4_,y5_,y6_]
       clear bq;refine Reg.twoT (i:=10) (j:=12) rfl rfl (by kernel_rfl) (λK hK=>?_) (λK hK=>?_)
       ·go_simp
        refine(read_bs x3 hxl3 _).mono ?_;rintro e w3x ⟨rfl,bq⟩;have bw:Below w2x.heap.size w2x w3x:=bq;replace hc1:=(bw.cell (p:=⟨b,off+1,none⟩) (Nat.lt_of_lt_of_le hbw HBT.o.size)).trans hc1;replace hc2:=(bw.cell (p:=⟨b,off+2,none⟩) (Nat.lt_of_lt_of_le hbw HBT.o.size)).trans hc2;replace hc3:=(bw.cell (p:=⟨b,off+3,none⟩) (Nat.lt_of_lt_of_le hbw HBT.o.size)).trans hc3;replace HBT:=h_ (HBT.o.trans (bw.mono HBT.o.size));have hHeld:=And.intro hc1 (And.intro hc2 hc3);refine hK.out _ _ hHeld ?_;clear hK K bw;try simp only[y1_,y2_,y3_,Act.put,y4_,y5_,y6_]
        clear bq;refine t_ 11 rfl ?_;refine Reg.oneT (i:=12) rfl (by kernel_rfl) (λK hK=>?_);go_simp
        have bA:Below w3x.heap.size w3x (w3x.alloc (.cells #[.string ⟨#[]⟩,.int .i64 0,.int .i64 0,.slice none 0 0,.int .i64 0,.slice none 0 0] 61)):=b_;have HVB:=h_ (show Box (w3x.alloc (.cells #[.string ⟨#[]⟩,.int .i64 0,.int .i64 0,.slice none 0 0,.int .i64 0,.slice none 0 0] 61)) w3x.heap.size 61 #[.string ⟨#[]⟩,.int .i64 0,.int .i64 0,.slice none 0 0,.int .i64 0,.slice none 0 0]from Box.new _ _ _);have HMV:=h_ (show w1.heap.size<=w3x.heap.size from HBT.o.size);generalize (w3x.alloc (.cells #[.string ⟨#[]⟩,.int .i64 0,.int .i64 0,.slice none 0 0,.int .i64 0,.slice none 0 0] 61))=w4x at *;have bw:Below w3x.heap.size w3x w4x:=bA;replace hc1:=(bw.cell (p:=⟨b,off+1,none⟩) (Nat.lt_of_lt_of_le hbw HBT.o.size)).trans hc1;replace hc2:=(bw.cell (p:=⟨b,off+2,none⟩) (Nat.lt_of_lt_of_le hbw HBT.o.size)).trans hc2;replace hc3:=(bw.cell (p:=⟨b,off+3,none⟩) (Nat.lt_of_lt_of_le hbw HBT.o.size)).trans hc3;replace HBT:=h_ (HBT.o.trans (bw.mono HBT.o.size));have hHeld:=And.intro hc1 (And.intro hc2 hc3);refine hK.out _ _ hHeld ?_;clear hK K bw;try simp only[y1_,y2_,y3_,Act.put,y4_,y5_,y6_]
        clear bA;have v0:=d_ HVB.o 0;have v1:=d_ HVB.o 1;have v2:=d_ HVB.o 2;have v3:=d_ HVB.o 3;have v4:=d_ HVB.o 4;have v5:=d_ HVB.o 5;have z0:=HVB.o.frozen 0;have z1:=HVB.o.frozen 1;have z2:=HVB.o.frozen 2;have z3:=HVB.o.frozen 3;have z4:=HVB.o.frozen 4;have z5:=HVB.o.frozen 5;have hvl:=HVB.o.lt;refine Reg.oneT (i:=13) rfl (by kernel_rfl) (λK hK=>?_);go_simp
        have HVN:=h_ (show Box ((((((w4x.setCell ⟨w3x.heap.size,0,none⟩ (.string (bs x1))).setCell ⟨w3x.heap.size,1,none⟩ (.int .i64 (rdN x2))).setCell ⟨w3x.heap.size,2,none⟩ (.int .i64 (rdN x3))).setCell ⟨w3x.heap.size,3,none⟩ (.slice none 0 0)).setCell ⟨w3x.heap.size,4,none⟩ (.int .i64 0)).setCell ⟨w3x.heap.size,5,none⟩ (.slice none 0 0)) w3x.heap.size 61 #[.string (bs x1),.int .i64 (rdN x2),.int .i64 (rdN x3),.slice none 0 0,.int .i64 0,.slice none 0 0]from put6_box HVB.o (v0:=.string (bs x1)) (v1:=.int .i64 (rdN x2)) (v2:=.int .i64 (rdN x3)) (v3:=.slice none 0 0) (v4:=.int .i64 0) (v5:=.slice none 0 0));have B7:Below w1.heap.size w1 ((((((w4x.setCell ⟨w3x.heap.size,0,none⟩ (.string (bs x1))).setCell ⟨w3x.heap.size,1,none⟩ (.int .i64 (rdN x2))).setCell ⟨w3x.heap.size,2,none⟩ (.int .i64 (rdN x3))).setCell ⟨w3x.heap.size,3,none⟩ (.slice none 0 0)).setCell ⟨w3x.heap.size,4,none⟩ (.int .i64 0)).setCell ⟨w3x.heap.size,5,none⟩ (.slice none 0 0)):=put6_below (i:=0) HBT.o HMV.o;have bV:b<w3x.heap.size:=Nat.lt_of_lt_of_le hbw HMV.o;have B8:Below w3x.heap.size w4x ((((((w4x.setCell ⟨w3x.heap.size,0,none⟩ (.string (bs x1))).setCell ⟨w3x.heap.size,1,none⟩ (.int .i64 (rdN x2))).setCell ⟨w3x.heap.size,2,none⟩ (.int .i64 (rdN x3))).setCell ⟨w3x.heap.size,3,none⟩ (.slice none 0 0)).setCell ⟨w3x.heap.size,4,none⟩ (.int .i64 0)).setCell ⟨w3x.heap.size,5,none⟩ (.slice none 0 0)):=put6_below (i:=0) (Below.refl _ _) (Nat.le_refl _);have hHeld2:((((((w4x.setCell ⟨w3x.heap.size,0,none⟩ (.string (bs x1))).setCell ⟨w3x.heap.size,1,none⟩ (.int .i64 (rdN x2))).setCell ⟨w3x.heap.size,2,none⟩ (.int .i64 (rdN x3))).setCell ⟨w3x.heap.size,3,none⟩ (.slice none 0 0)).setCell ⟨w3x.heap.size,4,none⟩ (.int .i64 0)).setCell ⟨w3x.heap.size,5,none⟩ (.slice none 0 0)).cell? ⟨b,off+1,none⟩=some (.string (bs x1))/\((((((w4x.setCell ⟨w3x.heap.size,0,none⟩ (.string (bs x1))).setCell ⟨w3x.heap.size,1,none⟩ (.int .i64 (rdN x2))).setCell ⟨w3x.heap.size,2,none⟩ (.int .i64 (rdN x3))).setCell ⟨w3x.heap.size,3,none⟩ (.slice none 0 0)).setCell ⟨w3x.heap.size,4,none⟩ (.int .i64 0)).setCell ⟨w3x.heap.size,5,none⟩ (.slice none 0 0)).cell? ⟨b,off+2,none⟩=some (.string (bs x2))/\((((((w4x.setCell ⟨w3x.heap.size,0,none⟩ (.string (bs x1))).setCell ⟨w3x.heap.size,1,none⟩ (.int .i64 (rdN x2))).setCell ⟨w3x.heap.size,2,none⟩ (.int .i64 (rdN x3))).setCell ⟨w3x.heap.size,3,none⟩ (.slice none 0 0)).setCell ⟨w3x.heap.size,4,none⟩ (.int .i64 0)).setCell ⟨w3x.heap.size,5,none⟩ (.slice none 0 0)).cell? ⟨b,off+3,none⟩=some (.string (bs x3)):=⟨(B8.cell (p:=⟨b,off+1,none⟩) bV).trans hc1,(B8.cell (p:=⟨b,off+2,none⟩) bV).trans hc2,(B8.cell (p:=⟨b,off+3,none⟩) bV).trans hc3⟩
        refine hK.out _ _ hHeld2 ?_;clear hK K;try simp only[y1_,y2_,y3_,Act.put,y4_,y5_,y6_]
        refine Reg.doneT (by kernel_rfl) ?_ _;have HB7:=h_ B7;clear B7 B8 hHeld hHeld2 v0 v1 v2 v3 v4 v5 z0 z1 z2 z3 z4 z5 hvl HVB hc1 hc2 hc3;generalize ((((((w4x.setCell ⟨w3x.heap.size,0,none⟩ (.string (bs x1))).setCell ⟨w3x.heap.size,1,none⟩ (.int .i64 (rdN x2))).setCell ⟨w3x.heap.size,2,none⟩ (.int .i64 (rdN x3))).setCell ⟨w3x.heap.size,3,none⟩ (.slice none 0 0)).setCell ⟨w3x.heap.size,4,none⟩ (.int .i64 0)).setCell ⟨w3x.heap.size,5,none⟩ (.slice none 0 0))=wfx at *;go_wp2_with fail
        go_meet
        exact⟨w3x.heap.size,rfl,HB7.o,HMV.o,HVN.o⟩
       ·go_simp
        have bA:Below w2x.heap.size w2x (w2x.alloc (.cells #[.string ⟨#[]⟩,.int .i64 0,.int .i64 0,.slice none 0 0,.int .i64 0,.slice none 0 0] 61)):=b_;have HVB:=h_ (show Box (w2x.alloc (.cells #[.string ⟨#[]⟩,.int .i64 0,.int .i64 0,.slice none 0 0,.int .i64 0,.slice none 0 0] 61)) w2x.heap.size 61 #[.string ⟨#[]⟩,.int .i64 0,.int .i64 0,.slice none 0 0,.int .i64 0,.slice none 0 0]from Box.new _ _ _);have HMV:=h_ (show w1.heap.size<=w2x.heap.size from HBT.o.size);generalize (w2x.alloc (.cells #[.string ⟨#[]⟩,.int .i64 0,.int .i64 0,.slice none 0 0,.int .i64 0,.slice none 0 0] 61))=w5x at *;have bw:Below w2x.heap.size w2x w5x:=bA;replace hc1:=(bw.cell (p:=⟨b,off+1,none⟩) (Nat.lt_of_lt_of_le hbw HBT.o.size)).trans hc1;replace hc2:=(bw.cell (p:=⟨b,off+2,none⟩) (Nat.lt_of_lt_of_le hbw HBT.o.size)).trans hc2;replace hc3:=(bw.cell (p:=⟨b,off+3,none⟩) (Nat.lt_of_lt_of_le hbw HBT.o.size)).trans hc3;replace HBT:=h_ (HBT.o.trans (bw.mono HBT.o.size));have hHeld:=And.intro hc1 (And.intro hc2 hc3);refine hK.out _ _ hHeld ?_;clear hK K bw;try simp only[y1_,y2_,y3_,Act.put,y4_,y5_,y6_]
        clear bA;refine Reg.oneT (i:=10) rfl (by kernel_rfl) (λK hK=>?_);go_simp
        refine(read_bs x3 hxl3 _).mono ?_;rintro e w6x ⟨rfl,bq⟩;have bw:Below w5x.heap.size w5x w6x:=bq;replace hc1:=(bw.cell (p:=⟨b,off+1,none⟩) (Nat.lt_of_lt_of_le hbw HBT.o.size)).trans hc1;replace hc2:=(bw.cell (p:=⟨b,off+2,none⟩) (Nat.lt_of_lt_of_le hbw HBT.o.size)).trans hc2;replace hc3:=(bw.cell (p:=⟨b,off+3,none⟩) (Nat.lt_of_lt_of_le hbw HBT.o.size)).trans hc3;replace HVB:=h_ (HVB.o.call bw);replace HBT:=h_ (HBT.o.trans (bw.mono HBT.o.size));have hHeld:=And.intro hc1 (And.intro hc2 hc3);refine hK.out _ _ hHeld ?_;clear hK K bw;try simp only[y1_,y2_,y3_,Act.put,y4_,y5_,y6_]
        clear bq;refine t_ 11 rfl ?_;have v0:=d_ HVB.o 0;have v1:=d_ HVB.o 1;have v2:=d_ HVB.o 2;have v3:=d_ HVB.o 3;have v4:=d_ HVB.o 4;have v5:=d_ HVB.o 5;have z0:=HVB.o.frozen 0;have z1:=HVB.o.frozen 1;have z2:=HVB.o.frozen 2;have z3:=HVB.o.frozen 3;have z4:=HVB.o.frozen 4;have z5:=HVB.o.frozen 5;have hvl:=HVB.o.lt;refine Reg.oneT (i:=13) rfl (by kernel_rfl) (λK hK=>?_);go_simp
        have HVN:=h_ (show Box ((((((w6x.setCell ⟨w2x.heap.size,0,none⟩ (.string (bs x1))).setCell ⟨w2x.heap.size,1,none⟩ (.int .i64 (rdN x2))).setCell ⟨w2x.heap.size,2,none⟩ (.int .i64 (rdN x3))).setCell ⟨w2x.heap.size,3,none⟩ (.slice none 0 0)).setCell ⟨w2x.heap.size,4,none⟩ (.int .i64 0)).setCell ⟨w2x.heap.size,5,none⟩ (.slice none 0 0)) w2x.heap.size 61 #[.string (bs x1),.int .i64 (rdN x2),.int .i64 (rdN x3),.slice none 0 0,.int .i64 0,.slice none 0 0]from put6_box HVB.o (v0:=.string (bs x1)) (v1:=.int .i64 (rdN x2)) (v2:=.int .i64 (rdN x3)) (v3:=.slice none 0 0) (v4:=.int .i64 0) (v5:=.slice none 0 0));have B7:Below w1.heap.size w1 ((((((w6x.setCell ⟨w2x.heap.size,0,none⟩ (.string (bs x1))).setCell ⟨w2x.heap.size,1,none⟩ (.int .i64 (rdN x2))).setCell ⟨w2x.heap.size,2,none⟩ (.int .i64 (rdN x3))).setCell ⟨w2x.heap.size,3,none⟩ (.slice none 0 0)).setCell ⟨w2x.heap.size,4,none⟩ (.int .i64 0)).setCell ⟨w2x.heap.size,5,none⟩ (.slice none 0 0)):=put6_below (i:=0) HBT.o HMV.o;have bV:b<w2x.heap.size:=Nat.lt_of_lt_of_le hbw HMV.o;have B8:Below w2x.heap.size w6x ((((((w6x.setCell ⟨w2x.heap.size,0,none⟩ (.string (bs x1))).setCell ⟨w2x.heap.size,1,none⟩ (.int .i64 (rdN x2))).setCell ⟨w2x.heap.size,2,none⟩ (.int .i64 (rdN x3))).setCell ⟨w2x.heap.size,3,none⟩ (.slice none 0 0)).setCell ⟨w2x.heap.size,4,none⟩ (.int .i64 0)).setCell ⟨w2x.heap.size,5,none⟩ (.slice none 0 0)):=put6_below (i:=0) (Below.refl _ _) (Nat.le_refl _);have hHeld2:((((((w6x.setCell ⟨w2x.heap.size,0,none⟩ (.string (bs x1))).setCell ⟨w2x.heap.size,1,none⟩ (.int .i64 (rdN x2))).setCell ⟨w2x.heap.size,2,none⟩ (.int .i64 (rdN x3))).setCell ⟨w2x.heap.size,3,none⟩ (.slice none 0 0)).setCell ⟨w2x.heap.size,4,none⟩ (.int .i64 0)).setCell ⟨w2x.heap.size,5,none⟩ (.slice none 0 0)).cell? ⟨b,off+1,none⟩=some (.string (bs x1))/\((((((w6x.setCell ⟨w2x.heap.size,0,none⟩ (.string (bs x1))).setCell ⟨w2x.heap.size,1,none⟩ (.int .i64 (rdN x2))).setCell ⟨w2x.heap.size,2,none⟩ (.int .i64 (rdN x3))).setCell ⟨w2x.heap.size,3,none⟩ (.slice none 0 0)).setCell ⟨w2x.heap.size,4,none⟩ (.int .i64 0)).setCell ⟨w2x.heap.size,5,none⟩ (.slice none 0 0)).cell? ⟨b,off+2,none⟩=some (.string (bs x2))/\((((((w6x.setCell ⟨w2x.heap.size,0,none⟩ (.string (bs x1))).setCell ⟨w2x.heap.size,1,none⟩ (.int .i64 (rdN x2))).setCell ⟨w2x.heap.size,2,none⟩ (.int .i64 (rdN x3))).setCell ⟨w2x.heap.size,3,none⟩ (.slice none 0 0)).setCell ⟨w2x.heap.size,4,none⟩ (.int .i64 0)).setCell ⟨w2x.heap.size,5,none⟩ (.slice none 0 0)).cell? ⟨b,off+3,none⟩=some (.string (bs x3)):=⟨(B8.cell (p:=⟨b,off+1,none⟩) bV).trans hc1,(B8.cell (p:=⟨b,off+2,none⟩) bV).trans hc2,(B8.cell (p:=⟨b,off+3,none⟩) bV).trans hc3⟩
        refine hK.out _ _ hHeld2 ?_;clear hK K;try simp only[y1_,y2_,y3_,Act.put,y4_,y5_,y6_]
        refine Reg.doneT (by kernel_rfl) ?_ _;have HB7:=h_ B7;clear B7 B8 hHeld hHeld2 v0 v1 v2 v3 v4 v5 z0 z1 z2 z3 z4 z5 hvl HVB hc1 hc2 hc3;generalize ((((((w6x.setCell ⟨w2x.heap.size,0,none⟩ (.string (bs x1))).setCell ⟨w2x.heap.size,1,none⟩ (.int .i64 (rdN x2))).setCell ⟨w2x.heap.size,2,none⟩ (.int .i64 (rdN x3))).setCell ⟨w2x.heap.size,3,none⟩ (.slice none 0 0)).setCell ⟨w2x.heap.size,4,none⟩ (.int .i64 0)).setCell ⟨w2x.heap.size,5,none⟩ (.slice none 0 0))=wfx at *;go_wp2_with fail
        go_meet
        exact⟨w2x.heap.size,rfl,HB7.o,HMV.o,HVN.o⟩
      ·go_simp
       have bA:Below w1.heap.size w1 (w1.alloc (.cells #[.string ⟨#[]⟩,.int .i64 0,.int .i64 0,.slice none 0 0,.int .i64 0,.slice none 0 0] 61)).drew:=b_;have HVB:=h_ (show Box (w1.alloc (.cells #[.string ⟨#[]⟩,.int .i64 0,.int .i64 0,.slice none 0 0,.int .i64 0,.slice none 0 0] 61)).drew w1.heap.size 61 #[.string ⟨#[]⟩,.int .i64 0,.int .i64 0,.slice none 0 0,.int .i64 0,.slice none 0 0]from Box.new _ _ _);have HMV:=h_ (show w1.heap.size<=w1.heap.size from HBT.o.size);generalize (w1.alloc (.cells #[.string ⟨#[]⟩,.int .i64 0,.int .i64 0,.slice none 0 0,.int .i64 0,.slice none 0 0] 61)).drew=w7x at *;have bw:Below w1.heap.size w1 w7x:=bA;replace hc1:=(bw.cell (p:=⟨b,off+1,none⟩) (Nat.lt_of_lt_of_le hbw HBT.o.size)).trans hc1;replace hc2:=(bw.cell (p:=⟨b,off+2,none⟩) (Nat.lt_of_lt_of_le hbw HBT.o.size)).trans hc2;replace hc3:=(bw.cell (p:=⟨b,off+3,none⟩) (Nat.lt_of_lt_of_le hbw HBT.o.size)).trans hc3;replace HBT:=h_ (HBT.o.trans (bw.mono HBT.o.size));have hHeld:=And.intro hc1 (And.intro hc2 hc3);refine hK.out _ _ hHeld ?_;clear hK K bw;try simp only[y1_,y2_,y3_,Act.put,y4_,y5_,y6_]
       clear bA;refine Reg.oneT (i:=6) rfl (by kernel_rfl) (λK hK=>?_);go_simp
       refine(read_bs x2 hxl2 _).mono ?_;rintro e w8x ⟨rfl,bq⟩;have bw:Below w7x.heap.size w7x w8x:=bq;replace hc1:=(bw.cell (p:=⟨b,off+1,none⟩) (Nat.lt_of_lt_of_le hbw HBT.o.size)).trans hc1;replace hc2:=(bw.cell (p:=⟨b,off+2,none⟩) (Nat.lt_of_lt_of_le hbw HBT.o.size)).trans hc2;replace hc3:=(bw.cell (p:=⟨b,off+3,none⟩) (Nat.lt_of_lt_of_le hbw HBT.o.size)).trans hc3;replace HVB:=h_ (HVB.o.call bw);replace HBT:=h_ (HBT.o.trans (bw.mono HBT.o.size));have hHeld:=And.intro hc1 (And.intro hc2 hc3);refine hK.out _ _ hHeld ?_;clear hK K bw;try simp only[y1_,y2_,y3_,Act.put,y4_,y5_,y6_]
       clear bq;refine Reg.oneT (i:=10) rfl (by kernel_rfl) (λK hK=>?_);go_simp
       refine(read_bs x3 hxl3 _).mono ?_;rintro e w9x ⟨rfl,bq⟩;have bw:Below w8x.heap.size w8x w9x:=bq;replace hc1:=(bw.cell (p:=⟨b,off+1,none⟩) (Nat.lt_of_lt_of_le hbw HBT.o.size)).trans hc1;replace hc2:=(bw.cell (p:=⟨b,off+2,none⟩) (Nat.lt_of_lt_of_le hbw HBT.o.size)).trans hc2;replace hc3:=(bw.cell (p:=⟨b,off+3,none⟩) (Nat.lt_of_lt_of_le hbw HBT.o.size)).trans hc3;replace HVB:=h_ (HVB.o.call bw);replace HBT:=h_ (HBT.o.trans (bw.mono HBT.o.size));have hHeld:=And.intro hc1 (And.intro hc2 hc3);refine hK.out _ _ hHeld ?_;clear hK K bw;try simp only[y1_,y2_,y3_,Act.put,y4_,y5_,y6_]
       clear bq;refine t_ 11 rfl ?_;have v0:=d_ HVB.o 0;have v1:=d_ HVB.o 1;have v2:=d_ HVB.o 2;have v3:=d_ HVB.o 3;have v4:=d_ HVB.o 4;have v5:=d_ HVB.o 5;have z0:=HVB.o.frozen 0;have z1:=HVB.o.frozen 1;have z2:=HVB.o.frozen 2;have z3:=HVB.o.frozen 3;have z4:=HVB.o.frozen 4;have z5:=HVB.o.frozen 5;have hvl:=HVB.o.lt;refine Reg.oneT (i:=13) rfl (by kernel_rfl) (λK hK=>?_);go_simp
       have HVN:=h_ (show Box ((((((w9x.setCell ⟨w1.heap.size,0,none⟩ (.string (bs x1))).setCell ⟨w1.heap.size,1,none⟩ (.int .i64 (rdN x2))).setCell ⟨w1.heap.size,2,none⟩ (.int .i64 (rdN x3))).setCell ⟨w1.heap.size,3,none⟩ (.slice none 0 0)).setCell ⟨w1.heap.size,4,none⟩ (.int .i64 0)).setCell ⟨w1.heap.size,5,none⟩ (.slice none 0 0)) w1.heap.size 61 #[.string (bs x1),.int .i64 (rdN x2),.int .i64 (rdN x3),.slice none 0 0,.int .i64 0,.slice none 0 0]from put6_box HVB.o (v0:=.string (bs x1)) (v1:=.int .i64 (rdN x2)) (v2:=.int .i64 (rdN x3)) (v3:=.slice none 0 0) (v4:=.int .i64 0) (v5:=.slice none 0 0));have B7:Below w1.heap.size w1 ((((((w9x.setCell ⟨w1.heap.size,0,none⟩ (.string (bs x1))).setCell ⟨w1.heap.size,1,none⟩ (.int .i64 (rdN x2))).setCell ⟨w1.heap.size,2,none⟩ (.int .i64 (rdN x3))).setCell ⟨w1.heap.size,3,none⟩ (.slice none 0 0)).setCell ⟨w1.heap.size,4,none⟩ (.int .i64 0)).setCell ⟨w1.heap.size,5,none⟩ (.slice none 0 0)):=put6_below (i:=0) HBT.o HMV.o;have bV:b<w1.heap.size:=Nat.lt_of_lt_of_le hbw HMV.o;have B8:Below w1.heap.size w9x ((((((w9x.setCell ⟨w1.heap.size,0,none⟩ (.string (bs x1))).setCell ⟨w1.heap.size,1,none⟩ (.int .i64 (rdN x2))).setCell ⟨w1.heap.size,2,none⟩ (.int .i64 (rdN x3))).setCell ⟨w1.heap.size,3,none⟩ (.slice none 0 0)).setCell ⟨w1.heap.size,4,none⟩ (.int .i64 0)).setCell ⟨w1.heap.size,5,none⟩ (.slice none 0 0)):=put6_below (i:=0) (Below.refl _ _) (Nat.le_refl _);have hHeld2:((((((w9x.setCell ⟨w1.heap.size,0,none⟩ (.string (bs x1))).setCell ⟨w1.heap.size,1,none⟩ (.int .i64 (rdN x2))).setCell ⟨w1.heap.size,2,none⟩ (.int .i64 (rdN x3))).setCell ⟨w1.heap.size,3,none⟩ (.slice none 0 0)).setCell ⟨w1.heap.size,4,none⟩ (.int .i64 0)).setCell ⟨w1.heap.size,5,none⟩ (.slice none 0 0)).cell? ⟨b,off+1,none⟩=some (.string (bs x1))/\((((((w9x.setCell ⟨w1.heap.size,0,none⟩ (.string (bs x1))).setCell ⟨w1.heap.size,1,none⟩ (.int .i64 (rdN x2))).setCell ⟨w1.heap.size,2,none⟩ (.int .i64 (rdN x3))).setCell ⟨w1.heap.size,3,none⟩ (.slice none 0 0)).setCell ⟨w1.heap.size,4,none⟩ (.int .i64 0)).setCell ⟨w1.heap.size,5,none⟩ (.slice none 0 0)).cell? ⟨b,off+2,none⟩=some (.string (bs x2))/\((((((w9x.setCell ⟨w1.heap.size,0,none⟩ (.string (bs x1))).setCell ⟨w1.heap.size,1,none⟩ (.int .i64 (rdN x2))).setCell ⟨w1.heap.size,2,none⟩ (.int .i64 (rdN x3))).setCell ⟨w1.heap.size,3,none⟩ (.slice none 0 0)).setCell ⟨w1.heap.size,4,none⟩ (.int .i64 0)).setCell ⟨w1.heap.size,5,none⟩ (.slice none 0 0)).cell? ⟨b,off+3,none⟩=some (.string (bs x3)):=⟨(B8.cell (p:=⟨b,off+1,none⟩) bV).trans hc1,(B8.cell (p:=⟨b,off+2,none⟩) bV).trans hc2,(B8.cell (p:=⟨b,off+3,none⟩) bV).trans hc3⟩
       refine hK.out _ _ hHeld2 ?_;clear hK K;try simp only[y1_,y2_,y3_,Act.put,y4_,y5_,y6_]
       refine Reg.doneT (by kernel_rfl) ?_ _;have HB7:=h_ B7;clear B7 B8 hHeld hHeld2 v0 v1 v2 v3 v4 v5 z0 z1 z2 z3 z4 z5 hvl HVB hc1 hc2 hc3;generalize ((((((w9x.setCell ⟨w1.heap.size,0,none⟩ (.string (bs x1))).setCell ⟨w1.heap.size,1,none⟩ (.int .i64 (rdN x2))).setCell ⟨w1.heap.size,2,none⟩ (.int .i64 (rdN x3))).setCell ⟨w1.heap.size,3,none⟩ (.slice none 0 0)).setCell ⟨w1.heap.size,4,none⟩ (.int .i64 0)).setCell ⟨w1.heap.size,5,none⟩ (.slice none 0 0))=wfx at *;go_wp2_with fail
       go_meet
       exact⟨w1.heap.size,rfl,HB7.o,HMV.o,HVN.o⟩
     case rest=>
      rename World=>w5
      obtain⟨V,rfl,hbt5,hmv,hvn5⟩:=hcut;have HX:=h_ HH.o.box;have HO:=h_ HH.o.own;have HNE:=h_ HH.o.ne;have HBT:=h_ hbt5;have HVN:=h_ hvn5;have HMV:=h_ hmv;clear hbt5 hvn5 hc1 hc2 hc3;have v1:=d_ HVN.o 1;have hvl:=HVN.o.lt;go_upto_if 50 with(fail)
      clear v1 hvl;go_cut []from 48 to 55 (λwx=>Below w1.heap.size w1 wx/\Box wx V 61 #[.string (bs x1),.int .i64 (rdN x2),.int .i64 (rdN x3),.slice none 0 0,.int .i64 (blankSz (rdN x2) (rdN x4)),.slice none 0 0])
      case first=>
       by_cases h3:rdN x2=3
       ·have hq:(rdN x2==3)=true:=beq_iff_eq.2 h3;have HSZ:=h_ (show blankSz (rdN x2) (rdN x4)=rdN x4 from if_pos h3);have hw4:=(HBT.o.cell (p:=⟨b,off+4,none⟩) hbw).trans (Rd.strAt4 HW.o.rd (show 4<ws.length by omega) HX4.o);clear h3;go_wp2_with fail
        refine(read_bs x4 hxl4 _).mono ?_;rintro e w6 ⟨rfl,b6⟩;have hV6:V<w5.heap.size:=HVN.o.lt;have HV6:=h_ (HVN.o.call b6);have HB6:=h_ (HBT.o.trans (b6.mono HBT.o.size));clear hw4 b6;have v4:=d_ HV6.o 4;have z4:=HV6.o.frozen 4;have hvl:=HV6.o.lt;have HV7:=h_ (HV6.o.set 4 (.int .i64 (rdN x4)));have HB7:=h_ (HB6.o.setCell (p:=⟨V,4,none⟩) HMV.o (.int .i64 (rdN x4)));go_wp2_with fail
        go_meet
        rw[HSZ.o];exact⟨HB7.o,HV7.o⟩
       ·have hq:(rdN x2==3)=false:=beq_eq_false_iff_ne.2 h3;have HSZ:=h_ (show blankSz (rdN x2) (rdN x4)=0 from if_neg h3);clear h3;go_wp2_with fail
        go_meet
        rw[HSZ.o];exact⟨HBT.o,HVN.o⟩
      case rest=>
       rename World=>w8
       clear HBT HVN;obtain⟨hbt,hvb⟩:=hcut;have HBT:=h_ hbt;have HVN:=h_ hvb;clear hbt hvb;generalize hszz:blankSz (rdN x2) (rdN x4)=sz at *;have HSZ:=h_ hszz;clear hszz;go_upto_if 58 with(fail)
       go_cut []from 56 to 67 (λwx=>∃A6 c6,Below w1.heap.size w1 wx/\Box wx V 61 #[.string (bs x1),.int .i64 (rdN x2),.int .i64 (rdN x3),.slice A6 (hexS ws).length c6,.int .i64 sz,.slice none 0 0]/\Row wx w1.heap.size 5 1 A6 (hexS ws).length c6 (ints .u8 (hexS ws)))
       case first=>
        by_cases h6:ws.length=6
        ·have hq:((ws.length:Int)==6)=true:=beq_iff_eq.2 (by omega);have HHX:=h_ (show hexS ws=(unhex (ws.getD 5 [])).getD []from if_pos h6);have hi5:(5:Int)<(ws.length:Int):=by omega
         have hn5:5<ws.length:=by omega
         have hxl5:(ws.getD 5 []).length<=1048576:=Nat.le_trans (HWB.o 5) hlx;have hw5:=(HBT.o.cell (p:=⟨b,off+5,none⟩) hbw).trans (CReadI.Rd.strAt HW.o.rd (show 5<ws.length by omega));generalize ws.getD 5 []=x5 at *;have HRH:=h_ (readHexS_any (bs x5) (by rw[bs_size];exact hxl5));rw[show(bs x5).data.toList=x5 from by simp[bs]]at HRH;clear h6;go_wp2_with fail
         refine(HRH.o w8).mono ?_;rintro e w9 ⟨A6,c6,rfl,row6,b9⟩;rw[<-HHX.o]at row6 ⊢;have hV8:w1.heap.size<=w8.heap.size:=HBT.o.size;have HV9:=h_ (HVN.o.call b9);have HB9:=h_ (HBT.o.trans (b9.mono hV8));have HR6:=h_ (row6.down hV8);clear hw5 b9 row6 HRH HHX;have v3:=d_ HV9.o 3;have z3:=HV9.o.frozen 3;have hvl:=HV9.o.lt;generalize hexS ws=hz6 at *;have HV10:=h_ (HV9.o.set 3 (.slice A6 hz6.length c6));have HB10:=h_ (HB9.o.setCell (p:=⟨V,3,none⟩) HMV.o (.slice A6 hz6.length c6));have HR10:=h_ (HR6.o.set (a:=⟨V,3,none⟩) (HR6.o.box HV9.o (by decide)) (.slice A6 hz6.length c6));go_wp2_with fail
         go_meet
         exact⟨A6,c6,HB10.o,HV10.o,HR10.o⟩
        ·have hq:((ws.length:Int)==6)=false:=beq_eq_false_iff_ne.2 (by omega);have HHX:=h_ (show hexS ws=[]from if_neg h6);clear h6;go_wp2_with fail
         go_meet
         rw[HHX.o];exact⟨none,0,HBT.o,HVN.o,Row.empty _ _ _ _ _⟩
       case rest=>
        rename World=>w9
        clear HBT HVN;obtain⟨A6,c6,hbt,hvb,hr6⟩:=hcut;generalize hexS ws=hs at *;have bt':Below w1.heap.size w1 w9:=hbt;have HVN:=h_ hvb;have HR6:=h_ hr6;have HOLD:=h_ (λp (hp:p∈o.ps) j (hj:sblk p j)=>(show j<w1.heap.size from((HO.o.1.2.1 p hp).lt j hj).2));have HGV:=h_ (show g<w1.heap.size from HX.o.lt);replace HB:=h_ (HB.o.trans (bt'.mono HB.o.size));replace HX:=h_ (HX.o.call bt');replace HO:=h_ (HO.o.call bt');replace HRR:=h_ (HRR.o.call bt');clear bt';clear hbt hvb hr6 HW HWN;have x0_:=d_ HX.o 0;have hxl_:=HX.o.lt;have s0:=d_ HVN.o 0;have s1:=d_ HVN.o 1;have s2:=d_ HVN.o 2;have s3:=d_ HVN.o 3;have s4:=d_ HVN.o 4;have s5:=d_ HVN.o 5;have hvl:=HVN.o.lt;have BA:Below w9.heap.size w9 (w9.alloc (.cells #[.string (bs x1),.int .i64 (rdN x2),.int .i64 (rdN x3),.slice A6 hs.length c6,.int .i64 sz,.slice none 0 0] 61)):=b_;replace HX:=h_ (HX.o.call BA);replace HO:=h_ (HO.o.call BA);replace HRR:=h_ (HRR.o.call BA);replace HR6:=h_ (HR6.o.call BA);replace HB:=c_ HB BA;have hga:g<=(w9.alloc (.cells #[.string (bs x1),.int .i64 (rdN x2),.int .i64 (rdN x3),.slice A6 hs.length c6,.int .i64 sz,.slice none 0 0] 61)).heap.size:=Nat.le_of_lt HX.o.lt;clear BA;go_wp2_with (at_builtin;refine wpList_app (w9.alloc (.cells #[.string (bs x1),.int .i64 (rdN x2),.int .i64 (rdN x3),.slice A6 hs.length c6,.int .i64 sz,.slice none 0 0] 61)) rfl (.tmp 69) (.tmp 71) 23 rfl 61 q9 (.agg #[.string ByteArray.empty,.int .i64 0,.int .i64 0,.slice none 0 0,.int .i64 0,.slice none 0 0]) 6 88 Tryz.underlying23 HQS.o.1 HQS.o.2.1 HQS.o.2.2.1 HQS.o.2.2.2 rfl (by decide) g o.A o.ps.length o.c (cellsOf secC o.ps) rfl HO.o.1.1 hga (some ⟨w9.heap.size,0,none⟩) 1 1 [.string (bs x1),.int .i64 (rdN x2),.int .i64 (rdN x3),.slice A6 hs.length c6,.int .i64 sz,.slice none 0 0] rfl (rd_lit w9 #[.string (bs x1),.int .i64 (rdN x2),.int .i64 (rdN x3),.slice A6 hs.length c6,.int .i64 sz,.slice none 0 0] 61 _ rfl) rfl (λh=>by cases h) one_six ?n1 ?n2 ?_)
        case n1=>unfold maxLen;omega
        case n2=>omega
        intro A9 n9 c9 wz hn9 o9 g9 k9;have HADD:=h_ (HO.o.addS (q:=⟨bs x1,rdN x2,rdN x3,A6,c6,hs,sz,none,0,[]⟩) ⟨HR6.o.down (Nat.le_of_lt HGV.o),Row.empty _ _ _ _ _⟩ HOLD.o (by
         rintro j (hj|hj)
         ·exact(HR6.o.lt j hj).1
         ·cases hj) hn9 o9 g9)
        have HNE9:=h_ (show ∀j,oblk {o with A:=A9,c:=c9,ps:=o.ps++[⟨bs x1,rdN x2,rdN x3,A6,c6,hs,sz,none,0,[]⟩]} j->j≠g from by
         rintro j ((hj|⟨p,hp,hj⟩)|hj)
         ·rcases k9 j hj with h1|h1
          ·exact HNE.o j (.inl (.inl h1))
          ·have:=hga;have h2:=HX.o.lt;omega
         ·rcases List.mem_append.1 hp with hp|hp
          ·exact HNE.o j (.inl (.inr ⟨p,hp,hj⟩))
          ·obtain rfl:=List.mem_singleton.1 hp;have h2:=HGV.o;rcases hj with hj|hj
           ·have h1:=(HR6.o.lt j hj).1;omega
           ·cases hj
         ·exact HNE.o j (.inr hj))
        have HX9:=h_ (HX.o.grown g9 (HO.o.1.1.box HX.o (by decide)));have HRR9:=h_ (HRR.o.grown g9 (HO.o.1.1.box HRR.o (by decide)));have HB9:=h_ (HB.o.grown g9 HB.o.size (λj hj=>Nat.le_trans (Nat.le_of_lt HG.o) (HO.o.1.1.lt j hj).1));have hgz:g<=wz.heap.size:=Nat.le_of_lt HX9.o.lt;subst hn9;clear o9 g9 k9 HX HO HRR HB HR6 x0_ hxl_ s0 s1 s2 s3 s4 s5 hvl;have x0_:=d_ HX9.o 0;have xf_:=HX9.o.frozen 0;have hxl_:=HX9.o.lt;have HXZ:=h_ (HX9.o.set 0 (.slice A9 (o.ps.length+1) c9));have HBZ:=h_ (HB9.o.setCell (p:=⟨g,0,none⟩) (Nat.le_of_lt HG.o) (.slice A9 (o.ps.length+1) c9));have HRZ:=h_ (HRR9.o.far (p:=⟨g,0,none⟩) (by show w.heap.size≠g;have:=HG.o;omega) (.slice A9 (o.ps.length+1) c9));have HOZ:=h_ (HADD.o.set (a:=⟨g,0,none⟩) HNE9.o (.slice A9 (o.ps.length+1) c9));have HSO:=h_ (show stepS o.d x=some ({o with A:=A9,c:=c9,ps:=o.ps++[⟨bs x1,rdN x2,rdN x3,A6,c6,hs,sz,none,0,[]⟩]}:OV).d from by
         rw[HSP.o,HV.o];simp[addS,OV.d,SV.d])
        have HHZ:=h_ (show Held (wz.setCell ⟨g,0,none⟩ (.slice A9 (o.ps.length+1) c9)) g g {o with A:=A9,c:=c9,ps:=o.ps++[⟨bs x1,rdN x2,rdN x3,A6,c6,hs,sz,none,0,[]⟩]}from⟨by
         have h:=HXZ.o;show Box _ g _ #[.slice A9 (o.ps++[_]).length c9,.slice o.Y o.ys.length o.yc]
         rw[List.length_append];exact h,HOZ.o,HNE9.o⟩)
        have hgf:g<=(wz.setCell ⟨g,0,none⟩ (.slice A9 (o.ps.length+1) c9)).heap.size:=by simp[World.setCell];exact hgz
        have HT2:=h_ (HST2.o.trans (by rw[HSO.o,Option.bind_some]));have HSS:=h_ (hS2.o _ HSO.o);clear HADD HXZ HOZ HNE9 HSO HX9 HRR9 HB9 HST2;go_wp2_with fail
        refine⟨⟨k+1,_,by omega,by go_num,HT2.o,HSS.o.1,HSS.o.2,HHZ.o,HRZ.o,HBZ.o,hgf⟩,by simp[intOf];omega⟩
    ·have hin:inB (ws.length:Int) 5 6=false:=by simp only[inB,decide_eq_false_iff_not];omega
     rw[hin];have HVB:=h_ (show readS ls=none from by
      unfold readS;rw[HST2.o,HSP.o,wordS_bad (λh=>h56 h.2) (by rw[HXE.o,E0.o];rintro⟨h,_⟩;exact absurd h (by decide)) (by rw[HXE.o,E0.o];rintro⟨h,_⟩;exact absurd h (by decide))]
      rfl)
     clear HST2 HSP HH;have hq1:((bs x0).toList==[102,105,120,117,112])=false:=text_ne (by rw[E0.o];decide);have hq2:((bs x0).toList==[115,121,109,98,111,108])=false:=text_ne (by rw[E0.o];decide);clear h56;have y0:=d_ HRR.o 0;have y1:=d_ HRR.o 1;have yf0:=HRR.o.frozen 0;have yf1:=HRR.o.frozen 1;have hrl:=HRR.o.lt;obtain⟨k0,k1⟩:=cells2 (u:=.slice none 0 0) (v:=.slice none 0 0) HRR.o;have HFB:=h_ (below2 HB.o (Nat.le_refl _) (.slice none 0 0) (.slice none 0 0));go_wp2_with fail
     (try simp only[Exit.inBlock,Exit.then])
     exact bodyPost_ret (v:=.tuple #[.agg #[.slice none 0 0,.slice none 0 0],.bool false]) (by simp[results,Tryz.results62,go_sem,k0,k1]) rfl (by rw[HVB.o];exact ret_nilO HFB.o)
   ·have hq:((bs x0).toList==[115,101,99,116,105,111,110])=false:=text_ne e0;have HN0:=h_ (show ¬(ws.getD 0 []=secW/\5<=ws.length/\ws.length<=6)from λh=>e0 (HXE.o.symm.trans h.1));clear e0;have x0_:=d_ HH.o.box 0;have x1_:=d_ HH.o.box 1;have hxl_:=HH.o.box.lt;by_cases e1:x0=fixW
    ·have hq1:((bs x0).toList==[102,105,120,117,112])=true:=text_eq e1;have hq2:((bs x0).toList==[115,121,109,98,111,108])=false:=text_ne (by rw[e1];decide);have E1:=h_ e1;clear e1;have HN2:=h_ (show ¬(ws.getD 0 []=symW/\ws.length=5)from by rw[HXE.o,E1.o];rintro⟨h,_⟩;exact absurd h (by decide));by_cases h5:ws.length=5
     ·have e5:((ws.length:Int)==5)=true:=beq_iff_eq.2 (by omega);by_cases hp:0<o.ps.length
      ·have hpd:decide (0<o.ps.length)=true:=decide_eq_true hp;have hpd2:decide (0<(o.ps.length:Int))=true:=decide_eq_true (by omega);have hbw:b<w1.heap.size:=hbb;have hc1:=CReadI.Rd.strAt HW.o.rd (show 1<ws.length by omega);have hxl1:(ws.getD 1 []).length<=1048576:=Nat.le_trans (HWB.o 1) hlx;have hc2:=CReadI.Rd.strAt HW.o.rd (show 2<ws.length by omega);have hxl2:(ws.getD 2 []).length<=1048576:=Nat.le_trans (HWB.o 2) hlx;have hc3:=CReadI.Rd.strAt HW.o.rd (show 3<ws.length by omega);have hxl3:(ws.getD 3 []).length<=1048576:=Nat.le_trans (HWB.o 3) hlx;have hc4:=CReadI.Rd.strAt HW.o.rd (show 4<ws.length by omega);have hxl4:(ws.getD 4 []).length<=1048576:=Nat.le_trans (HWB.o 4) hlx;generalize hx1e:ws.getD 1 []=x1 at *;have HX1:=h_ hx1e;clear hx1e;generalize hx2e:ws.getD 2 []=x2 at *;have HX2:=h_ hx2e;clear hx2e;generalize hx3e:ws.getD 3 []=x3 at *;have HX3:=h_ hx3e;clear hx3e;generalize hx4e:ws.getD 4 []=x4 at *;have HX4:=h_ hx4e;clear hx4e;have HV:=h_ (show wordS o.d ws=addF o.d (rdN x1,rdN x2,rdN x3,rdN x4)from by
        rw[wordS_fix (HXE.o.trans E1.o) h5 (by simpa[OV.d]using hp)];unfold mkFS;rw[HX1.o,HX2.o,HX3.o,HX4.o])
       have HX:=h_ HH.o.box;have HO:=h_ HH.o.own;have HNE:=h_ HH.o.ne;have hi1:(1:Int)<(ws.length:Int):=by omega
       have hn1:1<ws.length:=by omega
       have hi2:(2:Int)<(ws.length:Int):=by omega
       have hn2:2<ws.length:=by omega
       have hi3:(3:Int)<(ws.length:Int):=by omega
       have hn3:3<ws.length:=by omega
       have hi4:(4:Int)<(ws.length:Int):=by omega
       have hn4:4<ws.length:=by omega
       rcases List.eq_nil_or_concat o.ps with hps|⟨qs,p,hps⟩
       ·rw[hps]at hp;exact absurd hp (Nat.lt_irrefl 0)
       rw[List.concat_eq_append]at hps;have hlen:o.ps.length=qs.length+1:=by rw[hps];simp
       have HPS:=h_ hps;have hl1:(((qs.length+1:Nat):Int)-1)=(qs.length:Int):=by omega
       have hwr:IntKind.i64.wrap ((qs.length:Int))=qs.length:=IntWalk.i64_in _ (by omega);obtain⟨bA,hA,hbA0,hbA1,hbo,hcF⟩:=secF_cell HO.o hps;clear hps hp;have HP5:=h_ h5;clear h5;go_wp2_with fail
       clear e5 hq1 hc0 hpd hpd2;have hgA:bA≠g:=HNE.o bA hbo;have HA:=h_ hA;rw[hA]at x0_;clear hA hbo;have hfl:p.fs.length<=4000000:=HON3.o p (by rw[HPS.o];simp);have HRF:=h_ (HO.o.1.2.1 p (by rw[HPS.o];simp)).2;have hll:((qs.length:Nat):Int)<(qs.length:Int)+1:=by omega
       have hlt1:((qs.length:Nat):Int)<(o.ps.length:Int):=by omega
       have hlt2:qs.length<o.ps.length:=by omega
       refine Reg.startT (λW=>W.cell? ⟨g,0,none⟩=some (.slice (some ⟨bA,0,none⟩) o.ps.length o.c)/\W.cell? ⟨bA,qs.length*6+5,none⟩=some (.slice p.F p.fs.length p.fc)/\W.cell? ⟨b,off+1,none⟩=some (.string (bs x1))/\W.cell? ⟨b,off+2,none⟩=some (.string (bs x2))/\W.cell? ⟨b,off+3,none⟩=some (.string (bs x3))/\W.cell? ⟨b,off+4,none⟩=some (.string (bs x4))) (λj=>j==30) (by kernel_rfl) ?_;have hHeld:=And.intro x0_ (And.intro hcF (And.intro hc1 (And.intro hc2 (And.intro hc3 hc4))));have hz:w1.heap.size<=w1.heap.size:=Nat.le_refl _;refine t_ 0 rfl ?_;refine t_ 1 rfl ?_;refine t_ 2 rfl ?_;refine t_ 3 rfl ?_;refine t_ 4 rfl ?_;refine t_ 5 rfl ?_;refine t_ 6 rfl ?_;refine t_ 7 rfl ?_;refine t_ 8 rfl ?_;refine t_ 9 rfl ?_;refine t_ 10 rfl ?_;refine t_ 11 rfl ?_;refine t_ 13 rfl ?_;refine t_ 14 rfl ?_;refine t_ 15 rfl ?_;refine t_ 17 rfl ?_;refine t_ 18 rfl ?_;refine t_ 19 rfl ?_;refine t_ 21 rfl ?_;refine t_ 22 rfl ?_;refine t_ 23 rfl ?_;refine Reg.oneT (i:=12) rfl (by kernel_rfl) (λK hK=>?_);go_simp
       refine(read_bs x1 hxl1 _).mono ?_;rintro e w2 ⟨rfl,bq⟩;have bw:=of_drew bq;replace x0_:=(bw.cell (p:=⟨g,0,none⟩) (Nat.lt_of_lt_of_le hxl_ hz)).trans x0_;replace hcF:=(bw.cell (p:=⟨bA,qs.length*6+5,none⟩) (Nat.lt_of_lt_of_le hbA1 hz)).trans hcF;replace hc1:=(bw.cell (p:=⟨b,off+1,none⟩) (Nat.lt_of_lt_of_le hbw hz)).trans hc1;replace hc2:=(bw.cell (p:=⟨b,off+2,none⟩) (Nat.lt_of_lt_of_le hbw hz)).trans hc2;replace hc3:=(bw.cell (p:=⟨b,off+3,none⟩) (Nat.lt_of_lt_of_le hbw hz)).trans hc3;replace hc4:=(bw.cell (p:=⟨b,off+4,none⟩) (Nat.lt_of_lt_of_le hbw hz)).trans hc4;replace hz:=Nat.le_trans hz bw.size;replace HRR:=h_ (HRR.o.call bw);replace HX:=h_ (HX.o.call bw);replace HO:=h_ (HO.o.call bw);replace HRF:=h_ (HRF.o.call bw);replace HW:=h_ (HW.o.call bw);replace HB:=c_ HB bw;have hHeld:=And.intro x0_ (And.intro hcF (And.intro hc1 (And.intro hc2 (And.intro hc3 hc4))));refine hK.out _ _ hHeld ?_;clear hK K bq bw;try simp only[y1_,y2_,y3_,Act.put,y4_,y5_,y6_]
       refine Reg.oneT (i:=16) rfl (by kernel_rfl) (λK hK=>?_);go_simp
       refine(read_bs x2 hxl2 _).mono ?_;rintro e w3 ⟨rfl,bq⟩;have bw:=bq;replace x0_:=(bw.cell (p:=⟨g,0,none⟩) (Nat.lt_of_lt_of_le hxl_ hz)).trans x0_;replace hcF:=(bw.cell (p:=⟨bA,qs.length*6+5,none⟩) (Nat.lt_of_lt_of_le hbA1 hz)).trans hcF;replace hc1:=(bw.cell (p:=⟨b,off+1,none⟩) (Nat.lt_of_lt_of_le hbw hz)).trans hc1;replace hc2:=(bw.cell (p:=⟨b,off+2,none⟩) (Nat.lt_of_lt_of_le hbw hz)).trans hc2;replace hc3:=(bw.cell (p:=⟨b,off+3,none⟩) (Nat.lt_of_lt_of_le hbw hz)).trans hc3;replace hc4:=(bw.cell (p:=⟨b,off+4,none⟩) (Nat.lt_of_lt_of_le hbw hz)).trans hc4;replace hz:=Nat.le_trans hz bw.size;replace HRR:=h_ (HRR.o.call bw);replace HX:=h_ (HX.o.call bw);replace HO:=h_ (HO.o.call bw);replace HRF:=h_ (HRF.o.call bw);replace HW:=h_ (HW.o.call bw);replace HB:=c_ HB bw;have hHeld:=And.intro x0_ (And.intro hcF (And.intro hc1 (And.intro hc2 (And.intro hc3 hc4))));refine hK.out _ _ hHeld ?_;clear hK K bq bw;try simp only[y1_,y2_,y3_,Act.put,y4_,y5_,y6_]
       refine Reg.oneT (i:=20) rfl (by kernel_rfl) (λK hK=>?_);go_simp
       refine(read_bs x3 hxl3 _).mono ?_;rintro e w4 ⟨rfl,bq⟩;have bw:=bq;replace x0_:=(bw.cell (p:=⟨g,0,none⟩) (Nat.lt_of_lt_of_le hxl_ hz)).trans x0_;replace hcF:=(bw.cell (p:=⟨bA,qs.length*6+5,none⟩) (Nat.lt_of_lt_of_le hbA1 hz)).trans hcF;replace hc1:=(bw.cell (p:=⟨b,off+1,none⟩) (Nat.lt_of_lt_of_le hbw hz)).trans hc1;replace hc2:=(bw.cell (p:=⟨b,off+2,none⟩) (Nat.lt_of_lt_of_le hbw hz)).trans hc2;replace hc3:=(bw.cell (p:=⟨b,off+3,none⟩) (Nat.lt_of_lt_of_le hbw hz)).trans hc3;replace hc4:=(bw.cell (p:=⟨b,off+4,none⟩) (Nat.lt_of_lt_of_le hbw hz)).trans hc4;replace hz:=Nat.le_trans hz bw.size;replace HRR:=h_ (HRR.o.call bw);replace HX:=h_ (HX.o.call bw);replace HO:=h_ (HO.o.call bw);replace HRF:=h_ (HRF.o.call bw);replace HW:=h_ (HW.o.call bw);replace HB:=c_ HB bw;have hHeld:=And.intro x0_ (And.intro hcF (And.intro hc1 (And.intro hc2 (And.intro hc3 hc4))));refine hK.out _ _ hHeld ?_;clear hK K bq bw;try simp only[y1_,y2_,y3_,Act.put,y4_,y5_,y6_]
       refine Reg.oneT (i:=24) rfl (by kernel_rfl) (λK hK=>?_);go_simp
       refine(read_bs x4 hxl4 _).mono ?_;rintro e w5 ⟨rfl,bq⟩;have bw:=bq;replace x0_:=(bw.cell (p:=⟨g,0,none⟩) (Nat.lt_of_lt_of_le hxl_ hz)).trans x0_;replace hcF:=(bw.cell (p:=⟨bA,qs.length*6+5,none⟩) (Nat.lt_of_lt_of_le hbA1 hz)).trans hcF;replace hc1:=(bw.cell (p:=⟨b,off+1,none⟩) (Nat.lt_of_lt_of_le hbw hz)).trans hc1;replace hc2:=(bw.cell (p:=⟨b,off+2,none⟩) (Nat.lt_of_lt_of_le hbw hz)).trans hc2;replace hc3:=(bw.cell (p:=⟨b,off+3,none⟩) (Nat.lt_of_lt_of_le hbw hz)).trans hc3;replace hc4:=(bw.cell (p:=⟨b,off+4,none⟩) (Nat.lt_of_lt_of_le hbw hz)).trans hc4;replace hz:=Nat.le_trans hz bw.size;replace HRR:=h_ (HRR.o.call bw);replace HX:=h_ (HX.o.call bw);replace HO:=h_ (HO.o.call bw);replace HRF:=h_ (HRF.o.call bw);replace HW:=h_ (HW.o.call bw);replace HB:=c_ HB bw;have hHeld:=And.intro x0_ (And.intro hcF (And.intro hc1 (And.intro hc2 (And.intro hc3 hc4))));refine hK.out _ _ hHeld ?_;clear hK K bq bw;try simp only[y1_,y2_,y3_,Act.put,y4_,y5_,y6_]
       refine t_ 25 rfl ?_;refine Reg.oneT (i:=26) rfl (by kernel_rfl) (λK hK=>?_);go_simp
       have BA:Below w5.heap.size w5 (w5.alloc (.cells #[.int .i64 (rdN x1),.int .i64 (rdN x2),.int .i64 (rdN x3),.int .i64 (rdN x4)] 65)):=b_;have HLT:=h_ (show Rd (w5.alloc (.cells #[.int .i64 (rdN x1),.int .i64 (rdN x2),.int .i64 (rdN x3),.int .i64 (rdN x4)] 65)) (w5.heap.size+1) (some ⟨w5.heap.size,0,none⟩) (fixupC (rdN x1,rdN x2,rdN x3,rdN x4))from rd_lit w5 #[.int .i64 (rdN x1),.int .i64 (rdN x2),.int .i64 (rdN x3),.int .i64 (rdN x4)] 65 _ rfl);have hHeld:(w5.alloc (.cells #[.int .i64 (rdN x1),.int .i64 (rdN x2),.int .i64 (rdN x3),.int .i64 (rdN x4)] 65)).cell? ⟨g,0,none⟩=some (.slice (some ⟨bA,0,none⟩) o.ps.length o.c)/\(w5.alloc (.cells #[.int .i64 (rdN x1),.int .i64 (rdN x2),.int .i64 (rdN x3),.int .i64 (rdN x4)] 65)).cell? ⟨bA,qs.length*6+5,none⟩=some (.slice p.F p.fs.length p.fc)/\(w5.alloc (.cells #[.int .i64 (rdN x1),.int .i64 (rdN x2),.int .i64 (rdN x3),.int .i64 (rdN x4)] 65)).cell? ⟨b,off+1,none⟩=some (.string (bs x1))/\(w5.alloc (.cells #[.int .i64 (rdN x1),.int .i64 (rdN x2),.int .i64 (rdN x3),.int .i64 (rdN x4)] 65)).cell? ⟨b,off+2,none⟩=some (.string (bs x2))/\(w5.alloc (.cells #[.int .i64 (rdN x1),.int .i64 (rdN x2),.int .i64 (rdN x3),.int .i64 (rdN x4)] 65)).cell? ⟨b,off+3,none⟩=some (.string (bs x3))/\(w5.alloc (.cells #[.int .i64 (rdN x1),.int .i64 (rdN x2),.int .i64 (rdN x3),.int .i64 (rdN x4)] 65)).cell? ⟨b,off+4,none⟩=some (.string (bs x4)):=⟨(BA.cell (p:=⟨g,0,none⟩) (Nat.lt_of_lt_of_le hxl_ hz)).trans x0_,(BA.cell (p:=⟨bA,qs.length*6+5,none⟩) (Nat.lt_of_lt_of_le hbA1 hz)).trans hcF,(BA.cell (p:=⟨b,off+1,none⟩) (Nat.lt_of_lt_of_le hbw hz)).trans hc1,(BA.cell (p:=⟨b,off+2,none⟩) (Nat.lt_of_lt_of_le hbw hz)).trans hc2,(BA.cell (p:=⟨b,off+3,none⟩) (Nat.lt_of_lt_of_le hbw hz)).trans hc3,(BA.cell (p:=⟨b,off+4,none⟩) (Nat.lt_of_lt_of_le hbw hz)).trans hc4⟩;replace HX:=h_ (HX.o.call BA);replace HO:=h_ (HO.o.call BA);replace HRF:=h_ (HRF.o.call BA);replace HRR:=h_ (HRR.o.call BA);replace HW:=h_ (HW.o.call BA);replace HB:=c_ HB BA;have hga:g<=(w5.alloc (.cells #[.int .i64 (rdN x1),.int .i64 (rdN x2),.int .i64 (rdN x3),.int .i64 (rdN x4)] 65)).heap.size:=Nat.le_of_lt HX.o.lt;clear BA;generalize (w5.alloc (.cells #[.int .i64 (rdN x1),.int .i64 (rdN x2),.int .i64 (rdN x3),.int .i64 (rdN x4)] 65))=w6 at *;refine hK.out _ _ hHeld ?_;clear hK K;try simp only[y1_,y2_,y3_,Act.put,y4_,y5_,y6_]
       refine Reg.oneT (i:=27) rfl (by kernel_rfl) (λK hK=>?_);refine step_app (by rfl) _ _ 59 rfl 65 j0 (.agg #[.int .i64 0,.int .i64 0,.int .i64 0,.int .i64 0]) 4 32 Tryz.underlying59 HJ.o.1 HJ.o.2.1 HJ.o.2.2.1 HJ.o.2.2.2 rfl (by decide) g p.F p.fs.length p.fc (cellsOf fixupC p.fs) (by rfl) HRF.o hga _ 1 1 (fixupC (rdN x1,rdN x2,rdN x3,rdN x4)) (by rfl) HLT.o rfl (λh=>by cases h) (one_fx _) ?n1 ?n2 ?_
       case n1=>unfold maxLen;omega
       case n2=>omega
       intro A9 n9 c9 wz hn9 o9 g9 k9;subst hn9;obtain⟨bB,hAB,_,hcz,hfz,HO9,hne9⟩:=addF_own HO.o HPS.o rfl o9 g9 k9;obtain rfl:bB=bA:=by have h:=hAB.symm.trans HA.o;injection h with h;injection h
       have hg6:g<w6.heap.size:=HX.o.lt;have HX9:=h_ (HX.o.grown g9 (HRF.o.box HX.o (by decide)));have HRR9:=h_ (HRR.o.grown g9 (HRF.o.box HRR.o (by decide)));have HW9:=h_ (HW.o.grown g9 (λk hk=>apartT HW.o HRF.o (by decide) k hk));have HB9:=h_ (HB.o.grown g9 HB.o.size (λj hj=>Nat.le_trans (Nat.le_of_lt HG.o) (HRF.o.lt j hj).1));have hHeld:wz.cell? ⟨g,0,none⟩=some (.slice (some ⟨bB,0,none⟩) o.ps.length o.c)/\wz.cell? ⟨bB,qs.length*6+5,none⟩=some (.slice p.F p.fs.length p.fc)/\wz.cell? ⟨b,off+1,none⟩=some (.string (bs x1))/\wz.cell? ⟨b,off+2,none⟩=some (.string (bs x2))/\wz.cell? ⟨b,off+3,none⟩=some (.string (bs x3))/\wz.cell? ⟨b,off+4,none⟩=some (.string (bs x4)):=by have hx:=HX9.o.cell 0;simp only[List.getElem?_toArray,List.getElem?_cons_zero]at hx;rw[HA.o]at hx;have hw1:=CReadI.Rd.strAt HW9.o.rd (show 1<ws.length by omega);rw[HX1.o]at hw1;have hw2:=CReadI.Rd.strAt HW9.o.rd (show 2<ws.length by omega);rw[HX2.o]at hw2;have hw3:=CReadI.Rd.strAt HW9.o.rd (show 3<ws.length by omega);rw[HX3.o]at hw3;have hw4:=CReadI.Rd.strAt HW9.o.rd (show 4<ws.length by omega);rw[HX4.o]at hw4;exact⟨hx,hcz,hw1,hw2,hw3,hw4⟩
       refine hK.out _ _ hHeld ?_;clear hK K o9 g9 k9 HX HRF HLT HRR HB;try simp only[y1_,y2_,y3_,Act.put,y4_,y5_,y6_]
       refine Reg.oneT (i:=28) rfl (by kernel_rfl) (λK hK=>?_);go_simp
       refine hK.out _ _ hHeld ?_;clear hK K;try simp only[y1_,y2_,y3_,Act.put,y4_,y5_,y6_]
       refine t_ 29 rfl ?_;refine Reg.lastT (i:=30) rfl (by kernel_rfl) (by rfl) (λK hK=>?_);go_simp
       refine hK.out _ _ ?_;clear hK K;try simp only[y1_,y2_,y3_,Act.put,y4_,y5_,y6_]
       refine Reg.doneT (by kernel_rfl) ?_ _;clear hHeld hcz hfz hAB x0_ hcF hc1 hc2 hc3 hc4;have HSO:=h_ (show stepS o.d x=some ({o with ps:=qs++[{p with F:=A9,fs:=p.fs++[(rdN x1,rdN x2,rdN x3,rdN x4)],fc:=c9}]}:OV).d from by
        rw[HSP.o,HV.o];rw[show o.d=⟨qs.map SV.d++[p.d],o.ys⟩from by simp[OV.d,HPS.o],addF_last];simp[OV.d,SV.d])
       have HXZ:=h_ (HX9.o.far (p:=⟨bB,qs.length*6+5,none⟩) (Ne.symm hgA) (.slice A9 (p.fs.length+1) c9));have HBZ:=h_ (HB9.o.setCell (p:=⟨bB,qs.length*6+5,none⟩) (Nat.le_trans (Nat.le_of_lt HG.o) hbA0) (.slice A9 (p.fs.length+1) c9));have HRZ:=h_ (HRR9.o.far (p:=⟨bB,qs.length*6+5,none⟩) (by show w.heap.size≠bB;have:=HG.o;omega) (.slice A9 (p.fs.length+1) c9));have HHZ:=h_ (show Held (wz.setCell ⟨bB,qs.length*6+5,none⟩ (.slice A9 (p.fs.length+1) c9)) g g {o with ps:=qs++[{p with F:=A9,fs:=p.fs++[(rdN x1,rdN x2,rdN x3,rdN x4)],fc:=c9}]}from⟨by
        have h:=HXZ.o;rw[hlen]at h;show Box _ g _ #[.slice o.A (qs++[_]).length o.c,.slice o.Y o.ys.length o.yc]
        rw[List.length_append];exact h,HO9,λj hj=>by
        rcases hne9 j hj with h1|h1
        ·exact HNE.o j h1
        ·omega⟩)
       have hgf:g<=(wz.setCell ⟨bB,qs.length*6+5,none⟩ (.slice A9 (p.fs.length+1) c9)).heap.size:=Nat.le_of_lt HXZ.o.lt;clear HO9 hne9 HX9 HRR9 HB9 HW9 HXZ HW;have HT2:=h_ (HST2.o.trans (by rw[HSO.o,Option.bind_some]));have HSS:=h_ (hS2.o _ HSO.o);generalize (wz.setCell ⟨bB,qs.length*6+5,none⟩ (.slice A9 (p.fs.length+1) c9))=wf at *;go_wp2_with fail
       refine⟨⟨k+1,_,by omega,by go_num,HT2.o,HSS.o.1,HSS.o.2,HHZ.o,HRZ.o,HBZ.o,hgf⟩,by simp[intOf];omega⟩
      ·have hpd:decide (0<o.ps.length)=false:=decide_eq_false hp;have hpd2:decide (0<(o.ps.length:Int))=false:=decide_eq_false (by omega);have HVB:=h_ (show readS ls=none from by
        unfold readS;rw[HST2.o,HSP.o,wordS_bad (HN0.o) (λh=>hp (by have:=h.2.2;simpa[OV.d]using this)) (HN2.o)]
        rfl)
       clear HST2 HSP HH;clear hp h5;have y0:=d_ HRR.o 0;have y1:=d_ HRR.o 1;have yf0:=HRR.o.frozen 0;have yf1:=HRR.o.frozen 1;have hrl:=HRR.o.lt;obtain⟨k0,k1⟩:=cells2 (u:=.slice none 0 0) (v:=.slice none 0 0) HRR.o;have HFB:=h_ (below2 HB.o (Nat.le_refl _) (.slice none 0 0) (.slice none 0 0));go_wp2_with fail
       (try simp only[Exit.inBlock,Exit.then])
       exact bodyPost_ret (v:=.tuple #[.agg #[.slice none 0 0,.slice none 0 0],.bool false]) (by simp[results,Tryz.results62,go_sem,k0,k1]) rfl (by rw[HVB.o];exact ret_nilO HFB.o)
     ·have e5:((ws.length:Int)==5)=false:=beq_eq_false_iff_ne.2 (by omega);have HVB:=h_ (show readS ls=none from by
       unfold readS;rw[HST2.o,HSP.o,wordS_bad (HN0.o) (λh=>h5 h.2.1) (HN2.o)]
       rfl)
      clear HST2 HSP HH;clear h5;have y0:=d_ HRR.o 0;have y1:=d_ HRR.o 1;have yf0:=HRR.o.frozen 0;have yf1:=HRR.o.frozen 1;have hrl:=HRR.o.lt;obtain⟨k0,k1⟩:=cells2 (u:=.slice none 0 0) (v:=.slice none 0 0) HRR.o;have HFB:=h_ (below2 HB.o (Nat.le_refl _) (.slice none 0 0) (.slice none 0 0));go_wp2_with fail
      (try simp only[Exit.inBlock,Exit.then])
      exact bodyPost_ret (v:=.tuple #[.agg #[.slice none 0 0,.slice none 0 0],.bool false]) (by simp[results,Tryz.results62,go_sem,k0,k1]) rfl (by rw[HVB.o];exact ret_nilO HFB.o)
    ·have hq1:((bs x0).toList==[102,105,120,117,112])=false:=text_ne e1;have HN1:=h_ (show ¬(ws.getD 0 []=fixW/\ws.length=5/\0<o.d.ss.length)from λh=>e1 (HXE.o.symm.trans h.1));clear e1;by_cases e2:x0=symW
     ·have hq2:((bs x0).toList==[115,121,109,98,111,108])=true:=text_eq e2;have E2:=h_ e2;clear e2;by_cases h5:ws.length=5
      ·have e5:((ws.length:Int)==5)=true:=beq_iff_eq.2 (by omega);have hbw:b<w1.heap.size:=hbb;have hc1:=CReadI.Rd.strAt HW.o.rd (show 1<ws.length by omega);have hxl1:(ws.getD 1 []).length<=1048576:=Nat.le_trans (HWB.o 1) hlx;have hc2:=CReadI.Rd.strAt HW.o.rd (show 2<ws.length by omega);have hxl2:(ws.getD 2 []).length<=1048576:=Nat.le_trans (HWB.o 2) hlx;have hc3:=CReadI.Rd.strAt HW.o.rd (show 3<ws.length by omega);have hxl3:(ws.getD 3 []).length<=1048576:=Nat.le_trans (HWB.o 3) hlx;have hc4:=CReadI.Rd.strAt HW.o.rd (show 4<ws.length by omega);have hxl4:(ws.getD 4 []).length<=1048576:=Nat.le_trans (HWB.o 4) hlx;generalize hx1e:ws.getD 1 []=x1 at *;have HX1:=h_ hx1e;clear hx1e;generalize hx2e:ws.getD 2 []=x2 at *;have HX2:=h_ hx2e;clear hx2e;generalize hx3e:ws.getD 3 []=x3 at *;have HX3:=h_ hx3e;clear hx3e;generalize hx4e:ws.getD 4 []=x4 at *;have HX4:=h_ hx4e;clear hx4e;have HV:=h_ (show wordS o.d ws=some (addY o.d (bs x1,rdN x2,rdN x3,rdN x4))from by
        rw[wordS_sym (HXE.o.trans E2.o) h5];unfold mkYS;rw[HX1.o,HX2.o,HX3.o,HX4.o])
       have HX:=h_ HH.o.box;have HO:=h_ HH.o.own;have HNE:=h_ HH.o.ne;have hi1:(1:Int)<(ws.length:Int):=by omega
       have hn1:1<ws.length:=by omega
       have hi2:(2:Int)<(ws.length:Int):=by omega
       have hn2:2<ws.length:=by omega
       have hi3:(3:Int)<(ws.length:Int):=by omega
       have hn3:3<ws.length:=by omega
       have hi4:(4:Int)<(ws.length:Int):=by omega
       have hn4:4<ws.length:=by omega
       have HP5:=h_ h5;clear h5;go_wp2_with fail
       clear e5 hq1 hq2 hc0;have HRY:=h_ HO.o.2;refine Reg.startT (λW=>W.cell? ⟨g,1,none⟩=some (.slice o.Y o.ys.length o.yc)/\W.cell? ⟨b,off+1,none⟩=some (.string (bs x1))/\W.cell? ⟨b,off+2,none⟩=some (.string (bs x2))/\W.cell? ⟨b,off+3,none⟩=some (.string (bs x3))/\W.cell? ⟨b,off+4,none⟩=some (.string (bs x4))) (λj=>j==21) (by kernel_rfl) ?_;have hHeld:=And.intro x1_ (And.intro hc1 (And.intro hc2 (And.intro hc3 hc4)));have hz:w1.heap.size<=w1.heap.size:=Nat.le_refl _;refine t_ 0 rfl ?_;refine t_ 1 rfl ?_;refine t_ 2 rfl ?_;refine t_ 3 rfl ?_;refine t_ 4 rfl ?_;refine t_ 5 rfl ?_;refine t_ 6 rfl ?_;refine t_ 7 rfl ?_;refine t_ 9 rfl ?_;refine t_ 10 rfl ?_;refine t_ 11 rfl ?_;refine t_ 13 rfl ?_;refine t_ 14 rfl ?_;refine t_ 15 rfl ?_;refine Reg.oneT (i:=8) rfl (by kernel_rfl) (λK hK=>?_);go_simp
       refine(read_bs x2 hxl2 _).mono ?_;rintro e w2 ⟨rfl,bq⟩;have bw:=of_drew bq;replace x1_:=(bw.cell (p:=⟨g,1,none⟩) (Nat.lt_of_lt_of_le hxl_ hz)).trans x1_;replace hc1:=(bw.cell (p:=⟨b,off+1,none⟩) (Nat.lt_of_lt_of_le hbw hz)).trans hc1;replace hc2:=(bw.cell (p:=⟨b,off+2,none⟩) (Nat.lt_of_lt_of_le hbw hz)).trans hc2;replace hc3:=(bw.cell (p:=⟨b,off+3,none⟩) (Nat.lt_of_lt_of_le hbw hz)).trans hc3;replace hc4:=(bw.cell (p:=⟨b,off+4,none⟩) (Nat.lt_of_lt_of_le hbw hz)).trans hc4;replace hz:=Nat.le_trans hz bw.size;replace HRR:=h_ (HRR.o.call bw);replace HX:=h_ (HX.o.call bw);replace HO:=h_ (HO.o.call bw);replace HRY:=h_ (HRY.o.call bw);replace HW:=h_ (HW.o.call bw);replace HB:=c_ HB bw;have hHeld:=And.intro x1_ (And.intro hc1 (And.intro hc2 (And.intro hc3 hc4)));refine hK.out _ _ hHeld ?_;clear hK K bq bw;try simp only[y1_,y2_,y3_,Act.put,y4_,y5_,y6_]
       refine Reg.oneT (i:=12) rfl (by kernel_rfl) (λK hK=>?_);go_simp
       refine(read_bs x3 hxl3 _).mono ?_;rintro e w3 ⟨rfl,bq⟩;have bw:=bq;replace x1_:=(bw.cell (p:=⟨g,1,none⟩) (Nat.lt_of_lt_of_le hxl_ hz)).trans x1_;replace hc1:=(bw.cell (p:=⟨b,off+1,none⟩) (Nat.lt_of_lt_of_le hbw hz)).trans hc1;replace hc2:=(bw.cell (p:=⟨b,off+2,none⟩) (Nat.lt_of_lt_of_le hbw hz)).trans hc2;replace hc3:=(bw.cell (p:=⟨b,off+3,none⟩) (Nat.lt_of_lt_of_le hbw hz)).trans hc3;replace hc4:=(bw.cell (p:=⟨b,off+4,none⟩) (Nat.lt_of_lt_of_le hbw hz)).trans hc4;replace hz:=Nat.le_trans hz bw.size;replace HRR:=h_ (HRR.o.call bw);replace HX:=h_ (HX.o.call bw);replace HO:=h_ (HO.o.call bw);replace HRY:=h_ (HRY.o.call bw);replace HW:=h_ (HW.o.call bw);replace HB:=c_ HB bw;have hHeld:=And.intro x1_ (And.intro hc1 (And.intro hc2 (And.intro hc3 hc4)));refine hK.out _ _ hHeld ?_;clear hK K bq bw;try simp only[y1_,y2_,y3_,Act.put,y4_,y5_,y6_]
       refine Reg.oneT (i:=16) rfl (by kernel_rfl) (λK hK=>?_);go_simp
       refine(read_bs x4 hxl4 _).mono ?_;rintro e w4 ⟨rfl,bq⟩;have bw:=bq;replace x1_:=(bw.cell (p:=⟨g,1,none⟩) (Nat.lt_of_lt_of_le hxl_ hz)).trans x1_;replace hc1:=(bw.cell (p:=⟨b,off+1,none⟩) (Nat.lt_of_lt_of_le hbw hz)).trans hc1;replace hc2:=(bw.cell (p:=⟨b,off+2,none⟩) (Nat.lt_of_lt_of_le hbw hz)).trans hc2;replace hc3:=(bw.cell (p:=⟨b,off+3,none⟩) (Nat.lt_of_lt_of_le hbw hz)).trans hc3;replace hc4:=(bw.cell (p:=⟨b,off+4,none⟩) (Nat.lt_of_lt_of_le hbw hz)).trans hc4;replace hz:=Nat.le_trans hz bw.size;replace HRR:=h_ (HRR.o.call bw);replace HX:=h_ (HX.o.call bw);replace HO:=h_ (HO.o.call bw);replace HRY:=h_ (HRY.o.call bw);replace HW:=h_ (HW.o.call bw);replace HB:=c_ HB bw;have hHeld:=And.intro x1_ (And.intro hc1 (And.intro hc2 (And.intro hc3 hc4)));refine hK.out _ _ hHeld ?_;clear hK K bq bw;try simp only[y1_,y2_,y3_,Act.put,y4_,y5_,y6_]
       refine t_ 17 rfl ?_;refine Reg.oneT (i:=18) rfl (by kernel_rfl) (λK hK=>?_);go_simp
       have BA:Below w4.heap.size w4 (w4.alloc (.cells #[.string (bs x1),.int .i64 (rdN x2),.int .i64 (rdN x3),.int .i64 (rdN x4)] 67)):=b_;have HLT:=h_ (show Rd (w4.alloc (.cells #[.string (bs x1),.int .i64 (rdN x2),.int .i64 (rdN x3),.int .i64 (rdN x4)] 67)) (w4.heap.size+1) (some ⟨w4.heap.size,0,none⟩) (symbolC (bs x1,rdN x2,rdN x3,rdN x4))from rd_lit w4 #[.string (bs x1),.int .i64 (rdN x2),.int .i64 (rdN x3),.int .i64 (rdN x4)] 67 _ rfl);have hHeld:(w4.alloc (.cells #[.string (bs x1),.int .i64 (rdN x2),.int .i64 (rdN x3),.int .i64 (rdN x4)] 67)).cell? ⟨g,1,none⟩=some (.slice o.Y o.ys.length o.yc)/\(w4.alloc (.cells #[.string (bs x1),.int .i64 (rdN x2),.int .i64 (rdN x3),.int .i64 (rdN x4)] 67)).cell? ⟨b,off+1,none⟩=some (.string (bs x1))/\(w4.alloc (.cells #[.string (bs x1),.int .i64 (rdN x2),.int .i64 (rdN x3),.int .i64 (rdN x4)] 67)).cell? ⟨b,off+2,none⟩=some (.string (bs x2))/\(w4.alloc (.cells #[.string (bs x1),.int .i64 (rdN x2),.int .i64 (rdN x3),.int .i64 (rdN x4)] 67)).cell? ⟨b,off+3,none⟩=some (.string (bs x3))/\(w4.alloc (.cells #[.string (bs x1),.int .i64 (rdN x2),.int .i64 (rdN x3),.int .i64 (rdN x4)] 67)).cell? ⟨b,off+4,none⟩=some (.string (bs x4)):=⟨(BA.cell (p:=⟨g,1,none⟩) (Nat.lt_of_lt_of_le hxl_ hz)).trans x1_,(BA.cell (p:=⟨b,off+1,none⟩) (Nat.lt_of_lt_of_le hbw hz)).trans hc1,(BA.cell (p:=⟨b,off+2,none⟩) (Nat.lt_of_lt_of_le hbw hz)).trans hc2,(BA.cell (p:=⟨b,off+3,none⟩) (Nat.lt_of_lt_of_le hbw hz)).trans hc3,(BA.cell (p:=⟨b,off+4,none⟩) (Nat.lt_of_lt_of_le hbw hz)).trans hc4⟩;replace HRR:=h_ (HRR.o.call BA);replace HX:=h_ (HX.o.call BA);replace HO:=h_ (HO.o.call BA);replace HRY:=h_ (HRY.o.call BA);replace HW:=h_ (HW.o.call BA);replace HB:=c_ HB BA;have hga:g<=(w4.alloc (.cells #[.string (bs x1),.int .i64 (rdN x2),.int .i64 (rdN x3),.int .i64 (rdN x4)] 67)).heap.size:=Nat.le_of_lt HX.o.lt;clear BA;generalize (w4.alloc (.cells #[.string (bs x1),.int .i64 (rdN x2),.int .i64 (rdN x3),.int .i64 (rdN x4)] 67))=w6 at *;refine hK.out _ _ hHeld ?_;clear hK K;try simp only[y1_,y2_,y3_,Act.put,y4_,y5_,y6_]
       refine Reg.oneT (i:=19) rfl (by kernel_rfl) (λK hK=>?_);refine step_app (by rfl) _ _ 24 rfl 67 k0 (.agg #[.string ByteArray.empty,.int .i64 0,.int .i64 0,.int .i64 0]) 4 40 Tryz.underlying24 HK.o.1 HK.o.2.1 HK.o.2.2.1 HK.o.2.2.2 rfl (by decide) g o.Y o.ys.length o.yc (cellsOf symbolC o.ys) (by rfl) HRY.o hga _ 1 1 (symbolC (bs x1,rdN x2,rdN x3,rdN x4)) (by rfl) HLT.o rfl (λh=>by cases h) (one_sy _) ?n1 ?n2 ?_
       case n1=>unfold maxLen;omega
       case n2=>omega
       intro A9 n9 c9 wz hn9 o9 g9 k9;subst hn9;have HX9:=h_ (HX.o.grown g9 (HRY.o.box HX.o (by decide)));have HRR9:=h_ (HRR.o.grown g9 (HRY.o.box HRR.o (by decide)));have HW9:=h_ (HW.o.grown g9 (λk hk=>apartT HW.o HRY.o (by decide) k hk));have HB9:=h_ (HB.o.grown g9 HB.o.size (λj hj=>Nat.le_trans (Nat.le_of_lt HG.o) (HRY.o.lt j hj).1));have HO9:=h_ (HO.o.addY [(bs x1,rdN x2,rdN x3,rdN x4)] rfl (by simpa[cellsOf]using o9) g9);have HK9:=h_ k9;have hHeld:wz.cell? ⟨g,1,none⟩=some (.slice o.Y o.ys.length o.yc)/\wz.cell? ⟨b,off+1,none⟩=some (.string (bs x1))/\wz.cell? ⟨b,off+2,none⟩=some (.string (bs x2))/\wz.cell? ⟨b,off+3,none⟩=some (.string (bs x3))/\wz.cell? ⟨b,off+4,none⟩=some (.string (bs x4)):=by have hx:=d_ HX9.o 1;have hw1:=CReadI.Rd.strAt HW9.o.rd (show 1<ws.length by omega);rw[HX1.o]at hw1;have hw2:=CReadI.Rd.strAt HW9.o.rd (show 2<ws.length by omega);rw[HX2.o]at hw2;have hw3:=CReadI.Rd.strAt HW9.o.rd (show 3<ws.length by omega);rw[HX3.o]at hw3;have hw4:=CReadI.Rd.strAt HW9.o.rd (show 4<ws.length by omega);rw[HX4.o]at hw4;exact⟨hx,hw1,hw2,hw3,hw4⟩
       have hfz:=HX9.o.frozen 1;refine hK.out _ _ hHeld ?_;clear hK K o9 g9 k9 HRY HLT HRR HB;try simp only[y1_,y2_,y3_,Act.put,y4_,y5_,y6_]
       refine t_ 20 rfl ?_;refine Reg.lastT (i:=21) rfl (by kernel_rfl) (by rfl) (λK hK=>?_);go_simp
       refine hK.out _ _ ?_;clear hK K;try simp only[y1_,y2_,y3_,Act.put,y4_,y5_,y6_]
       refine Reg.doneT (by kernel_rfl) ?_ _;clear hHeld hfz x1_ hc1 hc2 hc3 hc4;have HNE9:=h_ (show ∀j,oblk {o with Y:=A9,yc:=c9,ys:=o.ys++[(bs x1,rdN x2,rdN x3,rdN x4)]} j->j≠g from by
        rintro j (hj|hj)
        ·exact HNE.o j (.inl hj)
        ·rcases HK9.o j hj with h1|h1
         ·exact HNE.o j (.inr h1)
         ·have:=HX.o.lt;omega)
       have HSO:=h_ (show stepS o.d x=some ({o with Y:=A9,yc:=c9,ys:=o.ys++[(bs x1,rdN x2,rdN x3,rdN x4)]}:OV).d from by
        rw[HSP.o,HV.o]
        rfl)
       have HXZ:=h_ (HX9.o.set 1 (.slice A9 (o.ys.length+1) c9));have HBZ:=h_ (HB9.o.setCell (p:=⟨g,1,none⟩) (Nat.le_of_lt HG.o) (.slice A9 (o.ys.length+1) c9));have HRZ:=h_ (HRR9.o.far (p:=⟨g,1,none⟩) (by show w.heap.size≠g;have:=HG.o;omega) (.slice A9 (o.ys.length+1) c9));have HOZ:=h_ (HO9.o.set (a:=⟨g,1,none⟩) HNE9.o (.slice A9 (o.ys.length+1) c9));have HHZ:=h_ (show Held (wz.setCell ⟨g,1,none⟩ (.slice A9 (o.ys.length+1) c9)) g g {o with Y:=A9,yc:=c9,ys:=o.ys++[(bs x1,rdN x2,rdN x3,rdN x4)]}from⟨by
        have h:=HXZ.o;show Box _ g _ #[.slice o.A o.ps.length o.c,.slice A9 (o.ys++[_]).length c9]
        rw[List.length_append];exact h,HOZ.o,HNE9.o⟩)
       have hgf:g<=(wz.setCell ⟨g,1,none⟩ (.slice A9 (o.ys.length+1) c9)).heap.size:=Nat.le_of_lt HXZ.o.lt;clear HO9 HX9 HRR9 HB9 HW9 HXZ HW HOZ HNE9 HK9 HX;have HT2:=h_ (HST2.o.trans (by rw[HSO.o,Option.bind_some]));have HSS:=h_ (hS2.o _ HSO.o);generalize (wz.setCell ⟨g,1,none⟩ (.slice A9 (o.ys.length+1) c9))=wf at *;go_wp2_with fail
       refine⟨⟨k+1,_,by omega,by go_num,HT2.o,HSS.o.1,HSS.o.2,HHZ.o,HRZ.o,HBZ.o,hgf⟩,by simp[intOf];omega⟩
      ·have e5:((ws.length:Int)==5)=false:=beq_eq_false_iff_ne.2 (by omega);have HVB:=h_ (show readS ls=none from by
        unfold readS;rw[HST2.o,HSP.o,wordS_bad (HN0.o) (HN1.o) (λh=>h5 h.2)]
        rfl)
       clear HST2 HSP HH;clear h5;have y0:=d_ HRR.o 0;have y1:=d_ HRR.o 1;have yf0:=HRR.o.frozen 0;have yf1:=HRR.o.frozen 1;have hrl:=HRR.o.lt;obtain⟨k0,k1⟩:=cells2 (u:=.slice none 0 0) (v:=.slice none 0 0) HRR.o;have HFB:=h_ (below2 HB.o (Nat.le_refl _) (.slice none 0 0) (.slice none 0 0));go_wp2_with fail
       (try simp only[Exit.inBlock,Exit.then])
       exact bodyPost_ret (v:=.tuple #[.agg #[.slice none 0 0,.slice none 0 0],.bool false]) (by simp[results,Tryz.results62,go_sem,k0,k1]) rfl (by rw[HVB.o];exact ret_nilO HFB.o)
     ·have hq2:((bs x0).toList==[115,121,109,98,111,108])=false:=text_ne e2;have HVB:=h_ (show readS ls=none from by
       unfold readS;rw[HST2.o,HSP.o,wordS_bad (HN0.o) (HN1.o) (λh=>e2 (HXE.o.symm.trans h.1))]
       rfl)
      clear HST2 HSP HH;clear e2;have y0:=d_ HRR.o 0;have y1:=d_ HRR.o 1;have yf0:=HRR.o.frozen 0;have yf1:=HRR.o.frozen 1;have hrl:=HRR.o.lt;obtain⟨k0,k1⟩:=cells2 (u:=.slice none 0 0) (v:=.slice none 0 0) HRR.o;have HFB:=h_ (below2 HB.o (Nat.le_refl _) (.slice none 0 0) (.slice none 0 0));go_wp2_with fail
      (try simp only[Exit.inBlock,Exit.then])
      exact bodyPost_ret (v:=.tuple #[.agg #[.slice none 0 0,.slice none 0 0],.bool false]) (by simp[results,Tryz.results62,go_sem,k0,k1]) rfl (by rw[HVB.o];exact ret_nilO HFB.o)
  ·obtain rfl:k=ls.length:=by omega
   have HS:=h_ (show stepsS ⟨[],[]⟩ ls=some o.d from by
    rw[HST.o,List.drop_eq_nil_of_le (Nat.le_refl _)]
    rfl)
   have HF:=h_ (sz_fit (sz_up HSZ.o hm) HH.o.own);have HRO:=h_ (HH.o.own.rd);clear HST HSZ hb;have hx:=HH.o.box;have x0:=d_ hx 0;have x1:=d_ hx 1;have hxl:=hx.lt;clear hx;go_wp2_with fail
   refine(CDumpS.dumpObjectS_any o wr HRO.o HF.o HIN.o).mono ?_;rintro e w2 ⟨A9,c9,rfl,row9,b2⟩;clear x0 x1 hxl;have HD9:=h_ row9;replace HRO:=h_ ((HRO.o.below b2).more b2.size);have HX:=h_ (HH.o.box.call b2);have HO:=h_ (HH.o.own.call b2);replace HB:=c_ HB b2;replace HRR:=h_ (HRR.o.call b2);clear b2;clear row9;have x0:=d_ HX.o 0;have x1:=d_ HX.o 1;have hxl:=HX.o.lt;go_wp2_with fail
   refine(CObjValidS.objectValidS_any o w2 HRO.o HF.o).mono ?_;rintro e w3 ⟨rfl,b3⟩;clear x0 x1 hxl;replace HB:=c_ HB b3;replace HRR:=h_ (HRR.o.call b3);replace HX:=h_ (HX.o.call b3);replace HO:=h_ (HO.o.call b3);replace HD9:=h_ (HD9.o.call b3);clear b3;rw[show(List.map bs (dumpL o.d)).length=(dumpL o.d).length from by simp]at *;cases hok:objOk o.d
   ·have HVB:=h_ (show readS ls=none from by
     unfold readS;rw[HS.o];unfold fin;simp only;rw[if_neg (by rw[hok];intro h;cases h.1)])
    clear hok;have y0:=d_ HRR.o 0;have y1:=d_ HRR.o 1;have yf0:=HRR.o.frozen 0;have yf1:=HRR.o.frozen 1;have hrl:=HRR.o.lt;obtain⟨k0,k1⟩:=cells2 (u:=.slice none 0 0) (v:=.slice none 0 0) HRR.o;have HFB:=h_ (below2 HB.o (Nat.le_refl _) (.slice none 0 0) (.slice none 0 0));go_wp2_with fail
    (try simp only[Exit.inBlock,Exit.then])
    exact bodyPost_ret (v:=.tuple #[.agg #[.slice none 0 0,.slice none 0 0],.bool false]) (by simp[results,Tryz.results62,go_sem,k0,k1]) rfl (by rw[HVB.o];exact ret_nilO HFB.o)
   have HOK:=h_ hok;clear hok;by_cases hle:(dumpL o.d).length=ls.length
   ·have hq:(((dumpL o.d).length:Int) != (ls.length:Int))=false:=by rw[bne,beq_iff_eq.2 (by omega)];rfl
    have HFI:=h_ (show readS ls=if dumpL o.d=ls then some o.d else none from by
     unfold readS;rw[HS.o];unfold fin;simp only;by_cases hd:dumpL o.d=ls
     ·rw[if_pos ⟨HOK.o,hd⟩,if_pos hd]
     ·rw[if_neg (λh=>hd h.2),if_neg hd])
    have hdm:=(HD9.o.cap);generalize hds:dumpL o.d=ds at *;have HLE:=h_ hle;have hds1:ds.length<=1048576:=by omega
    clear hds hle hdm;go_wp2_with fail
    clear hq;go_loopw [12] (λi wi=>∃k:Nat,k<=ds.length/\i=.int .i64 k/\ds.take k=ls.take k/\OwnO wi g o/\Box wi g 26 #[.slice o.A o.ps.length o.c,.slice o.Y o.ys.length o.yc]/\Box wi w.heap.size 26 #[.slice none 0 0,.slice none 0 0]/\Row wi wr.heap.size 9 1 A9 ds.length c9 (nmC (ds.map bs))/\Below w.heap.size w wi) (λi _=>ds.length-(intOf i).toNat)
    case atStart=>exact⟨0,Nat.zero_le _,rfl,rfl,HO.o,HX.o,HRR.o,HD9.o,HB.o⟩
    case round=>
     rename World=>wk
     clear HO HX HRR HD9 HB;obtain⟨k,hk,rfl,htk,ho,hx,hrr,hd9,hb⟩:=hrel;have HTK:=h_ htk;have HO:=h_ ho;have HX:=h_ hx;have HRR:=h_ hrr;have HD9:=h_ hd9;have HB:=h_ hb;clear htk ho hx hrr hd9 hb;by_cases hlt:k<ds.length
     ·have hll:k<ls.length:=by rw[<-HLE.o];exact hlt
      obtain⟨b1,off1,rfl,hb1,hc1⟩:=CNumsI.Rd.str HD9.o.rd hlt;obtain⟨b2,off2,rfl,hb2,hc2⟩:=CNumsI.Rd.str (HR.o.below HB.o) hll;have HNX:=h_ (show ds[k]=ls[k]->ds.take (k+1)=ls.take (k+1)from λh=>by rw[take_succ hlt,take_succ hll,HTK.o,h]);have HNE:=h_ (show ¬ds[k]=ls[k]->¬ds=ls from λh h2=>h (by simp only[h2]));generalize ds[k]=X1 at *;generalize ls[k]=X2 at *;by_cases he:X1=X2
      ·have HNX2:=h_ (HNX.o he);have hq:((bs X1).toList==(bs X2).toList)=true:=by rw[bs_list,bs_list,he];simp
       have hq2:((bs X1).toList != (bs X2).toList)=false:=by rw[bne,hq];rfl
       have hkll:(k:Int)<(ls.length:Int):=by omega
       clear he HNX HNE HTK;go_wp2_with fail
       go_quiet (fail)
       have bd:Below wk.heap.size wk (wk.drewN nq):=below_dn (Below.refl _ _);replace HB:=c_ HB bd;replace HRR:=h_ (HRR.o.call bd);replace HX:=h_ (HX.o.call bd);replace HO:=h_ (HO.o.call bd);replace HD9:=h_ (HD9.o.call bd);clear bd;go_wp2_with fail
       refine⟨⟨k+1,by omega,by go_num,HNX2.o,HO.o,HX.o,HRR.o,HD9.o,HB.o⟩,by simp[intOf];omega⟩
      ·have HVB:=h_ (show readS ls=none from by rw[HFI.o,if_neg (HNE.o he)]);have hq:((bs X1).toList==(bs X2).toList)=false:=by rw[bs_list,bs_list];exact beq_eq_false_iff_ne.2 he
       have hq2:((bs X1).toList != (bs X2).toList)=true:=by rw[bne,hq];rfl
       have hkll:(k:Int)<(ls.length:Int):=by omega
       clear he HNX HNE HTK;go_wp2_with fail
       go_quiet (fail)
       have bd:Below wk.heap.size wk (wk.drewN nq):=below_dn (Below.refl _ _);replace HB:=c_ HB bd;replace HRR:=h_ (HRR.o.call bd);replace HX:=h_ (HX.o.call bd);replace HO:=h_ (HO.o.call bd);replace HD9:=h_ (HD9.o.call bd);clear bd;have y0:=d_ HRR.o 0;have y1:=d_ HRR.o 1;have yf0:=HRR.o.frozen 0;have yf1:=HRR.o.frozen 1;have hrl:=HRR.o.lt;obtain⟨k0,k1⟩:=cells2 (u:=.slice none 0 0) (v:=.slice none 0 0) HRR.o;have HFB:=h_ (below2 HB.o (Nat.le_refl _) (.slice none 0 0) (.slice none 0 0));go_wp2_with fail
       (try simp only[Exit.inBlock,Exit.then])
       exact bodyPost_ret (v:=.tuple #[.agg #[.slice none 0 0,.slice none 0 0],.bool false]) (by simp[results,Tryz.results62,go_sem,k0,k1]) rfl (by rw[HVB.o];exact ret_nilO HFB.o)
     ·have hke:k=ds.length:=by omega
      have HV:=h_ (show readS ls=some o.d from by
       rw[HFI.o];have h:=HTK.o;rw[hke,List.take_length,HLE.o,List.take_length]at h;rw[if_pos h])
      subst hke;clear HTK HFI;have x0:=d_ HX.o 0;have x1:=d_ HX.o 1;have hxl:=HX.o.lt;have y0:=d_ HRR.o 0;have y1:=d_ HRR.o 1;have yf0:=HRR.o.frozen 0;have yf1:=HRR.o.frozen 1;have hrl:=HRR.o.lt;obtain⟨k0,k1⟩:=cells2 (u:=.slice o.A o.ps.length o.c) (v:=.slice o.Y o.ys.length o.yc) HRR.o;have HFIN:=h_ (ret_ok (R:=w.heap.size) (HO.o.down (Nat.le_of_lt HG.o)) HB.o (λj hj e=>by have:=(HO.o.lt j hj).1;have:=HG.o;omega) (Nat.le_refl _));go_wp2_with fail
      (try simp only[Exit.inBlock,Exit.then])
      exact bodyPost_ret (v:=.tuple #[.agg #[.slice o.A o.ps.length o.c,.slice o.Y o.ys.length o.yc],.bool true]) (by simp[results,Tryz.results62,go_sem,k0,k1]) rfl (by rw[HV.o];exact HFIN.o)
   ·have hq:(((dumpL o.d).length:Int) != (ls.length:Int))=true:=bne_iff_ne.2 (by omega);have HVB:=h_ (show readS ls=none from by
     unfold readS;rw[HS.o];unfold fin;simp only;rw[if_neg (λh=>hle (by rw[h.2]))])
    generalize dumpL o.d=ds at *;clear hle;have y0:=d_ HRR.o 0;have y1:=d_ HRR.o 1;have yf0:=HRR.o.frozen 0;have yf1:=HRR.o.frozen 1;have hrl:=HRR.o.lt;obtain⟨k0,k1⟩:=cells2 (u:=.slice none 0 0) (v:=.slice none 0 0) HRR.o;have HFB:=h_ (below2 HB.o (Nat.le_refl _) (.slice none 0 0) (.slice none 0 0));go_wp2_with fail
    (try simp only[Exit.inBlock,Exit.then])
    exact bodyPost_ret (v:=.tuple #[.agg #[.slice none 0 0,.slice none 0 0],.bool false]) (by simp[results,Tryz.results62,go_sem,k0,k1]) rfl (by rw[HVB.o];exact ret_nilO HFB.o)
end CReadDS
/- The reference's copies of the desks,and its cut. -/
namespace CDeskCS
open Kit CCode CName CNumTxt CFixups CSymbols PObj BObj PValid BList CMarkRows BObj2 BRetO CObjValid CCopyS CObjL COwnL BDesk
set_option maxHeartbeats 4000000 in
theorem deskCopyS_any(A:Option Addr)(os:List OV)(c:Nat)(w:World)(hr:RdOs w w.heap.size A os)(hf:Fits os)(hn:∀o∈os,Nils o)(hs:∀o∈os,o.ps.length<=100/\o.ys.length<=100):
  Calls Tryz.prog 60 #[.slice A os.length c] w (RetOs (os.map OV.d) w):=by
 obtain⟨i0,hi1,hi2,hi3,hi4⟩:=info_parts infoO;have HI:=h_ (And.intro hi1 (And.intro hi2 (And.intro hi3 hi4)));clear hi1 hi2 hi3 hi4;have hm:=hf.n;have HR:=h_ hr;have HL:=h_ (λo (ho:o∈os)=>And.intro (hf.o o ho) (And.intro (hn o ho) (hs o ho)));clear hr hf hn hs;have HB:=h_ (show Below w.heap.size w (w.alloc (.cells #[] 26))from b_);go_enter Tryz.func60,Tryz.ntmps60
 go_wp2_with fail
 generalize w.alloc (.cells #[] 26)=w0 at *;go_loopw [3,4] (λs i wi=>∃(k:Nat) (qs:List OV) (Aq:Option Addr) (cq:Nat),k<=os.length/\qs.length=k/\s=.slice Aq qs.length cq/\i=.int .i64 k/\qs.map OV.d=(os.take k).map OV.d/\OwnOs wi w.heap.size Aq cq qs/\Below w.heap.size w wi) (λ_ i _=>os.length-(intOf i).toNat)
 case atStart=>exact⟨0,[],_,0,Nat.zero_le _,rfl,rfl,rfl,rfl,⟨Row.empty _ _ _ _ _,(λp hp=>by cases hp),List.Pairwise.nil⟩,HB.o⟩
 case round=>
  clear HB;obtain⟨k,qs,Aq,cq,hk,hql,rfl,rfl,hqd,ho,hb⟩:=hrel;have HO:=h_ ho;have HB:=h_ hb;have HQL:=h_ hql;have HQD:=h_ hqd;have hq1:qs.length<=1048576:=by omega
  clear hqd ho hql;by_cases hlt:k<os.length
  ·obtain⟨b,off,rfl,hbg,hc⟩:=(HR.o.1.below hb).row objC_len (by decide) hlt;have hc0:=hc 0 _ rfl;have hc1:=hc 1 _ rfl;simp only[Nat.add_zero]at hc0;have HM:=h_ (HL.o _ (List.getElem_mem hlt));have HRS:=h_ (((HR.o.2 _ (List.getElem_mem hlt)).below hb).more hb.size);have HD:=h_ (show qs.map OV.d++[(os[k]).d]=(os.take (k+1)).map OV.d by rw[take_succ hlt,List.map_append,HQD.o];rfl);clear hb hc;generalize os[k]=p at *;go_wp2_with fail
   clear hc0 hc1;refine(l4Copy_any p wr HRS.o HM.o.1 HM.o.2.1 HM.o.2.2).mono ?_;rintro e w2 ⟨q,rfl,hqd,r2,b2⟩;have HRQ:=h_ (r2.down HB.o.size);have HNEW:=h_ (λj (hj:oblk q j)=>(show wr.heap.size<=j from(r2.lt j hj).1));have HOLD:=h_ (λx (hx:x∈qs) j (hj:oblk x j)=>(show j<wr.heap.size from((HO.o.2.1 x hx).lt j hj).2));have HQ:=h_ hqd;have HO2:=h_ (HO.o.call b2);replace HB:=c_ HB b2;clear b2;clear hqd r2 HO HRS;have B3:Below w2.heap.size w2 (w2.alloc (.cells (objC q).toArray 26)):=b_;have HO3:=h_ (HO2.o.call B3);have HRQ3:=h_ (HRQ.o.call B3);replace HB:=c_ HB B3;clear B3;clear HO2 HRQ;simp only[objC]at HO3 HRQ3 HB ⊢;simp only[OV.v];go_wp2_with (at_builtin;refine wpList_app _ rfl (.tmp 12) (.tmp 18) 32 rfl 26 i0 (.agg #[.slice none 0 0,.slice none 0 0]) 2 48 Tryz.underlying32 HI.o.1 HI.o.2.1 HI.o.2.2.1 HI.o.2.2.2 rfl (by decide) w.heap.size Aq qs.length cq (cellsOf objC qs) rfl HO3.o.1 HB.o.size (some ⟨w2.heap.size,0,none⟩) 1 1 (objC q) rfl (rd_lit w2 (objC q).toArray 26 _ rfl) rfl (λh=>by cases h) (one_objC q) ?n1 ?n2 ?_)
   case n1=>unfold maxLen;omega
   case n2=>omega
   intro A8 n8 c8 w8 hn8 o8 g8 k8;have HOW:=h_ (OwnOs.snoc HO3.o HRQ3.o HOLD.o HNEW.o hn8 o8 g8);have HB8:=h_ (HB.o.grown g8 HB.o.size (λj hj=>(HO3.o.1.lt j hj).1));have hn8':n8=(qs++[q]).length:=by rw[hn8,List.length_append];rfl
   subst hn8';clear hn8 o8 g8 k8 HO3 HRQ3;go_wp2_with fail
   refine⟨⟨k+1,qs++[q],A8,c8,by omega,by simp[HQL.o],by first|rfl|rw[List.length_append],by go_num,?_,HOW.o,HB8.o⟩,by simp[intOf];omega⟩
   rw[<-HD.o,List.map_append,List.map_singleton,HQ.o]
  ·have hke:k=os.length:=by omega
   have HH:=h_ (show RetOs (os.map OV.d) w (.returned (.slice Aq qs.length cq)) wr from⟨Aq,cq,qs,rfl,by rw[HQD.o,hke,List.take_length],HO.o,HB.o⟩);subst hke;clear hb;go_wp2_with fail
   go_ret;exact HH.o
end CDeskCS
/- Where a name is given: one look through all symbols; plain. -/
namespace P11
open Kit CCode CName CFixups CSymbols PObj PValid PLink
def enS(k:Nat):Nat->List YD->List (G×YD)
 |_,[]=>[]
 |j,y::ys=>((k,j),y)::enS k (j+1) ys
def enO:Nat->List OD->List (G×YD)
 |_,[]=>[]
 |k,d::ds=>enS k 0 d.ys++enO (k+1) ds
theorem enS_app(k:Nat):∀(j:Nat) (a b:List YD),enS k j (a++b)=enS k j a++enS k (j+a.length) b
 |j,[],b=>by simp[enS]
 |j,y::a,b=>by simp only[List.cons_append,enS,enS_app k (j+1) a b,List.length_cons];rw[show j+1+a.length=j+(a.length+1)from by omega]
theorem enO_app:∀(k:Nat) (a b:List OD),enO k (a++b)=enO k a++enO (k+a.length) b
 |k,[],b=>by simp[enO]
 |k,d::a,b=>by simp only[List.cons_append,enO,enO_app (k+1) a b,List.length_cons,List.append_assoc];rw[show k+1+a.length=k+(a.length+1)from by omega]
theorem enS_snoc(k:Nat){ys:List YD}{j:Nat}(h:j<ys.length):enS k 0 (ys.take (j+1))=enS k 0 (ys.take j)++[((k,j),ys[j])]:=by
 rw[take_succ h,enS_app,List.length_take,Nat.min_eq_left (by omega),Nat.zero_add]
 rfl
theorem enO_snoc{l:List OD}{k:Nat}(h:k<l.length):enO 0 (l.take (k+1))=enO 0 (l.take k)++enS k 0 l[k].ys:=by rw[take_succ h,enO_app,List.length_take,Nat.min_eq_left (by omega),Nat.zero_add];simp[enO]
theorem enS_mem{k:Nat}:∀{j:Nat} {ys:List YD} {e:G×YD},e∈enS k j ys->e.2∈ys
 |_,[],_,h=>by cases h
 |_,y::ys,e,h=>by
  rcases List.mem_cons.1 h with rfl|h
  ·exact List.mem_cons_self
  ·exact List.mem_cons_of_mem _ (enS_mem h)
theorem enO_mem:∀{k:Nat} {l:List OD} {e:G×YD},e∈enO k l->∃d∈l,e.2∈d.ys
 |_,[],_,h=>by cases h
 |_,d::ds,e,h=>by
  rcases List.mem_append.1 h with h|h
  ·exact⟨d,List.mem_cons_self,enS_mem h⟩
  ·obtain⟨x,hx,hy⟩:=enO_mem h;exact⟨x,List.mem_cons_of_mem _ hx,hy⟩
theorem fiS_en(p:YD->Bool)(k:Nat):∀(n:Nat) (ys:List YD),((enS k n ys).find? λe=>p e.2).map (·.1)=(fiS p n ys).map λj=>(k,j)
 |_,[]=>rfl
 |n,y::ys=>by
  rw[enS,List.find?_cons,fiS];cases h:p y
  ·simpa using fiS_en p k (n+1) ys
  ·rfl
theorem fiO_en(p:YD->Bool):∀(n:Nat) (ds:List OD),((enO n ds).find? λe=>p e.2).map (·.1)=fiO p n ds
 |_,[]=>rfl
 |n,d::ds=>by
  rw[enO,List.find?_append,fiO];have h1:=fiS_en p n 0 d.ys;have h2:=fiO_en p (n+1) ds;cases h:fiS p 0 d.ys with
  |none=>
   rw[h]at h1;have h3:(enS n 0 d.ys).find? (λe=>p e.2)=none:=by simpa using h1
   rw[h3];simpa[fiR]using h2
  |some j=>
   rw[h]at h1;obtain⟨e,he,he2⟩:=Option.map_eq_some_iff.1 h1;rw[he];simpa[fiR]using he2
theorem find_congr{α:Type}{p q:α->Bool}:∀{l:List α},(∀x∈l,p x=q x)->l.find? p=l.find? q
 |[],_=>rfl
 |x::xs,h=>by rw[List.find?_cons,List.find?_cons,h x List.mem_cons_self,find_congr λy hy=>h y (List.mem_cons_of_mem _ hy)]
def hitY(nm:ByteArray)(y:YD):Bool:=decide (y.1=nm)&&(!decide (y.2.1=0)&& !decide (y.2.2.1=-1))
abbrev St11:=G×Int×Bool
def step11(nm:ByteArray)(st:St11)(e:G×YD):St11:=
 bif hitY nm e.2 then((bif (decide (e.2.2.1=1)&&decide (st.2.1=0))|| !st.2.2 then e.1 else st.1),(bif decide (e.2.2.1=1)then st.2.1+1 else st.2.1),true)else st
def st11(nm:ByteArray)(E:List (G×YD)):St11:=E.foldl (step11 nm) ((0,0),0,false)
theorem st11_snoc(nm:ByteArray)(E:List (G×YD))(e:G×YD):st11 nm (E++[e])=step11 nm (st11 nm E) e:=by simp[st11]
def strongY(nm:ByteArray)(y:YD):Bool:=hitY nm y&&decide (y.2.1=1)
def outE(nm:ByteArray)(E:List (G×YD)):G:=
 match E.find? λe=>strongY nm e.2 with
 |some e=>e.1
 |none=>match E.find? λe=>hitY nm e.2 with
  |some e=>e.1
  |none=>(0,0)
theorem st11_take(nm:ByteArray)(E:List (G×YD)):∀n,n<=E.length->st11 nm (E.take n)=(outE nm (E.take n),(((E.take n).filter λe=>strongY nm e.2).length:Int),(E.take n).any λe=>hitY nm e.2)
 |0,_=>rfl
 |n+1,hn=>by
  have ih:=st11_take nm E n (by omega);have hlt:n<E.length:=by omega
  rw[take_succ hlt,st11_snoc,ih];generalize E.take n=F;generalize E[n]=e;have hs:strongY nm e.2=(hitY nm e.2&&decide (e.2.2.1=1)):=rfl;have hcnt:(((F.filter λe=>strongY nm e.2).length:Int)=0)↔F.find? (λe=>strongY nm e.2)=none:=by
   rw[List.find?_eq_none];constructor
   ·intro h x hx hp;have h0:(F.filter λe=>strongY nm e.2)=[]:=List.eq_nil_of_length_eq_zero (by omega);have:x∈F.filter λe=>strongY nm e.2:=List.mem_filter.2 ⟨hx,hp⟩;rw[h0]at this;cases this
   ·intro h;have h0:(F.filter λe=>strongY nm e.2)=[]:=List.filter_eq_nil_iff.2 h;rw[h0]
    rfl
  have hany:(F.any λe=>hitY nm e.2)=false↔F.find? (λe=>hitY nm e.2)=none:=by rw[List.find?_eq_none,List.any_eq_false]
  unfold step11 outE;simp only[List.find?_append,List.filter_append,List.any_append,List.length_append];cases hh:hitY nm e.2
  ·have hs0:strongY nm e.2=false:=by rw[hs,hh];rfl
   simp[hh,hs0]
  ·by_cases h1:e.2.2.1=1
   ·have hs1:strongY nm e.2=true:=by rw[hs,hh,decide_eq_true h1];rfl
    by_cases hc:F.find? (λe=>strongY nm e.2)=none
    ·have hc2:=hcnt.2 hc;simp[hh,h1,hs1,hc,hc2]
    ·have hc2:¬(((F.filter λe=>strongY nm e.2).length:Int)=0):=λh=>hc (hcnt.1 h);obtain⟨x,hx⟩:=Option.ne_none_iff_exists'.1 hc;have hf:(F.any λe=>hitY nm e.2)=true:=by have hm:=List.mem_of_find?_eq_some hx;have hp:=List.find?_some hx;rw[List.any_eq_true];simp only[strongY,Bool.and_eq_true]at hp;exact⟨x,hm,hp.1⟩
     have hd:decide ((((F.filter λe=>strongY nm e.2).length:Int))=0)=false:=decide_eq_false hc2;simp only[hd];simp[hh,h1,hs1,hx,hf]
   ·have hs0:strongY nm e.2=false:=by rw[hs,hh,decide_eq_false h1];rfl
    cases hf:F.any λe=>hitY nm e.2
    ·have hn:=hany.1 hf;have hn2:F.find? (λe=>strongY nm e.2)=none:=by rw[List.find?_eq_none];intro x hx hp;simp only[strongY,Bool.and_eq_true]at hp;have:=List.any_eq_false.1 hf x hx;exact this hp.1
     simp[hh,h1,hs0,hn,hn2]
    ·cases hq:F.find? (λe=>strongY nm e.2)with
     |some x=>simp[hh,h1,hs0,hq]
     |none=>
      have hne:F.find? (λe=>hitY nm e.2)≠none:=λh=>by rw[hany.2 h]at hf;cases hf
      obtain⟨x,hx⟩:=Option.ne_none_iff_exists'.1 hne;simp[hh,h1,hs0,hq,hx]
theorem st11_eq(nm:ByteArray)(E:List (G×YD)):st11 nm E=(outE nm E,((E.filter λe=>strongY nm e.2).length:Int),E.any λe=>hitY nm e.2):=by
 have h:=st11_take nm E E.length (Nat.le_refl _)
 rwa[List.take_length]at h
theorem given_find{l:List OD}(hv:∀d∈l,∀y∈d.ys,0<=y.2.1/\y.2.1<=2)(nm:ByteArray):(st11 nm (enO 0 l)).1=(findN l nm).getD (0,0)/\(st11 nm (enO 0 l)).2.2=(findN l nm).isSome:=by
 rw[st11_eq];have hE:∀e∈enO 0 l,0<=e.2.2.1/\e.2.2.1<=2:=λe he=>by obtain⟨d,hd,hy⟩:=enO_mem he;exact hv d hd e.2 hy
 have h1:=fiO_en (gives nm 1) 0 l;have h2:=fiO_en (gives nm 2) 0 l;have e1:∀e∈enO 0 l,strongY nm e.2=gives nm 1 e.2:=λe he=>by
  unfold strongY hitY gives;by_cases a:e.2.1=nm<;>by_cases b:e.2.2.1=1<;>by_cases c:e.2.2.2.1=-1<;>simp[a,b,c]
 have e2:∀e∈enO 0 l,gives nm 1 e.2=false->hitY nm e.2=gives nm 2 e.2:=λe he hg=>by
  have hb:=hE e he;revert hg
  unfold hitY gives;by_cases a:e.2.1=nm<;>by_cases c:e.2.2.2.1=-1<;>simp[a,c]
  intro h;by_cases b:e.2.2.1=0
  ·simp[b]
  ·have:e.2.2.1=2:=by omega
   simp[this]
 generalize enO 0 l=E at *;unfold findN outE;have g1:E.find? (λe=>strongY nm e.2)=E.find? (λe=>gives nm 1 e.2):=find_congr e1;rw[g1,<-h1,<-h2];cases hq:E.find? (λe=>gives nm 1 e.2)with
 |some x=>
  have hm:=List.mem_of_find?_eq_some hq;have hp:=List.find?_some hq;have ha:(E.any λe=>hitY nm e.2)=true:=List.any_eq_true.2 ⟨x,hm,by
   have h:=e1 x hm;rw[hp]at h;simp only[strongY,Bool.and_eq_true]at h;exact h.1⟩
  simp[orG,ha]
 |none=>
  have hn:∀e∈E,gives nm 1 e.2=false:=λe he=>by
   have:=List.find?_eq_none.1 hq e he;simpa using this
  have g2:E.find? (λe=>hitY nm e.2)=E.find? (λe=>gives nm 2 e.2):=find_congr λe he=>e2 e he (hn e he);have g3:(E.any λe=>hitY nm e.2)=(E.find? (λe=>hitY nm e.2)).isSome:=by rw[Bool.eq_iff_iff,List.any_eq_true,List.find?_isSome]
  rw[g3,g2];cases hr:E.find? (λe=>gives nm 2 e.2)<;>simp[orG]
end P11
end Go.Proofs.YtepoiphmmjfbdaaGreatDoor
