/- The laws' marks on lists of objects, read again; and their words on rows of strings. -/
import Derived.Test.YtepoiphmmjfbdaaGreatDoorFnExactDeskRunM16
set_option linter.unusedSimpArgs false
set_option linter.unusedVariables false
set_option maxRecDepth 200000
open Go.ChangeShapes Go.WideShapes Go.ChangeAt Go.RowKit
namespace Go.Proofs.YtepoiphmmjfbdaaGreatDoor
namespace CHeldL
open Kit CFixups CSymbols PObj BObj BObj2 BList CObjValid CSection CSections CMarkText CSymMarks CMarkRows CSecMarks CSecHeld CObject CObject2 CCopyS WObj CObjL CObjL2
theorem mOs_get:∀ (k:Int) (os:List OV) (j:Nat) (hj:j<os.length) (h:j<(mOs k os).length),(mOs k os)[j]=mO (k+wdL (os.take j)) os[j]
 | k,o :: os,0,_,_=>by simp [mOs,wdL]
 | k,o :: os,j+1,hj,h=>by
  simp only [mOs,List.getElem_cons_succ,List.take_succ_cons,wdL];rw [mOs_get (k+wdO o) os j (by simpa using hj)];rw [show k+wdO o+wdL (os.take j)=k+(wdO o+wdL (os.take j)) by omega]
set_option maxHeartbeats 2000000 in
theorem heldObjectS_any (A:Option Addr) (c:Nat) (os:List OV) (k0:Int) (w:World) (h0:0<=k0) (hk0:k0+wdL os<=4294967296) (hm:os.length<=1048576) (hp:∀ o ∈ os,o.ps.length<=1048576/\o.ys.length<=1048576) (h:RdOs w w.heap.size A (mOs k0 os)):
  Calls Tryz.prog 28 #[.slice A os.length c,.int .i64 k0] w (Ret (.int .i64 (k0+wdL os)) w):=by
 have HR:=h_ h;have HP:=h_ hp;have HK:=h_ hk0;clear h hp hk0
 go_enter Tryz.func28,Tryz.ntmps28
 go_wp2
 go_loopw [1,5] (fun x i wr=>∃ j:Nat,j<=os.length/\i=.int .i64 j/\x=.int .i64 (k0+wdL (os.take j))/\Below w.heap.size w wr) (fun _ i _=>os.length - (intOf i).toNat)
 case atStart=>exact ⟨0,Nat.zero_le _,rfl,by simp [wdL],Below.refl _ _⟩
 case round=>
  obtain ⟨j,hj,rfl,rfl,hb⟩:=hrel;have HB:=h_ hb
  by_cases hlt:j<os.length
  ·have hltm:j<(mOs k0 os).length:=by rw [mOs_len]; exact hlt
   obtain ⟨b,off,hA,hbg,hc⟩:=(HR.o.1.below hb).row objC_len (by decide) hltm;have hmem:=HR.o.2 _ (List.getElem_mem hltm);have hget:=mOs_get k0 os j hlt hltm;rw [hget] at hc hmem;rw [objC_mO] at hc;have hc0:=hc 0 _ rfl;have hc1:=hc 1 _ rfl;simp only [Nat.add_zero] at hc0;have hbl:b<wr.heap.size:=Nat.lt_of_lt_of_le hbg hb.size;have hsp:os.drop j=os[j] :: os.drop (j+1):=List.drop_eq_getElem_cons hlt
   have hle:wdL os=wdL (os.take j)+wdO os[j]+wdL (os.drop (j+1)):=by
    conv=>lhs; rw [<-List.take_append_drop j os,wdL_app,hsp]
    simp only [wdL];omega
   have hx0:=wdL_nonneg (os.take j);have hx1:=wdL_nonneg (os.drop (j+1));have hx2:=wds_nonneg (os[j]).ps;have hx3:wdO os[j]=wds (os[j]).ps+4*(os[j]).ys.length:=rfl;have hkk:=HK.o;have HWD:=h_ (show k0+wdL (os.take (j+1))=(k0+wdL (os.take j))+wdO os[j] from by rw [take_succ hlt,wdL_app]; simp only [wdL]; omega)
   have HBD:=h_ (show 0<=k0+wdL (os.take j)/\k0+wdL (os.take j)+wds (os[j]).ps<=4294967296/\0<=k0+wdL (os.take j)+wds (os[j]).ps/\(os[j]).ps.length<=4294967296/\(os[j]).ys.length<=4294967296 from by
    have:=HP.o _ (List.getElem_mem hlt)
    omega)
   have HM:=h_ hmem;have hb1:0<=k0+wdL (os.take j)+wds (os[j]).ps:=HBD.o.2.2.1;have hb2:k0+wdL (os.take j)+wds (os[j]).ps<=4294967296:=HBD.o.2.1;have hb3:(os[j]).ys.length<=4294967296:=HBD.o.2.2.2.2;clear hget hmem hc hb hltm hsp hle hx0 hx1 hx2 hx3 hkk;subst hA;generalize hx:k0+wdL (os.take j)=x at *;generalize os[j]=o at *;clear hx
   go_wp2_with fail
   refine (sheld_any o.A o.c o.ps x wr HBD.o.1 HBD.o.2.1 HBD.o.2.2.2.1 ((HM.o.1.below HB.o).more HB.o.size)).mono ?_;rintro e w1 ⟨rfl,b1⟩;have HB1:=h_ (HB.o.trans (b1.mono HB.o.size));have hd1:=(b1.cell (p:=⟨b,off+j*2+1,none⟩) hbl).trans hc1;have HRY:=h_ (show Rd w1 w1.heap.size o.Y (cellsOf symbolC (ymarks (x+wds o.ps) o.ys.length)) from (HM.o.2.below HB1.o).more HB1.o.size);have HE:=h_ (show x+wds o.ps+4*(o.ys.length:Int)=x+wdO o from by unfold wdO; omega);have hblw:=Nat.lt_of_lt_of_le hbl b1.size;clear b1 hc0 hc1 HB HBD;generalize x+wds o.ps=y at *;have hdn:decide (y<0)=false:=decide_eq_false (by omega)
   go_wp2_with fail
   refine (yheld_any o.Y o.yc o.ys.length y _ hb1 hb2 hb3 HRY.o).mono ?_;rintro e w2 ⟨rfl,b2⟩;have HB2:=h_ (HB1.o.trans (b2.mono HB1.o.size))
   have hz0:0<=y+4*(o.ys.length:Int):=by omega
   have hdn2:decide (y+4*(o.ys.length:Int)<0)=false:=decide_eq_false (by omega);clear b2 HB1 hd1
   go_wp2_with fail
   refine ⟨⟨j+1,by omega,by go_num,by rw [HWD.o,<- HE.o],HB2.o⟩,by simp [intOf]; omega⟩
  ·have e:j=os.length:=by omega
   subst e;rw [List.take_length]
   go_wp2_with fail
   go_ret;exact ⟨rfl,HB.o⟩
end CHeldL
/- The walk of FnExactDeskRun. -/
namespace WFnExactDeskRun
open Kit CCode CFixups CSymbols PObj BObj PValid CObjValid CSections CObject CObject2 CMarkRows WObj BList CObjL CObjL2 CPlaceS CSorted PLink PDump PDesk BDesk CHexS CStrRows CDeskI BRetRA CDeskRI CDeskRS CHeldL BDeskW
theorem own_apT {w:World} {base b c n d:Nat} {A B:Option Addr} {os:List OV} {xs:List Value} (h:OwnOs w base A c os) (r:Row w b 9 1 B n d xs):∀ k,lblk A c os k->blk B d ≠ some k:=by
 rintro k (hk | ⟨o,ho,(hk | ⟨p,hp,hk | hk⟩) | hk⟩) e
 ·exact apartT h.1 r (by decide) k hk e
 ·exact apartT (h.2.1 o ho).1.1 r (by decide) k hk e
 ·exact apartT ((h.2.1 o ho).1.2.1 p hp).1 r (by decide) k hk e
 ·exact apartT ((h.2.1 o ho).1.2.1 p hp).2 r (by decide) k hk e
 ·exact apartT (h.2.1 o ho).2 r (by decide) k hk e
theorem map_bs (xs:List ByteArray):(xs.map nmL).map bs=xs:=by
 rw [List.map_map];exact List.map_id xs
set_option maxHeartbeats 16000000 in
theorem walk (A:Option Addr) (os:List OV) (c:Nat) (LA:Option Addr) (xs:List ByteArray) (lc:Nat) (w:World) (hr:RdOs w w.heap.size A os) (hn:os.length<=maxLen) (hl:∀ o ∈ os,InO o) (hz:∀ o ∈ os,∀ p ∈ o.ps,InR 0 255 p.zs)
  (hrs:Rd w w.heap.size LA (nmC xs)) (hns:xs.length<=maxLen) (hls:∀ x ∈ xs,x.size<=maxLen) (he:Env w):
  Calls Tryz.prog 7 #[.slice A os.length c,.slice LA xs.length lc] w (LawEnds w):=by
 have HR:=h_ hr;have HRS:=h_ hrs;have HE:=h_ he
 have HZ:=h_ (show ∀ o ∈ os,InD o.d from fun o ho s hs=>by
  obtain ⟨p,hp,rfl⟩:=List.mem_map.1 hs
  exact hz o ho p hp)
 have HSZ:=h_ (szObjectS_any A os c 1048576 w (by omega) (by omega) hr hn hl);have HST:=h_ (fun V left (h0:0<=left) (h1:left<=1048576) (hV:Below w.heap.size w V)=>szStringS_any LA xs lc left V h0 h1 ((HRS.o.below hV).more hV.size) hns hls);clear hr hn hl hz he hrs hls
 go_enter Tryz.func7,Tryz.ntmps7
 go_wp2_with fail
 refine HSZ.o.mono ?_;rintro e w1 ⟨⟨r,rfl,hcase⟩,b1⟩;have HB:=h_ b1;clear b1 HSZ
 rcases hcase with rfl | ⟨hr0,hsum⟩
 ·go_wp2_with fail
  go_ret;exact ⟨rfl,HB.o⟩
 have HSUM:=h_ (show sizL (os.map OV.d)<=1048576 from by omega);have hos:os.length<=1048576:=sizL_len HSUM.o;have HTO:=h_ (fun V (hV:Below w.heap.size w V)=>toObjectS_any A os c V ((HR.o.below hV).more hV.size) hos (fun o ho=>(sum_lim (sizL_mem HSUM.o o ho)).1))
 have hr1:r<=1048576:=by
  have h1:=sumL_nonneg (os.map OV.d);unfold sizL at hsum;omega
 clear hsum
 go_wp2_with fail
 refine (HST.o w1 r hr0 hr1 HB.o).mono ?_;rintro e w' ⟨⟨r2,rfl,hcase⟩,hw⟩;obtain rfl:w1=w':=hw.symm;clear hw;clear HST
 rcases hcase with rfl | ⟨hr20,hsum⟩
 ·go_wp2_with fail
  go_ret;exact ⟨rfl,HB.o⟩
 have hst:=sumT_nonneg xs
 have hxm:xs.length<=1048576:=by omega
 have HXM:=h_ (show ∀ x ∈ xs.map nmL,x.length<=1048576 from fun x hx=>by
  obtain ⟨y,hy,rfl⟩:=List.mem_map.1 hx;have h:=sumT_mem hy;rw [<-bs_size,bs_nm]
  omega)
 have HTS:=h_ (fun V (hV:Below w.heap.size w V)=>toStringS_any LA xs lc V ((HRS.o.below hV).more hV.size) (by omega));clear hsum hst hns hr0 hr1
 have HIC:=h_ (show ∀ (A:Option Addr) (qs:List OV) (c:Nat) (B:Option Addr) (d:Nat) (V:World),RdOs V V.heap.size A qs->Args c qs->Rd V V.heap.size B (nmC xs)->Env V->qs.map OV.d=os.map OV.d->Calls Tryz.prog 22 #[.slice A qs.length c,.slice B xs.length d] V (RetRA (runA (os.map OV.d) (xs.map nmL)) V) from fun A qs c B d V h1 h2 h3 h4 h5=>by
  rw [<-h5];have h:=deskRun_any A qs c B (xs.map nmL) d V h1 h2.l.fits h2.n h2.z h2.c (by rw [map_bs]; exact h3) HXM.o h4;rw [List.length_map] at h
  exact h)
 have HSC:=h_ (show ∀ (A:Option Addr) (qs:List OV) (c:Nat) (B:Option Addr) (d:Nat) (V:World),RdOs V V.heap.size A qs->Args c qs->Rd V V.heap.size B (nmC xs)->Env V->qs.map OV.d=os.map OV.d->Calls Tryz.prog 23 #[.slice A qs.length c,.slice B xs.length d] V (RetRA (runA (os.map OV.d) (xs.map nmL)) V) from fun A qs c B d V h1 h2 h3 h4 h5=>by
  rw [<-h5];have h:=deskRunS_any A qs c B (xs.map nmL) d V h1 h2.l h2.n h2.z h2.c (by rw [map_bs]; exact h3) HXM.o h4;rw [List.length_map] at h
  exact h)
 have HOK:=h_ (run_ok (os.map OV.d) (xs.map nmL))
 have hal:(runA (os.map OV.d) (xs.map nmL)).2.length<=1048576:=by
  unfold runA
  split
  ·rename_i h;rw [(runs_valid _ h.1).2,List.length_map];exact hxm
  ·exact Nat.zero_le _
 clear HXM;generalize runA (os.map OV.d) (xs.map nmL)=r1 at *;obtain ⟨ds,ts⟩:=r1;simp only at hal;have hal2:(ts.map bs).length=ts.length:=List.length_map _
 go_wp2_with fail
 refine (HTO.o w1 HB.o).mono ?_;rintro e w2 ⟨A2,c2,os2,rfl,hd2,own2,b2⟩;have HO2:=h_ own2;have HD2:=h_ hd2;have HA2:=h_ (args_of hd2 HSUM.o HZ.o own2);replace HB:=c_ HB b2;clear b2;clear hd2 own2
 go_wp2_with fail
 refine (HTS.o w2 HB.o).mono ?_;rintro e w3 ⟨B3,c3,rfl,row3,b3⟩;have HS3:=h_ row3;replace HB:=c_ HB b3;replace HO2:=h_ (HO2.o.call b3);clear b3;clear row3
 go_wp2_with fail
 refine (HSC.o A2 os2 c2 B3 c3 w3 HO2.o.rd HA2.o HS3.o.rd (HE.o.below HB.o) HD2.o).mono ?_;rintro e w4 ⟨AW,cw,ws,BW,dw,rfl,hdw,ownw,roww,b4⟩;have HW:=h_ ownw;have HWT:=h_ roww;have HDW:=h_ hdw;have HWB:=h_ (fun k hk=>(ownw.lt k hk).2);have HWTB:=h_ (fun k hk=>(roww.lt k hk).2);replace HB:=c_ HB b4;clear b4;clear hdw ownw roww HO2 HA2 HD2 HS3;have hw4:=HB.o.size;simp only at *;generalize hts:ts.map bs=tx at *
 go_wp2_with fail
 refine (HTO.o w4 HB.o).mono ?_;rintro e w5 ⟨AX,cx,xo,rfl,hd5,own5,b5⟩;have HX:=h_ own5;have HXB:=h_ own5.lt;have HDX:=h_ hd5;have HAX:=h_ (args_of hd5 HSUM.o HZ.o own5);have hw45:=b5.size;replace HB:=c_ HB b5;replace HW:=h_ (HW.o.call b5);replace HWT:=h_ (HWT.o.call b5);clear b5;clear hd5 own5;have hw5:=HB.o.size
 go_wp2_with fail
 refine (HTS.o w5 HB.o).mono ?_;rintro e w6 ⟨BX,dx,rfl,row6,b6⟩;have HXT:=h_ row6;have HXTB:=h_ row6.lt;have hw56:=b6.size;replace HB:=c_ HB b6;replace HW:=h_ (HW.o.call b6);replace HWT:=h_ (HWT.o.call b6);replace HX:=h_ (HX.o.call b6);clear b6;clear row6;have hw6:=HB.o.size
 go_wp2_with fail
 refine (HIC.o AX xo cx BX dx w6 HX.o.rd HAX.o HXT.o.rd (HE.o.below HB.o) HDX.o).mono ?_;rintro e w7 ⟨AG,cg,gs,BG,dg,rfl,hdg,owng,rowg,b7⟩;have HG:=h_ owng;have HGT:=h_ rowg;have HGB:=h_ owng.lt;have HGTB:=h_ rowg.lt;have HDG:=h_ hdg;replace HB:=c_ HB b7;replace HW:=h_ (HW.o.call b7);replace HWT:=h_ (HWT.o.call b7);replace HX:=h_ (HX.o.call b7);replace HXT:=h_ (HXT.o.call b7);clear b7;clear hdg owng rowg;simp only at *;rw [hts] at HGT;have hgv:=valid_lims (os:=gs) (by rw [HDG.o]; exact HOK.o);have HGL:=h_ hgv.2.1;have HGY:=h_ hgv.2.2.1;obtain ⟨hg4,_,_,hgw⟩:=hgv;have HEQ:=h_ (show ∀ W,OwnOs W w6.heap.size AG cg gs->OwnOs W w3.heap.size AW cw ws->Calls Tryz.prog 26 #[.slice AG gs.length cg,.slice AW ws.length cw] W (Ret (.bool true) W) from fun W h1 h2=>eqObjectS_same AG AW gs ws cg cw W h1.rd h2.rd (by rw [HDG.o,HDW.o]) (by unfold maxLen; omega) HGL.o)
 have HES:=h_ (show ∀ W (B:Option Addr) (b d:Nat),Row W b 9 1 B ts.length d (nmC tx)->Row W w3.heap.size 9 1 BW ts.length dw (nmC tx)->Calls Tryz.prog 31 #[.slice B ts.length d,.slice BW ts.length dw] W (Ret (.bool true) W) from fun W B b d h1 h2=>by
  rw [<-hal2]
  exact eqStringS_same B BW tx d dw W h1.rd h2.rd (by omega))
 have HTX:=h_ hts;clear hts;generalize htn:ts.length=tn at *;have HTN:=h_ htn;clear htn
 go_wp2_with fail
 refine (HEQ.o w7 HG.o HW.o).mono ?_;rintro e w8 ⟨rfl,b8⟩;replace HB:=c_ HB b8;replace HW:=h_ (HW.o.call b8);replace HWT:=h_ (HWT.o.call b8);replace HX:=h_ (HX.o.call b8);replace HXT:=h_ (HXT.o.call b8);replace HG:=h_ (HG.o.call b8);replace HGT:=h_ (HGT.o.call b8);clear b8
 go_wp2_with fail
 refine (HES.o w8 BG _ dg HGT.o HWT.o).mono ?_;rintro e w9 ⟨rfl,b9⟩;replace HB:=c_ HB b9;replace HW:=h_ (HW.o.call b9);replace HWT:=h_ (HWT.o.call b9);replace HX:=h_ (HX.o.call b9);replace HXT:=h_ (HXT.o.call b9);replace HG:=h_ (HG.o.call b9);replace HGT:=h_ (HGT.o.call b9);clear b9
 go_wp2_with fail
 refine (HTO.o w9 HB.o).mono ?_;rintro e w10 ⟨AY,cy,ys,rfl,hd10,own10,b10⟩;have HY:=h_ (And.intro hd10 own10);replace HB:=c_ HB b10;replace HW:=h_ (HW.o.call b10);replace HWT:=h_ (HWT.o.call b10);replace HX:=h_ (HX.o.call b10);replace HXT:=h_ (HXT.o.call b10);replace HG:=h_ (HG.o.call b10);replace HGT:=h_ (HGT.o.call b10);clear b10;clear hd10 own10
 go_wp2_with fail
 refine (eqObjectS_same AX AY xo ys cx cy w10 HX.o.rd HY.o.2.rd (by rw [HDX.o,HY.o.1]) (by have h:=HAX.o.k; unfold maxLen; omega) HAX.o.m).mono ?_;rintro e w11 ⟨rfl,b11⟩;replace HB:=c_ HB b11;replace HW:=h_ (HW.o.call b11);replace HWT:=h_ (HWT.o.call b11);replace HX:=h_ (HX.o.call b11);replace HXT:=h_ (HXT.o.call b11);replace HG:=h_ (HG.o.call b11);replace HGT:=h_ (HGT.o.call b11);clear b11;clear HY
 go_wp2_with fail
 refine (HTS.o w11 HB.o).mono ?_;rintro e w12 ⟨BY,dy,rfl,row12,b12⟩;have HY:=h_ row12;replace HB:=c_ HB b12;replace HW:=h_ (HW.o.call b12);replace HWT:=h_ (HWT.o.call b12);replace HX:=h_ (HX.o.call b12);replace HXT:=h_ (HXT.o.call b12);replace HG:=h_ (HG.o.call b12);replace HGT:=h_ (HGT.o.call b12);clear b12;clear row12
 go_wp2_with fail
 refine (eqStringS_same BX BY xs dx dy w12 HXT.o.rd HY.o.rd (by omega)).mono ?_;rintro e w13 ⟨rfl,b13⟩;replace HB:=c_ HB b13;replace HW:=h_ (HW.o.call b13);replace HWT:=h_ (HWT.o.call b13);replace HX:=h_ (HX.o.call b13);replace HXT:=h_ (HXT.o.call b13);replace HG:=h_ (HG.o.call b13);replace HGT:=h_ (HGT.o.call b13);clear b13;clear HY
 go_wp2_with fail
 have hwd:=wdL_nonneg xo
 have hwl:wdL xo<=4194304:=by
  have h1:=wdL_le xo;have h2:=HSUM.o;rw [HDX.o] at h1;unfold sizL at h2;rw [List.length_map] at h2
  have h3:xo.length=os.length:=by simpa using congrArg List.length HDX.o
  rw [h3] at h1;omega
 refine (markObjectS_any w4.heap.size AX cx xo 1 w13 (by omega) (by omega) HAX.o.k (fun o ho=>Nat.le_trans (HAX.o.l.f o ho).ny (by omega)) HX.o).mono ?_;rintro e w14 ⟨rfl,_,g14⟩;have HW1:=h_ (HW.o.gp g14 (fun k hk hl=>by have h1:=HWB.o k hk; have h2:=(HXB.o k hl).1; omega));have HWT1:=h_ (g14.row HWT.o (fun k hk hl=>by have h1:=HWTB.o k hk; have h2:=(HXB.o k hl).1; omega));have HXT1:=h_ (g14.row HXT.o (fun k hk hl=>by have h1:=(HXTB.o k hk).1; have h2:=(HXB.o k hl).2; omega));have HG1:=h_ (HG.o.gp g14 (fun k hk hl=>by have h1:=(HGB.o k hk).1; have h2:=(HXB.o k hl).2; omega));have HGT1:=h_ (g14.row HGT.o (fun k hk hl=>by have h1:=(HGTB.o k hk).1; have h2:=(HXB.o k hl).2; omega));have HB1:=h_ (g14.below HB.o HB.o.size (fun k hk=>Nat.le_trans hw4 (HXB.o k hk).1));clear g14 HX HW HWT HXT HG HGT HB HXB HAX;generalize hkk:1+wdL xo=kk at *
 have hk0:0<=kk:=by omega
 have hk1:kk<=4294967296:=by omega
 clear hkk hwd hwl
 go_wp2_with fail
 refine (tmarkR_any w5.heap.size BX dx xs.length _ kk w14 hk0 hk1 (by omega) HXT1.o).mono ?_;rintro e w15 ⟨rfl,_,g15⟩;have HW:=h_ (HW1.o.gp g15 (fun k hk hl=>by have h1:=HWB.o k hk; have h2:=(HXTB.o k hl).1; omega));have HWT:=h_ (g15.row HWT1.o (fun k hk hl=>by have h1:=HWTB.o k hk; have h2:=(HXTB.o k hl).1; omega));have HG:=h_ (HG1.o.gp g15 (fun k hk hl=>by have h1:=(HGB.o k hk).1; have h2:=(HXTB.o k hl).2; omega));have HGT:=h_ (g15.row HGT1.o (fun k hk hl=>by have h1:=(HGTB.o k hk).1; have h2:=(HXTB.o k hl).2; omega));have HB:=h_ (g15.below HB1.o HB1.o.size (fun k hk=>Nat.le_trans hw5 (HXTB.o k hk).1));clear g15 HW1 HWT1 HXT1 HG1 HGT1 HB1 HXTB;generalize hqq:kk+(xs.length:Int)=qq at *
 have hq0:0<=qq:=by omega
 clear hqq hk0 hk1;have hd:decide (qq<0)=false:=decide_eq_false (by omega)
 go_wp2_with fail
 refine (HEQ.o w15 HG.o HW.o).mono ?_;rintro e w16 ⟨rfl,b16⟩;replace HB:=c_ HB b16;replace HW:=h_ (HW.o.call b16);replace HWT:=h_ (HWT.o.call b16);replace HG:=h_ (HG.o.call b16);replace HGT:=h_ (HGT.o.call b16);clear b16
 go_wp2_with fail
 refine (HES.o w16 BG _ dg HGT.o HWT.o).mono ?_;rintro e w17 ⟨rfl,b17⟩;replace HB:=c_ HB b17;replace HW:=h_ (HW.o.call b17);replace HWT:=h_ (HWT.o.call b17);replace HG:=h_ (HG.o.call b17);replace HGT:=h_ (HGT.o.call b17);clear b17;clear hd hq0
 go_wp2_with fail
 have hwd:=wdL_nonneg gs;have HAP:=h_ (own_apT HG.o HGT.o);refine (markObjectS_any w6.heap.size AG cg gs 1 w17 (by omega) (by omega) (by omega) (fun o ho=>by have:=(HGY.o o ho).2; omega) HG.o).mono ?_;rintro e w18 ⟨rfl,hmk,g18⟩;have HM1:=h_ hmk;have HW1:=h_ (HW.o.gp g18 (fun k hk hl=>by have h1:=HWB.o k hk; have h2:=(HGB.o k hl).1; omega));have HWT1:=h_ (g18.row HWT.o (fun k hk hl=>by have h1:=HWTB.o k hk; have h2:=(HGB.o k hl).1; omega));have HGT1:=h_ (g18.row HGT.o (fun k hk hl=>HAP.o k hl hk));have HB1:=h_ (g18.below HB.o HB.o.size (fun k hk=>Nat.le_trans hw6 (HGB.o k hk).1));clear g18 hmk HW HWT HG HGT HB;have HHE:=h_ (show ∀ W,OwnOs W w6.heap.size AG cg (mOs 1 gs)->Calls Tryz.prog 28 #[.slice AG gs.length cg,.int .i64 1] W (Ret (.int .i64 (1+wdL gs)) W) from fun W h=>heldObjectS_any AG cg gs 1 W (by omega) (by omega) (by omega) (fun o ho=>by have:=HGY.o o ho; omega) h.rd);generalize hkk:1+wdL gs=kk at *
 have hk0:0<=kk:=by omega
 have hk1:kk<=4294967296:=by omega
 clear hkk hwd hgw;have hd:decide (kk<0)=false:=decide_eq_false (by omega)
 go_wp2_with fail
 refine (tmarkR_any w6.heap.size BG dg tn _ kk w18 hk0 hk1 (by omega) HGT1.o).mono ?_;rintro e w19 ⟨rfl,hmk,g19⟩;have HMT:=h_ hmk;have HM:=h_ (HM1.o.gp g19 (fun k hk hl=>HAP.o k (lblk_mOs hk) hl));have HW:=h_ (HW1.o.gp g19 (fun k hk hl=>by have h1:=HWB.o k hk; have h2:=(HGTB.o k hl).1; omega));have HWT:=h_ (g19.row HWT1.o (fun k hk hl=>by have h1:=HWTB.o k hk; have h2:=(HGTB.o k hl).1; omega));have HB:=h_ (g19.below HB1.o HB1.o.size (fun k hk=>Nat.le_trans hw6 (HGTB.o k hk).1));clear g19 hmk HW1 HWT1 HM1 HGT1 HB1;have HHT:=h_ (show ∀ W,Row W w6.heap.size 9 1 BG tn dg (nmC (tmarks kk tn))->Calls Tryz.prog 33 #[.slice BG tn dg,.int .i64 kk] W (Ret (.int .i64 (kk+tn)) W) from fun W h=>theld_any BG dg tn kk W hk0 hk1 (by omega) h.rd);generalize hqq:kk+(tn:Int)=qq at *
 have hq0:0<=qq:=by omega
 have hd2:decide (qq<0)=false:=decide_eq_false (by omega);clear hqq hk0 hk1
 go_wp2_with fail
 refine (HHE.o w19 HM.o).mono ?_;rintro e w20 ⟨rfl,b20⟩;replace HB:=c_ HB b20;replace HW:=h_ (HW.o.call b20);replace HWT:=h_ (HWT.o.call b20);replace HM:=h_ (HM.o.call b20);replace HMT:=h_ (HMT.o.call b20);clear b20
 go_wp2_with fail
 refine (HHT.o w20 HMT.o).mono ?_;rintro e w21 ⟨rfl,b21⟩;replace HB:=c_ HB b21;replace HW:=h_ (HW.o.call b21);replace HWT:=h_ (HWT.o.call b21);replace HM:=h_ (HM.o.call b21);replace HMT:=h_ (HMT.o.call b21);clear b21
 go_wp2_with fail
 refine (HTO.o w21 HB.o).mono ?_;rintro e w22 ⟨AZ,cz,zs,rfl,hd22,own22,b22⟩;have HA22:=h_ (args_of hd22 HSUM.o HZ.o own22);have HO22:=h_ own22;have HD22:=h_ hd22;replace HB:=c_ HB b22;replace HW:=h_ (HW.o.call b22);replace HWT:=h_ (HWT.o.call b22);replace HM:=h_ (HM.o.call b22);replace HMT:=h_ (HMT.o.call b22);clear b22;clear hd22 own22
 go_wp2_with fail
 refine (HTS.o w22 HB.o).mono ?_;rintro e w23 ⟨BZ,dz,rfl,row23,b23⟩;have HS23:=h_ row23;replace HB:=c_ HB b23;replace HW:=h_ (HW.o.call b23);replace HWT:=h_ (HWT.o.call b23);replace HM:=h_ (HM.o.call b23);replace HMT:=h_ (HMT.o.call b23);replace HO22:=h_ (HO22.o.call b23);clear b23;clear row23
 go_wp2_with fail
 refine (HIC.o AZ zs cz BZ dz w23 HO22.o.rd HA22.o HS23.o.rd (HE.o.below HB.o) HD22.o).mono ?_;rintro e w24 ⟨AH,ch,hs,BH,dh,rfl,hdh,ownh,rowh,b24⟩;simp only [HTX.o,HTN.o] at rowh ⊢;have HH:=h_ ownh;have HHTT:=h_ rowh;have HDH:=h_ hdh;replace HB:=c_ HB b24;replace HW:=h_ (HW.o.call b24);replace HWT:=h_ (HWT.o.call b24);replace HM:=h_ (HM.o.call b24);replace HMT:=h_ (HMT.o.call b24);clear b24;clear hdh ownh rowh HO22 HA22 HD22 HS23;have hhv:=valid_lims (os:=hs) (by rw [HDH.o]; exact HOK.o);have HHL:=h_ hhv.2.1;have hh4:=hhv.1;clear hhv
 go_wp2_with fail
 refine (eqObjectS_same AH AW hs ws ch cw w24 HH.o.rd HW.o.rd (by rw [HDH.o,HDW.o]) (by unfold maxLen; omega) HHL.o).mono ?_;rintro e w25 ⟨rfl,b25⟩;replace HB:=c_ HB b25;replace HWT:=h_ (HWT.o.call b25);replace HM:=h_ (HM.o.call b25);replace HMT:=h_ (HMT.o.call b25);replace HHTT:=h_ (HHTT.o.call b25);clear b25;clear HH HW
 go_wp2_with fail
 refine (HES.o w25 BH _ dh HHTT.o HWT.o).mono ?_;rintro e w26 ⟨rfl,b26⟩;replace HB:=c_ HB b26;replace HM:=h_ (HM.o.call b26);replace HMT:=h_ (HMT.o.call b26);clear b26;clear HHTT HWT
 go_wp2_with fail
 refine (HHE.o w26 HM.o).mono ?_;rintro e w27 ⟨rfl,b27⟩;replace HB:=c_ HB b27;replace HMT:=h_ (HMT.o.call b27);clear b27
 go_wp2_with fail
 refine (HHT.o w27 HMT.o).mono ?_;rintro e w28 ⟨rfl,b28⟩;replace HB:=c_ HB b28;clear b28
 go_wp2_with fail
 go_ret;exact ⟨rfl,HB.o⟩
end WFnExactDeskRun
/- What comes in: objects. -/
namespace In
open Kit PObj BObj CFixups CSymbols
theorem trd_slice {α:Type} {f:α->List Value} {p:α->Prop} {P:Program} {w:World} {t e:TypeId} {cs:List Value} (ht:P.underlying t=some (.slice e)) (hrow:∀ cs,cs.length=P.cellsOf e->Trd P w e cs->∃ x,cs=f x/\p x) (h:Trd P w t cs):
  ∃ (A:Option Addr) (xs:List α) (c:Nat),cs=[.slice A xs.length c]/\xs.length<=c/\c<=maxLen/\(∀ x ∈ xs,p x)/\Rd w w.heap.size A (cellsOf f xs):=by
 obtain ⟨A,n,c,rows,rfl,h1,h2,h3,h4,h5⟩:=h.slice ht;obtain ⟨xs,rfl,hx⟩:=rows_of (f:=f) (p:=p) fun r hr=>hrow r (h4 r hr).1 (h4 r hr).2;simp only [List.length_map] at h3;subst h3;refine ⟨_,xs,_,rfl,h1,h2,hx,?_⟩
 simpa [cellsOf,List.flatMap] using h5
theorem fixup_in {w:World} {cs:List Value} (hl:cs.length=Tryz.prog.cellsOf 224) (h:Trd Tryz.prog w 224 cs):∃ z:FD,cs=fixupC z/\True:=by
 rw [show Tryz.prog.cellsOf 224=4 by kernel_rfl] at hl;obtain ⟨_,hf⟩:=Trd.fields Tryz.underlying224 (by kernel_rfl) h
 match cs,hl with
 | [u0,u1,u2,u3],_=>
  obtain ⟨a,e0,_⟩:=(hf 0 _ rfl _ rfl).int Tryz.underlying3;obtain ⟨b,e1,_⟩:=(hf 1 _ rfl _ rfl).int Tryz.underlying3;obtain ⟨c,e2,_⟩:=(hf 2 _ rfl _ rfl).int Tryz.underlying3;obtain ⟨d,e3,_⟩:=(hf 3 _ rfl _ rfl).int Tryz.underlying3;simp at e0 e1 e2 e3;exact ⟨(a,b,c,d),by rw [e0,e1,e2,e3]; rfl,trivial⟩
theorem symbol_in {w:World} {cs:List Value} (hl:cs.length=Tryz.prog.cellsOf 177) (h:Trd Tryz.prog w 177 cs):∃ z:YD,cs=symbolC z/\z.1.size<=maxLen:=by
 rw [show Tryz.prog.cellsOf 177=4 by kernel_rfl] at hl;obtain ⟨_,hf⟩:=Trd.fields Tryz.underlying177 (by kernel_rfl) h
 match cs,hl with
 | [u0,u1,u2,u3],_=>
  obtain ⟨a,e0,h0⟩:=(hf 0 _ rfl _ rfl).str Tryz.underlying9;obtain ⟨b,e1,_⟩:=(hf 1 _ rfl _ rfl).int Tryz.underlying3;obtain ⟨c,e2,_⟩:=(hf 2 _ rfl _ rfl).int Tryz.underlying3;obtain ⟨d,e3,_⟩:=(hf 3 _ rfl _ rfl).int Tryz.underlying3;simp at e0 e1 e2 e3;exact ⟨(a,b,c,d),by rw [e0,e1,e2,e3]; rfl,h0⟩
end In
/- What comes in: objects,with what their bytes are within. -/
namespace In
open Kit PObj BObj CFixups CSymbols
theorem byte_wf {x:Int} (h:(Lit.int .u8 x).wf=true):0<=x/\x<=255:=by
 simpa [Lit.wf,IntKind.min,IntKind.max,IntKind.signed,IntKind.bits] using h
def okS4 (w:World) (p:SV):Prop:=p.nm.size<=maxLen/\p.zs.length<=maxLen/\p.fs.length<=maxLen/\RdS w w.heap.size p/\InR 0 255 p.zs
theorem section_in4 {w:World} {cs:List Value} (hl:cs.length=Tryz.prog.cellsOf 175) (h:Trd Tryz.prog w 175 cs):∃ p:SV,cs=secC p/\okS4 w p:=by
 rw [show Tryz.prog.cellsOf 175=6 by kernel_rfl] at hl;obtain ⟨_,hf⟩:=Trd.fields Tryz.underlying175 (by kernel_rfl) h
 match cs,hl with
 | [u0,u1,u2,u3,u4,u5],_=>
  obtain ⟨nm,e0,h0⟩:=(hf 0 _ rfl _ rfl).str Tryz.underlying9;obtain ⟨kd,e1,_⟩:=(hf 1 _ rfl _ rfl).int Tryz.underlying3;obtain ⟨al,e2,_⟩:=(hf 2 _ rfl _ rfl).int Tryz.underlying3;obtain ⟨A,zs,c,e3,l3,c3,r3,z3⟩:=(hf 3 _ rfl _ rfl).ints Tryz.underlying22 Tryz.underlying5;obtain ⟨sz,e4,_⟩:=(hf 4 _ rfl _ rfl).int Tryz.underlying3;obtain ⟨F,fs,fc,e5,l5,c5,_,r5⟩:=trd_slice Tryz.underlying173 (fun cs hl h=>fixup_in hl h) (hf 5 _ rfl _ rfl);simp at e0 e1 e2 e3 e4 e5;exact ⟨⟨nm,kd,al,A,c,zs,sz,F,fc,fs⟩,by rw [e0,e1,e2,e3,e4,e5]; rfl,h0,Nat.le_trans l3 c3,Nat.le_trans l5 c5,⟨r3,r5⟩,fun x hx=>byte_wf (z3 x hx)⟩
end In
/- What comes in: lists of objects,with what their bytes are within; rows of texts. -/
namespace In
open Kit PObj BObj CFixups CSymbols BList
theorem objc_in6 {w:World} {cs:List Value} (hl:cs.length=Tryz.prog.cellsOf 108) (h:Trd Tryz.prog w 108 cs):∃ o:OV,cs=objC o/\(RdO w w.heap.size o/\CObjL.InO o/\∀ p ∈ o.ps,InR 0 255 p.zs):=by
 rw [show Tryz.prog.cellsOf 108=2 by kernel_rfl] at hl;obtain ⟨_,hf⟩:=Trd.fields Tryz.underlying108 (by kernel_rfl) h
 match cs,hl with
 | [u0,u1],_=>
  obtain ⟨A,qs,c,e0,l0,c0,k0,r0⟩:=trd_slice Tryz.underlying105 (fun cs hl h=>section_in4 hl h) (hf 0 _ rfl _ rfl);obtain ⟨Y,ys,yc,e1,l1,c1,k1,r1⟩:=trd_slice Tryz.underlying106 (fun cs hl h=>symbol_in hl h) (hf 1 _ rfl _ rfl);simp at e0 e1;subst e0 e1;exact ⟨⟨A,c,qs,Y,yc,ys⟩,rfl,⟨⟨r0,fun p hp=>(k0 p hp).2.2.2.1⟩,r1⟩,⟨Nat.le_trans l0 c0,Nat.le_trans l1 c1,fun p hp=>⟨(k0 p hp).1,(k0 p hp).2.1,(k0 p hp).2.2.1⟩,k1⟩,fun p hp=>(k0 p hp).2.2.2.2⟩
def strC (z:ByteArray):List Value:=[.string z]
theorem nm_rd {w:World} {B:Nat} {A:Option Addr} {zs:List ByteArray} (h:Rd w B A (cellsOf strC zs)):Rd w B A (CSorted.nmC zs):=by
 have e:cellsOf strC zs=CSorted.nmC zs:=by
  clear h;unfold cellsOf CSorted.nmC
  induction zs with
  | nil=>rfl
  | cons z zs ih=>
   rw [List.flatMap_cons,ih]
   rfl
 rwa [<-e]
theorem text_in {w:World} {cs:List Value} (hl:cs.length=Tryz.prog.cellsOf 9) (h:Trd Tryz.prog w 9 cs):∃ z:ByteArray,cs=strC z/\z.size<=maxLen:=by
 obtain ⟨nm,e0,h0⟩:=h.str Tryz.underlying9;exact ⟨nm,e0,h0⟩
end In
end Go.Proofs.YtepoiphmmjfbdaaGreatDoor
