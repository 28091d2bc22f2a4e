/- DumpObject: the lines of an object; the reference's. -/
import Derived.Test.YtepoiphmmjfbdaaGreatDoorFnExactDeskRunM11
set_option linter.unusedSimpArgs false
set_option linter.unusedVariables false
set_option maxRecDepth 200000
open Go.ChangeShapes Go.WideShapes Go.ChangeAt Go.RowKit
namespace Go.Proofs.YtepoiphmmjfbdaaGreatDoor
namespace CDumpS
open Kit CCode CName CFixups CSymbols PObj BObj PValid PClear CSecValid CObjValid CObjValidS CNumTxt PNum PDump CHexI CHexS CHexS CSorted CNames CWordsS BStore CLineI CDumpI
theorem num_of (n:Int) (h:Num n):∃ N:ByteArray,N=bs (Lib.itoa n)/\N.size<=21/\∀ V,Calls Tryz.prog 40 #[.int .i64 n] V (Ret (.string N) V):=by
 unfold Num at h;refine ⟨_,rfl,?_,fun V=>l8Number_any n V (by omega) (by omega)⟩;rw [bs_size];exact Lib.itoa_length_le n (by omega) (by omega)
theorem sp_bs (a:List UInt8):bs (32 :: a)=(⟨#[32]⟩:ByteArray)++bs a:=by
 rw [show (⟨#[32]⟩:ByteArray)=bs [32] from rfl,bs_app]
 rfl
theorem cat (a b c:ByteArray):a++(b++c)=a++b++c:=(ByteArray.append_assoc).symm
theorem secText {s:ByteArray} {a b c:Int} {A B C:ByteArray} (hn:nameOk s=true) (hA:A=bs (Lib.itoa a)) (hB:B=bs (Lib.itoa b)) (hC:C=bs (Lib.itoa c)):
  bs (lineW secW (nmL s) [a,b,c])=(⟨#[115,101,99,116,105,111,110,32]⟩:ByteArray)++s++(⟨#[32]⟩:ByteArray)++A++(⟨#[32]⟩:ByteArray)++B++(⟨#[32]⟩:ByteArray)++C:=by
 have e:lineW secW (nmL s) [a,b,c]=[115,101,99,116,105,111,110,32]++(nmL s++(32 :: (Lib.itoa a++(32 :: (Lib.itoa b++(32 :: Lib.itoa c)))))):=by
  unfold lineW;rw [(nmW_ok hn).1]
  rfl
 rw [e,<- bs_app,<- bs_app,sp_bs,<- bs_app,sp_bs,<- bs_app,sp_bs,hA,hB,hC,bs_nm];simp only [cat]
 rfl
theorem symText {s:ByteArray} {a b c:Int} {A B C:ByteArray} (hn:nameOk s=true) (hA:A=bs (Lib.itoa a)) (hB:B=bs (Lib.itoa b)) (hC:C=bs (Lib.itoa c)):
  bs (lineW symW (nmL s) [a,b,c])=(⟨#[115,121,109,98,111,108,32]⟩:ByteArray)++s++(⟨#[32]⟩:ByteArray)++A++(⟨#[32]⟩:ByteArray)++B++(⟨#[32]⟩:ByteArray)++C:=by
 have e:lineW symW (nmL s) [a,b,c]=[115,121,109,98,111,108,32]++(nmL s++(32 :: (Lib.itoa a++(32 :: (Lib.itoa b++(32 :: Lib.itoa c)))))):=by
  unfold lineW;rw [(nmW_ok hn).1]
  rfl
 rw [e,<- bs_app,<- bs_app,sp_bs,<- bs_app,sp_bs,<- bs_app,sp_bs,hA,hB,hC,bs_nm];simp only [cat]
 rfl
theorem fixText {a b c d:Int} {A B C D:ByteArray} (hA:A=bs (Lib.itoa a)) (hB:B=bs (Lib.itoa b)) (hC:C=bs (Lib.itoa c)) (hD:D=bs (Lib.itoa d)):
  bs (lineF (a,b,c,d))=(⟨#[102,105,120,117,112,32]⟩:ByteArray)++A++(⟨#[32]⟩:ByteArray)++B++(⟨#[32]⟩:ByteArray)++C++(⟨#[32]⟩:ByteArray)++D:=by
 have e:lineF (a,b,c,d)=[102,105,120,117,112,32]++(Lib.itoa a++(32 :: (Lib.itoa b++(32 :: (Lib.itoa c++(32 :: Lib.itoa d)))))):=rfl;rw [e,<- bs_app,<- bs_app,sp_bs,<- bs_app,sp_bs,<- bs_app,sp_bs,hA,hB,hC,hD];simp only [cat]
 rfl
set_option maxHeartbeats 8000000 in
theorem dumpObjectS_any (o:OV) (w:World) (hr:RdO w w.heap.size o) (hf:Fit o) (hz:InD o.d):
  Calls Tryz.prog 11 #[.agg #[.slice o.A o.ps.length o.c,.slice o.Y o.ys.length o.yc]] w (RetN ((dumpL o.d).map bs) w):=by
 obtain ⟨i0,hi1,hi2,hi3,hi4⟩:=info_parts infoStr;have HI:=h_ (And.intro hi1 (And.intro hi2 (And.intro hi3 hi4)));clear hi1 hi2 hi3 hi4;have HR:=h_ hr;have HZ:=h_ hz;have HF:=h_ hf;clear hr hz hf;have B0:Below w.heap.size w ((w.alloc (.cells #[.slice o.A o.ps.length o.c,.slice o.Y o.ys.length o.yc] 26)).alloc (.cells #[] 9)):=b_;have HB:=h_ B0;have HX:=h_ ((Box.new w 26 #[.slice o.A o.ps.length o.c,.slice o.Y o.ys.length o.yc]).alloc (.cells #[] 9));have HV0:=h_ (fun (V:World) (hb:Below w.heap.size w V)=>objectValidS_any o V ((HR.o.below hb).more hb.size) HF.o);clear B0;have hps:=HF.o.np;have hys:=HF.o.ny
 go_enter Tryz.func11,Tryz.ntmps11
 go_wp2_with fail
 generalize (w.alloc (.cells #[.slice o.A o.ps.length o.c,.slice o.Y o.ys.length o.yc] 26)).alloc (.cells #[] 9)=w0 at *
 cases ho:objOk o.d

 ·have HV:=h_ (show dumpL o.d=[] from by rw [dumpL,ho]; rfl);rw [ho] at HV0;clear ho
  go_loopw [3,4] (fun s i wi=>s=.slice (some ⟨w.heap.size+1,0,none⟩) 0 0/\i=.int .i64 0/\Box wi w.heap.size 26 #[.slice o.A o.ps.length o.c,.slice o.Y o.ys.length o.yc]/\Below w.heap.size w wi) (fun _ _ _=>0)
  case atStart=>exact ⟨rfl,rfl,HX.o,HB.o⟩
  case round=>
   rename World=>wk
   clear HX HB;obtain ⟨rfl,rfl,hbox,hb⟩:=hrel;have HX:=h_ hbox;have HB:=h_ hb;clear hbox hb
   by_cases hlt:0<o.ps.length
   ·have hw0:=HX.o.lt;have x0:=d_ HX.o 0;have x1:=d_ HX.o 1;have hxl:=HX.o.lt
    go_wp2_with fail
    refine (HV0.o wk HB.o).mono ?_;rintro e w1 ⟨rfl,b1⟩;replace HB:=c_ HB b1;replace HX:=h_ (HX.o.call b1);clear b1;clear x0 x1 hxl hw0;have x0:=d_ HX.o 0;have x1:=d_ HX.o 1;have hxl:=HX.o.lt
    go_wp2_with fail
    clear x0 x1 hxl
    go_loopw [3,9] (fun s i wi=>s=.slice (some ⟨w.heap.size+1,0,none⟩) 0 0/\i=.int .i64 0/\Box wi w.heap.size 26 #[.slice o.A o.ps.length o.c,.slice o.Y o.ys.length o.yc]/\Below w.heap.size w wi) (fun _ _ _=>0)
    case atStart=>exact ⟨rfl,rfl,HX.o,HB.o⟩
    case round=>
     rename World=>wi
     clear HX HB;obtain ⟨rfl,rfl,hbox,hb⟩:=hrel;have HX:=h_ hbox;have HB:=h_ hb;clear hbox hb;have x0:=d_ HX.o 0;have x1:=d_ HX.o 1;have hxl:=HX.o.lt
     by_cases hly:0<o.ys.length
     ·go_wp2_with fail
      refine (HV0.o wi HB.o).mono ?_;rintro e w2 ⟨rfl,b2⟩;replace HB:=c_ HB b2;replace HX:=h_ (HX.o.call b2);clear b2;clear x0 x1 hxl
      go_wp2_with fail
      go_ret;rw [HV.o];exact ⟨some ⟨w.heap.size+1,0,none⟩,0,by rfl,Row.empty _ _ _ _ _,HB.o⟩
     ·go_wp2_with fail
      go_ret;rw [HV.o];exact ⟨some ⟨w.heap.size+1,0,none⟩,0,by rfl,Row.empty _ _ _ _ _,HB.o⟩
   ·have hw0:=HX.o.lt;have x0:=d_ HX.o 0;have x1:=d_ HX.o 1;have hxl:=HX.o.lt
    go_wp2_with fail
    clear x0 x1 hxl hw0
    go_loopw [3,9] (fun s i wi=>s=.slice (some ⟨w.heap.size+1,0,none⟩) 0 0/\i=.int .i64 0/\Box wi w.heap.size 26 #[.slice o.A o.ps.length o.c,.slice o.Y o.ys.length o.yc]/\Below w.heap.size w wi) (fun _ _ _=>0)
    case atStart=>exact ⟨rfl,rfl,HX.o,HB.o⟩
    case round=>
     rename World=>wi
     clear HX HB;obtain ⟨rfl,rfl,hbox,hb⟩:=hrel;have HX:=h_ hbox;have HB:=h_ hb;clear hbox hb;have x0:=d_ HX.o 0;have x1:=d_ HX.o 1;have hxl:=HX.o.lt
     by_cases hly:0<o.ys.length
     ·go_wp2_with fail
      refine (HV0.o wi HB.o).mono ?_;rintro e w2 ⟨rfl,b2⟩;replace HB:=c_ HB b2;replace HX:=h_ (HX.o.call b2);clear b2;clear x0 x1 hxl
      go_wp2_with fail
      go_ret;rw [HV.o];exact ⟨some ⟨w.heap.size+1,0,none⟩,0,by rfl,Row.empty _ _ _ _ _,HB.o⟩
     ·go_wp2_with fail
      go_ret;rw [HV.o];exact ⟨some ⟨w.heap.size+1,0,none⟩,0,by rfl,Row.empty _ _ _ _ _,HB.o⟩
 have HV:=h_ (dump_ok ho);have HG:=h_ (good_O ho HZ.o);have HALL:=h_ (obj_all ho);rw [ho] at HV0;clear hps hys
 have hps:o.ps.length<=8:=by have:=HALL.o.1; simpa [OV.d] using this
 have hys:o.ys.length<=12:=HALL.o.2.1;clear ho
 go_loopw [3,4] (fun s i wi=>∃ (k:Nat) (A1:Option Addr) (c1:Nat) (ls:List (List UInt8)),k<=o.ps.length/\s=.slice A1 ls.length c1/\i=.int .i64 k/\ls=linesSs ((o.ps.take k).map SV.d)/\ls.length<=7*k/\Row wi w.heap.size 9 1 A1 ls.length c1 (nmC (ls.map bs))/\Box wi w.heap.size 26 #[.slice o.A o.ps.length o.c,.slice o.Y o.ys.length o.yc]/\Below w.heap.size w wi) (fun _ i _=>o.ps.length - (intOf i).toNat)
 case atStart=>exact ⟨0,_,0,[],Nat.zero_le _,rfl,rfl,rfl,Nat.le_refl _,Row.empty _ _ _ _ _,HX.o,HB.o⟩
 case round=>
  rename World=>wk
  clear HX HB;obtain ⟨k,A1,c1,ls,hk,rfl,rfl,hls,hll,hrow,hbox,hb⟩:=hrel;have HLS:=h_ hls;have HW:=h_ hrow;have HX:=h_ hbox;have HB:=h_ hb;clear hls hrow hbox hb;have x0:=d_ HX.o 0;have x1:=d_ HX.o 1;have hxl:=HX.o.lt
  by_cases hlt:k<o.ps.length
  ·go_wp2_with fail
   refine (HV0.o wk HB.o).mono ?_;rintro e w1 ⟨rfl,b1⟩;clear x0 x1 hxl;replace HB:=c_ HB b1;replace HX:=h_ (HX.o.call b1);replace HW:=h_ (HW.o.call b1);clear b1;have x0:=d_ HX.o 0;have x1:=d_ HX.o 1;have hxl:=HX.o.lt;obtain ⟨b,off,hA,hbb,hc⟩:=(HR.o.1.1.below HB.o).row secC_len (by decide) hlt;have hc0:=hc 0 _ rfl;have hc1:=hc 1 _ rfl;have hc2:=hc 2 _ rfl;have hc3:=hc 3 _ rfl;have hc4:=hc 4 _ rfl;have hc5:=hc 5 _ rfl;simp only [Nat.add_zero] at hc0;have HSN:=h_ (linesSs_snoc hlt);have HGS:=h_ (HG.o.1 (o.ps[k]).d (List.mem_map_of_mem (List.getElem_mem hlt)));have HIZ:=h_ (HZ.o (o.ps[k]).d (List.mem_map_of_mem (List.getElem_mem hlt)));have HAL:=h_ (HALL.o.2.2 (o.ps[k]).d (List.mem_map_of_mem (List.getElem_mem hlt)));have HRS:=h_ (HR.o.1.2 _ (List.getElem_mem hlt));have HA:=h_ hA;rw [hA] at x0;clear hc hA;generalize o.ps[k]=p at *;have hzl:p.zs.length<=48:=HAL.o.2.1;have hfl:p.fs.length<=6:=HAL.o.1;have B1:Below w1.heap.size w1 (w1.alloc (.cells #[.string p.nm,.int .i64 p.kd,.int .i64 p.al,.slice p.A p.zs.length p.c,.int .i64 p.sz,.slice p.F p.fs.length p.fc] 61)):=b_;have HS:=h_ (Box.new w1 61 #[.string p.nm,.int .i64 p.kd,.int .i64 p.al,.slice p.A p.zs.length p.c,.int .i64 p.sz,.slice p.F p.fs.length p.fc]);replace HB:=c_ HB B1;replace HX:=h_ (HX.o.call B1);replace HW:=h_ (HW.o.call B1);clear B1
   go_wp2_with fail
   clear hc0 hc1 hc2 hc3 hc4 hc5 x0 x1;generalize w1.alloc (.cells #[.string p.nm,.int .i64 p.kd,.int .i64 p.al,.slice p.A p.zs.length p.c,.int .i64 p.sz,.slice p.F p.fs.length p.fc] 61)=wa at *;generalize w1.heap.size=S at *;have hN8:p.nm.size<=8:=(nmW_ok HGS.o.1.nm).2;obtain ⟨N1,hN1,q1,C1⟩:=num_of _ HGS.o.1.kd;obtain ⟨N2,hN2,q2,C2⟩:=num_of _ HGS.o.1.al;obtain ⟨N3,hN3,q3,C3⟩:=num_of _ HGS.o.1.size;have HL1:=h_ (show bs (lineW secW (nmL p.nm) [p.kd,p.al,secSize p.d])=(⟨#[115,101,99,116,105,111,110,32]⟩:ByteArray)++p.nm++(⟨#[32]⟩:ByteArray)++N1++(⟨#[32]⟩:ByteArray)++N2++(⟨#[32]⟩:ByteArray)++N3 from secText HGS.o.1.nm hN1 hN2 hN3);have HC1:=h_ C1;have HC2:=h_ C2;have HC3:=h_ C3;have HLN:=h_ (lineS_eq HGS.o.1.nm);clear hN1 hN2 hN3 C1 C2 C3
   have g1:¬ 9223372036854775807<8+p.nm.size:=by omega
   have g2:¬ 9223372036854775807<8+p.nm.size+1:=by omega
   have g3:¬ 9223372036854775807<8+p.nm.size+1+N1.size:=by omega
   have g4:¬ 9223372036854775807<8+p.nm.size+1+N1.size+1:=by omega
   have g5:¬ 9223372036854775807<8+p.nm.size+1+N1.size+1+N2.size:=by omega
   have g6:¬ 9223372036854775807<8+p.nm.size+1+N1.size+1+N2.size+1:=by omega
   have g7:¬ 9223372036854775807<8+p.nm.size+1+N1.size+1+N2.size+1+N3.size:=by omega
   have hsl:=HS.o.lt;refine Reg.startT (fun W=>W.cell? ⟨S,0,none⟩=some (.string p.nm)/\W.cell? ⟨S,1,none⟩=some (.int .i64 p.kd)/\W.cell? ⟨S,2,none⟩=some (.int .i64 p.al)/\W.cell? ⟨S,3,none⟩=some (.slice p.A p.zs.length p.c)/\W.cell? ⟨S,4,none⟩=some (.int .i64 p.sz)/\W.cell? ⟨S,5,none⟩=some (.slice p.F p.fs.length p.fc)) (fun _=>false) (by kernel_rfl) ?_;have hHeld:wa.drew.cell? ⟨S,0,none⟩=some (.string p.nm)/\wa.drew.cell? ⟨S,1,none⟩=some (.int .i64 p.kd)/\wa.drew.cell? ⟨S,2,none⟩=some (.int .i64 p.al)/\wa.drew.cell? ⟨S,3,none⟩=some (.slice p.A p.zs.length p.c)/\wa.drew.cell? ⟨S,4,none⟩=some (.int .i64 p.sz)/\wa.drew.cell? ⟨S,5,none⟩=some (.slice p.F p.fs.length p.fc):=Six.of HS.o;refine t_ 0 rfl ?_;refine t_ 1 rfl ?_;refine t_ 2 rfl ?_;refine t_ 3 rfl ?_;refine t_ 4 rfl ?_;refine t_ 5 rfl ?_;refine t_ 9 rfl ?_;refine t_ 10 rfl ?_;refine t_ 14 rfl ?_;refine Reg.oneT (i:=6) rfl (by kernel_rfl) (fun K hK=>?_)
   go_simp
   refine (HC1.o _).mono ?_;rintro e w3 ⟨rfl,bb⟩;have b3:=of_drew bb;clear bb;replace HB:=c_ HB b3;replace HX:=h_ (HX.o.call b3);replace HW:=h_ (HW.o.call b3);replace HS:=h_ (HS.o.call b3);clear b3;have hHeld:w3.cell? ⟨S,0,none⟩=some (.string p.nm)/\w3.cell? ⟨S,1,none⟩=some (.int .i64 p.kd)/\w3.cell? ⟨S,2,none⟩=some (.int .i64 p.al)/\w3.cell? ⟨S,3,none⟩=some (.slice p.A p.zs.length p.c)/\w3.cell? ⟨S,4,none⟩=some (.int .i64 p.sz)/\w3.cell? ⟨S,5,none⟩=some (.slice p.F p.fs.length p.fc):=Six.of HS.o;refine hK.out _ _ hHeld ?_;clear hK K
   try simp only [y1_,y2_,y3_,Act.put,y4_,y5_,y6_]
   refine t_ 7 rfl ?_;refine t_ 8 rfl ?_;refine Reg.oneT (i:=11) rfl (by kernel_rfl) (fun K hK=>?_)
   go_simp
   refine (HC2.o _).mono ?_;rintro e w4 ⟨rfl,bb⟩;replace HB:=c_ HB bb;replace HX:=h_ (HX.o.call bb);replace HW:=h_ (HW.o.call bb);replace HS:=h_ (HS.o.call bb);clear bb;have hHeld:w4.cell? ⟨S,0,none⟩=some (.string p.nm)/\w4.cell? ⟨S,1,none⟩=some (.int .i64 p.kd)/\w4.cell? ⟨S,2,none⟩=some (.int .i64 p.al)/\w4.cell? ⟨S,3,none⟩=some (.slice p.A p.zs.length p.c)/\w4.cell? ⟨S,4,none⟩=some (.int .i64 p.sz)/\w4.cell? ⟨S,5,none⟩=some (.slice p.F p.fs.length p.fc):=Six.of HS.o;refine hK.out _ _ hHeld ?_;clear hK K
   try simp only [y1_,y2_,y3_,Act.put,y4_,y5_,y6_]
   refine t_ 12 rfl ?_;refine t_ 13 rfl ?_;refine Reg.oneT (i:=15) rfl (by kernel_rfl) (fun K hK=>?_)
   go_simp
   refine (sectionSizeS_any p _ (by unfold maxLen; omega)).mono ?_;rintro e w5 ⟨rfl,bb⟩;replace HB:=c_ HB bb;replace HX:=h_ (HX.o.call bb);replace HW:=h_ (HW.o.call bb);replace HS:=h_ (HS.o.call bb);clear bb;have hHeld:w5.cell? ⟨S,0,none⟩=some (.string p.nm)/\w5.cell? ⟨S,1,none⟩=some (.int .i64 p.kd)/\w5.cell? ⟨S,2,none⟩=some (.int .i64 p.al)/\w5.cell? ⟨S,3,none⟩=some (.slice p.A p.zs.length p.c)/\w5.cell? ⟨S,4,none⟩=some (.int .i64 p.sz)/\w5.cell? ⟨S,5,none⟩=some (.slice p.F p.fs.length p.fc):=Six.of HS.o;refine hK.out _ _ hHeld ?_;clear hK K
   try simp only [y1_,y2_,y3_,Act.put,y4_,y5_,y6_]
   refine Reg.oneT (i:=16) rfl (by kernel_rfl) (fun K hK=>?_)
   go_simp
   refine (HC3.o _).mono ?_;rintro e w6 ⟨rfl,bb⟩;replace HB:=c_ HB bb;replace HX:=h_ (HX.o.call bb);replace HW:=h_ (HW.o.call bb);replace HS:=h_ (HS.o.call bb);clear bb;have hHeld:w6.cell? ⟨S,0,none⟩=some (.string p.nm)/\w6.cell? ⟨S,1,none⟩=some (.int .i64 p.kd)/\w6.cell? ⟨S,2,none⟩=some (.int .i64 p.al)/\w6.cell? ⟨S,3,none⟩=some (.slice p.A p.zs.length p.c)/\w6.cell? ⟨S,4,none⟩=some (.int .i64 p.sz)/\w6.cell? ⟨S,5,none⟩=some (.slice p.F p.fs.length p.fc):=Six.of HS.o;refine hK.out _ _ hHeld ?_;clear hK K
   try simp only [y1_,y2_,y3_,Act.put,y4_,y5_,y6_]
   refine t_ 17 rfl ?_;refine t_ 18 rfl ?_;clear hHeld;refine Reg.doneT (by kernel_rfl) ?_ _;clear g1 g2 g3 g4 g5 g6 g7 hsl HC1 HC2 HC3;have hls8:(⟨#[115,101,99,116,105,111,110,32]⟩:ByteArray).size=8:=rfl;have hls1:(⟨#[32]⟩:ByteArray).size=1:=rfl
   have HLZ:=h_ (show ((⟨#[115,101,99,116,105,111,110,32]⟩:ByteArray)++p.nm++(⟨#[32]⟩:ByteArray)++N1++(⟨#[32]⟩:ByteArray)++N2++(⟨#[32]⟩:ByteArray)++N3).size<=1000000 from by
    simp only [ByteArray.size_append,hls8,hls1]
    omega)
   clear hls8 hls1;generalize (⟨#[115,101,99,116,105,111,110,32]⟩:ByteArray)++p.nm++(⟨#[32]⟩:ByteArray)++N1++(⟨#[32]⟩:ByteArray)++N2++(⟨#[32]⟩:ByteArray)++N3=L1 at *;clear q1 q2 q3;have s3:=d_ HS.o 3;have hsl:=HS.o.lt
   go_upto_if 49 with (fail)
   go_cut [6] from 49 to 55 (fun v wx=>v=.string (bs (lineS p.d))/\Below w6.heap.size w6 wx)
   case first=>
    by_cases h0:p.zs.length=0
    ·have hd:decide (0<p.zs.length)=false:=decide_eq_false (by omega)
     have HQ:=h_ (show bs (lineS p.d)=L1 from by
      rw [HLN.o,if_pos (show p.d.zs.length=0 from h0)]
      exact HL1.o)
     clear h0;simp only [hd]
     go_wp2_with fail
     go_meet
     exact ⟨by rw [HQ.o],Below.refl _ _⟩
    ·have hd:decide (0<p.zs.length)=true:=decide_eq_true (by omega)
     have HQ:=h_ (show bs (lineS p.d)=L1++(⟨#[32]⟩:ByteArray)++bs (hexL p.zs) from by
      rw [HLN.o,if_neg (show ¬ p.d.zs.length=0 from h0),<- bs_app,sp_bs,<- HL1.o,cat]
      rfl)
     have HHX:=h_ (hexTextS_any p.A p.zs p.c w6 ((HRS.o.1.below HB.o).more HB.o.size) HIZ.o (by omega));have hhl:=bs_size (hexL p.zs);rw [hexL_len] at hhl;have hlz:L1.size<=1000000:=HLZ.o;clear h0;simp only [hd];generalize bs (hexL p.zs)=HXT at *
     have hq1:¬ 9223372036854775807<L1.size+1:=by omega
     have hq2:¬ 9223372036854775807<L1.size+1+HXT.size:=by omega
     go_wp2_with fail
     refine HHX.o.mono ?_;rintro e w7 ⟨rfl,b6⟩;have HB6:=h_ b6;clear b6 s3 hsl
     go_wp2_with fail
     go_meet
     exact ⟨by rw [HQ.o],HB6.o⟩
   case rest=>
    rename World=>w8
    obtain ⟨rfl,hbc⟩:=hcut;replace HB:=c_ HB hbc;replace HX:=h_ (HX.o.call hbc);replace HW:=h_ (HW.o.call hbc);replace HS:=h_ (HS.o.call hbc);clear hbc;clear s3 hsl HLZ HLN HL1
    have hls:ls.length<=56:=by omega
    have B6:Below w8.heap.size w8 (w8.alloc (.cells #[.string (bs (lineS p.d))] 9)):=b_;replace HB:=c_ HB B6;replace HX:=h_ (HX.o.call B6);replace HW:=h_ (HW.o.call B6);replace HS:=h_ (HS.o.call B6);clear B6
    go_wp2_with (at_builtin; refine wpList_app (w8.alloc (.cells #[.string (bs (lineS p.d))] 9)) rfl (.tmp 56) (.tmp 58) 28 rfl 9 i0 (.string ByteArray.empty) 1 16 Tryz.underlying28 HI.o.1 HI.o.2.1 HI.o.2.2.1 HI.o.2.2.2 rfl (by decide) w.heap.size A1 ls.length c1 (nmC (ls.map bs)) rfl HW.o HB.o.size (some ⟨w8.heap.size,0,none⟩) 1 1 [.string (bs (lineS p.d))] rfl (rd_lit w8 #[.string (bs (lineS p.d))] 9 _ rfl) rfl (fun h=>by cases h) (CDumpI.one_str _) ?n1 ?n2 ?_)
    case n1=>unfold maxLen; omega
    case n2=>omega
    intro A7 n7 c7 w7 hn7 o7 g7 k7;subst hn7;have HX7:=h_ (HX.o.grown g7 (HW.o.box HX.o (by decide)));have HS7:=h_ (HS.o.grown g7 (HW.o.box HS.o (by decide)));have HB7:=h_ (HB.o.grown g7 HB.o.size (fun j hj=>(HW.o.lt j hj).1))
    have HW7:=h_ (show Row w7 w.heap.size 9 1 A7 (ls.length+1) c7 (nmC ((ls++[lineS p.d]).map bs)) from by
     rw [nmC_snoc]
     exact o7)
    clear o7 g7 k7 HW HX HS HB
    go_wp2_with fail
    go_loopw [3,7] (fun s i wi=>∃ (j:Nat) (A2:Option Addr) (c2:Nat) (ms:List (List UInt8)),j<=p.fs.length/\s=.slice A2 ms.length c2/\i=.int .i64 j/\ms=(ls++[lineS p.d])++(p.fs.take j).map lineF/\ms.length=ls.length+1+j/\Row wi w.heap.size 9 1 A2 ms.length c2 (nmC (ms.map bs))/\Box wi w.heap.size 26 #[.slice (some ⟨b,off,none⟩) o.ps.length o.c,.slice o.Y o.ys.length o.yc]/\Box wi S 61 #[.string p.nm,.int .i64 p.kd,.int .i64 p.al,.slice p.A p.zs.length p.c,.int .i64 p.sz,.slice p.F p.fs.length p.fc]/\Below w.heap.size w wi) (fun _ i _=>p.fs.length - (intOf i).toNat)
    case atStart=>exact ⟨0,A7,c7,ls++[lineS p.d],Nat.zero_le _,by simp,rfl,by simp,by simp,by simpa using HW7.o,by rw [<-HA.o]; exact HX7.o,HS7.o,HB7.o⟩
    case round=>
     rename World=>wi
     clear HW7 HX7 HB7 HS7;obtain ⟨j,A2,c2,ms,hj,rfl,rfl,hms,hml,hrow,hbox,hbx,hb⟩:=hrel;have HMS:=h_ hms;have HML:=h_ hml
     have hml2:ms.length<=63:=by omega
     have HW:=h_ hrow;have HX:=h_ hbox;have HS:=h_ hbx;have HB:=h_ hb;clear hms hrow hbox hb hml hbx;have s5:=d_ HS.o 5;have hsl:=HS.o.lt
     by_cases hltj:j<p.fs.length
     ·obtain ⟨fb,fo,hFA,hfb,hfc⟩:=(HRS.o.2.below HB.o).row fixupC_len (by decide) hltj;have f0:=hfc 0 _ rfl;have f1:=hfc 1 _ rfl;have f2:=hfc 2 _ rfl;have f3:=hfc 3 _ rfl;simp only [Nat.add_zero] at f0;have HFS:=h_ (show (p.fs.take (j+1)).map lineF=(p.fs.take j).map lineF++[lineF p.fs[j]] from by rw [take_succ hltj,List.map_append]; rfl);have HGF:=h_ (HGS.o.2 p.fs[j] (List.getElem_mem hltj));rw [hFA] at s5;clear hfc hFA;generalize p.fs[j]=f at *;obtain ⟨f1',f2',f3',f4'⟩:=f;simp only at f0 f1 f2 f3;have BF:Below wi.heap.size wi (wi.alloc (.cells #[.int .i64 f1',.int .i64 f2',.int .i64 f3',.int .i64 f4'] 65)):=b_;have HF:=h_ (Box.new wi 65 #[.int .i64 f1',.int .i64 f2',.int .i64 f3',.int .i64 f4']);replace HB:=c_ HB BF;replace HX:=h_ (HX.o.call BF);replace HW:=h_ (HW.o.call BF);replace HS:=h_ (HS.o.call BF);clear BF
      go_wp2_with fail
      clear f0 f1 f2 f3 s5 hsl;generalize wi.alloc (.cells #[.int .i64 f1',.int .i64 f2',.int .i64 f3',.int .i64 f4'] 65)=wa at *;generalize wi.heap.size=S2 at *;obtain ⟨N1,hN1,q1,C1⟩:=num_of f1' HGF.o.1;obtain ⟨N2,hN2,q2,C2⟩:=num_of f2' HGF.o.2.1;obtain ⟨N3,hN3,q3,C3⟩:=num_of f3' HGF.o.2.2.1;obtain ⟨N4,hN4,q4,C4⟩:=num_of f4' HGF.o.2.2.2;have HTX:=h_ (fixText hN1 hN2 hN3 hN4);have HC1:=h_ C1;have HC2:=h_ C2;have HC3:=h_ C3;have HC4:=h_ C4;clear hN1 hN2 hN3 hN4 C1 C2 C3 C4
      have g1:¬ 9223372036854775807<6+N1.size:=by omega
      have g2:¬ 9223372036854775807<6+N1.size+1:=by omega
      have g3:¬ 9223372036854775807<6+N1.size+1+N2.size:=by omega
      have g4:¬ 9223372036854775807<6+N1.size+1+N2.size+1:=by omega
      have g5:¬ 9223372036854775807<6+N1.size+1+N2.size+1+N3.size:=by omega
      have g6:¬ 9223372036854775807<6+N1.size+1+N2.size+1+N3.size+1:=by omega
      have g7:¬ 9223372036854775807<6+N1.size+1+N2.size+1+N3.size+1+N4.size:=by omega
      have hsl:=HF.o.lt;refine Reg.startT (fun W=>W.cell? ⟨S2,0,none⟩=some (.int .i64 f1')/\W.cell? ⟨S2,1,none⟩=some (.int .i64 f2')/\W.cell? ⟨S2,2,none⟩=some (.int .i64 f3')/\W.cell? ⟨S2,3,none⟩=some (.int .i64 f4')) (fun _=>false) (by kernel_rfl) ?_;have hHeld:wa.drew.cell? ⟨S2,0,none⟩=some (.int .i64 f1')/\wa.drew.cell? ⟨S2,1,none⟩=some (.int .i64 f2')/\wa.drew.cell? ⟨S2,2,none⟩=some (.int .i64 f3')/\wa.drew.cell? ⟨S2,3,none⟩=some (.int .i64 f4'):=⟨HF.o.cell 0,HF.o.cell 1,HF.o.cell 2,HF.o.cell 3⟩;refine t_ 0 rfl ?_;refine t_ 1 rfl ?_;refine t_ 2 rfl ?_;refine t_ 6 rfl ?_;refine t_ 7 rfl ?_;refine t_ 11 rfl ?_;refine t_ 12 rfl ?_;refine t_ 16 rfl ?_;refine t_ 17 rfl ?_;refine Reg.oneT (i:=3) rfl (by kernel_rfl) (fun K hK=>?_)
      go_simp
      refine (HC1.o _).mono ?_;rintro e v1 ⟨rfl,bb⟩;have b3:=of_drew bb;clear bb;replace HB:=c_ HB b3;replace HX:=h_ (HX.o.call b3);replace HW:=h_ (HW.o.call b3);replace HS:=h_ (HS.o.call b3);replace HF:=h_ (HF.o.call b3);clear b3;have hHeld:v1.cell? ⟨S2,0,none⟩=some (.int .i64 f1')/\v1.cell? ⟨S2,1,none⟩=some (.int .i64 f2')/\v1.cell? ⟨S2,2,none⟩=some (.int .i64 f3')/\v1.cell? ⟨S2,3,none⟩=some (.int .i64 f4'):=⟨HF.o.cell 0,HF.o.cell 1,HF.o.cell 2,HF.o.cell 3⟩;refine hK.out _ _ hHeld ?_;clear hK K
      try simp only [y1_,y2_,y3_,Act.put,y4_,y5_,y6_]
      refine t_ 4 rfl ?_;refine t_ 5 rfl ?_;refine Reg.oneT (i:=8) rfl (by kernel_rfl) (fun K hK=>?_)
      go_simp
      refine (HC2.o _).mono ?_;rintro e v2 ⟨rfl,bb⟩;replace HB:=c_ HB bb;replace HX:=h_ (HX.o.call bb);replace HW:=h_ (HW.o.call bb);replace HS:=h_ (HS.o.call bb);replace HF:=h_ (HF.o.call bb);clear bb;have hHeld:v2.cell? ⟨S2,0,none⟩=some (.int .i64 f1')/\v2.cell? ⟨S2,1,none⟩=some (.int .i64 f2')/\v2.cell? ⟨S2,2,none⟩=some (.int .i64 f3')/\v2.cell? ⟨S2,3,none⟩=some (.int .i64 f4'):=⟨HF.o.cell 0,HF.o.cell 1,HF.o.cell 2,HF.o.cell 3⟩;refine hK.out _ _ hHeld ?_;clear hK K
      try simp only [y1_,y2_,y3_,Act.put,y4_,y5_,y6_]
      refine t_ 9 rfl ?_;refine t_ 10 rfl ?_;refine Reg.oneT (i:=13) rfl (by kernel_rfl) (fun K hK=>?_)
      go_simp
      refine (HC3.o _).mono ?_;rintro e v3 ⟨rfl,bb⟩;replace HB:=c_ HB bb;replace HX:=h_ (HX.o.call bb);replace HW:=h_ (HW.o.call bb);replace HS:=h_ (HS.o.call bb);replace HF:=h_ (HF.o.call bb);clear bb;have hHeld:v3.cell? ⟨S2,0,none⟩=some (.int .i64 f1')/\v3.cell? ⟨S2,1,none⟩=some (.int .i64 f2')/\v3.cell? ⟨S2,2,none⟩=some (.int .i64 f3')/\v3.cell? ⟨S2,3,none⟩=some (.int .i64 f4'):=⟨HF.o.cell 0,HF.o.cell 1,HF.o.cell 2,HF.o.cell 3⟩;refine hK.out _ _ hHeld ?_;clear hK K
      try simp only [y1_,y2_,y3_,Act.put,y4_,y5_,y6_]
      refine t_ 14 rfl ?_;refine t_ 15 rfl ?_;refine Reg.oneT (i:=18) rfl (by kernel_rfl) (fun K hK=>?_)
      go_simp
      refine (HC4.o _).mono ?_;rintro e v4 ⟨rfl,bb⟩;replace HB:=c_ HB bb;replace HX:=h_ (HX.o.call bb);replace HW:=h_ (HW.o.call bb);replace HS:=h_ (HS.o.call bb);replace HF:=h_ (HF.o.call bb);clear bb;have hHeld:v4.cell? ⟨S2,0,none⟩=some (.int .i64 f1')/\v4.cell? ⟨S2,1,none⟩=some (.int .i64 f2')/\v4.cell? ⟨S2,2,none⟩=some (.int .i64 f3')/\v4.cell? ⟨S2,3,none⟩=some (.int .i64 f4'):=⟨HF.o.cell 0,HF.o.cell 1,HF.o.cell 2,HF.o.cell 3⟩;refine hK.out _ _ hHeld ?_;clear hK K
      try simp only [y1_,y2_,y3_,Act.put,y4_,y5_,y6_]
      refine t_ 19 rfl ?_;rw [<-HTX.o];refine Reg.oneT (i:=20) rfl (by kernel_rfl) (fun K hK=>?_)
      go_simp
      have BA:Below v4.heap.size v4 (v4.alloc (.cells #[.string (bs (lineF (f1',f2',f3',f4')))] 9)):=b_;have HLT:=h_ (rd_lit v4 #[.string (bs (lineF (f1',f2',f3',f4')))] 9 _ rfl);replace HB:=c_ HB BA;replace HX:=h_ (HX.o.call BA);replace HW:=h_ (HW.o.call BA);replace HS:=h_ (HS.o.call BA);replace HF:=h_ (HF.o.call BA);clear BA;generalize v4.alloc (.cells #[.string (bs (lineF (f1',f2',f3',f4')))] 9)=v5 at *;have hHeld:v5.cell? ⟨S2,0,none⟩=some (.int .i64 f1')/\v5.cell? ⟨S2,1,none⟩=some (.int .i64 f2')/\v5.cell? ⟨S2,2,none⟩=some (.int .i64 f3')/\v5.cell? ⟨S2,3,none⟩=some (.int .i64 f4'):=⟨HF.o.cell 0,HF.o.cell 1,HF.o.cell 2,HF.o.cell 3⟩;refine hK.out _ _ hHeld ?_;clear hK K
      try simp only [y1_,y2_,y3_,Act.put,y4_,y5_,y6_]
      refine Reg.oneT (i:=21) rfl (by kernel_rfl) (fun K hK=>?_);refine step_app (by rfl) _ _ 28 (by rfl) 9 i0 (.string ByteArray.empty) 1 16 Tryz.underlying28 HI.o.1 HI.o.2.1 HI.o.2.2.1 HI.o.2.2.2 rfl (by decide) w.heap.size A2 ms.length c2 (nmC (ms.map bs)) (by rfl) HW.o HB.o.size _ 1 1 [.string (bs (lineF (f1',f2',f3',f4')))] (by rfl) HLT.o rfl (fun h=>by cases h) (CDumpI.one_str _) ?n1 ?n2 ?_
      case n1=>unfold maxLen; omega
      case n2=>omega
      intro A9 n9 c9 wz hn9 o9 g9 k9;subst hn9;have HX9:=h_ (HX.o.grown g9 (HW.o.box HX.o (by decide)));have HF9:=h_ (HF.o.grown g9 (HW.o.box HF.o (by decide)));have HS9:=h_ (HS.o.grown g9 (HW.o.box HS.o (by decide)));have HB9:=h_ (HB.o.grown g9 HB.o.size (fun j hj=>(HW.o.lt j hj).1))
      have HW9:=h_ (show Row wz w.heap.size 9 1 A9 (ms++[lineF (f1',f2',f3',f4')]).length c9 (nmC ((ms++[lineF (f1',f2',f3',f4')]).map bs)) from by
       rw [List.length_append,nmC_snoc]
       exact o9)
      have hq:=HML.o;have HLN9:=h_ (show (ms++[lineF (f1',f2',f3',f4')]).length=ls.length+1+(j+1) from by rw [List.length_append,hq]; rfl);have HMN9:=h_ (show ms++[lineF (f1',f2',f3',f4')]=(ls++[lineS p.d])++(p.fs.take (j+1)).map lineF from by rw [HFS.o,HMS.o,List.append_assoc]);refine hK.out _ _ ⟨HF9.o.cell 0,HF9.o.cell 1,HF9.o.cell 2,HF9.o.cell 3⟩ ?_;have hHeld:wz.cell? ⟨S2,0,none⟩=some (.int .i64 f1')/\wz.cell? ⟨S2,1,none⟩=some (.int .i64 f2')/\wz.cell? ⟨S2,2,none⟩=some (.int .i64 f3')/\wz.cell? ⟨S2,3,none⟩=some (.int .i64 f4'):=⟨HF9.o.cell 0,HF9.o.cell 1,HF9.o.cell 2,HF9.o.cell 3⟩;clear hK K o9 g9 k9 HW HX HB HF hq HS
      try simp only [y1_,y2_,y3_,Act.put,y4_,y5_,y6_]
      refine t_ 22 rfl ?_;refine Reg.doneT (by kernel_rfl) ?_ _;clear hHeld g1 g2 g3 g4 g5 g6 g7 hsl q1 q2 q3 q4
      go_wp2_with fail
      refine ⟨⟨j+1,A9,c9,_,by omega,by simp,by go_num,HMN9.o,HLN9.o,HW9.o,HX9.o,HS9.o,HB9.o⟩,by simp [intOf]; omega⟩
     ·have hje:j=p.fs.length:=by omega
      have HLK:=h_ (show ms=linesSs ((o.ps.take (k+1)).map SV.d) from by
       rw [HSN.o,HMS.o,hje,List.take_length,HLS.o]
       simp [linesS,SV.d])
      have hmk:ms.length<=7*(k+1):=by have:=HML.o; omega
      have HMK:=h_ hmk;clear hmk hje
      go_wp2_with fail
      refine ⟨⟨k+1,A2,c2,ms,by omega,rfl,by go_num,HLK.o,HMK.o,HW.o,by rw [HA.o]; exact HX.o,HB.o⟩,by simp [intOf]; omega⟩
  ·have hke:k=o.ps.length:=by omega
   have HL0:=h_ (show ls=linesSs (o.ps.map SV.d) from by rw [HLS.o,hke,List.take_length])
   have hl56:ls.length<=56:=by omega
   clear hke
   go_wp2_with fail
   clear x0 x1 hxl
   go_loopw [3,9] (fun s i wi=>∃ (j:Nat) (A2:Option Addr) (c2:Nat) (ms:List (List UInt8)),j<=o.ys.length/\s=.slice A2 ms.length c2/\i=.int .i64 j/\ms=ls++(o.ys.take j).map lineY/\ms.length=ls.length+j/\Row wi w.heap.size 9 1 A2 ms.length c2 (nmC (ms.map bs))/\Box wi w.heap.size 26 #[.slice o.A o.ps.length o.c,.slice o.Y o.ys.length o.yc]/\Below w.heap.size w wi) (fun _ i _=>o.ys.length - (intOf i).toNat)
   case atStart=>exact ⟨0,A1,c1,ls,Nat.zero_le _,rfl,rfl,by simp,by simp,HW.o,HX.o,HB.o⟩
   case round=>
    rename World=>wi
    clear HW HX HB;obtain ⟨j,A2,c2,ms,hj,rfl,rfl,hms,hml,hrow,hbox,hb⟩:=hrel;have HMS:=h_ hms;have HML:=h_ hml
    have hml2:ms.length<=68:=by omega
    have HW:=h_ hrow;have HX:=h_ hbox;have HB:=h_ hb;clear hms hrow hb hml hbox;have x0:=d_ HX.o 0;have x1:=d_ HX.o 1;have hxl:=HX.o.lt
    by_cases hltj:j<o.ys.length
    ·go_wp2_with fail
     refine (HV0.o wi HB.o).mono ?_;rintro e wj ⟨rfl,b1⟩;clear x0 x1 hxl;replace HB:=c_ HB b1;replace HX:=h_ (HX.o.call b1);replace HW:=h_ (HW.o.call b1);clear b1;have x0:=d_ HX.o 0;have x1:=d_ HX.o 1;have hxl:=HX.o.lt;obtain ⟨fb,fo,hFA,hfb,hfc⟩:=(HR.o.2.below HB.o).row symbolC_len (by decide) hltj;have f0:=hfc 0 _ rfl;have f1:=hfc 1 _ rfl;have f2:=hfc 2 _ rfl;have f3:=hfc 3 _ rfl;simp only [Nat.add_zero] at f0;have HFS:=h_ (show (o.ys.take (j+1)).map lineY=(o.ys.take j).map lineY++[lineY o.ys[j]] from by rw [take_succ hltj,List.map_append]; rfl);have HGF:=h_ (HG.o.2 o.ys[j] (List.getElem_mem hltj));have HFA:=h_ hFA;rw [hFA] at x1;clear hfc hFA;generalize o.ys[j]=f at *;obtain ⟨y1,y2,y3,y4⟩:=f;simp only at f0 f1 f2 f3;have BF:Below wj.heap.size wj (wj.alloc (.cells #[.string y1,.int .i64 y2,.int .i64 y3,.int .i64 y4] 67)):=b_;have HF:=h_ (Box.new wj 67 #[.string y1,.int .i64 y2,.int .i64 y3,.int .i64 y4]);replace HB:=c_ HB BF;replace HX:=h_ (HX.o.call BF);replace HW:=h_ (HW.o.call BF);clear BF
     go_wp2_with fail
     clear f0 f1 f2 f3 x0 x1 hxl;generalize wj.alloc (.cells #[.string y1,.int .i64 y2,.int .i64 y3,.int .i64 y4] 67)=wa at *;generalize wj.heap.size=S2 at *;have hN8:y1.size<=8:=(nmW_ok HGF.o.1).2;obtain ⟨N1,hN1,q1,C1⟩:=num_of y2 HGF.o.2.1;obtain ⟨N2,hN2,q2,C2⟩:=num_of y3 HGF.o.2.2.1;obtain ⟨N3,hN3,q3,C3⟩:=num_of y4 HGF.o.2.2.2;have HTX:=h_ ((congrArg bs (lineY_eq HGF.o.1)).trans (symText HGF.o.1 hN1 hN2 hN3));have HC1:=h_ C1;have HC2:=h_ C2;have HC3:=h_ C3;clear hN1 hN2 hN3 C1 C2 C3
     have g1:¬ 9223372036854775807<7+y1.size:=by omega
     have g2:¬ 9223372036854775807<7+y1.size+1:=by omega
     have g3:¬ 9223372036854775807<7+y1.size+1+N1.size:=by omega
     have g4:¬ 9223372036854775807<7+y1.size+1+N1.size+1:=by omega
     have g5:¬ 9223372036854775807<7+y1.size+1+N1.size+1+N2.size:=by omega
     have g6:¬ 9223372036854775807<7+y1.size+1+N1.size+1+N2.size+1:=by omega
     have g7:¬ 9223372036854775807<7+y1.size+1+N1.size+1+N2.size+1+N3.size:=by omega
     have hsl:=HF.o.lt;refine Reg.startT (fun W=>W.cell? ⟨S2,0,none⟩=some (.string y1)/\W.cell? ⟨S2,1,none⟩=some (.int .i64 y2)/\W.cell? ⟨S2,2,none⟩=some (.int .i64 y3)/\W.cell? ⟨S2,3,none⟩=some (.int .i64 y4)) (fun _=>false) (by kernel_rfl) ?_;have hHeld:wa.drew.cell? ⟨S2,0,none⟩=some (.string y1)/\wa.drew.cell? ⟨S2,1,none⟩=some (.int .i64 y2)/\wa.drew.cell? ⟨S2,2,none⟩=some (.int .i64 y3)/\wa.drew.cell? ⟨S2,3,none⟩=some (.int .i64 y4):=⟨HF.o.cell 0,HF.o.cell 1,HF.o.cell 2,HF.o.cell 3⟩;refine t_ 0 rfl ?_;refine t_ 1 rfl ?_;refine t_ 2 rfl ?_;refine t_ 3 rfl ?_;refine t_ 4 rfl ?_;refine t_ 5 rfl ?_;refine t_ 6 rfl ?_;refine t_ 10 rfl ?_;refine t_ 11 rfl ?_;refine t_ 15 rfl ?_;refine t_ 16 rfl ?_;refine Reg.oneT (i:=7) rfl (by kernel_rfl) (fun K hK=>?_)
     go_simp
     refine (HC1.o _).mono ?_;rintro e v1 ⟨rfl,bb⟩;have b3:=of_drew bb;clear bb;replace HB:=c_ HB b3;replace HX:=h_ (HX.o.call b3);replace HW:=h_ (HW.o.call b3);replace HF:=h_ (HF.o.call b3);clear b3;have hHeld:v1.cell? ⟨S2,0,none⟩=some (.string y1)/\v1.cell? ⟨S2,1,none⟩=some (.int .i64 y2)/\v1.cell? ⟨S2,2,none⟩=some (.int .i64 y3)/\v1.cell? ⟨S2,3,none⟩=some (.int .i64 y4):=⟨HF.o.cell 0,HF.o.cell 1,HF.o.cell 2,HF.o.cell 3⟩;refine hK.out _ _ hHeld ?_;clear hK K
     try simp only [y1_,y2_,y3_,Act.put,y4_,y5_,y6_]
     refine t_ 8 rfl ?_;refine t_ 9 rfl ?_;refine Reg.oneT (i:=12) rfl (by kernel_rfl) (fun K hK=>?_)
     go_simp
     refine (HC2.o _).mono ?_;rintro e v2 ⟨rfl,bb⟩;replace HB:=c_ HB bb;replace HX:=h_ (HX.o.call bb);replace HW:=h_ (HW.o.call bb);replace HF:=h_ (HF.o.call bb);clear bb;have hHeld:v2.cell? ⟨S2,0,none⟩=some (.string y1)/\v2.cell? ⟨S2,1,none⟩=some (.int .i64 y2)/\v2.cell? ⟨S2,2,none⟩=some (.int .i64 y3)/\v2.cell? ⟨S2,3,none⟩=some (.int .i64 y4):=⟨HF.o.cell 0,HF.o.cell 1,HF.o.cell 2,HF.o.cell 3⟩;refine hK.out _ _ hHeld ?_;clear hK K
     try simp only [y1_,y2_,y3_,Act.put,y4_,y5_,y6_]
     refine t_ 13 rfl ?_;refine t_ 14 rfl ?_;refine Reg.oneT (i:=17) rfl (by kernel_rfl) (fun K hK=>?_)
     go_simp
     refine (HC3.o _).mono ?_;rintro e v3 ⟨rfl,bb⟩;replace HB:=c_ HB bb;replace HX:=h_ (HX.o.call bb);replace HW:=h_ (HW.o.call bb);replace HF:=h_ (HF.o.call bb);clear bb;have hHeld:v3.cell? ⟨S2,0,none⟩=some (.string y1)/\v3.cell? ⟨S2,1,none⟩=some (.int .i64 y2)/\v3.cell? ⟨S2,2,none⟩=some (.int .i64 y3)/\v3.cell? ⟨S2,3,none⟩=some (.int .i64 y4):=⟨HF.o.cell 0,HF.o.cell 1,HF.o.cell 2,HF.o.cell 3⟩;refine hK.out _ _ hHeld ?_;clear hK K
     try simp only [y1_,y2_,y3_,Act.put,y4_,y5_,y6_]
     refine t_ 18 rfl ?_;rw [<-HTX.o];refine Reg.oneT (i:=19) rfl (by kernel_rfl) (fun K hK=>?_)
     go_simp
     have BA:Below v3.heap.size v3 (v3.alloc (.cells #[.string (bs (lineY (y1,y2,y3,y4)))] 9)):=b_;have HLT:=h_ (rd_lit v3 #[.string (bs (lineY (y1,y2,y3,y4)))] 9 _ rfl);replace HB:=c_ HB BA;replace HX:=h_ (HX.o.call BA);replace HW:=h_ (HW.o.call BA);replace HF:=h_ (HF.o.call BA);clear BA;generalize v3.alloc (.cells #[.string (bs (lineY (y1,y2,y3,y4)))] 9)=v4 at *;have hHeld:v4.cell? ⟨S2,0,none⟩=some (.string y1)/\v4.cell? ⟨S2,1,none⟩=some (.int .i64 y2)/\v4.cell? ⟨S2,2,none⟩=some (.int .i64 y3)/\v4.cell? ⟨S2,3,none⟩=some (.int .i64 y4):=⟨HF.o.cell 0,HF.o.cell 1,HF.o.cell 2,HF.o.cell 3⟩;refine hK.out _ _ hHeld ?_;clear hK K
     try simp only [y1_,y2_,y3_,Act.put,y4_,y5_,y6_]
     refine Reg.oneT (i:=20) rfl (by kernel_rfl) (fun K hK=>?_);refine step_app (by rfl) _ _ 28 (by rfl) 9 i0 (.string ByteArray.empty) 1 16 Tryz.underlying28 HI.o.1 HI.o.2.1 HI.o.2.2.1 HI.o.2.2.2 rfl (by decide) w.heap.size A2 ms.length c2 (nmC (ms.map bs)) (by rfl) HW.o HB.o.size _ 1 1 [.string (bs (lineY (y1,y2,y3,y4)))] (by rfl) HLT.o rfl (fun h=>by cases h) (CDumpI.one_str _) ?n1 ?n2 ?_
     case n1=>unfold maxLen; omega
     case n2=>omega
     intro A9 n9 c9 wz hn9 o9 g9 k9;subst hn9;have HX9:=h_ (HX.o.grown g9 (HW.o.box HX.o (by decide)));have HF9:=h_ (HF.o.grown g9 (HW.o.box HF.o (by decide)));have HB9:=h_ (HB.o.grown g9 HB.o.size (fun j hj=>(HW.o.lt j hj).1))
     have HW9:=h_ (show Row wz w.heap.size 9 1 A9 (ms++[lineY (y1,y2,y3,y4)]).length c9 (nmC ((ms++[lineY (y1,y2,y3,y4)]).map bs)) from by
      rw [List.length_append,nmC_snoc]
      exact o9)
     have hq:=HML.o;have HLN9:=h_ (show (ms++[lineY (y1,y2,y3,y4)]).length=ls.length+(j+1) from by rw [List.length_append,hq]; rfl);have HMN9:=h_ (show ms++[lineY (y1,y2,y3,y4)]=ls++(o.ys.take (j+1)).map lineY from by rw [HFS.o,HMS.o,List.append_assoc]);refine hK.out _ _ ⟨HF9.o.cell 0,HF9.o.cell 1,HF9.o.cell 2,HF9.o.cell 3⟩ ?_;have hHeld:wz.cell? ⟨S2,0,none⟩=some (.string y1)/\wz.cell? ⟨S2,1,none⟩=some (.int .i64 y2)/\wz.cell? ⟨S2,2,none⟩=some (.int .i64 y3)/\wz.cell? ⟨S2,3,none⟩=some (.int .i64 y4):=⟨HF9.o.cell 0,HF9.o.cell 1,HF9.o.cell 2,HF9.o.cell 3⟩;clear hK K o9 g9 k9 HW HX HB HF hq 
     try simp only [y1_,y2_,y3_,Act.put,y4_,y5_,y6_]
     refine t_ 21 rfl ?_;refine Reg.doneT (by kernel_rfl) ?_ _;clear hHeld g1 g2 g3 g4 g5 g6 g7 hsl q1 q2 q3 hN8
     go_wp2_with fail
     refine ⟨⟨j+1,A9,c9,_,by omega,by simp,by go_num,HMN9.o,HLN9.o,HW9.o,HX9.o,HB9.o⟩,by simp [intOf]; omega⟩
    ·have hje:j=o.ys.length:=by omega
     have HEND:=h_ (show (dumpL o.d).map bs=ms.map bs from by
      rw [HV.o,linesO,HMS.o,hje,List.take_length,HL0.o]
      rfl)
     have hlm:(ms.map bs).length=ms.length:=List.length_map ..;clear hje
     go_wp2_with fail
     go_ret;rw [HEND.o];exact ⟨A2,c2,by rw [hlm]; rfl,by rw [hlm]; exact HW.o,HB.o⟩
end CDumpS
end Go.Proofs.YtepoiphmmjfbdaaGreatDoor
