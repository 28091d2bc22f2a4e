/- ReadDump: the object of lines; the program's. -/
import Derived.Test.YtepoiphmmjfbdaaGreatDoorFnDeskRunM9
import Derived.OwnWalk
set_option linter.unusedSimpArgs false
set_option linter.unusedVariables false
set_option maxRecDepth 200000
open Go.ChangeShapes Go.WideShapes Go.ChangeAt Go.RowKit
namespace Go.Proofs.YtepoiphmmjfbdaaGreatDoor
namespace CReadDI
open Kit CCode CName CFixups CSymbols PObj BObj PValid PClear CNumTxt PNum PDump CHexI CHexS CSorted CNames CWordsS BStore BDesk CNumsI CReadI CMarkRows BObj2 BObj3 CEqN PStep CObjValid CStrRows BRetO
theorem sz_fit{o:OV}{w:World}{base:Nat}(h:SzD 1048576 1048576 o.d)(ho:OwnO w base o):Fit o:=by
 refine⟨by simpa[OV.d]using h.1,by simpa[OV.d]using h.2.1,ho.2.cap.1,λp hp=>?_,λy hy=>?_⟩
 ·obtain⟨h1,h2,h3⟩:=h.2.2.1 p.d (List.mem_map_of_mem hp);have h1':p.nm.size<=1048576:=h1;refine⟨by unfold maxLen;omega,h2,h3⟩
 ·have:=h.2.2.2 y hy;unfold maxLen;omega
theorem sz_up{n k m:Nat}{d:OD}(h:SzD n k d)(hk:k<=m):SzD n m d:=⟨Nat.le_trans h.1 hk,Nat.le_trans h.2.1 hk,λs hs=>⟨(h.2.2.1 s hs).1,(h.2.2.1 s hs).2.1,Nat.le_trans (h.2.2.1 s hs).2.2 hk⟩,h.2.2.2⟩
theorem map_bs{a b:List (List UInt8)}:a.map bs=b.map bs↔a=b:=by
 constructor
 ·intro h;have:=congrArg (List.map nmL) h;rw[List.map_map,List.map_map]at this;have e:nmL∘bs=id:=by funext x;exact nm_bs x
  rwa[e,List.map_id,List.map_id]at this
 ·rintro rfl
  rfl
set_option maxHeartbeats 8000000 in
theorem readDump_any(A:Option Addr)(ls:List (List UInt8))(c:Nat)(w:World)(hr:Rd w w.heap.size A (nmC (ls.map bs)))(hm:ls.length<=1048576)(hl:∀x∈ls,x.length<=1048576)(he:Env w):
  Calls Tryz.prog 47 #[.slice A ls.length c] w (RetOB (readI ls) w):=by
 have HR:=h_ hr;have HE:=h_ he;have HL:=h_ hl;clear hr he hl;have HB:=h_ (show Below w.heap.size w ((w.alloc (.cells #[.slice none 0 0,.slice none 0 0] 26)).alloc (.cells #[.slice none 0 0,.slice none 0 0] 26))from b_);have HRR:=h_ ((Box.new w 26 #[.slice none 0 0,.slice none 0 0]).alloc (.cells #[.slice none 0 0,.slice none 0 0] 26));have hx:=Box.new (w.alloc (.cells #[.slice none 0 0,.slice none 0 0] 26)) 26 #[.slice none 0 0,.slice none 0 0];simp only[World.size_alloc]at hx;have HX:=h_ hx;have hwz:((w.alloc (.cells #[.slice none 0 0,.slice none 0 0] 26)).alloc (.cells #[.slice none 0 0,.slice none 0 0] 26)).heap.size=w.heap.size+2:=by simp only[World.size_alloc]
 clear hx;go_enter Tryz.func47,Tryz.ntmps47
 go_wp2_with fail
 generalize (w.alloc (.cells #[.slice none 0 0,.slice none 0 0] 26)).alloc (.cells #[.slice none 0 0,.slice none 0 0] 26)=w0 at *;generalize hg:w.heap.size+1=g at *;have HG:=h_ (show w.heap.size<g from by omega);have HGW:=h_ (show g<=w0.heap.size from by omega);have HH:=h_ (show Held w0 g g nilO from⟨HX.o,⟨⟨Row.empty _ _ _ _ _,(λp hp=>by cases hp),List.Pairwise.nil⟩,Row.empty _ _ _ _ _⟩,by
  rintro k ((hk|⟨p,hp,hk⟩)|hk)
  ·cases hk
  ·cases hp
  ·cases hk⟩)
 clear HX hg hwz;go_loopw [10] (λi wi=>∃(k:Nat) (o:OV),k<=ls.length/\i=.int .i64 k/\stepsI ⟨[],[]⟩ ls=stepsI o.d (ls.drop k)/\SzD 1048576 k o.d/\InD o.d/\Held wi g g o/\Box wi w.heap.size 26 #[.slice none 0 0,.slice none 0 0]/\Below w.heap.size w wi/\g<=wi.heap.size) (λi _=>ls.length-(intOf i).toNat)
 case atStart=>exact⟨0,nilO,Nat.zero_le _,rfl,rfl,sz_nil _ _,inD_nil,HH.o,HRR.o,HB.o,HGW.o⟩
 case round=>
  clear HH HRR HB HGW;obtain⟨k,o,hk,rfl,hst,hsz,hin,hh,hrr,hb,hgw⟩:=hrel;have HST:=h_ hst;have HSZ:=h_ hsz;have HIN:=h_ hin;have HH:=h_ hh;have HRR:=h_ hrr;have HB:=h_ hb;clear hst hsz hin hh hrr;by_cases hlt:k<ls.length
  ·obtain⟨b,off,rfl,hbg,hc⟩:=CNumsI.Rd.str (HR.o.below hb) hlt;have HLX:=h_ (HL.o _ (List.getElem_mem hlt));have HST2:=h_ (show stepsI ⟨[],[]⟩ ls=(stepI o.d ls[k]).bind λd'=>stepsI d' (ls.drop (k+1))from by
    rw[HST.o,List.drop_eq_getElem_cons hlt]
    rfl)
   clear hb HST;generalize ls[k]=x at *;have hon1:o.ps.length<=4000000:=by have h:=HSZ.o.1;simp[OV.d]at h;omega
   have hon2:o.ys.length<=4000000:=by have h:o.ys.length<=k:=HSZ.o.2.1;omega
   have hon3:Hd (∀p∈o.ps,p.fs.length<=4000000):=h_ λp hp=>by have h:p.fs.length<=k:=(HSZ.o.2.2.1 p.d (List.mem_map_of_mem hp)).2.2;omega
   have HC:=h_ (readLine_any g g o (bs x) wr HH.o (Nat.le_refl _) hgw (by rw[bs_size];exact HLX.o) (HE.o.below HB.o) hon1 hon2 hon3.o);rw[show(bs x).data.toList=x from by simp[bs]]at HC;clear hon1 hon2 hon3;go_wp2_with fail
   refine HC.o.mono ?_;rintro e w2 ⟨bv,rfl,b2,hm2⟩;have HM2:=h_ hm2;replace HB:=h_ (HB.o.trans (b2.mono (Nat.le_of_lt HG.o)));replace HRR:=h_ (HRR.o.below b2 HG.o);have hgw2:g<=w2.heap.size:=Nat.le_trans hgw b2.size;clear HC hm2 b2 hc hgw;cases hs:stepI o.d x with
   |none=>
    rw[hs]at HM2;have hbv:bv=false:=HM2.o;subst hbv;have HV:=h_ (show readI ls=none from by
     unfold readI;rw[HST2.o,hs]
     rfl)
    clear hs HM2 HST2 HSZ HIN HH;have y0:=d_ HRR.o 0;have y1:=d_ HRR.o 1;have yf0:=HRR.o.frozen 0;have yf1:=HRR.o.frozen 1;have hrl:=HRR.o.lt;obtain⟨k0,k1⟩:=cells2 (u:=.slice none 0 0) (v:=.slice none 0 0) HRR.o;have HFB:=h_ (below2 HB.o (Nat.le_refl _) (.slice none 0 0) (.slice none 0 0));go_wp2_with fail
    (try simp only[Exit.inBlock,Exit.then])
    exact bodyPost_ret (v:=.tuple #[.agg #[.slice none 0 0,.slice none 0 0],.bool false]) (by simp[results,Tryz.results47,go_sem,k0,k1]) rfl (by rw[HV.o];exact ret_nilO HFB.o)
   |some d'=>
    rw[hs]at HM2;obtain⟨rfl,o2,rfl,hh2⟩:=HM2.o;have HH2:=h_ hh2;have HS2:=h_ (sz_stepI HSZ.o HLX.o hs);have HI2:=h_ (inD_stepI HIN.o hs);have HT2:=h_ (show stepsI ⟨[],[]⟩ ls=stepsI o2.d (ls.drop (k+1))from by
     rw[HST2.o,hs]
     rfl)
    clear hs HM2 HST2 HSZ HIN HH hh2;go_wp2_with fail
    refine⟨⟨k+1,o2,by omega,by go_num,HT2.o,HS2.o,HI2.o,HH2.o,HRR.o,HB.o,hgw2⟩,by simp[intOf];omega⟩
  ·obtain rfl:k=ls.length:=by omega
   have HS:=h_ (show stepsI ⟨[],[]⟩ ls=some o.d from by
    rw[HST.o,List.drop_eq_nil_of_le (Nat.le_refl _)]
    rfl)
   have HF:=h_ (sz_fit (sz_up HSZ.o hm) HH.o.own);have HRO:=h_ (HH.o.own.rd);clear HST HSZ hb;have hx:=HH.o.box;have x0:=d_ hx 0;have x1:=d_ hx 1;have hxl:=hx.lt;clear hx;go_wp2_with fail
   refine(objectValid_any o wr HRO.o HF.o).mono ?_;rintro e w2 ⟨rfl,b2⟩;clear x0 x1 hxl;replace HRO:=h_ ((HRO.o.below b2).more b2.size);replace HX:=h_ (HH.o.box.call b2);have HO:=h_ (HH.o.own.call b2);replace HB:=c_ HB b2;replace HRR:=h_ (HRR.o.call b2);clear b2;cases hok:objOk o.d
   ·have HV:=h_ (show readI ls=none from by
     unfold readI;rw[HS.o];unfold fin;simp only;rw[if_neg (by rw[hok];intro h;cases h.1)])
    clear hok;have y0:=d_ HRR.o 0;have y1:=d_ HRR.o 1;have yf0:=HRR.o.frozen 0;have yf1:=HRR.o.frozen 1;have hrl:=HRR.o.lt;obtain⟨k0,k1⟩:=cells2 (u:=.slice none 0 0) (v:=.slice none 0 0) HRR.o;have HFB:=h_ (below2 HB.o (Nat.le_refl _) (.slice none 0 0) (.slice none 0 0));go_wp2_with fail
    (try simp only[Exit.inBlock,Exit.then])
    exact bodyPost_ret (v:=.tuple #[.agg #[.slice none 0 0,.slice none 0 0],.bool false]) (by simp[results,Tryz.results47,go_sem,k0,k1]) rfl (by rw[HV.o];exact ret_nilO HFB.o)
   have HOK:=h_ hok;clear hok;have x0:=d_ HX.o 0;have x1:=d_ HX.o 1;have hxl:=HX.o.lt;go_wp2_with fail
   refine(CDumpI.dumpObject_any o w2 HRO.o HF.o HIN.o (HE.o.below HB.o)).mono ?_;rintro e w3 ⟨A9,c9,rfl,row9,b9⟩;clear x0 x1 hxl;replace HB:=c_ HB b9;replace HRR:=h_ (HRR.o.call b9);replace HX:=h_ (HX.o.call b9);replace HO:=h_ (HO.o.call b9);clear b9;have HEQ:=h_ (equalN_any A9 A ((dumpL o.d).map bs) (ls.map bs) c9 c w3 row9.rd ((HR.o.below HB.o).more HB.o.size) (by have:=row9.cap;unfold maxLen at this;omega) (by rw[List.length_map];omega));rw[show(List.map bs ls).length=ls.length from by simp]at HEQ;generalize ((dumpL o.d).map bs).length=dn at *;have HQ:=h_ (show decide ((dumpL o.d).map bs=ls.map bs)=decide (dumpL o.d=ls)from by
    rw[decide_eq_decide];exact map_bs)
   rw[HQ.o]at HEQ;clear HQ row9;go_wp2_with fail
   refine HEQ.o.mono ?_;rintro e w4 ⟨rfl,b4⟩;clear HEQ;replace HB:=c_ HB b4;replace HRR:=h_ (HRR.o.call b4);replace HX:=h_ (HX.o.call b4);replace HO:=h_ (HO.o.call b4);clear b4;have y0:=d_ HRR.o 0;have y1:=d_ HRR.o 1;have yf0:=HRR.o.frozen 0;have yf1:=HRR.o.frozen 1;have hrl:=HRR.o.lt;by_cases hd:dumpL o.d=ls
   ·have HV:=h_ (show readI ls=some o.d from by
     unfold readI;rw[HS.o];unfold fin;simp only;rw[if_pos ⟨HOK.o,hd⟩])
    rw[decide_eq_true hd];clear hd;have x0:=d_ HX.o 0;have x1:=d_ HX.o 1;have hxl:=HX.o.lt;obtain⟨k0,k1⟩:=cells2 (u:=.slice o.A o.ps.length o.c) (v:=.slice o.Y o.ys.length o.yc) HRR.o;have HFB:=h_ (below2 HB.o (Nat.le_refl _) (.slice o.A o.ps.length o.c) (.slice o.Y o.ys.length o.yc));go_wp2_with fail
    (try simp only[Exit.inBlock,Exit.then])
    exact bodyPost_ret (v:=.tuple #[.agg #[.slice o.A o.ps.length o.c,.slice o.Y o.ys.length o.yc],.bool true]) (by simp[results,Tryz.results47,go_sem,k0,k1]) rfl (by
     rw[HV.o];exact⟨o,rfl,HFB.o,λd hd=>by
      injection hd with hd;refine⟨hd,?_⟩;exact OwnO.set (a:=⟨w.heap.size,1,none⟩) (OwnO.set (a:=⟨w.heap.size,0,none⟩) (HO.o.down (Nat.le_of_lt HG.o)) (λk hk e=>by have:=(HO.o.lt k hk).1;have:=HG.o;have e':k=w.heap.size:=e;omega) _) (λk hk e=>by have:=(HO.o.lt k hk).1;have:=HG.o;have e':k=w.heap.size:=e;omega) _⟩)
   ·have HV:=h_ (show readI ls=none from by
     unfold readI;rw[HS.o];unfold fin;simp only;rw[if_neg (λh=>hd h.2)])
    rw[decide_eq_false hd];clear hd;obtain⟨k0,k1⟩:=cells2 (u:=.slice none 0 0) (v:=.slice none 0 0) HRR.o;have HFB:=h_ (below2 HB.o (Nat.le_refl _) (.slice none 0 0) (.slice none 0 0));go_wp2_with fail
    (try simp only[Exit.inBlock,Exit.then])
    exact bodyPost_ret (v:=.tuple #[.agg #[.slice none 0 0,.slice none 0 0],.bool false]) (by simp[results,Tryz.results47,go_sem,k0,k1]) rfl (by rw[HV.o];exact ret_nilO HFB.o)
end CReadDI
/- How long what a desk reads is,and that its objects stay objects of bytes; plain. -/
namespace PDesk2
open Kit CCode CName CFixups CSymbols PObj PValid PClear PLink PNum PDump PJoin PDesk PLinkIn PStep
theorem cut_len(s:List UInt8):(cutW s).length<=s.length/\(cutR s).length<=s.length/\(cutR s≠[]->(cutW s).length+1+(cutR s).length=s.length):=by
 rcases cut_or 32 s with h|⟨x,r,rfl,h⟩
 ·obtain⟨e1,e2⟩:=cut_none h;rw[e1,e2];exact⟨Nat.le_refl _,Nat.zero_le _,λh=>absurd rfl h⟩
 ·obtain⟨e1,e2⟩:=cut_at (r:=r) h;rw[e1,e2,List.length_append,List.length_cons];exact⟨by omega,by omega,λ_=>by omega⟩
theorem desk_in{l:List OD}{s:List UInt8}(h:∀d∈l,InD d):∀d∈(deskA l s).1,InD d:=by
 unfold deskA;split
 ·intro d hd;cases hd
 split
 ·unfold joinA;cases hj:joinAll l with
  |none=>exact h
  |some o=>intro d hd;rw[List.mem_singleton.1 hd];exact joinAll_in h hj
 split
 ·exact h
 split
 ·unfold loadA;cases hj:readI (splt 124 (cutR s))with
  |none=>exact h
  |some o=>
   simp only;split
   ·exact h
   ·intro d hd;rcases List.mem_append.1 hd with hd|hd
    ·exact h d hd
    ·rw[List.mem_singleton.1 hd];exact(readI_some hj).2.2
 split
 ·exact h
 split
 ·exact h
 ·exact h
theorem find_bd{l:List OD}{nm:ByteArray}{g:G}(h:objsOk l=true)(e:findN l nm=some g):g.1<=4/\g.2<=12:=by obtain⟨h1,h2,_⟩:=find_ok e;simp only[objsOk,Bool.and_eq_true,decide_eq_true_eq,List.all_eq_true]at h;have h3:=h.2 (l[g.1]) (List.getElem_mem h1);have h4:=(obj_all h3).2.1;rw[List.getD_eq_getElem?_getD,List.getElem?_eq_getElem h1]at h2;simp only[Option.getD_some]at h2;omega
end PDesk2
/- DeskLine: a line of a session; the program's. -/
namespace CDeskI
open Kit CCode CName CNumTxt CFixups CSymbols PObj BObj PValid PClear PNum PDump PLink PLinkL BList CMarkRows BObj2 BRetO CObjValid CCopyS CValids CSorted CNames CWordsS CObjL COwnL PJoin PJoin2 PDesk PDesk2 PLinkIn BDesk CHexI CHexS CJoinAI CDeskLI CReadDI CEqN CFind CStrRows
def RetDA(r:DA)(w:World)(e:Ending)(w':World):Prop:=∃A c os,e=.returned (.tuple #[.slice A (os:List OV).length c,.string (bs r.2)])/\os.map OV.d=r.1/\OwnOs w' w.heap.size A c os/\Below w.heap.size w w'
theorem text_eq{x y:List UInt8}(h:x=y):((bs x).toList==y)=true:=by rw[CDeskLI.bs_list,h];simp
theorem text_ne{x y:List UInt8}(h:¬x=y):((bs x).toList==y)=false:=by rw[CDeskLI.bs_list];exact beq_eq_false_iff_ne.2 h
theorem own_one{w:World}{base:Nat}{o:OV}(h:OwnO w base o)(hb:base<=w.heap.size):OwnOs (w.alloc (.cells #[.slice o.A o.ps.length o.c,.slice o.Y o.ys.length o.yc] 26)) base (some ⟨w.heap.size,0,none⟩) 1 [o]:=by
 refine⟨.inr ?_,λp hp=>?_,List.pairwise_singleton _ _⟩
 ·have ho:=World.ownsRow_lit (e:=26) (size:=2) (base:=base) w #[.slice o.A o.ps.length o.c,.slice o.Y o.ys.length o.yc] 1 hb (by unfold maxLen;omega) rfl;exact ho
 ·rw[List.mem_singleton.1 hp];exact h.call ((Below.refl _ _).alloc (Nat.le_refl _) _)
set_option maxHeartbeats 40000000 in
theorem deskLine_any(A:Option Addr)(os:List OV)(c:Nat)(s:List UInt8)(w:World)(hr:RdOs w w.heap.size A os)(hf:Fits os)(hn:∀o∈os,Nils o)(hz:∀o∈os,InD o.d)(hc:os.length<=c)(hs:s.length<=1048576)(he:Env w):
  Calls Tryz.prog 13 #[.slice A os.length c,.string (bs s)] w (RetDA (deskA (os.map OV.d) s) w):=by
 obtain⟨i0,hi1,hi2,hi3,hi4⟩:=info_parts infoO;have HI:=h_ (And.intro hi1 (And.intro hi2 (And.intro hi3 hi4)));clear hi1 hi2 hi3 hi4;have HR:=h_ hr;have HF:=h_ hf;have HN:=h_ hn;have HE:=h_ he;have HZ:=h_ hz;clear hr hf hn he hz;go_enter Tryz.func13,Tryz.ntmps13
 go_wp2_with fail
 refine(objectsValid_any A os c w HR.o HF.o).mono ?_;rintro e w1 ⟨rfl,b1⟩;have HB:=h_ b1;clear b1;cases hok:objsOk (os.map OV.d)
 ·have HV:=h_ (show deskA (os.map OV.d) s=([],[])from if_pos hok);clear hok;go_wp2_with fail
  go_ret2;rw[HV.o];exact⟨none,0,[],rfl,rfl,⟨Row.empty _ _ _ _ _,(λp hp=>by cases hp),List.Pairwise.nil⟩,HB.o⟩
 obtain⟨h4,hall⟩:=objs_all hok;have HAL:=h_ (λo (ho:o∈os)=>valid_len (hall o ho));have HOK:=h_ hok;have HDA:=h_ (show deskA (os.map OV.d) s=(if s=joinT then joinA (os.map OV.d)else if cutR s=[]then(os.map OV.d,whatT)else if cutW s=loadT then loadA (os.map OV.d) (cutR s)else if cutW s=linkT then(os.map OV.d,linkI (os.map OV.d) (cutR s))else if cutW s=findT then(os.map OV.d,findA (os.map OV.d) (cutR s))else(os.map OV.d,whatT))from by
  unfold deskA;rw[if_neg (by rw[hok];decide)])
 clear hok hall;go_wp2_with fail
 refine(copyObjects_any A os c w1 ((HR.o.below HB.o).more HB.o.size) HF.o HN.o (λo ho=>by have:=HAL.o o ho;omega)).mono ?_;rintro e w2 ⟨A2,c2,qs,rfl,hqd,o2,b2⟩;have HQ:=h_ hqd;have HC:=h_ (o2.down HB.o.size);have hql:qs.length=os.length:=by
  have h:=congrArg List.length hqd;simpa using h
 have HQL:=h_ hql;have hq4:qs.length<=4:=by omega
 replace HB:=c_ HB b2;clear b2;clear hqd o2 hql;have HCU:=h_ (cut_any (bs s) (by rw[bs_size];exact hs) w2 (HE.o.below HB.o));rw[show(bs s).data.toList=s from by simp[bs]]at HCU;go_wp2_with fail
 refine HCU.o.mono ?_;clear HCU;rintro e w3 ⟨⟨bt,rfl⟩,b3⟩;replace HB:=c_ HB b3;replace HC:=h_ (HC.o.call b3);clear b3;obtain⟨hcw,hcr,hct⟩:=cut_len s;have HCT:=h_ hct;clear hct;generalize cutW s=W at *;generalize cutR s=T at *;by_cases hj:s=joinT
 ·have hq:((bs s).toList==[106,111,105,110])=true:=text_eq hj;have HDJ:=h_ (HDA.o.trans (if_pos hj));clear hj HDA HCT;go_wp2_with fail
  clear hq;refine(joinAll_any A os c w3 ((HR.o.below HB.o).more HB.o.size) HF.o HN.o hc).mono ?_;rintro e w4 ⟨q,rfl,b4,hq4'⟩;have HQ4:=h_ hq4';have hw34:=HB.o.size;replace HB:=c_ HB b4;replace HC:=h_ (HC.o.call b4);clear b4;clear hq4';have BA:Below w4.heap.size w4 (w4.alloc (.cells #[.slice q.A q.ps.length q.c,.slice q.Y q.ys.length q.yc] 26)):=b_;have HX:=h_ (Box.new w4 26 #[.slice q.A q.ps.length q.c,.slice q.Y q.ys.length q.yc]);have HO:=h_ (λd (hd:joinAll (os.map OV.d)=some d)=>And.intro (HQ4.o d hd).1 (((HQ4.o d hd).2.down hw34).call BA));replace HB:=c_ HB BA;replace HC:=h_ (HC.o.call BA);clear BA;clear HQ4;cases hja:joinAll (os.map OV.d)with
  |none=>
   have HV:=h_ (show deskA (os.map OV.d) s=(os.map OV.d,noT)from by
    rw[HDJ.o];unfold joinA;rw[hja])
   clear HO hja HDJ;simp only[Option.isSome];go_wp2_with fail
   go_ret2;rw[HV.o];exact⟨A2,c2,qs,rfl,HQ.o,HC.o,HB.o⟩
  |some d=>
   have HV:=h_ (show deskA (os.map OV.d) s=([d],okT)from by
    rw[HDJ.o];unfold joinA;rw[hja])
   obtain⟨rfl,hoq⟩:=HO.o d hja;have HOQ:=h_ hoq;clear HO hoq HDJ hja;simp only[Option.isSome];have x0:=d_ HX.o 0;have x1:=d_ HX.o 1;have hxl:=HX.o.lt;go_upto_if 36 with(fail)
   generalize w4.alloc (.cells #[.slice q.A q.ps.length q.c,.slice q.Y q.ys.length q.yc] 26)=w5 at *;generalize w4.heap.size=Z at *;have B6:Below w5.heap.size w5 (w5.alloc (.cells #[.slice q.A q.ps.length q.c,.slice q.Y q.ys.length q.yc] 26)):=b_;have HONE:=h_ (own_one HOQ.o HB.o.size);replace HB:=c_ HB B6;clear B6;go_wp2_with fail
   go_ret2;rw[HV.o];exact⟨_,1,[q],rfl,rfl,HONE.o,HB.o⟩
 have hjq:((bs s).toList==[106,111,105,110])=false:=text_ne hj;have HD1:=h_ (HDA.o.trans (if_neg hj));clear hj HDA;by_cases ht:T=[]
 ·have hq:(bs T).toList.isEmpty=true:=by rw[CDeskLI.bs_list,ht];rfl
  have HV:=h_ (HD1.o.trans (if_pos ht));clear ht HD1 HCT;go_wp2_with fail
  go_ret2;rw[HV.o];exact⟨A2,c2,qs,rfl,HQ.o,HC.o,HB.o⟩
 have hq:(bs T).toList.isEmpty=false:=by
  rw[CDeskLI.bs_list];cases T with
  |nil=>exact absurd rfl ht
  |cons x r=>rfl
 have hlen:=HCT.o ht;have HD2:=h_ (HD1.o.trans (if_neg ht));clear ht HD1 HCT;by_cases hw:W=loadT
 ·have hwq:((bs W).toList==[108,111,97,100])=true:=text_eq hw;have hw4:W.length=4:=by rw[hw];rfl
  have HD3:=h_ (HD2.o.trans (if_pos hw));have hT:T.length<=1048571:=by omega
  clear hw HD2 hlen hw4;have HSP:=h_ (split_any (124:UInt8) (bs T) (by rw[bs_size];omega) w3 (HE.o.below HB.o));rw[show(bs T).data.toList=T from by simp[bs]]at HSP;have hsl:=(splt_len (124:UInt8) T).2;have HSM:=h_ (splt_mem (124:UInt8) T);have HLO:=h_ (show loadA (os.map OV.d) T=(match readI (splt 124 T)with
   |some o=>if(os.map OV.d).length=4 then(os.map OV.d,noT)else(os.map OV.d++[o],okT)
   |none=>(os.map OV.d,noT))from rfl)
  go_wp2_with fail
  refine HSP.o.mono ?_;clear HSP;rintro e w4 ⟨A4,c4,rfl,row4,b4⟩;rw[show(List.map bs (splt 124 T)).length=(splt 124 T).length from by simp]at *;have HRW:=h_ row4;replace HB:=c_ HB b4;replace HC:=h_ (HC.o.call b4);clear b4;clear row4;generalize splt 124 T=ls at *;have HRD:=h_ (readDump_any A4 ls c4 w4 HRW.o.rd (by omega) (λx hx=>by have:=HSM.o x hx;omega) (HE.o.below HB.o));go_wp2_with fail
  refine HRD.o.mono ?_;clear HRD HRW HSM;rintro e w5 ⟨q,rfl,b5,hq5⟩;have HQ5:=h_ hq5;have hw45:=HB.o.size;have HOLD:=h_ (λx (hx:x∈qs) j (hj:oblk x j)=>(show j<w4.heap.size from((HC.o.2.1 x hx).lt j hj).2));replace HB:=c_ HB b5;replace HC:=h_ (HC.o.call b5);clear b5;clear hq5;have BA:Below w5.heap.size w5 (w5.alloc (.cells #[.slice q.A q.ps.length q.c,.slice q.Y q.ys.length q.yc] 26)):=b_;have HX:=h_ (Box.new w5 26 #[.slice q.A q.ps.length q.c,.slice q.Y q.ys.length q.yc]);have HO:=h_ (λd (hd:readI ls=some d)=>And.intro (HQ5.o d hd).1 (And.intro (((HQ5.o d hd).2.down hw45).call BA) (λj (hj:oblk q j)=>(show w4.heap.size<=j from((HQ5.o d hd).2.lt j hj).1))));replace HB:=c_ HB BA;replace HC:=h_ (HC.o.call BA);clear BA;clear HQ5;cases hri:readI ls with
  |none=>
   have HV:=h_ (show deskA (os.map OV.d) s=(os.map OV.d,noT)from by rw[HD3.o,HLO.o,hri]);clear HO hri HD3 HLO hwq hq hjq;simp only[Option.isSome];go_wp2_with fail
   go_ret2;rw[HV.o];exact⟨A2,c2,qs,rfl,HQ.o,HC.o,HB.o⟩
  |some d=>
   obtain⟨rfl,hoq,hnew⟩:=HO.o d hri;have HOQ:=h_ hoq;have HNEW:=h_ hnew;clear HO hoq hnew;simp only[Option.isSome];by_cases h44:os.length=4
   ·have HV:=h_ (show deskA (os.map OV.d) s=(os.map OV.d,noT)from by
     rw[HD3.o,HLO.o,hri];simp only;rw[if_pos (by rw[List.length_map];exact h44)])
    have hqq:((os.length:Int)==4)=true:=beq_iff_eq.2 (by omega);clear hri HD3 HLO h44 hwq hq hjq;go_wp2_with fail
    go_ret2;rw[HV.o];exact⟨A2,c2,qs,rfl,HQ.o,HC.o,HB.o⟩
   ·have HV:=h_ (show deskA (os.map OV.d) s=(os.map OV.d++[q.d],okT)from by
     rw[HD3.o,HLO.o,hri];simp only;rw[if_neg (by rw[List.length_map];exact h44)])
    have hqq:((os.length:Int)==4)=false:=beq_eq_false_iff_ne.2 (by omega);clear hri HD3 HLO h44 hwq hq hjq;have x0:=d_ HX.o 0;have x1:=d_ HX.o 1;have hxl:=HX.o.lt;go_upto_if 58 with(fail)
    generalize w5.alloc (.cells #[.slice q.A q.ps.length q.c,.slice q.Y q.ys.length q.yc] 26)=w6 at *;generalize w5.heap.size=Z at *;have B7:Below w6.heap.size w6 (w6.alloc (.cells (objC q).toArray 26)):=b_;have HC7:=h_ (HC.o.call B7);have HOQ7:=h_ (HOQ.o.call B7);replace HB:=c_ HB B7;clear B7;clear HC HOQ;simp only[objC]at HC7 HOQ7 HB ⊢;go_wp2_with (at_builtin;refine wpList_app _ rfl (.tmp 60) (.tmp 62) 32 rfl 26 i0 (.agg #[.slice none 0 0,.slice none 0 0]) 2 48 Tryz.underlying32 HI.o.1 HI.o.2.1 HI.o.2.2.1 HI.o.2.2.2 rfl (by decide) w.heap.size A2 qs.length c2 (cellsOf objC qs) rfl HC7.o.1 HB.o.size (some ⟨w6.heap.size,0,none⟩) 1 1 (objC q) rfl (rd_lit w6 (objC q).toArray 26 _ rfl) rfl (λh=>by cases h) (one_objC q) ?n1 ?n2 ?_)
    case n1=>unfold maxLen;omega
    case n2=>omega
    intro A8 n8 c8 w8 hn8 o8 g8 k8;have HOW:=h_ (OwnOs.snoc HC7.o HOQ7.o HOLD.o HNEW.o hn8 o8 g8);have HB8:=h_ (HB.o.grown g8 HB.o.size (λj hj=>(HC7.o.1.lt j hj).1));have hn8':n8=(qs++[q]).length:=by rw[hn8,List.length_append];rfl
    subst hn8';clear hn8 o8 g8 k8 HC7 HOQ7;go_wp2_with fail
    go_ret2;rw[HV.o];exact⟨A8,c8,qs++[q],rfl,by rw[List.map_append,HQ.o];rfl,HOW.o,HB8.o⟩
 have hwq:((bs W).toList==[108,111,97,100])=false:=text_ne hw;have HD3:=h_ (HD2.o.trans (if_neg hw));clear hw HD2;by_cases hw:W=linkT
 ·have hwq2:((bs W).toList==[108,105,110,107])=true:=text_eq hw;have HV:=h_ (HD3.o.trans (if_pos hw));clear hw HD3;have HDL:=h_ (deskLink_any A os c T w3 ((HR.o.below HB.o).more HB.o.size) HF.o HN.o HZ.o (by omega) (HE.o.below HB.o));go_wp2_with fail
  clear hwq2 hwq hq hjq;refine HDL.o.mono ?_;rintro e w4 ⟨rfl,b4⟩;replace HB:=c_ HB b4;replace HC:=h_ (HC.o.call b4);clear b4;go_wp2_with fail
  go_ret2;rw[HV.o];exact⟨A2,c2,qs,rfl,HQ.o,HC.o,HB.o⟩
 have hwq2:((bs W).toList==[108,105,110,107])=false:=text_ne hw;have HD4:=h_ (HD3.o.trans (if_neg hw));clear hw HD3;by_cases hw:W=findT
 ·have hwq3:((bs W).toList==[102,105,110,100])=true:=text_eq hw;have HD5:=h_ (HD4.o.trans (if_pos hw));clear hw HD4;have HFN:=h_ (findName_any A os c (bs T) w3 ((HR.o.below HB.o).more HB.o.size) ⟨by omega,λo ho=>by have:=HAL.o o ho;omega⟩);go_wp2_with fail
  clear hwq3 hwq2 hwq hq hjq;refine HFN.o.mono ?_;clear HFN;rintro e w4 ⟨rfl,b4⟩;replace HB:=c_ HB b4;replace HC:=h_ (HC.o.call b4);clear b4;have HFA:=h_ (show findA (os.map OV.d) T=(match findN (os.map OV.d) (bs T)with
   |some g=>Lib.itoa g.1++46::Lib.itoa g.2
   |none=>noT)from rfl)
  have BA:Below w4.heap.size w4 (w4.alloc (.cells #[.int .i64 (gin (findN (os.map OV.d) (bs T))),.int .i64 (gat (findN (os.map OV.d) (bs T)))] 79)):=b_;have HX:=h_ (Box.new w4 79 #[.int .i64 (gin (findN (os.map OV.d) (bs T))),.int .i64 (gat (findN (os.map OV.d) (bs T)))]);replace HB:=c_ HB BA;replace HC:=h_ (HC.o.call BA);clear BA;simp only[givV];cases hfn:findN (os.map OV.d) (bs T)with
  |none=>
   have HV:=h_ (show deskA (os.map OV.d) s=(os.map OV.d,noT)from by rw[HD5.o,HFA.o,hfn]);rw[hfn]at HB HC HX;clear hfn HD5 HFA;simp only[Option.isSome];go_wp2_with fail
   go_ret2;rw[HV.o];exact⟨A2,c2,qs,rfl,HQ.o,HC.o,HB.o⟩
  |some g=>
   obtain⟨hg1,hg2⟩:=find_bd HOK.o hfn;have HV:=h_ (show deskA (os.map OV.d) s=(os.map OV.d,Lib.itoa g.1++46::Lib.itoa g.2)from by rw[HD5.o,HFA.o,hfn]);rw[hfn]at HB HC HX;clear hfn HD5 HFA;obtain⟨g1,g2⟩:=g;simp only[Option.isSome,gin,gat]at HB HC HX HV hg1 hg2 ⊢;have hi1:=Lib.itoa_length_le (g1:Int) (by omega) (by omega);have hi2:=Lib.itoa_length_le (g2:Int) (by omega) (by omega);have x0:=d_ HX.o 0;have x1:=d_ HX.o 1;have hxl:=HX.o.lt;go_upto_if 81 with(fail)
   generalize w4.alloc (.cells #[.int .i64 g1,.int .i64 g2] 79)=w5 at *;generalize w4.heap.size=Z at *;go_wp2_with fail
   refine Reg.startT (λV=>V.cell? ⟨Z,0,none⟩=some (.int .i64 g1)/\V.cell? ⟨Z,1,none⟩=some (.int .i64 g2)) (λ_=>false) (by kernel_rfl) ?_;have hHeld:=And.intro x0 x1;refine t_ 0 rfl ?_;refine t_ 1 rfl ?_;refine t_ 2 rfl ?_;refine t_ 5 rfl ?_;refine t_ 6 rfl ?_;refine Reg.oneT (i:=3) rfl (by kernel_rfl) (λK hK=>?_);go_simp
   refine(itoa_any (g1:Int) (by omega) (by omega) _ (HE.o.below (below_dr HB.o))).mono ?_;rintro e w6 ⟨rfl,b6⟩;have b6':=of_drew b6;have hHeld:w6.cell? ⟨Z,0,none⟩=some (.int .i64 g1)/\w6.cell? ⟨Z,1,none⟩=some (.int .i64 g2):=⟨(b6'.cell (p:=⟨Z,0,none⟩) hxl).trans x0,(b6'.cell (p:=⟨Z,1,none⟩) hxl).trans x1⟩;have hxl6:Z<w6.heap.size:=Nat.lt_of_lt_of_le hxl b6'.size;replace HB:=h_ (HB.o.trans (b6'.mono HB.o.size));replace HC:=h_ (HC.o.call b6');clear b6';refine hK.out _ _ hHeld ?_;clear hK K b6;try simp only[y1_,y2_,y3_,Act.put,y4_,y5_,y6_]
   have hs1:¬9223372036854775807<(bs (Lib.itoa (g1:Int))).size+1:=by rw[bs_size];omega
   refine t_ 4 rfl ?_;refine Reg.oneT (i:=7) rfl (by kernel_rfl) (λK hK=>?_);go_simp
   refine(itoa_any (g2:Int) (by omega) (by omega) _ (HE.o.below HB.o)).mono ?_;rintro e w7 ⟨rfl,b7⟩;have hHeld:w7.cell? ⟨Z,0,none⟩=some (.int .i64 g1)/\w7.cell? ⟨Z,1,none⟩=some (.int .i64 g2):=⟨(b7.cell (p:=⟨Z,0,none⟩) hxl6).trans hHeld.1,(b7.cell (p:=⟨Z,1,none⟩) hxl6).trans hHeld.2⟩;replace HB:=c_ HB b7;replace HC:=h_ (HC.o.call b7);clear b7;refine hK.out _ _ hHeld ?_;clear hK K;try simp only[y1_,y2_,y3_,Act.put,y4_,y5_,y6_]
   have hs2:¬9223372036854775807<(bs (Lib.itoa (g1:Int))).size+1+(bs (Lib.itoa (g2:Int))).size:=by rw[bs_size,bs_size];omega
   refine t_ 8 rfl ?_;refine t_ 9 rfl ?_;refine t_ 10 rfl ?_;refine Reg.doneT (by kernel_rfl) ?_ _;have HTX:=h_ (show bs (Lib.itoa (g1:Int))++(⟨#[46]⟩:ByteArray)++bs (Lib.itoa (g2:Int))=bs (Lib.itoa (g1:Int)++46::Lib.itoa (g2:Int))from by
    rw[show(⟨#[46]⟩:ByteArray)=bs [46]from rfl,bs_app,bs_app];simp)
   clear hHeld x0 x1 hxl;go_wp2_with fail
   go_ret2;rw[HV.o];exact⟨A2,c2,qs,by rw[HTX.o];rfl,HQ.o,HC.o,HB.o⟩
 have hwq3:((bs W).toList==[102,105,110,100])=false:=text_ne hw;have HV:=h_ (HD4.o.trans (if_neg hw));clear hw HD4;go_wp2_with fail
 go_ret2;rw[HV.o];exact⟨A2,c2,qs,rfl,HQ.o,HC.o,HB.o⟩
end CDeskI
/- ReadHex: digits back to bytes; the reference's. -/
namespace CUnhexS
open Kit CEqual PDump CHexI CApFix CUnhexI
theorem digit_eq(j:Nat)(hj:j<16)(c:UInt8):(((hexC j).toNat:Int)==(c.toNat:Int))=decide (hexV c=(j:Int)):=by
 have key:∀(i:Fin 16) (b:Fin 256),(((hexC i.1).toNat:Int)==((UInt8.ofNat b.1).toNat:Int))=decide (hexV (UInt8.ofNat b.1)=(i.1:Int)):=by decide+kernel
 have:=key ⟨j,hj⟩ ⟨c.toNat,UInt8.toNat_lt c⟩;simpa only[UInt8.ofNat_toNat]using this
theorem index_hexI(j:Nat)(h1:j<16)(V:World):(Instr.index 9 (.string ⟨#[48,49,50,51,52,53,54,55,56,57,97,98,99,100,101,102]⟩) (.int .i64 (j:Int))).run Tryz.prog V=.ok (.int .u8 (hexC j).toNat) V:=by
 have h:j=0\/j=1\/j=2\/j=3\/j=4\/j=5\/j=6\/j=7\/j=8\/j=9\/j=10\/j=11\/j=12\/j=13\/j=14\/j=15:=by omega
 clear h1;rcases h with rfl|rfl|rfl|rfl|rfl|rfl|rfl|rfl|rfl|rfl|rfl|rfl|rfl|rfl|rfl|rfl
 all_goals(simp[Instr.index,run_underlying Tryz.underlying9,asIntOf,go_sem];rfl)
def found(j:Nat)(x:Int):Int:=if x<j then x else -1
theorem found_zero{x:Int}(h:-1<=x):found 0 x=-1:=by
 unfold found;split<;>omega
theorem found_all{x:Int}(h:x<=15):found 16 x=x:=by unfold found;rw[if_pos (by omega)]
theorem found_hit{x:Int}{j:Nat}(h:x=j):found (j+1) x=j:=by unfold found;rw[if_pos (by omega),h]
theorem found_miss{x:Int}{j:Nat}(h:¬x=j):found (j+1) x=found j x:=by
 unfold found;split<;>split<;>omega
def byteAt(s:ByteArray)(k:Nat):UInt8:=s.data.toList.getD k 0
theorem byteAt_eq(s:ByteArray)(k:Nat)(h:k<s.size):s[k]'h=byteAt s k:=by
 have h':k<s.data.toList.length:=by rw[Array.length_toList];exact h
 rw[byteAt,List.getD_eq_getElem?_getD,List.getElem?_eq_getElem h']
 rfl
theorem unhex_bad:∀(l:List UInt8) (i:Nat),i<l.length->hexV (l.getD i 0)<0->unhex l=none
 |[],i,h,_=>absurd h (Nat.not_lt_zero _)
 |[_],_,_,_=>rfl
 |a::b::r,0,_,hx=>by rw[unhex,if_pos (Or.inl (by simpa using hx))]
 |a::b::r,1,_,hx=>by rw[unhex,if_pos (Or.inr (by simpa using hx))]
 |a::b::r,i+2,h,hx=>by
  rw[unhex,unhex_bad r i (by simpa using h) (by simpa using hx)];split<;>rfl
def St(s:ByteArray)(k:Nat)(a:Int)(ys:List Int):Prop:=0<=a/\a<=15/\(2*ys.length=k/\a=0\/2*ys.length+1=k/\a=hexV (byteAt s (2*ys.length)))
def RetFG(r:Option (List Int))(w:World)(e:Ending)(w':World):Prop:=∃A c,e=.returned (.tuple #[.slice A (r.getD []).length c,.bool r.isSome])/\Row w' w.heap.size 5 1 A (r.getD []).length c (ints .u8 (r.getD []))/\Below w.heap.size w w'
set_option maxHeartbeats 4000000 in
theorem readHexS_any(s:ByteArray)(hs:s.size<=1048576)(w:World):
  Calls Tryz.prog 112 #[.string s] w (RetFG (unhex s.data.toList) w):=by
 obtain⟨i0,hi1,hi2,hi3,hi4⟩:=info_parts CBytes.info8;have HI:=h_ (And.intro hi1 (And.intro hi2 (And.intro hi3 hi4)));clear hi1 hi2 hi3 hi4;have HB:=h_ (show Below w.heap.size w (w.alloc (.cells #[] 5))from b_);go_enter Tryz.func112,Tryz.ntmps112
 go_wp2_with fail
 generalize w.alloc (.cells #[] 5)=w0 at *;go_loopw [4,5,6] (λv d i wi=>∃(k:Nat) (A1:Option Addr) (c1:Nat) (ys:List Int) (a:Int),k<=s.size/\v=.slice A1 ys.length c1/\d=.int .i64 a/\i=.int .i64 k/\St s k a ys/\unhex s.data.toList=(unhex (s.data.toList.drop (2*ys.length))).map (ys++·)/\Row wi w.heap.size 5 1 A1 ys.length c1 (ints .u8 ys)/\Below w.heap.size w wi) (λ_ _ i _=>s.size-(intOf i).toNat)
 case atStart=>exact⟨0,_,0,[],0,Nat.zero_le _,rfl,rfl,rfl,⟨by omega,by omega,Or.inl ⟨rfl,rfl⟩⟩,by simp,Row.empty _ _ _ _ _,HB.o⟩
 case round=>
  rename World=>wk
  clear HB;obtain⟨k,A1,c1,ys,a,hk,rfl,rfl,rfl,hst,hu,hrow,hb⟩:=hrel;obtain⟨ha0,ha1,hst⟩:=hst;have HST:=h_ hst;have HU:=h_ hu;have hl2:ys.length<=1048576:=by rcases hst with h|h<;>omega
  have HW:=h_ hrow;have HB:=h_ hb;clear hu hrow hb hst;by_cases hlt:k<s.size
  ·have hx:=hexV_bd (s[k]'hlt);have HBY:=h_ (byteAt_eq s k hlt);have HDG:=h_ (λ(j:Nat) (hj:j<16)=>digit_eq j hj (s[k]'hlt));have HBAD:=h_ (unhex_bad s.data.toList k (by rw[Array.length_toList];exact hlt));rw[show s.data.toList.getD k 0=s[k]'hlt from HBY.o.symm]at HBAD;have HXX:=h_ (show hexV (s[k]'hlt)=hexV (byteAt s k)from congrArg hexV HBY.o);generalize hxe:hexV (s[k]'hlt)=x at *;have HXE:=h_ hxe;clear hxe;obtain⟨hx1,hx2⟩:=hx;go_wp2_with fail
   go_loopw [7,8] (λd i wi=>∃j:Nat,j<=16/\d=.int .i64 (found j x)/\i=.int .i64 j/\Row wi w.heap.size 5 1 A1 ys.length c1 (ints .u8 ys)/\Below w.heap.size w wi) (λ_ i _=>16-(intOf i).toNat)
   case atStart=>exact⟨0,Nat.zero_le _,by rw[found_zero hx1],rfl,HW.o,HB.o⟩
   case round=>
    rename World=>wi
    clear HW HB;obtain⟨j,hj,rfl,rfl,hrow,hb⟩:=hrel;have HW:=h_ hrow;have HB:=h_ hb;clear hrow hb;by_cases hlj:j<16
    ·have hix:=λV=>index_hexI j hlj V;have hdg:=HDG.o j hlj;by_cases he:x=j
     ·have HFD:=h_ (found_hit he);rw[decide_eq_true he]at hdg;clear he;generalize found j x=fj at *;go_wp2_with fail
      refine Reg.startT (λ_=>True) (λ_=>false) (by kernel_rfl) ?_;have hHeld:True:=trivial;refine t_ 0 rfl ?_;refine t_ 1 rfl ?_;refine t_ 2 rfl ?_;refine t_ 3 rfl ?_;refine t_ 4 rfl ?_;refine t_ 5 rfl ?_;refine Reg.doneT (by kernel_rfl) ?_ _;have HW':=h_ HW.o.drew;have HB':=h_ HB.o.drew;generalize wi.drew=wj at *;clear hHeld hix hdg HW HB;go_wp2_with fail
      refine⟨⟨j+1,by omega,by rw[HFD.o],by go_num,HW'.o,HB'.o⟩,by simp[intOf];omega⟩
     ·have HFD:=h_ (found_miss he);rw[decide_eq_false he]at hdg;clear he;generalize found j x=fj at *;go_wp2_with fail
      refine Reg.startT (λ_=>True) (λ_=>false) (by kernel_rfl) ?_;have hHeld:True:=trivial;refine t_ 0 rfl ?_;refine t_ 1 rfl ?_;refine t_ 2 rfl ?_;refine t_ 3 rfl ?_;refine t_ 4 rfl ?_;refine t_ 5 rfl ?_;refine Reg.doneT (by kernel_rfl) ?_ _;have HW':=h_ HW.o.drew;have HB':=h_ HB.o.drew;generalize wi.drew=wj at *;clear hHeld hix hdg HW HB;go_wp2_with fail
      refine⟨⟨j+1,by omega,by rw[HFD.o],by go_num,HW'.o,HB'.o⟩,by simp[intOf];omega⟩
    ·have hje:j=16:=by omega
     subst hje;rw[found_all hx2];clear HDG hj hlj;by_cases hx0:x<0
     ·have HV:=h_ (HBAD.o hx0);have hd:decide (x<0)=true:=decide_eq_true hx0;have BF:Below wi.heap.size wi (wi.alloc (.cells #[] 5)):=b_;replace HB:=c_ HB BF;replace HW:=h_ (HW.o.call BF);clear BF;go_wp2_with fail
      go_ret2;rw[HV.o];exact⟨_,_,rfl,Row.empty _ _ _ _ _,HB.o⟩
     have hx0':0<=x:=by omega
     have hd:decide (x<0)=false:=decide_eq_false hx0;have hw1:IntKind.i64.wrap (16*a)=16*a:=IntWalk.i64_in _ (by omega);have hw2:IntKind.i64.wrap (16*a+x)=16*a+x:=IntWalk.i64_in _ (by omega);have hst:=HST.o;rcases hst with⟨hyl,hae⟩|⟨hyl,hae⟩
     ·have hm:((k:Int)).tmod 2=0:=by rw[Int.tmod_eq_emod_of_nonneg (by omega)];omega
      subst hae;have HS2:=h_ (show St s (k+1) x ys from⟨hx0',hx2,Or.inr ⟨by omega,by rw[hyl];exact HXX.o⟩⟩);have hz:(16*(0:Int)+x)=x:=by omega
      clear HXX HXE HBY HBAD HST hyl;go_wp2_with fail
      refine⟨⟨k+1,A1,c1,ys,x,by omega,rfl,by simp,by go_num,HS2.o,HU.o,HW.o,HB.o⟩,by simp[intOf];omega⟩
     ·have hm:((k:Int)).tmod 2=1:=by rw[Int.tmod_eq_emod_of_nonneg (by omega)];omega
      have hp1:2*ys.length+1<s.size:=by omega
      have HV:=h_ (show unhex s.data.toList=(unhex (s.data.toList.drop (2*(ys++[16*a+x]).length))).map ((ys++[16*a+x])++·)from by
       have h:=unhex_step s (2*ys.length) hp1 ys HU.o;rw[byteAt_eq,byteAt_eq,show 2*ys.length+1=k from hyl,<-HXX.o,<-hae,if_neg (by omega)]at h;rw[h,List.length_append]
       rfl)
      have hw3:IntKind.u8.wrap (16*a+x)=16*a+x:=wrap8 _ (by omega);have HYL:=h_ hyl;clear HXX HXE HBY HBAD HST HU hae hyl;have BA:Below wi.heap.size wi (wi.alloc (.cells #[.int .u8 (16*a+x)] 5)):=b_;replace HB:=c_ HB BA;replace HW:=h_ (HW.o.call BA);clear BA;go_wp2_with (at_builtin;refine wpList_app (wi.alloc (.cells #[.int .u8 (16*a+x)] 5)) rfl (.tmp 37) (.tmp 40) 22 rfl 5 i0 (.int .u8 0) 1 1 Tryz.underlying22 HI.o.1 HI.o.2.1 HI.o.2.2.1 HI.o.2.2.2 rfl (by decide) w.heap.size A1 ys.length c1 (ints .u8 ys) rfl HW.o HB.o.size (some ⟨wi.heap.size,0,none⟩) 1 1 [.int .u8 (16*a+x)] rfl (rd_lit wi #[.int .u8 (16*a+x)] 5 _ rfl) rfl (λh=>by cases h) (one_u8 _) ?n1 ?n2 ?_)
      case n1=>unfold maxLen;omega
      case n2=>omega
      intro A9 n9 c9 wz hn9 o9 g9 k9;subst hn9;have HB9:=h_ (HB.o.grown g9 HB.o.size (λj hj=>(HW.o.lt j hj).1));have HW9:=h_ (show Row wz w.heap.size 5 1 A9 (ys++[16*a+x]).length c9 (ints .u8 (ys++[16*a+x]))from by
       rw[List.length_append,show ints .u8 (ys++[16*a+x])=ints .u8 ys++[.int .u8 (16*a+x)]from by simp[ints]];exact o9)
      have hq:=HYL.o;have HS2:=h_ (show St s (k+1) 0 (ys++[16*a+x])from⟨by omega,by omega,Or.inl ⟨by rw[List.length_append];simp only[List.length_singleton];omega,rfl⟩⟩);clear o9 g9 k9 HW HB hq;generalize hG:ys++[16*a+x]=zs at *;have hzl:zs.length=ys.length+1:=by rw[<-hG];simp
      rw[<-hzl];clear hG hzl;go_wp2_with fail
      refine⟨⟨k+1,A9,c9,zs,0,by omega,rfl,rfl,by go_num,HS2.o,HV.o,HW9.o,HB9.o⟩,by simp[intOf];omega⟩
  ·have hke:k=s.size:=by omega
   have hst:=HST.o;rcases hst with⟨hyl,hae⟩|⟨hyl,hae⟩
   ·have hm:((s.size:Int)).tmod 2=0:=by rw[Int.tmod_eq_emod_of_nonneg (by omega)];omega
    have HV:=h_ (show unhex s.data.toList=some ys from by
     rw[HU.o,List.drop_eq_nil_of_le (by rw[Array.length_toList];exact Nat.le_of_eq (by rw[hyl,hke];rfl))];simp[unhex])
    clear hke hae hyl HST HU;go_wp2_with fail
    go_ret2;rw[HV.o];exact⟨A1,c1,rfl,HW.o,HB.o⟩
   ·have hm:((s.size:Int)).tmod 2=1:=by rw[Int.tmod_eq_emod_of_nonneg (by omega)];omega
    have HV:=h_ (unhex_odd s.data.toList (by rw[Array.length_toList];show s.size%2=1;omega));have BF:Below wk.heap.size wk (wk.alloc (.cells #[] 5)):=b_;replace HB:=c_ HB BF;replace HW:=h_ (HW.o.call BF);clear BF;clear hke hae hyl HST HU;go_wp2_with fail
    go_ret2;rw[HV.o];exact⟨_,_,rfl,Row.empty _ _ _ _ _,HB.o⟩
end CUnhexS
/- l8Read: numbers read; the reference's. -/
namespace CRdN
open Kit CEqual CNumTxt PNum PDump CHexI CHexS CSorted CWordsS
def sg(l:List UInt8):Nat:=if l.head?=some 45 then 1 else 0
def P10:Nat->Int
 |0=>1
 |k+1=>10*P10 k
theorem p10_le{k:Nat}(h:k<=6):1<=P10 k/\P10 k<=1000000:=by
 have key:∀i:Fin 7,1<=P10 i.1/\P10 i.1<=1000000:=by decide
 exact key ⟨k,by omega⟩
def vk(l:List UInt8)(k:Nat):Int:=dfold 0 ((l.take k).drop (sg l))
theorem vk_zero(l:List UInt8):vk l 0=0:=by simp[vk,dfold]
theorem vk_one{l:List UInt8}(h:l.head?=some 45):vk l 1=0:=by
 have e:sg l=1:=if_pos h;unfold vk;rw[e];have h2:((l.take 1).drop 1)=[]:=by
  apply List.eq_nil_of_length_eq_zero
  simp
 rw[h2]
 rfl
theorem vk_next{l:List UInt8}{k:Nat}{c:UInt8}(h:l.take (k+1)=l.take k++[c])(hm:sg l<=k)(hk:k<=l.length):vk l (k+1)=10*vk l k+c.toNat-48:=by unfold vk;rw[h,List.drop_append_of_le_length (by rw[List.length_take];omega),dfold_snoc]
theorem vk_all(l:List UInt8):(if l.head?=some 45 then -vk l l.length else vk l l.length)=rdV l:=by
 unfold vk sg;rw[List.take_length];cases l with
 |nil=>rfl
 |cons c r=>
  simp only[List.head?_cons,Option.some.injEq];show _=if c=45 then -dfold 0 r else dfold 0 (c::r)
  by_cases h:c=45
  ·rw[if_pos h,if_pos h,if_pos h]
   rfl
  ·rw[if_neg h,if_neg h,if_neg h]
   rfl
theorem head_at(s:ByteArray)(h:0<s.size):s.data.toList.head?=some (s[0]'h):=by
 obtain⟨⟨l⟩⟩:=s;cases l with
 |nil=>simp[ByteArray.size]at h
 |cons c r=>rfl
theorem byte_at(s:ByteArray)(k:Nat)(h:k<s.size):s.data.toList[k]?=some (s[k]'h):=by
 have h':k<s.data.toList.length:=by rw[Array.length_toList];exact h
 rw[List.getElem?_eq_getElem h']
 rfl
theorem len_size(s:ByteArray):s.data.toList.length=s.size:=by rw[Array.length_toList];rfl
set_option maxHeartbeats 4000000 in
theorem read_any(s:ByteArray)(hs:s.size<=1048576)(w:World):Calls Tryz.prog 66 #[.string s] w (Ret (.int .i64 (rdN s.data.toList)) w):=by
 go_enter Tryz.func66,Tryz.ntmps66
 go_wp2_with fail
 go_loop [3,4] (λv i=>∃(k:Nat) (x:Int),k<=s.size/\v=.int .i64 x/\i=.int .i64 k/\x=vk s.data.toList k/\k<=6/\0<=x/\x<P10 k/\(0<k->sg s.data.toList<=k)) (λ_ i=>s.size-(intOf i).toNat)
 case atStart=>exact⟨0,0,Nat.zero_le _,rfl,rfl,(vk_zero _).symm,by omega,by omega,by decide,λh=>absurd h (by omega)⟩
 case round=>
  obtain⟨k,x,hk,rfl,rfl,hx,hk6,hx0,hx1,hsg⟩:=hrel;have HX:=h_ hx;have HSG:=h_ hsg;have hP:=p10_le hk6;have HP:=h_ hx1;have hx2:x<=1000000:=by omega
  clear hx hsg hx1;by_cases hlt:k<s.size
  ·have HT:=h_ (take_byte s k hlt);have HBY:=h_ (byte_at s k hlt);have HH:=h_ (λh=>head_at s h);have HLS:=h_ (len_size s);have hc0:(0:Int)<=((s[k]'hlt).toNat:Int):=by omega
   have HSK:=h_ (λ(h:k=0) (h2:0<s.size)=>(show s[0]'h2=s[k]'hlt from by subst h;rfl));generalize hcc:s[k]'hlt=c at *;have hcc2:c.toNat<256:=UInt8.toNat_lt c;have HN:Hd (∀n:Nat,n<256->c.toNat=n->c=UInt8.ofNat n):=h_ (λn hn h=>UInt8.toNat_inj.1 (by rw[h,UInt8.toNat_ofNat'];omega));by_cases hm:c.toNat=45/\k=0
   ·obtain⟨hm1,hm2⟩:=hm;have h45:c=45:=HN.o 45 (by omega) hm1;have HV:=h_ (show x=vk s.data.toList 1 from by rw[vk_one (by rw[HH.o (by omega),HSK.o hm2 (by omega),h45]),HX.o,hm2,vk_zero]);have HS1:=h_ (show sg s.data.toList<=1 from by unfold sg;split<;>omega);have e1:((c.toNat:Int)==45)=true:=by rw[hm1];rfl
    have HP1:=h_ (show x<P10 1 from by
     have h1:=HP.o;rw[hm2]at h1;have:P10 0=1:=rfl;have:P10 1=10:=rfl;omega)
    subst hm2;clear hm1 h45;go_wp2_with fail
    refine⟨⟨0+1,x,by omega,rfl,by go_num,HV.o,by omega,hx0,HP1.o,λ_=>HS1.o⟩,by simp[intOf];omega⟩
   ·have hno:0<k\/c≠45:=by
     rcases Nat.eq_zero_or_pos k with h|h
     ·refine .inr (λh45=>hm ⟨by rw[h45];rfl,h⟩)
     ·exact .inl h
    have HNO:=h_ hno;clear hno;by_cases h45:c.toNat=45
    ·have hk0:0<k:=by
      rcases Nat.eq_zero_or_pos k with h|h
      ·exact absurd ⟨h45,h⟩ hm
      ·exact h
     have HV:=h_ (rdN_bad HBY.o HNO.o (.inl (by omega)));have e1:((c.toNat:Int)==45)=true:=by rw[h45];rfl
     have e2:((k:Int)==0)=false:=beq_eq_false_iff_ne.2 (by omega);have e3:decide ((c.toNat:Int)<48)=true:=decide_eq_true (by omega);clear hm h45;go_wp2_with fail
     go_ret;rw[HV.o];exact⟨rfl,Below.refl _ _⟩
    ·have e1:((c.toNat:Int)==45)=false:=beq_eq_false_iff_ne.2 (by omega);clear hm;by_cases h48:c.toNat<48
     ·have HV:=h_ (rdN_bad HBY.o HNO.o (.inl h48));have e3:decide ((c.toNat:Int)<48)=true:=decide_eq_true (by omega);clear h45;go_wp2_with fail
      go_ret;rw[HV.o];exact⟨rfl,Below.refl _ _⟩
     ·have e3:decide ((c.toNat:Int)<48)=false:=decide_eq_false (by omega);by_cases h57:57<c.toNat
      ·have HV:=h_ (rdN_bad HBY.o HNO.o (.inr h57));have e4:decide ((57:Int)<(c.toNat:Int))=true:=decide_eq_true (by omega);clear h45 h48;go_wp2_with fail
       go_ret;rw[HV.o];exact⟨rfl,Below.refl _ _⟩
      ·have e4:decide ((57:Int)<(c.toNat:Int))=false:=decide_eq_false (by omega);by_cases h5:5<k
       ·have HV:=h_ (rdN_long (l:=s.data.toList) (by rw[HLS.o];omega));have e5:decide ((5:Int)<(k:Int))=true:=decide_eq_true (by omega);clear h45 h48 h57;go_wp2_with fail
        go_ret;rw[HV.o];exact⟨rfl,Below.refl _ _⟩
       ·have e5:decide ((5:Int)<(k:Int))=false:=decide_eq_false (by omega);have hsk:sg s.data.toList<=k:=by
         rcases Nat.eq_zero_or_pos k with h|h
         ·have h1:=HSK.o h (by omega);have h2:=HH.o (by omega);unfold sg;rw[h2,h1];rw[if_neg (λe=>h45 (by injection e with e;rw[e];rfl))];exact Nat.zero_le _
         ·exact HSG.o h
        have HV:=h_ (show 10*x+((c.toNat:Int)-48)=vk s.data.toList (k+1)from by
         rw[vk_next HT.o hsk (by rw[HLS.o];omega),HX.o];omega)
        have HPN:=h_ (show 10*x+((c.toNat:Int)-48)<P10 (k+1)from by
         have h1:=HP.o;have h2:P10 (k+1)=10*P10 k:=rfl;omega)
        have HSN:=h_ (show sg s.data.toList<=k+1 from by omega);have hw8:IntKind.u8.wrap ((c.toNat:Int)-48)=(c.toNat:Int)-48:=wrap8 _ (by omega);have hy0:0<=(c.toNat:Int)-48/\(c.toNat:Int)-48<=9:=by omega
        clear h45 hsk;go_wp2_with fail
        refine⟨⟨k+1,10*x+((c.toNat:Int)-48),by omega,by go_num,by go_num,HV.o,by omega,by omega,HPN.o,λ_=>HSN.o⟩,by simp[intOf];omega⟩
  ·have hke:k=s.size:=by omega
   subst hke;have HA:=h_ (vk_all s.data.toList);have hl6:s.data.toList.length<=6:=by rw[len_size];exact hk6
   have HL6:=h_ hl6;rw[len_size,<-HX.o]at HA;have hdk:decide ((s.size:Int)<(s.size:Int))=false:=decide_eq_false (by omega);clear hl6 HP hP;have HFIN:=h_ (λ(n:Int) (h:n=rdV s.data.toList) (he:(bs (Lib.itoa n)).toList=s.toList)=>(show rdN s.data.toList=n from by
    have he2:Lib.itoa n=s.data.toList:=by have h3:=he;rw[ByteArray.toList_eq,ByteArray.toList_eq]at h3;exact h3
    have hc:s.data.toList.length<=6/\Lib.itoa (rdV s.data.toList)=s.data.toList:=⟨HL6.o,by rw[<-h];exact he2⟩;unfold rdN;rw[if_pos hc,h]))
   have HFNO:=h_ (λ(n:Int) (h:n=rdV s.data.toList) (he:(bs (Lib.itoa n)).toList≠s.toList)=>(show rdN s.data.toList=99999 from by
    unfold rdN;rw[<-h,if_neg];rintro⟨_,h2⟩;apply he
    rw[ByteArray.toList_eq,ByteArray.toList_eq];exact h2))
   by_cases h0:s.size=0
   ·have hl0:s.data.toList=[]:=List.eq_nil_of_length_eq_zero (by rw[len_size];exact h0);have hem:s.toList.isEmpty=true:=by rw[ByteArray.toList_eq,hl0];rfl
    have HR:=h_ (show x=rdV s.data.toList from by
     have:=HA.o;rw[hl0]at this ⊢;exact this)
    clear hl0 HA HX hk hlt;go_wp2_with fail
    refine(l8Number_any x w (by omega) (by omega)).mono ?_;rintro e w2 ⟨rfl,b2⟩;have HB:=h_ b2;clear b2;by_cases hq:(bs (Lib.itoa x)).toList=s.toList
    ·have HV:=h_ (HFIN.o x HR.o hq);have hqe:((⟨(Lib.itoa x).toArray⟩:ByteArray).toList==s.toList)=true:=beq_iff_eq.2 hq;clear hq;generalize (⟨(Lib.itoa x).toArray⟩:ByteArray)=S1 at *;go_wp2_with fail
     go_ret;rw[HV.o];exact⟨rfl,HB.o⟩
    ·have HV:=h_ (HFNO.o x HR.o hq);have hqe:((⟨(Lib.itoa x).toArray⟩:ByteArray).toList==s.toList)=false:=beq_eq_false_iff_ne.2 hq;clear hq;generalize (⟨(Lib.itoa x).toArray⟩:ByteArray)=S1 at *;go_wp2_with fail
     go_ret;rw[HV.o];exact⟨rfl,HB.o⟩
   ·have hl0:0<s.size:=by omega
    have HH:=h_ (head_at s hl0);have hem:s.toList.isEmpty=false:=by
     rw[ByteArray.toList_eq];cases hq:s.data.toList with
     |nil=>rw[<-len_size,hq]at h0;exact absurd rfl h0
     |cons c r=>rfl
    generalize hcc:s[0]'hl0=c at *;by_cases h45:c.toNat=45
    ·have e1:((c.toNat:Int)==45)=true:=by rw[h45];rfl
     have HR:=h_ (show -x=rdV s.data.toList from by
      have h1:=HA.o;rw[HH.o,if_pos (by rw[show c=45 from UInt8.toNat_inj.1 h45])]at h1;exact h1)
     have hwn:IntKind.i64.wrap (-x)=-x:=IntWalk.i64_in _ (by omega);generalize hnn:-x=n at *;have hn0:-1000000<=n/\n<=1000000:=by omega
     clear HA HX hk hlt h45 h0;go_wp2_with fail
     refine(l8Number_any n w (by omega) (by omega)).mono ?_;rintro e w2 ⟨rfl,b2⟩;have HB:=h_ b2;clear b2;by_cases hq:(bs (Lib.itoa n)).toList=s.toList
     ·have HV:=h_ (HFIN.o n HR.o hq);have hqe:((⟨(Lib.itoa n).toArray⟩:ByteArray).toList==s.toList)=true:=beq_iff_eq.2 hq;clear hq;generalize (⟨(Lib.itoa n).toArray⟩:ByteArray)=S1 at *;go_wp2_with fail
      go_ret;rw[HV.o];exact⟨rfl,HB.o⟩
     ·have HV:=h_ (HFNO.o n HR.o hq);have hqe:((⟨(Lib.itoa n).toArray⟩:ByteArray).toList==s.toList)=false:=beq_eq_false_iff_ne.2 hq;clear hq;generalize (⟨(Lib.itoa n).toArray⟩:ByteArray)=S1 at *;go_wp2_with fail
      go_ret;rw[HV.o];exact⟨rfl,HB.o⟩
    ·have e1:((c.toNat:Int)==45)=false:=beq_eq_false_iff_ne.2 (by omega);have HR:=h_ (show x=rdV s.data.toList from by
      have h1:=HA.o;rw[HH.o,if_neg (λe=>h45 (by injection e with e;rw[e];rfl))]at h1;exact h1)
     clear HA HX hk hlt h45 h0;go_wp2_with fail
     refine(l8Number_any x w (by omega) (by omega)).mono ?_;rintro e w2 ⟨rfl,b2⟩;have HB:=h_ b2;clear b2;by_cases hq:(bs (Lib.itoa x)).toList=s.toList
     ·have HV:=h_ (HFIN.o x HR.o hq);have hqe:((⟨(Lib.itoa x).toArray⟩:ByteArray).toList==s.toList)=true:=beq_iff_eq.2 hq;clear hq;generalize (⟨(Lib.itoa x).toArray⟩:ByteArray)=S1 at *;go_wp2_with fail
      go_ret;rw[HV.o];exact⟨rfl,HB.o⟩
     ·have HV:=h_ (HFNO.o x HR.o hq);have hqe:((⟨(Lib.itoa x).toArray⟩:ByteArray).toList==s.toList)=false:=beq_eq_false_iff_ne.2 hq;clear hq;generalize (⟨(Lib.itoa x).toArray⟩:ByteArray)=S1 at *;go_wp2_with fail
      go_ret;rw[HV.o];exact⟨rfl,HB.o⟩
end CRdN
/- DumpObject: the lines of an object; the reference's. -/
namespace CDumpS
open Kit CCode CName CFixups CSymbols PObj BObj PValid PClear CSecValid CObjValid CObjValidS CNumTxt PNum PDump CHexI CHexS CHexS CSorted CNames CWordsS BStore CLineI CDumpI
theorem num_of(n:Int)(h:Num n):∃N:ByteArray,N=bs (Lib.itoa n)/\N.size<=21/\∀V,Calls Tryz.prog 40 #[.int .i64 n] V (Ret (.string N) V):=by unfold Num at h;refine⟨_,rfl,?_,λV=>l8Number_any n V (by omega) (by omega)⟩;rw[bs_size];exact Lib.itoa_length_le n (by omega) (by omega)
theorem sp_bs(a:List UInt8):bs (32::a)=(⟨#[32]⟩:ByteArray)++bs a:=by
 rw[show(⟨#[32]⟩:ByteArray)=bs [32]from rfl,bs_app]
 rfl
theorem cat(a b c:ByteArray):a++(b++c)=a++b++c:=(ByteArray.append_assoc).symm
theorem secText{s:ByteArray}{a b c:Int}{A B C:ByteArray}(hn:nameOk s=true)(hA:A=bs (Lib.itoa a))(hB:B=bs (Lib.itoa b))(hC:C=bs (Lib.itoa c)):
  bs (lineW secW (nmL s) [a,b,c])=(⟨#[115,101,99,116,105,111,110,32]⟩:ByteArray)++s++(⟨#[32]⟩:ByteArray)++A++(⟨#[32]⟩:ByteArray)++B++(⟨#[32]⟩:ByteArray)++C:=by
 have e:lineW secW (nmL s) [a,b,c]=[115,101,99,116,105,111,110,32]++(nmL s++(32::(Lib.itoa a++(32::(Lib.itoa b++(32::Lib.itoa c)))))):=by
  unfold lineW;rw[(nmW_ok hn).1]
  rfl
 rw[e,<-bs_app,<-bs_app,sp_bs,<-bs_app,sp_bs,<-bs_app,sp_bs,hA,hB,hC,bs_nm];simp only[cat]
 rfl
theorem symText{s:ByteArray}{a b c:Int}{A B C:ByteArray}(hn:nameOk s=true)(hA:A=bs (Lib.itoa a))(hB:B=bs (Lib.itoa b))(hC:C=bs (Lib.itoa c)):
  bs (lineW symW (nmL s) [a,b,c])=(⟨#[115,121,109,98,111,108,32]⟩:ByteArray)++s++(⟨#[32]⟩:ByteArray)++A++(⟨#[32]⟩:ByteArray)++B++(⟨#[32]⟩:ByteArray)++C:=by
 have e:lineW symW (nmL s) [a,b,c]=[115,121,109,98,111,108,32]++(nmL s++(32::(Lib.itoa a++(32::(Lib.itoa b++(32::Lib.itoa c)))))):=by
  unfold lineW;rw[(nmW_ok hn).1]
  rfl
 rw[e,<-bs_app,<-bs_app,sp_bs,<-bs_app,sp_bs,<-bs_app,sp_bs,hA,hB,hC,bs_nm];simp only[cat]
 rfl
theorem fixText{a b c d:Int}{A B C D:ByteArray}(hA:A=bs (Lib.itoa a))(hB:B=bs (Lib.itoa b))(hC:C=bs (Lib.itoa c))(hD:D=bs (Lib.itoa d)):
  bs (lineF (a,b,c,d))=(⟨#[102,105,120,117,112,32]⟩:ByteArray)++A++(⟨#[32]⟩:ByteArray)++B++(⟨#[32]⟩:ByteArray)++C++(⟨#[32]⟩:ByteArray)++D:=by
 have e:lineF (a,b,c,d)=[102,105,120,117,112,32]++(Lib.itoa a++(32::(Lib.itoa b++(32::(Lib.itoa c++(32::Lib.itoa d)))))):=rfl;rw[e,<-bs_app,<-bs_app,sp_bs,<-bs_app,sp_bs,<-bs_app,sp_bs,hA,hB,hC,hD];simp only[cat]
 rfl
set_option maxHeartbeats 8000000 in
theorem dumpObjectS_any(o:OV)(w:World)(hr:RdO w w.heap.size o)(hf:Fit o)(hz:InD o.d):
  Calls Tryz.prog 11 #[.agg #[.slice o.A o.ps.length o.c,.slice o.Y o.ys.length o.yc]] w (RetN ((dumpL o.d).map bs) w):=by
 obtain⟨i0,hi1,hi2,hi3,hi4⟩:=info_parts infoStr;have HI:=h_ (And.intro hi1 (And.intro hi2 (And.intro hi3 hi4)));clear hi1 hi2 hi3 hi4;have HR:=h_ hr;have HZ:=h_ hz;have HF:=h_ hf;clear hr hz hf;have B0:Below w.heap.size w ((w.alloc (.cells #[.slice o.A o.ps.length o.c,.slice o.Y o.ys.length o.yc] 26)).alloc (.cells #[] 9)):=b_;have HB:=h_ B0;have HX:=h_ ((Box.new w 26 #[.slice o.A o.ps.length o.c,.slice o.Y o.ys.length o.yc]).alloc (.cells #[] 9));have HV0:=h_ (λ(V:World) (hb:Below w.heap.size w V)=>objectValidS_any o V ((HR.o.below hb).more hb.size) HF.o);clear B0;have hps:=HF.o.np;have hys:=HF.o.ny;go_enter Tryz.func11,Tryz.ntmps11
 go_wp2_with fail
 generalize (w.alloc (.cells #[.slice o.A o.ps.length o.c,.slice o.Y o.ys.length o.yc] 26)).alloc (.cells #[] 9)=w0 at *;cases ho:objOk o.d

 ·have HV:=h_ (show dumpL o.d=[]from by rw[dumpL,ho];rfl);rw[ho]at HV0;clear ho;go_loopw [3,4] (λs i wi=>s=.slice (some ⟨w.heap.size+1,0,none⟩) 0 0/\i=.int .i64 0/\Box wi w.heap.size 26 #[.slice o.A o.ps.length o.c,.slice o.Y o.ys.length o.yc]/\Below w.heap.size w wi) (λ_ _ _=>0)
  case atStart=>exact⟨rfl,rfl,HX.o,HB.o⟩
  case round=>
   rename World=>wk
   clear HX HB;obtain⟨rfl,rfl,hbox,hb⟩:=hrel;have HX:=h_ hbox;have HB:=h_ hb;clear hbox hb;by_cases hlt:0<o.ps.length
   ·have hw0:=HX.o.lt;have x0:=d_ HX.o 0;have x1:=d_ HX.o 1;have hxl:=HX.o.lt;go_wp2_with fail
    refine(HV0.o wk HB.o).mono ?_;rintro e w1 ⟨rfl,b1⟩;replace HB:=c_ HB b1;replace HX:=h_ (HX.o.call b1);clear b1;clear x0 x1 hxl hw0;have x0:=d_ HX.o 0;have x1:=d_ HX.o 1;have hxl:=HX.o.lt;go_wp2_with fail
    clear x0 x1 hxl;go_loopw [3,9] (λs i wi=>s=.slice (some ⟨w.heap.size+1,0,none⟩) 0 0/\i=.int .i64 0/\Box wi w.heap.size 26 #[.slice o.A o.ps.length o.c,.slice o.Y o.ys.length o.yc]/\Below w.heap.size w wi) (λ_ _ _=>0)
    case atStart=>exact⟨rfl,rfl,HX.o,HB.o⟩
    case round=>
     rename World=>wi
     clear HX HB;obtain⟨rfl,rfl,hbox,hb⟩:=hrel;have HX:=h_ hbox;have HB:=h_ hb;clear hbox hb;have x0:=d_ HX.o 0;have x1:=d_ HX.o 1;have hxl:=HX.o.lt;by_cases hly:0<o.ys.length
     ·go_wp2_with fail
      refine(HV0.o wi HB.o).mono ?_;rintro e w2 ⟨rfl,b2⟩;replace HB:=c_ HB b2;replace HX:=h_ (HX.o.call b2);clear b2;clear x0 x1 hxl;go_wp2_with fail
      go_ret;rw[HV.o];exact⟨some ⟨w.heap.size+1,0,none⟩,0,by rfl,Row.empty _ _ _ _ _,HB.o⟩
     ·go_wp2_with fail
      go_ret;rw[HV.o];exact⟨some ⟨w.heap.size+1,0,none⟩,0,by rfl,Row.empty _ _ _ _ _,HB.o⟩
   ·have hw0:=HX.o.lt;have x0:=d_ HX.o 0;have x1:=d_ HX.o 1;have hxl:=HX.o.lt;go_wp2_with fail
    clear x0 x1 hxl hw0;go_loopw [3,9] (λs i wi=>s=.slice (some ⟨w.heap.size+1,0,none⟩) 0 0/\i=.int .i64 0/\Box wi w.heap.size 26 #[.slice o.A o.ps.length o.c,.slice o.Y o.ys.length o.yc]/\Below w.heap.size w wi) (λ_ _ _=>0)
    case atStart=>exact⟨rfl,rfl,HX.o,HB.o⟩
    case round=>
     rename World=>wi
     clear HX HB;obtain⟨rfl,rfl,hbox,hb⟩:=hrel;have HX:=h_ hbox;have HB:=h_ hb;clear hbox hb;have x0:=d_ HX.o 0;have x1:=d_ HX.o 1;have hxl:=HX.o.lt;by_cases hly:0<o.ys.length
     ·go_wp2_with fail
      refine(HV0.o wi HB.o).mono ?_;rintro e w2 ⟨rfl,b2⟩;replace HB:=c_ HB b2;replace HX:=h_ (HX.o.call b2);clear b2;clear x0 x1 hxl;go_wp2_with fail
      go_ret;rw[HV.o];exact⟨some ⟨w.heap.size+1,0,none⟩,0,by rfl,Row.empty _ _ _ _ _,HB.o⟩
     ·go_wp2_with fail
      go_ret;rw[HV.o];exact⟨some ⟨w.heap.size+1,0,none⟩,0,by rfl,Row.empty _ _ _ _ _,HB.o⟩
 have HV:=h_ (dump_ok ho);have HG:=h_ (good_O ho HZ.o);have HALL:=h_ (obj_all ho);rw[ho]at HV0;clear hps hys;have hps:o.ps.length<=8:=by have:=HALL.o.1;simpa[OV.d]using this
 have hys:o.ys.length<=12:=HALL.o.2.1;clear ho;go_loopw [3,4] (λs i wi=>∃(k:Nat) (A1:Option Addr) (c1:Nat) (ls:List (List UInt8)),k<=o.ps.length/\s=.slice A1 ls.length c1/\i=.int .i64 k/\ls=linesSs ((o.ps.take k).map SV.d)/\ls.length<=7*k/\Row wi w.heap.size 9 1 A1 ls.length c1 (nmC (ls.map bs))/\Box wi w.heap.size 26 #[.slice o.A o.ps.length o.c,.slice o.Y o.ys.length o.yc]/\Below w.heap.size w wi) (λ_ i _=>o.ps.length-(intOf i).toNat)
 case atStart=>exact⟨0,_,0,[],Nat.zero_le _,rfl,rfl,rfl,Nat.le_refl _,Row.empty _ _ _ _ _,HX.o,HB.o⟩
 case round=>
  rename World=>wk
  clear HX HB;obtain⟨k,A1,c1,ls,hk,rfl,rfl,hls,hll,hrow,hbox,hb⟩:=hrel;have HLS:=h_ hls;have HW:=h_ hrow;have HX:=h_ hbox;have HB:=h_ hb;clear hls hrow hbox hb;have x0:=d_ HX.o 0;have x1:=d_ HX.o 1;have hxl:=HX.o.lt;by_cases hlt:k<o.ps.length
  ·go_wp2_with fail
   refine(HV0.o wk HB.o).mono ?_;rintro e w1 ⟨rfl,b1⟩;clear x0 x1 hxl;replace HB:=c_ HB b1;replace HX:=h_ (HX.o.call b1);replace HW:=h_ (HW.o.call b1);clear b1;have x0:=d_ HX.o 0;have x1:=d_ HX.o 1;have hxl:=HX.o.lt;obtain⟨b,off,hA,hbb,hc⟩:=(HR.o.1.1.below HB.o).row secC_len (by decide) hlt;have hc0:=hc 0 _ rfl;have hc1:=hc 1 _ rfl;have hc2:=hc 2 _ rfl;have hc3:=hc 3 _ rfl;have hc4:=hc 4 _ rfl;have hc5:=hc 5 _ rfl;simp only[Nat.add_zero]at hc0;have HSN:=h_ (linesSs_snoc hlt);have HGS:=h_ (HG.o.1 (o.ps[k]).d (List.mem_map_of_mem (List.getElem_mem hlt)));have HIZ:=h_ (HZ.o (o.ps[k]).d (List.mem_map_of_mem (List.getElem_mem hlt)));have HAL:=h_ (HALL.o.2.2 (o.ps[k]).d (List.mem_map_of_mem (List.getElem_mem hlt)));have HRS:=h_ (HR.o.1.2 _ (List.getElem_mem hlt));have HA:=h_ hA;rw[hA]at x0;clear hc hA;generalize o.ps[k]=p at *;have hzl:p.zs.length<=48:=HAL.o.2.1;have hfl:p.fs.length<=6:=HAL.o.1;have B1:Below w1.heap.size w1 (w1.alloc (.cells #[.string p.nm,.int .i64 p.kd,.int .i64 p.al,.slice p.A p.zs.length p.c,.int .i64 p.sz,.slice p.F p.fs.length p.fc] 61)):=b_;have HS:=h_ (Box.new w1 61 #[.string p.nm,.int .i64 p.kd,.int .i64 p.al,.slice p.A p.zs.length p.c,.int .i64 p.sz,.slice p.F p.fs.length p.fc]);replace HB:=c_ HB B1;replace HX:=h_ (HX.o.call B1);replace HW:=h_ (HW.o.call B1);clear B1;go_wp2_with fail
   clear hc0 hc1 hc2 hc3 hc4 hc5 x0 x1;generalize w1.alloc (.cells #[.string p.nm,.int .i64 p.kd,.int .i64 p.al,.slice p.A p.zs.length p.c,.int .i64 p.sz,.slice p.F p.fs.length p.fc] 61)=wa at *;generalize w1.heap.size=S at *;have hN8:p.nm.size<=8:=(nmW_ok HGS.o.1.nm).2;obtain⟨N1,hN1,q1,C1⟩:=num_of _ HGS.o.1.kd;obtain⟨N2,hN2,q2,C2⟩:=num_of _ HGS.o.1.al;obtain⟨N3,hN3,q3,C3⟩:=num_of _ HGS.o.1.size;have HL1:=h_ (show bs (lineW secW (nmL p.nm) [p.kd,p.al,secSize p.d])=(⟨#[115,101,99,116,105,111,110,32]⟩:ByteArray)++p.nm++(⟨#[32]⟩:ByteArray)++N1++(⟨#[32]⟩:ByteArray)++N2++(⟨#[32]⟩:ByteArray)++N3 from secText HGS.o.1.nm hN1 hN2 hN3);have HC1:=h_ C1;have HC2:=h_ C2;have HC3:=h_ C3;have HLN:=h_ (lineS_eq HGS.o.1.nm);clear hN1 hN2 hN3 C1 C2 C3;have g1:¬9223372036854775807<8+p.nm.size:=by omega
   have g2:¬9223372036854775807<8+p.nm.size+1:=by omega
   have g3:¬9223372036854775807<8+p.nm.size+1+N1.size:=by omega
   have g4:¬9223372036854775807<8+p.nm.size+1+N1.size+1:=by omega
   have g5:¬9223372036854775807<8+p.nm.size+1+N1.size+1+N2.size:=by omega
   have g6:¬9223372036854775807<8+p.nm.size+1+N1.size+1+N2.size+1:=by omega
   have g7:¬9223372036854775807<8+p.nm.size+1+N1.size+1+N2.size+1+N3.size:=by omega
   have hsl:=HS.o.lt;refine Reg.startT (λW=>W.cell? ⟨S,0,none⟩=some (.string p.nm)/\W.cell? ⟨S,1,none⟩=some (.int .i64 p.kd)/\W.cell? ⟨S,2,none⟩=some (.int .i64 p.al)/\W.cell? ⟨S,3,none⟩=some (.slice p.A p.zs.length p.c)/\W.cell? ⟨S,4,none⟩=some (.int .i64 p.sz)/\W.cell? ⟨S,5,none⟩=some (.slice p.F p.fs.length p.fc)) (λ_=>false) (by kernel_rfl) ?_;have hHeld:wa.drew.cell? ⟨S,0,none⟩=some (.string p.nm)/\wa.drew.cell? ⟨S,1,none⟩=some (.int .i64 p.kd)/\wa.drew.cell? ⟨S,2,none⟩=some (.int .i64 p.al)/\wa.drew.cell? ⟨S,3,none⟩=some (.slice p.A p.zs.length p.c)/\wa.drew.cell? ⟨S,4,none⟩=some (.int .i64 p.sz)/\wa.drew.cell? ⟨S,5,none⟩=some (.slice p.F p.fs.length p.fc):=Six.of HS.o;refine t_ 0 rfl ?_;refine t_ 1 rfl ?_;refine t_ 2 rfl ?_;refine t_ 3 rfl ?_;refine t_ 4 rfl ?_;refine t_ 5 rfl ?_;refine t_ 9 rfl ?_;refine t_ 10 rfl ?_;refine t_ 14 rfl ?_;refine Reg.oneT (i:=6) rfl (by kernel_rfl) (λK hK=>?_);go_simp
   refine(HC1.o _).mono ?_;rintro e w3 ⟨rfl,bb⟩;have b3:=of_drew bb;clear bb;replace HB:=c_ HB b3;replace HX:=h_ (HX.o.call b3);replace HW:=h_ (HW.o.call b3);replace HS:=h_ (HS.o.call b3);clear b3;have hHeld:w3.cell? ⟨S,0,none⟩=some (.string p.nm)/\w3.cell? ⟨S,1,none⟩=some (.int .i64 p.kd)/\w3.cell? ⟨S,2,none⟩=some (.int .i64 p.al)/\w3.cell? ⟨S,3,none⟩=some (.slice p.A p.zs.length p.c)/\w3.cell? ⟨S,4,none⟩=some (.int .i64 p.sz)/\w3.cell? ⟨S,5,none⟩=some (.slice p.F p.fs.length p.fc):=Six.of HS.o;refine hK.out _ _ hHeld ?_;clear hK K;try simp only[y1_,y2_,y3_,Act.put,y4_,y5_,y6_]
   refine t_ 7 rfl ?_;refine t_ 8 rfl ?_;refine Reg.oneT (i:=11) rfl (by kernel_rfl) (λK hK=>?_);go_simp
   refine(HC2.o _).mono ?_;rintro e w4 ⟨rfl,bb⟩;replace HB:=c_ HB bb;replace HX:=h_ (HX.o.call bb);replace HW:=h_ (HW.o.call bb);replace HS:=h_ (HS.o.call bb);clear bb;have hHeld:w4.cell? ⟨S,0,none⟩=some (.string p.nm)/\w4.cell? ⟨S,1,none⟩=some (.int .i64 p.kd)/\w4.cell? ⟨S,2,none⟩=some (.int .i64 p.al)/\w4.cell? ⟨S,3,none⟩=some (.slice p.A p.zs.length p.c)/\w4.cell? ⟨S,4,none⟩=some (.int .i64 p.sz)/\w4.cell? ⟨S,5,none⟩=some (.slice p.F p.fs.length p.fc):=Six.of HS.o;refine hK.out _ _ hHeld ?_;clear hK K;try simp only[y1_,y2_,y3_,Act.put,y4_,y5_,y6_]
   refine t_ 12 rfl ?_;refine t_ 13 rfl ?_;refine Reg.oneT (i:=15) rfl (by kernel_rfl) (λK hK=>?_);go_simp
   refine(sectionSizeS_any p _ (by unfold maxLen;omega)).mono ?_;rintro e w5 ⟨rfl,bb⟩;replace HB:=c_ HB bb;replace HX:=h_ (HX.o.call bb);replace HW:=h_ (HW.o.call bb);replace HS:=h_ (HS.o.call bb);clear bb;have hHeld:w5.cell? ⟨S,0,none⟩=some (.string p.nm)/\w5.cell? ⟨S,1,none⟩=some (.int .i64 p.kd)/\w5.cell? ⟨S,2,none⟩=some (.int .i64 p.al)/\w5.cell? ⟨S,3,none⟩=some (.slice p.A p.zs.length p.c)/\w5.cell? ⟨S,4,none⟩=some (.int .i64 p.sz)/\w5.cell? ⟨S,5,none⟩=some (.slice p.F p.fs.length p.fc):=Six.of HS.o;refine hK.out _ _ hHeld ?_;clear hK K;try simp only[y1_,y2_,y3_,Act.put,y4_,y5_,y6_]
   refine Reg.oneT (i:=16) rfl (by kernel_rfl) (λK hK=>?_);go_simp
   refine(HC3.o _).mono ?_;rintro e w6 ⟨rfl,bb⟩;replace HB:=c_ HB bb;replace HX:=h_ (HX.o.call bb);replace HW:=h_ (HW.o.call bb);replace HS:=h_ (HS.o.call bb);clear bb;have hHeld:w6.cell? ⟨S,0,none⟩=some (.string p.nm)/\w6.cell? ⟨S,1,none⟩=some (.int .i64 p.kd)/\w6.cell? ⟨S,2,none⟩=some (.int .i64 p.al)/\w6.cell? ⟨S,3,none⟩=some (.slice p.A p.zs.length p.c)/\w6.cell? ⟨S,4,none⟩=some (.int .i64 p.sz)/\w6.cell? ⟨S,5,none⟩=some (.slice p.F p.fs.length p.fc):=Six.of HS.o;refine hK.out _ _ hHeld ?_;clear hK K;try simp only[y1_,y2_,y3_,Act.put,y4_,y5_,y6_]
   refine t_ 17 rfl ?_;refine t_ 18 rfl ?_;clear hHeld;refine Reg.doneT (by kernel_rfl) ?_ _;clear g1 g2 g3 g4 g5 g6 g7 hsl HC1 HC2 HC3;have hls8:(⟨#[115,101,99,116,105,111,110,32]⟩:ByteArray).size=8:=rfl;have hls1:(⟨#[32]⟩:ByteArray).size=1:=rfl;have HLZ:=h_ (show((⟨#[115,101,99,116,105,111,110,32]⟩:ByteArray)++p.nm++(⟨#[32]⟩:ByteArray)++N1++(⟨#[32]⟩:ByteArray)++N2++(⟨#[32]⟩:ByteArray)++N3).size<=1000000 from by
    simp only[ByteArray.size_append,hls8,hls1];omega)
   clear hls8 hls1;generalize (⟨#[115,101,99,116,105,111,110,32]⟩:ByteArray)++p.nm++(⟨#[32]⟩:ByteArray)++N1++(⟨#[32]⟩:ByteArray)++N2++(⟨#[32]⟩:ByteArray)++N3=L1 at *;clear q1 q2 q3;have s3:=d_ HS.o 3;have hsl:=HS.o.lt;go_upto_if 49 with(fail)
   go_cut [6]from 49 to 55 (λv wx=>v=.string (bs (lineS p.d))/\Below w6.heap.size w6 wx)
   case first=>
    by_cases h0:p.zs.length=0
    ·have hd:decide (0<p.zs.length)=false:=decide_eq_false (by omega);have HQ:=h_ (show bs (lineS p.d)=L1 from by
      rw[HLN.o,if_pos (show p.d.zs.length=0 from h0)];exact HL1.o)
     clear h0;simp only[hd];go_wp2_with fail
     go_meet
     exact⟨by rw[HQ.o],Below.refl _ _⟩
    ·have hd:decide (0<p.zs.length)=true:=decide_eq_true (by omega);have HQ:=h_ (show bs (lineS p.d)=L1++(⟨#[32]⟩:ByteArray)++bs (hexL p.zs)from by
      rw[HLN.o,if_neg (show ¬p.d.zs.length=0 from h0),<-bs_app,sp_bs,<-HL1.o,cat]
      rfl)
     have HHX:=h_ (hexTextS_any p.A p.zs p.c w6 ((HRS.o.1.below HB.o).more HB.o.size) HIZ.o (by omega));have hhl:=bs_size (hexL p.zs);rw[hexL_len]at hhl;have hlz:L1.size<=1000000:=HLZ.o;clear h0;simp only[hd];generalize bs (hexL p.zs)=HXT at *;have hq1:¬9223372036854775807<L1.size+1:=by omega
     have hq2:¬9223372036854775807<L1.size+1+HXT.size:=by omega
     go_wp2_with fail
     refine HHX.o.mono ?_;rintro e w7 ⟨rfl,b6⟩;have HB6:=h_ b6;clear b6 s3 hsl;go_wp2_with fail
     go_meet
     exact⟨by rw[HQ.o],HB6.o⟩
   case rest=>
    rename World=>w8
    obtain⟨rfl,hbc⟩:=hcut;replace HB:=c_ HB hbc;replace HX:=h_ (HX.o.call hbc);replace HW:=h_ (HW.o.call hbc);replace HS:=h_ (HS.o.call hbc);clear hbc;clear s3 hsl HLZ HLN HL1;have hls:ls.length<=56:=by omega
    have B6:Below w8.heap.size w8 (w8.alloc (.cells #[.string (bs (lineS p.d))] 9)):=b_;replace HB:=c_ HB B6;replace HX:=h_ (HX.o.call B6);replace HW:=h_ (HW.o.call B6);replace HS:=h_ (HS.o.call B6);clear B6;go_wp2_with (at_builtin;refine wpList_app (w8.alloc (.cells #[.string (bs (lineS p.d))] 9)) rfl (.tmp 56) (.tmp 58) 28 rfl 9 i0 (.string ByteArray.empty) 1 16 Tryz.underlying28 HI.o.1 HI.o.2.1 HI.o.2.2.1 HI.o.2.2.2 rfl (by decide) w.heap.size A1 ls.length c1 (nmC (ls.map bs)) rfl HW.o HB.o.size (some ⟨w8.heap.size,0,none⟩) 1 1 [.string (bs (lineS p.d))] rfl (rd_lit w8 #[.string (bs (lineS p.d))] 9 _ rfl) rfl (λh=>by cases h) (CDumpI.one_str _) ?n1 ?n2 ?_)
    case n1=>unfold maxLen;omega
    case n2=>omega
    intro A7 n7 c7 w7 hn7 o7 g7 k7;subst hn7;have HX7:=h_ (HX.o.grown g7 (HW.o.box HX.o (by decide)));have HS7:=h_ (HS.o.grown g7 (HW.o.box HS.o (by decide)));have HB7:=h_ (HB.o.grown g7 HB.o.size (λj hj=>(HW.o.lt j hj).1));have HW7:=h_ (show Row w7 w.heap.size 9 1 A7 (ls.length+1) c7 (nmC ((ls++[lineS p.d]).map bs))from by
     rw[nmC_snoc];exact o7)
    clear o7 g7 k7 HW HX HS HB;go_wp2_with fail
    go_loopw [3,7] (λs i wi=>∃(j:Nat) (A2:Option Addr) (c2:Nat) (ms:List (List UInt8)),j<=p.fs.length/\s=.slice A2 ms.length c2/\i=.int .i64 j/\ms=(ls++[lineS p.d])++(p.fs.take j).map lineF/\ms.length=ls.length+1+j/\Row wi w.heap.size 9 1 A2 ms.length c2 (nmC (ms.map bs))/\Box wi w.heap.size 26 #[.slice (some ⟨b,off,none⟩) o.ps.length o.c,.slice o.Y o.ys.length o.yc]/\Box wi S 61 #[.string p.nm,.int .i64 p.kd,.int .i64 p.al,.slice p.A p.zs.length p.c,.int .i64 p.sz,.slice p.F p.fs.length p.fc]/\Below w.heap.size w wi) (λ_ i _=>p.fs.length-(intOf i).toNat)
    case atStart=>exact⟨0,A7,c7,ls++[lineS p.d],Nat.zero_le _,by simp,rfl,by simp,by simp,by simpa using HW7.o,by rw[<-HA.o];exact HX7.o,HS7.o,HB7.o⟩
    case round=>
     rename World=>wi
     clear HW7 HX7 HB7 HS7;obtain⟨j,A2,c2,ms,hj,rfl,rfl,hms,hml,hrow,hbox,hbx,hb⟩:=hrel;have HMS:=h_ hms;have HML:=h_ hml;have hml2:ms.length<=63:=by omega
     have HW:=h_ hrow;have HX:=h_ hbox;have HS:=h_ hbx;have HB:=h_ hb;clear hms hrow hbox hb hml hbx;have s5:=d_ HS.o 5;have hsl:=HS.o.lt;by_cases hltj:j<p.fs.length
     ·obtain⟨fb,fo,hFA,hfb,hfc⟩:=(HRS.o.2.below HB.o).row fixupC_len (by decide) hltj;have f0:=hfc 0 _ rfl;have f1:=hfc 1 _ rfl;have f2:=hfc 2 _ rfl;have f3:=hfc 3 _ rfl;simp only[Nat.add_zero]at f0;have HFS:=h_ (show(p.fs.take (j+1)).map lineF=(p.fs.take j).map lineF++[lineF p.fs[j]]from by rw[take_succ hltj,List.map_append];rfl);have HGF:=h_ (HGS.o.2 p.fs[j] (List.getElem_mem hltj));rw[hFA]at s5;clear hfc hFA;generalize p.fs[j]=f at *;obtain⟨f1',f2',f3',f4'⟩:=f;simp only at f0 f1 f2 f3;have BF:Below wi.heap.size wi (wi.alloc (.cells #[.int .i64 f1',.int .i64 f2',.int .i64 f3',.int .i64 f4'] 65)):=b_;have HF:=h_ (Box.new wi 65 #[.int .i64 f1',.int .i64 f2',.int .i64 f3',.int .i64 f4']);replace HB:=c_ HB BF;replace HX:=h_ (HX.o.call BF);replace HW:=h_ (HW.o.call BF);replace HS:=h_ (HS.o.call BF);clear BF;go_wp2_with fail
      clear f0 f1 f2 f3 s5 hsl;generalize wi.alloc (.cells #[.int .i64 f1',.int .i64 f2',.int .i64 f3',.int .i64 f4'] 65)=wa at *;generalize wi.heap.size=S2 at *;obtain⟨N1,hN1,q1,C1⟩:=num_of f1' HGF.o.1;obtain⟨N2,hN2,q2,C2⟩:=num_of f2' HGF.o.2.1;obtain⟨N3,hN3,q3,C3⟩:=num_of f3' HGF.o.2.2.1;obtain⟨N4,hN4,q4,C4⟩:=num_of f4' HGF.o.2.2.2;have HTX:=h_ (fixText hN1 hN2 hN3 hN4);have HC1:=h_ C1;have HC2:=h_ C2;have HC3:=h_ C3;have HC4:=h_ C4;clear hN1 hN2 hN3 hN4 C1 C2 C3 C4;have g1:¬9223372036854775807<6+N1.size:=by omega
      have g2:¬9223372036854775807<6+N1.size+1:=by omega
      have g3:¬9223372036854775807<6+N1.size+1+N2.size:=by omega
      have g4:¬9223372036854775807<6+N1.size+1+N2.size+1:=by omega
      have g5:¬9223372036854775807<6+N1.size+1+N2.size+1+N3.size:=by omega
      have g6:¬9223372036854775807<6+N1.size+1+N2.size+1+N3.size+1:=by omega
      have g7:¬9223372036854775807<6+N1.size+1+N2.size+1+N3.size+1+N4.size:=by omega
      have hsl:=HF.o.lt;refine Reg.startT (λW=>W.cell? ⟨S2,0,none⟩=some (.int .i64 f1')/\W.cell? ⟨S2,1,none⟩=some (.int .i64 f2')/\W.cell? ⟨S2,2,none⟩=some (.int .i64 f3')/\W.cell? ⟨S2,3,none⟩=some (.int .i64 f4')) (λ_=>false) (by kernel_rfl) ?_;have hHeld:wa.drew.cell? ⟨S2,0,none⟩=some (.int .i64 f1')/\wa.drew.cell? ⟨S2,1,none⟩=some (.int .i64 f2')/\wa.drew.cell? ⟨S2,2,none⟩=some (.int .i64 f3')/\wa.drew.cell? ⟨S2,3,none⟩=some (.int .i64 f4'):=⟨HF.o.cell 0,HF.o.cell 1,HF.o.cell 2,HF.o.cell 3⟩;refine t_ 0 rfl ?_;refine t_ 1 rfl ?_;refine t_ 2 rfl ?_;refine t_ 6 rfl ?_;refine t_ 7 rfl ?_;refine t_ 11 rfl ?_;refine t_ 12 rfl ?_;refine t_ 16 rfl ?_;refine t_ 17 rfl ?_;refine Reg.oneT (i:=3) rfl (by kernel_rfl) (λK hK=>?_);go_simp
      refine(HC1.o _).mono ?_;rintro e v1 ⟨rfl,bb⟩;have b3:=of_drew bb;clear bb;replace HB:=c_ HB b3;replace HX:=h_ (HX.o.call b3);replace HW:=h_ (HW.o.call b3);replace HS:=h_ (HS.o.call b3);replace HF:=h_ (HF.o.call b3);clear b3;have hHeld:v1.cell? ⟨S2,0,none⟩=some (.int .i64 f1')/\v1.cell? ⟨S2,1,none⟩=some (.int .i64 f2')/\v1.cell? ⟨S2,2,none⟩=some (.int .i64 f3')/\v1.cell? ⟨S2,3,none⟩=some (.int .i64 f4'):=⟨HF.o.cell 0,HF.o.cell 1,HF.o.cell 2,HF.o.cell 3⟩;refine hK.out _ _ hHeld ?_;clear hK K;try simp only[y1_,y2_,y3_,Act.put,y4_,y5_,y6_]
      refine t_ 4 rfl ?_;refine t_ 5 rfl ?_;refine Reg.oneT (i:=8) rfl (by kernel_rfl) (λK hK=>?_);go_simp
      refine(HC2.o _).mono ?_;rintro e v2 ⟨rfl,bb⟩;replace HB:=c_ HB bb;replace HX:=h_ (HX.o.call bb);replace HW:=h_ (HW.o.call bb);replace HS:=h_ (HS.o.call bb);replace HF:=h_ (HF.o.call bb);clear bb;have hHeld:v2.cell? ⟨S2,0,none⟩=some (.int .i64 f1')/\v2.cell? ⟨S2,1,none⟩=some (.int .i64 f2')/\v2.cell? ⟨S2,2,none⟩=some (.int .i64 f3')/\v2.cell? ⟨S2,3,none⟩=some (.int .i64 f4'):=⟨HF.o.cell 0,HF.o.cell 1,HF.o.cell 2,HF.o.cell 3⟩;refine hK.out _ _ hHeld ?_;clear hK K;try simp only[y1_,y2_,y3_,Act.put,y4_,y5_,y6_]
      refine t_ 9 rfl ?_;refine t_ 10 rfl ?_;refine Reg.oneT (i:=13) rfl (by kernel_rfl) (λK hK=>?_);go_simp
      refine(HC3.o _).mono ?_;rintro e v3 ⟨rfl,bb⟩;replace HB:=c_ HB bb;replace HX:=h_ (HX.o.call bb);replace HW:=h_ (HW.o.call bb);replace HS:=h_ (HS.o.call bb);replace HF:=h_ (HF.o.call bb);clear bb;have hHeld:v3.cell? ⟨S2,0,none⟩=some (.int .i64 f1')/\v3.cell? ⟨S2,1,none⟩=some (.int .i64 f2')/\v3.cell? ⟨S2,2,none⟩=some (.int .i64 f3')/\v3.cell? ⟨S2,3,none⟩=some (.int .i64 f4'):=⟨HF.o.cell 0,HF.o.cell 1,HF.o.cell 2,HF.o.cell 3⟩;refine hK.out _ _ hHeld ?_;clear hK K;try simp only[y1_,y2_,y3_,Act.put,y4_,y5_,y6_]
      refine t_ 14 rfl ?_;refine t_ 15 rfl ?_;refine Reg.oneT (i:=18) rfl (by kernel_rfl) (λK hK=>?_);go_simp
      refine(HC4.o _).mono ?_;rintro e v4 ⟨rfl,bb⟩;replace HB:=c_ HB bb;replace HX:=h_ (HX.o.call bb);replace HW:=h_ (HW.o.call bb);replace HS:=h_ (HS.o.call bb);replace HF:=h_ (HF.o.call bb);clear bb;have hHeld:v4.cell? ⟨S2,0,none⟩=some (.int .i64 f1')/\v4.cell? ⟨S2,1,none⟩=some (.int .i64 f2')/\v4.cell? ⟨S2,2,none⟩=some (.int .i64 f3')/\v4.cell? ⟨S2,3,none⟩=some (.int .i64 f4'):=⟨HF.o.cell 0,HF.o.cell 1,HF.o.cell 2,HF.o.cell 3⟩;refine hK.out _ _ hHeld ?_;clear hK K;try simp only[y1_,y2_,y3_,Act.put,y4_,y5_,y6_]
      refine t_ 19 rfl ?_;rw[<-HTX.o];refine Reg.oneT (i:=20) rfl (by kernel_rfl) (λK hK=>?_);go_simp
      have BA:Below v4.heap.size v4 (v4.alloc (.cells #[.string (bs (lineF (f1',f2',f3',f4')))] 9)):=b_;have HLT:=h_ (rd_lit v4 #[.string (bs (lineF (f1',f2',f3',f4')))] 9 _ rfl);replace HB:=c_ HB BA;replace HX:=h_ (HX.o.call BA);replace HW:=h_ (HW.o.call BA);replace HS:=h_ (HS.o.call BA);replace HF:=h_ (HF.o.call BA);clear BA;generalize v4.alloc (.cells #[.string (bs (lineF (f1',f2',f3',f4')))] 9)=v5 at *;have hHeld:v5.cell? ⟨S2,0,none⟩=some (.int .i64 f1')/\v5.cell? ⟨S2,1,none⟩=some (.int .i64 f2')/\v5.cell? ⟨S2,2,none⟩=some (.int .i64 f3')/\v5.cell? ⟨S2,3,none⟩=some (.int .i64 f4'):=⟨HF.o.cell 0,HF.o.cell 1,HF.o.cell 2,HF.o.cell 3⟩;refine hK.out _ _ hHeld ?_;clear hK K;try simp only[y1_,y2_,y3_,Act.put,y4_,y5_,y6_]
      refine Reg.oneT (i:=21) rfl (by kernel_rfl) (λK hK=>?_);refine step_app (by rfl) _ _ 28 (by rfl) 9 i0 (.string ByteArray.empty) 1 16 Tryz.underlying28 HI.o.1 HI.o.2.1 HI.o.2.2.1 HI.o.2.2.2 rfl (by decide) w.heap.size A2 ms.length c2 (nmC (ms.map bs)) (by rfl) HW.o HB.o.size _ 1 1 [.string (bs (lineF (f1',f2',f3',f4')))] (by rfl) HLT.o rfl (λh=>by cases h) (CDumpI.one_str _) ?n1 ?n2 ?_
      case n1=>unfold maxLen;omega
      case n2=>omega
      intro A9 n9 c9 wz hn9 o9 g9 k9;subst hn9;have HX9:=h_ (HX.o.grown g9 (HW.o.box HX.o (by decide)));have HF9:=h_ (HF.o.grown g9 (HW.o.box HF.o (by decide)));have HS9:=h_ (HS.o.grown g9 (HW.o.box HS.o (by decide)));have HB9:=h_ (HB.o.grown g9 HB.o.size (λj hj=>(HW.o.lt j hj).1));have HW9:=h_ (show Row wz w.heap.size 9 1 A9 (ms++[lineF (f1',f2',f3',f4')]).length c9 (nmC ((ms++[lineF (f1',f2',f3',f4')]).map bs))from by
       rw[List.length_append,nmC_snoc];exact o9)
      have hq:=HML.o;have HLN9:=h_ (show(ms++[lineF (f1',f2',f3',f4')]).length=ls.length+1+(j+1)from by rw[List.length_append,hq];rfl);have HMN9:=h_ (show ms++[lineF (f1',f2',f3',f4')]=(ls++[lineS p.d])++(p.fs.take (j+1)).map lineF from by rw[HFS.o,HMS.o,List.append_assoc]);refine hK.out _ _ ⟨HF9.o.cell 0,HF9.o.cell 1,HF9.o.cell 2,HF9.o.cell 3⟩ ?_;have hHeld:wz.cell? ⟨S2,0,none⟩=some (.int .i64 f1')/\wz.cell? ⟨S2,1,none⟩=some (.int .i64 f2')/\wz.cell? ⟨S2,2,none⟩=some (.int .i64 f3')/\wz.cell? ⟨S2,3,none⟩=some (.int .i64 f4'):=⟨HF9.o.cell 0,HF9.o.cell 1,HF9.o.cell 2,HF9.o.cell 3⟩;clear hK K o9 g9 k9 HW HX HB HF hq HS;try simp only[y1_,y2_,y3_,Act.put,y4_,y5_,y6_]
      refine t_ 22 rfl ?_;refine Reg.doneT (by kernel_rfl) ?_ _;clear hHeld g1 g2 g3 g4 g5 g6 g7 hsl q1 q2 q3 q4;go_wp2_with fail
      refine⟨⟨j+1,A9,c9,_,by omega,by simp,by go_num,HMN9.o,HLN9.o,HW9.o,HX9.o,HS9.o,HB9.o⟩,by simp[intOf];omega⟩
     ·have hje:j=p.fs.length:=by omega
      have HLK:=h_ (show ms=linesSs ((o.ps.take (k+1)).map SV.d)from by
       rw[HSN.o,HMS.o,hje,List.take_length,HLS.o];simp[linesS,SV.d])
      have hmk:ms.length<=7*(k+1):=by have:=HML.o;omega
      have HMK:=h_ hmk;clear hmk hje;go_wp2_with fail
      refine⟨⟨k+1,A2,c2,ms,by omega,rfl,by go_num,HLK.o,HMK.o,HW.o,by rw[HA.o];exact HX.o,HB.o⟩,by simp[intOf];omega⟩
  ·have hke:k=o.ps.length:=by omega
   have HL0:=h_ (show ls=linesSs (o.ps.map SV.d)from by rw[HLS.o,hke,List.take_length]);have hl56:ls.length<=56:=by omega
   clear hke;go_wp2_with fail
   clear x0 x1 hxl;go_loopw [3,9] (λs i wi=>∃(j:Nat) (A2:Option Addr) (c2:Nat) (ms:List (List UInt8)),j<=o.ys.length/\s=.slice A2 ms.length c2/\i=.int .i64 j/\ms=ls++(o.ys.take j).map lineY/\ms.length=ls.length+j/\Row wi w.heap.size 9 1 A2 ms.length c2 (nmC (ms.map bs))/\Box wi w.heap.size 26 #[.slice o.A o.ps.length o.c,.slice o.Y o.ys.length o.yc]/\Below w.heap.size w wi) (λ_ i _=>o.ys.length-(intOf i).toNat)
   case atStart=>exact⟨0,A1,c1,ls,Nat.zero_le _,rfl,rfl,by simp,by simp,HW.o,HX.o,HB.o⟩
   case round=>
    rename World=>wi
    clear HW HX HB;obtain⟨j,A2,c2,ms,hj,rfl,rfl,hms,hml,hrow,hbox,hb⟩:=hrel;have HMS:=h_ hms;have HML:=h_ hml;have hml2:ms.length<=68:=by omega
    have HW:=h_ hrow;have HX:=h_ hbox;have HB:=h_ hb;clear hms hrow hb hml hbox;have x0:=d_ HX.o 0;have x1:=d_ HX.o 1;have hxl:=HX.o.lt;by_cases hltj:j<o.ys.length
    ·go_wp2_with fail
     refine(HV0.o wi HB.o).mono ?_;rintro e wj ⟨rfl,b1⟩;clear x0 x1 hxl;replace HB:=c_ HB b1;replace HX:=h_ (HX.o.call b1);replace HW:=h_ (HW.o.call b1);clear b1;have x0:=d_ HX.o 0;have x1:=d_ HX.o 1;have hxl:=HX.o.lt;obtain⟨fb,fo,hFA,hfb,hfc⟩:=(HR.o.2.below HB.o).row symbolC_len (by decide) hltj;have f0:=hfc 0 _ rfl;have f1:=hfc 1 _ rfl;have f2:=hfc 2 _ rfl;have f3:=hfc 3 _ rfl;simp only[Nat.add_zero]at f0;have HFS:=h_ (show(o.ys.take (j+1)).map lineY=(o.ys.take j).map lineY++[lineY o.ys[j]]from by rw[take_succ hltj,List.map_append];rfl);have HGF:=h_ (HG.o.2 o.ys[j] (List.getElem_mem hltj));have HFA:=h_ hFA;rw[hFA]at x1;clear hfc hFA;generalize o.ys[j]=f at *;obtain⟨y1,y2,y3,y4⟩:=f;simp only at f0 f1 f2 f3;have BF:Below wj.heap.size wj (wj.alloc (.cells #[.string y1,.int .i64 y2,.int .i64 y3,.int .i64 y4] 67)):=b_;have HF:=h_ (Box.new wj 67 #[.string y1,.int .i64 y2,.int .i64 y3,.int .i64 y4]);replace HB:=c_ HB BF;replace HX:=h_ (HX.o.call BF);replace HW:=h_ (HW.o.call BF);clear BF;go_wp2_with fail
     clear f0 f1 f2 f3 x0 x1 hxl;generalize wj.alloc (.cells #[.string y1,.int .i64 y2,.int .i64 y3,.int .i64 y4] 67)=wa at *;generalize wj.heap.size=S2 at *;have hN8:y1.size<=8:=(nmW_ok HGF.o.1).2;obtain⟨N1,hN1,q1,C1⟩:=num_of y2 HGF.o.2.1;obtain⟨N2,hN2,q2,C2⟩:=num_of y3 HGF.o.2.2.1;obtain⟨N3,hN3,q3,C3⟩:=num_of y4 HGF.o.2.2.2;have HTX:=h_ ((congrArg bs (lineY_eq HGF.o.1)).trans (symText HGF.o.1 hN1 hN2 hN3));have HC1:=h_ C1;have HC2:=h_ C2;have HC3:=h_ C3;clear hN1 hN2 hN3 C1 C2 C3;have g1:¬9223372036854775807<7+y1.size:=by omega
     have g2:¬9223372036854775807<7+y1.size+1:=by omega
     have g3:¬9223372036854775807<7+y1.size+1+N1.size:=by omega
     have g4:¬9223372036854775807<7+y1.size+1+N1.size+1:=by omega
     have g5:¬9223372036854775807<7+y1.size+1+N1.size+1+N2.size:=by omega
     have g6:¬9223372036854775807<7+y1.size+1+N1.size+1+N2.size+1:=by omega
     have g7:¬9223372036854775807<7+y1.size+1+N1.size+1+N2.size+1+N3.size:=by omega
     have hsl:=HF.o.lt;refine Reg.startT (λW=>W.cell? ⟨S2,0,none⟩=some (.string y1)/\W.cell? ⟨S2,1,none⟩=some (.int .i64 y2)/\W.cell? ⟨S2,2,none⟩=some (.int .i64 y3)/\W.cell? ⟨S2,3,none⟩=some (.int .i64 y4)) (λ_=>false) (by kernel_rfl) ?_;have hHeld:wa.drew.cell? ⟨S2,0,none⟩=some (.string y1)/\wa.drew.cell? ⟨S2,1,none⟩=some (.int .i64 y2)/\wa.drew.cell? ⟨S2,2,none⟩=some (.int .i64 y3)/\wa.drew.cell? ⟨S2,3,none⟩=some (.int .i64 y4):=⟨HF.o.cell 0,HF.o.cell 1,HF.o.cell 2,HF.o.cell 3⟩;refine t_ 0 rfl ?_;refine t_ 1 rfl ?_;refine t_ 2 rfl ?_;refine t_ 3 rfl ?_;refine t_ 4 rfl ?_;refine t_ 5 rfl ?_;refine t_ 6 rfl ?_;refine t_ 10 rfl ?_;refine t_ 11 rfl ?_;refine t_ 15 rfl ?_;refine t_ 16 rfl ?_;refine Reg.oneT (i:=7) rfl (by kernel_rfl) (λK hK=>?_);go_simp
     refine(HC1.o _).mono ?_;rintro e v1 ⟨rfl,bb⟩;have b3:=of_drew bb;clear bb;replace HB:=c_ HB b3;replace HX:=h_ (HX.o.call b3);replace HW:=h_ (HW.o.call b3);replace HF:=h_ (HF.o.call b3);clear b3;have hHeld:v1.cell? ⟨S2,0,none⟩=some (.string y1)/\v1.cell? ⟨S2,1,none⟩=some (.int .i64 y2)/\v1.cell? ⟨S2,2,none⟩=some (.int .i64 y3)/\v1.cell? ⟨S2,3,none⟩=some (.int .i64 y4):=⟨HF.o.cell 0,HF.o.cell 1,HF.o.cell 2,HF.o.cell 3⟩;refine hK.out _ _ hHeld ?_;clear hK K;try simp only[y1_,y2_,y3_,Act.put,y4_,y5_,y6_]
     refine t_ 8 rfl ?_;refine t_ 9 rfl ?_;refine Reg.oneT (i:=12) rfl (by kernel_rfl) (λK hK=>?_);go_simp
     refine(HC2.o _).mono ?_;rintro e v2 ⟨rfl,bb⟩;replace HB:=c_ HB bb;replace HX:=h_ (HX.o.call bb);replace HW:=h_ (HW.o.call bb);replace HF:=h_ (HF.o.call bb);clear bb;have hHeld:v2.cell? ⟨S2,0,none⟩=some (.string y1)/\v2.cell? ⟨S2,1,none⟩=some (.int .i64 y2)/\v2.cell? ⟨S2,2,none⟩=some (.int .i64 y3)/\v2.cell? ⟨S2,3,none⟩=some (.int .i64 y4):=⟨HF.o.cell 0,HF.o.cell 1,HF.o.cell 2,HF.o.cell 3⟩;refine hK.out _ _ hHeld ?_;clear hK K;try simp only[y1_,y2_,y3_,Act.put,y4_,y5_,y6_]
     refine t_ 13 rfl ?_;refine t_ 14 rfl ?_;refine Reg.oneT (i:=17) rfl (by kernel_rfl) (λK hK=>?_);go_simp
     refine(HC3.o _).mono ?_;rintro e v3 ⟨rfl,bb⟩;replace HB:=c_ HB bb;replace HX:=h_ (HX.o.call bb);replace HW:=h_ (HW.o.call bb);replace HF:=h_ (HF.o.call bb);clear bb;have hHeld:v3.cell? ⟨S2,0,none⟩=some (.string y1)/\v3.cell? ⟨S2,1,none⟩=some (.int .i64 y2)/\v3.cell? ⟨S2,2,none⟩=some (.int .i64 y3)/\v3.cell? ⟨S2,3,none⟩=some (.int .i64 y4):=⟨HF.o.cell 0,HF.o.cell 1,HF.o.cell 2,HF.o.cell 3⟩;refine hK.out _ _ hHeld ?_;clear hK K;try simp only[y1_,y2_,y3_,Act.put,y4_,y5_,y6_]
     refine t_ 18 rfl ?_;rw[<-HTX.o];refine Reg.oneT (i:=19) rfl (by kernel_rfl) (λK hK=>?_);go_simp
     have BA:Below v3.heap.size v3 (v3.alloc (.cells #[.string (bs (lineY (y1,y2,y3,y4)))] 9)):=b_;have HLT:=h_ (rd_lit v3 #[.string (bs (lineY (y1,y2,y3,y4)))] 9 _ rfl);replace HB:=c_ HB BA;replace HX:=h_ (HX.o.call BA);replace HW:=h_ (HW.o.call BA);replace HF:=h_ (HF.o.call BA);clear BA;generalize v3.alloc (.cells #[.string (bs (lineY (y1,y2,y3,y4)))] 9)=v4 at *;have hHeld:v4.cell? ⟨S2,0,none⟩=some (.string y1)/\v4.cell? ⟨S2,1,none⟩=some (.int .i64 y2)/\v4.cell? ⟨S2,2,none⟩=some (.int .i64 y3)/\v4.cell? ⟨S2,3,none⟩=some (.int .i64 y4):=⟨HF.o.cell 0,HF.o.cell 1,HF.o.cell 2,HF.o.cell 3⟩;refine hK.out _ _ hHeld ?_;clear hK K;try simp only[y1_,y2_,y3_,Act.put,y4_,y5_,y6_]
     refine Reg.oneT (i:=20) rfl (by kernel_rfl) (λK hK=>?_);refine step_app (by rfl) _ _ 28 (by rfl) 9 i0 (.string ByteArray.empty) 1 16 Tryz.underlying28 HI.o.1 HI.o.2.1 HI.o.2.2.1 HI.o.2.2.2 rfl (by decide) w.heap.size A2 ms.length c2 (nmC (ms.map bs)) (by rfl) HW.o HB.o.size _ 1 1 [.string (bs (lineY (y1,y2,y3,y4)))] (by rfl) HLT.o rfl (λh=>by cases h) (CDumpI.one_str _) ?n1 ?n2 ?_
     case n1=>unfold maxLen;omega
     case n2=>omega
     intro A9 n9 c9 wz hn9 o9 g9 k9;subst hn9;have HX9:=h_ (HX.o.grown g9 (HW.o.box HX.o (by decide)));have HF9:=h_ (HF.o.grown g9 (HW.o.box HF.o (by decide)));have HB9:=h_ (HB.o.grown g9 HB.o.size (λj hj=>(HW.o.lt j hj).1));have HW9:=h_ (show Row wz w.heap.size 9 1 A9 (ms++[lineY (y1,y2,y3,y4)]).length c9 (nmC ((ms++[lineY (y1,y2,y3,y4)]).map bs))from by
      rw[List.length_append,nmC_snoc];exact o9)
     have hq:=HML.o;have HLN9:=h_ (show(ms++[lineY (y1,y2,y3,y4)]).length=ls.length+(j+1)from by rw[List.length_append,hq];rfl);have HMN9:=h_ (show ms++[lineY (y1,y2,y3,y4)]=ls++(o.ys.take (j+1)).map lineY from by rw[HFS.o,HMS.o,List.append_assoc]);refine hK.out _ _ ⟨HF9.o.cell 0,HF9.o.cell 1,HF9.o.cell 2,HF9.o.cell 3⟩ ?_;have hHeld:wz.cell? ⟨S2,0,none⟩=some (.string y1)/\wz.cell? ⟨S2,1,none⟩=some (.int .i64 y2)/\wz.cell? ⟨S2,2,none⟩=some (.int .i64 y3)/\wz.cell? ⟨S2,3,none⟩=some (.int .i64 y4):=⟨HF9.o.cell 0,HF9.o.cell 1,HF9.o.cell 2,HF9.o.cell 3⟩;clear hK K o9 g9 k9 HW HX HB HF hq;try simp only[y1_,y2_,y3_,Act.put,y4_,y5_,y6_]
     refine t_ 21 rfl ?_;refine Reg.doneT (by kernel_rfl) ?_ _;clear hHeld g1 g2 g3 g4 g5 g6 g7 hsl q1 q2 q3 hN8;go_wp2_with fail
     refine⟨⟨j+1,A9,c9,_,by omega,by simp,by go_num,HMN9.o,HLN9.o,HW9.o,HX9.o,HB9.o⟩,by simp[intOf];omega⟩
    ·have hje:j=o.ys.length:=by omega
     have HEND:=h_ (show(dumpL o.d).map bs=ms.map bs from by
      rw[HV.o,linesO,HMS.o,hje,List.take_length,HL0.o]
      rfl)
     have hlm:(ms.map bs).length=ms.length:=List.length_map ..;clear hje;go_wp2_with fail
     go_ret;rw[HEND.o];exact⟨A2,c2,by rw[hlm];rfl,by rw[hlm];exact HW.o,HB.o⟩
end CDumpS
end Go.Proofs.YtepoiphmmjfbdaaGreatDoor
