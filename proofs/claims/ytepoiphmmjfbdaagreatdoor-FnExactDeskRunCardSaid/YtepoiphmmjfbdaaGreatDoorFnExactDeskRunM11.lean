/- ReadDump: the object of lines; the program's. -/
import Derived.Test.YtepoiphmmjfbdaaGreatDoorFnExactDeskRunM10
import Derived.OwnWalk
set_option linter.unusedSimpArgs false
set_option linter.unusedVariables false
set_option maxRecDepth 200000
open Go.ChangeShapes Go.WideShapes Go.ChangeAt Go.RowKit
namespace Go.Proofs.YtepoiphmmjfbdaaGreatDoor
namespace CReadDI
open Kit CCode CName CFixups CSymbols PObj BObj PValid PClear CNumTxt PNum PDump CHexI CHexS CSorted CNames CWordsS BStore BDesk CNumsI CReadI CMarkRows BObj2 BObj3 CEqN PStep CObjValid CStrRows BRetO
theorem sz_fit {o:OV} {w:World} {base:Nat} (h:SzD 1048576 1048576 o.d) (ho:OwnO w base o):Fit o:=by
 refine ⟨by simpa [OV.d] using h.1,by simpa [OV.d] using h.2.1,ho.2.cap.1,fun p hp=>?_,fun y hy=>?_⟩
 ·obtain ⟨h1,h2,h3⟩:=h.2.2.1 p.d (List.mem_map_of_mem hp);have h1':p.nm.size<=1048576:=h1;refine ⟨by unfold maxLen; omega,h2,h3⟩
 ·have:=h.2.2.2 y hy;unfold maxLen;omega
theorem sz_up {n k m:Nat} {d:OD} (h:SzD n k d) (hk:k<=m):SzD n m d:=⟨Nat.le_trans h.1 hk,Nat.le_trans h.2.1 hk,fun s hs=>⟨(h.2.2.1 s hs).1,(h.2.2.1 s hs).2.1,Nat.le_trans (h.2.2.1 s hs).2.2 hk⟩,h.2.2.2⟩
theorem map_bs {a b:List (List UInt8)}:a.map bs=b.map bs ↔ a=b:=by
 constructor
 ·intro h;have:=congrArg (List.map nmL) h;rw [List.map_map,List.map_map] at this
  have e:nmL ∘ bs=id:=by funext x; exact nm_bs x
  rwa [e,List.map_id,List.map_id] at this
 ·rintro rfl
  rfl
set_option maxHeartbeats 8000000 in
theorem readDump_any (A:Option Addr) (ls:List (List UInt8)) (c:Nat) (w:World) (hr:Rd w w.heap.size A (nmC (ls.map bs))) (hm:ls.length<=1048576) (hl:∀ x ∈ ls,x.length<=1048576) (he:Env w):
  Calls Tryz.prog 47 #[.slice A ls.length c] w (RetOB (readI ls) w):=by
 have HR:=h_ hr;have HE:=h_ he;have HL:=h_ hl;clear hr he hl;have HB:=h_ (show Below w.heap.size w ((w.alloc (.cells #[.slice none 0 0,.slice none 0 0] 26)).alloc (.cells #[.slice none 0 0,.slice none 0 0] 26)) from b_);have HRR:=h_ ((Box.new w 26 #[.slice none 0 0,.slice none 0 0]).alloc (.cells #[.slice none 0 0,.slice none 0 0] 26));have hx:=Box.new (w.alloc (.cells #[.slice none 0 0,.slice none 0 0] 26)) 26 #[.slice none 0 0,.slice none 0 0];simp only [World.size_alloc] at hx;have HX:=h_ hx
 have hwz:((w.alloc (.cells #[.slice none 0 0,.slice none 0 0] 26)).alloc (.cells #[.slice none 0 0,.slice none 0 0] 26)).heap.size=w.heap.size+2:=by simp only [World.size_alloc]
 clear hx
 go_enter Tryz.func47,Tryz.ntmps47
 go_wp2_with fail
 generalize (w.alloc (.cells #[.slice none 0 0,.slice none 0 0] 26)).alloc (.cells #[.slice none 0 0,.slice none 0 0] 26)=w0 at *;generalize hg:w.heap.size+1=g at *;have HG:=h_ (show w.heap.size<g from by omega);have HGW:=h_ (show g<=w0.heap.size from by omega)
 have HH:=h_ (show Held w0 g g nilO from ⟨HX.o,⟨⟨Row.empty _ _ _ _ _,(fun p hp=>by cases hp),List.Pairwise.nil⟩,Row.empty _ _ _ _ _⟩,by
  rintro k ((hk | ⟨p,hp,hk⟩) | hk)
  ·cases hk
  ·cases hp
  ·cases hk⟩)
 clear HX hg hwz
 go_loopw [10] (fun i wi=>∃ (k:Nat) (o:OV),k<=ls.length/\i=.int .i64 k/\stepsI ⟨[],[]⟩ ls=stepsI o.d (ls.drop k)/\SzD 1048576 k o.d/\InD o.d/\Held wi g g o/\Box wi w.heap.size 26 #[.slice none 0 0,.slice none 0 0]/\Below w.heap.size w wi/\g<=wi.heap.size) (fun i _=>ls.length - (intOf i).toNat)
 case atStart=>exact ⟨0,nilO,Nat.zero_le _,rfl,rfl,sz_nil _ _,inD_nil,HH.o,HRR.o,HB.o,HGW.o⟩
 case round=>
  clear HH HRR HB HGW;obtain ⟨k,o,hk,rfl,hst,hsz,hin,hh,hrr,hb,hgw⟩:=hrel;have HST:=h_ hst;have HSZ:=h_ hsz;have HIN:=h_ hin;have HH:=h_ hh;have HRR:=h_ hrr;have HB:=h_ hb;clear hst hsz hin hh hrr
  by_cases hlt:k<ls.length
  ·obtain ⟨b,off,rfl,hbg,hc⟩:=CNumsI.Rd.str (HR.o.below hb) hlt;have HLX:=h_ (HL.o _ (List.getElem_mem hlt))
   have HST2:=h_ (show stepsI ⟨[],[]⟩ ls=(stepI o.d ls[k]).bind fun d'=>stepsI d' (ls.drop (k+1)) from by
    rw [HST.o,List.drop_eq_getElem_cons hlt]
    rfl)
   clear hb HST;generalize ls[k]=x at *
   have hon1:o.ps.length<=4000000:=by have h:=HSZ.o.1; simp [OV.d] at h; omega
   have hon2:o.ys.length<=4000000:=by have h:o.ys.length<=k:=HSZ.o.2.1; omega
   have hon3:Hd (∀ p ∈ o.ps,p.fs.length<=4000000):=h_ fun p hp=>by
    have h:p.fs.length<=k:=(HSZ.o.2.2.1 p.d (List.mem_map_of_mem hp)).2.2;omega
   have HC:=h_ (readLine_any g g o (bs x) wr HH.o (Nat.le_refl _) hgw (by rw [bs_size]; exact HLX.o) (HE.o.below HB.o) hon1 hon2 hon3.o);rw [show (bs x).data.toList=x from by simp [bs]] at HC;clear hon1 hon2 hon3
   go_wp2_with fail
   refine HC.o.mono ?_;rintro e w2 ⟨bv,rfl,b2,hm2⟩;have HM2:=h_ hm2;replace HB:=h_ (HB.o.trans (b2.mono (Nat.le_of_lt HG.o)));replace HRR:=h_ (HRR.o.below b2 HG.o);have hgw2:g<=w2.heap.size:=Nat.le_trans hgw b2.size;clear HC hm2 b2 hc hgw
   cases hs:stepI o.d x with
   | none=>
    rw [hs] at HM2;have hbv:bv=false:=HM2.o;subst hbv
    have HV:=h_ (show readI ls=none from by
     unfold readI;rw [HST2.o,hs]
     rfl)
    clear hs HM2 HST2 HSZ HIN HH;have y0:=d_ HRR.o 0;have y1:=d_ HRR.o 1;have yf0:=HRR.o.frozen 0;have yf1:=HRR.o.frozen 1;have hrl:=HRR.o.lt;obtain ⟨k0,k1⟩:=cells2 (u:=.slice none 0 0) (v:=.slice none 0 0) HRR.o;have HFB:=h_ (below2 HB.o (Nat.le_refl _) (.slice none 0 0) (.slice none 0 0))
    go_wp2_with fail
    (try simp only [Exit.inBlock,Exit.then])
    exact bodyPost_ret (v:=.tuple #[.agg #[.slice none 0 0,.slice none 0 0],.bool false]) (by simp [results,Tryz.results47,go_sem,k0,k1]) rfl (by rw [HV.o]; exact ret_nilO HFB.o)
   | some d'=>
    rw [hs] at HM2;obtain ⟨rfl,o2,rfl,hh2⟩:=HM2.o;have HH2:=h_ hh2;have HS2:=h_ (sz_stepI HSZ.o HLX.o hs);have HI2:=h_ (inD_stepI HIN.o hs)
    have HT2:=h_ (show stepsI ⟨[],[]⟩ ls=stepsI o2.d (ls.drop (k+1)) from by
     rw [HST2.o,hs]
     rfl)
    clear hs HM2 HST2 HSZ HIN HH hh2
    go_wp2_with fail
    refine ⟨⟨k+1,o2,by omega,by go_num,HT2.o,HS2.o,HI2.o,HH2.o,HRR.o,HB.o,hgw2⟩,by simp [intOf]; omega⟩
  ·obtain rfl:k=ls.length:=by omega
   have HS:=h_ (show stepsI ⟨[],[]⟩ ls=some o.d from by
    rw [HST.o,List.drop_eq_nil_of_le (Nat.le_refl _)]
    rfl)
   have HF:=h_ (sz_fit (sz_up HSZ.o hm) HH.o.own);have HRO:=h_ (HH.o.own.rd);clear HST HSZ hb;have hx:=HH.o.box;have x0:=d_ hx 0;have x1:=d_ hx 1;have hxl:=hx.lt;clear hx
   go_wp2_with fail
   refine (objectValid_any o wr HRO.o HF.o).mono ?_;rintro e w2 ⟨rfl,b2⟩;clear x0 x1 hxl;replace HRO:=h_ ((HRO.o.below b2).more b2.size);replace HX:=h_ (HH.o.box.call b2);have HO:=h_ (HH.o.own.call b2);replace HB:=c_ HB b2;replace HRR:=h_ (HRR.o.call b2);clear b2
   cases hok:objOk o.d
   ·have HV:=h_ (show readI ls=none from by
     unfold readI;rw [HS.o];unfold fin;simp only
     rw [if_neg (by rw [hok]; intro h; cases h.1)])
    clear hok;have y0:=d_ HRR.o 0;have y1:=d_ HRR.o 1;have yf0:=HRR.o.frozen 0;have yf1:=HRR.o.frozen 1;have hrl:=HRR.o.lt;obtain ⟨k0,k1⟩:=cells2 (u:=.slice none 0 0) (v:=.slice none 0 0) HRR.o;have HFB:=h_ (below2 HB.o (Nat.le_refl _) (.slice none 0 0) (.slice none 0 0))
    go_wp2_with fail
    (try simp only [Exit.inBlock,Exit.then])
    exact bodyPost_ret (v:=.tuple #[.agg #[.slice none 0 0,.slice none 0 0],.bool false]) (by simp [results,Tryz.results47,go_sem,k0,k1]) rfl (by rw [HV.o]; exact ret_nilO HFB.o)
   have HOK:=h_ hok;clear hok;have x0:=d_ HX.o 0;have x1:=d_ HX.o 1;have hxl:=HX.o.lt
   go_wp2_with fail
   refine (CDumpI.dumpObject_any o w2 HRO.o HF.o HIN.o (HE.o.below HB.o)).mono ?_;rintro e w3 ⟨A9,c9,rfl,row9,b9⟩;clear x0 x1 hxl;replace HB:=c_ HB b9;replace HRR:=h_ (HRR.o.call b9);replace HX:=h_ (HX.o.call b9);replace HO:=h_ (HO.o.call b9);clear b9;have HEQ:=h_ (equalN_any A9 A ((dumpL o.d).map bs) (ls.map bs) c9 c w3 row9.rd ((HR.o.below HB.o).more HB.o.size) (by have:=row9.cap; unfold maxLen at this; omega) (by rw [List.length_map]; omega));rw [show (List.map bs ls).length=ls.length from by simp] at HEQ;generalize ((dumpL o.d).map bs).length=dn at *
   have HQ:=h_ (show decide ((dumpL o.d).map bs=ls.map bs)=decide (dumpL o.d=ls) from by
    rw [decide_eq_decide]
    exact map_bs)
   rw [HQ.o] at HEQ;clear HQ row9
   go_wp2_with fail
   refine HEQ.o.mono ?_;rintro e w4 ⟨rfl,b4⟩;clear HEQ;replace HB:=c_ HB b4;replace HRR:=h_ (HRR.o.call b4);replace HX:=h_ (HX.o.call b4);replace HO:=h_ (HO.o.call b4);clear b4;have y0:=d_ HRR.o 0;have y1:=d_ HRR.o 1;have yf0:=HRR.o.frozen 0;have yf1:=HRR.o.frozen 1;have hrl:=HRR.o.lt
   by_cases hd:dumpL o.d=ls
   ·have HV:=h_ (show readI ls=some o.d from by
     unfold readI;rw [HS.o];unfold fin;simp only
     rw [if_pos ⟨HOK.o,hd⟩])
    rw [decide_eq_true hd];clear hd;have x0:=d_ HX.o 0;have x1:=d_ HX.o 1;have hxl:=HX.o.lt;obtain ⟨k0,k1⟩:=cells2 (u:=.slice o.A o.ps.length o.c) (v:=.slice o.Y o.ys.length o.yc) HRR.o;have HFB:=h_ (below2 HB.o (Nat.le_refl _) (.slice o.A o.ps.length o.c) (.slice o.Y o.ys.length o.yc))
    go_wp2_with fail
    (try simp only [Exit.inBlock,Exit.then])
    exact bodyPost_ret (v:=.tuple #[.agg #[.slice o.A o.ps.length o.c,.slice o.Y o.ys.length o.yc],.bool true]) (by simp [results,Tryz.results47,go_sem,k0,k1]) rfl (by
     rw [HV.o]
     exact ⟨o,rfl,HFB.o,fun d hd=>by
      injection hd with hd;refine ⟨hd,?_⟩
      exact OwnO.set (a:=⟨w.heap.size,1,none⟩) (OwnO.set (a:=⟨w.heap.size,0,none⟩) (HO.o.down (Nat.le_of_lt HG.o)) (fun k hk e=>by have:=(HO.o.lt k hk).1; have:=HG.o; have e':k=w.heap.size:=e; omega) _) (fun k hk e=>by have:=(HO.o.lt k hk).1; have:=HG.o; have e':k=w.heap.size:=e; omega) _⟩)
   ·have HV:=h_ (show readI ls=none from by
     unfold readI;rw [HS.o];unfold fin;simp only
     rw [if_neg (fun h=>hd h.2)])
    rw [decide_eq_false hd];clear hd;obtain ⟨k0,k1⟩:=cells2 (u:=.slice none 0 0) (v:=.slice none 0 0) HRR.o;have HFB:=h_ (below2 HB.o (Nat.le_refl _) (.slice none 0 0) (.slice none 0 0))
    go_wp2_with fail
    (try simp only [Exit.inBlock,Exit.then])
    exact bodyPost_ret (v:=.tuple #[.agg #[.slice none 0 0,.slice none 0 0],.bool false]) (by simp [results,Tryz.results47,go_sem,k0,k1]) rfl (by rw [HV.o]; exact ret_nilO HFB.o)
end CReadDI
/- How long what a desk reads is,and that its objects stay objects of bytes; plain. -/
namespace PDesk2
open Kit CCode CName CFixups CSymbols PObj PValid PClear PLink PNum PDump PJoin PDesk PLinkIn PStep
theorem cut_len (s:List UInt8):(cutW s).length<=s.length/\(cutR s).length<=s.length/\(cutR s ≠ []->(cutW s).length+1+(cutR s).length=s.length):=by
 rcases cut_or 32 s with h | ⟨x,r,rfl,h⟩
 ·obtain ⟨e1,e2⟩:=cut_none h;rw [e1,e2];exact ⟨Nat.le_refl _,Nat.zero_le _,fun h=>absurd rfl h⟩
 ·obtain ⟨e1,e2⟩:=cut_at (r:=r) h;rw [e1,e2,List.length_append,List.length_cons];exact ⟨by omega,by omega,fun _=>by omega⟩
theorem desk_in {l:List OD} {s:List UInt8} (h:∀ d ∈ l,InD d):∀ d ∈ (deskA l s).1,InD d:=by
 unfold deskA
 split
 ·intro d hd
  cases hd
 split
 ·unfold joinA
  cases hj:joinAll l with
  | none=>exact h
  | some o=>
   intro d hd;rw [List.mem_singleton.1 hd];exact joinAll_in h hj
 split
 ·exact h
 split
 ·unfold loadA
  cases hj:readI (splt 124 (cutR s)) with
  | none=>exact h
  | some o=>
   simp only
   split
   ·exact h
   ·intro d hd
    rcases List.mem_append.1 hd with hd | hd
    ·exact h d hd
    ·rw [List.mem_singleton.1 hd];exact (readI_some hj).2.2
 split
 ·exact h
 split
 ·exact h
 ·exact h
theorem find_bd {l:List OD} {nm:ByteArray} {g:G} (h:objsOk l=true) (e:findN l nm=some g):g.1<=4/\g.2<=12:=by
 obtain ⟨h1,h2,_⟩:=find_ok e;simp only [objsOk,Bool.and_eq_true,decide_eq_true_eq,List.all_eq_true] at h;have h3:=h.2 (l[g.1]) (List.getElem_mem h1);have h4:=(obj_all h3).2.1;rw [List.getD_eq_getElem?_getD,List.getElem?_eq_getElem h1] at h2;simp only [Option.getD_some] at h2;omega
end PDesk2
/- DeskLine: a line of a session; the program's. -/
namespace CDeskI
open Kit CCode CName CNumTxt CFixups CSymbols PObj BObj PValid PClear PNum PDump PLink PLinkL BList CMarkRows BObj2 BRetO CObjValid CCopyS CValids CSorted CNames CWordsS CObjL COwnL PJoin PJoin2 PDesk PDesk2 PLinkIn BDesk CHexI CHexS CJoinAI CDeskLI CReadDI CEqN CFind CStrRows
def RetDA (r:DA) (w:World) (e:Ending) (w':World):Prop:=∃ A c os,e=.returned (.tuple #[.slice A (os:List OV).length c,.string (bs r.2)])/\os.map OV.d=r.1/\OwnOs w' w.heap.size A c os/\Below w.heap.size w w'
theorem text_eq {x y:List UInt8} (h:x=y):((bs x).toList == y)=true:=by
 rw [CDeskLI.bs_list,h];simp
theorem text_ne {x y:List UInt8} (h:¬ x=y):((bs x).toList == y)=false:=by
 rw [CDeskLI.bs_list];exact beq_eq_false_iff_ne.2 h
theorem own_one {w:World} {base:Nat} {o:OV} (h:OwnO w base o) (hb:base<=w.heap.size):OwnOs (w.alloc (.cells #[.slice o.A o.ps.length o.c,.slice o.Y o.ys.length o.yc] 26)) base (some ⟨w.heap.size,0,none⟩) 1 [o]:=by
 refine ⟨.inr ?_,fun p hp=>?_,List.pairwise_singleton _ _⟩
 ·have ho:=World.ownsRow_lit (e:=26) (size:=2) (base:=base) w #[.slice o.A o.ps.length o.c,.slice o.Y o.ys.length o.yc] 1 hb (by unfold maxLen; omega) rfl;exact ho
 ·rw [List.mem_singleton.1 hp];exact h.call ((Below.refl _ _).alloc (Nat.le_refl _) _)
set_option maxHeartbeats 40000000 in
theorem deskLine_any (A:Option Addr) (os:List OV) (c:Nat) (s:List UInt8) (w:World) (hr:RdOs w w.heap.size A os) (hf:Fits os) (hn:∀ o ∈ os,Nils o) (hz:∀ o ∈ os,InD o.d) (hc:os.length<=c) (hs:s.length<=1048576) (he:Env w):
  Calls Tryz.prog 13 #[.slice A os.length c,.string (bs s)] w (RetDA (deskA (os.map OV.d) s) w):=by
 obtain ⟨i0,hi1,hi2,hi3,hi4⟩:=info_parts infoO;have HI:=h_ (And.intro hi1 (And.intro hi2 (And.intro hi3 hi4)));clear hi1 hi2 hi3 hi4;have HR:=h_ hr;have HF:=h_ hf;have HN:=h_ hn;have HE:=h_ he;have HZ:=h_ hz;clear hr hf hn he hz
 go_enter Tryz.func13,Tryz.ntmps13
 go_wp2_with fail
 refine (objectsValid_any A os c w HR.o HF.o).mono ?_;rintro e w1 ⟨rfl,b1⟩;have HB:=h_ b1;clear b1
 cases hok:objsOk (os.map OV.d)
 ·have HV:=h_ (show deskA (os.map OV.d) s=([],[]) from if_pos hok);clear hok
  go_wp2_with fail
  go_ret2;rw [HV.o];exact ⟨none,0,[],rfl,rfl,⟨Row.empty _ _ _ _ _,(fun p hp=>by cases hp),List.Pairwise.nil⟩,HB.o⟩
 obtain ⟨h4,hall⟩:=objs_all hok;have HAL:=h_ (fun o (ho:o ∈ os)=>valid_len (hall o ho));have HOK:=h_ hok
 have HDA:=h_ (show deskA (os.map OV.d) s=(if s=joinT then joinA (os.map OV.d) else if cutR s=[] then (os.map OV.d,whatT) else if cutW s=loadT then loadA (os.map OV.d) (cutR s) else if cutW s=linkT then (os.map OV.d,linkI (os.map OV.d) (cutR s)) else if cutW s=findT then (os.map OV.d,findA (os.map OV.d) (cutR s)) else (os.map OV.d,whatT)) from by
  unfold deskA
  rw [if_neg (by rw [hok]; decide)])
 clear hok hall
 go_wp2_with fail
 refine (copyObjects_any A os c w1 ((HR.o.below HB.o).more HB.o.size) HF.o HN.o (fun o ho=>by have:=HAL.o o ho; omega)).mono ?_;rintro e w2 ⟨A2,c2,qs,rfl,hqd,o2,b2⟩;have HQ:=h_ hqd;have HC:=h_ (o2.down HB.o.size)
 have hql:qs.length=os.length:=by
  have h:=congrArg List.length hqd
  simpa using h
 have HQL:=h_ hql
 have hq4:qs.length<=4:=by omega
 replace HB:=c_ HB b2;clear b2;clear hqd o2 hql;have HCU:=h_ (cut_any (bs s) (by rw [bs_size]; exact hs) w2 (HE.o.below HB.o));rw [show (bs s).data.toList=s from by simp [bs]] at HCU
 go_wp2_with fail
 refine HCU.o.mono ?_;clear HCU;rintro e w3 ⟨⟨bt,rfl⟩,b3⟩;replace HB:=c_ HB b3;replace HC:=h_ (HC.o.call b3);clear b3;obtain ⟨hcw,hcr,hct⟩:=cut_len s;have HCT:=h_ hct;clear hct;generalize cutW s=W at *;generalize cutR s=T at *
 by_cases hj:s=joinT
 ·have hq:((bs s).toList == [106,111,105,110])=true:=text_eq hj;have HDJ:=h_ (HDA.o.trans (if_pos hj));clear hj HDA HCT
  go_wp2_with fail
  clear hq;refine (joinAll_any A os c w3 ((HR.o.below HB.o).more HB.o.size) HF.o HN.o hc).mono ?_;rintro e w4 ⟨q,rfl,b4,hq4'⟩;have HQ4:=h_ hq4';have hw34:=HB.o.size;replace HB:=c_ HB b4;replace HC:=h_ (HC.o.call b4);clear b4;clear hq4';have BA:Below w4.heap.size w4 (w4.alloc (.cells #[.slice q.A q.ps.length q.c,.slice q.Y q.ys.length q.yc] 26)):=b_;have HX:=h_ (Box.new w4 26 #[.slice q.A q.ps.length q.c,.slice q.Y q.ys.length q.yc]);have HO:=h_ (fun d (hd:joinAll (os.map OV.d)=some d)=>And.intro (HQ4.o d hd).1 (((HQ4.o d hd).2.down hw34).call BA));replace HB:=c_ HB BA;replace HC:=h_ (HC.o.call BA);clear BA;clear HQ4
  cases hja:joinAll (os.map OV.d) with
  | none=>
   have HV:=h_ (show deskA (os.map OV.d) s=(os.map OV.d,noT) from by
    rw [HDJ.o];unfold joinA
    rw [hja])
   clear HO hja HDJ;simp only [Option.isSome]
   go_wp2_with fail
   go_ret2;rw [HV.o];exact ⟨A2,c2,qs,rfl,HQ.o,HC.o,HB.o⟩
  | some d=>
   have HV:=h_ (show deskA (os.map OV.d) s=([d],okT) from by
    rw [HDJ.o];unfold joinA
    rw [hja])
   obtain ⟨rfl,hoq⟩:=HO.o d hja;have HOQ:=h_ hoq;clear HO hoq HDJ hja;simp only [Option.isSome];have x0:=d_ HX.o 0;have x1:=d_ HX.o 1;have hxl:=HX.o.lt
   go_upto_if 36 with (fail)
   generalize w4.alloc (.cells #[.slice q.A q.ps.length q.c,.slice q.Y q.ys.length q.yc] 26)=w5 at *;generalize w4.heap.size=Z at *;have B6:Below w5.heap.size w5 (w5.alloc (.cells #[.slice q.A q.ps.length q.c,.slice q.Y q.ys.length q.yc] 26)):=b_;have HONE:=h_ (own_one HOQ.o HB.o.size);replace HB:=c_ HB B6;clear B6
   go_wp2_with fail
   go_ret2;rw [HV.o];exact ⟨_,1,[q],rfl,rfl,HONE.o,HB.o⟩
 have hjq:((bs s).toList == [106,111,105,110])=false:=text_ne hj;have HD1:=h_ (HDA.o.trans (if_neg hj));clear hj HDA
 by_cases ht:T=[]
 ·have hq:(bs T).toList.isEmpty=true:=by rw [CDeskLI.bs_list,ht]; rfl
  have HV:=h_ (HD1.o.trans (if_pos ht));clear ht HD1 HCT
  go_wp2_with fail
  go_ret2;rw [HV.o];exact ⟨A2,c2,qs,rfl,HQ.o,HC.o,HB.o⟩
 have hq:(bs T).toList.isEmpty=false:=by
  rw [CDeskLI.bs_list]
  cases T with
  | nil=>exact absurd rfl ht
  | cons x r=>rfl
 have hlen:=HCT.o ht;have HD2:=h_ (HD1.o.trans (if_neg ht));clear ht HD1 HCT
 by_cases hw:W=loadT
 ·have hwq:((bs W).toList == [108,111,97,100])=true:=text_eq hw
  have hw4:W.length=4:=by rw [hw]; rfl
  have HD3:=h_ (HD2.o.trans (if_pos hw))
  have hT:T.length<=1048571:=by omega
  clear hw HD2 hlen hw4;have HSP:=h_ (split_any (124:UInt8) (bs T) (by rw [bs_size]; omega) w3 (HE.o.below HB.o));rw [show (bs T).data.toList=T from by simp [bs]] at HSP;have hsl:=(splt_len (124:UInt8) T).2;have HSM:=h_ (splt_mem (124:UInt8) T)
  have HLO:=h_ (show loadA (os.map OV.d) T=(match readI (splt 124 T) with
   | some o=>if (os.map OV.d).length=4 then (os.map OV.d,noT) else (os.map OV.d++[o],okT)
   | none=>(os.map OV.d,noT)) from rfl)
  go_wp2_with fail
  refine HSP.o.mono ?_;clear HSP;rintro e w4 ⟨A4,c4,rfl,row4,b4⟩;rw [show (List.map bs (splt 124 T)).length=(splt 124 T).length from by simp] at *;have HRW:=h_ row4;replace HB:=c_ HB b4;replace HC:=h_ (HC.o.call b4);clear b4;clear row4;generalize splt 124 T=ls at *;have HRD:=h_ (readDump_any A4 ls c4 w4 HRW.o.rd (by omega) (fun x hx=>by have:=HSM.o x hx; omega) (HE.o.below HB.o))
  go_wp2_with fail
  refine HRD.o.mono ?_;clear HRD HRW HSM;rintro e w5 ⟨q,rfl,b5,hq5⟩;have HQ5:=h_ hq5;have hw45:=HB.o.size;have HOLD:=h_ (fun x (hx:x ∈ qs) j (hj:oblk x j)=>(show j<w4.heap.size from ((HC.o.2.1 x hx).lt j hj).2));replace HB:=c_ HB b5;replace HC:=h_ (HC.o.call b5);clear b5;clear hq5;have BA:Below w5.heap.size w5 (w5.alloc (.cells #[.slice q.A q.ps.length q.c,.slice q.Y q.ys.length q.yc] 26)):=b_;have HX:=h_ (Box.new w5 26 #[.slice q.A q.ps.length q.c,.slice q.Y q.ys.length q.yc]);have HO:=h_ (fun d (hd:readI ls=some d)=>And.intro (HQ5.o d hd).1 (And.intro (((HQ5.o d hd).2.down hw45).call BA) (fun j (hj:oblk q j)=>(show w4.heap.size<=j from ((HQ5.o d hd).2.lt j hj).1))));replace HB:=c_ HB BA;replace HC:=h_ (HC.o.call BA);clear BA;clear HQ5
  cases hri:readI ls with
  | none=>
   have HV:=h_ (show deskA (os.map OV.d) s=(os.map OV.d,noT) from by
    rw [HD3.o,HLO.o,hri])
   clear HO hri HD3 HLO hwq hq hjq;simp only [Option.isSome]
   go_wp2_with fail
   go_ret2;rw [HV.o];exact ⟨A2,c2,qs,rfl,HQ.o,HC.o,HB.o⟩
  | some d=>
   obtain ⟨rfl,hoq,hnew⟩:=HO.o d hri;have HOQ:=h_ hoq;have HNEW:=h_ hnew;clear HO hoq hnew;simp only [Option.isSome]
   by_cases h44:os.length=4
   ·have HV:=h_ (show deskA (os.map OV.d) s=(os.map OV.d,noT) from by
     rw [HD3.o,HLO.o,hri];simp only
     rw [if_pos (by rw [List.length_map]; exact h44)])
    have hqq:((os.length:Int) == 4)=true:=beq_iff_eq.2 (by omega);clear hri HD3 HLO h44 hwq hq hjq
    go_wp2_with fail
    go_ret2;rw [HV.o];exact ⟨A2,c2,qs,rfl,HQ.o,HC.o,HB.o⟩
   ·have HV:=h_ (show deskA (os.map OV.d) s=(os.map OV.d++[q.d],okT) from by
     rw [HD3.o,HLO.o,hri];simp only
     rw [if_neg (by rw [List.length_map]; exact h44)])
    have hqq:((os.length:Int) == 4)=false:=beq_eq_false_iff_ne.2 (by omega);clear hri HD3 HLO h44 hwq hq hjq;have x0:=d_ HX.o 0;have x1:=d_ HX.o 1;have hxl:=HX.o.lt
    go_upto_if 58 with (fail)
    generalize w5.alloc (.cells #[.slice q.A q.ps.length q.c,.slice q.Y q.ys.length q.yc] 26)=w6 at *;generalize w5.heap.size=Z at *;have B7:Below w6.heap.size w6 (w6.alloc (.cells (objC q).toArray 26)):=b_;have HC7:=h_ (HC.o.call B7);have HOQ7:=h_ (HOQ.o.call B7);replace HB:=c_ HB B7;clear B7;clear HC HOQ;simp only [objC] at HC7 HOQ7 HB ⊢
    go_wp2_with (at_builtin; refine wpList_app _ rfl (.tmp 60) (.tmp 62) 32 rfl 26 i0 (.agg #[.slice none 0 0,.slice none 0 0]) 2 48 Tryz.underlying32 HI.o.1 HI.o.2.1 HI.o.2.2.1 HI.o.2.2.2 rfl (by decide) w.heap.size A2 qs.length c2 (cellsOf objC qs) rfl HC7.o.1 HB.o.size (some ⟨w6.heap.size,0,none⟩) 1 1 (objC q) rfl (rd_lit w6 (objC q).toArray 26 _ rfl) rfl (fun h=>by cases h) (one_objC q) ?n1 ?n2 ?_)
    case n1=>unfold maxLen; omega
    case n2=>omega
    intro A8 n8 c8 w8 hn8 o8 g8 k8;have HOW:=h_ (OwnOs.snoc HC7.o HOQ7.o HOLD.o HNEW.o hn8 o8 g8);have HB8:=h_ (HB.o.grown g8 HB.o.size (fun j hj=>(HC7.o.1.lt j hj).1))
    have hn8':n8=(qs++[q]).length:=by rw [hn8,List.length_append]; rfl
    subst hn8';clear hn8 o8 g8 k8 HC7 HOQ7
    go_wp2_with fail
    go_ret2;rw [HV.o];exact ⟨A8,c8,qs++[q],rfl,by rw [List.map_append,HQ.o]; rfl,HOW.o,HB8.o⟩
 have hwq:((bs W).toList == [108,111,97,100])=false:=text_ne hw;have HD3:=h_ (HD2.o.trans (if_neg hw));clear hw HD2
 by_cases hw:W=linkT
 ·have hwq2:((bs W).toList == [108,105,110,107])=true:=text_eq hw;have HV:=h_ (HD3.o.trans (if_pos hw));clear hw HD3;have HDL:=h_ (deskLink_any A os c T w3 ((HR.o.below HB.o).more HB.o.size) HF.o HN.o HZ.o (by omega) (HE.o.below HB.o))
  go_wp2_with fail
  clear hwq2 hwq hq hjq;refine HDL.o.mono ?_;rintro e w4 ⟨rfl,b4⟩;replace HB:=c_ HB b4;replace HC:=h_ (HC.o.call b4);clear b4
  go_wp2_with fail
  go_ret2;rw [HV.o];exact ⟨A2,c2,qs,rfl,HQ.o,HC.o,HB.o⟩
 have hwq2:((bs W).toList == [108,105,110,107])=false:=text_ne hw;have HD4:=h_ (HD3.o.trans (if_neg hw));clear hw HD3
 by_cases hw:W=findT
 ·have hwq3:((bs W).toList == [102,105,110,100])=true:=text_eq hw;have HD5:=h_ (HD4.o.trans (if_pos hw));clear hw HD4;have HFN:=h_ (findName_any A os c (bs T) w3 ((HR.o.below HB.o).more HB.o.size) ⟨by omega,fun o ho=>by have:=HAL.o o ho; omega⟩)
  go_wp2_with fail
  clear hwq3 hwq2 hwq hq hjq;refine HFN.o.mono ?_;clear HFN;rintro e w4 ⟨rfl,b4⟩;replace HB:=c_ HB b4;replace HC:=h_ (HC.o.call b4);clear b4
  have HFA:=h_ (show findA (os.map OV.d) T=(match findN (os.map OV.d) (bs T) with
   | some g=>Lib.itoa g.1++46 :: Lib.itoa g.2
   | none=>noT) from rfl)
  have BA:Below w4.heap.size w4 (w4.alloc (.cells #[.int .i64 (gin (findN (os.map OV.d) (bs T))),.int .i64 (gat (findN (os.map OV.d) (bs T)))] 79)):=b_;have HX:=h_ (Box.new w4 79 #[.int .i64 (gin (findN (os.map OV.d) (bs T))),.int .i64 (gat (findN (os.map OV.d) (bs T)))]);replace HB:=c_ HB BA;replace HC:=h_ (HC.o.call BA);clear BA;simp only [givV]
  cases hfn:findN (os.map OV.d) (bs T) with
  | none=>
   have HV:=h_ (show deskA (os.map OV.d) s=(os.map OV.d,noT) from by rw [HD5.o,HFA.o,hfn]);rw [hfn] at HB HC HX;clear hfn HD5 HFA;simp only [Option.isSome]
   go_wp2_with fail
   go_ret2;rw [HV.o];exact ⟨A2,c2,qs,rfl,HQ.o,HC.o,HB.o⟩
  | some g=>
   obtain ⟨hg1,hg2⟩:=find_bd HOK.o hfn;have HV:=h_ (show deskA (os.map OV.d) s=(os.map OV.d,Lib.itoa g.1++46 :: Lib.itoa g.2) from by rw [HD5.o,HFA.o,hfn]);rw [hfn] at HB HC HX;clear hfn HD5 HFA;obtain ⟨g1,g2⟩:=g;simp only [Option.isSome,gin,gat] at HB HC HX HV hg1 hg2 ⊢;have hi1:=Lib.itoa_length_le (g1:Int) (by omega) (by omega);have hi2:=Lib.itoa_length_le (g2:Int) (by omega) (by omega);have x0:=d_ HX.o 0;have x1:=d_ HX.o 1;have hxl:=HX.o.lt
   go_upto_if 81 with (fail)
   generalize w4.alloc (.cells #[.int .i64 g1,.int .i64 g2] 79)=w5 at *;generalize w4.heap.size=Z at *
   go_wp2_with fail
   refine Reg.startT (fun V=>V.cell? ⟨Z,0,none⟩=some (.int .i64 g1)/\V.cell? ⟨Z,1,none⟩=some (.int .i64 g2)) (fun _=>false) (by kernel_rfl) ?_;have hHeld:w5.drew.cell? ⟨Z,0,none⟩=some (.int .i64 g1)/\w5.drew.cell? ⟨Z,1,none⟩=some (.int .i64 g2):=⟨x0,x1⟩;refine t_ 0 rfl ?_;refine t_ 1 rfl ?_;refine t_ 2 rfl ?_;refine t_ 5 rfl ?_;refine t_ 6 rfl ?_;refine Reg.oneT (i:=3) rfl (by kernel_rfl) (fun K hK=>?_)
   go_simp
   refine (itoa_any (g1:Int) (by omega) (by omega) _ (HE.o.below (below_dr HB.o))).mono ?_;rintro e w6 ⟨rfl,b6⟩;have b6':=of_drew b6;have hHeld:w6.cell? ⟨Z,0,none⟩=some (.int .i64 g1)/\w6.cell? ⟨Z,1,none⟩=some (.int .i64 g2):=⟨(b6'.cell (p:=⟨Z,0,none⟩) hxl).trans x0,(b6'.cell (p:=⟨Z,1,none⟩) hxl).trans x1⟩;have hxl6:Z<w6.heap.size:=Nat.lt_of_lt_of_le hxl b6'.size;replace HB:=h_ (HB.o.trans (b6'.mono HB.o.size));replace HC:=h_ (HC.o.call b6');clear b6';refine hK.out _ _ hHeld ?_;clear hK K b6
   try simp only [y1_,y2_,y3_,Act.put,y4_,y5_,y6_]
   have hs1:¬ 9223372036854775807<(bs (Lib.itoa (g1:Int))).size+1:=by rw [bs_size]; omega
   refine t_ 4 rfl ?_;refine Reg.oneT (i:=7) rfl (by kernel_rfl) (fun K hK=>?_)
   go_simp
   refine (itoa_any (g2:Int) (by omega) (by omega) _ (HE.o.below HB.o)).mono ?_;rintro e w7 ⟨rfl,b7⟩;have hHeld:w7.cell? ⟨Z,0,none⟩=some (.int .i64 g1)/\w7.cell? ⟨Z,1,none⟩=some (.int .i64 g2):=⟨(b7.cell (p:=⟨Z,0,none⟩) hxl6).trans hHeld.1,(b7.cell (p:=⟨Z,1,none⟩) hxl6).trans hHeld.2⟩;replace HB:=c_ HB b7;replace HC:=h_ (HC.o.call b7);clear b7;refine hK.out _ _ hHeld ?_;clear hK K
   try simp only [y1_,y2_,y3_,Act.put,y4_,y5_,y6_]
   have hs2:¬ 9223372036854775807<(bs (Lib.itoa (g1:Int))).size+1+(bs (Lib.itoa (g2:Int))).size:=by rw [bs_size,bs_size]; omega
   refine t_ 8 rfl ?_;refine t_ 9 rfl ?_;refine t_ 10 rfl ?_;refine Reg.doneT (by kernel_rfl) ?_ _
   have HTX:=h_ (show bs (Lib.itoa (g1:Int))++(⟨#[46]⟩:ByteArray)++bs (Lib.itoa (g2:Int))=bs (Lib.itoa (g1:Int)++46 :: Lib.itoa (g2:Int)) from by
    rw [show (⟨#[46]⟩:ByteArray)=bs [46] from rfl,bs_app,bs_app]
    simp)
   clear hHeld x0 x1 hxl
   go_wp2_with fail
   go_ret2;rw [HV.o];exact ⟨A2,c2,qs,by rw [HTX.o]; rfl,HQ.o,HC.o,HB.o⟩
 have hwq3:((bs W).toList == [102,105,110,100])=false:=text_ne hw;have HV:=h_ (HD4.o.trans (if_neg hw));clear hw HD4
 go_wp2_with fail
 go_ret2;rw [HV.o];exact ⟨A2,c2,qs,rfl,HQ.o,HC.o,HB.o⟩
end CDeskI
/- The laws' comparison and marks on lists of objects. -/
namespace CObjL2
open Kit CFixups CSymbols PObj BObj BObj2 BList CObjValid CSection CSections CMarkText CSymMarks CMarkRows CSecMarks CSecHeld CObject CObject2 CCopyS WObj CObjL
theorem eqObjectS_same (A A':Option Addr) (os qs:List OV) (c c':Nat) (w:World) (hr:RdOs w w.heap.size A os) (hr':RdOs w w.heap.size A' qs) (hd:os.map OV.d=qs.map OV.d) (hm:os.length<=maxLen) (hl:∀ o ∈ os,LimO o):
  Calls Tryz.prog 26 #[.slice A os.length c,.slice A' qs.length c'] w (Ret (.bool true) w):=by
 unfold maxLen at hm
 have hlen:os.length=qs.length:=by simpa using congrArg List.length hd
 rw [<-hlen];have HL:=h_ hlen;have HR:=h_ hr;have HR':=h_ hr';have HLM:=h_ hl;have HDD:=h_ hd;clear hlen hr hr' hl hd
 have h0:(((os.length:Nat):Int) != (os.length:Nat))=false:=by simp
 go_enter Tryz.func26,Tryz.ntmps26
 go_wp2
 clear h0
 go_loopw [5] (fun i wr=>∃ k:Nat,k<=os.length/\i=.int .i64 k/\Below w.heap.size w wr) (fun i _=>os.length - (intOf i).toNat)
 case atStart=>exact ⟨0,Nat.zero_le _,rfl,Below.refl _ _⟩
 case round=>
  obtain ⟨k,hk,rfl,hb⟩:=hrel;have HB:=h_ hb
  by_cases hlt:k<os.length
  ·obtain ⟨b,off,rfl,_,hc⟩:=(HR.o.1.below hb).row objC_len (by decide) hlt;obtain ⟨b',off',rfl,_,hd'⟩:=(HR'.o.1.below hb).row objC_len (by decide) (show k<qs.length by rw [<-HL.o]; exact hlt);have hc0:=hc 0 _ rfl;have hd0:=hd' 0 _ rfl;have hc1:=hc 1 _ rfl;have hd1:=hd' 1 _ rfl;simp only [Nat.add_zero] at hc0 hd0
   have hkq:k<qs.length:=by rw [<-HL.o]; exact hlt
   have hkd:(os[k]).d=(qs[k]).d:=by
    have:=congrArg (fun l=>l[k]?) HDD.o
    simpa [List.getElem?_map,List.getElem?_eq_getElem hlt,List.getElem?_eq_getElem hkq] using this
   have HM:=h_ (HLM.o _ (List.getElem_mem hlt));have HR1:=h_ (((HR.o.2 _ (List.getElem_mem hlt)).below hb).more hb.size);have HR2:=h_ (((HR'.o.2 _ (List.getElem_mem hkq)).below hb).more hb.size);have HD:=h_ hkd;clear hc hd' hb hkd;generalize os[k]=p at *;generalize qs[k]=q at *
   go_wp2_with fail
   go_still_tail 8,(by kernel_rfl)
   change wpList _ _ _ _ _ wr.drew;clear hc0 hd0 hc1 hd1
   go_wp2_with fail
   refine (eqObject_same p q _ (by exact HR1.o) (by exact HR2.o) HD.o HM.o).mono ?_;rintro e w2 ⟨rfl,hb2⟩;have HB':=h_ (HB.o.trans ((of_drew hb2).mono HB.o.size));clear hb2
   go_wp2_with fail
   go_roundw
   case rel=>
    exact ⟨k+1,by omega,by go_num,HB'.o⟩
   case measure=>simp [intOf]; omega
  ·clear hb
   go_wp2_with fail
   go_ret;exact ⟨rfl,HB.o⟩
theorem ApO.symm {o p:OV} (h:ApO o p):ApO p o:=fun k h1 h2=>h k h2 h1
theorem OwnOs.upd {w w':World} {base c:Nat} {A:Option Addr} {l1 l2:List OV} {o o':OV} (h:OwnOs w base A c (l1++o :: l2)) (hc:objC o'=objC o) (hb:∀ k,oblk o' k->oblk o k) (ho:OwnO w' base o') (g:Gp (oblk o) w w'):OwnOs w' base A c (l1++o' :: l2):=by
 have hne:=OwnOs.ne h o (by simp);obtain ⟨hr,hw,hp⟩:=h;obtain ⟨p1,p2,p3⟩:=List.pairwise_append.1 hp;obtain ⟨p4,p5⟩:=List.pairwise_cons.1 p2;refine ⟨?_,fun x hx=>?_,?_⟩
 ·have e1:(l1++o' :: l2).length=(l1++o :: l2).length:=by simp
  have e2:cellsOf objC (l1++o' :: l2)=cellsOf objC (l1++o :: l2):=by simp [cellsOf,hc]
  rw [e1,e2];exact Gp.row g hr fun k hk hq=>hne k hq hk
 ·rcases List.mem_append.1 hx with hx | hx
  ·exact (hw x (List.mem_append_left _ hx)).gp g fun k hk=>p3 x hx o (by simp) k hk
  ·rcases List.mem_cons.1 hx with rfl | hx
   ·exact ho
   ·exact (hw x (by simp [hx])).gp g fun k hk=>ApO.symm (p4 x hx) k hk
 ·refine List.pairwise_append.2 ⟨p1,List.pairwise_cons.2 ⟨fun x hx k h1 h2=>p4 x hx k (hb k h1) h2,p5⟩,fun x hx y hy k h1 h2=>?_⟩
  rcases List.mem_cons.1 hy with rfl | hy
  ·exact p3 x hx o (by simp) k h1 (hb k h2)
  ·exact p3 x hx y (by simp [hy]) k h1 h2
def wdO (o:OV):Int:=wds o.ps+4*o.ys.length
def wdL:List OV->Int
 | []=>0
 | o :: os=>wdO o+wdL os
theorem wdO_nonneg (o:OV):0<=wdO o:=by
 have:=wds_nonneg o.ps;unfold wdO;omega
theorem wdL_nonneg:∀ os,0<=wdL os
 | []=>Int.le_refl 0
 | o :: os=>by
  have:=wdL_nonneg os;have:=wdO_nonneg o;simp only [wdL];omega
theorem wdL_app (a b:List OV):wdL (a++b)=wdL a+wdL b:=by
 induction a with
 | nil=>simp [wdL]
 | cons o os ih=>
  simp only [List.cons_append,wdL,ih];omega
theorem wdL_le:∀ os:List OV,wdL os<=4*(os.length+sumL (os.map OV.d))
 | []=>by simp [wdL,sumL]
 | o :: os=>by
  have h1:=wdL_le os;have h2:=wds_le o.ps;have h3:=toty_nonneg o.ys;simp only [wdL,wdO,List.map_cons,sumL,List.length_cons,<- sum_D,sum] at h1 ⊢;omega
def mOs (k:Int):List OV->List OV
 | []=>[]
 | o :: os=>mO k o :: mOs (k+wdO o) os
theorem mOs_len:∀ (k:Int) (os:List OV),(mOs k os).length=os.length
 | _,[]=>rfl
 | k,o :: os=>by simp [mOs,mOs_len]
theorem mOs_snoc:∀ (k:Int) (os:List OV) (o:OV),mOs k (os++[o])=mOs k os++[mO (k+wdL os) o]
 | k,[],o=>by simp [mOs,wdL]
 | k,p :: os,o=>by
  simp only [List.cons_append,mOs,mOs_snoc,wdL];rw [show k+wdO p+wdL os=k+(wdO p+wdL os) from by omega]
theorem objC_mO (k:Int) (o:OV):objC (mO k o)=objC o:=by
 simp [objC,mO,ymarks_len,mSs_len]
theorem lblk_mOs {A:Option Addr} {c:Nat}:∀ {os:List OV} {k:Int} {j:Nat},lblk A c (mOs k os) j->lblk A c os j
 | [],_,_,h=>h
 | o :: os,k,j,h=>by
  rcases h with h | ⟨x,hx,h⟩
  ·exact .inl h
  ·rcases List.mem_cons.1 hx with rfl | hx
   ·exact .inr ⟨o,List.mem_cons_self,oblk_mO h⟩
   ·rcases lblk_mOs (A:=A) (c:=c) (.inr ⟨x,hx,h⟩) with h | ⟨y,hy,h⟩
    ·exact .inl h
    ·exact .inr ⟨y,List.mem_cons_of_mem _ hy,h⟩
set_option maxHeartbeats 2000000 in
theorem markObjectS_any (base:Nat) (A:Option Addr) (c:Nat) (os:List OV) (k0:Int) (w:World) (h0:0<=k0) (hk0:k0+wdL os<=4294967296) (hm:os.length<=1048576) (hy:∀ o ∈ os,o.ys.length<=4294967296) (h:OwnOs w base A c os):
  Calls Tryz.prog 27 #[.slice A os.length c,.int .i64 k0] w fun e w'=>e=.returned (.int .i64 (k0+wdL os))/\OwnOs w' base A c (mOs k0 os)/\Gp (lblk A c os) w w':=by
 have HO:=h_ h;have HY:=h_ hy;have HK:=h_ hk0;clear h hy hk0
 go_enter Tryz.func27,Tryz.ntmps27
 go_wp2_with fail
 go_loopw [1,5] (fun x i wi=>∃ (k:Nat),k<=os.length/\i=.int .i64 k/\x=.int .i64 (k0+wdL (os.take k))/\OwnOs wi base A c (mOs k0 (os.take k)++os.drop k)/\Gp (lblk A c os) w wi) (fun _ i _=>os.length - (intOf i).toNat)
 case atStart=>exact ⟨0,Nat.zero_le _,rfl,by simp [wdL],by simpa [mOs] using HO.o,Gp.refl _ _⟩
 case round=>
  clear HO;obtain ⟨k,hk,rfl,rfl,ho,hg⟩:=hrel;have HO:=h_ ho;have HG:=h_ hg;clear ho hg
  by_cases hlt:k<os.length
  ·have hsp:os.drop k=os[k] :: os.drop (k+1):=List.drop_eq_getElem_cons hlt
   have hl1:(mOs k0 (os.take k)).length=k:=by rw [mOs_len,List.length_take]; omega
   obtain ⟨b,off,hA,hbg,hc⟩:=HO.o.1.rd.row objC_len (by decide) (show k<(mOs k0 (os.take k)++os.drop k).length by rw [List.length_append,hl1,hsp]; simp; omega)
   have hel:(mOs k0 (os.take k)++os.drop k)[k]'(by rw [List.length_append,hl1,hsp]; simp; omega)=os[k]:=by
    rw [List.getElem_append_right (by omega)];simp [hl1]
   rw [hel] at hc;have hc0:=hc 0 _ rfl;have hc1:=hc 1 _ rfl;simp only [Nat.add_zero] at hc0;rw [hsp] at HO;have HWD:=h_ (show k0+wdL (os.take (k+1))=(k0+wdL (os.take k))+wdO os[k] from by rw [take_succ hlt,wdL_app]; simp only [wdL]; omega);have HMS:=h_ (show mOs k0 (os.take (k+1))++os.drop (k+1)=mOs k0 (os.take k)++mO (k0+wdL (os.take k)) os[k] :: os.drop (k+1) from by rw [take_succ hlt,mOs_snoc]; simp)
   have hle:wdL os=wdL (os.take k)+wdO os[k]+wdL (os.drop (k+1)):=by
    conv=>lhs; rw [<-List.take_append_drop k os,wdL_app,hsp]
    simp only [wdL];omega
   have hx0:=wdL_nonneg (os.take k);have hx1:=wdL_nonneg (os.drop (k+1));have hx2:=wds_nonneg (os[k]).ps;have hx3:wdO os[k]=wds (os[k]).ps+4*(os[k]).ys.length:=rfl;have HBD:=h_ (show 0<=k0+wdL (os.take k)/\k0+wdL (os.take k)+wds (os[k]).ps<=4294967296/\0<=k0+wdL (os.take k)+wds (os[k]).ps from by have:=HK.o; omega);have HOK:=h_ (HO.o.2.1 os[k] (List.mem_append_right _ List.mem_cons_self));have HYK:=h_ (HY.o _ (List.getElem_mem hlt));have HIN:=h_ (show os[k] ∈ os from List.getElem_mem hlt);have HNE:=h_ (OwnOs.ne HO.o os[k] (List.mem_append_right _ List.mem_cons_self));clear hc hel hl1 hle hx0 hx1 hx2 hx3 hsp;have HA:=h_ hA;rw [hA];clear hA;have HDR:=h_ (rfl:os.drop (k+1)=os.drop (k+1));generalize hdr:os.drop (k+1)=dr at HO HMS;have HDQ:=h_ hdr;clear hdr HDR;generalize mOs k0 (os.take k)=pre at *;generalize os[k]=o at *;generalize k0+wdL (os.take k)=x at *
   go_wp2_with fail
   refine (smark_any base o.A o.c o.ps x wr HBD.o.1 HBD.o.2.1 HOK.o.1).mono ?_;rintro e w1 ⟨rfl,o1,g1⟩;have HS1:=h_ o1;have HAP:=h_ (own_apart HOK.o);have HY1:=h_ (Gp.row g1 HOK.o.2 HAP.o);have HG1:=h_ g1
   have hbk:¬ ssblk o.A o.c o.ps b:=fun hq=>by
    have:=HNE.o b (.inl hq);rw [HA.o] at this
    by_cases hc0':c=0
    ·subst hc0';have h0:(pre++o :: dr).length=0:=Nat.le_zero.1 HO.o.1.cap.1;simp at h0
    ·exact this (by unfold blk; rw [if_neg hc0']; rfl)
   have hd1:w1.cell? ⟨b,off+k*2+1,none⟩=some (.slice o.Y o.ys.length o.yc):=(World.cell?_of_block (a:=⟨b,off+k*2+1,none⟩) (g1.block b hbg hbk)).trans hc1;clear o1 g1 hc0 hc1 hbk
   go_wp2_with fail
   refine (markY_row base o.Y o.yc o.ys.length _ _ w1 HBD.o.2.2 HBD.o.2.1 HYK.o HY1.o).mono ?_;rintro e w2 ⟨rfl,r2,g2⟩;have G2:=Gp.of_grown (p:=fun k=>blk o.Y o.yc=some k) g2 (fun k h=>h);have HE:=h_ (show OwnO w2 base (mO x o) from ⟨HS1.o.keep (fun k hk=>G2.block k (HS1.o.lt k hk).2 (fun h=>HAP.o k h (ssblk_mSs hk))),by simpa [mO,ymarks_len] using r2⟩);have HG2:=h_ (show Gp (oblk o) wr w2 from (HG1.o.mono (fun k h=>.inl h)).trans (G2.mono (fun k h=>.inr h)));have HU:=h_ (OwnOs.upd HO.o (objC_mO x o) (fun k h=>oblk_mO h) HE.o HG2.o);have HGG:=h_ (HG.o.trans (HG2.o.mono (fun k h=>.inr ⟨o,HIN.o,h⟩)))
   have hxe:x+wds o.ps+4*(o.ys.length:Int)=x+wdO o:=by unfold wdO; omega
   have HXE:=h_ hxe;clear r2 g2 G2 HS1 HY1 HG1 HG2 HE HO HG hd1 hxe
   go_wp2_with fail
   refine ⟨⟨k+1,by omega,by go_num,?_,?_,by rw [<-HA.o]; exact HGG.o⟩,by simp [intOf]; omega⟩
   ·rw [HWD.o,<- HXE.o]
   ·rw [HDQ.o,HMS.o,<- HA.o];exact HU.o
  ·have hke:k=os.length:=by omega
   have HF:=h_ (show OwnOs wr base A c (mOs k0 os) from by
    have h:=HO.o;rw [hke,List.take_length,List.drop_length,List.append_nil] at h
    exact h)
   subst hke;rw [List.take_length];clear HO
   go_wp2_with fail
   go_ret;exact ⟨rfl,HF.o,HG.o⟩
end CObjL2
/- ObjectsValid,AlignUp and PlaceSections: the reference's. -/
namespace CPlaceS
open Kit CCode CName CFixups CSymbols PObj BObj PValid CSecValid CObjValid CObjValidS BStore CMarkRows BMake BList PLink CValids BLay CLayout CCopyS WObj CObjL COwnL
theorem objectsValidS_any (A:Option Addr) (os:List OV) (c:Nat) (w:World) (hr:RdOs w w.heap.size A os) (hf:Fits os):
  Calls Tryz.prog 19 #[.slice A os.length c] w (Ret (.bool (objsOk (os.map OV.d))) w):=by
 obtain ⟨hm,hfo⟩:=hf;have HR:=h_ hr;have HFT:=h_ hfo;clear hr hfo
 go_enter Tryz.func19,Tryz.ntmps19
 go_wp2_with fail
 go_loopw [3] (fun i wr=>∃ k:Nat,k<=os.length/\i=.int .i64 k/\(∀ o ∈ os.take k,objOk o.d=true)/\Below w.heap.size w wr) (fun i _=>os.length - (intOf i).toNat)
 case atStart=>exact ⟨0,Nat.zero_le _,rfl,(fun o ho=>by cases ho),Below.refl _ _⟩
 case round=>
  obtain ⟨k,hk,rfl,hn,hb⟩:=hrel;have HB:=h_ hb;have HN:=h_ hn;clear hn
  by_cases hlt:k<os.length
  ·obtain ⟨b,off,hA,hbb,hc0,hc1⟩:=(HR.o.below hb).at hlt;have HP:=h_ (objectValidS_any os[k] wr (((HR.o.2 _ (List.getElem_mem hlt)).below hb).more hb.size) (HFT.o _ (List.getElem_mem hlt)))
   have HT:=h_ (show objOk os[k].d=false->objsOk (os.map OV.d)=false from fun h=>by
    unfold objsOk
    rw [List.all_eq_false.2 ⟨_,List.mem_map_of_mem (List.getElem_mem hlt),by rw [h]; decide⟩,Bool.and_false])
   have HS:=h_ (show objOk os[k].d=true->∀ o ∈ os.take (k+1),objOk o.d=true from fun h o ho=>by
    rw [take_succ hlt] at ho
    rcases List.mem_append.1 ho with ho | ho
    ·exact HN.o o ho
    ·rw [List.mem_singleton.1 ho]
     exact h)
   clear hb;subst hA;generalize os[k]=o at *
   go_wp2_with fail
   refine HP.o.mono ?_;rintro e w2 ⟨rfl,b2⟩;replace HB:=c_ HB b2;clear b2;clear hc0 hc1 HP
   cases h:objOk o.d
   ·have HV:=h_ (HT.o h);clear h HT HS
    go_wp2_with fail
    go_ret;exact ⟨by rw [HV.o]; rfl,HB.o⟩
   ·have HS':=h_ (HS.o h);clear h HT HS
    go_wp2_with fail
    refine ⟨⟨k+1,by omega,by go_num,HS'.o,HB.o⟩,by simp [intOf]; omega⟩
  ·have hke:k=os.length:=by omega
   have HV:=h_ (show objsOk (os.map OV.d)=decide (os.length<=4) from by
    unfold objsOk;rw [List.length_map]
    have h:(os.map OV.d).all objOk=true:=List.all_eq_true.2 fun d hd=>by
     obtain ⟨o,ho,rfl⟩:=List.mem_map.1 hd;exact HN.o o (by rw [hke,List.take_length]; exact ho)
    rw [h,Bool.and_true])
   clear hb
   by_cases h4:os.length<=4
   ·have e1:decide ((os.length:Int)<=4)=true:=decide_eq_true (by omega);rw [decide_eq_true h4] at HV
    go_wp2_with fail
    go_ret;exact ⟨by rw [HV.o]; rfl,HB.o⟩
   ·have e1:decide ((os.length:Int)<=4)=false:=decide_eq_false (by omega);rw [decide_eq_false h4] at HV
    go_wp2_with fail
    go_ret;exact ⟨by rw [HV.o]; rfl,HB.o⟩
theorem alignUpS_any (n q:Int) (w:World) (h0:0<=n) (h1:n<=1000000) (hq:alignOk q=true):Calls Tryz.prog 141 #[.int .i64 n,.int .i64 q] w (Pure (.int .i64 (al n q)) w):=by
 simp only [alignOk,Bool.or_eq_true,decide_eq_true_eq] at hq
 have hi:inB n 0 1000000=true:=by simp [inB]; omega
 have HI:=h_ hi;clear hi
 rcases hq with ((rfl | rfl) | rfl) | rfl
 all_goals
  unfold al
  go_enter Tryz.func141,Tryz.ntmps141
  go_wp2_with fail
  refine (l1In_any _ _ _ _).mono ?_;rintro e w' ⟨rfl,rfl⟩;rw [HI.o]
  go_wp2_with fail
  go_ret
  exact ⟨by first | rfl | (simp; done) | (simp; omega),rfl⟩
structure Lst (os:List OV):Prop where
 n:os.length<=1048576
 f:∀ o ∈ os,Fit o
 c:∀ o ∈ os,CpO o
theorem Lst.fits {os:List OV} (h:Lst os):Fits os:=⟨h.n,h.f⟩
theorem fit_copy {q o:OV} {w:World} {base:Nat} (hd:q.d=o.d) (hf:Fit o) (ho:OwnO w base q):Fit q:=by
 have e1:q.ps.map SV.d=o.ps.map SV.d:=congrArg OD.ss hd;have e2:q.ys=o.ys:=congrArg OD.ys hd;refine ⟨?_,by rw [e2]; exact hf.ny,ho.2.cap.1,fun p hp=>?_,fun y hy=>hf.y y (by rw [<-e2]; exact hy)⟩
 ·have:=congrArg List.length e1;simp only [List.length_map] at this;rw [this];exact hf.np
 ·have h1:p.d ∈ o.ps.map SV.d:=by rw [<-e1]; exact List.mem_map_of_mem hp
  obtain ⟨x,hx,hxd⟩:=List.mem_map.1 h1;have h2:=hf.p x hx;have q1:x.nm=p.nm:=congrArg SD.nm hxd;have q2:x.zs=p.zs:=congrArg SD.zs hxd;have q3:x.fs=p.fs:=congrArg SD.fs hxd;rw [<-q1,<- q2,<- q3];exact h2
theorem cp_copy {q o:OV} {w:World} {base:Nat} (hd:q.d=o.d) (hf:Fit o) (ho:OwnO w base q):CpO q:=by
 have h:=fit_copy hd hf ho;exact ⟨h.np,h.ny,ho.2.nil,fun p hp=>⟨⟨(ho.1.2.1 p hp).1.nil,(ho.1.2.1 p hp).2.nil⟩,(h.p p hp).2.1,(h.p p hp).2.2⟩⟩
theorem lst_copy {w:World} {base c:Nat} {A:Option Addr} {os qs:List OV} (hd:qs.map OV.d=os.map OV.d) (h:Lst os) (ho:OwnOs w base A c qs):Lst qs:=by
 have hl:qs.length=os.length:=by simpa using congrArg List.length hd
 have key:∀ q ∈ qs,∃ o ∈ os,q.d=o.d:=fun q hq=>by
  have h1:q.d ∈ os.map OV.d:=by rw [<-hd]; exact List.mem_map_of_mem hq
  obtain ⟨o,ho,e⟩:=List.mem_map.1 h1;exact ⟨o,ho,e.symm⟩
 refine ⟨by rw [hl]; exact h.n,fun q hq=>?_,fun q hq=>?_⟩
 ·obtain ⟨o,ho',e⟩:=key q hq;exact fit_copy e (h.f o ho') (ho.2.1 q hq)
 ·obtain ⟨o,ho',e⟩:=key q hq;exact cp_copy e (h.f o ho') (ho.2.1 q hq)
def PlV (l:List OD) (base:Int) (w:World) (e:Ending) (w':World):Prop:=
 ∃ A c rs x,e=.returned (.tuple #[.slice A (rs:List RV).length c,.int .i64 x,.bool (objsOk l && baseOk base)])/\((objsOk l && baseOk base)=true->rs.map RV.zs=(lay l base).2/\x=(lay l base).1)/\RdRs w' w'.heap.size A rs/\Below w.heap.size w w'
structure LQ (w1:World) (A:Option Addr) (c:Nat) (rs:List RV) (w:World):Prop where
 own:OwnRs w w1.heap.size A c rs
 b:Below w1.heap.size w1 w
theorem LQ.call {w1 w w':World} {A:Option Addr} {c:Nat} {rs:List RV} (h:LQ w1 A c rs w) (hb:Below w.heap.size w w'):LQ w1 A c rs w':=⟨h.own.call hb,h.b.trans (hb.mono h.b.size)⟩
theorem LQ.put {w1 w:World} {A:Option Addr} {c:Nat} {rs:List RV} (h:LQ w1 A c rs w) {k:Nat} (hk:k<rs.length) {i:Nat} (hi:i<rs[k].zs.length) (v:Int):
  ∃ g,rs[k].A=some ⟨g,0,none⟩/\g<w.heap.size/\(∀ (Y:Nat) (t:TypeId) (cs:Array Value),Box w Y t cs->3 ≠ t->Y ≠ g)/\(w.frozen? ⟨g,i,none⟩=false)/\(∃ u,w.cell? ⟨g,i,none⟩=some (.int .i64 u))/\LQ w1 A c (rs.set k { rs[k] with zs:=rs[k].zs.set i v }) (w.setCell ⟨g,i,none⟩ (.int .i64 v)):=by
 obtain ⟨g,hA,hb1,hb2,hbk,_,hf,hu,hown⟩:=h.own.put hk hi v;have hq:=h.own.2.1 rs[k] (List.getElem_mem hk);exact ⟨g,hA,hb2,(fun Y t cs hY ht e=>hq.box hY ht g hbk e.symm),hf,hu,hown,h.b.setCell (p:=⟨g,i,none⟩) hb1 _⟩
set_option maxHeartbeats 4000000 in
theorem placeSections_any (A:Option Addr) (os:List OV) (c:Nat) (base:Int) (w:World) (hr:RdOs w w.heap.size A os) (hf:Lst os):
  Calls Tryz.prog 115 #[.slice A os.length c,.int .i64 base] w (PlV (os.map OV.d) base w):=by
 obtain ⟨i0,hi1,hi2,hi3,hi4⟩:=info_parts infoR;have HI:=h_ (And.intro hi1 (And.intro hi2 (And.intro hi3 hi4)));clear hi1 hi2 hi3 hi4;obtain ⟨j0,hj1,hj2,hj3,hj4⟩:=info_parts CInts.info64;have HJ:=h_ (And.intro hj1 (And.intro hj2 (And.intro hj3 hj4)));clear hj1 hj2 hj3 hj4;have HCP:=h_ (ownObjects_any A os c w hr hf.n hf.c);have HL0:=h_ (rfl:os.map OV.d=os.map OV.d);generalize hl0:os.map OV.d=l at HCP ⊢;have HL1:=h_ hl0;clear HL0 hl0;have HF0:=h_ hf;clear hr hf
 go_enter Tryz.func115,Tryz.ntmps115
 go_wp2_with fail
 refine HCP.o.mono ?_;rintro e w1 ⟨A1,c1,qs,rfl,hqd,own1,b1⟩;have HF:=h_ (lst_copy (hqd.trans HL1.o.symm) HF0.o own1).fits;have HR:=h_ own1.rd;have HB:=h_ b1
 have hln:qs.length=os.length:=by simpa using congrArg List.length (hqd.trans HL1.o.symm)
 have HLL:=h_ hqd;have HLN:=h_ hln;clear hqd own1 b1 HCP HF0 hln;have bz:Below w1.heap.size w1 (w1.alloc (.cells #[] 89)):=b_;have HZ:=h_ bz;clear bz
 go_wp2_with fail
 refine (objectsValidS_any A1 qs c1 (w1.alloc (.cells #[] 89)) ((HR.o.below HZ.o).more HZ.o.size) HF.o).mono ?_;rintro e w2 ⟨rfl,b2⟩;rw [HLL.o];replace HZ:=h_ (HZ.o.trans (b2.mono HZ.o.size));clear b2
 cases hok:objsOk (l)
 ·have HV:=h_ (show (objsOk (l) && baseOk base)=false by rw [hok]; rfl);clear hok
  go_wp2_with fail
  go_ret3
  exact ⟨_,0,[],0,by rw [HV.o]; rfl,(fun h=>by rw [HV.o] at h; cases h),rdRs_nil _ _ _,HB.o.trans (HZ.o.mono HB.o.size)⟩
 go_wp2_with fail
 refine (l1In_any _ _ _ _).mono ?_;rintro e w' ⟨rfl,rfl⟩
 cases hin:inB base 0 4096
 ·have HV:=h_ (show (objsOk (l) && baseOk base)=false by
   unfold baseOk;unfold inB at hin;rw [hok,hin]
   rfl)
  clear hok hin
  go_wp2_with fail
  go_ret3
  exact ⟨_,0,[],0,by rw [HV.o]; rfl,(fun h=>by rw [HV.o] at h; cases h),rdRs_nil _ _ _,HB.o.trans (HZ.o.mono HB.o.size)⟩
 have hb0:0<=base/\base<=4096:=by simpa [inB] using hin
 obtain ⟨hb1,hb2⟩:=hb0
 by_cases h8:base % 8=0
 case neg=>
  have HV:=h_ (show (objsOk (l) && baseOk base)=false by
   unfold baseOk
   rw [decide_eq_false h8,Bool.and_false,Bool.and_false])
  have h8':(base % 8 != 0)=true:=bne_iff_ne.2 h8;clear hok hin h8
  go_wp2_with fail
  go_ret3
  exact ⟨_,0,[],0,by rw [HV.o]; rfl,(fun h=>by rw [HV.o] at h; cases h),rdRs_nil _ _ _,HB.o.trans (HZ.o.mono HB.o.size)⟩
 have HV:=h_ (show (objsOk (l) && baseOk base)=true by
  unfold baseOk;rw [hok,decide_eq_true (And.intro hb1 hb2),decide_eq_true h8]
  rfl)
 have h8':(base % 8 != 0)=false:=by simp [h8]
 have hol:qs.length<=4:=by
  simp only [objsOk,Bool.and_eq_true,decide_eq_true_eq] at hok;have h:=hok.1;rw [<-HLL.o,List.length_map] at h;exact h
 have HALL:=h_ (show ∀ o ∈ qs,o.ps.length<=8/\∀ p ∈ o.ps,(0<=secSize p.d/\secSize p.d<=48)/\alignOk p.d.al=true from fun o ho=>by
  simp only [objsOk,Bool.and_eq_true,List.all_eq_true] at hok;have h:=hok.2 o.d (by rw [<-HLL.o]; exact List.mem_map_of_mem ho);simp only [objOk,Bool.and_eq_true,decide_eq_true_eq,List.all_eq_true] at h;refine ⟨by simpa [OV.d] using h.1.1.1,fun p hp=>?_⟩;have hs:=sec_size (h.1.2 p.d (List.mem_map_of_mem hp))
  exact ⟨hs.1,hs.2.1⟩)
 clear hok hin h8
 go_wp2_with fail
 clear h8'
 go_loopw [7,8] (fun s i wi=>∃ (k:Nat) (Ar:Option Addr) (cr:Nat) (rs:List RV),k<=qs.length/\s=.slice Ar rs.length cr/\i=.int .i64 k/\rs.length=k/\rs.map RV.zs=(zeroP l).take k/\LQ w1 Ar cr rs wi) (fun _ i _=>qs.length - (intOf i).toNat)
 case atStart=>exact ⟨0,_,0,[],Nat.zero_le _,rfl,rfl,rfl,rfl,⟨⟨Row.empty _ _ _ _ _,(fun p hp=>by cases hp),List.Pairwise.nil⟩,HZ.o⟩⟩
 case round=>
  clear HZ;obtain ⟨k,Ar,cr,rs,hk,rfl,rfl,hrl,hrz,hlq⟩:=hrel;have HQ:=h_ hlq;have HRZ:=h_ hrz;clear hrz;subst hrl
  by_cases hlt:rs.length<qs.length
  ·obtain ⟨bb,off,hA,hbb,hc0,hc1⟩:=(HR.o.below hlq.b).at hlt
   have HZN:=h_ (show (zeroP l).take (rs.length+1)=(zeroP l).take rs.length++[List.replicate qs[rs.length].ps.length 0] from by
    rw [take_succ (by rw [<-HLL.o]; simpa [zeroP] using hlt)];have h:=HLL.o;subst h
    simp [zeroP,OV.d])
   have hpl:=(HALL.o _ (List.getElem_mem hlt)).1;clear hlq;subst hA;generalize qs[rs.length]=o at *
   go_wp2_with (at_make; refine wpList_make_full _ rfl _ _ _ rfl w1.heap.size 3 j0 (.int .i64 0) 1 Tryz.underlying89 HJ.o.1 HJ.o.2.1 HJ.o.2.2.1 .i64 .i64 _ _ o.ps.length rfl rfl rfl rfl ?c1 ?c2 ?c3 ?_)
   case c1=>rw [HJ.o.2.2.2]; omega
   case c2=>unfold maxLen; omega
   case c3=>exact HQ.o.b.size
   intro w3 hown hg;have b3:Below wr.heap.size wr w3:=(Below.refl _ _).grown hg (Nat.le_refl _) (by intro k h; cases h)
   have HNW:=h_ (show RwR w3 w1.heap.size ⟨some ⟨wr.heap.size,0,none⟩,o.ps.length,List.replicate o.ps.length 0⟩ from by
    rw [zero_cells'] at hown;refine .inr ?_
    simpa using hown)
   have HOLD:=h_ (HQ.o.own.lt);have HQ3:=h_ (HQ.o.call b3);have b4:Below w3.heap.size w3 (w3.alloc (.cells #[.slice (some ⟨wr.heap.size,0,none⟩) o.ps.length o.ps.length] 89)):=b_;have HQ4:=h_ (HQ3.o.call b4);have HNW4:=h_ (show RwR (w3.alloc (.cells #[.slice (some ⟨wr.heap.size,0,none⟩) o.ps.length o.ps.length] 89)) w1.heap.size ⟨some ⟨wr.heap.size,0,none⟩,o.ps.length,List.replicate o.ps.length 0⟩ from HNW.o.call b4);clear hown hg b3 b4 HQ HQ3 HNW hc0 hc1;generalize wr.heap.size=M at *
   go_wp2_with (at_builtin; refine wpList_app _ rfl (.tmp 37) (.tmp 45) 82 rfl 89 i0 (.slice none 0 0) 1 24 Tryz.underlying82 HI.o.1 HI.o.2.1 HI.o.2.2.1 HI.o.2.2.2 rfl (by decide) w1.heap.size Ar rs.length cr (cellsOf rowC rs) rfl HQ4.o.own.1 HQ4.o.b.size (some ⟨w3.heap.size,0,none⟩) 1 1 [.slice (some ⟨M,0,none⟩) o.ps.length o.ps.length] rfl (rd_lit w3 #[.slice (some ⟨M,0,none⟩) o.ps.length o.ps.length] 89 _ rfl) rfl (fun h=>by cases h) ?o1 ?n1 ?n2 ?_)
   case o1=>
    intro u hu;obtain rfl:=List.mem_singleton.1 hu
    rfl
   case n1=>unfold maxLen; omega
   case n2=>omega
   intro A2 n2 c2 w7 hn o7 g7 k7
   have HNEW:=h_ (OwnRs.snoc (N:=M) HQ4.o.own (q:=⟨some ⟨M,0,none⟩,o.ps.length,List.replicate o.ps.length 0⟩) HNW4.o HOLD.o (fun k hk=>by
    unfold blk at hk
    split at hk
    ·cases hk
    ·injection hk with hk
     exact Nat.le_of_eq hk) hn (by simpa [rowC] using o7) g7)
   have HB7:=h_ (HQ4.o.b.grown g7 HQ4.o.b.size (fun j hj=>(HQ4.o.own.1.lt j hj).1))
   have hn':n2=(rs++[(⟨some ⟨M,0,none⟩,o.ps.length,List.replicate o.ps.length 0⟩:RV)]).length:=by rw [hn,List.length_append]; rfl
   subst hn';clear hn o7 g7 k7 HQ4 HNW4
   go_wp2_with fail
   refine ⟨⟨rs.length+1,A2,c2,rs++[⟨some ⟨M,0,none⟩,o.ps.length,List.replicate o.ps.length 0⟩],by omega,by first | rfl | rw [List.length_append],by go_num,by simp,by rw [HZN.o,List.map_append,HRZ.o]; rfl,⟨HNEW.o,HB7.o⟩⟩,by simp [intOf]; omega⟩
  ·have hrl:rs.length=qs.length:=by omega
   have hrz:rs.map RV.zs=zeroP l:=by rw [HRZ.o,hrl,List.take_of_length_le (by rw [<-HLL.o]; simp [zeroP])]
   have HSH:=h_ (show Shp l (rs.map RV.zs) from by rw [hrz]; exact shp_zero _);have HLAY:=h_ (show lay l base=kindsS l (([1,2,3]:List Int).drop 0) (base,rs.map RV.zs) from by rw [hrz]; rfl);have HRL:=h_ hrl;clear HRZ hrz hlq hrl
   go_wp2_with fail
   clear hlt hk;generalize hrn:rs.length=n at *;have HRN:=h_ hrn;clear hrn
   go_loopw [9,10] (fun at_ kd wi=>∃ (j:Nat) (a:Int) (rs:List RV),j<=3/\at_=.int .i64 a/\kd=.int .i64 ((j:Int)+1)/\lay l base=kindsS l (([1,2,3]:List Int).drop j) (a,rs.map RV.zs)/\Shp l (rs.map RV.zs)/\0<=a/\a<=4096+2000*j/\rs.length=n/\LQ w1 Ar cr rs wi) (fun _ kd _=>4 - (intOf kd).toNat)
   case atStart=>exact ⟨0,base,rs,Nat.zero_le _,rfl,rfl,HLAY.o,HSH.o,hb1,by omega,HRN.o,HQ.o⟩
   case round=>
    rename World=>wk
    clear HLAY HSH HQ HRN;obtain ⟨j,a,rs,hj,rfl,rfl,hlay,hsh,ha0,ha1,hrn,hlq⟩:=hrel;have HQ:=h_ hlq;have HSH:=h_ hsh;have HRN:=h_ hrn;clear hsh hrn
    by_cases hj3:j<3
    ·have HLAY:=h_ (show lay l base=kindsS l (([1,2,3]:List Int).drop (j+1)) (foldO ((j:Int)+1) 0 l (al a 8,rs.map RV.zs)) from hlay.trans (kinds_drop l hj3 _));have e3:decide ((j:Int)+1<=3)=true:=decide_eq_true (by omega);clear hlay hlq
     go_wp2_with fail
     refine (alignUpS_any a 8 wk ha0 (by omega) (by decide)).mono ?_;rintro e w' ⟨rfl,rfl⟩;obtain ⟨g1,g2⟩:=al_bd ha0 (show alignOk 8=true by decide);generalize al a 8=b at *;generalize hT:foldO ((j:Int)+1) 0 l (b,rs.map RV.zs)=T at *;have HT:=h_ (show T=foldO ((j:Int)+1) 0 (l.drop 0) (b,rs.map RV.zs) from hT.symm);clear hT e3
     go_wp2_with fail
     go_loopw [9,11] (fun at_ i wi=>∃ (k:Nat) (d:Int) (rs:List RV),k<=qs.length/\at_=.int .i64 d/\i=.int .i64 k/\T=foldO ((j:Int)+1) k (l.drop k) (d,rs.map RV.zs)/\Shp l (rs.map RV.zs)/\0<=d/\d<=4104+2000*j+490*k/\rs.length=n/\LQ w1 Ar cr rs wi) (fun _ i _=>qs.length - (intOf i).toNat)
     case atStart=>exact ⟨0,b,rs,Nat.zero_le _,rfl,rfl,HT.o,HSH.o,by omega,by omega,HRN.o,HQ.o⟩
     case round=>
      rename World=>wo
      clear HT HSH HQ HRN;obtain ⟨k,d,rs,hk,rfl,rfl,ht,hsh,hd0,hd1,hrn,hlq⟩:=hrel;have HQ:=h_ hlq;have HSH:=h_ hsh;have HRN:=h_ hrn;clear hsh hrn
      by_cases hlt:k<qs.length
      ·have hll:k<l.length:=by rw [<-HLL.o,List.length_map]; exact hlt
       have HT:=h_ (ht.trans (foldO_drop hll k _))
       have HPS:=h_ (show l[k].ss=qs[k].ps.map SV.d from by
        have:=HLL.o;subst this
        simp [OV.d])
       have HSP:=h_ (show ∀ P:List (List Int),Shp l P->∃ hp:k<P.length,P[k].length=qs[k].ps.length from fun P hP=>by
        obtain ⟨h1,h2⟩:=shp_at hP hll;refine ⟨h1,?_⟩
        rw [h2,HPS.o,List.length_map])
       have HAO:=h_ (HALL.o _ (List.getElem_mem hlt));have hpl:=HAO.o.1;have HRO:=h_ (HR.o.2 _ (List.getElem_mem hlt)).1;have HFO:=h_ (HF.o.o _ (List.getElem_mem hlt)).p;obtain ⟨bb,off,hA,hbb,hcA,_⟩:=HR.o.at hlt;have HCE:=h_ (fun V (hV:Below w1.heap.size w1 V)=>(show V.cell? ⟨bb,off+k*2,none⟩=some (.slice qs[k].A qs[k].ps.length qs[k].c) from (hV.cell (p:=⟨bb,off+k*2,none⟩) hbb).trans hcA));clear hlq ht hcA;rw [HPS.o] at HT;clear HPS;subst hA;generalize qs[k]=o at *;generalize hU:foldS ((j:Int)+1) k 0 (o.ps.map SV.d) (d,rs.map RV.zs)=U at *;have HU:=h_ (show U=foldS ((j:Int)+1) k 0 ((o.ps.map SV.d).drop 0) (d,rs.map RV.zs) from hU.symm);clear hU
       go_wp2_with fail
       go_loopw [9,12] (fun at_ i wi=>∃ (m:Nat) (f:Int) (rs:List RV),m<=o.ps.length/\at_=.int .i64 f/\i=.int .i64 m/\U=foldS ((j:Int)+1) k m ((o.ps.map SV.d).drop m) (f,rs.map RV.zs)/\Shp l (rs.map RV.zs)/\0<=f/\f<=4104+2000*j+490*k+60*m/\rs.length=n/\LQ w1 Ar cr rs wi) (fun _ i _=>o.ps.length - (intOf i).toNat)
       case atStart=>exact ⟨0,d,rs,Nat.zero_le _,rfl,rfl,HU.o,HSH.o,by omega,by omega,HRN.o,HQ.o⟩
       case round=>
        rename World=>wm
        clear HU HSH HQ HRN;obtain ⟨m,f,rs,hm,rfl,rfl,hu,hsh,hf0,hf1,hrn,hlq⟩:=hrel;have HQ:=h_ hlq;have HSH:=h_ hsh;have HRN:=h_ hrn;have hcl:=HCE.o wm hlq.b;clear hrn
        by_cases hlm:m<o.ps.length
        ·obtain ⟨b2,off2,hPA,hbb2,hc⟩:=(HRO.o.1.below hlq.b).row secC_len (by decide) hlm;have hc0:=hc 0 _ rfl;have hc1:=hc 1 _ rfl;have hc2:=hc 2 _ rfl;have hc3:=hc 3 _ rfl;have hc4:=hc 4 _ rfl;have hc5:=hc 5 _ rfl;simp only [Nat.add_zero] at hc0;have HU:=h_ (hu.trans (foldS_drop (show m<(o.ps.map SV.d).length by simpa using hlm) m _));have HSZ:=h_ (HAO.o.2 _ (List.getElem_mem hlm));have hzl:=(HFO.o _ (List.getElem_mem hlm)).2.1;have HRS:=h_ (step_bd (kd:=(j:Int)+1) (k:=k) (i:=m) (P:=rs.map RV.zs) HSZ.o.1 HSZ.o.2 hf0);clear hlq hu hc hsh;rw [List.getElem_map] at HU;rw [hPA] at hcl;clear hPA;generalize o.ps[m]=p at *;have B1:Below wm.heap.size wm (wm.alloc (.cells #[.string p.nm,.int .i64 p.kd,.int .i64 p.al,.slice p.A p.zs.length p.c,.int .i64 p.sz,.slice p.F p.fs.length p.fc] 61)):=b_;replace HQ:=h_ (HQ.o.call B1);have HS:=h_ (Box.new wm 61 #[.string p.nm,.int .i64 p.kd,.int .i64 p.al,.slice p.A p.zs.length p.c,.int .i64 p.sz,.slice p.F p.fs.length p.fc]);clear B1
         by_cases hkd:p.kd=(j:Int)+1
         ·have e1:(p.kd != (j:Int)+1)=false:=by simp [hkd]
          have HKD:=h_ hkd
          have HU2:=h_ (show U=foldS ((j:Int)+1) k (m+1) ((o.ps.map SV.d).drop (m+1)) (al f p.al+secSize p.d,setP (rs.map RV.zs) k m (al f p.al)) from by
           rw [HU.o];unfold stepS;rw [show decide (p.d.kd=(j:Int)+1)=true from decide_eq_true hkd]
           rfl)
          clear hkd HU
          go_wp2_with fail
          clear e1 hc0 hc1 hc2 hc3 hc4 hc5 hcl;generalize wm.alloc (.cells #[.string p.nm,.int .i64 p.kd,.int .i64 p.al,.slice p.A p.zs.length p.c,.int .i64 p.sz,.slice p.F p.fs.length p.fc] 61)=wa at *;generalize wm.heap.size=S at *;refine (alignUpS_any f p.al wa hf0 (by omega) HSZ.o.2).mono ?_;rintro e w' ⟨rfl,rfl⟩;obtain ⟨g1,g2⟩:=al_bd hf0 (show alignOk p.al=true from HSZ.o.2);obtain ⟨q1,q2⟩:=HSZ.o.1;generalize al f p.al=v at *;obtain ⟨hp1,hp2⟩:=HSP.o _ HSH.o;rw [List.length_map] at hp1;rw [List.getElem_map] at hp2;obtain ⟨g,hgA,hgl,hfar,hfz,⟨u,hcu⟩,hlq2⟩:=HQ.o.put hp1 (i:=m) (by omega) v;obtain ⟨pb,poff,hPP,hpb,hrow⟩:=HQ.o.own.rd.at hp1;have HQ2:=h_ hlq2;have HS2:=h_ (BMake.box_setFar (g:=g) (i:=m) (u:=.int .i64 v) HS.o (hfar _ _ _ HS.o (by decide)));have HMP:=h_ (map_setP rs k m v hp1);have HSH2:=h_ (shp_set HSH.o k m v);rw [hgA,hp2] at hrow;have hmi:m<o.ps.length:=hlm;have HRN2:=h_ (show (rs.set k { rs[k] with zs:=rs[k].zs.set m v }).length=n from by rw [List.length_set]; exact HRN.o)
          have hkn:k<n:=by have:=HRN.o; omega
          clear hlq2 hgA hp2 HQ hfar HSH HRN;subst hPP;generalize rs.set k { rs[k] with zs:=rs[k].zs.set m v }=rs2 at *;generalize (rs[k]).c=rc at hrow;clear hp1;have s0:=d_ HS2.o 0;have s1:=d_ HS2.o 1;have s2:=d_ HS2.o 2;have s3:=d_ HS2.o 3;have s4:=d_ HS2.o 4;have s5:=d_ HS2.o 5;have hsl:=HS2.o.lt
          go_wp2_with fail
          refine (sectionSizeS_any p _ (by unfold maxLen; omega)).mono ?_;rintro e w3 ⟨rfl,b3⟩;replace HQ2:=h_ (HQ2.o.call b3);have hwr:IntKind.i64.wrap (v+secSize p.d)=v+secSize p.d:=IntWalk.i64_in _ (by omega);generalize secSize p.d=z at *;clear s0 s1 s2 s3 s4 s5 hsl HS2 b3 hrow hcu hfz
          go_wp2_with fail
          refine ⟨⟨m+1,v+z,rs2,by omega,rfl,by go_num,by rw [HMP.o]; exact HU2.o,by rw [HMP.o]; exact HSH2.o,by omega,by omega,HRN2.o,HQ2.o⟩,by simp [intOf]; omega⟩
         ·have e1:(p.kd != (j:Int)+1)=true:=bne_iff_ne.2 hkd
          have HU2:=h_ (show U=foldS ((j:Int)+1) k (m+1) ((o.ps.map SV.d).drop (m+1)) (f,rs.map RV.zs) from by
           rw [HU.o];unfold stepS;rw [show decide (p.d.kd=(j:Int)+1)=false from decide_eq_false hkd]
           rfl)
          clear hkd HU
          go_wp2_with fail
          refine ⟨⟨m+1,f,rs,by omega,rfl,by go_num,HU2.o,HSH.o,hf0,by omega,HRN.o,HQ.o⟩,by simp [intOf]; omega⟩
        ·obtain rfl:m=o.ps.length:=by omega
         have HT2:=h_ (show T=foldO ((j:Int)+1) (k+1) (l.drop (k+1)) (f,rs.map RV.zs) from by
          have hu2:U=(f,rs.map RV.zs):=by
           rw [hu,List.drop_of_length_le (by simp)]
           rfl
          rw [HT.o,hu2])
         clear hu hlq hsh HT
         go_wp2_with fail
         refine ⟨⟨k+1,f,rs,by omega,rfl,by go_num,HT2.o,HSH.o,hf0,by omega,HRN.o,HQ.o⟩,by simp [intOf]; omega⟩
      ·obtain rfl:k=qs.length:=by omega
       have HT2:=h_ (show T=(d,rs.map RV.zs) from by
        rw [ht,List.drop_of_length_le (by rw [<-HLL.o]; simp)]
        rfl)
       clear ht hlq
       go_wp2_with fail
       have hwk:IntKind.i64.wrap ((j:Int)+1+1)=(j:Int)+1+1:=IntWalk.i64_in _ (by omega)
       refine ⟨⟨j+1,d,rs,by omega,rfl,by first | (simp; done) | go_num,by rw [HLAY.o,HT2.o],HSH.o,hd0,by omega,HRN.o,HQ.o⟩,by simp [intOf]; omega⟩
    ·obtain rfl:j=3:=by omega
     have HL3:=h_ (show lay l base=(a,rs.map RV.zs) from hlay)
     have HFIN:=h_ (show PlV l base w (.returned (.tuple #[.slice Ar n cr,.int .i64 a,.bool true])) wk from by
      refine ⟨Ar,cr,rs,a,by rw [HV.o,HRN.o],fun _=>⟨by rw [HL3.o],by rw [HL3.o]⟩,HQ.o.own.rd,HB.o.trans (HQ.o.b.mono HB.o.size)⟩)
     clear hlay hlq
     go_wp2_with fail
     go_ret3
     exact HFIN.o
end CPlaceS
/- Lists of objects that a desk's law hands on: their sizes. -/
namespace BDeskW
open Kit CCode CFixups CSymbols PObj BObj PValid PClear CObjValid CSections CObject CObject2 CMarkRows WObj BList CObjL CObjL2 CPlaceS CCopyS CJoinAI PJoin2 PLink PDump PDesk
theorem valid_lim {o:OV} (h:objOk o.d=true):LimO o/\wdO o<=1000:=by
 obtain ⟨h1,h2⟩:=valid_len h;obtain ⟨_,_,h3⟩:=obj_all h
 have h4:∀ p ∈ o.ps,p.fs.length<=6/\p.zs.length<=48:=fun p hp=>by
  obtain ⟨a,b,_⟩:=h3 p.d (List.mem_map_of_mem hp);exact ⟨a,b⟩
 refine ⟨⟨by omega,by omega,fun p hp=>⟨by have:=h4 p hp; omega,by have:=h4 p hp; omega⟩⟩,?_⟩
 have key:∀ ps:List SV,(∀ p ∈ ps,p.fs.length<=6/\p.zs.length<=48)->wds ps<=76*ps.length:=by
  intro ps
  induction ps with
  | nil=>intro _; simp [wds]
  | cons p ps ih=>
   intro h;have h5:=h p List.mem_cons_self;have h6:=ih fun q hq=>h q (List.mem_cons_of_mem _ hq);simp only [wds,wd,List.length_cons];omega
 have h5:=key o.ps h4;unfold wdO;omega
theorem valid_lims {os:List OV} (h:objsOk (os.map OV.d)=true):os.length<=4/\(∀ o ∈ os,LimO o)/\(∀ o ∈ os,o.ps.length<=8/\o.ys.length<=12)/\wdL os<=4000:=by
 obtain ⟨h1,h2⟩:=objs_all h
 have key:∀ qs:List OV,(∀ o ∈ qs,objOk o.d=true)->wdL qs<=1000*qs.length:=by
  intro qs
  induction qs with
  | nil=>intro _; simp [wdL]
  | cons p ps ih=>
   intro h;have h5:=(valid_lim (h p List.mem_cons_self)).2;have h6:=ih fun q hq=>h q (List.mem_cons_of_mem _ hq);simp only [wdL,List.length_cons];omega
 have h3:=key os h2;exact ⟨h1,fun o ho=>(valid_lim (h2 o ho)).1,fun o ho=>valid_len (h2 o ho),by omega⟩
theorem run_ok (l:List OD) (ls:List (List UInt8)):objsOk (runA l ls).1=true:=by
 unfold runA
 by_cases h:objsOk l=true/\ls.length<=20
 ·rw [if_pos h];exact (runs_valid ls h.1).1
 ·rw [if_neg h]
  rfl
structure Args (c:Nat) (qs:List OV):Prop where
 l:Lst qs
 n:∀ q ∈ qs,Nils q
 z:∀ q ∈ qs,InD q.d
 c:qs.length<=c
 m:∀ q ∈ qs,LimO q
 k:qs.length<=1048576
theorem args_of {w:World} {base c:Nat} {A:Option Addr} {os qs:List OV} (hd:qs.map OV.d=os.map OV.d) (hs:sizL (os.map OV.d)<=1048576) (hz:∀ o ∈ os,InD o.d) (ho:OwnOs w base A c qs):Args c qs:=by
 have hz2:∀ q ∈ qs,InD q.d:=fun q hq=>by
  have h:q.d ∈ os.map OV.d:=by rw [<-hd]; exact List.mem_map_of_mem hq
  obtain ⟨o,h1,h2⟩:=List.mem_map.1 h;rw [<-h2];exact hz o h1
 rw [<-hd] at hs;have hf:∀ q ∈ qs,Fit q:=fun q hq=>(fit_own (sizL_mem hs q hq) (ho.2.1 q hq)).1;have hl:=sizL_len hs;exact ⟨⟨hl,hf,fun q hq=>cp_copy rfl (hf q hq) (ho.2.1 q hq)⟩,fun q hq=>nils_own (ho.2.1 q hq),hz2,ho.1.cap.1,fun q hq=>(sum_lim (sizL_mem hs q hq)).1,hl⟩
theorem args_valid {w:World} {base c:Nat} {A:Option Addr} {qs:List OV} (ho:OwnOs w base A c qs) (hv:objsOk (qs.map OV.d)=true) (hz:∀ d ∈ qs.map OV.d,InD d):Args c qs:=by
 obtain ⟨h1,h2,h3,_⟩:=valid_lims hv;obtain ⟨_,hall⟩:=objs_all hv;have hf:∀ q ∈ qs,Fit q:=fun q hq=>fit_sm (valid_sm (hall q hq)) (ho.2.1 q hq).2.cap.1;exact ⟨⟨by omega,hf,fun q hq=>cp_copy rfl (hf q hq) (ho.2.1 q hq)⟩,fun q hq=>nils_own (ho.2.1 q hq),fun q hq=>hz q.d (List.mem_map_of_mem hq),ho.1.cap.1,h2,by omega⟩
end BDeskW
/- What a session hands back: objects and answers. -/
namespace BRetRA
open Kit PObj BObj CObjL CSorted PDump
def RetRA (r:List OD × List (List UInt8)) (w:World) (e:Ending) (w':World):Prop:=
 ∃ A c os B d,e=.returned (.tuple #[.slice A (os:List OV).length c,.slice B r.2.length d])/\os.map OV.d=r.1/\OwnOs w' w.heap.size A c os/\Row w' w.heap.size 9 1 B r.2.length d (nmC (r.2.map bs))/\Below w.heap.size w w'
end BRetRA
/- What a session's objects' bytes are within; plain. -/
namespace PDeskZ
open Kit CCode CName CFixups CSymbols PObj PValid PClear PLink PNum PDump PJoin PDesk PDesk2
theorem inD_runs:∀ (ls:List (List UInt8)) {l:List OD},(∀ e ∈ l,InD e)->∀ d ∈ (runs l ls).1,InD d
 | [],l,h=>h
 | s :: ls,l,h=>by
  rw [show s :: ls=[s]++ls from rfl,runs_app];exact inD_runs ls (desk_in h)
theorem runs_take {l:List OD} {ls:List (List UInt8)} {k:Nat} (h:k<ls.length):runs l (ls.take (k+1))=runStep (runs l (ls.take k)) ls[k]:=by
 unfold runs;rw [List.take_succ_eq_append_getElem h,List.foldl_append]
 rfl
theorem link_code (l:List OD) (b:Int):(linkR l b).2.2=-1\/(linkR l b).2.2=0\/(linkR l b).2.2=1\/(linkR l b).2.2=2\/(linkR l b).2.2=3:=by
 unfold linkR
 split
 ·exact .inl rfl
 split
 ·exact .inr (.inr (.inl rfl))
 split
 ·exact .inr (.inr (.inr (.inl rfl)))
 ·unfold imgR
  cases image l b with
  | some im=>exact .inr (.inl rfl)
  | none=>exact .inr (.inr (.inr (.inr rfl)))
end PDeskZ
/- ReadHex: digits back to bytes; the reference's. -/
namespace CUnhexS
open Kit CEqual PDump CHexI CApFix CUnhexI
theorem digit_eq (j:Nat) (hj:j<16) (c:UInt8):(((hexC j).toNat:Int) == (c.toNat:Int))=decide (hexV c=(j:Int)):=by
 have key:∀ (i:Fin 16) (b:Fin 256),(((hexC i.1).toNat:Int) == ((UInt8.ofNat b.1).toNat:Int))=decide (hexV (UInt8.ofNat b.1)=(i.1:Int)):=by decide +kernel
 have:=key ⟨j,hj⟩ ⟨c.toNat,UInt8.toNat_lt c⟩
 simpa only [UInt8.ofNat_toNat] using this
theorem index_hexI (j:Nat) (h1:j<16) (V:World):(Instr.index 9 (.string ⟨#[48,49,50,51,52,53,54,55,56,57,97,98,99,100,101,102]⟩) (.int .i64 (j:Int))).run Tryz.prog V=.ok (.int .u8 (hexC j).toNat) V:=by
 have h:j=0\/j=1\/j=2\/j=3\/j=4\/j=5\/j=6\/j=7\/j=8\/j=9\/j=10\/j=11\/j=12\/j=13\/j=14\/j=15:=by omega
 clear h1
 rcases h with rfl | rfl | rfl | rfl | rfl | rfl | rfl | rfl | rfl | rfl | rfl | rfl | rfl | rfl | rfl | rfl
 all_goals (simp [Instr.index,run_underlying Tryz.underlying9,asIntOf,go_sem]; rfl)
def found (j:Nat) (x:Int):Int:=if x<j then x else -1
theorem found_zero {x:Int} (h:-1<=x):found 0 x=-1:=by
 unfold found
 split <;> omega
theorem found_all {x:Int} (h:x<=15):found 16 x=x:=by
 unfold found;rw [if_pos (by omega)]
theorem found_hit {x:Int} {j:Nat} (h:x=j):found (j+1) x=j:=by
 unfold found;rw [if_pos (by omega),h]
theorem found_miss {x:Int} {j:Nat} (h:¬ x=j):found (j+1) x=found j x:=by
 unfold found
 split <;> split <;> omega
def byteAt (s:ByteArray) (k:Nat):UInt8:=s.data.toList.getD k 0
theorem byteAt_eq (s:ByteArray) (k:Nat) (h:k<s.size):s[k]'h=byteAt s k:=by
 have h':k<s.data.toList.length:=by rw [Array.length_toList]; exact h
 rw [byteAt,List.getD_eq_getElem?_getD,List.getElem?_eq_getElem h']
 rfl
theorem unhex_bad:∀ (l:List UInt8) (i:Nat),i<l.length->hexV (l.getD i 0)<0->unhex l=none
 | [],i,h,_=>absurd h (Nat.not_lt_zero _)
 | [_],_,_,_=>rfl
 | a :: b :: r,0,_,hx=>by
  rw [unhex,if_pos (Or.inl (by simpa using hx))]
 | a :: b :: r,1,_,hx=>by
  rw [unhex,if_pos (Or.inr (by simpa using hx))]
 | a :: b :: r,i+2,h,hx=>by
  rw [unhex,unhex_bad r i (by simpa using h) (by simpa using hx)]
  split <;> rfl
def St (s:ByteArray) (k:Nat) (a:Int) (ys:List Int):Prop:=0<=a/\a<=15/\(2*ys.length=k/\a=0\/2*ys.length+1=k/\a=hexV (byteAt s (2*ys.length)))
def RetFG (r:Option (List Int)) (w:World) (e:Ending) (w':World):Prop:=∃ A c,e=.returned (.tuple #[.slice A (r.getD []).length c,.bool r.isSome])/\Row w' w.heap.size 5 1 A (r.getD []).length c (ints .u8 (r.getD []))/\Below w.heap.size w w'
set_option maxHeartbeats 4000000 in
theorem readHexS_any (s:ByteArray) (hs:s.size<=1048576) (w:World):
  Calls Tryz.prog 112 #[.string s] w (RetFG (unhex s.data.toList) w):=by
 obtain ⟨i0,hi1,hi2,hi3,hi4⟩:=info_parts CBytes.info8;have HI:=h_ (And.intro hi1 (And.intro hi2 (And.intro hi3 hi4)));clear hi1 hi2 hi3 hi4;have HB:=h_ (show Below w.heap.size w (w.alloc (.cells #[] 5)) from b_)
 go_enter Tryz.func112,Tryz.ntmps112
 go_wp2_with fail
 generalize w.alloc (.cells #[] 5)=w0 at *
 go_loopw [4,5,6] (fun v d i wi=>∃ (k:Nat) (A1:Option Addr) (c1:Nat) (ys:List Int) (a:Int),k<=s.size/\v=.slice A1 ys.length c1/\d=.int .i64 a/\i=.int .i64 k/\St s k a ys/\unhex s.data.toList=(unhex (s.data.toList.drop (2*ys.length))).map (ys++·)/\Row wi w.heap.size 5 1 A1 ys.length c1 (ints .u8 ys)/\Below w.heap.size w wi) (fun _ _ i _=>s.size - (intOf i).toNat)
 case atStart=>exact ⟨0,_,0,[],0,Nat.zero_le _,rfl,rfl,rfl,⟨by omega,by omega,Or.inl ⟨rfl,rfl⟩⟩,by simp,Row.empty _ _ _ _ _,HB.o⟩
 case round=>
  rename World=>wk
  clear HB;obtain ⟨k,A1,c1,ys,a,hk,rfl,rfl,rfl,hst,hu,hrow,hb⟩:=hrel;obtain ⟨ha0,ha1,hst⟩:=hst;have HST:=h_ hst;have HU:=h_ hu
  have hl2:ys.length<=1048576:=by rcases hst with h | h <;> omega
  have HW:=h_ hrow;have HB:=h_ hb;clear hu hrow hb hst
  by_cases hlt:k<s.size
  ·have hx:=hexV_bd (s[k]'hlt);have HBY:=h_ (byteAt_eq s k hlt);have HDG:=h_ (fun (j:Nat) (hj:j<16)=>digit_eq j hj (s[k]'hlt));have HBAD:=h_ (unhex_bad s.data.toList k (by rw [Array.length_toList]; exact hlt));rw [show s.data.toList.getD k 0=s[k]'hlt from HBY.o.symm] at HBAD;have HXX:=h_ (show hexV (s[k]'hlt)=hexV (byteAt s k) from congrArg hexV HBY.o);generalize hxe:hexV (s[k]'hlt)=x at *;have HXE:=h_ hxe;clear hxe;obtain ⟨hx1,hx2⟩:=hx
   go_wp2_with fail
   go_loopw [7,8] (fun d i wi=>∃ j:Nat,j<=16/\d=.int .i64 (found j x)/\i=.int .i64 j/\Row wi w.heap.size 5 1 A1 ys.length c1 (ints .u8 ys)/\Below w.heap.size w wi) (fun _ i _=>16 - (intOf i).toNat)
   case atStart=>exact ⟨0,Nat.zero_le _,by rw [found_zero hx1],rfl,HW.o,HB.o⟩
   case round=>
    rename World=>wi
    clear HW HB;obtain ⟨j,hj,rfl,rfl,hrow,hb⟩:=hrel;have HW:=h_ hrow;have HB:=h_ hb;clear hrow hb
    by_cases hlj:j<16
    ·have hix:=fun V=>index_hexI j hlj V;have hdg:=HDG.o j hlj
     by_cases he:x=j
     ·have HFD:=h_ (found_hit he);rw [decide_eq_true he] at hdg;clear he;generalize found j x=fj at *
      go_wp2_with fail
      refine Reg.startT (fun _=>True) (fun _=>false) (by kernel_rfl) ?_;have hHeld:True:=trivial;refine t_ 0 rfl ?_;refine t_ 1 rfl ?_;refine t_ 2 rfl ?_;refine t_ 3 rfl ?_;refine t_ 4 rfl ?_;refine t_ 5 rfl ?_;refine Reg.doneT (by kernel_rfl) ?_ _;have HW':=h_ HW.o.drew;have HB':=h_ HB.o.drew;generalize wi.drew=wj at *;clear hHeld hix hdg HW HB
      go_wp2_with fail
      refine ⟨⟨j+1,by omega,by rw [HFD.o],by go_num,HW'.o,HB'.o⟩,by simp [intOf]; omega⟩
     ·have HFD:=h_ (found_miss he);rw [decide_eq_false he] at hdg;clear he;generalize found j x=fj at *
      go_wp2_with fail
      refine Reg.startT (fun _=>True) (fun _=>false) (by kernel_rfl) ?_;have hHeld:True:=trivial;refine t_ 0 rfl ?_;refine t_ 1 rfl ?_;refine t_ 2 rfl ?_;refine t_ 3 rfl ?_;refine t_ 4 rfl ?_;refine t_ 5 rfl ?_;refine Reg.doneT (by kernel_rfl) ?_ _;have HW':=h_ HW.o.drew;have HB':=h_ HB.o.drew;generalize wi.drew=wj at *;clear hHeld hix hdg HW HB
      go_wp2_with fail
      refine ⟨⟨j+1,by omega,by rw [HFD.o],by go_num,HW'.o,HB'.o⟩,by simp [intOf]; omega⟩
    ·have hje:j=16:=by omega
     subst hje;rw [found_all hx2];clear HDG hj hlj
     by_cases hx0:x<0
     ·have HV:=h_ (HBAD.o hx0);have hd:decide (x<0)=true:=decide_eq_true hx0;have BF:Below wi.heap.size wi (wi.alloc (.cells #[] 5)):=b_;replace HB:=c_ HB BF;replace HW:=h_ (HW.o.call BF);clear BF
      go_wp2_with fail
      go_ret2;rw [HV.o];exact ⟨_,_,rfl,Row.empty _ _ _ _ _,HB.o⟩
     have hx0':0<=x:=by omega
     have hd:decide (x<0)=false:=decide_eq_false hx0;have hw1:IntKind.i64.wrap (16*a)=16*a:=IntWalk.i64_in _ (by omega);have hw2:IntKind.i64.wrap (16*a+x)=16*a+x:=IntWalk.i64_in _ (by omega);have hst:=HST.o
     rcases hst with ⟨hyl,hae⟩ | ⟨hyl,hae⟩
     ·have hm:((k:Int)).tmod 2=0:=by
       rw [Int.tmod_eq_emod_of_nonneg (by omega)];omega
      subst hae;have HS2:=h_ (show St s (k+1) x ys from ⟨hx0',hx2,Or.inr ⟨by omega,by rw [hyl]; exact HXX.o⟩⟩)
      have hz:(16*(0:Int)+x)=x:=by omega
      clear HXX HXE HBY HBAD HST hyl
      go_wp2_with fail
      refine ⟨⟨k+1,A1,c1,ys,x,by omega,rfl,by simp,by go_num,HS2.o,HU.o,HW.o,HB.o⟩,by simp [intOf]; omega⟩
     ·have hm:((k:Int)).tmod 2=1:=by
       rw [Int.tmod_eq_emod_of_nonneg (by omega)];omega
      have hp1:2*ys.length+1<s.size:=by omega
      have HV:=h_ (show unhex s.data.toList=(unhex (s.data.toList.drop (2*(ys++[16*a+x]).length))).map ((ys++[16*a+x])++·) from by
       have h:=unhex_step s (2*ys.length) hp1 ys HU.o;rw [byteAt_eq,byteAt_eq,show 2*ys.length+1=k from hyl,<- HXX.o,<- hae,if_neg (by omega)] at h;rw [h,List.length_append]
       rfl)
      have hw3:IntKind.u8.wrap (16*a+x)=16*a+x:=wrap8 _ (by omega);have HYL:=h_ hyl;clear HXX HXE HBY HBAD HST HU hae hyl;have BA:Below wi.heap.size wi (wi.alloc (.cells #[.int .u8 (16*a+x)] 5)):=b_;replace HB:=c_ HB BA;replace HW:=h_ (HW.o.call BA);clear BA
      go_wp2_with (at_builtin; refine wpList_app (wi.alloc (.cells #[.int .u8 (16*a+x)] 5)) rfl (.tmp 37) (.tmp 40) 22 rfl 5 i0 (.int .u8 0) 1 1 Tryz.underlying22 HI.o.1 HI.o.2.1 HI.o.2.2.1 HI.o.2.2.2 rfl (by decide) w.heap.size A1 ys.length c1 (ints .u8 ys) rfl HW.o HB.o.size (some ⟨wi.heap.size,0,none⟩) 1 1 [.int .u8 (16*a+x)] rfl (rd_lit wi #[.int .u8 (16*a+x)] 5 _ rfl) rfl (fun h=>by cases h) (one_u8 _) ?n1 ?n2 ?_)
      case n1=>unfold maxLen; omega
      case n2=>omega
      intro A9 n9 c9 wz hn9 o9 g9 k9;subst hn9;have HB9:=h_ (HB.o.grown g9 HB.o.size (fun j hj=>(HW.o.lt j hj).1))
      have HW9:=h_ (show Row wz w.heap.size 5 1 A9 (ys++[16*a+x]).length c9 (ints .u8 (ys++[16*a+x])) from by
       rw [List.length_append,show ints .u8 (ys++[16*a+x])=ints .u8 ys++[.int .u8 (16*a+x)] from by simp [ints]]
       exact o9)
      have hq:=HYL.o;have HS2:=h_ (show St s (k+1) 0 (ys++[16*a+x]) from ⟨by omega,by omega,Or.inl ⟨by rw [List.length_append]; simp only [List.length_singleton]; omega,rfl⟩⟩);clear o9 g9 k9 HW HB hq;generalize hG:ys++[16*a+x]=zs at *
      have hzl:zs.length=ys.length+1:=by rw [<-hG]; simp
      rw [<-hzl];clear hG hzl
      go_wp2_with fail
      refine ⟨⟨k+1,A9,c9,zs,0,by omega,rfl,rfl,by go_num,HS2.o,HV.o,HW9.o,HB9.o⟩,by simp [intOf]; omega⟩
  ·have hke:k=s.size:=by omega
   have hst:=HST.o
   rcases hst with ⟨hyl,hae⟩ | ⟨hyl,hae⟩
   ·have hm:((s.size:Int)).tmod 2=0:=by
     rw [Int.tmod_eq_emod_of_nonneg (by omega)];omega
    have HV:=h_ (show unhex s.data.toList=some ys from by
     rw [HU.o,List.drop_eq_nil_of_le (by rw [Array.length_toList]; exact Nat.le_of_eq (by rw [hyl,hke]; rfl))]
     simp [unhex])
    clear hke hae hyl HST HU
    go_wp2_with fail
    go_ret2;rw [HV.o];exact ⟨A1,c1,rfl,HW.o,HB.o⟩
   ·have hm:((s.size:Int)).tmod 2=1:=by
     rw [Int.tmod_eq_emod_of_nonneg (by omega)];omega
    have HV:=h_ (unhex_odd s.data.toList (by rw [Array.length_toList]; show s.size % 2=1; omega));have BF:Below wk.heap.size wk (wk.alloc (.cells #[] 5)):=b_;replace HB:=c_ HB BF;replace HW:=h_ (HW.o.call BF);clear BF;clear hke hae hyl HST HU
    go_wp2_with fail
    go_ret2;rw [HV.o];exact ⟨_,_,rfl,Row.empty _ _ _ _ _,HB.o⟩
end CUnhexS
/- l8Read: numbers read; the reference's. -/
namespace CRdN
open Kit CEqual CNumTxt PNum PDump CHexI CHexS CSorted CWordsS
def sg (l:List UInt8):Nat:=if l.head?=some 45 then 1 else 0
def P10:Nat->Int
 | 0=>1
 | k+1=>10*P10 k
theorem p10_le {k:Nat} (h:k<=6):1<=P10 k/\P10 k<=1000000:=by
 have key:∀ i:Fin 7,1<=P10 i.1/\P10 i.1<=1000000:=by decide
 exact key ⟨k,by omega⟩
def vk (l:List UInt8) (k:Nat):Int:=dfold 0 ((l.take k).drop (sg l))
theorem vk_zero (l:List UInt8):vk l 0=0:=by simp [vk,dfold]
theorem vk_one {l:List UInt8} (h:l.head?=some 45):vk l 1=0:=by
 have e:sg l=1:=if_pos h;unfold vk;rw [e]
 have h2:((l.take 1).drop 1)=[]:=by
  apply List.eq_nil_of_length_eq_zero
  simp
 rw [h2]
 rfl
theorem vk_next {l:List UInt8} {k:Nat} {c:UInt8} (h:l.take (k+1)=l.take k++[c]) (hm:sg l<=k) (hk:k<=l.length):vk l (k+1)=10*vk l k+c.toNat - 48:=by
 unfold vk;rw [h,List.drop_append_of_le_length (by rw [List.length_take]; omega),dfold_snoc]
theorem vk_all (l:List UInt8):(if l.head?=some 45 then -vk l l.length else vk l l.length)=rdV l:=by
 unfold vk sg;rw [List.take_length]
 cases l with
 | nil=>rfl
 | cons c r=>
  simp only [List.head?_cons,Option.some.injEq]
  show _=if c=45 then -dfold 0 r else dfold 0 (c :: r)
  by_cases h:c=45
  ·rw [if_pos h,if_pos h,if_pos h]
   rfl
  ·rw [if_neg h,if_neg h,if_neg h]
   rfl
theorem head_at (s:ByteArray) (h:0<s.size):s.data.toList.head?=some (s[0]'h):=by
 obtain ⟨⟨l⟩⟩:=s
 cases l with
 | nil=>simp [ByteArray.size] at h
 | cons c r=>rfl
theorem byte_at (s:ByteArray) (k:Nat) (h:k<s.size):s.data.toList[k]?=some (s[k]'h):=by
 have h':k<s.data.toList.length:=by rw [Array.length_toList]; exact h
 rw [List.getElem?_eq_getElem h']
 rfl
theorem len_size (s:ByteArray):s.data.toList.length=s.size:=by rw [Array.length_toList]; rfl
set_option maxHeartbeats 4000000 in
theorem read_any (s:ByteArray) (hs:s.size<=1048576) (w:World):Calls Tryz.prog 66 #[.string s] w (Ret (.int .i64 (rdN s.data.toList)) w):=by
 go_enter Tryz.func66,Tryz.ntmps66
 go_wp2_with fail
 go_loop [3,4] (fun v i=>∃ (k:Nat) (x:Int),k<=s.size/\v=.int .i64 x/\i=.int .i64 k/\x=vk s.data.toList k/\k<=6/\0<=x/\x<P10 k/\(0<k->sg s.data.toList<=k)) (fun _ i=>s.size - (intOf i).toNat)
 case atStart=>exact ⟨0,0,Nat.zero_le _,rfl,rfl,(vk_zero _).symm,by omega,by omega,by decide,fun h=>absurd h (by omega)⟩
 case round=>
  obtain ⟨k,x,hk,rfl,rfl,hx,hk6,hx0,hx1,hsg⟩:=hrel;have HX:=h_ hx;have HSG:=h_ hsg;have hP:=p10_le hk6;have HP:=h_ hx1
  have hx2:x<=1000000:=by omega
  clear hx hsg hx1
  by_cases hlt:k<s.size
  ·have HT:=h_ (take_byte s k hlt);have HBY:=h_ (byte_at s k hlt);have HH:=h_ (fun h=>head_at s h);have HLS:=h_ (len_size s)
   have hc0:(0:Int)<=((s[k]'hlt).toNat:Int):=by omega
   have HSK:=h_ (fun (h:k=0) (h2:0<s.size)=>(show s[0]'h2=s[k]'hlt from by subst h; rfl));generalize hcc:s[k]'hlt=c at *;have hcc2:c.toNat<256:=UInt8.toNat_lt c;have HN:Hd (∀ n:Nat,n<256->c.toNat=n->c=UInt8.ofNat n):=h_ (fun n hn h=>UInt8.toNat_inj.1 (by rw [h,UInt8.toNat_ofNat']; omega))
   by_cases hm:c.toNat=45/\k=0
   ·obtain ⟨hm1,hm2⟩:=hm;have h45:c=45:=HN.o 45 (by omega) hm1
    have HV:=h_ (show x=vk s.data.toList 1 from by
     rw [vk_one (by rw [HH.o (by omega),HSK.o hm2 (by omega),h45]),HX.o,hm2,vk_zero])
    have HS1:=h_ (show sg s.data.toList<=1 from by unfold sg; split <;> omega)
    have e1:((c.toNat:Int) == 45)=true:=by rw [hm1]; rfl
    have HP1:=h_ (show x<P10 1 from by
     have h1:=HP.o;rw [hm2] at h1;have:P10 0=1:=rfl;have:P10 1=10:=rfl
     omega)
    subst hm2;clear hm1 h45
    go_wp2_with fail
    refine ⟨⟨0+1,x,by omega,rfl,by go_num,HV.o,by omega,hx0,HP1.o,fun _=>HS1.o⟩,by simp [intOf]; omega⟩
   ·have hno:0<k\/c ≠ 45:=by
     rcases Nat.eq_zero_or_pos k with h | h
     ·refine .inr (fun h45=>hm ⟨by rw [h45]; rfl,h⟩)
     ·exact .inl h
    have HNO:=h_ hno;clear hno
    by_cases h45:c.toNat=45
    ·have hk0:0<k:=by
      rcases Nat.eq_zero_or_pos k with h | h
      ·exact absurd ⟨h45,h⟩ hm
      ·exact h
     have HV:=h_ (rdN_bad HBY.o HNO.o (.inl (by omega)))
     have e1:((c.toNat:Int) == 45)=true:=by rw [h45]; rfl
     have e2:((k:Int) == 0)=false:=beq_eq_false_iff_ne.2 (by omega);have e3:decide ((c.toNat:Int)<48)=true:=decide_eq_true (by omega);clear hm h45
     go_wp2_with fail
     go_ret;rw [HV.o];exact ⟨rfl,Below.refl _ _⟩
    ·have e1:((c.toNat:Int) == 45)=false:=beq_eq_false_iff_ne.2 (by omega);clear hm
     by_cases h48:c.toNat<48
     ·have HV:=h_ (rdN_bad HBY.o HNO.o (.inl h48));have e3:decide ((c.toNat:Int)<48)=true:=decide_eq_true (by omega);clear h45
      go_wp2_with fail
      go_ret;rw [HV.o];exact ⟨rfl,Below.refl _ _⟩
     ·have e3:decide ((c.toNat:Int)<48)=false:=decide_eq_false (by omega)
      by_cases h57:57<c.toNat
      ·have HV:=h_ (rdN_bad HBY.o HNO.o (.inr h57));have e4:decide ((57:Int)<(c.toNat:Int))=true:=decide_eq_true (by omega);clear h45 h48
       go_wp2_with fail
       go_ret;rw [HV.o];exact ⟨rfl,Below.refl _ _⟩
      ·have e4:decide ((57:Int)<(c.toNat:Int))=false:=decide_eq_false (by omega)
       by_cases h5:5<k
       ·have HV:=h_ (rdN_long (l:=s.data.toList) (by rw [HLS.o]; omega));have e5:decide ((5:Int)<(k:Int))=true:=decide_eq_true (by omega);clear h45 h48 h57
        go_wp2_with fail
        go_ret;rw [HV.o];exact ⟨rfl,Below.refl _ _⟩
       ·have e5:decide ((5:Int)<(k:Int))=false:=decide_eq_false (by omega)
        have hsk:sg s.data.toList<=k:=by
         rcases Nat.eq_zero_or_pos k with h | h
         ·have h1:=HSK.o h (by omega);have h2:=HH.o (by omega);unfold sg;rw [h2,h1];rw [if_neg (fun e=>h45 (by injection e with e; rw [e]; rfl))];exact Nat.zero_le _
         ·exact HSG.o h
        have HV:=h_ (show 10*x+((c.toNat:Int) - 48)=vk s.data.toList (k+1) from by
         rw [vk_next HT.o hsk (by rw [HLS.o]; omega),HX.o]
         omega)
        have HPN:=h_ (show 10*x+((c.toNat:Int) - 48)<P10 (k+1) from by
         have h1:=HP.o;have h2:P10 (k+1)=10*P10 k:=rfl
         omega)
        have HSN:=h_ (show sg s.data.toList<=k+1 from by omega);have hw8:IntKind.u8.wrap ((c.toNat:Int) - 48)=(c.toNat:Int) - 48:=wrap8 _ (by omega)
        have hy0:0<=(c.toNat:Int) - 48/\(c.toNat:Int) - 48<=9:=by omega
        clear h45 hsk
        go_wp2_with fail
        refine ⟨⟨k+1,10*x+((c.toNat:Int) - 48),by omega,by go_num,by go_num,HV.o,by omega,by omega,HPN.o,fun _=>HSN.o⟩,by simp [intOf]; omega⟩
  ·have hke:k=s.size:=by omega
   subst hke;have HA:=h_ (vk_all s.data.toList)
   have hl6:s.data.toList.length<=6:=by rw [len_size]; exact hk6
   have HL6:=h_ hl6;rw [len_size,<- HX.o] at HA;have hdk:decide ((s.size:Int)<(s.size:Int))=false:=decide_eq_false (by omega);clear hl6 HP hP
   have HFIN:=h_ (fun (n:Int) (h:n=rdV s.data.toList) (he:(bs (Lib.itoa n)).toList=s.toList)=>(show rdN s.data.toList=n from by
    have he2:Lib.itoa n=s.data.toList:=by
     have h3:=he;rw [ByteArray.toList_eq,ByteArray.toList_eq] at h3;exact h3
    have hc:s.data.toList.length<=6/\Lib.itoa (rdV s.data.toList)=s.data.toList:=⟨HL6.o,by rw [<-h]; exact he2⟩;unfold rdN
    rw [if_pos hc,h]))
   have HFNO:=h_ (fun (n:Int) (h:n=rdV s.data.toList) (he:(bs (Lib.itoa n)).toList ≠ s.toList)=>(show rdN s.data.toList=99999 from by
    unfold rdN;rw [<-h,if_neg];rintro ⟨_,h2⟩
    apply he
    rw [ByteArray.toList_eq,ByteArray.toList_eq]
    exact h2))
   by_cases h0:s.size=0
   ·have hl0:s.data.toList=[]:=List.eq_nil_of_length_eq_zero (by rw [len_size]; exact h0)
    have hem:s.toList.isEmpty=true:=by rw [ByteArray.toList_eq,hl0]; rfl
    have HR:=h_ (show x=rdV s.data.toList from by
     have:=HA.o;rw [hl0] at this ⊢
     exact this)
    clear hl0 HA HX hk hlt
    go_wp2_with fail
    refine (l8Number_any x w (by omega) (by omega)).mono ?_;rintro e w2 ⟨rfl,b2⟩;have HB:=h_ b2;clear b2
    by_cases hq:(bs (Lib.itoa x)).toList=s.toList
    ·have HV:=h_ (HFIN.o x HR.o hq);have hqe:((⟨(Lib.itoa x).toArray⟩:ByteArray).toList == s.toList)=true:=beq_iff_eq.2 hq;clear hq;generalize (⟨(Lib.itoa x).toArray⟩:ByteArray)=S1 at *
     go_wp2_with fail
     go_ret;rw [HV.o];exact ⟨rfl,HB.o⟩
    ·have HV:=h_ (HFNO.o x HR.o hq);have hqe:((⟨(Lib.itoa x).toArray⟩:ByteArray).toList == s.toList)=false:=beq_eq_false_iff_ne.2 hq;clear hq;generalize (⟨(Lib.itoa x).toArray⟩:ByteArray)=S1 at *
     go_wp2_with fail
     go_ret;rw [HV.o];exact ⟨rfl,HB.o⟩
   ·have hl0:0<s.size:=by omega
    have HH:=h_ (head_at s hl0)
    have hem:s.toList.isEmpty=false:=by
     rw [ByteArray.toList_eq]
     cases hq:s.data.toList with
     | nil=>rw [<-len_size,hq] at h0; exact absurd rfl h0
     | cons c r=>rfl
    generalize hcc:s[0]'hl0=c at *
    by_cases h45:c.toNat=45
    ·have e1:((c.toNat:Int) == 45)=true:=by rw [h45]; rfl
     have HR:=h_ (show -x=rdV s.data.toList from by
      have h1:=HA.o;rw [HH.o,if_pos (by rw [show c=45 from UInt8.toNat_inj.1 h45])] at h1
      exact h1)
     have hwn:IntKind.i64.wrap (-x)=-x:=IntWalk.i64_in _ (by omega);generalize hnn:-x=n at *
     have hn0:-1000000<=n/\n<=1000000:=by omega
     clear HA HX hk hlt h45 h0
     go_wp2_with fail
     refine (l8Number_any n w (by omega) (by omega)).mono ?_;rintro e w2 ⟨rfl,b2⟩;have HB:=h_ b2;clear b2
     by_cases hq:(bs (Lib.itoa n)).toList=s.toList
     ·have HV:=h_ (HFIN.o n HR.o hq);have hqe:((⟨(Lib.itoa n).toArray⟩:ByteArray).toList == s.toList)=true:=beq_iff_eq.2 hq;clear hq;generalize (⟨(Lib.itoa n).toArray⟩:ByteArray)=S1 at *
      go_wp2_with fail
      go_ret;rw [HV.o];exact ⟨rfl,HB.o⟩
     ·have HV:=h_ (HFNO.o n HR.o hq);have hqe:((⟨(Lib.itoa n).toArray⟩:ByteArray).toList == s.toList)=false:=beq_eq_false_iff_ne.2 hq;clear hq;generalize (⟨(Lib.itoa n).toArray⟩:ByteArray)=S1 at *
      go_wp2_with fail
      go_ret;rw [HV.o];exact ⟨rfl,HB.o⟩
    ·have e1:((c.toNat:Int) == 45)=false:=beq_eq_false_iff_ne.2 (by omega)
     have HR:=h_ (show x=rdV s.data.toList from by
      have h1:=HA.o;rw [HH.o,if_neg (fun e=>h45 (by injection e with e; rw [e]; rfl))] at h1
      exact h1)
     clear HA HX hk hlt h45 h0
     go_wp2_with fail
     refine (l8Number_any x w (by omega) (by omega)).mono ?_;rintro e w2 ⟨rfl,b2⟩;have HB:=h_ b2;clear b2
     by_cases hq:(bs (Lib.itoa x)).toList=s.toList
     ·have HV:=h_ (HFIN.o x HR.o hq);have hqe:((⟨(Lib.itoa x).toArray⟩:ByteArray).toList == s.toList)=true:=beq_iff_eq.2 hq;clear hq;generalize (⟨(Lib.itoa x).toArray⟩:ByteArray)=S1 at *
      go_wp2_with fail
      go_ret;rw [HV.o];exact ⟨rfl,HB.o⟩
     ·have HV:=h_ (HFNO.o x HR.o hq);have hqe:((⟨(Lib.itoa x).toArray⟩:ByteArray).toList == s.toList)=false:=beq_eq_false_iff_ne.2 hq;clear hq;generalize (⟨(Lib.itoa x).toArray⟩:ByteArray)=S1 at *
      go_wp2_with fail
      go_ret;rw [HV.o];exact ⟨rfl,HB.o⟩
end CRdN
end Go.Proofs.YtepoiphmmjfbdaaGreatDoor
