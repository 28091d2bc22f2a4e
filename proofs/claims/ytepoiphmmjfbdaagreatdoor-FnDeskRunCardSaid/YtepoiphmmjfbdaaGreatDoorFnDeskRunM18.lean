/- The draws of the desks: objects and a line; objects and lines. -/
import Derived.Test.YtepoiphmmjfbdaaGreatDoorFnDeskRunM17
set_option linter.unusedSimpArgs false
set_option linter.unusedVariables false
set_option maxRecDepth 200000
open Go.ChangeShapes Go.WideShapes Go.ChangeAt Go.RowKit
namespace Go.Proofs.YtepoiphmmjfbdaaGreatDoor
namespace DDrawK
open Kit CCode CFixups CSymbols PObj BObj PValid BStore BList CSecValid CMarkRows CCopyS DPick DVar DName DBytes DSection BObj2 CEqual DObject CObjL DDrawB DObjH DObjL CSorted CNames DSaid
def DrewLR(w:World)(e:Ending)(w':World):Prop:=∃(A:Option Addr) (c:Nat) (os:List OV) (B:Option Addr) (d:Nat) (ts:List ByteArray),e=.returned (.tuple #[.slice A os.length c,.slice B ts.length d])/\os.length<=8/\(∀o∈os,SmallO o.d)/\OwnOs w' w.heap.size A c os/\ts.length<=21/\(∀t∈ts,t.size<=50000)/\Row w' w.heap.size 9 1 B ts.length d (nmC ts)/\(∃g,B=some ⟨g,0,none⟩)/\Below w.heap.size w w'
theorem own_drawn{w w':World}{base c:Nat}{A:Option Addr}{os:List OV}{R:Nat}(h:OwnOs w base A c os)(g:w.grownBy w' (some R))(hR:R<base):OwnOs w' base A c os:=
 h.keep λk hk=>g.block k (h.lt k hk).2 (λe=>by injection e with e;have:=(h.lt k hk).1;omega)
theorem own_take{w:World}{base c n:Nat}{A:Option Addr}{os:List OV}(h:OwnOs w base A c os)(hn:n<=os.length):OwnOs w base A c (os.take n):=by
 refine⟨?_,λo ho=>h.2.1 o (List.mem_of_mem_take ho),h.2.2.sublist (List.take_sublist _ _)⟩;have r:=Row.prefix h.1 hn;have e:(cellsOf objC os).take (n*2)=cellsOf objC (os.take n):=by
  have key:∀(l:List OV) (k:Nat),(cellsOf objC l).take (k*2)=cellsOf objC (l.take k):=by
   intro l;induction l with
   |nil=>intro k;simp[cellsOf]
   |cons o l ih=>
    intro k;cases k with
    |zero=>simp[cellsOf]
    |succ k=>rw[show(k+1)*2=k*2+1+1 from by omega];simp only[cellsOf,List.flatMap_cons,objC,List.cons_append,List.nil_append,List.take_succ_cons]at ih ⊢;rw[ih k]
  exact key os n
 rw[e]at r;rw[List.length_take,Nat.min_eq_left hn];exact r
theorem zero21:(madeCells #[Value.string ⟨#[]⟩] 21).toList=nmC (List.replicate 21 ⟨#[]⟩):=by kernel_rfl
set_option maxHeartbeats 4000000 in
theorem draw_DrawDeskRun{A:Option Addr}{zs:List Int}{c:Nat}{w:World}(hr:Rd w w.heap.size A (ints .u8 zs))(hz:InR 0 255 zs)(hc:zs.length<=c)(hcm:c<=maxLen):
  Calls Tryz.prog 21 #[.slice A zs.length c] w (DrewLR w):=by
 obtain⟨i0,hi1,hi2,hi3,hi4⟩:=info_parts infoStr;have HI:=h_ (And.intro hi1 (And.intro hi2 (And.intro hi3 hi4)));clear hi1 hi2 hi3 hi4;have HO:=h_ (open_any A zs c w hr hz hc hcm);clear hr hz hc hcm;go_enter Tryz.func21,Tryz.ntmps21
 go_wp2_with fail
 refine HO.o.mono ?_;rintro e w1 ⟨R,rfl,T,b1⟩;have HB:=h_ b1;have HT:=h_ (Tp.start T);have hRl:=T.1;clear HO T b1;go_wp2_with fail
 refine(objects_any HT.o (by omega) (by omega) 14 (by omega) (by omega)).mono ?_;rintro e w2 ⟨A2,c2,os0,rfl,hl0,hs0,hown0,T2,g2⟩;have hRw:=HT.o.lt;have HOS:=h_ (show ∃os:List OV,os.length=min 2 os0.length/\(∀o∈os,SmallO o.d)/\OwnOs w2 w1.heap.size A2 c2 os from by
  rcases Nat.lt_or_ge 2 os0.length with h|h
  ·exact⟨os0.take 2,by rw[List.length_take],λo ho=>hs0 o (List.mem_of_mem_take ho),own_take hown0 (by omega)⟩
  ·exact⟨os0,by omega,hs0,hown0⟩)
 obtain⟨os,hol,hs,hown⟩:=HOS.o;have HS:=h_ hs;have HOW:=h_ hown;have hcap:os0.length<=c2:=hown0.1.cap.1;have hcm2:=hown0.1.cap.2;have HT2:=h_ T2;clear hs hown hs0 hown0 T2 g2 HT HOS;go_upto_if 14 with(fail)
 go_cut [5]from 12 to 16 (λv wx=>v=.slice A2 os.length c2/\wx=w2)
 case first=>
  by_cases h:2<os0.length
  ·have hd:decide ((2:Int)<(os0.length:Int))=true:=decide_eq_true (by omega);have hc2:2<=c2:=by omega
   have H2:=h_ (show os.length=2 from by omega);go_wp2_with fail
   go_meet
   exact⟨by rw[H2.o],rfl⟩
  ·have hd:decide ((2:Int)<(os0.length:Int))=false:=decide_eq_false (by omega);have H2:=h_ (show os0.length=os.length from by omega);clear hol;go_wp2_with fail
   go_meet
   exact⟨by rw[H2.o],rfl⟩
 case rest=>
  obtain⟨rfl,rfl⟩:=hcut;have ho8:os.length<=8:=by omega
  clear hl0 hol hcap hcm2;have hwc:R<wc.heap.size:=HT2.o.lt;have BA:Below wc.heap.size wc (wc.alloc (.cells #[] 9)):=b_;replace HOW:=h_ (HOW.o.call BA);replace HT2:=h_ (HT2.o.call BA);clear BA;go_wp2_with fail
  generalize wc.alloc (.cells #[] 9)=w3 at *;refine(pick_tp HT2.o (by omega) 6 (by omega) (by omega)).mono ?_;rintro e w4 ⟨x,rfl,x0,x1,T4,g4⟩;replace HOW:=h_ (own_drawn HOW.o g4 hRw);have HT4:=h_ T4;clear T4 g4 HT2;obtain⟨i,rfl⟩:=Int.eq_ofNat_of_zero_le x0;go_wp2_with fail
  go_loopw [6,7] (λov kv wi=>∃(i:Nat) (B:Option Addr) (d:Nat) (ts:List ByteArray),ov=.slice B ts.length d/\kv=.int .i64 i/\i+ts.length<=6/\(∀t∈ts,t.size<=50000)/\Row wi w1.heap.size 9 1 B ts.length d (nmC ts)/\(∃g,B=some ⟨g,0,none⟩)/\OwnOs wi w1.heap.size A2 c2 os/\Tp w1 wi w.heap.size R (30000+2200*(6-i:Int))) (λ_ k _=>(intOf k).toNat)
  case atStart=>exact⟨i,_,0,[],rfl,rfl,by simp;omega,(λt ht=>by cases ht),Row.empty _ _ _ _ _,⟨_,rfl⟩,HOW.o,HT4.o.more (by omega)⟩
  case round=>
   clear HOW HT4;obtain⟨i,B,d,ts,rfl,rfl,hi,hts,hrow,hbg,how,ht⟩:=hrel;have HBG:=h_ hbg;clear hbg;have HTS:=h_ hts;have HRW:=h_ hrow;have HOW:=h_ how;have HT:=h_ ht;clear hts hrow how ht;by_cases h0:0<i
   ·have hd:decide (0<(i:Int))=true:=decide_eq_true (by omega);go_wp2_with fail
    refine(said_any HT.o (by omega) (by omega)).mono ?_;rintro e w5 ⟨s,rfl,hsz,T5,g5⟩;have HR5:=h_ (HRW.o.grown g5 (λk hk e=>by injection e with e;have:=(HRW.o.lt k hk).1;omega));have HO5:=h_ (own_drawn HOW.o g5 hRw);have BA:Below w5.heap.size w5 (w5.alloc (.cells #[.string s] 9)):=b_;replace HR5:=h_ (HR5.o.call BA);replace HO5:=h_ (HO5.o.call BA);have HT5:=h_ (T5.call BA);have hw5:w1.heap.size<=(w5.alloc (.cells #[.string s] 9)).heap.size:=Nat.le_trans T5.2.size BA.size;have hl6:ts.length<=6:=by omega
    clear T5 g5 BA HT HRW HOW;go_wp2_with (at_builtin;refine wpList_app (w5.alloc (.cells #[.string s] 9)) rfl (.tmp 24) (.tmp 27) 28 rfl 9 i0 (.string ByteArray.empty) 1 16 Tryz.underlying28 HI.o.1 HI.o.2.1 HI.o.2.2.1 HI.o.2.2.2 rfl (by decide) w1.heap.size B ts.length d (nmC ts) rfl HR5.o hw5 (some ⟨w5.heap.size,0,none⟩) 1 1 [.string s] rfl (rd_lit w5 #[.string s] 9 _ rfl) rfl (λh=>by cases h) (by intro u hu;simp only[List.mem_cons,List.not_mem_nil,or_false]at hu;rcases hu with rfl;rfl) ?n1 ?n2 ?_)
    case n1=>unfold maxLen;omega
    case n2=>omega
    intro A5 n5 c5 w6 hn5 o5 g6 k6;subst hn5;have HR6:=h_ (show Row w6 w1.heap.size 9 1 A5 (ts.length+1) c5 (nmC (ts++[s]))from by simpa[nmC]using o5);have HO6:=h_ (show OwnOs w6 w1.heap.size A2 c2 os from HO5.o.keep (λj hj=>g6.block j (HO5.o.lt j hj).2 (λe=>OwnOs.apart HO5.o HR5.o (by decide) (by decide) (by decide) (by decide) (by decide) j hj e.symm)));have HT6:=h_ (HT5.o.own g6 (λk hk=>⟨(HR5.o.lt k hk).1,by have:=(HR5.o.lt k hk).1;omega⟩));have HTS6:=h_ (show ∀t∈ts++[s],t.size<=50000 from λt ht=>by
     rcases List.mem_append.1 ht with h|h
     ·exact HTS.o t h
     ·rw[List.mem_singleton.1 h];exact hsz)
    clear o5 g6 k6 HR5 HO5 HT5 hw5 HTS;generalize hG:ts++[s]=us at *;have hul:us.length=ts.length+1:=by rw[<-hG];simp
    rw[<-hul]at HR6 ⊢;clear hG;obtain⟨m,rfl⟩:∃m,i=m+1:=⟨i-1,by omega⟩;have hwm:IntKind.i64.wrap (((m+1:Nat):Int)-1)=(m:Int):=by rw[IntKind.wrap_i64];omega
    have HUL:=h_ hul;have HBG2:=h_ (show ∃g,A5=some ⟨g,0,none⟩from by
     obtain⟨g,hg,_⟩:=own_of HR6.o (by omega);exact⟨g,hg⟩)
    clear hul;go_wp2_with fail
    refine⟨⟨m,A5,c5,us,rfl,by go_num,by have:=HUL.o;omega,HTS6.o,HR6.o,HBG2.o,HO6.o,HT6.o.more (by omega)⟩,by simp[intOf]⟩
   ·have hd:decide (0<(i:Int))=false:=decide_eq_false (by omega);have hl6:ts.length<=6:=by omega
    go_wp2_with fail
    refine(odd_tp HT.o (by omega) 24 (by omega) (by omega)).mono ?_;rintro e w7 ⟨bo,rfl,T7,g7⟩;have HR7:=h_ (HRW.o.grown g7 (λk hk e=>by injection e with e;have:=(HRW.o.lt k hk).1;omega));have HO7:=h_ (own_drawn HOW.o g7 hRw);have HB7:=h_ (HB.o.trans (T7.below HB.o.size hRl));have HWL:=h_ HB.o.size;have hw17:=T7.2.size;clear T7 g7 HRW HOW HT hd;cases bo
    ·go_wp2_with fail
     go_ret2;exact⟨A2,c2,os,B,d,ts,rfl,ho8,HS.o,HO7.o.down HWL.o,by omega,HTS.o,HR7.o.down HWL.o,HBG.o,HB7.o⟩
    ·go_wp2_with (at_make;refine wpList_make_full _ rfl _ _ _ rfl w.heap.size 9 i0 (.string ⟨#[]⟩) 1 Tryz.underlying28 HI.o.1 HI.o.2.1 HI.o.2.2.1 .i64 .i64 _ _ 21 rfl rfl rfl rfl ?c1 ?c2 ?c3 ?_)
     case c1=>rw[HI.o.2.2.2];omega
     case c2=>unfold maxLen;omega
     case c3=>exact Nat.le_trans HWL.o hw17
     intro w8 hown hg;rw[zero21]at hown;have b8:Below w7.heap.size w7 w8:=below_grown (Below.refl _ _) hg (Nat.le_refl _) (λk hk=>by cases hk);have HO8:=h_ (HO7.o.call b8);have HB8:=h_ (HB7.o.trans (b8.mono HB7.o.size));have HR8:=h_ (show Row w8 w.heap.size 9 1 (some ⟨w7.heap.size,0,none⟩) 21 21 (nmC (List.replicate 21 ⟨#[]⟩))from .inr hown);clear hown hg b8;go_wp2_with fail
     go_ret2;exact⟨A2,c2,os,_,21,List.replicate 21 ⟨#[]⟩,rfl,ho8,HS.o,HO8.o.down HWL.o,by simp,(λt ht=>by rw[List.eq_of_mem_replicate ht];decide),HR8.o,⟨_,rfl⟩,HB8.o⟩
end DDrawK
/- The laws' question whether the program is there at all: it answers true. -/
namespace CAlive
open Kit CCode
theorem isAlign4(w:World):Calls Tryz.prog 87 #[.int .i64 4] w (Pure (.bool true) w):=by
 go_enter Tryz.func87,Tryz.ntmps87
 go_wp2
 go_ret;exact⟨rfl,rfl⟩
theorem aligned54(w:World):Calls Tryz.prog 89 #[.int .i64 5,.int .i64 4] w (Pure (.int .i64 8) w):=by
 go_enter Tryz.func89,Tryz.ntmps89
 go_wp2
 go_ret;exact⟨rfl,rfl⟩
theorem alignUp54(w:World):Calls Tryz.prog 43 #[.int .i64 5,.int .i64 4] w (Pure (.int .i64 8) w):=by
 have hb:inB 5 0 1000000=true:=by decide
 go_enter Tryz.func43,Tryz.ntmps43
 go_wp2_with (first|(go_at_call 87;refine(isAlign4 _).mono ?_;rintro e w' ⟨rfl,rfl⟩)|(go_at_call 89;refine(aligned54 _).mono ?_;rintro e w' ⟨rfl,rfl⟩)|(first|(go_at_call 88;refine(within_any _ _ _ _).mono ?_;rintro e w' ⟨rfl,rfl⟩)|(go_at_call 111;refine(l1In_any _ _ _ _).mono ?_;rintro e w' ⟨rfl,rfl⟩)|fail))
 go_ret;exact⟨rfl,rfl⟩
theorem alive_any(w:World):Calls Tryz.prog 12 #[] w (Pure (.bool true) w):=by
 go_enter Tryz.func12,Tryz.ntmps12
 go_wp2_with (go_at_call 43;refine(alignUp54 _).mono ?_;rintro e w' ⟨rfl,rfl⟩)
 go_ret;exact⟨rfl,rfl⟩
end CAlive
/- The walk of FnDeskLine. -/
namespace WFnDeskLine
open Kit CCode CFixups CSymbols PObj BObj PValid CObjValid CObject WObj BList CObjL CObjL2 CPlaceS CCopyS CValids PLink PDump PDesk BDesk CHexS CDeskI CDeskS BDeskW DObject DDrawB DDrawD DDrawK CSameO CSameLs CAlive
theorem lim_of{o:OV}(h:objOk o.d=true):CSameO.Lim o:=by
 obtain⟨h1,h2⟩:=CJoinAI.valid_len h;obtain⟨_,_,h3⟩:=PClear.obj_all h;exact⟨by omega,by omega,λp hp=>by
  obtain⟨a,b,_⟩:=h3 p.d (List.mem_map_of_mem hp);have a':p.fs.length<=6:=a;have b':p.zs.length<=48:=b;omega⟩
theorem small_args{w:World}{base c:Nat}{A:Option Addr}{os:List OV}(h8:os.length<=8)(hs:∀o∈os,SmallO o.d)(ho:OwnOs w base A c os):Lst os/\(∀o∈os,Nils o)/\(∀o∈os,InD o.d)/\os.length<=c:=by have hf:∀o∈os,Fit o:=λo h=>small_fit (hs o h) (ho.2.1 o h);exact⟨⟨by omega,hf,λo h=>cp_copy rfl (hf o h) (ho.2.1 o h)⟩,λo h=>nils_own (ho.2.1 o h),λo h=>small_in (hs o h),ho.1.cap.1⟩
end WFnDeskLine
/- What a session hands back: objects and answers. -/
namespace BRetRA
open Kit PObj BObj CObjL CSorted PDump
def RetRA(r:List OD×List (List UInt8))(w:World)(e:Ending)(w':World):Prop:=
 ∃A c os B d,e=.returned (.tuple #[.slice A (os:List OV).length c,.slice B r.2.length d])/\os.map OV.d=r.1/\OwnOs w' w.heap.size A c os/\Row w' w.heap.size 9 1 B r.2.length d (nmC (r.2.map bs))/\Below w.heap.size w w'
end BRetRA
/- DeskRun: lines of a session,one after the other; the program's. -/
namespace CDeskRI
open Kit CCode CName CFixups CSymbols PObj BObj PValid PClear PNum PDump PLink PLinkL BList CMarkRows BObj2 BRetO CObjValid CCopyS CValids CSorted CNames CWordsS CObjL COwnL CPlaceS PJoin PJoin2 PDesk PDesk2 PDeskZ BDesk CJoinAI CDeskLI CDeskI BDeskW BRetRA
theorem own_nil(w:World)(base:Nat)(A:Option Addr):OwnOs w base A 0 []:=⟨Row.empty _ _ _ _ _,(λp hp=>by cases hp),List.Pairwise.nil⟩
set_option maxHeartbeats 16000000 in
theorem deskRun_any(A:Option Addr)(os:List OV)(c:Nat)(LA:Option Addr)(ls:List (List UInt8))(lc:Nat)(w:World)(hr:RdOs w w.heap.size A os)(hf:Fits os)(hn:∀o∈os,Nils o)(hz:∀o∈os,InD o.d)(hc:os.length<=c)
  (hl:Rd w w.heap.size LA (nmC (ls.map bs)))(hs:∀x∈ls,x.length<=1048576)(he:Env w):
  Calls Tryz.prog 22 #[.slice A os.length c,.slice LA ls.length lc] w (RetRA (runA (os.map OV.d) ls) w):=by
 obtain⟨i0,hi1,hi2,hi3,hi4⟩:=info_parts infoStr;have HI:=h_ (And.intro hi1 (And.intro hi2 (And.intro hi3 hi4)));clear hi1 hi2 hi3 hi4;have HR:=h_ hr;have HF:=h_ hf;have HN:=h_ hn;have HE:=h_ he;have HL:=h_ hl;have HS:=h_ hs;have HZ:=h_ (show ∀d∈os.map OV.d,InD d from λd hd=>by
  obtain⟨o,ho,rfl⟩:=List.mem_map.1 hd;exact hz o ho)
 clear hr hf hn he hl hs hz;go_enter Tryz.func22,Tryz.ntmps22
 go_wp2_with fail
 refine(objectsValid_any A os c w HR.o HF.o).mono ?_;rintro e w1 ⟨rfl,b1⟩;have HB:=h_ b1;clear b1;cases hok:objsOk (os.map OV.d)
 ·have HV:=h_ (show runA (os.map OV.d) ls=([],[])from if_neg (by rw[hok];rintro⟨h,_⟩;cases h));clear hok;go_wp2_with fail
  go_ret2;rw[HV.o];exact⟨_,0,[],_,0,rfl,rfl,own_nil _ _ _,Row.empty _ _ _ _ _,HB.o⟩
 have HOK:=h_ hok;clear hok;by_cases h20:20<ls.length
 ·have HV:=h_ (show runA (os.map OV.d) ls=([],[])from if_neg (by rintro⟨_,h⟩;omega));have hd:decide ((20:Int)<(ls.length:Int))=true:=decide_eq_true (by omega);clear h20;go_wp2_with fail
  go_ret2;rw[HV.o];exact⟨_,0,[],_,0,rfl,rfl,own_nil _ _ _,Row.empty _ _ _ _ _,HB.o⟩
 have hd:decide ((20:Int)<(ls.length:Int))=false:=decide_eq_false (by omega);have HV:=h_ (show runA (os.map OV.d) ls=runs (os.map OV.d) ls from if_pos ⟨HOK.o,by omega⟩);obtain⟨h4,hall⟩:=objs_all HOK.o;have HAL:=h_ (λo (ho:o∈os)=>valid_len (hall o ho));clear hall;go_wp2_with fail
 clear hd;refine(copyObjects_any A os c w1 ((HR.o.below HB.o).more HB.o.size) HF.o HN.o (λo ho=>by have:=HAL.o o ho;omega)).mono ?_;rintro e w2 ⟨A2,c2,qs,rfl,hqd,o2,b2⟩;have HQ:=h_ (show qs.map OV.d=(runs (os.map OV.d) (ls.take 0)).1 from hqd);have HC:=h_ (o2.down HB.o.size);replace HB:=c_ HB b2;clear b2;clear hqd o2;have BA:Below w2.heap.size w2 (w2.alloc (.cells #[] 9)):=b_;replace HB:=c_ HB BA;replace HC:=h_ (HC.o.call BA);clear BA;have HVD:=h_ (λk=>And.intro (runs_valid (ls.take k) HOK.o) (inD_runs (ls.take k) HZ.o));go_wp2_with fail
 go_loopw [6,7,25] (λov av i wi=>∃(k:Nat) (A':Option Addr) (c':Nat) (xs:List OV) (B:Option Addr) (d:Nat),k<=ls.length/\ov=.slice A' xs.length c'/\av=.slice B k d/\i=.int .i64 k/\xs.map OV.d=(runs (os.map OV.d) (ls.take k)).1/\OwnOs wi w.heap.size A' c' xs/\Row wi w.heap.size 9 1 B k d (nmC ((runs (os.map OV.d) (ls.take k)).2.map bs))/\Below w.heap.size w wi) (λ_ _ i _=>ls.length-(intOf i).toNat)
 case atStart=>exact⟨0,A2,c2,qs,some ⟨w2.heap.size,0,none⟩,0,Nat.zero_le _,rfl,rfl,rfl,HQ.o,HC.o,Row.empty _ _ _ _ _,HB.o⟩
 case round=>
  clear HQ HC HB;obtain⟨k,A',c',xs,B,d,hk,rfl,rfl,rfl,hxd,hox,hrow,hb⟩:=hrel;have HXD:=h_ hxd;have HOX:=h_ hox;have HRW:=h_ hrow;have HB:=h_ hb;by_cases hlt:k<ls.length
  ·obtain⟨b,off,hLA,hbb,hcell⟩:=(HL.o.below hb) k (.string (bs ls[k])) (by simp[nmC,hlt]);have HNX:=h_ (runs_take (l:=os.map OV.d) hlt);have HLX:=h_ (HS.o _ (List.getElem_mem hlt));have HVK:=h_ (HVD.o k);clear hxd hox hrow hb;subst hLA;generalize ls[k]=s at *;generalize runs (os.map OV.d) (ls.take k)=st at *;obtain⟨l,ts⟩:=st;simp only at HXD HRW HVK HNX;have a:=args_valid HOX.o (by rw[HXD.o];exact HVK.o.1.1) (by rw[HXD.o];exact HVK.o.2);have HDL:=h_ (deskLine_any A' xs c' s wr HOX.o.rd a.l.fits a.n a.z a.c HLX.o (HE.o.below HB.o));rw[HXD.o]at HDL;clear a;go_wp2_with fail
   clear hcell;refine HDL.o.mono ?_;clear HDL;rintro e w3 ⟨A9,c9,ys,rfl,hyd,oy,b3⟩;have HYD:=h_ hyd;have HOY:=h_ oy;have HBW:=h_ HB.o.size;have HRB:=h_ (λk hk=>(HRW.o.lt k hk).2);replace HB:=c_ HB b3;replace HRW:=h_ (HRW.o.call b3);clear b3;clear hyd oy HOX HXD;generalize hda:deskA l s=da at *;have HDA:=h_ hda;clear hda;obtain⟨l9,t9⟩:=da;simp only at HYD ⊢;have BA:Below w3.heap.size w3 (w3.alloc (.cells #[.string (bs t9)] 9)):=b_;have HRWa:=h_ (HRW.o.call BA);have HBa:=h_ (HB.o.trans (BA.mono HB.o.size));have HOYa:=h_ (HOY.o.call BA);have hk20:k<=20:=by omega
   clear BA HRW HB HOY;go_wp2_with (at_builtin;refine wpList_app (w3.alloc (.cells #[.string (bs t9)] 9)) rfl (.tmp 36) (.tmp 38) 28 rfl 9 i0 (.string ByteArray.empty) 1 16 Tryz.underlying28 HI.o.1 HI.o.2.1 HI.o.2.2.1 HI.o.2.2.2 rfl (by decide) w.heap.size B k d (nmC (ts.map bs)) rfl HRWa.o HBa.o.size (some ⟨w3.heap.size,0,none⟩) 1 1 [.string (bs t9)] rfl (rd_lit w3 #[.string (bs t9)] 9 _ rfl) rfl (λh=>by cases h) (by intro u hu;simp only[List.mem_cons,List.not_mem_nil,or_false]at hu;rcases hu with rfl;rfl) ?n1 ?n2 ?_)
   case n1=>unfold maxLen;omega
   case n2=>omega
   intro A5 n5 c5 w5 hn5 o5 g5 k5;subst hn5;have HR5:=h_ (show Row w5 w.heap.size 9 1 A5 (k+1) c5 (nmC ((runs (os.map OV.d) (ls.take (k+1))).2.map bs))from by
    rw[HNX.o];show Row w5 w.heap.size 9 1 A5 (k+1) c5 (nmC ((ts++[(deskA l s).2]).map bs))
    rw[HDA.o];simpa[nmC]using o5)
   have HO5:=h_ (show OwnOs w5 w.heap.size A9 c9 ys from(HOYa.o.keep (λj hj=>g5.block j (HOYa.o.lt j hj).2 (λe=>by
    have h1:=(HOYa.o.lt j hj).1;have h2:=HRB.o j e.symm;omega))).down HBW.o)
   have HB5:=h_ (HBa.o.grown g5 HBa.o.size (λj hj=>(HRWa.o.lt j hj).1));have HY5:=h_ (show ys.map OV.d=(runs (os.map OV.d) (ls.take (k+1))).1 from by
    rw[HNX.o];show _=(deskA l s).1
    rw[HDA.o];exact HYD.o)
   clear o5 g5 k5 HRWa HBa HOYa HNX HYD HDA HVK HRB;go_wp2_with fail
   refine⟨⟨k+1,A9,c9,ys,A5,c5,by omega,rfl,rfl,by go_num,HY5.o,HO5.o,HR5.o,HB5.o⟩,by simp[intOf];omega⟩
  ·obtain rfl:k=ls.length:=by omega
   rw[List.take_length]at hxd hrow;have HRE:=h_ (show RetRA (runA (os.map OV.d) ls) w (.returned (.tuple #[.slice A' xs.length c',.slice B ls.length d])) wr from by
    rw[HV.o];have hlen:(runs (os.map OV.d) ls).2.length=ls.length:=(runs_valid ls HOK.o).2;refine⟨A',c',xs,B,d,by rw[hlen],hxd,hox,?_,hb⟩;rw[hlen];exact hrow)
   clear hxd hox hrow hb HXD HOX HRW HB;go_wp2_with fail
   go_ret2;exact HRE.o
end CDeskRI
/- DeskRun: lines of a session,one after the other; the reference's. -/
namespace CDeskRS
open Kit CCode CName CFixups CSymbols PObj BObj PValid PClear PNum PDump PLink PLinkL BList CMarkRows BObj2 BRetO CObjValid CCopyS CValids CSorted CNames CWordsS CObjL COwnL CPlaceS PJoin PJoin2 PDesk PDesk2 PDeskZ BDesk CJoinAI CDeskCS CDeskI BDeskW BRetRA CDeskS
theorem own_nil(w:World)(base:Nat)(A:Option Addr):OwnOs w base A 0 []:=⟨Row.empty _ _ _ _ _,(λp hp=>by cases hp),List.Pairwise.nil⟩
set_option maxHeartbeats 16000000 in
theorem deskRunS_any(A:Option Addr)(os:List OV)(c:Nat)(LA:Option Addr)(ls:List (List UInt8))(lc:Nat)(w:World)(hr:RdOs w w.heap.size A os)(hf:Lst os)(hn:∀o∈os,Nils o)(hz:∀o∈os,InD o.d)(hc:os.length<=c)
  (hl:Rd w w.heap.size LA (nmC (ls.map bs)))(hs:∀x∈ls,x.length<=1048576)(he:Env w):
  Calls Tryz.prog 23 #[.slice A os.length c,.slice LA ls.length lc] w (RetRA (runA (os.map OV.d) ls) w):=by
 obtain⟨i0,hi1,hi2,hi3,hi4⟩:=info_parts infoStr;have HI:=h_ (And.intro hi1 (And.intro hi2 (And.intro hi3 hi4)));clear hi1 hi2 hi3 hi4;have HR:=h_ hr;have HF:=h_ hf;have HN:=h_ hn;have HE:=h_ he;have HL:=h_ hl;have HS:=h_ hs;have HZ:=h_ (show ∀d∈os.map OV.d,InD d from λd hd=>by
  obtain⟨o,ho,rfl⟩:=List.mem_map.1 hd;exact hz o ho)
 clear hr hf hn he hl hs hz;have HB:=h_ (show Below w.heap.size w (w.alloc (.cells #[] 9))from b_);go_enter Tryz.func23,Tryz.ntmps23
 go_wp2_with fail
 generalize w.alloc (.cells #[] 9)=w0 at *;refine(objectsValidS_any A os c w0 ((HR.o.below HB.o).more HB.o.size) HF.o.fits).mono ?_;rintro e w1 ⟨rfl,b1⟩;replace HB:=c_ HB b1;clear b1;cases hok:objsOk (os.map OV.d)
 ·have HV:=h_ (show runA (os.map OV.d) ls=([],[])from if_neg (by rw[hok];rintro⟨h,_⟩;cases h));clear hok;have BA:Below w1.heap.size w1 (w1.alloc (.cells #[] 26)):=b_;replace HB:=c_ HB BA;clear BA;go_wp2_with fail
  go_ret2;rw[HV.o];exact⟨_,0,[],_,0,rfl,rfl,own_nil _ _ _,Row.empty _ _ _ _ _,HB.o⟩
 have HOK:=h_ hok;clear hok;by_cases h20:20<ls.length
 ·have HV:=h_ (show runA (os.map OV.d) ls=([],[])from if_neg (by rintro⟨_,h⟩;omega));have hd:decide ((20:Int)<(ls.length:Int))=true:=decide_eq_true (by omega);clear h20;have BA:Below w1.heap.size w1 (w1.alloc (.cells #[] 26)):=b_;replace HB:=c_ HB BA;clear BA;go_wp2_with fail
  go_ret2;rw[HV.o];exact⟨_,0,[],_,0,rfl,rfl,own_nil _ _ _,Row.empty _ _ _ _ _,HB.o⟩
 have hd:decide ((20:Int)<(ls.length:Int))=false:=decide_eq_false (by omega);have HV:=h_ (show runA (os.map OV.d) ls=runs (os.map OV.d) ls from if_pos ⟨HOK.o,by omega⟩);obtain⟨h4,hall⟩:=objs_all HOK.o;have HAL:=h_ (λo (ho:o∈os)=>valid_len (hall o ho));clear hall;go_wp2_with fail
 clear hd;refine(deskCopyS_any A os c w1 ((HR.o.below HB.o).more HB.o.size) HF.o.fits HN.o (λo ho=>by have:=HAL.o o ho;omega)).mono ?_;rintro e w2 ⟨A2,c2,qs,rfl,hqd,o2,b2⟩;have HQ:=h_ (show qs.map OV.d=(runs (os.map OV.d) (ls.take 0)).1 from hqd);have HC:=h_ (o2.down HB.o.size);replace HB:=c_ HB b2;clear b2;clear hqd o2;have HVD:=h_ (λk=>And.intro (runs_valid (ls.take k) HOK.o) (inD_runs (ls.take k) HZ.o));go_wp2_with fail
 go_loopw [6,7,8] (λav ov i wi=>∃(k:Nat) (A':Option Addr) (c':Nat) (xs:List OV) (B:Option Addr) (d:Nat),k<=ls.length/\ov=.slice A' xs.length c'/\av=.slice B k d/\i=.int .i64 k/\xs.map OV.d=(runs (os.map OV.d) (ls.take k)).1/\OwnOs wi w.heap.size A' c' xs/\Row wi w.heap.size 9 1 B k d (nmC ((runs (os.map OV.d) (ls.take k)).2.map bs))/\Below w.heap.size w wi) (λ_ _ i _=>ls.length-(intOf i).toNat)
 case atStart=>exact⟨0,A2,c2,qs,some ⟨w.heap.size,0,none⟩,0,Nat.zero_le _,rfl,rfl,rfl,HQ.o,HC.o,Row.empty _ _ _ _ _,HB.o⟩
 case round=>
  clear HQ HC HB;obtain⟨k,A',c',xs,B,d,hk,rfl,rfl,rfl,hxd,hox,hrow,hb⟩:=hrel;have HXD:=h_ hxd;have HOX:=h_ hox;have HRW:=h_ hrow;have HB:=h_ hb;by_cases hlt:k<ls.length
  ·obtain⟨b,off,hLA,hbb,hcell⟩:=(HL.o.below hb) k (.string (bs ls[k])) (by simp[nmC,hlt]);have HNX:=h_ (runs_take (l:=os.map OV.d) hlt);have HLX:=h_ (HS.o _ (List.getElem_mem hlt));have HVK:=h_ (HVD.o k);clear hxd hox hrow hb;subst hLA;generalize ls[k]=s at *;generalize runs (os.map OV.d) (ls.take k)=st at *;obtain⟨l,ts⟩:=st;simp only at HXD HRW HVK HNX;have a:=args_valid HOX.o (by rw[HXD.o];exact HVK.o.1.1) (by rw[HXD.o];exact HVK.o.2);have HDL:=h_ (deskLineS_any A' xs c' s wr HOX.o.rd a.l a.n a.z a.c HLX.o (HE.o.below HB.o));rw[HXD.o]at HDL;clear a;go_wp2_with fail
   clear hcell;refine HDL.o.mono ?_;clear HDL;rintro e w3 ⟨A9,c9,ys,rfl,hyd,oy,b3⟩;have HYD:=h_ hyd;have HOY:=h_ oy;have HBW:=h_ HB.o.size;have HRB:=h_ (λk hk=>(HRW.o.lt k hk).2);replace HB:=c_ HB b3;replace HRW:=h_ (HRW.o.call b3);clear b3;clear hyd oy HOX HXD;generalize hda:deskA l s=da at *;have HDA:=h_ hda;clear hda;obtain⟨l9,t9⟩:=da;simp only at HYD ⊢;have BA:Below w3.heap.size w3 (w3.alloc (.cells #[.string (bs t9)] 9)):=b_;have HRWa:=h_ (HRW.o.call BA);have HBa:=h_ (HB.o.trans (BA.mono HB.o.size));have HOYa:=h_ (HOY.o.call BA);have hk20:k<=20:=by omega
   clear BA HRW HB HOY;go_wp2_with (at_builtin;refine wpList_app (w3.alloc (.cells #[.string (bs t9)] 9)) rfl (.tmp 40) (.tmp 42) 28 rfl 9 i0 (.string ByteArray.empty) 1 16 Tryz.underlying28 HI.o.1 HI.o.2.1 HI.o.2.2.1 HI.o.2.2.2 rfl (by decide) w.heap.size B k d (nmC (ts.map bs)) rfl HRWa.o HBa.o.size (some ⟨w3.heap.size,0,none⟩) 1 1 [.string (bs t9)] rfl (rd_lit w3 #[.string (bs t9)] 9 _ rfl) rfl (λh=>by cases h) (by intro u hu;simp only[List.mem_cons,List.not_mem_nil,or_false]at hu;rcases hu with rfl;rfl) ?n1 ?n2 ?_)
   case n1=>unfold maxLen;omega
   case n2=>omega
   intro A5 n5 c5 w5 hn5 o5 g5 k5;subst hn5;have HR5:=h_ (show Row w5 w.heap.size 9 1 A5 (k+1) c5 (nmC ((runs (os.map OV.d) (ls.take (k+1))).2.map bs))from by
    rw[HNX.o];show Row w5 w.heap.size 9 1 A5 (k+1) c5 (nmC ((ts++[(deskA l s).2]).map bs))
    rw[HDA.o];simpa[nmC]using o5)
   have HO5:=h_ (show OwnOs w5 w.heap.size A9 c9 ys from(HOYa.o.keep (λj hj=>g5.block j (HOYa.o.lt j hj).2 (λe=>by
    have h1:=(HOYa.o.lt j hj).1;have h2:=HRB.o j e.symm;omega))).down HBW.o)
   have HB5:=h_ (HBa.o.grown g5 HBa.o.size (λj hj=>(HRWa.o.lt j hj).1));have HY5:=h_ (show ys.map OV.d=(runs (os.map OV.d) (ls.take (k+1))).1 from by
    rw[HNX.o];show _=(deskA l s).1
    rw[HDA.o];exact HYD.o)
   clear o5 g5 k5 HRWa HBa HOYa HNX HYD HDA HVK HRB;go_wp2_with fail
   refine⟨⟨k+1,A9,c9,ys,A5,c5,by omega,rfl,rfl,by go_num,HY5.o,HO5.o,HR5.o,HB5.o⟩,by simp[intOf];omega⟩
  ·obtain rfl:k=ls.length:=by omega
   rw[List.take_length]at hxd hrow;have HRE:=h_ (show RetRA (runA (os.map OV.d) ls) w (.returned (.tuple #[.slice A' xs.length c',.slice B ls.length d])) wr from by
    rw[HV.o];have hlen:(runs (os.map OV.d) ls).2.length=ls.length:=(runs_valid ls HOK.o).2;refine⟨A',c',xs,B,d,by rw[hlen],hxd,hox,?_,hb⟩;rw[hlen];exact hrow)
   clear hxd hox hrow hb HXD HOX HRW HB;go_wp2_with fail
   go_ret2;exact HRE.o
end CDeskRS
/- The walk of FnDeskRun. -/
namespace WFnDeskRun
open Kit CCode CFixups CSymbols PObj BObj PValid CObjValid CObject WObj BList CObjL CObjL2 CPlaceS CCopyS CValids CSorted CNames PLink PDump PDesk PDeskZ BDesk CHexS CDeskI CDeskS BDeskW BRetRA CDeskRI CDeskRS CStrRows DObject DDrawB DDrawD DDrawK CSameO CSameLs CAlive WFnDeskLine
theorem wpList_appG{P:Program}(w:World){ops:Array Oper}{rest:List Oper}{o:Oper}{a:Act}{Q:Exit->Act->World->Prop}(hgd:Region.wanted o (yielded ops a.tmps)=true)(s x:Operand)(t:TypeId)
  (ho:o.op=.call {callee:=.builtin .append,args:=#[s,x],argTypes:=#[t,t]})(e:TypeId)(i:TypeInfo)(z:Value)(size bytes:Nat)(ht:P.underlying t=some (.slice e))(hi:P.info? e=some i)(hz:i.zero=some z)
  (hsize:i.size=size)(hby:i.bytes=bytes)(hzs:z.cells.size=size)(hsz:0<size)(base:Nat)(A:Option Addr)(n c:Nat)(xs:List Value)(hs:a.eval s=.slice A n c)(hrow:Row w base e size A n c xs)(hbase:base<=w.heap.size)
  {B:Nat}(A2:Option Addr)(m c2:Nat)(news:List Value)(hx:a.eval x=.slice A2 m c2)(hrd:Rd w B A2 news)(hl:news.length=m*size)(hnil:A2=none->c2=0)(h1:∀u∈news,u.oneCell'=true)
  (h63:n+m<=maxLen)(hbytes:(n+m)*bytes<=140737488355328)
  (h:∀A' n' c' w',n'=n+m->Row w' base e size A' n' c' (xs++news)->w.grownBy w' (blk A c)->(∀k,blk A' c'=some k->blk A c=some k\/w.heap.size<=k)->wpList P ops Q rest (a.put o.dst (.slice A' n' c')) w'):
  wpList P ops Q (o::rest) a w:=
 wpList_step λK hK=>by rw[if_pos hgd];exact wp_app s x t ho e i z size bytes ht hi hz hsize hby hzs hsz base A n c xs hs hrow hbase A2 m c2 news hx hrd hl hnil h1 h63 hbytes λA' n' c' w' h1 h2 h3 h4=>hK _ _ (h A' n' c' w' h1 h2 h3 h4)
theorem map_bs(xs:List ByteArray):(xs.map nmL).map bs=xs:=by rw[List.map_map];exact List.map_id xs
theorem same_tx(A A':Option Addr)(ts:List (List UInt8))(c c' b b':Nat)(w:World)(hr:Row w b 9 1 A ts.length c (nmC (ts.map bs)))(hr':Row w b' 9 1 A' ts.length c' (nmC (ts.map bs)))(hm:ts.length<=100000):
  Calls Tryz.prog 10 #[.slice A ts.length c,.slice A' ts.length c'] w (Ret (.bool true) w):=by
 have h:=sameTexts_same A A' (ts.map bs) c c' w hr.rd hr'.rd (by rw[List.length_map];omega);rw[List.length_map]at h;exact h
set_option maxHeartbeats 8000000 in
theorem walk(A:Option Addr)(zs:List Int)(c:Nat)(hl:zs.length<=c)(hc:c<=maxLen)(hz:InR 0 255 zs)(w:World)(hr:Rd w w.heap.size A (ints .u8 zs))(he:Env w):
  Calls Tryz.prog 5 #[.slice A zs.length c] w (LawEnds w):=by
 obtain⟨i0,hi1,hi2,hi3,hi4⟩:=info_parts infoStr;have HI:=h_ (And.intro hi1 (And.intro hi2 (And.intro hi3 hi4)));clear hi1 hi2 hi3 hi4;have hcm:=hc;unfold maxLen at hcm;have HD:=h_ (draw_DrawDeskRun hr hz hl hc);have HE:=h_ he;clear hr hz hc he;by_cases hbig:1048576<zs.length
 ·go_enter Tryz.func5,Tryz.ntmps5
  go_wp2_with fail
  go_ret;exact⟨rfl,Below.refl _ _⟩
 go_enter Tryz.func5,Tryz.ntmps5
 go_wp2_with fail
 refine HD.o.mono ?_;rintro e w1 ⟨A1,c1,os,B,d,ts,rfl,h8,hsm,own1,h21,hts,hrow,⟨g,rfl⟩,b1⟩;have HAR:=h_ (small_args h8 hsm own1);have HO:=h_ own1;have HT:=h_ hrow;have HB:=h_ b1;clear hsm own1 hrow b1 HD hbig;obtain⟨ls,hls⟩:∃ls:List (List UInt8),ls=ts.map nmL:=⟨_,rfl⟩;have HLT:=h_ (show ls.map bs=ts from by rw[hls];exact map_bs ts);have HLL:=h_ (show ls.length=ts.length from by rw[hls,List.length_map]);have HLS:=h_ (show ∀x∈ls,x.length<=1048576 from λx hx=>by
  rw[hls]at hx;obtain⟨y,hy,rfl⟩:=List.mem_map.1 hx;have h:=hts y hy;rw[<-bs_size,bs_nm];omega)
 clear hls hts;have HIC:=h_ (show ∀(A:Option Addr) (qs:List OV) (c:Nat) (B:Option Addr) (ks:List (List UInt8)) (n d:Nat) (V:World),Below w.heap.size w V->RdOs V V.heap.size A qs->Fits qs->(∀o∈qs,Nils o)->(∀o∈qs,InD o.d)->qs.length<=c->Rd V V.heap.size B (nmC (ks.map bs))->(∀x∈ks,x∈ls)->ks.length=n->Calls Tryz.prog 22 #[.slice A qs.length c,.slice B n d] V (RetRA (runA (qs.map OV.d) ks) V)from λA qs c B ks n d V h1 h2 h3 h4 h5 h6 h7 h8 h9=>by
  subst h9;exact deskRun_any A qs c B ks d V h2 h3 h4 h5 h6 h7 (λx hx=>HLS.o x (h8 x hx)) (HE.o.below h1))
 have HSC:=h_ (deskRunS_any A1 os c1 (some ⟨g,0,none⟩) ls d);have HOK:=h_ (run_ok (os.map OV.d) ls);have hal:(runA (os.map OV.d) ls).2.length<=21:=by
  unfold runA;split
  ·rename_i h;rw[(runs_valid _ h.1).2];omega
  ·exact Nat.zero_le _
 generalize hr:runA (os.map OV.d) ls=r at *;have HR:=h_ hr;clear hr;have hr1:=HIC.o A1 os c1 (some ⟨g,0,none⟩) ls ts.length d w1 HB.o HO.o.rd HAR.o.1.fits HAR.o.2.1 HAR.o.2.2.1 HAR.o.2.2.2 (by rw[HLT.o];exact HT.o.rd) (λx hx=>hx) HLL.o;rw[HR.o]at hr1;have HC1:=h_ hr1;clear hr1;go_wp2_with fail
 refine HC1.o.mono ?_;clear HC1;rintro e w2 ⟨AX,cx,xs,BX,dx,rfl,hdx,ownx,rowx,b2⟩;have HX:=h_ ownx;have HXT:=h_ rowx;have HDX:=h_ hdx;replace HB:=c_ HB b2;replace HO:=h_ (HO.o.call b2);replace HT:=h_ (HT.o.call b2);clear b2;clear hdx ownx rowx;have hs2:=HSC.o w2 HO.o.rd HAR.o.1 HAR.o.2.1 HAR.o.2.2.1 HAR.o.2.2.2 (by rw[HLT.o];exact HT.o.rd) HLS.o (HE.o.below HB.o);rw[HLL.o]at hs2;have HC2:=h_ hs2;clear hs2 HSC;go_wp2_with fail
 refine HC2.o.mono ?_;clear HC2;rintro e w3 ⟨AY,cy,ys,BY,dy,rfl,hdy,owny,rowy,b3⟩;have HY:=h_ owny;have HYT:=h_ rowy;have HDY:=h_ hdy;replace HB:=c_ HB b3;replace HO:=h_ (HO.o.call b3);replace HT:=h_ (HT.o.call b3);replace HX:=h_ (HX.o.call b3);replace HXT:=h_ (HXT.o.call b3);clear b3;clear hdy owny rowy;obtain⟨ds,an⟩:=r;simp only at hal;simp only at HDX HDY HXT HYT HOK ⊢;have hxv:=valid_lims (os:=xs) (by rw[HDX.o];exact HOK.o);have hx4:=hxv.1;have HLX:=h_ (show ∀o∈xs,CSameO.Lim o from λo ho=>lim_of ((CJoinAI.objs_all (os:=xs) (by rw[HDX.o];exact HOK.o)).2 o ho));clear hxv;go_wp2_with fail
 refine(sameObjects_same AX AY xs ys cx cy w3 HX.o.rd HY.o.rd (by rw[HDX.o,HDY.o]) (by omega) HLX.o).mono ?_;rintro e w4 ⟨rfl,b4⟩;replace HB:=c_ HB b4;replace HO:=h_ (HO.o.call b4);replace HT:=h_ (HT.o.call b4);replace HX:=h_ (HX.o.call b4);replace HXT:=h_ (HXT.o.call b4);replace HYT:=h_ (HYT.o.call b4);clear b4;clear HY HDY;go_wp2_with fail
 refine(same_tx BX BY an dx dy _ _ w4 HXT.o HYT.o (by omega)).mono ?_;rintro e w5 ⟨rfl,b5⟩;replace HB:=c_ HB b5;replace HO:=h_ (HO.o.call b5);replace HT:=h_ (HT.o.call b5);replace HX:=h_ (HX.o.call b5);replace HXT:=h_ (HXT.o.call b5);clear b5;clear HYT;go_wp2_with fail
 refine(objectsValidS_any A1 os c1 w5 HO.o.rd HAR.o.1.fits).mono ?_;rintro e w6 ⟨rfl,b6⟩;replace HB:=c_ HB b6;replace HO:=h_ (HO.o.call b6);replace HT:=h_ (HT.o.call b6);replace HX:=h_ (HX.o.call b6);replace HXT:=h_ (HXT.o.call b6);clear b6;by_cases hgood:objsOk (os.map OV.d)=true/\ls.length<=20
 ·obtain⟨hok,h20⟩:=hgood;have HRR:=h_ (show runs (os.map OV.d) ls=(ds,an)from by
   rw[<-HR.o];unfold runA;rw[if_pos ⟨hok,h20⟩])
  have HOK1:=h_ hok;rw[HLL.o]at h20;have hd20:decide ((20:Int)<(ts.length:Int))=false:=decide_eq_false (by omega);obtain⟨h,hh,hhn⟩:∃h:Nat,(ts.length:Int)/2=(h:Int)/\h<=ts.length:=⟨ts.length/2,by omega,by omega⟩;have hdc:h<=d:=Nat.le_trans hhn HT.o.cap.1;have hdt:ts.length<=d:=HT.o.cap.1;rw[hok];clear hok HR;have HRD:=h_ (λV (hV:Below w6.heap.size w6 V)=>(show Rd V V.heap.size (some ⟨g,0,none⟩) (nmC ((ls.take h).map bs))from by
   have q:=((HT.o.rd.below hV).more hV.size);intro i u hi;refine q i u ?_;rw[<-HLT.o];simp only[nmC,List.map_take]at hi ⊢;rw[List.getElem?_take]at hi;split at hi
   ·exact hi
   ·cases hi))
  have HRD2:=h_ (λV (hV:Below w6.heap.size w6 V)=>(show Rd V V.heap.size (if d=h then some ⟨g,0,none⟩else some ⟨g,h,none⟩) (nmC ((ls.drop h).map bs))from by
   have q:=CInsS.rd_tail1 (j:=h) ((HT.o.rd.below hV).more hV.size) (by simp[nmC]) hdt;rw[<-HLT.o]at q;simpa only[nmC,List.map_drop]using q))
  have HB6:=h_ (Below.refl w6.heap.size w6);have HC3:=h_ (HIC.o A1 os c1 (some ⟨g,0,none⟩) (ls.take h) h d w6 HB.o HO.o.rd HAR.o.1.fits HAR.o.2.1 HAR.o.2.2.1 HAR.o.2.2.2 (HRD.o w6 HB6.o) (λx hx=>List.mem_of_mem_take hx) (by rw[List.length_take,HLL.o];omega));rw[show runA (os.map OV.d) (ls.take h)=runs (os.map OV.d) (ls.take h)from if_pos ⟨HOK1.o,by rw[List.length_take,HLL.o];omega⟩]at HC3;have HVA:=h_ (runs_valid (ls.take h) HOK1.o);have HIA:=h_ (inD_runs (ls.take h) (l:=os.map OV.d) (λe he=>by
   obtain⟨o,ho,rfl⟩:=List.mem_map.1 he;exact HAR.o.2.2.1 o ho))
  have HAPP:=h_ (show(ds,an)=((runs (runs (os.map OV.d) (ls.take h)).1 (ls.drop h)).1,(runs (os.map OV.d) (ls.take h)).2++(runs (runs (os.map OV.d) (ls.take h)).1 (ls.drop h)).2)from by rw[<-HRR.o,<-runs_app,List.take_append_drop]);have HLA:=h_ (show an.length=ts.length from by
   have q:=(runs_valid ls HOK1.o).2;rw[HRR.o,HLL.o]at q;exact q)
  generalize runs (os.map OV.d) (ls.take h)=ra at *;obtain⟨d1,t1⟩:=ra;simp only at HVA HIA HAPP;go_wp2_with fail
  refine HC3.o.mono ?_;clear HC3;rintro e w7 ⟨AA,ca,ao,BA,da,rfl,hda,owna,rowa,b7⟩;have HAO:=h_ owna;have HAT:=h_ rowa;have HDA:=h_ hda;replace HB6:=h_ (HB6.o.trans (b7.mono HB6.o.size));replace HB:=c_ HB b7;replace HO:=h_ (HO.o.call b7);replace HT:=h_ (HT.o.call b7);replace HX:=h_ (HX.o.call b7);replace HXT:=h_ (HXT.o.call b7);clear b7;clear hda owna rowa;simp only at HDA HAT ⊢;have hav:=args_valid HAO.o (by rw[HDA.o];exact HVA.o.1) (by rw[HDA.o];exact HIA.o);have HC4:=h_ (HIC.o AA ao ca (if d=h then some ⟨g,0,none⟩else some ⟨g,h,none⟩) (ls.drop h) (ts.length-h) (d-h) w7 HB.o HAO.o.rd hav.l.fits hav.n hav.z hav.c (HRD2.o w7 HB6.o) (λx hx=>List.mem_of_mem_drop hx) (by rw[List.length_drop,HLL.o]));rw[HDA.o,show runA d1 (ls.drop h)=runs d1 (ls.drop h)from if_pos ⟨HVA.o.1,by rw[List.length_drop,HLL.o];omega⟩]at HC4;have HVB:=h_ (runs_valid (ls.drop h) HVA.o.1);generalize runs d1 (ls.drop h)=rb at *;obtain⟨d2,t2⟩:=rb;simp only at HVB HAPP;have hap:=HAPP.o;simp only[Prod.mk.injEq]at hap;obtain⟨hap1,hap2⟩:=hap;have HA1:=h_ hap1;have HA2:=h_ hap2;clear hav hap1 hap2 HAPP HRD HRD2
  go_upto_region 12 with fail
  go_cut [12,13]from 74 to 81 (λv1 v2 wx=>∃(AB:Option Addr) (cb:Nat) (bo:List OV) (BB:Option Addr) (db:Nat),v1=.slice AB bo.length cb/\v2=.slice BB t2.length db/\bo.map OV.d=d2/\OwnOs wx w7.heap.size AB cb bo/\Row wx w7.heap.size 9 1 BB t2.length db (nmC (t2.map bs))/\Below w7.heap.size w7 wx)
  case first=>
   by_cases hdh:d=h
   ·have hq1:=eq_true hdh;have e1:=HC4.o;rw[if_pos hdh]at e1;have HE1:=h_ e1;clear e1 HC4 hdh;go_wp2_with fail
    refine HE1.o.mono ?_;rintro e w8 ⟨AB,cb,bo,BB,db,rfl,hdb,ownb,rowb,b8⟩;have HF:=h_ (And.intro hdb (And.intro ownb (And.intro rowb b8)));clear hdb ownb rowb b8 HE1;go_wp2_with fail
    go_meet
    exact⟨AB,cb,bo,BB,db,rfl,rfl,HF.o.1,HF.o.2.1,HF.o.2.2.1,HF.o.2.2.2⟩
   ·have e1:=HC4.o;rw[if_neg hdh]at e1;have HE1:=h_ e1;have hq1:=eq_false hdh;clear e1 HC4 hdh;go_wp2_with fail
    refine HE1.o.mono ?_;rintro e w8 ⟨AB,cb,bo,BB,db,rfl,hdb,ownb,rowb,b8⟩;have HF:=h_ (And.intro hdb (And.intro ownb (And.intro rowb b8)));clear hdb ownb rowb b8 HE1;go_wp2_with fail
    go_meet
    exact⟨AB,cb,bo,BB,db,rfl,rfl,HF.o.1,HF.o.2.1,HF.o.2.2.1,HF.o.2.2.2⟩
  case rest=>
  rename World=>w8
  obtain⟨AB,cb,bo,BB,db,rfl,rfl,hdb,ownb,rowb,b8⟩:=hcut;have HBO:=h_ ownb;have HBT:=h_ rowb;have HDB:=h_ hdb;replace HB:=c_ HB b8;replace HX:=h_ (HX.o.call b8);replace HXT:=h_ (HXT.o.call b8);replace HAT:=h_ (HAT.o.call b8);clear b8;clear hdb ownb rowb HC4;have HLB:=h_ (show ∀o∈bo,CSameO.Lim o from λo ho=>lim_of ((CJoinAI.objs_all (os:=bo) (by rw[HDB.o];exact HVB.o.1)).2 o ho));have hb4:=(valid_lims (os:=bo) (by rw[HDB.o];exact HVB.o.1)).1;go_wp2_with fail
  refine(sameObjects_same AB AX bo xs cb cx w8 HBO.o.rd HX.o.rd (by rw[HDX.o,HDB.o,HA1.o]) (by omega) HLB.o).mono ?_;rintro e w9 ⟨rfl,b9⟩;replace HB:=c_ HB b9;replace HXT:=h_ (HXT.o.call b9);replace HAT:=h_ (HAT.o.call b9);replace HBT:=h_ (HBT.o.call b9);clear b9;clear HBO HX HLB;have hla:an.length=t1.length+t2.length:=by rw[HA2.o,List.length_append]
  have hl1:t1.length<=21:=by omega
  have hl2:t2.length<=21:=by omega
  have HLA3:=h_ hla;clear hla;have HS8:=h_ HB.o.size;have BA0:Below w9.heap.size w9 (w9.alloc (.cells #[] 9)):=b_;have HXL:=h_ (λk hk=>(HXT.o.lt k hk).2);have HXTa:=h_ (HXT.o.call BA0);have HATa:=h_ (HAT.o.call BA0);have HBTa:=h_ (HBT.o.call BA0);have HBa:=h_ (HB.o.trans (BA0.mono HB.o.size));clear BA0 HXT HAT HBT HB;go_wp2_with (at_builtin;go_loud (refine wpList_appG (w9.alloc (.cells #[] 9)) (by rfl) (.tmp 86) (.tmp 87) 28 rfl 9 i0 (.string ByteArray.empty) 1 16 Tryz.underlying28 HI.o.1 HI.o.2.1 HI.o.2.2.1 HI.o.2.2.2 rfl (by decide) w9.heap.size (some ⟨w9.heap.size,0,none⟩) 0 0 [] rfl (Row.empty _ _ _ _ _) (by simp) BA t1.length da (nmC (t1.map bs)) rfl HATa.o.rd (by simp[nmC]) HATa.o.nil (CInsS.one_nm _) ?n1 ?n2 ?_))
  case n1=>unfold maxLen;omega
  case n2=>omega
  intro A5 n5 c5 w10 hn5 o5 g5 k5;have hn5':n5=t1.length:=by omega
  clear hn5;subst hn5';have HR5:=h_ (show Row w10 w9.heap.size 9 1 A5 t1.length c5 (nmC (t1.map bs))from by simpa using o5);have B10:Below (w9.alloc (.cells #[] 9)).heap.size (w9.alloc (.cells #[] 9)) w10:=below_tr (Below.refl _ _) g5;have HXTb:=h_ (HXTa.o.call B10);have HBTb:=h_ (HBTa.o.call B10);have HBb:=h_ (HBa.o.trans (B10.mono HBa.o.size));have HS9:=h_ (show w9.heap.size<=w10.heap.size from Nat.le_trans (by simp) B10.size);clear o5 g5 k5 B10 HXTa HATa HBTa HBa;have hs10:w9.heap.size<=w10.heap.size:=HS9.o;go_wp2_with (at_builtin;go_loud (refine wpList_appG w10 (by rfl) (.tmp 88) (.tmp 89) 28 rfl 9 i0 (.string ByteArray.empty) 1 16 Tryz.underlying28 HI.o.1 HI.o.2.1 HI.o.2.2.1 HI.o.2.2.2 rfl (by decide) w9.heap.size A5 t1.length c5 (nmC (t1.map bs)) rfl HR5.o hs10 BB t2.length db (nmC (t2.map bs)) rfl HBTb.o.rd (by simp[nmC]) HBTb.o.nil (CInsS.one_nm _) ?n1 ?n2 ?_))
  case n1=>unfold maxLen;omega
  case n2=>omega
  intro A6 n6 c6 w11 hn6 o6 g6 k6;have hn6':n6=an.length:=by have:=HLA3.o;omega
  clear hn6;subst hn6';have HR6:=h_ (show Row w11 w9.heap.size 9 1 A6 an.length c6 (nmC (an.map bs))from by
   rw[HA2.o]at o6 ⊢;rw[List.map_append,nmC,List.map_append];exact o6)
  have HXT6:=h_ (HXTb.o.grown g6 (λj hj e=>by
   have h1:=HXL.o j hj;have h2:=(HR5.o.lt j e).1;have h3:=(HR5.o.lt j e).2;omega))
  have HB6':=h_ (HBb.o.grown g6 HBb.o.size (λj hj=>Nat.le_trans (by have:=HS8.o;exact this) (HR5.o.lt j hj).1));clear o6 g6 k6 hs10;go_wp2_with fail
  refine(same_tx A6 BX an c6 dx _ _ w11 HR6.o HXT6.o (by omega)).mono ?_;rintro e w12 ⟨rfl,b12⟩;replace HB6':=h_ (HB6'.o.trans (b12.mono HB6'.o.size));clear b12;have hll2:((an.length:Int)==(ts.length:Int))=true:=by rw[HLA.o];simp
  go_wp2_with fail
  go_ret;exact⟨rfl,HB6'.o⟩
 ·have HV0:=h_ (show(ds,an)=(([]:List OD),([]:List (List UInt8)))from by
   rw[<-HR.o];unfold runA;rw[if_neg hgood])
  have hv:=HV0.o;simp only[Prod.mk.injEq]at hv;obtain⟨hv1,hv2⟩:=hv;have hx0:xs=[]:=by
   have h3:=HDX.o;rw[hv1]at h3;simpa using h3
  clear hv1 HV0 HDX HX HXT HLX HIC HR HOK;subst hx0 hv2;by_cases hok:objsOk (os.map OV.d)=true
  ·have h20:20<ls.length:=by
    rcases Nat.lt_or_ge 20 ls.length with q|q
    ·exact q
    ·exact absurd ⟨hok,q⟩ hgood
   rw[HLL.o]at h20;have hd20:decide ((20:Int)<(ts.length:Int))=true:=decide_eq_true (by omega);rw[hok];clear hok hgood;go_wp2_with fail
   refine(alive_any _).mono ?_;rintro e w' ⟨rfl,rfl⟩;go_wp2_with fail
   go_ret;exact⟨rfl,HB.o⟩
  ·rw[show objsOk (os.map OV.d)=false from by simpa using hok];clear hok hgood;go_wp2_with fail
   refine(alive_any _).mono ?_;rintro e w' ⟨rfl,rfl⟩;go_wp2_with fail
   go_ret;exact⟨rfl,HB.o⟩
end WFnDeskRun
end Go.Proofs.YtepoiphmmjfbdaaGreatDoor
