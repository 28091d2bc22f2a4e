/- An object that grows: a fixup is put behind the last section's last. -/
import Derived.Test.YtepoiphmmjfbdaaGreatDoorFnDeskRunM8
import Derived.Laws.OwnMore
set_option linter.unusedSimpArgs false
set_option linter.unusedVariables false
set_option maxRecDepth 200000
open Go.ChangeShapes Go.WideShapes Go.ChangeAt Go.RowKit
namespace Go.Proofs.YtepoiphmmjfbdaaGreatDoor
namespace BObj3
open Kit CFixups CSymbols PObj BObj CMarkRows BObj2 BStore
theorem sec_set(ps:List SV)(p:SV)(F':Option Addr)(n' c':Nat)(fs':List FD)(hn:n'=fs'.length):
  (cellsOf secC (ps++[p])).set (ps.length*6+5) (.slice F' n' c')=cellsOf secC (ps++[{p with F:=F',fs:=fs',fc:=c'}]):=by
 subst hn;have hl:(cellsOf secC ps).length=ps.length*6:=cellsOf_len secC_len ps;rw[cells_snoc,cells_snoc,List.set_append_right _ _ (by rw[hl];omega),hl,Nat.add_sub_cancel_left]
 rfl
theorem secF_cell{w:World}{base:Nat}{o:OV}{ps:List SV}{p:SV}(h:OwnO w base o)(hps:o.ps=ps++[p]):
  ∃b,o.A=some ⟨b,0,none⟩/\base<=b/\b<w.heap.size/\oblk o b/\w.cell? ⟨b,ps.length*6+5,none⟩=some (.slice p.F p.fs.length p.fc):=by
 have hlen:o.ps.length=ps.length+1:=by rw[hps];simp
 obtain⟨b,hA,hb0,hb1,hbk,hown⟩:=own_of h.1.1 (by omega);have hcl:(cellsOf secC ps).length=ps.length*6:=cellsOf_len secC_len ps;have hcell:=World.ownsRow.cellAt hown (ps.length*6+5) (by omega);have hget:(cellsOf secC o.ps)[ps.length*6+5]?=some (.slice p.F p.fs.length p.fc):=by
  rw[hps,cells_snoc,List.getElem?_append_right (by rw[hcl];omega),hcl,Nat.add_sub_cancel_left]
  rfl
 rw[hget]at hcell;exact⟨b,hA,hb0,hb1,.inl (.inl hbk),hcell⟩
theorem addF_own{w w':World}{base:Nat}{o:OV}{ps:List SV}{p:SV}{f:FD}(h:OwnO w base o)(hps:o.ps=ps++[p]){F':Option Addr}{n' c':Nat}(hn:n'=p.fs.length+1)
  (row:Row w' base 65 4 F' n' c' (cellsOf fixupC p.fs++fixupC f))(g:w.grownBy w' (blk p.F p.fc))(hk:∀k,blk F' c'=some k->blk p.F p.fc=some k\/w.heap.size<=k):
  ∃b,o.A=some ⟨b,0,none⟩/\base<=b/\w'.cell? ⟨b,ps.length*6+5,none⟩=some (.slice p.F p.fs.length p.fc)/\w'.frozen? ⟨b,ps.length*6+5,none⟩=false∧
   OwnO (w'.setCell ⟨b,ps.length*6+5,none⟩ (.slice F' n' c')) base {o with ps:=ps++[{p with F:=F',fs:=p.fs++[f],fc:=c'}]}/\(∀k,oblk {o with ps:=ps++[{p with F:=F',fs:=p.fs++[f],fc:=c'}]} k->oblk o k\/w.heap.size<=k):=by
 have hp:p∈o.ps:=by rw[hps];simp
 have hrow:Row w' base 61 6 o.A o.ps.length o.c (cellsOf secC o.ps):=h.1.1.grown g (λk hk'=>apartT h.1.1 (h.1.2.1 p hp).2 (by decide) k hk');have hlen:o.ps.length=ps.length+1:=by rw[hps];simp
 obtain⟨b,hA,hb0,hb1,hbk,hown⟩:=own_of hrow (by omega);have hcl:(cellsOf secC ps).length=ps.length*6:=cellsOf_len secC_len ps;have hget:(cellsOf secC o.ps)[ps.length*6+5]?=some (.slice p.F p.fs.length p.fc):=by
  rw[hps,cells_snoc,List.getElem?_append_right (by rw[hcl];omega),hcl,Nat.add_sub_cancel_left]
  rfl
 have hbox:∃cs,Box w' b 61 cs:=box_of_own hown;obtain⟨cs,hbox⟩:=hbox;have hYn:∀k,blk o.Y o.yc=some k->k≠b:=by have hY:Row w' base 67 4 o.Y o.ys.length o.yc (cellsOf symbolC o.ys):=h.2.grown g (λk hk'=>apartT h.2 (h.1.2.1 p hp).2 (by decide) k hk');exact hY.box hbox (by decide)
 have hrw:∀q∈o.ps,Row w' base 5 1 q.A q.zs.length q.c (ints .u8 q.zs):=λq hq=>(h.1.2.1 q hq).1.grown g (λk hk'=>apartT (h.1.2.1 q hq).1 (h.1.2.1 p hp).2 (by decide) k hk');have hpw:=h.1.2.2;rw[hps]at hpw;have hpw':=List.pairwise_append.1 hpw;have hrf:∀q∈ps,Row w' base 65 4 q.F q.fs.length q.fc (cellsOf fixupC q.fs):=λq hq=>(h.1.2.1 q (by rw[hps];simp[hq])).2.grown g (λk hk' e=>(hpw'.2.2 q hq p (by simp)).2 k hk' e);have hs:∀(q:SV),RwS w' base q->RwS (w'.setCell ⟨b,ps.length*6+5,none⟩ (.slice F' n' c')) base q:=λq hq=>hq.set (a:=⟨b,ps.length*6+5,none⟩) (hq.box hbox (by decide) (by decide)) _;have hcell:=World.ownsRow.cellAt hown (ps.length*6+5) (by omega);have hq:RwS w' base {p with F:=F',fs:=p.fs++[f],fc:=c'}:=by
  refine⟨hrw p hp,?_⟩;show Row w' base _ 4 F' (p.fs++[f]).length c' (cellsOf fixupC (p.fs++[f]))
  rw[List.length_append,show cellsOf fixupC (p.fs++[f])=cellsOf fixupC p.fs++fixupC f by simp[cellsOf]];subst hn;exact row
 refine⟨b,hA,hb0,?_,World.ownsRow.frozenAt hown _,⟨⟨?_,?_,?_⟩,?_⟩,?_⟩
 ·have:=hcell;rw[hget]at this;exact this
 ·have hst:=(World.ownsRow.stored hown (ps.length*6+5) (.slice F' n' c')).1;have e:(cellsOf secC o.ps).set (ps.length*6+5) (.slice F' n' c')=cellsOf secC (ps++[{p with F:=F',fs:=p.fs++[f],fc:=c'}]):=by rw[hps];exact sec_set ps p F' n' c' (p.fs++[f]) (by rw[hn];simp)
  rw[e]at hst;show Row _ base _ 6 o.A (ps++[_]).length o.c _
  rw[hA,List.length_append];rw[hlen]at hst;exact .inr hst
 ·intro q hq';rcases List.mem_append.1 hq' with hq'|hq'
  ·exact hs q ⟨hrw q (by rw[hps];simp[hq']),hrf q hq'⟩
  ·obtain rfl:=List.mem_singleton.1 hq';exact hs _ hq
 ·refine List.pairwise_append.2 ⟨hpw'.1,List.pairwise_singleton _ _,λa ha c hc=>?_⟩;obtain rfl:=List.mem_singleton.1 hc;have hap:=hpw'.2.2 a ha p (by simp);refine⟨hap.1,λk hka hkf=>?_⟩;rcases hk k hkf with h1|h1
  ·exact hap.2 k hka h1
  ·have:=((h.1.2.1 a (by rw[hps];simp[ha])).2.lt k hka).2;omega
 ·have hY:Row w' base 67 4 o.Y o.ys.length o.yc (cellsOf symbolC o.ys):=h.2.grown g (λk hk'=>apartT h.2 (h.1.2.1 p hp).2 (by decide) k hk');exact hY.set (a:=⟨b,ps.length*6+5,none⟩) hYn _
 ·rintro k ((h1|⟨q,hq',h1⟩)|h1)
  ·exact .inl (.inl (.inl h1))
  ·rcases List.mem_append.1 hq' with hq'|hq'
   ·exact .inl (.inl (.inr ⟨q,by rw[hps];simp[hq'],h1⟩))
   ·obtain rfl:=List.mem_singleton.1 hq';rcases h1 with h1|h1
    ·exact .inl (.inl (.inr ⟨p,hp,.inl h1⟩))
    ·rcases hk k h1 with h2|h2
     ·exact .inl (.inl (.inr ⟨p,hp,.inr h2⟩))
     ·exact .inr h2
  ·exact .inl (.inr h1)
end BObj3
/- slices.Delete(words,1,2) of five own words. -/
namespace CDelI
open Kit CNumTxt PNum PDump CHexI CHexS CSorted CNames CWordsS BStore BDesk
theorem enc_bs(ws:List (List UInt8)):nmC (ws.map bs)=ws.map encStr:=by
 rw[strs_enc];congr 1
 unfold bytesOf;rw[List.map_map];have:(λx:List UInt8=>x)=id:=rfl;simp[Function.comp_def,bs]
theorem delete_any(ws:List (List UInt8))(h5:ws.length=5)(A:Option Addr)(c:Nat)(W w:World)(h:Row w W.heap.size 9 1 A 5 c (nmC (ws.map bs)))(hb:Below W.heap.size W w)(hc:c<=9223372036854775807):
  Calls Tryz.prog 146 #[.slice A 5 c,.int .i64 1,.int .i64 2] w λe w'=>e=.returned (.slice A 4 c)/\Row w' W.heap.size 9 1 A 4 c (nmC ((ws.take 1++ws.drop 2).map bs))/\Below W.heap.size W w':=by
 obtain⟨g,rfl,hb1,hb2,_,hown⟩:=own_of h (by omega);have hcap:=h.cap.1;rw[enc_bs]at hown;obtain⟨g',cap,hv,_,_,_,_,hl,hH⟩:=Lib.holds_of_ownsRow hown (by intro e;cases e);injection hv with e1 _ e3;simp only[Option.some.injEq,Addr.mk.injEq,and_true]at e1;subst e1 e3;have hC:=XDesk.slices_Delete_string g 0 c 1 2 ws w hH (by omega) hc (by omega) (by omega);rw[h5]at hC;refine hC.mono ?_;rintro e w' ⟨rfl,q,rfl⟩;have ho:=Lib.ownsRow_putRow (q:=q) (k:=4) (ys:=ws.take 1++ws.drop 2++List.replicate (2-1) []) hown (by simp;omega) (by omega);rw[List.take_left' (by simp;omega)]at ho;refine⟨rfl,?_,Lib.below_putRow hb hb1⟩;rw[enc_bs];exact .inr ho
end CDelI
/- readLine: a line into an object; the program's. -/
namespace CReadI
open Kit CCode CName CFixups CSymbols PObj BObj PValid PClear CNumTxt PNum PDump CHexI CHexS CSorted CNames CWordsS BStore BDesk CApFix CNumsI CUnhexI BMap CDelI CMarkRows BObj2 BObj3
structure Held(w:World)(base g:Nat)(o:OV):Prop where
 box:Box w g 26 #[.slice o.A o.ps.length o.c,.slice o.Y o.ys.length o.yc]
 own:OwnO w base o
 ne:∀k,oblk o k->k≠g
def LineP(base g:Nat)(r:Option OD)(w:World)(e:Ending)(w':World):Prop:=∃b,e=.returned (.bool b)/\Below base w w'/\match r with
 |none=>b=false
 |some d=>b=true/\∃o:OV,o.d=d/\Held w' base g o
def WordsP(ws:List (List UInt8))(hx:List UInt8)(base:Nat)(W:World)(v5 v6:Value)(w:World):Prop:=
 ∃A c,v5=.slice A ws.length c/\v6=.string (bs hx)/\Row w base 9 1 A ws.length c (nmC (ws.map bs))/\Below W.heap.size W w
theorem bs_list(x:List UInt8):(bs x).toList=x:=by rw[ByteArray.toList_eq];simp[bs]
theorem Rd.strAt {w:World}{B b off:Nat}{ws:List (List UInt8)}(h:Rd w B (some ⟨b,off,none⟩) (nmC (ws.map bs))){k:Nat}(hk:k<ws.length):w.cell? ⟨b,off+k,none⟩=some (.string (bs (ws.getD k []))):=by
 obtain⟨b',off',h1,_,h3⟩:=Rd.str h hk;injection h1 with h1;injection h1 with h1 h2;subst h1;subst h2;rw[h3,List.getD_eq_getElem?_getD,List.getElem?_eq_getElem hk]
 rfl
theorem sec_eq{x:List UInt8}(h:x=secW):((bs x).toList==[115,101,99,116,105,111,110])=true:=by
 rw[bs_list,h]
 rfl
theorem sec_ne{x:List UInt8}(h:¬x=secW):((bs x).toList==[115,101,99,116,105,111,110])=false:=by rw[bs_list];exact beq_eq_false_iff_ne.2 h
theorem take_bd(ws:List (List UInt8))(n:Nat)(h0:0<ws.length)(h:∀x∈ws,x.length<=n):0<(takeHex ws).1.length/\(takeHex ws).1.length<=ws.length/\(∀i,((takeHex ws).1.getD i []).length<=n)/\(takeHex ws).2.length<=n:=by
 have hg:∀i,(ws.getD i []).length<=n:=λi=>by
  rw[List.getD_eq_getElem?_getD];by_cases hi:i<ws.length
  ·rw[List.getElem?_eq_getElem hi];exact h _ (List.getElem_mem hi)
  ·rw[List.getElem?_eq_none (by omega)];simp
 unfold takeHex;split
 ·refine⟨by simp only[List.length_take];omega,by simp only[List.length_take];omega,λi=>?_,hg 5⟩;simp only;rw[List.getD_eq_getElem?_getD];by_cases hi:i<(ws.take 5).length
  ·rw[List.getElem?_eq_getElem hi];exact h _ (List.mem_of_mem_take (List.getElem_mem hi))
  ·rw[List.getElem?_eq_none (by omega)];simp
 ·exact⟨h0,Nat.le_refl _,hg,by simp⟩
theorem many_pos{x:List UInt8}(h:0<many x):many x=5/\(x=secW\/x=fixW\/x=symW):=by
 unfold many at *;split at h
 ·rename_i hx;rw[if_pos hx];exact⟨rfl,hx⟩
 ·omega
theorem fix_eq{x:List UInt8}(h:x=fixW):((bs x).toList==[102,105,120,117,112])=true:=by
 rw[bs_list,h]
 rfl
theorem fix_ne{x:List UInt8}(h:¬x=fixW):((bs x).toList==[102,105,120,117,112])=false:=by rw[bs_list];exact beq_eq_false_iff_ne.2 h
theorem sym_eq{x:List UInt8}(h:x=symW):((bs x).toList==[115,121,109,98,111,108])=true:=by
 rw[bs_list,h]
 rfl
theorem one_fx(f:FD):∀u∈fixupC f,u.oneCell'=true:=by
 intro u hu;simp only[fixupC,List.mem_cons,List.not_mem_nil,or_false]at hu;rcases hu with rfl|rfl|rfl|rfl<;>rfl
theorem one_sy(y:YD):∀u∈symbolC y,u.oneCell'=true:=by
 intro u hu;simp only[symbolC,List.mem_cons,List.not_mem_nil,or_false]at hu;rcases hu with rfl|rfl|rfl|rfl<;>rfl
theorem one_six{a:ByteArray}{b c e:Int}{A B:Option Addr}{n m p q:Nat}:∀u∈[Value.string a,.int .i64 b,.int .i64 c,.slice A n m,.int .i64 e,.slice B p q],u.oneCell'=true:=by
 intro u hu;simp only[List.mem_cons,List.not_mem_nil,or_false]at hu;rcases hu with rfl|rfl|rfl|rfl|rfl|rfl<;>rfl
theorem nums_len:∀{ws:List (List UInt8)} {ns:List Int},nums ws=some ns->ns.length=ws.length
 |[],ns,h=>by
  injection h with h;subst h
  rfl
 |x::ws,ns,h=>by
  rw[nums]at h;split at h
  ·cases hr:nums ws with
   |none=>rw[hr]at h;cases h
   |some zs=>rw[hr]at h;injection h with h;subst h;simp only[List.length_cons,nums_len hr]
  ·cases h
theorem four_of{ns:List Int}(h:ns.length=4):∃a b c d,ns=[a,b,c,d]:=by
 match ns,h with
 |[a,b,c,d],_=>exact⟨a,b,c,d,rfl⟩
theorem five_of{ns:List (List UInt8)}(h:ns.length=5):∃a b c d e,ns=[a,b,c,d,e]:=by
 match ns,h with
 |[a,b,c,d,e],_=>exact⟨a,b,c,d,e,rfl⟩
theorem three_of{ns:List Int}(h:ns.length=3):∃a b c,ns=[a,b,c]:=by
 match ns,h with
 |[a,b,c],_=>exact⟨a,b,c,rfl⟩
theorem Rd.intAt {w:World}{B b off:Nat}{k:IntKind}{zs:List Int}(h:Rd w B (some ⟨b,off,none⟩) (ints k zs)){i:Nat}(hi:i<zs.length):w.cell? ⟨b,off+i,none⟩=some (.int k zs[i]):=by obtain⟨b',off',h1,_,h3⟩:=Rd.int h hi;injection h1 with h1;injection h1 with h1 h2;subst h1;subst h2;exact h3
theorem Rd.drop {w:World}{B b off k:Nat}{ws:List (List UInt8)}(h:Rd w B (some ⟨b,off,none⟩) (nmC (ws.map bs))):Rd w B (some ⟨b,off+k,none⟩) (nmC ((ws.drop k).map bs)):=by
 intro i u hu;have e:nmC ((ws.drop k).map bs)=(nmC (ws.map bs)).drop k:=by simp[nmC]
 rw[e,List.getElem?_drop]at hu;obtain⟨b',off',h1,h2,h3⟩:=h (k+i) u hu;injection h1 with h1;injection h1 with h1 h1';subst h1;subst h1';exact⟨b,off+k,rfl,h2,by rw[Nat.add_assoc];exact h3⟩
set_option maxHeartbeats 40000000 in
theorem readLine_any(g base:Nat)(o:OV)(s:ByteArray)(w:World)(hh:Held w base g o)(hgb:base<=g)(hbw:base<=w.heap.size)(hs:s.size<=1048576)(he:Env w)
  (hn1:o.ps.length<=4000000)(hn2:o.ys.length<=4000000)(hn3:∀p∈o.ps,p.fs.length<=4000000):
  Calls Tryz.prog 93 #[.pointer (some ⟨g,0,none⟩),.string s] w (LineP base g (stepI o.d s.data.toList) w):=by
 obtain⟨i0,hi1,hi2,hi3,hi4⟩:=info_parts infoStr;have HI:=h_ (And.intro hi1 (And.intro hi2 (And.intro hi3 hi4)));clear hi1 hi2 hi3 hi4;obtain⟨j0,hj1,hj2,hj3,hj4⟩:=info_parts CFixups.info;have HJ:=h_ (And.intro hj1 (And.intro hj2 (And.intro hj3 hj4)));clear hj1 hj2 hj3 hj4;obtain⟨k0,hk1,hk2,hk3,hk4⟩:=info_parts CSymbols.info;have HK:=h_ (And.intro hk1 (And.intro hk2 (And.intro hk3 hk4)));clear hk1 hk2 hk3 hk4;obtain⟨q9,hqs1,hqs2,hqs3,hqs4⟩:=info_parts BObj.info;have HQS:=h_ (And.intro hqs1 (And.intro hqs2 (And.intro hqs3 hqs4)));clear hqs1 hqs2 hqs3 hqs4;have HH:=h_ hh;have HE:=h_ he;have HN3:=h_ hn3;clear hh he hn3;have hws:=(splt_len (32:UInt8) s.data.toList);have hwm:=splt_mem (32:UInt8) s.data.toList;have HWS:=h_ (And.intro hws hwm);have hsz:s.data.toList.length=s.size:=by rw[Array.length_toList];rfl
 have HSI:=h_ (show stepI o.d s.data.toList=wordI o.d (takeHex (splt 32 s.data.toList)).1 (takeHex (splt 32 s.data.toList)).2 from rfl);have HSP:=h_ (λV hV=>split_any (32:UInt8) s hs V hV);go_enter Tryz.func93,Tryz.ntmps93
 go_wp2_with fail
 refine(HSP.o w HE.o).mono ?_;rintro e w1 ⟨A,c,rfl,hrow,hb⟩;rw[List.length_map]at *;have hl1:=hws.1;have hl2:=hws.2;rw[hsz]at hl2 hwm;clear hws HWS HSP hsz;generalize splt (32:UInt8) s.data.toList=ws at *;have HW:=h_ hrow;have HB:=h_ hb;clear hrow hb;have hw0:0<ws.length:=by omega
 obtain⟨b,off,rfl,hbb,hc⟩:=Rd.str HW.o.rd hw0;simp only[Nat.add_zero]at hc
 go_upto_region 2 with fail
 go_cut [25]from 17 to 24 (λv wx=>v=.bool (decide (ws.getD 0 []=secW/\ws.length=6))/\wx=w1)
 case first=>
  have hx:ws.getD 0 []=ws[0]:=by rw[List.getD_eq_getElem?_getD,List.getElem?_eq_getElem hw0];rfl
  by_cases e1:ws[0]=secW
  ·have hq:=sec_eq e1;by_cases h6:ws.length=6
   ·have hq6:((ws.length:Int)==6)=true:=by rw[h6];rfl
    have HD:=h_ (show decide (ws.getD 0 []=secW/\ws.length=6)=true from decide_eq_true ⟨hx.trans e1,h6⟩);clear e1 h6 hx;go_wp2_with fail
    go_meet
    exact⟨by rw[HD.o],rfl⟩
   ·have hq6:((ws.length:Int)==6)=false:=beq_eq_false_iff_ne.2 (by omega);have HD:=h_ (show decide (ws.getD 0 []=secW/\ws.length=6)=false from decide_eq_false (λh=>h6 h.2));clear e1 h6 hx;go_wp2_with fail
    go_meet
    exact⟨by rw[HD.o],rfl⟩
  ·have hq:=sec_ne e1;have HD:=h_ (show decide (ws.getD 0 []=secW/\ws.length=6)=false from decide_eq_false (λh=>e1 (hx.symm.trans h.1)));clear e1 hx;go_wp2_with fail
   go_meet
   exact⟨by rw[HD.o],rfl⟩
 case rest=>
  obtain⟨rfl,rfl⟩:=hcut;go_upto_if 25 with(fail)
  go_cut [5,6]from 25 to 30 (λv5 v6 wx=>WordsP (takeHex ws).1 (takeHex ws).2 w.heap.size w v5 v6 wx)
  case first=>
   by_cases e1:ws.getD 0 []=secW/\ws.length=6
   ·rw[decide_eq_true e1];have HT:=h_ (show takeHex ws=(ws.take 5,ws.getD 5 [])from if_pos e1);have h6:=e1.2;clear e1;have hc5:=Rd.strAt HW.o.rd (show 5<ws.length by omega);have hcap:=HW.o.cap.1;have HP:=h_ (HW.o.prefix (k:=5) (by omega));go_wp2_with fail
    go_quiet (fail)
    have HPD:=h_ (HP.o.drewN nq);have HBD:=h_ (Kit.Below.drewN HB.o nq);go_wp2_with fail
    go_meet
    rw[HT.o];have hlt:(ws.take 5).length=5:=by rw[List.length_take];omega
    have hnc:List.take (5*1) (nmC (List.map bs ws))=nmC ((ws.take 5).map bs):=by simp[nmC]
    refine⟨some ⟨b,off,none⟩,c,by rw[hlt],?_,?_,HBD.o⟩
    ·simp[List.getD_eq_getElem?_getD,List.getElem?_eq_getElem (show 5<ws.length by omega)]
    ·have h:=HPD.o;rw[hnc]at h;rw[hlt];exact h
   ·rw[decide_eq_false e1];have HT:=h_ (show takeHex ws=(ws,[])from if_neg e1);clear e1;go_wp2_with fail
    go_meet
    rw[HT.o];exact⟨_,_,rfl,rfl,HW.o,HB.o⟩
  case rest=>
   have HXB:=h_ (take_bd ws s.size hw0 hwm);clear hwm hl1 hw0 HW HB hbb hc;generalize hth:takeHex ws=T at *;obtain⟨xs,hx⟩:=T;clear hth;simp only at HSI hcut HXB;obtain⟨A1,c1,rfl,rfl,hrow,hb⟩:=hcut;have HW:=h_ hrow;have HB:=h_ hb;clear hrow hb;have hx0:0<xs.length:=HXB.o.1;have hx6:xs.length<=1048577:=Nat.le_trans HXB.o.2.1 (by omega);have hw1:(xs.getD 0 []).length<=maxLen:=by have:=HXB.o.2.2.1 0;unfold maxLen;omega
   obtain⟨m1,m2,m3,r1,r2,r3,r4,bm⟩:=three wc (xs.getD 0 []) hw1;have hmm:=@run_makeMap Tryz.prog;replace HB:=c_ HB bm;replace HW:=h_ (HW.o.call bm);clear bm;obtain⟨b1,off1,rfl,hbb1,-⟩:=Rd.str HW.o.rd hx0;have hc0:=Rd.strAt HW.o.rd hx0;simp only[Nat.add_zero]at hc0;have HWI:=h_ (show wordI o.d xs hx=if xs.length≠many (xs.getD 0 [])then none else if xs.getD 0 []=fixW then(nums (xs.drop 1)).bind λns=>addF o.d (mkF ns)else(nums (xs.drop 2)).bind λns=>if xs.getD 0 []=secW then(unhex hx).map λzs=>addS o.d (mkSI (xs.getD 1 []) ns zs)else some (addY o.d (mkY (xs.getD 1 []) ns))from rfl);generalize hx0e:xs.getD 0 []=x0 at *;have HXE:=h_ hx0e;clear hx0e;by_cases hm:xs.length=many x0
   ·have hmi:((xs.length:Int)==(many x0:Int))=true:=beq_iff_eq.2 (by omega);obtain⟨h5,hx3⟩:=many_pos (show 0<many x0 by omega);have hl5:xs.length=5:=by omega
    have HN:=h_ (λ(V:World) (hE:Env V) (ys:List (List UInt8)) (A:Option Addr) (c:Nat) (hr:Rd V V.heap.size A (nmC (ys.map bs))) (hy:ys.length<=5) (hl:∀x∈ys,x.length<=1048576)=>numbersOf_any A ys c V hr (by omega) hl hE);clear hm hmi;have HX0:=h_ hx3;by_cases hfx:x0=fixW
    ·have hq:=fix_eq hfx;have hq2:=sec_ne (show ¬x0=secW from by rw[hfx];decide);have HD1:=h_ (Rd.drop (k:=1) HW.o.rd);have hcap:=HW.o.cap.1;have HFX:=h_ hfx;clear hfx hx3;go_wp2_with fail
     have hd4:(xs.drop 1).length=4:=by rw[List.length_drop,hl5]
     have HC:=h_ (HN.o m3 (HE.o.below HB.o) (xs.drop 1) (some ⟨b1,off1+1,none⟩) (c1-1) HD1.o (by omega) (λx hx=>by
      have:=HXB.o.2.2.1;obtain⟨i,hi,rfl⟩:=List.getElem_of_mem hx;have h2:=this (1+i);rw[List.getElem_drop];rw[List.getD_eq_getElem?_getD,List.getElem?_eq_getElem (by rw[List.length_drop]at hi;omega)]at h2;simp only[Option.getD_some]at h2;omega))
     rw[hd4]at HC;refine HC.o.mono ?_;rintro e w4 ⟨A3,c3,n3,rfl,b4,hrow4⟩;clear HC r1 r2 r3 r4 hmm;clear hc0;replace HB:=c_ HB b4;replace HW:=h_ (HW.o.call b4);clear b4;have hc0:=Rd.strAt HW.o.rd hx0;rw[HXE.o]at hc0;simp only[Nat.add_zero]at hc0;cases hns:nums (xs.drop 1)with
     |none=>
      have HV:=h_ (show stepI o.d s.data.toList=none from by rw[HSI.o,HWI.o,if_neg (by omega),if_pos HFX.o,hns];rfl);clear hns hrow4;go_wp2_with fail
      go_ret;exact⟨false,rfl,HB.o.mono hbw,by rw[HV.o]⟩
     |some ns=>
      obtain⟨rfl,hrow4⟩:=hrow4 ns hns;have hnl:ns.length=4:=by rw[nums_len hns,hd4]
      obtain⟨a1,a2,a3,a4,rfl⟩:=four_of hnl;have HNS:=h_ hns;have HR:=h_ hrow4;clear hns hrow4 hnl;obtain⟨b3,off3,rfl,-,-⟩:=Rd.int HR.o.rd (i:=0) (by simp);have HX:=h_ (HH.o.box.call HB.o);have HO:=h_ (HH.o.own.call HB.o);have x0:=d_ HX.o 0;have hxl:=HX.o.lt;rcases List.eq_nil_or_concat o.ps with hps|⟨qs,p,hps⟩
      ·have hl0:o.ps.length=0:=by rw[hps];rfl
       have HV:=h_ (show stepI o.d s.data.toList=none from by
        rw[HSI.o,HWI.o,if_neg (by omega),if_pos HFX.o,HNS.o];show addF o.d _=none
        unfold addF;rw[show o.d.ss=[]from by simp[OV.d,hps]]
        rfl)
       clear hps;go_wp2_with fail
       go_ret;exact⟨false,rfl,HB.o.mono hbw,by rw[HV.o]⟩
      ·rw[List.concat_eq_append]at hps;have hlen:o.ps.length=qs.length+1:=by rw[hps];simp
       have HPS:=h_ hps;have hi0:=Rd.intAt HR.o.rd (i:=0) (by simp);have hi1:=Rd.intAt HR.o.rd (i:=1) (by simp);have hi2:=Rd.intAt HR.o.rd (i:=2) (by simp);have hi3:=Rd.intAt HR.o.rd (i:=3) (by simp);simp only[List.getElem_cons_zero,List.getElem_cons_succ,Nat.add_zero]at hi0 hi1 hi2 hi3;have hl1:(((qs.length+1:Nat):Int)-1)=(qs.length:Int):=by omega
       have hwr:IntKind.i64.wrap ((qs.length:Int))=qs.length:=IntWalk.i64_in _ (by omega);obtain⟨bA,hA,hbA0,hbA1,hbo,hcF⟩:=secF_cell HO.o hps;clear hps;go_wp2_with fail
       have hgA:bA≠g:=HH.o.ne bA hbo;have HA:=h_ hA;rw[hA]at x0;clear hA hbo;have hfl:p.fs.length<=4000000:=HN3.o p (by rw[HPS.o];simp);have HRF:=h_ (HO.o.1.2.1 p (by rw[HPS.o];simp)).2;have HBB:=h_ (HB.o.mono hbw);have hll:((qs.length:Nat):Int)<(qs.length:Int)+1:=by omega
       have hlt:((qs.length:Nat):Int)<(o.ps.length:Int):=by omega
       have hlt2:qs.length<o.ps.length:=by omega
       refine Reg.startT (λW=>W.cell? ⟨g,0,none⟩=some (.slice (some ⟨bA,0,none⟩) o.ps.length o.c)/\W.cell? ⟨bA,qs.length*6+5,none⟩=some (.slice p.F p.fs.length p.fc)/\W.cell? ⟨b3,off3,none⟩=some (.int .i64 a1)/\W.cell? ⟨b3,off3+1,none⟩=some (.int .i64 a2)/\W.cell? ⟨b3,off3+2,none⟩=some (.int .i64 a3)/\W.cell? ⟨b3,off3+3,none⟩=some (.int .i64 a4)) (λj=>j==30) (by kernel_rfl) ?_;have hHeld:=And.intro x0 (And.intro hcF (And.intro hi0 (And.intro hi1 (And.intro hi2 hi3))));refine t_ 0 rfl ?_;refine t_ 1 rfl ?_;refine t_ 2 rfl ?_;refine t_ 3 rfl ?_;refine t_ 4 rfl ?_;refine t_ 5 rfl ?_;refine t_ 6 rfl ?_;refine t_ 7 rfl ?_;refine t_ 8 rfl ?_;refine t_ 9 rfl ?_;refine t_ 10 rfl ?_;refine t_ 11 rfl ?_;refine t_ 12 rfl ?_;refine t_ 13 rfl ?_;refine t_ 14 rfl ?_;refine t_ 15 rfl ?_;refine t_ 16 rfl ?_;refine t_ 17 rfl ?_;refine t_ 18 rfl ?_;refine t_ 19 rfl ?_;refine t_ 20 rfl ?_;refine t_ 21 rfl ?_;refine t_ 22 rfl ?_;refine t_ 23 rfl ?_;refine t_ 24 rfl ?_;refine t_ 25 rfl ?_;refine Reg.oneT (i:=26) rfl (by kernel_rfl) (λK hK=>?_);go_simp
       have BA:Below w4.heap.size w4 ((w4.alloc (.cells #[.int .i64 a1,.int .i64 a2,.int .i64 a3,.int .i64 a4] 65)).drew):=b_;have HLT:=h_ (show Rd ((w4.alloc (.cells #[.int .i64 a1,.int .i64 a2,.int .i64 a3,.int .i64 a4] 65)).drew) (w4.heap.size+1) (some ⟨w4.heap.size,0,none⟩) (fixupC (a1,a2,a3,a4))from rd_lit w4 #[.int .i64 a1,.int .i64 a2,.int .i64 a3,.int .i64 a4] 65 _ rfl);have hbw4:base<=w4.heap.size:=Nat.le_trans hbw HB.o.size;have HBB5:=h_ (HBB.o.trans (BA.mono hbw4));have hcc:=bcell BA;have hHeld:((w4.alloc (.cells #[.int .i64 a1,.int .i64 a2,.int .i64 a3,.int .i64 a4] 65)).drew).cell? ⟨g,0,none⟩=some (.slice (some ⟨bA,0,none⟩) o.ps.length o.c)/\((w4.alloc (.cells #[.int .i64 a1,.int .i64 a2,.int .i64 a3,.int .i64 a4] 65)).drew).cell? ⟨bA,qs.length*6+5,none⟩=some (.slice p.F p.fs.length p.fc)/\((w4.alloc (.cells #[.int .i64 a1,.int .i64 a2,.int .i64 a3,.int .i64 a4] 65)).drew).cell? ⟨b3,off3,none⟩=some (.int .i64 a1)/\((w4.alloc (.cells #[.int .i64 a1,.int .i64 a2,.int .i64 a3,.int .i64 a4] 65)).drew).cell? ⟨b3,off3+1,none⟩=some (.int .i64 a2)/\((w4.alloc (.cells #[.int .i64 a1,.int .i64 a2,.int .i64 a3,.int .i64 a4] 65)).drew).cell? ⟨b3,off3+2,none⟩=some (.int .i64 a3)/\((w4.alloc (.cells #[.int .i64 a1,.int .i64 a2,.int .i64 a3,.int .i64 a4] 65)).drew).cell? ⟨b3,off3+3,none⟩=some (.int .i64 a4):=by
        have hb3:b3<w4.heap.size:=World.block_lt_of_cell? _ _ hi0;refine⟨?_,?_,?_,?_,?_,?_⟩
        ·rw[hcc.1 _ _ hxl];exact x0
        ·rw[hcc.1 _ _ hbA1];exact hcF
        ·rw[hcc.1 _ _ hb3];exact hi0
        ·rw[hcc.1 _ _ hb3];exact hi1
        ·rw[hcc.1 _ _ hb3];exact hi2
        ·rw[hcc.1 _ _ hb3];exact hi3
       replace HX:=h_ (HX.o.call BA);replace HO:=h_ (HO.o.call BA);replace HRF:=h_ (HRF.o.call BA);have hs5:=BA.size;replace HR:=h_ (HR.o.call BA);clear x0 hcF hi0 hi1 hi2 hi3 hcc BA HBB HB HW hc0;generalize (w4.alloc (.cells #[.int .i64 a1,.int .i64 a2,.int .i64 a3,.int .i64 a4] 65)).drew=w5 at *;refine hK.out _ _ hHeld ?_;clear hK K;try simp only[y1_,y2_,y3_,Act.put,y4_,y5_,y6_]
       refine Reg.oneT (i:=27) rfl (by kernel_rfl) (λK hK=>?_);refine step_app (by rfl) _ _ 59 rfl 65 j0 (.agg #[.int .i64 0,.int .i64 0,.int .i64 0,.int .i64 0]) 4 32 Tryz.underlying59 HJ.o.1 HJ.o.2.1 HJ.o.2.2.1 HJ.o.2.2.2 rfl (by decide) base p.F p.fs.length p.fc (cellsOf fixupC p.fs) (by rfl) HRF.o (by omega) _ 1 1 (fixupC (a1,a2,a3,a4)) (by rfl) HLT.o rfl (λh=>by cases h) (one_fx _) ?n1 ?n2 ?_
       case n1=>unfold maxLen;omega
       case n2=>omega
       intro A9 n9 c9 wz hn9 o9 g9 k9;subst hn9;obtain⟨bB,hAB,_,hcz,hfz,HO9,hne9⟩:=addF_own HO.o HPS.o rfl o9 g9 k9;obtain rfl:bB=bA:=by have h:=hAB.symm.trans HA.o;injection h with h;injection h
       have HX9:=h_ (HX.o.grown g9 (HRF.o.box HX.o (by decide)));have HR9:=h_ (HR.o.grown g9 (λk hk=>apartT HR.o HRF.o (by decide) k hk));have HB9:=h_ (HBB5.o.grown g9 (by omega) (λj hj=>(HRF.o.lt j hj).1));have hHeld:wz.cell? ⟨g,0,none⟩=some (.slice (some ⟨bB,0,none⟩) o.ps.length o.c)/\wz.cell? ⟨bB,qs.length*6+5,none⟩=some (.slice p.F p.fs.length p.fc)/\wz.cell? ⟨b3,off3,none⟩=some (.int .i64 a1)/\wz.cell? ⟨b3,off3+1,none⟩=some (.int .i64 a2)/\wz.cell? ⟨b3,off3+2,none⟩=some (.int .i64 a3)/\wz.cell? ⟨b3,off3+3,none⟩=some (.int .i64 a4):=by have hx:=HX9.o.cell 0;simp only[List.getElem?_toArray,List.getElem?_cons_zero]at hx;rw[HA.o]at hx;have hi0:=Rd.intAt HR9.o.rd (i:=0) (by simp);have hi1:=Rd.intAt HR9.o.rd (i:=1) (by simp);have hi2:=Rd.intAt HR9.o.rd (i:=2) (by simp);have hi3:=Rd.intAt HR9.o.rd (i:=3) (by simp);exact⟨hx,hcz,hi0,hi1,hi2,hi3⟩
       refine hK.out _ _ hHeld ?_;clear hK K o9 g9 k9 HX HR HO HRF HBB5 HLT;try simp only[y1_,y2_,y3_,Act.put,y4_,y5_,y6_]
       refine Reg.oneT (i:=28) rfl (by kernel_rfl) (λK hK=>?_);go_simp
       refine hK.out _ _ hHeld ?_;clear hK K;try simp only[y1_,y2_,y3_,Act.put,y4_,y5_,y6_]
       refine t_ 29 rfl ?_;refine Reg.lastT (i:=30) rfl (by kernel_rfl) (by rfl) (λK hK=>?_);go_simp
       refine hK.out _ _ ?_;clear hK K;try simp only[y1_,y2_,y3_,Act.put,y4_,y5_,y6_]
       refine Reg.doneT (by kernel_rfl) ?_ _;clear hHeld hcz hfz HR9 hAB;have HV:=h_ (show stepI o.d s.data.toList=some ({o with ps:=qs++[{p with F:=A9,fs:=p.fs++[(a1,a2,a3,a4)],fc:=c9}]}:OV).d from by
        rw[HSI.o,HWI.o,if_neg (by omega),if_pos HFX.o,HNS.o];show addF o.d (a1,a2,a3,a4)=_
        rw[show o.d=⟨qs.map SV.d++[p.d],o.ys⟩from by simp[OV.d,HPS.o],addF_last];simp[OV.d,SV.d])
       have HXZ:=h_ (HX9.o.far (p:=⟨bB,qs.length*6+5,none⟩) (Ne.symm hgA) (.slice A9 (p.fs.length+1) c9));have HBZ:=h_ (HB9.o.setCell (p:=⟨bB,qs.length*6+5,none⟩) hbA0 (.slice A9 (p.fs.length+1) c9));have HOZ:=h_ HO9;clear HO9 HX9 HB9;generalize wz.setCell ⟨bB,qs.length*6+5,none⟩ (.slice A9 (p.fs.length+1) c9)=wf at *;go_wp2_with fail
       go_ret;refine⟨true,rfl,HBZ.o,?_⟩;rw[HV.o];refine⟨rfl,_,rfl,⟨?_,HOZ.o,λk hk=>?_⟩⟩
       ·have h:=HXZ.o;rw[hlen]at h;show Box wf g _ #[.slice o.A (qs++[_]).length o.c,.slice o.Y o.ys.length o.yc]
        rw[List.length_append];exact h
       ·rcases hne9 k hk with h1|h1
        ·exact HH.o.ne k h1
        ·omega
    ·have hq:=fix_ne hfx;have HFX:=h_ hfx;have hcap:5<=c1:=by rw[<-hl5];exact HW.o.cap.1
     have hc1:=Rd.strAt HW.o.rd (show 1<xs.length by omega);generalize hx1e:xs.getD 1 []=x1 at *;have HX1:=h_ hx1e;have HD:=h_ (delete_any xs hl5 (some ⟨b1,off1,none⟩) c1 w m3 (by rw[<-hl5];exact HW.o) HB.o (by have:=HW.o.cap.2;unfold maxLen at this;omega));clear hfx hx3 hx1e;go_wp2_with fail
     refine HD.o.mono ?_;rintro e w4 ⟨rfl,hrow4,hb4⟩;have hy:(xs.take 1++xs.drop 2).length=4:=by simp;omega
     have hy0:(xs.take 1++xs.drop 2).getD 0 []=x0:=by have h:=HXE.o;obtain⟨z0,z1,z2,z3,z4,rfl⟩:=five_of hl5;exact h
     have hyd:(xs.take 1++xs.drop 2).drop 1=xs.drop 2:=by
      obtain⟨z0,z1,z2,z3,z4,rfl⟩:=five_of hl5
      rfl
     have HW4:=h_ hrow4;have HB4:=h_ hb4;have hc4:=Rd.strAt hrow4.rd (show 0<(xs.take 1++xs.drop 2).length by omega);rw[hy0,Nat.add_zero]at hc4;have HD4:=h_ (Rd.drop (k:=1) hrow4.rd);rw[hyd]at HD4;have hd3:(xs.drop 2).length=3:=by rw[List.length_drop,hl5]
     have HC:=h_ (HN.o w4 (HE.o.below HB4.o) (xs.drop 2) (some ⟨b1,off1+1,none⟩) (c1-1) HD4.o (by omega) (λx hx=>by
      have:=HXB.o.2.2.1;obtain⟨i,hi,rfl⟩:=List.getElem_of_mem hx;have h2:=this (2+i);rw[List.getElem_drop];rw[List.getD_eq_getElem?_getD,List.getElem?_eq_getElem (by rw[List.length_drop]at hi;omega)]at h2;simp only[Option.getD_some]at h2;omega))
     rw[hd3]at HC;clear hrow4 hb4 HD hc0 hc1 HW HB hmm r1 r2 r3 r4 hy0 hyd;go_wp2_with fail
     refine HC.o.mono ?_;rintro e w5 ⟨A3,c3,n3,rfl,b5,hrow5⟩;clear HC hc4;replace HB4:=h_ (HB4.o.trans (b5.mono HB4.o.size));replace HW4:=h_ (HW4.o.call b5);clear b5;have hc0:=Rd.strAt HW4.o.rd (show 0<(xs.take 1++xs.drop 2).length by omega);rw[show(xs.take 1++xs.drop 2).getD 0 []=x0 from by
      have h:=HXE.o;obtain⟨z0,z1,z2,z3,z4,rfl⟩:=five_of hl5;exact h,Nat.add_zero]at hc0
     cases hns:nums (xs.drop 2)with
     |none=>
      have HV:=h_ (show stepI o.d s.data.toList=none from by rw[HSI.o,HWI.o,if_neg (by omega),if_neg HFX.o,hns];rfl);clear hns hrow5;go_wp2_with fail
      go_ret;exact⟨false,rfl,HB4.o.mono hbw,by rw[HV.o]⟩
     |some ns=>
      obtain⟨rfl,hrow5⟩:=hrow5 ns hns;have hnl:ns.length=3:=by rw[nums_len hns,hd3]
      obtain⟨a1,a2,a3,rfl⟩:=three_of hnl;have HNS:=h_ hns;have HR:=h_ hrow5;clear hns hrow5 hnl;obtain⟨b3,off3,rfl,-,-⟩:=Rd.int HR.o.rd (i:=0) (by simp);have HX:=h_ (HH.o.box.call HB4.o);have HO:=h_ (HH.o.own.call HB4.o);have x0_:=d_ HX.o 0;have x1_:=d_ HX.o 1;have hxl:=HX.o.lt;have hi0:=Rd.intAt HR.o.rd (i:=0) (by simp);have hi1:=Rd.intAt HR.o.rd (i:=1) (by simp);have hi2:=Rd.intAt HR.o.rd (i:=2) (by simp);simp only[List.getElem_cons_zero,List.getElem_cons_succ,Nat.add_zero]at hi0 hi1 hi2;by_cases hsec:x0=secW
      ·have hq2:=sec_eq hsec;have HSEC:=h_ hsec;have HHX:=h_ (readHex_any (bs hx) (by rw[bs_size];have:=HXB.o.2.2.2;omega) w5);rw[show(bs hx).data.toList=hx from by simp[bs]]at HHX;clear hsec;go_wp2_with fail
       refine HHX.o.mono ?_;rintro e w6 ⟨A6,c6,n6,rfl,b6,h6⟩;clear HHX x0_ x1_ hi0 hi1 hi2 hc0 hxl;have H6:=h_ h6;have HN6:=h_ b6;clear h6;have HOLD:=h_ (λp (hp:p∈o.ps) k (hk:sblk p k)=>(show k<w5.heap.size from((HO.o.1.2.1 p hp).lt k hk).2));have HB5:=h_ (show w.heap.size<=w5.heap.size from HB4.o.size);have HG5:=h_ (show g<w5.heap.size from HX.o.lt);replace HB4:=h_ (HB4.o.trans (b6.mono HB4.o.size));replace HR:=h_ (HR.o.call b6);replace HX:=h_ (HX.o.call b6);replace HO:=h_ (HO.o.call b6);clear b6;have hi0:=Rd.intAt HR.o.rd (i:=0) (by simp);have hi1:=Rd.intAt HR.o.rd (i:=1) (by simp);have hi2:=Rd.intAt HR.o.rd (i:=2) (by simp);simp only[List.getElem_cons_zero,List.getElem_cons_succ,Nat.add_zero]at hi0 hi1 hi2;go_wp2_with fail
       refine Reg.startT (λW=>W.cell? ⟨b3,off3,none⟩=some (.int .i64 a1)/\W.cell? ⟨b3,off3+1,none⟩=some (.int .i64 a2)) (λ_=>false) (by kernel_rfl) ?_;have hHeld:=And.intro hi0 hi1;refine t_ 0 rfl ?_;refine t_ 1 rfl ?_;refine t_ 2 rfl ?_;refine t_ 3 rfl ?_;refine t_ 4 rfl ?_;refine t_ 5 rfl ?_;refine t_ 6 rfl ?_;refine t_ 7 rfl ?_;refine t_ 8 rfl ?_;refine Reg.oneT (i:=9) rfl (by kernel_rfl) (λK hK=>?_);go_simp
       have BA:Below w6.heap.size w6 ((w6.alloc (.cells #[.string ⟨#[]⟩,.int .i64 0,.int .i64 0,.slice none 0 0,.int .i64 0,.slice none 0 0] 61)).drew):=b_;have HV6:=h_ (show Box ((w6.alloc (.cells #[.string ⟨#[]⟩,.int .i64 0,.int .i64 0,.slice none 0 0,.int .i64 0,.slice none 0 0] 61)).drew) w6.heap.size 61 #[.string ⟨#[]⟩,.int .i64 0,.int .i64 0,.slice none 0 0,.int .i64 0,.slice none 0 0]from Box.new w6 61 #[.string ⟨#[]⟩,.int .i64 0,.int .i64 0,.slice none 0 0,.int .i64 0,.slice none 0 0]);have hcc:=bcell BA;have hHeld:((w6.alloc (.cells #[.string ⟨#[]⟩,.int .i64 0,.int .i64 0,.slice none 0 0,.int .i64 0,.slice none 0 0] 61)).drew).cell? ⟨b3,off3,none⟩=some (.int .i64 a1)/\((w6.alloc (.cells #[.string ⟨#[]⟩,.int .i64 0,.int .i64 0,.slice none 0 0,.int .i64 0,.slice none 0 0] 61)).drew).cell? ⟨b3,off3+1,none⟩=some (.int .i64 a2):=by
        have hb3:b3<w6.heap.size:=World.block_lt_of_cell? _ _ hi0;refine⟨?_,?_⟩
        ·rw[hcc.1 _ _ hb3];exact hi0
        ·rw[hcc.1 _ _ hb3];exact hi1
       have hb3:b3<w6.heap.size:=World.block_lt_of_cell? _ _ hi0;have HBA:=h_ BA;clear hcc hi0 hi1 hi2 BA;generalize (w6.alloc (.cells #[.string ⟨#[]⟩,.int .i64 0,.int .i64 0,.slice none 0 0,.int .i64 0,.slice none 0 0] 61)).drew=w7 at *;generalize hVV:w6.heap.size=V at *;refine hK.out _ _ hHeld ?_;clear hK K;try simp only[y1_,y2_,y3_,Act.put,y4_,y5_,y6_]
       have v0:=d_ HV6.o 0;have v1:=d_ HV6.o 1;have v2:=d_ HV6.o 2;have v3:=d_ HV6.o 3;have v4:=d_ HV6.o 4;have v5:=d_ HV6.o 5;have z0:=HV6.o.frozen 0;have z1:=HV6.o.frozen 1;have z2:=HV6.o.frozen 2;have z3:=HV6.o.frozen 3;have z4:=HV6.o.frozen 4;have z5:=HV6.o.frozen 5;have hvl:=HV6.o.lt;refine Reg.oneT (i:=10) rfl (by kernel_rfl) (λK hK=>?_);go_simp
       have B7:Below V w7 ((((((w7.setCell ⟨V,0,none⟩ (.string (bs x1))).setCell ⟨V,1,none⟩ (.int .i64 a1)).setCell ⟨V,2,none⟩ (.int .i64 a2)).setCell ⟨V,3,none⟩ (.slice A6 n6 c6)).setCell ⟨V,4,none⟩ (.int .i64 0)).setCell ⟨V,5,none⟩ (.slice none 0 0)):=put6_below (i:=0) (Below.refl _ _) (Nat.le_refl _);have HVB:=h_ (show Box ((((((w7.setCell ⟨V,0,none⟩ (.string (bs x1))).setCell ⟨V,1,none⟩ (.int .i64 a1)).setCell ⟨V,2,none⟩ (.int .i64 a2)).setCell ⟨V,3,none⟩ (.slice A6 n6 c6)).setCell ⟨V,4,none⟩ (.int .i64 0)).setCell ⟨V,5,none⟩ (.slice none 0 0)) V 61 #[.string (bs x1),.int .i64 a1,.int .i64 a2,.slice A6 n6 c6,.int .i64 0,.slice none 0 0]from put6_box HV6.o (v0:=.string (bs x1)) (v1:=.int .i64 a1) (v2:=.int .i64 a2) (v3:=.slice A6 n6 c6) (v4:=.int .i64 0) (v5:=.slice none 0 0));have hHeld2:((((((w7.setCell ⟨V,0,none⟩ (.string (bs x1))).setCell ⟨V,1,none⟩ (.int .i64 a1)).setCell ⟨V,2,none⟩ (.int .i64 a2)).setCell ⟨V,3,none⟩ (.slice A6 n6 c6)).setCell ⟨V,4,none⟩ (.int .i64 0)).setCell ⟨V,5,none⟩ (.slice none 0 0)).cell? ⟨b3,off3,none⟩=some (.int .i64 a1)/\((((((w7.setCell ⟨V,0,none⟩ (.string (bs x1))).setCell ⟨V,1,none⟩ (.int .i64 a1)).setCell ⟨V,2,none⟩ (.int .i64 a2)).setCell ⟨V,3,none⟩ (.slice A6 n6 c6)).setCell ⟨V,4,none⟩ (.int .i64 0)).setCell ⟨V,5,none⟩ (.slice none 0 0)).cell? ⟨b3,off3+1,none⟩=some (.int .i64 a2):=⟨(B7.cell (p:=⟨b3,off3,none⟩) hb3).trans hHeld.1,(B7.cell (p:=⟨b3,off3+1,none⟩) hb3).trans hHeld.2⟩;refine hK.out _ _ hHeld2 ?_;clear hK K;try simp only[y1_,y2_,y3_,Act.put,y4_,y5_,y6_]
       refine Reg.doneT (by kernel_rfl) ?_ _;have BT:=HBA.o.trans B7;have hi2:=Rd.intAt HR.o.rd (i:=2) (by simp);simp only[List.getElem_cons_zero,List.getElem_cons_succ,Nat.add_zero]at hi2;replace hi2:=(BT.cell (p:=⟨b3,off3+2,none⟩) hb3).trans hi2;have HBT:=h_ BT;clear BT B7 HBA hHeld hHeld2 v0 v1 v2 v3 v4 v5 z0 z1 z2 z3 z4 z5 hvl HV6;generalize ((((((w7.setCell ⟨V,0,none⟩ (.string (bs x1))).setCell ⟨V,1,none⟩ (.int .i64 a1)).setCell ⟨V,2,none⟩ (.int .i64 a2)).setCell ⟨V,3,none⟩ (.slice A6 n6 c6)).setCell ⟨V,4,none⟩ (.int .i64 0)).setCell ⟨V,5,none⟩ (.slice none 0 0))=w8 at *;have v1:=d_ HVB.o 1;have v4:=d_ HVB.o 4;have z4:=HVB.o.frozen 4;have hvl:=HVB.o.lt;have HVV:=h_ hVV;clear hVV;go_upto_if 79 with(fail)
       go_cut []from 77 to 83 (λwx=>Below V w6 wx/\Box wx V 61 #[.string (bs x1),.int .i64 a1,.int .i64 a2,.slice A6 n6 c6,.int .i64 (blankSz a1 a3),.slice none 0 0])
       case first=>
        by_cases h3:a1=3
        ·have hq:(a1==3)=true:=beq_iff_eq.2 h3;have HSZ:=h_ (show blankSz a1 a3=a3 from if_pos h3);have HV9:=h_ (HVB.o.set 4 (.int .i64 a3));have HB9:=h_ (HBT.o.setCell (p:=⟨V,4,none⟩) (Nat.le_refl _) (.int .i64 a3));clear h3;go_wp2_with fail
         go_meet
         rw[HSZ.o];exact⟨HB9.o,HV9.o⟩
        ·have hq:(a1==3)=false:=beq_eq_false_iff_ne.2 h3;have HSZ:=h_ (show blankSz a1 a3=0 from if_neg h3);clear h3;go_wp2_with fail
         go_meet
         rw[HSZ.o];exact⟨HBT.o,HVB.o⟩
       case rest=>
        rename World=>w9
        clear v1 v4 z4 hvl HVB HBT hi2;obtain⟨bt,hvb⟩:=hcut;generalize hsz:blankSz a1 a3=sz at *;have HSZ:=h_ hsz;have HVB:=h_ hvb;have bt':Below w6.heap.size w6 w9:=by rw[HVV.o];exact bt
        have HGV:=h_ (show ∀k,blk o.A o.c=some k->k≠V from λk hk=>by
         have:=(HO.o.1.1.lt k hk).2;rw[HVV.o]at this;omega)
        replace H6:=h_ (λb hb=>And.intro (H6.o b hb).1 ((H6.o b hb).2.call bt'));replace HB4:=h_ (HB4.o.trans (bt'.mono HB4.o.size));replace HR:=h_ (HR.o.call bt');replace HX:=h_ (HX.o.call bt');replace HO:=h_ (HO.o.call bt');clear bt';have HGA:=h_ (show g<w9.heap.size from HX.o.lt);clear bt hvb hsz;have x0_:=d_ HX.o 0;have hxl:=HX.o.lt;have s0:=d_ HVB.o 0;have s1:=d_ HVB.o 1;have s2:=d_ HVB.o 2;have s3:=d_ HVB.o 3;have s4:=d_ HVB.o 4;have s5:=d_ HVB.o 5;have hvl:=HVB.o.lt;go_wp2_with fail
        refine Reg.startT (λW=>W.cell? ⟨g,0,none⟩=some (.slice o.A o.ps.length o.c)/\W.cell? ⟨V,0,none⟩=some (.string (bs x1))/\W.cell? ⟨V,1,none⟩=some (.int .i64 a1)/\W.cell? ⟨V,2,none⟩=some (.int .i64 a2)/\W.cell? ⟨V,3,none⟩=some (.slice A6 n6 c6)/\W.cell? ⟨V,4,none⟩=some (.int .i64 sz)/\W.cell? ⟨V,5,none⟩=some (.slice none 0 0)) (λj=>j==10) (by kernel_rfl) ?_;have hHeld:=And.intro x0_ (And.intro s0 (And.intro s1 (And.intro s2 (And.intro s3 (And.intro s4 s5)))));refine t_ 0 rfl ?_;refine t_ 1 rfl ?_;refine t_ 2 rfl ?_;refine t_ 3 rfl ?_;refine t_ 4 rfl ?_;refine t_ 5 rfl ?_;refine Reg.oneT (i:=6) rfl (by kernel_rfl) (λK hK=>?_);go_simp
        have BA:Below w9.heap.size w9 ((w9.alloc (.cells #[.string (bs x1),.int .i64 a1,.int .i64 a2,.slice A6 n6 c6,.int .i64 sz,.slice none 0 0] 61)).drew):=b_;have HLT:=h_ (show Rd ((w9.alloc (.cells #[.string (bs x1),.int .i64 a1,.int .i64 a2,.slice A6 n6 c6,.int .i64 sz,.slice none 0 0] 61)).drew) (w9.heap.size+1) (some ⟨w9.heap.size,0,none⟩) [.string (bs x1),.int .i64 a1,.int .i64 a2,.slice A6 n6 c6,.int .i64 sz,.slice none 0 0]from rd_lit w9 #[.string (bs x1),.int .i64 a1,.int .i64 a2,.slice A6 n6 c6,.int .i64 sz,.slice none 0 0] 61 _ rfl);have hbw4:base<=w9.heap.size:=Nat.le_trans hbw HB4.o.size;have HBB5:=h_ ((HB4.o.mono hbw).trans (BA.mono hbw4));have hcc:=bcell BA;have hHeld:((w9.alloc (.cells #[.string (bs x1),.int .i64 a1,.int .i64 a2,.slice A6 n6 c6,.int .i64 sz,.slice none 0 0] 61)).drew).cell? ⟨g,0,none⟩=some (.slice o.A o.ps.length o.c)/\((w9.alloc (.cells #[.string (bs x1),.int .i64 a1,.int .i64 a2,.slice A6 n6 c6,.int .i64 sz,.slice none 0 0] 61)).drew).cell? ⟨V,0,none⟩=some (.string (bs x1))/\((w9.alloc (.cells #[.string (bs x1),.int .i64 a1,.int .i64 a2,.slice A6 n6 c6,.int .i64 sz,.slice none 0 0] 61)).drew).cell? ⟨V,1,none⟩=some (.int .i64 a1)/\((w9.alloc (.cells #[.string (bs x1),.int .i64 a1,.int .i64 a2,.slice A6 n6 c6,.int .i64 sz,.slice none 0 0] 61)).drew).cell? ⟨V,2,none⟩=some (.int .i64 a2)/\((w9.alloc (.cells #[.string (bs x1),.int .i64 a1,.int .i64 a2,.slice A6 n6 c6,.int .i64 sz,.slice none 0 0] 61)).drew).cell? ⟨V,3,none⟩=some (.slice A6 n6 c6)/\((w9.alloc (.cells #[.string (bs x1),.int .i64 a1,.int .i64 a2,.slice A6 n6 c6,.int .i64 sz,.slice none 0 0] 61)).drew).cell? ⟨V,4,none⟩=some (.int .i64 sz)/\((w9.alloc (.cells #[.string (bs x1),.int .i64 a1,.int .i64 a2,.slice A6 n6 c6,.int .i64 sz,.slice none 0 0] 61)).drew).cell? ⟨V,5,none⟩=some (.slice none 0 0):=by
         refine⟨?_,?_,?_,?_,?_,?_,?_⟩
         ·rw[hcc.1 _ _ hxl];exact x0_
         ·rw[hcc.1 _ _ hvl];exact s0
         ·rw[hcc.1 _ _ hvl];exact s1
         ·rw[hcc.1 _ _ hvl];exact s2
         ·rw[hcc.1 _ _ hvl];exact s3
         ·rw[hcc.1 _ _ hvl];exact s4
         ·rw[hcc.1 _ _ hvl];exact s5
        replace HGA:=h_ (Nat.lt_of_lt_of_le HGA.o BA.size);replace HX:=h_ (HX.o.call BA);replace HO:=h_ (HO.o.call BA);replace HVB:=h_ (HVB.o.call BA);replace H6:=h_ (λb hb=>And.intro (H6.o b hb).1 ((H6.o b hb).2.call BA));have hs5:=BA.size;clear x0_ hxl s0 s1 s2 s3 s4 s5 hvl hcc BA HB4 HW4 HR;generalize (w9.alloc (.cells #[.string (bs x1),.int .i64 a1,.int .i64 a2,.slice A6 n6 c6,.int .i64 sz,.slice none 0 0] 61)).drew=wa at *;refine hK.out _ _ hHeld ?_;clear hK K;try simp only[y1_,y2_,y3_,Act.put,y4_,y5_,y6_]
        refine Reg.oneT (i:=7) rfl (by kernel_rfl) (λK hK=>?_);refine step_app (by rfl) _ _ 23 rfl 61 q9 (.agg #[.string ByteArray.empty,.int .i64 0,.int .i64 0,.slice none 0 0,.int .i64 0,.slice none 0 0]) 6 88 Tryz.underlying23 HQS.o.1 HQS.o.2.1 HQS.o.2.2.1 HQS.o.2.2.2 rfl (by decide) base o.A o.ps.length o.c (cellsOf secC o.ps) (by rfl) HO.o.1.1 (by omega) _ 1 1 [.string (bs x1),.int .i64 a1,.int .i64 a2,.slice A6 n6 c6,.int .i64 sz,.slice none 0 0] (by rfl) HLT.o rfl (λh=>by cases h) one_six ?n1 ?n2 ?_
        case n1=>unfold maxLen;omega
        case n2=>omega
        intro A9 n9 c9 wz hn9 o9 g9 k9;have HX9:=h_ (HX.o.grown g9 (HO.o.1.1.box HX.o (by decide)));have HV9:=h_ (HVB.o.grown g9 HGV.o);have HB9:=h_ (HBB5.o.grown g9 (by omega) (λj hj=>(HO.o.1.1.lt j hj).1));have HY9:=h_ (HO.o.2.grown g9 (λk hk=>apartT HO.o.2 HO.o.1.1 (by decide) k hk));have HR9:=h_ (And.intro o9 (And.intro g9 k9));have hHeld:wz.cell? ⟨g,0,none⟩=some (.slice o.A o.ps.length o.c)/\wz.cell? ⟨V,0,none⟩=some (.string (bs x1))/\wz.cell? ⟨V,1,none⟩=some (.int .i64 a1)/\wz.cell? ⟨V,2,none⟩=some (.int .i64 a2)/\wz.cell? ⟨V,3,none⟩=some (.slice A6 n6 c6)/\wz.cell? ⟨V,4,none⟩=some (.int .i64 sz)/\wz.cell? ⟨V,5,none⟩=some (.slice none 0 0):=by have x0_:=d_ HX9.o 0;have s0:=d_ HV9.o 0;have s1:=d_ HV9.o 1;have s2:=d_ HV9.o 2;have s3:=d_ HV9.o 3;have s4:=d_ HV9.o 4;have s5:=d_ HV9.o 5;exact⟨x0_,s0,s1,s2,s3,s4,s5⟩
        have hfz:=HX9.o.frozen 0;refine hK.out _ _ hHeld ?_;clear hK K o9 g9 k9 HX HVB HBB5 HLT;try simp only[y1_,y2_,y3_,Act.put,y4_,y5_,y6_]
        refine Reg.oneT (i:=8) rfl (by kernel_rfl) (λK hK=>?_);go_simp
        refine hK.out _ _ hHeld ?_;clear hK K;try simp only[y1_,y2_,y3_,Act.put,y4_,y5_,y6_]
        refine t_ 9 rfl ?_;refine Reg.lastT (i:=10) rfl (by kernel_rfl) (by rfl) (λK hK=>?_);go_simp
        refine hK.out _ _ ?_;clear hK K;try simp only[y1_,y2_,y3_,Act.put,y4_,y5_,y6_]
        refine Reg.doneT (by kernel_rfl) ?_ _;clear hHeld hfz;have HXZ:=h_ (HX9.o.set 0 (.slice A9 (o.ps.length+1) c9));have HBZ:=h_ (HB9.o.setCell (p:=⟨g,0,none⟩) hgb (.slice A9 (o.ps.length+1) c9));cases hu:unhex hx with
        |none=>
         have HV:=h_ (show stepI o.d s.data.toList=none from by
          rw[HSI.o,HWI.o,if_neg (by omega),if_neg HFX.o,HNS.o];show(if x0=secW then _ else _)=_
          rw[if_pos HSEC.o,hu]
          rfl)
         clear hu;subst hn9;clear HX9 HV9 HB9 HY9 HR9 H6;generalize wz.setCell ⟨g,0,none⟩ (.slice A9 (o.ps.length+1) c9)=wf at *;simp only[Option.isSome];go_wp2_with fail
         go_ret;exact⟨false,rfl,HBZ.o,by rw[HV.o]⟩
        |some zs=>
         obtain⟨hn6,hr6⟩:=H6.o zs hu;have HV:=h_ (show stepI o.d s.data.toList=some ({o with A:=A9,c:=c9,ps:=o.ps++[⟨bs x1,a1,a2,A6,c6,zs,sz,none,0,[]⟩]}:OV).d from by
          rw[HSI.o,HWI.o,if_neg (by omega),if_neg HFX.o,HNS.o];show(if x0=secW then _ else _)=_
          rw[if_pos HSEC.o,hu];show some (addS o.d _)=_
          simp[addS,mkSI,OV.d,SV.d,HSZ.o])
         have HQ:RwS wa base ⟨bs x1,a1,a2,A6,c6,zs,sz,none,0,[]⟩:=⟨by have h:=hr6.down (Nat.le_trans hbw HB5.o);rw[hn6]at h;exact h,Row.empty _ _ _ _ _⟩;have hnew:∀k,sblk ⟨bs x1,a1,a2,A6,c6,zs,sz,none,0,[]⟩ k->w5.heap.size<=k:=by
          rintro k (hk|hk)
          ·exact(hr6.lt k hk).1
          ·cases hk
         have hadd:=HO.o.addS HQ HOLD.o hnew hn9 (by have h:=HR9.o.1;rw[hn6]at h;exact h) HR9.o.2.1;have hne:∀k,oblk {o with A:=A9,c:=c9,ps:=o.ps++[⟨bs x1,a1,a2,A6,c6,zs,sz,none,0,[]⟩]} k->k≠g:=by
          rintro k ((hk|⟨p,hp,hk⟩)|hk)
          ·rcases HR9.o.2.2 k hk with h1|h1
           ·exact HH.o.ne k (.inl (.inl h1))
           ·have:=HGA.o;omega
          ·rcases List.mem_append.1 hp with hp|hp
           ·exact HH.o.ne k (.inl (.inr ⟨p,hp,hk⟩))
           ·obtain rfl:=List.mem_singleton.1 hp;have:=hnew k hk;have:=HG5.o;omega
          ·exact HH.o.ne k (.inr hk)
         have HOZ:=h_ (hadd.set (a:=⟨g,0,none⟩) hne (.slice A9 (o.ps.length+1) c9));have HNE:=h_ hne;clear hu hadd hne hnew HQ hn6 hr6 hn9;clear HX9 HV9 HB9 HY9 HR9 H6;generalize wz.setCell ⟨g,0,none⟩ (.slice A9 (o.ps.length+1) c9)=wf at *;simp only[Option.isSome];go_wp2_with fail
         go_ret;refine⟨true,rfl,HBZ.o,?_⟩;rw[HV.o];refine⟨rfl,_,rfl,⟨?_,HOZ.o,HNE.o⟩⟩;have h:=HXZ.o;show Box wf g _ #[.slice A9 (o.ps++[_]).length c9,.slice o.Y o.ys.length o.yc]
         rw[List.length_append];exact h
      ·have hsy:x0=symW:=by rcases HX0.o with h|h|h<;>first|exact absurd h hsec|exact absurd h HFX.o|exact h
       have hq2:=sec_ne hsec;have hq3:=sym_eq hsy;have HNSC:=h_ hsec;clear hsec hsy;have HBB:=h_ (HB4.o.mono hbw);have HRY:=h_ HO.o.2;go_wp2_with fail
       refine Reg.startT (λW=>W.cell? ⟨g,1,none⟩=some (.slice o.Y o.ys.length o.yc)/\W.cell? ⟨b3,off3,none⟩=some (.int .i64 a1)/\W.cell? ⟨b3,off3+1,none⟩=some (.int .i64 a2)/\W.cell? ⟨b3,off3+2,none⟩=some (.int .i64 a3)) (λj=>j==20) (by kernel_rfl) ?_;have hHeld:=And.intro x1_ (And.intro hi0 (And.intro hi1 hi2));refine t_ 0 rfl ?_;refine t_ 1 rfl ?_;refine t_ 2 rfl ?_;refine t_ 3 rfl ?_;refine t_ 4 rfl ?_;refine t_ 5 rfl ?_;refine t_ 6 rfl ?_;refine t_ 7 rfl ?_;refine t_ 8 rfl ?_;refine t_ 9 rfl ?_;refine t_ 10 rfl ?_;refine t_ 11 rfl ?_;refine t_ 12 rfl ?_;refine t_ 13 rfl ?_;refine t_ 14 rfl ?_;refine t_ 15 rfl ?_;refine Reg.oneT (i:=16) rfl (by kernel_rfl) (λK hK=>?_);go_simp
       have BA:Below w5.heap.size w5 ((w5.alloc (.cells #[.string (bs x1),.int .i64 a1,.int .i64 a2,.int .i64 a3] 67)).drew):=b_;have HLT:=h_ (show Rd ((w5.alloc (.cells #[.string (bs x1),.int .i64 a1,.int .i64 a2,.int .i64 a3] 67)).drew) (w5.heap.size+1) (some ⟨w5.heap.size,0,none⟩) (symbolC (bs x1,a1,a2,a3))from rd_lit w5 #[.string (bs x1),.int .i64 a1,.int .i64 a2,.int .i64 a3] 67 _ rfl);have hbw4:base<=w5.heap.size:=Nat.le_trans hbw HB4.o.size;have HBB5:=h_ (HBB.o.trans (BA.mono hbw4));have hcc:=bcell BA;have hHeld:((w5.alloc (.cells #[.string (bs x1),.int .i64 a1,.int .i64 a2,.int .i64 a3] 67)).drew).cell? ⟨g,1,none⟩=some (.slice o.Y o.ys.length o.yc)/\((w5.alloc (.cells #[.string (bs x1),.int .i64 a1,.int .i64 a2,.int .i64 a3] 67)).drew).cell? ⟨b3,off3,none⟩=some (.int .i64 a1)/\((w5.alloc (.cells #[.string (bs x1),.int .i64 a1,.int .i64 a2,.int .i64 a3] 67)).drew).cell? ⟨b3,off3+1,none⟩=some (.int .i64 a2)/\((w5.alloc (.cells #[.string (bs x1),.int .i64 a1,.int .i64 a2,.int .i64 a3] 67)).drew).cell? ⟨b3,off3+2,none⟩=some (.int .i64 a3):=by
        have hb3:b3<w5.heap.size:=World.block_lt_of_cell? _ _ hi0;refine⟨?_,?_,?_,?_⟩
        ·rw[hcc.1 _ _ hxl];exact x1_
        ·rw[hcc.1 _ _ hb3];exact hi0
        ·rw[hcc.1 _ _ hb3];exact hi1
        ·rw[hcc.1 _ _ hb3];exact hi2
       replace HX:=h_ (HX.o.call BA);replace HO:=h_ (HO.o.call BA);replace HRY:=h_ (HRY.o.call BA);replace HR:=h_ (HR.o.call BA);have hs5:=BA.size;clear x0_ x1_ hi0 hi1 hi2 hcc BA HBB HB4 HW4 hc0;generalize (w5.alloc (.cells #[.string (bs x1),.int .i64 a1,.int .i64 a2,.int .i64 a3] 67)).drew=w6 at *;refine hK.out _ _ hHeld ?_;clear hK K;try simp only[y1_,y2_,y3_,Act.put,y4_,y5_,y6_]
       refine Reg.oneT (i:=17) rfl (by kernel_rfl) (λK hK=>?_);refine step_app (by rfl) _ _ 24 rfl 67 k0 (.agg #[.string ByteArray.empty,.int .i64 0,.int .i64 0,.int .i64 0]) 4 40 Tryz.underlying24 HK.o.1 HK.o.2.1 HK.o.2.2.1 HK.o.2.2.2 rfl (by decide) base o.Y o.ys.length o.yc (cellsOf symbolC o.ys) (by rfl) HRY.o (by omega) _ 1 1 (symbolC (bs x1,a1,a2,a3)) (by rfl) HLT.o rfl (λh=>by cases h) (one_sy _) ?n1 ?n2 ?_
       case n1=>unfold maxLen;omega
       case n2=>omega
       intro A9 n9 c9 wz hn9 o9 g9 k9;have HX9:=h_ (HX.o.grown g9 (HRY.o.box HX.o (by decide)));have HR9:=h_ (HR.o.grown g9 (λk hk=>apartT HR.o HRY.o (by decide) k hk));have HB9:=h_ (HBB5.o.grown g9 (by omega) (λj hj=>(HRY.o.lt j hj).1));have HO9:=h_ (HO.o.addY [(bs x1,a1,a2,a3)] hn9 (by simpa[cellsOf]using o9) g9);have HK9:=h_ k9;have hHeld:wz.cell? ⟨g,1,none⟩=some (.slice o.Y o.ys.length o.yc)/\wz.cell? ⟨b3,off3,none⟩=some (.int .i64 a1)/\wz.cell? ⟨b3,off3+1,none⟩=some (.int .i64 a2)/\wz.cell? ⟨b3,off3+2,none⟩=some (.int .i64 a3):=by have hx:=d_ HX9.o 1;have hi0:=Rd.intAt HR9.o.rd (i:=0) (by simp);have hi1:=Rd.intAt HR9.o.rd (i:=1) (by simp);have hi2:=Rd.intAt HR9.o.rd (i:=2) (by simp);exact⟨hx,hi0,hi1,hi2⟩
       have hfz:=HX9.o.frozen 1;refine hK.out _ _ hHeld ?_;clear hK K o9 g9 k9 HX HR HO HRY HBB5 HLT;try simp only[y1_,y2_,y3_,Act.put,y4_,y5_,y6_]
       refine Reg.oneT (i:=18) rfl (by kernel_rfl) (λK hK=>?_);go_simp
       refine hK.out _ _ hHeld ?_;clear hK K;try simp only[y1_,y2_,y3_,Act.put,y4_,y5_,y6_]
       refine t_ 19 rfl ?_;refine Reg.lastT (i:=20) rfl (by kernel_rfl) (by rfl) (λK hK=>?_);go_simp
       refine hK.out _ _ ?_;clear hK K;try simp only[y1_,y2_,y3_,Act.put,y4_,y5_,y6_]
       refine Reg.doneT (by kernel_rfl) ?_ _;clear hHeld hfz HR9;have HV:=h_ (show stepI o.d s.data.toList=some ({o with Y:=A9,yc:=c9,ys:=o.ys++[(bs x1,a1,a2,a3)]}:OV).d from by
        rw[HSI.o,HWI.o,if_neg (by omega),if_neg HFX.o,HNS.o];show(if x0=secW then _ else some (addY o.d (mkY x1 [a1,a2,a3])))=_
        rw[if_neg HNSC.o]
        rfl)
       have HNE:=h_ (show ∀k,oblk {o with Y:=A9,yc:=c9,ys:=o.ys++[(bs x1,a1,a2,a3)]} k->k≠g from by
        rintro k (hk|hk)
        ·exact HH.o.ne k (.inl hk)
        ·rcases HK9.o k hk with h1|h1
         ·exact HH.o.ne k (.inr h1)
         ·omega)
       have HXZ:=h_ (HX9.o.set 1 (.slice A9 (o.ys.length+1) c9));have HBZ:=h_ (HB9.o.setCell (p:=⟨g,1,none⟩) hgb (.slice A9 (o.ys.length+1) c9));have HOZ:=h_ (HO9.o.set (a:=⟨g,1,none⟩) HNE.o (.slice A9 (o.ys.length+1) c9));clear HO9 HX9 HB9;generalize wz.setCell ⟨g,1,none⟩ (.slice A9 (o.ys.length+1) c9)=wf at *;go_wp2_with fail
       go_ret;refine⟨true,rfl,HBZ.o,?_⟩;rw[HV.o];refine⟨rfl,_,rfl,⟨?_,HOZ.o,HNE.o⟩⟩;have h:=HXZ.o;show Box wf g _ #[.slice o.A o.ps.length o.c,.slice A9 (o.ys++[_]).length c9]
       rw[List.length_append];exact h
   ·have hmi:((xs.length:Int)==(many x0:Int))=false:=beq_eq_false_iff_ne.2 (by omega);have HV:=h_ (show stepI o.d s.data.toList=none from by rw[HSI.o,HWI.o,if_pos hm]);go_wp2_with fail
    go_ret;exact⟨false,rfl,HB.o.mono hbw,by rw[HV.o]⟩
end CReadI
/- wordsLine: a line of words and numbers; the program's. -/
namespace CLineI
open Kit CNumTxt PNum PDump CHexI CHexS CSorted CWordsS BStore BDesk
def nmW(nm:List UInt8):List (List UInt8):=if nm.length=0 then[]else[nm]
def lineW(W nm:List UInt8)(ns:List Int):List UInt8:=joinC 32 ((W::nmW nm)++ns.map Lib.itoa)
theorem line_next(W nm:List UInt8){ns:List Int}{k:Nat}(h:k<ns.length):lineW W nm (ns.take (k+1))=lineW W nm (ns.take k)++32::Lib.itoa ns[k]:=by unfold lineW;rw[take_succ h,List.map_append,<-List.append_assoc,List.map_singleton,join_snoc 32 _ _ (by simp)]
theorem sp_app(x:List UInt8):(⟨#[32]⟩:ByteArray)++bs x=bs (32::x):=bs_app [32] x
set_option maxHeartbeats 2000000 in
theorem line_any(W nm:List UInt8)(NA:Option Addr)(ns:List Int)(nc:Nat)(w:World)(he:Env w)(hr:Rd w w.heap.size NA (ints .i64 ns))(hW:W.length<=1000)(hnm:nm.length<=1000)(hn:ns.length<=10)(hb:InR (-9223372036854775808) 9223372036854775807 ns):
  Calls Tryz.prog 37 #[.string (bs W),.string (bs nm),.slice NA ns.length nc] w (Ret (.string (bs (lineW W nm ns))) w):=by
 have HE:=h_ he;have HR:=h_ hr;have HBD:=h_ hb;clear he hr hb;have hs1:=bs_size W;have hs2:=bs_size nm;have HW0:=h_ (show bs (lineW W nm (ns.take 0))=(if nm.length=0 then bs W else bs W++((⟨#[32]⟩:ByteArray)++bs nm))from by
  unfold lineW nmW;split
  ·simp[joinC]
  ·rw[sp_app,bs_app];simp[joinC])
 have key:∀(X:ByteArray),X=bs (lineW W nm (ns.take 0))->X.size<=3000->True:=λ_ _ _=>trivial;clear key;go_enter Tryz.func37,Tryz.ntmps37
 go_upto_if 10 with(fail)
 go_cut [0]from 10 to 14 (λv wx=>v=.string (bs (lineW W nm (ns.take 0)))/\(bs (lineW W nm (ns.take 0))).size<=3000/\wx=w)
 case first=>
  by_cases h0:nm.length=0
  ·have hem:(bs nm).toList.isEmpty=true:=by
    rw[ByteArray.toList_eq];have:nm=[]:=List.eq_nil_of_length_eq_zero h0;rw[this]
    rfl
   have HQ:=h_ (show bs (lineW W nm (ns.take 0))=bs W from by rw[HW0.o,if_pos h0]);generalize bs nm=NM at *;generalize bs W=WD at *;clear h0 HW0;simp only[hem,Bool.not_true];go_wp2_with fail
   go_meet
   exact⟨by rw[HQ.o],by rw[HQ.o];omega,rfl⟩
  ·have hem:(bs nm).toList.isEmpty=false:=by
    rw[ByteArray.toList_eq];cases nm with
    |nil=>exact absurd rfl h0
    |cons c r=>rfl
   have HQ:=h_ (show bs (lineW W nm (ns.take 0))=bs W++((⟨#[32]⟩:ByteArray)++bs nm)from by rw[HW0.o,if_neg h0]);generalize bs nm=NM at *;generalize bs W=WD at *;have hl1:¬9223372036854775807<1+NM.size:=by omega
   have hl2:¬9223372036854775807<WD.size+(1+NM.size):=by omega
   have HSZ:=h_ (show(WD++((⟨#[32]⟩:ByteArray)++NM)).size<=3000 from by
    rw[ByteArray.size_append,ByteArray.size_append];have:(⟨#[32]⟩:ByteArray).size=1:=rfl;omega)
   clear h0 HW0;simp only[hem,Bool.not_false];go_wp2_with fail
   go_meet
   exact⟨by rw[HQ.o],by rw[HQ.o];exact HSZ.o,rfl⟩
 case rest=>
  rename World=>wc
  obtain⟨rfl,hsz,rfl⟩:=hcut;have HS:=h_ hsz;clear hsz hs1 hs2 HW0;go_wp2_with fail
  go_loopw [0,17] (λv i wi=>∃(k:Nat) (t:ByteArray),k<=ns.length/\v=.string t/\i=.int .i64 k/\t=bs (lineW W nm (ns.take k))/\t.size<=3000+22*k/\Below wc.heap.size wc wi) (λ_ i _=>ns.length-(intOf i).toNat)
  case atStart=>exact⟨0,_,Nat.zero_le _,rfl,rfl,rfl,HS.o,Below.refl _ _⟩
  case round=>
   rename World=>wk
   obtain⟨k,t,hk,rfl,rfl,ht,htl,hbl⟩:=hrel;have HT:=h_ ht;have HB:=h_ hbl;clear ht hbl HS;by_cases hlt:k<ns.length
   ·obtain⟨b,off,hA,hbb,hc⟩:=(HR.o.below HB.o).int hlt;have hx:=HBD.o.at_ hlt;have HLN:=h_ (line_next W nm hlt);subst hA;generalize ns[k]=x at *;go_wp2_with fail
    refine(itoa_any x hx.1 hx.2 wk (HE.o.below HB.o)).mono ?_;rintro e w2 ⟨rfl,b2⟩;have HB2:=h_ (HB.o.trans (b2.mono HB.o.size));have hil:=Lib.itoa_length_le x hx.1 hx.2;have hsz:=bs_size (Lib.itoa x);have HN:=h_ (show t++((⟨#[32]⟩:ByteArray)++bs (Lib.itoa x))=bs (lineW W nm (ns.take (k+1)))from by rw[HLN.o,HT.o,sp_app,bs_app]);have HNS:=h_ (show(t++((⟨#[32]⟩:ByteArray)++bs (Lib.itoa x))).size<=3000+22*(k+1)from by
     rw[ByteArray.size_append,ByteArray.size_append];have:(⟨#[32]⟩:ByteArray).size=1:=rfl;omega)
    generalize bs (Lib.itoa x)=X at *;have hl1:¬9223372036854775807<1+X.size:=by omega
    have hl2:¬9223372036854775807<t.size+(1+X.size):=by omega
    clear b2 hc hil hsz HLN HB;go_wp2_with fail
    refine⟨⟨k+1,_,by omega,rfl,by go_num,HN.o,HNS.o,HB2.o⟩,by simp[intOf];omega⟩
   ·have hke:k=ns.length:=by omega
    have HV:=h_ (show t=bs (lineW W nm ns)from by rw[HT.o,hke,List.take_length]);clear hke;go_wp2_with fail
    go_ret;rw[HV.o];exact⟨rfl,HB.o⟩
end CLineI
/- DumpObject: the lines of an object; the program's. -/
namespace CDumpI
open Kit CCode CName CFixups CSymbols PObj BObj PValid PClear CSecValid CObjValid CNumTxt PNum PDump CHexI CHexS CSorted CNames CWordsS BStore BDesk CLineI
theorem line_of(Wb nm:ByteArray)(W:List UInt8)(hWb:Wb=bs W)(NA:Option Addr)(ns:List Int)(nc:Nat)(w:World)(he:Env w)(hr:Rd w w.heap.size NA (ints .i64 ns))(hW:W.length<=1000)(hnm:(nmL nm).length<=1000)(hn:ns.length<=10)(hb:InR (-9223372036854775808) 9223372036854775807 ns):
  Calls Tryz.prog 37 #[.string Wb,.string nm,.slice NA ns.length nc] w (Ret (.string (bs (lineW W (nmL nm) ns))) w):=by
 subst hWb;exact line_any W (nmL nm) NA ns nc w he hr hW hnm hn hb
theorem nmW_ok{s:ByteArray}(h:nameOk s=true):nmW (nmL s)=[nmL s]/\(nmL s).length<=8:=by
 rw[nameOk,Bool.and_eq_true]at h;have h2:=h.2;simp only[inB,decide_eq_true_eq]at h2;have hl:(nmL s).length=s.size:=by rw[nmL,Array.length_toList];rfl
 refine⟨?_,by omega⟩;unfold nmW;rw[if_neg (by omega)]
theorem lineS_eq{s:SD}(h:nameOk s.nm=true):lineS s=if s.zs.length=0 then lineW secW (nmL s.nm) [s.kd,s.al,secSize s]else lineW secW (nmL s.nm) [s.kd,s.al,secSize s]++32::hexL s.zs:=by
 unfold lineS wordsS lineW;rw[(nmW_ok h).1];split
 ·rw[List.append_nil]
  rfl
 ·rw[<-join_snoc 32 _ _ (by simp)]
  rfl
theorem lineY_eq{y:YD}(h:nameOk y.1=true):lineY y=lineW symW (nmL y.1) [y.2.1,y.2.2.1,y.2.2.2]:=by
 unfold lineY wordsY lineW;rw[(nmW_ok h).1]
 rfl
theorem num3{a b c:Int}(ha:Num a)(hb:Num b)(hc:Num c):InR (-9223372036854775808) 9223372036854775807 [a,b,c]:=by unfold Num at *;intro x hx;simp only[List.mem_cons,List.not_mem_nil,or_false]at hx;omega
theorem num4{a b c d:Int}(ha:Num a)(hb:Num b)(hc:Num c)(hd:Num d):InR (-9223372036854775808) 9223372036854775807 [a,b,c,d]:=by unfold Num at *;intro x hx;simp only[List.mem_cons,List.not_mem_nil,or_false]at hx;omega
theorem linesSs_snoc{ps:List SV}{k:Nat}(h:k<ps.length):linesSs ((ps.take (k+1)).map SV.d)=linesSs ((ps.take k).map SV.d)++linesS (ps[k]).d:=by rw[take_succ h,List.map_append];simp[linesSs]
theorem join_len(c:UInt8):∀(ws:List (List UInt8)) (m:Nat),(∀w∈ws,w.length<=m)->(joinC c ws).length<=ws.length*(m+1)
 |[],_,_=>by simp[joinC]
 |[x],m,h=>by have:=h x (by simp);simp only[joinC,List.length_singleton];omega
 |x::y::r,m,h=>by have h1:=h x (by simp);have h2:=join_len c (y::r) m (λw hw=>h w (by simp[List.mem_cons.1 hw]));rw[joinC,List.length_append,List.length_cons,List.length_cons,Nat.succ_mul];omega
theorem line_len{W nm:List UInt8}{ns:List Int}(hW:W.length<=21)(hnm:nm.length<=21)(hn:InR (-9223372036854775808) 9223372036854775807 ns):(lineW W nm ns).length<=(2+ns.length)*22:=by
 have h1:=join_len 32 ((W::nmW nm)++ns.map Lib.itoa) 21 (λw hw=>by
  rcases List.mem_append.1 hw with hw|hw
  ·rcases List.mem_cons.1 hw with rfl|hw
   ·exact hW
   ·unfold nmW at hw;split at hw
    ·cases hw
    ·rw[List.mem_singleton.1 hw];exact hnm
  ·obtain⟨x,hx,rfl⟩:=List.mem_map.1 hw;exact Lib.itoa_length_le x (hn x hx).1 (hn x hx).2)
 refine Nat.le_trans h1 (Nat.mul_le_mul_right _ ?_);rw[List.length_append,List.length_cons,List.length_map];have:(nmW nm).length<=1:=by
  unfold nmW;split<;>simp
 omega
def Six(S:Nat)(p:SV)(W:World):Prop:=W.cell? ⟨S,0,none⟩=some (.string p.nm)/\W.cell? ⟨S,1,none⟩=some (.int .i64 p.kd)/\W.cell? ⟨S,2,none⟩=some (.int .i64 p.al)/\W.cell? ⟨S,3,none⟩=some (.slice p.A p.zs.length p.c)/\W.cell? ⟨S,4,none⟩=some (.int .i64 p.sz)/\W.cell? ⟨S,5,none⟩=some (.slice p.F p.fs.length p.fc)
theorem Six.of {W:World}{S:Nat}{p:SV}(h:Box W S 61 #[.string p.nm,.int .i64 p.kd,.int .i64 p.al,.slice p.A p.zs.length p.c,.int .i64 p.sz,.slice p.F p.fs.length p.fc]):Six S p W:=⟨h.cell 0,h.cell 1,h.cell 2,h.cell 3,h.cell 4,h.cell 5⟩
theorem one_str(s:ByteArray):∀u∈[Value.string s],u.oneCell'=true:=λu hu=>by
 rw[List.mem_singleton]at hu;subst hu
 rfl
set_option maxHeartbeats 8000000 in
theorem dumpObject_any(o:OV)(w:World)(hr:RdO w w.heap.size o)(hf:Fit o)(hz:InD o.d)(he:Env w):
  Calls Tryz.prog 9 #[.agg #[.slice o.A o.ps.length o.c,.slice o.Y o.ys.length o.yc]] w (RetN ((dumpL o.d).map bs) w):=by
 obtain⟨i0,hi1,hi2,hi3,hi4⟩:=info_parts infoStr;have HI:=h_ (And.intro hi1 (And.intro hi2 (And.intro hi3 hi4)));clear hi1 hi2 hi3 hi4;have HR:=h_ hr;have HE:=h_ he;have HZ:=h_ hz;have HF:=h_ hf;clear hr he hz hf;have B0:Below w.heap.size w ((w.alloc (.cells #[.slice o.A o.ps.length o.c,.slice o.Y o.ys.length o.yc] 26)).alloc (.cells #[] 9)):=b_;have HB:=h_ B0;have HX:=h_ ((Box.new w 26 #[.slice o.A o.ps.length o.c,.slice o.Y o.ys.length o.yc]).alloc (.cells #[] 9));have hsz:w.heap.size<((w.alloc (.cells #[.slice o.A o.ps.length o.c,.slice o.Y o.ys.length o.yc] 26)).alloc (.cells #[] 9)).heap.size:=by simp;omega
 have HSZ:=h_ hsz;clear B0 hsz;go_enter Tryz.func9,Tryz.ntmps9
 have x0:=d_ HX.o 0;have x1:=d_ HX.o 1;have hxl:=HX.o.lt;go_wp2_with fail
 generalize (w.alloc (.cells #[.slice o.A o.ps.length o.c,.slice o.Y o.ys.length o.yc] 26)).alloc (.cells #[] 9)=w0 at *;refine(objectValid_any o w0 ((HR.o.below HB.o).more HB.o.size) HF.o).mono ?_;rintro e w1 ⟨rfl,b1⟩;replace HB:=c_ HB b1;replace HX:=h_ (HX.o.call b1);clear b1;clear x0 x1 hxl HSZ;cases ho:objOk o.d
 ·have HV:=h_ (show dumpL o.d=[]from by rw[dumpL,ho];rfl);clear ho;go_wp2_with fail
  go_ret;rw[HV.o];exact⟨_,0,rfl,Row.empty _ _ _ _ _,HB.o⟩
 have HV:=h_ (dump_ok ho);have HG:=h_ (good_O ho HZ.o);have HALL:=h_ (obj_all ho);have hps:o.ps.length<=8:=by have:=HALL.o.1;simpa[OV.d]using this
 have hys:o.ys.length<=12:=HALL.o.2.1;clear ho;have x0:=d_ HX.o 0;have x1:=d_ HX.o 1;have hxl:=HX.o.lt;go_wp2_with fail
 clear x0 x1 hxl;go_loopw [3,19] (λs i wi=>∃(k:Nat) (A1:Option Addr) (c1:Nat) (ls:List (List UInt8)),k<=o.ps.length/\s=.slice A1 ls.length c1/\i=.int .i64 k/\ls=linesSs ((o.ps.take k).map SV.d)/\ls.length<=7*k/\Row wi w.heap.size 9 1 A1 ls.length c1 (nmC (ls.map bs))/\Box wi w.heap.size 26 #[.slice o.A o.ps.length o.c,.slice o.Y o.ys.length o.yc]/\Below w.heap.size w wi) (λ_ i _=>o.ps.length-(intOf i).toNat)
 case atStart=>exact⟨0,_,0,[],Nat.zero_le _,rfl,rfl,rfl,Nat.le_refl _,Row.empty _ _ _ _ _,HX.o,HB.o⟩
 case round=>
  rename World=>wk
  clear HX HB;obtain⟨k,A1,c1,ls,hk,rfl,rfl,hls,hll,hrow,hbox,hb⟩:=hrel;have HLS:=h_ hls;have HW:=h_ hrow;have HX:=h_ hbox;have HB:=h_ hb;clear hls hrow hbox hb;by_cases hlt:k<o.ps.length
  ·obtain⟨b,off,hA,hbb,hc⟩:=(HR.o.1.1.below HB.o).row secC_len (by decide) hlt;have hc0:=hc 0 _ rfl;have hc1:=hc 1 _ rfl;have hc2:=hc 2 _ rfl;have hc3:=hc 3 _ rfl;have hc4:=hc 4 _ rfl;have hc5:=hc 5 _ rfl;simp only[Nat.add_zero]at hc0;have HSN:=h_ (linesSs_snoc hlt);have HGS:=h_ (HG.o.1 (o.ps[k]).d (List.mem_map_of_mem (List.getElem_mem hlt)));have HIZ:=h_ (HZ.o (o.ps[k]).d (List.mem_map_of_mem (List.getElem_mem hlt)));have HAL:=h_ (HALL.o.2.2 (o.ps[k]).d (List.mem_map_of_mem (List.getElem_mem hlt)));have HRS:=h_ (HR.o.1.2 _ (List.getElem_mem hlt));have HA:=h_ hA;rw[hA];clear hc hA;generalize o.ps[k]=p at *;have hzl:p.zs.length<=48:=HAL.o.2.1;have hfl:p.fs.length<=6:=HAL.o.1;have B1:Below wk.heap.size wk (wk.alloc (.cells #[.string p.nm,.int .i64 p.kd,.int .i64 p.al,.slice p.A p.zs.length p.c,.int .i64 p.sz,.slice p.F p.fs.length p.fc] 61)):=b_;have HS:=h_ (Box.new wk 61 #[.string p.nm,.int .i64 p.kd,.int .i64 p.al,.slice p.A p.zs.length p.c,.int .i64 p.sz,.slice p.F p.fs.length p.fc]);replace HB:=c_ HB B1;replace HX:=h_ (HX.o.call B1);replace HW:=h_ (HW.o.call B1);clear B1;go_wp2_with fail
   clear hc0 hc1 hc2 hc3 hc4 hc5;generalize wk.alloc (.cells #[.string p.nm,.int .i64 p.kd,.int .i64 p.al,.slice p.A p.zs.length p.c,.int .i64 p.sz,.slice p.F p.fs.length p.fc] 61)=wa at *;generalize hSS:wk.heap.size=S at *;have HSS:=h_ hSS;clear hSS;have hnk:=HGS.o.1.nm;have HNM:=h_ hnk;have HNU:=h_ (num3 HGS.o.1.kd HGS.o.1.al HGS.o.1.size);have HN8:=h_ (nmW_ok HGS.o.1.nm).2;have hsl:=HS.o.lt;clear hnk;refine Reg.startT (λW=>W.cell? ⟨S,0,none⟩=some (.string p.nm)/\W.cell? ⟨S,1,none⟩=some (.int .i64 p.kd)/\W.cell? ⟨S,2,none⟩=some (.int .i64 p.al)/\W.cell? ⟨S,3,none⟩=some (.slice p.A p.zs.length p.c)/\W.cell? ⟨S,4,none⟩=some (.int .i64 p.sz)/\W.cell? ⟨S,5,none⟩=some (.slice p.F p.fs.length p.fc)) (λ_=>false) (by kernel_rfl) ?_;have hHeld:wa.drew.cell? ⟨S,0,none⟩=some (.string p.nm)/\wa.drew.cell? ⟨S,1,none⟩=some (.int .i64 p.kd)/\wa.drew.cell? ⟨S,2,none⟩=some (.int .i64 p.al)/\wa.drew.cell? ⟨S,3,none⟩=some (.slice p.A p.zs.length p.c)/\wa.drew.cell? ⟨S,4,none⟩=some (.int .i64 p.sz)/\wa.drew.cell? ⟨S,5,none⟩=some (.slice p.F p.fs.length p.fc):=Six.of HS.o;refine t_ 0 rfl ?_;refine t_ 1 rfl ?_;refine t_ 2 rfl ?_;refine t_ 3 rfl ?_;refine t_ 4 rfl ?_;refine t_ 5 rfl ?_;refine t_ 6 rfl ?_;refine Reg.oneT (i:=7) rfl (by kernel_rfl) (λK hK=>?_);go_simp
   refine(sectionSize_any p _ (by unfold maxLen;omega)).mono ?_;rintro e w3 ⟨rfl,b3⟩;have b3':=of_drew b3;replace HB:=h_ (HB.o.trans (b3'.mono HB.o.size));replace HX:=h_ (HX.o.call b3');replace HW:=h_ (HW.o.call b3');replace HS:=h_ (HS.o.call b3');clear b3';have hHeld:w3.cell? ⟨S,0,none⟩=some (.string p.nm)/\w3.cell? ⟨S,1,none⟩=some (.int .i64 p.kd)/\w3.cell? ⟨S,2,none⟩=some (.int .i64 p.al)/\w3.cell? ⟨S,3,none⟩=some (.slice p.A p.zs.length p.c)/\w3.cell? ⟨S,4,none⟩=some (.int .i64 p.sz)/\w3.cell? ⟨S,5,none⟩=some (.slice p.F p.fs.length p.fc):=Six.of HS.o;refine hK.out _ _ hHeld ?_;clear hK K b3;try simp only[y1_,y2_,y3_,Act.put,y4_,y5_,y6_]
   refine Reg.oneT (i:=8) rfl (by kernel_rfl) (λK hK=>?_);go_simp
   have B4:Below w3.heap.size w3 (w3.alloc (.cells #[.int .i64 p.kd,.int .i64 p.al,.int .i64 (secSize p.d)] 3)):=b_;have HL4:=h_ (show Rd (w3.alloc (.cells #[.int .i64 p.kd,.int .i64 p.al,.int .i64 (secSize p.d)] 3)) (w3.heap.size+1) (some ⟨w3.heap.size,0,none⟩) (ints .i64 [p.kd,p.al,secSize p.d])from rd_lit w3 #[.int .i64 p.kd,.int .i64 p.al,.int .i64 (secSize p.d)] 3 _ rfl);have hz4:(w3.alloc (.cells #[.int .i64 p.kd,.int .i64 p.al,.int .i64 (secSize p.d)] 3)).heap.size=w3.heap.size+1:=by simp
   replace HB:=c_ HB B4;replace HX:=h_ (HX.o.call B4);replace HW:=h_ (HW.o.call B4);replace HS:=h_ (HS.o.call B4);clear B4;generalize w3.alloc (.cells #[.int .i64 p.kd,.int .i64 p.al,.int .i64 (secSize p.d)] 3)=w4 at *;have hHeld:w4.cell? ⟨S,0,none⟩=some (.string p.nm)/\w4.cell? ⟨S,1,none⟩=some (.int .i64 p.kd)/\w4.cell? ⟨S,2,none⟩=some (.int .i64 p.al)/\w4.cell? ⟨S,3,none⟩=some (.slice p.A p.zs.length p.c)/\w4.cell? ⟨S,4,none⟩=some (.int .i64 p.sz)/\w4.cell? ⟨S,5,none⟩=some (.slice p.F p.fs.length p.fc):=Six.of HS.o;refine hK.out _ _ hHeld ?_;clear hK K;try simp only[y1_,y2_,y3_,Act.put,y4_,y5_,y6_]
   refine Reg.oneT (i:=9) rfl (by kernel_rfl) (λK hK=>?_);go_simp
   refine(line_of ⟨#[115,101,99,116,105,111,110]⟩ p.nm secW rfl _ [p.kd,p.al,secSize p.d] 3 w4 (HE.o.below HB.o) (HL4.o.more (by rw[hz4];exact Nat.le_refl _)) (by decide) (by have:=HN8.o;exact Nat.le_trans this (by omega)) (by simp) HNU.o).mono ?_;rintro e w5 ⟨rfl,b5⟩;replace HB:=c_ HB b5;replace HX:=h_ (HX.o.call b5);replace HW:=h_ (HW.o.call b5);replace HS:=h_ (HS.o.call b5);clear b5;have hHeld:w5.cell? ⟨S,0,none⟩=some (.string p.nm)/\w5.cell? ⟨S,1,none⟩=some (.int .i64 p.kd)/\w5.cell? ⟨S,2,none⟩=some (.int .i64 p.al)/\w5.cell? ⟨S,3,none⟩=some (.slice p.A p.zs.length p.c)/\w5.cell? ⟨S,4,none⟩=some (.int .i64 p.sz)/\w5.cell? ⟨S,5,none⟩=some (.slice p.F p.fs.length p.fc):=Six.of HS.o;refine hK.out _ _ hHeld ?_;clear hK K HL4 hz4;try simp only[y1_,y2_,y3_,Act.put,y4_,y5_,y6_]
   refine t_ 10 rfl ?_;clear hHeld;refine Reg.doneT (by kernel_rfl) ?_ _;have HLN:=h_ (lineS_eq HNM.o);have HLZ:=h_ (show(bs (lineW secW (nmL p.nm) [p.kd,p.al,secSize p.d])).size<=1000000 from by
    rw[bs_size];have h:=line_len (W:=secW) (nm:=nmL p.nm) (ns:=[p.kd,p.al,secSize p.d]) (by decide) (by have:=HN8.o;exact Nat.le_trans this (by omega)) HNU.o;exact Nat.le_trans h (by simp))
   generalize hl1:bs (lineW secW (nmL p.nm) [p.kd,p.al,secSize p.d])=L1 at *;have HL1:=h_ hl1;clear hl1;have s3:=d_ HS.o 3;have hsl:=HS.o.lt;go_upto_if 36 with(fail)
   go_cut [6]from 36 to 42 (λv wx=>v=.string (bs (lineS p.d))/\Below w5.heap.size w5 wx)
   case first=>
    by_cases h0:p.zs.length=0
    ·have hd:decide (0<p.zs.length)=false:=decide_eq_false (by omega);have HQ:=h_ (show bs (lineS p.d)=L1 from by
      rw[HLN.o,if_pos (show p.d.zs.length=0 from h0)];exact HL1.o)
     clear h0;simp only[hd];go_wp2_with fail
     go_meet
     exact⟨by rw[HQ.o],Below.refl _ _⟩
    ·have hd:decide (0<p.zs.length)=true:=decide_eq_true (by omega);have HQ:=h_ (show bs (lineS p.d)=L1++((⟨#[32]⟩:ByteArray)++bs (hexL p.zs))from by
      rw[HLN.o,if_neg (show ¬p.d.zs.length=0 from h0),sp_app,<-HL1.o,bs_app]
      rfl)
     have HHX:=h_ (hexText_any p.A p.zs p.c w5 ((HRS.o.1.below HB.o).more HB.o.size) HIZ.o (by omega));have hhl:=bs_size (hexL p.zs);rw[hexL_len]at hhl;have hlz:L1.size<=1000000:=HLZ.o;clear h0;simp only[hd];generalize bs (hexL p.zs)=HXT at *;have hq1:¬9223372036854775807<1+HXT.size:=by omega
     have hq2:¬9223372036854775807<L1.size+(1+HXT.size):=by omega
     go_wp2_with fail
     refine HHX.o.mono ?_;rintro e w6 ⟨rfl,b6⟩;have HB6:=h_ b6;clear b6 s3 hsl;go_wp2_with fail
     go_meet
     exact⟨by rw[HQ.o],HB6.o⟩
   case rest=>
    rename World=>wc
    obtain⟨rfl,hbc⟩:=hcut;replace HB:=c_ HB hbc;replace HX:=h_ (HX.o.call hbc);replace HW:=h_ (HW.o.call hbc);replace HS:=h_ (HS.o.call hbc);clear hbc;clear s3 hsl HLZ HLN HL1;have hls:ls.length<=56:=by omega
    have B6:Below wc.heap.size wc (wc.alloc (.cells #[.string (bs (lineS p.d))] 9)):=b_;replace HB:=c_ HB B6;replace HX:=h_ (HX.o.call B6);replace HW:=h_ (HW.o.call B6);replace HS:=h_ (HS.o.call B6);clear B6;go_wp2_with (at_builtin;refine wpList_app (wc.alloc (.cells #[.string (bs (lineS p.d))] 9)) rfl (.tmp 43) (.tmp 45) 28 rfl 9 i0 (.string ByteArray.empty) 1 16 Tryz.underlying28 HI.o.1 HI.o.2.1 HI.o.2.2.1 HI.o.2.2.2 rfl (by decide) w.heap.size A1 ls.length c1 (nmC (ls.map bs)) rfl HW.o HB.o.size (some ⟨wc.heap.size,0,none⟩) 1 1 [.string (bs (lineS p.d))] rfl (rd_lit wc #[.string (bs (lineS p.d))] 9 _ rfl) rfl (λh=>by cases h) (one_str _) ?n1 ?n2 ?_)
    case n1=>unfold maxLen;omega
    case n2=>omega
    intro A7 n7 c7 w7 hn7 o7 g7 k7;subst hn7;have HX7:=h_ (HX.o.grown g7 (HW.o.box HX.o (by decide)));have HS7:=h_ (HS.o.grown g7 (HW.o.box HS.o (by decide)));have HB7:=h_ (HB.o.grown g7 HB.o.size (λj hj=>(HW.o.lt j hj).1));have HW7:=h_ (show Row w7 w.heap.size 9 1 A7 (ls.length+1) c7 (nmC ((ls++[lineS p.d]).map bs))from by
     rw[nmC_snoc];exact o7)
    clear o7 g7 k7 HW HX HS HB;have s5:=d_ HS7.o 5;have hsl:=HS7.o.lt;go_wp2_with fail
    clear s5 hsl;go_loopw [3,50] (λs i wi=>∃(j:Nat) (A2:Option Addr) (c2:Nat) (ms:List (List UInt8)),j<=p.fs.length/\s=.slice A2 ms.length c2/\i=.int .i64 j/\ms=(ls++[lineS p.d])++(p.fs.take j).map lineF/\ms.length=ls.length+1+j/\Row wi w.heap.size 9 1 A2 ms.length c2 (nmC (ms.map bs))/\Box wi w.heap.size 26 #[.slice o.A o.ps.length o.c,.slice o.Y o.ys.length o.yc]/\Below w.heap.size w wi) (λ_ i _=>p.fs.length-(intOf i).toNat)
    case atStart=>exact⟨0,A7,c7,ls++[lineS p.d],Nat.zero_le _,by simp,rfl,by simp,by simp,by simpa using HW7.o,HX7.o,HB7.o⟩
    case round=>
     rename World=>wi
     clear HW7 HX7 HB7 HS7;obtain⟨j,A2,c2,ms,hj,rfl,rfl,hms,hml,hrow,hbox,hb⟩:=hrel;have HMS:=h_ hms;have HML:=h_ hml;have hml2:ms.length<=63:=by omega
     have HW:=h_ hrow;have HX:=h_ hbox;have HB:=h_ hb;clear hms hrow hbox hb hml;by_cases hltj:j<p.fs.length
     ·obtain⟨fb,fo,hFA,hfb,hfc⟩:=(HRS.o.2.below HB.o).row fixupC_len (by decide) hltj;have f0:=hfc 0 _ rfl;have f1:=hfc 1 _ rfl;have f2:=hfc 2 _ rfl;have f3:=hfc 3 _ rfl;simp only[Nat.add_zero]at f0;have HFS:=h_ (show(p.fs.take (j+1)).map lineF=(p.fs.take j).map lineF++[lineF p.fs[j]]from by rw[take_succ hltj,List.map_append];rfl);have HGF:=h_ (HGS.o.2 p.fs[j] (List.getElem_mem hltj));rw[hFA];clear hfc hFA;generalize p.fs[j]=f at *;obtain⟨f1',f2',f3',f4'⟩:=f;simp only at f0 f1 f2 f3;have HNF:=h_ (num4 HGF.o.1 HGF.o.2.1 HGF.o.2.2.1 HGF.o.2.2.2);simp only at HNF;have BF:Below wi.heap.size wi (wi.alloc (.cells #[.int .i64 f1',.int .i64 f2',.int .i64 f3',.int .i64 f4'] 65)):=b_;have HFB:=h_ (Box.new wi 65 #[.int .i64 f1',.int .i64 f2',.int .i64 f3',.int .i64 f4']);replace HB:=c_ HB BF;replace HX:=h_ (HX.o.call BF);replace HW:=h_ (HW.o.call BF);clear BF;have BG:Below (wi.alloc (.cells #[.int .i64 f1',.int .i64 f2',.int .i64 f3',.int .i64 f4'] 65)).heap.size (wi.alloc (.cells #[.int .i64 f1',.int .i64 f2',.int .i64 f3',.int .i64 f4'] 65)) ((wi.alloc (.cells #[.int .i64 f1',.int .i64 f2',.int .i64 f3',.int .i64 f4'] 65)).alloc (.cells #[.int .i64 f1',.int .i64 f2',.int .i64 f3',.int .i64 f4'] 3)):=b_;have hz:((wi.alloc (.cells #[.int .i64 f1',.int .i64 f2',.int .i64 f3',.int .i64 f4'] 65)).alloc (.cells #[.int .i64 f1',.int .i64 f2',.int .i64 f3',.int .i64 f4'] 3)).heap.size=wi.heap.size+2:=by simp
      have HL:=h_ (show Rd ((wi.alloc (.cells #[.int .i64 f1',.int .i64 f2',.int .i64 f3',.int .i64 f4'] 65)).alloc (.cells #[.int .i64 f1',.int .i64 f2',.int .i64 f3',.int .i64 f4'] 3)) ((wi.alloc (.cells #[.int .i64 f1',.int .i64 f2',.int .i64 f3',.int .i64 f4'] 65)).alloc (.cells #[.int .i64 f1',.int .i64 f2',.int .i64 f3',.int .i64 f4'] 3)).heap.size (some ⟨wi.heap.size+1,0,none⟩) (ints .i64 [f1',f2',f3',f4'])from by
       have h:=rd_lit (wi.alloc (.cells #[.int .i64 f1',.int .i64 f2',.int .i64 f3',.int .i64 f4'] 65)) #[.int .i64 f1',.int .i64 f2',.int .i64 f3',.int .i64 f4'] 3 _ rfl;have h2:=h.more (Nat.le_of_eq (show(wi.alloc (.cells #[.int .i64 f1',.int .i64 f2',.int .i64 f3',.int .i64 f4'] 65)).heap.size+1=((wi.alloc (.cells #[.int .i64 f1',.int .i64 f2',.int .i64 f3',.int .i64 f4'] 65)).alloc (.cells #[.int .i64 f1',.int .i64 f2',.int .i64 f3',.int .i64 f4'] 3)).heap.size from by simp));have h3:(wi.alloc (.cells #[.int .i64 f1',.int .i64 f2',.int .i64 f3',.int .i64 f4'] 65)).heap.size=wi.heap.size+1:=by simp
       rw[h3]at h2;exact h2)
      clear hz;replace HB:=c_ HB BG;replace HX:=h_ (HX.o.call BG);replace HW:=h_ (HW.o.call BG);clear BG;have f0:=d_ HFB.o 0;have f1:=d_ HFB.o 1;have f2:=d_ HFB.o 2;have f3:=d_ HFB.o 3;go_wp2_with fail
      clear f0 f1 f2 f3;generalize (wi.alloc (.cells #[.int .i64 f1',.int .i64 f2',.int .i64 f3',.int .i64 f4'] 65)).alloc (.cells #[.int .i64 f1',.int .i64 f2',.int .i64 f3',.int .i64 f4'] 3)=w8 at *;refine(line_of ⟨#[102,105,120,117,112]⟩ ⟨#[]⟩ fixW rfl _ [f1',f2',f3',f4'] 4 w8 (HE.o.below HB.o) HL.o (by decide) (by decide) (by simp) HNF.o).mono ?_;rintro e w9 ⟨rfl,b9⟩;clear HL HFB;replace HB:=c_ HB b9;replace HX:=h_ (HX.o.call b9);replace HW:=h_ (HW.o.call b9);clear b9;have HLF:=h_ (show bs (lineW fixW (nmL ⟨#[]⟩) [f1',f2',f3',f4'])=bs (lineF (f1',f2',f3',f4'))from rfl);rw[HLF.o];have BA:Below w9.heap.size w9 (w9.alloc (.cells #[.string (bs (lineF (f1',f2',f3',f4')))] 9)):=b_;replace HB:=c_ HB BA;replace HX:=h_ (HX.o.call BA);replace HW:=h_ (HW.o.call BA);clear BA;go_wp2_with (at_builtin;refine wpList_app (w9.alloc (.cells #[.string (bs (lineF (f1',f2',f3',f4')))] 9)) rfl (.tmp 54) (.tmp 65) 28 rfl 9 i0 (.string ByteArray.empty) 1 16 Tryz.underlying28 HI.o.1 HI.o.2.1 HI.o.2.2.1 HI.o.2.2.2 rfl (by decide) w.heap.size A2 ms.length c2 (nmC (ms.map bs)) rfl HW.o HB.o.size (some ⟨w9.heap.size,0,none⟩) 1 1 [.string (bs (lineF (f1',f2',f3',f4')))] rfl (rd_lit w9 #[.string (bs (lineF (f1',f2',f3',f4')))] 9 _ rfl) rfl (λh=>by cases h) (one_str _) ?n1 ?n2 ?_)
      case n1=>unfold maxLen;omega
      case n2=>omega
      intro A9 n9 c9 wz hn9 o9 g9 k9;subst hn9;have HX9:=h_ (HX.o.grown g9 (HW.o.box HX.o (by decide)));have HB9:=h_ (HB.o.grown g9 HB.o.size (λj hj=>(HW.o.lt j hj).1));have HW9:=h_ (show Row wz w.heap.size 9 1 A9 (ms++[lineF (f1',f2',f3',f4')]).length c9 (nmC ((ms++[lineF (f1',f2',f3',f4')]).map bs))from by
       rw[List.length_append,nmC_snoc];exact o9)
      have hq:=HML.o;have HLN9:=h_ (show(ms++[lineF (f1',f2',f3',f4')]).length=ls.length+1+(j+1)from by rw[List.length_append,hq];rfl);have HMN9:=h_ (show ms++[lineF (f1',f2',f3',f4')]=(ls++[lineS p.d])++(p.fs.take (j+1)).map lineF from by rw[HFS.o,HMS.o,List.append_assoc]);clear o9 g9 k9 HW HX HB hq;go_wp2_with fail
      refine⟨⟨j+1,A9,c9,_,by omega,by simp,by go_num,HMN9.o,HLN9.o,HW9.o,HX9.o,HB9.o⟩,by simp[intOf];omega⟩
     ·have hje:j=p.fs.length:=by omega
      have HLK:=h_ (show ms=linesSs ((o.ps.take (k+1)).map SV.d)from by
       rw[HSN.o,HMS.o,hje,List.take_length,HLS.o];simp[linesS,SV.d])
      have hmk:ms.length<=7*(k+1):=by have:=HML.o;omega
      have HMK:=h_ hmk;clear hmk hje;go_wp2_with fail
      refine⟨⟨k+1,A2,c2,ms,by omega,rfl,by go_num,HLK.o,HMK.o,HW.o,by rw[<-HA.o];exact HX.o,HB.o⟩,by simp[intOf];omega⟩
  ·have hke:k=o.ps.length:=by omega
   have HL0:=h_ (show ls=linesSs (o.ps.map SV.d)from by rw[HLS.o,hke,List.take_length]);have hl56:ls.length<=56:=by omega
   clear hke;have x1:=d_ HX.o 1;have hxl:=HX.o.lt;go_wp2_with fail
   clear x1 hxl;go_loopw [3,72] (λs i wi=>∃(j:Nat) (A2:Option Addr) (c2:Nat) (ms:List (List UInt8)),j<=o.ys.length/\s=.slice A2 ms.length c2/\i=.int .i64 j/\ms=ls++(o.ys.take j).map lineY/\ms.length=ls.length+j/\Row wi w.heap.size 9 1 A2 ms.length c2 (nmC (ms.map bs))/\Below w.heap.size w wi) (λ_ i _=>o.ys.length-(intOf i).toNat)
   case atStart=>exact⟨0,A1,c1,ls,Nat.zero_le _,rfl,rfl,by simp,by simp,HW.o,HB.o⟩
   case round=>
    rename World=>wi
    clear HW HX HB;obtain⟨j,A2,c2,ms,hj,rfl,rfl,hms,hml,hrow,hb⟩:=hrel;have HMS:=h_ hms;have HML:=h_ hml;have hml2:ms.length<=68:=by omega
    have HW:=h_ hrow;have HB:=h_ hb;clear hms hrow hb hml;by_cases hltj:j<o.ys.length
    ·obtain⟨fb,fo,hFA,hfb,hfc⟩:=(HR.o.2.below HB.o).row symbolC_len (by decide) hltj;have f0:=hfc 0 _ rfl;have f1:=hfc 1 _ rfl;have f2:=hfc 2 _ rfl;have f3:=hfc 3 _ rfl;simp only[Nat.add_zero]at f0;have HFS:=h_ (show(o.ys.take (j+1)).map lineY=(o.ys.take j).map lineY++[lineY o.ys[j]]from by rw[take_succ hltj,List.map_append];rfl);have HGF:=h_ (HG.o.2 o.ys[j] (List.getElem_mem hltj));rw[hFA];clear hfc hFA;generalize o.ys[j]=f at *;obtain⟨y1,y2,y3,y4⟩:=f;simp only at f0 f1 f2 f3;have HNF:=h_ (num3 HGF.o.2.1 HGF.o.2.2.1 HGF.o.2.2.2);have HN8:=h_ (nmW_ok HGF.o.1).2;have HLY:=h_ (lineY_eq HGF.o.1);simp only at HNF HN8 HLY;have BF:Below wi.heap.size wi (wi.alloc (.cells #[.string y1,.int .i64 y2,.int .i64 y3,.int .i64 y4] 67)):=b_;have HFB:=h_ (Box.new wi 67 #[.string y1,.int .i64 y2,.int .i64 y3,.int .i64 y4]);replace HB:=c_ HB BF;replace HW:=h_ (HW.o.call BF);clear BF;have BG:Below (wi.alloc (.cells #[.string y1,.int .i64 y2,.int .i64 y3,.int .i64 y4] 67)).heap.size (wi.alloc (.cells #[.string y1,.int .i64 y2,.int .i64 y3,.int .i64 y4] 67)) ((wi.alloc (.cells #[.string y1,.int .i64 y2,.int .i64 y3,.int .i64 y4] 67)).alloc (.cells #[.int .i64 y2,.int .i64 y3,.int .i64 y4] 3)):=b_;have hz:((wi.alloc (.cells #[.string y1,.int .i64 y2,.int .i64 y3,.int .i64 y4] 67)).alloc (.cells #[.int .i64 y2,.int .i64 y3,.int .i64 y4] 3)).heap.size=wi.heap.size+2:=by simp
     have HL:=h_ (show Rd ((wi.alloc (.cells #[.string y1,.int .i64 y2,.int .i64 y3,.int .i64 y4] 67)).alloc (.cells #[.int .i64 y2,.int .i64 y3,.int .i64 y4] 3)) ((wi.alloc (.cells #[.string y1,.int .i64 y2,.int .i64 y3,.int .i64 y4] 67)).alloc (.cells #[.int .i64 y2,.int .i64 y3,.int .i64 y4] 3)).heap.size (some ⟨wi.heap.size+1,0,none⟩) (ints .i64 [y2,y3,y4])from by
      have h:=rd_lit (wi.alloc (.cells #[.string y1,.int .i64 y2,.int .i64 y3,.int .i64 y4] 67)) #[.int .i64 y2,.int .i64 y3,.int .i64 y4] 3 _ rfl;have h2:=h.more (Nat.le_of_eq (show(wi.alloc (.cells #[.string y1,.int .i64 y2,.int .i64 y3,.int .i64 y4] 67)).heap.size+1=((wi.alloc (.cells #[.string y1,.int .i64 y2,.int .i64 y3,.int .i64 y4] 67)).alloc (.cells #[.int .i64 y2,.int .i64 y3,.int .i64 y4] 3)).heap.size from by simp));have h3:(wi.alloc (.cells #[.string y1,.int .i64 y2,.int .i64 y3,.int .i64 y4] 67)).heap.size=wi.heap.size+1:=by simp
      rw[h3]at h2;exact h2)
     clear hz;replace HB:=c_ HB BG;replace HW:=h_ (HW.o.call BG);clear BG;have f0:=d_ HFB.o 0;have f1:=d_ HFB.o 1;have f2:=d_ HFB.o 2;have f3:=d_ HFB.o 3;go_wp2_with fail
     clear f0 f1 f2 f3;generalize ((wi.alloc (.cells #[.string y1,.int .i64 y2,.int .i64 y3,.int .i64 y4] 67)).alloc (.cells #[.int .i64 y2,.int .i64 y3,.int .i64 y4] 3))=w8 at *;refine(line_of ⟨#[115,121,109,98,111,108]⟩ y1 symW rfl _ [y2,y3,y4] 3 w8 (HE.o.below HB.o) HL.o (by decide) (by have:=HN8.o;exact Nat.le_trans this (by omega)) (by simp) HNF.o).mono ?_;rintro e w9 ⟨rfl,b9⟩;clear HL HFB;replace HB:=c_ HB b9;replace HW:=h_ (HW.o.call b9);clear b9;rw[<-HLY.o];have BA:Below w9.heap.size w9 (w9.alloc (.cells #[.string (bs (lineY (y1,y2,y3,y4)))] 9)):=b_;replace HB:=c_ HB BA;replace HW:=h_ (HW.o.call BA);clear BA;go_wp2_with (at_builtin;refine wpList_app (w9.alloc (.cells #[.string (bs (lineY (y1,y2,y3,y4)))] 9)) rfl (.tmp 76) (.tmp 87) 28 rfl 9 i0 (.string ByteArray.empty) 1 16 Tryz.underlying28 HI.o.1 HI.o.2.1 HI.o.2.2.1 HI.o.2.2.2 rfl (by decide) w.heap.size A2 ms.length c2 (nmC (ms.map bs)) rfl HW.o HB.o.size (some ⟨w9.heap.size,0,none⟩) 1 1 [.string (bs (lineY (y1,y2,y3,y4)))] rfl (rd_lit w9 #[.string (bs (lineY (y1,y2,y3,y4)))] 9 _ rfl) rfl (λh=>by cases h) (one_str _) ?n1 ?n2 ?_)
     case n1=>unfold maxLen;omega
     case n2=>omega
     intro A9 n9 c9 wz hn9 o9 g9 k9;subst hn9;have HB9:=h_ (HB.o.grown g9 HB.o.size (λj hj=>(HW.o.lt j hj).1));have HW9:=h_ (show Row wz w.heap.size 9 1 A9 (ms++[lineY (y1,y2,y3,y4)]).length c9 (nmC ((ms++[lineY (y1,y2,y3,y4)]).map bs))from by
      rw[List.length_append,nmC_snoc];exact o9)
     have hq:=HML.o;have HLN9:=h_ (show(ms++[lineY (y1,y2,y3,y4)]).length=ls.length+(j+1)from by rw[List.length_append,hq];rfl);have HMN9:=h_ (show ms++[lineY (y1,y2,y3,y4)]=ls++(o.ys.take (j+1)).map lineY from by rw[HFS.o,HMS.o,List.append_assoc]);clear o9 g9 k9 HW HB hq;go_wp2_with fail
     refine⟨⟨j+1,A9,c9,_,by omega,by simp,by go_num,HMN9.o,HLN9.o,HW9.o,HB9.o⟩,by simp[intOf];omega⟩
    ·have hje:j=o.ys.length:=by omega
     have HEND:=h_ (show(dumpL o.d).map bs=ms.map bs from by
      rw[HV.o,linesO,HMS.o,hje,List.take_length,HL0.o]
      rfl)
     have hlm:(ms.map bs).length=ms.length:=List.length_map ..;clear hje;go_wp2_with fail
     go_ret;rw[HEND.o];exact⟨A2,c2,by rw[hlm];rfl,by rw[hlm];exact HW.o,HB.o⟩
end CDumpI
/- Rows of texts in the laws: copied,sized,compared,marked. -/
namespace CStrRows
open Kit CMarkText CSorted CNames CWordsS BStore
theorem rd_nm{w:World}{B:Nat}{A:Option Addr}{xs:List ByteArray}(h:Rd w B A (nmC xs)){k:Nat}(hk:k<xs.length):∃b off,A=some ⟨b,off,none⟩/\b<B/\w.cell? ⟨b,off+k,none⟩=some (.string xs[k]):=by obtain⟨b,off,h1,h2,h3⟩:=h k (.string xs[k]) (by simp[nmC,List.getElem?_eq_getElem hk]);exact⟨b,off,h1,h2,h3⟩
theorem sameTexts_same(A A':Option Addr)(xs:List ByteArray)(c c':Nat)(w:World)(hr:Rd w w.heap.size A (nmC xs))(hr':Rd w w.heap.size A' (nmC xs))(hm:xs.length<=2000000):
  Calls Tryz.prog 10 #[.slice A xs.length c,.slice A' xs.length c'] w (Ret (.bool true) w):=by
 have HR:=h_ hr;have HR':=h_ hr';clear hr hr';go_enter Tryz.func10,Tryz.ntmps10
 go_wp2_with fail
 go_loopw [5] (λi wi=>∃k:Nat,k<=xs.length/\i=.int .i64 k/\Below w.heap.size w wi) (λi _=>xs.length-(intOf i).toNat)
 case atStart=>exact⟨0,Nat.zero_le _,rfl,Below.refl _ _⟩
 case round=>
  obtain⟨k,hk,rfl,hb⟩:=hrel;have HB:=h_ hb;by_cases hlt:k<xs.length
  ·obtain⟨b,off,rfl,hbg,hc⟩:=rd_nm (HR.o.below hb) hlt;obtain⟨b',off',rfl,hbg',hc'⟩:=rd_nm (HR'.o.below hb) hlt;clear hb;generalize xs[k]=x at *;go_wp2_with fail
   go_quiet (fail)
   replace HB:=h_ (Kit.Below.drewN HB.o nq);go_wp2_with fail
   refine⟨⟨k+1,by omega,by go_num,HB.o⟩,by simp[intOf];omega⟩
  ·have hke:k=xs.length:=by omega
   subst hke;clear hb;go_wp2_with fail
   go_ret;exact⟨rfl,HB.o⟩
end CStrRows
/- slices.Equal on texts that are read,strings.Cut at a space. -/
namespace CEqN
open Kit CNumTxt PNum PDump CHexI CHexS CSorted CNames CWordsS BStore BDesk PDesk CStrRows
theorem nm_cells{w:World}{B b off:Nat}{xs:List ByteArray}(h:Rd w B (some ⟨b,off,none⟩) (nmC xs)):∀j,j<xs.length->w.cell? ⟨b,off+j,none⟩=some (.string (xs.getD j ByteArray.empty)):=by
 intro j hj;obtain⟨b',off',h1,_,h3⟩:=rd_nm h hj;injection h1 with h1;injection h1 with h1 h2;subst h1;subst h2;rw[h3,List.getD_eq_getElem?_getD,List.getElem?_eq_getElem hj]
 rfl
theorem equalN_any(A A':Option Addr)(xs ys:List ByteArray)(c c':Nat)(w:World)(hr:Rd w w.heap.size A (nmC xs))(hr':Rd w w.heap.size A' (nmC ys))(h1:xs.length<=9223372036854775807)(h2:ys.length<=9223372036854775807):
  Calls Tryz.prog 94 #[.slice A xs.length c,.slice A' ys.length c'] w (Ret (.bool (decide (xs=ys))) w):=by
 by_cases hl:xs.length=ys.length
 ·by_cases h0:xs.length=0
  ·have hx:xs=[]:=List.eq_nil_of_length_eq_zero h0;have hy:ys=[]:=List.eq_nil_of_length_eq_zero (by omega);subst hx;subst hy;refine(XDesk.slices_Equal_string_empty A A' c 0 c' w (by omega)).mono ?_;rintro e w' ⟨rfl,rfl⟩;exact⟨by simp,Below.refl _ _⟩
  ·obtain⟨b,off,rfl,_,_⟩:=rd_nm hr (k:=0) (by omega);obtain⟨b',off',rfl,_,_⟩:=rd_nm hr' (k:=0) (by omega);refine(XDesk.slices_Equal_string b off xs.length c b' off' ys.length c' xs ys w (Nat.le_refl _) (Nat.le_refl _) (by omega) (by omega) (nm_cells hr) (nm_cells hr')).mono ?_;rintro e w' ⟨rfl,q,rfl⟩;rw[List.take_length,List.take_length];exact⟨rfl,Kit.Below.drewN (Below.refl _ _) q⟩
 ·refine(XDesk.slices_Equal_string_lens A A' xs.length c ys.length c' w hl).mono ?_;rintro e w' ⟨rfl,rfl⟩;have:¬xs=ys:=λh=>hl (by rw[h]);rw[decide_eq_false this];exact⟨rfl,Below.refl _ _⟩
theorem cut_any(s:ByteArray)(hs:s.size<=1048576)(w:World)(he:Env w):
  Calls Tryz.prog 45 #[.string s,.string ⟨#[32]⟩] w λe w'=>(∃b,e=.returned (.tuple #[.string (bs (cutW s.data.toList)),.string (bs (cutR s.data.toList)),.bool b]))/\Below w.heap.size w w':=by
 obtain⟨m,hm⟩:=he.mx;refine(XDesk.strings_Cut s ⟨#[32]⟩ m w (by omega) hm).mono ?_;rintro e w' ⟨rfl,q,rfl⟩;obtain⟨h1,h2⟩:=lib_cut s.data.toList;have e1:(⟨#[32]⟩:ByteArray).data.toList=[32]:=rfl;rw[e1,h1,h2];exact⟨⟨_,rfl⟩,Kit.Below.drewN (Below.refl _ _) q⟩
end CEqN
/- How large an object is that is read out of lines: plain. -/
namespace PStep
open Kit CCode CName CNumTxt CFixups CSymbols PObj PValid PClear PNum PDump CWordsS
def SzD(n k:Nat)(d:OD):Prop:=d.ss.length<=k/\d.ys.length<=k/\(∀s∈d.ss,s.nm.size<=n/\s.zs.length<=n/\s.fs.length<=k)/\∀y∈d.ys,y.1.size<=n
theorem sz_more{n k:Nat}{d:OD}(h:SzD n k d):SzD n (k+1) d:=⟨by have:=h.1;omega,by have:=h.2.1;omega,λs hs=>⟨(h.2.2.1 s hs).1,(h.2.2.1 s hs).2.1,by have:=(h.2.2.1 s hs).2.2;omega⟩,h.2.2.2⟩
theorem sz_nil(n k:Nat):SzD n k ⟨[],[]⟩:=⟨by simp,by simp,(λs hs=>absurd hs List.not_mem_nil),(λs hs=>absurd hs List.not_mem_nil)⟩
theorem bs_sz(l:List UInt8):(bs l).size=l.length:=by
 show l.toArray.size=_
 simp
theorem sz_addS{n k:Nat}{d:OD}{s:SD}(h:SzD n k d)(h1:s.nm.size<=n)(h2:s.zs.length<=n)(h3:s.fs=[]):SzD n (k+1) (addS d s):=by
 refine⟨by simp only[addS,List.length_append,List.length_singleton];have:=h.1;omega,by have:=h.2.1;show d.ys.length<=_;omega,λx hx=>?_,h.2.2.2⟩;rcases List.mem_append.1 hx with hx|hx
 ·have:=h.2.2.1 x hx;exact⟨this.1,this.2.1,by omega⟩
 ·rw[List.mem_singleton.1 hx];exact⟨h1,h2,by rw[h3];simp⟩
theorem sz_addY{n k:Nat}{d:OD}{y:YD}(h:SzD n k d)(h1:y.1.size<=n):SzD n (k+1) (addY d y):=by
 refine⟨by have:=h.1;show d.ss.length<=_;omega,by simp only[addY,List.length_append,List.length_singleton];have:=h.2.1;omega,λs hs=>(sz_more h).2.2.1 s hs,λx hx=>?_⟩;rcases List.mem_append.1 hx with hx|hx
 ·exact h.2.2.2 x hx
 ·rw[List.mem_singleton.1 hx];exact h1
theorem sz_addF{n k:Nat}{d d':OD}{f:FD}(h:SzD n k d)(e:addF d f=some d'):SzD n (k+1) d':=by
 unfold addF at e;cases hl:d.ss.getLast? with
 |none=>rw[hl]at e;cases e
 |some s=>
  rw[hl]at e;simp only[Option.some.injEq]at e;subst e;have hs:=h.2.2.1 s (List.mem_of_getLast? hl);refine⟨?_,by have:=h.2.1;show d.ys.length<=_;omega,λx hx=>?_,h.2.2.2⟩
  ·simp only[List.length_append,List.length_dropLast,List.length_singleton];have:=h.1;omega
  ·rcases List.mem_append.1 hx with hx|hx
   ·exact(sz_more h).2.2.1 x (List.dropLast_subset _ hx)
   ·rw[List.mem_singleton.1 hx];refine⟨hs.1,hs.2.1,?_⟩;show(s.fs++[f]).length<=_
    rw[List.length_append,List.length_singleton];omega
theorem splt_bd(c:UInt8)(l:List UInt8)(i:Nat):((splt c l).getD i []).length<=l.length:=by
 rw[List.getD_eq_getElem?_getD];by_cases hi:i<(splt c l).length
 ·rw[List.getElem?_eq_getElem hi];exact splt_mem c l _ (List.getElem_mem hi)
 ·rw[List.getElem?_eq_none (by omega)];simp
theorem unhex_le{l:List UInt8}{zs:List Int}(h:unhex l=some zs):zs.length<=l.length:=by have:=unhex_len h;omega
theorem sz_wordI{n k:Nat}{d d':OD}{ws:List (List UInt8)}{hx:List UInt8}(h:SzD n k d)(h1:(ws.getD 1 []).length<=n)(h2:hx.length<=n)(e:wordI d ws hx=some d'):SzD n (k+1) d':=by
 unfold wordI at e;split at e
 ·cases e
 split at e
 ·obtain⟨ns,_,e⟩:=Option.bind_eq_some_iff.1 e;exact sz_addF h e
 ·obtain⟨ns,_,e⟩:=Option.bind_eq_some_iff.1 e;split at e
  ·obtain⟨zs,hz,rfl⟩:=Option.map_eq_some_iff.1 e;exact sz_addS h (by show(bs _).size<=n;rw[bs_sz];exact h1) (Nat.le_trans (unhex_le hz) h2) rfl
  ·injection e with e;subst e;exact sz_addY h (by show(bs _).size<=n;rw[bs_sz];exact h1)
theorem sz_stepI{n k:Nat}{d d':OD}{l:List UInt8}(h:SzD n k d)(hl:l.length<=n)(e:stepI d l=some d'):SzD n (k+1) d':=by
 unfold stepI at e;have hb:=splt_bd (32:UInt8) l;refine sz_wordI h ?_ ?_ e
 ·unfold takeHex;split
  ·simp only;rw[List.getD_eq_getElem?_getD];by_cases hi:1<((splt 32 l).take 5).length
   ·rw[List.getElem?_eq_getElem hi,List.getElem_take];have h2:=hb 1;rw[List.getD_eq_getElem?_getD,List.getElem?_eq_getElem (by rw[List.length_take]at hi;omega)]at h2;simp only[Option.getD_some]at h2 ⊢;omega
   ·rw[List.getElem?_eq_none (by omega)];simp
  ·have:=hb 1;simp only;omega
 ·unfold takeHex;split
  ·have:=hb 5;simp only;omega
  ·simp
theorem sz_wordS{n k:Nat}{d d':OD}{ws:List (List UInt8)}(h:SzD n k d)(hb:∀i,(ws.getD i []).length<=n)(e:wordS d ws=some d'):SzD n (k+1) d':=by
 unfold wordS at e;split at e
 ·injection e with e;subst e;refine sz_addS h (by show(bs _).size<=n;rw[bs_sz];exact hb 1) ?_ rfl;show(hexS ws).length<=n
  unfold hexS;split
  ·cases hu:unhex (ws.getD 5 [])with
   |none=>simp
   |some zs=>exact Nat.le_trans (unhex_le hu) (hb 5)
  ·simp
 split at e
 ·exact sz_addF h e
 split at e
 ·injection e with e;subst e;exact sz_addY h (by show(bs _).size<=n;rw[bs_sz];exact hb 1)
 ·cases e
theorem sz_stepS{n k:Nat}{d d':OD}{l:List UInt8}(h:SzD n k d)(hl:l.length<=n)(e:stepS d l=some d'):SzD n (k+1) d':=
 sz_wordS h (λi=>Nat.le_trans (splt_bd 32 l i) hl) e
end PStep
end Go.Proofs.YtepoiphmmjfbdaaGreatDoor
