/- The draw of an object. -/
import Derived.Test.YtepoiphmmjfbdaaGreatDoorFnDeskRunM16
set_option linter.unusedSimpArgs false
set_option linter.unusedVariables false
set_option maxRecDepth 200000
open Go.ChangeShapes Go.WideShapes Go.ChangeAt Go.RowKit
namespace Go.Proofs.YtepoiphmmjfbdaaGreatDoor
namespace DObject
open Kit CFixups CSymbols PObj BObj PValid CSecValid CMarkRows CCopyS DPick DVar DName DBytes DSection BObj2 CEqual
def SmallO(d:OD):Prop:=d.ss.length<=4/\d.ys.length<=13/\(∀s∈d.ss,SmallS s)/\∀y∈d.ys,y.1.size<=9
def DrewO(w0 w:World)(B R:Nat)(N:Int)(e:Ending)(w':World):Prop:=∃o:OV,e=.returned o.v/\SmallO o.d/\OwnO w' w.heap.size o/\Tp w0 w' B R N/\w.grownBy w' (some R)
theorem smallS{A Y:Option Addr}{c yc:Nat}{A':Option Addr}{c':Nat}{ps:List SV}{ys:List YD}{q:SV}(h:SmallO (OV.d ⟨A,c,ps,Y,yc,ys⟩))(hl:ps.length<=3)(hq:SmallS q.d):SmallO (OV.d ⟨A',c',ps++[q],Y,yc,ys⟩):=by
 refine⟨by simp[OV.d];omega,h.2.1,λs hs=>?_,h.2.2.2⟩;simp only[OV.d,List.map_append,List.map_cons,List.map_nil]at hs;rcases List.mem_append.1 hs with hs|hs
 ·exact h.2.2.1 s hs
 ·rw[List.mem_singleton.1 hs];exact hq
theorem smallY{A Y:Option Addr}{c yc:Nat}{Y':Option Addr}{c':Nat}{ps:List SV}{ys zs:List YD}(h:SmallO (OV.d ⟨A,c,ps,Y,yc,ys⟩))(hl:ys.length<=5)(hz:zs.length<=8)(hq:∀y∈zs,y.1.size<=9):SmallO (OV.d ⟨A,c,ps,Y',c',ys++zs⟩):=by
 refine⟨h.1,by simp[OV.d];omega,h.2.2.1,λy hy=>?_⟩;have hy:y∈ys++zs:=hy;rcases List.mem_append.1 hy with hy|hy
 ·exact h.2.2.2 y hy
 ·exact hq y hy
structure Mid(w wx:World)(B R O:Nat)(N:Int)(o:OV):Prop where
 own:OwnO wx w.heap.size o
 bx:Box wx O 26 #[.slice o.A o.ps.length o.c,.slice o.Y o.ys.length o.yc]
 by_:Box wx w.heap.size 26 #[.slice none 0 0,.slice none 0 0]
 t:Tp w wx B R N
 sz:w.heap.size<O
section
variable {w wx wy:World}{B R O:Nat}{N M:Int}{o:OV}
theorem Mid.turn (h:Mid w wx B R O N o)(g:wx.grownBy wy (some R))(hR:R<w.heap.size)(T:Tp w wy B R M):Mid w wy B R O M o:=
 ⟨h.own.grownR g hR,h.bx.grown g (by intro k hk;injection hk with hk;have:=h.sz;omega),h.by_.grown g (by intro k hk;injection hk with hk;omega),T,h.sz⟩
theorem Mid.more (h:Mid w wx B R O N o)(hM:N<=M):Mid w wx B R O M o:=⟨h.own,h.bx,h.by_,h.t.more hM,h.sz⟩
theorem Mid.call (h:Mid w wx B R O N o)(hb:Below wx.heap.size wx wy):Mid w wy B R O N o:=⟨h.own.call hb,h.bx.call hb,h.by_.call hb,h.t.call hb,h.sz⟩
theorem Mid.addS (h:Mid w wx B R O N o)(hR:R<w.heap.size){q:SV}(hq:RwS wx w.heap.size q){K:Nat}(hold:∀p∈o.ps,∀k,sblk p k->k<K)(hnew:∀k,sblk q k->K<=k){A':Option Addr}{n' c':Nat}(hn:n'=o.ps.length+1)
  (row:Row wy w.heap.size 61 6 A' n' c' (cellsOf secC o.ps++secC q))(g:wx.grownBy wy (blk o.A o.c)):Mid w (wy.setCell ⟨O,0,none⟩ (.slice A' n' c')) B R O N {o with A:=A',c:=c',ps:=o.ps++[q]}:=by
 have hO:=h.own.addS hq hold hnew hn row g;have hX:=h.bx.grown g (h.own.1.1.box h.bx (by decide));refine⟨hO.set (hO.ne_box hX (by decide) (by decide) (by decide) (by decide)) _,?_,?_,?_,h.sz⟩
 ·have hb:=hX.set 0 (.slice A' n' c');rw[hn]at hb ⊢;show Box _ O _ #[.slice A' (o.ps++[q]).length c',.slice o.Y o.ys.length o.yc]
  rw[List.length_append];exact hb
 ·exact(h.by_.grown g (h.own.1.1.box h.by_ (by decide))).far (p:=⟨O,0,none⟩) (by have:=h.sz;show w.heap.size≠O;omega) _
 ·exact(h.t.own g (λk hk=>by have:=(h.own.1.1.lt k hk).1;omega)).set (a:=⟨O,0,none⟩) (by have:=h.sz;show w.heap.size<=O;omega) (by have:=h.sz;show R<O;omega) _
theorem Mid.addY (h:Mid w wx B R O N o)(hR:R<w.heap.size)(zs:List YD){Y':Option Addr}{n' c':Nat}(hn:n'=o.ys.length+zs.length)
  (row:Row wy w.heap.size 67 4 Y' n' c' (cellsOf symbolC o.ys++cellsOf symbolC zs))(g:wx.grownBy wy (blk o.Y o.yc)):Mid w (wy.setCell ⟨O,1,none⟩ (.slice Y' n' c')) B R O N {o with Y:=Y',yc:=c',ys:=o.ys++zs}:=by
 have hO:=h.own.addY zs hn row g;have hX:=h.bx.grown g (h.own.2.box h.bx (by decide));refine⟨hO.set (hO.ne_box hX (by decide) (by decide) (by decide) (by decide)) _,?_,?_,?_,h.sz⟩
 ·have hb:=hX.set 1 (.slice Y' n' c');rw[hn]at hb ⊢;show Box _ O _ #[.slice o.A o.ps.length o.c,.slice Y' (o.ys++zs).length c']
  rw[List.length_append];exact hb
 ·exact(h.by_.grown g (h.own.2.box h.by_ (by decide))).far (p:=⟨O,1,none⟩) (by have:=h.sz;show w.heap.size≠O;omega) _
 ·exact(h.t.own g (λk hk=>by have:=(h.own.2.lt k hk).1;omega)).set (a:=⟨O,1,none⟩) (by have:=h.sz;show w.heap.size<=O;omega) (by have:=h.sz;show R<O;omega) _
theorem Mid.newY (h:Mid w wx B R O N o)(hR:R<w.heap.size){zs:List YD}{Y':Option Addr}{n' c':Nat}(hn:n'=zs.length)
  (row:Row wx w.heap.size 67 4 Y' n' c' (cellsOf symbolC zs)):Mid w (wx.setCell ⟨O,1,none⟩ (.slice Y' n' c')) B R O N {o with Y:=Y',yc:=c',ys:=zs}:=by
 subst hn;have hO:OwnO wx w.heap.size {o with Y:=Y',yc:=c',ys:=zs}:=⟨h.own.1,row⟩;refine⟨hO.set (hO.ne_box h.bx (by decide) (by decide) (by decide) (by decide)) _,h.bx.set 1 _,?_,?_,h.sz⟩
 ·exact h.by_.far (p:=⟨O,1,none⟩) (by have:=h.sz;show w.heap.size≠O;omega) _
 ·exact h.t.set (a:=⟨O,1,none⟩) (by have:=h.sz;show w.heap.size<=O;omega) (by have:=h.sz;show R<O;omega) _
theorem Mid.ret {w0:World}{N0:Int}(h:Mid w wx B R O N o)(hR:R<w.heap.size)(T:Tp w0 w B R N0)(hs:SmallO o.d)(hM:N<=M):
  DrewO w0 w B R M (.returned o.v) ((wx.setCell ⟨w.heap.size,0,none⟩ (.slice o.A o.ps.length o.c)).setCell ⟨w.heap.size,1,none⟩ (.slice o.Y o.ys.length o.yc)):=by
 have hne:=h.own.ne_box h.by_ (by decide) (by decide) (by decide) (by decide);have T4:=(h.t.set (a:=⟨w.heap.size,0,none⟩) (Nat.le_refl _) hR (.slice o.A o.ps.length o.c)).set (a:=⟨w.heap.size,1,none⟩) (Nat.le_refl _) hR (.slice o.Y o.ys.length o.yc);refine⟨o,rfl,hs,?_,(tp_tr T T4).more hM,T4.2⟩;exact OwnO.set (a:=⟨w.heap.size,1,none⟩) (OwnO.set (a:=⟨w.heap.size,0,none⟩) h.own hne _) hne _
theorem Mid.setS (h:Mid w wx B R O N o)(hR:R<w.heap.size){S i:Nat}{u:Value}(hS:∀k,oblk o k->k≠S)(hO:O<S):Mid w (wx.setCell ⟨S,i,none⟩ u) B R O N o:=
 ⟨h.own.set hS u,h.bx.far (p:=⟨S,i,none⟩) (by show O≠S;omega) u,h.by_.far (p:=⟨S,i,none⟩) (by have:=h.sz;show w.heap.size≠S;omega) u,
  h.t.set (a:=⟨S,i,none⟩) (by have:=h.sz;show w.heap.size<=S;omega) (by have:=h.sz;show R<S;omega) u,h.sz⟩
theorem Mid.neS (h:Mid w wx B R O N o){S:Nat}{cs:Array Value}(hb:Box wx S 67 cs)(hY:∀k,blk o.Y o.yc=some k->k<S):∀k,oblk o k->k≠S:=by
 rintro k ((hk|⟨p,hp,hk⟩)|hk)
 ·exact h.own.1.1.box hb (by decide) k hk
 ·exact(h.own.1.2.1 p hp).box hb (by decide) (by decide) k hk
 ·have:=hY k hk;omega
theorem Mid.rdS (h:Mid w wx B R O N o)(hR:R<w.heap.size):∀V,wx.grownBy V (some R)->RdSs V V.heap.size o.A o.ps:=λV hV=>(h.own.grownR hV hR).rd.1
end
theorem made13:(madeCells #[.string ByteArray.empty,.int .i64 0,.int .i64 0,.int .i64 0] 52).toList=cellsOf symbolC (List.replicate 13 ((ByteArray.empty,0,0,0):YD)):=by kernel_rfl
theorem conv_one(W:World)(x:Int):(convert 22 9 (.slice (some ⟨W.heap.size,0,none⟩) 1 1)).run Tryz.prog (W.alloc (.cells #[.int .u8 x] 5))=.ok (.string (strOfNums [x])) (W.alloc (.cells #[.int .u8 x] 5)):=by
 have h:Rd (W.alloc (.cells #[.int .u8 x] 5)) (W.heap.size+1) (some ⟨W.heap.size,0,none⟩) (ints .u8 [x]):=by
  intro i u hi
  match i,hi with
  |0,hi=>simp at hi;subst hi;exact⟨_,_,rfl,Nat.lt_succ_self _,(Box.new W 5 #[.int .u8 x]).cell 0⟩
  |i+1,hi=>simp at hi
 exact conv_run h 1
set_option maxHeartbeats 4000000 in
theorem object_any{w0 w:World}{B R:Nat}{N:Int}(T0:Tp w0 w B R N)(hN:N<=90000)(hN0:0<=N)(n:Int)(hn:0<=n)(hn':n<=1000):
  Calls Tryz.prog 34 #[.pointer (some ⟨R,0,none⟩),.int .i64 n] w (DrewO w0 w B R (N+2000)):=by
 obtain⟨iS,his1,his2,his3,his4⟩:=info_parts BObj.info;have HIS:=h_ (And.intro his1 (And.intro his2 (And.intro his3 his4)));clear his1 his2 his3 his4;obtain⟨iY,hiy1,hiy2,hiy3,hiy4⟩:=info_parts CSymbols.info;have HIY:=h_ (And.intro hiy1 (And.intro hiy2 (And.intro hiy3 hiy4)));clear hiy1 hiy2 hiy3 hiy4;have hR:=T0.lt;have HT0:=h_ T0;have T:=tp_new T0;clear T0;have hs1:w.heap.size<w.heap.size+1:=by omega
 have HM0:=(show Mid w ((w.alloc (.cells #[.slice none 0 0,.slice none 0 0] 26)).alloc (.cells #[.slice none 0 0,.slice none 0 0] 26)) B R (w.heap.size+1) N ⟨none,0,[],none,0,[]⟩from
  ⟨⟨⟨Row.empty _ _ _ _ _,(λp hp=>by cases hp),List.Pairwise.nil⟩,Row.empty _ _ _ _ _⟩,(by have h:=Box.new (w.alloc (.cells #[.slice none 0 0,.slice none 0 0] 26)) 26 #[.slice none 0 0,.slice none 0 0];rwa[World.size_alloc]at h),(Box.new w _ _).alloc _,(T.alloc _).alloc _,hs1⟩)
 have HM:=h_ HM0;clear HM0 T;go_enter Tryz.func34,Tryz.ntmps34
 go_wp2_with fail
 generalize (w.alloc (.cells #[.slice none 0 0,.slice none 0 0] 26)).alloc (.cells #[.slice none 0 0,.slice none 0 0] 26)=w1 at *;have hXO:w.heap.size<w.heap.size+1:=by omega
 generalize w.heap.size+1=O at *;refine(pick_tp HM.o.t (by omega) _ (by omega) (by omega)).mono ?_;rintro e w2 ⟨many,rfl,many0,many1,T1,g1⟩;replace HM:=h_ (HM.o.turn g1 hR T1);clear T1 g1;obtain⟨many,rfl⟩:=Int.eq_ofNat_of_zero_le many0;go_wp2_with fail
 refine(pick_tp HM.o.t (by omega) _ (by omega) (by omega)).mono ?_;rintro e w3 ⟨i0,rfl,i00,i01,T1,g1⟩;replace HM:=h_ (HM.o.turn g1 hR T1);clear T1 g1;obtain⟨i,rfl⟩:=Int.eq_ofNat_of_zero_le i00;go_wp2_with fail
 go_loopw [7] (λk wi=>∃(i:Nat) (o:OV),k=.int .i64 i/\i+o.ps.length<=3/\o.ys=[]/\(∀p∈o.ps,SmallS p.d/\0<=p.sz)/\Mid w wi B R O (N+10+110*(3-i:Int)) o) (λk _=>(intOf k).toNat)
 case atStart=>exact⟨i,_,rfl,by simp;omega,rfl,(λp hp=>by cases hp),HM.o.more (by omega)⟩
 case round=>
  clear HM;obtain⟨i,o,rfl,hi,hys,hps,hm⟩:=hrel;have HM:=h_ hm;have HYS:=h_ hys;have HPS:=h_ hps;clear hm hys hps;by_cases h0:0<i
  ·have x0:=HM.o.bx.cell 0;simp only[g_]at x0;have hxl:=HM.o.bx.lt;go_wp2_with fail
   replace HM:=h_ (HM.o.call (below_dr (Below.refl _ _)));have x0':wr.drew.cell? ⟨O,0,none⟩=some (.slice o.A o.ps.length o.c):=x0;clear x0 hxl;refine Rw.start (by kernel_rfl) ?_;refine w_ 0 rfl ?_;refine wl_ 1 (λV=>V.cell? ⟨O,0,none⟩=some (.slice o.A o.ps.length o.c)) rfl x0' ?_;refine w_ 2 rfl ?_;refine w_ 3 rfl ?_;clear x0';generalize wr.drew=wd at *;refine Rw.one (i:=4) rfl (by kernel_rfl) (λK hK=>?_);go_simp
   have HLT:=h_ (show ∀p∈o.ps,∀k,sblk p k->k<wd.heap.size from λp hp k hk=>((HM.o.own.1.2.1 p hp).lt k hk).2);have hwd:w.heap.size<=wd.heap.size:=Nat.le_of_lt HM.o.by_.lt;refine(section_any (tp_new HM.o.t) (by omega) (by omega) many (by omega) 0 (by omega) (by omega)).mono ?_;rintro e w5 ⟨q,rfl,hq1,hq2,hq3,T1⟩;have g1:=T1.2;have hRO:R<O:=by omega
   refine hK.out _ _ (by repeat' (first|exact trivial|exact(λ_ h=>Rw.cell_grown g1 (by dsimp only;omega) h)|refine And.intro ?_ ?_)) ?_
   clear hK K;try simp only[y1_,y2_,y3_,Act.put,y4_,y5_,y6_]
   replace HM:=h_ (HM.o.turn g1 hR (tp_tr HM.o.t T1));have HQ:=h_ (And.intro hq1 (And.intro (hq2 rfl) hq3));clear T1 g1 hq1 hq2 hq3;refine Rw.one (i:=5) rfl (by kernel_rfl) (λK hK=>?_);go_simp
   have b6:Below w5.heap.size w5 (w5.alloc (.cells #[.string q.nm,.int .i64 q.kd,.int .i64 q.al,.slice q.A q.zs.length q.c,.int .i64 q.sz,.slice q.F q.fs.length q.fc] 61)):=b_;refine hK.out _ _ (by repeat' (first|exact trivial|exact(λ_ h=>Rw.cell_below b6 h)|refine And.intro ?_ ?_)) ?_
   clear hK K;try simp only[y1_,y2_,y3_,Act.put,y4_,y5_,y6_]
   replace HM:=h_ (HM.o.call b6);have HQR:=h_ ((HQ.o.2.2.call b6));clear b6;have hpl:o.ps.length<=3:=by omega
   refine Rw.one (i:=6) rfl (by kernel_rfl) (λK hK=>?_);refine step_app (by rfl) _ _ 23 rfl 61 iS (.agg #[.string ByteArray.empty,.int .i64 0,.int .i64 0,.slice none 0 0,.int .i64 0,.slice none 0 0]) 6 88 Tryz.underlying23 HIS.o.1 HIS.o.2.1 HIS.o.2.2.1 HIS.o.2.2.2 rfl (by decide) w.heap.size o.A o.ps.length o.c (cellsOf secC o.ps) (by rfl) HM.o.own.1.1 (Nat.le_of_lt HM.o.by_.lt) (some ⟨w5.heap.size,0,none⟩) 1 1 (secC q) (by rfl) (rd_lit w5 #[.string q.nm,.int .i64 q.kd,.int .i64 q.al,.slice q.A q.zs.length q.c,.int .i64 q.sz,.slice q.F q.fs.length q.fc] 61 _ rfl) rfl (λh=>by cases h) (one_sec q) (by unfold maxLen;omega) (by omega) ?_;intro A2 n2 c2 w7 hn2 o7 g7 k7;have HMN:=h_ (HM.o.addS hR (HQR.o.down hwd) HLT.o (λk hk=>(HQR.o.lt k hk).1) hn2 o7 g7);have HBX:=h_ (HM.o.bx.grown g7 (HM.o.own.1.1.box HM.o.bx (by decide)));have HN2:=h_ hn2;clear hn2 o7 g7 k7 HM HLT;refine hK.out _ _ (by repeat' (first|exact trivial|exact Rw.out_of (by kernel_rfl)|refine And.intro ?_ ?_)) ?_
   clear hK K;try simp only[y1_,y2_,y3_,Act.put,y4_,y5_,y6_]
   refine w_ 7 rfl ?_;have hb0:=HBX.o.cell 0;have hbf:=HBX.o.frozen 0;have hbl:=HBX.o.lt;simp only[g_]at hb0;refine Rw.one (i:=8) rfl (by kernel_rfl) (λK hK=>?_);go_simp
   refine hK.out _ _ (by repeat' (first|exact trivial|exact Rw.out_of (by kernel_rfl)|refine And.intro ?_ ?_)) ?_
   clear hK K;try simp only[y1_,y2_,y3_,Act.put,y4_,y5_,y6_]
   refine Rw.done (by kernel_rfl) ?_ _;clear hb0 hbf hbl HBX;go_wp2_with fail
   have hn2:=HN2.o;refine⟨⟨i-1,⟨A2,c2,o.ps++[q],o.Y,o.yc,o.ys⟩,congrArg (Value.int .i64) (by omega),?_,HYS.o,?_,HMN.o.more (by omega)⟩,by simp[intOf];omega⟩
   ·show i-1+(o.ps++[q]).length<=3
    rw[List.length_append];show i-1+(o.ps.length+1)<=3
    omega
   ·intro p hp;rcases List.mem_append.1 hp with hp|hp
    ·exact HPS.o p hp
    ·obtain rfl:=List.mem_singleton.1 hp;exact⟨HQ.o.1,HQ.o.2.1⟩
  ·have e0:i=0:=by omega
   subst e0;have hpl:o.ps.length<=3:=by omega
   obtain⟨A,c,ps,Y,yc,ys⟩:=o;have hys:ys=[]:=HYS.o;subst hys;simp only at hpl;have HPS2:=h_ (show ∀p∈ps,0<=p.sz/\p.sz<=49/\p.zs.length<=49 from λp hp=>⟨(HPS.o p hp).2,(HPS.o p hp).1.2.2.2.2.2,(HPS.o p hp).1.2.1⟩);have HPS3:=h_ (show ∀p∈ps,SmallS p.d from λp hp=>(HPS.o p hp).1);clear HYS HPS h0 hi;replace HM:=h_ (HM.o.more (show _<=N+350 by omega));go_wp2_with fail
   go_loopw [8] (λk wi=>∃(k':Nat) (Y:Option Addr) (yc:Nat) (ys:List YD),k'<=many/\k=.int .i64 k'/\ys.length=k'/\(∀y∈ys,y.1.size<=9)/\Mid w wi B R O (N+350+60*(k':Int)) ⟨A,c,ps,Y,yc,ys⟩) (λk _=>many-(intOf k).toNat)
   case atStart=>exact⟨0,Y,yc,[],Nat.zero_le _,rfl,rfl,(λy hy=>by cases hy),HM.o.more (by omega)⟩
   case round=>
    clear HM;obtain⟨k,Y,yc,ys,hk,rfl,hkl,hsm,hm⟩:=hrel;have HM:=h_ hm;have HSM:=h_ hsm;have HKL:=h_ hkl;clear hm hsm hkl;by_cases hlt:k<many
    ·have x0:=HM.o.bx.cell 0;simp only[g_]at x0;have hxl:=HM.o.bx.lt;go_wp2_with fail
     refine(DSymbol.symbol_any (tp_new HM.o.t) (by omega) (by omega) A ps c (HM.o.rdS hR) HPS2.o (by omega) 0 (by omega) (by omega)).mono ?_;rintro e w5 ⟨z,rfl,z9,T1,g1⟩;replace HM:=h_ (HM.o.turn g1 hR (tp_tr HM.o.t T1));clear T1 g1 x0 hxl;go_wp2_with fail
     have HS:=h_ (Box.new w5 67 #[.string z.1,.int .i64 z.2.1,.int .i64 z.2.2.1,.int .i64 z.2.2.2]);have hOS:O<w5.heap.size:=HM.o.bx.lt;have b5:Below w5.heap.size w5 (w5.alloc (.cells #[.string z.1,.int .i64 z.2.1,.int .i64 z.2.2.1,.int .i64 z.2.2.2] 67)):=b_;have HYS:=h_ (show ∀k,blk Y yc=some k->k<w5.heap.size from λk hk=>(HM.o.own.2.lt k hk).2);replace HM:=h_ (HM.o.call b5);clear b5;generalize w5.alloc (.cells #[.string z.1,.int .i64 z.2.1,.int .i64 z.2.2.1,.int .i64 z.2.2.2] 67)=w6 at *;generalize w5.heap.size=S at *;go_loopw [10] (λj wi=>∃(j':Nat) (z:YD),j'<=k/\j=.int .i64 j'/\z.1.size<=9/\Box wi S 67 #[.string z.1,.int .i64 z.2.1,.int .i64 z.2.2.1,.int .i64 z.2.2.2]/\Mid w wi B R O (N+350+60*(k:Int)+50) ⟨A,c,ps,Y,yc,ys⟩) (λj _=>k-(intOf j).toNat)
     case atStart=>exact⟨0,z,Nat.zero_le _,rfl,z9,HS.o,HM.o⟩
     case round=>
      clear HM HS z9;obtain⟨j,z,hj,rfl,z9,hs,hm⟩:=hrel;have HM:=h_ hm;have HS:=h_ hs;have HZ9:=h_ z9;clear hm hs z9;have x1:=d_ HM.o.bx 1;have hkl:=HKL.o;rw[hkl]at x1;have hxl:=HM.o.bx.lt;by_cases hjl:j<k
      ·obtain⟨by',off,hY,hbg,hc⟩:=HM.o.own.2.rd.row symbolC_len (by decide) (show j<ys.length by omega);have hY:Y=some ⟨by',off,none⟩:=hY;generalize ys[j]'(by omega)=y at *;have y0:=hc 0 _ rfl;have y1:=hc 1 _ rfl;simp only[Nat.add_zero]at y0;have HYY:=h_ hY;rw[hY]at x1;clear hc hkl hY;have s0:=d_ HS.o 0;have s1:=d_ HS.o 1
       go_upto_region 14 with(fail)
       go_cut [66]from 44 to 66 (λt wx=>∃b:Bool,t=.bool b/\wx=wr.drew)
       case first=>
        cases hb1:(y.1.toList==z.1.toList)
        ·skip
         refine Rv.start (λW=>W.cell? ⟨O,1,none⟩=some (.slice (some ⟨by',off,none⟩) k yc)/\W.cell? ⟨by',off+j*4,none⟩=some (.string y.1)/\W.cell? ⟨by',off+j*4+1,none⟩=some (.int .i64 y.2.1)/\W.cell? ⟨S,0,none⟩=some (.string z.1)/\W.cell? ⟨S,1,none⟩=some (.int .i64 z.2.1)) (λ_=>false) (by kernel_rfl) ?_;have hHeld:=And.intro x1 (And.intro y0 (And.intro y1 (And.intro s0 s1)));refine v_ 0 rfl ?_;refine vl_ 1 rfl ?_;refine v_ 2 rfl ?_;refine v_ 3 rfl ?_;refine v_ 4 rfl ?_;refine vl_ 5 rfl ?_;refine v_ 6 rfl ?_;refine vl_ 7 rfl ?_;refine v_ 8 rfl ?_;refine Rv.comp (i:=9) (v:=?_) rfl (by kernel_rfl) (by kernel_rfl) (by kernel_rfl) (λ_ _ _ h=>h) (Or.inl ⟨by rfl,?_⟩) ?_
         rotate_left 1
         focus(intro w hSw;(try dsimp only at hSw);go_simp;(try with_reducible rfl))
         try simp only[y1_,y2_,y3_,Act.put,y4_,y5_,y6_]
         refine Rv.comp (i:=10) (v:=undef) rfl (by kernel_rfl) (by kernel_rfl) (by kernel_rfl) (λ_ _ _ h=>h) (Or.inr ⟨by rfl,rfl⟩) ?_;try simp only[y1_,y2_,y3_,Act.put,y4_,y5_,y6_]
         refine Rv.comp (i:=11) (v:=undef) rfl (by kernel_rfl) (by kernel_rfl) (by kernel_rfl) (λ_ _ _ h=>h) (Or.inr ⟨by rfl,rfl⟩) ?_;try simp only[y1_,y2_,y3_,Act.put,y4_,y5_,y6_]
         refine Rv.comp (i:=12) (v:=undef) rfl (by kernel_rfl) (by kernel_rfl) (by kernel_rfl) (λ_ _ _ h=>h) (Or.inr ⟨by rfl,rfl⟩) ?_;try simp only[y1_,y2_,y3_,Act.put,y4_,y5_,y6_]
         refine v_ 13 rfl ?_;refine Rv.comp (i:=14) (v:=?_) rfl (by kernel_rfl) (by kernel_rfl) (by kernel_rfl) (λ_ _ _ h=>h) (Or.inl ⟨by rfl,?_⟩) ?_
         rotate_left 1
         focus(intro w hSw;(try dsimp only at hSw);go_simp;(try with_reducible rfl))
         try simp only[y1_,y2_,y3_,Act.put,y4_,y5_,y6_]
         refine Rv.comp (i:=15) (v:=undef) rfl (by kernel_rfl) (by kernel_rfl) (by kernel_rfl) (λ_ _ _ h=>h) (Or.inr ⟨by rfl,rfl⟩) ?_;try simp only[y1_,y2_,y3_,Act.put,y4_,y5_,y6_]
         refine Rv.comp (i:=16) (v:=undef) rfl (by kernel_rfl) (by kernel_rfl) (by kernel_rfl) (λ_ _ _ h=>h) (Or.inr ⟨by rfl,rfl⟩) ?_;try simp only[y1_,y2_,y3_,Act.put,y4_,y5_,y6_]
         refine Rv.comp (i:=17) (v:=undef) rfl (by kernel_rfl) (by kernel_rfl) (by kernel_rfl) (λ_ _ _ h=>h) (Or.inr ⟨by rfl,rfl⟩) ?_;try simp only[y1_,y2_,y3_,Act.put,y4_,y5_,y6_]
         refine Rv.comp (i:=18) (v:=undef) rfl (by kernel_rfl) (by kernel_rfl) (by kernel_rfl) (λ_ _ _ h=>h) (Or.inr ⟨by rfl,rfl⟩) ?_;try simp only[y1_,y2_,y3_,Act.put,y4_,y5_,y6_]
         refine Rv.comp (i:=19) (v:=undef) rfl (by kernel_rfl) (by kernel_rfl) (by kernel_rfl) (λ_ _ _ h=>h) (Or.inr ⟨by rfl,rfl⟩) ?_;try simp only[y1_,y2_,y3_,Act.put,y4_,y5_,y6_]
         refine Rv.comp (i:=20) (v:=undef) rfl (by kernel_rfl) (by kernel_rfl) (by kernel_rfl) (λ_ _ _ h=>h) (Or.inr ⟨by rfl,rfl⟩) ?_;try simp only[y1_,y2_,y3_,Act.put,y4_,y5_,y6_]
         refine Rv.comp (i:=21) (v:=undef) rfl (by kernel_rfl) (by kernel_rfl) (by kernel_rfl) (λ_ _ _ h=>h) (Or.inr ⟨by rfl,rfl⟩) ?_;try simp only[y1_,y2_,y3_,Act.put,y4_,y5_,y6_]
         refine v_ 22 rfl ?_;refine Rv.done (by kernel_rfl) ?_ _;go_wp2_with fail
         go_meet
         exact⟨_,rfl,rfl⟩
        ·by_cases hb2:z.2.1=0
         ·have hb3:(z.2.1 != 0)=false:=by rw[hb2];rfl
          clear hb2;refine Rv.start (λW=>W.cell? ⟨O,1,none⟩=some (.slice (some ⟨by',off,none⟩) k yc)/\W.cell? ⟨by',off+j*4,none⟩=some (.string y.1)/\W.cell? ⟨by',off+j*4+1,none⟩=some (.int .i64 y.2.1)/\W.cell? ⟨S,0,none⟩=some (.string z.1)/\W.cell? ⟨S,1,none⟩=some (.int .i64 z.2.1)) (λ_=>false) (by kernel_rfl) ?_;have hHeld:=And.intro x1 (And.intro y0 (And.intro y1 (And.intro s0 s1)));refine v_ 0 rfl ?_;refine vl_ 1 rfl ?_;refine v_ 2 rfl ?_;refine v_ 3 rfl ?_;refine v_ 4 rfl ?_;refine vl_ 5 rfl ?_;refine v_ 6 rfl ?_;refine vl_ 7 rfl ?_;refine v_ 8 rfl ?_;refine v_ 9 rfl ?_;refine v_ 10 rfl ?_;refine vl_ 11 rfl ?_;refine v_ 12 rfl ?_;refine v_ 13 rfl ?_;refine Rv.comp (i:=14) (v:=?_) rfl (by kernel_rfl) (by kernel_rfl) (by kernel_rfl) (λ_ _ _ h=>h) (Or.inl ⟨by rfl,?_⟩) ?_
          rotate_left 1
          focus(intro w hSw;(try dsimp only at hSw);go_simp;(try with_reducible rfl))
          try simp only[y1_,y2_,y3_,Act.put,y4_,y5_,y6_]
          refine Rv.comp (i:=15) (v:=undef) rfl (by kernel_rfl) (by kernel_rfl) (by kernel_rfl) (λ_ _ _ h=>h) (Or.inr ⟨by rfl,rfl⟩) ?_;try simp only[y1_,y2_,y3_,Act.put,y4_,y5_,y6_]
          refine Rv.comp (i:=16) (v:=undef) rfl (by kernel_rfl) (by kernel_rfl) (by kernel_rfl) (λ_ _ _ h=>h) (Or.inr ⟨by rfl,rfl⟩) ?_;try simp only[y1_,y2_,y3_,Act.put,y4_,y5_,y6_]
          refine Rv.comp (i:=17) (v:=undef) rfl (by kernel_rfl) (by kernel_rfl) (by kernel_rfl) (λ_ _ _ h=>h) (Or.inr ⟨by rfl,rfl⟩) ?_;try simp only[y1_,y2_,y3_,Act.put,y4_,y5_,y6_]
          refine Rv.comp (i:=18) (v:=undef) rfl (by kernel_rfl) (by kernel_rfl) (by kernel_rfl) (λ_ _ _ h=>h) (Or.inr ⟨by rfl,rfl⟩) ?_;try simp only[y1_,y2_,y3_,Act.put,y4_,y5_,y6_]
          refine Rv.comp (i:=19) (v:=undef) rfl (by kernel_rfl) (by kernel_rfl) (by kernel_rfl) (λ_ _ _ h=>h) (Or.inr ⟨by rfl,rfl⟩) ?_;try simp only[y1_,y2_,y3_,Act.put,y4_,y5_,y6_]
          refine Rv.comp (i:=20) (v:=undef) rfl (by kernel_rfl) (by kernel_rfl) (by kernel_rfl) (λ_ _ _ h=>h) (Or.inr ⟨by rfl,rfl⟩) ?_;try simp only[y1_,y2_,y3_,Act.put,y4_,y5_,y6_]
          refine Rv.comp (i:=21) (v:=undef) rfl (by kernel_rfl) (by kernel_rfl) (by kernel_rfl) (λ_ _ _ h=>h) (Or.inr ⟨by rfl,rfl⟩) ?_;try simp only[y1_,y2_,y3_,Act.put,y4_,y5_,y6_]
          refine v_ 22 rfl ?_;refine Rv.done (by kernel_rfl) ?_ _;go_wp2_with fail
          go_meet
          exact⟨_,rfl,rfl⟩
         ·have hb3:(z.2.1 != 0)=true:=bne_iff_ne.2 hb2;clear hb2;refine Rv.start (λW=>W.cell? ⟨O,1,none⟩=some (.slice (some ⟨by',off,none⟩) k yc)/\W.cell? ⟨by',off+j*4,none⟩=some (.string y.1)/\W.cell? ⟨by',off+j*4+1,none⟩=some (.int .i64 y.2.1)/\W.cell? ⟨S,0,none⟩=some (.string z.1)/\W.cell? ⟨S,1,none⟩=some (.int .i64 z.2.1)) (λ_=>false) (by kernel_rfl) ?_;have hHeld:=And.intro x1 (And.intro y0 (And.intro y1 (And.intro s0 s1)));refine v_ 0 rfl ?_;refine vl_ 1 rfl ?_;refine v_ 2 rfl ?_;refine v_ 3 rfl ?_;refine v_ 4 rfl ?_;refine vl_ 5 rfl ?_;refine v_ 6 rfl ?_;refine vl_ 7 rfl ?_;refine v_ 8 rfl ?_;refine v_ 9 rfl ?_;refine v_ 10 rfl ?_;refine vl_ 11 rfl ?_;refine v_ 12 rfl ?_;refine v_ 13 rfl ?_;refine v_ 14 rfl ?_;refine v_ 15 rfl ?_;refine vl_ 16 rfl ?_;refine v_ 17 rfl ?_;refine v_ 18 rfl ?_;refine v_ 19 rfl ?_;refine vl_ 20 rfl ?_;refine v_ 21 rfl ?_;refine v_ 22 rfl ?_;refine Rv.done (by kernel_rfl) ?_ _;go_wp2_with fail
          go_meet
          exact⟨_,rfl,rfl⟩
       case rest=>
        obtain⟨b,rfl,rfl⟩:=hcut;replace HM:=h_ (HM.o.call (below_dr (Below.refl _ _)));replace HS:=h_ (HS.o.drew);clear x1 y0 y1 s0 s1 hxl;generalize wr.drew=w8 at *;cases b
        ·go_wp2_with fail
         exact⟨⟨j+1,z,by omega,by go_num,HZ9.o,HS.o,HM.o⟩,by simp[intOf];omega⟩
        ·skip
         have s0:=d_ HS.o 0;have s1:=d_ HS.o 1;have s2:=d_ HS.o 2;have s3:=d_ HS.o 3;have f0:=HS.o.frozen 0;have f1:=HS.o.frozen 1;have f2:=HS.o.frozen 2;have f3:=HS.o.frozen 3;have hsl:=HS.o.lt;have hk6:k<=5:=by omega
         have ecv:=conv_one w8 (48+k);have hss:(strOfNums [48+(k:Int)]).size=1:=rfl;have HSS:=h_ hss;clear hss;generalize strOfNums [48+(k:Int)]=st at *;have hst1:st.size<=1:=Nat.le_of_eq HSS.o;have hst2:¬9223372036854775807<1+st.size:=by omega
         have HBL:=h_ (show(⟨#[115]⟩++st:ByteArray).size<=9 by rw[ByteArray.size_append];show 1+st.size<=9;omega);go_wp2_with fail
         have HNS:=h_ (HM.o.neS HS.o HYS.o);exact⟨⟨j+1,(⟨#[115]⟩++st,1,-2,7*(k:Int)),by omega,by go_num,HBL.o,((((HS.o.set 0 _).set 1 _).set 2 _).set 3 _).alloc _,
          ((((HM.o.setS hR HNS.o hOS).setS hR HNS.o hOS).setS hR HNS.o hOS).setS hR HNS.o hOS).call b_⟩,by simp[intOf];omega⟩
      ·clear hkl;have s0:=d_ HS.o 0;have s1:=d_ HS.o 1;have s2:=d_ HS.o 2;have s3:=d_ HS.o 3;have HRY:=h_ (show Row wr w.heap.size 67 4 Y k yc (cellsOf symbolC ys)from by
        have h:Row wr w.heap.size 67 4 Y ys.length yc (cellsOf symbolC ys):=HM.o.own.2
        rwa[HKL.o]at h)
       have hsl:=HS.o.lt;have hwl:=HM.o.by_.lt;have hk6:k<=5:=by omega
       go_wp2_with (at_builtin;refine wpList_app (wr.alloc (.cells #[.string z.1,.int .i64 z.2.1,.int .i64 z.2.2.1,.int .i64 z.2.2.2] 67)) rfl (.tmp 77) (.tmp 79) 24 rfl 67 iY (.agg #[.string ByteArray.empty,.int .i64 0,.int .i64 0,.int .i64 0]) 4 40 Tryz.underlying24 HIY.o.1 HIY.o.2.1 HIY.o.2.2.1 HIY.o.2.2.2 rfl (by decide) w.heap.size Y k yc (cellsOf symbolC ys) rfl (HRY.o.alloc _) ?hb (some ⟨wr.heap.size,0,none⟩) 1 1 (symbolC z) rfl (rd_lit wr #[.string z.1,.int .i64 z.2.1,.int .i64 z.2.2.1,.int .i64 z.2.2.2] 67 _ rfl) rfl (λh=>by cases h) ?o1 ?n1 ?n2 ?_)
       case hb=>first|(simp;omega)|omega
       case o1=>first|exact(λu hu=>one_sym [z] u (by simpa[cellsOf]using hu))|exact⟨rfl,rfl,rfl,rfl⟩
       case n1=>unfold maxLen;omega
       case n2=>omega
       intro Y2 n2 yc2 w9 hn2 o9 g9 k9;have b9:Below wr.heap.size wr (wr.alloc (.cells #[.string z.1,.int .i64 z.2.1,.int .i64 z.2.2.1,.int .i64 z.2.2.2] 67)):=b_;replace HM:=h_ (HM.o.call b9);have HMN:=h_ (HM.o.addY hR [z] (Y':=Y2) (n':=n2) (c':=yc2) (by rw[HKL.o];exact hn2) (by simpa[cellsOf]using o9) g9);have HBX:=h_ (HM.o.bx.grown g9 (HM.o.own.2.box HM.o.bx (by decide)));have HN2:=h_ hn2;clear hn2 o9 g9 k9 HM HRY b9 s0 s1 s2 s3 x1 hxl hsl hwl HS;have hb1:=HBX.o.cell 1;have hbf:=HBX.o.frozen 1;have hbl:=HBX.o.lt;simp only[g_]at hb1;go_wp2_with fail
       refine⟨⟨k+1,by omega,by omega,Y2,yc2,ys++[z],by rw[List.length_append,HKL.o];rfl,?_,HMN.o.more (by omega)⟩,by simp[intOf];omega⟩;intro a b c d hy;rcases List.mem_append.1 hy with hy|hy
       ·exact HSM.o _ hy
       ·have:=List.mem_singleton.1 hy;have hz:=HZ9.o;rw[<-this]at hz;exact hz
    ·obtain rfl:k=many:=by omega
     have HSO:=h_ (show SmallO (OV.d ⟨A,c,ps,Y,yc,ys⟩)/\ps.length<=3/\ys.length<=5 from⟨⟨by simp only[OV.d,List.length_map];omega,by have:=HKL.o;show ys.length<=13;omega,(λs hs=>by
      obtain⟨p,hp,rfl⟩:=List.mem_map.1 hs;exact HPS3.o p hp),HSM.o⟩,hpl,by rw[HKL.o];omega⟩)
     replace HM:=h_ (HM.o.more (show _<=N+700 by omega));clear hk hlt HSM HKL HPS3;go_wp2_with fail
     refine(odd_tp HM.o.t (by omega) n hn (by omega)).mono ?_;rintro e w4 ⟨b,rfl,T1,g1⟩;replace HM:=h_ (HM.o.turn g1 hR T1);clear T1 g1;go_upto_if 84 with(fail)
     go_cut []from 84 to 118 (λwx=>∃o,SmallO (OV.d o)/\Mid w wx B R O (N+1500) o)
     case first=>
      cases b
      ·go_wp2_with fail
       go_meet
       exact⟨_,HSO.o.1,HM.o.more (by omega)⟩
      ·go_wp2_with fail
       refine(pick_tp HM.o.t (by omega) _ (by omega) (by omega)).mono ?_;rintro e w5 ⟨v,rfl,v0,v1,T1,g1⟩;replace HM:=h_ (HM.o.turn g1 hR T1);clear T1 g1;have hv:v=0\/v=1\/v=2\/v=3:=by omega
       rcases hv with rfl|rfl|rfl|rfl
       ·have x0:=HM.o.bx.cell 0;simp only[g_]at x0;have hxl:=HM.o.bx.lt;go_wp2_with fail
        replace HM:=h_ (HM.o.call (below_dr (Below.refl _ _)));have x0':w5.drew.cell? ⟨O,0,none⟩=some (.slice A ps.length c):=x0;clear x0 hxl;refine Rw.start (by kernel_rfl) ?_;refine w_ 0 rfl ?_;refine wl_ 1 (λV=>V.cell? ⟨O,0,none⟩=some (.slice A ps.length c)) rfl x0' ?_;refine w_ 2 rfl ?_;refine w_ 3 rfl ?_;clear x0';generalize w5.drew=wd at *;refine Rw.one (i:=4) rfl (by kernel_rfl) (λK hK=>?_);go_simp
        have HLT:=h_ (show ∀p∈ps,∀k,sblk p k->k<wd.heap.size from λp hp k hk=>((HM.o.own.1.2.1 p hp).lt k hk).2);have hwd:w.heap.size<=wd.heap.size:=Nat.le_of_lt HM.o.by_.lt;refine(section_any (tp_new HM.o.t) (by omega) (by omega) k (by omega) 1 (by omega) (by omega)).mono ?_;rintro e w6 ⟨q,rfl,hq1,hq2,hq3,T1⟩;have g1:=T1.2;have hRO:R<O:=by omega
        refine hK.out _ _ (by repeat' (first|exact trivial|exact(λ_ h=>Rw.cell_grown g1 (by dsimp only;omega) h)|refine And.intro ?_ ?_)) ?_
        clear hK K;try simp only[y1_,y2_,y3_,Act.put,y4_,y5_,y6_]
        replace HM:=h_ (HM.o.turn g1 hR (tp_tr HM.o.t T1));have HQ:=h_ (And.intro hq1 hq3);clear T1 g1 hq1 hq2 hq3;refine Rw.one (i:=5) rfl (by kernel_rfl) (λK hK=>?_);go_simp
        have b6:Below w6.heap.size w6 (w6.alloc (.cells #[.string q.nm,.int .i64 q.kd,.int .i64 q.al,.slice q.A q.zs.length q.c,.int .i64 q.sz,.slice q.F q.fs.length q.fc] 61)):=b_;refine hK.out _ _ (by repeat' (first|exact trivial|exact(λ_ h=>Rw.cell_below b6 h)|refine And.intro ?_ ?_)) ?_
        clear hK K;try simp only[y1_,y2_,y3_,Act.put,y4_,y5_,y6_]
        replace HM:=h_ (HM.o.call b6);have HQR:=h_ ((HQ.o.2.call b6));clear b6;refine Rw.one (i:=6) rfl (by kernel_rfl) (λK hK=>?_);refine step_app (by rfl) _ _ 23 rfl 61 iS (.agg #[.string ByteArray.empty,.int .i64 0,.int .i64 0,.slice none 0 0,.int .i64 0,.slice none 0 0]) 6 88 Tryz.underlying23 HIS.o.1 HIS.o.2.1 HIS.o.2.2.1 HIS.o.2.2.2 rfl (by decide) w.heap.size A ps.length c (cellsOf secC ps) (by rfl) HM.o.own.1.1 (Nat.le_of_lt HM.o.by_.lt) (some ⟨w6.heap.size,0,none⟩) 1 1 (secC q) (by rfl) (rd_lit w6 #[.string q.nm,.int .i64 q.kd,.int .i64 q.al,.slice q.A q.zs.length q.c,.int .i64 q.sz,.slice q.F q.fs.length q.fc] 61 _ rfl) rfl (λh=>by cases h) (one_sec q) (by unfold maxLen;omega) (by omega) ?_;intro A2 n2 c2 w7 hn2 o7 g7 k7;have HMN:=h_ (HM.o.addS hR (HQR.o.down hwd) HLT.o (λk hk=>(HQR.o.lt k hk).1) hn2 o7 g7);have HBX:=h_ (HM.o.bx.grown g7 (HM.o.own.1.1.box HM.o.bx (by decide)));clear hn2 o7 g7 k7 HM HLT;refine hK.out _ _ (by repeat' (first|exact trivial|exact Rw.out_of (by kernel_rfl)|refine And.intro ?_ ?_)) ?_
        clear hK K;try simp only[y1_,y2_,y3_,Act.put,y4_,y5_,y6_]
        refine w_ 7 rfl ?_;have hb0:=HBX.o.cell 0;have hbf:=HBX.o.frozen 0;have hbl:=HBX.o.lt;simp only[g_]at hb0;refine Rw.one (i:=8) rfl (by kernel_rfl) (λK hK=>?_);go_simp
        refine hK.out _ _ (by repeat' (first|exact trivial|exact Rw.out_of (by kernel_rfl)|refine And.intro ?_ ?_)) ?_
        clear hK K;try simp only[y1_,y2_,y3_,Act.put,y4_,y5_,y6_]
        refine Rw.done (by kernel_rfl) ?_ _;clear hb0 hbf hbl HBX;go_wp2_with fail
        go_meet
        exact⟨⟨A2,c2,ps++[q],Y,yc,ys⟩,smallS HSO.o.1 HSO.o.2.1 HQ.o.1,HMN.o.more (by omega)⟩
       ·have x0:=HM.o.bx.cell 0;have x1:=HM.o.bx.cell 1;simp only[g_]at x0 x1;have hxl:=HM.o.bx.lt;go_wp2_with fail
        replace HM:=h_ (HM.o.call (below_dr (Below.refl _ _)));have x0':w5.drew.cell? ⟨O,0,none⟩=some (.slice A ps.length c):=x0;have x1':w5.drew.cell? ⟨O,1,none⟩=some (.slice Y ys.length yc):=x1;clear x0 x1 hxl;refine Rw.start (by kernel_rfl) ?_;refine w_ 0 rfl ?_;refine wl_ 1 (λV=>V.cell? ⟨O,1,none⟩=some (.slice Y ys.length yc)) rfl x1' ?_;refine w_ 2 rfl ?_;refine w_ 3 rfl ?_;refine wl_ 4 (λV=>V.cell? ⟨O,0,none⟩=some (.slice A ps.length c)) rfl x0' ?_;clear x0' x1';generalize w5.drew=wd at *;refine Rw.one (i:=5) rfl (by kernel_rfl) (λK hK=>?_);go_simp
        refine(DSymbol.symbol_any (tp_new HM.o.t) (by omega) (by omega) A ps c (HM.o.rdS hR) HPS2.o (by omega) 1 (by omega) (by omega)).mono ?_;rintro e w6 ⟨z,rfl,z9,T1,g1⟩;have hRO:R<O:=by omega
        refine hK.out _ _ (by repeat' (first|exact trivial|exact(λ_ h=>Rw.cell_grown g1 (by dsimp only;omega) h)|refine And.intro ?_ ?_)) ?_
        clear hK K;try simp only[y1_,y2_,y3_,Act.put,y4_,y5_,y6_]
        replace HM:=h_ (HM.o.turn g1 hR (tp_tr HM.o.t T1));have HZ9:=h_ z9;clear T1 g1 z9;refine Rw.one (i:=6) rfl (by kernel_rfl) (λK hK=>?_);go_simp
        have b6:Below w6.heap.size w6 (w6.alloc (.cells #[.string z.1,.int .i64 z.2.1,.int .i64 z.2.2.1,.int .i64 z.2.2.2] 67)):=b_;refine hK.out _ _ (by repeat' (first|exact trivial|exact(λ_ h=>Rw.cell_below b6 h)|refine And.intro ?_ ?_)) ?_
        clear hK K;try simp only[y1_,y2_,y3_,Act.put,y4_,y5_,y6_]
        replace HM:=h_ (HM.o.call b6);clear b6;have hyl:ys.length<=5:=HSO.o.2.2;refine Rw.one (i:=7) rfl (by kernel_rfl) (λK hK=>?_);refine step_app (by rfl) _ _ 24 rfl 67 iY (.agg #[.string ByteArray.empty,.int .i64 0,.int .i64 0,.int .i64 0]) 4 40 Tryz.underlying24 HIY.o.1 HIY.o.2.1 HIY.o.2.2.1 HIY.o.2.2.2 rfl (by decide) w.heap.size Y ys.length yc (cellsOf symbolC ys) (by rfl) HM.o.own.2 (Nat.le_of_lt HM.o.by_.lt) (some ⟨w6.heap.size,0,none⟩) 1 1 (symbolC z) (by rfl) (rd_lit w6 #[.string z.1,.int .i64 z.2.1,.int .i64 z.2.2.1,.int .i64 z.2.2.2] 67 _ rfl) rfl (λh=>by cases h) (λu hu=>one_sym [z] u (by simpa[cellsOf]using hu)) (by unfold maxLen;omega) (by omega) ?_;intro Y2 n2 yc2 w7 hn2 o7 g7 k7;have HMN:=h_ (HM.o.addY hR [z] (Y':=Y2) (n':=n2) (c':=yc2) hn2 (by simpa[cellsOf]using o7) g7);have HBX:=h_ (HM.o.bx.grown g7 (HM.o.own.2.box HM.o.bx (by decide)));clear hn2 o7 g7 k7 HM;refine hK.out _ _ (by repeat' (first|exact trivial|exact Rw.out_of (by kernel_rfl)|refine And.intro ?_ ?_)) ?_
        clear hK K;try simp only[y1_,y2_,y3_,Act.put,y4_,y5_,y6_]
        refine w_ 8 rfl ?_;have hb1:=HBX.o.cell 1;have hbf:=HBX.o.frozen 1;have hbl:=HBX.o.lt;simp only[g_]at hb1;refine Rw.one (i:=9) rfl (by kernel_rfl) (λK hK=>?_);go_simp
        refine hK.out _ _ (by repeat' (first|exact trivial|exact Rw.out_of (by kernel_rfl)|refine And.intro ?_ ?_)) ?_
        clear hK K;try simp only[y1_,y2_,y3_,Act.put,y4_,y5_,y6_]
        refine Rw.done (by kernel_rfl) ?_ _;clear hb1 hbf hbl HBX;go_wp2_with fail
        go_meet
        exact⟨⟨A,c,ps,Y2,yc2,ys++[z]⟩,smallY (zs:=[z]) HSO.o.1 HSO.o.2.2 (by simp) (λy hy=>by rw[List.mem_singleton.1 hy];exact HZ9.o),HMN.o.more (by omega)⟩
       ·have x1:=HM.o.bx.cell 1;simp only[g_]at x1;have hxl:=HM.o.bx.lt;have hwl:=HM.o.by_.lt;have hyl:ys.length<=5:=HSO.o.2.2;go_wp2_with (at_builtin;refine wpList_app (w5.alloc (.cells #[.string ⟨#[116,119,111]⟩,.int .i64 1,.int .i64 (-2),.int .i64 0,.string ⟨#[116,119,111]⟩,.int .i64 2,.int .i64 (-2),.int .i64 0] 67)) rfl (.tmp 113) (.tmp 116) 24 rfl 67 iY (.agg #[.string ByteArray.empty,.int .i64 0,.int .i64 0,.int .i64 0]) 4 40 Tryz.underlying24 HIY.o.1 HIY.o.2.1 HIY.o.2.2.1 HIY.o.2.2.2 rfl (by decide) w.heap.size Y ys.length yc (cellsOf symbolC ys) rfl (HM.o.own.2.alloc _) ?hb (some ⟨w5.heap.size,0,none⟩) 2 2 (cellsOf symbolC [(⟨#[116,119,111]⟩,1,-2,0),(⟨#[116,119,111]⟩,2,-2,0)]) rfl (rd_lit w5 #[.string ⟨#[116,119,111]⟩,.int .i64 1,.int .i64 (-2),.int .i64 0,.string ⟨#[116,119,111]⟩,.int .i64 2,.int .i64 (-2),.int .i64 0] 67 _ rfl) rfl (λh=>by cases h) ?o1 ?n1 ?n2 ?_)
        case hb=>first|(simp;omega)|omega
        case o1=>exact one_sym _
        case n1=>unfold maxLen;omega
        case n2=>omega
        intro Y2 n2 yc2 w7 hn2 o7 g7 k7;have b6:Below w5.heap.size w5 (w5.alloc (.cells #[.string ⟨#[116,119,111]⟩,.int .i64 1,.int .i64 (-2),.int .i64 0,.string ⟨#[116,119,111]⟩,.int .i64 2,.int .i64 (-2),.int .i64 0] 67)):=b_;replace HM:=h_ (HM.o.call b6);have HMN:=h_ (HM.o.addY hR [(⟨#[116,119,111]⟩,1,-2,0),(⟨#[116,119,111]⟩,2,-2,0)] (Y':=Y2) (n':=n2) (c':=yc2) hn2 o7 g7);have HBX:=h_ (HM.o.bx.grown g7 (HM.o.own.2.box HM.o.bx (by decide)));clear hn2 o7 g7 k7 HM b6 x1 hxl hwl;have hb1:=HBX.o.cell 1;have hbf:=HBX.o.frozen 1;have hbl:=HBX.o.lt;simp only[g_]at hb1;go_wp2_with fail
        go_meet
        exact⟨⟨A,c,ps,Y2,yc2,ys++[(⟨#[116,119,111]⟩,1,-2,0),(⟨#[116,119,111]⟩,2,-2,0)]⟩,smallY HSO.o.1 HSO.o.2.2 (by simp) (λy hy=>by
         rcases List.mem_cons.1 hy with rfl|hy
         ·show(⟨#[116,119,111]⟩:ByteArray).size<=9
          decide
         ·rw[List.mem_singleton.1 hy];show(⟨#[116,119,111]⟩:ByteArray).size<=9
          decide),HMN.o.more (by omega)⟩
       ·have HWW:=h_ (show w.heap.size<=w5.heap.size from Nat.le_of_lt HM.o.by_.lt);go_wp2_with (at_make;refine wpList_make_full _ rfl _ _ _ rfl w.heap.size 67 iY (.agg #[.string ByteArray.empty,.int .i64 0,.int .i64 0,.int .i64 0]) 4 Tryz.underlying24 HIY.o.1 HIY.o.2.1 HIY.o.2.2.1 .i64 .i64 _ _ 13 rfl rfl rfl rfl ?c1 ?c2 ?c3 ?_)
        case c1=>rw[HIY.o.2.2.2];omega
        case c2=>unfold maxLen;omega
        case c3=>exact HWW.o
        intro w7 hto g8;have B3:Below w5.heap.size w5 w7:=(Below.refl _ _).grown g8 (Nat.le_refl _) (by intro k h;cases h);replace HM:=h_ (HM.o.call B3);have HMN:=h_ (HM.o.newY hR (zs:=List.replicate 13 (ByteArray.empty,0,0,0)) (Y':=some ⟨w5.heap.size,0,none⟩) (n':=13) (c':=13) rfl (Row.own (by rw[<-made13];exact hto)));clear hto g8 B3;have x1:=HM.o.bx.cell 1;have xf:=HM.o.bx.frozen 1;have hxl:=HM.o.bx.lt;simp only[g_]at x1;go_wp2_with fail
        go_meet
        exact⟨⟨A,c,ps,some ⟨w5.heap.size,0,none⟩,13,List.replicate 13 (ByteArray.empty,0,0,0)⟩,⟨HSO.o.1.1,by simp[OV.d],HSO.o.1.2.2.1,λy hy=>by
         have hy:y∈List.replicate 13 ((ByteArray.empty,0,0,0):YD):=hy;rw[List.eq_of_mem_replicate hy];show ByteArray.empty.size<=9
         decide⟩,HMN.o.more (by omega)⟩
     case rest=>
      obtain⟨o,hso,hm⟩:=hcut;have HM2:=h_ hm;have HSO2:=h_ hso;clear hm hso HM HSO;have x0:=HM2.o.bx.cell 0;have x1:=HM2.o.bx.cell 1;have y0:=HM2.o.by_.cell 0;have y1:=HM2.o.by_.cell 1;have f0:=HM2.o.by_.frozen 0;have f1:=HM2.o.by_.frozen 1;have hxl:=HM2.o.bx.lt;have hyl:=HM2.o.by_.lt;simp only[g_]at x0 x1 y0 y1;have kk:=(HM2.o.by_.set 0 (.slice o.A o.ps.length o.c)).set 1 (.slice o.Y o.ys.length o.yc);have k0:=kk.cell 0;have k1:=kk.cell 1;simp only[k_]at k0 k1;clear kk;have HFIN:=h_ (HM2.o.ret hR HT0.o HSO2.o (show N+1500<=N+2000 by omega));go_wp2_with fail
      exact bodyPost_ret (v:=o.v) (by simp[results,Tryz.results34,go_sem,OV.v,k0,k1]) rfl HFIN.o
end DObject
/- The draws of objects,and what their sizes give (without what StripWanted asks). -/
namespace DDrawB
open Kit CCode CFixups CSymbols PObj BObj PValid CObjValid PWarn PClear DPick DVar DSection DObject CCopyS CCopyI
def Bnd(d:OD):Prop:=d.ss.length<=8/\d.ys.length<=13/\(∀s∈d.ss,s.nm.size<=9/\s.zs.length<=49/\s.fs.length<=6)/\∀y∈d.ys,y.1.size<=9
theorem bnd_small{d:OD}(h:SmallO d):Bnd d:=⟨by have:=h.1;omega,h.2.1,λs hs=>by
 have:=h.2.2.1 s hs;exact⟨this.1,this.2.1,by have:=this.2.2.2.1;omega⟩,h.2.2.2⟩
theorem bnd_fit{o:OV}{w:World}{base:Nat}(h:Bnd o.d)(ho:OwnO w base o):Fit o/\(∀p∈o.ps,p.zs.length<=p.c):=by
 have h1:o.ps.length<=8:=by simpa[OV.d]using h.1
 have h2:o.ys.length<=13:=h.2.1;refine⟨⟨by omega,by omega,ho.2.cap.1,λp hp=>?_,λy hy=>?_⟩,λp hp=>((ho.1.2.1 p hp).1).cap.1⟩
 ·have:=h.2.2.1 p.d (List.mem_map_of_mem hp);have h3:p.nm.size<=9/\p.zs.length<=49/\p.fs.length<=6:=this;unfold maxLen;omega
 ·have:=h.2.2.2 y hy;unfold maxLen;omega
end DDrawB
/- The draw of an object that is dumped. -/
namespace DDrawD
open Kit CCode CFixups CSymbols PObj BObj PValid CObjValid PWarn PClear DPick DVar DSection DObject CCopyS CCopyI DDrawB PDump
theorem small_in{d:OD}(h:SmallO d):InD d:=λs hs=>(h.2.2.1 s hs).2.2.1
theorem small_fit{o:OV}{w:World}{base:Nat}(h:SmallO o.d)(ho:OwnO w base o):Fit o:=(bnd_fit (bnd_small h) ho).1
end DDrawD
/- How long the lines of a valid object are; the desk at a loaded object; plain. -/
namespace PLines
open Kit CCode CName CNumTxt CFixups CSymbols PObj PValid PClear PLink PLinkL PNum PDump PDesk CDumpI
theorem itoa_len{n:Int}(h:Num n):(Lib.itoa n).length<=21:=by unfold Num at h;exact Lib.itoa_length_le n (by omega) (by omega)
theorem nm_len{s:ByteArray}(h:nameOk s=true):(nmL s).length<=8:=(nmW_ok h).2
theorem lineS_len{s:SD}(h:GoodS s)(hz:s.zs.length<=48):(lineS s).length<=600:=by
 refine Nat.le_trans (join_len 32 (wordsS s) 99 (λw hw=>?_)) ?_
 ·simp only[wordsS,List.mem_append,List.mem_cons,List.not_mem_nil,or_false]at hw;rcases hw with(rfl|rfl|rfl|rfl|rfl)|hw
  ·decide
  ·have:=nm_len h.nm;omega
  ·have:=itoa_len h.kd;omega
  ·have:=itoa_len h.al;omega
  ·have:=itoa_len h.size;omega
  ·split at hw
   ·cases hw
   ·rw[List.mem_singleton.1 hw,hexL_len];omega
 ·unfold wordsS;split<;>simp
theorem lineF_len{f:FD}(h:GoodF f):(lineF f).length<=600:=by
 refine Nat.le_trans (join_len 32 (wordsF f) 99 (λw hw=>?_)) (by simp[wordsF]);obtain⟨h1,h2,h3,h4⟩:=h;simp only[wordsF,List.mem_cons,List.not_mem_nil,or_false]at hw;rcases hw with rfl|rfl|rfl|rfl|rfl
 ·decide
 ·have:=itoa_len h1;omega
 ·have:=itoa_len h2;omega
 ·have:=itoa_len h3;omega
 ·have:=itoa_len h4;omega
theorem lineY_len{y:YD}(h:GoodY y):(lineY y).length<=600:=by
 refine Nat.le_trans (join_len 32 (wordsY y) 99 (λw hw=>?_)) (by simp[wordsY]);obtain⟨h1,h2,h3,h4⟩:=h;simp only[wordsY,List.mem_cons,List.not_mem_nil,or_false]at hw;rcases hw with rfl|rfl|rfl|rfl|rfl
 ·decide
 ·have:=nm_len h1;omega
 ·have:=itoa_len h2;omega
 ·have:=itoa_len h3;omega
 ·have:=itoa_len h4;omega
theorem lines_len{d:OD}(h:objOk d=true)(hz:InD d):∀l∈linesO d,l.length<=600:=by
 obtain⟨g1,g2⟩:=good_O h hz;obtain⟨_,_,h3⟩:=obj_all h;intro l hl;rcases List.mem_append.1 hl with hl|hl
 ·obtain⟨s,hs,hl⟩:=List.mem_flatMap.1 hl;rcases List.mem_cons.1 hl with rfl|hl
  ·exact lineS_len (g1 s hs).1 (h3 s hs).2.1
  ·obtain⟨f,hf,rfl⟩:=List.mem_map.1 hl;exact lineF_len ((g1 s hs).2 f hf)
 ·obtain⟨y,hy,rfl⟩:=List.mem_map.1 hl;exact lineY_len (g2 y hy)
theorem linesSs_len:∀(ss:List SD),(∀s∈ss,s.fs.length<=6)->(linesSs ss).length<=7*ss.length
 |[],_=>Nat.zero_le _
 |s::ss,h=>by
  have h1:=h s List.mem_cons_self;have h2:=linesSs_len ss (λx hx=>h x (List.mem_cons_of_mem _ hx));show(linesS s++linesSs ss).length<=_
  rw[List.length_append,List.length_cons];simp only[linesS,List.length_cons,List.length_map];omega
theorem lines_many{d:OD}(h:objOk d=true):(linesO d).length<=68:=by obtain⟨h1,h2,h3⟩:=obj_all h;have h4:=linesSs_len d.ss (λs hs=>(h3 s hs).1);rw[linesO,List.length_append,List.length_map];omega
theorem dump_many(d:OD):(dumpL d).length<=68:=by
 unfold dumpL;cases h:objOk d
 ·exact Nat.zero_le _
 ·exact lines_many h
theorem dump_len{d:OD}(hz:InD d):∀l∈dumpL d,l.length<=600:=by
 unfold dumpL;cases h:objOk d
 ·intro l hl;cases hl
 ·exact lines_len h hz
theorem join_bd{ls:List (List UInt8)}(h:∀l∈ls,l.length<=600)(hn:ls.length<=68)(k:Nat):(joinC 124 (ls.take k)).length<=40868:=by have h1:=join_len 124 (ls.take k) 600 (λl hl=>h l (List.mem_of_mem_take hl));rw[List.length_take]at h1;have h2:min k ls.length<=68:=Nat.le_trans (Nat.min_le_right _ _) hn;have h3:=Nat.mul_le_mul_right 601 h2;omega
theorem join_next{ls:List (List UInt8)}{k:Nat}(h:k<ls.length)(h1:1<=k):joinC 124 (ls.take (k+1))=joinC 124 (ls.take k)++124::ls[k]:=by
 rw[take_succ h,join_snoc 124 _ _ (by
  intro h2;have:=congrArg List.length h2;rw[List.length_take,List.length_nil]at this;omega)]
end PLines
/- The draw of a line of a session. -/
namespace DSaid
open Kit CCode CNumTxt CFixups CSymbols PObj BObj PValid CObjValid PWarn PClear DPick DVar DName DSection DObject DDrawB DDrawD CSorted CNames CWordsS CHexI CHexS PNum PDump PDesk PLines BStore
def DrewLine(w0 w:World)(B R:Nat)(N:Int)(e:Ending)(w':World):Prop:=∃s:ByteArray,e=.returned (.string s)/\s.size<=50000/\Tp w0 w' B R N/\w.grownBy w' (some R)
def IsLine(v:Value):Prop:=∃s:ByteArray,v=.string s/\s.size<=50000
theorem bs_head{x y:ByteArray}{n m:Nat}(hx:x.size<=n)(hy:y.size<=m):(x++y).size<=n+m:=by rw[ByteArray.size_append];omega
set_option maxHeartbeats 8000000 in
theorem said_any{w0 w:World}{B R:Nat}{N:Int}(T0:Tp w0 w B R N)(hN:N<=80000)(hN0:0<=N):
  Calls Tryz.prog 59 #[.pointer (some ⟨R,0,none⟩)] w (DrewLine w0 w B R (N+2100)):=by
 have hR:=T0.lt;have T:=T0;go_enter Tryz.func59,Tryz.ntmps59
 go_wp2_with fail
 refine(odd_tp (by first|with_reducible assumption|exact Tp.alloc (by with_reducible assumption) _|exact Tp.alloc (Tp.alloc (by with_reducible assumption) _) _|exact Tp.drewN (by with_reducible assumption) _|exact Tp.drew (by with_reducible assumption)|exact Tp.drawn (by with_reducible assumption)|exact Tp.alloc (Tp.drewN (by with_reducible assumption) _) _|exact Tp.alloc (Tp.drew (by with_reducible assumption)) _|exact Tp.alloc (Tp.alloc (Tp.alloc (by with_reducible assumption) _) _) _) (by omega) _ (by omega) (by omega)).mono ?_
 rintro e w1 ⟨bo,rfl,T1,g1⟩;clear T;cases bo
 ·go_wp2_with fail
  refine(object_any (tp_new T1) (by omega) (by omega) 0 (by omega) (by omega)).mono ?_;rintro e w2 ⟨o,rfl,hsm,hown,hT,g2⟩;have T2:=tp_tr T1 hT;have HG:=h_ (grown_trans g1 g2);have HFT:=h_ (small_fit hsm hown);have HIN:=h_ (small_in hsm);have HRD:=h_ hown.rd;clear hT g1 g2 T1 hown hsm;have HT:=h_ T2;clear T2;have hml:=dump_many o.d;have HLN:=h_ (dump_len HIN.o);have HDM:=h_ (CDumpS.dumpObjectS_any o w2 HRD.o HFT.o HIN.o);simp only[OV.v];generalize hls:dumpL o.d=ls at *;clear hls HFT HIN HRD;go_wp2_with fail
  refine HDM.o.mono ?_;clear HDM;rintro e w3 ⟨A3,c3,rfl,row3,b3⟩;rw[show(List.map bs ls).length=ls.length from by simp]at *;have HW:=h_ row3;replace HT:=h_ (HT.o.call b3);replace HG:=h_ (grown_below HG.o b3);clear row3 b3;go_wp2_with fail
  go_loopw [4,5] (λt i wi=>∃k:Nat,k<=ls.length/\t=.string (bs (joinC 124 (ls.take k)))/\i=.int .i64 k/\wi=w3) (λ_ i _=>ls.length-(intOf i).toNat)
  case atStart=>exact⟨0,Nat.zero_le _,rfl,rfl,rfl⟩
  case round=>
   obtain⟨k,hk,rfl,rfl,rfl⟩:=hrel;by_cases hlt:k<ls.length
   ·obtain⟨b',off',rfl,hbb',hcc⟩:=CNumsI.Rd.str HW.o.rd hlt;have hj:=join_bd HLN.o hml k;have hl6:=HLN.o _ (List.getElem_mem hlt);rcases Nat.eq_zero_or_pos k with h0|h1
    ·subst h0;have HNX:=h_ (show bs (joinC 124 [])++bs ls[0]=bs (joinC 124 (ls.take 1))from by
      rw[show ls.take 1=[ls[0]]from by rw[take_succ hlt];rfl,bs_app]
      rfl)
     have hs1:¬9223372036854775807<(bs (joinC 124 (ls.take 0))).size+(bs ls[0]).size:=by rw[bs_size,bs_size];omega
     simp only[Nat.add_zero]at hcc;go_wp2_with fail
     refine⟨⟨1,by omega,by rw[HNX.o],by go_num,trivial⟩,by simp[intOf];omega⟩
    ·have HNX:=h_ (show bs (joinC 124 (ls.take k))++(⟨#[124]⟩:ByteArray)++bs ls[k]=bs (joinC 124 (ls.take (k+1)))from by
      rw[join_next hlt h1,show(⟨#[124]⟩:ByteArray)=bs [124]from rfl,bs_app,bs_app];simp)
     have hd:decide (0<(k:Int))=true:=decide_eq_true (by omega);have hs1:¬9223372036854775807<(bs (joinC 124 (ls.take k))).size+1:=by rw[bs_size];omega
     have hs2:¬9223372036854775807<(bs (joinC 124 (ls.take k))).size+1+(bs ls[k]).size:=by rw[bs_size,bs_size];omega
     go_wp2_with fail
     refine⟨⟨k+1,by omega,by rw[HNX.o],by go_num,trivial⟩,by simp[intOf];omega⟩
   ·obtain rfl:k=ls.length:=by omega
    have hj:=join_bd HLN.o hml ls.length;generalize joinC 124 (ls.take ls.length)=t at *;have ht:(bs t).size<=40868:=by rw[bs_size];exact hj
    generalize bs t=tx at *;clear hj HW;have hs1:¬9223372036854775807<5+tx.size:=by omega
    have HTT:=h_ ht;go_wp2_with fail
    refine(name_any HT.o (by omega) 9 (by omega) (by omega)).mono ?_;rintro e w4 ⟨nm,rfl,_,hn9,T4,g4⟩;have HG4:=h_ (grown_trans HG.o g4);have hs2:¬9223372036854775807<5+nm.size:=by omega
    clear g4 HG HT;go_wp2_with fail
    refine(pick_litP (p:=IsLine) T4 (by omega) _ (by omega) (by omega) (by
     have h1:=bs_head (x:=⟨#[108,111,97,100,32]⟩) (n:=5) (by decide) HTT.o;have h2:=bs_head (x:=⟨#[102,105,110,100,32]⟩) (n:=5) (by decide) hn9;repeat(first|exact List.forall_mem_nil _|refine List.forall_mem_cons.2 ⟨⟨_,rfl,by first|omega|decide⟩,?_⟩)) (by simp)).mono ?_
    rintro e w5 ⟨x,rfl,x0,x1,T5,g5,v,⟨s,rfl,s1⟩,hv⟩;have HG5:=h_ (grown_lit HG4.o g5);clear g5 T4 HG4;go_wp2_with fail
    go_ret;exact⟨s,rfl,s1,T5.more (by omega),HG5.o⟩
 ·go_wp2_with fail
  refine(pick_litP (p:=IsLine) T1 (by omega) _ (by omega) (by omega) (by repeat(first|exact List.forall_mem_nil _|refine List.forall_mem_cons.2 ⟨⟨_,rfl,by decide⟩,?_⟩)) (by simp)).mono ?_
  rintro e w2 ⟨x,rfl,x0,x1,T2,g2,v,⟨s,rfl,s1⟩,hv⟩;have HG:=h_ (grown_lit g1 g2);clear g1 g2 T1;go_wp2_with fail
  go_ret;exact⟨s,rfl,s1,T2.more (by omega),HG.o⟩
end DSaid
/- Draws of lists of objects: what a store into a symbol does,the list as it stands. -/
namespace DObjH
open Kit CFixups CSymbols PObj BObj PValid BStore BList CSecValid CMarkRows CCopyS DPick DVar DName DBytes DSection BObj2 CEqual DObject CObjL CObjL2 CObjValid PWarn PClear PSort PLink CSorted PIns CNGS
theorem setSym0(l:List YD)(j:Nat)(z:YD)(hz:l[j]?=some z)(x:ByteArray):(cellsOf symbolC l).set (j*4) (.string x)=cellsOf symbolC (l.set j (x,z.2)):=by
 induction l generalizing j with
 |nil=>cases hz
 |cons a l ih=>
  have hc:∀u (l:List YD),cellsOf symbolC (u::l)=symbolC u++cellsOf symbolC l:=λu l=>by simp[cellsOf]
  cases j with
  |zero=>simp only[List.getElem?_cons_zero,Option.some.injEq]at hz;subst hz;simp[hc,symbolC]
  |succ j=>
   have e:(j+1)*4=(symbolC a).length+(j*4):=by rw[symbolC_len];omega
   rw[hc,List.set_cons_succ,hc,e,List.set_append_right _ _ (by omega),Nat.add_sub_cancel_left];rw[ih j (by simpa using hz)]
theorem setSym1(l:List YD)(j:Nat)(z:YD)(hz:l[j]?=some z)(x:Int):(cellsOf symbolC l).set (j*4+1) (.int .i64 x)=cellsOf symbolC (l.set j (z.1,x,z.2.2)):=by
 induction l generalizing j with
 |nil=>cases hz
 |cons a l ih=>
  have hc:∀u (l:List YD),cellsOf symbolC (u::l)=symbolC u++cellsOf symbolC l:=λu l=>by simp[cellsOf]
  cases j with
  |zero=>simp only[List.getElem?_cons_zero,Option.some.injEq]at hz;subst hz;simp[hc,symbolC]
  |succ j=>
   have e:(j+1)*4+1=(symbolC a).length+(j*4+1):=by rw[symbolC_len];omega
   rw[hc,List.set_cons_succ,hc,e,List.set_append_right _ _ (by omega),Nat.add_sub_cancel_left];rw[ih j (by simpa using hz)]
section
variable {w w':World}{base g:Nat}{o:OV}
theorem cellY(h:OwnO w base o)(hY:o.Y=some ⟨g,0,none⟩)(hn:0<o.ys.length)(q:Nat)(u:Value)(ys':List YD)(hl:ys'.length=o.ys.length)(hc:(cellsOf symbolC o.ys).set q u=cellsOf symbolC ys'):
  OwnO (w.setCell ⟨g,q,none⟩ u) base {o with ys:=ys'}/\Gp (oblk o) w (w.setCell ⟨g,q,none⟩ u)/\base<=g/\w.frozen? ⟨g,q,none⟩=false:=by
 obtain⟨⟨hrow,hrw,hpw⟩,hy⟩:=h;obtain⟨g',hA',hb1,_,hb,hown⟩:=own_of hy (by omega);rw[hY]at hA';simp only[Option.some.injEq,Addr.mk.injEq,and_true]at hA';subst hA';have hkeep:∀k,k≠g->(w.setCell ⟨g,q,none⟩ u).heap[k]?=w.heap[k]?:=λk hk=>Below.heap_setCell w ⟨g,q,none⟩ u k hk;refine⟨⟨⟨hrow.keep λk hk=>hkeep k ?_,λp hp=>⟨(hrw p hp).1.keep λk hk=>hkeep k ?_,(hrw p hp).2.keep λk hk=>hkeep k ?_⟩,hpw⟩,?_⟩,?_,hb1,World.ownsRow.frozenAt hown q⟩
 ·rintro rfl;exact apartT hrow hy (by decide) _ hk hb
 ·rintro rfl;exact apartT (hrw p hp).1 hy (by decide) _ hk hb
 ·rintro rfl;exact apartT (hrw p hp).2 hy (by decide) _ hk hb
 ·refine .inr ?_;show(w.setCell _ _).ownsRow base _ 4 (.slice o.Y ys'.length o.yc) ys'.length (cellsOf symbolC ys')
  rw[hl,<-hc,hY];exact(hown.stored q _).1
 ·refine⟨rfl,rfl,rfl,by simp[World.setCell],λk hk hp=>hkeep k ?_⟩;rintro rfl;exact hp (.inr hb)
theorem smallYs(h:SmallO o.d){ys':List YD}(hl:ys'.length=o.ys.length)(hs:∀y∈ys',y.1.size<=9):SmallO (OV.d {o with ys:=ys'}):=
 ⟨h.1,by show ys'.length<=13;rw[hl];exact h.2.1,h.2.2.1,hs⟩
end
structure Mo(w wi:World)(B R:Nat)(N:Int)(A:Option Addr)(c:Nat)(os:List OV):Prop where
 own:OwnOs wi w.heap.size A c os
 sm:∀o∈os,SmallO o.d
 t:Tp w wi B R N
section
variable {w wx wy:World}{B R c:Nat}{N M:Int}{A:Option Addr}{os:List OV}
theorem Mo.turn (h:Mo w wx B R N A c os)(g:wx.grownBy wy (some R))(hR:R<w.heap.size)(T:Tp w wy B R M):Mo w wy B R M A c os:=
 ⟨h.own.keep λk hk=>g.block k (h.own.lt k hk).2 (λe=>by injection e with e;have:=(h.own.lt k hk).1;omega),h.sm,T⟩
theorem Mo.more (h:Mo w wx B R N A c os)(hM:N<=M):Mo w wx B R M A c os:=⟨h.own,h.sm,h.t.more hM⟩
theorem Mo.call (h:Mo w wx B R N A c os)(hb:Below wx.heap.size wx wy):Mo w wy B R N A c os:=⟨h.own.call hb,h.sm,h.t.call hb⟩
end
theorem OwnOs.apart {w:World}{base:Nat}{A:Option Addr}{c:Nat}{os:List OV}(h:OwnOs w base A c os){b' n' c' size:Nat}{A':Option Addr}{e:TypeId}{xs:List Value}(hr:Row w b' e size A' n' c' xs)
  (h1:26≠e)(h2:61≠e)(h3:5≠e)(h4:65≠e)(h5:67≠e):∀k,lblk A c os k->blk A' c'≠some k:=by
 rintro k (hk|⟨o,ho,(hk|⟨p,hp,hk|hk⟩)|hk⟩) e'
 ·exact apartT h.1 hr h1 k hk e'
 ·exact apartT (h.2.1 o ho).1.1 hr h2 k hk e'
 ·exact apartT ((h.2.1 o ho).1.2.1 p hp).1 hr h3 k hk e'
 ·exact apartT ((h.2.1 o ho).1.2.1 p hp).2 hr h4 k hk e'
 ·exact apartT (h.2.1 o ho).2 hr h5 k hk e'
structure Mi(w wi:World)(B R X K:Nat)(N:Int)(A:Option Addr)(c:Nat)(os:List OV)(o:OV):Prop where
 own:OwnOs wi w.heap.size A c os
 sm:∀x∈os,SmallO x.d
 ob:OwnO wi w.heap.size o
 so:SmallO o.d
 bx:Box wi X 26 #[.slice o.A o.ps.length o.c,.slice o.Y o.ys.length o.yc]
 old:∀k,lblk A c os k->k<K
 new:∀k,oblk o k->K<=k
 xk:K<=X
 wk:w.heap.size<=K
 t:Tp w wi B R N
section
variable {w wx wy:World}{B R X K c:Nat}{N M:Int}{A:Option Addr}{os:List OV}{o:OV}
theorem Mi.turn (h:Mi w wx B R X K N A c os o)(g:wx.grownBy wy (some R))(hR:R<w.heap.size)(T:Tp w wy B R M):Mi w wy B R X K M A c os o:=
 ⟨h.own.keep λk hk=>g.block k (h.own.lt k hk).2 (λe=>by injection e with e;have:=(h.own.lt k hk).1;omega),h.sm,h.ob.grownR g hR,h.so,h.bx.grown g (by intro k hk;injection hk with hk;have:=h.xk;have:=h.wk;omega),h.old,h.new,h.xk,h.wk,T⟩
theorem Mi.more (h:Mi w wx B R X K N A c os o)(hM:N<=M):Mi w wx B R X K M A c os o:=⟨h.own,h.sm,h.ob,h.so,h.bx,h.old,h.new,h.xk,h.wk,h.t.more hM⟩
theorem Mi.put (h:Mi w wx B R X K N A c os o)(hR:R<w.heap.size){g:Nat}(hY:o.Y=some ⟨g,0,none⟩)(hn:0<o.ys.length)(q:Nat)(u:Value)(ys':List YD)(hl:ys'.length=o.ys.length)(hc:(cellsOf symbolC o.ys).set q u=cellsOf symbolC ys')(hs:∀y∈ys',y.1.size<=9):
  Mi w (wx.setCell ⟨g,q,none⟩ u) B R X K N A c os {o with ys:=ys'}:=by
 obtain⟨h1,h2,h3,_⟩:=cellY h.ob hY hn q u ys' hl hc;have hgX:X≠g:=by obtain⟨g',hA',_,_,hb,_⟩:=own_of h.ob.2 hn;rw[hY]at hA';simp only[Option.some.injEq,Addr.mk.injEq,and_true]at hA';subst hA';exact λe=>h.ob.2.box h.bx (by decide) g hb e.symm
 refine⟨h.own.gp h2 (λk hk hk'=>by have h4:=h.old k hk;have h5:=h.new k hk';omega),h.sm,h1,smallYs h.so hl hs,?_,h.old,h.new,h.xk,h.wk,h.t.set (a:=⟨g,q,none⟩) h3 (by show R<g;omega) u⟩;have hb:=h.bx.far (p:=⟨g,q,none⟩) hgX u;show Box _ X _ #[.slice o.A o.ps.length o.c,.slice o.Y ys'.length o.yc]
 rw[hl];exact hb
end
theorem Mo.put {w wx:World}{B R c g:Nat}{N:Int}{A:Option Addr}{l1 l2:List OV}{o:OV}(h:Mo w wx B R N A c (l1++o::l2))(hR:R<w.heap.size)(hY:o.Y=some ⟨g,0,none⟩)(hn:0<o.ys.length)(q:Nat)(u:Value)(ys':List YD)(hl:ys'.length=o.ys.length)
  (hc:(cellsOf symbolC o.ys).set q u=cellsOf symbolC ys')(hs:∀y∈ys',y.1.size<=9):Mo w (wx.setCell ⟨g,q,none⟩ u) B R N A c (l1++{o with ys:=ys'}::l2):=by
 have ho:=h.own.2.1 o (by simp);obtain⟨h1,h2,h3,_⟩:=cellY ho hY hn q u ys' hl hc;refine⟨OwnOs.upd h.own (by simp[objC,hl]) (λk hk=>hk) h1 h2,λx hx=>?_,h.t.set (a:=⟨g,q,none⟩) h3 (by show R<g;omega) u⟩;rcases List.mem_append.1 hx with hx|hx
 ·exact h.sm x (List.mem_append_left _ hx)
 ·rcases List.mem_cons.1 hx with rfl|hx
  ·exact smallYs (h.sm o (by simp)) hl hs
  ·exact h.sm x (by simp[hx])
theorem names9{ys:List YD}(hs:∀y∈ys,y.1.size<=9)(j:Nat)(z:YD)(hz:z.1.size<=9):∀y∈ys.set j z,y.1.size<=9:=by
 intro y hy;rcases List.mem_or_eq_of_mem_set hy with hy|rfl
 ·exact hs y hy
 ·exact hz
theorem split_at{os:List OV}{k:Nat}(h:k<os.length):∃l1 l2,os=l1++os[k]::l2/\l1.length=k:=⟨os.take k,os.drop (k+1),by rw[<-List.drop_eq_getElem_cons h,List.take_append_drop],by rw[List.length_take];omega⟩
theorem sym_at{w:World}{base:Nat}{o:OV}(h:OwnO w base o){j:Nat}(hj:j<o.ys.length):∃g,o.Y=some ⟨g,0,none⟩/\g<w.heap.size/\blk o.Y o.yc=some g/\w.cell? ⟨g,j*4,none⟩=some (.string (o.ys[j]).1)/\w.cell? ⟨g,j*4+1,none⟩=some (.int .i64 (o.ys[j]).2.1)/\w.cell? ⟨g,j*4+2,none⟩=some (.int .i64 (o.ys[j]).2.2.1)/\(∀q,w.frozen? ⟨g,q,none⟩=false):=by obtain⟨g,hA,_,hg,hb,hown⟩:=own_of h.2 (by omega);have hrd:=h.2.rd;obtain⟨b,off,hA2,_,hc⟩:=hrd.row symbolC_len (by decide) hj;rw[hA]at hA2;simp only[Option.some.injEq,Addr.mk.injEq,and_true]at hA2;obtain⟨rfl,rfl⟩:=hA2;have c0:=hc 0 _ rfl;have c1:=hc 1 _ rfl;have c2:=hc 2 _ rfl;simp only[Nat.zero_add,Nat.add_zero]at c0 c1 c2;exact⟨g,hA,hg,hb,c0,c1,c2,λq=>World.ownsRow.frozenAt hown q⟩
theorem giv_small{d:OD}(h:SmallO d):∀s∈givN d,s.size<=9:=by
 intro s hs;unfold givN at hs;cases ho:objOk d
 ·rw[ho]at hs;cases hs
 ·rw[ho,cond_true]at hs;have h1:=((insAll_spec _).2 s).1 hs;obtain⟨y,hy,rfl⟩:=List.mem_map.1 h1;exact h.2.2.2 y (List.mem_filter.1 hy).1
theorem giv_len{d:OD}(h:SmallO d):(givN d).length<=13:=by
 unfold givN;cases ho:objOk d
 ·simp
 ·rw[cond_true];have h1:=insAll_len (givS d.ys);have h2:=givS_len d.ys;have:=h.2.1;omega
def zeroO:OV:=⟨none,0,[],none,0,[]⟩
theorem zero_apart:(List.replicate 5 zeroO).Pairwise ApO:=by
 rw[List.pairwise_iff_getElem];intro i j hi hj _ k hk _;rw[List.getElem_replicate]at hk;rcases hk with(hk|⟨p,hp,_⟩)|hk
 ·cases hk
 ·cases hp
 ·cases hk
theorem made5:(madeCells #[.slice none 0 0,.slice none 0 0] 10).toList=cellsOf objC (List.replicate 5 zeroO):=by kernel_rfl
theorem one_obj(o:OV):∀u∈objC o,u.oneCell'=true:=by
 intro u hu;simp only[objC,List.mem_cons,List.not_mem_nil,or_false]at hu;rcases hu with rfl|rfl<;>rfl
end DObjH
/- The draw of a list of objects. -/
namespace DObjL
open Kit CFixups CSymbols PObj BObj PValid BStore BList CSecValid CMarkRows CCopyS DPick DVar DName DBytes DSection BObj2 CEqual DObject CObjL CObjL2 CObjValid PWarn PClear PSort PLink CSorted PIns CNGS CNames CInsS DDrawB DObjH
def DrewOs(w0 w:World)(B R:Nat)(N:Int)(e:Ending)(w':World):Prop:=∃(A:Option Addr) (c:Nat) (os:List OV),e=.returned (.slice A os.length c)/\os.length<=8/\(∀o∈os,SmallO o.d)/\OwnOs w' w.heap.size A c os/\Tp w0 w' B R N/\w.grownBy w' (some R)
set_option maxHeartbeats 4000000 in
theorem objects_any {w0 w:World} {B R:Nat} {N:Int} (T0:Tp w0 w B R N) (hN:N<=1000) (hN0:0<=N) (n:Int) (hn:0<=n) (hn':n<=100):
    Calls Tryz.prog 58 #[.pointer (some ⟨R,0,none⟩),.int .i64 n] w (DrewOs w0 w B R (N+20000)):=by
  obtain ⟨iO,hio1,hio2,hio3,hio4⟩:=info_parts infoO
  have HIO:=h_ (And.intro hio1 (And.intro hio2 (And.intro hio3 hio4)))
  clear hio1 hio2 hio3 hio4
  obtain ⟨iN,hin1,hin2,hin3,hin4⟩:=info_parts infoStr
  have HIN:=h_ (And.intro hin1 (And.intro hin2 (And.intro hin3 hin4)))
  clear hin1 hin2 hin3 hin4
  have hR:=T0.lt
  have HT0:=h_ T0
  have T:=tp_new T0
  clear T0
  have HM:=h_ (show Mo w (w.alloc (.cells #[] 26)) B R N (some ⟨w.heap.size,0,none⟩) 0 [] from ⟨⟨Row.empty _ _ _ _ _,(fun o ho=>by cases ho),List.Pairwise.nil⟩,(fun o ho=>by cases ho),T.alloc _⟩)
  clear T
  have hws:w.heap.size<=(w.alloc (.cells #[] 26)).heap.size:=by simp
  have HWS:=h_ hws
  clear hws
  go_enter Tryz.func58,Tryz.ntmps58
  go_wp2_with fail
  generalize w.alloc (.cells #[] 26)=w1 at *
  refine (pick_tp HM.o.t (by omega) _ (by omega) (by omega)).mono ?_
  rintro e w2 ⟨i0,rfl,i00,i01,T1,g1⟩
  have HWS2:=h_ (Nat.le_trans HWS.o g1.size)
  replace HM:=h_ (HM.o.turn g1 hR T1)
  clear T1 g1 HWS
  obtain ⟨i,rfl⟩:=Int.eq_ofNat_of_zero_le i00
  go_wp2_with fail
  go_loopw [5,6] (fun s k wi=>∃ (i:Nat) (A:Option Addr) (c:Nat) (os:List OV),s=.slice A os.length c/\k=.int .i64 i/\i+os.length<=3/\w.heap.size<=wi.heap.size/\Mo w wi B R (N+10+2100*(3 - i:Int)) A c os) (fun _ k _=>(intOf k).toNat)
  case atStart=>exact ⟨i,_,_,[],rfl,rfl,by simp; omega,HWS2.o,HM.o.more (by omega)⟩
  case round=>
    rename World=>wr
    clear HM HWS2
    obtain ⟨i,A,c,os,rfl,rfl,hi,hws,hm⟩:=hrel
    have HM:=h_ hm
    have HWS:=h_ hws
    clear hm hws
    by_cases h0:0<i
    · go_wp2_with fail
      refine (object_any (tp_new HM.o.t) (by omega) (by omega) 0 (by omega) (by omega)).mono ?_
      rintro e w3 ⟨o,rfl,hsm,hown,hT,g1⟩
      have HOLD:=h_ (fun k hk=>(HM.o.own.lt k hk).2)
      have hgs:=g1.size
      replace HM:=h_ (HM.o.turn g1 hR (tp_tr HM.o.t hT))
      have b4:Below w3.heap.size w3 (w3.alloc (.cells #[.slice o.A o.ps.length o.c,.slice o.Y o.ys.length o.yc] 26)):=b_
      have HMI:=h_ (show Mi w (w3.alloc (.cells #[.slice o.A o.ps.length o.c,.slice o.Y o.ys.length o.yc] 26)) B R w3.heap.size wr.heap.size _ A c os o from
        ⟨HM.o.own.call b4,HM.o.sm,(hown.down HWS.o).call b4,hsm,Box.new w3 _ _,HOLD.o,fun k hk=>(hown.lt k hk).1,hgs,HWS.o,HM.o.t.call b4⟩)
      have HS4:=h_ (show wr.heap.size<=(w3.alloc (.cells #[.slice o.A o.ps.length o.c,.slice o.Y o.ys.length o.yc] 26)).heap.size from by simp; omega)
      clear hsm hown hT g1 HM HOLD b4 hgs
      unfold OV.v
      go_wp2_with fail
      generalize w3.alloc (.cells #[.slice o.A o.ps.length o.c,.slice o.Y o.ys.length o.yc] 26)=w4 at *
      generalize hX:w3.heap.size=X at *
      have HX:=h_ hX
      clear hX
      generalize hK:wr.heap.size=K at *
      have HK:=h_ hK
      clear hK HX
      have HYL:=h_ HMI.o.so.2.1
      have hyl13:o.ys.length<=13:=HYL.o
      go_loopw [8] (fun q wi=>∃ (j:Nat) (ys:List YD),q=.int .i64 j/\j<=ys.length/\ys.length=o.ys.length/\K<=wi.heap.size/\Mi w wi B R X K (N+10+2100*(3 - i:Int)+2000+j) A c os { o with ys:=ys }) (fun q _=>o.ys.length - (intOf q).toNat)
      case atStart=>exact ⟨0,o.ys,rfl,Nat.zero_le _,rfl,HS4.o,HMI.o.more (by omega)⟩
      case round=>
        rename World=>wi
        clear HMI HS4
        obtain ⟨j,ys,rfl,hj,hyl,hks,hm⟩:=hrel
        have HM:=h_ hm
        have HKS:=h_ hks
        have HYS:=h_ hyl
        clear hm hks hyl
        have hyl:ys.length<=13:=by have:=HYS.o; omega
        have y1:=d_ HM.o.bx 1
        have hxl:=HM.o.bx.lt
        by_cases hlt:j<ys.length
        · go_wp2_with fail
          refine (pick_tp HM.o.t (by omega) _ (by omega) (by omega)).mono ?_
          rintro e w5 ⟨x,rfl,x0,x1,T1,g1⟩
          replace HM:=h_ (HM.o.turn g1 hR T1)
          have HKS2:=h_ (Nat.le_trans HKS.o g1.size)
          clear T1 g1 y1 hxl HKS
          by_cases hx:x=0
          · subst hx
            have y1:=d_ HM.o.bx 1
            have hxl:=HM.o.bx.lt
            obtain ⟨g,hY,hgl,hgb,c0,c1,c2,hfz⟩:=sym_at HM.o.ob hlt
            have hf1:=hfz (j*4+1)
            have HY:=h_ hY
            simp only at hY c0 c1 c2
            rw [hY] at y1
            have HPUT:=h_ (fun (y2:Int)=>HM.o.put hR HY.o (show 0<ys.length by omega) (j*4+1) (.int .i64 y2) (ys.set j ((ys[j]).1,y2,(ys[j]).2.2)) (by simp) (setSym1 ys j ys[j] (List.getElem?_eq_getElem hlt) y2) (names9 HM.o.so.2.2.2 j _ (show (ys[j]).1.size<=9 from HM.o.so.2.2.2 (ys[j]) (List.getElem_mem hlt))))
            have HSL:=h_ (show ∀ y2:Int,(ys.set j ((ys[j]).1,y2,(ys[j]).2.2)).length=ys.length from fun y2=>by simp)
            clear hY hfz hgb c0
            generalize ys[j]=z at *
            obtain ⟨z1,z2,z3,z4⟩:=z
            simp only at c1 c2
            by_cases h3:z3=-1
            · have e3:(z3 != -1)=false:=by simp [h3]
              clear h3 HPUT HSL
              go_wp2_with fail
              refine ⟨⟨j+1,ys,by go_num,by omega,HYS.o,HKS2.o,HM.o.more (by omega)⟩,by simp [intOf]; have:=HYS.o; omega⟩
            · have e3:(z3 != -1)=true:=bne_iff_ne.2 h3
              by_cases h2:z2=1
              · subst h2
                have HP2:=h_ (HPUT.o 2)
                have HL2:=h_ (HSL.o 2)
                have hks':K<=(w5.setCell ⟨g,j*4+1,none⟩ (.int .i64 2)).heap.size:=by simpa [World.setCell] using HKS2.o
                have HK3:=h_ hks'
                clear h3 HPUT HSL hks'
                go_wp2_with fail
                refine ⟨⟨j+1,_,by go_num,by rw [HL2.o]; omega,by rw [HL2.o]; exact HYS.o,HK3.o,HP2.o.more (by omega)⟩,by simp [intOf]; have:=HYS.o; omega⟩
              · have e2:(z2 == 1)=false:=beq_eq_false_iff_ne.2 h2
                clear h3 h2 HPUT HSL
                go_wp2_with fail
                refine ⟨⟨j+1,ys,by go_num,by omega,HYS.o,HKS2.o,HM.o.more (by omega)⟩,by simp [intOf]; have:=HYS.o; omega⟩
          · have ex:(x == 0)=false:=beq_eq_false_iff_ne.2 hx
            have HKS:=HKS2
            clear HKS2 hlt
            generalize hoo:({ o with ys:=ys }:OV)=o2 at *
            have hoy:o2.ys=ys:=by rw [<-hoo]
            clear hoo hoy
            have q0:=d_ HM.o.bx 0
            have q1:=d_ HM.o.bx 1
            have hql:=HM.o.bx.lt
            have B5:Below w5.heap.size w5 (w5.alloc (.cells #[.slice o2.A o2.ps.length o2.c,.slice o2.Y o2.ys.length o2.yc] 26)):=b_
            have HROW:=h_ (HM.o.own.1.alloc (.cells #[.slice o2.A o2.ps.length o2.c,.slice o2.Y o2.ys.length o2.yc] 26))
            have hww:w.heap.size<=(w5.alloc (.cells #[.slice o2.A o2.ps.length o2.c,.slice o2.Y o2.ys.length o2.yc] 26)).heap.size:=by have:=HWS.o; have:=HKS.o; simp; omega
            go_wp2_with (at_builtin; refine wpList_app _ rfl (.tmp 58) (.tmp 60) 32 rfl 26 iO (.agg #[.slice none 0 0,.slice none 0 0]) 2 48 Tryz.underlying32 HIO.o.1 HIO.o.2.1 HIO.o.2.2.1 HIO.o.2.2.2 rfl (by decide) w.heap.size A os.length c (cellsOf objC os) rfl HROW.o hww (some ⟨w5.heap.size,0,none⟩) 1 1 (objC o2) rfl (rd_lit w5 #[.slice o2.A o2.ps.length o2.c,.slice o2.Y o2.ys.length o2.yc] 26 _ rfl) rfl (fun h=>by cases h) (one_obj o2) ?n1 ?n2 ?_)
            case n1=>unfold maxLen; omega
            case n2=>omega
            intro A6 n6 c6 w6 hn6 o6 g6 k6
            have HOW:=h_ (OwnOs.snoc (HM.o.own.call B5) (HM.o.ob.call B5) (fun x hx k hk=>HM.o.old k (.inr ⟨x,hx,hk⟩)) (fun k hk=>HM.o.new k hk) hn6 o6 g6)
            have HT6:=h_ ((HM.o.t.call B5).own g6 (fun k hk=>by have:=(HROW.o.lt k hk).1; omega))
            have HSM:=h_ (show ∀ x ∈ os++[o2],SmallO x.d from fun x hx=>by
              rcases List.mem_append.1 hx with hx | hx
              · exact HM.o.sm x hx
              · rw [List.mem_singleton.1 hx]
                exact HM.o.so)
            have hgs:=g6.size
            have HS6:=h_ (show w.heap.size<=w6.heap.size from Nat.le_trans hww hgs)
            subst hn6
            clear q0 q1 hql B5 HROW o6 g6 k6 HM hgs hww HKS
            go_wp2_with fail
            refine ⟨⟨i - 1,A6,c6,os++[o2],by simp,congrArg (Value.int .i64) (by omega),by simp; omega,HS6.o,HOW.o,HSM.o,HT6.o.more (by omega)⟩,by simp [intOf]; omega⟩
        · clear y1 hxl
          generalize hoo:({ o with ys:=ys }:OV)=o2 at *
          have hoy:o2.ys=ys:=by rw [<-hoo]
          have hdd:decide ((j:Int)<(o2.ys.length:Int))=false:=decide_eq_false (by rw [hoy]; omega)
          have hde:decide (j<o2.ys.length)=false:=decide_eq_false (by rw [hoy]; omega)
          clear hoo hoy
          have q0:=d_ HM.o.bx 0
          have q1:=d_ HM.o.bx 1
          have hql:=HM.o.bx.lt
          have B5:Below wi.heap.size wi (wi.alloc (.cells #[.slice o2.A o2.ps.length o2.c,.slice o2.Y o2.ys.length o2.yc] 26)):=b_
          have HROW:=h_ (HM.o.own.1.alloc (.cells #[.slice o2.A o2.ps.length o2.c,.slice o2.Y o2.ys.length o2.yc] 26))
          have hww:w.heap.size<=(wi.alloc (.cells #[.slice o2.A o2.ps.length o2.c,.slice o2.Y o2.ys.length o2.yc] 26)).heap.size:=by have:=HWS.o; have:=HKS.o; simp; omega
          go_wp2_with (at_builtin; refine wpList_app _ rfl (.tmp 58) (.tmp 60) 32 rfl 26 iO (.agg #[.slice none 0 0,.slice none 0 0]) 2 48 Tryz.underlying32 HIO.o.1 HIO.o.2.1 HIO.o.2.2.1 HIO.o.2.2.2 rfl (by decide) w.heap.size A os.length c (cellsOf objC os) rfl HROW.o hww (some ⟨wi.heap.size,0,none⟩) 1 1 (objC o2) rfl (rd_lit wi #[.slice o2.A o2.ps.length o2.c,.slice o2.Y o2.ys.length o2.yc] 26 _ rfl) rfl (fun h=>by cases h) (one_obj o2) ?n1 ?n2 ?_)
          case n1=>unfold maxLen; omega
          case n2=>omega
          intro A6 n6 c6 w6 hn6 o6 g6 k6
          have HOW:=h_ (OwnOs.snoc (HM.o.own.call B5) (HM.o.ob.call B5) (fun x hx k hk=>HM.o.old k (.inr ⟨x,hx,hk⟩)) (fun k hk=>HM.o.new k hk) hn6 o6 g6)
          have HT6:=h_ ((HM.o.t.call B5).own g6 (fun k hk=>by have:=(HROW.o.lt k hk).1; omega))
          have HSM:=h_ (show ∀ x ∈ os++[o2],SmallO x.d from fun x hx=>by
            rcases List.mem_append.1 hx with hx | hx
            · exact HM.o.sm x hx
            · rw [List.mem_singleton.1 hx]
              exact HM.o.so)
          have hgs:=g6.size
          have HS6:=h_ (show w.heap.size<=w6.heap.size from Nat.le_trans hww hgs)
          subst hn6
          clear hdd hde q0 q1 hql B5 HROW o6 g6 k6 HM hgs hww HKS
          go_wp2_with fail
          refine ⟨⟨i - 1,A6,c6,os++[o2],by simp,congrArg (Value.int .i64) (by omega),by simp; omega,HS6.o,HOW.o,HSM.o,HT6.o.more (by omega)⟩,by simp [intOf]; omega⟩
    · have hi0:i=0:=by omega
      subst hi0
      have hd0:decide ((0:Int)<((0:Nat):Int))=false:=by decide
      replace HM:=h_ (HM.o.more (show _<=N+6400 by omega))
      have hol:os.length<=3:=by omega
      clear h0 hi
      go_wp2_with fail
      refine (pick_tp HM.o.t (by omega) _ (by omega) (by omega)).mono ?_
      rintro e w3 ⟨x,rfl,x0,x1,T1,g1⟩
      have HS3:=h_ (Nat.le_trans HWS.o g1.size)
      replace HM:=h_ (HM.o.turn g1 hR T1)
      clear T1 g1 HWS
      go_upto_if 64 with (fail)
      go_cut [] from 9 to 150 (fun wx=>∃ os2:List OV,os2.length=os.length/\w.heap.size<=wx.heap.size/\Mo w wx B R (N+8000) A c os2)
      case first=>
        by_cases hx:x=0
        · subst hx
          have HG0:=h_ (show Row (w3.alloc (.cells #[] 9)) w.heap.size 9 1 (some ⟨w3.heap.size,0,none⟩) 0 0 (nmC []) from Row.empty _ _ _ _ _)
          have B4:Below w3.heap.size w3 (w3.alloc (.cells #[] 9)):=b_
          replace HM:=h_ (HM.o.call B4)
          have HS4:=h_ (Nat.le_trans HS3.o B4.size)
          clear B4 HS3
          go_wp2_with fail
          generalize w3.alloc (.cells #[] 9)=w4 at *
          go_loopw [9,10] (fun s q wi=>∃ (k:Nat) (GA:Option Addr) (gc:Nat) (gs:List ByteArray),s=.slice GA gs.length gc/\q=.int .i64 k/\k<=os.length/\gs.length<=13*k/\(∀ s ∈ gs,s.size<=9)/\Row wi w.heap.size 9 1 GA gs.length gc (nmC gs)/\w.heap.size<=wi.heap.size/\Mo w wi B R (N+6410) A c os) (fun _ q _=>os.length - (intOf q).toNat)
          case atStart=>exact ⟨0,_,_,[],rfl,rfl,Nat.zero_le _,Nat.le_refl _,(fun s hs=>by cases hs),HG0.o,HS4.o,HM.o.more (by omega)⟩
          case round=>
            rename World=>wk
            clear HM HG0 HS4
            obtain ⟨k,GA,gc,gs,rfl,rfl,hk,hgl,hg9,hg,hws,hm⟩:=hrel
            have HM:=h_ hm
            have HG:=h_ hg
            have HG9:=h_ hg9
            have HWS:=h_ hws
            clear hm hg hg9 hws
            by_cases hlt:k<os.length
            · obtain ⟨b,off,hA,hbb,c0,c1⟩:=HM.o.own.rd.at hlt
              have HSMO:=h_ (HM.o.sm _ (List.getElem_mem hlt))
              have HOO:=h_ (HM.o.own.2.1 _ (List.getElem_mem hlt))
              subst hA
              generalize os[k]=o at *
              go_wp2_with fail
              refine (namesGivenS_any o wk HOO.o.rd (bnd_fit (bnd_small HSMO.o) HOO.o).1).mono ?_
              rintro e w5 ⟨A5,c5,rfl,r5,b5⟩
              have HR5:=h_ r5
              have HL5:=h_ (And.intro (giv_len HSMO.o) (giv_small HSMO.o))
              have hl5:=HL5.o.1
              replace HM:=h_ (HM.o.call b5)
              replace HG:=h_ (HG.o.call b5)
              have HWS5:=h_ (Nat.le_trans HWS.o b5.size)
              clear r5 b5 c0 c1 HOO HSMO HWS
              generalize givN o.d=ms at *
              go_wp2_with (at_builtin; refine wpList_app _ rfl (.tmp 72) (.tmp 77) 28 rfl 9 iN (.string ByteArray.empty) 1 16 Tryz.underlying28 HIN.o.1 HIN.o.2.1 HIN.o.2.2.1 HIN.o.2.2.2 rfl (by decide) w.heap.size GA gs.length gc (nmC gs) rfl HG.o HWS5.o A5 ms.length c5 (nmC ms) rfl HR5.o.rd (by simp [nmC]) HR5.o.nil (one_nm ms) ?n3 ?n4 ?_)
              case n3=>unfold maxLen; omega
              case n4=>omega
              intro A6 n6 c6 w6 hn6 o6 g6 k6
              subst hn6
              have HAP:=h_ (OwnOs.apart HM.o.own HG.o (by decide) (by decide) (by decide) (by decide) (by decide))
              have HM6:=h_ (show Mo w w6 B R (N+6410) (some ⟨b,off,none⟩) c os from ⟨HM.o.own.keep fun k hk=>g6.block k (HM.o.own.lt k hk).2 (fun e=>HAP.o k hk e.symm),HM.o.sm,HM.o.t.own g6 (fun k hk=>by have:=(HG.o.lt k hk).1; omega)⟩)
              have HG6:=h_ (show Row w6 w.heap.size 9 1 A6 (gs++ms).length c6 (nmC (gs++ms)) from by
                have e:nmC (gs++ms)=nmC gs++nmC ms:=by simp [nmC]
                rw [e,List.length_append]
                exact o6)
              have HN9:=h_ (show ∀ s ∈ gs++ms,s.size<=9 from fun s hs=>by
                rcases List.mem_append.1 hs with hs | hs
                · exact HG9.o s hs
                · exact HL5.o.2 s hs)
              have HW6:=h_ (Nat.le_trans HWS5.o g6.size)
              clear o6 g6 k6 HM HG HAP HR5 HL5
              go_wp2_with fail
              go_roundw
              case rel=>
                refine ⟨_,_,_,_,_,_,_,_,_,_,_,_,_,_,_,?_,rfl⟩
                exact ⟨k+1,A6,c6,gs++ms,by simp,by go_num,by omega,by simp; omega,HN9.o,HG6.o,HW6.o,HM6.o⟩
              case measure=>simp [intOf]; omega
            · have hke:k=os.length:=by omega
              have hgl2:gs.length<=39:=by omega
              have hdk:decide (k<os.length)=false:=decide_eq_false (by omega)
              go_wp2_with fail
              clear hdk hke hlt hk hgl
              go_loopw [11] (fun q wi=>∃ (k:Nat) (os2:List OV),q=.int .i64 k/\os2.length=os.length/\k<=os.length/\Row wi w.heap.size 9 1 GA gs.length gc (nmC gs)/\w.heap.size<=wi.heap.size/\Mo w wi B R (N+6410+20*k) A c os2) (fun q _=>os.length - (intOf q).toNat)
              case atStart=>exact ⟨0,os,rfl,rfl,Nat.zero_le _,HG.o,HWS.o,HM.o.more (by omega)⟩
              case round=>
                rename World=>wi
                clear HM HG HWS
                obtain ⟨k,os2,rfl,hol2,hk,hg,hws,hm⟩:=hrel
                have HM:=h_ hm
                have HG:=h_ hg
                have HWS:=h_ hws
                have HOL:=h_ hol2
                clear hm hg hws hol2
                by_cases hlt:k<os.length
                · go_wp2_with fail
                  go_loopw [12] (fun q wi=>∃ (j:Nat) (os3:List OV),q=.int .i64 j/\os3.length=os.length/\j<=13/\Row wi w.heap.size 9 1 GA gs.length gc (nmC gs)/\w.heap.size<=wi.heap.size/\Mo w wi B R (N+6410+20*k+j) A c os3) (fun q _=>13 - (intOf q).toNat)
                  case atStart=>exact ⟨0,os2,rfl,HOL.o,Nat.zero_le _,HG.o,HWS.o,HM.o.more (by omega)⟩
                  case round=>
                    rename World=>wj
                    clear HM HG HWS HOL
                    obtain ⟨j,os3,rfl,hol3,hj,hg,hws,hm⟩:=hrel
                    have HM:=h_ hm
                    have HG:=h_ hg
                    have HWS:=h_ hws
                    have HOL:=h_ hol3
                    have hlt3:k<os3.length:=by omega
                    clear hm hg hws hol3
                    obtain ⟨b,off,hA,hbb,c0,c1⟩:=HM.o.own.rd.at hlt3
                    have HSMO:=h_ (HM.o.sm _ (List.getElem_mem hlt3))
                    have HOO:=h_ (HM.o.own.2.1 _ (List.getElem_mem hlt3))
                    have hyl:=HSMO.o.2.1
                    obtain ⟨l1,l2,hsp,hl1⟩:=split_at hlt3
                    generalize hoo:os3[k]=o at *
                    clear hoo
                    subst hsp
                    have hyl:o.ys.length<=13:=hyl
                    have HK:=h_ hlt3
                    have HL1:=h_ hl1
                    have hcs:(j<o.ys.length/\0<gs.length)\/(j<o.ys.length/\gs.length=0)\/¬ j<o.ys.length:=by omega
                    clear hlt3 hl1
                    subst hA
                    rcases hcs with ⟨hj1,hg1⟩ | ⟨hj1,hg1⟩ | hj1
                    · obtain ⟨g,hY,hgl,hgb,d0,d1,d2,hfz⟩:=sym_at HOO.o hj1
                      have HY:=h_ hY
                      have HCC:=h_ c1
                      rw [hY] at c1
                      clear hY d0 d1 hfz hgb c0 HOO
                      generalize hz:o.ys[j]=z at *
                      have HZ:=h_ hz
                      clear hz
                      obtain ⟨z1,z2,z3,z4⟩:=z
                      simp only at d2
                      by_cases h3:z3=-1
                      · have e3:(z3 != -1)=false:=by simp [h3]
                        clear h3
                        go_wp2_with fail
                        refine (pick_tp HM.o.t (by omega) _ (by omega) (by omega)).mono ?_
                        rintro e w5 ⟨x,rfl,x0,x1,T1,g1⟩
                        obtain ⟨x,rfl⟩:=Int.eq_ofNat_of_zero_le x0
                        have hxl:x<gs.length:=by omega
                        have HW5:=h_ (Nat.le_trans HWS.o g1.size)
                        replace HG:=h_ (HG.o.grown g1 (fun k hk e=>by injection e with e; have:=(HG.o.lt k hk).1; omega))
                        replace HM:=h_ (HM.o.turn g1 hR T1)
                        clear T1 g1 c1 d2 e3 HCC hbb hgl HWS
                        obtain ⟨nb,no,hNA,hnb,hcn⟩:=HG.o.rd x (.string gs[x]) (by simp [nmC,List.getElem?_eq_getElem hxl])
                        have hn9:=HG9.o gs[x] (List.getElem_mem hxl)
                        subst hNA
                        generalize gs[x]=nm at *
                        have HN9:=h_ hn9
                        clear hn9
                        go_wp2_with fail
                        clear hcn hnb hxl x0 x1
                        obtain ⟨b',off',hA',hbb,c0,c1⟩:=HM.o.own.rd.at HK.o
                        simp only [Option.some.injEq,Addr.mk.injEq,and_true] at hA'
                        obtain ⟨rfl,rfl⟩:=hA'
                        have hoe:(l1++o :: l2)[k]'HK.o=o:=by
                          rw [List.getElem_append_right (by have:=HL1.o; omega)]
                          simp [HL1.o]
                        rw [hoe] at c0 c1
                        have HOO:=h_ (HM.o.own.2.1 o (by simp))
                        rw [HY.o] at c1
                        clear hoe c0
                        go_loopw [14,15] (fun f q wi=>∃ (fb:Bool) (i:Nat),f=.bool fb/\q=.int .i64 i/\i<=o.ys.length/\w5=wi) (fun _ q _=>o.ys.length - (intOf q).toNat)
                        case atStart=>exact ⟨true,0,rfl,rfl,Nat.zero_le _,rfl⟩
                        case round=>
                          obtain ⟨fb,i6,rfl,rfl,hi6,hw⟩:=hrel
                          subst hw
                          by_cases hl6:i6<o.ys.length
                          · obtain ⟨g',hY',hgl,hgb,d0,d1,d2,hfz⟩:=sym_at HOO.o hl6
                            rw [HY.o] at hY'
                            simp only [Option.some.injEq,Addr.mk.injEq,and_true] at hY'
                            subst hY'
                            clear hfz hgb d1 d2
                            generalize (o.ys[i6]).1=sn at *
                            cases fb
                            · go_wp2_with fail
                              refine ⟨⟨false,i6+1,rfl,by go_num,by omega,trivial⟩,by simp [intOf]; omega⟩
                            · cases hq:(sn.toList == nm.toList)
                              · go_wp2_with fail
                                refine ⟨⟨true,i6+1,rfl,by go_num,by omega,trivial⟩,by simp [intOf]; omega⟩
                              · go_wp2_with fail
                                refine ⟨⟨false,i6+1,rfl,by go_num,by omega,trivial⟩,by simp [intOf]; omega⟩
                          · have hd6:decide (i6<o.ys.length)=false:=decide_eq_false hl6
                            cases fb
                            · go_wp2_with fail
                              refine ⟨?_,?_⟩
                              · first
                                  | exact ⟨j+1,l1++o :: l2,by go_num,HOL.o,by omega,HG.o,HW5.o,HM.o.more (by omega)⟩
                                  | (repeat apply Exists.intro
                                     refine ⟨?_,rfl⟩
                                     exact ⟨j+1,l1++o :: l2,by go_num,HOL.o,by omega,HG.o,HW5.o,HM.o.more (by omega)⟩)
                              · simp [intOf]
                                omega
                            · obtain ⟨g',hY',hgl,hgb,d0,d1,d2,hfz⟩:=sym_at HOO.o hj1
                              rw [HY.o] at hY'
                              simp only [Option.some.injEq,Addr.mk.injEq,and_true] at hY'
                              subst hY'
                              have hf0:=hfz (j*4)
                              have HP:=h_ (HM.o.put hR HY.o (by omega) (j*4) (.string nm) (o.ys.set j (nm,(o.ys[j]).2)) (by simp) (setSym0 o.ys j _ (List.getElem?_eq_getElem hj1) nm) (names9 HSMO.o.2.2.2 j _ (show nm.size<=9 from HN9.o)))
                              have HG2:=h_ (HG.o.set (a:=⟨g,j*4,none⟩) (fun q hq e=>apartT HOO.o.2 HG.o (by decide) _ hgb (by rw [hq,e])) (.string nm))
                              have HW6:=h_ (show w.heap.size<=(w5.setCell ⟨g,j*4,none⟩ (.string nm)).heap.size from by simpa [World.setCell] using HW5.o)
                              have HOL2:=h_ (show (l1++{ o with ys:=o.ys.set j (nm,(o.ys[j]).2) } :: l2).length=os.length from by
                                have:=HOL.o
                                simpa using this)
                              clear hfz d1 d2 hgb
                              generalize (o.ys[j]).1=on at *
                              go_wp2_with fail
                              refine ⟨?_,?_⟩
                              · first
                                  | exact ⟨j+1,_,by go_num,HOL2.o,by omega,HG2.o,HW6.o,HP.o.more (by omega)⟩
                                  | (repeat apply Exists.intro
                                     refine ⟨?_,rfl⟩
                                     exact ⟨j+1,_,by go_num,HOL2.o,by omega,HG2.o,HW6.o,HP.o.more (by omega)⟩)
                              · simp [intOf]
                                omega
                      · have e3:(z3 != -1)=true:=bne_iff_ne.2 h3
                        clear h3
                        go_wp2_with fail
                        refine ⟨?_,?_⟩
                        · first
                            | exact ⟨j+1,l1++o :: l2,by go_num,HOL.o,by omega,HG.o,HWS.o,HM.o.more (by omega)⟩
                            | (repeat apply Exists.intro
                               refine ⟨?_,rfl⟩
                               exact ⟨j+1,l1++o :: l2,by go_num,HOL.o,by omega,HG.o,HWS.o,HM.o.more (by omega)⟩)
                        · simp [intOf]
                          omega
                    · have hd1:decide (0<gs.length)=false:=decide_eq_false (by omega)
                      go_wp2_with fail
                      refine ⟨?_,?_⟩
                      · first
                          | exact ⟨k+1,l1++o :: l2,by go_num,HOL.o,by omega,HG.o,HWS.o,HM.o.more (by omega)⟩
                          | (repeat apply Exists.intro
                             refine ⟨?_,rfl⟩
                             exact ⟨k+1,l1++o :: l2,by go_num,HOL.o,by omega,HG.o,HWS.o,HM.o.more (by omega)⟩)
                      · simp [intOf]
                        omega
                    · have hd1:decide (j<o.ys.length)=false:=decide_eq_false hj1
                      go_wp2_with fail
                      refine ⟨?_,?_⟩
                      · first
                          | exact ⟨k+1,l1++o :: l2,by go_num,HOL.o,by omega,HG.o,HWS.o,HM.o.more (by omega)⟩
                          | (repeat apply Exists.intro
                             refine ⟨?_,rfl⟩
                             exact ⟨k+1,l1++o :: l2,by go_num,HOL.o,by omega,HG.o,HWS.o,HM.o.more (by omega)⟩)
                      · simp [intOf]
                        omega
                · have hdk:decide (k<os.length)=false:=decide_eq_false (by omega)
                  clear hlt
                  go_wp2_with fail
                  go_meet
                  exact ⟨os2,HOL.o,HWS.o,HM.o.more (by omega)⟩
        · have ex:(x == 0)=false:=beq_eq_false_iff_ne.2 hx
          clear hx
          go_wp2_with fail
          go_meet
          exact ⟨os,rfl,HS3.o,HM.o.more (by omega)⟩
      case rest=>
        rename World=>wc
        obtain ⟨os2,hol2,hws,hm⟩:=hcut
        clear HM HS3
        have HM:=h_ hm
        have HWS:=h_ hws
        rw [<-hol2]
        have hol3:os2.length<=3:=by omega
        clear hm hws hol2 hol
        go_wp2_with fail
        refine (odd_tp HM.o.t (by omega) n hn (by omega)).mono ?_
        rintro e w5 ⟨bo,rfl,T1,g1⟩
        replace HWS:=h_ (Nat.le_trans HWS.o g1.size)
        replace HM:=h_ (HM.o.turn g1 hR T1)
        clear T1 g1
        go_upto_if 153 with (fail)
        go_cut [5] from 153 to 158 (fun s wx=>∃ (A3:Option Addr) (c3:Nat) (os3:List OV),s=.slice A3 os3.length c3/\os3.length<=4/\w.heap.size<=wx.heap.size/\Mo w wx B R (N+10100) A3 c3 os3)
        case first=>
          cases bo
          · go_wp2_with fail
            go_meet
            exact ⟨_,_,os2,rfl,by omega,HWS.o,HM.o.more (by omega)⟩
          · go_wp2_with fail
            refine (object_any (tp_new HM.o.t) (by omega) (by omega) 1 (by omega) (by omega)).mono ?_
            rintro e w6 ⟨o,rfl,hsm,hown,hT,g1⟩
            have HOLD:=h_ (fun k hk=>(HM.o.own.lt k hk).2)
            have HW6:=h_ (Nat.le_trans HWS.o g1.size)
            replace HM:=h_ (HM.o.turn g1 hR (tp_tr HM.o.t hT))
            have HSO:=h_ hsm
            have HOW:=h_ hown
            have HNE:=h_ (fun k (hk:oblk o k)=>(hown.lt k hk).1)
            clear hsm hown hT g1
            unfold OV.v
            have B5:Below w6.heap.size w6 (w6.alloc (.cells #[.slice o.A o.ps.length o.c,.slice o.Y o.ys.length o.yc] 26)):=b_
            have HROW:=h_ (HM.o.own.1.alloc (.cells #[.slice o.A o.ps.length o.c,.slice o.Y o.ys.length o.yc] 26))
            have hww:w.heap.size<=(w6.alloc (.cells #[.slice o.A o.ps.length o.c,.slice o.Y o.ys.length o.yc] 26)).heap.size:=by have:=HW6.o; simp; omega
            have HOD:=h_ (HOW.o.down HWS.o)
            go_wp2_with (at_builtin; refine wpList_app _ rfl (.tmp 154) (.tmp 157) 32 rfl 26 iO (.agg #[.slice none 0 0,.slice none 0 0]) 2 48 Tryz.underlying32 HIO.o.1 HIO.o.2.1 HIO.o.2.2.1 HIO.o.2.2.2 rfl (by decide) w.heap.size A os2.length c (cellsOf objC os2) rfl HROW.o hww (some ⟨w6.heap.size,0,none⟩) 1 1 (objC o) rfl (rd_lit w6 #[.slice o.A o.ps.length o.c,.slice o.Y o.ys.length o.yc] 26 _ rfl) rfl (fun h=>by cases h) (one_obj o) ?n5 ?n6 ?_)
            case n5=>unfold maxLen; omega
            case n6=>omega
            intro A7 n7 c7 w7 hn7 o7 g7 k7
            have HON:=h_ (OwnOs.snoc (HM.o.own.call B5) (HOD.o.call B5) (fun x hx k hk=>HOLD.o k (.inr ⟨x,hx,hk⟩)) (fun k hk=>HNE.o k hk) hn7 o7 g7)
            have HT7:=h_ ((HM.o.t.call B5).own g7 (fun k hk=>by have:=(HROW.o.lt k hk).1; omega))
            have HSM:=h_ (show ∀ x ∈ os2++[o],SmallO x.d from fun x hx=>by
              rcases List.mem_append.1 hx with hx | hx
              · exact HM.o.sm x hx
              · rw [List.mem_singleton.1 hx]
                exact HSO.o)
            have hgs:=g7.size
            have HW7:=h_ (show w.heap.size<=w7.heap.size from Nat.le_trans hww hgs)
            subst hn7
            clear B5 HROW o7 g7 k7 hgs hww HM HOLD HNE HOW HOD
            go_wp2_with fail
            go_meet
            exact ⟨A7,c7,os2++[o],by simp,by simp; omega,HW7.o,⟨HON.o,HSM.o,HT7.o.more (by omega)⟩⟩
        case rest=>
          rename World=>wd
          obtain ⟨A3,c3,os3,rfl,hl4,hws,hm⟩:=hcut
          clear HM HWS
          have HM:=h_ hm
          have HWS:=h_ hws
          clear hm hws
          have hn2:IntKind.i64.wrap (2*n)=2*n:=IntWalk.i64_in _ (by omega)
          go_wp2_with fail
          refine (odd_tp HM.o.t (by omega) (2*n) (by omega) (by omega)).mono ?_
          rintro e w6 ⟨bo,rfl,T1,g1⟩
          replace HWS:=h_ (Nat.le_trans HWS.o g1.size)
          replace HM:=h_ (HM.o.turn g1 hR T1)
          clear T1 g1 hn2
          cases bo
          · have HF:=h_ (show DrewOs w0 w B R (N+20000) (.returned (.slice A3 os3.length c3)) w6 from ⟨A3,c3,os3,rfl,by omega,HM.o.sm,HM.o.own,(tp_tr HT0.o HM.o.t).more (by omega),HM.o.t.2⟩)
            go_wp2_with fail
            go_ret
            exact HF.o
          · go_wp2_with (at_make; refine wpList_make_full _ rfl _ _ _ rfl w.heap.size 26 iO (.agg #[.slice none 0 0,.slice none 0 0]) 2 Tryz.underlying32 HIO.o.1 HIO.o.2.1 HIO.o.2.2.1 .i64 .i64 _ _ 5 rfl rfl rfl rfl ?c1 ?c2 ?c3 ?_)
            case c1=>rw [HIO.o.2.2.2]; omega
            case c2=>unfold maxLen; omega
            case c3=>exact HWS.o
            intro w7 hto g8
            have B3:Below w6.heap.size w6 w7:=(Below.refl _ _).grown g8 (Nat.le_refl _) (by intro k h; cases h)
            have HT7:=h_ (HM.o.t.call B3)
            have HF:=h_ (show DrewOs w0 w B R (N+20000) (.returned (.slice (some ⟨w6.heap.size,0,none⟩) 5 5)) w7 from ⟨_,5,List.replicate 5 zeroO,rfl,by simp,(fun x hx=>by rw [List.eq_of_mem_replicate hx]; exact ⟨by simp [OV.d,zeroO],by simp [OV.d,zeroO],(fun s hs=>by cases hs),(fun y hy=>by cases hy)⟩),
              ⟨Row.own (by rw [<-made5]; exact hto),(fun x hx=>by rw [List.eq_of_mem_replicate hx]; exact ⟨⟨Row.empty _ _ _ _ _,(fun p hp=>by cases hp),List.Pairwise.nil⟩,Row.empty _ _ _ _ _⟩),zero_apart⟩,(tp_tr HT0.o HT7.o).more (by omega),HT7.o.2⟩)
            clear hto g8 B3
            go_wp2_with fail
            go_ret
            exact HF.o
end DObjL
end Go.Proofs.YtepoiphmmjfbdaaGreatDoor
