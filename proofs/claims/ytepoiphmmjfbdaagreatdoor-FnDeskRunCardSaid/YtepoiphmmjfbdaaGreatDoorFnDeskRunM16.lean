/- The draw of a section. -/
import Derived.Test.YtepoiphmmjfbdaaGreatDoorFnDeskRunM15
import Derived.Deep.CutRange
import Derived.Deep.CutBlock
set_option linter.unusedSimpArgs false
set_option linter.unusedVariables false
set_option maxRecDepth 200000
open Go.ChangeShapes Go.WideShapes Go.ChangeAt Go.RowKit
namespace Go.Proofs.YtepoiphmmjfbdaaGreatDoor
namespace DSection
open Kit CFixups CSymbols PObj BObj PValid CSecValid CMarkRows CCopyS DPick DVar DName DBytes
def SmallS(p:SD):Prop:=p.nm.size<=9/\p.zs.length<=49/\InR 0 255 p.zs/\p.fs.length<=5/\-1<=p.sz/\p.sz<=49
def DrewS(w0 w:World)(B R:Nat)(N:Int)(n:Int)(e:Ending)(w':World):Prop:=∃q:SV,e=.returned (.agg (secC q).toArray)/\SmallS q.d/\(n=0->0<=q.sz)/\RwS w' w.heap.size q/\Tp w0 w' B R N
structure Mid(w0 w wx:World)(B R X:Nat)(lo N:Int)(q:SV):Prop where
 sm:SmallS q.d
 z0:lo<=q.sz
 rw_:RwS wx w.heap.size q
 bx:Box wx X 61 #[.string q.nm,.int .i64 q.kd,.int .i64 q.al,.slice q.A q.zs.length q.c,.int .i64 q.sz,.slice q.F q.fs.length q.fc]
 by_:Box wx w.heap.size 61 #[.string ByteArray.empty,.int .i64 0,.int .i64 0,.slice none 0 0,.int .i64 0,.slice none 0 0]
 t:Tp w0 wx B R N
 sz:w.heap.size<X
section
variable {w0 w wx wy:World}{B R X:Nat}{N M lo:Int}{q:SV}
theorem Mid.turn (h:Mid w0 w wx B R X lo N q)(g:wx.grownBy wy (some R))(hR:R<w.heap.size)(T:Tp w0 wy B R M):Mid w0 w wy B R X lo M q:=
 ⟨h.sm,h.z0,⟨h.rw_.1.grown g (λk hk e=>by injection e with e;have:=(h.rw_.1.lt k hk).1;omega),h.rw_.2.grown g (λk hk e=>by injection e with e;have:=(h.rw_.2.lt k hk).1;omega)⟩,
  h.bx.grown g (by intro k hk;injection hk with hk;have:=h.sz;omega),h.by_.grown g (by intro k hk;injection hk with hk;omega),T,h.sz⟩
theorem Mid.more (h:Mid w0 w wx B R X lo N q)(hM:N<=M):Mid w0 w wx B R X lo M q:=⟨h.sm,h.z0,h.rw_,h.bx,h.by_,h.t.more hM,h.sz⟩
theorem Mid.call (h:Mid w0 w wx B R X lo N q)(hb:Below wx.heap.size wx wy):Mid w0 w wy B R X lo N q:=⟨h.sm,h.z0,h.rw_.call hb,h.bx.call hb,h.by_.call hb,h.t.call hb,h.sz⟩
theorem Mid.fixed (h:Mid w0 w wx B R X lo N q)(hR:R<w.heap.size)(hw:w0.heap.size<=w.heap.size){F':Option Addr}{fc' n:Nat}{fs':List FD}(row:Row wy w.heap.size 65 4 F' n fc' (cellsOf fixupC fs'))(hn:n=fs'.length)(g:wx.grownBy wy (blk q.F q.fc))(hl:fs'.length<=5):
  Mid w0 w (wy.setCell ⟨X,5,none⟩ (.slice F' n fc')) B R X lo N {q with F:=F',fc:=fc',fs:=fs'}:=by
 subst hn;have hX:=h.bx.grown g (h.rw_.2.box h.bx (by decide));have hA:=h.rw_.1.grown g (λk hk=>apartT h.rw_.1 h.rw_.2 (by decide) k hk);refine⟨⟨h.sm.1,h.sm.2.1,h.sm.2.2.1,hl,h.sm.2.2.2.2⟩,h.z0,⟨hA.set (a:=⟨X,5,none⟩) (hA.box hX (by decide)) _,row.set (a:=⟨X,5,none⟩) (row.box hX (by decide)) _⟩,hX.set 5 _,?_,?_,h.sz⟩
 ·exact(h.by_.grown g (h.rw_.2.box h.by_ (by decide))).far (p:=⟨X,5,none⟩) (by have:=h.sz;show w.heap.size≠X;omega) _
 ·exact(h.t.own g (λk hk=>by have:=(h.rw_.2.lt k hk).1;omega)).set (a:=⟨X,5,none⟩) (by have:=h.sz;show w0.heap.size<=X;omega) (by have:=h.sz;show R<X;omega) _
theorem Mid.put (h:Mid w0 w wx B R X lo N q)(hR:R<w.heap.size)(hw:w0.heap.size<=w.heap.size)(i:Nat)(u:Value)(q':SV){lo':Int}(hc:(secC q).set i u=secC q')(hA:q'.A=q.A/\q'.c=q.c/\q'.zs=q.zs)(hF:q'.F=q.F/\q'.fc=q.fc/\q'.fs=q.fs)(sm:SmallS q'.d)(hl:lo'<=q'.sz):
  Mid w0 w (wx.setCell ⟨X,i,none⟩ u) B R X lo' N q':=by
 refine⟨sm,hl,?_,?_,h.by_.far (p:=⟨X,i,none⟩) (by have:=h.sz;show w.heap.size≠X;omega) _,h.t.set (a:=⟨X,i,none⟩) (by have:=h.sz;show w0.heap.size<=X;omega) (by have:=h.sz;show R<X;omega) _,h.sz⟩
 ·unfold RwS;rw[hA.1,hA.2.1,hA.2.2,hF.1,hF.2.1,hF.2.2];exact⟨h.rw_.1.set (a:=⟨X,i,none⟩) (h.rw_.1.box h.bx (by decide)) _,h.rw_.2.set (a:=⟨X,i,none⟩) (h.rw_.2.box h.bx (by decide)) _⟩
 ·have hb:=h.bx.set i u;have e:(#[.string q.nm,.int .i64 q.kd,.int .i64 q.al,.slice q.A q.zs.length q.c,.int .i64 q.sz,.slice q.F q.fs.length q.fc]:Array Value).setIfInBounds i u=#[.string q'.nm,.int .i64 q'.kd,.int .i64 q'.al,.slice q'.A q'.zs.length q'.c,.int .i64 q'.sz,.slice q'.F q'.fs.length q'.fc]:=by rw[List.setIfInBounds_toArray];exact congrArg List.toArray hc
  rw[e]at hb;exact hb
theorem Mid.bytes (h:Mid w0 w wx B R X lo N q)(hR:R<w.heap.size)(hw:w0.heap.size<=w.heap.size){A':Option Addr}{n c':Nat}{zs':List Int}(row:Row wx w.heap.size 5 1 A' n c' (ints .u8 zs'))(hl:n=zs'.length/\zs'.length<=49)(hr:InR 0 255 zs'):
  Mid w0 w (wx.setCell ⟨X,3,none⟩ (.slice A' n c')) B R X lo N {q with A:=A',c:=c',zs:=zs'}:=by
 obtain⟨rfl,hl⟩:=hl;refine⟨⟨h.sm.1,hl,hr,h.sm.2.2.2⟩,h.z0,⟨row.set (a:=⟨X,3,none⟩) (row.box h.bx (by decide)) _,h.rw_.2.set (a:=⟨X,3,none⟩) (h.rw_.2.box h.bx (by decide)) _⟩,h.bx.set 3 _,?_,?_,h.sz⟩
 ·exact h.by_.far (p:=⟨X,3,none⟩) (by have:=h.sz;show w.heap.size≠X;omega) _
 ·exact h.t.set (a:=⟨X,3,none⟩) (by have:=h.sz;show w0.heap.size<=X;omega) (by have:=h.sz;show R<X;omega) _
theorem Mid.ret (h:Mid w0 w wx B R X lo N q)(hR:R<w.heap.size)(hw:w0.heap.size<=w.heap.size){n:Int}(hlo:n=0->0<=lo):
  DrewS w0 w B R N n (.returned (.agg (secC q).toArray)) ((((((wx.setCell ⟨w.heap.size,0,none⟩ (.string q.nm)).setCell ⟨w.heap.size,1,none⟩ (.int .i64 q.kd)).setCell ⟨w.heap.size,2,none⟩ (.int .i64 q.al)).setCell ⟨w.heap.size,3,none⟩ (.slice q.A q.zs.length q.c)).setCell ⟨w.heap.size,4,none⟩ (.int .i64 q.sz)).setCell ⟨w.heap.size,5,none⟩ (.slice q.F q.fs.length q.fc)):=by
 have hz:=h.z0;refine⟨q,rfl,h.sm,λhn=>by have:=hlo hn;omega,put6_rwS h.rw_ (h.rw_.box h.by_ (by decide) (by decide)),?_⟩;have s:∀{v:World} (j:Nat) (u:Value),Tp w0 v B R N->Tp w0 (v.setCell ⟨w.heap.size,j,none⟩ u) B R N:=λj u T=>T.set (a:=⟨w.heap.size,j,none⟩) hw hR u;exact s 5 _ (s 4 _ (s 3 _ (s 2 _ (s 1 _ (s 0 _ h.t)))))
end
theorem lit3_at{m:Int}{x:Int}(h0:0<=x)(h1:x<3):∃z:Int,(#[.int .i64 0,.int .i64 (-1),.int .i64 m]:Array Value)[x.toNat]?=some (.int .i64 z):=by
 have:x=0\/x=1\/x=2:=by omega
 rcases this with rfl|rfl|rfl
 ·exact⟨0,rfl⟩
 ·exact⟨-1,rfl⟩
 ·exact⟨m,rfl⟩
theorem lit2_at{x:Int}(h0:0<=x)(h1:x<2):∃z:Int,(#[.int .i64 0,.int .i64 1001]:Array Value)[x.toNat]?=some (.int .i64 z):=by
 have:x=0\/x=1:=by omega
 rcases this with rfl|rfl
 ·exact⟨0,rfl⟩
 ·exact⟨1001,rfl⟩
theorem odd0_any{w0 w:World}{B R:Nat}{N:Int}(T:Tp w0 w B R N)(hN:N<=1000000)(n:Int)(hn:0<=n)(hn':n<=1000000):
  Calls Tryz.prog 71 #[.pointer (some ⟨R,0,none⟩),.int .i64 n] w λe w'=>∃b:Bool,e=.returned (.bool b)/\(n=0->b=false)/\Tp w0 w' B R (N+1)/\w.grownBy w' (some R):=by
 by_cases h0:n=0
 ·subst h0;refine odd_zero.mono ?_;rintro e w' ⟨rfl,rfl⟩;exact⟨false,rfl,λ_=>rfl,T.more (by omega),grown_refl _ _⟩
 ·refine(odd_tp T (by omega) n hn (by omega)).mono ?_;rintro e w' ⟨b,rfl,T1,g⟩;exact⟨b,rfl,λh=>absurd h h0,T1,g⟩
theorem tp_tr{w0 w w':World}{B R:Nat}{N N':Int}(h:Tp w0 w B R N)(k:Tp w w' B R N'):Tp w0 w' B R N':=⟨k.1,grown_trans h.2 k.2⟩
theorem tp_new{w0 w:World}{B R:Nat}{N:Int}(h:Tp w0 w B R N):Tp w w B R N:=Tp.start h.1
set_option maxHeartbeats 4000000 in
theorem section_any{w0 w:World}{B R:Nat}{N:Int}(T:Tp w0 w B R N)(hN:N<=100000)(hN0:0<=N)(many:Nat)(hm:many<=100)(n:Int)(hn:0<=n)(hn':n<=1000):
  Calls Tryz.prog 80 #[.pointer (some ⟨R,0,none⟩),.int .i64 many,.int .i64 n] w (DrewS w0 w B R (N+100) n):=by
 obtain⟨iF,hi1,hi2,hi3,hi4⟩:=info_parts CFixups.info;have HI:=h_ (And.intro hi1 (And.intro hi2 (And.intro hi3 hi4)));clear hi1 hi2 hi3 hi4;have hR:=T.lt;have HW0:=h_ T.2.size;have HY:=h_ (Box.new w 61 #[.string ByteArray.empty,.int .i64 0,.int .i64 0,.slice none 0 0,.int .i64 0,.slice none 0 0]);go_enter Tryz.func80,Tryz.ntmps80
 go_wp2_with fail
 refine(name_ok (T.alloc _) (by omega)).mono ?_;rintro e w1 ⟨nm,rfl,nm0,nm1,T1,g1⟩;have HZ1:=h_ (show w.heap.size<w1.heap.size by have:=g1.size;simp at this;omega);replace HY:=h_ (HY.o.grown g1 (by intro k hk;injection hk with hk;omega));clear g1;clear T;go_wp2_with fail
 refine(pick_tp (by first|with_reducible assumption|exact Tp.alloc (by with_reducible assumption) _|exact Tp.alloc (Tp.alloc (by with_reducible assumption) _) _|exact Tp.drewN (by with_reducible assumption) _|exact Tp.drew (by with_reducible assumption)|exact Tp.drawn (by with_reducible assumption)|exact Tp.alloc (Tp.drewN (by with_reducible assumption) _) _|exact Tp.alloc (Tp.drew (by with_reducible assumption)) _|exact Tp.alloc (Tp.alloc (Tp.alloc (by with_reducible assumption) _) _) _) (by omega) _ (by omega) (by omega)).mono ?_
 rintro e w2 ⟨kd,rfl,kd0,kd1,T2,g2⟩;have HZ2:=h_ (Nat.lt_of_lt_of_le HZ1.o g2.size);replace HY:=h_ (HY.o.grown g2 (by intro k hk;injection hk with hk;omega));clear g2;clear T1 HZ1;go_wp2_with fail
 refine(pick_litP (p:=λv=>∃z:Int,v=.int .i64 z) T2 (by omega) _ (by omega) (by omega) (by repeat(first|exact List.forall_mem_nil _|refine List.forall_mem_cons.2 ⟨⟨_,rfl⟩,?_⟩)) (by simp)).mono ?_
 rintro e w3 ⟨ai,rfl,ai0,ai1,T3,g3,v,⟨al,rfl⟩,hv⟩;have HZ3:=h_ (show w.heap.size<w3.heap.size by have h1:=g3.size;have h2:=HZ2.o;simp at h1;omega);replace HY:=h_ (HY.o.alloc (.cells #[.int .i64 1,.int .i64 2,.int .i64 4,.int .i64 8] 3));replace HY:=h_ (HY.o.grown g3 (by intro k hk;injection hk with hk;omega));clear g3;clear T2 HZ2;go_upto_if 24 with(fail)
 have HX:=h_ (Box.new w3 61 #[.string nm,.int .i64 (1+kd),.int .i64 al,.slice none 0 0,.int .i64 0,.slice none 0 0]);replace HY:=h_ (HY.o.alloc (.cells #[.string nm,.int .i64 (1+kd),.int .i64 al,.slice none 0 0,.int .i64 0,.slice none 0 0] 61));have HT:=h_ (T3.alloc (.cells #[.string nm,.int .i64 (1+kd),.int .i64 al,.slice none 0 0,.int .i64 0,.slice none 0 0] 61));have hXW:w.heap.size<w3.heap.size:=HZ3.o;clear T3 HZ3 hv;generalize w3.alloc (.cells #[.string nm,.int .i64 (1+kd),.int .i64 al,.slice none 0 0,.int .i64 0,.slice none 0 0] 61)=w4 at *;generalize w3.heap.size=X at *;go_cut [8,9,10]from 24 to 95 (λ_ _ _ wx=>∃q,q.fs.length<=4/\Mid w0 w wx B R X 0 (N+90) q)
 case first=>
  by_cases hk:kd=2
  ·subst hk;go_wp2_with fail
   have T:=HT.o;refine(pick_tp (by first|with_reducible assumption|exact Tp.alloc (by with_reducible assumption) _|exact Tp.alloc (Tp.alloc (by with_reducible assumption) _) _|exact Tp.drewN (by with_reducible assumption) _|exact Tp.drew (by with_reducible assumption)|exact Tp.drawn (by with_reducible assumption)|exact Tp.alloc (Tp.drewN (by with_reducible assumption) _) _|exact Tp.alloc (Tp.drew (by with_reducible assumption)) _|exact Tp.alloc (Tp.alloc (Tp.alloc (by with_reducible assumption) _) _) _) (by omega) _ (by omega) (by omega)).mono ?_
   rintro e w5 ⟨a,rfl,a0,a1,T5,g5⟩;replace HX:=h_ (HX.o.grown g5 (by intro k hk;injection hk with hk;omega));replace HY:=h_ (HY.o.grown g5 (by intro k hk;injection hk with hk;omega));clear g5;clear HT T;go_wp2_with fail
   refine(pick_tp (T5.alloc _) (by omega) _ (by omega) (by omega)).mono ?_;rintro e w6 ⟨b,rfl,b0,b1,T6,g6⟩;have HL:=h_ ((Box.new w5 3 #[.int .i64 a,.int .i64 48]).grown g6 (by intro k hk;injection hk with hk;have:=T5.lt;omega));replace HX:=h_ (HX.o.alloc (.cells #[.int .i64 a,.int .i64 48] 3));replace HY:=h_ (HY.o.alloc (.cells #[.int .i64 a,.int .i64 48] 3));replace HX:=h_ (HX.o.grown g6 (by intro k hk;injection hk with hk;omega));replace HY:=h_ (HY.o.grown g6 (by intro k hk;injection hk with hk;omega));clear g6;clear T5;obtain⟨z,hz,z0,z1⟩:∃z:Int,(#[.int .i64 a,.int .i64 48]:Array Value)[(b/8).toNat]?=some (.int .i64 z)/\0<=z/\z<=48:=by
    rcases(show b/8=0\/b/8=1 by omega)with h|h
    ·exact⟨a,by rw[h];rfl,a0,by omega⟩
    ·exact⟨48,by rw[h];rfl,by omega,by omega⟩
   have hc:=HL.o.cell (b/8).toNat;rw[hz]at hc;have x4:=HX.o.cell 4;have xf4:=HX.o.frozen 4;have hxl:=HX.o.lt;simp only[g_]at x4;have hb2:b/8<2:=by omega
   have hb3:0<=b/8:=by omega
   clear hz;go_wp2_with fail
   go_meet
   refine⟨⟨nm,3,al,none,0,[],z,none,0,[]⟩,Nat.zero_le _,⟨nm1,Nat.zero_le _,(λx hx=>by cases hx),Nat.zero_le _,(by show -1<=z;omega),(by show z<=49;omega)⟩,z0,⟨Row.empty _ _ _ _ _,Row.empty _ _ _ _ _⟩,HX.o.set 4 _,HY.o.far (p:=⟨X,4,none⟩) (by show w.heap.size≠X;omega) _,(T6.set (a:=⟨X,4,none⟩) (by show w0.heap.size<=X;have:=HW0.o;omega) (by show R<X;omega) _).more (by omega),hXW⟩
  ·have hk3:(1+kd==3)=false:=by rw[beq_eq_false_iff_ne];omega
   clear hk;go_wp2_with fail
   refine(bytes_any (tp_new HT.o) (by omega) (by omega) 14 (by omega)).mono ?_;rintro e w5 ⟨A,zs,c,rfl,hzl,hzr,hzo,T5⟩;have g5:=T5.2;have HA:=h_ (Row.down (Row.own hzo) (show w.heap.size<=w4.heap.size by have:=HX.o.lt;omega));have HBY:=h_ (And.intro hzl hzr);have T:=tp_tr HT.o T5;replace HX:=h_ (HX.o.grown g5 (by intro k hk;injection hk with hk;omega));replace HY:=h_ (HY.o.grown g5 (by intro k hk;injection hk with hk;omega));clear g5;clear HT T5 hzo hzr;have x3:=HX.o.cell 3;have xf3:=HX.o.frozen 3;have hxl:=HX.o.lt;simp only[g_]at x3;go_wp2_with fail
   have HM:=h_ (show Mid w0 w (w5.setCell ⟨X,3,none⟩ (.slice A zs.length c)) B R X 0 (N+40) ⟨nm,1+kd,al,A,c,zs,0,none,0,[]⟩from
    ⟨⟨nm1,(by show zs.length<=49;omega),HBY.o.2,Nat.zero_le _,(by show(-1:Int)<=0;omega),(by show(0:Int)<=49;omega)⟩,Int.le_refl 0,⟨HA.o.set (a:=⟨X,3,none⟩) (HA.o.box HX.o (by decide)) _,Row.empty _ _ _ _ _⟩,HX.o.set 3 _,HY.o.far (p:=⟨X,3,none⟩) (by show w.heap.size≠X;omega) _,(T.set (a:=⟨X,3,none⟩) (by show w0.heap.size<=X;have:=HW0.o;omega) (by show R<X;omega) _).more (by omega),hXW⟩)
   clear T x3 xf3 hxl HX HY HA HBY;generalize w5.setCell ⟨X,3,none⟩ (.slice A zs.length c)=w6 at *;refine(pick_tp HM.o.t (by omega) _ (by omega) (by omega)).mono ?_;rintro e w7 ⟨k0,rfl,k00,k01,T7,g7⟩;have HM7:=h_ (HM.o.turn g7 hR T7);clear T7 g7 HM;obtain⟨i,rfl⟩:=Int.eq_ofNat_of_zero_le k00;go_wp2_with fail
   go_loopw [8,9] (λat_ k wi=>∃(i:Nat) (a:Int) (F:Option Addr) (fc:Nat) (fs:List FD),k=.int .i64 i/\at_=.int .i64 a/\i+fs.length<=3/\0<=a/\a<=100/\Mid w0 w wi B R X 0 (N+41+10*(3-i:Int)) ⟨nm,1+kd,al,A,c,zs,0,F,fc,fs⟩) (λ_ k _=>(intOf k).toNat)
   case atStart=>exact⟨i,0,none,0,[],rfl,rfl,by simp;omega,by omega,by omega,HM7.o.more (by omega)⟩
   case round=>
    clear HM7;obtain⟨i,a,F,fc,fs,rfl,rfl,hif,a0,a1,hm⟩:=hrel;have HM:=h_ hm;clear hm;by_cases h0:0<i
    ·by_cases h1:0<many
     ·go_wp2_with fail
      refine(pick_tp HM.o.t (by omega) _ (by omega) (by omega)).mono ?_;rintro e v1 ⟨d,rfl,d0,d1,T1,g1⟩;replace HM:=h_ (HM.o.turn g1 hR T1);clear T1 g1;go_wp2_with fail
      refine(pick_tp HM.o.t (by omega) _ (by omega) (by omega)).mono ?_;rintro e v2 ⟨kk,rfl,kk0,kk1,T1,g1⟩;replace HM:=h_ (HM.o.turn g1 hR T1);clear T1 g1;go_wp2_with fail
      refine(pick_tp HM.o.t (by omega) _ (by omega) (by omega)).mono ?_;rintro e v3 ⟨tt,rfl,tt0,tt1,T1,g1⟩;replace HM:=h_ (HM.o.turn g1 hR T1);clear T1 g1;go_wp2_with fail
      refine(pick_tp HM.o.t (by omega) _ (by omega) (by omega)).mono ?_;rintro e v4 ⟨e1,rfl,e10,e11,T1,g1⟩;replace HM:=h_ (HM.o.turn g1 hR T1);clear T1 g1;go_wp2_with fail
      refine(pick_tp HM.o.t (by omega) _ (by omega) (by omega)).mono ?_;rintro e v5 ⟨e2,rfl,e20,e21,T1,g1⟩;replace HM:=h_ (HM.o.turn g1 hR T1);clear T1 g1;go_wp2_with fail
      refine(pick_tp HM.o.t (by omega) _ (by omega) (by omega)).mono ?_;rintro e v6 ⟨e3,rfl,e30,e31,T1,g1⟩;replace HM:=h_ (HM.o.turn g1 hR T1);clear T1 g1;go_wp2_with fail
      refine(pick_lit2 HM.o.t (by omega) _ (by omega) (by omega) (by repeat(first|exact List.forall_mem_nil _|refine List.forall_mem_cons.2 ⟨⟨_,rfl⟩,?_⟩)) (by repeat(first|exact List.forall_mem_nil _|refine List.forall_mem_cons.2 ⟨⟨_,rfl,by simp,by simp⟩,?_⟩)) (by simp)).mono ?_
      rintro e v7 ⟨e4,rfl,e40,e41,T1,g1,z,ad,hm,hz,z0,z1,hn,hy⟩;have B1:Below v6.heap.size v6 ((v6.alloc (.cells #[.int .i64 (e1-4),.int .i64 0,.int .i64 e2,.int .i64 (-e3)] 3)).alloc (.cells #[.int .i64 0,.int .i64 0,.int .i64 0,.int .i64 1,.int .i64 1,.int .i64 2,.int .i64 3] 3)):=b_;replace HM:=h_ ((HM.o.call B1).turn g1 hR T1);clear T1 g1 B1 hm hn;go_wp2_with fail
      have HZ:=h_ (Box.new v7 65 #[.int .i64 (a+d),.int .i64 (1+kk),.int .i64 tt,.int .i64 ad]);have B2:Below v7.heap.size v7 (v7.alloc (.cells #[.int .i64 (a+d),.int .i64 (1+kk),.int .i64 tt,.int .i64 ad] 65)):=b_;have hXZ:X<v7.heap.size:=HM.o.bx.lt;have HFZ:=h_ (show ∀k,blk F fc=some k->k<v7.heap.size from λk hk=>(HM.o.rw_.2.lt k hk).2);replace HM:=h_ (HM.o.call B2);clear B2 hz hy;generalize v7.alloc (.cells #[.int .i64 (a+d),.int .i64 (1+kk),.int .i64 tt,.int .i64 ad] 65)=v8 at *;generalize v7.heap.size=Z at *;have hwd:=wide_bd (1+kk);have HFW:=h_ (λV=>fixupWideS_any (1+kk) V);generalize wide (1+kk)=wd at *;have hw1:IntKind.i64.wrap (a+d+wd)=a+d+wd:=IntWalk.i64_in _ (by omega);have hw2:IntKind.i64.wrap (a+d)=a+d:=IntWalk.i64_in _ (by omega);have HS:=h_ (λV (hV:Below v8.heap.size v8 V)=>(show V.cell? ⟨Z,0,none⟩=some (.int .i64 (a+d))/\V.cell? ⟨Z,1,none⟩=some (.int .i64 (1+kk))/\V.cell? ⟨X,3,none⟩=some (.slice A zs.length c)from⟨(HZ.o.call hV).cell 0,(HZ.o.call hV).cell 1,(HM.o.bx.call hV).cell 3⟩));refine Rv.start (λV=>V.cell? ⟨Z,0,none⟩=some (.int .i64 (a+d))/\V.cell? ⟨Z,1,none⟩=some (.int .i64 (1+kk))/\V.cell? ⟨X,3,none⟩=some (.slice A zs.length c)) (λ_=>false) (by kernel_rfl) ?_;have hHeld:=HS.o v8.drew (below_dr (Below.refl _ _));refine v_ 0 rfl ?_;refine vl_ 1 rfl ?_;refine v_ 2 rfl ?_;refine vl_ 3 rfl ?_;refine v_ 6 rfl ?_;refine vl_ 7 rfl ?_;refine v_ 8 rfl ?_;refine Rv.one (i:=4) rfl (by kernel_rfl) (λK hK=>?_);go_simp
      refine(HFW.o v8.drew).mono ?_;rintro e v9 ⟨rfl,b9⟩;have b9':Below v8.heap.size v8 v9:=of_drew b9;have hHeld:=HS.o v9 b9';refine hK.out _ _ hHeld ?_;clear hK K;try simp only[y1_,y2_,y3_,Act.put,y4_,y5_,y6_]
      refine v_ 5 rfl ?_;refine v_ 9 rfl ?_;refine Rv.done (by kernel_rfl) ?_ _;clear hHeld HS;replace HM:=h_ (HM.o.call b9');replace HZ:=h_ (HZ.o.call b9');clear b9 b9';by_cases hbr:zs.length<a+d+wd
      ·go_wp2_with fail
       go_meet
       exact⟨_,(by show fs.length<=4;omega),HM.o.more (by omega)⟩
      ·have HZL:=h_ (HZ.o);have z0:=d_ HZ.o 0;have z1:=d_ HZ.o 1;have z2:=d_ HZ.o 2;have z3:=d_ HZ.o 3;have x5:=d_ HM.o.bx 5;have hZl:=HZ.o.lt;have hXl:=HM.o.bx.lt;have hvz:=HM.o.bx.lt;have hww:w.heap.size<=v9.heap.size:=by omega
       go_wp2_with (at_builtin;refine wpList_app (v9.alloc (.cells #[.int .i64 (a+d),.int .i64 (1+kk),.int .i64 tt,.int .i64 ad] 65)) rfl (.tmp 85) (.tmp 87) 59 rfl 65 iF (.agg #[.int .i64 0,.int .i64 0,.int .i64 0,.int .i64 0]) 4 32 Tryz.underlying59 HI.o.1 HI.o.2.1 HI.o.2.2.1 HI.o.2.2.2 rfl (by decide) w.heap.size F fs.length fc (cellsOf fixupC fs) rfl (HM.o.rw_.2.alloc _) ?hb (some ⟨v9.heap.size,0,none⟩) 1 1 [.int .i64 (a+d),.int .i64 (1+kk),.int .i64 tt,.int .i64 ad] rfl (rd_lit v9 #[.int .i64 (a+d),.int .i64 (1+kk),.int .i64 tt,.int .i64 ad] 65 _ rfl) rfl (λh=>by cases h) ?o1 ?n1 ?n2 ?_)
       case hb=>first|(simp;omega)|omega
       case o1=>exact⟨rfl,rfl,rfl,rfl⟩
       case n1=>unfold maxLen;omega
       case n2=>omega
       intro F2 n2 fc2 v10 hn2 o10 g10 k10;have hn2':n2=(fs++[(a+d,1+kk,tt,ad)]).length:=by rw[hn2,List.length_append];rfl
       clear hn2;have HM0:=h_ (HM.o.call ((Below.refl _ _).alloc (Nat.le_refl _) (.cells #[.int .i64 (a+d),.int .i64 (1+kk),.int .i64 tt,.int .i64 ad] 65)));have HBX:=h_ (HM0.o.bx.grown g10 (HM0.o.rw_.2.box HM0.o.bx (by decide)));have HZ1:=h_ ((HZ.o.alloc (.cells #[.int .i64 (a+d),.int .i64 (1+kk),.int .i64 tt,.int .i64 ad] 65)).grown g10 (λk hk=>by have:=HFZ.o k hk;omega));have HF:=h_ (HM0.o.fixed hR HW0.o (fs':=fs++[(a+d,1+kk,tt,ad)]) (by simpa[cellsOf,fixupC]using o10) hn2' g10 (by simp;omega));have hb5:=HBX.o.cell 5;have hbf5:=HBX.o.frozen 5;have hbl:=HBX.o.lt;simp only[g_]at hb5;have HN2:=h_ hn2';clear hn2' z0 z1 z2 z3 x5 hZl hXl hvz hww o10 g10 k10 HM0 HM HZ HZL;go_wp2_with fail
       have HZ2:=h_ (HZ1.o.far (p:=⟨X,5,none⟩) (by show Z≠X;omega) (.slice F2 n2 fc2));clear hb5 hbf5 hbl HZ1 HBX;generalize v10.setCell ⟨X,5,none⟩ (.slice F2 n2 fc2)=v11 at *;have HS:=h_ (λV (hV:Below v11.heap.size v11 V)=>(show V.cell? ⟨Z,0,none⟩=some (.int .i64 (a+d))/\V.cell? ⟨Z,1,none⟩=some (.int .i64 (1+kk))from⟨(HZ2.o.call hV).cell 0,(HZ2.o.call hV).cell 1⟩));refine Rv.start (λV=>V.cell? ⟨Z,0,none⟩=some (.int .i64 (a+d))/\V.cell? ⟨Z,1,none⟩=some (.int .i64 (1+kk))) (λ_=>false) (by kernel_rfl) ?_;have hHeld:=HS.o v11.drew (below_dr (Below.refl _ _));refine v_ 0 rfl ?_;refine vl_ 1 rfl ?_;refine v_ 2 rfl ?_;refine vl_ 3 rfl ?_;refine Rv.one (i:=4) rfl (by kernel_rfl) (λK hK=>?_);go_simp
       refine(HFW.o v11.drew).mono ?_;rintro e v12 ⟨rfl,b9⟩;have b9':Below v11.heap.size v11 v12:=of_drew b9;have hHeld:=HS.o v12 b9';refine hK.out _ _ hHeld ?_;clear hK K;try simp only[y1_,y2_,y3_,Act.put,y4_,y5_,y6_]
       refine v_ 5 rfl ?_;refine v_ 6 rfl ?_;refine Rv.done (by kernel_rfl) ?_ _;clear hHeld HS;replace HF:=h_ (HF.o.call b9');clear b9 b9' HZ2;have hn2:=HN2.o;subst hn2;have HL2:=h_ (show(fs++[((a+d:Int),(1+kk:Int),(tt:Int),(ad:Int))]).length=fs.length+1 by simp);go_wp2_with fail
       refine⟨⟨i-1,a+d+wd,F2,fc2,fs++[(a+d,1+kk,tt,ad)],congrArg (Value.int .i64) (by omega),rfl,by rw[HL2.o];omega,by omega,by omega,HF.o.more (by omega)⟩,by simp[intOf];omega⟩
     ·go_wp2_with fail
      go_meet
      exact⟨_,(by show fs.length<=4;omega),HM.o.more (by omega)⟩
    ·have e0:i=0:=by omega
     subst e0;go_wp2_with fail
     go_meet
     exact⟨_,(by show fs.length<=4;omega),HM.o.more (by omega)⟩
 case rest=>
  obtain⟨q,hq4,hm⟩:=hcut;have HM:=h_ hm;have HQ4:=h_ hq4;clear hm hq4 HX HY HT;go_wp2_with fail
  refine(odd0_any HM.o.t (by omega) n hn (by omega)).mono ?_;rintro e v1 ⟨b,rfl,hb0,T1,g1⟩;replace HM:=h_ (HM.o.turn g1 hR T1);have HB0:=h_ hb0;clear T1 g1 hb0;go_upto_if 98 with(fail)
  go_cut []from 98 to 150 (λwx=>∃q lo,(n=0->0<=lo)/\Mid w0 w wx B R X lo (N+100) q)
  case first=>
   cases b
   ·go_wp2_with fail
    go_meet
    exact⟨q,0,λ_=>Int.le_refl 0,HM.o.more (by omega)⟩
   ·have HN0:=h_ (show ∀lo:Int,n=0->0<=lo from λlo h=>by have:=HB0.o h;cases this);clear HB0;go_wp2_with fail
    refine(pick_tp HM.o.t (by omega) _ (by omega) (by omega)).mono ?_;rintro e v2 ⟨v,rfl,v0,v1',T1,g1⟩;replace HM:=h_ (HM.o.turn g1 hR T1);clear T1 g1;have hv:v=0\/v=1\/v=2\/v=3\/v=4\/v=5:=by omega
    rcases hv with rfl|rfl|rfl|rfl|rfl|rfl
    ·go_wp2_with fail
     refine(name_any HM.o.t (by omega) 1 (by omega) (by omega)).mono ?_;rintro e v3 ⟨s,rfl,s0,s1,T1,g1⟩;replace HM:=h_ (HM.o.turn g1 hR T1);clear T1 g1;have x0:=HM.o.bx.cell 0;have xf:=HM.o.bx.frozen 0;have hxl:=HM.o.bx.lt;simp only[g_]at x0;go_wp2_with fail
     go_meet
     exact⟨{q with nm:=s},0,HN0.o 0,(HM.o.put hR HW0.o 0 (.string s) {q with nm:=s} rfl ⟨rfl,rfl,rfl⟩ ⟨rfl,rfl,rfl⟩ ⟨s1,HM.o.sm.2⟩ HM.o.z0).more (by omega)⟩
    ·go_wp2_with fail
     refine(pick_lit HM.o.t (by omega) _ (by omega) (by omega) (by repeat(first|exact List.forall_mem_nil _|refine List.forall_mem_cons.2 ⟨⟨_,rfl⟩,?_⟩)) (by simp)).mono ?_
     rintro e v3 ⟨x,rfl,x0,x1,T1,g1,z,hm,hz⟩;replace HM:=h_ ((HM.o.call ((Below.refl _ _).alloc (Nat.le_refl _) _)).turn g1 hR T1);clear T1 g1 hm;have x1:=HM.o.bx.cell 1;have xf:=HM.o.bx.frozen 1;have hxl:=HM.o.bx.lt;simp only[g_]at x1;go_wp2_with fail
     go_meet
     exact⟨{q with kd:=z},0,HN0.o 0,(HM.o.put hR HW0.o 1 (.int .i64 z) {q with kd:=z} rfl ⟨rfl,rfl,rfl⟩ ⟨rfl,rfl,rfl⟩ HM.o.sm HM.o.z0).more (by omega)⟩
    ·go_wp2_with fail
     refine(pick_lit HM.o.t (by omega) _ (by omega) (by omega) (by repeat(first|exact List.forall_mem_nil _|refine List.forall_mem_cons.2 ⟨⟨_,rfl⟩,?_⟩)) (by simp)).mono ?_
     rintro e v3 ⟨x,rfl,x0,x1,T1,g1,z,hm,hz⟩;replace HM:=h_ ((HM.o.call ((Below.refl _ _).alloc (Nat.le_refl _) _)).turn g1 hR T1);clear T1 g1 hm;have x2:=HM.o.bx.cell 2;have xf:=HM.o.bx.frozen 2;have hxl:=HM.o.bx.lt;simp only[g_]at x2;go_wp2_with fail
     go_meet
     exact⟨{q with al:=z},0,HN0.o 0,(HM.o.put hR HW0.o 2 (.int .i64 z) {q with al:=z} rfl ⟨rfl,rfl,rfl⟩ ⟨rfl,rfl,rfl⟩ HM.o.sm HM.o.z0).more (by omega)⟩
    ·go_wp2_with fail
     refine(pick_lit HM.o.t (by omega) _ (by omega) (by omega) (by repeat(first|exact List.forall_mem_nil _|refine List.forall_mem_cons.2 ⟨⟨_,rfl⟩,?_⟩)) (by simp)).mono ?_
     rintro e v3 ⟨x,rfl,x0,x1,T1,g1,z,hm,hz⟩;replace HM:=h_ ((HM.o.call ((Below.refl _ _).alloc (Nat.le_refl _) _)).turn g1 hR T1);simp only[List.mem_cons,Value.int.injEq,true_and,List.not_mem_nil,or_false]at hm;have hzb:-1<=z/\z<=49:=by omega
     clear T1 g1 hm;have x4:=HM.o.bx.cell 4;have xf:=HM.o.bx.frozen 4;have hxl:=HM.o.bx.lt;simp only[g_]at x4;go_wp2_with fail
     go_meet
     exact⟨{q with sz:=z},-1,HN0.o _,(HM.o.put hR HW0.o 4 (.int .i64 z) {q with sz:=z} rfl ⟨rfl,rfl,rfl⟩ ⟨rfl,rfl,rfl⟩ ⟨HM.o.sm.1,HM.o.sm.2.1,HM.o.sm.2.2.1,HM.o.sm.2.2.2.1,hzb⟩ hzb.1).more (by omega)⟩
    ·go_wp2_with fail
     have x5:=d_ HM.o.bx 5;have hRX:R<X:=by omega
     replace HM:=h_ (HM.o.call (below_dr (Below.refl _ _)));refine Rw.start (by kernel_rfl) ?_;have x5':v2.drew.cell? ⟨X,5,none⟩=some (.slice q.F q.fs.length q.fc):=x5;clear x5;refine w_ 0 rfl ?_;refine wl_ 1 (λV=>V.cell? ⟨X,5,none⟩=some (.slice q.F q.fs.length q.fc)) rfl x5' ?_;refine w_ 2 rfl ?_;refine w_ 4 rfl ?_;refine w_ 9 rfl ?_;clear x5';generalize v2.drew=vv0 at *;apply Rw.tail7 (F:=λ(v:World) (_ _:Nat) (_ _ _ _:Int)=>Mid w0 w v B R X 0 (N+95) q)
     ·intro h;have HT:=h_ h.out;clear h;refine Rw.three (i:=3) (j:=5) (l:=8) rfl rfl rfl (by kernel_rfl) (λK hK=>?_) (λK hK=>?_) (λK hK=>?_)
      ·go_simp
       have b1:Below vv0.heap.size vv0 (vv0.alloc (.cells #[.int .i64 0,.int .i64 (-1),.int .i64 many] 3)):=b_;refine hK.out _ _ (by repeat' (first|exact trivial|exact(λ_ h=>Rw.cell_below b1 h)|refine And.intro ?_ ?_)) ?_
       clear hK K;try simp only[y1_,y2_,y3_,Act.put,y4_,y5_,y6_]
       have HLa:=h_ (Box.new vv0 3 #[.int .i64 0,.int .i64 (-1),.int .i64 many]);have hNa:R<vv0.heap.size:=HM.o.t.lt;replace HM:=h_ (HM.o.call b1);clear b1;generalize vv0.alloc (.cells #[.int .i64 0,.int .i64 (-1),.int .i64 many] 3)=vv1 at *;generalize vv0.heap.size=Na at *;refine Rw.two (i:=5) (j:=8) rfl rfl (by kernel_rfl) (λK hK=>?_) (λK hK=>?_)
       ·go_simp
        refine(pick_tp HM.o.t (by omega) _ (by omega) (by omega)).mono ?_;rintro e vv2 ⟨xa,rfl,xa0,xa1,T1,g1⟩;refine hK.out _ _ (by repeat' (first|exact trivial|exact(λ_ h=>Rw.cell_grown g1 (by dsimp only;omega) h)|refine And.intro ?_ ?_)) ?_
        clear hK K;try simp only[y1_,y2_,y3_,Act.put,y4_,y5_,y6_]
        replace HM:=h_ (HM.o.turn g1 hR T1);replace HLa:=h_ (HLa.o.grown g1 (by intro k hk;injection hk with hk;omega));clear T1 g1;obtain⟨za,hza⟩:∃za:Int,(#[.int .i64 0,.int .i64 (-1),.int .i64 many]:Array Value)[xa.toNat]?=some (.int .i64 za):=lit3_at xa0 xa1;have hca:=HLa.o.cell xa.toNat;rw[hza]at hca;clear hza;refine w_ 6 rfl ?_;refine wl_ 7 (λV=>V.cell? ⟨Na,xa.toNat,none⟩=some (.int .i64 za)) rfl hca ?_;clear hca;refine Rw.two (i:=8) (j:=10) rfl rfl (by kernel_rfl) (λK hK=>?_) (λK hK=>?_)
        ·go_simp
         have b1:Below vv2.heap.size vv2 (vv2.alloc (.cells #[.int .i64 0,.int .i64 1001] 3)):=b_;refine hK.out _ _ (by repeat' (first|exact trivial|exact(λ_ h=>Rw.cell_below b1 h)|refine And.intro ?_ ?_)) ?_
         clear hK K;try simp only[y1_,y2_,y3_,Act.put,y4_,y5_,y6_]
         have HLb:=h_ (Box.new vv2 3 #[.int .i64 0,.int .i64 1001]);have hNb:R<vv2.heap.size:=HM.o.t.lt;replace HLa:=h_ (HLa.o.call b1);replace HM:=h_ (HM.o.call b1);clear b1;generalize vv2.alloc (.cells #[.int .i64 0,.int .i64 1001] 3)=vv3 at *;generalize vv2.heap.size=Nb at *;refine Rw.one (i:=10) rfl (by kernel_rfl) (λK hK=>?_);go_simp
         refine(pick_tp HM.o.t (by omega) _ (by omega) (by omega)).mono ?_;rintro e vv4 ⟨xb,rfl,xb0,xb1,T1,g1⟩;refine hK.out _ _ (by repeat' (first|exact trivial|exact(λ_ h=>Rw.cell_grown g1 (by dsimp only;omega) h)|refine And.intro ?_ ?_)) ?_
         clear hK K;try simp only[y1_,y2_,y3_,Act.put,y4_,y5_,y6_]
         replace HM:=h_ (HM.o.turn g1 hR T1);replace HLa:=h_ (HLa.o.grown g1 (by intro k hk;injection hk with hk;omega));replace HLb:=h_ (HLb.o.grown g1 (by intro k hk;injection hk with hk;omega));clear T1 g1;obtain⟨zb,hzb⟩:∃zb:Int,(#[.int .i64 0,.int .i64 1001]:Array Value)[xb.toNat]?=some (.int .i64 zb):=lit2_at xb0 xb1;have hcb:=HLb.o.cell xb.toNat;rw[hzb]at hcb;clear hzb;refine w_ 11 rfl ?_;refine wl_ 12 (λV=>V.cell? ⟨Nb,xb.toNat,none⟩=some (.int .i64 zb)) rfl hcb ?_;clear hcb;refine Rw.relax (by kernel_rfl) (Rw.relax (by kernel_rfl) ?_);refine Rw.canon (listed':=#[true,true,true,true,true,true,true,true,true,true,true,true,true,false,false,false,false,false]) (by kernel_rfl) ?_;exact HT.o vv4 Na Nb xa xb za zb (HM.o.more (by omega))
        ·go_simp
         refine(pick_tp HM.o.t (by omega) _ (by omega) (by omega)).mono ?_;rintro e vv3 ⟨xb,rfl,xb0,xb1,T1,g1⟩;refine hK.out _ _ (by repeat' (first|exact trivial|exact(λ_ h=>Rw.cell_grown g1 (by dsimp only;omega) h)|refine And.intro ?_ ?_)) ?_
         clear hK K;try simp only[y1_,y2_,y3_,Act.put,y4_,y5_,y6_]
         replace HM:=h_ (HM.o.turn g1 hR T1);replace HLa:=h_ (HLa.o.grown g1 (by intro k hk;injection hk with hk;omega));clear T1 g1;refine Rw.one (i:=8) rfl (by kernel_rfl) (λK hK=>?_);go_simp
         have b1:Below vv3.heap.size vv3 (vv3.alloc (.cells #[.int .i64 0,.int .i64 1001] 3)):=b_;refine hK.out _ _ (by repeat' (first|exact trivial|exact(λ_ h=>Rw.cell_below b1 h)|refine And.intro ?_ ?_)) ?_
         clear hK K;try simp only[y1_,y2_,y3_,Act.put,y4_,y5_,y6_]
         have HLb:=h_ (Box.new vv3 3 #[.int .i64 0,.int .i64 1001]);have hNb:R<vv3.heap.size:=HM.o.t.lt;replace HLa:=h_ (HLa.o.call b1);replace HM:=h_ (HM.o.call b1);clear b1;generalize vv3.alloc (.cells #[.int .i64 0,.int .i64 1001] 3)=vv4 at *;generalize vv3.heap.size=Nb at *;obtain⟨zb,hzb⟩:∃zb:Int,(#[.int .i64 0,.int .i64 1001]:Array Value)[xb.toNat]?=some (.int .i64 zb):=lit2_at xb0 xb1;have hcb:=HLb.o.cell xb.toNat;rw[hzb]at hcb;clear hzb;refine w_ 11 rfl ?_;refine wl_ 12 (λV=>V.cell? ⟨Nb,xb.toNat,none⟩=some (.int .i64 zb)) rfl hcb ?_;clear hcb;refine Rw.relax (by kernel_rfl) (Rw.relax (by kernel_rfl) ?_);refine Rw.canon (listed':=#[true,true,true,true,true,true,true,true,true,true,true,true,true,false,false,false,false,false]) (by kernel_rfl) ?_;exact HT.o vv4 Na Nb xa xb za zb (HM.o.more (by omega))
       ·go_simp
        have b1:Below vv1.heap.size vv1 (vv1.alloc (.cells #[.int .i64 0,.int .i64 1001] 3)):=b_;refine hK.out _ _ (by repeat' (first|exact trivial|exact(λ_ h=>Rw.cell_below b1 h)|refine And.intro ?_ ?_)) ?_
        clear hK K;try simp only[y1_,y2_,y3_,Act.put,y4_,y5_,y6_]
        have HLb:=h_ (Box.new vv1 3 #[.int .i64 0,.int .i64 1001]);have hNb:R<vv1.heap.size:=HM.o.t.lt;replace HLa:=h_ (HLa.o.call b1);replace HM:=h_ (HM.o.call b1);clear b1;generalize vv1.alloc (.cells #[.int .i64 0,.int .i64 1001] 3)=vv2 at *;generalize vv1.heap.size=Nb at *;refine Rw.one (i:=5) rfl (by kernel_rfl) (λK hK=>?_);go_simp
        refine(pick_tp HM.o.t (by omega) _ (by omega) (by omega)).mono ?_;rintro e vv3 ⟨xa,rfl,xa0,xa1,T1,g1⟩;refine hK.out _ _ (by repeat' (first|exact trivial|exact(λ_ h=>Rw.cell_grown g1 (by dsimp only;omega) h)|refine And.intro ?_ ?_)) ?_
        clear hK K;try simp only[y1_,y2_,y3_,Act.put,y4_,y5_,y6_]
        replace HM:=h_ (HM.o.turn g1 hR T1);replace HLa:=h_ (HLa.o.grown g1 (by intro k hk;injection hk with hk;omega));replace HLb:=h_ (HLb.o.grown g1 (by intro k hk;injection hk with hk;omega));clear T1 g1;obtain⟨za,hza⟩:∃za:Int,(#[.int .i64 0,.int .i64 (-1),.int .i64 many]:Array Value)[xa.toNat]?=some (.int .i64 za):=lit3_at xa0 xa1;have hca:=HLa.o.cell xa.toNat;rw[hza]at hca;clear hza;refine w_ 6 rfl ?_;refine wl_ 7 (λV=>V.cell? ⟨Na,xa.toNat,none⟩=some (.int .i64 za)) rfl hca ?_;clear hca;refine Rw.one (i:=10) rfl (by kernel_rfl) (λK hK=>?_);go_simp
        refine(pick_tp HM.o.t (by omega) _ (by omega) (by omega)).mono ?_;rintro e vv4 ⟨xb,rfl,xb0,xb1,T1,g1⟩;refine hK.out _ _ (by repeat' (first|exact trivial|exact(λ_ h=>Rw.cell_grown g1 (by dsimp only;omega) h)|refine And.intro ?_ ?_)) ?_
        clear hK K;try simp only[y1_,y2_,y3_,Act.put,y4_,y5_,y6_]
        replace HM:=h_ (HM.o.turn g1 hR T1);replace HLa:=h_ (HLa.o.grown g1 (by intro k hk;injection hk with hk;omega));replace HLb:=h_ (HLb.o.grown g1 (by intro k hk;injection hk with hk;omega));clear T1 g1;obtain⟨zb,hzb⟩:∃zb:Int,(#[.int .i64 0,.int .i64 1001]:Array Value)[xb.toNat]?=some (.int .i64 zb):=lit2_at xb0 xb1;have hcb:=HLb.o.cell xb.toNat;rw[hzb]at hcb;clear hzb;refine w_ 11 rfl ?_;refine wl_ 12 (λV=>V.cell? ⟨Nb,xb.toNat,none⟩=some (.int .i64 zb)) rfl hcb ?_;clear hcb;refine Rw.relax (by kernel_rfl) (Rw.relax (by kernel_rfl) ?_);refine Rw.canon (listed':=#[true,true,true,true,true,true,true,true,true,true,true,true,true,false,false,false,false,false]) (by kernel_rfl) ?_;exact HT.o vv4 Na Nb xa xb za zb (HM.o.more (by omega))
      ·go_simp
       refine(pick_tp HM.o.t (by omega) _ (by omega) (by omega)).mono ?_;rintro e vv1 ⟨xa,rfl,xa0,xa1,T1,g1⟩;refine hK.out _ _ (by repeat' (first|exact trivial|exact(λ_ h=>Rw.cell_grown g1 (by dsimp only;omega) h)|refine And.intro ?_ ?_)) ?_
       clear hK K;try simp only[y1_,y2_,y3_,Act.put,y4_,y5_,y6_]
       replace HM:=h_ (HM.o.turn g1 hR T1);clear T1 g1;refine Rw.three (i:=3) (j:=8) (l:=10) rfl rfl rfl (by kernel_rfl) (λK hK=>?_) (λK hK=>?_) (λK hK=>?_)
       ·go_simp
        have b1:Below vv1.heap.size vv1 (vv1.alloc (.cells #[.int .i64 0,.int .i64 (-1),.int .i64 many] 3)):=b_;refine hK.out _ _ (by repeat' (first|exact trivial|exact(λ_ h=>Rw.cell_below b1 h)|refine And.intro ?_ ?_)) ?_
        clear hK K;try simp only[y1_,y2_,y3_,Act.put,y4_,y5_,y6_]
        have HLa:=h_ (Box.new vv1 3 #[.int .i64 0,.int .i64 (-1),.int .i64 many]);have hNa:R<vv1.heap.size:=HM.o.t.lt;replace HM:=h_ (HM.o.call b1);clear b1;generalize vv1.alloc (.cells #[.int .i64 0,.int .i64 (-1),.int .i64 many] 3)=vv2 at *;generalize vv1.heap.size=Na at *;obtain⟨za,hza⟩:∃za:Int,(#[.int .i64 0,.int .i64 (-1),.int .i64 many]:Array Value)[xa.toNat]?=some (.int .i64 za):=lit3_at xa0 xa1;have hca:=HLa.o.cell xa.toNat;rw[hza]at hca;clear hza;refine w_ 6 rfl ?_;refine wl_ 7 (λV=>V.cell? ⟨Na,xa.toNat,none⟩=some (.int .i64 za)) rfl hca ?_;clear hca;refine Rw.two (i:=8) (j:=10) rfl rfl (by kernel_rfl) (λK hK=>?_) (λK hK=>?_)
        ·go_simp
         have b1:Below vv2.heap.size vv2 (vv2.alloc (.cells #[.int .i64 0,.int .i64 1001] 3)):=b_;refine hK.out _ _ (by repeat' (first|exact trivial|exact(λ_ h=>Rw.cell_below b1 h)|refine And.intro ?_ ?_)) ?_
         clear hK K;try simp only[y1_,y2_,y3_,Act.put,y4_,y5_,y6_]
         have HLb:=h_ (Box.new vv2 3 #[.int .i64 0,.int .i64 1001]);have hNb:R<vv2.heap.size:=HM.o.t.lt;replace HLa:=h_ (HLa.o.call b1);replace HM:=h_ (HM.o.call b1);clear b1;generalize vv2.alloc (.cells #[.int .i64 0,.int .i64 1001] 3)=vv3 at *;generalize vv2.heap.size=Nb at *;refine Rw.one (i:=10) rfl (by kernel_rfl) (λK hK=>?_);go_simp
         refine(pick_tp HM.o.t (by omega) _ (by omega) (by omega)).mono ?_;rintro e vv4 ⟨xb,rfl,xb0,xb1,T1,g1⟩;refine hK.out _ _ (by repeat' (first|exact trivial|exact(λ_ h=>Rw.cell_grown g1 (by dsimp only;omega) h)|refine And.intro ?_ ?_)) ?_
         clear hK K;try simp only[y1_,y2_,y3_,Act.put,y4_,y5_,y6_]
         replace HM:=h_ (HM.o.turn g1 hR T1);replace HLa:=h_ (HLa.o.grown g1 (by intro k hk;injection hk with hk;omega));replace HLb:=h_ (HLb.o.grown g1 (by intro k hk;injection hk with hk;omega));clear T1 g1;obtain⟨zb,hzb⟩:∃zb:Int,(#[.int .i64 0,.int .i64 1001]:Array Value)[xb.toNat]?=some (.int .i64 zb):=lit2_at xb0 xb1;have hcb:=HLb.o.cell xb.toNat;rw[hzb]at hcb;clear hzb;refine w_ 11 rfl ?_;refine wl_ 12 (λV=>V.cell? ⟨Nb,xb.toNat,none⟩=some (.int .i64 zb)) rfl hcb ?_;clear hcb;refine Rw.relax (by kernel_rfl) (Rw.relax (by kernel_rfl) ?_);refine Rw.canon (listed':=#[true,true,true,true,true,true,true,true,true,true,true,true,true,false,false,false,false,false]) (by kernel_rfl) ?_;exact HT.o vv4 Na Nb xa xb za zb (HM.o.more (by omega))
        ·go_simp
         refine(pick_tp HM.o.t (by omega) _ (by omega) (by omega)).mono ?_;rintro e vv3 ⟨xb,rfl,xb0,xb1,T1,g1⟩;refine hK.out _ _ (by repeat' (first|exact trivial|exact(λ_ h=>Rw.cell_grown g1 (by dsimp only;omega) h)|refine And.intro ?_ ?_)) ?_
         clear hK K;try simp only[y1_,y2_,y3_,Act.put,y4_,y5_,y6_]
         replace HM:=h_ (HM.o.turn g1 hR T1);replace HLa:=h_ (HLa.o.grown g1 (by intro k hk;injection hk with hk;omega));clear T1 g1;refine Rw.one (i:=8) rfl (by kernel_rfl) (λK hK=>?_);go_simp
         have b1:Below vv3.heap.size vv3 (vv3.alloc (.cells #[.int .i64 0,.int .i64 1001] 3)):=b_;refine hK.out _ _ (by repeat' (first|exact trivial|exact(λ_ h=>Rw.cell_below b1 h)|refine And.intro ?_ ?_)) ?_
         clear hK K;try simp only[y1_,y2_,y3_,Act.put,y4_,y5_,y6_]
         have HLb:=h_ (Box.new vv3 3 #[.int .i64 0,.int .i64 1001]);have hNb:R<vv3.heap.size:=HM.o.t.lt;replace HLa:=h_ (HLa.o.call b1);replace HM:=h_ (HM.o.call b1);clear b1;generalize vv3.alloc (.cells #[.int .i64 0,.int .i64 1001] 3)=vv4 at *;generalize vv3.heap.size=Nb at *;obtain⟨zb,hzb⟩:∃zb:Int,(#[.int .i64 0,.int .i64 1001]:Array Value)[xb.toNat]?=some (.int .i64 zb):=lit2_at xb0 xb1;have hcb:=HLb.o.cell xb.toNat;rw[hzb]at hcb;clear hzb;refine w_ 11 rfl ?_;refine wl_ 12 (λV=>V.cell? ⟨Nb,xb.toNat,none⟩=some (.int .i64 zb)) rfl hcb ?_;clear hcb;refine Rw.relax (by kernel_rfl) (Rw.relax (by kernel_rfl) ?_);refine Rw.canon (listed':=#[true,true,true,true,true,true,true,true,true,true,true,true,true,false,false,false,false,false]) (by kernel_rfl) ?_;exact HT.o vv4 Na Nb xa xb za zb (HM.o.more (by omega))
       ·go_simp
        have b1:Below vv1.heap.size vv1 (vv1.alloc (.cells #[.int .i64 0,.int .i64 1001] 3)):=b_;refine hK.out _ _ (by repeat' (first|exact trivial|exact(λ_ h=>Rw.cell_below b1 h)|refine And.intro ?_ ?_)) ?_
        clear hK K;try simp only[y1_,y2_,y3_,Act.put,y4_,y5_,y6_]
        have HLb:=h_ (Box.new vv1 3 #[.int .i64 0,.int .i64 1001]);have hNb:R<vv1.heap.size:=HM.o.t.lt;replace HM:=h_ (HM.o.call b1);clear b1;generalize vv1.alloc (.cells #[.int .i64 0,.int .i64 1001] 3)=vv2 at *;generalize vv1.heap.size=Nb at *;refine Rw.two (i:=3) (j:=10) rfl rfl (by kernel_rfl) (λK hK=>?_) (λK hK=>?_)
        ·go_simp
         have b1:Below vv2.heap.size vv2 (vv2.alloc (.cells #[.int .i64 0,.int .i64 (-1),.int .i64 many] 3)):=b_;refine hK.out _ _ (by repeat' (first|exact trivial|exact(λ_ h=>Rw.cell_below b1 h)|refine And.intro ?_ ?_)) ?_
         clear hK K;try simp only[y1_,y2_,y3_,Act.put,y4_,y5_,y6_]
         have HLa:=h_ (Box.new vv2 3 #[.int .i64 0,.int .i64 (-1),.int .i64 many]);have hNa:R<vv2.heap.size:=HM.o.t.lt;replace HLb:=h_ (HLb.o.call b1);replace HM:=h_ (HM.o.call b1);clear b1;generalize vv2.alloc (.cells #[.int .i64 0,.int .i64 (-1),.int .i64 many] 3)=vv3 at *;generalize vv2.heap.size=Na at *;obtain⟨za,hza⟩:∃za:Int,(#[.int .i64 0,.int .i64 (-1),.int .i64 many]:Array Value)[xa.toNat]?=some (.int .i64 za):=lit3_at xa0 xa1;have hca:=HLa.o.cell xa.toNat;rw[hza]at hca;clear hza;refine w_ 6 rfl ?_;refine wl_ 7 (λV=>V.cell? ⟨Na,xa.toNat,none⟩=some (.int .i64 za)) rfl hca ?_;clear hca;refine Rw.one (i:=10) rfl (by kernel_rfl) (λK hK=>?_);go_simp
         refine(pick_tp HM.o.t (by omega) _ (by omega) (by omega)).mono ?_;rintro e vv4 ⟨xb,rfl,xb0,xb1,T1,g1⟩;refine hK.out _ _ (by repeat' (first|exact trivial|exact(λ_ h=>Rw.cell_grown g1 (by dsimp only;omega) h)|refine And.intro ?_ ?_)) ?_
         clear hK K;try simp only[y1_,y2_,y3_,Act.put,y4_,y5_,y6_]
         replace HM:=h_ (HM.o.turn g1 hR T1);replace HLb:=h_ (HLb.o.grown g1 (by intro k hk;injection hk with hk;omega));replace HLa:=h_ (HLa.o.grown g1 (by intro k hk;injection hk with hk;omega));clear T1 g1;obtain⟨zb,hzb⟩:∃zb:Int,(#[.int .i64 0,.int .i64 1001]:Array Value)[xb.toNat]?=some (.int .i64 zb):=lit2_at xb0 xb1;have hcb:=HLb.o.cell xb.toNat;rw[hzb]at hcb;clear hzb;refine w_ 11 rfl ?_;refine wl_ 12 (λV=>V.cell? ⟨Nb,xb.toNat,none⟩=some (.int .i64 zb)) rfl hcb ?_;clear hcb;refine Rw.relax (by kernel_rfl) (Rw.relax (by kernel_rfl) ?_);refine Rw.canon (listed':=#[true,true,true,true,true,true,true,true,true,true,true,true,true,false,false,false,false,false]) (by kernel_rfl) ?_;exact HT.o vv4 Na Nb xa xb za zb (HM.o.more (by omega))
        ·go_simp
         refine(pick_tp HM.o.t (by omega) _ (by omega) (by omega)).mono ?_;rintro e vv3 ⟨xb,rfl,xb0,xb1,T1,g1⟩;refine hK.out _ _ (by repeat' (first|exact trivial|exact(λ_ h=>Rw.cell_grown g1 (by dsimp only;omega) h)|refine And.intro ?_ ?_)) ?_
         clear hK K;try simp only[y1_,y2_,y3_,Act.put,y4_,y5_,y6_]
         replace HM:=h_ (HM.o.turn g1 hR T1);replace HLb:=h_ (HLb.o.grown g1 (by intro k hk;injection hk with hk;omega));clear T1 g1;obtain⟨zb,hzb⟩:∃zb:Int,(#[.int .i64 0,.int .i64 1001]:Array Value)[xb.toNat]?=some (.int .i64 zb):=lit2_at xb0 xb1;have hcb:=HLb.o.cell xb.toNat;rw[hzb]at hcb;clear hzb;refine w_ 11 rfl ?_;refine wl_ 12 (λV=>V.cell? ⟨Nb,xb.toNat,none⟩=some (.int .i64 zb)) rfl hcb ?_;clear hcb;refine Rw.one (i:=3) rfl (by kernel_rfl) (λK hK=>?_);go_simp
         have b1:Below vv3.heap.size vv3 (vv3.alloc (.cells #[.int .i64 0,.int .i64 (-1),.int .i64 many] 3)):=b_;refine hK.out _ _ (by repeat' (first|exact trivial|exact(λ_ h=>Rw.cell_below b1 h)|refine And.intro ?_ ?_)) ?_
         clear hK K;try simp only[y1_,y2_,y3_,Act.put,y4_,y5_,y6_]
         have HLa:=h_ (Box.new vv3 3 #[.int .i64 0,.int .i64 (-1),.int .i64 many]);have hNa:R<vv3.heap.size:=HM.o.t.lt;replace HLb:=h_ (HLb.o.call b1);replace HM:=h_ (HM.o.call b1);clear b1;generalize vv3.alloc (.cells #[.int .i64 0,.int .i64 (-1),.int .i64 many] 3)=vv4 at *;generalize vv3.heap.size=Na at *;obtain⟨za,hza⟩:∃za:Int,(#[.int .i64 0,.int .i64 (-1),.int .i64 many]:Array Value)[xa.toNat]?=some (.int .i64 za):=lit3_at xa0 xa1;have hca:=HLa.o.cell xa.toNat;rw[hza]at hca;clear hza;refine w_ 6 rfl ?_;refine wl_ 7 (λV=>V.cell? ⟨Na,xa.toNat,none⟩=some (.int .i64 za)) rfl hca ?_;clear hca;refine Rw.relax (by kernel_rfl) (Rw.relax (by kernel_rfl) ?_);refine Rw.canon (listed':=#[true,true,true,true,true,true,true,true,true,true,true,true,true,false,false,false,false,false]) (by kernel_rfl) ?_;exact HT.o vv4 Na Nb xa xb za zb (HM.o.more (by omega))
       ·go_simp
        refine(pick_tp HM.o.t (by omega) _ (by omega) (by omega)).mono ?_;rintro e vv2 ⟨xb,rfl,xb0,xb1,T1,g1⟩;refine hK.out _ _ (by repeat' (first|exact trivial|exact(λ_ h=>Rw.cell_grown g1 (by dsimp only;omega) h)|refine And.intro ?_ ?_)) ?_
        clear hK K;try simp only[y1_,y2_,y3_,Act.put,y4_,y5_,y6_]
        replace HM:=h_ (HM.o.turn g1 hR T1);clear T1 g1;refine Rw.two (i:=3) (j:=8) rfl rfl (by kernel_rfl) (λK hK=>?_) (λK hK=>?_)
        ·go_simp
         have b1:Below vv2.heap.size vv2 (vv2.alloc (.cells #[.int .i64 0,.int .i64 (-1),.int .i64 many] 3)):=b_;refine hK.out _ _ (by repeat' (first|exact trivial|exact(λ_ h=>Rw.cell_below b1 h)|refine And.intro ?_ ?_)) ?_
         clear hK K;try simp only[y1_,y2_,y3_,Act.put,y4_,y5_,y6_]
         have HLa:=h_ (Box.new vv2 3 #[.int .i64 0,.int .i64 (-1),.int .i64 many]);have hNa:R<vv2.heap.size:=HM.o.t.lt;replace HM:=h_ (HM.o.call b1);clear b1;generalize vv2.alloc (.cells #[.int .i64 0,.int .i64 (-1),.int .i64 many] 3)=vv3 at *;generalize vv2.heap.size=Na at *;obtain⟨za,hza⟩:∃za:Int,(#[.int .i64 0,.int .i64 (-1),.int .i64 many]:Array Value)[xa.toNat]?=some (.int .i64 za):=lit3_at xa0 xa1;have hca:=HLa.o.cell xa.toNat;rw[hza]at hca;clear hza;refine w_ 6 rfl ?_;refine wl_ 7 (λV=>V.cell? ⟨Na,xa.toNat,none⟩=some (.int .i64 za)) rfl hca ?_;clear hca;refine Rw.one (i:=8) rfl (by kernel_rfl) (λK hK=>?_);go_simp
         have b1:Below vv3.heap.size vv3 (vv3.alloc (.cells #[.int .i64 0,.int .i64 1001] 3)):=b_;refine hK.out _ _ (by repeat' (first|exact trivial|exact(λ_ h=>Rw.cell_below b1 h)|refine And.intro ?_ ?_)) ?_
         clear hK K;try simp only[y1_,y2_,y3_,Act.put,y4_,y5_,y6_]
         have HLb:=h_ (Box.new vv3 3 #[.int .i64 0,.int .i64 1001]);have hNb:R<vv3.heap.size:=HM.o.t.lt;replace HLa:=h_ (HLa.o.call b1);replace HM:=h_ (HM.o.call b1);clear b1;generalize vv3.alloc (.cells #[.int .i64 0,.int .i64 1001] 3)=vv4 at *;generalize vv3.heap.size=Nb at *;obtain⟨zb,hzb⟩:∃zb:Int,(#[.int .i64 0,.int .i64 1001]:Array Value)[xb.toNat]?=some (.int .i64 zb):=lit2_at xb0 xb1;have hcb:=HLb.o.cell xb.toNat;rw[hzb]at hcb;clear hzb;refine w_ 11 rfl ?_;refine wl_ 12 (λV=>V.cell? ⟨Nb,xb.toNat,none⟩=some (.int .i64 zb)) rfl hcb ?_;clear hcb;refine Rw.relax (by kernel_rfl) (Rw.relax (by kernel_rfl) ?_);refine Rw.canon (listed':=#[true,true,true,true,true,true,true,true,true,true,true,true,true,false,false,false,false,false]) (by kernel_rfl) ?_;exact HT.o vv4 Na Nb xa xb za zb (HM.o.more (by omega))
        ·go_simp
         have b1:Below vv2.heap.size vv2 (vv2.alloc (.cells #[.int .i64 0,.int .i64 1001] 3)):=b_;refine hK.out _ _ (by repeat' (first|exact trivial|exact(λ_ h=>Rw.cell_below b1 h)|refine And.intro ?_ ?_)) ?_
         clear hK K;try simp only[y1_,y2_,y3_,Act.put,y4_,y5_,y6_]
         have HLb:=h_ (Box.new vv2 3 #[.int .i64 0,.int .i64 1001]);have hNb:R<vv2.heap.size:=HM.o.t.lt;replace HM:=h_ (HM.o.call b1);clear b1;generalize vv2.alloc (.cells #[.int .i64 0,.int .i64 1001] 3)=vv3 at *;generalize vv2.heap.size=Nb at *;obtain⟨zb,hzb⟩:∃zb:Int,(#[.int .i64 0,.int .i64 1001]:Array Value)[xb.toNat]?=some (.int .i64 zb):=lit2_at xb0 xb1;have hcb:=HLb.o.cell xb.toNat;rw[hzb]at hcb;clear hzb;refine w_ 11 rfl ?_;refine wl_ 12 (λV=>V.cell? ⟨Nb,xb.toNat,none⟩=some (.int .i64 zb)) rfl hcb ?_;clear hcb;refine Rw.one (i:=3) rfl (by kernel_rfl) (λK hK=>?_);go_simp
         have b1:Below vv3.heap.size vv3 (vv3.alloc (.cells #[.int .i64 0,.int .i64 (-1),.int .i64 many] 3)):=b_;refine hK.out _ _ (by repeat' (first|exact trivial|exact(λ_ h=>Rw.cell_below b1 h)|refine And.intro ?_ ?_)) ?_
         clear hK K;try simp only[y1_,y2_,y3_,Act.put,y4_,y5_,y6_]
         have HLa:=h_ (Box.new vv3 3 #[.int .i64 0,.int .i64 (-1),.int .i64 many]);have hNa:R<vv3.heap.size:=HM.o.t.lt;replace HLb:=h_ (HLb.o.call b1);replace HM:=h_ (HM.o.call b1);clear b1;generalize vv3.alloc (.cells #[.int .i64 0,.int .i64 (-1),.int .i64 many] 3)=vv4 at *;generalize vv3.heap.size=Na at *;obtain⟨za,hza⟩:∃za:Int,(#[.int .i64 0,.int .i64 (-1),.int .i64 many]:Array Value)[xa.toNat]?=some (.int .i64 za):=lit3_at xa0 xa1;have hca:=HLa.o.cell xa.toNat;rw[hza]at hca;clear hza;refine w_ 6 rfl ?_;refine wl_ 7 (λV=>V.cell? ⟨Na,xa.toNat,none⟩=some (.int .i64 za)) rfl hca ?_;clear hca;refine Rw.relax (by kernel_rfl) (Rw.relax (by kernel_rfl) ?_);refine Rw.canon (listed':=#[true,true,true,true,true,true,true,true,true,true,true,true,true,false,false,false,false,false]) (by kernel_rfl) ?_;exact HT.o vv4 Na Nb xa xb za zb (HM.o.more (by omega))
      ·go_simp
       have b1:Below vv0.heap.size vv0 (vv0.alloc (.cells #[.int .i64 0,.int .i64 1001] 3)):=b_;refine hK.out _ _ (by repeat' (first|exact trivial|exact(λ_ h=>Rw.cell_below b1 h)|refine And.intro ?_ ?_)) ?_
       clear hK K;try simp only[y1_,y2_,y3_,Act.put,y4_,y5_,y6_]
       have HLb:=h_ (Box.new vv0 3 #[.int .i64 0,.int .i64 1001]);have hNb:R<vv0.heap.size:=HM.o.t.lt;replace HM:=h_ (HM.o.call b1);clear b1;generalize vv0.alloc (.cells #[.int .i64 0,.int .i64 1001] 3)=vv1 at *;generalize vv0.heap.size=Nb at *;refine Rw.two (i:=3) (j:=5) rfl rfl (by kernel_rfl) (λK hK=>?_) (λK hK=>?_)
       ·go_simp
        have b1:Below vv1.heap.size vv1 (vv1.alloc (.cells #[.int .i64 0,.int .i64 (-1),.int .i64 many] 3)):=b_;refine hK.out _ _ (by repeat' (first|exact trivial|exact(λ_ h=>Rw.cell_below b1 h)|refine And.intro ?_ ?_)) ?_
        clear hK K;try simp only[y1_,y2_,y3_,Act.put,y4_,y5_,y6_]
        have HLa:=h_ (Box.new vv1 3 #[.int .i64 0,.int .i64 (-1),.int .i64 many]);have hNa:R<vv1.heap.size:=HM.o.t.lt;replace HLb:=h_ (HLb.o.call b1);replace HM:=h_ (HM.o.call b1);clear b1;generalize vv1.alloc (.cells #[.int .i64 0,.int .i64 (-1),.int .i64 many] 3)=vv2 at *;generalize vv1.heap.size=Na at *;refine Rw.one (i:=5) rfl (by kernel_rfl) (λK hK=>?_);go_simp
        refine(pick_tp HM.o.t (by omega) _ (by omega) (by omega)).mono ?_;rintro e vv3 ⟨xa,rfl,xa0,xa1,T1,g1⟩;refine hK.out _ _ (by repeat' (first|exact trivial|exact(λ_ h=>Rw.cell_grown g1 (by dsimp only;omega) h)|refine And.intro ?_ ?_)) ?_
        clear hK K;try simp only[y1_,y2_,y3_,Act.put,y4_,y5_,y6_]
        replace HM:=h_ (HM.o.turn g1 hR T1);replace HLb:=h_ (HLb.o.grown g1 (by intro k hk;injection hk with hk;omega));replace HLa:=h_ (HLa.o.grown g1 (by intro k hk;injection hk with hk;omega));clear T1 g1;obtain⟨za,hza⟩:∃za:Int,(#[.int .i64 0,.int .i64 (-1),.int .i64 many]:Array Value)[xa.toNat]?=some (.int .i64 za):=lit3_at xa0 xa1;have hca:=HLa.o.cell xa.toNat;rw[hza]at hca;clear hza;refine w_ 6 rfl ?_;refine wl_ 7 (λV=>V.cell? ⟨Na,xa.toNat,none⟩=some (.int .i64 za)) rfl hca ?_;clear hca;refine Rw.one (i:=10) rfl (by kernel_rfl) (λK hK=>?_);go_simp
        refine(pick_tp HM.o.t (by omega) _ (by omega) (by omega)).mono ?_;rintro e vv4 ⟨xb,rfl,xb0,xb1,T1,g1⟩;refine hK.out _ _ (by repeat' (first|exact trivial|exact(λ_ h=>Rw.cell_grown g1 (by dsimp only;omega) h)|refine And.intro ?_ ?_)) ?_
        clear hK K;try simp only[y1_,y2_,y3_,Act.put,y4_,y5_,y6_]
        replace HM:=h_ (HM.o.turn g1 hR T1);replace HLb:=h_ (HLb.o.grown g1 (by intro k hk;injection hk with hk;omega));replace HLa:=h_ (HLa.o.grown g1 (by intro k hk;injection hk with hk;omega));clear T1 g1;obtain⟨zb,hzb⟩:∃zb:Int,(#[.int .i64 0,.int .i64 1001]:Array Value)[xb.toNat]?=some (.int .i64 zb):=lit2_at xb0 xb1;have hcb:=HLb.o.cell xb.toNat;rw[hzb]at hcb;clear hzb;refine w_ 11 rfl ?_;refine wl_ 12 (λV=>V.cell? ⟨Nb,xb.toNat,none⟩=some (.int .i64 zb)) rfl hcb ?_;clear hcb;refine Rw.relax (by kernel_rfl) (Rw.relax (by kernel_rfl) ?_);refine Rw.canon (listed':=#[true,true,true,true,true,true,true,true,true,true,true,true,true,false,false,false,false,false]) (by kernel_rfl) ?_;exact HT.o vv4 Na Nb xa xb za zb (HM.o.more (by omega))
       ·go_simp
        refine(pick_tp HM.o.t (by omega) _ (by omega) (by omega)).mono ?_;rintro e vv2 ⟨xa,rfl,xa0,xa1,T1,g1⟩;refine hK.out _ _ (by repeat' (first|exact trivial|exact(λ_ h=>Rw.cell_grown g1 (by dsimp only;omega) h)|refine And.intro ?_ ?_)) ?_
        clear hK K;try simp only[y1_,y2_,y3_,Act.put,y4_,y5_,y6_]
        replace HM:=h_ (HM.o.turn g1 hR T1);replace HLb:=h_ (HLb.o.grown g1 (by intro k hk;injection hk with hk;omega));clear T1 g1;refine Rw.two (i:=3) (j:=10) rfl rfl (by kernel_rfl) (λK hK=>?_) (λK hK=>?_)
        ·go_simp
         have b1:Below vv2.heap.size vv2 (vv2.alloc (.cells #[.int .i64 0,.int .i64 (-1),.int .i64 many] 3)):=b_;refine hK.out _ _ (by repeat' (first|exact trivial|exact(λ_ h=>Rw.cell_below b1 h)|refine And.intro ?_ ?_)) ?_
         clear hK K;try simp only[y1_,y2_,y3_,Act.put,y4_,y5_,y6_]
         have HLa:=h_ (Box.new vv2 3 #[.int .i64 0,.int .i64 (-1),.int .i64 many]);have hNa:R<vv2.heap.size:=HM.o.t.lt;replace HLb:=h_ (HLb.o.call b1);replace HM:=h_ (HM.o.call b1);clear b1;generalize vv2.alloc (.cells #[.int .i64 0,.int .i64 (-1),.int .i64 many] 3)=vv3 at *;generalize vv2.heap.size=Na at *;obtain⟨za,hza⟩:∃za:Int,(#[.int .i64 0,.int .i64 (-1),.int .i64 many]:Array Value)[xa.toNat]?=some (.int .i64 za):=lit3_at xa0 xa1;have hca:=HLa.o.cell xa.toNat;rw[hza]at hca;clear hza;refine w_ 6 rfl ?_;refine wl_ 7 (λV=>V.cell? ⟨Na,xa.toNat,none⟩=some (.int .i64 za)) rfl hca ?_;clear hca;refine Rw.one (i:=10) rfl (by kernel_rfl) (λK hK=>?_);go_simp
         refine(pick_tp HM.o.t (by omega) _ (by omega) (by omega)).mono ?_;rintro e vv4 ⟨xb,rfl,xb0,xb1,T1,g1⟩;refine hK.out _ _ (by repeat' (first|exact trivial|exact(λ_ h=>Rw.cell_grown g1 (by dsimp only;omega) h)|refine And.intro ?_ ?_)) ?_
         clear hK K;try simp only[y1_,y2_,y3_,Act.put,y4_,y5_,y6_]
         replace HM:=h_ (HM.o.turn g1 hR T1);replace HLb:=h_ (HLb.o.grown g1 (by intro k hk;injection hk with hk;omega));replace HLa:=h_ (HLa.o.grown g1 (by intro k hk;injection hk with hk;omega));clear T1 g1;obtain⟨zb,hzb⟩:∃zb:Int,(#[.int .i64 0,.int .i64 1001]:Array Value)[xb.toNat]?=some (.int .i64 zb):=lit2_at xb0 xb1;have hcb:=HLb.o.cell xb.toNat;rw[hzb]at hcb;clear hzb;refine w_ 11 rfl ?_;refine wl_ 12 (λV=>V.cell? ⟨Nb,xb.toNat,none⟩=some (.int .i64 zb)) rfl hcb ?_;clear hcb;refine Rw.relax (by kernel_rfl) (Rw.relax (by kernel_rfl) ?_);refine Rw.canon (listed':=#[true,true,true,true,true,true,true,true,true,true,true,true,true,false,false,false,false,false]) (by kernel_rfl) ?_;exact HT.o vv4 Na Nb xa xb za zb (HM.o.more (by omega))
        ·go_simp
         refine(pick_tp HM.o.t (by omega) _ (by omega) (by omega)).mono ?_;rintro e vv3 ⟨xb,rfl,xb0,xb1,T1,g1⟩;refine hK.out _ _ (by repeat' (first|exact trivial|exact(λ_ h=>Rw.cell_grown g1 (by dsimp only;omega) h)|refine And.intro ?_ ?_)) ?_
         clear hK K;try simp only[y1_,y2_,y3_,Act.put,y4_,y5_,y6_]
         replace HM:=h_ (HM.o.turn g1 hR T1);replace HLb:=h_ (HLb.o.grown g1 (by intro k hk;injection hk with hk;omega));clear T1 g1;obtain⟨zb,hzb⟩:∃zb:Int,(#[.int .i64 0,.int .i64 1001]:Array Value)[xb.toNat]?=some (.int .i64 zb):=lit2_at xb0 xb1;have hcb:=HLb.o.cell xb.toNat;rw[hzb]at hcb;clear hzb;refine w_ 11 rfl ?_;refine wl_ 12 (λV=>V.cell? ⟨Nb,xb.toNat,none⟩=some (.int .i64 zb)) rfl hcb ?_;clear hcb;refine Rw.one (i:=3) rfl (by kernel_rfl) (λK hK=>?_);go_simp
         have b1:Below vv3.heap.size vv3 (vv3.alloc (.cells #[.int .i64 0,.int .i64 (-1),.int .i64 many] 3)):=b_;refine hK.out _ _ (by repeat' (first|exact trivial|exact(λ_ h=>Rw.cell_below b1 h)|refine And.intro ?_ ?_)) ?_
         clear hK K;try simp only[y1_,y2_,y3_,Act.put,y4_,y5_,y6_]
         have HLa:=h_ (Box.new vv3 3 #[.int .i64 0,.int .i64 (-1),.int .i64 many]);have hNa:R<vv3.heap.size:=HM.o.t.lt;replace HLb:=h_ (HLb.o.call b1);replace HM:=h_ (HM.o.call b1);clear b1;generalize vv3.alloc (.cells #[.int .i64 0,.int .i64 (-1),.int .i64 many] 3)=vv4 at *;generalize vv3.heap.size=Na at *;obtain⟨za,hza⟩:∃za:Int,(#[.int .i64 0,.int .i64 (-1),.int .i64 many]:Array Value)[xa.toNat]?=some (.int .i64 za):=lit3_at xa0 xa1;have hca:=HLa.o.cell xa.toNat;rw[hza]at hca;clear hza;refine w_ 6 rfl ?_;refine wl_ 7 (λV=>V.cell? ⟨Na,xa.toNat,none⟩=some (.int .i64 za)) rfl hca ?_;clear hca;refine Rw.relax (by kernel_rfl) (Rw.relax (by kernel_rfl) ?_);refine Rw.canon (listed':=#[true,true,true,true,true,true,true,true,true,true,true,true,true,false,false,false,false,false]) (by kernel_rfl) ?_;exact HT.o vv4 Na Nb xa xb za zb (HM.o.more (by omega))
     ·intro vv Na Nb xa xb za zb hm;have HM2:=h_ hm;clear hm HM;refine w_ 13 rfl ?_;refine Rw.one (i:=14) rfl (by kernel_rfl) (λK hK=>?_);go_simp
      have b14:Below vv.heap.size vv (vv.alloc (.cells #[.int .i64 0,.int .i64 1,.int .i64 za,.int .i64 zb] 65)):=b_;refine hK.out _ _ (by repeat' (first|exact trivial|exact(λ_ h=>Rw.cell_below b14 h)|refine And.intro ?_ ?_)) ?_
      clear hK K;try simp only[y1_,y2_,y3_,Act.put,y4_,y5_,y6_]
      have HM3:=h_ (HM2.o.call ((Below.refl _ _).alloc (Nat.le_refl _) (.cells #[.int .i64 0,.int .i64 1,.int .i64 za,.int .i64 zb] 65)));have hsz:=HM2.o.bx.lt;have hsm:=HM2.o.sm.2.2.2.1;have hfl:q.fs.length<=5:=hsm;have HFX:=HQ4;refine Rw.one (i:=15) rfl (by kernel_rfl) (λK hK=>?_);refine step_app (by rfl) _ _ 59 rfl 65 iF (.agg #[.int .i64 0,.int .i64 0,.int .i64 0,.int .i64 0]) 4 32 Tryz.underlying59 HI.o.1 HI.o.2.1 HI.o.2.2.1 HI.o.2.2.2 rfl (by decide) w.heap.size q.F q.fs.length q.fc (cellsOf fixupC q.fs) (by rfl) HM3.o.rw_.2 (Nat.le_of_lt HM3.o.by_.lt) (some ⟨vv.heap.size,0,none⟩) 1 1 [.int .i64 0,.int .i64 1,.int .i64 za,.int .i64 zb] (by rfl) (rd_lit vv #[.int .i64 0,.int .i64 1,.int .i64 za,.int .i64 zb] 65 _ rfl) rfl (λh=>by cases h) (one_fix [(0,1,za,zb)]) (by unfold maxLen;omega) (by omega) ?_;intro F2 n2 fc2 v10 hn2 o10 g10 k10;have hn2':n2=(q.fs++[((0:Int),(1:Int),za,zb)]).length:=by rw[hn2,List.length_append];rfl
      clear hn2;have HF:=h_ (λhl=>HM3.o.fixed hR HW0.o (fs':=q.fs++[((0:Int),(1:Int),za,zb)]) (by simpa[cellsOf,fixupC]using o10) hn2' g10 hl);have HBX:=h_ (HM3.o.bx.grown g10 (HM3.o.rw_.2.box HM3.o.bx (by decide)));clear o10 g10 k10 hsm hfl hsz;refine hK.out _ _ (by repeat' (first|exact trivial|exact Rw.out_of (by kernel_rfl)|refine And.intro ?_ ?_)) ?_
      clear hK K;try simp only[y1_,y2_,y3_,Act.put,y4_,y5_,y6_]
      refine w_ 16 rfl ?_;have hb5:=HBX.o.cell 5;have hbf5:=HBX.o.frozen 5;have hbl:=HBX.o.lt;simp only[g_]at hb5;clear hn2';refine Rw.one (i:=17) rfl (by kernel_rfl) (λK hK=>?_);go_simp
      refine hK.out _ _ (by repeat' (first|exact trivial|exact Rw.out_of (by kernel_rfl)|refine And.intro ?_ ?_)) ?_
      clear hK K;try simp only[y1_,y2_,y3_,Act.put,y4_,y5_,y6_]
      refine Rw.done (by kernel_rfl) ?_ _;clear hb5 hbf5 hbl;go_wp2_with fail
      go_meet
      exact⟨_,0,HN0.o 0,(HF.o (by simp;have:=HFX.o;omega)).more (by omega)⟩
    ·skip
     obtain⟨i8,hi81,hi82,hi83,hi84⟩:=info_parts CBytes.info8;have HI8:=h_ (And.intro hi81 (And.intro hi82 (And.intro hi83 hi84)));clear hi81 hi82 hi83 hi84;have HWW:=h_ (show w.heap.size<=v2.heap.size from by have:=HM.o.bx.lt;omega);go_wp2_with (at_make;refine wpList_make_full _ rfl _ _ _ rfl w.heap.size 5 i8 (.int .u8 0) 1 Tryz.underlying22 HI8.o.1 HI8.o.2.1 HI8.o.2.2.1 .i64 .i64 _ _ 49 rfl rfl rfl rfl ?c1 ?c2 ?c3 ?_)
     case c1=>rw[HI8.o.2.2.2];omega
     case c2=>unfold maxLen;omega
     case c3=>exact HWW.o
     intro v3 hto g8;rw[zero_cells']at hto;have B3:Below v2.heap.size v2 v3:=(Below.refl _ _).grown g8 (Nat.le_refl _) (by intro k h;cases h);replace HM:=h_ (HM.o.call B3);have HA:=h_ (show Row v3 w.heap.size 5 1 (some ⟨v2.heap.size,0,none⟩) 49 49 (ints .u8 (List.replicate 49 0))from Row.own hto);clear hto g8 B3;have x3:=HM.o.bx.cell 3;have xf:=HM.o.bx.frozen 3;have hxl:=HM.o.bx.lt;simp only[g_]at x3;go_wp2_with fail
     go_meet
     exact⟨{q with A:=some ⟨v2.heap.size,0,none⟩,c:=49,zs:=List.replicate 49 0},0,HN0.o 0,(HM.o.bytes hR HW0.o HA.o (by simp) (λx hx=>by rw[List.eq_of_mem_replicate hx];omega)).more (by omega)⟩
  case rest=>
   obtain⟨q,lo,hlo,hm⟩:=hcut;have HM:=h_ hm;clear hm;have x0:=HM.o.bx.cell 0;have x1:=HM.o.bx.cell 1;have x2:=HM.o.bx.cell 2;have x3:=HM.o.bx.cell 3;have x4:=HM.o.bx.cell 4;have x5:=HM.o.bx.cell 5;have hxl:=HM.o.bx.lt;have y0:=HM.o.by_.cell 0;have y1:=HM.o.by_.cell 1;have y2:=HM.o.by_.cell 2;have y3:=HM.o.by_.cell 3;have y4:=HM.o.by_.cell 4;have y5:=HM.o.by_.cell 5;have f0:=HM.o.by_.frozen 0;have f1:=HM.o.by_.frozen 1;have f2:=HM.o.by_.frozen 2;have f3:=HM.o.by_.frozen 3;have f4:=HM.o.by_.frozen 4;have f5:=HM.o.by_.frozen 5;simp only[g_]at x0 x1 x2 x3 x4 x5 y0 y1 y2 y3 y4 y5;have kk:=six_box HM.o.by_ (.string q.nm) (.int .i64 q.kd) (.int .i64 q.al) (.slice q.A q.zs.length q.c) (.int .i64 q.sz) (.slice q.F q.fs.length q.fc);have k0:=d_ kk 0;have k1:=d_ kk 1;have k2:=d_ kk 2;have k3:=d_ kk 3;have k4:=d_ kk 4;have k5:=d_ kk 5;clear kk;have HFIN:=h_ (HM.o.ret hR HW0.o hlo);clear hlo;go_wp2_with fail
   exact bodyPost_ret (v:=.agg (secC q).toArray) (by simp[results,Tryz.results80,go_sem,secC,k0,k1,k2,k3,k4,k5]) rfl HFIN.o
end DSection
/- The draw of a symbol. -/
namespace DSymbol
open Kit CFixups CSymbols PObj BObj PValid CSecValid CMarkRows CCopyS DPick DVar DName DBytes DSection
def DrewY(w0 w:World)(B R:Nat)(N:Int)(e:Ending)(w':World):Prop:=∃z:YD,e=.returned (.agg #[.string z.1,.int .i64 z.2.1,.int .i64 z.2.2.1,.int .i64 z.2.2.2])/\z.1.size<=9/\Tp w0 w' B R N/\w.grownBy w' (some R)
structure Mid(w wx:World)(B R X:Nat)(N:Int)(z:YD):Prop where
 sm:z.1.size<=9
 bx:Box wx X 67 #[.string z.1,.int .i64 z.2.1,.int .i64 z.2.2.1,.int .i64 z.2.2.2]
 by_:Box wx w.heap.size 67 #[.string ByteArray.empty,.int .i64 0,.int .i64 0,.int .i64 0]
 t:Tp w wx B R N
 sz:w.heap.size<X
section
variable {w wx wy:World}{B R X:Nat}{N M:Int}{z:YD}
theorem Mid.turn (h:Mid w wx B R X N z)(g:wx.grownBy wy (some R))(hR:R<w.heap.size)(T:Tp w wy B R M):Mid w wy B R X M z:=
 ⟨h.sm,h.bx.grown g (by intro k hk;injection hk with hk;have:=h.sz;omega),h.by_.grown g (by intro k hk;injection hk with hk;omega),T,h.sz⟩
theorem Mid.more (h:Mid w wx B R X N z)(hM:N<=M):Mid w wx B R X M z:=⟨h.sm,h.bx,h.by_,h.t.more hM,h.sz⟩
theorem Mid.call (h:Mid w wx B R X N z)(hb:Below wx.heap.size wx wy):Mid w wy B R X N z:=⟨h.sm,h.bx.call hb,h.by_.call hb,h.t.call hb,h.sz⟩
theorem Mid.put (h:Mid w wx B R X N z)(hR:R<w.heap.size)(i:Nat)(u:Value)(z':YD)(hc:(symbolC z).set i u=symbolC z')(sm:z'.1.size<=9):Mid w (wx.setCell ⟨X,i,none⟩ u) B R X N z':=by
 refine⟨sm,?_,h.by_.far (p:=⟨X,i,none⟩) (by have:=h.sz;show w.heap.size≠X;omega) _,h.t.set (a:=⟨X,i,none⟩) (by have:=h.sz;show w.heap.size<=X;omega) (by have:=h.sz;show R<X;omega) _,h.sz⟩;have hb:=h.bx.set i u;have e:(#[.string z.1,.int .i64 z.2.1,.int .i64 z.2.2.1,.int .i64 z.2.2.2]:Array Value).setIfInBounds i u=#[.string z'.1,.int .i64 z'.2.1,.int .i64 z'.2.2.1,.int .i64 z'.2.2.2]:=by rw[List.setIfInBounds_toArray];exact congrArg List.toArray hc
 rw[e]at hb;exact hb
theorem Mid.ret {w0:World}{N0:Int}(h:Mid w wx B R X N z)(hR:R<w.heap.size)(T:Tp w0 w B R N0):
  DrewY w0 w B R N (.returned (.agg #[.string z.1,.int .i64 z.2.1,.int .i64 z.2.2.1,.int .i64 z.2.2.2])) ((((wx.setCell ⟨w.heap.size,0,none⟩ (.string z.1)).setCell ⟨w.heap.size,1,none⟩ (.int .i64 z.2.1)).setCell ⟨w.heap.size,2,none⟩ (.int .i64 z.2.2.1)).setCell ⟨w.heap.size,3,none⟩ (.int .i64 z.2.2.2)):=by
 have s:∀{v:World} (j:Nat) (u:Value),Tp w v B R N->Tp w (v.setCell ⟨w.heap.size,j,none⟩ u) B R N:=λj u T=>T.set (a:=⟨w.heap.size,j,none⟩) (Nat.le_refl _) hR u;have T4:=s 3 (.int .i64 z.2.2.2) (s 2 (.int .i64 z.2.2.1) (s 1 (.int .i64 z.2.1) (s 0 (.string z.1) h.t)));exact⟨z,rfl,h.sm,tp_tr T T4,T4.2⟩
theorem DrewY.more {w0 w':World}{e:Ending}(h:DrewY w0 w B R N e w')(hM:N<=M):DrewY w0 w B R M e w':=by obtain⟨z,a,b,c,d⟩:=h;exact⟨z,a,b,c.more hM,d⟩
end
set_option maxHeartbeats 4000000 in
theorem symbol_any{w0 w:World}{B R:Nat}{N:Int}(T0:Tp w0 w B R N)(hN:N<=100000)(hN0:0<=N)(A:Option Addr)(ps:List SV)(c:Nat)(hr:∀V,w.grownBy V (some R)->RdSs V V.heap.size A ps)(hp:∀p∈ps,0<=p.sz/\p.sz<=49/\p.zs.length<=49)(hl:ps.length<=100)(n:Int)(hn:0<=n)(hn':n<=1000):
  Calls Tryz.prog 81 #[.pointer (some ⟨R,0,none⟩),.slice A ps.length c,.int .i64 n] w (DrewY w0 w B R (N+50)):=by
 have hR:=T0.lt;have HT0:=h_ T0;have HRD:=h_ hr;have HP:=h_ hp;have T:=tp_new T0;clear T0 hr hp;have HY:=h_ (Box.new w 67 #[.string ByteArray.empty,.int .i64 0,.int .i64 0,.int .i64 0]);go_enter Tryz.func81,Tryz.ntmps81
 go_wp2_with fail
 refine(name_ok (T.alloc _) (by omega)).mono ?_;rintro e w1 ⟨nm,rfl,nm0,nm1,T1,g1⟩;have HZ1:=h_ (show w.heap.size<w1.heap.size by have:=g1.size;simp at this;omega);replace HY:=h_ (HY.o.grown g1 (by intro k hk;injection hk with hk;omega));clear g1;clear T;go_wp2_with fail
 refine(pick_litP (p:=λv=>∃z:Int,v=.int .i64 z) T1 (by omega) _ (by omega) (by omega) (by repeat(first|exact List.forall_mem_nil _|refine List.forall_mem_cons.2 ⟨⟨_,rfl⟩,?_⟩)) (by simp)).mono ?_
 rintro e w3 ⟨ai,rfl,ai0,ai1,T3,g3,v,⟨bd,rfl⟩,hv⟩;have HZ3:=h_ (show w.heap.size<w3.heap.size by have h1:=g3.size;have h2:=HZ1.o;simp at h1;omega);replace HY:=h_ (HY.o.alloc (.cells #[.int .i64 0,.int .i64 1,.int .i64 1,.int .i64 2] 3));replace HY:=h_ (HY.o.grown g3 (by intro k hk;injection hk with hk;omega));clear g3;clear T1 HZ1;go_upto_block 0 with(fail)
 have HM:=h_ (show Mid w (w3.alloc (.cells #[.string nm,.int .i64 bd,.int .i64 0,.int .i64 0] 67)) B R w3.heap.size (N+3) (nm,bd,0,0)from⟨nm1,Box.new _ _ _,HY.o.alloc _,(T3.alloc _).more (by omega),HZ3.o⟩);have hXW:w.heap.size<w3.heap.size:=HZ3.o;clear T3 HZ3 hv HY;generalize w3.alloc (.cells #[.string nm,.int .i64 bd,.int .i64 0,.int .i64 0] 67)=w4 at *;generalize w3.heap.size=X at *;go_cut []from 16 to 59 (λwx=>∃z,Mid w wx B R X (N+20) z)
 case first=>
  go_wp2_with fail
  refine(pick_tp HM.o.t (by omega) _ (by omega) (by omega)).mono ?_;rintro e w5 ⟨t1,rfl,t10,t11,T1,g1⟩;replace HM:=h_ (HM.o.turn g1 hR T1);clear T1 g1;by_cases hk:t1=0
  ·subst hk;have x1:=HM.o.bx.cell 1;have x2:=HM.o.bx.cell 2;have f1:=HM.o.bx.frozen 1;have f2:=HM.o.bx.frozen 2;have hxl:=HM.o.bx.lt;simp only[g_]at x1 x2;go_wp2_with fail
   all_goals go_meet
   all_goals have HM1:=h_ (HM.o.put hR 2 (.int .i64 (-1)) (nm,bd,-1,0) rfl HM.o.sm)
   all_goals first
    |exact⟨(nm,bd,-1,0),(HM1.o.put hR 1 (.int .i64 bd) (nm,bd,-1,0) rfl HM.o.sm).more (by omega)⟩
    |exact⟨(nm,1,-1,0),(HM1.o.put hR 1 (.int .i64 1) (nm,1,-1,0) rfl HM.o.sm).more (by omega)⟩
    |exact⟨(nm,max 1 bd,-1,0),(HM1.o.put hR 1 (.int .i64 (max 1 bd)) (nm,max 1 bd,-1,0) rfl HM.o.sm).more (by omega)⟩
  ·have hk0:(t1==0)=false:=by rw[beq_eq_false_iff_ne];exact hk
   clear hk;go_wp2_with fail
   refine(pick_tp HM.o.t (by omega) _ (by omega) (by omega)).mono ?_;rintro e w6 ⟨t2,rfl,t20,t21,T1,g1⟩;replace HM:=h_ (HM.o.turn g1 hR T1);clear T1 g1;have hsel:t2=0\/(¬t2=0/\ps.length=0)\/(¬t2=0/\0<ps.length):=by omega
   rcases hsel with rfl|⟨hs9,hs0⟩|⟨hs1,hs2⟩
   rotate_left 2
   ·have e1:(t2==0)=false:=by rw[beq_eq_false_iff_ne];exact hs1
    have e2:((ps.length:Int)==0)=false:=by rw[beq_eq_false_iff_ne];omega
    clear hs1;go_wp2_with fail
    refine(pick_tp HM.o.t (by omega) _ (by omega) (by omega)).mono ?_;rintro e w7 ⟨j,rfl,j0,j1,T1,g1⟩;replace HM:=h_ (HM.o.turn g1 hR T1);clear T1 g1;obtain⟨j,rfl⟩:=Int.eq_ofNat_of_zero_le j0;have hjl:j<ps.length:=by omega
    have HM2:=h_ (HM.o.put hR 2 (.int .i64 j) (nm,bd,(j:Int),0) rfl HM.o.sm);have hrd:=HRD.o _ HM2.o.t.2;obtain⟨b,off,hA,hbg,hc⟩:=hrd.1.row secC_len (by decide) hjl;have hpp:=HP.o _ (List.getElem_mem hjl);generalize ps[j]=p at *;have c0:=hc 0 _ rfl;have c1:=hc 1 _ rfl;have c2:=hc 2 _ rfl;have c3:=hc 3 _ rfl;have c4:=hc 4 _ rfl;have c5:=hc 5 _ rfl;simp only[Nat.add_zero]at c0;have x2:=HM.o.bx.cell 2;have f2:=HM.o.bx.frozen 2;have hxl:=HM.o.bx.lt;simp only[g_]at x2;have y2:=d_ HM2.o.bx 2;have HAA:=h_ hA;clear hc hrd;subst hA;have HSS:=h_ (sectionSizeS_any p (w7.setCell ⟨X,2,none⟩ (.int .i64 j)) (by have:=hpp.2.2;unfold maxLen;omega));clear hbg HRD;go_wp2_with fail
    refine HSS.o.mono ?_;rintro e w8 ⟨rfl,b8⟩;replace HM2:=h_ (HM2.o.call b8);have hss:0<=secSize p.d/\secSize p.d<=49:=by
     unfold secSize SV.d;split
     ·exact⟨hpp.1,hpp.2.1⟩
     ·have:=hpp.2.2;dsimp only
      omega
    generalize secSize p.d=ss at *;clear b8 HSS c0 c1 c2 c3 c4 c5 x2 f2 hxl y2 HM;go_wp2_with fail
    refine(pick_tp HM2.o.t (by omega) _ (by omega) (by omega)).mono ?_;rintro e w9 ⟨v,rfl,v0,v1,T1,g1⟩;replace HM2:=h_ (HM2.o.turn g1 hR T1);clear T1 g1;have x3:=HM2.o.bx.cell 3;have f3:=HM2.o.bx.frozen 3;have hxl:=HM2.o.bx.lt;simp only[g_]at x3;go_wp2_with fail
    go_meet
    exact⟨(nm,bd,(j:Int),v),(HM2.o.put hR 3 (.int .i64 v) (nm,bd,(j:Int),v) rfl HM2.o.sm).more (by omega)⟩
   rotate_left 1
   ·have hps:ps=[]:=List.eq_nil_of_length_eq_zero hs0;have e1:(t2==0)=false:=by rw[beq_eq_false_iff_ne];exact hs9
    clear hs0 hs9;subst hps;have x2:=HM.o.bx.cell 2;have f2:=HM.o.bx.frozen 2;have hxl:=HM.o.bx.lt;simp only[g_]at x2;go_wp2_with fail
    have HM2:=h_ (HM.o.put hR 2 (.int .i64 (-2)) (nm,bd,-2,0) rfl HM.o.sm);clear x2 f2 hxl HM;generalize w6.setCell ⟨X,2,none⟩ (.int .i64 (-2))=w7 at *;refine(pick_tp HM2.o.t (by omega) _ (by omega) (by omega)).mono ?_;rintro e w8 ⟨q,rfl,q0,q1,T1,g1⟩;replace HM2:=h_ (HM2.o.turn g1 hR T1);clear T1 g1;go_wp2_with fail
    have HL:=h_ (Box.new w8 3 #[.int .i64 (q*16),.int .i64 60000]);replace HM2:=h_ (HM2.o.call ((Below.refl _ _).alloc (Nat.le_refl _) (.cells #[.int .i64 (q*16),.int .i64 60000] 3)));have hRN:R<w8.heap.size:=by have h1:=HM2.o.t.2.size;have h2:=HM2.o.bx.lt;have h3:=HM2.o.sz;simp at h1 h2;omega
    generalize w8.alloc (.cells #[.int .i64 (q*16),.int .i64 60000] 3)=w9 at *;generalize w8.heap.size=NL at *;refine(pick_tp HM2.o.t (by omega) _ (by omega) (by omega)).mono ?_;rintro e w10 ⟨v,rfl,v0,v1,T1,g1⟩;replace HM2:=h_ (HM2.o.turn g1 hR T1);replace HL:=h_ (HL.o.grown g1 (by intro k hk;injection hk with hk;omega));clear T1 g1;obtain⟨u,hu⟩:∃u:Int,(#[.int .i64 (q*16),.int .i64 60000]:Array Value)[(v/5).toNat]?=some (.int .i64 u):=by
     rcases(show v/5=0\/v/5=1 by omega)with h|h
     ·exact⟨q*16,by rw[h];rfl⟩
     ·exact⟨60000,by rw[h];rfl⟩
    have hc:=HL.o.cell (v/5).toNat;rw[hu]at hc;clear hu;have hv2:v/5<2:=by omega
    have hv3:0<=v/5:=by omega
    have x3:=HM2.o.bx.cell 3;have f3:=HM2.o.bx.frozen 3;have hxl:=HM2.o.bx.lt;simp only[g_]at x3;go_wp2_with fail
    go_meet
    exact⟨(nm,bd,-2,u),(HM2.o.put hR 3 (.int .i64 u) (nm,bd,-2,u) rfl HM2.o.sm).more (by omega)⟩
   ·have x2:=HM.o.bx.cell 2;have f2:=HM.o.bx.frozen 2;have hxl:=HM.o.bx.lt;simp only[g_]at x2;go_wp2_with fail
    have HM2:=h_ (HM.o.put hR 2 (.int .i64 (-2)) (nm,bd,-2,0) rfl HM.o.sm);clear x2 f2 hxl HM;generalize w6.setCell ⟨X,2,none⟩ (.int .i64 (-2))=w7 at *;refine(pick_tp HM2.o.t (by omega) _ (by omega) (by omega)).mono ?_;rintro e w8 ⟨q,rfl,q0,q1,T1,g1⟩;replace HM2:=h_ (HM2.o.turn g1 hR T1);clear T1 g1;go_wp2_with fail
    have HL:=h_ (Box.new w8 3 #[.int .i64 (q*16),.int .i64 60000]);replace HM2:=h_ (HM2.o.call ((Below.refl _ _).alloc (Nat.le_refl _) (.cells #[.int .i64 (q*16),.int .i64 60000] 3)));have hRN:R<w8.heap.size:=by have h1:=HM2.o.t.2.size;have h2:=HM2.o.bx.lt;have h3:=HM2.o.sz;simp at h1 h2;omega
    generalize w8.alloc (.cells #[.int .i64 (q*16),.int .i64 60000] 3)=w9 at *;generalize w8.heap.size=NL at *;refine(pick_tp HM2.o.t (by omega) _ (by omega) (by omega)).mono ?_;rintro e w10 ⟨v,rfl,v0,v1,T1,g1⟩;replace HM2:=h_ (HM2.o.turn g1 hR T1);replace HL:=h_ (HL.o.grown g1 (by intro k hk;injection hk with hk;omega));clear T1 g1;obtain⟨u,hu⟩:∃u:Int,(#[.int .i64 (q*16),.int .i64 60000]:Array Value)[(v/5).toNat]?=some (.int .i64 u):=by
     rcases(show v/5=0\/v/5=1 by omega)with h|h
     ·exact⟨q*16,by rw[h];rfl⟩
     ·exact⟨60000,by rw[h];rfl⟩
    have hc:=HL.o.cell (v/5).toNat;rw[hu]at hc;clear hu;have hv2:v/5<2:=by omega
    have hv3:0<=v/5:=by omega
    have x3:=HM2.o.bx.cell 3;have f3:=HM2.o.bx.frozen 3;have hxl:=HM2.o.bx.lt;simp only[g_]at x3;go_wp2_with fail
    go_meet
    exact⟨(nm,bd,-2,u),(HM2.o.put hR 3 (.int .i64 u) (nm,bd,-2,u) rfl HM2.o.sm).more (by omega)⟩
 case rest=>
  obtain⟨z,hm⟩:=hcut;have HM:=h_ hm;clear hm HRD HP;go_wp2_with fail
  refine(odd0_any HM.o.t (by omega) n hn (by omega)).mono ?_;rintro e v1 ⟨b,rfl,_,T1,g1⟩;replace HM:=h_ (HM.o.turn g1 hR T1);clear T1 g1;go_upto_if 62 with(fail)
  go_cut []from 62 to 96 (λwx=>∃z,Mid w wx B R X (N+40) z)
  case first=>
   cases b
   ·go_wp2_with fail
    go_meet
    exact⟨z,HM.o.more (by omega)⟩
   ·go_wp2_with fail
    refine(pick_tp HM.o.t (by omega) _ (by omega) (by omega)).mono ?_;rintro e v2 ⟨v,rfl,v0,v1',T1,g1⟩;replace HM:=h_ (HM.o.turn g1 hR T1);clear T1 g1;have hv:v=0\/v=1\/v=2\/v=3\/v=4:=by omega
    rcases hv with rfl|rfl|rfl|rfl|rfl
    ·go_wp2_with fail
     refine(name_any HM.o.t (by omega) 1 (by omega) (by omega)).mono ?_;rintro e v3 ⟨s,rfl,s0,s1,T1,g1⟩;replace HM:=h_ (HM.o.turn g1 hR T1);clear T1 g1;have x0:=HM.o.bx.cell 0;have xf:=HM.o.bx.frozen 0;have hxl:=HM.o.bx.lt;simp only[g_]at x0;go_wp2_with fail
     go_meet
     exact⟨(s,z.2),(HM.o.put hR 0 (.string s) (s,z.2) rfl s1).more (by omega)⟩
    ·go_wp2_with fail
     refine(pick_lit HM.o.t (by omega) _ (by omega) (by omega) (by repeat(first|exact List.forall_mem_nil _|refine List.forall_mem_cons.2 ⟨⟨_,rfl⟩,?_⟩)) (by simp)).mono ?_
     rintro e v3 ⟨x,rfl,x0,x1,T1,g1,q,hm,hz⟩;replace HM:=h_ ((HM.o.call ((Below.refl _ _).alloc (Nat.le_refl _) _)).turn g1 hR T1);clear T1 g1 hm;have x1:=HM.o.bx.cell 1;have xf:=HM.o.bx.frozen 1;have hxl:=HM.o.bx.lt;simp only[g_]at x1;go_wp2_with fail
     go_meet
     exact⟨(z.1,q,z.2.2),(HM.o.put hR 1 (.int .i64 q) (z.1,q,z.2.2) rfl HM.o.sm).more (by omega)⟩
    ·go_wp2_with fail
     refine(pick_lit HM.o.t (by omega) _ (by omega) (by omega) (by repeat(first|exact List.forall_mem_nil _|refine List.forall_mem_cons.2 ⟨⟨_,rfl⟩,?_⟩)) (by simp)).mono ?_
     rintro e v3 ⟨x,rfl,x0,x1,T1,g1,q,hm,hz⟩;replace HM:=h_ ((HM.o.call ((Below.refl _ _).alloc (Nat.le_refl _) _)).turn g1 hR T1);clear T1 g1 hm;have x2:=HM.o.bx.cell 2;have xf:=HM.o.bx.frozen 2;have hxl:=HM.o.bx.lt;simp only[g_]at x2;go_wp2_with fail
     go_meet
     exact⟨(z.1,z.2.1,q,z.2.2.2),(HM.o.put hR 2 (.int .i64 q) (z.1,z.2.1,q,z.2.2.2) rfl HM.o.sm).more (by omega)⟩
    ·go_wp2_with fail
     refine(pick_lit HM.o.t (by omega) _ (by omega) (by omega) (by repeat(first|exact List.forall_mem_nil _|refine List.forall_mem_cons.2 ⟨⟨_,rfl⟩,?_⟩)) (by simp)).mono ?_
     rintro e v3 ⟨x,rfl,x0,x1,T1,g1,q,hm,hz⟩;replace HM:=h_ ((HM.o.call ((Below.refl _ _).alloc (Nat.le_refl _) _)).turn g1 hR T1);clear T1 g1 hm;have x3:=HM.o.bx.cell 3;have xf:=HM.o.bx.frozen 3;have hxl:=HM.o.bx.lt;simp only[g_]at x3;go_wp2_with fail
     go_meet
     exact⟨(z.1,z.2.1,z.2.2.1,q),(HM.o.put hR 3 (.int .i64 q) (z.1,z.2.1,z.2.2.1,q) rfl HM.o.sm).more (by omega)⟩
    ·have x0:=HM.o.bx.cell 0;have x1:=HM.o.bx.cell 1;have x2:=HM.o.bx.cell 2;have x3:=HM.o.bx.cell 3;have f0:=HM.o.bx.frozen 0;have f1:=HM.o.bx.frozen 1;have f2:=HM.o.bx.frozen 2;have f3:=HM.o.bx.frozen 3;have hxl:=HM.o.bx.lt;simp only[g_]at x0 x1 x2 x3;go_wp2_with fail
     go_meet
     exact⟨(⟨#[120]⟩,0,-1,0),((((HM.o.put hR 0 (.string ⟨#[120]⟩) (⟨#[120]⟩,z.2.1,z.2.2.1,z.2.2.2) rfl (show(⟨#[120]⟩:ByteArray).size<=9 by decide)).put hR 1 (.int .i64 0) (⟨#[120]⟩,0,z.2.2.1,z.2.2.2) rfl (show(⟨#[120]⟩:ByteArray).size<=9 by decide)).put hR 2 (.int .i64 (-1)) (⟨#[120]⟩,0,-1,z.2.2.2) rfl (show(⟨#[120]⟩:ByteArray).size<=9 by decide)).put hR 3 (.int .i64 0) (⟨#[120]⟩,0,-1,0) rfl (show(⟨#[120]⟩:ByteArray).size<=9 by decide)).more (by omega)⟩
  case rest=>
   obtain⟨z,hm⟩:=hcut;have HM:=h_ hm;clear hm;have x0:=HM.o.bx.cell 0;have x1:=HM.o.bx.cell 1;have x2:=HM.o.bx.cell 2;have x3:=HM.o.bx.cell 3;have hxl:=HM.o.bx.lt;have y0:=HM.o.by_.cell 0;have y1:=HM.o.by_.cell 1;have y2:=HM.o.by_.cell 2;have y3:=HM.o.by_.cell 3;have f0:=HM.o.by_.frozen 0;have f1:=HM.o.by_.frozen 1;have f2:=HM.o.by_.frozen 2;have f3:=HM.o.by_.frozen 3;simp only[g_]at x0 x1 x2 x3 y0 y1 y2 y3;have kk:=(((HM.o.by_.set 0 (.string z.1)).set 1 (.int .i64 z.2.1)).set 2 (.int .i64 z.2.2.1)).set 3 (.int .i64 z.2.2.2);have k0:=kk.cell 0;have k1:=kk.cell 1;have k2:=kk.cell 2;have k3:=kk.cell 3;simp only[k_]at k0 k1 k2 k3;clear kk;have HFIN:=h_ (HM.o.ret hR HT0.o);go_wp2_with fail
   exact bodyPost_ret (v:=.agg #[.string z.1,.int .i64 z.2.1,.int .i64 z.2.2.1,.int .i64 z.2.2.2]) (by simp[results,Tryz.results81,go_sem,k0,k1,k2,k3]) rfl (DrewY.more HFIN.o (by omega))
end DSymbol
end Go.Proofs.YtepoiphmmjfbdaaGreatDoor
