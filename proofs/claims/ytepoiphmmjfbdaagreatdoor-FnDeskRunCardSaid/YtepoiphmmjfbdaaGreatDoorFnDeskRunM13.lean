/- l25Split: a line cut at its first blank; the reference's. -/
import Derived.Test.YtepoiphmmjfbdaaGreatDoorFnDeskRunM12
import Derived.BigQuiet
import Derived.Test.YtepoiphmmjfbdaaGreatDoorRows
import Derived.Lib.AppendZerosOnto
import Derived.WalkSpells
import Derived.Deep.RegionHeld3
import Derived.Deep.Cut
set_option linter.unusedSimpArgs false
set_option linter.unusedVariables false
set_option maxRecDepth 200000
open Go.ChangeShapes Go.WideShapes Go.ChangeAt Go.RowKit
namespace Go.Proofs.YtepoiphmmjfbdaaGreatDoor
namespace CSplitS
open Kit CEqual PNum PDump CHexI CHexS CWordsS PDesk
theorem ext_lo(s:ByteArray)(k:Nat):s.extract 0 k=bs (s.data.toList.take k):=by
 apply ByteArray.ext
 rw[ByteArray.data_extract];apply Array.ext'
 rw[Array.toList_extract];show(s.data.toList.drop 0).take (k-0)=s.data.toList.take k
 rw[List.drop_zero,Nat.sub_zero]
theorem ext_hi(s:ByteArray)(k:Nat):s.extract k s.size=bs (s.data.toList.drop k):=by
 apply ByteArray.ext
 rw[ByteArray.data_extract];apply Array.ext'
 rw[Array.toList_extract];show(s.data.toList.drop k).take (s.size-k)=s.data.toList.drop k
 refine List.take_of_length_le ?_;rw[List.length_drop,Array.length_toList];exact Nat.le_refl _
set_option maxHeartbeats 4000000 in
theorem split_any(s:ByteArray)(hs:s.size<=1048576)(w:World):Calls Tryz.prog 61 #[.string s] w (Ret (.tuple #[.string (bs (cutW s.data.toList)),.string (bs (cutR s.data.toList))]) w):=by
 go_enter Tryz.func61,Tryz.ntmps61
 go_wp2_with fail
 go_loopw [4] (λi wi=>∃(k:Nat),k<=s.size/\i=.int .i64 k/\(32:UInt8)∉s.data.toList.take k/\Below w.heap.size w wi) (λi _=>s.size-(intOf i).toNat)
 case atStart=>exact⟨0,Nat.zero_le _,rfl,by simp,Below.refl _ _⟩
 case round=>
  rename World=>wk
  obtain⟨k,hk,rfl,hno,hb⟩:=hrel;have HB:=h_ hb;have HNO:=h_ hno;clear hb hno;by_cases hlt:k<s.size
  ·have hlt':k<s.data.toList.length:=by rw[Array.length_toList];exact hlt
   have HT:=h_ (take_byte s k hlt);have HD:=h_ (show s.data.toList=s.data.toList.take k++(s[k]'hlt)::s.data.toList.drop (k+1)from by
    have h:=List.drop_eq_getElem_cons hlt';have h2:s.data.toList[k]=s[k]'hlt:=rfl;rw[h2]at h;rw[<-h,List.take_append_drop])
   have hx8:(0:Int)<=((s[k]'hlt).toNat:Int):=by omega
   by_cases hc:s[k]'hlt=(32:UInt8)
   ·have hc1:(((s[k]'hlt).toNat:Int)==32)=true:=by rw[hc];rfl
    have HV:=h_ (show cutW s.data.toList=s.data.toList.take k/\cutR s.data.toList=s.data.toList.drop (k+1)from by
     have h:=HD.o;rw[hc]at h;have h2:=cut_at (r:=s.data.toList.drop (k+1)) HNO.o;rw[<-h]at h2;exact h2)
    have hk1:IntKind.i64.wrap ((k:Int)+1)=((k+1:Nat):Int):=by rw[IntKind.wrap_i64];omega
    have hk2:k+1<=s.size:=hlt;clear HT HD hc;have j1:(k:Int)<=s.size:=by omega
    have j2:((k+1:Nat):Int)<=s.size:=by omega
    go_upto_region 5 with(fail)
    go_quiet (fail)
    go_wp2_with fail
    go_ret2;exact⟨by rw[HV.o.1,HV.o.2,<-ext_lo,<-ext_hi];rfl,Kit.Below.drewN HB.o nq⟩
   ·have hc1:(((s[k]'hlt).toNat:Int)==32)=false:=beq_eq_false_iff_ne.2 (λh=>hc (UInt8.toNat_inj.1 (by have h2:((32:UInt8):UInt8).toNat=32:=rfl;omega)));have HN2:=h_ (show(32:UInt8)∉s.data.toList.take (k+1)from by
     rw[HT.o,List.mem_append,List.mem_singleton];rintro(h|h)
     ·exact HNO.o h
     ·exact hc h.symm)
    clear hc HT HD;go_wp2_with fail
    refine⟨⟨k+1,by omega,by go_num,HN2.o,HB.o⟩,by simp[intOf];omega⟩
  ·have hke:k=s.size:=by omega
   have HV:=h_ (show cutW s.data.toList=s.data.toList/\cutR s.data.toList=[]from by
    have h:=HNO.o;rw[List.take_of_length_le (by rw[Array.length_toList,hke];exact Nat.le_refl _)]at h;exact cut_none h)
   clear hke;go_wp2_with fail
   go_ret2;exact⟨by rw[HV.o.1,HV.o.2];rfl,HB.o⟩
end CSplitS
/- l13Value: the place that a symbol means; the reference's. -/
namespace C13
open Kit CCode CName CFixups CSymbols PObj BObj PValid CGlobalOf CObjValid BStore BList PLink CFind CPlaceL
set_option maxHeartbeats 2000000 in
theorem value_any(A:Option Addr)(os:List OV)(c:Nat)(PA:Option Addr)(rs:List RV)(pc k j:Nat)(w:World)(hP:RdRs w w.heap.size PA rs)(hr:RdOs w w.heap.size A os)
  (hk:k<os.length)(hj:j<(os[k]).ys.length)(hm:os.length<=1048576/\(os[k]).ys.length<=1048576)(hp:PlOk rs k (os[k]).ys[j]):
  Calls Tryz.prog 163 #[.slice A os.length c,.slice PA rs.length pc,.int .i64 k,.int .i64 j] w (Ret (.int .i64 (tgY (rs.map RV.zs) k (os[k]).ys[j])) w):=by
 obtain⟨hm1,hm2⟩:=hm;obtain⟨b1,o1,hA,hb1,hc0,hc1⟩:=hr.at hk;obtain⟨b2,o2,hY,hb2,hc⟩:=((hr.2 _ (List.getElem_mem hk)).2).row symbolC_len (by decide) hj;have hd0:=hc 0 _ rfl;have hd1:=hc 1 _ rfl;have hd2:=hc 2 _ rfl;have hd3:=hc 3 _ rfl;simp only[Nat.add_zero]at hd0;have HPL:=h_ hp;have HRP:=h_ hP;clear hP hr hc hp hc0;subst hA;rw[hY]at hc1;clear hY;generalize (os[k]).ys[j]=z at *;generalize (os[k]).ys.length=yn at *;generalize (os[k]).yc=ycc at *;obtain⟨z1,z2,z3,z4⟩:=z;simp only at hd0 hd1 hd2 hd3;have B1:Below w.heap.size w (w.alloc (.cells #[.string z1,.int .i64 z2,.int .i64 z3,.int .i64 z4] 67)):=b_;have HS:=h_ (Box.new w 67 #[.string z1,.int .i64 z2,.int .i64 z3,.int .i64 z4]);have y0:=d_ HS.o 0;have y1:=d_ HS.o 1;have y2:=d_ HS.o 2;have y3:=d_ HS.o 3;have hsl:=HS.o.lt;have HB:=h_ B1;clear B1;by_cases h2:z3=-2
 ·have HV:=h_ (show tgY (rs.map RV.zs) k (z1,z2,z3,z4)=z4 from by unfold tgY;rw[if_pos h2]);have e2:(z3== -2)=true:=beq_iff_eq.2 h2;clear h2 HPL HRP;go_enter Tryz.func163,Tryz.ntmps163
  go_wp2_with fail
  go_ret;exact⟨by rw[HV.o];rfl,HB.o⟩
 ·have e2:(z3== -2)=false:=beq_eq_false_iff_ne.2 h2;obtain⟨hq,hv0,hv1⟩:=HPL.o;simp only at hq hv0 hv1;rcases hq with hq|⟨hz0,hkr,hir,hg0,hg1⟩
  ·exact absurd hq h2
  obtain⟨pb,poff,hPP,hpb,hrow⟩:=HRP.o.at hkr;obtain⟨rb,ro,hRA,hrb,hcell⟩:=(HRP.o.2 _ (List.getElem_mem hkr)).int hir;have HV:=h_ (show tgY (rs.map RV.zs) k (z1,z2,z3,z4)=(rs[k]).zs[z3.toNat]+z4 from by
   unfold tgY;rw[if_neg h2,getP_at hkr hir])
  rw[hRA]at hrow;clear HPL HRP hRA h2;subst hPP;generalize hgv:(rs[k]).zs[z3.toNat]=v at *;have hzl:z3.toNat<(rs[k]).zs.length:=hir;clear hgv hir;generalize (rs[k]).zs.length=rl at *;generalize (rs[k]).c=rc at *;obtain⟨n,rfl⟩:=Int.eq_ofNat_of_zero_le hz0;simp only[Int.toNat_natCast]at *;have hrow':=(HB.o.cell (p:=⟨pb,poff+k,none⟩) hpb).trans hrow;have hcell':=(HB.o.cell (p:=⟨rb,ro+n,none⟩) hrb).trans hcell;have hwr:IntKind.i64.wrap (v+z4)=v+z4:=IntWalk.i64_in _ (by omega);go_enter Tryz.func163,Tryz.ntmps163
  go_wp2_with fail
  go_quiet (fail)
  go_wp2_with fail
  go_ret;exact⟨by rw[HV.o];rfl,by have h:=HB.o;exact(by(repeat(first|with_reducible assumption|with_reducible exact Below.refl _ _|with_reducible apply below_al|with_reducible apply below_dr|with_reducible apply below_dn));done)⟩
end C13
/- The places of a layout can be told. -/
namespace CAllPl
open Kit CCode CName CNumber CFixups CSymbols PObj BObj PValid PWarn PClear CSecValid CObjValid BStore BList PLink PLinkL PLayB CFind CPlaceL
def AllPl2(rs:List RV)(os:List OV):Prop:=∀(k:Nat) (hk:k<os.length) (j:Nat) (hj:j<(os[k]).ys.length),((os[k]).ys[j].2.2.1=-1->¬(os[k]).ys[j].2.1=0)/\(¬(os[k]).ys[j].2.2.1=-1->PlOk rs k (os[k]).ys[j])
theorem sym_at2(os:List OV){k j:Nat}(hk:k<os.length)(hj:j<(os[k]).ys.length):symAtL (os.map OV.d) (k,j)=(os[k]).ys[j]:=by unfold symAtL;rw[List.getD_eq_getElem?_getD (l:=os.map OV.d),List.getElem?_map,List.getElem?_eq_getElem hk];simp only[Option.map_some,Option.getD_some,OV.d];exact getD_at hj _
theorem all_pl2{os:List OV}{rs:List RV}{b:Int}(ho:objsOk (os.map OV.d)=true)(hb0:0<=b)(hb1:b<=4096)(hrs:rs.map RV.zs=(PLink.lay (os.map OV.d) b).2):AllPl2 rs os:=by
 intro k hk j hj;obtain⟨q1,q2,q3,q4⟩:=lay_bd ho hb0 hb1;rw[<-hrs]at q3;simp only[objsOk,Bool.and_eq_true,decide_eq_true_eq,List.all_eq_true]at ho;obtain⟨_,_,h3,h4,_⟩:=(obj_iff _).1 (ho.2 _ (List.mem_map_of_mem (List.getElem_mem hk)));have hy:=h4 _ (show(os[k]).ys[j]∈(os[k]).d.ys from List.getElem_mem hj);obtain⟨_,s2⟩:=sym_facts hy;refine⟨s2,λhn=>?_⟩;have hkl:k<(os.map OV.d).length:=by simpa using hk
 have hP:=hy;simp only[symOk,Bool.and_eq_true]at hP;have hP:=hP.2;unfold placeOk at hP;rw[if_neg hn]at hP;generalize (os[k]).ys[j]=y at *;by_cases h2:y.2.2.1=-2
 ·rw[if_pos h2]at hP;have:0<=y.2.2.2/\y.2.2.2<=60000:=by simpa[inB]using hP
  exact⟨.inl h2,this.1,this.2⟩
 ·rw[if_neg h2]at hP;simp only[Bool.and_eq_true,inB,decide_eq_true_eq]at hP;obtain⟨⟨w1,w2⟩,v1,v2⟩:=hP;have hil:y.2.2.1.toNat<(os[k]).d.ss.length:=by omega
  have hsz:=(sec_okk (h3 _ (List.getElem_mem hil))).1.1;have hge:(os[k]).d.ss.getD y.2.2.1.toNat ⟨ByteArray.empty,0,0,[],0,[]⟩=(os[k]).d.ss[y.2.2.1.toNat]:=by
   rw[List.getD_eq_getElem?_getD,List.getElem?_eq_getElem hil]
   rfl
  rw[hge]at v2;have hle:((os.map OV.d)[k]).ss=(os[k]).d.ss:=by simp
  have hil2:y.2.2.1.toNat<((os.map OV.d)[k]).ss.length:=by rw[hle];exact hil
  have hsec:=sec_at hkl hil2;obtain⟨p1,p2⟩:=q3 _ _ _ hsec;have hpl:=q4 k hkl _ hil2;rw[<-hrs]at hpl;simp only[List.length_map,List.getElem_map]at p1 p2;rw[getP_at p1 p2]at hpl;exact⟨.inr ⟨w1,p1,p2,by omega,by omega⟩,v1,by omega⟩
theorem found_at{os:List OV}{rs:List RV}{nm:ByteArray}{g:G}(ha:AllPl2 rs os)(h:findN (os.map OV.d) nm=some g):∃(hk:g.1<os.length) (hj:g.2<(os[g.1]).ys.length),PlOk rs g.1 (os[g.1]).ys[g.2]/\tgO (os.map OV.d) (rs.map RV.zs) (some g)=tgY (rs.map RV.zs) g.1 (os[g.1]).ys[g.2]:=by
 obtain⟨h1,h2,h3⟩:=find_ok h;have hk:g.1<os.length:=by simpa using h1
 have e:(os.map OV.d).getD g.1 ⟨[],[]⟩=(os[g.1]).d:=by rw[List.getD_eq_getElem?_getD,List.getElem?_map,List.getElem?_eq_getElem hk];rfl
 rw[e]at h2 h3;have hj:g.2<(os[g.1]).ys.length:=h2;have e2:(os[g.1]).d.ys.getD g.2 dY=(os[g.1]).ys[g.2]:=by rw[List.getD_eq_getElem?_getD];show((os[g.1]).ys[g.2]?).getD dY=_;rw[List.getElem?_eq_getElem hj];rfl
 rw[e2]at h3;refine⟨hk,hj,(ha g.1 hk g.2 hj).2 h3,?_⟩;have h:=sym_at2 os hk hj;show tgY (rs.map RV.zs) g.1 (symAtL (os.map OV.d) (g.1,g.2))=_
 rw[h]
end CAllPl
/- NamePlaces: the reference's. -/
namespace CNPlS
open Kit CCode CName CFixups CSymbols PObj BObj PValid CObjValid BStore BList PLink PLinkL CFind CPlaceL CSorted CObjL COwnL CLayout CPlaceS P11 C11 C13 CAllPl
theorem valid_bind{l:List OD}(h:objsOk l=true):∀d∈l,∀y∈d.ys,0<=y.2.1/\y.2.1<=2:=by simp only[objsOk,Bool.and_eq_true,decide_eq_true_eq,List.all_eq_true]at h;intro d hd y hy;obtain⟨_,_,_,h4,_⟩:=(obj_iff d).1 (h.2 d hd);have:=h4 y hy;simp only[symOk,bindOk,Bool.and_eq_true,inB,decide_eq_true_eq]at this;exact this.1.2
end CNPlS
/- SymbolPlace; the reference's. -/
namespace CSymPlS
open Kit CCode CName CFixups CSymbols PObj BObj PValid CGlobalOf CObjValid BStore BList PLink CFind CPlaceL CPlaceS C13 P11 C11 CAllPl CNPlS
set_option maxHeartbeats 8000000 in
theorem symbolPlaceS_any(A:Option Addr)(os:List OV)(c:Nat)(base:Int)(k j:Nat)(w:World)(hr:RdOs w w.heap.size A os)(hf:Lst os)(hok:(objsOk (os.map OV.d)&&baseOk base)=true)
  (hk:k<os.length)(hj:j<(os[k]).ys.length):
  Calls Tryz.prog 118 #[.slice A os.length c,.int .i64 base,.int .i64 k,.int .i64 j] w (CSymPl.RetP (symPl (os.map OV.d) (PLink.lay (os.map OV.d) base).2 k j) w):=by
 have HR:=h_ hr;have HF:=h_ hf;have HLN:=h_ (show Lens os from⟨hf.n,λo h=>(hf.f o h).ny⟩);have hny:=(hf.f _ (List.getElem_mem hk)).ny;have hno:=hf.n;have HOK:=h_ hok;have hok':=hok;rw[Bool.and_eq_true]at hok';obtain⟨ho,hbs⟩:=hok';have hb0:0<=base/\base<=4096:=by simp only[baseOk,Bool.and_eq_true,decide_eq_true_eq]at hbs;exact hbs.1
 have HVB:=h_ (valid_bind ho);have HAPL:=h_ (λ(rs:List RV) (hrz:rs.map RV.zs=(PLink.lay (os.map OV.d) base).2)=>all_pl2 ho hb0.1 hb0.2 hrz);clear hr hf hok ho hbs hb0;go_enter Tryz.func118,Tryz.ntmps118
 go_wp2_with fail
 refine(placeSections_any A os c base w HR.o HF.o).mono ?_;rintro e w1 ⟨PA,pc,rs,x,rfl,hyes,hP,b1⟩;obtain⟨hrz,hx⟩:=hyes HOK.o;rw[HOK.o];have HP:=h_ hP;have HB:=h_ b1;have HPL:=h_ (HAPL.o rs hrz);have HRZ:=h_ hrz;clear hyes hP b1 hx hrz HAPL HOK;have hi1:inB (k:Int) 0 ((os.length:Int)-1)=true:=by simp[inB];omega
 have hi2:inB (j:Int) 0 (((os[k]).ys.length:Int)-1)=true:=by simp[inB];omega
 have hw1:IntKind.i64.wrap ((os.length:Int)-1)=(os.length:Int)-1:=IntWalk.i64_in _ (by omega);have hw2:IntKind.i64.wrap (((os[k]).ys.length:Int)-1)=((os[k]).ys.length:Int)-1:=IntWalk.i64_in _ (by omega);have HPK:=h_ (HPL.o k hk j hj);obtain⟨bb,fo,hA,hbb,hc0,hc1⟩:=(HR.o.below HB.o).at hk;obtain⟨b2,o2,hY,hb2,hc⟩:=((HR.o.2 _ (List.getElem_mem hk)).2.below HB.o).row symbolC_len (by decide) hj;have hd0:=hc 0 _ rfl;have hd1:=hc 1 _ rfl;have hd2:=hc 2 _ rfl;have hd3:=hc 3 _ rfl;simp only[Nat.add_zero]at hd0;have HCV:=h_ (λW (hb:Below w1.heap.size w1 W) (hb':Below w.heap.size w W) (hp:PlOk rs k (os[k]).ys[j])=>value_any A os c PA rs pc k j W ((HP.o.below hb).more hb.size) ((HR.o.below hb').more hb'.size) hk hj ⟨HLN.o.1,HLN.o.2 _ (List.getElem_mem hk)⟩ hp);have HSY:=h_ (show symPl (os.map OV.d) (PLink.lay (os.map OV.d) base).2 k j=if(os[k]).ys[j].2.1=0 then tgY (rs.map RV.zs) k (os[k]).ys[j]else tgO (os.map OV.d) (rs.map RV.zs) (findN (os.map OV.d) (os[k]).ys[j].1)from by
  rw[<-HRZ.o];unfold symPl tgG;rw[sym_at2 os hk hj])
 clear hc hc0 HRZ;subst hA;rw[hY]at hc1;clear hY;generalize (os[k]).ys[j]=z at *;generalize (os[k]).ys.length=yn at *;generalize (os[k]).yc=ycc at *;obtain⟨z1,z2,z3,z4⟩:=z;simp only at hd0 hd1 hd2 hd3 HPK HSY;go_wp2_with fail
 refine(l1In_any _ _ _ _).mono ?_;rintro e w' ⟨rfl,rfl⟩;rw[hi1];clear hi1;go_wp2_with fail
 refine(l1In_any _ _ _ _).mono ?_;rintro e w' ⟨rfl,rfl⟩;rw[hi2];clear hi2;have B1:Below w1.heap.size w1 (w1.alloc (.cells #[.string z1,.int .i64 z2,.int .i64 z3,.int .i64 z4] 67)):=b_;have HS:=h_ (Box.new w1 67 #[.string z1,.int .i64 z2,.int .i64 z3,.int .i64 z4]);have HB1:=h_ (Below.refl w1.heap.size w1);by_cases h0:z2=0
 ·have e0:(z2==0)=true:=beq_iff_eq.2 h0;rw[if_pos h0]at HSY;have HV:=h_ (HCV.o _ B1 (HB.o.trans (B1.mono HB.o.size)) (HPK.o.2 (λh=>HPK.o.1 h h0)));replace HB:=c_ HB B1;clear B1;clear h0 HCV HPK;go_wp2_with fail
  refine HV.o.mono ?_;rintro e w3 ⟨rfl,b3⟩;replace HB:=c_ HB b3;clear b3;clear HV;go_wp2_with fail
  go_ret2;exact⟨true,by rw[HSY.o];rfl,HB.o⟩
 ·have e0:(z2==0)=false:=beq_eq_false_iff_ne.2 h0;rw[if_neg h0]at HSY;clear h0 HCV HPK;replace HB:=c_ HB B1;replace HB1:=h_ (HB1.o.trans (B1.mono HB1.o.size));clear B1
  go_upto_region 7 with(fail)
  clear hd0 hd1 hd2 hd3 hc1 hw1 hw2 hny hno hbb hb2;generalize w1.alloc (.cells #[.string z1,.int .i64 z2,.int .i64 z3,.int .i64 z4] 67)=w4 at *;have y0:=d_ HS.o 0;have hsl:=HS.o.lt;go_wp2_with fail
  refine(given_any (some ⟨bb,fo,none⟩) os c z1 w4 ((HR.o.below HB.o).more HB.o.size) HLN.o).mono ?_;rintro e w5 ⟨rfl,b5⟩;clear y0 hsl;replace HB:=c_ HB b5;replace HB1:=h_ (HB1.o.trans (b5.mono HB1.o.size));replace HS:=h_ (HS.o.call b5);clear b5;unfold gvV;obtain⟨hg1,hg2⟩:=given_find HVB.o z1;rw[hg1,hg2];generalize (st11 z1 (enO 0 (os.map OV.d))).2.1=cnt at *;clear hg1 hg2;cases hfn:findN (os.map OV.d) z1 with
  |none=>
   rw[hfn]at HSY;have B6:Below w5.heap.size w5 (w5.alloc (.cells #[.int .i64 0,.int .i64 0] 79)):=b_;replace HB:=c_ HB B6;replace HS:=h_ (HS.o.call B6);clear B6;clear hfn;simp only[Option.getD_none,Option.isSome_none];have y1:=d_ HS.o 1;have hsl:=HS.o.lt
   go_upto_region 9 with(fail)
   go_quiet (fail)
   go_wp2_with fail
   go_ret2;exact⟨z2==2,by rw[HSY.o];rfl,Kit.Below.drewN HB.o nq⟩
  |some g=>
   obtain⟨hgk,hgj,hpo,htg⟩:=found_at HPL.o hfn;rw[hfn,htg]at HSY;obtain⟨g1,g2⟩:=g;simp only at hgk hgj hpo HSY;simp only[Option.getD_some,Option.isSome_some];have B6:Below w5.heap.size w5 (w5.alloc (.cells #[.int .i64 g1,.int .i64 g2] 79)):=b_;have HX:=h_ (Box.new w5 79 #[.int .i64 g1,.int .i64 g2]);replace HB:=c_ HB B6;replace HB1:=h_ (HB1.o.trans (B6.mono HB1.o.size));clear B6;have HV:=h_ (value_any (some ⟨bb,fo,none⟩) os c PA rs pc g1 g2 (w5.alloc (.cells #[.int .i64 g1,.int .i64 g2] 79)) ((HP.o.below HB1.o).more HB1.o.size) ((HR.o.below HB.o).more HB.o.size) hgk hgj ⟨HLN.o.1,HLN.o.2 _ (List.getElem_mem hgk)⟩ hpo);generalize tgY (rs.map RV.zs) g1 (os[g1]).ys[g2]=v at *;have x0:=d_ HX.o 0;have x1:=d_ HX.o 1;have hxl:=HX.o.lt;clear hfn hpo htg;go_wp2_with fail
   refine HV.o.mono ?_;rintro e w7 ⟨rfl,b7⟩;replace HB:=c_ HB b7;clear b7;clear HV;go_wp2_with fail
   go_ret2;exact⟨true,by rw[HSY.o];rfl,HB.o⟩
end CSymPlS
/- FixupValue: what a fixup gets; the reference's. -/
namespace CFixValS
open Kit CCode PValid CSecValid PLink CFixVal
theorem fix_wide{kind:Int}(place target add:Int)(h:wide kind=0):fixVal kind place target add=none:=by
 unfold wide at h;unfold fixVal;split
 ·rw[if_neg (by intro h2;subst h2;exact absurd h (by decide)),if_neg (by intro h2;subst h2;exact absurd h (by decide)),if_neg (by intro h2;subst h2;exact absurd h (by decide))]
 ·rfl
theorem wide_of{kind:Int}(h:¬wide kind=0):kind=1\/kind=2\/kind=3:=by
 unfold wide at h;by_cases h1:kind=1
 ·exact .inl h1
 by_cases h2:kind=2
 ·exact .inr (.inl h2)
 by_cases h3:kind=3
 ·exact .inr (.inr h3)
 rw[if_neg h1,if_neg h2,if_neg h3]at h;exact absurd rfl h
theorem rem_256{n:Int}(_:-128<=n/\n<=127):(n+256)%256=n%256:=by omega
set_option maxHeartbeats 4000000 in
theorem fixupValueS_any(kind place target add:Int)(w:World):Calls Tryz.prog 164 #[.int .i64 kind,.int .i64 place,.int .i64 target,.int .i64 add] w (Ret (fvV (fixVal kind place target add)) w):=by
 go_enter Tryz.func164,Tryz.ntmps164
 go_wp2_with fail
 refine(fixupWideS_any kind w).mono ?_;rintro e w1 ⟨rfl,b1⟩;have HB:=h_ b1;clear b1;by_cases h0:wide kind=0
 ·have HV:=h_ (fix_wide place target add h0);have e0:(wide kind==0)=true:=beq_iff_eq.2 h0;clear h0;go_wp2_with fail
  go_ret2;exact⟨by rw[HV.o];rfl,HB.o⟩
 have e0:(wide kind==0)=false:=beq_eq_false_iff_ne.2 h0;have HK:=h_ (wide_of h0);clear h0;cases hp:inB place 0 100000
 ·have HV:=h_ (fix_out (kind:=kind) (place:=place) (target:=target) (add:=add) (by rw[hp];simp));go_wp2_with fail
  refine(l1In_any _ _ _ _).mono ?_;rintro e w' ⟨rfl,rfl⟩;rw[hp];go_wp2_with fail
  go_ret2;exact⟨by rw[HV.o];rfl,HB.o⟩
 cases ht:inB target 0 100000
 ·have HV:=h_ (fix_out (kind:=kind) (place:=place) (target:=target) (add:=add) (by rw[ht];simp));go_wp2_with fail
  refine(l1In_any _ _ _ _).mono ?_;rintro e w' ⟨rfl,rfl⟩;rw[hp];go_wp2_with fail
  refine(l1In_any _ _ _ _).mono ?_;rintro e w' ⟨rfl,rfl⟩;rw[ht];go_wp2_with fail
  go_ret2;exact⟨by rw[HV.o];rfl,HB.o⟩
 cases ha:inB add (-1000) 1000
 ·have HV:=h_ (fix_out (kind:=kind) (place:=place) (target:=target) (add:=add) (by rw[ha];simp));go_wp2_with fail
  refine(l1In_any _ _ _ _).mono ?_;rintro e w' ⟨rfl,rfl⟩;rw[hp];go_wp2_with fail
  refine(l1In_any _ _ _ _).mono ?_;rintro e w' ⟨rfl,rfl⟩;rw[ht];go_wp2_with fail
  refine(l1In_any _ _ _ _).mono ?_;rintro e w' ⟨rfl,rfl⟩;rw[ha];go_wp2_with fail
  go_ret2;exact⟨by rw[HV.o];rfl,HB.o⟩
 have HH:=h_ (And.intro hp (And.intro ht ha));have hp1:0<=place/\place<=100000:=by simpa[inB]using hp
 have ht1:0<=target/\target<=100000:=by simpa[inB]using ht
 have ha1:-1000<=add/\add<=1000:=by simpa[inB]using ha
 obtain⟨p1,p2⟩:=hp1;obtain⟨t1,t2⟩:=ht1;obtain⟨a1,a2⟩:=ha1;have HV:=h_ (show fixVal kind place target add=(if kind=2 then(if inB (target+add) 0 65535=true then some (target+add)else none)else if kind=3 then(if 0<=target+add then some (target+add)else none)else if kind=1 then(if inB (near place (target+add)) (-128) 127=true then some (near place (target+add)%256)else none)else none)from if_pos HH.o);have hwr:IntKind.i64.wrap (target+add)=target+add:=IntWalk.i64_in _ (by omega);go_wp2_with fail
 refine(l1In_any _ _ _ _).mono ?_;rintro e w' ⟨rfl,rfl⟩;rw[hp];go_wp2_with fail
 refine(l1In_any _ _ _ _).mono ?_;rintro e w' ⟨rfl,rfl⟩;rw[ht];go_wp2_with fail
 refine(l1In_any _ _ _ _).mono ?_;rintro e w' ⟨rfl,rfl⟩;rw[ha];clear hp ht ha HH e0;rcases HK.o with k1|k2|k3
 ·have e1:(kind==1)=true:=beq_iff_eq.2 k1;rw[if_neg (by omega),if_neg (by omega),if_pos k1]at HV;clear HK k1;have hnp:near place (target+add)=target+add-place-1:=by unfold near;omega
  have hw1:IntKind.i64.wrap (target+add-place)=target+add-place:=IntWalk.i64_in _ (by omega);have hw2:IntKind.i64.wrap (target+add-place-1)=near place (target+add):=(IntWalk.i64_in _ (by omega)).trans hnp.symm;clear hnp;generalize hn:near place (target+add)=n at *;clear hn;go_wp2_with fail
  refine(l1In_any _ _ _ _).mono ?_;rintro e w' ⟨rfl,rfl⟩;cases hc:inB n (-128) 127
  ·have HV2:=h_ (HV.o.trans (by rw[hc];rfl:_=none));clear HV hc;go_wp2_with fail
   go_ret2;exact⟨by rw[HV2.o];rfl,HB.o⟩
  ·have HV2:=h_ (HV.o.trans (by rw[hc];rfl:_=some (n%256)));have hn:-128<=n/\n<=127:=by simpa[inB]using hc
   have HR:=h_ (rem_256 hn);obtain⟨n1,n2⟩:=hn;have hw3:IntKind.i64.wrap (n+256)=n+256:=IntWalk.i64_in _ (by omega);clear HV hc;go_wp2_with fail
   go_ret2;refine⟨?_,HB.o⟩;rw[HV2.o];show _=Ending.returned (.tuple #[.int .i64 (n%256),.bool true])
   rw[<-HR.o]
   rfl
 ·have e1:(kind==1)=false:=beq_eq_false_iff_ne.2 (by omega);have e2:(kind==2)=true:=beq_iff_eq.2 k2;rw[if_pos k2]at HV;clear HK k2;have v1:-1000<=target+add:=by omega
  generalize hv:target+add=v at *;by_cases hl:v<0
  ·have HV2:=h_ (HV.o.trans (by rw[if_neg (by simp[inB];omega)]:_=none));clear HV;go_wp2_with fail
   go_ret2;exact⟨by rw[HV2.o];rfl,HB.o⟩
  by_cases hg:v>65535
  ·have HV2:=h_ (HV.o.trans (by rw[if_neg (by simp[inB];omega)]:_=none));clear HV;go_wp2_with fail
   go_ret2;exact⟨by rw[HV2.o];rfl,HB.o⟩
  have HV2:=h_ (HV.o.trans (by rw[if_pos (by simp[inB];omega)]:_=some v));clear HV;go_wp2_with fail
  go_ret2;exact⟨by rw[HV2.o];rfl,HB.o⟩
 ·have e1:(kind==1)=false:=beq_eq_false_iff_ne.2 (by omega);have e2:(kind==2)=false:=beq_eq_false_iff_ne.2 (by omega);rw[if_neg (by omega),if_pos k3]at HV;clear HK k3;generalize hv:target+add=v at *;by_cases hl:v<0
  ·have HV2:=h_ (HV.o.trans (by rw[if_neg (by omega)]:_=none));clear HV;go_wp2_with fail
   go_ret2;exact⟨by rw[HV2.o];rfl,HB.o⟩
  have HV2:=h_ (HV.o.trans (by rw[if_pos (by omega)]:_=some v));clear HV;go_wp2_with fail
  go_ret2;exact⟨by rw[HV2.o];rfl,HB.o⟩
end CFixValS
/- The element type of []byte. -/
namespace CBytes8
open Kit
theorem info8:(Tryz.prog.info? 5).map (λi=>(i.zero,i.size,i.bytes))=some (some (.int .u8 0),1,1):=by kernel_rfl
end CBytes8
/- Contracts of the library's functions on []byte: slices.Grow at a nil slice,slices.Concat of two,slices.Clone. -/
namespace CConcat
open Kit CBytes8
end CConcat
/- Contracts of the laws' helpers on Image: the copy,the comparison of equal data,the size,the marks; of copyImage,l1OwnImage and ImageValid. -/
namespace CImage
open Kit CCode
end CImage
/- Patches in plain: what they are,when they are valid,and what they make of bytes. -/
namespace PPatch
open Kit
structure PV where
 at_:Int
 A:Option Addr
 c:Nat
 zs:List Int
abbrev PD:=Int×List Int
def PV.d (p:PV):PD:=(p.at_,p.zs)
def splice(l:List Int)(i:Nat)(zs:List Int):List Int:=l.take i++zs++l.drop (i+zs.length)
theorem splice_zero(l zs:List Int)(i:Nat):splice l i (zs.take 0)=l:=by simp[splice]
theorem splice_next{l zs:List Int}{i j:Nat}(hj:j<zs.length)(h:i+zs.length<=l.length):(splice l i (zs.take j)).set (i+j) zs[j]=splice l i (zs.take (j+1)):=by
 unfold splice;have h1:(zs.take j).length=j:=by rw[List.length_take];omega
 have h2:(zs.take (j+1)).length=j+1:=by rw[List.length_take];omega
 have h3:(l.take i).length=i:=by rw[List.length_take];omega
 rw[List.set_append_right _ _ (by simp only[List.length_append,h1,h3];omega),h1,h2];simp only[List.length_append,h1,h3,Nat.sub_self];rw[List.drop_eq_getElem_cons (show i+j<l.length by omega),List.set_cons_zero,List.take_succ_eq_append_getElem hj];simp only[List.append_assoc,List.cons_append,List.nil_append,Nat.add_assoc]
end PPatch
/- ApplyFixup: bytes with a fixup filled in; the reference's. -/
namespace CApFixS
open Kit CCode CNumber CFixups CSymbols PObj BObj PValid CSecValid BStore CMarkRows CClones CCopyS PLink CFixVal BCopy CFixValS CApFix
set_option maxHeartbeats 4000000 in
theorem applyFixupS_any(A:Option Addr)(b:List Int)(c:Nat)(place:Int)(f:FD)(t:Int)(w:World)(hr:Rd w w.heap.size A (ints .u8 b))(hm:b.length<=1000)(hnil:A=none->c=0):
  Calls Tryz.prog 119 #[.slice A b.length c,.int .i64 place,.agg #[.int .i64 f.1,.int .i64 f.2.1,.int .i64 f.2.2.1,.int .i64 f.2.2.2],.int .i64 t] w (RetF (apF b place f t) w):=by
 obtain⟨f1,f2,f3,f4⟩:=f;simp only;obtain⟨i0,hi,hz0,hz1,hz2⟩:=info_parts CBytes8.info8;have HR:=h_ hr;have HNIL:=h_ hnil;clear hr hnil;have hwd:=wide_bd f2;obtain⟨wd1,wd2⟩:=hwd;have hn1:0+b.length<=maxLen:=by unfold maxLen;omega
 have hn2:(0+b.length)*1<=140737488355328:=by omega
 have HN:=h_ (And.intro hn1 hn2);clear hn1 hn2;have HB:=h_ (show Below w.heap.size w (w.alloc (.cells #[.int .i64 f1,.int .i64 f2,.int .i64 f3,.int .i64 f4] 65))from b_);have HX:=h_ (Box.new w 65 #[.int .i64 f1,.int .i64 f2,.int .i64 f3,.int .i64 f4]);go_enter Tryz.func119,Tryz.ntmps119
 go_upto_region 1 with(fail)
 generalize w.alloc (.cells #[.int .i64 f1,.int .i64 f2,.int .i64 f3,.int .i64 f4] 65)=w0 at *;replace HR:=h_ ((HR.o.below HB.o).more HB.o.size);go_wp2_with (at_builtin;refine wpList_app (w0.alloc (.cells #[] 5)) rfl (.tmp 16) (.tmp 17) 22 rfl 5 i0 (.int .u8 0) 1 1 Tryz.underlying22 hi hz0 hz1 hz2 rfl (by decide) w.heap.size _ 0 0 [] rfl (Row.empty _ _ _ _ _) ?hb A b.length c (ints .u8 b) rfl (HR.o.below (below_al (Below.refl _ _))) (by simp) HNIL.o oneI HN.o.1 HN.o.2 ?_)
 case hb=>exact Nat.le_trans HB.o.size (by simp)
 intro A2 n2 c2 w1 hn o1 g1 k1;have b1:Below w0.heap.size w0 w1:=below_tr (below_al (Below.refl _ _)) g1;have hn':n2=b.length:=by omega
 clear hn;subst hn';have HO:=h_ (show Row w1 w.heap.size 5 1 A2 b.length c2 (ints .u8 b)by simpa using o1);replace HB:=c_ HB b1;replace HX:=h_ (HX.o.call b1);clear b1;clear o1 g1 k1 hi hz0 hz1 hz2;have x1:=d_ HX.o 1;have hxl:=HX.o.lt;go_wp2_with fail
 refine(fixupWideS_any f2 w1).mono ?_;rintro e w2 ⟨rfl,b2⟩;replace HB:=c_ HB b2;replace HX:=h_ (HX.o.call b2);replace HO:=h_ (HO.o.call b2);clear b2;clear x1 hxl;generalize hwn:wide f2=wd at *;have HW:=h_ hwn;clear hwn;by_cases hw0:wd=0
 ·have HV:=h_ (ap_out (b:=b) (place:=place) (f:=(f1,f2,f3,f4)) (t:=t) (by simp only;rw[HW.o,hw0];simp));have e0:(wd==0)=true:=beq_iff_eq.2 hw0;clear hw0;go_wp2_with fail
  go_ret2;exact⟨A2,c2,b.length,by rw[HV.o];rfl,HB.o,λb' hb'=>by rw[HV.o]at hb';cases hb'⟩
 have e0:(wd==0)=false:=beq_eq_false_iff_ne.2 hw0;have hws:IntKind.i64.wrap ((b.length:Int)-wd)=(b.length:Int)-wd:=IntWalk.i64_in _ (by omega);have x0:=d_ HX.o 0;have x1:=d_ HX.o 1;have x3:=d_ HX.o 3;have hxl:=HX.o.lt;cases hf:inB f1 0 ((b.length:Int)-wd)
 ·have HV:=h_ (ap_out (b:=b) (place:=place) (f:=(f1,f2,f3,f4)) (t:=t) (by simp only;rw[HW.o,hf];simp));go_wp2_with fail
  refine(l1In_any _ _ _ _).mono ?_;rintro e w' ⟨rfl,rfl⟩;rw[hf];clear hf;go_wp2_with fail
  go_ret2;exact⟨A2,c2,b.length,by rw[HV.o];rfl,HB.o,λb' hb'=>by rw[HV.o]at hb';cases hb'⟩
 cases hp:inB place 0 100000
 ·have HV:=h_ (ap_out (b:=b) (place:=place) (f:=(f1,f2,f3,f4)) (t:=t) (by rw[hp];simp));go_wp2_with fail
  refine(l1In_any _ _ _ _).mono ?_;rintro e w' ⟨rfl,rfl⟩;rw[hf];clear hf;go_wp2_with fail
  refine(l1In_any _ _ _ _).mono ?_;rintro e w' ⟨rfl,rfl⟩;rw[hp];clear hp;go_wp2_with fail
  go_ret2;exact⟨A2,c2,b.length,by rw[HV.o];rfl,HB.o,λb' hb'=>by rw[HV.o]at hb';cases hb'⟩
 have HV:=h_ (show apF b place (f1,f2,f3,f4) t=(fixVal f2 (place+f1) t f4).map λv=>sp b f1.toNat (putL (wide f2).toNat v)from if_pos (by simp only;rw[HW.o];exact⟨hp,hw0,hf⟩));have hf1:0<=f1/\f1<=(b.length:Int)-wd:=by simpa[inB]using hf
 have hp1:0<=place/\place<=100000:=by simpa[inB]using hp
 obtain⟨g1,g2⟩:=hf1;obtain⟨g3,g4⟩:=hp1;have hwp:IntKind.i64.wrap (place+f1)=place+f1:=IntWalk.i64_in _ (by omega);go_wp2_with fail
 refine(l1In_any _ _ _ _).mono ?_;rintro e w' ⟨rfl,rfl⟩;rw[hf];clear hf;go_wp2_with fail
 refine(l1In_any _ _ _ _).mono ?_;rintro e w' ⟨rfl,rfl⟩;rw[hp];clear hp;go_wp2_with fail
 refine(fixupValueS_any _ _ _ _ _).mono ?_;rintro e w3 ⟨rfl,b3⟩;replace HB:=c_ HB b3;replace HX:=h_ (HX.o.call b3);replace HO:=h_ (HO.o.call b3);clear b3;clear x0 x1 x3 hxl;generalize hv:fixVal f2 (place+f1) t f4=r at *;have HFV:=h_ hv;clear hv;cases r with
 |none=>
  simp only[fvV,Option.isSome,Option.getD];go_wp2_with fail
  go_ret2;exact⟨A2,c2,b.length,by rw[HV.o];rfl,HB.o,λb' hb'=>by rw[HV.o]at hb';cases hb'⟩
 |some v=>
  simp only[fvV,Option.isSome,Option.getD];obtain⟨a,rfl⟩:∃a:Nat,f1=(a:Int):=⟨f1.toNat,by omega⟩;obtain⟨n,rfl⟩:∃n:Nat,wd=(n:Int):=⟨wd.toNat,by omega⟩;have hal:a+n<=b.length:=by omega
  have hn0:0<n:=by omega
  have HPU:=h_ (show pnum v n=putL n v from by
   have h:=pnum_put HFV.o;rw[HW.o]at h;rw[h]
   rfl)
  have HV2:=h_ (show apF b place ((a:Int),f2,f3,f4) t=some (sp b a (putL n v))from by
   rw[HV.o,HW.o]
   rfl)
  have hplen:(putL n v).length=n:=putL_len n v;clear HV HFV hws hwp;obtain⟨g,rfl,hgb,hgl,hgk,hown⟩:=own_of HO.o (by omega);have HGL:=h_ hgl;have HOW:=h_ hown;clear hown HO hgl hgk;go_wp2_with fail
  refine(putNumberS_any v n w3).mono ?_;rintro e w5 ⟨A5,c5,rfl,o5,b5⟩;rw[HPU.o,hplen]at o5 ⊢;have HS:=h_ (show Row w5 w3.heap.size 5 1 A5 n c5 (ints .u8 (putL n v))from .inr o5);replace HOW:=h_ (own_call b5 HOW.o);replace HB:=c_ HB b5;replace HX:=h_ (HX.o.call b5);clear b5;generalize w3.heap.size=N5 at *;have HPL:=h_ hplen;clear o5 hplen HPU;have HZ0:=h_ (show sp b a ((putL n v).take 0)=b from PPatch.splice_zero b _ a);generalize putL n v=zs at *;go_wp2_with fail
  go_loopw [15] (λi wi=>∃(k:Nat),k<=n/\i=.int .i64 k/\wi.ownsRow w.heap.size 5 1 (.slice (some ⟨g,0,none⟩) b.length c2) b.length (ints .u8 (sp b a (zs.take k)))/\Row wi N5 5 1 A5 n c5 (ints .u8 zs)/\Box wi w.heap.size 65 #[.int .i64 (a:Int),.int .i64 f2,.int .i64 f3,.int .i64 f4]/\Below w.heap.size w wi) (λi _=>n-(intOf i).toNat)
  case atStart=>exact⟨0,Nat.zero_le _,rfl,by rw[HZ0.o];exact HOW.o,HS.o,HX.o,HB.o⟩
  case round=>
   clear HOW HS HX HB HZ0;obtain⟨k,hk,rfl,hown,hsrc,hx,hb⟩:=hrel;have HOW:=h_ hown;have HS:=h_ hsrc;have HX:=h_ hx;have HB:=h_ hb;clear hb;by_cases hkl:k<n
   ·have hkz:k<zs.length:=by rw[HPL.o];exact hkl
    obtain⟨bz,offz,hA5,hbz,hcz⟩:=(HS.o.rd).int hkz;have HNX:=h_ (show(sp b a (zs.take k)).set (a+k) zs[k]=sp b a (zs.take (k+1))from PPatch.splice_next hkz (by rw[HPL.o];exact hal));have HST:=h_ (show(wr.setCell ⟨g,a+k,none⟩ (.int .u8 zs[k])).ownsRow w.heap.size 5 1 (.slice (some ⟨g,0,none⟩) b.length c2) b.length (ints .u8 (sp b a (zs.take (k+1))))from by
     rw[<-HNX.o,<-setInts];exact(hown.stored (a+k) _).1)
    have HSB:=h_ (show Row (wr.setCell ⟨g,a+k,none⟩ (.int .u8 zs[k])) N5 5 1 A5 n c5 (ints .u8 zs)from HS.o.set (a:=⟨g,a+k,none⟩) (λq hq e=>by
     have h1:=(HS.o.lt q hq).1;have h2:=HGL.o;have h3:q=g:=e;omega) _)
    have HXB:=h_ (show Box (wr.setCell ⟨g,a+k,none⟩ (.int .u8 zs[k])) w.heap.size 65 #[.int .i64 (a:Int),.int .i64 f2,.int .i64 f3,.int .i64 f4]from hx.far (p:=⟨g,a+k,none⟩) (λe=>by
     have e:w.heap.size=g:=e;obtain⟨cs,hbx⟩:∃cs,Box wr g 5 cs:=box_of_own hown;rw[<-e]at hbx;have:=hbx.symm.trans hx;simp at this) _)
    have HBB:=h_ (HB.o.setCell (p:=⟨g,a+k,none⟩) hgb (.int .u8 zs[k]));obtain⟨⟨old,hk0⟩,hfz0⟩:=own_old hown (j:=a+k) (by omega);have x0:=hx.cell 0;simp only[List.getElem?_toArray,List.getElem?_cons_zero]at x0;obtain⟨m,hm'⟩:∃m:Nat,m=a+k:=⟨_,rfl⟩;have w68:IntKind.i64.wrap ((a:Int)+(k:Int))=(m:Int):=by rw[IntKind.wrap_i64];omega
    have hmn:m<b.length:=by omega
    rw[<-hm']at hk0 hfz0 HST HSB HXB HBB;clear hm' hown hsrc hx HNX;generalize zs[k]=z at *;subst hA5;go_wp2_with fail
    refine Reg.startT (λW=>W.cell? ⟨w.heap.size,0,none⟩=some (.int .i64 (a:Int))/\W.cell? ⟨bz,offz+k,none⟩=some (.int .u8 z)) (λj=>j==10) (by kernel_rfl) ?_;have hHeld:=And.intro x0 hcz;refine t_ 0 rfl ?_;refine t_ 1 rfl ?_;refine t_ 2 rfl ?_;refine t_ 3 rfl ?_;refine t_ 4 rfl ?_;refine t_ 5 rfl ?_;refine t_ 6 rfl ?_;refine t_ 7 rfl ?_;refine t_ 8 rfl ?_;refine t_ 9 rfl ?_;refine Reg.lastT (i:=10) rfl (by kernel_rfl) (by rfl) (λK hK=>?_);go_simp
    refine hK.out _ _ ?_;clear hK K hHeld;try simp only[y1_,y2_,y3_,Act.put,y4_,y5_,y6_]
    refine Reg.doneT (by kernel_rfl) ?_ _;clear hcz x0 hk0 hfz0 w68;go_wp2_with fail
    go_roundw
    case rel=>exact⟨k+1,by omega,by go_num,own_call (below_dr (Below.refl _ _)) HST.o,HSB.o.call (below_dr (Below.refl _ _)),HXB.o.call (below_dr (Below.refl _ _)),below_dr HBB.o⟩
    case measure=>simp[intOf];omega
   ·have hke:k=n:=by omega
    have HF:=h_ (show wr.ownsRow w.heap.size 5 1 (.slice (some ⟨g,0,none⟩) b.length c2) b.length (ints .u8 (sp b a zs))from by
     have h:=HOW.o;rw[hke,List.take_of_length_le (by rw[HPL.o];exact Nat.le_refl _)]at h;exact h)
    clear hown hsrc hx hke;go_wp2_with fail
    go_ret2;refine⟨some ⟨g,0,none⟩,c2,b.length,by rw[HV2.o];rfl,HB.o,λb' hb'=>?_⟩;rw[HV2.o]at hb';injection hb' with hb';subst hb';have hsl:(sp b a zs).length=b.length:=sp_len (by rw[HPL.o];exact hal);exact⟨hsl.symm,.inr HF.o⟩
end CApFixS
/- Link; the reference's. -/
namespace CLinkS
open Kit CCode CName CFixups CSymbols PObj BObj PValid CGlobalOf CObjValid BStore BList PLink PLinkL CFind CPlaceL CPlaceS C13 P11 C11 CAllPl CNPlS CNTwS PTwice CSorted COwnL CLink CSymPlS CApFixS CApFix
structure LS(w0 w1:World)(I g N:Nat)(base:Int)(im:List Int)(w:World):Prop where
 row:w.ownsRow w1.heap.size 5 1 (.slice (some ⟨g,0,none⟩) N N) N (ints .u8 im)
 len:im.length=N
 bi:Box w I 36 #[.int .i64 base,.slice (some ⟨g,0,none⟩) N N]
 br:Box w w0.heap.size 36 #[.int .i64 0,.slice none 0 0]
 b:Below w0.heap.size w0 w
 b1:Below w1.heap.size w1 w
theorem LS.call {w0 w1 w w':World}{I g N:Nat}{base:Int}{im:List Int}(h:LS w0 w1 I g N base im w)(hb:Below w.heap.size w w'):LS w0 w1 I g N base im w':=
 ⟨own_call hb h.row,h.len,h.bi.call hb,h.br.call hb,h.b.trans (hb.mono h.b.size),h.b1.trans (hb.mono h.b1.size)⟩
theorem LS.store {w0 w1 w:World}{I g N:Nat}{base:Int}{im:List Int}(h:LS w0 w1 I g N base im w)(hg:w1.heap.size<=g)(hg0:w0.heap.size<=g)(i:Nat)(z:Int):LS w0 w1 I g N base (im.set i z) (w.setCell ⟨g,i,none⟩ (.int .u8 z)):=by
 obtain⟨cs,hbx⟩:=box_of_own h.row;have far:∀{X:Nat} {ds:Array Value},Box w X 36 ds->Box (w.setCell ⟨g,i,none⟩ (.int .u8 z)) X 36 ds:=λ{X ds} hb=>hb.far (p:=⟨g,i,none⟩) (λe=>by
  have e:X=g:=e;subst e;have:=hbx.symm.trans hb;simp at this) _
 refine⟨?_,by rw[List.length_set];exact h.len,far h.bi,far h.br,h.b.setCell (p:=⟨g,i,none⟩) hg0 _,h.b1.setCell (p:=⟨g,i,none⟩) hg _⟩;rw[<-setInts];exact(h.row.stored i _).1
theorem linkR_no{l:List OD}{base:Int}(h:(objsOk l&&baseOk base)=false):linkR l base=(0,[],-1):=if_pos h
set_option maxHeartbeats 8000000 in
theorem linkS_any(A:Option Addr)(os:List OV)(c:Nat)(base:Int)(w:World)(hr:RdOs w w.heap.size A os)(hf:Lst os):
  Calls Tryz.prog 65 #[.slice A os.length c,.int .i64 base] w (RetL (linkR (os.map OV.d) base) w):=by
 obtain⟨i0,hi1,hi2,hi3,hi4⟩:=info_parts CNumber.info8;have HI:=h_ (And.intro hi1 (And.intro hi2 (And.intro hi3 hi4)));clear hi1 hi2 hi3 hi4;have HR:=h_ hr;have HF:=h_ hf;clear hr hf;have HB:=h_ (show Below w.heap.size w (w.alloc (.cells #[.int .i64 0,.slice none 0 0] 36))from b_);have HRR:=h_ (Box.new w 36 #[.int .i64 0,.slice none 0 0]);go_enter Tryz.func65,Tryz.ntmps65
 go_wp2_with fail
 generalize w.alloc (.cells #[.int .i64 0,.slice none 0 0] 36)=w0 at *;refine(ownObjects_any A os c w0 ((HR.o.below HB.o).more HB.o.size) HF.o.n HF.o.c).mono ?_;rintro e w1 ⟨Aq,cq,qs,rfl,hqd,ho,b1⟩;have HO:=h_ ho;have HQD:=h_ hqd;replace HB:=c_ HB b1;replace HRR:=h_ (HRR.o.call b1);clear b1;have HFQ:=h_ (lst_copy hqd HF.o ho);have HLN:=h_ (show Lens qs from⟨HFQ.o.n,λo h=>(HFQ.o.f o h).ny⟩);have hqn:=HFQ.o.n;clear hqd ho;have HR2:=h_ (And.intro HO.o.rd (Below.refl w1.heap.size w1));have HOB:=h_ (show ∀W,Below w1.heap.size w1 W->RdOs W W.heap.size Aq qs from λW hb=>(HO.o.rd.below hb).more hb.size);have HB1:=h_ (Below.refl w1.heap.size w1);clear HR2;go_wp2_with fail
 refine(placeSections_any Aq qs cq base w1 HO.o.rd HFQ.o).mono ?_;rintro e w2 ⟨PA,pc,rs,xx,rfl,hyes,hP,b2⟩;have HYES:=h_ hyes;have HP:=h_ hP;clear hyes hP;replace HB:=c_ HB b2;replace HB1:=h_ (HB1.o.trans (b2.mono HB1.o.size));replace HRR:=h_ (HRR.o.call b2);clear b2;cases hok:(objsOk (qs.map OV.d)&&baseOk base)
 ·have HV:=h_ (linkR_no hok);clear hok;have y0:=d_ HRR.o 0;have y1:=d_ HRR.o 1;have yf0:=HRR.o.frozen 0;have yf1:=HRR.o.frozen 1;have hrl:=HRR.o.lt;have kk:=(HRR.o.set 0 (.int .i64 0)).set 1 (.slice none 0 0);have k0:=kk.cell 0;have k1:=kk.cell 1;simp only[k_]at k0 k1;clear kk;have HFB:=h_ (two_below (Y:=w.heap.size) HB.o (Nat.le_refl _) (.int .i64 0) (.slice none 0 0));go_wp2_with fail
  (try simp only[Exit.inBlock,Exit.then])
  exact bodyPost_ret (v:=.tuple #[.agg #[.int .i64 0,.slice none 0 0],.int .i64 (-1)]) (by simp[results,Tryz.results65,go_sem,k0,k1]) rfl (by rw[<-HQD.o,HV.o];exact ret_bad _ HFB.o)
 have hok':=hok;rw[Bool.and_eq_true]at hok';obtain⟨ho,hbs⟩:=hok';have hod:∀d∈qs.map OV.d,objOk d=true:=by have h:=ho;simp only[objsOk,Bool.and_eq_true,decide_eq_true_eq,List.all_eq_true]at h;exact h.2
 have HLR:=h_ (show linkR (qs.map OV.d) base=if 0<(twice (qs.map OV.d)).length then(0,[],1)else if 0<(miss (qs.map OV.d)).length then(0,[],2)else imgR base (image (qs.map OV.d) base)from by
  unfold linkR;rw[if_neg (by rw[hok];decide)])
 have HTW:=h_ (twice_same hod);have HMI:=h_ (miss_same (qs.map OV.d));have HOK:=h_ hok;have HOS:=h_ ho;clear hok ho hbs hod;go_wp2_with fail
 refine(namesTwiceS_any Aq qs cq w2 (HOB.o _ HB1.o) HFQ.o.fits HOS.o).mono ?_;rintro e w3 ⟨A3,c3,rfl,_,b3⟩;have HP3:=h_ ((HP.o.below b3).more b3.size);replace HB:=c_ HB b3;replace HB1:=h_ (HB1.o.trans (b3.mono HB1.o.size));replace HRR:=h_ (HRR.o.call b3);clear b3;generalize (twiceS (qs.map OV.d)).length=tn at *;by_cases ht:0<tn
 ·have HV:=h_ (show linkR (qs.map OV.d) base=(0,[],1)from by
   rw[HLR.o,if_pos];have h:=HTW.o;omega)
  have y0:=d_ HRR.o 0;have y1:=d_ HRR.o 1;have yf0:=HRR.o.frozen 0;have yf1:=HRR.o.frozen 1;have hrl:=HRR.o.lt;have kk:=(HRR.o.set 0 (.int .i64 0)).set 1 (.slice none 0 0);have k0:=kk.cell 0;have k1:=kk.cell 1;simp only[k_]at k0 k1;clear kk;have HFB:=h_ (two_below (Y:=w.heap.size) HB.o (Nat.le_refl _) (.int .i64 0) (.slice none 0 0));go_wp2_with fail
  (try simp only[Exit.inBlock,Exit.then])
  exact bodyPost_ret (v:=.tuple #[.agg #[.int .i64 0,.slice none 0 0],.int .i64 1]) (by simp[results,Tryz.results65,go_sem,k0,k1]) rfl (by rw[<-HQD.o,HV.o];exact ret_bad _ HFB.o)
 have HLR2:=h_ (show linkR (qs.map OV.d) base=if 0<(miss (qs.map OV.d)).length then(0,[],2)else imgR base (image (qs.map OV.d) base)from by
  rw[HLR.o,if_neg];have h:=HTW.o;omega)
 clear HLR HTW;go_wp2_with fail
 clear ht;refine(namesMissingS_any Aq qs cq w3 (HOB.o _ HB1.o) HFQ.o.fits HOS.o).mono ?_;rintro e w4 ⟨A4,c4,rfl,_,b4⟩;have HP4:=h_ ((HP3.o.below b4).more b4.size);replace HB:=c_ HB b4;replace HB1:=h_ (HB1.o.trans (b4.mono HB1.o.size));replace HRR:=h_ (HRR.o.call b4);clear b4;clear HP HP3;generalize (missSS (qs.map OV.d)).length=mn at *;by_cases ht:0<mn
 ·have HV:=h_ (show linkR (qs.map OV.d) base=(0,[],2)from by
   rw[HLR2.o,if_pos];have h:=HMI.o;omega)
  have y0:=d_ HRR.o 0;have y1:=d_ HRR.o 1;have yf0:=HRR.o.frozen 0;have yf1:=HRR.o.frozen 1;have hrl:=HRR.o.lt;have kk:=(HRR.o.set 0 (.int .i64 0)).set 1 (.slice none 0 0);have k0:=kk.cell 0;have k1:=kk.cell 1;simp only[k_]at k0 k1;clear kk;have HFB:=h_ (two_below (Y:=w.heap.size) HB.o (Nat.le_refl _) (.int .i64 0) (.slice none 0 0));go_wp2_with fail
  (try simp only[Exit.inBlock,Exit.then])
  exact bodyPost_ret (v:=.tuple #[.agg #[.int .i64 0,.slice none 0 0],.int .i64 2]) (by simp[results,Tryz.results65,go_sem,k0,k1]) rfl (by rw[<-HQD.o,HV.o];exact ret_bad _ HFB.o)
 have HLI:=h_ (show linkR (qs.map OV.d) base=imgR base (image (qs.map OV.d) base)from by
  rw[HLR2.o,if_neg];have h:=HMI.o;omega)
 clear HLR2 HMI;obtain⟨hrz,hx⟩:=HYES.o HOK.o;have hok':=HOK.o;rw[Bool.and_eq_true]at hok';obtain⟨ho,hbs⟩:=hok';have hb0:0<=base/\base<=4096:=by simp only[baseOk,Bool.and_eq_true,decide_eq_true_eq]at hbs;exact hbs.1
 obtain⟨hb1,hb2⟩:=hb0;obtain⟨g1,g2,g3,g4⟩:=PLayB.lay_sz ho hb1 hb2;have HRZ:=h_ hrz;have HLB:=h_ (And.intro g3 g4);obtain⟨N,hN⟩:∃N:Nat,(PLink.lay (qs.map OV.d) base).1=base+N:=⟨((PLink.lay (qs.map OV.d) base).1-base).toNat,by omega⟩;have HNN:=h_ hN;have hN2:N<=10000:=by omega
 rw[hN]at hx;clear ho hbs g1 g2 g3 g4 hN hrz HYES;subst hx;have hwN:IntKind.i64.wrap (base+(N:Int)-base)=(N:Int):=by rw[IntKind.wrap_i64];omega
 have HT0:=h_ (show image (qs.map OV.d) base=imO (qs.map OV.d) (rs.map RV.zs) base 0 ((qs.map OV.d).drop 0) (some (List.replicate N 0))from by
  unfold image;rw[HNN.o,HRZ.o,show(base+(N:Int)-base).toNat=N by omega]
  rfl)
 have HLP:=h_ (show ∀k i,(hk:k<qs.length)->(hi:i<(qs[k]).ps.length)->∃h:k<rs.length,∃h2:i<(rs[k]).zs.length,base<=(rs[k]).zs[i]/\(rs[k]).zs[i]+(((qs[k]).ps[i]).zs.length:Int)<=base+N from λk i hk hi=>by
  have hkl:k<(qs.map OV.d).length:=by simpa using hk
  have hil:i<((qs.map OV.d)[k]).ss.length:=by simpa[OV.d]using hi
  obtain⟨hpl1,hpl2⟩:=HLB.o.2 k hkl i hil;have h3:=HLB.o.1;rw[<-HRZ.o]at h3 hpl1 hpl2;obtain⟨p1,p2⟩:=h3 _ _ _ (PLayB.sec_at hkl hil);simp only[List.length_map,List.getElem_map]at p1 p2;rw[getP_at p1 p2]at hpl1 hpl2;rw[HNN.o]at hpl2;have hso:=HOS.o;simp only[objsOk,Bool.and_eq_true,decide_eq_true_eq,List.all_eq_true]at hso;obtain⟨_,_,h5,_⟩:=(obj_iff _).1 (hso.2 _ (List.getElem_mem hkl));have h6:=PLayB.sec_zs (h5 _ (List.getElem_mem hil));have h7:(((qs.map OV.d)[k]).ss[i]).zs=((qs[k]).ps[i]).zs:=by simp[OV.d,SV.d]
  rw[h7]at h6;exact⟨p1,p2,hpl1,by omega⟩)
 have HAL:=h_ (show ∀o∈qs,o.ps.length<=8/\∀p∈o.ps,p.fs.length<=6/\p.zs.length<=48/\∀f∈p.fs,0<=f.2.2.1/\f.2.2.1<o.ys.length from λo h=>by
  have hso:=HOS.o;simp only[objsOk,Bool.and_eq_true,decide_eq_true_eq,List.all_eq_true,List.length_map]at hso;obtain⟨a1,_,a3⟩:=PClear.obj_all (hso.2 _ (List.mem_map_of_mem h));refine⟨by simpa[OV.d]using a1,λp hp=>?_⟩;obtain⟨c1,c2,c3⟩:=a3 p.d (List.mem_map_of_mem hp);exact⟨c1,c2,λf hf=>(c3 f hf).2⟩)
 have HNI:=h_ (show ∀o∈qs,∀p∈o.ps,p.A=none->p.c=0 from λo ho p hp=>((HFQ.o.c o ho).2.2.2 p hp).1.1);have HWW:=h_ HB.o.size;have HOB4:=h_ (show RdOs w4 w4.heap.size Aq qs from HOB.o _ HB1.o);clear HOB HB1 HO;go_wp2_with (at_make;refine wpList_make_full _ rfl _ _ _ rfl w4.heap.size 5 i0 (.int .u8 0) 1 Tryz.underlying22 HI.o.1 HI.o.2.1 HI.o.2.2.1 .i64 .i64 _ _ N rfl rfl rfl rfl ?c1 ?c2 ?c3 ?_)
 case c1=>rw[HI.o.2.2.2];omega
 case c2=>unfold maxLen;omega
 case c3=>exact Nat.le_refl _
 intro w6 hown hg;rw[zero_cells']at hown;have b6:Below w4.heap.size w4 w6:=below_grown (Below.refl _ _) hg (Nat.le_refl _) (λk hk=>by cases hk);have HOW:=h_ hown;have HB4:=h_ b6;replace HB:=c_ HB b6;replace HRR:=h_ (HRR.o.call b6);clear b6;clear hown hg
 go_upto_region 10 with(fail)
 have b7:Below w6.heap.size w6 (w6.alloc (.cells #[.int .i64 base,.slice (some ⟨w4.heap.size,0,none⟩) N N] 36)):=b_;have HK:=h_ (show LS w w4 w6.heap.size w4.heap.size N base (List.replicate N 0) (w6.alloc (.cells #[.int .i64 base,.slice (some ⟨w4.heap.size,0,none⟩) N N] 36))from⟨own_call b7 HOW.o,by simp,Box.new _ _ _,HRR.o.call b7,HB.o.trans (b7.mono HB.o.size),HB4.o.trans (b7.mono HB4.o.size)⟩);clear HOW HRR HB HB4 b7;generalize w6.alloc (.cells #[.int .i64 base,.slice (some ⟨w4.heap.size,0,none⟩) N N] 36)=w7 at *;generalize w6.heap.size=I at *;generalize hTT:image (qs.map OV.d) base=T at *;generalize hLL:qs.map OV.d=l at *;have HLL:=h_ hLL;clear hLL hTT;go_wp2_with fail
 go_loopw [10] (λi wi=>∃(k:Nat) (im:List Int),k<=qs.length/\i=.int .i64 k/\T=imO l (rs.map RV.zs) base k (l.drop k) (some im)/\LS w w4 I w4.heap.size N base im wi) (λi _=>qs.length-(intOf i).toNat)
 case atStart=>exact⟨0,_,Nat.zero_le _,rfl,HT0.o,HK.o⟩
 case round=>
  clear HK HT0;obtain⟨k,im,hk,rfl,ht,hlk⟩:=hrel;have HK:=h_ hlk;by_cases hlt:k<qs.length
  ·obtain⟨bb,off,hA,hbb,hc0,hc1⟩:=HOB4.o.at hlt;have hll:k<l.length:=by rw[<-HLL.o,List.length_map];exact hlt
   obtain⟨Gf,hGf⟩:∃Gf:Option (List Int)->Option (List Int),Gf=λx=>imO l (rs.map RV.zs) base (k+1) (l.drop (k+1)) x:=⟨_,rfl⟩;have HGN:=h_ (show Gf none=none from by rw[hGf];exact imO_none _ _ _ _ _);have HT:=h_ (show T=Gf (imS l (rs.map RV.zs) base k 0 ((qs[k]).ps.map SV.d) (some im))from by
    rw[ht,imO_drop hll,hGf];have:=HLL.o;subst this;simp[OV.d])
   have HGF:=h_ hGf;have HAO:=h_ (HAL.o _ (List.getElem_mem hlt));have hps8:(qs[k]).ps.length<=8:=HAO.o.1;have HIO:=h_ (λi (hi:i<(qs[k]).ps.length)=>HLP.o k i hlt hi);have HSY:=h_ (show ∀(W:World) (hb:Below w4.heap.size w4 W) (j:Nat) (hj:j<(qs[k]).ys.length),Calls Tryz.prog 118 #[.slice Aq qs.length cq,.int .i64 base,.int .i64 k,.int .i64 j] W (CSymPl.RetP (symPl l (rs.map RV.zs) k j) W)from λW hb j hj=>by
    rw[HRZ.o,<-HLL.o];exact symbolPlaceS_any Aq qs cq base k j W ((HOB4.o.below hb).more hb.size) HFQ.o (by rw[HLL.o];exact HOK.o) hlt hj)
   have HRO:=h_ (HOB4.o.2 _ (List.getElem_mem hlt)).1;have HNO:=h_ (HNI.o _ (List.getElem_mem hlt));have HQ0:=h_ (λ(W:World) (hb:Below w4.heap.size w4 W)=>(hb.cell (p:=⟨bb,off+k*2,none⟩) hbb).trans hc0);clear hlk ht hGf hc0 hc1;subst hA;generalize qs[k]=o at *;go_wp2_with fail
   go_loopw [11] (λi wi=>∃(m:Nat) (im:List Int),m<=o.ps.length/\i=.int .i64 m/\T=Gf (imS l (rs.map RV.zs) base k m ((o.ps.map SV.d).drop m) (some im))/\LS w w4 I w4.heap.size N base im wi) (λi _=>o.ps.length-(intOf i).toNat)
   case atStart=>exact⟨0,im,Nat.zero_le _,rfl,HT.o,HK.o⟩
   case round=>
    clear HK HT;obtain⟨m,im,hm,rfl,ht,hlk⟩:=hrel;have HK:=h_ hlk;have q0:=HQ0.o wr HK.o.b1;by_cases hlm:m<o.ps.length
    ·obtain⟨b2,off2,hPA,hb2,hc⟩:=(HRO.o.1.below hlk.b1).row secC_len (by decide) hlm;have hc0:=hc 0 _ rfl;have hc1:=hc 1 _ rfl;have hc2:=hc 2 _ rfl;have hc3:=hc 3 _ rfl;have hc4:=hc 4 _ rfl;have hc5:=hc 5 _ rfl;simp only[Nat.add_zero]at hc0;obtain⟨hkr,hmr,hp1,hp2⟩:=HIO.o m hlm;have HT:=h_ (show T=Gf (imS l (rs.map RV.zs) base k (m+1) ((o.ps.map SV.d).drop (m+1)) ((fill l (rs.map RV.zs) k ((rs[k]).zs[m]) (o.ps[m]).fs (some (o.ps[m]).zs)).map λb=>over im ((rs[k]).zs[m]-base).toNat b))from by
      rw[ht,imS_drop (by simpa using hlm),List.getElem_map,getP_at hkr hmr,Option.bind_some]
      rfl)
     have HAP:=h_ (HAO.o.2 _ (List.getElem_mem hlm));have HRP:=h_ (HRO.o.2 _ (List.getElem_mem hlm));have HRF:=h_ (HRO.o.2 _ (List.getElem_mem hlm)).2;have HNP:=h_ (HNO.o _ (List.getElem_mem hlm));obtain⟨pb,po,hPP,hpb,hrow⟩:=HP4.o.at hkr;obtain⟨rb,ro,hRR,hrb,hcell⟩:=(HP4.o.2 _ (List.getElem_mem hkr)).int hmr;rw[hRR]at hrow;have HPL:=h_ (λ(W:World) (hb:Below w4.heap.size w4 W)=>And.intro ((hb.cell (p:=⟨pb,po+k,none⟩) hpb).trans hrow) ((hb.cell (p:=⟨rb,ro+m,none⟩) hrb).trans hcell));rw[hPA]at q0;clear hlk ht hc hRR hPA hrow hcell;subst hPP;generalize o.ps[m]=p at *;generalize hpl:(rs[k]).zs[m]=pl at *;clear hpl;generalize (rs[k]).zs.length=rn at *;generalize (rs[k]).c=rc at *;have B1:Below wr.heap.size wr (wr.alloc (.cells #[.string p.nm,.int .i64 p.kd,.int .i64 p.al,.slice p.A p.zs.length p.c,.int .i64 p.sz,.slice p.F p.fs.length p.fc] 61)):=b_;have HS:=h_ (Box.new wr 61 #[.string p.nm,.int .i64 p.kd,.int .i64 p.al,.slice p.A p.zs.length p.c,.int .i64 p.sz,.slice p.F p.fs.length p.fc]);have HK1:=h_ (HK.o.call B1);clear B1
     go_upto_region 17 with(fail)
     clear q0 hc0 hc1 hc2 hc3 hc4 hc5 HK;generalize wr.alloc (.cells #[.string p.nm,.int .i64 p.kd,.int .i64 p.al,.slice p.A p.zs.length p.c,.int .i64 p.sz,.slice p.F p.fs.length p.fc] 61)=ws at *;generalize wr.heap.size=S at *;have s3:=d_ HS.o 3;have hsl:=HS.o.lt;have hpz:p.zs.length<=48:=HAP.o.2.1;have hpf:p.fs.length<=6:=HAP.o.1;have HGW:=h_ (show w4.heap.size+1<=ws.heap.size from by
      obtain⟨cs,hbx⟩:=box_of_own HK1.o.row;exact hbx.lt)
     have hrp:=((HRP.o.1.below HK1.o.b1).more HK1.o.b1.size);go_wp2_with (at_builtin;refine wpList_app (ws.alloc (.cells #[] 5)) rfl (.tmp 75) (.tmp 77) 22 rfl 5 i0 (.int .u8 0) 1 1 Tryz.underlying22 HI.o.1 HI.o.2.1 HI.o.2.2.1 HI.o.2.2.2 rfl (by decide) (w4.heap.size+1) _ 0 0 [] rfl (Row.empty _ _ _ _ _) ?hb p.A p.zs.length p.c (ints .u8 p.zs) rfl (hrp.below (below_al (Below.refl _ _))) (by simp) HNP.o oneI ?n1 ?n2 ?_)
     case hb=>exact Nat.le_trans HGW.o (by simp)
     case n1=>unfold maxLen;omega
     case n2=>omega
     intro A2 n2 c2 w8 hn o1 g1 k1;have b8:Below ws.heap.size ws w8:=below_tr (below_al (Below.refl _ _)) g1;have hn':n2=p.zs.length:=by omega
     clear hn;subst hn';have HO:=h_ (show Row w8 (w4.heap.size+1) 5 1 A2 p.zs.length c2 (ints .u8 p.zs)by simpa using o1);have HK:=h_ (HK1.o.call b8);replace HS:=h_ (HS.o.call b8);clear o1 g1 k1 b8 HK1 HRP HNP hrp s3 hsl;generalize hF:fill l (rs.map RV.zs) k pl p.fs (some p.zs)=F at *;have HF0:=h_ (show F=fill l (rs.map RV.zs) k pl (p.fs.drop 0) (some p.zs)from hF.symm);clear hF;go_wp2_with fail
     go_loopw [13,14] (λbv i wi=>∃(q:Nat) (b:List Int) (Ab:Option Addr) (cb:Nat),q<=p.fs.length/\bv=.slice Ab b.length cb/\i=.int .i64 q/\F=fill l (rs.map RV.zs) k pl (p.fs.drop q) (some b)/\b.length=p.zs.length/\Row wi (w4.heap.size+1) 5 1 Ab b.length cb (ints .u8 b)/\Box wi S 61 #[.string p.nm,.int .i64 p.kd,.int .i64 p.al,.slice p.A p.zs.length p.c,.int .i64 p.sz,.slice p.F p.fs.length p.fc]/\LS w w4 I w4.heap.size N base im wi) (λ_ i _=>p.fs.length-(intOf i).toNat)
     case atStart=>exact⟨0,p.zs,A2,c2,Nat.zero_le _,rfl,rfl,HF0.o,rfl,HO.o,HS.o,HK.o⟩
     case round=>
      clear HK HS HF0 HO;obtain⟨q,b,Ab,cb,hq,rfl,rfl,hfl,hbl,hrd,hs,hlk⟩:=hrel;have HK:=h_ hlk;have HS:=h_ hs;have HRD:=h_ hrd;have HBL:=h_ hbl;have s5:=d_ hs 5;have hsl:=hs.lt;by_cases hlq:q<p.fs.length
      ·obtain⟨b3,off3,hFA,hb3,hd⟩:=HRF.o.row fixupC_len (by decide) hlq;have HFL:=h_ (show F=fill l (rs.map RV.zs) k pl (p.fs.drop (q+1)) (apF b pl (p.fs[q]) (symPl l (rs.map RV.zs) k (p.fs[q]).2.2.1.toNat))from by
        rw[hfl,fill_drop hlq]
        rfl)
       obtain⟨hf0,hf1⟩:=HAP.o.2.2 _ (List.getElem_mem hlq);have HFD:=h_ (λ(W:World) (hb:Below w4.heap.size w4 W)=>And.intro ((hb.cell (p:=⟨b3,off3+q*4,none⟩) hb3).trans (hd 0 _ rfl)) (And.intro ((hb.cell (p:=⟨b3,off3+q*4+1,none⟩) hb3).trans (hd 1 _ rfl)) (And.intro ((hb.cell (p:=⟨b3,off3+q*4+2,none⟩) hb3).trans (hd 2 _ rfl)) ((hb.cell (p:=⟨b3,off3+q*4+3,none⟩) hb3).trans (hd 3 _ rfl)))));obtain⟨hd0,hd1,hd2,hd3⟩:=HFD.o wr hlk.b1;clear hlk hs hrd hbl hfl hd;rw[hFA]at s5;have HFA:=h_ hFA;clear hFA;generalize p.fs[q]=f at *;obtain⟨f1,f2,f3,f4⟩:=f;simp only at hd0 hd1 hd2 hd3 hf0 hf1 HFL HFD;obtain⟨j,rfl⟩:∃j:Nat,f3=(j:Int):=⟨f3.toNat,by omega⟩;have hjl:j<o.ys.length:=by omega
       simp only[Int.toNat_natCast]at HFL;go_wp2_with fail
       refine(HSY.o wr HK.o.b1 j hjl).mono ?_;rintro e w9 ⟨ok1,rfl,b9⟩;replace HK:=h_ (HK.o.call b9);replace HS:=h_ (HS.o.call b9);replace HRD:=h_ (HRD.o.call b9);clear b9;clear s5 hsl hd0 hd1 hd2 hd3;generalize symPl l (rs.map RV.zs) k j=tv at *;obtain⟨x1,x2⟩:=HPL.o w9 HK.o.b1;obtain⟨y0,y1,y2,y3⟩:=HFD.o w9 HK.o.b1;have s5:=d_ HS.o 5;rw[HFA.o]at s5;have hgs:w4.heap.size+1<=w9.heap.size:=by obtain⟨cs,hbx⟩:=box_of_own HK.o.row;exact hbx.lt
       have hpb9:pb<w9.heap.size:=Nat.lt_of_lt_of_le hpb (by omega);have hrb9:rb<w9.heap.size:=Nat.lt_of_lt_of_le hrb (by omega);have hb39:b3<w9.heap.size:=Nat.lt_of_lt_of_le hb3 (by omega);have hsl:=HS.o.lt;go_wp2_with fail
       refine Reg.startT (λW=>W.cell? ⟨pb,po+k,none⟩=some (.slice (some ⟨rb,ro,none⟩) rn rc)/\W.cell? ⟨rb,ro+m,none⟩=some (.int .i64 pl)/\W.cell? ⟨S,5,none⟩=some (.slice (some ⟨b3,off3,none⟩) p.fs.length p.fc)/\W.cell? ⟨b3,off3+q*4,none⟩=some (.int .i64 f1)/\W.cell? ⟨b3,off3+q*4+1,none⟩=some (.int .i64 f2)/\W.cell? ⟨b3,off3+q*4+2,none⟩=some (.int .i64 (j:Int))/\W.cell? ⟨b3,off3+q*4+3,none⟩=some (.int .i64 f4)) (λ_=>false) (by kernel_rfl) ?_;have hHeld:=And.intro x1 (And.intro x2 (And.intro s5 (And.intro y0 (And.intro y1 (And.intro y2 y3)))));refine t_ 0 rfl ?_;refine t_ 1 rfl ?_;refine t_ 2 rfl ?_;refine t_ 3 rfl ?_;refine t_ 4 rfl ?_;refine t_ 5 rfl ?_;refine t_ 6 rfl ?_;refine t_ 7 rfl ?_;refine t_ 8 rfl ?_;refine t_ 9 rfl ?_;refine t_ 10 rfl ?_;refine t_ 11 rfl ?_;refine t_ 12 rfl ?_;refine t_ 13 rfl ?_;refine Reg.oneT (i:=14) rfl (by kernel_rfl) (λK hK=>?_);go_simp
       refine(applyFixupS_any Ab b cb pl (f1,f2,(j:Int),f4) tv _ (HRD.o.drew.rd) (by have:=HBL.o;omega) HRD.o.nil).mono ?_;rintro e w10 ⟨A10,c10,n10,rfl,b10,hres⟩;have b10':=of_drew b10;have HRES:=h_ hres;have hHeld:w10.cell? ⟨pb,po+k,none⟩=some (.slice (some ⟨rb,ro,none⟩) rn rc)/\w10.cell? ⟨rb,ro+m,none⟩=some (.int .i64 pl)/\w10.cell? ⟨S,5,none⟩=some (.slice (some ⟨b3,off3,none⟩) p.fs.length p.fc)/\w10.cell? ⟨b3,off3+q*4,none⟩=some (.int .i64 f1)/\w10.cell? ⟨b3,off3+q*4+1,none⟩=some (.int .i64 f2)/\w10.cell? ⟨b3,off3+q*4+2,none⟩=some (.int .i64 (j:Int))/\w10.cell? ⟨b3,off3+q*4+3,none⟩=some (.int .i64 f4):=⟨(b10'.cell (p:=⟨pb,po+k,none⟩) hpb9).trans x1,(b10'.cell (p:=⟨rb,ro+m,none⟩) hrb9).trans x2,(b10'.cell (p:=⟨S,5,none⟩) hsl).trans s5,(b10'.cell (p:=⟨b3,off3+q*4,none⟩) hb39).trans y0,(b10'.cell (p:=⟨b3,off3+q*4+1,none⟩) hb39).trans y1,(b10'.cell (p:=⟨b3,off3+q*4+2,none⟩) hb39).trans y2,(b10'.cell (p:=⟨b3,off3+q*4+3,none⟩) hb39).trans y3⟩;refine hK.out _ _ hHeld ?_;clear hK K hres;try simp only[y1_,y2_,y3_,Act.put,y4_,y5_,y6_]
       refine t_ 15 rfl ?_;refine t_ 16 rfl ?_;refine t_ 17 rfl ?_;refine t_ 18 rfl ?_;refine t_ 19 rfl ?_;refine Reg.doneT (by kernel_rfl) ?_ _;clear hHeld x1 x2 s5 y0 y1 y2 y3 hpb9 hrb9 hb39 hsl;replace HK:=h_ (HK.o.call b10');replace HS:=h_ (HS.o.call b10');generalize hap:apF b pl (f1,f2,(j:Int),f4) tv=r at *;have HAPF:=h_ hap;have HGS:=h_ hgs;clear hap b10 b10' HRD hgs;cases r with
       |none=>
        have HV:=h_ (show linkR l base=(0,[],3)from by
         rw[HLI.o];have e1:T=none:=by rw[HT.o,HFL.o,fill_none,Option.map_none,imS_none,HGN.o]
         rw[e1]
         rfl)
        have y0:=HK.o.br.cell 0;have y1:=HK.o.br.cell 1;have yf0:=HK.o.br.frozen 0;have yf1:=HK.o.br.frozen 1;have hrl:=HK.o.br.lt;have kk:=(HK.o.br.set 0 (.int .i64 0)).set 1 (.slice none 0 0);have k0:=kk.cell 0;have k1:=kk.cell 1;simp only[k_]at k0 k1 y0 y1;clear kk;have HFB:=h_ (two_below (Y:=w.heap.size) HK.o.b (Nat.le_refl _) (.int .i64 0) (.slice none 0 0));simp only[Option.isSome];clear HT HFL;go_wp2_with fail
        (try simp only[Exit.inBlock,Exit.then])
        exact bodyPost_ret (v:=.tuple #[.agg #[.int .i64 0,.slice none 0 0],.int .i64 3]) (by simp[results,Tryz.results65,go_sem,k0,k1]) rfl (by rw[<-HQD.o,HV.o];exact ret_bad _ HFB.o)
       |some b2=>
        obtain⟨hn10,hrow10⟩:=HRES.o b2 rfl;have HR10:=h_ (show Row w10 (w4.heap.size+1) 5 1 A10 b2.length c10 (ints .u8 b2)from by
         have h:=hrow10;rw[hn10]at h;exact h.down HGS.o)
        have HL2:=h_ ((ap_len HAPF.o).trans HBL.o);have HN10:=h_ hn10;clear hn10 hrow10 HRES HAPF HBL;simp only[Option.isSome];go_wp2_with fail
        refine⟨⟨q+1,b2,A10,c10,by omega,by rw[HN10.o],by go_num,HFL.o,HL2.o,HR10.o,HS.o,HK.o⟩,by simp[intOf];omega⟩
      ·obtain rfl:q=p.fs.length:=by omega
       have HFS:=h_ (show F=some b from by
        rw[hfl,List.drop_of_length_le (Nat.le_refl _)]
        rfl)
       have hbl2:=hbl;clear hfl hlk hs hrd hbl HSY HRF;obtain⟨off9,hoff⟩:∃off9:Nat,pl=base+off9:=⟨(pl-base).toNat,by omega⟩;subst hoff;have hoN:off9+b.length<=N:=by omega
       clear hbl2;have HT2:=h_ (show T=Gf (imS l (rs.map RV.zs) base k (m+1) ((o.ps.map SV.d).drop (m+1)) (some (sp im off9 (b.take b.length))))from by
        rw[HT.o,HFS.o,show(base+(off9:Int)-base).toNat=off9 by omega,List.take_length];show _=Gf (imS l (rs.map RV.zs) base k (m+1) ((o.ps.map SV.d).drop (m+1)) (some (sp im off9 b)))
        rw[Option.map_some,show over im off9 b=sp im off9 b from by
         unfold over;rw[List.take_of_length_le (by rw[HK.o.len];omega)]])
       have hwo:IntKind.i64.wrap (base+off9-base)=(off9:Int):=by rw[IntKind.wrap_i64];omega
       have HIL:=h_ HK.o.len;have HI0:=h_ (show LS w w4 I w4.heap.size N base (sp im off9 (b.take 0)) wr from by
        rw[show sp im off9 (b.take 0)=im from PPatch.splice_zero im _ off9];exact HK.o)
       clear HT HFS HK HS hp1 hp2;go_wp2_with fail
       clear s5 hsl;go_loopw [19] (λi wi=>∃t:Nat,t<=b.length/\i=.int .i64 t/\Row wi (w4.heap.size+1) 5 1 Ab b.length cb (ints .u8 b)/\LS w w4 I w4.heap.size N base (sp im off9 (b.take t)) wi) (λi _=>b.length-(intOf i).toNat)
       case atStart=>exact⟨0,Nat.zero_le _,rfl,HRD.o,HI0.o⟩
       case round=>
        clear HRD HI0;obtain⟨t,ht,rfl,hrd,hlk⟩:=hrel;have HRD:=h_ hrd;have HK:=h_ hlk;by_cases hlt2:t<b.length
        ·obtain⟨bz,offz,hAb,hbz,hcz⟩:=(hrd.rd).int hlt2;have HNX:=h_ (show(sp im off9 (b.take t)).set (off9+t) b[t]=sp im off9 (b.take (t+1))from PPatch.splice_next hlt2 (by rw[HIL.o];exact hoN));have HST:=h_ (show LS w w4 I w4.heap.size N base (sp im off9 (b.take (t+1))) (wr.setCell ⟨w4.heap.size,off9+t,none⟩ (.int .u8 b[t]))from by
          rw[<-HNX.o];exact hlk.store (Nat.le_refl _) HWW.o _ _)
         have HSB:=h_ (show Row (wr.setCell ⟨w4.heap.size,off9+t,none⟩ (.int .u8 b[t])) (w4.heap.size+1) 5 1 Ab b.length cb (ints .u8 b)from hrd.set (a:=⟨w4.heap.size,off9+t,none⟩) (λx hx e=>by
          have h1:=(hrd.lt x hx).1;have h3:x=w4.heap.size:=e;omega) _)
         obtain⟨⟨old,hk0⟩,hfz0⟩:=own_old hlk.row (j:=off9+t) (by omega);obtain⟨x1,x2⟩:=HPL.o wr hlk.b1;have i1:=d_ hlk.bi 1;obtain⟨mm,hm'⟩:∃mm:Nat,mm=off9+t:=⟨_,rfl⟩;have w68:IntKind.i64.wrap ((off9:Int)+(t:Int))=(mm:Int):=by rw[IntKind.wrap_i64];omega
         have hmn:mm<N:=by omega
         rw[<-hm']at hk0 hfz0 HST HSB;clear hm' hlk hrd HNX HK HRD;generalize b[t]=z at *;subst hAb;go_wp2_with fail
         refine Reg.startT (λW=>W.cell? ⟨I,1,none⟩=some (.slice (some ⟨w4.heap.size,0,none⟩) N N)/\W.cell? ⟨pb,po+k,none⟩=some (.slice (some ⟨rb,ro,none⟩) rn rc)/\W.cell? ⟨rb,ro+m,none⟩=some (.int .i64 (base+off9))/\W.cell? ⟨bz,offz+t,none⟩=some (.int .u8 z)) (λj=>j==18) (by kernel_rfl) ?_;have hHeld:=And.intro i1 (And.intro x1 (And.intro x2 hcz));refine t_ 0 rfl ?_;refine t_ 1 rfl ?_;refine t_ 2 rfl ?_;refine t_ 3 rfl ?_;refine t_ 4 rfl ?_;refine t_ 5 rfl ?_;refine t_ 6 rfl ?_;refine t_ 7 rfl ?_;refine t_ 8 rfl ?_;refine t_ 9 rfl ?_;refine t_ 10 rfl ?_;refine t_ 11 rfl ?_;refine t_ 12 rfl ?_;refine t_ 13 rfl ?_;refine t_ 14 rfl ?_;refine t_ 15 rfl ?_;refine t_ 16 rfl ?_;refine t_ 17 rfl ?_;refine Reg.lastT (i:=18) rfl (by kernel_rfl) (by rfl) (λK hK=>?_);go_simp
         refine hK.out _ _ ?_;clear hK K hHeld;try simp only[y1_,y2_,y3_,Act.put,y4_,y5_,y6_]
         refine Reg.doneT (by kernel_rfl) ?_ _;clear hcz x1 x2 i1 hk0 hfz0 w68;go_wp2_with fail
         refine⟨⟨t+1,by omega,by go_num,HSB.o.call (below_dr (Below.refl _ _)),HST.o.call (below_dr (Below.refl _ _))⟩,by simp[intOf];omega⟩
        ·obtain rfl:t=b.length:=by omega
         clear hlk hrd;go_wp2_with fail
         refine⟨⟨m+1,sp im off9 (b.take b.length),by omega,by go_num,HT2.o,HK.o⟩,by simp[intOf];omega⟩
    ·have hme:m=o.ps.length:=by omega
     subst hme;have HT2:=h_ (show T=imO l (rs.map RV.zs) base (k+1) (l.drop (k+1)) (some im)from by
      rw[ht,List.drop_of_length_le (by simp),HGF.o]
      rfl)
     clear ht hlk;go_wp2_with fail
     refine⟨⟨k+1,im,by omega,by go_num,HT2.o,HK.o⟩,by simp[intOf];omega⟩
  ·have hke:k=qs.length:=by omega
   subst hke;have HV:=h_ (show linkR l base=(base,im,0)from by
    rw[HLI.o,ht,List.drop_of_length_le (by rw[<-HLL.o];simp)]
    rfl)
   have i0':=HK.o.bi.cell 0;have i1':=HK.o.bi.cell 1;have y0:=HK.o.br.cell 0;have y1:=HK.o.br.cell 1;have yf0:=HK.o.br.frozen 0;have yf1:=HK.o.br.frozen 1;have hrl:=HK.o.br.lt;have hil:=HK.o.bi.lt;have kk:=(HK.o.br.set 0 (.int .i64 base)).set 1 (.slice (some ⟨w4.heap.size,0,none⟩) N N);have k0:=kk.cell 0;have k1:=kk.cell 1;simp only[k_]at k0 k1 y0 y1 i0' i1';clear kk;have HIM:=h_ HK.o.len;have HFB:=h_ (show RetL (base,im,0) w (.returned (.tuple #[.agg #[.int .i64 base,.slice (some ⟨w4.heap.size,0,none⟩) N N],.int .i64 0])) ((wr.setCell ⟨w.heap.size,0,none⟩ (.int .i64 base)).setCell ⟨w.heap.size,1,none⟩ (.slice (some ⟨w4.heap.size,0,none⟩) N N))from by
    refine⟨some ⟨w4.heap.size,0,none⟩,N,by rw[HIM.o],?_,two_below (Y:=w.heap.size) HK.o.b (Nat.le_refl _) _ _⟩;have r0:Row wr w.heap.size 5 1 (some ⟨w4.heap.size,0,none⟩) N N (ints .u8 im):=Row.down (.inr HK.o.row) HWW.o;have r1:=(r0.set (a:=⟨w.heap.size,0,none⟩) (λj hj=>r0.box HK.o.br (by decide) j hj) (.int .i64 base));have r2:=(r1.set (a:=⟨w.heap.size,1,none⟩) (λj hj=>r0.box HK.o.br (by decide) j hj) (.slice (some ⟨w4.heap.size,0,none⟩) N N));simp only[HIM.o];exact r2)
   clear ht hlk;go_wp2_with fail
   (try simp only[Exit.inBlock,Exit.then])
   exact bodyPost_ret (v:=.tuple #[.agg #[.int .i64 base,.slice (some ⟨w4.heap.size,0,none⟩) N N],.int .i64 0]) (by simp[results,Tryz.results65,go_sem,k0,k1]) rfl (by rw[<-HQD.o,HV.o];exact HFB.o)
end CLinkS
/- What stands while two objects are joined; the reference's,where both copies are made first. -/
namespace BJoinS
open Kit CFixups CSymbols PObj BObj CMarkRows BObj2 BRetO BStore BJoin
structure J1S(w0:World)(V R O Y:Nat)(a b o q:OV)(An:Option Addr)(cn:Nat)(ns:List Int)(w:World):Prop where
 j:J1 w0 V R O a b o An cn ns w
 bq:Box w Y 26 #[.slice q.A q.ps.length q.c,.slice q.Y q.ys.length q.yc]
 oq:OwnO w w0.heap.size q
 ap:Apart o.Y o.yc q.Y q.yc
 hY:O<Y
section
variable {w0 w w':World}{V R O Y:Nat}{a b o q:OV}{An:Option Addr}{cn:Nat}{ns:List Int}
theorem J1S.call (h:J1S w0 V R O Y a b o q An cn ns w)(hb:Below w.heap.size w w'):J1S w0 V R O Y a b o q An cn ns w':=
 ⟨h.j.call hb,h.bq.call hb,h.oq.call hb,h.ap,h.hY⟩
theorem J1S.free (h:J1S w0 V R O Y a b o q An cn ns w):∀k,oblk q k->blk o.Y o.yc≠some k:=by
 rintro k ((hk|⟨p,hp,hk|hk⟩)|hk) hr
 ·exact apartT h.oq.1.1 h.j.own.2 (by decide) k hk hr
 ·exact apartT (h.oq.1.2.1 p hp).1 h.j.own.2 (by decide) k hk hr
 ·exact apartT (h.oq.1.2.1 p hp).2 h.j.own.2 (by decide) k hk hr
 ·exact h.ap k hr hk
theorem J1S.addY (h:J1S w0 V R O Y a b o q An cn ns w)(y:YD){A9:Option Addr}{n9 c9:Nat}(hn:n9=o.ys.length+1)(o9:Row w' w0.heap.size 67 4 A9 n9 c9 (cellsOf symbolC o.ys++symbolC y))(g:w.grownBy w' (blk o.Y o.yc))
  (hk:∀k,blk A9 c9=some k->blk o.Y o.yc=some k\/w.heap.size<=k):
  J1S w0 V R O Y a b {o with Y:=A9,yc:=c9,ys:=o.ys++[y]} q An cn ns (w'.setCell ⟨O,1,none⟩ (.slice A9 n9 c9)):=by
 have bo':=h.j.bo.grown g (h.j.own.2.box h.j.bo (by decide));have q':OwnO w' w0.heap.size q:=OwnO.grownN h.oq g h.free;have hY:=h.hY;refine⟨h.j.addY y hn o9 g,(h.bq.grown g (h.j.own.2.box h.bq (by decide))).far (p:=⟨O,1,none⟩) (by show Y≠O;omega) _,OwnO.set (a:=⟨O,1,none⟩) q' (q'.ne_box bo' (by decide) (by decide) (by decide) (by decide)) _,λk h1 h2=>?_,hY⟩;rcases hk k h1 with h3|h3
 ·exact h.ap k h3 h2
 ·have:=(h.oq.lt k (.inr h2)).2;omega
theorem J1S.store (h:J1S w0 V R O Y a b o q An cn ns w){g:Nat}(hg:o.Y=some ⟨g,0,none⟩){j:Nat}(hj:j<o.ys.length)(z:YD):J1S w0 V R O Y a b {o with ys:=o.ys.set j z} q An cn ns (putY w g (j*4) z):=by obtain⟨g',hY',hg1,hg2,hbk,hown⟩:=own_of h.j.own.2 (by omega);have e:=hY';rw[hg]at e;simp only[Option.some.injEq,Addr.mk.injEq,and_true]at e;subst e;have hk:=putY_block w g (j*4) z;exact⟨h.j.store hg hj z,(hk _ (λe=>h.j.own.2.box h.bq (by decide) g hbk e.symm)).trans h.bq,h.oq.keep λk hq=>hk k (λe=>h.free k hq (by rw[e];exact hbk)),h.ap,h.hY⟩
theorem J1S.addN (h:J1S w0 V R O Y a b o q An cn ns w)(x:Int){A9:Option Addr}{n9 c9:Nat}(hn:n9=ns.length+1)(o9:Row w' w0.heap.size 3 1 A9 n9 c9 (ints .i64 ns++[.int .i64 x]))(g:w.grownBy w' (blk An cn)):
  J1S w0 V R O Y a b o q A9 c9 (ns++[x]) w':=
 ⟨h.j.addN x hn o9 g,h.bq.grown g (h.j.row.box h.bq (by decide)),OwnO.grownN h.oq g (OwnO.apart_row h.oq h.j.row (by decide) (by decide) (by decide) (by decide)),h.ap,h.hY⟩
end
structure J2S(w0:World)(Z O Y:Nat)(o q:OV)(fsx L R:List SV)(An:Option Addr)(cn:Nat)(ns:List Int)(w:World):Prop where
 j:J2 w0 Z O o q fsx L R An cn ns w
 bq:Box w Y 26 #[.slice q.A q.ps.length q.c,.slice q.Y q.ys.length q.yc]
 hY:O<Y
section
variable {w0 w w':World}{Z O Y:Nat}{o q:OV}{fsx L R:List SV}{An:Option Addr}{cn:Nat}{ns:List Int}
theorem J2S.call (h:J2S w0 Z O Y o q fsx L R An cn ns w)(hb:Below w.heap.size w w'):J2S w0 Z O Y o q fsx L R An cn ns w':=⟨h.j.call hb,h.bq.call hb,h.hY⟩
theorem J2S.fix {p:SV}{R':List SV}(h:J2S w0 Z O Y o q fsx L (p::R') An cn ns w){g:Nat}(hF:p.F=some ⟨g,0,none⟩){i:Nat}{z:FD}(hz:p.fs[i]?=some z)(x:Int):
  J2S w0 Z O Y o {q with ps:=L++{p with fs:=p.fs.set i (z.1,z.2.1,x,z.2.2.2)}::R'} fsx L ({p with fs:=p.fs.set i (z.1,z.2.1,x,z.2.2.2)}::R') An cn ns (w.setCell ⟨g,i*4+2,none⟩ (.int .i64 x)):=by
 have hi:i<p.fs.length:=(List.getElem?_eq_some_iff.1 hz).1;have hpq:p∈q.ps:=by rw[h.j.hq];simp
 have hp:=h.j.oq.1.2.1 p hpq;obtain⟨g',hF',_,_,hbk,_⟩:=own_of hp.2 (by omega);rw[hF]at hF';simp only[Option.some.injEq,Addr.mk.injEq,and_true]at hF';subst hF';refine⟨h.j.fix hF hz x,?_,h.hY⟩;have hl:(L++{p with fs:=p.fs.set i (z.1,z.2.1,x,z.2.2.2)}::R').length=q.ps.length:=by rw[h.j.hq];simp
 show Box _ Y 26 #[.slice q.A (L++{p with fs:=p.fs.set i (z.1,z.2.1,x,z.2.2.2)}::R').length q.c,.slice q.Y q.ys.length q.yc]
 rw[hl];exact h.bq.far (p:=⟨g,i*4+2,none⟩) (λe=>hp.2.box h.bq (by decide) g hbk e.symm) _
theorem J2S.add {p:SV}{R':List SV}(h:J2S w0 Z O Y o q fsx L (p::R') An cn ns w){A9:Option Addr}{n9 c9:Nat}(hn:n9=o.ps.length+1)(o9:Row w' w0.heap.size 61 6 A9 n9 c9 (cellsOf secC o.ps++secC p))(g:w.grownBy w' (blk o.A o.c))(hk:∀k,blk A9 c9=some k->blk o.A o.c=some k\/w.heap.size<=k):
  J2S w0 Z O Y {o with A:=A9,c:=c9,ps:=o.ps++[p]} q fsx (L++[p]) R' An cn ns (w'.setCell ⟨O,0,none⟩ (.slice A9 n9 c9)):=by
 have hY:=h.hY;exact⟨h.j.add hn o9 g hk,(h.bq.grown g (h.j.row.box h.bq (by decide))).far (p:=⟨O,0,none⟩) (by show Y≠O;omega) _,hY⟩
theorem J2S.keepq (h:J2S w0 Z O Y o q fsx L R An cn ns w)(g:w.grownBy w' (blk o.A o.c)):OwnO w' w0.heap.size q:=OwnO.grownN h.j.oq g (by
 rintro k ((hk|⟨s,hs,hk|hk⟩)|hk) hr
 ·exact h.j.ap k hr hk
 ·exact apartT (h.j.oq.1.2.1 s hs).1 h.j.row (by decide) k hk hr
 ·exact apartT (h.j.oq.1.2.1 s hs).2 h.j.row (by decide) k hk hr
 ·exact apartT h.j.oq.2 h.j.row (by decide) k hk hr)
theorem sec_cells{w:World}{base gb goff c yc:Nat}{Y:Option Addr}{L N:List SV}{p:SV}{ys:List YD}(h:OwnO w base ⟨some ⟨gb,goff,none⟩,c,L++p::N,Y,yc,ys⟩):gb<w.heap.size/\∀j u,(secC p)[j]?=some u->w.cell? ⟨gb,goff+L.length*6+j,none⟩=some u:=by obtain⟨b,off,hA,hb,hc⟩:=PClear.row_at h.1.rd;simp only[Option.some.injEq,Addr.mk.injEq,and_true]at hA;obtain⟨rfl,rfl⟩:=hA;exact⟨hb,hc⟩
end
end BJoinS
/- Joining objects as the reference does: the same tests; plain. -/
namespace PJoinS
open Kit CCode CName CFixups CSymbols PObj PValid PWarn PClear PSort PLink CGlobalOf PJoin
theorem takes_shift(n:Nat)(a s:YD):takesB a (shiftY n s)=takesB a s:=by
 unfold takesB strongB shiftY;by_cases h:s.2.2.1<0
 ·simp[h]
 ·have h1:¬s.2.2.1=-1:=by omega
  have h2:¬s.2.2.1+(n:Int)=-1:=by omega
  simp[h,h1,h2]
theorem better_same{n:Nat}{y s:YD}(h:y.2.1=1\/y.2.1=2):betterB (shiftY n s) y=takesB y s:=by rw[better_takes h,takes_shift]
end PJoinS
/- l16Known,l16Better; the reference's. -/
namespace CTakesS
open Kit CFixups CSymbols PObj BObj PValid PLink PJoin CGlobalOf CTakes
theorem known_any(nm:ByteArray)(A:Option Addr)(ys:List YD)(c:Nat)(w:World)(hr:Rd w w.heap.size A (cellsOf symbolC ys))(hm:ys.length<=maxLen):
  Calls Tryz.prog 160 #[.slice A ys.length c,.string nm] w (Ret (.int .i64 (globI ys nm)) w):=by
 unfold maxLen at hm;have HR:=h_ hr;clear hr;go_enter Tryz.func160,Tryz.ntmps160
 go_wp2_with fail
 go_loopw [5] (λi wr=>∃k:Nat,k<=ys.length/\i=.int .i64 k/\(ys.take k).any (hit nm)=false/\Below w.heap.size w wr) (λi _=>ys.length-(intOf i).toNat)
 case atStart=>exact⟨0,Nat.zero_le _,rfl,rfl,Below.refl _ _⟩
 case round=>
  obtain⟨k,hk,rfl,hn,hb⟩:=hrel;have HB:=h_ hb;have HN:=h_ hn;by_cases hlt:k<ys.length
  ·obtain⟨b,off,rfl,hbb,hcc⟩:=(HR.o.below hb).row symbolC_len (by decide) hlt;have hc0:=hcc 0 _ rfl;have hc1:=hcc 1 _ rfl;simp only[Nat.add_zero]at hc0;have HS:=h_ (show(ys.take (k+1)).any (hit nm)=hit nm ys[k]by rw[take_succ hlt,List.any_append,hn];simp);have HT:=h_ (show hit nm ys[k]=true->globI ys nm=k from λh=>globI_some hlt hn h);clear hb hcc hn HN;generalize ys[k]=z at *;by_cases h1:z.1=nm
   ·have e1:(z.1.toList==nm.toList)=true:=by rw[str_eq,decide_eq_true h1]
    by_cases h2:z.2.1=0
    ·have e2:(z.2.1 != 0)=false:=by rw[bne,beq_iff_eq.2 h2];rfl
     have HS':=h_ (HS.o.trans (show hit nm z=false from by unfold hit;rw[decide_eq_true h2];rfl));clear HT HS h1 h2;go_wp2_with fail
     refine⟨⟨k+1,by omega,by go_num,HS'.o,HB.o⟩,by simp[intOf];omega⟩
    ·have e2:(z.2.1 != 0)=true:=bne_iff_ne.2 h2;have HT':=h_ (HT.o (show hit nm z=true from by unfold hit;rw[decide_eq_false h2,decide_eq_true h1];rfl));clear HT HS h1 h2;go_wp2_with fail
     go_ret;exact⟨by rw[HT'.o];rfl,HB.o⟩
   ·have e1:(z.1.toList==nm.toList)=false:=by rw[str_eq,decide_eq_false h1]
    have HS':=h_ (HS.o.trans (show hit nm z=false from by unfold hit;rw[decide_eq_false h1,Bool.and_false]));clear HT HS h1;go_wp2_with fail
    refine⟨⟨k+1,by omega,by go_num,HS'.o,HB.o⟩,by simp[intOf];omega⟩
  ·have HN2:=h_ (globI_none (show ys.any (hit nm)=false by rw[<-hn,List.take_of_length_le (by omega)]));clear hb hn HN;go_wp2_with fail
   go_ret;exact⟨by rw[HN2.o];rfl,HB.o⟩
set_option maxHeartbeats 2000000 in
theorem better_any(a b:YD)(w:World):Calls Tryz.prog 161 #[.agg #[.string a.1,.int .i64 a.2.1,.int .i64 a.2.2.1,.int .i64 a.2.2.2],.agg #[.string b.1,.int .i64 b.2.1,.int .i64 b.2.2.1,.int .i64 b.2.2.2]] w (Ret (.bool (betterB a b)) w):=by
 obtain⟨an,ab,aw,av⟩:=a;obtain⟨bn,bb,bw,bv⟩:=b;have HB:=h_ (show Below w.heap.size w ((w.alloc (.cells #[.string an,.int .i64 ab,.int .i64 aw,.int .i64 av] 67)).alloc (.cells #[.string bn,.int .i64 bb,.int .i64 bw,.int .i64 bv] 67))from b_);have X0:=(Box.new w 67 #[.string an,.int .i64 ab,.int .i64 aw,.int .i64 av]).alloc (.cells #[.string bn,.int .i64 bb,.int .i64 bw,.int .i64 bv] 67);have X1:=Box.new (w.alloc (.cells #[.string an,.int .i64 ab,.int .i64 aw,.int .i64 av] 67)) 67 #[.string bn,.int .i64 bb,.int .i64 bw,.int .i64 bv];simp only[World.size_alloc]at X1;have x1:=d_ X0 1;have x2:=d_ X0 2;have y1:=d_ X1 1;have y2:=d_ X1 2;have hxl:=X0.lt;have hyl:=X1.lt;clear X0 X1;simp only;go_enter Tryz.func161,Tryz.ntmps161
 have HV:=h_ (show betterB (an,ab,aw,av) (bn,bb,bw,bv)=if bw=-1 then(!decide (aw=-1)||(decide (ab=1)&&decide (bb=2)))else(!decide (aw=-1)&&(decide (ab=1)&&decide (bb=2)))from rfl)
 by_cases h1:aw=-1
 ·have e0:(aw==(-1))=true:=beq_iff_eq.2 h1;have f0:(aw != (-1))=false:=by rw[bne,e0];rfl
  by_cases h2:bw=-1
  ·have e1:(bw==(-1))=true:=beq_iff_eq.2 h2;have f1:(bw != (-1))=false:=by rw[bne,e1];rfl
   by_cases h3:ab=1
   ·have e2:(ab==1)=true:=beq_iff_eq.2 h3;have f2:(ab != 1)=false:=by rw[bne,e2];rfl
    by_cases h4:bb=2
    ·have e3:(bb==2)=true:=beq_iff_eq.2 h4;have f3:(bb != 2)=false:=by rw[bne,e3];rfl
     have HVV:=h_ (HV.o.trans (show _=true from by simp[h1,h2,h3,h4]));clear HV h1 h2 h3 h4;go_wp2_with fail
     go_ret;refine⟨?_,HB.o⟩;rw[HVV.o];simp[go_sem]
    ·have e3:(bb==2)=false:=beq_eq_false_iff_ne.2 h4;have f3:(bb != 2)=true:=bne_iff_ne.2 h4;have HVV:=h_ (HV.o.trans (show _=false from by simp[h1,h2,h3,h4]));clear HV h1 h2 h3 h4;go_wp2_with fail
     go_ret;refine⟨?_,HB.o⟩;rw[HVV.o];simp[go_sem]
   ·have e2:(ab==1)=false:=beq_eq_false_iff_ne.2 h3;have f2:(ab != 1)=true:=bne_iff_ne.2 h3;by_cases h4:bb=2
    ·have e3:(bb==2)=true:=beq_iff_eq.2 h4;have f3:(bb != 2)=false:=by rw[bne,e3];rfl
     have HVV:=h_ (HV.o.trans (show _=false from by simp[h1,h2,h3,h4]));clear HV h1 h2 h3 h4;go_wp2_with fail
     go_ret;refine⟨?_,HB.o⟩;rw[HVV.o];simp[go_sem]
    ·have e3:(bb==2)=false:=beq_eq_false_iff_ne.2 h4;have f3:(bb != 2)=true:=bne_iff_ne.2 h4;have HVV:=h_ (HV.o.trans (show _=false from by simp[h1,h2,h3,h4]));clear HV h1 h2 h3 h4;go_wp2_with fail
     go_ret;refine⟨?_,HB.o⟩;rw[HVV.o];simp[go_sem]
  ·have e1:(bw==(-1))=false:=beq_eq_false_iff_ne.2 h2;have f1:(bw != (-1))=true:=bne_iff_ne.2 h2;by_cases h3:ab=1
   ·have e2:(ab==1)=true:=beq_iff_eq.2 h3;have f2:(ab != 1)=false:=by rw[bne,e2];rfl
    by_cases h4:bb=2
    ·have e3:(bb==2)=true:=beq_iff_eq.2 h4;have f3:(bb != 2)=false:=by rw[bne,e3];rfl
     have HVV:=h_ (HV.o.trans (show _=false from by simp[h1,h2,h3,h4]));clear HV h1 h2 h3 h4;go_wp2_with fail
     go_ret;refine⟨?_,HB.o⟩;rw[HVV.o];simp[go_sem]
    ·have e3:(bb==2)=false:=beq_eq_false_iff_ne.2 h4;have f3:(bb != 2)=true:=bne_iff_ne.2 h4;have HVV:=h_ (HV.o.trans (show _=false from by simp[h1,h2,h3,h4]));clear HV h1 h2 h3 h4;go_wp2_with fail
     go_ret;refine⟨?_,HB.o⟩;rw[HVV.o];simp[go_sem]
   ·have e2:(ab==1)=false:=beq_eq_false_iff_ne.2 h3;have f2:(ab != 1)=true:=bne_iff_ne.2 h3;by_cases h4:bb=2
    ·have e3:(bb==2)=true:=beq_iff_eq.2 h4;have f3:(bb != 2)=false:=by rw[bne,e3];rfl
     have HVV:=h_ (HV.o.trans (show _=false from by simp[h1,h2,h3,h4]));clear HV h1 h2 h3 h4;go_wp2_with fail
     go_ret;refine⟨?_,HB.o⟩;rw[HVV.o];simp[go_sem]
    ·have e3:(bb==2)=false:=beq_eq_false_iff_ne.2 h4;have f3:(bb != 2)=true:=bne_iff_ne.2 h4;have HVV:=h_ (HV.o.trans (show _=false from by simp[h1,h2,h3,h4]));clear HV h1 h2 h3 h4;go_wp2_with fail
     go_ret;refine⟨?_,HB.o⟩;rw[HVV.o];simp[go_sem]
 ·have e0:(aw==(-1))=false:=beq_eq_false_iff_ne.2 h1;have f0:(aw != (-1))=true:=bne_iff_ne.2 h1;by_cases h2:bw=-1
  ·have e1:(bw==(-1))=true:=beq_iff_eq.2 h2;have f1:(bw != (-1))=false:=by rw[bne,e1];rfl
   by_cases h3:ab=1
   ·have e2:(ab==1)=true:=beq_iff_eq.2 h3;have f2:(ab != 1)=false:=by rw[bne,e2];rfl
    by_cases h4:bb=2
    ·have e3:(bb==2)=true:=beq_iff_eq.2 h4;have f3:(bb != 2)=false:=by rw[bne,e3];rfl
     have HVV:=h_ (HV.o.trans (show _=true from by simp[h1,h2,h3,h4]));clear HV h1 h2 h3 h4;go_wp2_with fail
     go_ret;refine⟨?_,HB.o⟩;rw[HVV.o];simp[go_sem]
    ·have e3:(bb==2)=false:=beq_eq_false_iff_ne.2 h4;have f3:(bb != 2)=true:=bne_iff_ne.2 h4;have HVV:=h_ (HV.o.trans (show _=true from by simp[h1,h2,h3,h4]));clear HV h1 h2 h3 h4;go_wp2_with fail
     go_ret;refine⟨?_,HB.o⟩;rw[HVV.o];simp[go_sem]
   ·have e2:(ab==1)=false:=beq_eq_false_iff_ne.2 h3;have f2:(ab != 1)=true:=bne_iff_ne.2 h3;by_cases h4:bb=2
    ·have e3:(bb==2)=true:=beq_iff_eq.2 h4;have f3:(bb != 2)=false:=by rw[bne,e3];rfl
     have HVV:=h_ (HV.o.trans (show _=true from by simp[h1,h2,h3,h4]));clear HV h1 h2 h3 h4;go_wp2_with fail
     go_ret;refine⟨?_,HB.o⟩;rw[HVV.o];simp[go_sem]
    ·have e3:(bb==2)=false:=beq_eq_false_iff_ne.2 h4;have f3:(bb != 2)=true:=bne_iff_ne.2 h4;have HVV:=h_ (HV.o.trans (show _=true from by simp[h1,h2,h3,h4]));clear HV h1 h2 h3 h4;go_wp2_with fail
     go_ret;refine⟨?_,HB.o⟩;rw[HVV.o];simp[go_sem]
  ·have e1:(bw==(-1))=false:=beq_eq_false_iff_ne.2 h2;have f1:(bw != (-1))=true:=bne_iff_ne.2 h2;by_cases h3:ab=1
   ·have e2:(ab==1)=true:=beq_iff_eq.2 h3;have f2:(ab != 1)=false:=by rw[bne,e2];rfl
    by_cases h4:bb=2
    ·have e3:(bb==2)=true:=beq_iff_eq.2 h4;have f3:(bb != 2)=false:=by rw[bne,e3];rfl
     have HVV:=h_ (HV.o.trans (show _=true from by simp[h1,h2,h3,h4]));clear HV h1 h2 h3 h4;go_wp2_with fail
     go_ret;refine⟨?_,HB.o⟩;rw[HVV.o];simp[go_sem]
    ·have e3:(bb==2)=false:=beq_eq_false_iff_ne.2 h4;have f3:(bb != 2)=true:=bne_iff_ne.2 h4;have HVV:=h_ (HV.o.trans (show _=false from by simp[h1,h2,h3,h4]));clear HV h1 h2 h3 h4;go_wp2_with fail
     go_ret;refine⟨?_,HB.o⟩;rw[HVV.o];simp[go_sem]
   ·have e2:(ab==1)=false:=beq_eq_false_iff_ne.2 h3;have f2:(ab != 1)=true:=bne_iff_ne.2 h3;by_cases h4:bb=2
    ·have e3:(bb==2)=true:=beq_iff_eq.2 h4;have f3:(bb != 2)=false:=by rw[bne,e3];rfl
     have HVV:=h_ (HV.o.trans (show _=false from by simp[h1,h2,h3,h4]));clear HV h1 h2 h3 h4;go_wp2_with fail
     go_ret;refine⟨?_,HB.o⟩;rw[HVV.o];simp[go_sem]
    ·have e3:(bb==2)=false:=beq_eq_false_iff_ne.2 h4;have f3:(bb != 2)=true:=bne_iff_ne.2 h4;have HVV:=h_ (HV.o.trans (show _=false from by simp[h1,h2,h3,h4]));clear HV h1 h2 h3 h4;go_wp2_with fail
     go_ret;refine⟨?_,HB.o⟩;rw[HVV.o];simp[go_sem]
end CTakesS
end Go.Proofs.YtepoiphmmjfbdaaGreatDoor
