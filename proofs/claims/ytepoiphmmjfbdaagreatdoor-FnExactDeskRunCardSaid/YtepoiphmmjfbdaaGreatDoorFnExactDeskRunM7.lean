/- JoinObjects: one object in place of two; the program's. -/
import Derived.Test.YtepoiphmmjfbdaaGreatDoorFnExactDeskRunM6
import Derived.Deep.CutBlock
set_option linter.unusedSimpArgs false
set_option linter.unusedVariables false
set_option maxRecDepth 200000
open Go.ChangeShapes Go.WideShapes Go.ChangeAt Go.RowKit
namespace Go.Proofs.YtepoiphmmjfbdaaGreatDoor
namespace CJoinI
open Kit CCode CName CFixups CSymbols PObj BObj PValid PWarn PClear PSort PLink PLinkL CSorted CNames BList CMarkRows BObj2 BRetO BStore BJoin PJoin PJoin2 CTakes CObjValid CCopyS CCopyI CGlobalOf CFind
theorem one_sy (y:YD):∀ u ∈ symbolC y,u.oneCell'=true:=by
 intro u hu;simp only [symbolC,List.mem_cons,List.not_mem_nil,or_false] at hu
 rcases hu with rfl | rfl | rfl | rfl <;> rfl
theorem one_six {a:ByteArray} {b c e:Int} {A B:Option Addr} {n m p q:Nat}:∀ u ∈ [Value.string a,.int .i64 b,.int .i64 c,.slice A n m,.int .i64 e,.slice B p q],u.oneCell'=true:=by
 intro u hu;simp only [List.mem_cons,List.not_mem_nil,or_false] at hu
 rcases hu with rfl | rfl | rfl | rfl | rfl | rfl <;> rfl
theorem wrap_add {x n:Int} (h:-1000<=x+n/\x+n<=1000):IntKind.i64.wrap (x+n)=x+n:=IntWalk.i64_in _ (by omega)
set_option maxHeartbeats 40000000 in
theorem joinObjects_any (a b:OV) (w:World) (hra:RdO w w.heap.size a) (hrb:RdO w w.heap.size b) (hfa:Fit a) (hfb:Fit b) (hna:Nils a) (hnb:Nils b):
  Calls Tryz.prog 92 #[.agg #[.slice a.A a.ps.length a.c,.slice a.Y a.ys.length a.yc],.agg #[.slice b.A b.ps.length b.c,.slice b.Y b.ys.length b.yc]] w (RetOB (joinD a.d b.d) w):=by
 obtain ⟨i0,hi1,hi2,hi3,hi4⟩:=info_parts CInts.info64;have HI:=h_ (And.intro hi1 (And.intro hi2 (And.intro hi3 hi4)));clear hi1 hi2 hi3 hi4;obtain ⟨iY,hiy1,hiy2,hiy3,hiy4⟩:=info_parts CSymbols.info;have HIY:=h_ (And.intro hiy1 (And.intro hiy2 (And.intro hiy3 hiy4)));clear hiy1 hiy2 hiy3 hiy4;obtain ⟨iS,his1,his2,his3,his4⟩:=info_parts BObj.info;have HIS:=h_ (And.intro his1 (And.intro his2 (And.intro his3 his4)));clear his1 his2 his3 his4;obtain ⟨aA,ac,aps,aY,ayc,ays⟩:=a;obtain ⟨bA,bc,bps,bY,byc,bys⟩:=b;have HRA:=h_ hra;have HRB:=h_ hrb;have HFA:=h_ hfa;have HFB0:=h_ hfb;have HNA:=h_ hna;have HNB:=h_ hnb;clear hra hrb hfa hfb hna hnb;simp only;have HB:=h_ (show Below w.heap.size w (((w.alloc (.cells #[.slice aA aps.length ac,.slice aY ays.length ayc] 26)).alloc (.cells #[.slice bA bps.length bc,.slice bY bys.length byc] 26)).alloc (.cells #[.slice none 0 0,.slice none 0 0] 26)) from b_);have HBA:=h_ (((Box.new w 26 #[.slice aA aps.length ac,.slice aY ays.length ayc]).alloc (.cells #[.slice bA bps.length bc,.slice bY bys.length byc] 26)).alloc (.cells #[.slice none 0 0,.slice none 0 0] 26));have h1:=(Box.new (w.alloc (.cells #[.slice aA aps.length ac,.slice aY ays.length ayc] 26)) 26 #[.slice bA bps.length bc,.slice bY bys.length byc]).alloc (.cells #[.slice none 0 0,.slice none 0 0] 26);have h2:=Box.new ((w.alloc (.cells #[.slice aA aps.length ac,.slice aY ays.length ayc] 26)).alloc (.cells #[.slice bA bps.length bc,.slice bY bys.length byc] 26)) 26 #[.slice none 0 0,.slice none 0 0];simp only [World.size_alloc] at h1 h2;have HBB:=h_ h1;have HRR:=h_ h2;clear h1 h2
 go_enter Tryz.func92,Tryz.ntmps92
 go_wp2_with fail
 generalize (((w.alloc (.cells #[.slice aA aps.length ac,.slice aY ays.length ayc] 26)).alloc (.cells #[.slice bA bps.length bc,.slice bY bys.length byc] 26)).alloc (.cells #[.slice none 0 0,.slice none 0 0] 26))=w0 at *;generalize hV:w.heap.size+1=V at *;generalize hR:V+1=R at *;have HVR:=h_ (show w.heap.size<V/\V<R from by omega);have HR0:=h_ (show w.heap.size<R from by omega);clear hV hR;refine (objectValid_any ⟨aA,ac,aps,aY,ayc,ays⟩ w0 ((HRA.o.below HB.o).more HB.o.size) HFA.o).mono ?_;rintro e w1 ⟨rfl,b1⟩;replace HB:=c_ HB b1;replace HBA:=h_ (HBA.o.call b1);replace HBB:=h_ (HBB.o.call b1);replace HRR:=h_ (HRR.o.call b1);clear b1;have HJD:=h_ (show joinD (OV.d ⟨aA,ac,aps,aY,ayc,ays⟩) (OV.d ⟨bA,bc,bps,bY,byc,bys⟩)=if objOk (OV.d ⟨aA,ac,aps,aY,ayc,ays⟩)=true/\objOk (OV.d ⟨bA,bc,bps,bY,byc,bys⟩)=true/\(twice [(OV.d ⟨aA,ac,aps,aY,ayc,ays⟩),(OV.d ⟨bA,bc,bps,bY,byc,bys⟩)]).length=0/\objOk (joinR (OV.d ⟨aA,ac,aps,aY,ayc,ays⟩) (OV.d ⟨bA,bc,bps,bY,byc,bys⟩))=true then some (joinR (OV.d ⟨aA,ac,aps,aY,ayc,ays⟩) (OV.d ⟨bA,bc,bps,bY,byc,bys⟩)) else none from rfl)
 cases hoa:objOk (OV.d ⟨aA,ac,aps,aY,ayc,ays⟩)
 ·have HV:=h_ (HJD.o.trans (if_neg (by rw [hoa]; rintro ⟨h,_⟩; cases h)));clear hoa HJD;have y0:=d_ HRR.o 0;have y1:=d_ HRR.o 1;have yf0:=HRR.o.frozen 0;have yf1:=HRR.o.frozen 1;have hrl:=HRR.o.lt;obtain ⟨k0,k1⟩:=cells2 (u:=.slice none 0 0) (v:=.slice none 0 0) HRR.o;have HFB:=h_ (below2 HB.o (Nat.le_of_lt HR0.o) (.slice none 0 0) (.slice none 0 0))
  go_wp2_with fail
  (try simp only [Exit.inBlock,Exit.then])
  exact bodyPost_ret (v:=.tuple #[.agg #[.slice none 0 0,.slice none 0 0],.bool false]) (by simp [results,Tryz.results92,go_sem,k0,k1]) rfl (by rw [HV.o]; exact ret_nilO HFB.o)
 have y0:=d_ HBB.o 0;have y1:=d_ HBB.o 1;have hyl:=HBB.o.lt;have HOA:=h_ hoa;clear hoa
 go_wp2_with fail
 clear y0 y1 hyl;refine (objectValid_any ⟨bA,bc,bps,bY,byc,bys⟩ w1 ((HRB.o.below HB.o).more HB.o.size) HFB0.o).mono ?_;rintro e w2 ⟨rfl,b2⟩;replace HB:=c_ HB b2;replace HBA:=h_ (HBA.o.call b2);replace HBB:=h_ (HBB.o.call b2);replace HRR:=h_ (HRR.o.call b2);clear b2
 cases hob:objOk (OV.d ⟨bA,bc,bps,bY,byc,bys⟩)
 ·have HV:=h_ (HJD.o.trans (if_neg (by rw [hob]; rintro ⟨_,h,_⟩; cases h)));clear hob HJD;have y0:=d_ HRR.o 0;have y1:=d_ HRR.o 1;have yf0:=HRR.o.frozen 0;have yf1:=HRR.o.frozen 1;have hrl:=HRR.o.lt;obtain ⟨k0,k1⟩:=cells2 (u:=.slice none 0 0) (v:=.slice none 0 0) HRR.o;have HFB:=h_ (below2 HB.o (Nat.le_of_lt HR0.o) (.slice none 0 0) (.slice none 0 0))
  go_wp2_with fail
  (try simp only [Exit.inBlock,Exit.then])
  exact bodyPost_ret (v:=.tuple #[.agg #[.slice none 0 0,.slice none 0 0],.bool false]) (by simp [results,Tryz.results92,go_sem,k0,k1]) rfl (by rw [HV.o]; exact ret_nilO HFB.o)
 have HOB:=h_ hob;clear hob;obtain ⟨va1,va2,va3,va4⟩:=valid_sm HOA.o;obtain ⟨vb1,vb2,vb3,vb4⟩:=valid_sm HOB.o;have HSA:=h_ (obj_all HOA.o);have HSB:=h_ (obj_all HOB.o);have ha12:ays.length<=12:=HSA.o.2.1;have hb12:bys.length<=12:=HSB.o.2.1
 have ha8:aps.length<=8:=by have h:=HSA.o.1; simpa [OV.d] using h
 have hb8:bps.length<=8:=by have h:=HSB.o.1; simpa [OV.d] using h
 have HYB:=h_ (show ∀ y ∈ bys,-2<=y.2.2.1/\y.2.2.1<=8 from fun y hy=>sym_wh (((obj_iff _).1 HOB.o).2.2.2.1 y hy) ((obj_iff _).1 HOB.o).1);clear va1 va2 va3 va4 vb1 vb2 vb3 vb4;have x0:=d_ HBA.o 0;have x1:=d_ HBA.o 1;have y0:=d_ HBB.o 0;have y1:=d_ HBB.o 1;have hxl:=HBA.o.lt;have hyl:=HBB.o.lt;have BL:Below w2.heap.size w2 (w2.alloc (.cells #[.slice aA aps.length ac,.slice aY ays.length ayc,.slice bA bps.length bc,.slice bY bys.length byc] 26)):=b_
 have HTW:=h_ (show Calls Tryz.prog 53 #[.slice (some ⟨w2.heap.size,0,none⟩) 2 2] (w2.alloc (.cells #[.slice aA aps.length ac,.slice aY ays.length ayc,.slice bA bps.length bc,.slice bY bys.length byc] 26)) (RetN (srtN (twice [(OV.d ⟨aA,ac,aps,aY,ayc,ays⟩),(OV.d ⟨bA,bc,bps,bY,byc,bys⟩)])) (w2.alloc (.cells #[.slice aA aps.length ac,.slice aY ays.length ayc,.slice bA bps.length bc,.slice bY bys.length byc] 26))) from by
  have hrd:=rd_lit w2 #[.slice aA aps.length ac,.slice aY ays.length ayc,.slice bA bps.length bc,.slice bY bys.length byc] 26 _ rfl
  have hsz:(w2.alloc (.cells #[.slice aA aps.length ac,.slice aY ays.length ayc,.slice bA bps.length bc,.slice bY bys.length byc] 26)).heap.size=w2.heap.size+1:=by simp
  have h:=namesTwice_any (some ⟨w2.heap.size,0,none⟩) [⟨aA,ac,aps,aY,ayc,ays⟩,⟨bA,bc,bps,bY,byc,bys⟩] 2 (w2.alloc (.cells #[.slice aA aps.length ac,.slice aY ays.length ayc,.slice bA bps.length bc,.slice bY bys.length byc] 26)) ⟨by rw [hsz]; exact hrd,fun o ho=>by
   simp only [List.mem_cons,List.not_mem_nil,or_false] at ho
   rcases ho with rfl | rfl
   ·exact (HRA.o.below (HB.o.trans (BL.mono HB.o.size))).more (by rw [hsz]; have:=HB.o.size; omega)
   ·exact (HRB.o.below (HB.o.trans (BL.mono HB.o.size))).more (by rw [hsz]; have:=HB.o.size; omega)⟩ ⟨by simp,fun o ho=>by
   simp only [List.mem_cons,List.not_mem_nil,or_false] at ho
   rcases ho with rfl | rfl
   ·exact ha12
   ·exact hb12⟩
  exact h)
 replace HB:=c_ HB BL;replace HBA:=h_ (HBA.o.call BL);replace HBB:=h_ (HBB.o.call BL);replace HRR:=h_ (HRR.o.call BL);clear BL
 go_wp2_with fail
 clear x0 x1 y0 y1 hxl hyl;generalize w2.alloc (.cells #[.slice aA aps.length ac,.slice aY ays.length ayc,.slice bA bps.length bc,.slice bY bys.length byc] 26)=w3 at *;refine HTW.o.mono ?_;rintro e w4 ⟨A3,c3,rfl,_,b3⟩;clear HTW;replace HB:=c_ HB b3;replace HBA:=h_ (HBA.o.call b3);replace HBB:=h_ (HBB.o.call b3);replace HRR:=h_ (HRR.o.call b3);clear b3;have HTP:=h_ (srtN_pos (twice [(OV.d ⟨aA,ac,aps,aY,ayc,ays⟩),(OV.d ⟨bA,bc,bps,bY,byc,bys⟩)]))
 by_cases ht:0<(twice [(OV.d ⟨aA,ac,aps,aY,ayc,ays⟩),(OV.d ⟨bA,bc,bps,bY,byc,bys⟩)]).length
 ·have HV:=h_ (HJD.o.trans (if_neg (by rintro ⟨_,_,h,_⟩; omega)));have et:decide (0<(srtN (twice [(OV.d ⟨aA,ac,aps,aY,ayc,ays⟩),(OV.d ⟨bA,bc,bps,bY,byc,bys⟩)])).length)=true:=decide_eq_true (HTP.o.2 ht);generalize (srtN (twice [(OV.d ⟨aA,ac,aps,aY,ayc,ays⟩),(OV.d ⟨bA,bc,bps,bY,byc,bys⟩)])).length=tn at *;clear ht HJD;have y0:=d_ HRR.o 0;have y1:=d_ HRR.o 1;have yf0:=HRR.o.frozen 0;have yf1:=HRR.o.frozen 1;have hrl:=HRR.o.lt;obtain ⟨k0,k1⟩:=cells2 (u:=.slice none 0 0) (v:=.slice none 0 0) HRR.o;have HFB:=h_ (below2 HB.o (Nat.le_of_lt HR0.o) (.slice none 0 0) (.slice none 0 0))
  go_wp2_with fail
  (try simp only [Exit.inBlock,Exit.then])
  exact bodyPost_ret (v:=.tuple #[.agg #[.slice none 0 0,.slice none 0 0],.bool false]) (by simp [results,Tryz.results92,go_sem,k0,k1]) rfl (by rw [HV.o]; exact ret_nilO HFB.o)
 have et:decide (0<(srtN (twice [(OV.d ⟨aA,ac,aps,aY,ayc,ays⟩),(OV.d ⟨bA,bc,bps,bY,byc,bys⟩)])).length)=false:=decide_eq_false (fun h=>ht (HTP.o.1 h));have HT0:=h_ (show (twice [(OV.d ⟨aA,ac,aps,aY,ayc,ays⟩),(OV.d ⟨bA,bc,bps,bY,byc,bys⟩)]).length=0 from by omega);clear ht HTP;generalize (srtN (twice [(OV.d ⟨aA,ac,aps,aY,ayc,ays⟩),(OV.d ⟨bA,bc,bps,bY,byc,bys⟩)])).length=tn at *;have x0:=d_ HBA.o 0;have x1:=d_ HBA.o 1;have hxl:=HBA.o.lt
 go_wp2_with fail
 clear x0 x1 hxl et;refine (copyObject_any ⟨aA,ac,aps,aY,ayc,ays⟩ w4 ((HRA.o.below HB.o).more HB.o.size) HFA.o HNA.o ⟨by show aps.length<=100; omega,by show ays.length<=100; omega⟩).mono ?_;rintro e w5 ⟨q,rfl,hqd,o5,b5⟩;have HQD:=h_ hqd;simp only [OV.v];have B6:Below w5.heap.size w5 ((w5.alloc (.cells #[] 3)).alloc (.cells #[.slice q.A q.ps.length q.c,.slice q.Y q.ys.length q.yc] 26)):=b_;have hO:=Box.new (w5.alloc (.cells #[] 3)) 26 #[.slice q.A q.ps.length q.c,.slice q.Y q.ys.length q.yc];simp only [World.size_alloc] at hO;have HRw:=h_ HRR.o.lt;have hs45:=b5.size;replace HB:=c_ HB b5;replace HBA:=h_ (HBA.o.call b5);replace HBB:=h_ (HBB.o.call b5);replace HRR:=h_ (HRR.o.call b5);replace HB:=c_ HB B6;replace HBA:=h_ (HBA.o.call B6);replace HBB:=h_ (HBB.o.call B6);replace HRR:=h_ (HRR.o.call B6)
 have HJ:=h_ (show J1 w V R (w5.heap.size+1) ⟨aA,ac,aps,aY,ayc,ays⟩ ⟨bA,bc,bps,bY,byc,bys⟩ q (some ⟨w5.heap.size,0,none⟩) 0 [] ((w5.alloc (.cells #[] 3)).alloc (.cells #[.slice q.A q.ps.length q.c,.slice q.Y q.ys.length q.yc] 26)) from
  ⟨HBA.o,HBB.o,HRR.o,hO,(o5.down (by have:=HRw.o; have:=HR0.o; omega)).call B6,Row.empty _ _ _ _ _,HB.o,⟨HVR.o.1,HVR.o.2,by have:=HRw.o; omega⟩⟩)
 clear o5 b5 B6 hO hqd HRR HBA HBB HB HRw hs45;have y1:=d_ HJ.o.bb 1;have hyl:=HJ.o.bb.lt
 go_wp2_with fail
 clear y1 hyl;generalize (w5.alloc (.cells #[] 3)).alloc (.cells #[.slice q.A q.ps.length q.c,.slice q.Y q.ys.length q.yc] 26)=w6 at *;generalize w5.heap.size+1=O at *
 have HQY:=h_ (show q.ys=ays/\q.ps.map SV.d=aps.map SV.d from by
  have h:=HQD.o;simp only [OV.d,OD.mk.injEq] at h
  exact ⟨h.2,h.1⟩)
 go_loopw [7,38] (fun nv i wi=>∃ (k:Nat) (o:OV) (An:Option Addr) (cn:Nat) (ns:List Int),k<=bys.length/\nv=.slice An ns.length cn/\i=.int .i64 k/\(o.ys,ns)=joinY aps.length ays (bys.take k)/\o.ps.map SV.d=aps.map SV.d/\J1 w V R O ⟨aA,ac,aps,aY,ayc,ays⟩ ⟨bA,bc,bps,bY,byc,bys⟩ o An cn ns wi) (fun _ i _=>bys.length - (intOf i).toNat)
 case atStart=>exact ⟨0,q,_,0,[],Nat.zero_le _,rfl,rfl,by rw [HQY.o.1]; rfl,HQY.o.2,HJ.o⟩
 case round=>
  clear HJ HQY HQD;obtain ⟨k,⟨oA,oc,ops,oY,oyc,oys⟩,An,cn,ns,hk,rfl,rfl,hjy,hod,hj⟩:=hrel;simp only at hjy hod;have HJ:=h_ hj;have HOD:=h_ hod;have HJY:=h_ hjy;clear hj hod hjy
  have hol:ays.length<=oys.length/\oys.length<=ays.length+k/\ns.length=k:=by
   have h:=joinY_len aps.length ays (bys.take k) (ays,[]) (Nat.le_refl _);have h2:(oys,ns)=(bys.take k).foldl (jstep aps.length ays) (ays,[]):=HJY.o;rw [<-h2] at h;simp only [List.length_take,List.length_nil] at h;have hm:min k bys.length=k:=Nat.min_eq_left hk;rw [hm] at h;omega
  obtain ⟨hol1,hol2,hol3⟩:=hol;have HNL:=h_ hol3
  have hol4:ns.length<=12:=by omega
  clear hol3
  by_cases hlt:k<bys.length
  ·obtain ⟨bb,off,hbY,hbb,hc⟩:=(HRB.o.2.below HJ.o.b).row symbolC_len (by decide) hlt;simp only at hbY;have hc0:=hc 0 _ rfl;have hc1:=hc 1 _ rfl;have hc2:=hc 2 _ rfl;have hc3:=hc 3 _ rfl;simp only [Nat.add_zero] at hc0;subst hbY;have HYS:=h_ (HYB.o _ (List.getElem_mem hlt));have HSN:=h_ (joinY_snoc aps.length ays hlt);rw [<-HJY.o] at HSN;clear hc HJY;generalize bys[k]=s at *;have B1:Below wr.heap.size wr ((wr.alloc (.cells #[.string s.1,.int .i64 s.2.1,.int .i64 s.2.2.1,.int .i64 s.2.2.2] 67)).alloc (.cells #[.string s.1,.int .i64 s.2.1,.int .i64 s.2.2.1,.int .i64 s.2.2.2] 67)):=b_;have HB1:=h_ B1;have HX9:=h_ ((Box.new wr 67 #[.string s.1,.int .i64 s.2.1,.int .i64 s.2.2.1,.int .i64 s.2.2.2]).alloc (.cells #[.string s.1,.int .i64 s.2.1,.int .i64 s.2.2.1,.int .i64 s.2.2.2] 67));have hx:=Box.new (wr.alloc (.cells #[.string s.1,.int .i64 s.2.1,.int .i64 s.2.2.1,.int .i64 s.2.2.2] 67)) 67 #[.string s.1,.int .i64 s.2.1,.int .i64 s.2.2.1,.int .i64 s.2.2.2];simp only [World.size_alloc] at hx;have HXO:=h_ hx;clear B1 hx
   go_upto_if 45 with (fail)
   clear hc0 hc1 hc2 hc3;generalize (wr.alloc (.cells #[.string s.1,.int .i64 s.2.1,.int .i64 s.2.2.1,.int .i64 s.2.2.2] 67)).alloc (.cells #[.string s.1,.int .i64 s.2.1,.int .i64 s.2.2.1,.int .i64 s.2.2.2] 67)=wx at *;generalize hXX:wr.heap.size+1=X at *
   have hXw:wr.heap.size<X:=by omega
   clear hXX
   go_cut [] from 43 to 52 (fun wy=>Below wr.heap.size wr wy/\Box wy wr.heap.size 67 #[.string s.1,.int .i64 s.2.1,.int .i64 s.2.2.1,.int .i64 s.2.2.2]/\Box wy X 67 #[.string s.1,.int .i64 s.2.1,.int .i64 (shiftY aps.length s).2.2.1,.int .i64 s.2.2.2])
   case first=>
    obtain ⟨hw0,hw1⟩:=HYS.o
    by_cases hneg:s.2.2.1<0
    ·have HSH:=h_ (show (shiftY aps.length s).2.2.1=s.2.2.1 from if_pos hneg);have hd:decide (0<=s.2.2.1)=false:=decide_eq_false (by omega)
     go_wp2_with fail
     go_meet
     rw [HSH.o];exact ⟨HB1.o,HX9.o,HXO.o⟩
    ·have HSH:=h_ (show (shiftY aps.length s).2.2.1=s.2.2.1+aps.length from if_neg hneg);have hd:decide (0<=s.2.2.1)=true:=decide_eq_true (by omega);have hwp:IntKind.i64.wrap (s.2.2.1+(aps.length:Int))=s.2.2.1+(aps.length:Int):=wrap_add (by omega);have HJx:=h_ (HJ.o.call HB1.o);have x0:=d_ HJx.o.ba 0;have o2:=d_ HXO.o 2;have of2:=HXO.o.frozen 2;have hxl:=HJx.o.ba.lt;have hol:=HXO.o.lt;have HB2:=h_ (HB1.o.setCell (p:=⟨X,2,none⟩) (Nat.le_of_lt hXw) (.int .i64 (s.2.2.1+(aps.length:Int))));have HX2:=h_ (HXO.o.set 2 (.int .i64 (s.2.2.1+(aps.length:Int))));have HX92:=h_ (HX9.o.far (p:=⟨X,2,none⟩) (by show wr.heap.size ≠ X; omega) (.int .i64 (s.2.2.1+(aps.length:Int))))
     go_wp2_with fail
     go_meet
     rw [HSH.o];exact ⟨HB2.o,HX92.o,HX2.o⟩
   case rest=>
    rename World=>wy
    obtain ⟨bw,h9,h10⟩:=hcut;clear HX9 HXO HB1;replace HJ:=h_ (HJ.o.call bw);have HX9:=h_ h9;have HXO:=h_ h10;clear bw h9 h10 hXw;generalize wr.heap.size=X9 at *;generalize hwh:(shiftY aps.length s).2.2.1=wh at *;have HWH:=h_ (show shiftY aps.length s=(s.1,s.2.1,wh,s.2.2.2) from by rw [<-hwh]; rfl);clear hwh;have x1:=d_ HJ.o.ba 1;have s0:=d_ HX9.o 0;have hxl:=HJ.o.ba.lt;have hsl:=HX9.o.lt
    go_wp2_with fail
    refine (globX_any s.1 aY ays ayc wy ((HRA.o.2.below HJ.o.b).more HJ.o.b.size) (by unfold maxLen; omega)).mono ?_;rintro e w7 ⟨rfl,b7⟩;clear x1 s0 hxl hsl;replace HJ:=h_ (HJ.o.call b7);replace HX9:=h_ (HX9.o.call b7);replace HXO:=h_ (HXO.o.call b7);clear b7;generalize hgi:globI ays s.1=gi at *;have HGI:=h_ hgi;clear hgi
    go_upto_block 2 with (fail)
    go_cut [11] from 58 to 87 (fun v wz=>∃ (j:Nat) (o2:OV),v=.int .i64 j/\(o2.ys,ns++[(j:Int)])=jstep aps.length ays (oys,ns) s/\o2.ps.map SV.d=aps.map SV.d/\J1 w V R O ⟨aA,ac,aps,aY,ayc,ays⟩ ⟨bA,bc,bps,some ⟨bb,off,none⟩,byc,bys⟩ o2 An cn ns wz)
    case first=>
     go_upto_region 11 with fail
     have s1:=d_ HX9.o 1;have hsl:=HX9.o.lt
     go_cut [58] from 59 to 65 (fun v wx=>v=.bool (decide (s.2.1=0) || (glob ays s.1).isNone)/\wx=w7)
     case first=>
      by_cases h0:s.2.1=0
      ·have hq:(s.2.1 == 0)=true:=beq_iff_eq.2 h0
       have HD:=h_ (show (decide (s.2.1=0) || (glob ays s.1).isNone)=true from by rw [decide_eq_true h0]; rfl)
       clear h0
       go_wp2_with fail
       go_meet
       exact ⟨by rw [HD.o],rfl⟩
      ·have hq:(s.2.1 == 0)=false:=beq_eq_false_iff_ne.2 h0
       cases hgl:glob ays s.1 with
       | none=>
        have hg:gi=-1:=HGI.o.symm.trans (by unfold globI; rw [hgl]);have hd:decide (gi<0)=true:=decide_eq_true (by omega)
        have HD:=h_ (show (decide (s.2.1=0) || (glob ays s.1).isNone)=true from by rw [decide_eq_false h0,hgl]; rfl)
        clear h0 hgl hg
        go_wp2_with fail
        go_meet
        exact ⟨by rw [HD.o],rfl⟩
       | some j=>
        have hg:gi=(j:Int):=HGI.o.symm.trans (by unfold globI; rw [hgl]);have hd:decide (gi<0)=false:=decide_eq_false (by omega)
        have HD:=h_ (show (decide (s.2.1=0) || (glob ays s.1).isNone)=false from by rw [decide_eq_false h0,hgl]; rfl)
        clear h0 hgl hg
        go_wp2_with fail
        go_meet
        exact ⟨by rw [HD.o],rfl⟩
     case rest=>
      obtain ⟨rfl,rfl⟩:=hcut;clear s1 hsl
      cases hnw:(decide (s.2.1=0) || (glob ays s.1).isNone)
      ·obtain ⟨h0,hgn⟩:=Bool.or_eq_false_iff.1 hnw
       cases hgl:glob ays s.1 with
       | none=>rw [hgl] at hgn; cases hgn
       | some j=>
        have hjl:j<ays.length:=by
         have h:=fiS_spec ays 0 j hgl;omega
        obtain rfl:gi=(j:Int):=HGI.o.symm.trans (by unfold globI; rw [hgl])
        have HJS:=h_ (show jstep aps.length ays (oys,ns) s=jset aps.length ays (oys,ns) s j from by
         unfold jstep
         rw [if_neg (of_decide_eq_false h0),hgl])
        clear hnw h0 hgn hgl HGI;obtain ⟨ab,aoff,haY,hab,hca⟩:=(HRA.o.2.below HJ.o.b).row symbolC_len (by decide) hjl;simp only at haY;have c0:=hca 0 _ rfl;have c1:=hca 1 _ rfl;have c2:=hca 2 _ rfl;have c3:=hca 3 _ rfl;simp only [Nat.add_zero] at c0;subst haY;have HYJ:=h_ (show ays.getD j dY=ays[j] from by rw [List.getD_eq_getElem?_getD,List.getElem?_eq_getElem hjl]; rfl);generalize ays[j]=y at *;have x1:=d_ HJ.o.ba 1;have s0:=d_ HX9.o 0;have s1:=d_ HX9.o 1;have s2:=d_ HX9.o 2;have s3:=d_ HX9.o 3;have hxl:=HJ.o.ba.lt;have hsl:=HX9.o.lt;have habl:ab<wc.heap.size:=Nat.lt_of_lt_of_le hab HJ.o.b.size;clear hca
        have hj0:(0:Int)<=(j:Int):=by omega
        go_wp2_with fail
        refine Reg.startT (fun W=>W.cell? ⟨w.heap.size,1,none⟩=some (.slice (some ⟨ab,aoff,none⟩) ays.length ayc)/\W.cell? ⟨ab,aoff+j*4,none⟩=some (.string y.1)/\W.cell? ⟨ab,aoff+j*4+1,none⟩=some (.int .i64 y.2.1)/\W.cell? ⟨ab,aoff+j*4+2,none⟩=some (.int .i64 y.2.2.1)/\W.cell? ⟨ab,aoff+j*4+3,none⟩=some (.int .i64 y.2.2.2)/\W.cell? ⟨X9,0,none⟩=some (.string s.1)/\W.cell? ⟨X9,1,none⟩=some (.int .i64 s.2.1)/\W.cell? ⟨X9,2,none⟩=some (.int .i64 s.2.2.1)/\W.cell? ⟨X9,3,none⟩=some (.int .i64 s.2.2.2)) (fun _=>false) (by kernel_rfl) ?_;have hHeld:wc.drew.cell? ⟨w.heap.size,1,none⟩=some (.slice (some ⟨ab,aoff,none⟩) ays.length ayc)/\wc.drew.cell? ⟨ab,aoff+j*4,none⟩=some (.string y.1)/\wc.drew.cell? ⟨ab,aoff+j*4+1,none⟩=some (.int .i64 y.2.1)/\wc.drew.cell? ⟨ab,aoff+j*4+2,none⟩=some (.int .i64 y.2.2.1)/\wc.drew.cell? ⟨ab,aoff+j*4+3,none⟩=some (.int .i64 y.2.2.2)/\wc.drew.cell? ⟨X9,0,none⟩=some (.string s.1)/\wc.drew.cell? ⟨X9,1,none⟩=some (.int .i64 s.2.1)/\wc.drew.cell? ⟨X9,2,none⟩=some (.int .i64 s.2.2.1)/\wc.drew.cell? ⟨X9,3,none⟩=some (.int .i64 s.2.2.2):=⟨x1,c0,c1,c2,c3,s0,s1,s2,s3⟩;refine t_ 0 rfl ?_;refine t_ 1 rfl ?_;refine t_ 2 rfl ?_;refine t_ 3 rfl ?_;refine t_ 4 rfl ?_;refine t_ 5 rfl ?_;refine Reg.oneT (i:=6) rfl (by kernel_rfl) (fun K hK=>?_)
        go_simp
        refine (takes_any y s _).mono ?_;rintro e w8 ⟨rfl,b8⟩;have b8':=of_drew b8;have hHeld:w8.cell? ⟨w.heap.size,1,none⟩=some (.slice (some ⟨ab,aoff,none⟩) ays.length ayc)/\w8.cell? ⟨ab,aoff+j*4,none⟩=some (.string y.1)/\w8.cell? ⟨ab,aoff+j*4+1,none⟩=some (.int .i64 y.2.1)/\w8.cell? ⟨ab,aoff+j*4+2,none⟩=some (.int .i64 y.2.2.1)/\w8.cell? ⟨ab,aoff+j*4+3,none⟩=some (.int .i64 y.2.2.2)/\w8.cell? ⟨X9,0,none⟩=some (.string s.1)/\w8.cell? ⟨X9,1,none⟩=some (.int .i64 s.2.1)/\w8.cell? ⟨X9,2,none⟩=some (.int .i64 s.2.2.1)/\w8.cell? ⟨X9,3,none⟩=some (.int .i64 s.2.2.2):=⟨(b8'.cell (p:=⟨w.heap.size,1,none⟩) hxl).trans x1,(b8'.cell (p:=⟨ab,aoff+j*4,none⟩) habl).trans c0,(b8'.cell (p:=⟨ab,aoff+j*4+1,none⟩) habl).trans c1,(b8'.cell (p:=⟨ab,aoff+j*4+2,none⟩) habl).trans c2,(b8'.cell (p:=⟨ab,aoff+j*4+3,none⟩) habl).trans c3,(b8'.cell (p:=⟨X9,0,none⟩) hsl).trans s0,(b8'.cell (p:=⟨X9,1,none⟩) hsl).trans s1,(b8'.cell (p:=⟨X9,2,none⟩) hsl).trans s2,(b8'.cell (p:=⟨X9,3,none⟩) hsl).trans s3⟩;refine hK.out _ _ hHeld ?_;clear hK K
        try simp only [y1_,y2_,y3_,Act.put,y4_,y5_,y6_]
        refine t_ 7 rfl ?_;refine Reg.doneT (by kernel_rfl) ?_ _;clear hHeld x1 s0 s1 s2 s3 c0 c1 c2 c3 hxl hsl habl hab;replace HJ:=h_ (HJ.o.call b8');replace HXO:=h_ (HXO.o.call b8');clear b8 b8' HX9
        cases htb:takesB y s
        ·have HJ2:=h_ (show (oys,ns++[(j:Int)])=jstep aps.length ays (oys,ns) s from by
          rw [HJS.o];unfold jset;rw [HYJ.o,htb]
          rfl)
         clear htb
         go_wp2_with fail
         go_meet
         exact ⟨j,_,rfl,HJ2.o,HOD.o,HJ.o⟩
        ·have HJ2:=h_ (show (oys.set j (s.1,s.2.1,wh,s.2.2.2),ns++[(j:Int)])=jstep aps.length ays (oys,ns) s from by
          rw [HJS.o];unfold jset;rw [HYJ.o,htb,HWH.o]
          rfl)
         clear htb;obtain ⟨g,hYg,hg1,hg2,hgb,hown⟩:=own_of HJ.o.own.2 (by show 0<oys.length; omega);simp only at hYg;subst hYg
         have hjo:j<oys.length:=by omega
         simp only at hown;obtain ⟨⟨old0,hk0⟩,hfz0⟩:=own_old hown (j:=j*4) (by omega);obtain ⟨⟨old1,hk1⟩,hfz1⟩:=own_old hown (j:=j*4+1) (by omega);obtain ⟨⟨old2,hk2⟩,hfz2⟩:=own_old hown (j:=j*4+2) (by omega);obtain ⟨⟨old3,hk3⟩,hfz3⟩:=own_old hown (j:=j*4+3) (by omega);have HJ3:=h_ (J1.store HJ.o rfl hjo (s.1,s.2.1,wh,s.2.2.2));simp only [putY] at HJ3;have o1:=d_ HJ.o.bo 1;have t0:=d_ HXO.o 0;have t1:=d_ HXO.o 1;have t2:=d_ HXO.o 2;have t3:=d_ HXO.o 3;have hol:=HJ.o.bo.lt;have htl:=HXO.o.lt;clear hown hgb
         go_wp2_with fail
         go_meet
         exact ⟨j,⟨oA,oc,ops,some ⟨g,0,none⟩,oyc,oys.set j (s.1,s.2.1,wh,s.2.2.2)⟩,rfl,HJ2.o,HOD.o,HJ3.o⟩
      ·have HJS:=h_ (show jstep aps.length ays (oys,ns) s=jput aps.length (oys,ns) s from by
        unfold jstep
        split
        ·rfl
        ·rename_i hne;rw [decide_eq_false hne,Bool.false_or] at hnw
         cases hgl:glob ays s.1 with
         | none=>rfl
         | some j=>rw [hgl] at hnw; cases hnw)
       clear hnw HGI HX9;have o1:=d_ HJ.o.bo 1;have t0:=d_ HXO.o 0;have t1:=d_ HXO.o 1;have t2:=d_ HXO.o 2;have t3:=d_ HXO.o 3;have hol:=HJ.o.bo.lt;have htl:=HXO.o.lt;have BA:Below wc.heap.size wc (wc.alloc (.cells #[.string s.1,.int .i64 s.2.1,.int .i64 wh,.int .i64 s.2.2.2] 67)):=b_;have HJa:=h_ (HJ.o.call BA);clear BA
       go_wp2_with (at_builtin; refine wpList_app (wc.alloc (.cells #[.string s.1,.int .i64 s.2.1,.int .i64 wh,.int .i64 s.2.2.2] 67)) rfl (.tmp 70) (.tmp 72) 24 rfl 67 iY (.agg #[.string ByteArray.empty,.int .i64 0,.int .i64 0,.int .i64 0]) 4 40 Tryz.underlying24 HIY.o.1 HIY.o.2.1 HIY.o.2.2.1 HIY.o.2.2.2 rfl (by decide) w.heap.size oY oys.length oyc (cellsOf symbolC oys) rfl HJa.o.own.2 HJa.o.b.size (some ⟨wc.heap.size,0,none⟩) 1 1 (symbolC (s.1,s.2.1,wh,s.2.2.2)) rfl (rd_lit wc #[.string s.1,.int .i64 s.2.1,.int .i64 wh,.int .i64 s.2.2.2] 67 _ rfl) rfl (fun h=>by cases h) (one_sy _) ?n1 ?n2 ?_)
       case n1=>unfold maxLen; omega
       case n2=>omega
       intro A9 n9 c9 wz hn9 o9 g9 k9;subst hn9;have HJ9:=h_ (J1.addY HJa.o (s.1,s.2.1,wh,s.2.2.2) rfl o9 g9);have HBO:=h_ (HJa.o.bo.grown g9 (HJa.o.own.2.box HJa.o.bo (by decide)))
       have HJ2:=h_ (show (oys++[(s.1,s.2.1,wh,s.2.2.2)],ns++[(oys.length:Int)])=jstep aps.length ays (oys,ns) s from by
        rw [HJS.o];unfold jput
        rw [HWH.o])
       clear o9 g9 k9 o1 t0 t1 t2 t3 hol htl HJa;have o1:=d_ HBO.o 1;have of1:=HBO.o.frozen 1;have hol:=HBO.o.lt
       go_wp2_with fail
       go_meet
       exact ⟨oys.length,⟨oA,oc,ops,A9,c9,oys++[(s.1,s.2.1,wh,s.2.2.2)]⟩,rfl,HJ2.o,HOD.o,HJ9.o⟩
    case rest=>
     rename World=>wz
     obtain ⟨j,o2,rfl,hjs,hod2,hj2⟩:=hcut;have HJS:=h_ (HSN.o.trans hjs.symm);have HJ2:=h_ hj2;have HOD2:=h_ hod2;clear hjs hj2 hod2 HSN HJ HX9 HXO HGI HWH HOD;have BA:Below wz.heap.size wz (wz.alloc (.cells #[.int .i64 j] 3)):=b_;have HJa:=h_ (HJ2.o.call BA);clear BA HJ2
     go_wp2_with (at_builtin; refine wpList_app (wz.alloc (.cells #[.int .i64 j] 3)) rfl (.tmp 88) (.tmp 90) 89 rfl 3 i0 (.int .i64 0) 1 8 Tryz.underlying89 HI.o.1 HI.o.2.1 HI.o.2.2.1 HI.o.2.2.2 rfl (by decide) w.heap.size An ns.length cn (ints .i64 ns) rfl HJa.o.row HJa.o.b.size (some ⟨wz.heap.size,0,none⟩) 1 1 [.int .i64 j] rfl (rd_lit wz #[.int .i64 j] 3 _ rfl) rfl (fun h=>by cases h) oneI1 ?n1 ?n2 ?_)
     case n1=>unfold maxLen; omega
     case n2=>omega
     intro A9 n9 c9 wf hn9 o9 g9 k9;have HJ9:=h_ (J1.addN HJa.o (j:Int) hn9 o9 g9);subst hn9;clear o9 g9 k9 HJa;generalize hG:ns++[(j:Int)]=ms at *
     have hzl:ms.length=ns.length+1:=by rw [<-hG]; simp
     rw [<-hzl];clear hG hzl
     go_wp2_with fail
     refine ⟨⟨k+1,o2,A9,c9,ms,by omega,rfl,by go_num,HJS.o.symm,HOD2.o,HJ9.o⟩,by simp [intOf]; omega⟩
  ·obtain rfl:k=bys.length:=by omega
   have HJE:=h_ (show (oys,ns)=joinY aps.length ays bys from by rw [HJY.o,List.take_length]);have y0:=d_ HJ.o.bb 0;have y1:=d_ HJ.o.bb 1;have hyl:=HJ.o.bb.lt;clear HJY
   go_wp2_with fail
   clear y0 y1 hyl;refine (copyObject_any ⟨bA,bc,bps,bY,byc,bys⟩ wr ((HRB.o.below HJ.o.b).more HJ.o.b.size) HFB0.o HNB.o ⟨by show bps.length<=100; omega,by show bys.length<=100; omega⟩).mono ?_;rintro e w7 ⟨⟨qA,qc,qps,qY,qyc,qys⟩,rfl,hqd,o7,b7⟩
   have HQD:=h_ (show qps.map SV.d=bps.map SV.d from by
    simp only [OV.d,OD.mk.injEq] at hqd
    exact hqd.1)
   have HK:=h_ (show J2 w R O ⟨oA,oc,ops,oY,oyc,oys⟩ ⟨qA,qc,qps,qY,qyc,qys⟩ ops [] qps An cn ns w7 from by
    have h:=HJ.o.call b7;refine ⟨h.br,h.bo,o7.down HJ.o.b.size,rfl,by simp,h.own.1.2.1,?_,h.own.1.1,h.own.2,?_,h.row,h.b,⟨HR0.o,h.hO.2.2⟩⟩
    ·refine List.pairwise_append.2 ⟨h.own.1.2.2,o7.1.2.2,fun a ha b hb=>⟨fun k hk hk2=>?_,fun k hk hk2=>?_⟩⟩
     ·have h1:=((HJ.o.own.1.2.1 a ha).lt k (.inl hk)).2;have h2:=((o7.1.2.1 b hb).lt k (.inl hk2)).1;omega
     ·have h1:=((HJ.o.own.1.2.1 a ha).lt k (.inr hk)).2;have h2:=((o7.1.2.1 b hb).lt k (.inr hk2)).1;omega
    ·intro k hk hk2;have h1:=(HJ.o.own.lt k (.inl (.inl hk))).2;have h2:=(o7.lt k (.inl (.inl hk2))).1
     omega)
   have hql:qps.length=bps.length:=by
    have h:=congrArg List.length HQD.o
    simpa using h
   have HQL:=h_ hql
   have hq8:qps.length<=8:=by omega
   clear hqd o7 b7 HJ hql;simp only [OV.v]
   have hfd:∀ W:World,(Instr.field 26 (.agg #[.slice qA qps.length qc,.slice qY qys.length qyc]) 0).run Tryz.prog W=.ok (.slice qA qps.length qc) W:=fun _=>by kernel_rfl
   go_wp2_with fail
   clear hfd
   have HTO:=h_ (show ∀ p ∈ bps,∀ f ∈ p.fs,0<=f.2.2.1/\f.2.2.1<ns.length from fun p hp f hf=>by
    have h:=((HSB.o.2.2 p.d (List.mem_map_of_mem hp)).2.2 f hf).2;rw [HNL.o]
    exact h)
   go_loopw [97] (fun i wi=>∃ (o:OV) (L N:List SV),i=.int .i64 (L.length:Nat)/\L.length+N.length=qps.length/\L.map SV.d=(bps.take L.length).map (fun p=>mapS ns p.d)/\N.map SV.d=(bps.drop L.length).map SV.d/\o.ys=oys/\J2 w R O o ⟨qA,qc,L++N,qY,qyc,qys⟩ ops L N An cn ns wi) (fun i _=>qps.length - (intOf i).toNat)
   case atStart=>exact ⟨_,[],qps,rfl,by simp,rfl,by simpa using HQD.o,rfl,HK.o⟩
   case round=>
    clear HK HQD;obtain ⟨⟨xA,xc,xps,xY,xyc,xys⟩,L,N,rfl,hLN,hLd,hNd,hxy,hk⟩:=hrel;simp only at hxy;subst hxy;have HK:=h_ hk;have HLN:=h_ hLN;have HLD:=h_ hLd;have HND:=h_ hNd;clear hk hLd hNd
    by_cases hlt:L.length<qps.length
    ·cases N with
     | nil=>simp at hLN; omega
     | cons p N=>
      obtain ⟨pn,pk,pal,pA,pc,pz,psz,pF,pfc,pf⟩:=p
      have hLb:L.length<bps.length:=by rw [<-HQL.o]; exact hlt
      have HPD:=h_ (show (SV.d ⟨pn,pk,pal,pA,pc,pz,psz,pF,pfc,pf⟩)=(bps[L.length]).d/\N.map SV.d=(bps.drop (L.length+1)).map SV.d from by
       have h:=HND.o;rw [List.drop_eq_getElem_cons hLb,List.map_cons,List.map_cons,List.cons.injEq] at h
       exact h)
      have HTP:=h_ (show ∀ f ∈ pf,0<=f.2.2.1/\f.2.2.1<ns.length from by
       have h:=HTO.o _ (List.getElem_mem hLb);have e:pf=(bps[L.length]).fs:=congrArg SD.fs HPD.o.1;rw [<-e] at h
       exact h)
      have hpf6:pf.length<=6:=by
       have h:=(HSB.o.2.2 _ (List.mem_map_of_mem (List.getElem_mem hLb))).1;rw [<-HPD.o.1] at h;exact h
      obtain ⟨gb,goff,hqA,hgb,hca⟩:=row_at HK.o.oq.1.rd;simp only at hqA;have c0:=hca 0 _ rfl;have c1:=hca 1 _ rfl;have c2:=hca 2 _ rfl;have c3:=hca 3 _ rfl;have c4:=hca 4 _ rfl;have c5:=hca 5 _ rfl;simp only [Nat.add_zero] at c0;subst hqA;have B1:Below wr.heap.size wr (wr.alloc (.cells #[.string pn,.int .i64 pk,.int .i64 pal,.slice pA pz.length pc,.int .i64 psz,.slice pF pf.length pfc] 61)):=b_;have HS:=h_ (Box.new wr 61 #[.string pn,.int .i64 pk,.int .i64 pal,.slice pA pz.length pc,.int .i64 psz,.slice pF pf.length pfc]);have s5:=d_ HS.o 5;have hsl:=HS.o.lt;replace HK:=h_ (HK.o.call B1);clear B1 hca HND
      go_wp2_with fail
      clear c0 c1 c2 c3 c4 c5 s5 hsl hgb;generalize wr.alloc (.cells #[.string pn,.int .i64 pk,.int .i64 pal,.slice pA pz.length pc,.int .i64 psz,.slice pF pf.length pfc] 61)=ws at *;generalize wr.heap.size=S at *;have HK0:=h_ (show J2 w R O ⟨xA,xc,xps,xY,xyc,xys⟩ ⟨(some ⟨gb,goff,none⟩),qc,L++⟨pn,pk,pal,pA,pc,pz,psz,pF,pfc,(pf.take 0).map (mapF ns)++pf.drop 0⟩ :: N,qY,qyc,qys⟩ ops L (⟨pn,pk,pal,pA,pc,pz,psz,pF,pfc,(pf.take 0).map (mapF ns)++pf.drop 0⟩ :: N) An cn ns ws from HK.o);clear HK
      go_loopw [104] (fun i wi=>∃ t:Nat,t<=pf.length/\i=.int .i64 t/\J2 w R O ⟨xA,xc,xps,xY,xyc,xys⟩ ⟨(some ⟨gb,goff,none⟩),qc,L++⟨pn,pk,pal,pA,pc,pz,psz,pF,pfc,(pf.take t).map (mapF ns)++pf.drop t⟩ :: N,qY,qyc,qys⟩ ops L (⟨pn,pk,pal,pA,pc,pz,psz,pF,pfc,(pf.take t).map (mapF ns)++pf.drop t⟩ :: N) An cn ns wi/\Box wi S 61 #[.string pn,.int .i64 pk,.int .i64 pal,.slice pA pz.length pc,.int .i64 psz,.slice pF pf.length pfc]) (fun i _=>pf.length - (intOf i).toNat)
      case atStart=>exact ⟨0,Nat.zero_le _,rfl,HK0.o,HS.o⟩
      case round=>
       clear HK0 HS;obtain ⟨t,ht,rfl,hk,hs⟩:=hrel;have HK:=h_ hk;have HS:=h_ hs;clear hk hs
       by_cases hlt2:t<pf.length
       ·have hfl:((pf.take t).map (mapF ns)++pf.drop t).length=pf.length:=fix_len;have HFN:=h_ (fix_next (ns:=ns) hlt2);have hrowF:=(HK.o.oq.1.2.1 ⟨pn,pk,pal,pA,pc,pz,psz,pF,pfc,(pf.take t).map (mapF ns)++pf.drop t⟩ (by simp)).2;obtain ⟨gF,hF,hgF1,hgF2,hgFb,hownF⟩:=own_of hrowF (by show 0<((pf.take t).map (mapF ns)++pf.drop t).length; omega);simp only at hF hownF;subst hF;have HTZ:=h_ (HTP.o _ (List.getElem_mem hlt2));have hcF:=World.ownsRow.cellAt hownF (t*4+2) (by rw [hfl]; omega);rw [cellsOf_at fixupC_len _ t 2 (by rw [hfl]; exact hlt2) (by omega)] at hcF
        have hge:((pf.take t).map (mapF ns)++pf.drop t)[t]'(by rw [hfl]; exact hlt2)=pf[t]:=by
         have h:=HFN.o.1;rw [List.getElem?_eq_getElem (by rw [hfl]; exact hlt2)] at h;injection h
        rw [hge] at hcF;have hfz:=World.ownsRow.frozenAt hownF (t*4+2);have HNB2:=h_ (show gF ≠ S from hrowF.box HS.o (by decide) gF hgFb);clear hge hrowF hownF hgFb;generalize pf[t]=z at *;obtain ⟨z1,z2,z3',z4⟩:=z;obtain ⟨hz0,hz1⟩:=HTZ.o;simp only at hz0 hz1;obtain ⟨z3,rfl⟩:∃ n:Nat,z3'=(n:Int):=⟨z3'.toNat,by omega⟩
        have hzl:z3<ns.length:=by omega
        have hcF2:wr.cell? ⟨gF,t*4+2,none⟩=some (.int .i64 z3):=hcF;obtain ⟨gN,hAn,hcN,hgN⟩:=HK.o.nums.at1 hzl;subst hAn;obtain ⟨gv,hgv⟩:∃ gv:Int,gv=ns.getD z3 0:=⟨_,rfl⟩;rw [<-hgv] at hcN;have HGV:=h_ hgv;clear hgv;have HSET:=h_ (show ((pf.take t).map (mapF ns)++pf.drop t).set t (z1,z2,gv,z4)=(pf.take (t+1)).map (mapF ns)++pf.drop (t+1) from by rw [HGV.o]; exact HFN.o.2)
        have HK2:=h_ (show J2 w R O ⟨xA,xc,xps,xY,xyc,xys⟩ ⟨(some ⟨gb,goff,none⟩),qc,L++⟨pn,pk,pal,pA,pc,pz,psz,some ⟨gF,0,none⟩,pfc,(pf.take (t+1)).map (mapF ns)++pf.drop (t+1)⟩ :: N,qY,qyc,qys⟩ ops L (⟨pn,pk,pal,pA,pc,pz,psz,some ⟨gF,0,none⟩,pfc,(pf.take (t+1)).map (mapF ns)++pf.drop (t+1)⟩ :: N) (some ⟨gN,0,none⟩) cn ns ((wr.setCell ⟨gF,t*4+2,none⟩ (.int .i64 gv)).drew) from by
         rw [<-HSET.o]
         exact (J2.fix HK.o rfl HFN.o.1 gv).call (below_dr (Below.refl _ _)))
        have s5:=d_ HS.o 5;have hsl:=HS.o.lt;have HS2:=h_ ((HS.o.far (p:=⟨gF,t*4+2,none⟩) (Ne.symm HNB2.o) (.int .i64 gv)).drew);clear hcF HFN HTZ HK
        go_wp2_with fail
        refine Reg.startT (fun W=>W.cell? ⟨S,5,none⟩=some (.slice (some ⟨gF,0,none⟩) pf.length pfc)/\W.cell? ⟨gF,t*4+2,none⟩=some (.int .i64 z3)/\W.cell? ⟨gN,z3,none⟩=some (.int .i64 gv)) (fun j=>j == 14) (by kernel_rfl) ?_;have hHeld:wr.drew.cell? ⟨S,5,none⟩=some (.slice (some ⟨gF,0,none⟩) pf.length pfc)/\wr.drew.cell? ⟨gF,t*4+2,none⟩=some (.int .i64 z3)/\wr.drew.cell? ⟨gN,z3,none⟩=some (.int .i64 gv):=⟨s5,hcF2,hcN⟩;have hfz':wr.drew.frozen? ⟨gF,t*4+2,none⟩=false:=hfz;have hcF3:wr.drew.cell? ⟨gF,t*4+2,none⟩=some (.int .i64 z3):=hcF2;refine t_ 0 rfl ?_;refine t_ 1 rfl ?_;refine t_ 2 rfl ?_;refine t_ 3 rfl ?_;refine t_ 4 rfl ?_;refine t_ 5 rfl ?_;refine t_ 6 rfl ?_;refine t_ 7 rfl ?_;refine t_ 8 rfl ?_;refine t_ 9 rfl ?_;refine t_ 10 rfl ?_;refine t_ 11 rfl ?_;refine Reg.oneT (i:=12) rfl (by kernel_rfl) (fun K hK=>?_)
        go_simp
        refine hK.out _ _ hHeld ?_;clear hK K
        try simp only [y1_,y2_,y3_,Act.put,y4_,y5_,y6_]
        refine t_ 13 rfl ?_;refine Reg.lastT (i:=14) rfl (by kernel_rfl) (by rfl) (fun K hK=>?_)
        go_simp
        refine hK.out _ _ ?_;clear hK K
        try simp only [y1_,y2_,y3_,Act.put,y4_,y5_,y6_]
        refine Reg.doneT (by kernel_rfl) ?_ _;clear hHeld hfz' hcF3 hcF2 hcN s5 hsl hfz hgN;clear HSET;generalize wr.setCell ⟨gF,t*4+2,none⟩ (.int .i64 gv)=wf at *
        go_wp2_with fail
        refine ⟨⟨t+1,by omega,by go_num,HK2.o,HS2.o⟩,by simp [intOf]; omega⟩
       ·obtain rfl:t=pf.length:=by omega
        have HK2:=h_ (show J2 w R O ⟨xA,xc,xps,xY,xyc,xys⟩ ⟨(some ⟨gb,goff,none⟩),qc,L++⟨pn,pk,pal,pA,pc,pz,psz,pF,pfc,pf.map (mapF ns)⟩ :: N,qY,qyc,qys⟩ ops L (⟨pn,pk,pal,pA,pc,pz,psz,pF,pfc,pf.map (mapF ns)⟩ :: N) An cn ns wr from by
         have h:=HK.o;rw [List.take_length,List.drop_length,List.append_nil] at h
         exact h)
        clear HK;have s0:=d_ HS.o 0;have s1:=d_ HS.o 1;have s2:=d_ HS.o 2;have s3:=d_ HS.o 3;have s4:=d_ HS.o 4;have s5:=d_ HS.o 5;have o0:=d_ HK2.o.bo 0;have hsl:=HS.o.lt;have hol:=HK2.o.bo.lt;have BA:Below wr.heap.size wr (wr.alloc (.cells #[.string pn,.int .i64 pk,.int .i64 pal,.slice pA pz.length pc,.int .i64 psz,.slice pF pf.length pfc] 61)):=b_;have HKa:=h_ (HK2.o.call BA)
        have hxl:xps.length<=100:=by
         have h:=congrArg List.length HKa.o.ho;simp only [List.length_append] at h;have h2:=congrArg List.length HOD.o;simp only [List.length_map] at h2;omega
        clear BA HK2
        go_wp2_with (at_builtin; refine wpList_app (wr.alloc (.cells #[.string pn,.int .i64 pk,.int .i64 pal,.slice pA pz.length pc,.int .i64 psz,.slice pF pf.length pfc] 61)) rfl (.tmp 123) (.tmp 125) 23 rfl 61 iS (.agg #[.string ByteArray.empty,.int .i64 0,.int .i64 0,.slice none 0 0,.int .i64 0,.slice none 0 0]) 6 88 Tryz.underlying23 HIS.o.1 HIS.o.2.1 HIS.o.2.2.1 HIS.o.2.2.2 rfl (by decide) w.heap.size xA xps.length xc (cellsOf secC xps) rfl HKa.o.row HKa.o.b.size (some ⟨wr.heap.size,0,none⟩) 1 1 [.string pn,.int .i64 pk,.int .i64 pal,.slice pA pz.length pc,.int .i64 psz,.slice pF pf.length pfc] rfl (rd_lit wr #[.string pn,.int .i64 pk,.int .i64 pal,.slice pA pz.length pc,.int .i64 psz,.slice pF pf.length pfc] 61 _ rfl) rfl (fun h=>by cases h) one_six ?n1 ?n2 ?_)
        case n1=>unfold maxLen; omega
        case n2=>omega
        intro A9 n9 c9 wz hn9 o9 g9 k9;subst hn9
        have HK9:=h_ (J2.add HKa.o (A9:=A9) (c9:=c9) rfl (by
         have e:secC ⟨pn,pk,pal,pA,pc,pz,psz,pF,pfc,pf.map (mapF ns)⟩=[.string pn,.int .i64 pk,.int .i64 pal,.slice pA pz.length pc,.int .i64 psz,.slice pF pf.length pfc]:=by simp [secC]
         rw [e]
         exact o9) g9 (fun k hk=>(k9 k hk).imp id (fun h=>by simp only [World.size_alloc]; exact h)))
        have HBO:=h_ (HKa.o.bo.grown g9 (HKa.o.row.box HKa.o.bo (by decide)));clear o9 g9 k9 o0 s0 s1 s2 s3 s4 s5 hsl hol HKa HS;have o0:=d_ HBO.o 0;have of0:=HBO.o.frozen 0;have hol:=HBO.o.lt
        have HLd2:=h_ (show (L++[(⟨pn,pk,pal,pA,pc,pz,psz,pF,pfc,pf.map (mapF ns)⟩:SV)]).map SV.d=(bps.take (L++[(⟨pn,pk,pal,pA,pc,pz,psz,pF,pfc,pf.map (mapF ns)⟩:SV)]).length).map (fun p=>mapS ns p.d) from by
         rw [List.length_append,List.length_singleton,take_succ hLb,List.map_append,List.map_append,HLD.o,List.map_singleton,List.map_singleton]
         congr 2
         show _=mapS ns (bps[L.length]).d
         rw [<-HPD.o.1]
         rfl)
        have HND2:=h_ (show N.map SV.d=(bps.drop (L++[(⟨pn,pk,pal,pA,pc,pz,psz,pF,pfc,pf.map (mapF ns)⟩:SV)]).length).map SV.d from by
         rw [List.length_append,List.length_singleton]
         exact HPD.o.2)
        have HLN2:=h_ (show (L++[(⟨pn,pk,pal,pA,pc,pz,psz,pF,pfc,pf.map (mapF ns)⟩:SV)]).length+N.length=qps.length from by
         have h:=HLN.o;simp only [List.length_append,List.length_cons,List.length_nil] at h ⊢
         omega)
        have hL1:(L++[(⟨pn,pk,pal,pA,pc,pz,psz,pF,pfc,pf.map (mapF ns)⟩:SV)]).length=L.length+1:=by simp
        have HQQ:=h_ (show J2 w R O ⟨A9,c9,xps++[(⟨pn,pk,pal,pA,pc,pz,psz,pF,pfc,pf.map (mapF ns)⟩:SV)],xY,xyc,xys⟩ ⟨(some ⟨gb,goff,none⟩),qc,(L++[(⟨pn,pk,pal,pA,pc,pz,psz,pF,pfc,pf.map (mapF ns)⟩:SV)])++N,qY,qyc,qys⟩ ops (L++[(⟨pn,pk,pal,pA,pc,pz,psz,pF,pfc,pf.map (mapF ns)⟩:SV)]) N An cn ns (wz.setCell ⟨O,0,none⟩ (.slice A9 (xps.length+1) c9)) from by
         rw [List.append_assoc]
         exact HK9.o)
        clear HK9 HLD HPD HLN hLN;generalize L++[(⟨pn,pk,pal,pA,pc,pz,psz,pF,pfc,pf.map (mapF ns)⟩:SV)]=L2 at *
        go_wp2_with fail
        refine ⟨⟨_,L2,N,by rw [hL1]; go_num,HLN2.o,HLd2.o,HND2.o,rfl,HQQ.o⟩,by simp [intOf]; omega⟩
    ·have hN:N=[]:=List.eq_nil_of_length_eq_zero (by omega);subst hN;have HOW:=h_ (J2.own HK.o)
     have hLl:L.length=bps.length:=by
      rw [<-HQL.o];simp only [List.length_nil] at hLN;omega
     have HDJ:=h_ (show OV.d ⟨xA,xc,xps,xY,xyc,xys⟩=joinR (OV.d ⟨aA,ac,aps,aY,ayc,ays⟩) (OV.d ⟨bA,bc,bps,bY,byc,bys⟩) from by
      have e1:xps=ops++L:=HK.o.ho;have e2:=HLD.o;rw [hLl,List.take_length] at e2;have e3:=HJE.o
      show OD.mk (xps.map SV.d) xys=_
      unfold joinR;simp only [OV.d,List.length_map];rw [<-e3,e1,List.map_append,HOD.o,e2,List.map_map]
      rfl)
     have HFT:=h_ (fit_sm (by rw [HDJ.o]; exact join_sm HOA.o HOB.o) HOW.o.2.cap.1);clear hLl hLN HLD HLN HND;have o0:=d_ HK.o.bo 0;have o1:=d_ HK.o.bo 1;have hol:=HK.o.bo.lt
     go_wp2_with fail
     clear o0 o1 hol;refine (objectValid_any ⟨xA,xc,xps,xY,xyc,xys⟩ wr HOW.o.rd HFT.o).mono ?_;rintro e w8 ⟨rfl,b8⟩;replace HK:=h_ (HK.o.call b8);replace HOW:=h_ (HOW.o.call b8);clear b8;rw [HDJ.o]
     cases hjo:objOk (joinR (OV.d ⟨aA,ac,aps,aY,ayc,ays⟩) (OV.d ⟨bA,bc,bps,bY,byc,bys⟩))
     ·have HV:=h_ (HJD.o.trans (if_neg (by rw [hjo]; rintro ⟨_,_,_,h⟩; cases h)));clear hjo;have y0:=d_ HK.o.br 0;have y1:=d_ HK.o.br 1;have yf0:=HK.o.br.frozen 0;have yf1:=HK.o.br.frozen 1;have hrl:=HK.o.br.lt;obtain ⟨k0,k1⟩:=cells2 (u:=.slice none 0 0) (v:=.slice none 0 0) HK.o.br;have HFB:=h_ (below2 HK.o.b (Nat.le_of_lt HR0.o) (.slice none 0 0) (.slice none 0 0))
      go_wp2_with fail
      (try simp only [Exit.inBlock,Exit.then])
      exact bodyPost_ret (v:=.tuple #[.agg #[.slice none 0 0,.slice none 0 0],.bool false]) (by simp [results,Tryz.results92,go_sem,k0,k1]) rfl (by rw [HV.o]; exact ret_nilO HFB.o)
     ·have HV:=h_ (HJD.o.trans (if_pos ⟨HOA.o,HOB.o,HT0.o,hjo⟩));clear hjo;have o0:=d_ HK.o.bo 0;have o1:=d_ HK.o.bo 1;have y0:=d_ HK.o.br 0;have y1:=d_ HK.o.br 1;have hol:=HK.o.bo.lt;have yf0:=HK.o.br.frozen 0;have yf1:=HK.o.br.frozen 1;have hrl:=HK.o.br.lt;obtain ⟨k0,k1⟩:=cells2 (u:=.slice xA xps.length xc) (v:=.slice xY xys.length xyc) HK.o.br;have HFIN:=h_ (ret_ok (R:=R) HOW.o HK.o.b (HOW.o.ne_box HK.o.br (by decide) (by decide) (by decide) (by decide)) (Nat.le_of_lt HR0.o));rw [HDJ.o] at HFIN
      go_wp2_with fail
      (try simp only [Exit.inBlock,Exit.then])
      exact bodyPost_ret (v:=.tuple #[.agg #[.slice xA xps.length xc,.slice xY xys.length xyc],.bool true]) (by simp [results,Tryz.results92,go_sem,k0,k1]) rfl (by rw [HV.o]; exact HFIN.o)
end CJoinI
/- ObjectsValid and isBase,within,aligned. -/
namespace CValids
open Kit CCode CName CFixups CSymbols PObj BObj PValid CObjValid BList PLink
theorem bad_any (o:OV) (w:World) (hr:RdO w w.heap.size o) (hf:Fit o):
  Calls Tryz.prog 123 #[.agg #[.slice o.A o.ps.length o.c,.slice o.Y o.ys.length o.yc]] w (Ret (.bool (!objOk o.d)) w):=by
 have HB:=h_ (show Below w.heap.size w (w.alloc (.cells #[.slice o.A o.ps.length o.c,.slice o.Y o.ys.length o.yc] 26)) from b_);have HX:=h_ (Box.new w 26 #[.slice o.A o.ps.length o.c,.slice o.Y o.ys.length o.yc]);have HR:=h_ hr;clear hr;have x0:=d_ HX.o 0;have x1:=d_ HX.o 1;have hxl:=HX.o.lt
 go_enter Tryz.func123,Tryz.ntmps123
 go_wp2_with fail
 generalize w.alloc (.cells #[.slice o.A o.ps.length o.c,.slice o.Y o.ys.length o.yc] 26)=w0 at *;refine (objectValid_any o w0 ((HR.o.below HB.o).more HB.o.size) hf).mono ?_;rintro e w1 ⟨rfl,b1⟩;replace HB:=c_ HB b1;clear b1;clear x0 x1 hxl HX
 go_wp2_with fail
 go_ret;exact ⟨rfl,HB.o⟩
theorem indexBad_any (A:Option Addr) (os:List OV) (c:Nat) (w:World) (hr:RdOs w w.heap.size A os) (hf:Fits os):
  Calls Tryz.prog 167 #[.slice A os.length c,.func (.func 123) #[] #[]] w fun e w'=>∃ r:Int,e=.returned (.int .i64 r)/\decide (0<=r)=os.any (fun o=>!objOk o.d)/\Below w.heap.size w w':=by
 obtain ⟨hm,hfo⟩:=hf;have HR:=h_ hr;have HFT:=h_ hfo;clear hr hfo
 go_enter Tryz.func167,Tryz.ntmps167
 go_wp2_with fail
 go_loopw [8] (fun i wr=>∃ k:Nat,k<=os.length/\i=.int .i64 k/\(os.take k).any (fun o=>!objOk o.d)=false/\Below w.heap.size w wr) (fun i _=>os.length - (intOf i).toNat)
 case atStart=>exact ⟨0,Nat.zero_le _,rfl,rfl,Below.refl _ _⟩
 case round=>
  obtain ⟨k,hk,rfl,hn,hb⟩:=hrel;have HB:=h_ hb
  by_cases hlt:k<os.length
  ·obtain ⟨b,off,hA,hbb,hc0,hc1⟩:=(HR.o.below hb).at hlt;have HS:=h_ (show (os.take (k+1)).any (fun o=>!objOk o.d)=!objOk os[k].d by rw [take_succ hlt,List.any_append,hn]; simp);have HT:=h_ (show objOk os[k].d=false->os.any (fun o=>!objOk o.d)=true from fun h=>List.any_eq_true.2 ⟨_,List.getElem_mem hlt,by rw [h]; rfl⟩);have HP:=h_ (bad_any os[k] wr (((HR.o.2 _ (List.getElem_mem hlt)).below hb).more hb.size) (HFT.o _ (List.getElem_mem hlt)));clear hb hn;subst hA;generalize os[k]=o at *;have hpred:=HP.o
   cases h:objOk o.d
   ·have HT':=h_ (HT.o h);rw [h] at hpred;clear HT HS h HP
    go_wp2_with fail
    refine hpred.mono ?_;rintro e w2 ⟨rfl,b2⟩;have HB':=h_ (HB.o.trans (b2.mono HB.o.size));clear b2 hc0 hc1 HB
    go_wp2_with fail
    go_ret;exact ⟨k,rfl,by rw [HT'.o]; simp,HB'.o⟩
   ·have HS':=h_ (show (os.take (k+1)).any (fun o=>!objOk o.d)=false by rw [HS.o,h]; rfl);rw [h] at hpred;clear HT HS h HP
    go_wp2_with fail
    refine hpred.mono ?_;rintro e w2 ⟨rfl,b2⟩;have HB':=h_ (HB.o.trans (b2.mono HB.o.size));clear b2 hc0 hc1 HB
    go_wp2_with fail
    refine ⟨⟨k+1,by omega,by go_num,HS'.o,HB'.o⟩,by simp [intOf]; omega⟩
  ·have HN:=h_ (show os.any (fun o=>!objOk o.d)=false by rw [<-hn,List.take_of_length_le (by omega)]);clear hb hn
   go_wp2_with fail
   go_ret;exact ⟨-1,rfl,by rw [HN.o]; rfl,HB.o⟩
theorem containsBad_any (A:Option Addr) (os:List OV) (c:Nat) (w:World) (hr:RdOs w w.heap.size A os) (hf:Fits os):
  Calls Tryz.prog 122 #[.slice A os.length c,.func (.func 123) #[] #[]] w (Ret (.bool (os.any (fun o=>!objOk o.d))) w):=by
 have HQ:=h_ (indexBad_any A os c w hr hf);clear hr hf
 go_enter Tryz.func122,Tryz.ntmps122
 go_wp2_with fail
 refine HQ.o.mono ?_;rintro e w2 ⟨r,rfl,hr2,b2⟩;have HR:=h_ hr2;have HB:=h_ b2;clear hr2 b2
 go_wp2_with fail
 go_ret;exact ⟨by rw [<-HR.o]; rfl,HB.o⟩
theorem all_any (os:List OV):(!(os.any fun o=>!objOk o.d))=(os.map OV.d).all objOk:=by
 rw [List.all_map]
 induction os with
 | nil=>rfl
 | cons o os ih=>
  simp only [List.any_cons,List.all_cons,Bool.not_or,Bool.not_not,ih]
  rfl
theorem allValid_any (A:Option Addr) (os:List OV) (c:Nat) (w:World) (hr:RdOs w w.heap.size A os) (hf:Fits os):
  Calls Tryz.prog 69 #[.slice A os.length c] w (Ret (.bool ((os.map OV.d).all objOk)) w):=by
 have HQ:=h_ (containsBad_any A os c w hr hf);have HE:=h_ (all_any os);clear hr hf;generalize (os.map OV.d).all objOk=v at *
 go_enter Tryz.func69,Tryz.ntmps69
 go_wp2_with fail
 refine HQ.o.mono ?_;rintro e w2 ⟨rfl,b2⟩;have HB:=h_ b2;clear b2
 go_wp2_with fail
 go_ret;exact ⟨by rw [<-HE.o]; rfl,HB.o⟩
theorem objectsValid_any (A:Option Addr) (os:List OV) (c:Nat) (w:World) (hr:RdOs w w.heap.size A os) (hf:Fits os):
  Calls Tryz.prog 20 #[.slice A os.length c] w (Ret (.bool (objsOk (os.map OV.d))) w):=by
 have HQ:=h_ (allValid_any A os c w hr hf);have hn:=hf.n;clear hr hf;unfold objsOk;rw [List.length_map];generalize (os.map OV.d).all objOk=v at *
 go_enter Tryz.func20,Tryz.ntmps20
 by_cases h4:os.length<=4
 ·have e1:decide ((os.length:Int)<=4)=true:=decide_eq_true (by omega);have HV:=h_ (show (decide (os.length<=4) && v)=v by rw [decide_eq_true h4]; rfl);clear h4
  go_wp2_with fail
  refine HQ.o.mono ?_;rintro e w2 ⟨rfl,b2⟩;have HB:=h_ b2;clear b2
  go_wp2_with fail
  go_ret;exact ⟨by rw [HV.o]; rfl,HB.o⟩
 ·have e1:decide ((os.length:Int)<=4)=false:=decide_eq_false (by omega);have HV:=h_ (show (decide (os.length<=4) && v)=false by rw [decide_eq_false h4]; rfl);clear h4
  go_wp2_with fail
  go_ret;exact ⟨by rw [HV.o]; rfl,Below.refl _ _⟩
theorem isBase_any (b:Int) (w:World):Calls Tryz.prog 99 #[.int .i64 b] w (Pure (.bool (baseOk b)) w):=by
 unfold baseOk
 cases h1:inB b 0 4096
 ·have HE:=h_ (show (decide (0<=b/\b<=4096) && decide (b % 8=0))=false by unfold inB at h1; rw [h1]; rfl);generalize (decide (0<=b/\b<=4096) && decide (b % 8=0))=v at *
  go_enter Tryz.func99,Tryz.ntmps99
  go_wp2_with fail
  refine (within_any _ _ _ _).mono ?_;rintro e w' ⟨rfl,rfl⟩;rw [h1]
  go_wp2_with fail
  go_ret;exact ⟨ret_bool HE.o.symm,rfl⟩
 ·have hb:0<=b/\b<=4096:=by simpa [inB] using h1
  have HE:=h_ (show (decide (0<=b/\b<=4096) && decide (b % 8=0))=decide (b % 8=0) by unfold inB at h1; rw [h1]; rfl);have HI:=h_ h1;clear h1;generalize (decide (0<=b/\b<=4096) && decide (b % 8=0))=v at *
  by_cases h2:b % 8=0
  ·have h2':(b % 8 == 0)=true:=by simpa using h2
   go_enter Tryz.func99,Tryz.ntmps99
   go_wp2_with fail
   refine (within_any _ _ _ _).mono ?_;rintro e w' ⟨rfl,rfl⟩;rw [HI.o]
   go_wp2_with fail
   go_ret;exact ⟨ret_bool (by rw [HE.o,decide_eq_true h2]),rfl⟩
  ·have h2':(b % 8 == 0)=false:=by simpa using h2
   have HH:=h_ h2;clear h2
   go_enter Tryz.func99,Tryz.ntmps99
   go_wp2_with fail
   refine (within_any _ _ _ _).mono ?_;rintro e w' ⟨rfl,rfl⟩;rw [HI.o]
   go_wp2_with fail
   go_ret;exact ⟨ret_bool (by rw [HE.o,decide_eq_false HH.o]),rfl⟩
theorem tdiv_al (n q:Int) (hn:0<=n) (hq:1<=q):Int.tdiv (n+q - 1) q*q=al n q:=by
 unfold al;rw [Int.tdiv_eq_ediv_of_nonneg (by omega)]
theorem aligned_any (n q:Int) (w:World) (hn:0<=n) (hb:n<=1000000) (ht:alignOk q=true):Calls Tryz.prog 89 #[.int .i64 n,.int .i64 q] w (Pure (.int .i64 (al n q)) w):=by
 obtain ⟨h1,h2⟩:=al_bd hn ht
 have hq8:1<=q/\q<=8:=by
  simp only [alignOk,Bool.or_eq_true,decide_eq_true_eq] at ht;omega
 obtain ⟨q1,q2⟩:=hq8;have HE:=h_ (tdiv_al n q hn q1)
 have e3:0<=Int.tdiv (n+q - 1) q/\Int.tdiv (n+q - 1) q<=1000008:=by
  rw [Int.tdiv_eq_ediv_of_nonneg (by omega)];have a1:0<=(n+q - 1) / q:=Int.ediv_nonneg (by omega) (by omega);have a2:=Int.ediv_le_self q (show 0<=n+q - 1 by omega);omega
 generalize al n q=m at *;have hq0:(q == 0)=false:=beq_eq_false_iff_ne.2 (by omega);have w1:IntKind.i64.wrap (n+q)=n+q:=IntWalk.i64_in _ (by omega);have w2:IntKind.i64.wrap (n+q - 1)=n+q - 1:=IntWalk.i64_in _ (by omega);clear ht
 go_enter Tryz.func89,Tryz.ntmps89
 go_wp2_with fail
 go_ret;refine ⟨?_,rfl⟩
 show Ending.returned (Value.int .i64 (wrap64 ((n+q - 1).tdiv q*q)))=_
 rw [HE.o,show wrap64 m=m from by unfold wrap64; omega]
end CValids
/- The size of an object out of what is left. -/
namespace CSzObj
open Kit CFixups CSymbols PObj BObj CSection CSections CMarkText CSymMarks CMarkRows CSecMarks CSecHeld CObject CObject2
end CSzObj
/- Lists of objects: what is the call's own; the laws' helpers on lists of objects. -/
namespace CObjL
open Kit CFixups CSymbols PObj BObj BObj2 BList CObjValid CSection CSections CMarkText CSymMarks CMarkRows CSecMarks CSecHeld CObject CObject2 CCopyS WObj CSzObj
theorem infoO:(Tryz.prog.info? 26).map (fun i=>(i.zero,i.size,i.bytes))=some (some (.agg #[.slice none 0 0,.slice none 0 0]),2,48):=by kernel_rfl
def ApO (o p:OV):Prop:=∀ k,oblk o k->¬ oblk p k
def OwnOs (w:World) (base:Nat) (A:Option Addr) (c:Nat) (os:List OV):Prop:=Row w base 26 2 A os.length c (cellsOf objC os)/\(∀ o ∈ os,OwnO w base o)/\os.Pairwise ApO
def lblk (A:Option Addr) (c:Nat) (os:List OV) (k:Nat):Prop:=blk A c=some k\/∃ o ∈ os,oblk o k
def RetOs (l:List OD) (w:World) (e:Ending) (w':World):Prop:=∃ A c os,e=.returned (.slice A (os:List OV).length c)/\os.map OV.d=l/\OwnOs w' w.heap.size A c os/\Below w.heap.size w w'
section
variable {w w':World} {base b N c:Nat} {A:Option Addr} {os:List OV}
theorem OwnOs.rd (h:OwnOs w base A c os):RdOs w w.heap.size A os:=⟨h.1.rd,fun o ho=>(h.2.1 o ho).rd⟩
theorem OwnOs.lt (h:OwnOs w base A c os):∀ k,lblk A c os k->base<=k/\k<w.heap.size:=by
 rintro k (hk | ⟨o,ho,hk⟩)
 ·exact h.1.lt k hk
 ·exact (h.2.1 o ho).lt k hk
theorem OwnOs.keep (h:OwnOs w base A c os) (hk:∀ k,lblk A c os k->w'.heap[k]?=w.heap[k]?):OwnOs w' base A c os:=
 ⟨h.1.keep fun k hb=>hk k (.inl hb),fun o ho=>(h.2.1 o ho).keep fun k hb=>hk k (.inr ⟨o,ho,hb⟩),h.2.2⟩
theorem OwnOs.call (h:OwnOs w base A c os) (hb:Below w.heap.size w w'):OwnOs w' base A c os:=h.keep fun k hk=>hb.block k (h.lt k hk).2
theorem OwnOs.down (h:OwnOs w base A c os) (hb:b<=base):OwnOs w b A c os:=⟨h.1.down hb,fun o ho=>(h.2.1 o ho).down hb,h.2.2⟩
theorem OwnOs.gp {q:Nat->Prop} (h:OwnOs w base A c os) (g:Gp q w w') (hq:∀ k,lblk A c os k->¬ q k):OwnOs w' base A c os:=h.keep fun k hk=>g.block k (h.lt k hk).2 (hq k hk)
theorem OwnOs.ne (h:OwnOs w base A c os):∀ o ∈ os,∀ k,oblk o k->blk A c ≠ some k:=by
 rintro o ho k ((hk | ⟨p,hp,hk | hk⟩) | hk) e
 ·exact apartT (h.2.1 o ho).1.1 h.1 (by decide) k hk e
 ·exact apartT ((h.2.1 o ho).1.2.1 p hp).1 h.1 (by decide) k hk e
 ·exact apartT ((h.2.1 o ho).1.2.1 p hp).2 h.1 (by decide) k hk e
 ·exact apartT (h.2.1 o ho).2 h.1 (by decide) k hk e
theorem objs_snoc (os:List OV) (q:OV):cellsOf objC (os++[q])=cellsOf objC os++objC q:=by simp [cellsOf]
theorem ApO.snoc (h:os.Pairwise ApO) {q:OV} (hold:∀ o ∈ os,∀ k,oblk o k->k<N) (hnew:∀ k,oblk q k->N<=k):(os++[q]).Pairwise ApO:=by
 refine List.pairwise_append.2 ⟨h,List.pairwise_singleton _ _,fun o ho p hp k h1 h2=>?_⟩;rw [List.mem_singleton.1 hp] at h2;have:=hold o ho k h1;have:=hnew k h2;omega
theorem OwnOs.snoc (h:OwnOs w base A c os) {q:OV} (hq:OwnO w base q) (hold:∀ o ∈ os,∀ k,oblk o k->k<N) (hnew:∀ k,oblk q k->N<=k) {A':Option Addr} {n' c':Nat} (hn:n'=os.length+1)
  (row:Row w' base 26 2 A' n' c' (cellsOf objC os++objC q)) (g:w.grownBy w' (blk A c)):OwnOs w' base A' c' (os++[q]):=by
 subst hn
 have hS:∀ o:OV,OwnO w base o->OwnO w' base o:=fun o ho=>ho.keep fun k hk=>g.block k (ho.lt k hk).2 (fun e'=>by
  have e:=e'.symm
  rcases hk with (hk | ⟨p,hp,hk | hk⟩) | hk
  ·exact apartT ho.1.1 h.1 (by decide) k hk e
  ·exact apartT (ho.1.2.1 p hp).1 h.1 (by decide) k hk e
  ·exact apartT (ho.1.2.1 p hp).2 h.1 (by decide) k hk e
  ·exact apartT ho.2 h.1 (by decide) k hk e)
 refine ⟨?_,fun o ho=>?_,ApO.snoc h.2.2 hold hnew⟩
 ·rw [List.length_append,objs_snoc];exact row
 ·rcases List.mem_append.1 ho with ho | ho
  ·exact hS o (h.2.1 o ho)
  ·rw [List.mem_singleton.1 ho];exact hS q hq
end
def sumL:List OD->Int
 | []=>0
 | d :: ds=>sumD d+sumL ds
theorem sumL_nonneg:∀ ds,0<=sumL ds
 | []=>Int.le_refl 0
 | d :: ds=>by
  have:=sumL_nonneg ds;have:=sumD_nonneg d;simp only [sumL];omega
theorem sumL_mem:∀ (ds:List OD) (d:OD),d ∈ ds->sumD d<=sumL ds
 | [],d,h=>by cases h
 | e :: ds,d,h=>by
  have h0:=sumL_nonneg ds;have h1:=sumD_nonneg e;simp only [sumL]
  rcases List.mem_cons.1 h with rfl | h
  ·omega
  ·have:=sumL_mem ds d h;omega
theorem sumL_snoc (ds:List OD) (d:OD):sumL (ds++[d])=sumL ds+sumD d:=by
 induction ds with
 | nil=>simp [sumL]
 | cons e es ih=>
  simp only [List.cons_append,sumL,ih];omega
def sizL (ds:List OD):Int:=ds.length+sumL ds
theorem sizL_mem {os:List OV} (h:sizL (os.map OV.d)<=1048576):∀ o ∈ os,sum o<=1048576:=fun o ho=>by
 have h1:=sumL_mem (os.map OV.d) o.d (List.mem_map_of_mem ho);rw [sum_D];unfold sizL at h;omega
theorem sizL_len {os:List OV} (h:sizL (os.map OV.d)<=1048576):os.length<=1048576:=by
 have h1:=sumL_nonneg (os.map OV.d);unfold sizL at h;rw [List.length_map] at h;omega
theorem szObjectE_any (o:OV) (L:Int) (w:World) (hL0:0<=L) (hL1:L<=1048576) (hr:RdO w w.heap.size o) (h1:o.ps.length<=maxLen) (h2:o.ys.length<=maxLen) (h3:∀ p ∈ o.ps,p.nm.size<=maxLen/\p.zs.length<=maxLen/\p.fs.length<=maxLen) (h4:∀ y ∈ o.ys,y.1.size<=maxLen):
  Calls Tryz.prog 72 #[.agg #[.slice o.A o.ps.length o.c,.slice o.Y o.ys.length o.yc],.int .i64 L] w fun e w'=>(∃ r,e=.returned (.int .i64 r)/\(r=-1\/0<=r/\r+sum o=L))/\Below w.heap.size w w':=by
 obtain ⟨A,c,ps,Y,yc,ys⟩:=o;simp only [sum] at h1 h2 h3 h4 ⊢;have HR:=h_ hr;have HL:=h_ (And.intro h1 (And.intro h2 (And.intro h3 h4)));clear hr h1 h2 h3 h4;have B0:Below w.heap.size w (w.alloc (.cells #[.slice A ps.length c,.slice Y ys.length yc] 108)):=b_;have X0:=Box.new w 108 #[.slice A ps.length c,.slice Y ys.length yc];have HB:=h_ B0;clear B0
 go_enter Tryz.func72,Tryz.ntmps72
 go_wp2_with fail
 generalize w.alloc (.cells #[.slice A ps.length c,.slice Y ys.length yc] 108)=w0 at *;refine (szSectionS_any A ps c L w0 hL0 hL1 ((HR.o.1.1.below HB.o).more HB.o.size) HL.o.1 HL.o.2.2.1).mono ?_;rintro e w1 ⟨⟨r,rfl,hr⟩,b1⟩;have HB1:=h_ (HB.o.trans (b1.mono HB.o.size));have X1:=X0.call b1;have x1:=d_ X1 1;clear b1 X0 X1 HB
 rcases hr with rfl | ⟨hr0,hr1,hr2⟩
 ·go_wp2_with fail
  go_ret;exact ⟨⟨_,rfl,.inl rfl⟩,HB1.o⟩
 ·have HS:=h_ hr2;clear hr2
  go_wp2_with fail
  refine (szSymbolS_any Y ys yc r w1 hr0 (Int.le_trans hr1 hL1) ((HR.o.2.below HB1.o).more HB1.o.size) HL.o.2.1 HL.o.2.2.2).mono ?_;rintro e w2 ⟨⟨q,rfl,hq⟩,b2⟩;have HB2:=h_ (HB1.o.trans (b2.mono HB1.o.size));clear b2
  rcases hq with rfl | ⟨hq0,hq1,hq2⟩
  ·go_wp2_with fail
   go_ret;exact ⟨⟨_,rfl,.inl rfl⟩,HB2.o⟩
  ·have HT:=h_ (show q+((ps.length:Int)+tot (ps.map SV.d)+ys.length+toty ys)=L by have:=HS.o; omega);clear hq2
   go_wp2_with fail
   go_ret;exact ⟨⟨q,rfl,.inr ⟨hq0,HT.o⟩⟩,HB2.o⟩
def InO (o:OV):Prop:=o.ps.length<=maxLen/\o.ys.length<=maxLen/\(∀ p ∈ o.ps,p.nm.size<=maxLen/\p.zs.length<=maxLen/\p.fs.length<=maxLen)/\∀ y ∈ o.ys,y.1.size<=maxLen
theorem szObjectS_any (A:Option Addr) (os:List OV) (c:Nat) (left:Int) (w:World) (h0:0<=left) (h1:left<=1048576) (hr:RdOs w w.heap.size A os) (hn:os.length<=maxLen) (hl:∀ o ∈ os,InO o):
  Calls Tryz.prog 24 #[.slice A os.length c,.int .i64 left] w fun e w'=>(∃ r,e=.returned (.int .i64 r)/\(r=-1\/0<=r/\r+sizL (os.map OV.d)=left))/\Below w.heap.size w w':=by
 have hn':=hn;unfold maxLen at hn';have HR:=h_ hr;have HL:=h_ hl;clear hr hl
 by_cases hf:left - os.length<0
 ·go_enter Tryz.func24,Tryz.ntmps24
  go_wp2
  go_ret;exact ⟨⟨_,rfl,.inl rfl⟩,Below.refl _ _⟩
 ·go_enter Tryz.func24,Tryz.ntmps24
  go_wp2
  go_loopw [1,5] (fun l i wr=>∃ (k:Nat) (x:Int),k<=os.length/\i=.int .i64 k/\l=.int .i64 x/\0<=x/\x+(os.length+sumL ((os.take k).map OV.d))=left/\Below w.heap.size w wr) (fun _ i _=>os.length - (intOf i).toNat)
  case atStart=>exact ⟨0,left - os.length,Nat.zero_le _,rfl,by go_num,by omega,by simp [sumL],Below.refl _ _⟩
  case round=>
   obtain ⟨k,x,hk,rfl,rfl,hx0,hx1,hb⟩:=hrel;have HB:=h_ hb;have HX:=h_ hx1;have hs0:=sumL_nonneg ((os.take k).map OV.d)
   have hx2:x<=1048576:=by omega
   clear hx1 hs0
   by_cases hlt:k<os.length
   ·obtain ⟨b,off,rfl,_,hc⟩:=(HR.o.1.below hb).row objC_len (by decide) hlt;have hc0:=hc 0 _ rfl;have hc1:=hc 1 _ rfl;simp only [Nat.add_zero] at hc0;have HT:=h_ (show sumL ((os.take (k+1)).map OV.d)=sumL ((os.take k).map OV.d)+sum os[k] from by rw [take_succ hlt,List.map_append,List.map_cons,List.map_nil,sumL_snoc,sum_D]);have HM:=h_ (HL.o _ (List.getElem_mem hlt))
    have HRO:=h_ ((HR.o.2 _ (List.getElem_mem hlt)).below hb |>.more hb.size)
    clear hc hb;generalize os[k]=o at *
    go_wp2_with fail
    refine (szObjectE_any o x wr hx0 hx2 HRO.o HM.o.1 HM.o.2.1 HM.o.2.2.1 HM.o.2.2.2).mono ?_;rintro e w2 ⟨⟨r,rfl,hcase⟩,b2⟩;have HB':=h_ (HB.o.trans (b2.mono HB.o.size));clear b2 hc0 hc1 HRO
    rcases hcase with rfl | ⟨hr0,hr1⟩
    ·go_wp2_with fail
     go_ret;exact ⟨⟨_,rfl,.inl rfl⟩,HB'.o⟩
    ·have HR1:=h_ hr1;clear hr1
     go_wp2_with fail
     refine ⟨⟨k+1,r,by omega,by go_num,rfl,hr0,(by have h1:=HT.o; have h2:=HX.o; have h3:=HR1.o; omega),HB'.o⟩,by simp [intOf]; omega⟩
   ·have hke:k=os.length:=by omega
    have HV:=h_ (show x+sizL (os.map OV.d)=left from by
     have h:=HX.o;rw [hke,List.take_length] at h;unfold sizL;rw [List.length_map]
     omega)
    subst hke;clear hb
    go_wp2_with fail
    go_ret;exact ⟨⟨x,rfl,.inr ⟨hx0,HV.o⟩⟩,HB.o⟩
set_option maxHeartbeats 2000000 in
theorem toObjectS_any (A:Option Addr) (os:List OV) (c:Nat) (w:World) (hr:RdOs w w.heap.size A os) (hm:os.length<=1048576) (hl:∀ o ∈ os,LimO o):
  Calls Tryz.prog 25 #[.slice A os.length c] w (RetOs (os.map OV.d) w):=by
 obtain ⟨i0,hi1,hi2,hi3,hi4⟩:=info_parts infoO;have HI:=h_ (And.intro hi1 (And.intro hi2 (And.intro hi3 hi4)));clear hi1 hi2 hi3 hi4;have HR:=h_ hr;have HL:=h_ hl;clear hr hl
 go_enter Tryz.func25,Tryz.ntmps25
 go_wp2_with (at_make; refine wpList_make_full _ rfl _ _ _ rfl w.heap.size 26 i0 (.agg #[.slice none 0 0,.slice none 0 0]) 2 Tryz.underlying32 HI.o.1 HI.o.2.1 HI.o.2.2.1 .i64 .i64 _ _ os.length rfl rfl rfl rfl ?c1 ?c2 ?c3 ?_)
 case c1=>rw [HI.o.2.2.2]; omega
 case c2=>unfold maxLen; omega
 case c3=>exact Nat.le_refl _
 intro w1 hown hg;have hb1:Below w.heap.size w w1:=(Below.refl _ _).grown hg (Nat.le_refl _) (by intro k h; cases h);clear hg;have hown1:∃ xs,w1.ownsRow w.heap.size 26 2 (.slice (some ⟨w.heap.size,0,none⟩) os.length os.length) os.length xs:=⟨_,hown⟩;clear hown
 go_wp2
 go_loopw [4] (fun i wr=>∃ (k:Nat) (qs:List OV),qs.length=k/\k<=os.length/\i=.int .i64 k/\qs.map OV.d=(os.take k).map OV.d/\(∃ xs,wr.ownsRow w.heap.size 26 2 (.slice (some ⟨w.heap.size,0,none⟩) os.length os.length) os.length (cellsOf objC qs++xs))/\(∀ q ∈ qs,OwnO wr w.heap.size q)/\qs.Pairwise ApO/\Below w.heap.size w wr) (fun i _=>os.length - (intOf i).toNat)
 case atStart=>exact ⟨0,[],rfl,Nat.zero_le _,rfl,rfl,by simpa [cellsOf] using hown1,(fun p hp=>by cases hp),List.Pairwise.nil,hb1⟩
 case round=>
  obtain ⟨k,qs,hql,hk,rfl,hd,⟨xs,ho⟩,hrw,hpw,hb⟩:=hrel;clear hown1 hb1
  by_cases hlt:k<os.length
  ·obtain ⟨b,off,rfl,hbg,hc⟩:=(HR.o.1.below hb).row objC_len (by decide) hlt;have hc0:=hc 0 _ rfl;have hc1:=hc 1 _ rfl;simp only [Nat.add_zero] at hc0;have HO:=h_ ho;have HB:=h_ hb;have HRR:=h_ (((HR.o.2 _ (List.getElem_mem hlt)).below hb).more hb.size);have HM:=h_ (HL.o _ (List.getElem_mem hlt));have HW:=h_ (And.intro hrw hpw);have HQL:=h_ hql;have HD:=h_ (show (qs.map OV.d)++[(os[k]).d]=(os.take (k+1)).map OV.d by rw [take_succ hlt,List.map_append,hd]; rfl);clear ho hb hc hrw hpw hd hql;generalize os[k]=o at *
   go_wp2_with fail
   refine (toObject_any o wr HRR.o HM.o).mono ?_;rintro e w2 ⟨q,rfl,hqd,r1,hb2⟩
   have HF:Hd (∀ p ∈ qs,∀ k,oblk p k->k ≠ w.heap.size):=h_ (by
    obtain ⟨cs,hbx⟩:=box_of_own HO.o
    exact fun p hp=>(HW.o.1 p hp).ne_box hbx (by decide) (by decide) (by decide) (by decide))
   have ho:=own_call hb2 HO.o;have hb':=HB.o.trans (hb2.mono HB.o.size);obtain ⟨⟨old0,hk0⟩,hfz0⟩:=own_old ho (j:=k*2) (by omega);obtain ⟨⟨old1,hk1⟩,hfz1⟩:=own_old ho (j:=k*2+1) (by omega)
   have hpl:(cellsOf objC qs).length=k*2:=by rw [cellsOf_len objC_len,HQL.o]
   have ho1:=own_put ho hpl (by omega) (.slice q.A q.ps.length q.c);have ho2:=own_put ho1 (j:=k*2+1) (by simp only [List.length_append,hpl]; rfl) (by omega) (.slice q.Y q.ys.length q.yc)
   have HF1:∀ k,oblk q k->k ≠ w.heap.size:=by
    obtain ⟨cs,hbx⟩:=box_of_own ho;exact r1.ne_box hbx (by decide) (by decide) (by decide) (by decide)
   have HO':=h_ ho2;have HB':=h_ (show Below w.heap.size w ((w2.setCell ⟨w.heap.size,k*2,none⟩ (.slice q.A q.ps.length q.c)).setCell ⟨w.heap.size,k*2+1,none⟩ (.slice q.Y q.ys.length q.yc)) from (hb'.setCell (p:=⟨w.heap.size,k*2,none⟩) (Nat.le_refl _) _).setCell (p:=⟨w.heap.size,k*2+1,none⟩) (Nat.le_refl _) _)
   have HW':=h_ (show ∀ x ∈ qs++[q],OwnO ((w2.setCell ⟨w.heap.size,k*2,none⟩ (.slice q.A q.ps.length q.c)).setCell ⟨w.heap.size,k*2+1,none⟩ (.slice q.Y q.ys.length q.yc)) w.heap.size x from fun x hx=>by
    rcases List.mem_append.1 hx with hx | hx
    ·exact OwnO.set (a:=⟨w.heap.size,k*2+1,none⟩) (OwnO.set (a:=⟨w.heap.size,k*2,none⟩) ((HW.o.1 x hx).call hb2) (HF.o x hx) _) (HF.o x hx) _
    ·rw [List.mem_singleton.1 hx]
     exact OwnO.set (a:=⟨w.heap.size,k*2+1,none⟩) (OwnO.set (a:=⟨w.heap.size,k*2,none⟩) (r1.down HB.o.size) HF1 _) HF1 _)
   have HP':=h_ (ApO.snoc (q:=q) HW.o.2 (fun x hx j hj=>((HW.o.1 x hx).lt j hj).2) (fun j hj=>(r1.lt j hj).1));have HQD:=h_ hqd;clear ho ho1 ho2 hpl hb' HO HB hb2 HW HF HF1 r1 HRR hqd;simp only [OV.v]
   go_wp2_with fail
   refine ⟨⟨k+1,qs++[q],by simp [HQL.o],by omega,by go_num,?_,⟨xs.tail.tail,?_⟩,HW'.o,HP'.o,HB'.o⟩,by simp [intOf]; omega⟩
   ·rw [<-HD.o,List.map_append,List.map_singleton,HQD.o]
   ·rw [objs_snoc]
    simpa [objC] using HO'.o
  ·have e:k=os.length:=by omega
   subst e
   have hxs:xs=[]:=by
    have:=ho.1;rw [List.length_append,cellsOf_len objC_len] at this;exact List.eq_nil_of_length_eq_zero (by omega)
   subst hxs;rw [List.take_length] at hd;rw [List.append_nil] at ho;have HH:=h_ (show RetOs (os.map OV.d) w (.returned (.slice (some ⟨w.heap.size,0,none⟩) os.length os.length)) wr from ⟨_,os.length,qs,by rw [hql],hd,⟨.inr (by rw [hql]; exact ho),hrw,hpw⟩,hb⟩);clear ho hd hrw hpw hb
   go_wp2
   go_ret;exact HH.o
end CObjL
/- The reference's copies that share nothing: sections,objects,and lists of them. -/
namespace COwnL
open Kit CFixups CSymbols PObj BObj BObj2 BList CObjValid CSection CSections CMarkRows CCopyS WObj CObjL
set_option maxHeartbeats 4000000 in
theorem ownSection_any (p:SV) (w:World) (hr:RdS w w.heap.size p) (hn:(p.A=none->p.c=0)/\(p.F=none->p.fc=0)) (h1:p.zs.length<=1048576) (h2:p.fs.length<=1048576):
  Calls Tryz.prog 222 #[.agg #[.string p.nm,.int .i64 p.kd,.int .i64 p.al,.slice p.A p.zs.length p.c,.int .i64 p.sz,.slice p.F p.fs.length p.fc]] w (RetS p.d w):=by
 obtain ⟨i8,hi81,hi82,hi83,hi84⟩:=info_parts CBytes.info8;have HI8:=h_ (And.intro hi81 (And.intro hi82 (And.intro hi83 hi84)));clear hi81 hi82 hi83 hi84;obtain ⟨iF,hif1,hif2,hif3,hif4⟩:=info_parts CFixups.info;have HIF:=h_ (And.intro hif1 (And.intro hif2 (And.intro hif3 hif4)));clear hif1 hif2 hif3 hif4;have HR:=h_ hr;have HN:=h_ hn;clear hr hn;have HB:=h_ (show Below w.heap.size w ((((w.alloc (.cells #[.string p.nm,.int .i64 p.kd,.int .i64 p.al,.slice p.A p.zs.length p.c,.int .i64 p.sz,.slice p.F p.fs.length p.fc] 61)).alloc (.cells #[.string ⟨#[]⟩,.int .i64 0,.int .i64 0,.slice none 0 0,.int .i64 0,.slice none 0 0] 61)).alloc (.cells #[.string p.nm,.int .i64 p.kd,.int .i64 p.al,.slice p.A p.zs.length p.c,.int .i64 p.sz,.slice p.F p.fs.length p.fc] 61)).alloc (.cells #[] 5)) from b_);have HV:=h_ ((((Box.new w 61 #[.string p.nm,.int .i64 p.kd,.int .i64 p.al,.slice p.A p.zs.length p.c,.int .i64 p.sz,.slice p.F p.fs.length p.fc]).alloc (.cells #[.string ⟨#[]⟩,.int .i64 0,.int .i64 0,.slice none 0 0,.int .i64 0,.slice none 0 0] 61)).alloc (.cells #[.string p.nm,.int .i64 p.kd,.int .i64 p.al,.slice p.A p.zs.length p.c,.int .i64 p.sz,.slice p.F p.fs.length p.fc] 61)).alloc (.cells #[] 5));have HR0:=((Box.new (w.alloc (.cells #[.string p.nm,.int .i64 p.kd,.int .i64 p.al,.slice p.A p.zs.length p.c,.int .i64 p.sz,.slice p.F p.fs.length p.fc] 61)) 61 #[.string ⟨#[]⟩,.int .i64 0,.int .i64 0,.slice none 0 0,.int .i64 0,.slice none 0 0]).alloc (.cells #[.string p.nm,.int .i64 p.kd,.int .i64 p.al,.slice p.A p.zs.length p.c,.int .i64 p.sz,.slice p.F p.fs.length p.fc] 61)).alloc (.cells #[] 5);have HX0:=(Box.new ((w.alloc (.cells #[.string p.nm,.int .i64 p.kd,.int .i64 p.al,.slice p.A p.zs.length p.c,.int .i64 p.sz,.slice p.F p.fs.length p.fc] 61)).alloc (.cells #[.string ⟨#[]⟩,.int .i64 0,.int .i64 0,.slice none 0 0,.int .i64 0,.slice none 0 0] 61)) 61 #[.string p.nm,.int .i64 p.kd,.int .i64 p.al,.slice p.A p.zs.length p.c,.int .i64 p.sz,.slice p.F p.fs.length p.fc]).alloc (.cells #[] 5);simp only [World.size_alloc] at HR0 HX0;have HRR:=h_ HR0;have HX:=h_ HX0;clear HR0 HX0
 go_enter Tryz.func222,Tryz.ntmps222
 go_wp2_with (at_builtin; refine wpList_app _ rfl (.tmp 5) (.tmp 7) 22 rfl 5 i8 (.int .u8 0) 1 1 Tryz.underlying22 HI8.o.1 HI8.o.2.1 HI8.o.2.2.1 HI8.o.2.2.2 rfl (by decide) w.heap.size _ 0 0 [] rfl (Row.empty _ _ _ _ _) HB.o.size p.A p.zs.length p.c (ints .u8 p.zs) rfl (HR.o.1.below HB.o) (by simp) HN.o.1 (one_ints _ _) ?n1 ?n2 ?_)
 case n1=>unfold maxLen; omega
 case n2=>omega
 intro A1 n1 c1 w1 hn1 o1 g1 k1
 have hn1':n1=p.zs.length:=by omega
 clear hn1;subst hn1';generalize (((w.alloc (.cells #[.string p.nm,.int .i64 p.kd,.int .i64 p.al,.slice p.A p.zs.length p.c,.int .i64 p.sz,.slice p.F p.fs.length p.fc] 61)).alloc (.cells #[.string ⟨#[]⟩,.int .i64 0,.int .i64 0,.slice none 0 0,.int .i64 0,.slice none 0 0] 61)).alloc (.cells #[.string p.nm,.int .i64 p.kd,.int .i64 p.al,.slice p.A p.zs.length p.c,.int .i64 p.sz,.slice p.F p.fs.length p.fc] 61)).alloc (.cells #[] 5)=wa at *;have b1:Below wa.heap.size wa w1:=below_tr (Below.refl _ _) g1;have HA1:=h_ (show Row w1 w.heap.size 5 1 A1 p.zs.length c1 (ints .u8 p.zs) from by simpa using o1);replace HB:=c_ HB b1;replace HV:=h_ (HV.o.call b1);replace HRR:=h_ (HRR.o.call b1);replace HX:=h_ (HX.o.call b1);clear b1;clear o1 g1 k1;generalize hRq:w.heap.size+1=R at *;generalize hXq:R+1=X at *;have HLT:=h_ (show w.heap.size<R/\R<X from by omega);clear hRq hXq;have x3:=d_ HX.o 3;have fx:=HX.o.frozen 3;have hxl:=HX.o.lt;have HX1:=h_ (show Box (w1.setCell ⟨X,3,none⟩ (.slice A1 p.zs.length c1)) X 61 #[.string p.nm,.int .i64 p.kd,.int .i64 p.al,.slice A1 p.zs.length c1,.int .i64 p.sz,.slice p.F p.fs.length p.fc] from HX.o.set 3 _);have HV1:=h_ (HV.o.far (p:=⟨X,3,none⟩) (by have:=HLT.o; show w.heap.size ≠ X; omega) (.slice A1 p.zs.length c1));have HR1:=h_ (HRR.o.far (p:=⟨X,3,none⟩) (by have:=HLT.o; show R ≠ X; omega) (.slice A1 p.zs.length c1));have HB1:=h_ (HB.o.setCell (p:=⟨X,3,none⟩) (by have:=HLT.o; show w.heap.size<=X; omega) (.slice A1 p.zs.length c1));have HA2:=h_ (HA1.o.set (a:=⟨X,3,none⟩) (HA1.o.box HX.o (by decide)) (.slice A1 p.zs.length c1))
 have hz1:(w1.setCell ⟨X,3,none⟩ (.slice A1 p.zs.length c1)).heap.size=w1.heap.size:=by simp [World.setCell]
 have B2:Below (w1.setCell ⟨X,3,none⟩ (.slice A1 p.zs.length c1)).heap.size (w1.setCell ⟨X,3,none⟩ (.slice A1 p.zs.length c1)) ((w1.setCell ⟨X,3,none⟩ (.slice A1 p.zs.length c1)).alloc (.cells #[] 65)):=b_;clear HX HV HRR HB HA1;replace HB1:=h_ (HB1.o.trans (B2.mono HB1.o.size));replace HX1:=h_ (HX1.o.call B2);replace HV1:=h_ (HV1.o.call B2);replace HR1:=h_ (HR1.o.call B2);replace HA2:=h_ (HA2.o.call B2);clear B2;have v5:=d_ HV1.o 5;have hvl:=HV1.o.lt
 go_wp2_with (at_builtin; refine wpList_app _ rfl (.tmp 10) (.tmp 12) 59 rfl 65 iF (.agg #[.int .i64 0,.int .i64 0,.int .i64 0,.int .i64 0]) 4 32 Tryz.underlying59 HIF.o.1 HIF.o.2.1 HIF.o.2.2.1 HIF.o.2.2.2 rfl (by decide) w.heap.size _ 0 0 [] rfl (Row.empty _ _ _ _ _) HB1.o.size p.F p.fs.length p.fc (cellsOf fixupC p.fs) rfl (HR.o.2.below HB1.o) (cellsOf_len fixupC_len p.fs) HN.o.2 (one_fix _) ?m1 ?m2 ?_)
 case m1=>unfold maxLen; omega
 case m2=>omega
 intro A2 n2 c2 w2 hn2 o2 g2 k2
 have hn2':n2=p.fs.length:=by omega
 clear hn2 x3 fx hxl v5 hvl hz1;subst hn2';generalize (w1.setCell ⟨X,3,none⟩ (.slice A1 p.zs.length c1)).alloc (.cells #[] 65)=wb at *;have b2:Below wb.heap.size wb w2:=below_tr (Below.refl _ _) g2;have HF2:=h_ (show Row w2 w.heap.size 65 4 A2 p.fs.length c2 (cellsOf fixupC p.fs) from by simpa using o2);replace HB1:=h_ (HB1.o.trans (b2.mono HB1.o.size));replace HX1:=h_ (HX1.o.call b2);replace HV1:=h_ (HV1.o.call b2);replace HR1:=h_ (HR1.o.call b2);replace HA2:=h_ (HA2.o.call b2);clear b2;clear o2 g2 k2;have x5:=d_ HX1.o 5;have fx:=HX1.o.frozen 5;have hxl:=HX1.o.lt;have HX2:=h_ (show Box (w2.setCell ⟨X,5,none⟩ (.slice A2 p.fs.length c2)) X 61 #[.string p.nm,.int .i64 p.kd,.int .i64 p.al,.slice A1 p.zs.length c1,.int .i64 p.sz,.slice A2 p.fs.length c2] from HX1.o.set 5 _);have HR2:=h_ (HR1.o.far (p:=⟨X,5,none⟩) (by have:=HLT.o; show R ≠ X; omega) (.slice A2 p.fs.length c2));have HB2:=h_ (HB1.o.setCell (p:=⟨X,5,none⟩) (by have:=HLT.o; show w.heap.size<=X; omega) (.slice A2 p.fs.length c2));have HQ:=h_ (show RwS (w2.setCell ⟨X,5,none⟩ (.slice A2 p.fs.length c2)) w.heap.size ⟨p.nm,p.kd,p.al,A1,c1,p.zs,p.sz,A2,c2,p.fs⟩ from ⟨HA2.o.set (a:=⟨X,5,none⟩) (HA2.o.box HX1.o (by decide)) _,HF2.o.set (a:=⟨X,5,none⟩) (HF2.o.box HX1.o (by decide)) _⟩);clear HX1 HV1 HR1 HB1 HA2 HF2;have y0:=d_ HX2.o 0;have y1:=d_ HX2.o 1;have y2:=d_ HX2.o 2;have y3:=d_ HX2.o 3;have y4:=d_ HX2.o 4;have y5:=d_ HX2.o 5;have hyl:=HX2.o.lt;have r0:=d_ HR2.o 0;have r1:=d_ HR2.o 1;have r2:=d_ HR2.o 2;have r3:=d_ HR2.o 3;have r4:=d_ HR2.o 4;have r5:=d_ HR2.o 5;have f0:=HR2.o.frozen 0;have f1:=HR2.o.frozen 1;have f2:=HR2.o.frozen 2;have f3:=HR2.o.frozen 3;have f4:=HR2.o.frozen 4;have f5:=HR2.o.frozen 5;have hrl:=HR2.o.lt
 go_wp2_with fail
 have hne:∀ k,sblk ⟨p.nm,p.kd,p.al,A1,c1,p.zs,p.sz,A2,c2,p.fs⟩ k->k ≠ R:=HQ.o.box HR2.o (by decide) (by decide);have HFIN:=h_ (show RwS (put6 (w2.setCell ⟨X,5,none⟩ (.slice A2 p.fs.length c2)) R 0 (.string p.nm) (.int .i64 p.kd) (.int .i64 p.al) (.slice A1 p.zs.length c1) (.int .i64 p.sz) (.slice A2 p.fs.length c2)) w.heap.size ⟨p.nm,p.kd,p.al,A1,c1,p.zs,p.sz,A2,c2,p.fs⟩/\Below w.heap.size w (put6 (w2.setCell ⟨X,5,none⟩ (.slice A2 p.fs.length c2)) R 0 (.string p.nm) (.int .i64 p.kd) (.int .i64 p.al) (.slice A1 p.zs.length c1) (.int .i64 p.sz) (.slice A2 p.fs.length c2)) from ⟨put6_rwS HQ.o hne,put6_below HB2.o (by have:=HLT.o; omega)⟩)
 have kk:=((((HR2.o.set 0 (.string p.nm)).set 1 (.int .i64 p.kd)).set 2 (.int .i64 p.al)).set 3 (.slice A1 p.zs.length c1)).set 4 (.int .i64 p.sz) |>.set 5 (.slice A2 p.fs.length c2)
 have k0:=kk.cell 0;have k1:=kk.cell 1;have k2:=kk.cell 2;have k3:=kk.cell 3;have k4:=kk.cell 4;have k5:=kk.cell 5;simp only [k_] at k0 k1 k2 k3 k4 k5;exact bodyPost_ret (v:=.agg (secC ⟨p.nm,p.kd,p.al,A1,c1,p.zs,p.sz,A2,c2,p.fs⟩).toArray) (by simp [results,Tryz.results222,go_sem,secC,k0,k1,k2,k3,k4,k5]) rfl ⟨_,rfl,rfl,HFIN.o.1,HFIN.o.2⟩
theorem secs_snoc {w w':World} {base c N:Nat} {A:Option Addr} {ps:List SV} (h:OwnSs w base A c ps) {q:SV} (hq:RwS w base q) (hold:∀ p ∈ ps,∀ k,sblk p k->k<N) (hnew:∀ k,sblk q k->N<=k) {A':Option Addr} {n' c':Nat} (hn:n'=ps.length+1)
  (row:Row w' base 61 6 A' n' c' (cellsOf secC ps++secC q)) (g:w.grownBy w' (blk A c)):OwnSs w' base A' c' (ps++[q]):=by
 subst hn;have hS:∀ p,RwS w base p->RwS w' base p:=fun p hp=>⟨hp.1.grown g (fun k hk=>apartT hp.1 h.1 (by decide) k hk),hp.2.grown g (fun k hk=>apartT hp.2 h.1 (by decide) k hk)⟩;refine ⟨?_,RwSs.snoc (fun p hp=>hS p (h.2.1 p hp)) (hS q hq),PwSs.snoc h.2.2 hold hnew⟩;rw [<-cells_snoc] at row
 show Row w' base _ 6 A' (ps++[q]).length c' _
 rw [List.length_append];exact row
theorem one_secC (q:SV):∀ u ∈ secC q,u.oneCell'=true:=by
 intro u hu;simp only [secC,List.mem_cons,List.not_mem_nil,or_false] at hu
 rcases hu with rfl | rfl | rfl | rfl | rfl | rfl <;> rfl
theorem one_objC (q:OV):∀ u ∈ objC q,u.oneCell'=true:=by
 intro u hu;simp only [objC,List.mem_cons,List.not_mem_nil,or_false] at hu
 rcases hu with rfl | rfl <;> rfl
def CpS (p:SV):Prop:=((p.A=none->p.c=0)/\(p.F=none->p.fc=0))/\p.zs.length<=1048576/\p.fs.length<=1048576
def CpO (o:OV):Prop:=o.ps.length<=1048576/\o.ys.length<=1048576/\(o.Y=none->o.yc=0)/\∀ p ∈ o.ps,CpS p
set_option maxHeartbeats 2000000 in
theorem ownSections_any (A:Option Addr) (ps:List SV) (c:Nat) (w:World) (hr:RdSs w w.heap.size A ps) (hm:ps.length<=1048576) (hl:∀ p ∈ ps,CpS p):
  Calls Tryz.prog 193 #[.slice A ps.length c] w (RetSs (ps.map SV.d) w):=by
 obtain ⟨i0,hi1,hi2,hi3,hi4⟩:=info_parts BObj.info;have HI:=h_ (And.intro hi1 (And.intro hi2 (And.intro hi3 hi4)));clear hi1 hi2 hi3 hi4;have HR:=h_ hr;have HL:=h_ hl;clear hr hl;have HB:=h_ (show Below w.heap.size w (w.alloc (.cells #[] 61)) from b_)
 go_enter Tryz.func193,Tryz.ntmps193
 go_wp2_with fail
 generalize w.alloc (.cells #[] 61)=w0 at *
 go_loopw [3,4] (fun s i wi=>∃ (k:Nat) (qs:List SV) (Aq:Option Addr) (cq:Nat),k<=ps.length/\qs.length=k/\s=.slice Aq qs.length cq/\i=.int .i64 k/\qs.map SV.d=(ps.take k).map SV.d/\OwnSs wi w.heap.size Aq cq qs/\Below w.heap.size w wi) (fun _ i _=>ps.length - (intOf i).toNat)
 case atStart=>exact ⟨0,[],_,0,Nat.zero_le _,rfl,rfl,rfl,rfl,⟨Row.empty _ _ _ _ _,(fun p hp=>by cases hp),List.Pairwise.nil⟩,HB.o⟩
 case round=>
  clear HB;obtain ⟨k,qs,Aq,cq,hk,hql,rfl,rfl,hqd,ho,hb⟩:=hrel;have HO:=h_ ho;have HB:=h_ hb;have HQL:=h_ hql;have HQD:=h_ hqd
  have hq1:qs.length<=1048576:=by omega
  clear hqd ho hql
  by_cases hlt:k<ps.length
  ·obtain ⟨b,off,rfl,hbg,hc⟩:=(HR.o.1.below hb).row secC_len (by decide) hlt;have hc0:=hc 0 _ rfl;have hc1:=hc 1 _ rfl;have hc2:=hc 2 _ rfl;have hc3:=hc 3 _ rfl;have hc4:=hc 4 _ rfl;have hc5:=hc 5 _ rfl;simp only [Nat.add_zero] at hc0;have HM:=h_ (HL.o _ (List.getElem_mem hlt));have HRS:=h_ (((HR.o.2 _ (List.getElem_mem hlt)).below hb).more hb.size);have HD:=h_ (show qs.map SV.d++[(ps[k]).d]=(ps.take (k+1)).map SV.d by rw [take_succ hlt,List.map_append,HQD.o]; rfl);clear hb hc;generalize ps[k]=p at *
   go_wp2_with fail
   refine (ownSection_any p wr HRS.o HM.o.1 HM.o.2.1 HM.o.2.2).mono ?_;rintro e w2 ⟨q,rfl,hqd,r2,b2⟩;have HRQ:=h_ (r2.down HB.o.size);have HNEW:=h_ (fun j (hj:sblk q j)=>(show wr.heap.size<=j from (r2.lt j hj).1));have HOLD:=h_ (fun x (hx:x ∈ qs) j (hj:sblk x j)=>(show j<wr.heap.size from ((HO.o.2.1 x hx).lt j hj).2));have HQ:=h_ hqd;have HO2:=h_ (HO.o.call b2);replace HB:=c_ HB b2;clear b2;clear hqd r2 HO HRS hc0 hc1 hc2 hc3 hc4 hc5;have B3:Below w2.heap.size w2 (w2.alloc (.cells (secC q).toArray 61)):=b_;have HO3:=h_ (HO2.o.call B3);have HRQ3:=h_ (HRQ.o.call B3);replace HB:=c_ HB B3;clear B3;clear HO2 HRQ;simp only [secC] at HO3 HRQ3 HB ⊢
   go_wp2_with (at_builtin; refine wpList_app _ rfl (.tmp 12) (.tmp 18) 23 rfl 61 i0 (.agg #[.string ByteArray.empty,.int .i64 0,.int .i64 0,.slice none 0 0,.int .i64 0,.slice none 0 0]) 6 88 Tryz.underlying23 HI.o.1 HI.o.2.1 HI.o.2.2.1 HI.o.2.2.2 rfl (by decide) w.heap.size Aq qs.length cq (cellsOf secC qs) rfl HO3.o.1 HB.o.size (some ⟨w2.heap.size,0,none⟩) 1 1 (secC q) rfl (rd_lit w2 (secC q).toArray 61 _ rfl) rfl (fun h=>by cases h) (one_secC q) ?n1 ?n2 ?_)
   case n1=>unfold maxLen; omega
   case n2=>omega
   intro A8 n8 c8 w8 hn8 o8 g8 k8;have HOW:=h_ (secs_snoc HO3.o HRQ3.o HOLD.o HNEW.o hn8 o8 g8);have HB8:=h_ (HB.o.grown g8 HB.o.size (fun j hj=>(HO3.o.1.lt j hj).1))
   have hn8':n8=(qs++[q]).length:=by rw [hn8,List.length_append]; rfl
   subst hn8';clear hn8 o8 g8 k8 HO3 HRQ3
   go_wp2_with fail
   refine ⟨⟨k+1,qs++[q],A8,c8,by omega,by simp [HQL.o],by first | rfl | rw [List.length_append],by go_num,?_,HOW.o,HB8.o⟩,by simp [intOf]; omega⟩
   rw [<-HD.o,List.map_append,List.map_singleton,HQ.o]
  ·have hke:k=ps.length:=by omega
   have HH:=h_ (show RetSs (ps.map SV.d) w (.returned (.slice Aq qs.length cq)) wr from ⟨Aq,cq,qs,rfl,by rw [HQD.o,hke,List.take_length],HO.o,HB.o⟩);subst hke;clear hb
   go_wp2_with fail
   go_ret;exact HH.o
set_option maxHeartbeats 2000000 in
theorem ownObject_any (o:OV) (w:World) (hr:RdO w w.heap.size o) (hc:CpO o):
  Calls Tryz.prog 162 #[.agg #[.slice o.A o.ps.length o.c,.slice o.Y o.ys.length o.yc]] w (RetO o.d w):=by
 obtain ⟨iY,hiy1,hiy2,hiy3,hiy4⟩:=info_parts CSymbols.info;have HIY:=h_ (And.intro hiy1 (And.intro hiy2 (And.intro hiy3 hiy4)));clear hiy1 hiy2 hiy3 hiy4;have HR:=h_ hr;have HC:=h_ hc;clear hr hc;have HB:=h_ (show Below w.heap.size w (((w.alloc (.cells #[.slice o.A o.ps.length o.c,.slice o.Y o.ys.length o.yc] 26)).alloc (.cells #[.slice none 0 0,.slice none 0 0] 26)).alloc (.cells #[.slice o.A o.ps.length o.c,.slice o.Y o.ys.length o.yc] 26)) from b_);have HV:=h_ (((Box.new w 26 #[.slice o.A o.ps.length o.c,.slice o.Y o.ys.length o.yc]).alloc (.cells #[.slice none 0 0,.slice none 0 0] 26)).alloc (.cells #[.slice o.A o.ps.length o.c,.slice o.Y o.ys.length o.yc] 26));have HR0:=(Box.new (w.alloc (.cells #[.slice o.A o.ps.length o.c,.slice o.Y o.ys.length o.yc] 26)) 26 #[.slice none 0 0,.slice none 0 0]).alloc (.cells #[.slice o.A o.ps.length o.c,.slice o.Y o.ys.length o.yc] 26);have HX0:=Box.new ((w.alloc (.cells #[.slice o.A o.ps.length o.c,.slice o.Y o.ys.length o.yc] 26)).alloc (.cells #[.slice none 0 0,.slice none 0 0] 26)) 26 #[.slice o.A o.ps.length o.c,.slice o.Y o.ys.length o.yc];simp only [World.size_alloc] at HR0 HX0;have HRR:=h_ HR0;have HX:=h_ HX0;clear HR0 HX0;have v0:=d_ HV.o 0;have hvl:=HV.o.lt
 go_enter Tryz.func162,Tryz.ntmps162
 go_wp2_with fail
 clear v0 hvl;generalize ((w.alloc (.cells #[.slice o.A o.ps.length o.c,.slice o.Y o.ys.length o.yc] 26)).alloc (.cells #[.slice none 0 0,.slice none 0 0] 26)).alloc (.cells #[.slice o.A o.ps.length o.c,.slice o.Y o.ys.length o.yc] 26)=w0 at *;generalize hRq:w.heap.size+1=R at *;generalize hXq:R+1=X at *;have HLT:=h_ (show w.heap.size<R/\R<X from by omega);clear hRq hXq;refine (ownSections_any o.A o.ps o.c w0 ((HR.o.1.below HB.o).more HB.o.size) HC.o.1 HC.o.2.2.2).mono ?_;rintro e w1 ⟨A1,c1,qs,rfl,hqd,o1,b1⟩;have HQ:=h_ hqd;have HO:=h_ (o1.down HB.o.size);replace HB:=c_ HB b1;replace HV:=h_ (HV.o.call b1);replace HRR:=h_ (HRR.o.call b1);replace HX:=h_ (HX.o.call b1);clear b1;clear hqd o1;have x0:=d_ HX.o 0;have x1:=d_ HX.o 1;have fx:=HX.o.frozen 0;have hxl:=HX.o.lt;have HX1:=h_ (show Box (w1.setCell ⟨X,0,none⟩ (.slice A1 qs.length c1)) X 26 #[.slice A1 qs.length c1,.slice o.Y o.ys.length o.yc] from HX.o.set 0 _);have HV1:=h_ (HV.o.far (p:=⟨X,0,none⟩) (by have:=HLT.o; show w.heap.size ≠ X; omega) (.slice A1 qs.length c1));have HR1:=h_ (HRR.o.far (p:=⟨X,0,none⟩) (by have:=HLT.o; show R ≠ X; omega) (.slice A1 qs.length c1));have HB1:=h_ (HB.o.setCell (p:=⟨X,0,none⟩) (by have:=HLT.o; show w.heap.size<=X; omega) (.slice A1 qs.length c1))
 have hneX:∀ k,ssblk A1 c1 qs k->k ≠ X:=by
  rintro k (hk | ⟨p,hp,hk⟩)
  ·exact HO.o.1.box HX.o (by decide) k hk
  ·exact (HO.o.2.1 p hp).box HX.o (by decide) (by decide) k hk
 have HO1:=h_ (show OwnSs (w1.setCell ⟨X,0,none⟩ (.slice A1 qs.length c1)) w.heap.size A1 c1 qs from HO.o.keep fun k hk=>Below.heap_setCell w1 ⟨X,0,none⟩ _ k (hneX k hk));have B2:Below (w1.setCell ⟨X,0,none⟩ (.slice A1 qs.length c1)).heap.size (w1.setCell ⟨X,0,none⟩ (.slice A1 qs.length c1)) ((w1.setCell ⟨X,0,none⟩ (.slice A1 qs.length c1)).alloc (.cells #[] 67)):=b_;clear HX HV HRR HB HO hneX;replace HB1:=h_ (HB1.o.trans (B2.mono HB1.o.size));replace HX1:=h_ (HX1.o.call B2);replace HV1:=h_ (HV1.o.call B2);replace HR1:=h_ (HR1.o.call B2);replace HO1:=h_ (HO1.o.call B2);clear B2;have v1:=d_ HV1.o 1;have hvl:=HV1.o.lt
 go_wp2_with (at_builtin; refine wpList_app _ rfl (.tmp 9) (.tmp 11) 24 rfl 67 iY (.agg #[.string ByteArray.empty,.int .i64 0,.int .i64 0,.int .i64 0]) 4 40 Tryz.underlying24 HIY.o.1 HIY.o.2.1 HIY.o.2.2.1 HIY.o.2.2.2 rfl (by decide) w.heap.size _ 0 0 [] rfl (Row.empty _ _ _ _ _) HB1.o.size o.Y o.ys.length o.yc (cellsOf symbolC o.ys) rfl (HR.o.2.below HB1.o) (cellsOf_len symbolC_len o.ys) HC.o.2.2.1 (one_sym _) ?m1 ?m2 ?_)
 case m1=>have:=HC.o.2.1; unfold maxLen; omega
 case m2=>have:=HC.o.2.1; omega
 intro A2 n2 c2 w2 hn2 o2 g2 k2
 have hn2':n2=o.ys.length:=by omega
 clear hn2 x0 x1 fx hxl v1 hvl;subst hn2';generalize (w1.setCell ⟨X,0,none⟩ (.slice A1 qs.length c1)).alloc (.cells #[] 67)=wb at *;have b2:Below wb.heap.size wb w2:=below_tr (Below.refl _ _) g2;have HF2:=h_ (show Row w2 w.heap.size 67 4 A2 o.ys.length c2 (cellsOf symbolC o.ys) from by simpa using o2);replace HB1:=h_ (HB1.o.trans (b2.mono HB1.o.size));replace HX1:=h_ (HX1.o.call b2);replace HV1:=h_ (HV1.o.call b2);replace HR1:=h_ (HR1.o.call b2);replace HO1:=h_ (HO1.o.call b2);clear b2;clear o2 g2 k2;have x0:=d_ HX1.o 0;have x1:=d_ HX1.o 1;have fx:=HX1.o.frozen 1;have hxl:=HX1.o.lt;have HX2:=h_ (show Box (w2.setCell ⟨X,1,none⟩ (.slice A2 o.ys.length c2)) X 26 #[.slice A1 qs.length c1,.slice A2 o.ys.length c2] from HX1.o.set 1 _);have HR2:=h_ (HR1.o.far (p:=⟨X,1,none⟩) (by have:=HLT.o; show R ≠ X; omega) (.slice A2 o.ys.length c2));have HB2:=h_ (HB1.o.setCell (p:=⟨X,1,none⟩) (by have:=HLT.o; show w.heap.size<=X; omega) (.slice A2 o.ys.length c2));have HOO:=h_ (show OwnO w2 w.heap.size ⟨A1,c1,qs,A2,c2,o.ys⟩ from ⟨HO1.o,HF2.o⟩);have HQ2:=h_ (show OwnO (w2.setCell ⟨X,1,none⟩ (.slice A2 o.ys.length c2)) w.heap.size ⟨A1,c1,qs,A2,c2,o.ys⟩ from OwnO.set (a:=⟨X,1,none⟩) HOO.o (HOO.o.ne_box HX1.o (by decide) (by decide) (by decide) (by decide)) _);clear HX1 HV1 HR1 HB1 HO1 HF2 HOO;have y0:=d_ HX2.o 0;have y1:=d_ HX2.o 1;have hyl:=HX2.o.lt;have r0:=d_ HR2.o 0;have r1:=d_ HR2.o 1;have f0:=HR2.o.frozen 0;have f1:=HR2.o.frozen 1;have hrl:=HR2.o.lt
 go_wp2_with fail
 have hne:=HQ2.o.ne_box HR2.o (by decide) (by decide) (by decide) (by decide);have HFIN:=CObject.ret_object (Y:=R) HQ2.o HB2.o hne (by have:=HLT.o; omega)
 have hdd:OV.d ⟨A1,c1,qs,A2,c2,o.ys⟩=o.d:=by simp only [OV.d,HQ.o]
 rw [hdd] at HFIN;have kk:=(HR2.o.set 0 (.slice A1 qs.length c1)).set 1 (.slice A2 o.ys.length c2);have k0:=kk.cell 0;have k1:=kk.cell 1;simp only [k_] at k0 k1;exact bodyPost_ret (v:=OV.v ⟨A1,c1,qs,A2,c2,o.ys⟩) (by simp [results,Tryz.results162,go_sem,OV.v,k0,k1]) rfl HFIN
set_option maxHeartbeats 2000000 in
theorem ownObjects_any (A:Option Addr) (os:List OV) (c:Nat) (w:World) (hr:RdOs w w.heap.size A os) (hm:os.length<=1048576) (hl:∀ o ∈ os,CpO o):
  Calls Tryz.prog 114 #[.slice A os.length c] w (RetOs (os.map OV.d) w):=by
 obtain ⟨i0,hi1,hi2,hi3,hi4⟩:=info_parts infoO;have HI:=h_ (And.intro hi1 (And.intro hi2 (And.intro hi3 hi4)));clear hi1 hi2 hi3 hi4;have HR:=h_ hr;have HL:=h_ hl;clear hr hl;have HB:=h_ (show Below w.heap.size w (w.alloc (.cells #[] 26)) from b_)
 go_enter Tryz.func114,Tryz.ntmps114
 go_wp2_with fail
 generalize w.alloc (.cells #[] 26)=w0 at *
 go_loopw [3,4] (fun s i wi=>∃ (k:Nat) (qs:List OV) (Aq:Option Addr) (cq:Nat),k<=os.length/\qs.length=k/\s=.slice Aq qs.length cq/\i=.int .i64 k/\qs.map OV.d=(os.take k).map OV.d/\OwnOs wi w.heap.size Aq cq qs/\Below w.heap.size w wi) (fun _ i _=>os.length - (intOf i).toNat)
 case atStart=>exact ⟨0,[],_,0,Nat.zero_le _,rfl,rfl,rfl,rfl,⟨Row.empty _ _ _ _ _,(fun p hp=>by cases hp),List.Pairwise.nil⟩,HB.o⟩
 case round=>
  clear HB;obtain ⟨k,qs,Aq,cq,hk,hql,rfl,rfl,hqd,ho,hb⟩:=hrel;have HO:=h_ ho;have HB:=h_ hb;have HQL:=h_ hql;have HQD:=h_ hqd
  have hq1:qs.length<=1048576:=by omega
  clear hqd ho hql
  by_cases hlt:k<os.length
  ·obtain ⟨b,off,rfl,hbg,hc⟩:=(HR.o.1.below hb).row objC_len (by decide) hlt;have hc0:=hc 0 _ rfl;have hc1:=hc 1 _ rfl;simp only [Nat.add_zero] at hc0;have HM:=h_ (HL.o _ (List.getElem_mem hlt));have HRS:=h_ (((HR.o.2 _ (List.getElem_mem hlt)).below hb).more hb.size);have HD:=h_ (show qs.map OV.d++[(os[k]).d]=(os.take (k+1)).map OV.d by rw [take_succ hlt,List.map_append,HQD.o]; rfl);clear hb hc;generalize os[k]=p at *
   go_wp2_with fail
   refine (ownObject_any p wr HRS.o HM.o).mono ?_;rintro e w2 ⟨q,rfl,hqd,r2,b2⟩;have HRQ:=h_ (r2.down HB.o.size);have HNEW:=h_ (fun j (hj:oblk q j)=>(show wr.heap.size<=j from (r2.lt j hj).1));have HOLD:=h_ (fun x (hx:x ∈ qs) j (hj:oblk x j)=>(show j<wr.heap.size from ((HO.o.2.1 x hx).lt j hj).2));have HQ:=h_ hqd;have HO2:=h_ (HO.o.call b2);replace HB:=c_ HB b2;clear b2;clear hqd r2 HO HRS hc0 hc1;have B3:Below w2.heap.size w2 (w2.alloc (.cells (objC q).toArray 26)):=b_;have HO3:=h_ (HO2.o.call B3);have HRQ3:=h_ (HRQ.o.call B3);replace HB:=c_ HB B3;clear B3;clear HO2 HRQ;simp only [objC] at HO3 HRQ3 HB ⊢;simp only [OV.v]
   go_wp2_with (at_builtin; refine wpList_app _ rfl (.tmp 12) (.tmp 18) 32 rfl 26 i0 (.agg #[.slice none 0 0,.slice none 0 0]) 2 48 Tryz.underlying32 HI.o.1 HI.o.2.1 HI.o.2.2.1 HI.o.2.2.2 rfl (by decide) w.heap.size Aq qs.length cq (cellsOf objC qs) rfl HO3.o.1 HB.o.size (some ⟨w2.heap.size,0,none⟩) 1 1 (objC q) rfl (rd_lit w2 (objC q).toArray 26 _ rfl) rfl (fun h=>by cases h) (one_objC q) ?n1 ?n2 ?_)
   case n1=>unfold maxLen; omega
   case n2=>omega
   intro A8 n8 c8 w8 hn8 o8 g8 k8;have HOW:=h_ (OwnOs.snoc HO3.o HRQ3.o HOLD.o HNEW.o hn8 o8 g8);have HB8:=h_ (HB.o.grown g8 HB.o.size (fun j hj=>(HO3.o.1.lt j hj).1))
   have hn8':n8=(qs++[q]).length:=by rw [hn8,List.length_append]; rfl
   subst hn8';clear hn8 o8 g8 k8 HO3 HRQ3
   go_wp2_with fail
   refine ⟨⟨k+1,qs++[q],A8,c8,by omega,by simp [HQL.o],by first | rfl | rw [List.length_append],by go_num,?_,HOW.o,HB8.o⟩,by simp [intOf]; omega⟩
   rw [<-HD.o,List.map_append,List.map_singleton,HQ.o]
  ·have hke:k=os.length:=by omega
   have HH:=h_ (show RetOs (os.map OV.d) w (.returned (.slice Aq qs.length cq)) wr from ⟨Aq,cq,qs,rfl,by rw [HQD.o,hke,List.take_length],HO.o,HB.o⟩);subst hke;clear hb
   go_wp2_with fail
   go_ret;exact HH.o
end COwnL
end Go.Proofs.YtepoiphmmjfbdaaGreatDoor
