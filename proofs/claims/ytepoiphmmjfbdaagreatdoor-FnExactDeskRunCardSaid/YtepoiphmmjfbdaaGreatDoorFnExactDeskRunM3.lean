/- Contracts of the laws' helpers on Object: the copy, the comparison of equal data, the size, the marks. -/
import Derived.Test.YtepoiphmmjfbdaaGreatDoorFnExactDeskRunM2
import Derived.Test.YtepoiphmmjfbdaaGreatDoorRows
import Derived.BigQuiet
set_option linter.unusedSimpArgs false
set_option linter.unusedVariables false
set_option maxRecDepth 200000
open Go.ChangeShapes Go.WideShapes Go.ChangeAt Go.RowKit
namespace Go.Proofs.YtepoiphmmjfbdaaGreatDoor
namespace CObject
open Kit CFixups CSymbols PObj BObj CSection CSections CMarkText CSymMarks CMarkRows CSecMarks CSecHeld
def LimO (o:OV):Prop:=o.ps.length<=1048576/\o.ys.length<=1048576/\(∀ p ∈ o.ps,Lim p)
theorem ret_object {w w1:World} {Y:Nat} {o:OV} (ho:OwnO w1 w.heap.size o) (B:Below w.heap.size w w1) (hY:∀ k,oblk o k->k ≠ Y) (hYw:w.heap.size<=Y):
  RetO o.d w (.returned o.v) ((w1.setCell ⟨Y,0,none⟩ (.slice o.A o.ps.length o.c)).setCell ⟨Y,1,none⟩ (.slice o.Y o.ys.length o.yc)):=by
 refine ⟨o,rfl,rfl,?_,(B.setCell (p:=⟨Y,0,none⟩) hYw _).setCell (p:=⟨Y,1,none⟩) hYw _⟩;exact ho.keep fun k hk=>(Below.heap_setCell _ ⟨Y,1,none⟩ _ k (hY k hk)).trans (Below.heap_setCell _ ⟨Y,0,none⟩ _ k (hY k hk))
theorem toObject_any (o:OV) (w:World) (hr:RdO w w.heap.size o) (hl:LimO o):
  Calls Tryz.prog 73 #[.agg #[.slice o.A o.ps.length o.c,.slice o.Y o.ys.length o.yc]] w (RetO o.d w):=by
 obtain ⟨A,c,ps,YA,yc,ys⟩:=o;obtain ⟨h1,h2,h3⟩:=hl;simp only at h1 h2 h3 ⊢;have HR:=h_ hr;have HL:=h_ h3;clear hr h3;have HY:=(Box.new (w.alloc (.cells #[.slice A ps.length c,.slice YA ys.length yc] 108)) 26 #[.slice none 0 0,.slice none 0 0]).alloc (.cells #[.slice none 0 0,.slice none 0 0] 26);have HZ:=Box.new ((w.alloc (.cells #[.slice A ps.length c,.slice YA ys.length yc] 108)).alloc (.cells #[.slice none 0 0,.slice none 0 0] 26)) 26 #[.slice none 0 0,.slice none 0 0];have HV:=((Box.new w 108 #[.slice A ps.length c,.slice YA ys.length yc]).alloc (.cells #[.slice none 0 0,.slice none 0 0] 26)).alloc (.cells #[.slice none 0 0,.slice none 0 0] 26);have B0:Below w.heap.size w (((w.alloc (.cells #[.slice A ps.length c,.slice YA ys.length yc] 108)).alloc (.cells #[.slice none 0 0,.slice none 0 0] 26)).alloc (.cells #[.slice none 0 0,.slice none 0 0] 26)):=b_;simp only [World.size_alloc] at HY HZ
 have hYX:w.heap.size+1<w.heap.size+1+1:=by omega
 have hVY:w.heap.size<w.heap.size+1:=by omega
 have HB:=h_ B0;clear B0
 go_enter Tryz.func73,Tryz.ntmps73
 go_wp2_with fail
 generalize (((w.alloc (.cells #[.slice A ps.length c,.slice YA ys.length yc] 108)).alloc (.cells #[.slice none 0 0,.slice none 0 0] 26)).alloc (.cells #[.slice none 0 0,.slice none 0 0] 26))=w0 at *;generalize w.heap.size+1+1=X at *;generalize w.heap.size+1=Y at *;refine (toSectionS_any A ps c w0 ((HR.o.1.below HB.o).more HB.o.size) h1 HL.o).mono ?_;rintro e w1 ⟨A1,c1,qs,rfl,hqd,o1,b1⟩;have HQD:=h_ hqd;have HY1:=h_ (HY.call b1);have HZ1:=h_ (HZ.call b1);have HV1:=h_ (HV.call b1);have HB1:=h_ (HB.o.trans (b1.mono HB.o.size));have HO:=h_ o1;have hX0:X<w0.heap.size:=HZ.lt;have z0:=HZ1.o.cell 0;have zf0:=HZ1.o.frozen 0;have v1:=HV1.o.cell 1;simp only [g_] at z0 v1;clear HY HZ HV o1 b1 HB hqd
 have hne:w.heap.size ≠ X:=by omega
 have hnY:Y ≠ X:=by omega
 have hle:w.heap.size<=X:=by omega
 go_wp2_with fail
 have HB2:=h_ (HB1.o.setCell (p:=⟨X,0,none⟩) hle (.slice A1 qs.length c1))
 have hk1:∀ k,ssblk A1 c1 qs k->k ≠ X:=fun k hk=>by have:=(HO.o.lt k hk).1; omega
 have HO2:=h_ (HO.o.keep (fun k hk=>Below.heap_setCell w1 ⟨X,0,none⟩ (.slice A1 qs.length c1) k (hk1 k hk)));have HY2:=h_ (HY1.o.far (p:=⟨X,0,none⟩) hnY (.slice A1 qs.length c1));have HZ2:=h_ (show Box (w1.setCell ⟨X,0,none⟩ (.slice A1 qs.length c1)) X 26 #[.slice A1 qs.length c1,.slice none 0 0] from HZ1.o.set 0 (.slice A1 qs.length c1));clear HB1 HO HY1 HZ1 HV1 z0 zf0 v1;generalize w1.setCell ⟨X,0,none⟩ (.slice A1 qs.length c1)=w2 at *;refine (toSymbolS_any YA ys yc w2 ((HR.o.2.below HB2.o).more HB2.o.size) h2).mono ?_;rintro e w3 ⟨Y1,yc1,rfl,o3,b3⟩;have HB3:=h_ (HB2.o.trans (b3.mono HB2.o.size));have HO3:=h_ (HO2.o.call b3);have HF3:=h_ (show Row w3 w2.heap.size 67 4 Y1 ys.length yc1 (cellsOf symbolC ys) from .inr o3);have HY3:=h_ (HY2.o.call b3);have HZ3:=h_ (HZ2.o.call b3);have hX2:X<w2.heap.size:=HZ2.o.lt;have hZ3:=HZ3.o.lt;have hY3:=HY3.o.lt;have z0:=HZ3.o.cell 0;have z1:=HZ3.o.cell 1;have zf1:=HZ3.o.frozen 1;have y0:=HY3.o.cell 0;have y1:=HY3.o.cell 1;have yf0:=HY3.o.frozen 0;have yf1:=HY3.o.frozen 1;simp only [g_] at z0 z1 y0 y1
 have hk3:∀ k,blk Y1 yc1=some k->k ≠ X:=fun k hk=>by have:=(HF3.o.lt k hk).1; omega
 have hkY:∀ k,oblk ⟨A1,c1,qs,Y1,yc1,ys⟩ k->k ≠ Y:=by
  rintro k (hk | hk)
  ·have:=(HO3.o.lt k hk).1; omega
  ·have:=(HF3.o.lt k hk).1; omega
 have HQ:=h_ (show OwnO (w3.setCell ⟨X,1,none⟩ (.slice Y1 ys.length yc1)) w.heap.size ⟨A1,c1,qs,Y1,yc1,ys⟩ from ⟨(HO3.o.keep (fun k hk=>Below.heap_setCell w3 ⟨X,1,none⟩ (.slice Y1 ys.length yc1) k (hk1 k hk))).down (by omega),(HF3.o.set (a:=⟨X,1,none⟩) hk3 _).down HB2.o.size⟩);have HB4:=h_ (HB3.o.setCell (p:=⟨X,1,none⟩) hle (.slice Y1 ys.length yc1));have HY4:=h_ (HY3.o.far (p:=⟨X,1,none⟩) hnY (.slice Y1 ys.length yc1));have HF:=h_ (ret_object HQ.o HB4.o hkY (Nat.le_of_lt hVY))
 have hod:OV.d ⟨A1,c1,qs,Y1,yc1,ys⟩=OV.d ⟨A,c,ps,YA,yc,ys⟩:=by simp only [OV.d,HQD.o]
 rw [hod] at HF;clear hk1 hk3 hkY b3 o3 HO3 HF3 HB2 HB3 HO2 HY2 HZ2 HY3 HZ3 hod;have k:=(HY4.o.set 0 (.slice A1 qs.length c1)).set 1 (.slice Y1 ys.length yc1);have k0:=k.cell 0;have k1:=k.cell 1;simp only [k_] at k0 k1;clear k
 go_wp2_with fail
 exact bodyPost_ret (v:=OV.v ⟨A1,c1,qs,Y1,yc1,ys⟩) (by simp [results,Tryz.results73,go_sem,OV.v,k0,k1]) rfl HF.o
theorem eqObject_same (o o':OV) (w:World) (h:RdO w w.heap.size o) (h':RdO w w.heap.size o') (hd:o.d=o'.d) (hl:LimO o):
  Calls Tryz.prog 74 #[.agg #[.slice o.A o.ps.length o.c,.slice o.Y o.ys.length o.yc],.agg #[.slice o'.A o'.ps.length o'.c,.slice o'.Y o'.ys.length o'.yc]] w (Ret (.bool true) w):=by
 obtain ⟨A,c,ps,Y,yc,ys⟩:=o;obtain ⟨A',c',ps',Y',yc',ys'⟩:=o';simp only [OV.d,OD.mk.injEq] at hd;obtain ⟨hd,rfl⟩:=hd;obtain ⟨h1,h2,h3⟩:=hl;simp only at h1 h2 h3 ⊢
 have hm1:ps.length<=maxLen:=by unfold maxLen; omega
 have hm2:ys.length<=maxLen:=by unfold maxLen; omega
 have HL:=h_ (fun (p:SV) hp=>(show p.zs.length<=maxLen/\p.fs.length<=maxLen from by have:=h3 p hp; unfold Lim at this; unfold maxLen; omega));have HD:=h_ hd;have HR:=h_ (And.intro h h');clear h3 h h' hd;have B0:Below w.heap.size w ((w.alloc (.cells #[.slice A ps.length c,.slice Y ys.length yc] 26)).alloc (.cells #[.slice A' ps'.length c',.slice Y' ys.length yc'] 26)):=b_;have X0:=(Box.new w 26 #[.slice A ps.length c,.slice Y ys.length yc]).alloc (.cells #[.slice A' ps'.length c',.slice Y' ys.length yc'] 26);have Y0:=Box.new (w.alloc (.cells #[.slice A ps.length c,.slice Y ys.length yc] 26)) 26 #[.slice A' ps'.length c',.slice Y' ys.length yc'];simp only [World.size_alloc] at Y0;have HB:=h_ B0;clear B0
 go_enter Tryz.func74,Tryz.ntmps74
 go_wp2_with fail
 generalize (w.alloc (.cells #[.slice A ps.length c,.slice Y ys.length yc] 26)).alloc (.cells #[.slice A' ps'.length c',.slice Y' ys.length yc'] 26)=w0 at *;refine (eqSectionS_same A A' ps ps' c c' w0 ((HR.o.1.1.below HB.o).more HB.o.size) ((HR.o.2.1.below HB.o).more HB.o.size) HD.o hm1 HL.o).mono ?_;rintro e w1 ⟨rfl,b1⟩;have HB1:=h_ (HB.o.trans (b1.mono HB.o.size));have X1:=X0.call b1;have Y1:=Y0.call b1;have x1:=d_ X1 1;have y1:=d_ Y1 1;clear b1 X0 Y0 X1 Y1 HB
 go_wp2_with fail
 refine (eqSymbolS_same Y Y' ys yc yc' w1 ((HR.o.1.2.below HB1.o).more HB1.o.size) ((HR.o.2.2.below HB1.o).more HB1.o.size) hm2).mono ?_;rintro e w2 ⟨rfl,b2⟩;have HB2:=h_ (HB1.o.trans (b2.mono HB1.o.size));clear b2
 go_wp2_with fail
 go_ret;exact ⟨rfl,HB2.o⟩
theorem szSymbol_any (z:YD) (l:Int) (w:World) (hs:z.1.size<=maxLen) (h0:0<=l) (h1:l<=1048576):
  Calls Tryz.prog 169 #[.agg #[.string z.1,.int .i64 z.2.1,.int .i64 z.2.2.1,.int .i64 z.2.2.2],.int .i64 l] w (Ret (.int .i64 (szJ l z.1.size)) w):=by
 unfold maxLen at hs
 by_cases h:l - z.1.size<0
 ·rw [szJ_neg h]
  go_enter Tryz.func169,Tryz.ntmps169
  go_wp2
  go_ret;exact ⟨rfl,b_⟩
 ·rw [szJ_pos h]
  go_enter Tryz.func169,Tryz.ntmps169
  go_wp2
  go_ret;exact ⟨rfl,b_⟩
theorem szSymbolS_any (A:Option Addr) (ys:List YD) (c:Nat) (left:Int) (w:World) (h0:0<=left) (h1:left<=1048576) (hr:Rd w w.heap.size A (cellsOf symbolC ys)) (hn:ys.length<=maxLen) (hl:∀ p ∈ ys,p.1.size<=maxLen):
  Calls Tryz.prog 125 #[.slice A ys.length c,.int .i64 left] w fun e w'=>(∃ r,e=.returned (.int .i64 r)/\(r=-1\/0<=r/\r<=left/\r+ys.length+toty ys=left))/\Below w.heap.size w w':=by
 have hn':=hn;unfold maxLen at hn'
 by_cases hf:left - ys.length<0
 ·go_enter Tryz.func125,Tryz.ntmps125
  clear hr
  go_wp2
  go_ret;exact ⟨⟨_,rfl,.inl rfl⟩,Below.refl _ _⟩
 ·go_enter Tryz.func125,Tryz.ntmps125
  have HR:=h_ hr;clear hr
  go_wp2
  go_loopw [1,5] (fun l i wr=>∃ (k:Nat) (x:Int),k<=ys.length/\i=.int .i64 k/\l=.int .i64 x/\0<=x/\x+(ys.length+(toty ys - toty (ys.drop k)))=left/\Below w.heap.size w wr) (fun _ i _=>ys.length - (intOf i).toNat)
  case atStart=>exact ⟨0,left - ys.length,Nat.zero_le _,rfl,by go_num,by omega,by rw [List.drop_zero]; omega,Below.refl _ _⟩
  case round=>
   obtain ⟨k,x,hk,rfl,rfl,hx0,hx1,hb⟩:=hrel;have HB:=h_ hb
   have hx2:x<=left:=by
    have:=toty_drop_le ys k;omega
   by_cases hlt:k<ys.length
   ·obtain ⟨b,off,rfl,_,hc⟩:=(HR.o.below hb).row symbolC_len (by decide) hlt;have hc0:=hc 0 _ rfl;have hc1:=hc 1 _ rfl;have hc2:=hc 2 _ rfl;have hc3:=hc 3 _ rfl;simp only [Nat.add_zero] at hc0;have HT:=h_ (toty_drop hlt);have HX:=h_ hx1;have HM:=h_ (hl _ (List.getElem_mem hlt));clear hc hb hx1;generalize ys[k]=p at *
    by_cases hs:x - p.1.size<0
    ·have HZ:=h_ (szJ_neg hs)
     go_wp2_with fail
     refine (szSymbol_any p x _ HM.o hx0 (by omega)).mono ?_;rintro e w2 ⟨rfl,hb2⟩;rw [HZ.o];have HB':=h_ (HB.o.trans (hb2.mono HB.o.size));clear hb2
     go_wp2_with fail
     go_ret;exact ⟨⟨_,rfl,.inl rfl⟩,HB'.o⟩
    ·have HZ:=h_ (szJ_pos hs)
     go_wp2_with fail
     refine (szSymbol_any p x _ HM.o hx0 (by omega)).mono ?_;rintro e w2 ⟨rfl,hb2⟩;rw [HZ.o];have HB':=h_ (HB.o.trans (hb2.mono HB.o.size));clear hb2
     go_wp2_with fail
     go_roundw
     case rel=>exact ⟨k+1,x - p.1.size,by omega,by go_num,rfl,by omega,(by have h1:=HT.o; have h2:=HX.o; omega),HB'.o⟩
     case measure=>simp [intOf]; omega
   ·have hE:0<=x/\x<=left/\x+ys.length+toty ys=left:=by
     have e:k=ys.length:=by omega
     subst e;rw [List.drop_length] at hx1;simp only [toty] at hx1;omega
    have HE:=h_ hE;clear hE hx1 hb
    go_wp2_with fail
    go_ret;exact ⟨⟨_,rfl,.inr HE.o⟩,HB.o⟩
end CObject
/- Contracts of the laws' helpers on Object: the size,the marks. -/
namespace CObject2
open Kit CFixups CSymbols PObj BObj CSection CSections CMarkText CSymMarks CMarkRows CSecMarks CSecHeld CObject
def sum (o:OV):Int:=o.ps.length+tot (o.ps.map SV.d)+o.ys.length+toty o.ys
theorem sum_lim {o:OV} (h:sum o<=1048576):LimO o/\(∀ p ∈ o.ps,p.nm.size<=1048576)/\(∀ y ∈ o.ys,y.1.size<=1048576):=by
 unfold sum at h;have h1:=tot_nonneg (o.ps.map SV.d);have h2:=toty_nonneg o.ys
 have h3:∀ p ∈ o.ps,wt p.d<=1048576:=fun p hp=>by
  have:=tot_mem (o.ps.map SV.d) p.d (List.mem_map_of_mem hp);omega
 refine ⟨⟨by omega,by omega,fun p hp=>?_⟩,fun p hp=>?_,fun y hy=>?_⟩
 ·have:=h3 p hp;simp only [wt,SV.d] at this;unfold Lim;omega
 ·have:=h3 p hp;simp only [wt,SV.d] at this;omega
 ·have:=toty_mem o.ys y hy;omega
theorem wds_le:∀ ps:List SV,wds ps<=4*ps.length+4*tot (ps.map SV.d)
 | []=>by simp [wds,tot]
 | p :: ps=>by
  have:=wds_le ps;simp only [wds,wd,List.map_cons,tot,wt,SV.d,List.length_cons] at this ⊢;omega
def mO (k:Int) (o:OV):OV:={ o with ps:=mSs k o.ps,ys:=ymarks (k+wds o.ps) o.ys.length }
theorem ssblk_mSs {A:Option Addr} {c:Nat} {k:Int} {ps:List SV} {j:Nat} (h:ssblk A c (mSs k ps) j):ssblk A c ps j:=by
 rcases h with h | ⟨x,hx,h⟩
 ·exact .inl h
 ·obtain ⟨q,hq,k',rfl⟩:=mSs_mem hx;exact .inr ⟨q,hq,h⟩
theorem oblk_mO {k:Int} {o:OV} {j:Nat} (h:oblk (mO k o) j):oblk o j:=h.imp ssblk_mSs id
theorem own_apart {w:World} {base:Nat} {o:OV} (h:OwnO w base o):∀ k,blk o.Y o.yc=some k->¬ ssblk o.A o.c o.ps k:=by
 rintro k hk (h' | ⟨p,hp,h' | h'⟩)
 ·exact apartT h.2 h.1.1 (by decide) k hk h'
 ·exact apartT h.2 (h.1.2.1 p hp).1 (by decide) k hk h'
 ·exact apartT h.2 (h.1.2.1 p hp).2 (by decide) k hk h'
end CObject2
/- Contracts of hasArg,CodeValid (the program's and the reference's) and of the mirror of Code. -/
namespace CCode
open Kit
def inB (n lo hi:Int):Bool:=decide (lo<=n/\n<=hi)
theorem inB_t {n lo hi:Int} (h:lo<=n/\n<=hi):inB n lo hi=true:=decide_eq_true h
theorem inB_f {n lo hi:Int} (h:¬ (lo<=n/\n<=hi)):inB n lo hi=false:=decide_eq_false h
theorem within_any (n lo hi:Int) (w:World):Calls Tryz.prog 88 #[.int .i64 n,.int .i64 lo,.int .i64 hi] w (Pure (.bool (inB n lo hi)) w):=by
 by_cases h1:lo<=n
 ·by_cases h2:n<=hi
  all_goals
   go_enter Tryz.func88,Tryz.ntmps88
   go_wp2
   go_ret;exact ⟨ret_bool (by simp [inB,h1,h2]),rfl⟩
 ·go_enter Tryz.func88,Tryz.ntmps88
  go_wp2
  go_ret;exact ⟨ret_bool (inB_f (by omega)).symm,rfl⟩
theorem l1In_any (n lo hi:Int) (w:World):Calls Tryz.prog 111 #[.int .i64 n,.int .i64 lo,.int .i64 hi] w (Pure (.bool (inB n lo hi)) w):=by
 by_cases h1:lo<=n
 ·by_cases h2:n<=hi
  all_goals
   go_enter Tryz.func111,Tryz.ntmps111
   go_wp2
   go_ret;exact ⟨ret_bool (by simp [inB,h1,h2]),rfl⟩
 ·go_enter Tryz.func111,Tryz.ntmps111
  go_wp2
  go_ret;exact ⟨ret_bool (inB_f (by omega)).symm,rfl⟩
end CCode
/- Names that are valid: the program's and the reference's test. -/
namespace CName
open Kit CCode
def chOk (k:Nat) (x:Int):Bool:=decide (97<=x/\x<=122) || decide (x=95) || decide (x=46) || (decide (0<k) && decide (48<=x/\x<=57))
def allOk (s:ByteArray):Bool:=(List.range s.size).all fun k=>chOk k (s.data.toList.getD k 0).toNat
def nameOk (s:ByteArray):Bool:=allOk s && inB s.size 1 8
theorem all_false {s:ByteArray} {k:Nat} (h:k<s.size) (hc:chOk k (s.data.toList.getD k 0).toNat=false):nameOk s=false:=by
 rw [nameOk,allOk,List.all_eq_false.2 ⟨k,List.mem_range.2 h,by rw [hc]; decide⟩]
 rfl
theorem all_true {s:ByteArray} (h:∀ k,k<s.size->chOk k (s.data.toList.getD k 0).toNat=true):nameOk s=inB s.size 1 8:=by
 rw [nameOk,allOk,List.all_eq_true.2 (fun k hk=>h k (List.mem_range.1 hk)),Bool.true_and]
theorem get_at (s:ByteArray) (k:Nat) (h:k<s.size):s.data.toList.getD k 0=s[k]'h:=by
 obtain ⟨x⟩:=s
 show x.toList.getD k 0=x[k]
 rw [List.getD_eq_getElem?_getD,Array.getElem?_toList,Array.getElem?_eq_getElem h]
 rfl
set_option maxHeartbeats 4000000 in
theorem nameValid_any (s:ByteArray) (hs:s.size<=maxLen) (w:World):Calls Tryz.prog 136 #[.string s] w (Pure (.bool (nameOk s)) w):=by
  unfold maxLen at hs
  go_enter Tryz.func136,Tryz.ntmps136
  go_wp2_with fail
  go_loop [6] (fun i=>∃ k:Nat,k<=s.size/\i=.int .i64 k/\∀ j,j<k->chOk j (s.data.toList.getD j 0).toNat=true) (fun i=>s.size - (intOf i).toNat)
  case atStart=>exact ⟨0,Nat.zero_le _,rfl,fun j hj=>absurd hj (Nat.not_lt_zero j)⟩
  case round=>
    obtain ⟨k,hk,rfl,hok⟩:=hrel
    have HO:=h_ hok
    clear hok
    by_cases hlt:k<s.size
    · have hg:=get_at s k hlt
      have HN:=h_ (fun (h:chOk k (s[k]'hlt).toNat=true)=>(show ∀ j,j<k+1->chOk j (s.data.toList.getD j 0).toNat=true from fun j hj=>by
        rcases Nat.lt_or_ge j k with h' | h'
        · exact HO.o j h'
        · obtain rfl:j=k:=by omega
          rw [hg]; exact h))
      have HF:=h_ (fun (h:chOk k (s[k]'hlt).toNat=false)=>all_false hlt (by rw [hg]; exact h))
      have hx0:(0:Int)<=(s[k]'hlt).toNat:=by omega
      clear HO hg
      go_wp2_with fail
      all_goals (try simp only [Bool.not_eq_false',Bool.not_eq_true',decide_eq_true_eq,decide_eq_false_iff_not,beq_iff_eq,beq_eq_false_iff_ne,ne_eq,Bool.not_not] at *)
      all_goals first
        | (refine ⟨⟨k+1,by omega,by go_num,HN.o ?_⟩,by simp [intOf]; omega⟩
           simp only [chOk,Bool.or_eq_true,Bool.and_eq_true,decide_eq_true_eq]
           omega)
        | (have hF:=HF.o (by rw [<-Bool.not_eq_true]; simp only [chOk,Bool.or_eq_true,Bool.and_eq_true,decide_eq_true_eq]; omega)
           rw [hF]
           go_ret
           exact ⟨rfl,rfl⟩)
        | (exfalso; omega)
    · have HV:=h_ (all_true (s:=s) (fun j hj=>HO.o j (by omega)))
      clear HO
      go_wp2_with fail
      refine (within_any _ _ _ _).mono ?_
      rintro e w' ⟨rfl,rfl⟩
      rw [<-HV.o]
      go_wp2_with fail
      go_ret
      exact ⟨rfl,rfl⟩
set_option maxHeartbeats 4000000 in
theorem nameValidS_any (s:ByteArray) (hs:s.size<=maxLen) (w:World):Calls Tryz.prog 140 #[.string s] w (Pure (.bool (nameOk s)) w):=by
  unfold maxLen at hs
  go_enter Tryz.func140,Tryz.ntmps140
  go_wp2_with fail
  go_loop [3] (fun i=>∃ k:Nat,k<=s.size/\i=.int .i64 k/\∀ j,j<k->chOk j (s.data.toList.getD j 0).toNat=true) (fun i=>s.size - (intOf i).toNat)
  case atStart=>exact ⟨0,Nat.zero_le _,rfl,fun j hj=>absurd hj (Nat.not_lt_zero j)⟩
  case round=>
    obtain ⟨k,hk,rfl,hok⟩:=hrel
    have HO:=h_ hok
    clear hok
    by_cases hlt:k<s.size
    · have hg:=get_at s k hlt
      have HN:=h_ (fun (h:chOk k (s[k]'hlt).toNat=true)=>(show ∀ j,j<k+1->chOk j (s.data.toList.getD j 0).toNat=true from fun j hj=>by
        rcases Nat.lt_or_ge j k with h' | h'
        · exact HO.o j h'
        · obtain rfl:j=k:=by omega
          rw [hg]; exact h))
      have HF:=h_ (fun (h:chOk k (s[k]'hlt).toNat=false)=>all_false hlt (by rw [hg]; exact h))
      have hx0:(0:Int)<=(s[k]'hlt).toNat:=by omega
      clear HO hg
      go_wp2_with fail
      all_goals (try simp only [Bool.not_eq_false',Bool.not_eq_true',decide_eq_true_eq,decide_eq_false_iff_not,beq_iff_eq,beq_eq_false_iff_ne,ne_eq,Bool.not_not] at *)
      all_goals first
        | (refine ⟨⟨k+1,by omega,by go_num,HN.o ?_⟩,by simp [intOf]; omega⟩
           simp only [chOk,Bool.or_eq_true,Bool.and_eq_true,decide_eq_true_eq]
           omega)
        | (have hF:=HF.o (by rw [<-Bool.not_eq_true]; simp only [chOk,Bool.or_eq_true,Bool.and_eq_true,decide_eq_true_eq]; omega)
           rw [hF]
           go_ret
           exact ⟨rfl,rfl⟩)
        | (exfalso; omega)
        | (exfalso
           have h48:((s[k]'hlt).toNat:Int)<48:=by omega
           rename_i hq hw hb _ _ 
           simp_all)
    · have HV:=h_ (all_true (s:=s) (fun j hj=>HO.o j (by omega)))
      clear HO
      go_wp2_with fail
      refine (l1In_any _ _ _ _).mono ?_
      rintro e w' ⟨rfl,rfl⟩
      rw [<-HV.o]
      go_wp2_with fail
      go_ret
      exact ⟨rfl,rfl⟩
end CName
/- When sections,symbols and objects are valid; plain. -/
namespace PValid
open Kit CCode CName PObj
def wide (k:Int):Int:=if k=1 then 1 else if k=2 then 2 else if k=3 then 4 else 0
theorem wide_bd (k:Int):0<=wide k/\wide k<=4:=by
 unfold wide
 split
 ·omega
 ·split
  ·omega
  ·split <;> omega
def alignOk (n:Int):Bool:=decide (n=1) || decide (n=2) || decide (n=4) || decide (n=8)
def fixOk (many:Int) (n:Nat) (e:Int) (f:FD):Bool:=!decide (wide f.2.1=0) && !decide (f.2.2.1<0) && !decide (many<=f.2.2.1) && inB f.2.2.2 (-1000) 1000 && inB f.1 e (n - wide f.2.1)
def fixesOk (many:Int) (n:Nat):Int->List FD->Bool
 | _,[]=>true
 | e,f :: fs=>fixOk many n e f && fixesOk many n (f.1+wide f.2.1) fs
def headOk (d:SD):Bool:=nameOk d.nm && inB d.kd 1 3 && alignOk d.al
def blankOk (d:SD):Bool:=inB d.sz 0 48 && decide (d.zs.length=0) && decide (d.fs.length=0)
def bodyOk (many:Int) (d:SD):Bool:=decide (d.sz=0) && decide (d.zs.length<=48) && decide (d.fs.length<=6) && fixesOk many d.zs.length 0 d.fs
def secOk (many:Int) (d:SD):Bool:=headOk d && (if d.kd=3 then blankOk d else bodyOk many d)
def secSize (d:SD):Int:=if d.kd=3 then d.sz else d.zs.length
theorem fixes_drop {many:Int} {n:Nat} {e:Int} {fs:List FD} {k:Nat} (h:k<fs.length):fixesOk many n e (fs.drop k)=(fixOk many n e fs[k] && fixesOk many n (fs[k].1+wide fs[k].2.1) (fs.drop (k+1))):=by
 rw [List.drop_eq_getElem_cons h]
 rfl
theorem fixOk_iff {many:Int} {n:Nat} {e:Int} {f:FD}:fixOk many n e f=true ↔ wide f.2.1 ≠ 0/\0<=f.2.2.1/\f.2.2.1<many/\(-1000<=f.2.2.2/\f.2.2.2<=1000)/\(e<=f.1/\f.1<=n - wide f.2.1):=by
 simp only [fixOk,inB,Bool.and_eq_true,Bool.not_eq_true',decide_eq_false_iff_not,decide_eq_true_eq];omega
def bindOk (y:YD):Bool:=nameOk y.1 && inB y.2.1 0 2
def placeOk (ss:List SD) (y:YD):Bool:=
 if y.2.2.1=-1 then decide (y.2.2.2=0) && !decide (y.2.1=0)
 else if y.2.2.1=-2 then inB y.2.2.2 0 60000
 else inB y.2.2.1 0 (ss.length - 1) && inB y.2.2.2 0 (secSize (ss.getD y.2.2.1.toNat ⟨ByteArray.empty,0,0,[],0,[]⟩))
def symOk (ss:List SD) (y:YD):Bool:=bindOk y && placeOk ss y
def clash (ys:List YD) (y:YD):Bool:=!decide (y.2.1=0) && ys.any fun x=>!decide (x.2.1=0) && decide (x.1=y.1)
def symsOk (ss:List SD) (ys:List YD):Bool:=(List.range ys.length).all fun k=>symOk ss (ys.getD k (ByteArray.empty,0,0,0)) && !clash (ys.take k) (ys.getD k (ByteArray.empty,0,0,0))
def objOk (o:OD):Bool:=decide (o.ss.length<=8) && decide (o.ys.length<=12) && (o.ss.all fun d=>secOk o.ys.length d) && symsOk o.ss o.ys
end PValid
/- The program's and the reference's SectionValid,and what they call. -/
namespace CSecValid
open Kit CCode CName CFixups CSymbols PObj BObj PValid
theorem isAlign_any (n:Int) (w:World):Calls Tryz.prog 87 #[.int .i64 n] w (Pure (.bool (alignOk n)) w):=by
 by_cases h1:n=1
 ·subst h1
  go_enter Tryz.func87,Tryz.ntmps87
  go_wp2
  go_ret;exact ⟨rfl,rfl⟩
 by_cases h2:n=2
 ·subst h2
  go_enter Tryz.func87,Tryz.ntmps87
  go_wp2
  go_ret;exact ⟨rfl,rfl⟩
 by_cases h4:n=4
 ·subst h4
  go_enter Tryz.func87,Tryz.ntmps87
  go_wp2
  go_ret;exact ⟨rfl,rfl⟩
 by_cases h8:n=8
 ·subst h8
  go_enter Tryz.func87,Tryz.ntmps87
  go_wp2
  go_ret;exact ⟨rfl,rfl⟩
 have hv:alignOk n=false:=by simp [alignOk,h1,h2,h4,h8]
 rw [hv];have e1:(n == 1)=false:=beq_eq_false_iff_ne.2 h1;have e2:(n == 2)=false:=beq_eq_false_iff_ne.2 h2;have e4:(n == 4)=false:=beq_eq_false_iff_ne.2 h4;have e8:(n == 8)=false:=beq_eq_false_iff_ne.2 h8
 go_enter Tryz.func87,Tryz.ntmps87
 go_wp2
 go_ret;exact ⟨rfl,rfl⟩
theorem alignUp0_any (n:Int) (w:World):Calls Tryz.prog 141 #[.int .i64 0,.int .i64 n] w (Pure (.int .i64 (bif alignOk n then 0 else -1)) w):=by
 by_cases h1:n=1
 ·subst h1
  go_enter Tryz.func141,Tryz.ntmps141
  go_wp2_with (go_at_call 111; refine (l1In_any _ _ _ _).mono ?_; rintro e w' ⟨rfl,rfl⟩; rw [inB_t (by omega)])
  go_ret;exact ⟨rfl,rfl⟩
 by_cases h2:n=2
 ·subst h2
  go_enter Tryz.func141,Tryz.ntmps141
  go_wp2_with (go_at_call 111; refine (l1In_any _ _ _ _).mono ?_; rintro e w' ⟨rfl,rfl⟩; rw [inB_t (by omega)])
  go_ret;exact ⟨rfl,rfl⟩
 by_cases h4:n=4
 ·subst h4
  go_enter Tryz.func141,Tryz.ntmps141
  go_wp2_with (go_at_call 111; refine (l1In_any _ _ _ _).mono ?_; rintro e w' ⟨rfl,rfl⟩; rw [inB_t (by omega)])
  go_ret;exact ⟨rfl,rfl⟩
 by_cases h8:n=8
 ·subst h8
  go_enter Tryz.func141,Tryz.ntmps141
  go_wp2_with (go_at_call 111; refine (l1In_any _ _ _ _).mono ?_; rintro e w' ⟨rfl,rfl⟩; rw [inB_t (by omega)])
  go_ret;exact ⟨rfl,rfl⟩
 have hv:alignOk n=false:=by simp [alignOk,h1,h2,h4,h8]
 rw [hv];have e1:(n == 1)=false:=beq_eq_false_iff_ne.2 h1;have e2:(n == 2)=false:=beq_eq_false_iff_ne.2 h2;have e4:(n == 4)=false:=beq_eq_false_iff_ne.2 h4;have e8:(n == 8)=false:=beq_eq_false_iff_ne.2 h8;have b1:(n != 1)=true:=bne_iff_ne.2 h1;have b2:(n != 2)=true:=bne_iff_ne.2 h2;have b4:(n != 4)=true:=bne_iff_ne.2 h4;have b8:(n != 8)=true:=bne_iff_ne.2 h8
 go_enter Tryz.func141,Tryz.ntmps141
 go_wp2_with (go_at_call 111; refine (l1In_any _ _ _ _).mono ?_; rintro e w' ⟨rfl,rfl⟩; rw [inB_t (by omega)])
 go_ret;exact ⟨rfl,rfl⟩
theorem fixupWide_any (k:Int) (w:World):Calls Tryz.prog 104 #[.int .i64 k] w (Pure (.int .i64 (wide k)) w):=by
 by_cases h1:k=1
 ·subst h1
  go_enter Tryz.func104,Tryz.ntmps104
  go_wp2
  go_ret;exact ⟨rfl,rfl⟩
 by_cases h2:k=2
 ·subst h2
  go_enter Tryz.func104,Tryz.ntmps104
  go_wp2
  go_ret;exact ⟨rfl,rfl⟩
 by_cases h3:k=3
 ·subst h3
  go_enter Tryz.func104,Tryz.ntmps104
  go_wp2
  go_ret;exact ⟨rfl,rfl⟩
 have hv:wide k=0:=by simp [wide,h1,h2,h3]
 rw [hv];have e1:(k == 1)=false:=beq_eq_false_iff_ne.2 h1;have e2:(k == 2)=false:=beq_eq_false_iff_ne.2 h2;have e3:(k == 3)=false:=beq_eq_false_iff_ne.2 h3
 go_enter Tryz.func104,Tryz.ntmps104
 go_wp2
 go_ret;exact ⟨rfl,rfl⟩
theorem fixupWideS_any (k:Int) (w:World):Calls Tryz.prog 135 #[.int .i64 k] w (Ret (.int .i64 (wide k)) w):=by
 by_cases h1:k=1
 ·subst h1
  go_enter Tryz.func135,Tryz.ntmps135
  go_wp2_with (go_at_call 111; refine (l1In_any _ _ _ _).mono ?_; rintro e w' ⟨rfl,rfl⟩; rw [inB_t (by omega)])
  go_ret;exact ⟨rfl,b_⟩
 by_cases h2:k=2
 ·subst h2
  go_enter Tryz.func135,Tryz.ntmps135
  go_wp2_with (go_at_call 111; refine (l1In_any _ _ _ _).mono ?_; rintro e w' ⟨rfl,rfl⟩; rw [inB_t (by omega)])
  go_ret;exact ⟨rfl,b_⟩
 by_cases h3:k=3
 ·subst h3
  go_enter Tryz.func135,Tryz.ntmps135
  go_wp2_with (go_at_call 111; refine (l1In_any _ _ _ _).mono ?_; rintro e w' ⟨rfl,rfl⟩; rw [inB_t (by omega)])
  go_ret;exact ⟨rfl,b_⟩
 have hv:wide k=0:=by simp [wide,h1,h2,h3]
 rw [hv]
 go_enter Tryz.func135,Tryz.ntmps135
 go_wp2_with (go_at_call 111; refine (l1In_any _ _ _ _).mono ?_; rintro e w' ⟨rfl,rfl⟩; rw [inB_f (by omega)])
 go_ret;exact ⟨rfl,b_⟩
theorem isAdd_any (n:Int) (w:World):Calls Tryz.prog 137 #[.int .i64 n] w (Pure (.bool (inB n (-1000) 1000)) w):=by
 go_enter Tryz.func137,Tryz.ntmps137
 go_wp2_with fail
 refine (within_any _ _ _ _).mono ?_;rintro e w' ⟨rfl,rfl⟩
 go_wp2_with fail
 go_ret;exact ⟨rfl,rfl⟩
theorem sectionSize_any (p:SV) (w:World) (hz:p.zs.length<=maxLen):Calls Tryz.prog 38 #[.agg #[.string p.nm,.int .i64 p.kd,.int .i64 p.al,.slice p.A p.zs.length p.c,.int .i64 p.sz,.slice p.F p.fs.length p.fc]] w (Ret (.int .i64 (secSize p.d)) w):=by
 unfold maxLen at hz
 by_cases h:p.kd=3
 ·have hv:secSize p.d=p.sz:=if_pos h;rw [hv,h]
  go_enter Tryz.func38,Tryz.ntmps38
  go_wp2
  go_ret;exact ⟨rfl,b_⟩
 ·have hv:secSize p.d=p.zs.length:=if_neg h;rw [hv];have e1:(p.kd == 3)=false:=beq_eq_false_iff_ne.2 h
  go_enter Tryz.func38,Tryz.ntmps38
  go_wp2
  go_ret;exact ⟨rfl,b_⟩
theorem sectionSizeS_any (p:SV) (w:World) (hz:p.zs.length<=maxLen):Calls Tryz.prog 41 #[.agg #[.string p.nm,.int .i64 p.kd,.int .i64 p.al,.slice p.A p.zs.length p.c,.int .i64 p.sz,.slice p.F p.fs.length p.fc]] w (Ret (.int .i64 (secSize p.d)) w):=by
 unfold maxLen at hz
 by_cases h:p.kd=3
 ·have hv:secSize p.d=p.sz:=if_pos h;rw [hv,h]
  go_enter Tryz.func41,Tryz.ntmps41
  go_wp2
  go_ret;exact ⟨rfl,b_⟩
 ·have hv:secSize p.d=p.zs.length:=if_neg h;rw [hv];have e1:(p.kd == 3)=false:=beq_eq_false_iff_ne.2 h
  go_enter Tryz.func41,Tryz.ntmps41
  go_wp2
  go_ret;exact ⟨rfl,b_⟩
end CSecValid
/- The program's SectionValid. -/
namespace CSecValid2
open Kit CCode CName CFixups CSymbols PObj BObj PValid CSecValid
theorem sec_head {many:Int} {d:SD} (h:headOk d=false):secOk many d=false:=by rw [secOk,h]; rfl
theorem sec_blank {many:Int} {d:SD} (h:headOk d=true) (hk:d.kd=3):secOk many d=blankOk d:=by rw [secOk,h,if_pos hk]; rfl
theorem sec_body {many:Int} {d:SD} (h:headOk d=true) (hk:¬ d.kd=3):secOk many d=bodyOk many d:=by rw [secOk,h,if_neg hk]; rfl
theorem sectionValid_any (p:SV) (many:Int) (w:World) (hr:RdS w w.heap.size p) (h0:p.nm.size<=maxLen) (h1:p.zs.length<=1048576) (h2:p.fs.length<=1048576):
  Calls Tryz.prog 82 #[.agg #[.string p.nm,.int .i64 p.kd,.int .i64 p.al,.slice p.A p.zs.length p.c,.int .i64 p.sz,.slice p.F p.fs.length p.fc],.int .i64 many] w (Ret (.bool (secOk many p.d)) w):=by
 obtain ⟨nm,kd,al,A,c,zs,sz,F,fc,fs⟩:=p;have HR:=h_ hr.2;have H0:=h_ h0;simp only [SV.d] at h0 h1 h2 ⊢;clear hr h0;have B0:Below w.heap.size w (w.alloc (.cells #[.string nm,.int .i64 kd,.int .i64 al,.slice A zs.length c,.int .i64 sz,.slice F fs.length fc] 61)):=b_;have X0:=Box.new w 61 #[.string nm,.int .i64 kd,.int .i64 al,.slice A zs.length c,.int .i64 sz,.slice F fs.length fc];have HB:=h_ B0;have x0:=d_ X0 0;have x1:=d_ X0 1;have x2:=d_ X0 2;have x3:=d_ X0 3;have x4:=d_ X0 4;have x5:=d_ X0 5;clear B0
 go_enter Tryz.func82,Tryz.ntmps82
 go_wp2_with fail
 generalize w.alloc (.cells #[.string nm,.int .i64 kd,.int .i64 al,.slice A zs.length c,.int .i64 sz,.slice F fs.length fc] 61)=w0 at *;refine (nameValid_any nm H0.o w0).mono ?_;rintro e w' ⟨rfl,rfl⟩
 cases hn:nameOk nm
 ·have HV:=h_ (sec_head (many:=many) (d:=⟨nm,kd,al,zs,sz,fs⟩) (by simp [headOk,hn]))
  go_wp2_with fail
  go_ret;exact ⟨by rw [HV.o]; rfl,HB.o⟩
 go_wp2_with fail
 refine (within_any _ _ _ _).mono ?_;rintro e w' ⟨rfl,rfl⟩
 cases hk:inB kd 1 3
 ·have HV:=h_ (sec_head (many:=many) (d:=⟨nm,kd,al,zs,sz,fs⟩) (by simp [headOk,hk]))
  go_wp2_with fail
  go_ret;exact ⟨by rw [HV.o]; rfl,HB.o⟩
 go_wp2_with fail
 refine (isAlign_any _ _).mono ?_;rintro e w' ⟨rfl,rfl⟩
 cases ha:alignOk al
 ·have HV:=h_ (sec_head (many:=many) (d:=⟨nm,kd,al,zs,sz,fs⟩) (by simp [headOk,ha]))
  go_wp2_with fail
  go_ret;exact ⟨by rw [HV.o]; rfl,HB.o⟩
 have hh:headOk ⟨nm,kd,al,zs,sz,fs⟩=true:=by simp [headOk,hn,hk,ha]
 by_cases hk3:kd=3
 ·have HV:=h_ ((sec_blank (many:=many) hh hk3).trans (show blankOk ⟨nm,kd,al,zs,sz,fs⟩=(inB sz 0 48 && decide (zs.length=0) && decide (fs.length=0)) from rfl));clear hn hk ha hh;have e3:(kd == 3)=true:=beq_iff_eq.2 hk3;clear hk3
  go_wp2_with fail
  refine (within_any _ _ _ _).mono ?_;rintro e w' ⟨rfl,rfl⟩
  cases hs:inB sz 0 48
  ·rw [hs] at HV
   go_wp2_with fail
   go_ret;exact ⟨by rw [HV.o]; rfl,HB.o⟩
  ·rw [hs] at HV;clear hs
   by_cases hz:zs.length=0
   ·have ez:((zs.length:Int) == 0)=true:=by rw [hz]; rfl
    rw [decide_eq_true hz] at HV
    by_cases hf:fs.length=0
    ·have ef:((fs.length:Int) == 0)=true:=by rw [hf]; rfl
     rw [decide_eq_true hf] at HV;clear hz hf
     go_wp2_with fail
     go_ret;exact ⟨by rw [HV.o]; rfl,HB.o⟩
    ·have ef:((fs.length:Int) == 0)=false:=beq_eq_false_iff_ne.2 (by omega);rw [decide_eq_false hf] at HV;clear hz hf
     go_wp2_with fail
     go_ret;exact ⟨by rw [HV.o]; rfl,HB.o⟩
   ·have ez:((zs.length:Int) == 0)=false:=beq_eq_false_iff_ne.2 (by omega);rw [decide_eq_false hz] at HV;clear hz
    go_wp2_with fail
    go_ret;exact ⟨by rw [HV.o]; simp,HB.o⟩
 have HV:=h_ ((sec_body (many:=many) hh hk3).trans (show bodyOk many ⟨nm,kd,al,zs,sz,fs⟩=(decide (sz=0) && decide (zs.length<=48) && decide (fs.length<=6) && fixesOk many zs.length 0 fs) from rfl));have e3:(kd == 3)=false:=beq_eq_false_iff_ne.2 hk3;clear hn hk ha hh hk3
 by_cases hs:sz=0
 ·have es:(sz != 0)=false:=by rw [hs]; rfl
  rw [decide_eq_true hs] at HV
  by_cases hz:zs.length<=48
  ·have ez:decide ((48:Int)<zs.length)=false:=decide_eq_false (by omega);rw [decide_eq_true hz] at HV
   by_cases hf:fs.length<=6
   ·have ef:decide ((6:Int)<fs.length)=false:=decide_eq_false (by omega);rw [decide_eq_true hf] at HV;have HV':=h_ (HV.o.trans (show (true && true && true && fixesOk many zs.length 0 fs)=fixesOk many zs.length 0 fs by simp));clear HV hs
    go_wp2_with fail
    clear x0 x1 x2 x4 e3 es ez ef
    go_loopw [5,61] (fun en ix wi=>∃ (k:Nat) (e:Int),k<=fs.length/\ix=.int .i64 k/\en=.int .i64 e/\0<=e/\e<=48/\fixesOk many zs.length 0 fs=fixesOk many zs.length e (fs.drop k)/\Box wi w.heap.size 61 #[.string nm,.int .i64 kd,.int .i64 al,.slice A zs.length c,.int .i64 sz,.slice F fs.length fc]/\Below w.heap.size w wi) (fun _ ix _=>fs.length - (intOf ix).toNat)
    case atStart=>exact ⟨0,0,Nat.zero_le _,rfl,rfl,by omega,by omega,rfl,X0,HB.o⟩
    case round=>
     obtain ⟨k,e,hk,rfl,rfl,he0,he1,hfx,hbx,hb⟩:=hrel;have HBX:=h_ hbx;have HBI:=h_ hb;clear X0 HB x3 x5
     by_cases hlt:k<fs.length
     ·obtain ⟨b,off,rfl,hbg,hc⟩:=(HR.o.below hb).row fixupC_len (by decide) hlt;have hc0:=hc 0 _ rfl;have hc1:=hc 1 _ rfl;have hc2:=hc 2 _ rfl;have hc3:=hc 3 _ rfl;simp only [Nat.add_zero] at hc0;have HFX:=h_ (hfx.trans (fixes_drop hlt));have HIF:=h_ (fixOk_iff (many:=many) (n:=zs.length) (e:=e) (f:=fs[k]));clear hfx hc hbx hb;generalize fs[k]=f at *
      go_wp2_with fail
      have X1:=HBX.o.alloc (.cells #[.int .i64 f.1,.int .i64 f.2.1,.int .i64 f.2.2.1,.int .i64 f.2.2.2] 65);have Z1:=Box.new wr 65 #[.int .i64 f.1,.int .i64 f.2.1,.int .i64 f.2.2.1,.int .i64 f.2.2.2];have HB1:=h_ (HBI.o.alloc HBI.o.size (.cells #[.int .i64 f.1,.int .i64 f.2.1,.int .i64 f.2.2.1,.int .i64 f.2.2.2] 65));generalize wr.alloc (.cells #[.int .i64 f.1,.int .i64 f.2.1,.int .i64 f.2.2.1,.int .i64 f.2.2.2] 65)=w1 at *;generalize wr.heap.size=X at *;have z0:=d_ Z1 0;have z1:=d_ Z1 1;have z2:=d_ Z1 2;have z3:=d_ Z1 3;have x3:=d_ X1 3;have HX1:=h_ X1;clear HBX HBI X1 Z1 hc0 hc1 hc2 hc3;refine (fixupWide_any _ _).mono ?_;rintro e' w' ⟨rfl,rfl⟩;have hwd:=wide_bd f.2.1;generalize hwg:wide f.2.1=wd at *;have HWG:=h_ hwg;clear hwg
      by_cases g1:wd=0
      ·have HN:=h_ (show fixOk many zs.length e f=false by rw [<-Bool.not_eq_true,HIF.o]; omega);have e1:(wd == 0)=true:=beq_iff_eq.2 g1;clear HIF g1 hwd
       go_wp2_with fail
       go_ret;exact ⟨by rw [HV'.o,HFX.o,HN.o]; rfl,HB1.o⟩
      have e1:(wd == 0)=false:=beq_eq_false_iff_ne.2 g1
      by_cases g2:f.2.2.1<0
      ·have HN:=h_ (show fixOk many zs.length e f=false by rw [<-Bool.not_eq_true,HIF.o]; omega);clear HIF g1
       go_wp2_with fail
       go_ret;exact ⟨by rw [HV'.o,HFX.o,HN.o]; rfl,HB1.o⟩
      have e2:decide (f.2.2.1<0)=false:=decide_eq_false g2
      by_cases g3:many<=f.2.2.1
      ·have HN:=h_ (show fixOk many zs.length e f=false by rw [<-Bool.not_eq_true,HIF.o]; omega);clear HIF g1 g2
       go_wp2_with fail
       go_ret;exact ⟨by rw [HV'.o,HFX.o,HN.o]; rfl,HB1.o⟩
      have e3:decide (many<=f.2.2.1)=false:=decide_eq_false g3
      go_wp2_with fail
      refine (isAdd_any _ _).mono ?_;rintro e' w' ⟨rfl,rfl⟩
      by_cases g4:-1000<=f.2.2.2/\f.2.2.2<=1000
      ·rw [inB_t g4]
       go_wp2_with fail
       refine (within_any _ _ _ _).mono ?_;rintro e' w' ⟨rfl,rfl⟩
       by_cases g5:e<=f.1/\f.1<=zs.length - wd
       ·rw [inB_t g5];have HY:=h_ (show fixOk many zs.length e f=true by rw [HIF.o]; omega);have HS:=h_ (show fixesOk many zs.length 0 fs=fixesOk many zs.length (f.1+wd) (fs.drop (k+1)) by rw [HFX.o,HY.o]; rfl)
        have hbd:0<=f.1+wd/\f.1+wd<=48:=by omega
        clear HIF g1 g2 g3 g4 HFX HY
        go_wp2_with fail
        refine ⟨⟨k+1,f.1+wd,by omega,by go_num,rfl,hbd.1,hbd.2,HS.o,HX1.o,HB1.o⟩,by simp [intOf]; omega⟩
       ·rw [inB_f g5];have HN:=h_ (show fixOk many zs.length e f=false by rw [<-Bool.not_eq_true,HIF.o]; omega);clear HIF g1 g2 g3 g4 g5
        go_wp2_with fail
        go_ret;exact ⟨by rw [HV'.o,HFX.o,HN.o]; rfl,HB1.o⟩
      ·rw [inB_f g4];have HN:=h_ (show fixOk many zs.length e f=false by rw [<-Bool.not_eq_true,HIF.o]; omega);clear HIF g1 g2 g3 g4
       go_wp2_with fail
       go_ret;exact ⟨by rw [HV'.o,HFX.o,HN.o]; rfl,HB1.o⟩
     ·have hE:fixesOk many zs.length 0 fs=true:=by
       rw [hfx,List.drop_of_length_le (by omega)]
       rfl
      have HE:=h_ hE;clear hE hfx hbx hb
      go_wp2_with fail
      go_ret;exact ⟨by rw [HV'.o,HE.o]; rfl,HBI.o⟩
   ·have ef:decide ((6:Int)<fs.length)=true:=decide_eq_true (by omega);rw [decide_eq_false hf] at HV;clear hs hz hf
    go_wp2_with fail
    go_ret;exact ⟨by rw [HV.o]; simp,HB.o⟩
  ·have ez:decide ((48:Int)<zs.length)=true:=decide_eq_true (by omega);rw [decide_eq_false hz] at HV;clear hs hz
   go_wp2_with fail
   go_ret;exact ⟨by rw [HV.o]; simp,HB.o⟩
 ·have es:(sz != 0)=true:=bne_iff_ne.2 hs;rw [decide_eq_false hs] at HV;clear hs
  go_wp2_with fail
  go_ret;exact ⟨by rw [HV.o]; simp,HB.o⟩
end CSecValid2
/- The reference's SectionValid. -/
namespace CSecValid3
open Kit CCode CName CFixups CSymbols PObj BObj PValid CSecValid CSecValid2
theorem sec_big {many:Int} {d:SD} (h:¬ d.zs.length<=48\/¬ d.fs.length<=6\/inB d.sz 0 48=false):secOk many d=false:=by
 rw [<-Bool.not_eq_true];intro ht;rw [secOk,Bool.and_eq_true] at ht;obtain ⟨_,ht⟩:=ht
 split at ht
 ·simp only [blankOk,Bool.and_eq_true,decide_eq_true_eq] at ht
  rcases h with h | h | h
  ·omega
  ·omega
  ·rw [h] at ht;exact absurd ht.1.1 (by decide)
 ·simp only [bodyOk,Bool.and_eq_true,decide_eq_true_eq] at ht
  rcases h with h | h | h
  ·omega
  ·omega
  ·rw [ht.1.1.1] at h;exact absurd h (by decide)
theorem sectionValidS_any (p:SV) (many:Int) (w:World) (hr:RdS w w.heap.size p) (h0:p.nm.size<=maxLen) (h1:p.zs.length<=1048576) (h2:p.fs.length<=1048576):
  Calls Tryz.prog 85 #[.agg #[.string p.nm,.int .i64 p.kd,.int .i64 p.al,.slice p.A p.zs.length p.c,.int .i64 p.sz,.slice p.F p.fs.length p.fc],.int .i64 many] w (Ret (.bool (secOk many p.d)) w):=by
 obtain ⟨nm,kd,al,A,c,zs,sz,F,fc,fs⟩:=p;have HR:=h_ hr.2;have H0:=h_ h0;simp only [SV.d] at h0 h1 h2 ⊢;clear hr h0;have B0:Below w.heap.size w (w.alloc (.cells #[.string nm,.int .i64 kd,.int .i64 al,.slice A zs.length c,.int .i64 sz,.slice F fs.length fc] 61)):=b_;have X0:=Box.new w 61 #[.string nm,.int .i64 kd,.int .i64 al,.slice A zs.length c,.int .i64 sz,.slice F fs.length fc];have HB:=h_ B0;have x0:=d_ X0 0;have x1:=d_ X0 1;have x2:=d_ X0 2;have x3:=d_ X0 3;have x4:=d_ X0 4;have x5:=d_ X0 5;clear B0
 go_enter Tryz.func85,Tryz.ntmps85
 go_wp2_with fail
 generalize w.alloc (.cells #[.string nm,.int .i64 kd,.int .i64 al,.slice A zs.length c,.int .i64 sz,.slice F fs.length fc] 61)=w0 at *;refine (nameValidS_any nm H0.o w0).mono ?_;rintro e w' ⟨rfl,rfl⟩
 cases hn:nameOk nm
 ·have HV:=h_ (sec_head (many:=many) (d:=⟨nm,kd,al,zs,sz,fs⟩) (by simp [headOk,hn]))
  go_wp2_with fail
  go_ret;exact ⟨by rw [HV.o]; rfl,HB.o⟩
 go_wp2_with fail
 refine (l1In_any _ _ _ _).mono ?_;rintro e w' ⟨rfl,rfl⟩
 cases hk:inB kd 1 3
 ·have HV:=h_ (sec_head (many:=many) (d:=⟨nm,kd,al,zs,sz,fs⟩) (by simp [headOk,hk]))
  go_wp2_with fail
  go_ret;exact ⟨by rw [HV.o]; rfl,HB.o⟩
 go_wp2_with fail
 refine (alignUp0_any _ _).mono ?_;rintro e w' ⟨rfl,rfl⟩
 cases ha:alignOk al
 ·have HV:=h_ (sec_head (many:=many) (d:=⟨nm,kd,al,zs,sz,fs⟩) (by simp [headOk,ha]));simp only [cond_false]
  go_wp2_with fail
  go_ret;exact ⟨by rw [HV.o]; rfl,HB.o⟩
 simp only [cond_true]
 have hh:headOk ⟨nm,kd,al,zs,sz,fs⟩=true:=by simp [headOk,hn,hk,ha]
 clear hn hk ha
 by_cases hz:zs.length<=48
 case neg=>
  have HV:=h_ (sec_big (many:=many) (d:=⟨nm,kd,al,zs,sz,fs⟩) (.inl hz));have ez:decide ((48:Int)<zs.length)=true:=decide_eq_true (by omega);clear hz
  go_wp2_with fail
  go_ret;exact ⟨by rw [HV.o]; rfl,HB.o⟩
 have ez:decide ((48:Int)<zs.length)=false:=decide_eq_false (by omega)
 by_cases hf:fs.length<=6
 case neg=>
  have HV:=h_ (sec_big (many:=many) (d:=⟨nm,kd,al,zs,sz,fs⟩) (.inr (.inl hf)));have ef:decide ((6:Int)<fs.length)=true:=decide_eq_true (by omega);clear hf
  go_wp2_with fail
  go_ret;exact ⟨by rw [HV.o]; rfl,HB.o⟩
 have ef:decide ((6:Int)<fs.length)=false:=decide_eq_false (by omega);have HHH:=h_ hh;clear hh
 go_wp2_with fail
 refine (l1In_any _ _ _ _).mono ?_;rintro e w' ⟨rfl,rfl⟩
 cases hs:inB sz 0 48
 ·have HV:=h_ (sec_big (many:=many) (d:=⟨nm,kd,al,zs,sz,fs⟩) (.inr (.inr hs)));clear hs
  go_wp2_with fail
  go_ret;exact ⟨by rw [HV.o]; rfl,HB.o⟩
 by_cases hk3:kd=3
 ·have HV:=h_ ((sec_blank (many:=many) HHH.o hk3).trans (show blankOk ⟨nm,kd,al,zs,sz,fs⟩=(inB sz 0 48 && decide (zs.length=0) && decide (fs.length=0)) from rfl));rw [hs] at HV;have e3:(kd == 3)=true:=beq_iff_eq.2 hk3;clear hk3 hs
  by_cases hz:zs.length=0
  ·have ez:((zs.length:Int) == 0)=true:=by rw [hz]; rfl
   rw [decide_eq_true hz] at HV
   by_cases hf:fs.length=0
   ·have ef:((fs.length:Int) == 0)=true:=by rw [hf]; rfl
    rw [decide_eq_true hf] at HV;clear hz hf
    go_wp2_with fail
    go_ret;exact ⟨by rw [HV.o]; rfl,HB.o⟩
   ·have ef:((fs.length:Int) == 0)=false:=beq_eq_false_iff_ne.2 (by omega);rw [decide_eq_false hf] at HV;clear hz hf
    go_wp2_with fail
    go_ret;exact ⟨by rw [HV.o]; rfl,HB.o⟩
  ·have ez:((zs.length:Int) == 0)=false:=beq_eq_false_iff_ne.2 (by omega);rw [decide_eq_false hz] at HV;clear hz
   go_wp2_with fail
   go_ret;exact ⟨by rw [HV.o]; simp,HB.o⟩
 ·have hV:=(sec_body (many:=many) HHH.o hk3).trans (show bodyOk many ⟨nm,kd,al,zs,sz,fs⟩=(decide (sz=0) && decide (zs.length<=48) && decide (fs.length<=6) && fixesOk many zs.length 0 fs) from rfl);have HFF:=h_ (fun (h:fixesOk many zs.length 0 fs=false)=>(show secOk many ⟨nm,kd,al,zs,sz,fs⟩=false by rw [hV,h,Bool.and_false]));have HTT:=h_ (fun (h:fixesOk many zs.length 0 fs=true)=>(show secOk many ⟨nm,kd,al,zs,sz,fs⟩=decide (sz=0) by rw [hV,h,decide_eq_true hz,decide_eq_true hf,Bool.and_true,Bool.and_true,Bool.and_true]));have e3:(kd == 3)=false:=beq_eq_false_iff_ne.2 hk3;clear hk3 hV hs ez ef HHH
  go_wp2_with fail
  clear x0 x1 x2 x3 x4 x5 e3
  go_loopw [5,6] (fun en ix wi=>∃ (k:Nat) (e:Int),k<=fs.length/\ix=.int .i64 k/\en=.int .i64 e/\0<=e/\e<=48/\fixesOk many zs.length 0 fs=fixesOk many zs.length e (fs.drop k)/\Box wi w.heap.size 61 #[.string nm,.int .i64 kd,.int .i64 al,.slice A zs.length c,.int .i64 sz,.slice F fs.length fc]/\Below w.heap.size w wi) (fun _ ix _=>fs.length - (intOf ix).toNat)
  case atStart=>exact ⟨0,0,Nat.zero_le _,rfl,rfl,by omega,by omega,rfl,X0,HB.o⟩
  case round=>
   obtain ⟨k,e,hk,rfl,rfl,he0,he1,hfx,hbx,hb⟩:=hrel;have HBX:=h_ hbx;have HBI:=h_ hb;have x5:=d_ hbx 5;have x4:=d_ hbx 4;clear X0 HB
   by_cases hlt:k<fs.length
   ·obtain ⟨b,off,rfl,hbg,hc⟩:=(HR.o.below hb).row fixupC_len (by decide) hlt;have hc0:=hc 0 _ rfl;have hc1:=hc 1 _ rfl;have hc2:=hc 2 _ rfl;have hc3:=hc 3 _ rfl;simp only [Nat.add_zero] at hc0;have HFX:=h_ (hfx.trans (fixes_drop hlt));have HIF:=h_ (fixOk_iff (many:=many) (n:=zs.length) (e:=e) (f:=fs[k]));clear hfx hc hbx hb;generalize fs[k]=f at *
    go_wp2_with fail
    have X1:=HBX.o.alloc (.cells #[.int .i64 f.1,.int .i64 f.2.1,.int .i64 f.2.2.1,.int .i64 f.2.2.2] 65);have Z1:=Box.new wr 65 #[.int .i64 f.1,.int .i64 f.2.1,.int .i64 f.2.2.1,.int .i64 f.2.2.2];have HB1:=h_ (HBI.o.alloc HBI.o.size (.cells #[.int .i64 f.1,.int .i64 f.2.1,.int .i64 f.2.2.1,.int .i64 f.2.2.2] 65));generalize wr.alloc (.cells #[.int .i64 f.1,.int .i64 f.2.1,.int .i64 f.2.2.1,.int .i64 f.2.2.2] 65)=w1 at *;generalize wr.heap.size=X at *;have z0:=d_ Z1 0;have z1:=d_ Z1 1;have z2:=d_ Z1 2;have z3:=d_ Z1 3;have x3:=d_ X1 3;have HX1:=h_ X1;have HZ1:=h_ Z1;clear HBX HBI X1 Z1 hc0 hc1 hc2 hc3 x4 x5;refine (fixupWideS_any _ _).mono ?_;rintro e' w2 ⟨rfl,b2⟩;have X2:=HX1.o.call b2;have Z2:=HZ1.o.call b2;have HB2:=h_ (HB1.o.trans (b2.mono HB1.o.size));have HX2:=h_ X2;clear z0 z1 z2 z3 x3 b2 HX1 HZ1 HB1;have z0:=d_ Z2 0;have z1:=d_ Z2 1;have z2:=d_ Z2 2;have z3:=d_ Z2 3;have x3:=d_ X2 3;clear X2 Z2;have hwd:=wide_bd f.2.1;generalize hwg:wide f.2.1=wd at *;have HWG:=h_ hwg;clear hwg
    by_cases g1:wd=0
    ·have HN:=h_ (show fixOk many zs.length e f=false by rw [<-Bool.not_eq_true,HIF.o]; omega);have e1:(wd == 0)=true:=beq_iff_eq.2 g1;clear HIF g1 hwd
     go_wp2_with fail
     go_ret;exact ⟨by rw [HFF.o (by rw [HFX.o,HN.o]; rfl)]; rfl,HB2.o⟩
    have e1:(wd == 0)=false:=beq_eq_false_iff_ne.2 g1
    by_cases g2:f.2.2.1<0
    ·have HN:=h_ (show fixOk many zs.length e f=false by rw [<-Bool.not_eq_true,HIF.o]; omega);clear HIF g1
     go_wp2_with fail
     go_ret;exact ⟨by rw [HFF.o (by rw [HFX.o,HN.o]; rfl)]; rfl,HB2.o⟩
    have e2:decide (f.2.2.1<0)=false:=decide_eq_false g2
    by_cases g3:many<=f.2.2.1
    ·have HN:=h_ (show fixOk many zs.length e f=false by rw [<-Bool.not_eq_true,HIF.o]; omega);clear HIF g1 g2
     go_wp2_with fail
     go_ret;exact ⟨by rw [HFF.o (by rw [HFX.o,HN.o]; rfl)]; rfl,HB2.o⟩
    have e3:decide (many<=f.2.2.1)=false:=decide_eq_false g3
    go_wp2_with fail
    refine (l1In_any _ _ _ _).mono ?_;rintro e' w' ⟨rfl,rfl⟩
    by_cases g4:-1000<=f.2.2.2/\f.2.2.2<=1000
    ·rw [inB_t g4]
     go_wp2_with fail
     refine (l1In_any _ _ _ _).mono ?_;rintro e' w' ⟨rfl,rfl⟩
     by_cases g5:e<=f.1/\f.1<=zs.length - wd
     ·rw [inB_t g5];have HY:=h_ (show fixOk many zs.length e f=true by rw [HIF.o]; omega);have HS:=h_ (show fixesOk many zs.length 0 fs=fixesOk many zs.length (f.1+wd) (fs.drop (k+1)) by rw [HFX.o,HY.o]; rfl)
      have hbd:0<=f.1+wd/\f.1+wd<=48:=by omega
      clear HIF g1 g2 g3 g4 HFX HY
      go_wp2_with fail
      refine ⟨⟨k+1,f.1+wd,by omega,by go_num,rfl,hbd.1,hbd.2,HS.o,HX2.o,HB2.o⟩,by simp [intOf]; omega⟩
     ·rw [inB_f g5];have HN:=h_ (show fixOk many zs.length e f=false by rw [<-Bool.not_eq_true,HIF.o]; omega);clear HIF g1 g2 g3 g4 g5
      go_wp2_with fail
      go_ret;exact ⟨by rw [HFF.o (by rw [HFX.o,HN.o]; rfl)]; rfl,HB2.o⟩
    ·rw [inB_f g4];have HN:=h_ (show fixOk many zs.length e f=false by rw [<-Bool.not_eq_true,HIF.o]; omega);clear HIF g1 g2 g3 g4
     go_wp2_with fail
     go_ret;exact ⟨by rw [HFF.o (by rw [HFX.o,HN.o]; rfl)]; rfl,HB2.o⟩
   ·have hE:fixesOk many zs.length 0 fs=true:=by
     rw [hfx,List.drop_of_length_le (by omega)]
     rfl
    have HE:=h_ (HTT.o hE);clear hE hfx hbx hb
    by_cases hs:sz=0
    ·have es:(sz == 0)=true:=beq_iff_eq.2 hs;rw [decide_eq_true hs] at HE;clear hs
     go_wp2_with fail
     go_ret;exact ⟨by rw [HE.o]; rfl,HBI.o⟩
    ·have es:(sz == 0)=false:=beq_eq_false_iff_ne.2 hs;rw [decide_eq_false hs] at HE;clear hs
     go_wp2_with fail
     go_ret;exact ⟨by rw [HE.o]; rfl,HBI.o⟩
end CSecValid3
/- The program's and the reference's SymbolValid. -/
namespace CSymValid
open Kit CCode CName CFixups CSymbols PObj BObj PValid CSecValid
theorem sym_bind {ss:List SD} {y:YD} (h:bindOk y=false):symOk ss y=false:=by rw [symOk,h]; rfl
theorem sym_place {ss:List SD} {y:YD} (h:bindOk y=true):symOk ss y=placeOk ss y:=by rw [symOk,h]; rfl
set_option maxHeartbeats 1000000 in
theorem symbolValid_any (y:YD) (A:Option Addr) (ps:List SV) (c:Nat) (w:World) (hr:Rd w w.heap.size A (cellsOf secC ps)) (hn:ps.length<=1048576) (h0:y.1.size<=maxLen) (hz:∀ p ∈ ps,p.zs.length<=maxLen):
  Calls Tryz.prog 83 #[.agg #[.string y.1,.int .i64 y.2.1,.int .i64 y.2.2.1,.int .i64 y.2.2.2],.slice A ps.length c] w (Ret (.bool (symOk (ps.map SV.d) y)) w):=by
 obtain ⟨nm,bd,wh,vl⟩:=y;have HR:=h_ hr;have H0:=h_ h0;simp only at h0 ⊢;clear hr h0;have B0:Below w.heap.size w (w.alloc (.cells #[.string nm,.int .i64 bd,.int .i64 wh,.int .i64 vl] 67)):=b_;have X0:=Box.new w 67 #[.string nm,.int .i64 bd,.int .i64 wh,.int .i64 vl];have HB:=h_ B0;have x0:=d_ X0 0;have x1:=d_ X0 1;have x2:=d_ X0 2;have x3:=d_ X0 3;clear B0
 go_enter Tryz.func83,Tryz.ntmps83
 go_wp2_with fail
 generalize w.alloc (.cells #[.string nm,.int .i64 bd,.int .i64 wh,.int .i64 vl] 67)=w0 at *;refine (nameValid_any nm H0.o w0).mono ?_;rintro e w' ⟨rfl,rfl⟩
 cases hn1:nameOk nm
 ·have HV:=h_ (sym_bind (ss:=ps.map SV.d) (y:=(nm,bd,wh,vl)) (by simp [bindOk,hn1]))
  go_wp2_with fail
  go_ret;exact ⟨by rw [HV.o]; rfl,HB.o⟩
 go_wp2_with fail
 refine (within_any _ _ _ _).mono ?_;rintro e w' ⟨rfl,rfl⟩
 cases hb1:inB bd 0 2
 ·have HV:=h_ (sym_bind (ss:=ps.map SV.d) (y:=(nm,bd,wh,vl)) (by simp [bindOk,hb1]))
  go_wp2_with fail
  go_ret;exact ⟨by rw [HV.o]; rfl,HB.o⟩
 have HV:=h_ (sym_place (ss:=ps.map SV.d) (y:=(nm,bd,wh,vl)) (by simp [bindOk,hn1,hb1]));clear hn1 hb1
 by_cases h1:wh=-1
 ·have hp:placeOk (ps.map SV.d) (nm,bd,wh,vl)=(decide (vl=0) && !decide (bd=0)):=by simp only [placeOk]; rw [if_pos h1]
  have e1:(wh == -1)=true:=beq_iff_eq.2 h1;rw [hp] at HV;clear hp h1
  by_cases h2:vl=0
  ·have e2:(vl == 0)=true:=beq_iff_eq.2 h2;rw [decide_eq_true h2] at HV;clear h2
   by_cases h3:bd=0
   ·have e3:(bd != 0)=false:=by rw [h3]; rfl
    rw [decide_eq_true h3] at HV;clear h3
    go_wp2_with fail
    go_ret;exact ⟨by rw [HV.o]; rfl,HB.o⟩
   ·have e3:(bd != 0)=true:=bne_iff_ne.2 h3;rw [decide_eq_false h3] at HV;clear h3
    go_wp2_with fail
    go_ret;exact ⟨by rw [HV.o]; rfl,HB.o⟩
  ·have e2:(vl == 0)=false:=beq_eq_false_iff_ne.2 h2;rw [decide_eq_false h2,Bool.false_and] at HV;clear h2
   go_wp2_with fail
   go_ret;exact ⟨by rw [HV.o]; rfl,HB.o⟩
 have e1:(wh == -1)=false:=beq_eq_false_iff_ne.2 h1
 by_cases h2:wh=-2
 ·have hp:placeOk (ps.map SV.d) (nm,bd,wh,vl)=inB vl 0 60000:=by simp only [placeOk]; rw [if_neg h1,if_pos h2]
  have e2:(wh == -2)=true:=beq_iff_eq.2 h2;rw [hp] at HV;clear hp h1 h2
  go_wp2_with fail
  refine (within_any _ _ _ _).mono ?_;rintro e w' ⟨rfl,rfl⟩;generalize inB vl 0 60000=bb at *
  go_wp2_with fail
  go_ret;exact ⟨by rw [HV.o]; rfl,HB.o⟩
 have e2:(wh == -2)=false:=beq_eq_false_iff_ne.2 h2
 have hp:placeOk (ps.map SV.d) (nm,bd,wh,vl)=(inB wh 0 ((ps.length:Int) - 1) && inB vl 0 (secSize ((ps.map SV.d).getD wh.toNat ⟨ByteArray.empty,0,0,[],0,[]⟩))):=by simp only [placeOk]; rw [if_neg h1,if_neg h2,List.length_map]
 rw [hp] at HV;clear hp h1 h2;have hwr:IntKind.i64.wrap ((ps.length:Int) - 1)=(ps.length:Int) - 1:=IntWalk.i64_in _ (by omega)
 go_wp2_with fail
 by_cases hw:0<=wh/\wh<=(ps.length:Int) - 1
 ·obtain ⟨k,rfl⟩:=Int.eq_ofNat_of_zero_le hw.1
  have hlt:k<ps.length:=by omega
  have hgd:(ps.map SV.d).getD (k:Int).toNat ⟨ByteArray.empty,0,0,[],0,[]⟩=ps[k].d:=by
   rw [Int.toNat_natCast,List.getD_eq_getElem?_getD,List.getElem?_map,List.getElem?_eq_getElem hlt]
   rfl
  rw [hgd,inB_t hw,Bool.true_and] at HV;have HIN:=h_ (inB_t hw);obtain ⟨b,off,rfl,hbg,hc⟩:=((HR.o.below HB.o).more HB.o.size).row secC_len (by decide) hlt;have hc0:=hc 0 _ rfl;have hc1:=hc 1 _ rfl;have hc2:=hc 2 _ rfl;have hc3:=hc 3 _ rfl;have hc4:=hc 4 _ rfl;have hc5:=hc 5 _ rfl;simp only [Nat.add_zero] at hc0;have HM:=h_ (hz _ (List.getElem_mem hlt));clear hc hgd hw hz;generalize ps[k]=p at *;have HX0:=h_ X0
  have hSS:∀ V:World,Below w0.heap.size w0 V->(V.cell? ⟨w.heap.size,2,none⟩=some (.int .i64 k)/\V.cell? ⟨w.heap.size,3,none⟩=some (.int .i64 vl)/\V.cell? ⟨b,off+k*6,none⟩=some (.string p.nm)/\V.cell? ⟨b,off+k*6+1,none⟩=some (.int .i64 p.kd)/\V.cell? ⟨b,off+k*6+2,none⟩=some (.int .i64 p.al)/\V.cell? ⟨b,off+k*6+3,none⟩=some (.slice p.A p.zs.length p.c)/\V.cell? ⟨b,off+k*6+4,none⟩=some (.int .i64 p.sz)/\V.cell? ⟨b,off+k*6+5,none⟩=some (.slice p.F p.fs.length p.fc)):=by
   intro V hV;have hl:=HX0.o.lt;exact ⟨(hV.cell (p:=⟨w.heap.size,2,none⟩) hl).trans x2,(hV.cell (p:=⟨w.heap.size,3,none⟩) hl).trans x3,(hV.cell (p:=⟨b,off+k*6,none⟩) hbg).trans hc0,(hV.cell (p:=⟨b,off+k*6+1,none⟩) hbg).trans hc1,(hV.cell (p:=⟨b,off+k*6+2,none⟩) hbg).trans hc2,(hV.cell (p:=⟨b,off+k*6+3,none⟩) hbg).trans hc3,(hV.cell (p:=⟨b,off+k*6+4,none⟩) hbg).trans hc4,(hV.cell (p:=⟨b,off+k*6+5,none⟩) hbg).trans hc5⟩
  have HSS:=h_ hSS;clear hSS X0 x0 x1 x2 x3 hc0 hc1 hc2 hc3 hc4 hc5 hbg;refine Reg.startT (fun V=>V.cell? ⟨w.heap.size,2,none⟩=some (.int .i64 k)/\V.cell? ⟨w.heap.size,3,none⟩=some (.int .i64 vl)/\V.cell? ⟨b,off+k*6,none⟩=some (.string p.nm)/\V.cell? ⟨b,off+k*6+1,none⟩=some (.int .i64 p.kd)/\V.cell? ⟨b,off+k*6+2,none⟩=some (.int .i64 p.al)/\V.cell? ⟨b,off+k*6+3,none⟩=some (.slice p.A p.zs.length p.c)/\V.cell? ⟨b,off+k*6+4,none⟩=some (.int .i64 p.sz)/\V.cell? ⟨b,off+k*6+5,none⟩=some (.slice p.F p.fs.length p.fc)) (fun _=>false) (by kernel_rfl) ?_;have hHeld:=HSS.o w0.drew (Below.drew (Below.refl _ _));refine t_ 0 rfl ?_;refine t_ 1 rfl ?_;refine t_ 2 rfl ?_;refine t_ 3 rfl ?_;refine t_ 4 rfl ?_;refine Reg.oneT (i:=5) rfl (by kernel_rfl) (fun K hK=>?_)
  go_simp
  refine (within_any _ _ _ _).mono ?_;rintro e w' ⟨rfl,rfl⟩;rw [HIN.o];refine hK.out _ _ hHeld ?_;clear hK K
  try simp only [y1_,y2_,y3_,Act.put,y4_,y5_,y6_]
  refine t_ 6 rfl ?_;refine t_ 7 rfl ?_;refine t_ 8 rfl ?_;refine t_ 9 rfl ?_;refine t_ 10 rfl ?_;refine t_ 11 rfl ?_;refine t_ 12 rfl ?_;refine t_ 13 rfl ?_;refine Reg.oneT (i:=14) rfl (by kernel_rfl) (fun K hK=>?_)
  go_simp
  refine (sectionSize_any p _ HM.o).mono ?_;rintro e w5 ⟨rfl,b5⟩;have HB5:=h_ (HB.o.trans ((below_drawn b5).mono HB.o.size));have hHeld:=HSS.o w5 (below_drawn b5);refine hK.out _ _ hHeld ?_;clear hK K b5
  try simp only [y1_,y2_,y3_,Act.put,y4_,y5_,y6_]
  generalize secSize p.d=q at *;refine Reg.oneT (i:=15) rfl (by kernel_rfl) (fun K hK=>?_)
  go_simp
  refine (within_any _ _ _ _).mono ?_;rintro e w' ⟨rfl,rfl⟩;refine hK.out _ _ hHeld ?_;clear hK K
  try simp only [y1_,y2_,y3_,Act.put,y4_,y5_,y6_]
  generalize inB vl 0 q=bb at *;refine t_ 16 rfl ?_;refine t_ 17 rfl ?_;refine Reg.doneT (by kernel_rfl) ?_ _;clear hHeld HSS
  go_wp2_with fail
  go_ret;exact ⟨by rw [HV.o]; rfl,HB5.o⟩
 ·rw [inB_f hw,Bool.false_and] at HV;have HIN:=h_ (inB_f hw);clear hw hz;refine Reg.startT (fun V=>V.cell? ⟨w.heap.size,2,none⟩=some (.int .i64 wh)) (fun _=>false) (by kernel_rfl) ?_;have hHeld:w0.drew.cell? ⟨w.heap.size,2,none⟩=some (.int .i64 wh):=x2;refine t_ 0 rfl ?_;refine t_ 1 rfl ?_;refine t_ 2 rfl ?_;refine t_ 3 rfl ?_;refine t_ 4 rfl ?_;refine Reg.oneT (i:=5) rfl (by kernel_rfl) (fun K hK=>?_)
  go_simp
  refine (within_any _ _ _ _).mono ?_;rintro e w' ⟨rfl,rfl⟩;rw [HIN.o];refine hK.out _ _ hHeld ?_;clear hK K
  try simp only [y1_,y2_,y3_,Act.put,y4_,y5_,y6_]
  refine t_ 6 rfl ?_;refine u_ 7 rfl ?_
  try simp only [y1_,y2_,y3_,Act.put,y4_,y5_,y6_]
  refine u_ 8 rfl ?_
  try simp only [y1_,y2_,y3_,Act.put,y4_,y5_,y6_]
  refine u_ 9 rfl ?_
  try simp only [y1_,y2_,y3_,Act.put,y4_,y5_,y6_]
  refine u_ 10 rfl ?_
  try simp only [y1_,y2_,y3_,Act.put,y4_,y5_,y6_]
  refine u_ 11 rfl ?_
  try simp only [y1_,y2_,y3_,Act.put,y4_,y5_,y6_]
  refine u_ 12 rfl ?_
  try simp only [y1_,y2_,y3_,Act.put,y4_,y5_,y6_]
  refine u_ 13 rfl ?_
  try simp only [y1_,y2_,y3_,Act.put,y4_,y5_,y6_]
  refine u_ 14 rfl ?_
  try simp only [y1_,y2_,y3_,Act.put,y4_,y5_,y6_]
  refine u_ 15 rfl ?_
  try simp only [y1_,y2_,y3_,Act.put,y4_,y5_,y6_]
  refine t_ 16 rfl ?_;refine t_ 17 rfl ?_;refine Reg.doneT (by kernel_rfl) ?_ _;clear hHeld
  go_wp2_with fail
  go_ret;exact ⟨by rw [HV.o]; rfl,Below.drew HB.o⟩
set_option maxHeartbeats 1000000 in
theorem symbolValidS_any (y:YD) (A:Option Addr) (ps:List SV) (c:Nat) (w:World) (hr:Rd w w.heap.size A (cellsOf secC ps)) (hn:ps.length<=1048576) (h0:y.1.size<=maxLen) (hz:∀ p ∈ ps,p.zs.length<=maxLen):
  Calls Tryz.prog 86 #[.agg #[.string y.1,.int .i64 y.2.1,.int .i64 y.2.2.1,.int .i64 y.2.2.2],.slice A ps.length c] w (Ret (.bool (symOk (ps.map SV.d) y)) w):=by
 obtain ⟨nm,bd,wh,vl⟩:=y;have HR:=h_ hr;have H0:=h_ h0;simp only at h0 ⊢;clear hr h0;have B0:Below w.heap.size w (w.alloc (.cells #[.string nm,.int .i64 bd,.int .i64 wh,.int .i64 vl] 67)):=b_;have X0:=Box.new w 67 #[.string nm,.int .i64 bd,.int .i64 wh,.int .i64 vl];have HB:=h_ B0;have x0:=d_ X0 0;have x1:=d_ X0 1;have x2:=d_ X0 2;have x3:=d_ X0 3;clear B0
 go_enter Tryz.func86,Tryz.ntmps86
 go_wp2_with fail
 generalize w.alloc (.cells #[.string nm,.int .i64 bd,.int .i64 wh,.int .i64 vl] 67)=w0 at *;refine (nameValidS_any nm H0.o w0).mono ?_;rintro e w' ⟨rfl,rfl⟩
 cases hn1:nameOk nm
 ·have HV:=h_ (sym_bind (ss:=ps.map SV.d) (y:=(nm,bd,wh,vl)) (by simp [bindOk,hn1]))
  go_wp2_with fail
  go_ret;exact ⟨by rw [HV.o]; rfl,HB.o⟩
 go_wp2_with fail
 refine (l1In_any _ _ _ _).mono ?_;rintro e w' ⟨rfl,rfl⟩
 cases hb1:inB bd 0 2
 ·have HV:=h_ (sym_bind (ss:=ps.map SV.d) (y:=(nm,bd,wh,vl)) (by simp [bindOk,hb1]))
  go_wp2_with fail
  go_ret;exact ⟨by rw [HV.o]; rfl,HB.o⟩
 have HV:=h_ (sym_place (ss:=ps.map SV.d) (y:=(nm,bd,wh,vl)) (by simp [bindOk,hn1,hb1]));clear hn1 hb1
 by_cases h1:wh=-1
 ·have hp:placeOk (ps.map SV.d) (nm,bd,wh,vl)=(decide (vl=0) && !decide (bd=0)):=by simp only [placeOk]; rw [if_pos h1]
  have e1:(wh == -1)=true:=beq_iff_eq.2 h1;rw [hp] at HV;clear hp h1
  by_cases h2:vl=0
  ·have e2:(vl == 0)=true:=beq_iff_eq.2 h2;rw [decide_eq_true h2] at HV;clear h2
   by_cases h3:bd=0
   ·have e3:(bd != 0)=false:=by rw [h3]; rfl
    rw [decide_eq_true h3] at HV;clear h3
    go_wp2_with fail
    go_ret;exact ⟨by rw [HV.o]; rfl,HB.o⟩
   ·have e3:(bd != 0)=true:=bne_iff_ne.2 h3;rw [decide_eq_false h3] at HV;clear h3
    go_wp2_with fail
    go_ret;exact ⟨by rw [HV.o]; rfl,HB.o⟩
  ·have e2:(vl == 0)=false:=beq_eq_false_iff_ne.2 h2;rw [decide_eq_false h2,Bool.false_and] at HV;clear h2
   go_wp2_with fail
   go_ret;exact ⟨by rw [HV.o]; rfl,HB.o⟩
 have e1:(wh == -1)=false:=beq_eq_false_iff_ne.2 h1
 by_cases h2:wh=-2
 ·have hp:placeOk (ps.map SV.d) (nm,bd,wh,vl)=inB vl 0 60000:=by simp only [placeOk]; rw [if_neg h1,if_pos h2]
  have e2:(wh == -2)=true:=beq_iff_eq.2 h2;rw [hp] at HV;clear hp h1 h2
  go_wp2_with fail
  refine (l1In_any _ _ _ _).mono ?_;rintro e w' ⟨rfl,rfl⟩;generalize inB vl 0 60000=bb at *
  go_wp2_with fail
  go_ret;exact ⟨by rw [HV.o]; rfl,HB.o⟩
 have e2:(wh == -2)=false:=beq_eq_false_iff_ne.2 h2
 have hp:placeOk (ps.map SV.d) (nm,bd,wh,vl)=(inB wh 0 ((ps.length:Int) - 1) && inB vl 0 (secSize ((ps.map SV.d).getD wh.toNat ⟨ByteArray.empty,0,0,[],0,[]⟩))):=by simp only [placeOk]; rw [if_neg h1,if_neg h2,List.length_map]
 rw [hp] at HV;clear hp h1 h2;have hwr:IntKind.i64.wrap ((ps.length:Int) - 1)=(ps.length:Int) - 1:=IntWalk.i64_in _ (by omega)
 go_wp2_with fail
 by_cases hw:0<=wh/\wh<=(ps.length:Int) - 1
 ·obtain ⟨k,rfl⟩:=Int.eq_ofNat_of_zero_le hw.1
  have hlt:k<ps.length:=by omega
  have hgd:(ps.map SV.d).getD (k:Int).toNat ⟨ByteArray.empty,0,0,[],0,[]⟩=ps[k].d:=by
   rw [Int.toNat_natCast,List.getD_eq_getElem?_getD,List.getElem?_map,List.getElem?_eq_getElem hlt]
   rfl
  rw [hgd,inB_t hw,Bool.true_and] at HV;have HIN:=h_ (inB_t hw);obtain ⟨b,off,rfl,hbg,hc⟩:=((HR.o.below HB.o).more HB.o.size).row secC_len (by decide) hlt;have hc0:=hc 0 _ rfl;have hc1:=hc 1 _ rfl;have hc2:=hc 2 _ rfl;have hc3:=hc 3 _ rfl;have hc4:=hc 4 _ rfl;have hc5:=hc 5 _ rfl;simp only [Nat.add_zero] at hc0;have HM:=h_ (hz _ (List.getElem_mem hlt));clear hc hgd hw hz;generalize ps[k]=p at *;have HX0:=h_ X0
  have hSS:∀ V:World,Below w0.heap.size w0 V->(V.cell? ⟨w.heap.size,2,none⟩=some (.int .i64 k)/\V.cell? ⟨w.heap.size,3,none⟩=some (.int .i64 vl)/\V.cell? ⟨b,off+k*6,none⟩=some (.string p.nm)/\V.cell? ⟨b,off+k*6+1,none⟩=some (.int .i64 p.kd)/\V.cell? ⟨b,off+k*6+2,none⟩=some (.int .i64 p.al)/\V.cell? ⟨b,off+k*6+3,none⟩=some (.slice p.A p.zs.length p.c)/\V.cell? ⟨b,off+k*6+4,none⟩=some (.int .i64 p.sz)/\V.cell? ⟨b,off+k*6+5,none⟩=some (.slice p.F p.fs.length p.fc)):=by
   intro V hV;have hl:=HX0.o.lt;exact ⟨(hV.cell (p:=⟨w.heap.size,2,none⟩) hl).trans x2,(hV.cell (p:=⟨w.heap.size,3,none⟩) hl).trans x3,(hV.cell (p:=⟨b,off+k*6,none⟩) hbg).trans hc0,(hV.cell (p:=⟨b,off+k*6+1,none⟩) hbg).trans hc1,(hV.cell (p:=⟨b,off+k*6+2,none⟩) hbg).trans hc2,(hV.cell (p:=⟨b,off+k*6+3,none⟩) hbg).trans hc3,(hV.cell (p:=⟨b,off+k*6+4,none⟩) hbg).trans hc4,(hV.cell (p:=⟨b,off+k*6+5,none⟩) hbg).trans hc5⟩
  have HSS:=h_ hSS;clear hSS X0 x0 x1 x2 x3 hc0 hc1 hc2 hc3 hc4 hc5 hbg;refine Reg.startT (fun V=>V.cell? ⟨w.heap.size,2,none⟩=some (.int .i64 k)/\V.cell? ⟨w.heap.size,3,none⟩=some (.int .i64 vl)/\V.cell? ⟨b,off+k*6,none⟩=some (.string p.nm)/\V.cell? ⟨b,off+k*6+1,none⟩=some (.int .i64 p.kd)/\V.cell? ⟨b,off+k*6+2,none⟩=some (.int .i64 p.al)/\V.cell? ⟨b,off+k*6+3,none⟩=some (.slice p.A p.zs.length p.c)/\V.cell? ⟨b,off+k*6+4,none⟩=some (.int .i64 p.sz)/\V.cell? ⟨b,off+k*6+5,none⟩=some (.slice p.F p.fs.length p.fc)) (fun _=>false) (by kernel_rfl) ?_;have hHeld:=HSS.o w0.drew (Below.drew (Below.refl _ _));refine t_ 0 rfl ?_;refine t_ 1 rfl ?_;refine t_ 2 rfl ?_;refine t_ 3 rfl ?_;refine t_ 4 rfl ?_;refine Reg.oneT (i:=5) rfl (by kernel_rfl) (fun K hK=>?_)
  go_simp
  refine (l1In_any _ _ _ _).mono ?_;rintro e w' ⟨rfl,rfl⟩;rw [HIN.o];refine hK.out _ _ hHeld ?_;clear hK K
  try simp only [y1_,y2_,y3_,Act.put,y4_,y5_,y6_]
  refine t_ 6 rfl ?_;refine t_ 7 rfl ?_;refine t_ 8 rfl ?_;refine t_ 9 rfl ?_;refine t_ 10 rfl ?_;refine t_ 11 rfl ?_;refine t_ 12 rfl ?_;refine t_ 13 rfl ?_;refine Reg.oneT (i:=14) rfl (by kernel_rfl) (fun K hK=>?_)
  go_simp
  refine (sectionSizeS_any p _ HM.o).mono ?_;rintro e w5 ⟨rfl,b5⟩;have HB5:=h_ (HB.o.trans ((below_drawn b5).mono HB.o.size));have hHeld:=HSS.o w5 (below_drawn b5);refine hK.out _ _ hHeld ?_;clear hK K b5
  try simp only [y1_,y2_,y3_,Act.put,y4_,y5_,y6_]
  generalize secSize p.d=q at *;refine Reg.oneT (i:=15) rfl (by kernel_rfl) (fun K hK=>?_)
  go_simp
  refine (l1In_any _ _ _ _).mono ?_;rintro e w' ⟨rfl,rfl⟩;refine hK.out _ _ hHeld ?_;clear hK K
  try simp only [y1_,y2_,y3_,Act.put,y4_,y5_,y6_]
  generalize inB vl 0 q=bb at *;refine t_ 16 rfl ?_;refine t_ 17 rfl ?_;refine Reg.doneT (by kernel_rfl) ?_ _;clear hHeld HSS
  go_wp2_with fail
  go_ret;exact ⟨by rw [HV.o]; rfl,HB5.o⟩
 ·rw [inB_f hw,Bool.false_and] at HV;have HIN:=h_ (inB_f hw);clear hw hz;refine Reg.startT (fun V=>V.cell? ⟨w.heap.size,2,none⟩=some (.int .i64 wh)) (fun _=>false) (by kernel_rfl) ?_;have hHeld:w0.drew.cell? ⟨w.heap.size,2,none⟩=some (.int .i64 wh):=x2;refine t_ 0 rfl ?_;refine t_ 1 rfl ?_;refine t_ 2 rfl ?_;refine t_ 3 rfl ?_;refine t_ 4 rfl ?_;refine Reg.oneT (i:=5) rfl (by kernel_rfl) (fun K hK=>?_)
  go_simp
  refine (l1In_any _ _ _ _).mono ?_;rintro e w' ⟨rfl,rfl⟩;rw [HIN.o];refine hK.out _ _ hHeld ?_;clear hK K
  try simp only [y1_,y2_,y3_,Act.put,y4_,y5_,y6_]
  refine t_ 6 rfl ?_;refine u_ 7 rfl ?_
  try simp only [y1_,y2_,y3_,Act.put,y4_,y5_,y6_]
  refine u_ 8 rfl ?_
  try simp only [y1_,y2_,y3_,Act.put,y4_,y5_,y6_]
  refine u_ 9 rfl ?_
  try simp only [y1_,y2_,y3_,Act.put,y4_,y5_,y6_]
  refine u_ 10 rfl ?_
  try simp only [y1_,y2_,y3_,Act.put,y4_,y5_,y6_]
  refine u_ 11 rfl ?_
  try simp only [y1_,y2_,y3_,Act.put,y4_,y5_,y6_]
  refine u_ 12 rfl ?_
  try simp only [y1_,y2_,y3_,Act.put,y4_,y5_,y6_]
  refine u_ 13 rfl ?_
  try simp only [y1_,y2_,y3_,Act.put,y4_,y5_,y6_]
  refine u_ 14 rfl ?_
  try simp only [y1_,y2_,y3_,Act.put,y4_,y5_,y6_]
  refine u_ 15 rfl ?_
  try simp only [y1_,y2_,y3_,Act.put,y4_,y5_,y6_]
  refine t_ 16 rfl ?_;refine t_ 17 rfl ?_;refine Reg.doneT (by kernel_rfl) ?_ _;clear hHeld
  go_wp2_with fail
  go_ret;exact ⟨by rw [HV.o]; rfl,Below.drew HB.o⟩
end CSymValid
/- globalOf: the first symbol with a name that is not local. -/
namespace CGlobalOf
open Kit CCode CName CFixups CSymbols PObj BObj PValid CSecValid
def hit (nm:ByteArray) (x:YD):Bool:=!decide (x.2.1=0) && decide (x.1=nm)
theorem str_eq (a b:ByteArray):(a.toList == b.toList)=decide (a=b):=by
 rw [ByteArray.toList_eq,ByteArray.toList_eq]
 by_cases h:a=b
 ·rw [h,decide_eq_true rfl];simp
 ·rw [decide_eq_false h,beq_eq_false_iff_ne];intro e;refine h ?_;obtain ⟨⟨x⟩⟩:=a;obtain ⟨⟨y⟩⟩:=b;simp at e;rw [e]
theorem pred_any (nm:ByteArray) (N:Nat) (z:YD) (w:World) (hN:N<w.heap.size) (hc:w.cell? ⟨N,0,none⟩=some (.string nm)):
  Calls Tryz.prog 139 #[.agg #[.string z.1,.int .i64 z.2.1,.int .i64 z.2.2.1,.int .i64 z.2.2.2],.pointer (some ⟨N,0,none⟩)] w (Ret (.bool (hit nm z)) w):=by
 obtain ⟨zn,zb,zw,zv⟩:=z;simp only [hit];have B0:Below w.heap.size w (w.alloc (.cells #[.string zn,.int .i64 zb,.int .i64 zw,.int .i64 zv] 67)):=b_;have X0:=Box.new w 67 #[.string zn,.int .i64 zb,.int .i64 zw,.int .i64 zv];have hc1:=(B0.cell (p:=⟨N,0,none⟩) hN).trans hc;have HB:=h_ B0;have x0:=d_ X0 0;have x1:=d_ X0 1;clear B0
 go_enter Tryz.func139,Tryz.ntmps139
 by_cases hz:zb=0
 ·have e1:(zb != 0)=false:=by rw [hz]; rfl
  have HV:=h_ (show (!decide (zb=0) && decide (zn=nm))=false by rw [decide_eq_true hz]; rfl);clear hz
  go_wp2_with fail
  go_ret;exact ⟨by rw [HV.o]; rfl,HB.o⟩
 ·have e1:(zb != 0)=true:=bne_iff_ne.2 hz;have HV:=h_ (show (!decide (zb=0) && decide (zn=nm))=(zn.toList == nm.toList) by rw [decide_eq_false hz,str_eq]; rfl);clear hz;generalize hq:(zn.toList == nm.toList)=q at *
  go_wp2_with fail
  go_ret;exact ⟨by rw [HV.o]; rfl,HB.o⟩
theorem indexFunc_any (nm:ByteArray) (N:Nat) (A:Option Addr) (ys:List YD) (c:Nat) (w:World) (hr:Rd w w.heap.size A (cellsOf symbolC ys)) (hm:ys.length<=maxLen) (hN:N<w.heap.size) (hc:w.cell? ⟨N,0,none⟩=some (.string nm)):
  Calls Tryz.prog 138 #[.slice A ys.length c,.func (.func 139) #[] #[.pointer (some ⟨N,0,none⟩)]] w fun e w'=>∃ r:Int,e=.returned (.int .i64 r)/\decide (0<=r)=ys.any (hit nm)/\Below w.heap.size w w':=by
 unfold maxLen at hm
 go_enter Tryz.func138,Tryz.ntmps138
 go_wp2
 go_loopw [8] (fun i wr=>∃ k:Nat,k<=ys.length/\i=.int .i64 k/\(ys.take k).any (hit nm)=false/\Below w.heap.size w wr) (fun i _=>ys.length - (intOf i).toNat)
 case atStart=>exact ⟨0,Nat.zero_le _,rfl,rfl,Below.refl _ _⟩
 case round=>
  obtain ⟨k,hk,rfl,hn,hb⟩:=hrel;have HB:=h_ hb
  by_cases hlt:k<ys.length
  ·obtain ⟨b,off,rfl,hbb,hcc⟩:=(hr.below hb).row symbolC_len (by decide) hlt;have hc0:=hcc 0 _ rfl;have hc1:=hcc 1 _ rfl;have hc2:=hcc 2 _ rfl;have hc3:=hcc 3 _ rfl;simp only [Nat.add_zero] at hc0;have HS:=h_ (show (ys.take (k+1)).any (hit nm)=hit nm ys[k] by rw [take_succ hlt,List.any_append,hn]; simp);have HT:=h_ (show hit nm ys[k]=true->ys.any (hit nm)=true from fun h=>List.any_eq_true.2 ⟨_,List.getElem_mem hlt,h⟩);have HP:=h_ (fun z=>pred_any nm N z wr (Nat.lt_of_lt_of_le hN hb.size) ((hb.cell (p:=⟨N,0,none⟩) hN).trans hc));clear hr hb hcc hn hc;generalize ys[k]=z at *;have hpred:=HP.o z
   cases h:hit nm z
   ·have HS':=h_ (HS.o.trans h);rw [h] at hpred;clear HT HS h HP
    go_wp2_with fail
    refine hpred.mono ?_;rintro e w2 ⟨rfl,b2⟩;have HB':=h_ (HB.o.trans (b2.mono HB.o.size));clear b2 hc0 hc1 hc2 hc3
    go_wp2_with fail
    refine ⟨⟨k+1,by omega,by go_num,HS'.o,HB'.o⟩,by simp [intOf]; omega⟩
   ·have HT':=h_ (HT.o h);rw [h] at hpred;clear HT HS h HP
    go_wp2_with fail
    refine hpred.mono ?_;rintro e w2 ⟨rfl,b2⟩;have HB':=h_ (HB.o.trans (b2.mono HB.o.size));clear b2 hc0 hc1 hc2 hc3
    go_wp2_with fail
    go_ret;exact ⟨k,rfl,by rw [HT'.o]; simp,HB'.o⟩
  ·have HN:=h_ (show ys.any (hit nm)=false by rw [<-hn,List.take_of_length_le (by omega)]);clear hr hb hn hc
   go_wp2_with fail
   go_ret;exact ⟨-1,rfl,by rw [HN.o]; rfl,HB.o⟩
theorem globalOf_any (nm:ByteArray) (A:Option Addr) (ys:List YD) (c:Nat) (w:World) (hr:Rd w w.heap.size A (cellsOf symbolC ys)) (hm:ys.length<=maxLen):
  Calls Tryz.prog 84 #[.slice A ys.length c,.string nm] w fun e w'=>∃ r:Int,e=.returned (.int .i64 r)/\decide (0<=r)=ys.any (hit nm)/\Below w.heap.size w w':=by
 have B0:Below w.heap.size w (w.alloc (.cells #[.string nm] 9)):=b_;have X0:=Box.new w 9 #[.string nm];have x0:=d_ X0 0;have HX:=h_ (And.intro X0.lt x0);have HB:=h_ B0;have HR:=h_ ((hr.below B0).more B0.size);clear B0 hr X0 x0
 go_enter Tryz.func84,Tryz.ntmps84
 go_wp2_with fail
 refine (indexFunc_any nm w.heap.size A ys c _ HR.o hm HX.o.1 HX.o.2).mono ?_;rintro e w2 ⟨r,rfl,hr2,b2⟩;have HB2:=h_ (HB.o.trans (b2.mono HB.o.size));have H2:=h_ hr2;clear b2 hr2
 go_wp2_with fail
 go_ret;exact ⟨r,rfl,H2.o,HB2.o⟩
end CGlobalOf
/- The program's ObjectValid. -/
namespace CObjValid
open Kit CCode CName CFixups CSymbols PObj BObj PValid CSecValid CSecValid2 CSymValid CGlobalOf
structure Fit (o:OV):Prop where
 np:o.ps.length<=1048576
 ny:o.ys.length<=1048576
 cy:o.ys.length<=o.yc
 p:∀ p ∈ o.ps,p.nm.size<=maxLen/\p.zs.length<=1048576/\p.fs.length<=1048576
 y:∀ y ∈ o.ys,y.1.size<=maxLen
theorem obj_big {d:OD} (h:8<d.ss.length\/12<d.ys.length):objOk d=false:=by
 rw [<-Bool.not_eq_true];intro ht;simp only [objOk,Bool.and_eq_true,decide_eq_true_eq] at ht;omega
theorem obj_sec {d:OD} {p:SD} (hp:p ∈ d.ss) (h:secOk d.ys.length p=false):objOk d=false:=by
 rw [<-Bool.not_eq_true];intro ht;simp only [objOk,Bool.and_eq_true,decide_eq_true_eq,List.all_eq_true] at ht;rw [ht.1.2 p hp] at h
 cases h
def symAt (ss:List SD) (ys:List YD) (k:Nat) (y:YD):Bool:=symOk ss y && !(!decide (y.2.1=0) && (ys.take k).any (hit y.1))
theorem getD_at {ys:List YD} {k:Nat} (h:k<ys.length) (d:YD):ys.getD k d=ys[k]:=by
 rw [List.getD_eq_getElem?_getD,List.getElem?_eq_getElem h]
 rfl
theorem obj_sym {d:OD} {k:Nat} (hk:k<d.ys.length) (h:symAt d.ss d.ys k d.ys[k]=false):objOk d=false:=by
 rw [<-Bool.not_eq_true];intro ht;simp only [objOk,symsOk,Bool.and_eq_true,List.all_eq_true] at ht;have h1:=ht.2 k (List.mem_range.2 hk);rw [getD_at hk] at h1
 have h2:symAt d.ss d.ys k d.ys[k]=true:=by
  unfold symAt;rw [h1.1];exact h1.2
 rw [h2] at h
 cases h
theorem obj_yes {d:OD} (h1:d.ss.length<=8) (h2:d.ys.length<=12) (h3:∀ p ∈ d.ss,secOk d.ys.length p=true) (h4:∀ k,(h:k<d.ys.length)->symAt d.ss d.ys k d.ys[k]=true):objOk d=true:=by
 simp only [objOk,symsOk,Bool.and_eq_true,decide_eq_true_eq,List.all_eq_true];refine ⟨⟨⟨h1,h2⟩,h3⟩,fun k hk=>?_⟩;have hk':=List.mem_range.1 hk;have h:=h4 k hk';rw [getD_at hk'];unfold symAt at h;rw [Bool.and_eq_true] at h;exact ⟨h.1,h.2⟩
theorem _root_.Go.Proofs.YtepoiphmmjfbdaaGreatDoor.Kit.Rd.prefix_take {w:World} {B:Nat} {A:Option Addr} {ys:List YD} (h:Rd w B A (cellsOf symbolC ys)) (k:Nat):Rd w B A (cellsOf symbolC (ys.take k)):=by
 have e:cellsOf symbolC ys=cellsOf symbolC (ys.take k)++cellsOf symbolC (ys.drop k):=by
  conv=>lhs; rw [<-List.take_append_drop k ys]
  simp only [cellsOf,List.flatMap_append]
 intro i u hi;refine h i u ?_
 rw [e,List.getElem?_append_left (by
  rcases Nat.lt_or_ge i (cellsOf symbolC (ys.take k)).length with h' | h'
  ·exact h'
  ·rw [List.getElem?_eq_none h'] at hi
   cases hi)]
 exact hi
set_option maxHeartbeats 2000000 in
theorem objectValid_any (o:OV) (w:World) (hr:RdO w w.heap.size o) (hf:Fit o):
  Calls Tryz.prog 36 #[.agg #[.slice o.A o.ps.length o.c,.slice o.Y o.ys.length o.yc]] w (Ret (.bool (objOk o.d)) w):=by
 obtain ⟨A,c,ps,Y,yc,ys⟩:=o;obtain ⟨np,ny,cy,hp,hy⟩:=hf;simp only [OV.d] at np ny cy hp hy ⊢;have HR:=h_ hr;have HL:=h_ (And.intro hp hy);clear hr hp hy;have B0:Below w.heap.size w (w.alloc (.cells #[.slice A ps.length c,.slice Y ys.length yc] 26)):=b_;have X0:=Box.new w 26 #[.slice A ps.length c,.slice Y ys.length yc];have x0:=d_ X0 0;have x1:=d_ X0 1;have HB:=h_ B0;clear B0
 go_enter Tryz.func36,Tryz.ntmps36
 by_cases b1:8<ps.length
 ·have HV:=h_ (obj_big (d:=⟨ps.map SV.d,ys⟩) (.inl (by simpa using b1)));have e1:decide ((8:Int)<ps.length)=true:=decide_eq_true (by omega);clear b1
  go_wp2_with fail
  go_ret;exact ⟨by rw [HV.o]; rfl,HB.o⟩
 have e1:decide ((8:Int)<ps.length)=false:=decide_eq_false (by omega)
 by_cases b2:12<ys.length
 ·have HV:=h_ (obj_big (d:=⟨ps.map SV.d,ys⟩) (.inr b2));have e2:decide ((12:Int)<ys.length)=true:=decide_eq_true (by omega);clear b1 b2
  go_wp2_with fail
  go_ret;exact ⟨by rw [HV.o]; rfl,HB.o⟩
 have e2:decide ((12:Int)<ys.length)=false:=decide_eq_false (by omega)
 go_wp2_with fail
 clear e1 e2;generalize w.alloc (.cells #[.slice A ps.length c,.slice Y ys.length yc] 26)=w0 at *
 go_loopw [20] (fun i wi=>∃ k:Nat,k<=ps.length/\i=.int .i64 k/\(∀ p ∈ ps.take k,secOk ys.length p.d=true)/\Box wi w.heap.size 26 #[.slice A ps.length c,.slice Y ys.length yc]/\Below w.heap.size w wi) (fun i _=>ps.length - (intOf i).toNat)
 case atStart=>exact ⟨0,Nat.zero_le _,rfl,fun p hp=>by simp at hp,X0,HB.o⟩
 case round=>
  obtain ⟨k,hk,rfl,hok,hx,hb⟩:=hrel;have HO:=h_ hok;have HX:=h_ hx;have HBI:=h_ hb;clear X0 x0 x1 HB;have x0:=d_ hx 0;have x1:=d_ hx 1;have hxl:=hx.lt
  by_cases hlt:k<ps.length
  ·obtain ⟨b,off,hA,hbg,hc⟩:=(HR.o.1.1.below hb).row secC_len (by decide) hlt;subst hA;have hc0:=hc 0 _ rfl;have hc1:=hc 1 _ rfl;have hc2:=hc 2 _ rfl;have hc3:=hc 3 _ rfl;have hc4:=hc 4 _ rfl;have hc5:=hc 5 _ rfl;simp only [Nat.add_zero] at hc0;have HM:=h_ (HL.o.1 _ (List.getElem_mem hlt));have HRS:=h_ (HR.o.1.2 _ (List.getElem_mem hlt))
   have HS:=h_ (fun (h:secOk ys.length ps[k].d=true)=>(show ∀ p ∈ ps.take (k+1),secOk ys.length p.d=true from fun p hp=>by
    rw [take_succ hlt] at hp
    rcases List.mem_append.1 hp with hp | hp
    ·exact HO.o p hp
    ·rw [List.mem_singleton.1 hp]; exact h))
   have HF:=h_ (fun (h:secOk ys.length ps[k].d=false)=>obj_sec (d:=⟨ps.map SV.d,ys⟩) (List.mem_map_of_mem (List.getElem_mem hlt)) h);clear hok hx hb hc HO;generalize ps[k]=p at *
   go_wp2_with fail
   have B1:Below wr.heap.size wr (wr.alloc (.cells #[.string p.nm,.int .i64 p.kd,.int .i64 p.al,.slice p.A p.zs.length p.c,.int .i64 p.sz,.slice p.F p.fs.length p.fc] 61)):=b_;have HX1:=h_ (HX.o.call B1);have HB1:=h_ (HBI.o.trans (B1.mono HBI.o.size));clear hc0 hc1 hc2 hc3 hc4 hc5 B1 HX HBI x0 x1;refine (sectionValid_any p ys.length _ ((HRS.o.below HB1.o).more HB1.o.size) HM.o.1 HM.o.2.1 HM.o.2.2).mono ?_;rintro e w2 ⟨rfl,b2⟩;have HX2:=h_ (HX1.o.call b2);have HB2:=h_ (HB1.o.trans (b2.mono HB1.o.size));clear b2 HX1 HB1
   cases hs:secOk ys.length p.d
   ·have HV:=h_ (HF.o hs);clear HF HS hs
    go_wp2_with fail
    go_ret;exact ⟨by rw [HV.o]; rfl,HB2.o⟩
   ·have HS':=h_ (HS.o hs);clear HF HS hs
    go_wp2_with fail
    refine ⟨⟨k+1,by omega,by go_num,HS'.o,HX2.o,HB2.o⟩,by simp [intOf]; omega⟩
  ·have HALL:=h_ (show ∀ p ∈ ps.map SV.d,secOk ys.length p=true from fun p hp=>by
    obtain ⟨q,hq,rfl⟩:=List.mem_map.1 hp
    exact HO.o q (by rw [List.take_of_length_le (by omega)]; exact hq))
   clear HO hok hx hb
   go_wp2_with fail
   clear x0 x1
   go_loopw [34] (fun i wi=>∃ k:Nat,k<=ys.length/\i=.int .i64 k/\(∀ j,(h:j<ys.length)->j<k->symAt (ps.map SV.d) ys j ys[j]=true)/\Box wi w.heap.size 26 #[.slice A ps.length c,.slice Y ys.length yc]/\Below w.heap.size w wi) (fun i _=>ys.length - (intOf i).toNat)
   case atStart=>exact ⟨0,Nat.zero_le _,rfl,fun j _ hj=>absurd hj (Nat.not_lt_zero j),HX.o,HBI.o⟩
   case round=>
    obtain ⟨k,hk,rfl,hok,hx,hb⟩:=hrel;clear HX HBI hxl;have HO:=h_ hok;have HX:=h_ hx;have HBI:=h_ hb
    by_cases hlt:k<ys.length
    ·obtain ⟨b,off,hY,hbg,hc⟩:=(HR.o.2.below hb).row symbolC_len (by decide) hlt;have hc0:=hc 0 _ rfl;have hc1:=hc 1 _ rfl;have hc2:=hc 2 _ rfl;have hc3:=hc 3 _ rfl;simp only [Nat.add_zero] at hc0;have HM:=h_ (HL.o.2 _ (List.getElem_mem hlt))
     have HS:=h_ (fun (h:symAt (ps.map SV.d) ys k ys[k]=true)=>(show ∀ j,(h:j<ys.length)->j<k+1->symAt (ps.map SV.d) ys j ys[j]=true from fun j hj hjk=>by
      rcases Nat.lt_or_ge j k with h' | h'
      ·exact HO.o j hj h'
      ·obtain rfl:j=k:=by omega
       exact h))
     have HF:=h_ (fun (h:symAt (ps.map SV.d) ys k ys[k]=false)=>obj_sym (d:=⟨ps.map SV.d,ys⟩) hlt h)
     have HRP:=h_ (show Rd w w.heap.size Y (cellsOf symbolC (ys.take k)) from by
      have:=Rd.prefix_take HR.o.2 k
      exact this)
     have hkl:(ys.take k).length=k:=by rw [List.length_take]; omega
     have HPL:=h_ (show (ys.take k).length<=maxLen by rw [hkl]; unfold maxLen; omega);clear hok hx hb hc HO;unfold symAt at HS HF;generalize hpre:ys.take k=pre at *;generalize ys[k]=z at *;obtain ⟨zn,zb,zw,zv⟩:=z;simp only at HM hc0 hc1 hc2 hc3 HS HF;subst hY
     go_wp2_with fail
     have B1:Below wr.heap.size wr (wr.alloc (.cells #[.string zn,.int .i64 zb,.int .i64 zw,.int .i64 zv] 67)):=b_;have HX1:=h_ (HX.o.call B1);have HB1:=h_ (HBI.o.trans (B1.mono HBI.o.size));have HZ1:=h_ (Box.new wr 67 #[.string zn,.int .i64 zb,.int .i64 zw,.int .i64 zv]);clear hc0 hc1 hc2 hc3 B1 HX HBI hbg;generalize wr.alloc (.cells #[.string zn,.int .i64 zb,.int .i64 zw,.int .i64 zv] 67)=w1 at *;generalize wr.heap.size=Z at *
     have hSS:∀ V:World,Below w1.heap.size w1 V->(V.cell? ⟨w.heap.size,0,none⟩=some (.slice A ps.length c)/\V.cell? ⟨w.heap.size,1,none⟩=some (.slice (some ⟨b,off,none⟩) ys.length yc)/\V.cell? ⟨Z,0,none⟩=some (.string zn)/\V.cell? ⟨Z,1,none⟩=some (.int .i64 zb)/\V.cell? ⟨Z,2,none⟩=some (.int .i64 zw)/\V.cell? ⟨Z,3,none⟩=some (.int .i64 zv)):=by
      intro V hV;exact ⟨(HX1.o.call hV).cell 0,(HX1.o.call hV).cell 1,(HZ1.o.call hV).cell 0,(HZ1.o.call hV).cell 1,(HZ1.o.call hV).cell 2,(HZ1.o.call hV).cell 3⟩
     have HSS:=h_ hSS;clear hSS;refine Reg.startT (fun V=>V.cell? ⟨w.heap.size,0,none⟩=some (.slice A ps.length c)/\V.cell? ⟨w.heap.size,1,none⟩=some (.slice (some ⟨b,off,none⟩) ys.length yc)/\V.cell? ⟨Z,0,none⟩=some (.string zn)/\V.cell? ⟨Z,1,none⟩=some (.int .i64 zb)/\V.cell? ⟨Z,2,none⟩=some (.int .i64 zw)/\V.cell? ⟨Z,3,none⟩=some (.int .i64 zv)) (fun _=>false) (by kernel_rfl) ?_;have hHeld:=HSS.o w1.drew (Below.drew (Below.refl _ _));refine t_ 0 rfl ?_;refine t_ 1 rfl ?_;refine t_ 2 rfl ?_;refine Reg.oneT (i:=3) rfl (by kernel_rfl) (fun K hK=>?_)
     go_simp
     refine (symbolValid_any (zn,zb,zw,zv) A ps c _ ((HR.o.1.1.below (Below.drew HB1.o)).more (Below.drew HB1.o).size) np HM.o (fun p hp=>Nat.le_trans (HL.o.1 p hp).2.1 (by decide))).mono ?_;rintro e w3 ⟨rfl,b3⟩;have HB3:=h_ (HB1.o.trans ((below_drawn b3).mono HB1.o.size));have HXB:=h_ (below_drawn b3);have hHeld:=HSS.o w3 HXB.o;refine hK.out _ _ hHeld ?_;clear hK K b3
     try simp only [y1_,y2_,y3_,Act.put,y4_,y5_,y6_]
     cases hs:symOk (ps.map SV.d) (zn,zb,zw,zv)
     ·have HV:=h_ (HF.o (by rw [hs]; rfl));clear HF HS hs;refine t_ 4 rfl ?_;refine t_ 5 rfl ?_;refine u_ 6 rfl ?_
      try simp only [y1_,y2_,y3_,Act.put,y4_,y5_,y6_]
      refine u_ 7 rfl ?_
      try simp only [y1_,y2_,y3_,Act.put,y4_,y5_,y6_]
      refine u_ 8 rfl ?_
      try simp only [y1_,y2_,y3_,Act.put,y4_,y5_,y6_]
      refine u_ 9 rfl ?_
      try simp only [y1_,y2_,y3_,Act.put,y4_,y5_,y6_]
      refine u_ 10 rfl ?_
      try simp only [y1_,y2_,y3_,Act.put,y4_,y5_,y6_]
      refine u_ 11 rfl ?_
      try simp only [y1_,y2_,y3_,Act.put,y4_,y5_,y6_]
      refine u_ 12 rfl ?_
      try simp only [y1_,y2_,y3_,Act.put,y4_,y5_,y6_]
      refine u_ 13 rfl ?_
      try simp only [y1_,y2_,y3_,Act.put,y4_,y5_,y6_]
      refine u_ 14 rfl ?_
      try simp only [y1_,y2_,y3_,Act.put,y4_,y5_,y6_]
      refine u_ 15 rfl ?_
      try simp only [y1_,y2_,y3_,Act.put,y4_,y5_,y6_]
      refine u_ 16 rfl ?_
      try simp only [y1_,y2_,y3_,Act.put,y4_,y5_,y6_]
      refine u_ 17 rfl ?_
      try simp only [y1_,y2_,y3_,Act.put,y4_,y5_,y6_]
      refine u_ 18 rfl ?_
      try simp only [y1_,y2_,y3_,Act.put,y4_,y5_,y6_]
      refine t_ 19 rfl ?_;refine Reg.doneT (by kernel_rfl) ?_ _;clear hHeld HSS
      go_wp2_with fail
      go_ret;exact ⟨by rw [HV.o]; rfl,HB3.o⟩
     rw [hs] at HS HF;clear hs;refine t_ 4 rfl ?_;refine t_ 5 rfl ?_;refine t_ 6 rfl ?_;refine t_ 7 rfl ?_;refine t_ 8 rfl ?_
     by_cases hz:zb=0
     ·have HS':=h_ (HS.o (by rw [decide_eq_true hz]; rfl))
      have e1:(zb != 0)=false:=by rw [hz]; rfl
      clear HS HF hz;rw [e1];refine t_ 9 rfl ?_;refine u_ 10 rfl ?_
      try simp only [y1_,y2_,y3_,Act.put,y4_,y5_,y6_]
      refine u_ 11 rfl ?_
      try simp only [y1_,y2_,y3_,Act.put,y4_,y5_,y6_]
      refine u_ 12 rfl ?_
      try simp only [y1_,y2_,y3_,Act.put,y4_,y5_,y6_]
      refine u_ 13 rfl ?_
      try simp only [y1_,y2_,y3_,Act.put,y4_,y5_,y6_]
      refine u_ 14 rfl ?_
      try simp only [y1_,y2_,y3_,Act.put,y4_,y5_,y6_]
      refine u_ 15 rfl ?_
      try simp only [y1_,y2_,y3_,Act.put,y4_,y5_,y6_]
      refine u_ 16 rfl ?_
      try simp only [y1_,y2_,y3_,Act.put,y4_,y5_,y6_]
      refine u_ 17 rfl ?_
      try simp only [y1_,y2_,y3_,Act.put,y4_,y5_,y6_]
      refine t_ 18 rfl ?_;refine t_ 19 rfl ?_;refine Reg.doneT (by kernel_rfl) ?_ _;clear hHeld HSS;have HX3:=h_ (HX1.o.call HXB.o)
      go_wp2_with fail
      refine ⟨⟨k+1,by omega,by go_num,HS'.o,HX3.o,HB3.o⟩,by simp [intOf]; omega⟩
     ·have e1:(zb != 0)=true:=bne_iff_ne.2 hz;rw [decide_eq_false hz] at HS HF;clear hz;rw [e1]
      have hky:k<=yc:=by omega
      refine t_ 9 rfl ?_;refine t_ 10 rfl ?_;refine t_ 11 rfl ?_;refine t_ 12 rfl ?_;refine t_ 13 rfl ?_;refine t_ 14 rfl ?_;refine t_ 15 rfl ?_;refine Reg.oneT (i:=16) rfl (by kernel_rfl) (fun K hK=>?_)
      go_simp
      have HGO:=h_ (globalOf_any zn (some ⟨b,off,none⟩) pre yc w3 ((HRP.o.below HB3.o).more HB3.o.size) HPL.o);rw [hkl] at HGO;refine HGO.o.mono ?_;rintro e w4 ⟨r,rfl,hr4,b4⟩;have HB4:=h_ (HB3.o.trans (b4.mono HB3.o.size));have HX4:=h_ ((HX1.o.call HXB.o).call b4);have hHeld:=HSS.o w4 (HXB.o.trans (b4.mono HXB.o.size));refine hK.out _ _ hHeld ?_;clear hK K b4
      try simp only [y1_,y2_,y3_,Act.put,y4_,y5_,y6_]
      cases hq:pre.any (hit zn)
      ·have HS':=h_ (HS.o (by rw [hq]; rfl));rw [hq] at hr4;clear HS HF hq;refine t_ 17 rfl ?_;refine t_ 18 rfl ?_;refine t_ 19 rfl ?_;refine Reg.doneT (by kernel_rfl) ?_ _;clear hHeld HSS
       go_wp2_with fail
       refine ⟨⟨k+1,by omega,by go_num,HS'.o,HX4.o,HB4.o⟩,by simp [intOf]; omega⟩
      ·have HV:=h_ (HF.o (by rw [hq]; rfl));rw [hq] at hr4;clear HS HF hq;refine t_ 17 rfl ?_;refine t_ 18 rfl ?_;refine t_ 19 rfl ?_;refine Reg.doneT (by kernel_rfl) ?_ _;clear hHeld HSS
       go_wp2_with fail
       go_ret;exact ⟨by rw [HV.o]; rfl,HB4.o⟩
    ·have HV:=h_ (obj_yes (d:=⟨ps.map SV.d,ys⟩) (by simp; omega) (by simp; omega) HALL.o (fun j hj=>HO.o j hj (Nat.lt_of_lt_of_le hj (show ys.length<=k by omega))));clear HO hok hx hb
     go_wp2_with fail
     go_ret;exact ⟨by rw [HV.o]; rfl,HBI.o⟩
end CObjValid
end Go.Proofs.YtepoiphmmjfbdaaGreatDoor
