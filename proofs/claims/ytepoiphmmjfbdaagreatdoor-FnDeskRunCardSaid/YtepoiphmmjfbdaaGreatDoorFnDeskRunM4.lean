/- The reference's ObjectValid. -/
import Derived.Test.YtepoiphmmjfbdaaGreatDoorFnDeskRunM3
import Derived.BigQuiet
import Derived.Lib.VarintMem
import Derived.Lib.EndianMore
import Derived.Shelf.Small.Bits
import Derived.Shelf.Small.Strs
import Derived.Shelf.Strconv.Atoi
import Derived.Shelf.Strconv.Itoa0
import Derived.Shelf.Strconv.Itoa1
import Derived.Shelf.LaysM
import Derived.Shelf.Strconv.Itoa2
import Derived.Shelf.Strconv.Itoa3
import Derived.Shelf.Strconv.AtoiErrFast
import Derived.Shelf.Strconv.ParseIntEmpty
import Derived.Shelf.Strconv.AtoiFail
import Derived.Shelf.Strconv.Clone
import Derived.Shelf.Strconv.SyntaxError
import Derived.Shelf.LaysC
import Derived.Shelf.Strconv.ToError
import Derived.Shelf.Strconv.Lower
import Derived.Shelf.Strconv.ParseUint10
import Derived.Shelf.Strconv.ParseUint10Empty
import Derived.Shelf.Strconv.ParseUint10Any
import Derived.Shelf.Strconv.ParseInt10
import Derived.Shelf.Strconv.AtoiLong
import Derived.Shelf.Strconv.AtoiInnerAll
import Derived.Shelf.Strconv.RangeError
import Derived.Shelf.Strconv.ToErrorRange
import Derived.Shelf.Strconv.AtoiAll
import Derived.Shelf.Strconv.ErrVarAll
import Derived.Shelf.Strings.Search1
import Derived.Shelf.Strings.Search2
import Derived.Shelf.Strings.Search3
import Derived.Shelf.Strings.Cut
import Derived.Shelf.Strings.Count
import Derived.Shelf.Strings.Shaped
import Derived.Shelf.Sort.Plain
import Derived.Shelf.Strings.Split
import Derived.Shelf.Unicode.DecodeSlow
import Derived.Shelf.Slices.Turned
import Derived.Shelf.Slices.Equal
import Derived.Shelf.Slices.Clone
import Derived.Shelf.Slices.CompactS
import Derived.Shelf.Slices.Delete
import Derived.Shelf.Slices.Cells
import Derived.Shelf.Slices.In.SortNone
import Derived.Shelf.Slices.Empties
import Derived.Shelf.Slices.Empties2
import Derived.Ground.SlgnProg
import Derived.Shelf.SlicesE.Clone
import Derived.Test.YtepoiphmmjfbdaaGreatDoorProg
import Derived.Deep.QuietTactic
import Derived.Test.YtepoiphmmjfbdaaGreatDoorRows
import Derived.Lib.OwnBridge
import Derived.Lib.SlicesS
set_option linter.unusedSimpArgs false
set_option linter.unusedVariables false
set_option maxRecDepth 200000
open Go.ChangeShapes Go.WideShapes Go.ChangeAt Go.RowKit
namespace Go.Proofs.YtepoiphmmjfbdaaGreatDoor
namespace CObjValidS
open Kit CCode CName CFixups CSymbols PObj BObj PValid CSecValid CSecValid2 CSecValid3 CSymValid CGlobalOf CObjValid
theorem obj_sizes{d:OD}(h3:∀p∈d.ss,secOk d.ys.length p=true)(h4:∀k,(h:k<d.ys.length)->symAt d.ss d.ys k d.ys[k]=true):objOk d=(decide (d.ss.length<=8)&&decide (d.ys.length<=12)):=by
 by_cases h1:d.ss.length<=8
 ·by_cases h2:d.ys.length<=12
  ·rw[obj_yes h1 h2 h3 h4,decide_eq_true h1,decide_eq_true h2]
   rfl
  ·rw[obj_big (.inr (by omega)),decide_eq_false h2,Bool.and_false]
 ·rw[obj_big (.inl (by omega)),decide_eq_false h1,Bool.false_and]
set_option maxHeartbeats 4000000 in
theorem objectValidS_any(o:OV)(w:World)(hr:RdO w w.heap.size o)(hf:Fit o):
  Calls Tryz.prog 39 #[.agg #[.slice o.A o.ps.length o.c,.slice o.Y o.ys.length o.yc]] w (Ret (.bool (objOk o.d)) w):=by
 obtain⟨A,c,ps,Y,yc,ys⟩:=o;obtain⟨np,ny,cy,hp,hy⟩:=hf;simp only[OV.d]at np ny cy hp hy ⊢;have HR:=h_ hr;have HL:=h_ (And.intro hp hy);clear hr hp hy;have B0:Below w.heap.size w (w.alloc (.cells #[.slice A ps.length c,.slice Y ys.length yc] 26)):=b_;have X0:=Box.new w 26 #[.slice A ps.length c,.slice Y ys.length yc];have HB:=h_ B0;clear B0;go_enter Tryz.func39,Tryz.ntmps39
 go_wp2_with fail
 generalize w.alloc (.cells #[.slice A ps.length c,.slice Y ys.length yc] 26)=w0 at *;go_loopw [3] (λi wi=>∃k:Nat,k<=ps.length/\i=.int .i64 k/\(∀p∈ps.take k,secOk ys.length p.d=true)/\Box wi w.heap.size 26 #[.slice A ps.length c,.slice Y ys.length yc]/\Below w.heap.size w wi) (λi _=>ps.length-(intOf i).toNat)
 case atStart=>exact⟨0,Nat.zero_le _,rfl,λp hp=>by simp at hp,X0,HB.o⟩
 case round=>
  obtain⟨k,hk,rfl,hok,hx,hb⟩:=hrel;have HO:=h_ hok;have HX:=h_ hx;have HBI:=h_ hb;clear X0 HB;have x0:=d_ hx 0;have x1:=d_ hx 1;have hxl:=hx.lt;by_cases hlt:k<ps.length
  ·obtain⟨b,off,hA,hbg,hc⟩:=(HR.o.1.1.below hb).row secC_len (by decide) hlt;subst hA;have hbw:b<wr.heap.size:=Nat.lt_of_lt_of_le hbg hb.size;have hc0:=hc 0 _ rfl;have hc1:=hc 1 _ rfl;have hc2:=hc 2 _ rfl;have hc3:=hc 3 _ rfl;have hc4:=hc 4 _ rfl;have hc5:=hc 5 _ rfl;simp only[Nat.add_zero]at hc0;have HM:=h_ (HL.o.1 _ (List.getElem_mem hlt));have HRS:=h_ (HR.o.1.2 _ (List.getElem_mem hlt));have HS:=h_ (λ(h:secOk ys.length ps[k].d=true)=>(show ∀p∈ps.take (k+1),secOk ys.length p.d=true from λp hp=>by
    rw[take_succ hlt]at hp;rcases List.mem_append.1 hp with hp|hp
    ·exact HO.o p hp
    ·rw[List.mem_singleton.1 hp];exact h))
   have HF:=h_ (λ(h:secOk ys.length ps[k].d=false)=>obj_sec (d:=⟨ps.map SV.d,ys⟩) (List.mem_map_of_mem (List.getElem_mem hlt)) h);clear hok hx hb hc HO;generalize ps[k]=p at *;go_wp2_with fail
   have HSS:Hd (∀V:World,Below wr.heap.size wr V->(V.cell? ⟨w.heap.size,0,none⟩=some (.slice (some ⟨b,off,none⟩) ps.length c)/\V.cell? ⟨w.heap.size,1,none⟩=some (.slice Y ys.length yc)/\V.cell? ⟨b,off+k*6,none⟩=some (.string p.nm)/\V.cell? ⟨b,off+k*6+1,none⟩=some (.int .i64 p.kd)/\V.cell? ⟨b,off+k*6+2,none⟩=some (.int .i64 p.al)/\V.cell? ⟨b,off+k*6+3,none⟩=some (.slice p.A p.zs.length p.c)/\V.cell? ⟨b,off+k*6+4,none⟩=some (.int .i64 p.sz)/\V.cell? ⟨b,off+k*6+5,none⟩=some (.slice p.F p.fs.length p.fc))):=h_ (λV hV=>⟨(hV.cell (p:=⟨w.heap.size,0,none⟩) hxl).trans x0,(hV.cell (p:=⟨w.heap.size,1,none⟩) hxl).trans x1,(hV.cell (p:=⟨b,off+k*6,none⟩) hbw).trans hc0,(hV.cell (p:=⟨b,off+k*6+1,none⟩) hbw).trans hc1,(hV.cell (p:=⟨b,off+k*6+2,none⟩) hbw).trans hc2,(hV.cell (p:=⟨b,off+k*6+3,none⟩) hbw).trans hc3,(hV.cell (p:=⟨b,off+k*6+4,none⟩) hbw).trans hc4,(hV.cell (p:=⟨b,off+k*6+5,none⟩) hbw).trans hc5⟩);clear hc0 hc1 hc2 hc3 hc4 hc5 x0 x1;refine Reg.startT (λV=>V.cell? ⟨w.heap.size,0,none⟩=some (.slice (some ⟨b,off,none⟩) ps.length c)/\V.cell? ⟨w.heap.size,1,none⟩=some (.slice Y ys.length yc)/\V.cell? ⟨b,off+k*6,none⟩=some (.string p.nm)/\V.cell? ⟨b,off+k*6+1,none⟩=some (.int .i64 p.kd)/\V.cell? ⟨b,off+k*6+2,none⟩=some (.int .i64 p.al)/\V.cell? ⟨b,off+k*6+3,none⟩=some (.slice p.A p.zs.length p.c)/\V.cell? ⟨b,off+k*6+4,none⟩=some (.int .i64 p.sz)/\V.cell? ⟨b,off+k*6+5,none⟩=some (.slice p.F p.fs.length p.fc)) (λ_=>false) (by kernel_rfl) ?_;have hHeld:=HSS.o wr.drew (Below.drew (Below.refl _ _));refine t_ 0 rfl ?_;refine t_ 1 rfl ?_;refine t_ 2 rfl ?_;refine t_ 3 rfl ?_;refine t_ 4 rfl ?_;refine t_ 5 rfl ?_;refine t_ 6 rfl ?_;refine t_ 7 rfl ?_;refine Reg.oneT (i:=8) rfl (by kernel_rfl) (λK hK=>?_);go_simp
   refine(sectionValidS_any p ys.length _ ((HRS.o.below (Below.drew HBI.o)).more (Below.drew HBI.o).size) HM.o.1 HM.o.2.1 HM.o.2.2).mono ?_;rintro e w2 ⟨rfl,b2⟩;have b2':=of_drew b2;have hHeld:=HSS.o w2 b2';refine hK.out _ _ hHeld ?_;clear hK K;try simp only[y1_,y2_,y3_,Act.put,y4_,y5_,y6_]
   have HX2:=h_ (HX.o.call b2');have HB2:=h_ (HBI.o.trans (b2'.mono HBI.o.size));clear b2 b2' HX HBI HSS;cases hs:secOk ys.length p.d
   ·have HV:=h_ (HF.o hs);clear HF HS hs;refine t_ 9 rfl ?_;refine Reg.doneT (by kernel_rfl) ?_ _;clear hHeld;go_wp2_with fail
    go_ret;exact⟨by rw[HV.o];rfl,HB2.o⟩
   ·have HS':=h_ (HS.o hs);clear HF HS hs;refine t_ 9 rfl ?_;refine Reg.doneT (by kernel_rfl) ?_ _;clear hHeld;go_wp2_with fail
    refine⟨⟨k+1,by omega,by go_num,HS'.o,HX2.o,HB2.o⟩,by simp[intOf];omega⟩
  ·have HALL:=h_ (show ∀p∈ps.map SV.d,secOk ys.length p=true from λp hp=>by
    obtain⟨q,hq,rfl⟩:=List.mem_map.1 hp;exact HO.o q (by rw[List.take_of_length_le (by omega)];exact hq))
   clear HO hok hx hb;go_wp2_with fail
   clear x0 x1;go_loopw [4] (λi wi=>∃k:Nat,k<=ys.length/\i=.int .i64 k/\(∀j,(h:j<ys.length)->j<k->symAt (ps.map SV.d) ys j ys[j]=true)/\Box wi w.heap.size 26 #[.slice A ps.length c,.slice Y ys.length yc]/\Below w.heap.size w wi) (λi _=>ys.length-(intOf i).toNat)
   case atStart=>exact⟨0,Nat.zero_le _,rfl,λj _ hj=>absurd hj (Nat.not_lt_zero j),HX.o,HBI.o⟩
   case round=>
    obtain⟨k,hk,rfl,hok,hx,hb⟩:=hrel;clear HX HBI hxl;have HO:=h_ hok;have HX:=h_ hx;have HBI:=h_ hb;have x0:=d_ hx 0;have x1:=d_ hx 1;have hxl:=hx.lt;by_cases hlt:k<ys.length
    ·obtain⟨b,off,hY,hbg,hc⟩:=(HR.o.2.below hb).row symbolC_len (by decide) hlt;have hbw:b<wr.heap.size:=Nat.lt_of_lt_of_le hbg hb.size;have hc0:=hc 0 _ rfl;have hc1:=hc 1 _ rfl;have hc2:=hc 2 _ rfl;have hc3:=hc 3 _ rfl;simp only[Nat.add_zero]at hc0;have HM:=h_ (HL.o.2 _ (List.getElem_mem hlt));have HS:=h_ (λ(h:symAt (ps.map SV.d) ys k ys[k]=true)=>(show ∀j,(h:j<ys.length)->j<k+1->symAt (ps.map SV.d) ys j ys[j]=true from λj hj hjk=>by
      rcases Nat.lt_or_ge j k with h'|h'
      ·exact HO.o j hj h'
      ·obtain rfl:j=k:=by omega
       exact h))
     have HF:=h_ (λ(h:symAt (ps.map SV.d) ys k ys[k]=false)=>obj_sym (d:=⟨ps.map SV.d,ys⟩) hlt h);clear hok hx hb hc HO;unfold symAt at HS HF;generalize ys[k]=z at *;obtain⟨zn,zb,zw,zv⟩:=z;simp only at HM hc0 hc1 hc2 hc3 HS HF;subst hY;go_wp2_with fail
     have HSS:Hd (∀V:World,Below wr.heap.size wr V->(V.cell? ⟨w.heap.size,0,none⟩=some (.slice A ps.length c)/\V.cell? ⟨w.heap.size,1,none⟩=some (.slice (some ⟨b,off,none⟩) ys.length yc)/\V.cell? ⟨b,off+k*4,none⟩=some (.string zn)/\V.cell? ⟨b,off+k*4+1,none⟩=some (.int .i64 zb)/\V.cell? ⟨b,off+k*4+2,none⟩=some (.int .i64 zw)/\V.cell? ⟨b,off+k*4+3,none⟩=some (.int .i64 zv))):=h_ (λV hV=>⟨(hV.cell (p:=⟨w.heap.size,0,none⟩) hxl).trans x0,(hV.cell (p:=⟨w.heap.size,1,none⟩) hxl).trans x1,(hV.cell (p:=⟨b,off+k*4,none⟩) hbw).trans hc0,(hV.cell (p:=⟨b,off+k*4+1,none⟩) hbw).trans hc1,(hV.cell (p:=⟨b,off+k*4+2,none⟩) hbw).trans hc2,(hV.cell (p:=⟨b,off+k*4+3,none⟩) hbw).trans hc3⟩);clear hc0 hc1 hc2 hc3 x0 x1;refine Reg.startT (λV=>V.cell? ⟨w.heap.size,0,none⟩=some (.slice A ps.length c)/\V.cell? ⟨w.heap.size,1,none⟩=some (.slice (some ⟨b,off,none⟩) ys.length yc)/\V.cell? ⟨b,off+k*4,none⟩=some (.string zn)/\V.cell? ⟨b,off+k*4+1,none⟩=some (.int .i64 zb)/\V.cell? ⟨b,off+k*4+2,none⟩=some (.int .i64 zw)/\V.cell? ⟨b,off+k*4+3,none⟩=some (.int .i64 zv)) (λ_=>false) (by kernel_rfl) ?_;have hHeld:=HSS.o wr.drew (Below.drew (Below.refl _ _));refine t_ 0 rfl ?_;refine t_ 1 rfl ?_;refine t_ 2 rfl ?_;refine t_ 3 rfl ?_;refine t_ 4 rfl ?_;refine t_ 5 rfl ?_;refine t_ 6 rfl ?_;refine Reg.oneT (i:=7) rfl (by kernel_rfl) (λK hK=>?_);go_simp
     refine(symbolValidS_any (zn,zb,zw,zv) A ps c _ ((HR.o.1.1.below (Below.drew HBI.o)).more (Below.drew HBI.o).size) np HM.o (λp hp=>Nat.le_trans (HL.o.1 p hp).2.1 (by decide))).mono ?_;rintro e w3 ⟨rfl,b3⟩;have b3':=of_drew b3;have hHeld:=HSS.o w3 b3';refine hK.out _ _ hHeld ?_;clear hK K;try simp only[y1_,y2_,y3_,Act.put,y4_,y5_,y6_]
     have HX3:=h_ (HX.o.call b3');have HB3:=h_ (HBI.o.trans (b3'.mono HBI.o.size));clear b3 b3' HX HBI HSS;cases hs:symOk (ps.map SV.d) (zn,zb,zw,zv)
     ·have HV:=h_ (HF.o (by rw[hs];rfl));clear HF HS hs;refine t_ 8 rfl ?_;refine Reg.doneT (by kernel_rfl) ?_ _;clear hHeld;go_wp2_with fail
      go_ret;exact⟨by rw[HV.o];rfl,HB3.o⟩
     rw[hs]at HS HF;clear hs;refine t_ 8 rfl ?_;refine Reg.doneT (by kernel_rfl) ?_ _;obtain⟨_,_,z0,z1,z2,z3⟩:=hHeld;have HZ:=h_ (And.intro z0 z1);have hb3:b<w3.heap.size:=World.block_lt_of_cell? _ _ z0;clear z0 z1 z2 z3;go_wp2_with fail
     go_loopw [5] (λjj wi=>∃j:Nat,j<=k/\jj=.int .i64 j/\(!decide (zb=0)&&(ys.take j).any (hit zn))=false/\wi.cell? ⟨b,off+k*4,none⟩=some (.string zn)/\wi.cell? ⟨b,off+k*4+1,none⟩=some (.int .i64 zb)/\Box wi w.heap.size 26 #[.slice A ps.length c,.slice (some ⟨b,off,none⟩) ys.length yc]/\Below w.heap.size w wi) (λjj _=>k-(intOf jj).toNat)
     case atStart=>exact⟨0,Nat.zero_le _,rfl,by simp,HZ.o.1,HZ.o.2,HX3.o,HB3.o⟩
     case round=>
      clear HX3 HB3 HZ hb3 hxl hbw;obtain⟨j,hj,rfl,hno,z0,z1,hx,hb⟩:=hrel;have HX:=h_ hx;have HBI:=h_ hb;have x0:=d_ hx 0;have x1:=d_ hx 1;have hxl:=hx.lt;by_cases hjk:j<k
      ·have hjy:j<ys.length:=by omega
       obtain⟨b',off',hY',hbg',hc⟩:=(HR.o.2.below hb).row symbolC_len (by decide) hjy;simp only[Option.some.injEq,Addr.mk.injEq,and_true]at hY';obtain⟨rfl,rfl⟩:=hY';have hc0:=hc 0 _ rfl;have hc1:=hc 1 _ rfl;simp only[Nat.add_zero]at hc0;have HT:=h_ (show(!decide (zb=0)&&(ys.take (j+1)).any (hit zn))=(!decide (zb=0)&&hit zn ys[j])by
        rw[take_succ hjy,List.any_append];cases hzz:(!decide (zb=0))
        ·rfl
        ·rw[hzz,Bool.true_and]at hno;rw[hno];simp)
       have HA:=h_ (show(!decide (zb=0)&&hit zn ys[j])=true->(!decide (zb=0)&&(ys.take k).any (hit zn))=true from λh=>by
        rw[Bool.and_eq_true]at h ⊢;exact⟨h.1,List.any_eq_true.2 ⟨ys[j],by
         rw[List.mem_take_iff_getElem];exact⟨j,by omega,rfl⟩,h.2⟩⟩)
       clear hno hx hb hc;generalize ys[j]=x at *;obtain⟨xn,xb,xw,xv⟩:=x;simp only[hit]at hc0 hc1 HT HA;by_cases h1:xn=zn
       ·have e1:(xn.toList==zn.toList)=true:=by rw[str_eq,decide_eq_true h1]
        rw[decide_eq_true h1]at HT HA;by_cases h2:xb=0
        ·have e2:(xb != 0)=false:=by rw[h2];rfl
         rw[decide_eq_true h2]at HT HA;have HT':=h_ (show(!decide (zb=0)&&(ys.take (j+1)).any (hit zn))=false by rw[HT.o];simp);clear h1 h2 HT HA;go_wp2_with fail
         go_quiet (fail)
         go_wp2_with fail
         refine⟨⟨j+1,by omega,by go_num,HT'.o,z0,z1,HX.o.drewN _,Kit.Below.drewN HBI.o _⟩,by simp[intOf];omega⟩
        ·have e2:(xb != 0)=true:=bne_iff_ne.2 h2;rw[decide_eq_false h2]at HT HA;by_cases h3:zb=0
         ·have e3:(zb != 0)=false:=by rw[h3];rfl
          rw[decide_eq_true h3]at HT HA;have HT':=h_ (show(!decide (zb=0)&&(ys.take (j+1)).any (hit zn))=false by rw[decide_eq_true h3];rfl);clear h1 h2 h3 HT HA;go_wp2_with fail
          go_quiet (fail)
          go_wp2_with fail
          refine⟨⟨j+1,by omega,by go_num,HT'.o,z0,z1,HX.o.drewN _,Kit.Below.drewN HBI.o _⟩,by simp[intOf];omega⟩
         ·have e3:(zb != 0)=true:=bne_iff_ne.2 h3;rw[decide_eq_false h3]at HA;have HV:=h_ (HF.o (by rw[decide_eq_false h3,HA.o rfl];rfl));clear h1 h2 h3 HT HA;go_wp2_with fail
          go_quiet (fail)
          go_wp2_with fail
          go_ret;exact⟨by rw[HV.o];rfl,Kit.Below.drewN HBI.o _⟩
       ·have e1:(xn.toList==zn.toList)=false:=by rw[str_eq,decide_eq_false h1]
        rw[decide_eq_false h1]at HT HA;have HT':=h_ (show(!decide (zb=0)&&(ys.take (j+1)).any (hit zn))=false by rw[HT.o];simp);clear h1 HT HA;go_wp2_with fail
        go_quiet (fail)
        go_wp2_with fail
        refine⟨⟨j+1,by omega,by go_num,HT'.o,z0,z1,HX.o.drewN _,Kit.Below.drewN HBI.o _⟩,by simp[intOf];omega⟩
      ·have e:j=k:=by omega
       subst e;have HS':=h_ (HS.o (by rw[hno];rfl));clear HS HF hno hx hb x0 x1 z0 z1;go_wp2_with fail
       refine⟨⟨j+1,by omega,by go_num,HS'.o,HX.o,HBI.o⟩,by simp[intOf];omega⟩
    ·have HV:=h_ ((obj_sizes (d:=⟨ps.map SV.d,ys⟩) HALL.o (λj hj=>HO.o j hj (Nat.lt_of_lt_of_le hj (show ys.length<=k by omega)))).trans (show _=(decide (ps.length<=8)&&decide (ys.length<=12))by simp));clear HO hok hx hb;by_cases h1:ps.length<=8
     ·have e1:decide ((ps.length:Int)<=8)=true:=decide_eq_true (by omega);rw[decide_eq_true h1]at HV;by_cases h2:ys.length<=12
      ·have e2:decide ((ys.length:Int)<=12)=true:=decide_eq_true (by omega);rw[decide_eq_true h2]at HV;clear h1 h2;go_wp2_with fail
       go_ret;exact⟨by rw[HV.o];rfl,HBI.o⟩
      ·have e2:decide ((ys.length:Int)<=12)=false:=decide_eq_false (by omega);rw[decide_eq_false h2]at HV;clear h1 h2;go_wp2_with fail
       go_ret;exact⟨by rw[HV.o];rfl,HBI.o⟩
     ·have e1:decide ((ps.length:Int)<=8)=false:=decide_eq_false (by omega);rw[decide_eq_false h1]at HV;clear h1;go_wp2_with fail
      go_ret;exact⟨by rw[HV.o];simp,HBI.o⟩
end CObjValidS
/- The warnings for an object; plain. -/
namespace PWarn
open Kit CCode CFixups CSymbols PObj BObj PValid CUses CCovers CObjValid
def dY:YD:=(ByteArray.empty,0,0,0)
end PWarn
/- Clearing what fixups fill: plain; and the stores that do it. -/
namespace PClear
open Kit CFixups CSymbols PObj BObj CMarkRows PValid BStore CCovers PWarn
theorem fixes_all{many:Int}{n:Nat}:∀{e:Int} {fs:List FD},0<=e->fixesOk many n e fs=true->∀f∈fs,(0<=f.1/\f.1+wide f.2.1<=n/\0<wide f.2.1)/\0<=f.2.2.1/\f.2.2.1<many
 |_,[],_,_,f,hf=>by cases hf
 |e,g::fs,he,h,f,hf=>by
  simp only[fixesOk,Bool.and_eq_true]at h;have hg:=fixOk_iff.1 h.1;have hw:=wide_bd g.2.1;rcases List.mem_cons.1 hf with rfl|hf
  ·omega
  ·exact fixes_all (by omega) h.2 f hf
theorem sec_all{many:Int}{d:SD}(h:secOk many d=true):d.fs.length<=6/\d.zs.length<=48/\∀f∈d.fs,(0<=f.1/\f.1+wide f.2.1<=d.zs.length/\0<wide f.2.1)/\0<=f.2.2.1/\f.2.2.1<many:=by
 rw[secOk,Bool.and_eq_true]at h;obtain⟨_,h⟩:=h;split at h
 ·simp only[blankOk,Bool.and_eq_true,decide_eq_true_eq]at h;have:d.fs=[]:=List.eq_nil_of_length_eq_zero h.2;rw[this];refine⟨by simp,by omega,?_⟩;intro f hf;cases hf
 ·simp only[bodyOk,Bool.and_eq_true,decide_eq_true_eq]at h;exact⟨h.1.2,h.1.1.2,fixes_all (Int.le_refl 0) h.2⟩
theorem obj_all{d:OD}(h:objOk d=true):d.ss.length<=8/\d.ys.length<=12/\∀s∈d.ss,s.fs.length<=6/\s.zs.length<=48/\∀f∈s.fs,(0<=f.1/\f.1+wide f.2.1<=s.zs.length/\0<wide f.2.1)/\0<=f.2.2.1/\f.2.2.1<d.ys.length:=by simp only[objOk,Bool.and_eq_true,decide_eq_true_eq,List.all_eq_true]at h;exact⟨h.1.1.1,h.1.1.2,λs hs=>sec_all (h.1.2 s hs)⟩
theorem row_at{w:World}{B:Nat}{A:Option Addr}{l1 l2:List SV}{q:SV}(h:RdSs w B A (l1++q::l2)):
  ∃b off,A=some ⟨b,off,none⟩/\b<B/\∀j u,(secC q)[j]?=some u->w.cell? ⟨b,off+l1.length*6+j,none⟩=some u:=by
 obtain⟨b,off,hA,hb,hc⟩:=h.1.row secC_len (by decide) (show l1.length<(l1++q::l2).length by simp);refine⟨b,off,hA,hb,λj u hu=>hc j u ?_⟩;rw[List.getElem_append_right (Nat.le_refl _)];simpa using hu
end PClear
/- The lines of an object,and what the two readers read out of lines: plain. -/
namespace PDump
open Kit CCode CName CNumTxt CFixups CSymbols PObj PValid PClear PNum
def secW:List UInt8:=[115,101,99,116,105,111,110]
def fixW:List UInt8:=[102,105,120,117,112]
def symW:List UInt8:=[115,121,109,98,111,108]
def hexD:List UInt8:=[48,49,50,51,52,53,54,55,56,57,97,98,99,100,101,102]
def hexC(n:Nat):UInt8:=hexD.getD n 0
def hex2(z:Int):List UInt8:=[hexC (z.toNat/16),hexC (z.toNat%16)]
def hexL(zs:List Int):List UInt8:=zs.flatMap hex2
def hexV(c:UInt8):Int:=match hexD.idxOf? c with
 |some i=>i
 |none=>-1
theorem hexV_hexC(n:Nat)(h:n<16):hexV (hexC n)=n:=by
 have key:∀i:Fin 16,hexV (hexC i.1)=i.1:=by decide+kernel
 exact key ⟨n,h⟩
theorem hexV_bd(c:UInt8):-1<=hexV c/\hexV c<=15:=by
 have key:∀i:Fin 256,-1<=hexV (UInt8.ofNat i.1)/\hexV (UInt8.ofNat i.1)<=15:=by decide+kernel
 have:=key ⟨c.toNat,UInt8.toNat_lt c⟩
 rwa[UInt8.ofNat_toNat]at this
def unhex:List UInt8->Option (List Int)
 |[]=>some []
 |[_]=>none
 |a::b::r=>if hexV a<0\/hexV b<0 then none else(unhex r).map λzs=>(16*hexV a+hexV b)::zs
theorem unhex_hex:∀{zs:List Int},InR 0 255 zs->unhex (hexL zs)=some zs
 |[],_=>rfl
 |z::zs,h=>by
  have hz:=h z (by simp);have ih:=unhex_hex (zs:=zs) (λx hx=>h x (by simp[hx]));show unhex (hexC (z.toNat/16)::hexC (z.toNat%16)::hexL zs)=_
  rw[unhex,ih,hexV_hexC _ (by omega),hexV_hexC _ (by omega),if_neg (by omega)];simp only[Option.map_some,Option.some.injEq,List.cons.injEq,and_true];omega
theorem unhex_in:∀{l:List UInt8} {zs:List Int},unhex l=some zs->InR 0 255 zs
 |[],zs,h=>by
  injection h with h;subst h;intro x hx;cases hx
 |[_],_,h=>by cases h
 |a::b::r,zs,h=>by
  rw[unhex]at h;split at h
  ·cases h
  ·rename_i hn;cases hr:unhex r with
   |none=>rw[hr]at h;cases h
   |some ys=>
    rw[hr]at h;simp only[Option.map_some,Option.some.injEq]at h;subst h;have ha:=hexV_bd a;have hb:=hexV_bd b;intro x hx;rcases List.mem_cons.1 hx with rfl|hx
    ·omega
    ·exact unhex_in hr x hx
theorem unhex_len:∀{l:List UInt8} {zs:List Int},unhex l=some zs->2*zs.length=l.length
 |[],zs,h=>by
  injection h with h;subst h
  rfl
 |[_],_,h=>by cases h
 |a::b::r,zs,h=>by
  rw[unhex]at h;split at h
  ·cases h
  ·cases hr:unhex r with
   |none=>rw[hr]at h;cases h
   |some ys=>rw[hr]at h;simp only[Option.map_some,Option.some.injEq]at h;subst h;have:=unhex_len hr;simp only[List.length_cons];omega
theorem hexC_no(c:UInt8)(hc:c=32\/c=124)(n:Nat):hexC n≠c:=by
 unfold hexC;rcases Nat.lt_or_ge n 16 with h|h
 ·have key:∀i:Fin 16,hexD.getD i.1 0≠32/\hexD.getD i.1 0≠124:=by decide
  rcases hc with rfl|rfl
  ·exact(key ⟨n,h⟩).1
  ·exact(key ⟨n,h⟩).2
 ·rw[List.getD_eq_getElem?_getD,List.getElem?_eq_none (by simpa[hexD]using h)];rcases hc with rfl|rfl<;>decide
theorem hexL_no(c:UInt8)(hc:c=32\/c=124)(zs:List Int):c∉hexL zs:=by
 intro h;simp only[hexL,List.mem_flatMap,hex2,List.mem_cons,List.not_mem_nil,or_false]at h;obtain⟨z,_,h|h⟩:=h
 ·exact hexC_no c hc _ h.symm
 ·exact hexC_no c hc _ h.symm
theorem hexL_len(zs:List Int):(hexL zs).length=2*zs.length:=by
 induction zs with
 |nil=>rfl
 |cons z zs ih=>
  show(hex2 z++hexL zs).length=_
  rw[List.length_append,ih];simp only[hex2,List.length_cons,List.length_nil];omega
theorem hexL_snoc(zs:List Int)(z:Int):hexL (zs++[z])=hexL zs++hex2 z:=by simp[hexL]
def nmL(s:ByteArray):List UInt8:=s.data.toList
def wordsS(s:SD):List (List UInt8):=[secW,nmL s.nm,Lib.itoa s.kd,Lib.itoa s.al,Lib.itoa (secSize s)]++(if s.zs.length=0 then[]else[hexL s.zs])
def wordsF(f:FD):List (List UInt8):=[fixW,Lib.itoa f.1,Lib.itoa f.2.1,Lib.itoa f.2.2.1,Lib.itoa f.2.2.2]
def wordsY(y:YD):List (List UInt8):=[symW,nmL y.1,Lib.itoa y.2.1,Lib.itoa y.2.2.1,Lib.itoa y.2.2.2]
def lineS(s:SD):List UInt8:=joinC 32 (wordsS s)
def lineF(f:FD):List UInt8:=joinC 32 (wordsF f)
def lineY(y:YD):List UInt8:=joinC 32 (wordsY y)
def linesS(s:SD):List (List UInt8):=lineS s::s.fs.map lineF
def linesSs(ss:List SD):List (List UInt8):=ss.flatMap linesS
def linesO(d:OD):List (List UInt8):=linesSs d.ss++d.ys.map lineY
def dumpL(d:OD):List (List UInt8):=bif objOk d then linesO d else[]
def bs(l:List UInt8):ByteArray:=⟨l.toArray⟩
theorem bs_nm(s:ByteArray):bs (nmL s)=s:=rfl
theorem nm_bs(l:List UInt8):nmL (bs l)=l:=by simp[nmL,bs]
theorem name_byte{s:ByteArray}(h:nameOk s=true):∀c∈nmL s,c.toNat=46\/c.toNat=95\/(48<=c.toNat/\c.toNat<=57)\/(97<=c.toNat/\c.toNat<=122):=by
 intro c hc;rw[nameOk,Bool.and_eq_true,allOk,List.all_eq_true]at h;obtain⟨k,hk,rfl⟩:=List.getElem_of_mem hc;have hs:k<s.size:=by
  have:(nmL s).length=s.size:=by rw[nmL,Array.length_toList];rfl
  omega
 have:=h.1 k (List.mem_range.2 hs);rw[show s.data.toList.getD k 0=(nmL s)[k]from by rw[List.getD_eq_getElem?_getD,show s.data.toList=nmL s from rfl,List.getElem?_eq_getElem hk];rfl]at this;simp only[chOk,Bool.or_eq_true,Bool.and_eq_true,decide_eq_true_eq]at this;omega
theorem name_no{s:ByteArray}(h:nameOk s=true){c:UInt8}(hc:c=32\/c=124):c∉nmL s:=λhm=>by
 have:=name_byte h c hm;have h32:(32:UInt8).toNat=32:=rfl;have h124:(124:UInt8).toNat=124:=rfl;rcases hc with rfl|rfl<;>omega
theorem itoa_free{c:UInt8}(hc:c=32\/c=124)(b:Int):c∉Lib.itoa b:=by
 have h32:(32:UInt8).toNat=32:=rfl;have h124:(124:UInt8).toNat=124:=rfl;rcases hc with rfl|rfl
 ·exact itoa_no (.inl (by omega)) b
 ·exact itoa_no (.inr (by omega)) b
theorem wordsS_no{s:SD}(h:nameOk s.nm=true){c:UInt8}(hc:c=32\/c=124):∀w∈wordsS s,c∉w:=by
 intro w hw;simp only[wordsS,List.mem_append,List.mem_cons,List.not_mem_nil,or_false]at hw;rcases hw with(rfl|rfl|rfl|rfl|rfl)|hw
 ·rcases hc with rfl|rfl<;>decide
 ·exact name_no h hc
 ·exact itoa_free hc _
 ·exact itoa_free hc _
 ·exact itoa_free hc _
 ·split at hw
  ·cases hw
  ·simp only[List.mem_singleton]at hw;subst hw;exact hexL_no c hc _
theorem wordsF_no(f:FD){c:UInt8}(hc:c=32\/c=124):∀w∈wordsF f,c∉w:=by
 intro w hw;simp only[wordsF,List.mem_cons,List.not_mem_nil,or_false]at hw;rcases hw with rfl|rfl|rfl|rfl|rfl
 ·rcases hc with rfl|rfl<;>decide
 all_goals exact itoa_free hc _
theorem wordsY_no{y:YD}(h:nameOk y.1=true){c:UInt8}(hc:c=32\/c=124):∀w∈wordsY y,c∉w:=by
 intro w hw;simp only[wordsY,List.mem_cons,List.not_mem_nil,or_false]at hw;rcases hw with rfl|rfl|rfl|rfl|rfl
 ·rcases hc with rfl|rfl<;>decide
 ·exact name_no h hc
 all_goals exact itoa_free hc _
theorem splt_S{s:SD}(h:nameOk s.nm=true):splt 32 (lineS s)=wordsS s:=splt_join 32 _ (by simp[wordsS]) (wordsS_no h (.inl rfl))
theorem splt_F(f:FD):splt 32 (lineF f)=wordsF f:=splt_join 32 _ (by simp[wordsF]) (wordsF_no f (.inl rfl))
theorem splt_Y{y:YD}(h:nameOk y.1=true):splt 32 (lineY y)=wordsY y:=splt_join 32 _ (by simp[wordsY]) (wordsY_no h (.inl rfl))
def nums:List (List UInt8)->Option (List Int)
 |[]=>some []
 |w::ws=>match Lib.atoiAll w with
  | .ok v=>(nums ws).map (v:: ·)
  |_=>none
def addS(d:OD)(s:SD):OD:=⟨d.ss++[s],d.ys⟩
def addY(d:OD)(y:YD):OD:=⟨d.ss,d.ys++[y]⟩
def addF(d:OD)(f:FD):Option OD:=match d.ss.getLast? with
 |some s=>some ⟨d.ss.dropLast++[{s with fs:=s.fs++[f]}],d.ys⟩
 |none=>none
def blankSz(k n:Int):Int:=if k=3 then n else 0
def mkSI(nm:List UInt8)(ns:List Int)(zs:List Int):SD:=⟨bs nm,ns.getD 0 0,ns.getD 1 0,zs,blankSz (ns.getD 0 0) (ns.getD 2 0),[]⟩
def mkY(nm:List UInt8)(ns:List Int):YD:=(bs nm,ns.getD 0 0,ns.getD 1 0,ns.getD 2 0)
def mkF(ns:List Int):FD:=(ns.getD 0 0,ns.getD 1 0,ns.getD 2 0,ns.getD 3 0)
def takeHex(ws:List (List UInt8)):List (List UInt8)×List UInt8:=if ws.getD 0 []=secW/\ws.length=6 then(ws.take 5,ws.getD 5 [])else(ws,[])
def many(w:List UInt8):Nat:=if w=secW\/w=fixW\/w=symW then 5 else 0
def wordI(d:OD)(ws:List (List UInt8))(hx:List UInt8):Option OD:=
 if ws.length≠many (ws.getD 0 [])then none
 else if ws.getD 0 []=fixW then(nums (ws.drop 1)).bind λns=>addF d (mkF ns)
 else(nums (ws.drop 2)).bind λns=>if ws.getD 0 []=secW then(unhex hx).map λzs=>addS d (mkSI (ws.getD 1 []) ns zs)else some (addY d (mkY (ws.getD 1 []) ns))
def stepI(d:OD)(l:List UInt8):Option OD:=wordI d (takeHex (splt 32 l)).1 (takeHex (splt 32 l)).2
def stepsI:OD->List (List UInt8)->Option OD
 |d,[]=>some d
 |d,l::ls=>(stepI d l).bind λd'=>stepsI d' ls
/-! ### The reference's reading -/
def hexS(ws:List (List UInt8)):List Int:=if ws.length=6 then(unhex (ws.getD 5 [])).getD []else[]
def mkSS(ws:List (List UInt8)):SD:=⟨bs (ws.getD 1 []),rdN (ws.getD 2 []),rdN (ws.getD 3 []),hexS ws,blankSz (rdN (ws.getD 2 [])) (rdN (ws.getD 4 [])),[]⟩
def mkYS(ws:List (List UInt8)):YD:=(bs (ws.getD 1 []),rdN (ws.getD 2 []),rdN (ws.getD 3 []),rdN (ws.getD 4 []))
def mkFS(ws:List (List UInt8)):FD:=(rdN (ws.getD 1 []),rdN (ws.getD 2 []),rdN (ws.getD 3 []),rdN (ws.getD 4 []))
def wordS(d:OD)(ws:List (List UInt8)):Option OD:=
 if ws.getD 0 []=secW/\5<=ws.length/\ws.length<=6 then some (addS d (mkSS ws))
 else if ws.getD 0 []=fixW/\ws.length=5/\0<d.ss.length then addF d (mkFS ws)
 else if ws.getD 0 []=symW/\ws.length=5 then some (addY d (mkYS ws))
 else none
def stepS(d:OD)(l:List UInt8):Option OD:=wordS d (splt 32 l)
def stepsS:OD->List (List UInt8)->Option OD
 |d,[]=>some d
 |d,l::ls=>(stepS d l).bind λd'=>stepsS d' ls
def fin(o:Option OD)(ls:List (List UInt8)):Option OD:=match o with
 |some d=>if objOk d=true/\dumpL d=ls then some d else none
 |none=>none
def readI(ls:List (List UInt8)):Option OD:=fin (stepsI ⟨[],[]⟩ ls) ls
def readS(ls:List (List UInt8)):Option OD:=fin (stepsS ⟨[],[]⟩ ls) ls
theorem stepsI_app(d:OD)(a b:List (List UInt8)):stepsI d (a++b)=(stepsI d a).bind λd'=>stepsI d' b:=by
 induction a generalizing d with
 |nil=>rfl
 |cons l a ih=>
  rw[List.cons_append,stepsI,stepsI];cases stepI d l with
  |none=>rfl
  |some d'=>exact ih d'
theorem stepsS_app(d:OD)(a b:List (List UInt8)):stepsS d (a++b)=(stepsS d a).bind λd'=>stepsS d' b:=by
 induction a generalizing d with
 |nil=>rfl
 |cons l a ih=>
  rw[List.cons_append,stepsS,stepsS];cases stepS d l with
  |none=>rfl
  |some d'=>exact ih d'
theorem addF_last(ss:List SD)(s:SD)(ys:List YD)(f:FD):addF ⟨ss++[s],ys⟩ f=some ⟨ss++[{s with fs:=s.fs++[f]}],ys⟩:=by simp[addF]
def Num(n:Int):Prop:=-99999<=n/\n<=99999
theorem nums_itoa:∀(ns:List Int),(∀n∈ns,Num n)->nums (ns.map Lib.itoa)=some ns
 |[],_=>rfl
 |n::ns,h=>by
  have hn:=h n (by simp);unfold Num at hn;rw[List.map_cons,nums,atoi_itoa (by omega) (by omega),nums_itoa ns (λx hx=>h x (by simp[hx]))]
  rfl
structure GoodS(s:SD):Prop where
 nm:nameOk s.nm=true
 kd:Num s.kd
 al:Num s.al
 size:Num (secSize s)
 zs:InR 0 255 s.zs
 sz:blankSz s.kd (secSize s)=s.sz
def GoodF(f:FD):Prop:=Num f.1/\Num f.2.1/\Num f.2.2.1/\Num f.2.2.2
def GoodY(y:YD):Prop:=nameOk y.1=true/\Num y.2.1/\Num y.2.2.1/\Num y.2.2.2
theorem step_S{s:SD}(h:GoodS s)(d:OD):stepI d (lineS s)=some (addS d {s with fs:=[]})/\stepS d (lineS s)=some (addS d {s with fs:=[]}):=by
 have hn:=nums_itoa [s.kd,s.al,secSize s] (by
  intro n hn;simp only[List.mem_cons,List.not_mem_nil,or_false]at hn;rcases hn with rfl|rfl|rfl
  ·exact h.kd
  ·exact h.al
  ·exact h.size)
 have hz:=unhex_hex h.zs;have e2:rdN (Lib.itoa s.kd)=s.kd:=rdN_itoa h.kd.1 h.kd.2;have e3:rdN (Lib.itoa s.al)=s.al:=rdN_itoa h.al.1 h.al.2;have e4:rdN (Lib.itoa (secSize s))=secSize s:=rdN_itoa h.size.1 h.size.2;have hsz:=h.sz;unfold stepI stepS;rw[splt_S h.nm];by_cases h0:s.zs.length=0
 ·have h00:s.zs=[]:=List.eq_nil_of_length_eq_zero h0;have hw:wordsS s=[secW,nmL s.nm,Lib.itoa s.kd,Lib.itoa s.al,Lib.itoa (secSize s)]:=by simp[wordsS,h0]
  rw[hw];refine⟨?_,?_⟩
  ·have ht:takeHex [secW,nmL s.nm,Lib.itoa s.kd,Lib.itoa s.al,Lib.itoa (secSize s)]=([secW,nmL s.nm,Lib.itoa s.kd,Lib.itoa s.al,Lib.itoa (secSize s)],[]):=if_neg (λh=>by simp at h);rw[ht];unfold wordI;rw[if_neg (by simp[many]),if_neg (by simp[secW,fixW])];show(nums (List.map Lib.itoa [s.kd,s.al,secSize s])).bind _=_
   rw[hn];simp only[Option.bind_some,List.getD_cons_zero,if_pos];rw[unhex];simp only[Option.map_some,Option.some.injEq,List.getD_cons_succ,List.getD_cons_zero,mkSI,bs_nm,hsz,<-h00]
  ·unfold wordS;rw[if_pos (by simp)];simp only[Option.some.injEq,mkSS,List.getD_cons_succ,List.getD_cons_zero,bs_nm,e2,e3,e4,hsz];rw[show hexS [secW,nmL s.nm,Lib.itoa s.kd,Lib.itoa s.al,Lib.itoa (secSize s)]=s.zs from by rw[h00];exact if_neg (by simp)]
 ·have hw:wordsS s=[secW,nmL s.nm,Lib.itoa s.kd,Lib.itoa s.al,Lib.itoa (secSize s),hexL s.zs]:=by simp[wordsS,h0]
  rw[hw];refine⟨?_,?_⟩
  ·have ht:takeHex [secW,nmL s.nm,Lib.itoa s.kd,Lib.itoa s.al,Lib.itoa (secSize s),hexL s.zs]=([secW,nmL s.nm,Lib.itoa s.kd,Lib.itoa s.al,Lib.itoa (secSize s)],hexL s.zs):=if_pos (by simp);rw[ht];unfold wordI;rw[if_neg (by simp[many]),if_neg (by simp[secW,fixW])];show(nums (List.map Lib.itoa [s.kd,s.al,secSize s])).bind _=_
   rw[hn];simp only[Option.bind_some,List.getD_cons_zero,if_pos];rw[hz];simp only[Option.map_some,Option.some.injEq,List.getD_cons_succ,List.getD_cons_zero,mkSI,bs_nm,hsz]
  ·unfold wordS;rw[if_pos (by simp)];simp only[Option.some.injEq,mkSS,List.getD_cons_succ,List.getD_cons_zero,bs_nm,e2,e3,e4,hsz];rw[show hexS [secW,nmL s.nm,Lib.itoa s.kd,Lib.itoa s.al,Lib.itoa (secSize s),hexL s.zs]=s.zs from by
    unfold hexS;rw[if_pos (by simp)];simp only[List.getD_cons_succ,List.getD_cons_zero,hz,Option.getD_some]]
theorem step_F{f:FD}(h:GoodF f)(ss:List SD)(s:SD)(ys:List YD):
  stepI ⟨ss++[s],ys⟩ (lineF f)=some ⟨ss++[{s with fs:=s.fs++[f]}],ys⟩/\stepS ⟨ss++[s],ys⟩ (lineF f)=some ⟨ss++[{s with fs:=s.fs++[f]}],ys⟩:=by
 obtain⟨h1,h2,h3,h4⟩:=h;have hn:=nums_itoa [f.1,f.2.1,f.2.2.1,f.2.2.2] (by
  intro n hn;simp only[List.mem_cons,List.not_mem_nil,or_false]at hn;rcases hn with rfl|rfl|rfl|rfl
  ·exact h1
  ·exact h2
  ·exact h3
  ·exact h4)
 unfold stepI stepS;rw[splt_F f];refine⟨?_,?_⟩
 ·have ht:takeHex (wordsF f)=(wordsF f,[]):=if_neg (λh=>by simp[wordsF]at h);rw[ht];unfold wordI;rw[if_neg (by simp[many,wordsF]),if_pos (by simp[wordsF])];show(nums (List.map Lib.itoa [f.1,f.2.1,f.2.2.1,f.2.2.2])).bind _=_
  rw[hn,Option.bind_some,addF_last]
  rfl
 ·unfold wordS;rw[if_neg (by simp[wordsF,secW,fixW]),if_pos (by simp[wordsF]),addF_last];have e:mkFS (wordsF f)=f:=by simp only[mkFS,wordsF,List.getD_cons_succ,List.getD_cons_zero,rdN_itoa h1.1 h1.2,rdN_itoa h2.1 h2.2,rdN_itoa h3.1 h3.2,rdN_itoa h4.1 h4.2]
  rw[e]
theorem step_Y{y:YD}(h:GoodY y)(d:OD):stepI d (lineY y)=some (addY d y)/\stepS d (lineY y)=some (addY d y):=by
 obtain⟨hnm,h2,h3,h4⟩:=h;have hn:=nums_itoa [y.2.1,y.2.2.1,y.2.2.2] (by
  intro n hn;simp only[List.mem_cons,List.not_mem_nil,or_false]at hn;rcases hn with rfl|rfl|rfl
  ·exact h2
  ·exact h3
  ·exact h4)
 unfold stepI stepS;rw[splt_Y hnm];refine⟨?_,?_⟩
 ·have ht:takeHex (wordsY y)=(wordsY y,[]):=if_neg (λh=>by simp[wordsY]at h);rw[ht];unfold wordI;rw[if_neg (by simp[many,wordsY]),if_neg (by simp[wordsY,symW,fixW])];show(nums (List.map Lib.itoa [y.2.1,y.2.2.1,y.2.2.2])).bind _=_
  rw[hn,Option.bind_some,if_neg (by simp[wordsY,symW,secW])]
  rfl
 ·unfold wordS;rw[if_neg (by simp[wordsY,symW,secW]),if_neg (by simp[wordsY,symW,fixW]),if_pos (by simp[wordsY])];have e:mkYS (wordsY y)=y:=by simp only[mkYS,wordsY,List.getD_cons_succ,List.getD_cons_zero,bs_nm,rdN_itoa h2.1 h2.2,rdN_itoa h3.1 h3.2,rdN_itoa h4.1 h4.2]
  rw[e]
theorem steps_Fs:∀(fs:List FD),(∀f∈fs,GoodF f)->∀(ss:List SD) (s:SD) (ys:List YD),
  stepsI ⟨ss++[s],ys⟩ (fs.map lineF)=some ⟨ss++[{s with fs:=s.fs++fs}],ys⟩/\stepsS ⟨ss++[s],ys⟩ (fs.map lineF)=some ⟨ss++[{s with fs:=s.fs++fs}],ys⟩
 |[],_,ss,s,ys=>by simp[stepsI,stepsS]
 |f::fs,h,ss,s,ys=>by obtain⟨h1,h2⟩:=step_F (h f (by simp)) ss s ys;obtain⟨h3,h4⟩:=steps_Fs fs (λx hx=>h x (by simp[hx])) ss {s with fs:=s.fs++[f]} ys;rw[List.map_cons,stepsI,stepsS,h1,h2,Option.bind_some,Option.bind_some,h3,h4];simp
def Good(d:OD):Prop:=(∀s∈d.ss,GoodS s/\∀f∈s.fs,GoodF f)/\∀y∈d.ys,GoodY y
theorem steps_Ss:∀(ss:List SD),(∀s∈ss,GoodS s/\∀f∈s.fs,GoodF f)->∀(d:OD),stepsI d (linesSs ss)=some ⟨d.ss++ss,d.ys⟩/\stepsS d (linesSs ss)=some ⟨d.ss++ss,d.ys⟩
 |[],_,d=>by simp[linesSs,stepsI,stepsS]
 |s::ss,h,d=>by
  obtain⟨hs,hf⟩:=h s (by simp);obtain⟨h1,h2⟩:=step_S hs d;obtain⟨h3,h4⟩:=steps_Fs s.fs hf d.ss {s with fs:=[]} d.ys;obtain⟨h5,h6⟩:=steps_Ss ss (λx hx=>h x (by simp[hx])) ⟨d.ss++[s],d.ys⟩;have e:linesSs (s::ss)=lineS s::(s.fs.map lineF++linesSs ss):=by simp[linesSs,linesS]
  rw[e,stepsI,stepsS,h1,h2,Option.bind_some,Option.bind_some,stepsI_app,stepsS_app];rw[show addS d {s with fs:=[]}=⟨d.ss++[{s with fs:=[]}],d.ys⟩from rfl,h3,h4];simp only[Option.bind_some,List.nil_append];rw[h5,h6];simp
theorem steps_Ys:∀(ys:List YD),(∀y∈ys,GoodY y)->∀(d:OD),stepsI d (ys.map lineY)=some ⟨d.ss,d.ys++ys⟩/\stepsS d (ys.map lineY)=some ⟨d.ss,d.ys++ys⟩
 |[],_,d=>by simp[stepsI,stepsS]
 |y::ys,h,d=>by obtain⟨h1,h2⟩:=step_Y (h y (by simp)) d;obtain⟨h3,h4⟩:=steps_Ys ys (λx hx=>h x (by simp[hx])) (addY d y);rw[List.map_cons,stepsI,stepsS,h1,h2,Option.bind_some,Option.bind_some,h3,h4];simp[addY]
theorem steps_O{d:OD}(h:Good d):stepsI ⟨[],[]⟩ (linesO d)=some d/\stepsS ⟨[],[]⟩ (linesO d)=some d:=by obtain⟨h1,h2⟩:=steps_Ss d.ss h.1 ⟨[],[]⟩;obtain⟨h3,h4⟩:=steps_Ys d.ys h.2 ⟨d.ss,[]⟩;unfold linesO;rw[stepsI_app,stepsS_app,h1,h2];simp only[Option.bind_some,List.nil_append]at h3 h4 ⊢;exact⟨h3,h4⟩
theorem good_S{n:Int}{s:SD}(h:secOk n s=true)(hz:InR 0 255 s.zs):GoodS s:=by
 rw[secOk,Bool.and_eq_true]at h;obtain⟨h1,h2⟩:=h;simp only[headOk,Bool.and_eq_true,inB,decide_eq_true_eq]at h1;obtain⟨⟨hn,hk⟩,ha⟩:=h1;have ha':Num s.al:=by simp only[alignOk,Bool.or_eq_true,decide_eq_true_eq]at ha;unfold Num;omega
 by_cases hk3:s.kd=3
 ·rw[if_pos hk3]at h2;simp only[blankOk,Bool.and_eq_true,inB,decide_eq_true_eq]at h2;have hs:secSize s=s.sz:=if_pos hk3;exact⟨hn,by unfold Num;omega,ha',by rw[hs];unfold Num;omega,hz,by rw[hs,blankSz,if_pos hk3]⟩
 ·rw[if_neg hk3]at h2;simp only[bodyOk,Bool.and_eq_true,decide_eq_true_eq]at h2;have hs:secSize s=s.zs.length:=if_neg hk3;exact⟨hn,by unfold Num;omega,ha',by rw[hs];unfold Num;omega,hz,by rw[blankSz,if_neg hk3];omega⟩
theorem good_F{f:FD}{n m:Nat}(h:(0<=f.1/\f.1+wide f.2.1<=n/\0<wide f.2.1)/\0<=f.2.2.1/\f.2.2.1<m)(ha:-1000<=f.2.2.2/\f.2.2.2<=1000)(hn:n<=48)(hm:m<=12):GoodF f:=by
 have hk:f.2.1=1\/f.2.1=2\/f.2.1=3:=by
  have h3:=h.1.2.2;unfold wide at h3;split at h3
  ·omega
  ·split at h3
   ·omega
   ·split at h3<;>omega
 unfold GoodF Num;omega
theorem fixes_add{many:Int}{n:Nat}:∀{e:Int} {fs:List FD},fixesOk many n e fs=true->∀f∈fs,-1000<=f.2.2.2/\f.2.2.2<=1000
 |_,[],_,f,hf=>by cases hf
 |e,g::fs,h,f,hf=>by
  simp only[fixesOk,Bool.and_eq_true]at h;have hg:=fixOk_iff.1 h.1;rcases List.mem_cons.1 hf with rfl|hf
  ·exact hg.2.2.2.1
  ·exact fixes_add h.2 f hf
theorem sec_add{n:Int}{s:SD}(h:secOk n s=true):∀f∈s.fs,-1000<=f.2.2.2/\f.2.2.2<=1000:=by
 rw[secOk,Bool.and_eq_true]at h;have h2:=h.2;split at h2
 ·simp only[blankOk,Bool.and_eq_true,decide_eq_true_eq]at h2;rw[List.eq_nil_of_length_eq_zero h2.2];intro f hf;cases hf
 ·simp only[bodyOk,Bool.and_eq_true]at h2;exact fixes_add h2.2
theorem good_Y{ss:List SD}{y:YD}(h:symOk ss y=true)(hs:ss.length<=8)(hz:∀s∈ss,secSize s<=48):GoodY y:=by
 rw[symOk,Bool.and_eq_true]at h;obtain⟨h1,h2⟩:=h;simp only[bindOk,Bool.and_eq_true,inB,decide_eq_true_eq]at h1;refine⟨h1.1,by unfold Num;omega,?_⟩;unfold placeOk at h2;split at h2
 ·simp only[Bool.and_eq_true,decide_eq_true_eq]at h2;unfold Num;omega
 ·split at h2
  ·simp only[inB,decide_eq_true_eq]at h2;unfold Num;omega
  ·simp only[inB,Bool.and_eq_true,decide_eq_true_eq]at h2;have hb:secSize (ss.getD y.2.2.1.toNat ⟨ByteArray.empty,0,0,[],0,[]⟩)<=48:=by
    rw[List.getD_eq_getElem?_getD];cases hq:ss[y.2.2.1.toNat]? with
    |none=>decide
    |some x=>exact hz x (List.mem_of_getElem? hq)
   unfold Num;omega
def InD(d:OD):Prop:=∀s∈d.ss,InR 0 255 s.zs
theorem sec_size{n:Int}{s:SD}(h:secOk n s=true):secSize s<=48:=by
 rw[secOk,Bool.and_eq_true]at h;have h2:=h.2;by_cases hk3:s.kd=3
 ·rw[if_pos hk3]at h2;simp only[blankOk,Bool.and_eq_true,inB,decide_eq_true_eq]at h2;rw[secSize,if_pos hk3];omega
 ·rw[if_neg hk3]at h2;simp only[bodyOk,Bool.and_eq_true,decide_eq_true_eq]at h2;rw[secSize,if_neg hk3];omega
theorem good_O{d:OD}(h:objOk d=true)(hz:InD d):Good d:=by
 have h0:=obj_all h;simp only[objOk,Bool.and_eq_true,decide_eq_true_eq,List.all_eq_true]at h;obtain⟨⟨⟨hs,hy⟩,h3⟩,h4⟩:=h;refine⟨λs hm=>⟨good_S (h3 s hm) (hz s hm),λf hf=>?_⟩,λy hm=>?_⟩
 ·obtain⟨_,h6,h7⟩:=h0.2.2 s hm;exact good_F (h7 f hf) (sec_add (h3 s hm) f hf) h6 hy
 ·simp only[symsOk,List.all_eq_true,Bool.and_eq_true]at h4;obtain⟨k,hk,rfl⟩:=List.getElem_of_mem hm;have h5:=(h4 k (List.mem_range.2 hk)).1;rw[List.getD_eq_getElem?_getD,List.getElem?_eq_getElem hk]at h5;exact good_Y h5 hs (λs hm=>sec_size (h3 s hm))
/-! ### What is read has bytes -/
theorem inD_add{d:OD}{s:SD}(h:InD d)(hs:InR 0 255 s.zs):InD (addS d s):=by
 intro x hx;rcases List.mem_append.1 hx with hx|hx
 ·exact h x hx
 ·rw[List.mem_singleton.1 hx];exact hs
theorem inD_addF{d d':OD}{f:FD}(h:InD d)(e:addF d f=some d'):InD d':=by
 unfold addF at e;cases hl:d.ss.getLast? with
 |none=>rw[hl]at e;cases e
 |some s=>
  rw[hl]at e;simp only[Option.some.injEq]at e;subst e;intro x hx;rcases List.mem_append.1 hx with hx|hx
  ·exact h x (List.dropLast_subset _ hx)
  ·rw[List.mem_singleton.1 hx];exact h s (List.mem_of_getLast? hl)
theorem inD_stepI{d d':OD}{l:List UInt8}(h:InD d)(e:stepI d l=some d'):InD d':=by
 unfold stepI wordI at e;split at e
 ·cases e
 ·split at e
  ·obtain⟨ns,_,e⟩:=Option.bind_eq_some_iff.1 e;exact inD_addF h e
  ·obtain⟨ns,_,e⟩:=Option.bind_eq_some_iff.1 e;split at e
   ·obtain⟨zs,hz,e⟩:=Option.map_eq_some_iff.1 e;subst e;exact inD_add h (unhex_in hz)
   ·injection e with e;subst e;exact h
theorem inD_stepS{d d':OD}{l:List UInt8}(h:InD d)(e:stepS d l=some d'):InD d':=by
 unfold stepS wordS at e;split at e
 ·injection e with e;subst e;refine inD_add h ?_;show InR 0 255 (hexS _)
  unfold hexS;split
  ·cases hq:unhex ((splt 32 l).getD 5 [])with
   |none=>intro x hx;cases hx
   |some zs=>exact unhex_in hq
  ·intro x hx;cases hx
 ·split at e
  ·exact inD_addF h e
  ·split at e
   ·injection e with e;subst e;exact h
   ·cases e
theorem inD_stepsI:∀{ls:List (List UInt8)} {d d':OD},InD d->stepsI d ls=some d'->InD d'
 |[],d,d',h,e=>by injection e with e;subst e;exact h
 |l::ls,d,d',h,e=>by obtain⟨x,hx,e⟩:=Option.bind_eq_some_iff.1 e;exact inD_stepsI (inD_stepI h hx) e
theorem inD_stepsS:∀{ls:List (List UInt8)} {d d':OD},InD d->stepsS d ls=some d'->InD d'
 |[],d,d',h,e=>by injection e with e;subst e;exact h
 |l::ls,d,d',h,e=>by obtain⟨x,hx,e⟩:=Option.bind_eq_some_iff.1 e;exact inD_stepsS (inD_stepS h hx) e
theorem inD_nil:InD ⟨[],[]⟩:=λs hs=>by cases hs
theorem fin_some{o:Option OD}{ls:List (List UInt8)}{d:OD}(h:fin o ls=some d):o=some d/\objOk d=true/\dumpL d=ls:=by
 unfold fin at h;cases o with
 |none=>cases h
 |some x=>
  simp only at h;split at h
  ·rename_i hc;injection h with h;subst h;exact⟨rfl,hc.1,hc.2⟩
  ·cases h
theorem dump_ok{d:OD}(h:objOk d=true):dumpL d=linesO d:=by
 rw[dumpL,h]
 rfl
theorem read_dump{d:OD}(h:objOk d=true)(hz:InD d):readI (dumpL d)=some d/\readS (dumpL d)=some d:=by obtain⟨h1,h2⟩:=steps_O (good_O h hz);unfold readI readS;rw[dump_ok h,h1,h2];unfold fin;simp only;rw[if_pos ⟨h,dump_ok h⟩];exact⟨rfl,rfl⟩
theorem readI_some{ls:List (List UInt8)}{d:OD}(h:readI ls=some d):objOk d=true/\dumpL d=ls/\InD d:=by obtain⟨h1,h2,h3⟩:=fin_some h;exact⟨h2,h3,inD_stepsI inD_nil h1⟩
theorem read_same(ls:List (List UInt8)):readI ls=readS ls:=by
 cases hI:readI ls with
 |some d=>obtain⟨h2,h3,h4⟩:=readI_some hI;rw[<-h3,(read_dump h2 h4).2]
 |none=>
  cases hS:readS ls with
  |none=>rfl
  |some d=>
   obtain⟨h1,h2,h3⟩:=fin_some hS;have h4:=inD_stepsS inD_nil h1;rw[<-h3,(read_dump h2 h4).1]at hI;cases hI
end PDump
/- HexText: bytes as digits; the program's. -/
namespace CHexI
open Kit CEqual PDump
def numL(l:List UInt8):List Int:=l.map λc=>(c.toNat:Int)
theorem numL_app(a b:List UInt8):numL (a++b)=numL a++numL b:=by simp[numL]
theorem str_num(l:List UInt8):strOfNums (numL l)=bs l:=by
 unfold strOfNums numL bs;rw[List.map_map];congr 1
 have:(λc:UInt8=>UInt8.ofNat ((c.toNat:Int)).toNat)=id:=by
  funext c
  simp
 simp[Function.comp_def]
theorem hex_bd(n:Nat):(hexC n).toNat<256:=UInt8.toNat_lt _
theorem index_hex(y:Int)(h0:0<=y)(h1:y<16)(V:World):(Instr.index 9 (.string ⟨#[48,49,50,51,52,53,54,55,56,57,97,98,99,100,101,102]⟩) (.int .u8 y)).run Tryz.prog V=.ok (.int .u8 (hexC y.toNat).toNat) V:=by
 have h:y=0\/y=1\/y=2\/y=3\/y=4\/y=5\/y=6\/y=7\/y=8\/y=9\/y=10\/y=11\/y=12\/y=13\/y=14\/y=15:=by omega
 clear h0 h1;rcases h with rfl|rfl|rfl|rfl|rfl|rfl|rfl|rfl|rfl|rfl|rfl|rfl|rfl|rfl|rfl|rfl
 all_goals(simp[Instr.index,run_underlying Tryz.underlying9,asIntOf,go_sem];rfl)
theorem one_two(a b:Int):∀u∈[Value.int .u8 a,Value.int .u8 b],u.oneCell'=true:=by
 intro u hu;simp only[List.mem_cons,List.not_mem_nil,or_false]at hu;rcases hu with rfl|rfl<;>rfl
theorem and_low(x:Int)(h:0<=x/\x<=255):bits .and .u8 x 15=x%16:=by
 have key:∀i:Fin 256,bits .and .u8 (i.1:Int) 15=(i.1:Int)%16:=by decide+kernel
 obtain⟨n,rfl⟩:=Int.eq_ofNat_of_zero_le h.1;exact key ⟨n,by omega⟩
theorem hex2_eq(x:Int)(h:0<=x):hex2 x=[hexC (x/16).toNat,hexC (x%16).toNat]:=by unfold hex2;rw[show(x/16).toNat=x.toNat/16 by omega,show(x%16).toNat=x.toNat%16 by omega]
set_option maxHeartbeats 4000000 in
theorem hexText_any(A:Option Addr)(zs:List Int)(c:Nat)(w:World)(hr:Rd w w.heap.size A (ints .u8 zs))(hz:InR 0 255 zs)(hm:zs.length<=1048576):
  Calls Tryz.prog 15 #[.slice A zs.length c] w (Ret (.string (bs (hexL zs))) w):=by
 obtain⟨i0,hi1,hi2,hi3,hi4⟩:=info_parts CBytes.info8;have HI:=h_ (And.intro hi1 (And.intro hi2 (And.intro hi3 hi4)));clear hi1 hi2 hi3 hi4;have HR:=h_ hr;have HZ:=h_ hz;clear hr hz;have HB:=h_ (show Below w.heap.size w (w.alloc (.cells #[] 5))from b_);go_enter Tryz.func15,Tryz.ntmps15
 go_wp2_with fail
 generalize w.alloc (.cells #[] 5)=w0 at *;go_loopw [3,9] (λs i wi=>∃(k:Nat) (A1:Option Addr) (c1:Nat) (ys:List Int),k<=zs.length/\s=.slice A1 ys.length c1/\i=.int .i64 k/\ys=numL (hexL (zs.take k))/\ys.length=2*k/\Row wi w.heap.size 5 1 A1 ys.length c1 (ints .u8 ys)/\Below w.heap.size w wi) (λ_ i _=>zs.length-(intOf i).toNat)
 case atStart=>exact⟨0,_,0,[],Nat.zero_le _,rfl,rfl,rfl,rfl,Row.empty _ _ _ _ _,HB.o⟩
 case round=>
  rename World=>wk
  clear HB;obtain⟨k,A1,c1,ys,hk,rfl,rfl,hys,hyl,hrow,hb⟩:=hrel;have HY:=h_ hys;have HL:=h_ hyl;have hl2:ys.length<=2097152:=by omega
  have HW:=h_ hrow;have HB:=h_ hb;clear hys hrow hb hyl;by_cases hlt:k<zs.length
  ·obtain⟨b,off,hA,hbb,hc⟩:=(HR.o.below HB.o).int hlt;have hx:=HZ.o.at_ hlt;subst hA;have HT:=h_ (show zs.take (k+1)=zs.take k++[zs[k]]from take_succ hlt);generalize zs[k]=x at *;go_wp2_with fail
   have hix1:=λV=>index_hex (x/16) (by omega) (by omega) V;have hand:=and_low x hx;have hix2:=λV=>index_hex (x%16) (by omega) (by omega) V;refine Reg.startT (λ_=>True) (λ_=>false) (by kernel_rfl) ?_;have hHeld:True:=trivial;refine t_ 0 rfl ?_;refine t_ 1 rfl ?_;refine t_ 2 rfl ?_;refine t_ 3 rfl ?_;refine t_ 4 rfl ?_;refine t_ 5 rfl ?_;refine t_ 6 rfl ?_;refine Reg.oneT (i:=7) rfl (by kernel_rfl) (λK hK=>?_);go_simp
   refine hK.out _ _ hHeld ?_;clear hK K hix1 hix2 hand;try simp only[y1_,y2_,y3_,Act.put,y4_,y5_,y6_]
   have hv1:=hex_bd (x/16).toNat;generalize hya:((hexC (x/16).toNat).toNat:Int)=ya at *;generalize hyb:((hexC (x%16).toNat).toNat:Int)=yb at *;have HYS:=h_ (And.intro hya hyb);clear hya hyb;have B2:Below wk.heap.size wk.drew (wk.drew.alloc (.cells #[.int .u8 ya,.int .u8 yb] 5)):=b_;refine Reg.oneT (i:=8) rfl (by kernel_rfl) (λK hK=>?_);refine step_app (by rfl) _ _ 22 rfl 5 i0 (.int .u8 0) 1 1 Tryz.underlying22 HI.o.1 HI.o.2.1 HI.o.2.2.1 HI.o.2.2.2 rfl (by decide) w.heap.size A1 ys.length c1 (ints .u8 ys) (by rfl) (HW.o.drew.alloc _) (by have:=HB.o.size;simp;omega) (some ⟨wk.heap.size,0,none⟩) 2 2 [.int .u8 ya,.int .u8 yb] (by rfl) (rd_lit wk.drew #[.int .u8 ya,.int .u8 yb] 5 _ rfl) rfl (λh=>by cases h) (one_two ya yb) (by unfold maxLen;omega) (by omega) ?_;intro A3 n3 c3 w3 hn3 o3 g3 k3;subst hn3;have HW3:=h_ o3;have HB3:=h_ ((HB.o.drew.alloc HB.o.size (.cells #[.int .u8 ya,.int .u8 yb] 5)).grown g3 (by have:=HB.o.size;simp;omega) (λj hj=>(HW.o.lt j hj).1));refine hK.out _ _ hHeld ?_;clear hK K o3 g3 k3 B2 HW HB;try simp only[y1_,y2_,y3_,Act.put,y4_,y5_,y6_]
   refine t_ 9 rfl ?_;refine Reg.doneT (by kernel_rfl) ?_ _;clear hHeld;have HN:=h_ (show ys++[ya,yb]=numL (hexL (zs.take (k+1)))from by
    rw[HT.o,hexL_snoc,numL_app,HY.o,<-HYS.o.1,<-HYS.o.2];rw[hex2_eq x hx.1]
    rfl)
   have hll:(ys++[ya,yb]).length=ys.length+2:=by simp
   have HLL:=h_ hll;have HW4:=h_ (show Row w3 w.heap.size 5 1 A3 (ys.length+2) c3 (ints .u8 (ys++[ya,yb]))from by simpa[ints]using HW3.o);clear hll HW3 HYS hv1;generalize ys++[ya,yb]=ys' at *;go_wp2_with fail
   refine⟨⟨k+1,A3,c3,ys',by omega,by rw[HLL.o],by go_num,HN.o,by rw[HLL.o,HL.o];omega,by rw[HLL.o];exact HW4.o,HB3.o⟩,by simp[intOf];omega⟩
  ·have hke:k=zs.length:=by omega
   have hcv:=conv_run (show Rd wk wk.heap.size A1 (ints .u8 ys)from HW.o.rd) c1;have hE:strOfNums ys=bs (hexL zs):=by rw[HY.o,str_num,hke,List.take_length]
   rw[hE]at hcv;clear hE hke;go_wp2_with fail
   go_ret;exact⟨rfl,HB.o⟩
end CHexI
/- HexText: bytes as digits; the reference's. -/
namespace CHexS
open Kit CEqual PDump CHexI
theorem cut_hex(y:Int)(h0:0<=y)(h1:y<16):(⟨#[48,49,50,51,52,53,54,55,56,57,97,98,99,100,101,102]⟩:ByteArray).extract y.toNat (y+1).toNat=bs [hexC y.toNat]:=by
 have h:y=0\/y=1\/y=2\/y=3\/y=4\/y=5\/y=6\/y=7\/y=8\/y=9\/y=10\/y=11\/y=12\/y=13\/y=14\/y=15:=by omega
 clear h0 h1;rcases h with rfl|rfl|rfl|rfl|rfl|rfl|rfl|rfl|rfl|rfl|rfl|rfl|rfl|rfl|rfl|rfl
 all_goals rfl
theorem bs_app(a b:List UInt8):bs a++bs b=bs (a++b):=CNumTxt.str_add a b
theorem bs_size(a:List UInt8):(bs a).size=a.length:=by simp[bs,ByteArray.size]
theorem wrap8(y:Int)(h:0<=y/\y<=255):IntKind.u8.wrap y=y:=by
 have key:∀i:Fin 256,IntKind.u8.wrap (i.1:Int)=(i.1:Int):=by decide+kernel
 obtain⟨n,rfl⟩:=Int.eq_ofNat_of_zero_le h.1;exact key ⟨n,by omega⟩
theorem parts(x:Int)(hx:0<=x/\x<=255):∃p r:Int,IntKind.u8.wrap (x.tdiv 16)=p/\IntKind.u8.wrap (p+1)=p+1/\x.tmod 16=r/\IntKind.u8.wrap (r+1)=r+1/\0<=p/\p<16/\0<=r/\r<16/\hex2 x=[hexC p.toNat,hexC r.toNat]:=by
 refine⟨x/16,x%16,?_,wrap8 _ (by omega),?_,wrap8 _ (by omega),by omega,by omega,by omega,by omega,hex2_eq x hx.1⟩
 ·rw[Int.tdiv_eq_ediv_of_nonneg hx.1];exact wrap8 _ (by omega)
 ·rw[Int.tmod_eq_emod_of_nonneg hx.1]
set_option maxHeartbeats 4000000 in
theorem hexTextS_any(A:Option Addr)(zs:List Int)(c:Nat)(w:World)(hr:Rd w w.heap.size A (ints .u8 zs))(hz:InR 0 255 zs)(hm:zs.length<=1048576):
  Calls Tryz.prog 42 #[.slice A zs.length c] w (Ret (.string (bs (hexL zs))) w):=by
 have HR:=h_ hr;have HZ:=h_ hz;clear hr hz;go_enter Tryz.func42,Tryz.ntmps42
 go_wp2_with fail
 go_loopw [3,4] (λs i wi=>∃(k:Nat) (t:ByteArray),k<=zs.length/\s=.string t/\i=.int .i64 k/\t=bs (hexL (zs.take k))/\t.size=2*k/\Below w.heap.size w wi) (λ_ i _=>zs.length-(intOf i).toNat)
 case atStart=>exact⟨0,_,Nat.zero_le _,rfl,rfl,rfl,rfl,Below.refl _ _⟩
 case round=>
  rename World=>wk
  obtain⟨k,t,hk,rfl,rfl,ht,htl,hb⟩:=hrel;have HT:=h_ ht;have HTL:=h_ htl;have htm:t.size<=2097152:=by omega
  have HB:=h_ hb;clear ht htl hb;by_cases hlt:k<zs.length
  ·obtain⟨b,off,hA,hbb,hc⟩:=(HR.o.below HB.o).int hlt;have hx:=HZ.o.at_ hlt;subst hA;have HTK:=h_ (show zs.take (k+1)=zs.take k++[zs[k]]from take_succ hlt);generalize zs[k]=x at *;obtain⟨p,r,hw1,hw2,hw3,hw4,hp0,hp1,hr0,hr1,hH⟩:=parts x hx;have hq:=cut_hex p (by omega) (by omega);have hrr:=cut_hex r (by omega) (by omega);have HH:=h_ hH;have hp2:0<=p+1:=by omega
   have hp3:p+1<=16:=by omega
   have hp4:p<=p+1:=by omega
   have hr2:0<=r+1:=by omega
   have hr3:r+1<=16:=by omega
   have hr4:r<=r+1:=by omega
   have hz1:=bs_size [hexC p.toNat];have hz2:=bs_size [hexC r.toNat];generalize hbp:bs [hexC p.toNat]=P at *;generalize hbr:bs [hexC r.toNat]=Q at *;have HP:=h_ (And.intro hbp hbr);have hz3:P.size=1:=hz1;have hz4:Q.size=1:=hz2;have hsz:(t++P).size=t.size+1:=by rw[ByteArray.size_append,hz3]
   have hs1:¬9223372036854775807<t.size+P.size:=by omega
   have hs2:¬9223372036854775807<t.size+P.size+Q.size:=by omega
   have HSZ:=h_ (And.intro hz3 (And.intro hz4 hsz));clear hz3 hz4 hsz;clear hbp hbr hz1 hz2;clear hH;go_wp2_with fail
   refine Reg.startT (λW=>W.cell? ⟨b,off+k,none⟩=some (.int .u8 x)) (λ_=>false) (by kernel_rfl) ?_;have hHeld:wk.drew.cell? ⟨b,off+k,none⟩=some (.int .u8 x):=hc;refine t_ 0 rfl ?_;refine t_ 1 rfl ?_;refine t_ 2 rfl ?_;refine t_ 3 rfl ?_;refine t_ 4 rfl ?_;refine t_ 5 rfl ?_;refine t_ 6 rfl ?_;refine t_ 7 rfl ?_;refine t_ 8 rfl ?_;refine t_ 9 rfl ?_;refine t_ 10 rfl ?_;refine t_ 11 rfl ?_;refine t_ 12 rfl ?_;refine t_ 13 rfl ?_;refine t_ 14 rfl ?_;refine t_ 15 rfl ?_;refine t_ 16 rfl ?_;refine t_ 17 rfl ?_;refine t_ 18 rfl ?_;refine t_ 19 rfl ?_;refine t_ 20 rfl ?_;refine t_ 21 rfl ?_;refine t_ 22 rfl ?_;refine t_ 23 rfl ?_;refine t_ 24 rfl ?_;refine t_ 25 rfl ?_;refine t_ 26 rfl ?_;refine t_ 27 rfl ?_;refine Reg.doneT (by kernel_rfl) ?_ _;clear hHeld hp2 hp3 hp4 hr2 hr3 hr4 hw1 hw2 hw3 hw4 hq hrr;clear hs1 hs2;have HN:=h_ (show t++P++Q=bs (hexL (zs.take (k+1)))from by
    rw[HTK.o,hexL_snoc,HH.o,HT.o,<-HP.o.1,<-HP.o.2,bs_app,bs_app];simp)
   have HNL:=h_ (show(t++P++Q).size=2*(k+1)from by
    rw[ByteArray.size_append,HSZ.o.2.2,HSZ.o.2.1,HTL.o];omega)
   clear HP HH HSZ;generalize t++P++Q=t' at *;have HB2:=h_ HB.o.drew;go_wp2_with fail
   refine⟨⟨k+1,t',by omega,rfl,by go_num,HN.o,HNL.o,HB2.o⟩,by simp[intOf];omega⟩
  ·have HV:=h_ (show t=bs (hexL zs)from by rw[HT.o,show k=zs.length by omega,List.take_length]);go_wp2_with fail
   go_ret;rw[HV.o];exact⟨rfl,HB.o⟩
end CHexS
/- The library at []string,at this dump: printed by the kit's lay-plain. -/
namespace XNames
open Go.Shelf
def lays190_ren:Go.Shelf.Ren:=⟨λ|190=>157|125=>192|258=>191|128=>221|129=>208|302=>212|303=>213|304=>214|305=>215|306=>216|307=>217|308=>218|309=>219|310=>220|333=>229|329=>230|330=>231|334=>232|335=>233|336=>234|344=>235|n=>n,λ|31=>28|9=>9|3=>3|46=>94|0=>0|51=>201|53=>190|4=>4|183=>215|182=>214|131=>90|5=>5|218=>235|222=>239|228=>243|229=>244|n=>n,λ|n=>n⟩
theorem lays190:Go.Proofs.Lays.n190 Tryz.prog lays190_ren:={
 mixed:=by kernel_rfl
 f125:=Tryz.func192.trans (congrArg some (by kernel_rfl))
 f128:=Tryz.func221.trans (congrArg some (by kernel_rfl))
 f129:=Tryz.func208.trans (congrArg some (by kernel_rfl))
 f190:=Tryz.func157.trans (congrArg some (by kernel_rfl))
 f258:=Tryz.func191.trans (congrArg some (by kernel_rfl))
 f302:=Tryz.func212.trans (congrArg some (by kernel_rfl))
 f303:=Tryz.func213.trans (congrArg some (by kernel_rfl))
 f304:=Tryz.func214.trans (congrArg some (by kernel_rfl))
 f305:=Tryz.func215.trans (congrArg some (by kernel_rfl))
 f306:=Tryz.func216.trans (congrArg some (by kernel_rfl))
 f307:=Tryz.func217.trans (congrArg some (by kernel_rfl))
 f308:=Tryz.func218.trans (congrArg some (by kernel_rfl))
 f309:=Tryz.func219.trans (congrArg some (by kernel_rfl))
 f310:=Tryz.func220.trans (congrArg some (by kernel_rfl))
 f329:=Tryz.func230.trans (congrArg some (by kernel_rfl))
 f330:=Tryz.func231.trans (congrArg some (by kernel_rfl))
 f333:=Tryz.func229.trans (congrArg some (by kernel_rfl))
 f334:=Tryz.func232.trans (congrArg some (by kernel_rfl))
 f335:=Tryz.func233.trans (congrArg some (by kernel_rfl))
 f336:=Tryz.func234.trans (congrArg some (by kernel_rfl))
 f344:=Tryz.func235.trans (congrArg some (by kernel_rfl))
 t0:=Tryz.underlying0
 a0:=Tryz.isAgg0
 z0:=Tryz.sizeOf0
 v0:=Tryz.zeroValue0
 t3:=Tryz.underlying3
 a3:=Tryz.isAgg3
 z3:=Tryz.sizeOf3
 v3:=Tryz.zeroValue3
 t4:=Tryz.underlying4
 a4:=Tryz.isAgg4
 z4:=Tryz.sizeOf4
 v4:=Tryz.zeroValue4
 t5:=Tryz.underlying5
 a5:=Tryz.isAgg5
 z5:=Tryz.sizeOf5
 v5:=Tryz.zeroValue5
 t9:=Tryz.underlying9
 a9:=Tryz.isAgg9
 z9:=Tryz.sizeOf9
 v9:=Tryz.zeroValue9
 t31:=Tryz.underlying28
 a31:=Tryz.isAgg28
 z31:=Tryz.sizeOf28
 v31:=Tryz.zeroValue28
 t46:=Tryz.underlying94
 a46:=Tryz.isAgg94
 z46:=Tryz.sizeOf94
 v46:=Tryz.zeroValue94
 t51:=Tryz.underlying201
 a51:=Tryz.isAgg201
 z51:=Tryz.sizeOf201
 v51:=Tryz.zeroValue201
 t53:=Tryz.underlying190
 a53:=Tryz.isAgg190
 z53:=Tryz.sizeOf190
 v53:=Tryz.zeroValue190
 t131:=Tryz.underlying90
 a131:=Tryz.isAgg90
 z131:=Tryz.sizeOf90
 v131:=Tryz.zeroValue90
 t182:=Tryz.underlying214
 a182:=Tryz.isAgg214
 z182:=Tryz.sizeOf214
 v182:=Tryz.zeroValue214
 t183:=Tryz.underlying215
 a183:=Tryz.isAgg215
 z183:=Tryz.sizeOf215
 v183:=Tryz.zeroValue215
 t218:=Tryz.underlying235
 a218:=Tryz.isAgg235
 z218:=Tryz.sizeOf235
 v218:=Tryz.zeroValue235
 t222:=Tryz.underlying239
 a222:=Tryz.isAgg239
 z222:=Tryz.sizeOf239
 v222:=Tryz.zeroValue239
 t228:=Tryz.underlying243
 a228:=Tryz.isAgg243
 z228:=Tryz.sizeOf243
 v228:=Tryz.zeroValue243
 t229:=Tryz.underlying244
 a229:=Tryz.isAgg244
 z229:=Tryz.sizeOf244
 v229:=Tryz.zeroValue244}
open Go.Sort Go.RowKit in
theorem slices_Sort_string(blk off cap:Nat)(ss:List (List UInt8))(w:World)(hH:Holds encStr w blk off ss.toArray)(hblk:blk<w.heap.size)(hsz:ss.length<4611686018427387904):
  Calls Tryz.prog 157 #[.slice (some ⟨blk,off,none⟩) ss.length cap] w λe w'=>e=.returned (.tuple #[])/\∃n os,w'=grow (putRow encStr (Sort.ahead w n) blk off (ss.mergeSort λx y=>decide (x<=y)).toArray) os:=Any.slices_Sort_string lays190 blk off cap ss w hH hblk hsz
def lays110_ren:Go.Shelf.Ren:=⟨λ|110=>100|109=>155|n=>n,λ|31=>28|9=>9|4=>4|3=>3|0=>0|n=>n,λ|n=>n⟩
theorem lays110:Go.Proofs.Lays.n110 Tryz.prog lays110_ren:={
 mixed:=by kernel_rfl
 f109:=Tryz.func155.trans (congrArg some (by kernel_rfl))
 f110:=Tryz.func100.trans (congrArg some (by kernel_rfl))
 t0:=Tryz.underlying0
 a0:=Tryz.isAgg0
 z0:=Tryz.sizeOf0
 v0:=Tryz.zeroValue0
 t3:=Tryz.underlying3
 a3:=Tryz.isAgg3
 z3:=Tryz.sizeOf3
 v3:=Tryz.zeroValue3
 t4:=Tryz.underlying4
 a4:=Tryz.isAgg4
 z4:=Tryz.sizeOf4
 v4:=Tryz.zeroValue4
 t9:=Tryz.underlying9
 a9:=Tryz.isAgg9
 z9:=Tryz.sizeOf9
 v9:=Tryz.zeroValue9
 t31:=Tryz.underlying28
 a31:=Tryz.isAgg28
 z31:=Tryz.sizeOf28
 v31:=Tryz.zeroValue28}
open Go.Lib in
theorem slices_Contains_string(b off n c:Nat)(zs:List ByteArray)(x:ByteArray)(w:World)(hz:n<=zs.length)(hbig:n<=9223372036854775807)(hc:∀j,j<zs.length->w.cell? ⟨b,off+j,none⟩=some (.string (zs.getD j ByteArray.empty))):
  Calls Tryz.prog 100 #[.slice (some ⟨b,off,none⟩) n c,.string x] w λe w'=>e=.returned (.bool (Lib.containsS (zs.take n) x))/\w'=w:=Any.slices_Contains_string lays110 b off n c zs x w hz hbig hc
open Go.Lib in
theorem slices_Contains_string_empty(a:Option Addr)(c:Nat)(x:ByteArray)(w:World):
  Calls Tryz.prog 100 #[.slice a 0 c,.string x] w λe w'=>e=.returned (.bool false)/\w'=w:=Any.slices_Contains_string_empty lays110 a c x w
def laysNm216_ren:Go.Shelf.Ren:=⟨λ|16=>156|n=>n,λ|24=>28|9=>9|4=>4|n=>n,λ|n=>n⟩
theorem laysNm216:Go.Proofs.Lays2.n16 Tryz.prog laysNm216_ren:={
 mixed:=by kernel_rfl
 f16:=Tryz.func156.trans (congrArg some (by kernel_rfl))
 t4:=Tryz.underlying4
 a4:=Tryz.isAgg4
 z4:=Tryz.sizeOf4
 v4:=Tryz.zeroValue4
 t9:=Tryz.underlying9
 a9:=Tryz.isAgg9
 z9:=Tryz.sizeOf9
 v9:=Tryz.zeroValue9
 t24:=Tryz.underlying28
 a24:=Tryz.isAgg28
 z24:=Tryz.sizeOf28
 v24:=Tryz.zeroValue28
 i9:=by kernel_rfl}
open Go.RowKit Go.Lib in
theorem slices_Clone_string(b off n c:Nat)(zs:List ByteArray)(w:World)(hz:n<=zs.length)(hbig:n*16<=140737488355328)(hc:∀j,j<zs.length->w.cell? ⟨b,off+j,none⟩=some (.string (zs.getD j ByteArray.empty))):
  Calls Tryz.prog 156 #[.slice (some ⟨b,off,none⟩) n c] w λe w'=>∃v',e=.returned v'/\w'.ownsRow w.heap.size 9 1 v' n ((zs.take n).map (Value.string))/\v'≠ .slice none 0 0/\Below w.heap.size w w':=Any.slices_Clone_string laysNm216 b off n c zs w hz hbig hc
open Go.RowKit Go.Lib in
theorem slices_Clone_string_nil(n c:Nat)(w:World):
  Calls Tryz.prog 156 #[.slice none n c] w λe w'=>e=.returned (.slice none 0 0)/\w'=w:=Any.slices_Clone_string_nil laysNm216 n c w
open Go.RowKit Go.Lib in
theorem slices_Clone_string_zero(a:Addr)(c:Nat)(w:World):
  Calls Tryz.prog 156 #[.slice (some a) 0 c] w λe w'=>∃v',e=.returned v'/\w'.ownsRow w.heap.size 9 1 v' 0 []/\v'≠ .slice none 0 0/\Below w.heap.size w w':=Any.slices_Clone_string_zero laysNm216 a c w
def lays194_ren:Go.Shelf.Ren:=⟨λ|194=>158|n=>n,λ|31=>28|9=>9|3=>3|4=>4|0=>0|n=>n,λ|n=>n⟩
theorem lays194:Go.Proofs.Lays.n194 Tryz.prog lays194_ren:={
 mixed:=by kernel_rfl
 f194:=Tryz.func158.trans (congrArg some (by kernel_rfl))
 t0:=Tryz.underlying0
 a0:=Tryz.isAgg0
 z0:=Tryz.sizeOf0
 v0:=Tryz.zeroValue0
 t3:=Tryz.underlying3
 a3:=Tryz.isAgg3
 z3:=Tryz.sizeOf3
 v3:=Tryz.zeroValue3
 t4:=Tryz.underlying4
 a4:=Tryz.isAgg4
 z4:=Tryz.sizeOf4
 v4:=Tryz.zeroValue4
 t9:=Tryz.underlying9
 a9:=Tryz.isAgg9
 z9:=Tryz.sizeOf9
 v9:=Tryz.zeroValue9
 t31:=Tryz.underlying28
 a31:=Tryz.isAgg28
 z31:=Tryz.sizeOf28
 v31:=Tryz.zeroValue28}
open Go.RowKit Go.Lib Go.Sort in
theorem slices_Compact_string(blk off cap:Nat)(zs:List (List UInt8))(w:World)(hH:Holds encStr w blk off zs.toArray)(hsz:zs.length<=9223372036854775807)(hcap:zs.length<=cap):
  Calls Tryz.prog 158 #[.slice (some ⟨blk,off,none⟩) zs.length cap] w λe w'=>e=.returned (.slice (some ⟨blk,off,none⟩) (Lib.compact zs).length cap)/\∃q,w'=putRow encStr (Sort.ahead w q) blk off (Lib.compact zs++List.replicate (zs.length-(Lib.compact zs).length) []).toArray:=Any.slices_Compact_string lays194 blk off cap zs w hH hsz hcap
open Go.RowKit Go.Lib Go.Sort in
theorem slices_Compact_string_empty(a:Option Addr)(cap:Nat)(w:World):
  Calls Tryz.prog 158 #[.slice a 0 cap] w λe w'=>e=.returned (.slice a 0 cap)/\w'=w:=Any.slices_Compact_string_empty lays194 a cap w
open Go.RowKit Go.Sort in
theorem slices_Sort_string_none(p:Option Addr)(cap:Nat)(w:World):
  Calls Tryz.prog 157 #[.slice p 0 cap] w λe w'=>e=.returned (.tuple #[])/\w'=w:=Any.slices_Sort_string_none lays190 p cap w
end XNames
/- An object that grows: a section or a symbol is put behind its last. -/
namespace BObj2
open Kit CFixups CSymbols PObj BObj CMarkRows
theorem one_sec(q:SV):∀u∈secC q,u.oneCell'=true:=by
 intro u hu;simp only[secC,List.mem_cons,List.not_mem_nil,or_false]at hu;rcases hu with rfl|rfl|rfl|rfl|rfl|rfl<;>rfl
section
variable {w w':World}{base N:Nat}{o:OV}
theorem _root_.Go.Proofs.YtepoiphmmjfbdaaGreatDoor.BObj.OwnO.addS (h:OwnO w base o){q:SV}(hq:RwS w base q)(hold:∀p∈o.ps,∀k,sblk p k->k<N)(hnew:∀k,sblk q k->N<=k){A':Option Addr}{n' c':Nat}(hn:n'=o.ps.length+1)
  (row:Row w' base 61 6 A' n' c' (cellsOf secC o.ps++secC q))(g:w.grownBy w' (blk o.A o.c)):OwnO w' base {o with A:=A',c:=c',ps:=o.ps++[q]}:=by
 subst hn;have hS:∀p,RwS w base p->RwS w' base p:=λp hp=>⟨hp.1.grown g (λk hk=>apartT hp.1 h.1.1 (by decide) k hk),hp.2.grown g (λk hk=>apartT hp.2 h.1.1 (by decide) k hk)⟩;refine⟨⟨?_,?_,?_⟩,h.2.grown g (λk hk=>apartT h.2 h.1.1 (by decide) k hk)⟩
 ·rw[<-cells_snoc]at row;show Row w' base _ 6 A' (o.ps++[q]).length c' _
  rw[List.length_append];exact row
 ·exact RwSs.snoc (λp hp=>hS p (h.1.2.1 p hp)) (hS q hq)
 ·exact PwSs.snoc h.1.2.2 hold hnew
theorem _root_.Go.Proofs.YtepoiphmmjfbdaaGreatDoor.BObj.OwnO.addY (h:OwnO w base o)(zs:List YD){Y':Option Addr}{n' c':Nat}(hn:n'=o.ys.length+zs.length)
  (row:Row w' base 67 4 Y' n' c' (cellsOf symbolC o.ys++cellsOf symbolC zs))(g:w.grownBy w' (blk o.Y o.yc)):OwnO w' base {o with Y:=Y',yc:=c',ys:=o.ys++zs}:=by
 subst hn;refine⟨⟨h.1.1.grown g (λk hk=>apartT h.1.1 h.2 (by decide) k hk),λp hp=>⟨(h.1.2.1 p hp).1.grown g (λk hk=>apartT (h.1.2.1 p hp).1 h.2 (by decide) k hk),(h.1.2.1 p hp).2.grown g (λk hk=>apartT (h.1.2.1 p hp).2 h.2 (by decide) k hk)⟩,h.1.2.2⟩,?_⟩;show Row w' base _ 4 Y' (o.ys++zs).length c' (cellsOf symbolC (o.ys++zs))
 rw[List.length_append,show cellsOf symbolC (o.ys++zs)=cellsOf symbolC o.ys++cellsOf symbolC zs by simp[cellsOf]];exact row
theorem _root_.Go.Proofs.YtepoiphmmjfbdaaGreatDoor.BObj.OwnO.ne_box (h:OwnO w base o){X:Nat}{t:TypeId}{cs:Array Value}(hb:Box w X t cs)(h1:5≠t)(h2:65≠t)(h3:61≠t)(h4:67≠t):∀k,oblk o k->k≠X:=by
 rintro k ((hk|⟨p,hp,hk⟩)|hk)
 ·exact h.1.1.box hb h3 k hk
 ·exact(h.1.2.1 p hp).box hb h1 h2 k hk
 ·exact h.2.box hb h4 k hk
theorem _root_.Go.Proofs.YtepoiphmmjfbdaaGreatDoor.BObj.OwnO.set (h:OwnO w base o){a:Addr}(ha:∀k,oblk o k->k≠a.block)(u:Value):OwnO (w.setCell a u) base o:=h.keep λk hk=>Below.heap_setCell w a u k (ha k hk)
theorem _root_.Go.Proofs.YtepoiphmmjfbdaaGreatDoor.BObj.OwnO.grownR (h:OwnO w base o){R:Nat}(g:w.grownBy w' (some R))(hR:R<base):OwnO w' base o:=h.keep λk hk=>g.block k (h.lt k hk).2 (λe=>by injection e with e;have:=(h.lt k hk).1;omega)
end
end BObj2
/- Contracts of the laws' helpers on []int: the copy,the comparison,the marks. -/
namespace CInts
open Kit
theorem info64:(Tryz.prog.info? 3).map (λi=>(i.zero,i.size,i.bytes))=some (some (.int .i64 0),1,8):=by kernel_rfl
end CInts
/- Lists of objects,and rows of rows of numbers,in memory. -/
namespace BList
open Kit CFixups CSymbols PObj BObj CMarkRows BStore CObjValid
def objC(o:OV):List Value:=[.slice o.A o.ps.length o.c,.slice o.Y o.ys.length o.yc]
theorem objC_len(o:OV):(objC o).length=2:=rfl
def RdOs(w:World)(B:Nat)(A:Option Addr)(os:List OV):Prop:=Rd w B A (cellsOf objC os)/\∀o∈os,RdO w B o
structure RV where
 A:Option Addr
 c:Nat
 zs:List Int
def rowC(p:RV):List Value:=[.slice p.A p.zs.length p.c]
theorem rowC_len(p:RV):(rowC p).length=1:=rfl
def RdRs(w:World)(B:Nat)(A:Option Addr)(rs:List RV):Prop:=Rd w B A (cellsOf rowC rs)/\∀r∈rs,Rd w B r.A (ints .i64 r.zs)
def RwR(w:World)(base:Nat)(p:RV):Prop:=Row w base 3 1 p.A p.zs.length p.c (ints .i64 p.zs)
def RwRs(w:World)(base:Nat)(rs:List RV):Prop:=∀p∈rs,RwR w base p
def PwRs(rs:List RV):Prop:=rs.Pairwise λp q=>Apart p.A p.c q.A q.c
def OwnRs(w:World)(base:Nat)(A:Option Addr)(c:Nat)(rs:List RV):Prop:=Row w base 89 1 A rs.length c (cellsOf rowC rs)/\RwRs w base rs/\PwRs rs
section
variable {w w':World}{B B' base:Nat}{A:Option Addr}{c:Nat}{os:List OV}{rs:List RV}{p:RV}
theorem RdOs.below (h:RdOs w B A os)(hb:Below B w w'):RdOs w' B A os:=⟨h.1.below hb,λo ho=>(h.2 o ho).below hb⟩
theorem RdOs.more (h:RdOs w B A os)(hB:B<=B'):RdOs w B' A os:=⟨h.1.more hB,λo ho=>(h.2 o ho).more hB⟩
theorem RdRs.below (h:RdRs w B A rs)(hb:Below B w w'):RdRs w' B A rs:=⟨h.1.below hb,λo ho=>(h.2 o ho).below hb⟩
theorem RdRs.more (h:RdRs w B A rs)(hB:B<=B'):RdRs w B' A rs:=⟨h.1.more hB,λo ho=>(h.2 o ho).more hB⟩
theorem OwnRs.rd (h:OwnRs w base A c rs):RdRs w w.heap.size A rs:=⟨h.1.rd,λp hp=>(h.2.1 p hp).rd⟩
end
theorem rows_set(rs:List RV)(k:Nat)(hk:k<rs.length)(q:RV)(hq:rowC q=rowC rs[k]):cellsOf rowC (rs.set k q)=cellsOf rowC rs:=by
 have e:rs=rs.take k++rs[k]::rs.drop (k+1):=by rw[<-List.drop_eq_getElem_cons hk,List.take_append_drop]
 rw[List.set_eq_take_append_cons_drop,if_pos hk];conv=>rhs;rw[e]
 simp only[cellsOf,List.flatMap_append,List.flatMap_cons,hq]
theorem setInts64(l:List Int)(j:Nat)(x:Int):(ints .i64 l).set j (.int .i64 x)=ints .i64 (l.set j x):=by simp[ints,List.map_set]
theorem OwnRs.put {w:World}{base:Nat}{A:Option Addr}{c:Nat}{rs:List RV}(h:OwnRs w base A c rs){k:Nat}(hk:k<rs.length){i:Nat}(hi:i<rs[k].zs.length)(v:Int):
  ∃g,rs[k].A=some ⟨g,0,none⟩/\base<=g/\g<w.heap.size/\blk rs[k].A rs[k].c=some g/\(∃cs,Box w g 3 cs)/\(w.frozen? ⟨g,i,none⟩=false)/\(∃u,w.cell? ⟨g,i,none⟩=some (.int .i64 u))/\OwnRs (w.setCell ⟨g,i,none⟩ (.int .i64 v)) base A c (rs.set k {rs[k]with zs:=rs[k].zs.set i v}):=by
 obtain⟨hrow,hrw,hpw⟩:=h;have hq:=hrw rs[k] (List.getElem_mem hk);obtain⟨g,hA,hb1,hb2,hb,hown⟩:=own_of hq (by omega);have hcell:=World.ownsRow.cellAt hown i (by simpa using hi);refine⟨g,hA,hb1,hb2,hb,cell_own hown,World.ownsRow.frozenAt hown i,⟨rs[k].zs[i],?_⟩,?_,?_,?_⟩
 ·rw[hcell];simp[ints]
 ·rw[rows_set rs k hk _ (by simp[rowC]),List.length_set];exact hrow.set (a:=⟨g,i,none⟩) (λj hj e=>apartT hrow hq (by decide) j hj (by rw[hb,e])) _
 ·intro p hp;obtain⟨j,hj,rfl⟩:=List.getElem_of_mem hp;rw[List.length_set]at hj;rw[List.getElem_set];by_cases hjk:k=j
  ·subst hjk;rw[if_pos rfl];refine .inr ?_;show(w.setCell _ _).ownsRow base _ 1 (.slice rs[k].A (rs[k].zs.set i v).length rs[k].c) (rs[k].zs.set i v).length (ints .i64 (rs[k].zs.set i v))
   rw[List.length_set,<-setInts64,hA];exact(hown.stored i _).1
  ·rw[if_neg hjk];refine(hrw rs[j] (List.getElem_mem hj)).set (a:=⟨g,i,none⟩) (λm hm e=>?_) _;have e':m=g:=e;rw[PwRs,List.pairwise_iff_getElem]at hpw;subst e';rcases Nat.lt_or_gt_of_ne hjk with hlt|hgt
   ·exact hpw k j hk hj hlt _ hb hm
   ·exact hpw j k hj hk hgt _ hm hb
 ·rw[PwRs,List.pairwise_iff_getElem]at hpw ⊢;intro a b ha hb hab;rw[List.length_set]at ha hb;have key:∀m (hm:m<rs.length) (hm':m<(rs.set k {rs[k]with zs:=rs[k].zs.set i v}).length),((rs.set k {rs[k]with zs:=rs[k].zs.set i v})[m]).A=rs[m].A/\((rs.set k {rs[k]with zs:=rs[k].zs.set i v})[m]).c=rs[m].c:=by
   intro m hm hm';rw[List.getElem_set];by_cases hkm:k=m
   ·subst hkm;rw[if_pos rfl];exact⟨rfl,rfl⟩
   ·rw[if_neg hkm];exact⟨rfl,rfl⟩
  rw[(key a ha _).1,(key a ha _).2,(key b hb _).1,(key b hb _).2];exact hpw a b ha hb hab
theorem OwnRs.snoc {w w':World}{base:Nat}{A:Option Addr}{c:Nat}{rs:List RV}{N:Nat}(h:OwnRs w base A c rs){q:RV}(hq:RwR w base q)(hold:∀p∈rs,∀k,blk p.A p.c=some k->k<N)(hnew:∀k,blk q.A q.c=some k->N<=k)
  {A':Option Addr}{n' c':Nat}(hn:n'=rs.length+1)(row:Row w' base 89 1 A' n' c' (cellsOf rowC rs++rowC q))(g:w.grownBy w' (blk A c)):OwnRs w' base A' c' (rs++[q]):=by
 subst hn;have hS:∀p,RwR w base p->RwR w' base p:=λp hp=>hp.grown g (λk hk=>apartT hp h.1 (by decide) k hk);refine⟨?_,?_,?_⟩
 ·rw[List.length_append,show cellsOf rowC (rs++[q])=cellsOf rowC rs++rowC q by simp[cellsOf]];exact row
 ·intro p hp;rcases List.mem_append.1 hp with hp|hp
  ·exact hS p (h.2.1 p hp)
  ·have e:=List.mem_singleton.1 hp;subst e;exact hS _ hq
 ·refine List.pairwise_append.2 ⟨h.2.2,List.pairwise_singleton _ _,λa ha b hb=>?_⟩;have e:=List.mem_singleton.1 hb;subst e;intro k hk hk';have e1:=hold a ha k hk;have e2:=hnew k hk';omega
theorem OwnRs.keep {w w':World}{base:Nat}{A:Option Addr}{c:Nat}{rs:List RV}(h:OwnRs w base A c rs)(hk:∀k,base<=k->k<w.heap.size->(blk A c=some k\/∃p∈rs,blk p.A p.c=some k)->w'.heap[k]?=w.heap[k]?):OwnRs w' base A c rs:=
 ⟨h.1.keep λk hb=>hk k (h.1.lt k hb).1 (h.1.lt k hb).2 (.inl hb),λp hp=>(h.2.1 p hp).keep λk hb=>hk k ((h.2.1 p hp).lt k hb).1 ((h.2.1 p hp).lt k hb).2 (.inr ⟨p,hp,hb⟩),h.2.2⟩
theorem OwnRs.call {w w':World}{base:Nat}{A:Option Addr}{c:Nat}{rs:List RV}(h:OwnRs w base A c rs)(hb:Below w.heap.size w w'):OwnRs w' base A c rs:=h.keep λk _ hk _=>hb.block k hk
theorem OwnRs.set {w:World}{base:Nat}{A:Option Addr}{c:Nat}{rs:List RV}(h:OwnRs w base A c rs){X:Nat}{t:TypeId}{cs:Array Value}(hb:Box w X t cs)(h1:89≠t)(h2:3≠t)(i:Nat)(u:Value):OwnRs (w.setCell ⟨X,i,none⟩ u) base A c rs:=
 h.keep λk _ _ hk=>Below.heap_setCell w ⟨X,i,none⟩ u k (by
  rcases hk with hk|⟨p,hp,hk⟩
  ·exact h.1.box hb h1 k hk
  ·exact(h.2.1 p hp).box hb h2 k hk)
theorem OwnRs.lt {w:World}{base:Nat}{A:Option Addr}{c:Nat}{rs:List RV}(h:OwnRs w base A c rs):∀p∈rs,∀k,blk p.A p.c=some k->k<w.heap.size:=λp hp k hk=>((h.2.1 p hp).lt k hk).2
theorem RdOs.at {w:World}{B:Nat}{A:Option Addr}{os:List OV}(h:RdOs w B A os){k:Nat}(hk:k<os.length):
  ∃b off,A=some ⟨b,off,none⟩/\b<B/\w.cell? ⟨b,off+k*2,none⟩=some (.slice os[k].A os[k].ps.length os[k].c)/\w.cell? ⟨b,off+k*2+1,none⟩=some (.slice os[k].Y os[k].ys.length os[k].yc):=by
 obtain⟨b,off,hA,hb,hc⟩:=h.1.row objC_len (by decide) hk;exact⟨b,off,hA,hb,by simpa using hc 0 _ rfl,hc 1 _ rfl⟩
theorem RdRs.at {w:World}{B:Nat}{A:Option Addr}{rs:List RV}(h:RdRs w B A rs){k:Nat}(hk:k<rs.length):
  ∃b off,A=some ⟨b,off,none⟩/\b<B/\w.cell? ⟨b,off+k,none⟩=some (.slice rs[k].A rs[k].zs.length rs[k].c):=by
 obtain⟨b,off,hA,hb,hc⟩:=h.1.row rowC_len (by decide) hk;exact⟨b,off,hA,hb,by simpa using hc 0 _ rfl⟩
theorem two_below{B:Nat}{a w:World}{Y:Nat}(h:Below B a w)(hY:B<=Y)(u v:Value):Below B a ((w.setCell ⟨Y,0,none⟩ u).setCell ⟨Y,1,none⟩ v):=
 (h.setCell (p:=⟨Y,0,none⟩) hY u).setCell (p:=⟨Y,1,none⟩) hY v
structure Fits(os:List OV):Prop where
 n:os.length<=1048576
 o:∀o∈os,Fit o
end BList
/- sorted: names by their bytes,each once. -/
namespace CSorted
open Kit CFixups CSymbols PObj BObj CMarkRows BStore
def nmC(xs:List ByteArray):List Value:=xs.map Value.string
def bytesOf(xs:List ByteArray):List (List UInt8):=xs.map (·.data.toList)
def sortB(xs:List ByteArray):List (List UInt8):=Lib.compact ((bytesOf xs).mergeSort λx y=>decide (x<=y))
def srtN(xs:List ByteArray):List ByteArray:=(sortB xs).map λl=>⟨l.toArray⟩
theorem enc_strs(ls:List (List UInt8)):ls.map encStr=nmC (ls.map λl=>⟨l.toArray⟩):=by
 unfold nmC;rw[List.map_map]
 rfl
theorem strs_enc(xs:List ByteArray):nmC xs=(bytesOf xs).map encStr:=(Lib.map_encStr xs).symm
theorem srtN_nil:srtN []=[]:=by simp[srtN,sortB,bytesOf,Lib.compact,Lib.compactUpTo]
theorem srtN_pos(xs:List ByteArray):0<(srtN xs).length↔0<xs.length:=by
 constructor
 ·intro h;rcases xs with _|⟨x,xs⟩
  ·rw[srtN_nil]at h;exact h
  ·simp
 ·intro h;have hm:((bytesOf xs).mergeSort λx y=>decide (x<=y)).length=xs.length:=by rw[List.length_mergeSort];simp[bytesOf]
  unfold srtN sortB Lib.compact Lib.compactUpTo;rw[List.length_map,List.length_map,List.length_pos_iff_exists_mem];exact⟨0,List.mem_filter.2 ⟨List.mem_range.2 (by rw[hm];exact h),by simpa using Lib.keeps_lt_one _ 0 (by omega)⟩⟩
theorem below_grow(w:World)(os:Array Obj):Below w.heap.size w (Sort.grow w os):=⟨rfl,rfl,rfl,by simp,λ_ hk=>Sort.heap_grow_old w os hk⟩
def RetN(xs:List ByteArray)(w:World)(e:Ending)(w':World):Prop:=∃A c,e=.returned (.slice A xs.length c)/\Row w' w.heap.size 9 1 A xs.length c (nmC xs)/\Below w.heap.size w w'
theorem of_owns{w:World}{base n:Nat}{v:Value}{xs:List Value}(h:w.ownsRow base 9 1 v n xs):∃A c,v=.slice A n c/\Row w base 9 1 A n c xs:=by
 rcases h.2 with⟨rfl,rfl⟩|⟨g,cap,cur,rfl,_⟩
 ·exact⟨none,0,rfl,.inr h⟩
 ·exact⟨_,cap,rfl,.inr h⟩
theorem cloneN_any(xs:List ByteArray)(A:Option Addr)(c:Nat)(base:Nat)(w:World)(h:Row w base 9 1 A xs.length c (nmC xs))(hm:xs.length<=1048576):
  Calls Tryz.prog 156 #[.slice A xs.length c] w (RetN xs w):=by
 by_cases h0:xs.length=0
 ·obtain rfl:=List.eq_nil_of_length_eq_zero h0;cases A with
  |none=>refine(XNames.slices_Clone_string_nil 0 c w).mono ?_;rintro e w' ⟨rfl,rfl⟩;exact⟨none,0,rfl,Row.empty _ _ _ _ _,Below.refl _ _⟩
  |some a=>refine(XNames.slices_Clone_string_zero a c w).mono ?_;rintro e w' ⟨v,rfl,ho,_,hb⟩;obtain⟨A',c',rfl,hr⟩:=of_owns ho;exact⟨A',c',rfl,hr,hb⟩
 ·obtain⟨g,rfl,_,_,_,hown⟩:=own_of h (by omega);refine(XNames.slices_Clone_string g 0 xs.length c xs w (Nat.le_refl _) (by omega) (λj hj=>?_)).mono ?_
  ·have h1:=World.ownsRow.cellAt hown j (by simpa[nmC]using hj);rw[Nat.zero_add,h1];simp[nmC,List.getD_eq_getElem?_getD,List.getElem?_eq_getElem hj]
  ·rintro e w' ⟨v,rfl,ho,_,hb⟩;rw[List.take_length]at ho;obtain⟨A',c',rfl,hr⟩:=of_owns ho;exact⟨A',c',rfl,hr,hb⟩
set_option maxHeartbeats 1000000 in
theorem sorted_any(xs:List ByteArray)(A:Option Addr)(c:Nat)(base:Nat)(w:World)(h:Row w base 9 1 A xs.length c (nmC xs))(hm:xs.length<=1048576):
  Calls Tryz.prog 101 #[.slice A xs.length c] w (RetN (srtN xs) w):=by
 have HQ:=h_ (cloneN_any xs A c base w h hm);clear h;go_enter Tryz.func101,Tryz.ntmps101
 go_wp2_with fail
 refine HQ.o.mono ?_;rintro e w1 ⟨A1,c1,rfl,r1,b1⟩;have HR:=h_ r1;have HB:=h_ b1;clear r1 b1 HQ;go_wp2_with fail
 have HS:Calls Tryz.prog 157 #[.slice A1 xs.length c1] w1 λe w'=>e=.returned (.tuple #[])/\Row w' w.heap.size 9 1 A1 xs.length c1 (((bytesOf xs).mergeSort λx y=>decide (x<=y)).map encStr)/\Below w.heap.size w w':=by
  by_cases h0:xs.length=0
  ·obtain rfl:=List.eq_nil_of_length_eq_zero h0;refine(XNames.slices_Sort_string_none A1 c1 w1).mono ?_;rintro e w' ⟨rfl,rfl⟩;exact⟨rfl,by simpa[nmC,bytesOf]using HR.o,HB.o⟩
  ·obtain⟨g,rfl,hb1,hb2,_,hown⟩:=own_of HR.o (by omega);rw[strs_enc]at hown;obtain⟨g',cap,hv,_,_,_,_,hl,hH⟩:=Lib.holds_of_ownsRow hown (by intro e;cases e);injection hv with e1 _ e3;simp only[Option.some.injEq,Addr.mk.injEq,and_true]at e1;subst e1 e3;have hl':(bytesOf xs).length=xs.length:=by simp[bytesOf]
   have hC:=XNames.slices_Sort_string g 0 c1 (bytesOf xs) w1 hH hb2 (by rw[hl'];omega);rw[hl']at hC;refine hC.mono ?_;rintro e w' ⟨rfl,q,os,rfl⟩;have hlen:((bytesOf xs).mergeSort λx y=>decide (x<=y)).length=xs.length:=by rw[List.length_mergeSort,hl']
   have ho:=Lib.ownsRow_putRow (q:=q) (k:=xs.length) hown hlen (Nat.le_refl _);rw[List.take_of_length_le (by omega)]at ho;exact⟨rfl,.inr (own_call (below_grow _ os) ho),(Lib.below_putRow HB.o hb1).trans ((below_grow _ os).mono (Lib.below_putRow HB.o hb1).size)⟩
 refine HS.mono ?_;rintro e w2 ⟨rfl,r2,b2⟩;have HR2:=h_ r2;have HB2:=h_ b2;clear r2 b2 HS HR HB;go_wp2_with fail
 have HC:Calls Tryz.prog 158 #[.slice A1 xs.length c1] w2 λe w'=>∃c',e=.returned (.slice A1 (srtN xs).length c')/\Row w' w.heap.size 9 1 A1 (srtN xs).length c' (nmC (srtN xs))/\Below w.heap.size w w':=by
  have hlen:((bytesOf xs).mergeSort λx y=>decide (x<=y)).length=xs.length:=by rw[List.length_mergeSort];simp[bytesOf]
  by_cases h0:xs.length=0
  ·obtain rfl:=List.eq_nil_of_length_eq_zero h0;refine(XNames.slices_Compact_string_empty A1 c1 w2).mono ?_;rintro e w' ⟨rfl,rfl⟩;rw[srtN_nil];exact⟨c1,rfl,by simpa[nmC,bytesOf]using HR2.o,HB2.o⟩
  ·obtain⟨g,rfl,hb1,hb2,_,hown⟩:=own_of HR2.o (by omega);have hcap:=HR2.o.cap.1;generalize hM:((bytesOf xs).mergeSort λx y=>decide (x<=y))=M at *;have hsr:srtN xs=(Lib.compact M).map λl=>⟨l.toArray⟩:=by unfold srtN sortB;rw[hM]
   obtain⟨g',cap,hv,_,_,_,_,hl,hH⟩:=Lib.holds_of_ownsRow hown (by intro e;cases e);injection hv with e1 _ e3;simp only[Option.some.injEq,Addr.mk.injEq,and_true]at e1;subst e1 e3;have hle:=Lib.compact_length_le M;have hC:=XNames.slices_Compact_string g 0 c1 M w2 hH (by omega) (by omega);rw[hlen]at hC;refine hC.mono ?_;rintro e w' ⟨rfl,q,rfl⟩;have ho:=Lib.ownsRow_putRow (q:=q) (k:=(Lib.compact M).length) (ys:=Lib.compact M++List.replicate (xs.length-(Lib.compact M).length) []) hown (by simp;omega) (by omega);rw[List.take_left]at ho;refine⟨c1,by rw[hsr,List.length_map],?_,Lib.below_putRow HB2.o hb1⟩;rw[hsr,<-enc_strs,List.length_map];exact .inr ho
 refine HC.mono ?_;rintro e w3 ⟨c3,rfl,r3,b3⟩;have HB3:=h_ b3;have hl:(srtN xs).length<=1048576:=by
  have h1:=Lib.compact_length_le ((bytesOf xs).mergeSort λx y=>decide (x<=y));rw[List.length_mergeSort]at h1;have h2:(bytesOf xs).length=xs.length:=by simp[bytesOf]
  have h3:(srtN xs).length=(sortB xs).length:=by simp[srtN]
  unfold sortB at h3;omega
 have HQ:=h_ (cloneN_any (srtN xs) A1 c3 _ w3 r3 hl);clear r3 b3 HC HR2 HB2 hl;generalize srtN xs=ys at *;go_wp2_with fail
 refine HQ.o.mono ?_;rintro e w4 ⟨A4,c4,rfl,r4,b4⟩;have HF:=h_ (And.intro (r4.down HB3.o.size) (HB3.o.trans (b4.mono HB3.o.size)));clear r4 b4 HQ;go_wp2_with fail
 go_ret;exact⟨A4,c4,rfl,HF.o.1,HF.o.2⟩
end CSorted
/- What the walks of exact laws on objects share. -/
namespace WObj
open Kit CCode CFixups CSymbols PObj BObj PValid CObjValid CSections CObject CObject2 CMarkRows
end WObj
/- The order of symbols; plain. -/
namespace PSort
open Kit CFixups CSymbols PObj BObj PValid PWarn PClear WObj
def sl(a b:ByteArray):Bool:=Op.bytesLess a.toList b.toList
section
variable (bf:Nat->Nat->Bool)
end
end PSort
end Go.Proofs.YtepoiphmmjfbdaaGreatDoor
