/- The program's and the reference's SymbolValid. -/
import Derived.Test.YtepoiphmmjfbdaaGreatDoorFnDeskRunM2
import Derived.Lib.AppendZerosOnto
import Derived.WalkSpells
import Derived.Deep.RegionHeld3
import Derived.Deep.RegionLaw
import Derived.Deep.RegionLawGrows
import Derived.Lib.SliceRun
import Derived.Test.YtepoiphmmjfbdaaGreatDoorRows
import Derived.StillTailTactics
import Derived.BigQuiet
set_option linter.unusedSimpArgs false
set_option linter.unusedVariables false
set_option maxRecDepth 200000
open Go.ChangeShapes Go.WideShapes Go.ChangeAt Go.RowKit
namespace Go.Proofs.YtepoiphmmjfbdaaGreatDoor
namespace CSymValid
open Kit CCode CName CFixups CSymbols PObj BObj PValid CSecValid
theorem sym_bind{ss:List SD}{y:YD}(h:bindOk y=false):symOk ss y=false:=by rw[symOk,h];rfl
theorem sym_place{ss:List SD}{y:YD}(h:bindOk y=true):symOk ss y=placeOk ss y:=by rw[symOk,h];rfl
set_option maxHeartbeats 1000000 in
theorem symbolValid_any(y:YD)(A:Option Addr)(ps:List SV)(c:Nat)(w:World)(hr:Rd w w.heap.size A (cellsOf secC ps))(hn:ps.length<=1048576)(h0:y.1.size<=maxLen)(hz:∀p∈ps,p.zs.length<=maxLen):
  Calls Tryz.prog 83 #[.agg #[.string y.1,.int .i64 y.2.1,.int .i64 y.2.2.1,.int .i64 y.2.2.2],.slice A ps.length c] w (Ret (.bool (symOk (ps.map SV.d) y)) w):=by
 obtain⟨nm,bd,wh,vl⟩:=y;have HR:=h_ hr;have H0:=h_ h0;simp only at h0 ⊢;clear hr h0;have B0:Below w.heap.size w (w.alloc (.cells #[.string nm,.int .i64 bd,.int .i64 wh,.int .i64 vl] 67)):=b_;have X0:=Box.new w 67 #[.string nm,.int .i64 bd,.int .i64 wh,.int .i64 vl];have HB:=h_ B0;have x0:=d_ X0 0;have x1:=d_ X0 1;have x2:=d_ X0 2;have x3:=d_ X0 3;clear B0;go_enter Tryz.func83,Tryz.ntmps83
 go_wp2_with fail
 generalize w.alloc (.cells #[.string nm,.int .i64 bd,.int .i64 wh,.int .i64 vl] 67)=w0 at *;refine(nameValid_any nm H0.o w0).mono ?_;rintro e w' ⟨rfl,rfl⟩;cases hn1:nameOk nm
 ·have HV:=h_ (sym_bind (ss:=ps.map SV.d) (y:=(nm,bd,wh,vl)) (by simp[bindOk,hn1]));go_wp2_with fail
  go_ret;exact⟨by rw[HV.o];rfl,HB.o⟩
 go_wp2_with fail
 refine(within_any _ _ _ _).mono ?_;rintro e w' ⟨rfl,rfl⟩;cases hb1:inB bd 0 2
 ·have HV:=h_ (sym_bind (ss:=ps.map SV.d) (y:=(nm,bd,wh,vl)) (by simp[bindOk,hb1]));go_wp2_with fail
  go_ret;exact⟨by rw[HV.o];rfl,HB.o⟩
 have HV:=h_ (sym_place (ss:=ps.map SV.d) (y:=(nm,bd,wh,vl)) (by simp[bindOk,hn1,hb1]));clear hn1 hb1;by_cases h1:wh=-1
 ·have hp:placeOk (ps.map SV.d) (nm,bd,wh,vl)=(decide (vl=0)&& !decide (bd=0)):=by simp only[placeOk];rw[if_pos h1]
  have e1:(wh== -1)=true:=beq_iff_eq.2 h1;rw[hp]at HV;clear hp h1;by_cases h2:vl=0
  ·have e2:(vl==0)=true:=beq_iff_eq.2 h2;rw[decide_eq_true h2]at HV;clear h2;by_cases h3:bd=0
   ·have e3:(bd != 0)=false:=by rw[h3];rfl
    rw[decide_eq_true h3]at HV;clear h3;go_wp2_with fail
    go_ret;exact⟨by rw[HV.o];rfl,HB.o⟩
   ·have e3:(bd != 0)=true:=bne_iff_ne.2 h3;rw[decide_eq_false h3]at HV;clear h3;go_wp2_with fail
    go_ret;exact⟨by rw[HV.o];rfl,HB.o⟩
  ·have e2:(vl==0)=false:=beq_eq_false_iff_ne.2 h2;rw[decide_eq_false h2,Bool.false_and]at HV;clear h2;go_wp2_with fail
   go_ret;exact⟨by rw[HV.o];rfl,HB.o⟩
 have e1:(wh== -1)=false:=beq_eq_false_iff_ne.2 h1;by_cases h2:wh=-2
 ·have hp:placeOk (ps.map SV.d) (nm,bd,wh,vl)=inB vl 0 60000:=by simp only[placeOk];rw[if_neg h1,if_pos h2]
  have e2:(wh== -2)=true:=beq_iff_eq.2 h2;rw[hp]at HV;clear hp h1 h2;go_wp2_with fail
  refine(within_any _ _ _ _).mono ?_;rintro e w' ⟨rfl,rfl⟩;generalize inB vl 0 60000=bb at *;go_wp2_with fail
  go_ret;exact⟨by rw[HV.o];rfl,HB.o⟩
 have e2:(wh== -2)=false:=beq_eq_false_iff_ne.2 h2;have hp:placeOk (ps.map SV.d) (nm,bd,wh,vl)=(inB wh 0 ((ps.length:Int)-1)&&inB vl 0 (secSize ((ps.map SV.d).getD wh.toNat ⟨ByteArray.empty,0,0,[],0,[]⟩))):=by simp only[placeOk];rw[if_neg h1,if_neg h2,List.length_map]
 rw[hp]at HV;clear hp h1 h2;have hwr:IntKind.i64.wrap ((ps.length:Int)-1)=(ps.length:Int)-1:=IntWalk.i64_in _ (by omega);go_wp2_with fail
 by_cases hw:0<=wh/\wh<=(ps.length:Int)-1
 ·obtain⟨k,rfl⟩:=Int.eq_ofNat_of_zero_le hw.1;have hlt:k<ps.length:=by omega
  have hgd:(ps.map SV.d).getD (k:Int).toNat ⟨ByteArray.empty,0,0,[],0,[]⟩=ps[k].d:=by
   rw[Int.toNat_natCast,List.getD_eq_getElem?_getD,List.getElem?_map,List.getElem?_eq_getElem hlt]
   rfl
  rw[hgd,inB_t hw,Bool.true_and]at HV;have HIN:=h_ (inB_t hw);obtain⟨b,off,rfl,hbg,hc⟩:=((HR.o.below HB.o).more HB.o.size).row secC_len (by decide) hlt;have hc0:=hc 0 _ rfl;have hc1:=hc 1 _ rfl;have hc2:=hc 2 _ rfl;have hc3:=hc 3 _ rfl;have hc4:=hc 4 _ rfl;have hc5:=hc 5 _ rfl;simp only[Nat.add_zero]at hc0;have HM:=h_ (hz _ (List.getElem_mem hlt));clear hc hgd hw hz;generalize ps[k]=p at *;have HX0:=h_ X0;have hSS:∀V:World,Below w0.heap.size w0 V->(V.cell? ⟨w.heap.size,2,none⟩=some (.int .i64 k)/\V.cell? ⟨w.heap.size,3,none⟩=some (.int .i64 vl)/\V.cell? ⟨b,off+k*6,none⟩=some (.string p.nm)/\V.cell? ⟨b,off+k*6+1,none⟩=some (.int .i64 p.kd)/\V.cell? ⟨b,off+k*6+2,none⟩=some (.int .i64 p.al)/\V.cell? ⟨b,off+k*6+3,none⟩=some (.slice p.A p.zs.length p.c)/\V.cell? ⟨b,off+k*6+4,none⟩=some (.int .i64 p.sz)/\V.cell? ⟨b,off+k*6+5,none⟩=some (.slice p.F p.fs.length p.fc)):=by intro V hV;have hl:=HX0.o.lt;exact⟨(hV.cell (p:=⟨w.heap.size,2,none⟩) hl).trans x2,(hV.cell (p:=⟨w.heap.size,3,none⟩) hl).trans x3,(hV.cell (p:=⟨b,off+k*6,none⟩) hbg).trans hc0,(hV.cell (p:=⟨b,off+k*6+1,none⟩) hbg).trans hc1,(hV.cell (p:=⟨b,off+k*6+2,none⟩) hbg).trans hc2,(hV.cell (p:=⟨b,off+k*6+3,none⟩) hbg).trans hc3,(hV.cell (p:=⟨b,off+k*6+4,none⟩) hbg).trans hc4,(hV.cell (p:=⟨b,off+k*6+5,none⟩) hbg).trans hc5⟩
  have HSS:=h_ hSS;clear hSS X0 x0 x1 x2 x3 hc0 hc1 hc2 hc3 hc4 hc5 hbg;refine Reg.startT (λV=>V.cell? ⟨w.heap.size,2,none⟩=some (.int .i64 k)/\V.cell? ⟨w.heap.size,3,none⟩=some (.int .i64 vl)/\V.cell? ⟨b,off+k*6,none⟩=some (.string p.nm)/\V.cell? ⟨b,off+k*6+1,none⟩=some (.int .i64 p.kd)/\V.cell? ⟨b,off+k*6+2,none⟩=some (.int .i64 p.al)/\V.cell? ⟨b,off+k*6+3,none⟩=some (.slice p.A p.zs.length p.c)/\V.cell? ⟨b,off+k*6+4,none⟩=some (.int .i64 p.sz)/\V.cell? ⟨b,off+k*6+5,none⟩=some (.slice p.F p.fs.length p.fc)) (λ_=>false) (by kernel_rfl) ?_;have hHeld:=HSS.o w0.drew (Below.drew (Below.refl _ _));refine t_ 0 rfl ?_;refine t_ 1 rfl ?_;refine t_ 2 rfl ?_;refine t_ 3 rfl ?_;refine t_ 4 rfl ?_;refine Reg.oneT (i:=5) rfl (by kernel_rfl) (λK hK=>?_);go_simp
  refine(within_any _ _ _ _).mono ?_;rintro e w' ⟨rfl,rfl⟩;rw[HIN.o];refine hK.out _ _ hHeld ?_;clear hK K;try simp only[y1_,y2_,y3_,Act.put,y4_,y5_,y6_]
  refine t_ 6 rfl ?_;refine t_ 7 rfl ?_;refine t_ 8 rfl ?_;refine t_ 9 rfl ?_;refine t_ 10 rfl ?_;refine t_ 11 rfl ?_;refine t_ 12 rfl ?_;refine t_ 13 rfl ?_;refine Reg.oneT (i:=14) rfl (by kernel_rfl) (λK hK=>?_);go_simp
  refine(sectionSize_any p _ HM.o).mono ?_;rintro e w5 ⟨rfl,b5⟩;have HB5:=h_ (HB.o.trans ((below_drawn b5).mono HB.o.size));have hHeld:=HSS.o w5 (below_drawn b5);refine hK.out _ _ hHeld ?_;clear hK K b5;try simp only[y1_,y2_,y3_,Act.put,y4_,y5_,y6_]
  generalize secSize p.d=q at *;refine Reg.oneT (i:=15) rfl (by kernel_rfl) (λK hK=>?_);go_simp
  refine(within_any _ _ _ _).mono ?_;rintro e w' ⟨rfl,rfl⟩;refine hK.out _ _ hHeld ?_;clear hK K;try simp only[y1_,y2_,y3_,Act.put,y4_,y5_,y6_]
  generalize inB vl 0 q=bb at *;refine t_ 16 rfl ?_;refine t_ 17 rfl ?_;refine Reg.doneT (by kernel_rfl) ?_ _;clear hHeld HSS;go_wp2_with fail
  go_ret;exact⟨by rw[HV.o];rfl,HB5.o⟩
 ·rw[inB_f hw,Bool.false_and]at HV;have HIN:=h_ (inB_f hw);clear hw hz;refine Reg.startT (λV=>V.cell? ⟨w.heap.size,2,none⟩=some (.int .i64 wh)) (λ_=>false) (by kernel_rfl) ?_;have hHeld:w0.drew.cell? ⟨w.heap.size,2,none⟩=some (.int .i64 wh):=x2;refine t_ 0 rfl ?_;refine t_ 1 rfl ?_;refine t_ 2 rfl ?_;refine t_ 3 rfl ?_;refine t_ 4 rfl ?_;refine Reg.oneT (i:=5) rfl (by kernel_rfl) (λK hK=>?_);go_simp
  refine(within_any _ _ _ _).mono ?_;rintro e w' ⟨rfl,rfl⟩;rw[HIN.o];refine hK.out _ _ hHeld ?_;clear hK K;try simp only[y1_,y2_,y3_,Act.put,y4_,y5_,y6_]
  refine t_ 6 rfl ?_;refine u_ 7 rfl ?_;try simp only[y1_,y2_,y3_,Act.put,y4_,y5_,y6_]
  refine u_ 8 rfl ?_;try simp only[y1_,y2_,y3_,Act.put,y4_,y5_,y6_]
  refine u_ 9 rfl ?_;try simp only[y1_,y2_,y3_,Act.put,y4_,y5_,y6_]
  refine u_ 10 rfl ?_;try simp only[y1_,y2_,y3_,Act.put,y4_,y5_,y6_]
  refine u_ 11 rfl ?_;try simp only[y1_,y2_,y3_,Act.put,y4_,y5_,y6_]
  refine u_ 12 rfl ?_;try simp only[y1_,y2_,y3_,Act.put,y4_,y5_,y6_]
  refine u_ 13 rfl ?_;try simp only[y1_,y2_,y3_,Act.put,y4_,y5_,y6_]
  refine u_ 14 rfl ?_;try simp only[y1_,y2_,y3_,Act.put,y4_,y5_,y6_]
  refine u_ 15 rfl ?_;try simp only[y1_,y2_,y3_,Act.put,y4_,y5_,y6_]
  refine t_ 16 rfl ?_;refine t_ 17 rfl ?_;refine Reg.doneT (by kernel_rfl) ?_ _;clear hHeld;go_wp2_with fail
  go_ret;exact⟨by rw[HV.o];rfl,Below.drew HB.o⟩
set_option maxHeartbeats 1000000 in
theorem symbolValidS_any(y:YD)(A:Option Addr)(ps:List SV)(c:Nat)(w:World)(hr:Rd w w.heap.size A (cellsOf secC ps))(hn:ps.length<=1048576)(h0:y.1.size<=maxLen)(hz:∀p∈ps,p.zs.length<=maxLen):
  Calls Tryz.prog 86 #[.agg #[.string y.1,.int .i64 y.2.1,.int .i64 y.2.2.1,.int .i64 y.2.2.2],.slice A ps.length c] w (Ret (.bool (symOk (ps.map SV.d) y)) w):=by
 obtain⟨nm,bd,wh,vl⟩:=y;have HR:=h_ hr;have H0:=h_ h0;simp only at h0 ⊢;clear hr h0;have B0:Below w.heap.size w (w.alloc (.cells #[.string nm,.int .i64 bd,.int .i64 wh,.int .i64 vl] 67)):=b_;have X0:=Box.new w 67 #[.string nm,.int .i64 bd,.int .i64 wh,.int .i64 vl];have HB:=h_ B0;have x0:=d_ X0 0;have x1:=d_ X0 1;have x2:=d_ X0 2;have x3:=d_ X0 3;clear B0;go_enter Tryz.func86,Tryz.ntmps86
 go_wp2_with fail
 generalize w.alloc (.cells #[.string nm,.int .i64 bd,.int .i64 wh,.int .i64 vl] 67)=w0 at *;refine(nameValidS_any nm H0.o w0).mono ?_;rintro e w' ⟨rfl,rfl⟩;cases hn1:nameOk nm
 ·have HV:=h_ (sym_bind (ss:=ps.map SV.d) (y:=(nm,bd,wh,vl)) (by simp[bindOk,hn1]));go_wp2_with fail
  go_ret;exact⟨by rw[HV.o];rfl,HB.o⟩
 go_wp2_with fail
 refine(l1In_any _ _ _ _).mono ?_;rintro e w' ⟨rfl,rfl⟩;cases hb1:inB bd 0 2
 ·have HV:=h_ (sym_bind (ss:=ps.map SV.d) (y:=(nm,bd,wh,vl)) (by simp[bindOk,hb1]));go_wp2_with fail
  go_ret;exact⟨by rw[HV.o];rfl,HB.o⟩
 have HV:=h_ (sym_place (ss:=ps.map SV.d) (y:=(nm,bd,wh,vl)) (by simp[bindOk,hn1,hb1]));clear hn1 hb1;by_cases h1:wh=-1
 ·have hp:placeOk (ps.map SV.d) (nm,bd,wh,vl)=(decide (vl=0)&& !decide (bd=0)):=by simp only[placeOk];rw[if_pos h1]
  have e1:(wh== -1)=true:=beq_iff_eq.2 h1;rw[hp]at HV;clear hp h1;by_cases h2:vl=0
  ·have e2:(vl==0)=true:=beq_iff_eq.2 h2;rw[decide_eq_true h2]at HV;clear h2;by_cases h3:bd=0
   ·have e3:(bd != 0)=false:=by rw[h3];rfl
    rw[decide_eq_true h3]at HV;clear h3;go_wp2_with fail
    go_ret;exact⟨by rw[HV.o];rfl,HB.o⟩
   ·have e3:(bd != 0)=true:=bne_iff_ne.2 h3;rw[decide_eq_false h3]at HV;clear h3;go_wp2_with fail
    go_ret;exact⟨by rw[HV.o];rfl,HB.o⟩
  ·have e2:(vl==0)=false:=beq_eq_false_iff_ne.2 h2;rw[decide_eq_false h2,Bool.false_and]at HV;clear h2;go_wp2_with fail
   go_ret;exact⟨by rw[HV.o];rfl,HB.o⟩
 have e1:(wh== -1)=false:=beq_eq_false_iff_ne.2 h1;by_cases h2:wh=-2
 ·have hp:placeOk (ps.map SV.d) (nm,bd,wh,vl)=inB vl 0 60000:=by simp only[placeOk];rw[if_neg h1,if_pos h2]
  have e2:(wh== -2)=true:=beq_iff_eq.2 h2;rw[hp]at HV;clear hp h1 h2;go_wp2_with fail
  refine(l1In_any _ _ _ _).mono ?_;rintro e w' ⟨rfl,rfl⟩;generalize inB vl 0 60000=bb at *;go_wp2_with fail
  go_ret;exact⟨by rw[HV.o];rfl,HB.o⟩
 have e2:(wh== -2)=false:=beq_eq_false_iff_ne.2 h2;have hp:placeOk (ps.map SV.d) (nm,bd,wh,vl)=(inB wh 0 ((ps.length:Int)-1)&&inB vl 0 (secSize ((ps.map SV.d).getD wh.toNat ⟨ByteArray.empty,0,0,[],0,[]⟩))):=by simp only[placeOk];rw[if_neg h1,if_neg h2,List.length_map]
 rw[hp]at HV;clear hp h1 h2;have hwr:IntKind.i64.wrap ((ps.length:Int)-1)=(ps.length:Int)-1:=IntWalk.i64_in _ (by omega);go_wp2_with fail
 by_cases hw:0<=wh/\wh<=(ps.length:Int)-1
 ·obtain⟨k,rfl⟩:=Int.eq_ofNat_of_zero_le hw.1;have hlt:k<ps.length:=by omega
  have hgd:(ps.map SV.d).getD (k:Int).toNat ⟨ByteArray.empty,0,0,[],0,[]⟩=ps[k].d:=by
   rw[Int.toNat_natCast,List.getD_eq_getElem?_getD,List.getElem?_map,List.getElem?_eq_getElem hlt]
   rfl
  rw[hgd,inB_t hw,Bool.true_and]at HV;have HIN:=h_ (inB_t hw);obtain⟨b,off,rfl,hbg,hc⟩:=((HR.o.below HB.o).more HB.o.size).row secC_len (by decide) hlt;have hc0:=hc 0 _ rfl;have hc1:=hc 1 _ rfl;have hc2:=hc 2 _ rfl;have hc3:=hc 3 _ rfl;have hc4:=hc 4 _ rfl;have hc5:=hc 5 _ rfl;simp only[Nat.add_zero]at hc0;have HM:=h_ (hz _ (List.getElem_mem hlt));clear hc hgd hw hz;generalize ps[k]=p at *;have HX0:=h_ X0;have hSS:∀V:World,Below w0.heap.size w0 V->(V.cell? ⟨w.heap.size,2,none⟩=some (.int .i64 k)/\V.cell? ⟨w.heap.size,3,none⟩=some (.int .i64 vl)/\V.cell? ⟨b,off+k*6,none⟩=some (.string p.nm)/\V.cell? ⟨b,off+k*6+1,none⟩=some (.int .i64 p.kd)/\V.cell? ⟨b,off+k*6+2,none⟩=some (.int .i64 p.al)/\V.cell? ⟨b,off+k*6+3,none⟩=some (.slice p.A p.zs.length p.c)/\V.cell? ⟨b,off+k*6+4,none⟩=some (.int .i64 p.sz)/\V.cell? ⟨b,off+k*6+5,none⟩=some (.slice p.F p.fs.length p.fc)):=by intro V hV;have hl:=HX0.o.lt;exact⟨(hV.cell (p:=⟨w.heap.size,2,none⟩) hl).trans x2,(hV.cell (p:=⟨w.heap.size,3,none⟩) hl).trans x3,(hV.cell (p:=⟨b,off+k*6,none⟩) hbg).trans hc0,(hV.cell (p:=⟨b,off+k*6+1,none⟩) hbg).trans hc1,(hV.cell (p:=⟨b,off+k*6+2,none⟩) hbg).trans hc2,(hV.cell (p:=⟨b,off+k*6+3,none⟩) hbg).trans hc3,(hV.cell (p:=⟨b,off+k*6+4,none⟩) hbg).trans hc4,(hV.cell (p:=⟨b,off+k*6+5,none⟩) hbg).trans hc5⟩
  have HSS:=h_ hSS;clear hSS X0 x0 x1 x2 x3 hc0 hc1 hc2 hc3 hc4 hc5 hbg;refine Reg.startT (λV=>V.cell? ⟨w.heap.size,2,none⟩=some (.int .i64 k)/\V.cell? ⟨w.heap.size,3,none⟩=some (.int .i64 vl)/\V.cell? ⟨b,off+k*6,none⟩=some (.string p.nm)/\V.cell? ⟨b,off+k*6+1,none⟩=some (.int .i64 p.kd)/\V.cell? ⟨b,off+k*6+2,none⟩=some (.int .i64 p.al)/\V.cell? ⟨b,off+k*6+3,none⟩=some (.slice p.A p.zs.length p.c)/\V.cell? ⟨b,off+k*6+4,none⟩=some (.int .i64 p.sz)/\V.cell? ⟨b,off+k*6+5,none⟩=some (.slice p.F p.fs.length p.fc)) (λ_=>false) (by kernel_rfl) ?_;have hHeld:=HSS.o w0.drew (Below.drew (Below.refl _ _));refine t_ 0 rfl ?_;refine t_ 1 rfl ?_;refine t_ 2 rfl ?_;refine t_ 3 rfl ?_;refine t_ 4 rfl ?_;refine Reg.oneT (i:=5) rfl (by kernel_rfl) (λK hK=>?_);go_simp
  refine(l1In_any _ _ _ _).mono ?_;rintro e w' ⟨rfl,rfl⟩;rw[HIN.o];refine hK.out _ _ hHeld ?_;clear hK K;try simp only[y1_,y2_,y3_,Act.put,y4_,y5_,y6_]
  refine t_ 6 rfl ?_;refine t_ 7 rfl ?_;refine t_ 8 rfl ?_;refine t_ 9 rfl ?_;refine t_ 10 rfl ?_;refine t_ 11 rfl ?_;refine t_ 12 rfl ?_;refine t_ 13 rfl ?_;refine Reg.oneT (i:=14) rfl (by kernel_rfl) (λK hK=>?_);go_simp
  refine(sectionSizeS_any p _ HM.o).mono ?_;rintro e w5 ⟨rfl,b5⟩;have HB5:=h_ (HB.o.trans ((below_drawn b5).mono HB.o.size));have hHeld:=HSS.o w5 (below_drawn b5);refine hK.out _ _ hHeld ?_;clear hK K b5;try simp only[y1_,y2_,y3_,Act.put,y4_,y5_,y6_]
  generalize secSize p.d=q at *;refine Reg.oneT (i:=15) rfl (by kernel_rfl) (λK hK=>?_);go_simp
  refine(l1In_any _ _ _ _).mono ?_;rintro e w' ⟨rfl,rfl⟩;refine hK.out _ _ hHeld ?_;clear hK K;try simp only[y1_,y2_,y3_,Act.put,y4_,y5_,y6_]
  generalize inB vl 0 q=bb at *;refine t_ 16 rfl ?_;refine t_ 17 rfl ?_;refine Reg.doneT (by kernel_rfl) ?_ _;clear hHeld HSS;go_wp2_with fail
  go_ret;exact⟨by rw[HV.o];rfl,HB5.o⟩
 ·rw[inB_f hw,Bool.false_and]at HV;have HIN:=h_ (inB_f hw);clear hw hz;refine Reg.startT (λV=>V.cell? ⟨w.heap.size,2,none⟩=some (.int .i64 wh)) (λ_=>false) (by kernel_rfl) ?_;have hHeld:w0.drew.cell? ⟨w.heap.size,2,none⟩=some (.int .i64 wh):=x2;refine t_ 0 rfl ?_;refine t_ 1 rfl ?_;refine t_ 2 rfl ?_;refine t_ 3 rfl ?_;refine t_ 4 rfl ?_;refine Reg.oneT (i:=5) rfl (by kernel_rfl) (λK hK=>?_);go_simp
  refine(l1In_any _ _ _ _).mono ?_;rintro e w' ⟨rfl,rfl⟩;rw[HIN.o];refine hK.out _ _ hHeld ?_;clear hK K;try simp only[y1_,y2_,y3_,Act.put,y4_,y5_,y6_]
  refine t_ 6 rfl ?_;refine u_ 7 rfl ?_;try simp only[y1_,y2_,y3_,Act.put,y4_,y5_,y6_]
  refine u_ 8 rfl ?_;try simp only[y1_,y2_,y3_,Act.put,y4_,y5_,y6_]
  refine u_ 9 rfl ?_;try simp only[y1_,y2_,y3_,Act.put,y4_,y5_,y6_]
  refine u_ 10 rfl ?_;try simp only[y1_,y2_,y3_,Act.put,y4_,y5_,y6_]
  refine u_ 11 rfl ?_;try simp only[y1_,y2_,y3_,Act.put,y4_,y5_,y6_]
  refine u_ 12 rfl ?_;try simp only[y1_,y2_,y3_,Act.put,y4_,y5_,y6_]
  refine u_ 13 rfl ?_;try simp only[y1_,y2_,y3_,Act.put,y4_,y5_,y6_]
  refine u_ 14 rfl ?_;try simp only[y1_,y2_,y3_,Act.put,y4_,y5_,y6_]
  refine u_ 15 rfl ?_;try simp only[y1_,y2_,y3_,Act.put,y4_,y5_,y6_]
  refine t_ 16 rfl ?_;refine t_ 17 rfl ?_;refine Reg.doneT (by kernel_rfl) ?_ _;clear hHeld;go_wp2_with fail
  go_ret;exact⟨by rw[HV.o];rfl,Below.drew HB.o⟩
end CSymValid
/- globalOf: the first symbol with a name that is not local. -/
namespace CGlobalOf
open Kit CCode CName CFixups CSymbols PObj BObj PValid CSecValid
def hit(nm:ByteArray)(x:YD):Bool:=!decide (x.2.1=0)&&decide (x.1=nm)
theorem str_eq(a b:ByteArray):(a.toList==b.toList)=decide (a=b):=by
 rw[ByteArray.toList_eq,ByteArray.toList_eq];by_cases h:a=b
 ·rw[h,decide_eq_true rfl];simp
 ·rw[decide_eq_false h,beq_eq_false_iff_ne];intro e;refine h ?_;obtain⟨⟨x⟩⟩:=a;obtain⟨⟨y⟩⟩:=b;simp at e;rw[e]
theorem pred_any(nm:ByteArray)(N:Nat)(z:YD)(w:World)(hN:N<w.heap.size)(hc:w.cell? ⟨N,0,none⟩=some (.string nm)):
  Calls Tryz.prog 139 #[.agg #[.string z.1,.int .i64 z.2.1,.int .i64 z.2.2.1,.int .i64 z.2.2.2],.pointer (some ⟨N,0,none⟩)] w (Ret (.bool (hit nm z)) w):=by
 obtain⟨zn,zb,zw,zv⟩:=z;simp only[hit];have B0:Below w.heap.size w (w.alloc (.cells #[.string zn,.int .i64 zb,.int .i64 zw,.int .i64 zv] 67)):=b_;have X0:=Box.new w 67 #[.string zn,.int .i64 zb,.int .i64 zw,.int .i64 zv];have hc1:=(B0.cell (p:=⟨N,0,none⟩) hN).trans hc;have HB:=h_ B0;have x0:=d_ X0 0;have x1:=d_ X0 1;clear B0;go_enter Tryz.func139,Tryz.ntmps139
 by_cases hz:zb=0
 ·have e1:(zb != 0)=false:=by rw[hz];rfl
  have HV:=h_ (show(!decide (zb=0)&&decide (zn=nm))=false by rw[decide_eq_true hz];rfl);clear hz;go_wp2_with fail
  go_ret;exact⟨by rw[HV.o];rfl,HB.o⟩
 ·have e1:(zb != 0)=true:=bne_iff_ne.2 hz;have HV:=h_ (show(!decide (zb=0)&&decide (zn=nm))=(zn.toList==nm.toList)by rw[decide_eq_false hz,str_eq];rfl);clear hz;generalize hq:(zn.toList==nm.toList)=q at *;go_wp2_with fail
  go_ret;exact⟨by rw[HV.o];rfl,HB.o⟩
theorem indexFunc_any(nm:ByteArray)(N:Nat)(A:Option Addr)(ys:List YD)(c:Nat)(w:World)(hr:Rd w w.heap.size A (cellsOf symbolC ys))(hm:ys.length<=maxLen)(hN:N<w.heap.size)(hc:w.cell? ⟨N,0,none⟩=some (.string nm)):
  Calls Tryz.prog 138 #[.slice A ys.length c,.func (.func 139) #[] #[.pointer (some ⟨N,0,none⟩)]] w λe w'=>∃r:Int,e=.returned (.int .i64 r)/\decide (0<=r)=ys.any (hit nm)/\Below w.heap.size w w':=by
 unfold maxLen at hm;go_enter Tryz.func138,Tryz.ntmps138
 go_wp2
 go_loopw [8] (λi wr=>∃k:Nat,k<=ys.length/\i=.int .i64 k/\(ys.take k).any (hit nm)=false/\Below w.heap.size w wr) (λi _=>ys.length-(intOf i).toNat)
 case atStart=>exact⟨0,Nat.zero_le _,rfl,rfl,Below.refl _ _⟩
 case round=>
  obtain⟨k,hk,rfl,hn,hb⟩:=hrel;have HB:=h_ hb;by_cases hlt:k<ys.length
  ·obtain⟨b,off,rfl,hbb,hcc⟩:=(hr.below hb).row symbolC_len (by decide) hlt;have hc0:=hcc 0 _ rfl;have hc1:=hcc 1 _ rfl;have hc2:=hcc 2 _ rfl;have hc3:=hcc 3 _ rfl;simp only[Nat.add_zero]at hc0;have HS:=h_ (show(ys.take (k+1)).any (hit nm)=hit nm ys[k]by rw[take_succ hlt,List.any_append,hn];simp);have HT:=h_ (show hit nm ys[k]=true->ys.any (hit nm)=true from λh=>List.any_eq_true.2 ⟨_,List.getElem_mem hlt,h⟩);have HP:=h_ (λz=>pred_any nm N z wr (Nat.lt_of_lt_of_le hN hb.size) ((hb.cell (p:=⟨N,0,none⟩) hN).trans hc));clear hr hb hcc hn hc;generalize ys[k]=z at *;have hpred:=HP.o z;cases h:hit nm z
   ·have HS':=h_ (HS.o.trans h);rw[h]at hpred;clear HT HS h HP;go_wp2_with fail
    refine hpred.mono ?_;rintro e w2 ⟨rfl,b2⟩;have HB':=h_ (HB.o.trans (b2.mono HB.o.size));clear b2 hc0 hc1 hc2 hc3;go_wp2_with fail
    refine⟨⟨k+1,by omega,by go_num,HS'.o,HB'.o⟩,by simp[intOf];omega⟩
   ·have HT':=h_ (HT.o h);rw[h]at hpred;clear HT HS h HP;go_wp2_with fail
    refine hpred.mono ?_;rintro e w2 ⟨rfl,b2⟩;have HB':=h_ (HB.o.trans (b2.mono HB.o.size));clear b2 hc0 hc1 hc2 hc3;go_wp2_with fail
    go_ret;exact⟨k,rfl,by rw[HT'.o];simp,HB'.o⟩
  ·have HN:=h_ (show ys.any (hit nm)=false by rw[<-hn,List.take_of_length_le (by omega)]);clear hr hb hn hc;go_wp2_with fail
   go_ret;exact⟨-1,rfl,by rw[HN.o];rfl,HB.o⟩
theorem globalOf_any(nm:ByteArray)(A:Option Addr)(ys:List YD)(c:Nat)(w:World)(hr:Rd w w.heap.size A (cellsOf symbolC ys))(hm:ys.length<=maxLen):
  Calls Tryz.prog 84 #[.slice A ys.length c,.string nm] w λe w'=>∃r:Int,e=.returned (.int .i64 r)/\decide (0<=r)=ys.any (hit nm)/\Below w.heap.size w w':=by
 have B0:Below w.heap.size w (w.alloc (.cells #[.string nm] 9)):=b_;have X0:=Box.new w 9 #[.string nm];have x0:=d_ X0 0;have HX:=h_ (And.intro X0.lt x0);have HB:=h_ B0;have HR:=h_ ((hr.below B0).more B0.size);clear B0 hr X0 x0;go_enter Tryz.func84,Tryz.ntmps84
 go_wp2_with fail
 refine(indexFunc_any nm w.heap.size A ys c _ HR.o hm HX.o.1 HX.o.2).mono ?_;rintro e w2 ⟨r,rfl,hr2,b2⟩;have HB2:=h_ (HB.o.trans (b2.mono HB.o.size));have H2:=h_ hr2;clear b2 hr2;go_wp2_with fail
 go_ret;exact⟨r,rfl,H2.o,HB2.o⟩
end CGlobalOf
/- The program's ObjectValid. -/
namespace CObjValid
open Kit CCode CName CFixups CSymbols PObj BObj PValid CSecValid CSecValid2 CSymValid CGlobalOf
structure Fit(o:OV):Prop where
 np:o.ps.length<=1048576
 ny:o.ys.length<=1048576
 cy:o.ys.length<=o.yc
 p:∀p∈o.ps,p.nm.size<=maxLen/\p.zs.length<=1048576/\p.fs.length<=1048576
 y:∀y∈o.ys,y.1.size<=maxLen
theorem obj_big{d:OD}(h:8<d.ss.length\/12<d.ys.length):objOk d=false:=by rw[<-Bool.not_eq_true];intro ht;simp only[objOk,Bool.and_eq_true,decide_eq_true_eq]at ht;omega
theorem obj_sec{d:OD}{p:SD}(hp:p∈d.ss)(h:secOk d.ys.length p=false):objOk d=false:=by
 rw[<-Bool.not_eq_true];intro ht;simp only[objOk,Bool.and_eq_true,decide_eq_true_eq,List.all_eq_true]at ht;rw[ht.1.2 p hp]at h;cases h
def symAt(ss:List SD)(ys:List YD)(k:Nat)(y:YD):Bool:=symOk ss y&& !(!decide (y.2.1=0)&&(ys.take k).any (hit y.1))
theorem getD_at{ys:List YD}{k:Nat}(h:k<ys.length)(d:YD):ys.getD k d=ys[k]:=by
 rw[List.getD_eq_getElem?_getD,List.getElem?_eq_getElem h]
 rfl
theorem obj_sym{d:OD}{k:Nat}(hk:k<d.ys.length)(h:symAt d.ss d.ys k d.ys[k]=false):objOk d=false:=by
 rw[<-Bool.not_eq_true];intro ht;simp only[objOk,symsOk,Bool.and_eq_true,List.all_eq_true]at ht;have h1:=ht.2 k (List.mem_range.2 hk);rw[getD_at hk]at h1;have h2:symAt d.ss d.ys k d.ys[k]=true:=by unfold symAt;rw[h1.1];exact h1.2
 rw[h2]at h;cases h
theorem obj_yes{d:OD}(h1:d.ss.length<=8)(h2:d.ys.length<=12)(h3:∀p∈d.ss,secOk d.ys.length p=true)(h4:∀k,(h:k<d.ys.length)->symAt d.ss d.ys k d.ys[k]=true):objOk d=true:=by simp only[objOk,symsOk,Bool.and_eq_true,decide_eq_true_eq,List.all_eq_true];refine⟨⟨⟨h1,h2⟩,h3⟩,λk hk=>?_⟩;have hk':=List.mem_range.1 hk;have h:=h4 k hk';rw[getD_at hk'];unfold symAt at h;rw[Bool.and_eq_true]at h;exact⟨h.1,h.2⟩
theorem _root_.Go.Proofs.YtepoiphmmjfbdaaGreatDoor.Kit.Rd.prefix_take {w:World}{B:Nat}{A:Option Addr}{ys:List YD}(h:Rd w B A (cellsOf symbolC ys))(k:Nat):Rd w B A (cellsOf symbolC (ys.take k)):=by
 have e:cellsOf symbolC ys=cellsOf symbolC (ys.take k)++cellsOf symbolC (ys.drop k):=by
  conv=>lhs;rw[<-List.take_append_drop k ys]
  simp only[cellsOf,List.flatMap_append]
 intro i u hi;refine h i u ?_;rw[e,List.getElem?_append_left (by
  rcases Nat.lt_or_ge i (cellsOf symbolC (ys.take k)).length with h'|h'
  ·exact h'
  ·rw[List.getElem?_eq_none h']at hi;cases hi)]
 exact hi
set_option maxHeartbeats 2000000 in
theorem objectValid_any(o:OV)(w:World)(hr:RdO w w.heap.size o)(hf:Fit o):
  Calls Tryz.prog 36 #[.agg #[.slice o.A o.ps.length o.c,.slice o.Y o.ys.length o.yc]] w (Ret (.bool (objOk o.d)) w):=by
 obtain⟨A,c,ps,Y,yc,ys⟩:=o;obtain⟨np,ny,cy,hp,hy⟩:=hf;simp only[OV.d]at np ny cy hp hy ⊢;have HR:=h_ hr;have HL:=h_ (And.intro hp hy);clear hr hp hy;have B0:Below w.heap.size w (w.alloc (.cells #[.slice A ps.length c,.slice Y ys.length yc] 26)):=b_;have X0:=Box.new w 26 #[.slice A ps.length c,.slice Y ys.length yc];have x0:=d_ X0 0;have x1:=d_ X0 1;have HB:=h_ B0;clear B0;go_enter Tryz.func36,Tryz.ntmps36
 by_cases b1:8<ps.length
 ·have HV:=h_ (obj_big (d:=⟨ps.map SV.d,ys⟩) (.inl (by simpa using b1)));have e1:decide ((8:Int)<ps.length)=true:=decide_eq_true (by omega);clear b1;go_wp2_with fail
  go_ret;exact⟨by rw[HV.o];rfl,HB.o⟩
 have e1:decide ((8:Int)<ps.length)=false:=decide_eq_false (by omega);by_cases b2:12<ys.length
 ·have HV:=h_ (obj_big (d:=⟨ps.map SV.d,ys⟩) (.inr b2));have e2:decide ((12:Int)<ys.length)=true:=decide_eq_true (by omega);clear b1 b2;go_wp2_with fail
  go_ret;exact⟨by rw[HV.o];rfl,HB.o⟩
 have e2:decide ((12:Int)<ys.length)=false:=decide_eq_false (by omega);go_wp2_with fail
 clear e1 e2;generalize w.alloc (.cells #[.slice A ps.length c,.slice Y ys.length yc] 26)=w0 at *;go_loopw [20] (λi wi=>∃k:Nat,k<=ps.length/\i=.int .i64 k/\(∀p∈ps.take k,secOk ys.length p.d=true)/\Box wi w.heap.size 26 #[.slice A ps.length c,.slice Y ys.length yc]/\Below w.heap.size w wi) (λi _=>ps.length-(intOf i).toNat)
 case atStart=>exact⟨0,Nat.zero_le _,rfl,λp hp=>by simp at hp,X0,HB.o⟩
 case round=>
  obtain⟨k,hk,rfl,hok,hx,hb⟩:=hrel;have HO:=h_ hok;have HX:=h_ hx;have HBI:=h_ hb;clear X0 x0 x1 HB;have x0:=d_ hx 0;have x1:=d_ hx 1;have hxl:=hx.lt;by_cases hlt:k<ps.length
  ·obtain⟨b,off,hA,hbg,hc⟩:=(HR.o.1.1.below hb).row secC_len (by decide) hlt;subst hA;have hc0:=hc 0 _ rfl;have hc1:=hc 1 _ rfl;have hc2:=hc 2 _ rfl;have hc3:=hc 3 _ rfl;have hc4:=hc 4 _ rfl;have hc5:=hc 5 _ rfl;simp only[Nat.add_zero]at hc0;have HM:=h_ (HL.o.1 _ (List.getElem_mem hlt));have HRS:=h_ (HR.o.1.2 _ (List.getElem_mem hlt));have HS:=h_ (λ(h:secOk ys.length ps[k].d=true)=>(show ∀p∈ps.take (k+1),secOk ys.length p.d=true from λp hp=>by
    rw[take_succ hlt]at hp;rcases List.mem_append.1 hp with hp|hp
    ·exact HO.o p hp
    ·rw[List.mem_singleton.1 hp];exact h))
   have HF:=h_ (λ(h:secOk ys.length ps[k].d=false)=>obj_sec (d:=⟨ps.map SV.d,ys⟩) (List.mem_map_of_mem (List.getElem_mem hlt)) h);clear hok hx hb hc HO;generalize ps[k]=p at *;go_wp2_with fail
   have B1:Below wr.heap.size wr (wr.alloc (.cells #[.string p.nm,.int .i64 p.kd,.int .i64 p.al,.slice p.A p.zs.length p.c,.int .i64 p.sz,.slice p.F p.fs.length p.fc] 61)):=b_;have HX1:=h_ (HX.o.call B1);have HB1:=h_ (HBI.o.trans (B1.mono HBI.o.size));clear hc0 hc1 hc2 hc3 hc4 hc5 B1 HX HBI x0 x1;refine(sectionValid_any p ys.length _ ((HRS.o.below HB1.o).more HB1.o.size) HM.o.1 HM.o.2.1 HM.o.2.2).mono ?_;rintro e w2 ⟨rfl,b2⟩;have HX2:=h_ (HX1.o.call b2);have HB2:=h_ (HB1.o.trans (b2.mono HB1.o.size));clear b2 HX1 HB1;cases hs:secOk ys.length p.d
   ·have HV:=h_ (HF.o hs);clear HF HS hs;go_wp2_with fail
    go_ret;exact⟨by rw[HV.o];rfl,HB2.o⟩
   ·have HS':=h_ (HS.o hs);clear HF HS hs;go_wp2_with fail
    refine⟨⟨k+1,by omega,by go_num,HS'.o,HX2.o,HB2.o⟩,by simp[intOf];omega⟩
  ·have HALL:=h_ (show ∀p∈ps.map SV.d,secOk ys.length p=true from λp hp=>by
    obtain⟨q,hq,rfl⟩:=List.mem_map.1 hp;exact HO.o q (by rw[List.take_of_length_le (by omega)];exact hq))
   clear HO hok hx hb;go_wp2_with fail
   clear x0 x1;go_loopw [34] (λi wi=>∃k:Nat,k<=ys.length/\i=.int .i64 k/\(∀j,(h:j<ys.length)->j<k->symAt (ps.map SV.d) ys j ys[j]=true)/\Box wi w.heap.size 26 #[.slice A ps.length c,.slice Y ys.length yc]/\Below w.heap.size w wi) (λi _=>ys.length-(intOf i).toNat)
   case atStart=>exact⟨0,Nat.zero_le _,rfl,λj _ hj=>absurd hj (Nat.not_lt_zero j),HX.o,HBI.o⟩
   case round=>
    obtain⟨k,hk,rfl,hok,hx,hb⟩:=hrel;clear HX HBI hxl;have HO:=h_ hok;have HX:=h_ hx;have HBI:=h_ hb;by_cases hlt:k<ys.length
    ·obtain⟨b,off,hY,hbg,hc⟩:=(HR.o.2.below hb).row symbolC_len (by decide) hlt;have hc0:=hc 0 _ rfl;have hc1:=hc 1 _ rfl;have hc2:=hc 2 _ rfl;have hc3:=hc 3 _ rfl;simp only[Nat.add_zero]at hc0;have HM:=h_ (HL.o.2 _ (List.getElem_mem hlt));have HS:=h_ (λ(h:symAt (ps.map SV.d) ys k ys[k]=true)=>(show ∀j,(h:j<ys.length)->j<k+1->symAt (ps.map SV.d) ys j ys[j]=true from λj hj hjk=>by
      rcases Nat.lt_or_ge j k with h'|h'
      ·exact HO.o j hj h'
      ·obtain rfl:j=k:=by omega
       exact h))
     have HF:=h_ (λ(h:symAt (ps.map SV.d) ys k ys[k]=false)=>obj_sym (d:=⟨ps.map SV.d,ys⟩) hlt h);have HRP:=h_ (show Rd w w.heap.size Y (cellsOf symbolC (ys.take k))from by
      have:=Rd.prefix_take HR.o.2 k;exact this)
     have hkl:(ys.take k).length=k:=by rw[List.length_take];omega
     have HPL:=h_ (show(ys.take k).length<=maxLen by rw[hkl];unfold maxLen;omega);clear hok hx hb hc HO;unfold symAt at HS HF;generalize hpre:ys.take k=pre at *;generalize ys[k]=z at *;obtain⟨zn,zb,zw,zv⟩:=z;simp only at HM hc0 hc1 hc2 hc3 HS HF;subst hY;go_wp2_with fail
     have B1:Below wr.heap.size wr (wr.alloc (.cells #[.string zn,.int .i64 zb,.int .i64 zw,.int .i64 zv] 67)):=b_;have HX1:=h_ (HX.o.call B1);have HB1:=h_ (HBI.o.trans (B1.mono HBI.o.size));have HZ1:=h_ (Box.new wr 67 #[.string zn,.int .i64 zb,.int .i64 zw,.int .i64 zv]);clear hc0 hc1 hc2 hc3 B1 HX HBI hbg;generalize wr.alloc (.cells #[.string zn,.int .i64 zb,.int .i64 zw,.int .i64 zv] 67)=w1 at *;generalize wr.heap.size=Z at *;have hSS:∀V:World,Below w1.heap.size w1 V->(V.cell? ⟨w.heap.size,0,none⟩=some (.slice A ps.length c)/\V.cell? ⟨w.heap.size,1,none⟩=some (.slice (some ⟨b,off,none⟩) ys.length yc)/\V.cell? ⟨Z,0,none⟩=some (.string zn)/\V.cell? ⟨Z,1,none⟩=some (.int .i64 zb)/\V.cell? ⟨Z,2,none⟩=some (.int .i64 zw)/\V.cell? ⟨Z,3,none⟩=some (.int .i64 zv)):=by intro V hV;exact⟨(HX1.o.call hV).cell 0,(HX1.o.call hV).cell 1,(HZ1.o.call hV).cell 0,(HZ1.o.call hV).cell 1,(HZ1.o.call hV).cell 2,(HZ1.o.call hV).cell 3⟩
     have HSS:=h_ hSS;clear hSS;refine Reg.startT (λV=>V.cell? ⟨w.heap.size,0,none⟩=some (.slice A ps.length c)/\V.cell? ⟨w.heap.size,1,none⟩=some (.slice (some ⟨b,off,none⟩) ys.length yc)/\V.cell? ⟨Z,0,none⟩=some (.string zn)/\V.cell? ⟨Z,1,none⟩=some (.int .i64 zb)/\V.cell? ⟨Z,2,none⟩=some (.int .i64 zw)/\V.cell? ⟨Z,3,none⟩=some (.int .i64 zv)) (λ_=>false) (by kernel_rfl) ?_;have hHeld:=HSS.o w1.drew (Below.drew (Below.refl _ _));refine t_ 0 rfl ?_;refine t_ 1 rfl ?_;refine t_ 2 rfl ?_;refine Reg.oneT (i:=3) rfl (by kernel_rfl) (λK hK=>?_);go_simp
     refine(symbolValid_any (zn,zb,zw,zv) A ps c _ ((HR.o.1.1.below (Below.drew HB1.o)).more (Below.drew HB1.o).size) np HM.o (λp hp=>Nat.le_trans (HL.o.1 p hp).2.1 (by decide))).mono ?_;rintro e w3 ⟨rfl,b3⟩;have HB3:=h_ (HB1.o.trans ((below_drawn b3).mono HB1.o.size));have HXB:=h_ (below_drawn b3);have hHeld:=HSS.o w3 HXB.o;refine hK.out _ _ hHeld ?_;clear hK K b3;try simp only[y1_,y2_,y3_,Act.put,y4_,y5_,y6_]
     cases hs:symOk (ps.map SV.d) (zn,zb,zw,zv)
     ·have HV:=h_ (HF.o (by rw[hs];rfl));clear HF HS hs;refine t_ 4 rfl ?_;refine t_ 5 rfl ?_;refine u_ 6 rfl ?_;try simp only[y1_,y2_,y3_,Act.put,y4_,y5_,y6_]
      refine u_ 7 rfl ?_;try simp only[y1_,y2_,y3_,Act.put,y4_,y5_,y6_]
      refine u_ 8 rfl ?_;try simp only[y1_,y2_,y3_,Act.put,y4_,y5_,y6_]
      refine u_ 9 rfl ?_;try simp only[y1_,y2_,y3_,Act.put,y4_,y5_,y6_]
      refine u_ 10 rfl ?_;try simp only[y1_,y2_,y3_,Act.put,y4_,y5_,y6_]
      refine u_ 11 rfl ?_;try simp only[y1_,y2_,y3_,Act.put,y4_,y5_,y6_]
      refine u_ 12 rfl ?_;try simp only[y1_,y2_,y3_,Act.put,y4_,y5_,y6_]
      refine u_ 13 rfl ?_;try simp only[y1_,y2_,y3_,Act.put,y4_,y5_,y6_]
      refine u_ 14 rfl ?_;try simp only[y1_,y2_,y3_,Act.put,y4_,y5_,y6_]
      refine u_ 15 rfl ?_;try simp only[y1_,y2_,y3_,Act.put,y4_,y5_,y6_]
      refine u_ 16 rfl ?_;try simp only[y1_,y2_,y3_,Act.put,y4_,y5_,y6_]
      refine u_ 17 rfl ?_;try simp only[y1_,y2_,y3_,Act.put,y4_,y5_,y6_]
      refine u_ 18 rfl ?_;try simp only[y1_,y2_,y3_,Act.put,y4_,y5_,y6_]
      refine t_ 19 rfl ?_;refine Reg.doneT (by kernel_rfl) ?_ _;clear hHeld HSS;go_wp2_with fail
      go_ret;exact⟨by rw[HV.o];rfl,HB3.o⟩
     rw[hs]at HS HF;clear hs;refine t_ 4 rfl ?_;refine t_ 5 rfl ?_;refine t_ 6 rfl ?_;refine t_ 7 rfl ?_;refine t_ 8 rfl ?_;by_cases hz:zb=0
     ·have HS':=h_ (HS.o (by rw[decide_eq_true hz];rfl));have e1:(zb != 0)=false:=by rw[hz];rfl
      clear HS HF hz;rw[e1];refine t_ 9 rfl ?_;refine u_ 10 rfl ?_;try simp only[y1_,y2_,y3_,Act.put,y4_,y5_,y6_]
      refine u_ 11 rfl ?_;try simp only[y1_,y2_,y3_,Act.put,y4_,y5_,y6_]
      refine u_ 12 rfl ?_;try simp only[y1_,y2_,y3_,Act.put,y4_,y5_,y6_]
      refine u_ 13 rfl ?_;try simp only[y1_,y2_,y3_,Act.put,y4_,y5_,y6_]
      refine u_ 14 rfl ?_;try simp only[y1_,y2_,y3_,Act.put,y4_,y5_,y6_]
      refine u_ 15 rfl ?_;try simp only[y1_,y2_,y3_,Act.put,y4_,y5_,y6_]
      refine u_ 16 rfl ?_;try simp only[y1_,y2_,y3_,Act.put,y4_,y5_,y6_]
      refine u_ 17 rfl ?_;try simp only[y1_,y2_,y3_,Act.put,y4_,y5_,y6_]
      refine t_ 18 rfl ?_;refine t_ 19 rfl ?_;refine Reg.doneT (by kernel_rfl) ?_ _;clear hHeld HSS;have HX3:=h_ (HX1.o.call HXB.o);go_wp2_with fail
      refine⟨⟨k+1,by omega,by go_num,HS'.o,HX3.o,HB3.o⟩,by simp[intOf];omega⟩
     ·have e1:(zb != 0)=true:=bne_iff_ne.2 hz;rw[decide_eq_false hz]at HS HF;clear hz;rw[e1];have hky:k<=yc:=by omega
      refine t_ 9 rfl ?_;refine t_ 10 rfl ?_;refine t_ 11 rfl ?_;refine t_ 12 rfl ?_;refine t_ 13 rfl ?_;refine t_ 14 rfl ?_;refine t_ 15 rfl ?_;refine Reg.oneT (i:=16) rfl (by kernel_rfl) (λK hK=>?_);go_simp
      have HGO:=h_ (globalOf_any zn (some ⟨b,off,none⟩) pre yc w3 ((HRP.o.below HB3.o).more HB3.o.size) HPL.o);rw[hkl]at HGO;refine HGO.o.mono ?_;rintro e w4 ⟨r,rfl,hr4,b4⟩;have HB4:=h_ (HB3.o.trans (b4.mono HB3.o.size));have HX4:=h_ ((HX1.o.call HXB.o).call b4);have hHeld:=HSS.o w4 (HXB.o.trans (b4.mono HXB.o.size));refine hK.out _ _ hHeld ?_;clear hK K b4;try simp only[y1_,y2_,y3_,Act.put,y4_,y5_,y6_]
      cases hq:pre.any (hit zn)
      ·have HS':=h_ (HS.o (by rw[hq];rfl));rw[hq]at hr4;clear HS HF hq;refine t_ 17 rfl ?_;refine t_ 18 rfl ?_;refine t_ 19 rfl ?_;refine Reg.doneT (by kernel_rfl) ?_ _;clear hHeld HSS;go_wp2_with fail
       refine⟨⟨k+1,by omega,by go_num,HS'.o,HX4.o,HB4.o⟩,by simp[intOf];omega⟩
      ·have HV:=h_ (HF.o (by rw[hq];rfl));rw[hq]at hr4;clear HS HF hq;refine t_ 17 rfl ?_;refine t_ 18 rfl ?_;refine t_ 19 rfl ?_;refine Reg.doneT (by kernel_rfl) ?_ _;clear hHeld HSS;go_wp2_with fail
       go_ret;exact⟨by rw[HV.o];rfl,HB4.o⟩
    ·have HV:=h_ (obj_yes (d:=⟨ps.map SV.d,ys⟩) (by simp;omega) (by simp;omega) HALL.o (λj hj=>HO.o j hj (Nat.lt_of_lt_of_le hj (show ys.length<=k by omega))));clear HO hok hx hb;go_wp2_with fail
     go_ret;exact⟨by rw[HV.o];rfl,HBI.o⟩
end CObjValid
/- The reference's l4Copy: an object in new memory. -/
namespace CCopyS
open Kit CFixups CSymbols PObj BObj CMarkRows CObjValid
structure Nils(o:OV):Prop where
 y:o.Y=none->o.yc=0
 p:∀p∈o.ps,(p.A=none->p.c=0)/\(p.F=none->p.fc=0)
theorem nils_own{o:OV}{w:World}{base:Nat}(h:OwnO w base o):Nils o:=⟨h.2.nil,λp hp=>⟨(h.1.2.1 p hp).1.nil,(h.1.2.1 p hp).2.nil⟩⟩
theorem infoY:(Tryz.prog.info? 67).map (λi=>(i.zero,i.size,i.bytes))=some (some (.agg #[.string ByteArray.empty,.int .i64 0,.int .i64 0,.int .i64 0]),4,40):=CSymbols.info
theorem one_sym(ys:List YD):∀u∈cellsOf symbolC ys,u.oneCell'=true:=by
 intro u hu;obtain⟨z,_,hz⟩:=List.mem_flatMap.1 hu;simp only[symbolC,List.mem_cons,List.not_mem_nil,or_false]at hz;rcases hz with rfl|rfl|rfl|rfl<;>rfl
theorem one_fix(ys:List FD):∀u∈cellsOf fixupC ys,u.oneCell'=true:=by
 intro u hu;obtain⟨z,_,hz⟩:=List.mem_flatMap.1 hu;simp only[fixupC,List.mem_cons,List.not_mem_nil,or_false]at hz;rcases hz with rfl|rfl|rfl|rfl<;>rfl
theorem one_ints(k:IntKind)(zs:List Int):∀u∈ints k zs,u.oneCell'=true:=by
 intro u hu;obtain⟨z,_,rfl⟩:=List.mem_map.1 hu
 rfl
set_option maxHeartbeats 2000000 in
theorem l4Copy_any(o:OV)(w:World)(hr:RdO w w.heap.size o)(hf:Fit o)(hn:Nils o)(hs:o.ps.length<=100/\o.ys.length<=100):
  Calls Tryz.prog 109 #[.agg #[.slice o.A o.ps.length o.c,.slice o.Y o.ys.length o.yc]] w (RetO o.d w):=by
 obtain⟨iy,hy1,hy2,hy3,hy4⟩:=info_parts infoY;obtain⟨ix,hx1,hx2,hx3,hx4⟩:=info_parts BObj.info;obtain⟨i8,h81,h82,h83,h84⟩:=info_parts CBytes.info8;obtain⟨iF,hF1,hF2,hF3,hF4⟩:=info_parts CFixups.info;have HIY:=h_ (And.intro hy1 (And.intro hy2 (And.intro hy3 hy4)));have HIX:=h_ (And.intro hx1 (And.intro hx2 (And.intro hx3 hx4)));have HI8:=h_ (And.intro h81 (And.intro h82 (And.intro h83 h84)));have HIF:=h_ (And.intro hF1 (And.intro hF2 (And.intro hF3 hF4)));clear hy1 hy2 hy3 hy4 hx1 hx2 hx3 hx4 h81 h82 h83 h84 hF1 hF2 hF3 hF4;obtain⟨A,c,ps,Y,yc,ys⟩:=o;obtain⟨np,ny,cy,hp,hy⟩:=hf;obtain⟨ny0,np0⟩:=hn;obtain⟨ss1,ss2⟩:=hs;simp only at np ny cy hp hy ny0 np0 ss1 ss2 ⊢;have HR:=h_ hr;have HL:=h_ (And.intro hp np0);have HNY:=h_ ny0;clear hr hp hy np0 ny0;have B0:Below w.heap.size w (((w.alloc (.cells #[.slice A ps.length c,.slice Y ys.length yc] 26)).alloc (.cells #[.slice none 0 0,.slice none 0 0] 26)).alloc (.cells #[] 67)):=b_;have HV0:=h_ (((Box.new w 26 #[.slice A ps.length c,.slice Y ys.length yc]).alloc (.cells #[.slice none 0 0,.slice none 0 0] 26)).alloc (.cells #[] 67));have HR0:=(Box.new (w.alloc (.cells #[.slice A ps.length c,.slice Y ys.length yc] 26)) 26 #[.slice none 0 0,.slice none 0 0]).alloc (.cells #[] 67);simp only[World.size_alloc]at HR0;have HRR0:=h_ HR0;clear HR0;have HB0:=h_ B0;have hVR:w.heap.size<w.heap.size+1:=by omega
 clear B0;go_enter Tryz.func109,Tryz.ntmps109
 go_wp2_with (at_builtin;refine wpList_app _ rfl (.tmp 6) (.tmp 8) 24 rfl 67 iy (.agg #[.string ByteArray.empty,.int .i64 0,.int .i64 0,.int .i64 0]) 4 40 Tryz.underlying24 HIY.o.1 HIY.o.2.1 HIY.o.2.2.1 HIY.o.2.2.2 rfl (by decide) w.heap.size (some ⟨w.heap.size+1+1,0,none⟩) 0 0 [] rfl (Row.empty _ _ _ _ _) HB0.o.size Y ys.length yc (cellsOf symbolC ys) rfl (HR.o.2.below HB0.o) (cellsOf_len symbolC_len ys) HNY.o (one_sym ys) ?n1 ?n2 ?_)
 case n1=>unfold maxLen;omega
 case n2=>omega
 intro A1 n1 c1 w1 hn1 o1 g1 k1;subst hn1;have HB1:=h_ (HB0.o.grown g1 HB0.o.size (λk hk=>by cases hk));have HV1:=h_ (HV0.o.grown g1 (λk hk=>by cases hk));have HRR1:=h_ (HRR0.o.grown g1 (λk hk=>by cases hk));have HY1:=h_ o1;have hR0:=HRR1.o.lt;clear o1 g1 k1 HB0 HV0 HRR0;go_wp2_with fail
 have HX2:=h_ (Box.new w1 26 #[.slice none 0 0,.slice A1 ys.length c1]);have HB2:=h_ (HB1.o.alloc HB1.o.size (.cells #[.slice none 0 0,.slice A1 ys.length c1] 26));have HV2:=h_ (HV1.o.alloc (.cells #[.slice none 0 0,.slice A1 ys.length c1] 26));have HRR2:=h_ (HRR1.o.alloc (.cells #[.slice none 0 0,.slice A1 ys.length c1] 26));have HY2:=h_ (HY1.o.alloc (.cells #[.slice none 0 0,.slice A1 ys.length c1] 26));clear HB1 HV1 HRR1 HY1;generalize w1.alloc (.cells #[.slice none 0 0,.slice A1 ys.length c1] 26)=w2 at *;have hRX:w.heap.size+1<w1.heap.size:=hR0;have hVX:w.heap.size<w1.heap.size:=by omega
 generalize w1.heap.size=X at *;generalize w.heap.size+1=R at *;go_loopw [4] (λi wi=>∃(k:Nat) (qs:List SV) (Aq:Option Addr) (cq:Nat),k<=ps.length/\qs.length=k/\i=.int .i64 k/\qs.map SV.d=(ps.take k).map SV.d/\OwnSs wi w.heap.size Aq cq qs/\Box wi X 26 #[.slice Aq k cq,.slice A1 ys.length c1]/\Row wi w.heap.size 67 4 A1 ys.length c1 (cellsOf symbolC ys)/\Box wi w.heap.size 26 #[.slice A ps.length c,.slice Y ys.length yc]/\Box wi R 26 #[.slice none 0 0,.slice none 0 0]/\Below w.heap.size w wi) (λi _=>ps.length-(intOf i).toNat)
 case atStart=>exact⟨0,[],none,0,Nat.zero_le _,rfl,rfl,rfl,⟨Row.empty _ _ _ _ _,(λp hp=>by cases hp),List.Pairwise.nil⟩,HX2.o,HY2.o,HV2.o,HRR2.o,HB2.o⟩
 case round=>
  clear HX2 HY2 HV2 HRR2 HB2;obtain⟨k,qs,Aq,cq,hk,hql,rfl,hqd,ho,hx,hrow,hv,hrr,hb⟩:=hrel;have HO:=h_ ho;have HX:=h_ hx;have HY:=h_ hrow;have HV:=h_ hv;have HRR:=h_ hrr;have HB:=h_ hb;have HQ:=h_ (And.intro hql hqd);have v0:=d_ hv 0;have x0:=d_ hx 0;have x1:=d_ hx 1;have hvl:=hv.lt;have hxl:=hx.lt;by_cases hlt:k<ps.length
  ·obtain⟨b,off,hA,hbg,hc⟩:=(HR.o.1.1.below hb).row secC_len (by decide) hlt;have hbw:b<wr.heap.size:=Nat.lt_of_lt_of_le hbg hb.size;have hc0:=hc 0 _ rfl;have hc1:=hc 1 _ rfl;have hc2:=hc 2 _ rfl;have hc3:=hc 3 _ rfl;have hc4:=hc 4 _ rfl;have hc5:=hc 5 _ rfl;simp only[Nat.add_zero]at hc0;have HM:=h_ (HL.o.1 _ (List.getElem_mem hlt));have HN:=h_ (HL.o.2 _ (List.getElem_mem hlt));have HRS:=h_ (HR.o.1.2 _ (List.getElem_mem hlt));have HD:=h_ (show(qs++[ps[k]]).map SV.d=(ps.take (k+1)).map SV.d by rw[take_succ hlt,List.map_append,List.map_append,hqd]);clear hql hqd ho hx hrow hv hrr hb hc;subst hA;generalize ps[k]=p at *;have hmz:=HM.o.2.1;have hmf:=HM.o.2.2;have Ba:Below wr.heap.size wr ((wr.alloc (.cells #[.string p.nm,.int .i64 p.kd,.int .i64 p.al,.slice p.A p.zs.length p.c,.int .i64 p.sz,.slice p.F p.fs.length p.fc] 61)).alloc (.cells #[] 5)):=b_;have HBa:=h_ (HB.o.trans (Ba.mono HB.o.size));have HSa:=h_ ((Box.new wr 61 #[.string p.nm,.int .i64 p.kd,.int .i64 p.al,.slice p.A p.zs.length p.c,.int .i64 p.sz,.slice p.F p.fs.length p.fc]).alloc (.cells #[] 5));have hsa:wr.heap.size<=((wr.alloc (.cells #[.string p.nm,.int .i64 p.kd,.int .i64 p.al,.slice p.A p.zs.length p.c,.int .i64 p.sz,.slice p.F p.fs.length p.fc] 61)).alloc (.cells #[] 5)).heap.size:=Ba.size;have HBA:=h_ Ba;clear Ba;go_wp2_with (at_builtin;refine wpList_app _ rfl (.tmp 23) (.tmp 25) 22 rfl 5 i8 (.int .u8 0) 1 1 Tryz.underlying22 HI8.o.1 HI8.o.2.1 HI8.o.2.2.1 HI8.o.2.2.2 rfl (by decide) w.heap.size (some ⟨wr.heap.size+1,0,none⟩) 0 0 [] rfl (Row.empty _ _ _ _ _) HBa.o.size p.A p.zs.length p.c (ints .u8 p.zs) rfl (HRS.o.1.below HBa.o) (by simp) HN.o.1 (one_ints _ _) ?n1 ?n2 ?_)
   case n1=>unfold maxLen;omega
   case n2=>omega
   intro A2 n2 c2 w2 hn2 o2 g2 k2;subst hn2;clear hc0 hc1 hc2 hc3 hc4 hc5 v0 x0 x1;have b2:=(Below.refl _ _).grown g2 (Nat.le_refl _) (λk h=>by cases h);have HBt:=h_ (HBA.o.trans (b2.mono HBA.o.size));have HS2:=h_ (HSa.o.call b2);have HA2:=h_ (And.intro o2 (λk (hk:blk A2 c2=some k)=>(show wr.heap.size<=k from by
    rcases k2 k hk with h|h
    ·cases h
    ·omega)))
   generalize ((wr.alloc (.cells #[.string p.nm,.int .i64 p.kd,.int .i64 p.al,.slice p.A p.zs.length p.c,.int .i64 p.sz,.slice p.F p.fs.length p.fc] 61)).alloc (.cells #[] 5))=wa at *;clear o2 g2 k2 b2 HSa HBA HBa;have s3:=HS2.o.cell 3;have s5:=HS2.o.cell 5;have sf3:=HS2.o.frozen 3;simp only[g_]at s3 s5;have hSl:=HS2.o.lt;have HB4:=h_ (show Below wr.heap.size wr ((w2.setCell ⟨wr.heap.size,3,none⟩ (.slice A2 p.zs.length c2)).alloc (.cells #[] 65))from(HBt.o.setCell (p:=⟨wr.heap.size,3,none⟩) (Nat.le_refl _) _).alloc (HBt.o.setCell (p:=⟨wr.heap.size,3,none⟩) (Nat.le_refl _) (.slice A2 p.zs.length c2)).size _);have HW4:=h_ (HB.o.trans (HB4.o.mono HB.o.size));have HS4:=h_ ((show Box (w2.setCell ⟨wr.heap.size,3,none⟩ (.slice A2 p.zs.length c2)) wr.heap.size 61 #[.string p.nm,.int .i64 p.kd,.int .i64 p.al,.slice A2 p.zs.length c2,.int .i64 p.sz,.slice p.F p.fs.length p.fc]from HS2.o.set 3 _).alloc (.cells #[] 65));have HA4:=h_ ((HA2.o.1.set (a:=⟨wr.heap.size,3,none⟩) (HA2.o.1.box HS2.o (by decide)) (.slice A2 p.zs.length c2)).alloc (.cells #[] 65));have HA2k:=h_ HA2.o.2;clear HS2 HA2 HBt;have hz4:(w2.setCell ⟨wr.heap.size,3,none⟩ (.slice A2 p.zs.length c2)).heap.size=w2.heap.size:=by simp[World.setCell]
   go_wp2_with (at_builtin;refine wpList_app _ rfl (.tmp 28) (.tmp 30) 59 rfl 65 iF (.agg #[.int .i64 0,.int .i64 0,.int .i64 0,.int .i64 0]) 4 32 Tryz.underlying59 HIF.o.1 HIF.o.2.1 HIF.o.2.2.1 HIF.o.2.2.2 rfl (by decide) w.heap.size (some ⟨w2.heap.size,0,none⟩) 0 0 [] rfl (Row.empty _ _ _ _ _) HW4.o.size p.F p.fs.length p.fc (cellsOf fixupC p.fs) rfl (HRS.o.2.below HW4.o) (cellsOf_len fixupC_len p.fs) HN.o.2 (one_fix _) ?n1 ?n2 ?_)
   case n1=>unfold maxLen;omega
   case n2=>omega
   intro A5 n5 c5 w5 hn5 o5 g5 k5;subst hn5;have b5:=(Below.refl _ _).grown g5 (Nat.le_refl _) (λk h=>by cases h);have HBt:=h_ (HB4.o.trans (b5.mono HB4.o.size));have HS5:=h_ (HS4.o.call b5);have HA5:=h_ (HA4.o.call b5);have hle4:=HBt.o.size;have hs24:wr.heap.size<=w2.heap.size:=Nat.le_of_lt hSl;have HF5:=h_ (And.intro o5 (λk (hk:blk A5 c5=some k)=>(show wr.heap.size<=k from by
    rcases k5 k hk with h|h
    ·cases h
    ·omega)))
   clear o5 g5 k5 b5 s3 s5 sf3 HS4 HA4 HB4 HW4;have s0:=HS5.o.cell 0;have s1:=HS5.o.cell 1;have s2:=HS5.o.cell 2;have s3:=HS5.o.cell 3;have s4:=HS5.o.cell 4;have s5:=HS5.o.cell 5;have sf5:=HS5.o.frozen 5;simp only[g_]at s0 s1 s2 s3 s4 s5;have hSl5:=HS5.o.lt
   -- the world behind the stores into the section's variable
   have HB6:=h_ (show Below wr.heap.size wr (w5.setCell ⟨wr.heap.size,5,none⟩ (.slice A5 p.fs.length c5))from HBt.o.setCell (p:=⟨wr.heap.size,5,none⟩) (Nat.le_refl _) _);have HA6:=h_ (HA5.o.set (a:=⟨wr.heap.size,5,none⟩) (HA5.o.box HS5.o (by decide)) (.slice A5 p.fs.length c5));have HF6:=h_ (HF5.o.1.set (a:=⟨wr.heap.size,5,none⟩) (HF5.o.1.box HS5.o (by decide)) (.slice A5 p.fs.length c5));have HFk:=h_ HF5.o.2;have HX6:=h_ (HX.o.call HB6.o);have x0:=HX6.o.cell 0;have x1:=HX6.o.cell 1;have xf0:=HX6.o.frozen 0;simp only[g_]at x0 x1;have HSS6:=h_ (show Box (w5.setCell ⟨wr.heap.size,5,none⟩ (.slice A5 p.fs.length c5)) wr.heap.size 61 #[.string p.nm,.int .i64 p.kd,.int .i64 p.al,.slice A2 p.zs.length c2,.int .i64 p.sz,.slice A5 p.fs.length c5]from HS5.o.set 5 _);have u0:=d_ HSS6.o 0;have u1:=d_ HSS6.o 1;have u2:=d_ HSS6.o 2;have u3:=d_ HSS6.o 3;have u4:=d_ HSS6.o 4;have u5:=d_ HSS6.o 5;have HO6:=h_ (HO.o.call HB6.o);have HY6:=h_ (HY.o.call HB6.o);have HV6:=h_ (HV.o.call HB6.o);have HRR6:=h_ (HRR.o.call HB6.o);have HBW6:=h_ (HB.o.trans (HB6.o.mono HB.o.size));have HQlt:=h_ (λx (hx:x∈qs) k (hk:sblk x k)=>(show k<wr.heap.size from((HO.o.2.1 x hx).lt k hk).2));have hcl:(cellsOf secC qs).length=k*6:=by rw[cellsOf_len secC_len,HQ.o.1]
   clear HA5 HF5 HX HO HY HV HRR HB HBt HS5;have hz6:(w5.setCell ⟨wr.heap.size,5,none⟩ (.slice A5 p.fs.length c5)).heap.size=w5.heap.size:=by simp[World.setCell]
   have HSEC:=h_ (show Row ((w5.setCell ⟨wr.heap.size,5,none⟩ (.slice A5 p.fs.length c5)).alloc (.cells #[.string p.nm,.int .i64 p.kd,.int .i64 p.al,.slice A2 p.zs.length c2,.int .i64 p.sz,.slice A5 p.fs.length c5] 61)) w.heap.size 61 6 Aq k cq (cellsOf secC qs)from by
    have h:=(HO6.o.1).alloc (.cells #[.string p.nm,.int .i64 p.kd,.int .i64 p.al,.slice A2 p.zs.length c2,.int .i64 p.sz,.slice A5 p.fs.length c5] 61);rw[HQ.o.1]at h;exact h)
   have HW7:=h_ (HBW6.o.alloc HBW6.o.size (.cells #[.string p.nm,.int .i64 p.kd,.int .i64 p.al,.slice A2 p.zs.length c2,.int .i64 p.sz,.slice A5 p.fs.length c5] 61));go_wp2_with (at_builtin;refine wpList_app _ rfl (.tmp 34) (.tmp 36) 23 rfl 61 ix (.agg #[.string ByteArray.empty,.int .i64 0,.int .i64 0,.slice none 0 0,.int .i64 0,.slice none 0 0]) 6 88 Tryz.underlying23 HIX.o.1 HIX.o.2.1 HIX.o.2.2.1 HIX.o.2.2.2 rfl (by decide) w.heap.size Aq k cq (cellsOf secC qs) rfl HSEC.o HW7.o.size (some ⟨w5.heap.size,0,none⟩) 1 1 [.string p.nm,.int .i64 p.kd,.int .i64 p.al,.slice A2 p.zs.length c2,.int .i64 p.sz,.slice A5 p.fs.length c5] rfl (rd_lit (w5.setCell ⟨wr.heap.size,5,none⟩ (.slice A5 p.fs.length c5)) #[.string p.nm,.int .i64 p.kd,.int .i64 p.al,.slice A2 p.zs.length c2,.int .i64 p.sz,.slice A5 p.fs.length c5] 61 _ hz6.symm) rfl (λh=>by cases h) ?o1 ?n1 ?n2 ?_)
   case o1=>intro u hu;simp only[List.mem_cons,List.not_mem_nil,or_false]at hu;rcases hu with rfl|rfl|rfl|rfl|rfl|rfl<;>rfl
   case n1=>unfold maxLen;omega
   case n2=>omega
   intro A8 n8 c8 w8 hn8 o8 g8 k8;subst hn8;have HX7:=h_ ((HX6.o.alloc (.cells #[.string p.nm,.int .i64 p.kd,.int .i64 p.al,.slice A2 p.zs.length c2,.int .i64 p.sz,.slice A5 p.fs.length c5] 61)).grown g8 (λj hj=>HSEC.o.box (HX6.o.alloc _) (by decide) j hj));have HV7:=h_ ((HV6.o.alloc (.cells #[.string p.nm,.int .i64 p.kd,.int .i64 p.al,.slice A2 p.zs.length c2,.int .i64 p.sz,.slice A5 p.fs.length c5] 61)).grown g8 (λj hj=>HSEC.o.box (HV6.o.alloc _) (by decide) j hj));have HRR7:=h_ ((HRR6.o.alloc (.cells #[.string p.nm,.int .i64 p.kd,.int .i64 p.al,.slice A2 p.zs.length c2,.int .i64 p.sz,.slice A5 p.fs.length c5] 61)).grown g8 (λj hj=>HSEC.o.box (HRR6.o.alloc _) (by decide) j hj));have HY7:=h_ ((HY6.o.alloc (.cells #[.string p.nm,.int .i64 p.kd,.int .i64 p.al,.slice A2 p.zs.length c2,.int .i64 p.sz,.slice A5 p.fs.length c5] 61)).grown g8 (λj hj h=>apartT (HY6.o.alloc _) HSEC.o (by decide) j hj h));have HBW7:=h_ (HW7.o.grown g8 HW7.o.size (λj hj=>(HSEC.o.lt j hj).1));have hgrow:∀x:SV,RwS ((w5.setCell ⟨wr.heap.size,5,none⟩ (.slice A5 p.fs.length c5)).alloc (.cells #[.string p.nm,.int .i64 p.kd,.int .i64 p.al,.slice A2 p.zs.length c2,.int .i64 p.sz,.slice A5 p.fs.length c5] 61)) w.heap.size x->RwS w8 w.heap.size x:=λx hx=>⟨hx.1.grown g8 (λj hj h=>apartT hx.1 HSEC.o (by decide) j hj h),hx.2.grown g8 (λj hj h=>apartT hx.2 HSEC.o (by decide) j hj h)⟩;have hq7:RwS ((w5.setCell ⟨wr.heap.size,5,none⟩ (.slice A5 p.fs.length c5)).alloc (.cells #[.string p.nm,.int .i64 p.kd,.int .i64 p.al,.slice A2 p.zs.length c2,.int .i64 p.sz,.slice A5 p.fs.length c5] 61)) w.heap.size ⟨p.nm,p.kd,p.al,A2,c2,p.zs,p.sz,A5,c5,p.fs⟩:=⟨HA6.o.alloc _,HF6.o.alloc _⟩;have hqs7:∀x∈qs,RwS ((w5.setCell ⟨wr.heap.size,5,none⟩ (.slice A5 p.fs.length c5)).alloc (.cells #[.string p.nm,.int .i64 p.kd,.int .i64 p.al,.slice A2 p.zs.length c2,.int .i64 p.sz,.slice A5 p.fs.length c5] 61)) w.heap.size x:=λx hx=>(HO6.o.2.1 x hx).call ((Below.refl _ _).alloc (Nat.le_refl _) _);have hX7:=HX7.o;have HOW:=h_ (show OwnSs (w8.setCell ⟨X,0,none⟩ (.slice A8 (k+1) c8)) w.heap.size A8 c8 (qs++[⟨p.nm,p.kd,p.al,A2,c2,p.zs,p.sz,A5,c5,p.fs⟩])from by
    refine⟨?_,?_,?_⟩
    ·have h:=(show Row w8 w.heap.size 61 6 A8 (k+1) c8 _ from o8).set (a:=⟨X,0,none⟩) ((show Row w8 w.heap.size 61 6 A8 (k+1) c8 _ from o8).box hX7 (by decide)) (.slice A8 (k+1) c8);rw[cells_snoc,List.length_append,HQ.o.1];exact h
    ·refine RwSs.snoc (λx hx=>?_) ?_
     ·exact(hgrow x (hqs7 x hx)).set (a:=⟨X,0,none⟩) ((hgrow x (hqs7 x hx)).box hX7 (by decide) (by decide)) _
     ·exact(hgrow _ hq7).set (a:=⟨X,0,none⟩) ((hgrow _ hq7).box hX7 (by decide) (by decide)) _
    ·refine HO6.o.2.2.snoc (N:=wr.heap.size) HQlt.o ?_;rintro j (hj|hj)
     ·exact HA2k.o j hj
     ·exact HFk.o j hj)
   have HX8:=h_ (show Box (w8.setCell ⟨X,0,none⟩ (.slice A8 (k+1) c8)) X 26 #[.slice A8 (k+1) c8,.slice A1 ys.length c1]from hX7.set 0 _);have HY8:=h_ (HY7.o.set (a:=⟨X,0,none⟩) (HY7.o.box hX7 (by decide)) (.slice A8 (k+1) c8));have HV8:=h_ (HV7.o.far (p:=⟨X,0,none⟩) (Nat.ne_of_lt hVX) (.slice A8 (k+1) c8));have HRR8:=h_ (HRR7.o.far (p:=⟨X,0,none⟩) (Nat.ne_of_lt hRX) (.slice A8 (k+1) c8));have HB8:=h_ (HBW7.o.setCell (p:=⟨X,0,none⟩) (Nat.le_of_lt hVX) (.slice A8 (k+1) c8));have x0:=hX7.cell 0;have x1:=hX7.cell 1;have xf0:=hX7.frozen 0;simp only[g_]at x0 x1;have hxl8:=hX7.lt;clear o8 g8 k8 hgrow hq7 hqs7 hX7 HX7 HV7 HRR7 HY7 HBW7 HSEC HW7 HO6 HY6 HV6 HRR6 HBW6 HX6 HSS6 u0 u1 u2 u3 u4 u5 s0 s1 s2 s3 s4 s5 sf5;go_wp2_with fail
   refine⟨⟨k+1,qs++[⟨p.nm,p.kd,p.al,A2,c2,p.zs,p.sz,A5,c5,p.fs⟩],A8,c8,by omega,by simp[HQ.o.1],by go_num,?_,HOW.o,HX8.o,HY8.o,HV8.o,HRR8.o,HB8.o⟩,by simp[intOf];omega⟩;rw[<-HD.o,List.map_append,List.map_append]
   rfl
  ·have e:k=ps.length:=by omega
   have hqd':qs.map SV.d=ps.map SV.d:=by rw[hqd,List.take_of_length_le (by omega)]
   have HOO:=h_ (show OwnO wr w.heap.size ⟨Aq,cq,qs,A1,c1,ys⟩from⟨ho,hrow⟩);have HDD:=h_ (show OV.d ⟨Aq,cq,qs,A1,c1,ys⟩=OV.d ⟨A,c,ps,Y,yc,ys⟩by simp only[OV.d,hqd']);have HNE:=h_ (show ∀j,oblk ⟨Aq,cq,qs,A1,c1,ys⟩ j->j≠R from by
    rintro j ((hj|⟨x,hx,hj⟩)|hj)
    ·exact ho.1.box hrr (by decide) j hj
    ·exact(ho.2.1 x hx).box hrr (by decide) (by decide) j hj
    ·exact hrow.box hrr (by decide) j hj)
   have HFIN:=h_ (CObject.ret_object HOO.o HB.o HNE.o (Nat.le_of_lt hVR));rw[HDD.o]at HFIN;have y0:=hrr.cell 0;have y1:=hrr.cell 1;have yf0:=hrr.frozen 0;have yf1:=hrr.frozen 1;have hrl:=hrr.lt;simp only[g_]at y0 y1;have kk:=(HRR.o.set 0 (.slice Aq qs.length cq)).set 1 (.slice A1 ys.length c1);have k0:=kk.cell 0;have k1:=kk.cell 1;simp only[k_]at k0 k1;clear kk ho hx hrow hv hrr hb hqd hqd' e;subst hql;go_wp2_with fail
   exact bodyPost_ret (v:=OV.v ⟨Aq,cq,qs,A1,c1,ys⟩) (by simp[results,Tryz.results109,go_sem,OV.v,k0,k1]) rfl HFIN.o
end CCopyS
/- slices.Clone of symbols,fixups and bytes. -/
namespace CClones
open Kit CFixups CSymbols PObj BObj CMarkRows CObjValid CCopyS
def RetRow(T m n:Nat)(xs:List Value)(w:World)(e:Ending)(w':World):Prop:=∃A c,e=.returned (.slice A n c)/\Row w' w.heap.size T m A n c xs/\Below w.heap.size w w'
theorem cloneY_any(A:Option Addr)(xs:List YD)(c B:Nat)(w:World)(hx:Rd w B A (cellsOf symbolC xs))(hB:B<=w.heap.size)(hxm:xs.length<=1048576)(hnil:A=none->c=0):
  Calls Tryz.prog 142 #[.slice A xs.length c] w (RetRow 67 4 xs.length (cellsOf symbolC xs) w):=by
 obtain⟨i0,hi,hz0,hz1,hz2⟩:=info_parts infoY;have hq:=λW=>Lib.run_eql_slice_nil (P:=Tryz.prog) W 24 67 A xs.length c 0 0 Tryz.underlying24;cases A with
 |none=>
  have hxs:xs=[]:=by
   cases xs with
   |nil=>rfl
   |cons u r=>
    obtain⟨b,off,e',_⟩:=hx 0 _ rfl;cases e'
  subst hxs;have hc:=hnil rfl;subst hc;clear hnil hx;simp only[Option.isNone_none,List.length_nil]at hq;show Calls _ _ #[.slice none 0 0] _ _
  go_enter Tryz.func142,Tryz.ntmps142
  go_wp2_with fail
  go_ret;exact⟨none,0,rfl,Row.empty _ _ _ _ _,Below.refl _ _⟩
 |some ad=>
  have HX:=h_ ((hx.more hB).below ((Below.refl _ _).alloc (Nat.le_refl _) (.cells #[] 67)));have HB:Hd (Below w.heap.size w (w.alloc (.cells #[] 67))):=b_;have HI:=h_ (And.intro hi (And.intro hz0 (And.intro hz1 hz2)));simp only[Option.isNone_some]at hq;clear hx hnil hi hz0 hz1 hz2;go_enter Tryz.func142,Tryz.ntmps142
  go_wp2_with (at_builtin;refine wpList_app _ rfl (.tmp 5) (.tmp 6) 24 rfl 67 i0 (.agg #[.string ByteArray.empty,.int .i64 0,.int .i64 0,.int .i64 0]) 4 40 Tryz.underlying24 HI.o.1 HI.o.2.1 HI.o.2.2.1 HI.o.2.2.2 rfl (by decide) w.heap.size (some ⟨w.heap.size,0,none⟩) 0 0 [] rfl (Row.empty _ _ _ _ _) HB.o.size (some ad) xs.length c (cellsOf symbolC xs) rfl HX.o (cellsOf_len symbolC_len xs) (λh=>by cases h) (one_sym xs) ?n1 ?n2 ?_)
  case n1=>unfold maxLen;omega
  case n2=>omega
  intro A6 n6 c6 w6 hn6 o6 g6 k6;have hn6:n6=xs.length:=by omega
  have HO6:=h_ (show Row w6 w.heap.size 67 4 A6 n6 c6 (cellsOf symbolC xs)from o6);have HB6:=h_ (HB.o.grown g6 HB.o.size (λk hk=>by cases hk));clear o6 g6 k6;subst hn6;go_wp2_with fail
  go_ret;exact⟨A6,c6,rfl,HO6.o,HB6.o⟩
theorem cloneF_any(A:Option Addr)(xs:List FD)(c B:Nat)(w:World)(hx:Rd w B A (cellsOf fixupC xs))(hB:B<=w.heap.size)(hxm:xs.length<=1048576)(hnil:A=none->c=0):
  Calls Tryz.prog 143 #[.slice A xs.length c] w (RetRow 65 4 xs.length (cellsOf fixupC xs) w):=by
 obtain⟨i0,hi,hz0,hz1,hz2⟩:=info_parts CFixups.info;have hq:=λW=>Lib.run_eql_slice_nil (P:=Tryz.prog) W 59 65 A xs.length c 0 0 Tryz.underlying59;cases A with
 |none=>
  have hxs:xs=[]:=by
   cases xs with
   |nil=>rfl
   |cons u r=>
    obtain⟨b,off,e',_⟩:=hx 0 _ rfl;cases e'
  subst hxs;have hc:=hnil rfl;subst hc;clear hnil hx;simp only[Option.isNone_none,List.length_nil]at hq;show Calls _ _ #[.slice none 0 0] _ _
  go_enter Tryz.func143,Tryz.ntmps143
  go_wp2_with fail
  go_ret;exact⟨none,0,rfl,Row.empty _ _ _ _ _,Below.refl _ _⟩
 |some ad=>
  have HX:=h_ ((hx.more hB).below ((Below.refl _ _).alloc (Nat.le_refl _) (.cells #[] 65)));have HB:Hd (Below w.heap.size w (w.alloc (.cells #[] 65))):=b_;have HI:=h_ (And.intro hi (And.intro hz0 (And.intro hz1 hz2)));simp only[Option.isNone_some]at hq;clear hx hnil hi hz0 hz1 hz2;go_enter Tryz.func143,Tryz.ntmps143
  go_wp2_with (at_builtin;refine wpList_app _ rfl (.tmp 5) (.tmp 6) 59 rfl 65 i0 (.agg #[.int .i64 0,.int .i64 0,.int .i64 0,.int .i64 0]) 4 32 Tryz.underlying59 HI.o.1 HI.o.2.1 HI.o.2.2.1 HI.o.2.2.2 rfl (by decide) w.heap.size (some ⟨w.heap.size,0,none⟩) 0 0 [] rfl (Row.empty _ _ _ _ _) HB.o.size (some ad) xs.length c (cellsOf fixupC xs) rfl HX.o (cellsOf_len fixupC_len xs) (λh=>by cases h) (one_fix xs) ?n1 ?n2 ?_)
  case n1=>unfold maxLen;omega
  case n2=>omega
  intro A6 n6 c6 w6 hn6 o6 g6 k6;have hn6:n6=xs.length:=by omega
  have HO6:=h_ (show Row w6 w.heap.size 65 4 A6 n6 c6 (cellsOf fixupC xs)from o6);have HB6:=h_ (HB.o.grown g6 HB.o.size (λk hk=>by cases hk));clear o6 g6 k6;subst hn6;go_wp2_with fail
  go_ret;exact⟨A6,c6,rfl,HO6.o,HB6.o⟩
theorem clone8_any(A:Option Addr)(xs:List Int)(c B:Nat)(w:World)(hx:Rd w B A (ints .u8 xs))(hB:B<=w.heap.size)(hxm:xs.length<=1048576)(hnil:A=none->c=0):
  Calls Tryz.prog 103 #[.slice A xs.length c] w (RetRow 5 1 xs.length (ints .u8 xs) w):=by
 obtain⟨i0,hi,hz0,hz1,hz2⟩:=info_parts CBytes.info8;have hq:=λW=>Lib.run_eql_slice_nil (P:=Tryz.prog) W 22 5 A xs.length c 0 0 Tryz.underlying22;cases A with
 |none=>
  have hxs:xs=[]:=by
   cases xs with
   |nil=>rfl
   |cons u r=>
    obtain⟨b,off,e',_⟩:=hx 0 (.int .u8 u) rfl;cases e'
  subst hxs;have hc:=hnil rfl;subst hc;clear hnil hx;simp only[Option.isNone_none,List.length_nil]at hq;show Calls _ _ #[.slice none 0 0] _ _
  go_enter Tryz.func103,Tryz.ntmps103
  go_wp2_with fail
  go_ret;exact⟨none,0,rfl,Row.empty _ _ _ _ _,Below.refl _ _⟩
 |some ad=>
  have HX:=h_ ((hx.more hB).below ((Below.refl _ _).alloc (Nat.le_refl _) (.cells #[] 5)));have HB:Hd (Below w.heap.size w (w.alloc (.cells #[] 5))):=b_;have HI:=h_ (And.intro hi (And.intro hz0 (And.intro hz1 hz2)));simp only[Option.isNone_some]at hq;clear hx hnil hi hz0 hz1 hz2;go_enter Tryz.func103,Tryz.ntmps103
  go_wp2_with (at_builtin;refine wpList_app _ rfl (.tmp 5) (.tmp 6) 22 rfl 5 i0 (.int .u8 0) 1 1 Tryz.underlying22 HI.o.1 HI.o.2.1 HI.o.2.2.1 HI.o.2.2.2 rfl (by decide) w.heap.size (some ⟨w.heap.size,0,none⟩) 0 0 [] rfl (Row.empty _ _ _ _ _) HB.o.size (some ad) xs.length c (ints .u8 xs) rfl HX.o (by simp) (λh=>by cases h) (one_ints _ xs) ?n1 ?n2 ?_)
  case n1=>unfold maxLen;omega
  case n2=>omega
  intro A6 n6 c6 w6 hn6 o6 g6 k6;have hn6:n6=xs.length:=by omega
  have HO6:=h_ (show Row w6 w.heap.size 5 1 A6 n6 c6 (ints .u8 xs)from o6);have HB6:=h_ (HB.o.grown g6 HB.o.size (λk hk=>by cases hk));clear o6 g6 k6;subst hn6;go_wp2_with fail
  go_ret;exact⟨A6,c6,rfl,HO6.o,HB6.o⟩
end CClones
/- The program's copyObject: an object in new memory. -/
namespace CCopyI
open Kit CFixups CSymbols PObj BObj CMarkRows CObjValid CCopyS CClones
set_option maxHeartbeats 2000000 in
theorem copyObject_any(o:OV)(w:World)(hr:RdO w w.heap.size o)(hf:Fit o)(hn:Nils o)(hs:o.ps.length<=100/\o.ys.length<=100):
  Calls Tryz.prog 90 #[.agg #[.slice o.A o.ps.length o.c,.slice o.Y o.ys.length o.yc]] w (RetO o.d w):=by
 obtain⟨ix,hx1,hx2,hx3,hx4⟩:=info_parts BObj.info;have HIX:=h_ (And.intro hx1 (And.intro hx2 (And.intro hx3 hx4)));clear hx1 hx2 hx3 hx4;obtain⟨A,c,ps,Y,yc,ys⟩:=o;obtain⟨np,ny,cy,hp,hy⟩:=hf;obtain⟨ny0,np0⟩:=hn;obtain⟨ss1,ss2⟩:=hs;simp only at np ny cy hp hy ny0 np0 ss1 ss2 ⊢;have HR:=h_ hr;have HL:=h_ (And.intro hp np0);have HNY:=h_ ny0;clear hr hp hy np0 ny0;have B0:Below w.heap.size w ((w.alloc (.cells #[.slice A ps.length c,.slice Y ys.length yc] 26)).alloc (.cells #[.slice none 0 0,.slice none 0 0] 26)):=b_;have HV0:=h_ ((Box.new w 26 #[.slice A ps.length c,.slice Y ys.length yc]).alloc (.cells #[.slice none 0 0,.slice none 0 0] 26));have HR0:=(Box.new (w.alloc (.cells #[.slice A ps.length c,.slice Y ys.length yc] 26)) 26 #[.slice none 0 0,.slice none 0 0]);simp only[World.size_alloc]at HR0;have HRR0:=h_ HR0;clear HR0;have HB0:=h_ B0;have hVR:w.heap.size<w.heap.size+1:=by omega
 clear B0;go_enter Tryz.func90,Tryz.ntmps90
 go_wp2_with fail
 refine(cloneY_any Y ys yc w.heap.size _ (HR.o.2.below HB0.o) HB0.o.size (by omega) HNY.o).mono ?_;rintro e w1 ⟨A1,c1,rfl,o1,b1⟩;have HB1:=h_ (HB0.o.trans (b1.mono HB0.o.size));have HV1:=h_ (HV0.o.call b1);have HRR1:=h_ (HRR0.o.call b1);have HY1:=h_ (o1.down HB0.o.size);have hR0:=HRR1.o.lt;have v0:=d_ HV1.o 0;have hvl1:=HV1.o.lt;clear o1 b1 HB0 HV0 HRR0;go_wp2_with fail
 clear v0;have HX2:=h_ (Box.new w1 26 #[.slice none 0 0,.slice A1 ys.length c1]);have HB2:=h_ (HB1.o.alloc HB1.o.size (.cells #[.slice none 0 0,.slice A1 ys.length c1] 26));have HV2:=h_ (HV1.o.alloc (.cells #[.slice none 0 0,.slice A1 ys.length c1] 26));have HRR2:=h_ (HRR1.o.alloc (.cells #[.slice none 0 0,.slice A1 ys.length c1] 26));have HY2:=h_ (HY1.o.alloc (.cells #[.slice none 0 0,.slice A1 ys.length c1] 26));clear HB1 HV1 HRR1 HY1;generalize w1.alloc (.cells #[.slice none 0 0,.slice A1 ys.length c1] 26)=w2 at *;have hRX:w.heap.size+1<w1.heap.size:=hR0;have hVX:w.heap.size<w1.heap.size:=by omega
 generalize w1.heap.size=X at *;generalize w.heap.size+1=R at *;go_loopw [13] (λi wi=>∃(k:Nat) (qs:List SV) (Aq:Option Addr) (cq:Nat),k<=ps.length/\qs.length=k/\i=.int .i64 k/\qs.map SV.d=(ps.take k).map SV.d/\OwnSs wi w.heap.size Aq cq qs/\Box wi X 26 #[.slice Aq k cq,.slice A1 ys.length c1]/\Row wi w.heap.size 67 4 A1 ys.length c1 (cellsOf symbolC ys)/\Box wi w.heap.size 26 #[.slice A ps.length c,.slice Y ys.length yc]/\Box wi R 26 #[.slice none 0 0,.slice none 0 0]/\Below w.heap.size w wi) (λi _=>ps.length-(intOf i).toNat)
 case atStart=>exact⟨0,[],none,0,Nat.zero_le _,rfl,rfl,rfl,⟨Row.empty _ _ _ _ _,(λp hp=>by cases hp),List.Pairwise.nil⟩,HX2.o,HY2.o,HV2.o,HRR2.o,HB2.o⟩
 case round=>
  clear HX2 HY2 HV2 HRR2 HB2;obtain⟨k,qs,Aq,cq,hk,hql,rfl,hqd,ho,hx,hrow,hv,hrr,hb⟩:=hrel;have HO:=h_ ho;have HX:=h_ hx;have HY:=h_ hrow;have HV:=h_ hv;have HRR:=h_ hrr;have HB:=h_ hb;have HQ:=h_ (And.intro hql hqd);have v0:=d_ hv 0;have x0:=d_ hx 0;have x1:=d_ hx 1;have hvl:=hv.lt;have hxl:=hx.lt;by_cases hlt:k<ps.length
  ·obtain⟨b,off,hA,hbg,hc⟩:=(HR.o.1.1.below hb).row secC_len (by decide) hlt;have hbw:b<wr.heap.size:=Nat.lt_of_lt_of_le hbg hb.size;have hc0:=hc 0 _ rfl;have hc1:=hc 1 _ rfl;have hc2:=hc 2 _ rfl;have hc3:=hc 3 _ rfl;have hc4:=hc 4 _ rfl;have hc5:=hc 5 _ rfl;simp only[Nat.add_zero]at hc0;have HM:=h_ (HL.o.1 _ (List.getElem_mem hlt));have HN:=h_ (HL.o.2 _ (List.getElem_mem hlt));have HRS:=h_ (HR.o.1.2 _ (List.getElem_mem hlt));have HD:=h_ (show(qs++[ps[k]]).map SV.d=(ps.take (k+1)).map SV.d by rw[take_succ hlt,List.map_append,List.map_append,hqd]);clear hql hqd ho hx hrow hv hrr hb hc;subst hA;generalize ps[k]=p at *;have hmz:=HM.o.2.1;have hmf:=HM.o.2.2;go_wp2_with fail
   have HSa:=Box.new wr 61 #[.string p.nm,.int .i64 p.kd,.int .i64 p.al,.slice p.A p.zs.length p.c,.int .i64 p.sz,.slice p.F p.fs.length p.fc];have HBA:=h_ (show Below wr.heap.size wr (wr.alloc (.cells #[.string p.nm,.int .i64 p.kd,.int .i64 p.al,.slice p.A p.zs.length p.c,.int .i64 p.sz,.slice p.F p.fs.length p.fc] 61))from b_);generalize wr.alloc (.cells #[.string p.nm,.int .i64 p.kd,.int .i64 p.al,.slice p.A p.zs.length p.c,.int .i64 p.sz,.slice p.F p.fs.length p.fc] 61)=wa at *;have Z0:wa.cell? ⟨wr.heap.size,3,none⟩=some (.slice p.A p.zs.length p.c)/\wa.cell? ⟨wr.heap.size,5,none⟩=some (.slice p.F p.fs.length p.fc):=⟨HSa.cell 3,HSa.cell 5⟩;have hSa:=HSa.lt;have HS:=h_ HSa;have HWA:=h_ (HB.o.trans (HBA.o.mono HB.o.size));clear HSa hc0 hc1 hc2 hc3 hc4 hc5 v0 x0 x1;refine Reg.startT (λW=>W.cell? ⟨wr.heap.size,3,none⟩=some (.slice p.A p.zs.length p.c)/\W.cell? ⟨wr.heap.size,5,none⟩=some (.slice p.F p.fs.length p.fc)) (λj=>j==7||j==8||j==9) (by kernel_rfl) ?_
   have hHeld:wa.drew.cell? ⟨wr.heap.size,3,none⟩=some (.slice p.A p.zs.length p.c)/\wa.drew.cell? ⟨wr.heap.size,5,none⟩=some (.slice p.F p.fs.length p.fc):=Z0;refine t_ 0 rfl ?_;refine t_ 1 rfl ?_;refine t_ 3 rfl ?_;refine t_ 4 rfl ?_;clear hHeld;refine Reg.oneT (i:=2) rfl (by kernel_rfl) (λK hK=>?_);go_simp
   refine(clone8_any p.A p.zs p.c w.heap.size _ (HRS.o.1.below (HWA.o.drew)) (show w.heap.size<=wa.drew.heap.size from HWA.o.size) (by omega) HN.o.1).mono ?_;rintro e w2 ⟨A2,c2,rfl,o2,b2⟩;have b2':Below wa.heap.size wa w2:=below_drawn b2;have HS2:=h_ (HS.o.call b2');have HA2:=h_ (And.intro (o2.down (show w.heap.size<=wa.drew.heap.size from HWA.o.size)) (λk (hk:blk A2 c2=some k)=>(show wr.heap.size<=k from Nat.le_trans HBA.o.size ((o2.lt k hk).1))));have HBt:=h_ (HBA.o.trans (b2'.mono HBA.o.size));have hHeld:w2.cell? ⟨wr.heap.size,3,none⟩=some (.slice p.A p.zs.length p.c)/\w2.cell? ⟨wr.heap.size,5,none⟩=some (.slice p.F p.fs.length p.fc):=⟨HS2.o.cell 3,HS2.o.cell 5⟩;clear o2 b2 b2' HS Z0;refine hK.out _ _ hHeld ?_;clear hK K;try simp only[y1_,y2_,y3_,Act.put,y4_,y5_,y6_]
   refine t_ 6 rfl ?_;clear hHeld;refine Reg.oneT (i:=5) rfl (by kernel_rfl) (λK hK=>?_);go_simp
   have HW2:=h_ (HB.o.trans (HBt.o.mono HB.o.size));refine(cloneF_any p.F p.fs p.fc w.heap.size _ (HRS.o.2.below HW2.o) HW2.o.size (by omega) HN.o.2).mono ?_;rintro e w4 ⟨A5,c5,rfl,o5,b5⟩;have HS4:=h_ (HS2.o.call b5);have HA4:=h_ (HA2.o.1.call b5);have HA2k:=h_ HA2.o.2;have HF4:=h_ (And.intro (o5.down HW2.o.size) (λk (hk:blk A5 c5=some k)=>(show wr.heap.size<=k from Nat.le_trans HBt.o.size ((o5.lt k hk).1))));have HB4:=h_ (HBt.o.trans (b5.mono HBt.o.size));have hHeld:w4.cell? ⟨wr.heap.size,3,none⟩=some (.slice p.A p.zs.length p.c)/\w4.cell? ⟨wr.heap.size,5,none⟩=some (.slice p.F p.fs.length p.fc):=⟨HS4.o.cell 3,HS4.o.cell 5⟩;have sf3:=HS4.o.frozen 3;have sf5:=HS4.o.frozen 5;have s3:=hHeld.1;have s5:=hHeld.2;have hSl4:=HS4.o.lt;clear o5 b5 HS2 HA2 HBt HW2;refine hK.out _ _ hHeld ?_;clear hK K;try simp only[y1_,y2_,y3_,Act.put,y4_,y5_,y6_]
   refine Reg.lastT (i:=7) rfl (by kernel_rfl) (by rfl) (λK hK=>?_);go_simp
   refine hK.out _ _ ?_;clear hK K;try simp only[y1_,y2_,y3_,Act.put,y4_,y5_,y6_]
   refine Reg.lastT (i:=8) rfl (by kernel_rfl) (by rfl) (λK hK=>?_);go_simp
   refine hK.out _ _ ?_;clear hK K;try simp only[y1_,y2_,y3_,Act.put,y4_,y5_,y6_]
   refine Reg.lastT (i:=9) rfl (by kernel_rfl) (by rfl) (λK hK=>?_);go_simp
   refine hK.out _ _ ?_;clear hK K hHeld s3 s5;try simp only[y1_,y2_,y3_,Act.put,y4_,y5_,y6_]
   refine Reg.doneT (by kernel_rfl) ?_ _;have HS5:=h_ (show Box (w4.setCell ⟨wr.heap.size,3,none⟩ (.slice A2 p.zs.length c2)) wr.heap.size 61 #[.string p.nm,.int .i64 p.kd,.int .i64 p.al,.slice A2 p.zs.length c2,.int .i64 p.sz,.slice p.F p.fs.length p.fc]from HS4.o.set 3 _);have HA5:=h_ (HA4.o.set (a:=⟨wr.heap.size,3,none⟩) (HA4.o.box HS4.o (by decide)) (.slice A2 p.zs.length c2));have HF5:=h_ (And.intro (HF4.o.1.set (a:=⟨wr.heap.size,3,none⟩) (HF4.o.1.box HS4.o (by decide)) (.slice A2 p.zs.length c2)) HF4.o.2);have HBt:=h_ (HB4.o.setCell (p:=⟨wr.heap.size,3,none⟩) (Nat.le_refl _) (.slice A2 p.zs.length c2));clear HS4 HA4 HF4 HB4 sf3 sf5;generalize w4.setCell ⟨wr.heap.size,3,none⟩ (.slice A2 p.zs.length c2)=w5 at *;have s0:=HS5.o.cell 0;have s1:=HS5.o.cell 1;have s2:=HS5.o.cell 2;have s3:=HS5.o.cell 3;have s4:=HS5.o.cell 4;have s5:=HS5.o.cell 5;have sf5:=HS5.o.frozen 5;simp only[g_]at s0 s1 s2 s3 s4 s5;have hSl5:=HS5.o.lt
   -- the world behind the stores into the section's variable
   have HB6:=h_ (show Below wr.heap.size wr (w5.setCell ⟨wr.heap.size,5,none⟩ (.slice A5 p.fs.length c5))from HBt.o.setCell (p:=⟨wr.heap.size,5,none⟩) (Nat.le_refl _) _);have HA6:=h_ (HA5.o.set (a:=⟨wr.heap.size,5,none⟩) (HA5.o.box HS5.o (by decide)) (.slice A5 p.fs.length c5));have HF6:=h_ (HF5.o.1.set (a:=⟨wr.heap.size,5,none⟩) (HF5.o.1.box HS5.o (by decide)) (.slice A5 p.fs.length c5));have HFk:=h_ HF5.o.2;have HX6:=h_ (HX.o.call HB6.o);have x0:=HX6.o.cell 0;have x1:=HX6.o.cell 1;have xf0:=HX6.o.frozen 0;simp only[g_]at x0 x1;have HSS6:=h_ (show Box (w5.setCell ⟨wr.heap.size,5,none⟩ (.slice A5 p.fs.length c5)) wr.heap.size 61 #[.string p.nm,.int .i64 p.kd,.int .i64 p.al,.slice A2 p.zs.length c2,.int .i64 p.sz,.slice A5 p.fs.length c5]from HS5.o.set 5 _);have u0:=d_ HSS6.o 0;have u1:=d_ HSS6.o 1;have u2:=d_ HSS6.o 2;have u3:=d_ HSS6.o 3;have u4:=d_ HSS6.o 4;have u5:=d_ HSS6.o 5;have HO6:=h_ (HO.o.call HB6.o);have HY6:=h_ (HY.o.call HB6.o);have HV6:=h_ (HV.o.call HB6.o);have HRR6:=h_ (HRR.o.call HB6.o);have HBW6:=h_ (HB.o.trans (HB6.o.mono HB.o.size));have HQlt:=h_ (λx (hx:x∈qs) k (hk:sblk x k)=>(show k<wr.heap.size from((HO.o.2.1 x hx).lt k hk).2));have hcl:(cellsOf secC qs).length=k*6:=by rw[cellsOf_len secC_len,HQ.o.1]
   clear HA5 HF5 HX HO HY HV HRR HB HBt HS5;have hz6:(w5.setCell ⟨wr.heap.size,5,none⟩ (.slice A5 p.fs.length c5)).heap.size=w5.heap.size:=by simp[World.setCell]
   have HSEC:=h_ (show Row ((w5.setCell ⟨wr.heap.size,5,none⟩ (.slice A5 p.fs.length c5)).alloc (.cells #[.string p.nm,.int .i64 p.kd,.int .i64 p.al,.slice A2 p.zs.length c2,.int .i64 p.sz,.slice A5 p.fs.length c5] 61)) w.heap.size 61 6 Aq k cq (cellsOf secC qs)from by
    have h:=(HO6.o.1).alloc (.cells #[.string p.nm,.int .i64 p.kd,.int .i64 p.al,.slice A2 p.zs.length c2,.int .i64 p.sz,.slice A5 p.fs.length c5] 61);rw[HQ.o.1]at h;exact h)
   have HW7:=h_ (HBW6.o.alloc HBW6.o.size (.cells #[.string p.nm,.int .i64 p.kd,.int .i64 p.al,.slice A2 p.zs.length c2,.int .i64 p.sz,.slice A5 p.fs.length c5] 61));go_wp2_with (at_builtin;refine wpList_app _ rfl (.tmp 26) (.tmp 28) 23 rfl 61 ix (.agg #[.string ByteArray.empty,.int .i64 0,.int .i64 0,.slice none 0 0,.int .i64 0,.slice none 0 0]) 6 88 Tryz.underlying23 HIX.o.1 HIX.o.2.1 HIX.o.2.2.1 HIX.o.2.2.2 rfl (by decide) w.heap.size Aq k cq (cellsOf secC qs) rfl HSEC.o HW7.o.size (some ⟨w5.heap.size,0,none⟩) 1 1 [.string p.nm,.int .i64 p.kd,.int .i64 p.al,.slice A2 p.zs.length c2,.int .i64 p.sz,.slice A5 p.fs.length c5] rfl (rd_lit (w5.setCell ⟨wr.heap.size,5,none⟩ (.slice A5 p.fs.length c5)) #[.string p.nm,.int .i64 p.kd,.int .i64 p.al,.slice A2 p.zs.length c2,.int .i64 p.sz,.slice A5 p.fs.length c5] 61 _ hz6.symm) rfl (λh=>by cases h) ?o1 ?n1 ?n2 ?_)
   case o1=>intro u hu;simp only[List.mem_cons,List.not_mem_nil,or_false]at hu;rcases hu with rfl|rfl|rfl|rfl|rfl|rfl<;>rfl
   case n1=>unfold maxLen;omega
   case n2=>omega
   intro A8 n8 c8 w8 hn8 o8 g8 k8;subst hn8;have HX7:=h_ ((HX6.o.alloc (.cells #[.string p.nm,.int .i64 p.kd,.int .i64 p.al,.slice A2 p.zs.length c2,.int .i64 p.sz,.slice A5 p.fs.length c5] 61)).grown g8 (λj hj=>HSEC.o.box (HX6.o.alloc _) (by decide) j hj));have HV7:=h_ ((HV6.o.alloc (.cells #[.string p.nm,.int .i64 p.kd,.int .i64 p.al,.slice A2 p.zs.length c2,.int .i64 p.sz,.slice A5 p.fs.length c5] 61)).grown g8 (λj hj=>HSEC.o.box (HV6.o.alloc _) (by decide) j hj));have HRR7:=h_ ((HRR6.o.alloc (.cells #[.string p.nm,.int .i64 p.kd,.int .i64 p.al,.slice A2 p.zs.length c2,.int .i64 p.sz,.slice A5 p.fs.length c5] 61)).grown g8 (λj hj=>HSEC.o.box (HRR6.o.alloc _) (by decide) j hj));have HY7:=h_ ((HY6.o.alloc (.cells #[.string p.nm,.int .i64 p.kd,.int .i64 p.al,.slice A2 p.zs.length c2,.int .i64 p.sz,.slice A5 p.fs.length c5] 61)).grown g8 (λj hj h=>apartT (HY6.o.alloc _) HSEC.o (by decide) j hj h));have HBW7:=h_ (HW7.o.grown g8 HW7.o.size (λj hj=>(HSEC.o.lt j hj).1));have hgrow:∀x:SV,RwS ((w5.setCell ⟨wr.heap.size,5,none⟩ (.slice A5 p.fs.length c5)).alloc (.cells #[.string p.nm,.int .i64 p.kd,.int .i64 p.al,.slice A2 p.zs.length c2,.int .i64 p.sz,.slice A5 p.fs.length c5] 61)) w.heap.size x->RwS w8 w.heap.size x:=λx hx=>⟨hx.1.grown g8 (λj hj h=>apartT hx.1 HSEC.o (by decide) j hj h),hx.2.grown g8 (λj hj h=>apartT hx.2 HSEC.o (by decide) j hj h)⟩;have hq7:RwS ((w5.setCell ⟨wr.heap.size,5,none⟩ (.slice A5 p.fs.length c5)).alloc (.cells #[.string p.nm,.int .i64 p.kd,.int .i64 p.al,.slice A2 p.zs.length c2,.int .i64 p.sz,.slice A5 p.fs.length c5] 61)) w.heap.size ⟨p.nm,p.kd,p.al,A2,c2,p.zs,p.sz,A5,c5,p.fs⟩:=⟨HA6.o.alloc _,HF6.o.alloc _⟩;have hqs7:∀x∈qs,RwS ((w5.setCell ⟨wr.heap.size,5,none⟩ (.slice A5 p.fs.length c5)).alloc (.cells #[.string p.nm,.int .i64 p.kd,.int .i64 p.al,.slice A2 p.zs.length c2,.int .i64 p.sz,.slice A5 p.fs.length c5] 61)) w.heap.size x:=λx hx=>(HO6.o.2.1 x hx).call ((Below.refl _ _).alloc (Nat.le_refl _) _);have hX7:=HX7.o;have HOW:=h_ (show OwnSs (w8.setCell ⟨X,0,none⟩ (.slice A8 (k+1) c8)) w.heap.size A8 c8 (qs++[⟨p.nm,p.kd,p.al,A2,c2,p.zs,p.sz,A5,c5,p.fs⟩])from by
    refine⟨?_,?_,?_⟩
    ·have h:=(show Row w8 w.heap.size 61 6 A8 (k+1) c8 _ from o8).set (a:=⟨X,0,none⟩) ((show Row w8 w.heap.size 61 6 A8 (k+1) c8 _ from o8).box hX7 (by decide)) (.slice A8 (k+1) c8);rw[cells_snoc,List.length_append,HQ.o.1];exact h
    ·refine RwSs.snoc (λx hx=>?_) ?_
     ·exact(hgrow x (hqs7 x hx)).set (a:=⟨X,0,none⟩) ((hgrow x (hqs7 x hx)).box hX7 (by decide) (by decide)) _
     ·exact(hgrow _ hq7).set (a:=⟨X,0,none⟩) ((hgrow _ hq7).box hX7 (by decide) (by decide)) _
    ·refine HO6.o.2.2.snoc (N:=wr.heap.size) HQlt.o ?_;rintro j (hj|hj)
     ·exact HA2k.o j hj
     ·exact HFk.o j hj)
   have HX8:=h_ (show Box (w8.setCell ⟨X,0,none⟩ (.slice A8 (k+1) c8)) X 26 #[.slice A8 (k+1) c8,.slice A1 ys.length c1]from hX7.set 0 _);have HY8:=h_ (HY7.o.set (a:=⟨X,0,none⟩) (HY7.o.box hX7 (by decide)) (.slice A8 (k+1) c8));have HV8:=h_ (HV7.o.far (p:=⟨X,0,none⟩) (Nat.ne_of_lt hVX) (.slice A8 (k+1) c8));have HRR8:=h_ (HRR7.o.far (p:=⟨X,0,none⟩) (Nat.ne_of_lt hRX) (.slice A8 (k+1) c8));have HB8:=h_ (HBW7.o.setCell (p:=⟨X,0,none⟩) (Nat.le_of_lt hVX) (.slice A8 (k+1) c8));have x0:=hX7.cell 0;have x1:=hX7.cell 1;have xf0:=hX7.frozen 0;simp only[g_]at x0 x1;have hxl8:=hX7.lt;clear o8 g8 k8 hgrow hq7 hqs7 hX7 HX7 HV7 HRR7 HY7 HBW7 HSEC HW7 HO6 HY6 HV6 HRR6 HBW6 HX6 HSS6 u0 u1 u2 u3 u4 u5 s0 s1 s2 s3 s4 s5 sf5;go_wp2_with fail
   refine⟨⟨k+1,qs++[⟨p.nm,p.kd,p.al,A2,c2,p.zs,p.sz,A5,c5,p.fs⟩],A8,c8,by omega,by simp[HQ.o.1],by go_num,?_,HOW.o,HX8.o,HY8.o,HV8.o,HRR8.o,HB8.o⟩,by simp[intOf];omega⟩;rw[<-HD.o,List.map_append,List.map_append]
   rfl
  ·have e:k=ps.length:=by omega
   have hqd':qs.map SV.d=ps.map SV.d:=by rw[hqd,List.take_of_length_le (by omega)]
   have HOO:=h_ (show OwnO wr w.heap.size ⟨Aq,cq,qs,A1,c1,ys⟩from⟨ho,hrow⟩);have HDD:=h_ (show OV.d ⟨Aq,cq,qs,A1,c1,ys⟩=OV.d ⟨A,c,ps,Y,yc,ys⟩by simp only[OV.d,hqd']);have HNE:=h_ (show ∀j,oblk ⟨Aq,cq,qs,A1,c1,ys⟩ j->j≠R from by
    rintro j ((hj|⟨x,hx,hj⟩)|hj)
    ·exact ho.1.box hrr (by decide) j hj
    ·exact(ho.2.1 x hx).box hrr (by decide) (by decide) j hj
    ·exact hrow.box hrr (by decide) j hj)
   have HFIN:=h_ (CObject.ret_object HOO.o HB.o HNE.o (Nat.le_of_lt hVR));rw[HDD.o]at HFIN;have y0:=hrr.cell 0;have y1:=hrr.cell 1;have yf0:=hrr.frozen 0;have yf1:=hrr.frozen 1;have hrl:=hrr.lt;simp only[g_]at y0 y1;have kk:=(HRR.o.set 0 (.slice Aq qs.length cq)).set 1 (.slice A1 ys.length c1);have k0:=kk.cell 0;have k1:=kk.cell 1;simp only[k_]at k0 k1;clear kk ho hx hrow hv hrr hb hqd hqd' e;subst hql;go_wp2_with fail
   exact bodyPost_ret (v:=OV.v ⟨Aq,cq,qs,A1,c1,ys⟩) (by simp[results,Tryz.results90,go_sem,OV.v,k0,k1]) rfl HFIN.o
end CCopyI
/- Stores into an object of one's own: a byte,a fixup's To,a symbol. -/
namespace BStore
open Kit CFixups CSymbols PObj BObj CMarkRows
theorem own_of{w:World}{base:Nat}{e:TypeId}{size n c:Nat}{A:Option Addr}{xs:List Value}(h:Row w base e size A n c xs)(hn:0<n):
  ∃g,A=some ⟨g,0,none⟩/\base<=g/\g<w.heap.size/\blk A c=some g/\w.ownsRow base e size (.slice (some ⟨g,0,none⟩) n c) n xs:=by
 have hc:c≠0:=by have:=h.cap.1;omega
 have hown:w.ownsRow base e size (.slice A n c) n xs:=h.elim (λh=>absurd h.2.1 hc) id;rcases hown.2 with⟨hv,h0⟩|⟨g,cap,c',hv,hN,_⟩
 ·omega
 ·injection hv with hA;subst hA;have hb:blk (some ⟨g,0,none⟩) c=some g:=by
   unfold blk;rw[if_neg hc]
   rfl
  exact⟨g,rfl,hN,(h.lt g hb).2,hb,hown⟩
theorem OwnO.swap {w w':World}{base c yc:Nat}{A Y:Option Addr}{l1 l2:List SV}{q:SV}{ys:List YD}(h:OwnO w base ⟨A,c,l1++q::l2,Y,yc,ys⟩)(q':SV)
  (hs:secC q'=secC q)(h1:q'.A=q.A)(h2:q'.c=q.c)(h3:q'.F=q.F)(h4:q'.fc=q.fc)(hq':RwS w' base q')(g:Nat)(hg:sblk q g)(hk:∀k,k≠g->w'.heap[k]?=w.heap[k]?):
  OwnO w' base ⟨A,c,l1++q'::l2,Y,yc,ys⟩:=by
 obtain⟨⟨hrow,hrw,hpw⟩,hy⟩:=h;simp only at hrow hrw hpw hy;have hq:=hrw q (by simp);unfold PwSs at hpw;obtain⟨p1,p2,p3⟩:=List.pairwise_append.1 hpw;obtain⟨p4,p5⟩:=List.pairwise_cons.1 p2;have happ:∀x,RwS w base x->(ApS x q\/ApS q x)->RwS w' base x:=by
  rintro x hx ha;refine⟨hx.1.keep λk hb=>hk k ?_,hx.2.keep λk hb=>hk k ?_⟩
  ·rintro rfl;rcases hg with hg|hg
   ·rcases ha with ha|ha
    ·exact ha.1 _ hb hg
    ·exact ha.1 _ hg hb
   ·exact apartT hx.1 hq.2 (by decide) _ hb hg
  ·rintro rfl;rcases hg with hg|hg
   ·exact apartT hx.2 hq.1 (by decide) _ hb hg
   ·rcases ha with ha|ha
    ·exact ha.2 _ hb hg
    ·exact ha.2 _ hg hb
 have hap:∀x,(ApS x q'↔ApS x q)/\(ApS q' x↔ApS q x):=λx=>by unfold ApS;rw[h1,h2,h3,h4];exact⟨Iff.rfl,Iff.rfl⟩
 refine⟨⟨?_,?_,?_⟩,?_⟩
 ·have e1:cellsOf secC (l1++q'::l2)=cellsOf secC (l1++q::l2):=by simp[cellsOf,hs]
  have e2:(l1++q'::l2).length=(l1++q::l2).length:=by simp
  show Row w' base _ 6 A (l1++q'::l2).length c (cellsOf secC (l1++q'::l2))
  rw[e1,e2];refine hrow.keep λk hb=>hk k ?_;rintro rfl;rcases hg with hg|hg
  ·exact apartT hrow hq.1 (by decide) _ hb hg
  ·exact apartT hrow hq.2 (by decide) _ hb hg
 ·intro x hx;rcases List.mem_append.1 hx with hx|hx
  ·exact happ x (hrw x (by simp[hx])) (.inl (p3 x hx q (List.mem_cons_self ..)))
  ·rcases List.mem_cons.1 hx with rfl|hx
   ·exact hq'
   ·exact happ x (hrw x (by simp[hx])) (.inr (p4 x hx))
 ·show(l1++q'::l2).Pairwise ApS
  refine List.pairwise_append.2 ⟨p1,List.pairwise_cons.2 ⟨λx hx=>(hap x).2.2 (p4 x hx),p5⟩,λa ha b hb=>?_⟩;rcases List.mem_cons.1 hb with rfl|hb
  ·exact(hap a).1.2 (p3 a ha q (List.mem_cons_self ..))
  ·exact p3 a ha b (List.mem_cons_of_mem _ hb)
 ·show Row w' base _ 4 Y ys.length yc _
  refine hy.keep λk hb=>hk k ?_;rintro rfl;rcases hg with hg|hg
  ·exact apartT hy hq.1 (by decide) _ hb hg
  ·exact apartT hy hq.2 (by decide) _ hb hg
theorem setFix(l:List FD)(j:Nat)(z:FD)(hz:l[j]?=some z)(x:Int):(cellsOf fixupC l).set (j*4+2) (.int .i64 x)=cellsOf fixupC (l.set j (z.1,z.2.1,x,z.2.2.2)):=by
 induction l generalizing j with
 |nil=>cases hz
 |cons a l ih=>
  have hc:∀u (l:List FD),cellsOf fixupC (u::l)=fixupC u++cellsOf fixupC l:=λu l=>by simp[cellsOf]
  cases j with
  |zero=>simp only[List.getElem?_cons_zero,Option.some.injEq]at hz;subst hz;simp[hc,fixupC]
  |succ j=>
   have e:(j+1)*4+2=(fixupC a).length+(j*4+2):=by rw[fixupC_len];omega
   rw[hc,List.set_cons_succ,hc,e,List.set_append_right _ _ (by omega),Nat.add_sub_cancel_left];rw[ih j (by simpa using hz)]
theorem OwnO.storeF {w:World}{base c yc:Nat}{A Y:Option Addr}{l1 l2:List SV}{q:SV}{ys:List YD}(h:OwnO w base ⟨A,c,l1++q::l2,Y,yc,ys⟩){g:Nat}(hF:q.F=some ⟨g,0,none⟩)(i:Nat)(z:FD)(hz:q.fs[i]?=some z)(x:Int):
  OwnO (w.setCell ⟨g,i*4+2,none⟩ (.int .i64 x)) base ⟨A,c,l1++{q with fs:=q.fs.set i (z.1,z.2.1,x,z.2.2.2)}::l2,Y,yc,ys⟩:=by
 have hq:RwS w base q:=h.1.2.1 q (by simp);have hi:i<q.fs.length:=(List.getElem?_eq_some_iff.1 hz).1;obtain⟨g',hF',_,_,hb,hown⟩:=own_of hq.2 (by omega);rw[hF]at hF';simp only[Option.some.injEq,Addr.mk.injEq,and_true]at hF';subst hF';refine OwnO.swap h {q with fs:=q.fs.set i (z.1,z.2.1,x,z.2.2.2)} (by simp[secC]) rfl rfl rfl rfl ⟨?_,?_⟩ g (.inr hb) (λk hk=>Below.heap_setCell _ _ _ k hk)
 ·exact hq.1.set (a:=⟨g,i*4+2,none⟩) (λk hk e=>apartT hq.1 hq.2 (by decide) k hk (by rw[hb,e])) _
 ·refine .inr ?_;show(w.setCell _ _).ownsRow base _ 4 (.slice q.F (q.fs.set i (z.1,z.2.1,x,z.2.2.2)).length q.fc) (q.fs.set i (z.1,z.2.1,x,z.2.2.2)).length (cellsOf fixupC (q.fs.set i (z.1,z.2.1,x,z.2.2.2)))
  rw[List.length_set,<-setFix _ _ _ hz,hF];exact(hown.stored (i*4+2) _).1
theorem setSym(l:List YD)(j:Nat)(hj:j<l.length)(z:YD):((((cellsOf symbolC l).set (j*4) (.string z.1)).set (j*4+1) (.int .i64 z.2.1)).set (j*4+2) (.int .i64 z.2.2.1)).set (j*4+3) (.int .i64 z.2.2.2)=cellsOf symbolC (l.set j z):=by
 induction l generalizing j with
 |nil=>cases hj
 |cons a l ih=>
  have hc:∀u (l:List YD),cellsOf symbolC (u::l)=symbolC u++cellsOf symbolC l:=λu l=>by simp[cellsOf]
  cases j with
  |zero=>simp[hc,symbolC]
  |succ j=>
   have e:∀m,(j+1)*4+m=(symbolC a).length+(j*4+m):=λm=>by rw[symbolC_len];omega
   have e0:(j+1)*4=(symbolC a).length+(j*4):=by rw[symbolC_len];omega
   rw[hc,List.set_cons_succ,hc,e,e,e,e0,List.set_append_right _ _ (by omega),Nat.add_sub_cancel_left,List.set_append_right _ _ (by omega),Nat.add_sub_cancel_left,List.set_append_right _ _ (by omega),Nat.add_sub_cancel_left,List.set_append_right _ _ (by omega),Nat.add_sub_cancel_left];rw[ih j (by simpa using hj)]
def putY(w:World)(g i:Nat)(z:YD):World:=(((w.setCell ⟨g,i,none⟩ (.string z.1)).setCell ⟨g,i+1,none⟩ (.int .i64 z.2.1)).setCell ⟨g,i+2,none⟩ (.int .i64 z.2.2.1)).setCell ⟨g,i+3,none⟩ (.int .i64 z.2.2.2)
theorem putY_block(w:World)(g i:Nat)(z:YD)(k:Nat)(hk:k≠g):(putY w g i z).heap[k]?=w.heap[k]?:=by unfold putY;rw[Below.heap_setCell _ _ _ k hk,Below.heap_setCell _ _ _ k hk,Below.heap_setCell _ _ _ k hk,Below.heap_setCell _ _ _ k hk]
theorem putY_below{B:Nat}{a w:World}{g i:Nat}{z:YD}(h:Below B a w)(hg:B<=g):Below B a (putY w g i z):=
 (((h.setCell (p:=⟨g,i,none⟩) hg _).setCell (p:=⟨g,i+1,none⟩) hg _).setCell (p:=⟨g,i+2,none⟩) hg _).setCell (p:=⟨g,i+3,none⟩) hg _
theorem OwnO.storeY {w:World}{base c yc:Nat}{A:Option Addr}{ps:List SV}{g:Nat}{ys:List YD}(h:OwnO w base ⟨A,c,ps,some ⟨g,0,none⟩,yc,ys⟩)(i:Nat)(hi:i<ys.length)(z:YD):
  OwnO (putY w g (i*4) z) base ⟨A,c,ps,some ⟨g,0,none⟩,yc,ys.set i z⟩:=by
 obtain⟨⟨hrow,hrw,hpw⟩,hy⟩:=h;simp only at hrow hrw hpw hy;obtain⟨g',hA',_,_,hb,hown⟩:=own_of hy (by omega);simp only[Option.some.injEq,Addr.mk.injEq,and_true]at hA';subst hA';have hkeep:=putY_block w g (i*4) z;refine⟨⟨hrow.keep λk hk=>hkeep k ?_,λp hp=>⟨(hrw p hp).1.keep λk hk=>hkeep k ?_,(hrw p hp).2.keep λk hk=>hkeep k ?_⟩,hpw⟩,?_⟩
 ·rintro rfl;exact apartT hrow hy (by decide) _ hk hb
 ·rintro rfl;exact apartT (hrw p hp).1 hy (by decide) _ hk hb
 ·rintro rfl;exact apartT (hrw p hp).2 hy (by decide) _ hk hb
 ·refine .inr ?_;show(putY w g (i*4) z).ownsRow base _ 4 (.slice (some ⟨g,0,none⟩) (ys.set i z).length yc) (ys.set i z).length (cellsOf symbolC (ys.set i z))
  rw[List.length_set,<-setSym _ _ hi];exact((((hown.stored (i*4) _).1.stored (i*4+1) _).1.stored (i*4+2) _).1.stored (i*4+3) _).1
theorem cell_own{w:World}{base:Nat}{e:TypeId}{size n c:Nat}{g:Nat}{xs:List Value}(h:w.ownsRow base e size (.slice (some ⟨g,0,none⟩) n c) n xs):∃cs,Box w g e cs:=box_of_own h
end BStore
/- Whether a fixup uses a symbol: the program's uses. -/
namespace CUses
open Kit CFixups CSymbols PObj BObj
end CUses
/- Contracts of the laws' helpers on Warning: the copy,the comparison of equal data,the marks. Written by a program. -/
namespace CWarnings
open Kit
end CWarnings
/- The reference's l9Used; the program's covers. -/
namespace CCovers
open Kit CCode CFixups CSymbols PObj BObj PValid CSecValid CUses
end CCovers
end Go.Proofs.YtepoiphmmjfbdaaGreatDoor
