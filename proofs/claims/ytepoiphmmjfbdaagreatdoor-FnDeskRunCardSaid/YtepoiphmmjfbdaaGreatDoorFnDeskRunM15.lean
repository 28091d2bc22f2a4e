/- The laws' comparisons of sections, objects and images, where both are equal. -/
import Derived.Test.YtepoiphmmjfbdaaGreatDoorFnDeskRunM14
import Derived.Test.YtepoiphmmjfbdaaGreatDoorRows
import Derived.Deep.QuietTactic
import Derived.BigQuiet
import Derived.StillTailTactics
import Derived.Deep.RegionHeld3
set_option linter.unusedSimpArgs false
set_option linter.unusedVariables false
set_option maxRecDepth 200000
open Go.ChangeShapes Go.WideShapes Go.ChangeAt Go.RowKit
namespace Go.Proofs.YtepoiphmmjfbdaaGreatDoor
namespace CSameO
open Kit CFixups CSymbols PObj BObj CSame
set_option maxHeartbeats 2000000 in
theorem sameSection_same(p:SV)(A':Option Addr)(c':Nat)(F':Option Addr)(fc':Nat)(w:World)(h:RdS w w.heap.size p)(hA:Rd w w.heap.size A' (ints .u8 p.zs))(hF:Rd w w.heap.size F' (cellsOf fixupC p.fs))(hm:p.zs.length<=1000/\p.fs.length<=1000):
  Calls Tryz.prog 121 #[.agg #[.string p.nm,.int .i64 p.kd,.int .i64 p.al,.slice p.A p.zs.length p.c,.int .i64 p.sz,.slice p.F p.fs.length p.fc],.agg #[.string p.nm,.int .i64 p.kd,.int .i64 p.al,.slice A' p.zs.length c',.int .i64 p.sz,.slice F' p.fs.length fc']] w (Ret (.bool true) w):=by
 obtain⟨hm1,hm2⟩:=hm;have B0:Below w.heap.size w ((w.alloc (.cells #[.string p.nm,.int .i64 p.kd,.int .i64 p.al,.slice p.A p.zs.length p.c,.int .i64 p.sz,.slice p.F p.fs.length p.fc] 61)).alloc (.cells #[.string p.nm,.int .i64 p.kd,.int .i64 p.al,.slice A' p.zs.length c',.int .i64 p.sz,.slice F' p.fs.length fc'] 61)):=b_;have HR:=h_ (h.below B0);have HRA:=h_ (hA.below B0);have HRF:=h_ (hF.below B0);have HB:=h_ B0;have HX:=h_ ((Box.new w 61 #[.string p.nm,.int .i64 p.kd,.int .i64 p.al,.slice p.A p.zs.length p.c,.int .i64 p.sz,.slice p.F p.fs.length p.fc]).alloc (.cells #[.string p.nm,.int .i64 p.kd,.int .i64 p.al,.slice A' p.zs.length c',.int .i64 p.sz,.slice F' p.fs.length fc'] 61));have HY0:=Box.new (w.alloc (.cells #[.string p.nm,.int .i64 p.kd,.int .i64 p.al,.slice p.A p.zs.length p.c,.int .i64 p.sz,.slice p.F p.fs.length p.fc] 61)) 61 #[.string p.nm,.int .i64 p.kd,.int .i64 p.al,.slice A' p.zs.length c',.int .i64 p.sz,.slice F' p.fs.length fc'];simp only[World.size_alloc]at HY0;have HY:=h_ HY0;clear h hA hF B0 HY0;go_enter Tryz.func121,Tryz.ntmps121
 go_wp2_with fail
 generalize (w.alloc (.cells #[.string p.nm,.int .i64 p.kd,.int .i64 p.al,.slice p.A p.zs.length p.c,.int .i64 p.sz,.slice p.F p.fs.length p.fc] 61)).alloc (.cells #[.string p.nm,.int .i64 p.kd,.int .i64 p.al,.slice A' p.zs.length c',.int .i64 p.sz,.slice F' p.fs.length fc'] 61)=w0 at *;generalize w.heap.size+1=Y at *;refine(sameBytes_any p.A A' p.zs p.zs p.c c' w.heap.size w0 HR.o.1 HRA.o (by unfold maxLen;omega) (by unfold maxLen;omega)).mono ?_;rintro e w' ⟨rfl,n,rfl⟩;rw[beq_self_eq_true];have bd:Below w0.heap.size w0 (w0.drewN n):=below_dn (Below.refl _ _);replace HR:=h_ (HR.o.below (bd.mono HB.o.size));replace HRF:=h_ (HRF.o.below (bd.mono HB.o.size));replace HB:=c_ HB bd;replace HX:=h_ (HX.o.call bd);replace HY:=h_ (HY.o.call bd);clear bd;generalize w0.drewN n=w1 at *;have x5:=d_ HX.o 5;have y5:=d_ HY.o 5;have hxl:=HX.o.lt;have hyl:=HY.o.lt;go_wp2_with fail
 clear x5 y5 hxl hyl;go_loopw [5] (λi wi=>∃(k:Nat),k<=p.fs.length/\i=.int .i64 k/\Below w1.heap.size w1 wi) (λi _=>p.fs.length-(intOf i).toNat)
 case atStart=>exact⟨0,Nat.zero_le _,rfl,Below.refl _ _⟩
 case round=>
  obtain⟨k,hk,rfl,hb⟩:=hrel;have HBI:=h_ hb;have HX2:=h_ (HX.o.call hb);have HY2:=h_ (HY.o.call hb);by_cases hlt:k<p.fs.length
  ·have hbl:Below w.heap.size w1 wr:=hb.mono HB.o.size;obtain⟨b1,o1,hA1,hb1,hc⟩:=(HR.o.2.below hbl).row fixupC_len (by decide) hlt;obtain⟨b2,o2,hA2,hb2,hd⟩:=(HRF.o.below hbl).row fixupC_len (by decide) hlt;have hc0:=hc 0 _ rfl;have hc1:=hc 1 _ rfl;have hc2:=hc 2 _ rfl;have hc3:=hc 3 _ rfl;have hd0:=hd 0 _ rfl;have hd1:=hd 1 _ rfl;have hd2:=hd 2 _ rfl;have hd3:=hd 3 _ rfl;simp only[Nat.add_zero]at hc0 hd0;clear hc hd hbl hb;have x5:=d_ HX2.o 5;have y5:=d_ HY2.o 5;rw[hA1]at x5;rw[hA2]at y5;have hxl:=HX2.o.lt;have hyl:=HY2.o.lt;clear hA1 hA2;generalize p.fs[k]=z at *;obtain⟨z1,z2,z3,z4⟩:=z;simp only at hc0 hc1 hc2 hc3 hd0 hd1 hd2 hd3;go_wp2_with fail
   go_quiet (fail)
   go_wp2_with fail
   refine⟨⟨k+1,by omega,by go_num,Kit.Below.drewN HBI.o _⟩,by first|(simp[intOf];done)|(simp[intOf];omega)⟩
  ·have hke:k=p.fs.length:=by omega
   have x5:=d_ HX2.o 5;have hxl:=HX2.o.lt;subst hke;clear hb;go_wp2_with fail
   go_ret;exact⟨rfl,HB.o.trans (HBI.o.mono HB.o.size)⟩
def Lim(o:OV):Prop:=o.ps.length<=1000/\o.ys.length<=1000/\∀p∈o.ps,p.zs.length<=1000/\p.fs.length<=1000
set_option maxHeartbeats 4000000 in
theorem sameObject_same(o o':OV)(hd:o'.d=o.d)(w:World)(h:RdO w w.heap.size o)(h':RdO w w.heap.size o')(hm:Lim o):
  Calls Tryz.prog 68 #[.agg #[.slice o.A o.ps.length o.c,.slice o.Y o.ys.length o.yc],.agg #[.slice o'.A o'.ps.length o'.c,.slice o'.Y o'.ys.length o'.yc]] w (Ret (.bool true) w):=by
 obtain⟨hm1,hm2,hm3⟩:=hm;have hps:o'.ps.map SV.d=o.ps.map SV.d:=congrArg OD.ss hd;have hys:o'.ys=o.ys:=congrArg OD.ys hd;have hpl:o'.ps.length=o.ps.length:=by simpa using congrArg List.length hps
 have HM:=h_ hm3;have HPS:=h_ hps;clear hd hm3 hps;rw[hys,hpl];have B0:Below w.heap.size w ((w.alloc (.cells #[.slice o.A o.ps.length o.c,.slice o.Y o.ys.length o.yc] 26)).alloc (.cells #[.slice o'.A o.ps.length o'.c,.slice o'.Y o.ys.length o'.yc] 26)):=b_;have HR:=h_ (h.below B0);have HR':=h_ (h'.below B0);have HB:=h_ B0;have HX:=h_ ((Box.new w 26 #[.slice o.A o.ps.length o.c,.slice o.Y o.ys.length o.yc]).alloc (.cells #[.slice o'.A o.ps.length o'.c,.slice o'.Y o.ys.length o'.yc] 26));have HY0:=Box.new (w.alloc (.cells #[.slice o.A o.ps.length o.c,.slice o.Y o.ys.length o.yc] 26)) 26 #[.slice o'.A o.ps.length o'.c,.slice o'.Y o.ys.length o'.yc];simp only[World.size_alloc]at HY0;have HY:=h_ HY0;have HYS:=h_ hys;have HPL:=h_ hpl;clear h h' B0 HY0 hys hpl;go_enter Tryz.func68,Tryz.ntmps68
 go_wp2_with fail
 generalize (w.alloc (.cells #[.slice o.A o.ps.length o.c,.slice o.Y o.ys.length o.yc] 26)).alloc (.cells #[.slice o'.A o.ps.length o'.c,.slice o'.Y o.ys.length o'.yc] 26)=w1 at *;generalize w.heap.size+1=Y at *;go_loopw [5] (λi wi=>∃(k:Nat),k<=o.ps.length/\i=.int .i64 k/\Below w1.heap.size w1 wi) (λi _=>o.ps.length-(intOf i).toNat)
 case atStart=>exact⟨0,Nat.zero_le _,rfl,Below.refl _ _⟩
 case round=>
  obtain⟨k,hk,rfl,hb⟩:=hrel;have HBI:=h_ hb;have HX2:=h_ (HX.o.call hb);have HY2:=h_ (HY.o.call hb);by_cases hlt:k<o.ps.length
  ·have hbl:Below w.heap.size w1 wr:=hb.mono HB.o.size;have hlt':k<o'.ps.length:=by rw[HPL.o];exact hlt
   obtain⟨b1,o1,hA1,hb1,hc⟩:=(HR.o.1.1.below hbl).row secC_len (by decide) hlt;obtain⟨b2,o2,hA2,hb2,hd⟩:=(HR'.o.1.1.below hbl).row secC_len (by decide) hlt';have HP:=h_ ((HR.o.1.2 _ (List.getElem_mem hlt)).below hbl);have HP':=h_ ((HR'.o.1.2 _ (List.getElem_mem hlt')).below hbl);have hdd:(o'.ps[k]).d=(o.ps[k]).d:=by
    have e:(o'.ps.map SV.d)[k]?=(o.ps.map SV.d)[k]?:=by rw[HPS.o]
    rw[List.getElem?_map,List.getElem?_map,List.getElem?_eq_getElem hlt,List.getElem?_eq_getElem hlt']at e;exact Option.some.inj e
   have hlim:=HM.o _ (List.getElem_mem hlt);have hc0:=hc 0 _ rfl;have hc1:=hc 1 _ rfl;have hc2:=hc 2 _ rfl;have hc3:=hc 3 _ rfl;have hc4:=hc 4 _ rfl;have hc5:=hc 5 _ rfl;have hd0:=hd 0 _ rfl;have hd1:=hd 1 _ rfl;have hd2:=hd 2 _ rfl;have hd3:=hd 3 _ rfl;have hd4:=hd 4 _ rfl;have hd5:=hd 5 _ rfl;simp only[Nat.add_zero]at hc0 hd0;clear hc hd hb;have x0:=d_ HX2.o 0;have y0:=d_ HY2.o 0;rw[hA1]at x0;rw[hA2]at y0;clear hA1 hA2;generalize o'.ps[k]=q at *;generalize o.ps[k]=p at *;obtain⟨qn,qk,qa,qA,qc,qz,qs,qF,qfc,qf⟩:=q;obtain⟨pn,pk,pa,pA,pc,pz,psz,pF,pfc,pf⟩:=p;simp only[SV.d,SD.mk.injEq]at hdd;obtain⟨rfl,rfl,rfl,rfl,rfl,rfl⟩:=hdd;simp only at hc0 hc1 hc2 hc3 hc4 hc5 hd0 hd1 hd2 hd3 hd4 hd5 hlim;have hxl:=HX2.o.lt;have hyl:=HY2.o.lt;obtain⟨hlim1,hlim2⟩:=hlim;have HLM:=h_ (And.intro hlim1 hlim2);go_wp2_with fail
   have Z0:wr.cell? ⟨w.heap.size,0,none⟩=some (.slice (some ⟨b1,o1,none⟩) o.ps.length o.c)/\wr.cell? ⟨Y,0,none⟩=some (.slice (some ⟨b2,o2,none⟩) o.ps.length o'.c)/\wr.cell? ⟨b1,o1+k*6,none⟩=some (.string qn)/\wr.cell? ⟨b1,o1+k*6+1,none⟩=some (.int .i64 qk)/\wr.cell? ⟨b1,o1+k*6+2,none⟩=some (.int .i64 qa)/\wr.cell? ⟨b1,o1+k*6+3,none⟩=some (.slice pA qz.length pc)/\wr.cell? ⟨b1,o1+k*6+4,none⟩=some (.int .i64 qs)/\wr.cell? ⟨b1,o1+k*6+5,none⟩=some (.slice pF qf.length pfc)/\wr.cell? ⟨b2,o2+k*6,none⟩=some (.string qn)/\wr.cell? ⟨b2,o2+k*6+1,none⟩=some (.int .i64 qk)/\wr.cell? ⟨b2,o2+k*6+2,none⟩=some (.int .i64 qa)/\wr.cell? ⟨b2,o2+k*6+3,none⟩=some (.slice qA qz.length qc)/\wr.cell? ⟨b2,o2+k*6+4,none⟩=some (.int .i64 qs)/\wr.cell? ⟨b2,o2+k*6+5,none⟩=some (.slice qF qf.length qfc):=⟨x0,y0,hc0,hc1,hc2,hc3,hc4,hc5,hd0,hd1,hd2,hd3,hd4,hd5⟩;refine Reg.startT (λW=>W.cell? ⟨w.heap.size,0,none⟩=some (.slice (some ⟨b1,o1,none⟩) o.ps.length o.c)/\W.cell? ⟨Y,0,none⟩=some (.slice (some ⟨b2,o2,none⟩) o.ps.length o'.c)/\W.cell? ⟨b1,o1+k*6,none⟩=some (.string qn)/\W.cell? ⟨b1,o1+k*6+1,none⟩=some (.int .i64 qk)/\W.cell? ⟨b1,o1+k*6+2,none⟩=some (.int .i64 qa)/\W.cell? ⟨b1,o1+k*6+3,none⟩=some (.slice pA qz.length pc)/\W.cell? ⟨b1,o1+k*6+4,none⟩=some (.int .i64 qs)/\W.cell? ⟨b1,o1+k*6+5,none⟩=some (.slice pF qf.length pfc)/\W.cell? ⟨b2,o2+k*6,none⟩=some (.string qn)/\W.cell? ⟨b2,o2+k*6+1,none⟩=some (.int .i64 qk)/\W.cell? ⟨b2,o2+k*6+2,none⟩=some (.int .i64 qa)/\W.cell? ⟨b2,o2+k*6+3,none⟩=some (.slice qA qz.length qc)/\W.cell? ⟨b2,o2+k*6+4,none⟩=some (.int .i64 qs)/\W.cell? ⟨b2,o2+k*6+5,none⟩=some (.slice qF qf.length qfc)) (λ_=>false) (by kernel_rfl) ?_;have hHeld:wr.drew.cell? ⟨w.heap.size,0,none⟩=some (.slice (some ⟨b1,o1,none⟩) o.ps.length o.c)/\wr.drew.cell? ⟨Y,0,none⟩=some (.slice (some ⟨b2,o2,none⟩) o.ps.length o'.c)/\wr.drew.cell? ⟨b1,o1+k*6,none⟩=some (.string qn)/\wr.drew.cell? ⟨b1,o1+k*6+1,none⟩=some (.int .i64 qk)/\wr.drew.cell? ⟨b1,o1+k*6+2,none⟩=some (.int .i64 qa)/\wr.drew.cell? ⟨b1,o1+k*6+3,none⟩=some (.slice pA qz.length pc)/\wr.drew.cell? ⟨b1,o1+k*6+4,none⟩=some (.int .i64 qs)/\wr.drew.cell? ⟨b1,o1+k*6+5,none⟩=some (.slice pF qf.length pfc)/\wr.drew.cell? ⟨b2,o2+k*6,none⟩=some (.string qn)/\wr.drew.cell? ⟨b2,o2+k*6+1,none⟩=some (.int .i64 qk)/\wr.drew.cell? ⟨b2,o2+k*6+2,none⟩=some (.int .i64 qa)/\wr.drew.cell? ⟨b2,o2+k*6+3,none⟩=some (.slice qA qz.length qc)/\wr.drew.cell? ⟨b2,o2+k*6+4,none⟩=some (.int .i64 qs)/\wr.drew.cell? ⟨b2,o2+k*6+5,none⟩=some (.slice qF qf.length qfc):=Z0
   clear Z0 x0 y0 hc0 hc1 hc2 hc3 hc4 hc5 hd0 hd1 hd2 hd3 hd4 hd5;refine t_ 0 rfl ?_;refine t_ 1 rfl ?_;refine t_ 2 rfl ?_;refine t_ 3 rfl ?_;refine t_ 4 rfl ?_;refine t_ 5 rfl ?_;refine t_ 6 rfl ?_;refine t_ 7 rfl ?_;refine t_ 8 rfl ?_;refine t_ 9 rfl ?_;have bd:Below wr.heap.size wr wr.drew:=below_dr (Below.refl _ _);have HBD:=h_ (HBI.o.trans (bd.mono HBI.o.size));have hwl:w.heap.size<=wr.drew.heap.size:=Nat.le_trans (Nat.le_of_lt hxl) (Nat.le_refl _);refine Reg.oneT (i:=10) rfl (by kernel_rfl) (λK hK=>?_);go_simp
   refine(sameSection_same ⟨qn,qk,qa,pA,pc,qz,qs,pF,pfc,qf⟩ qA qc qF qfc wr.drew ((HP.o.below (bd.mono (Nat.le_of_lt hxl))).more hwl) ((HP'.o.1.below (bd.mono (Nat.le_of_lt hxl))).more hwl) ((HP'.o.2.below (bd.mono (Nat.le_of_lt hxl))).more hwl) HLM.o).mono ?_;rintro e w4 ⟨rfl,b4⟩;have HB4:=h_ (HBD.o.trans (b4.mono HBD.o.size));obtain⟨a1,a2,a3,a4,a5,a6,a7,a8,a9,a10,a11,a12,a13,a14⟩:=hHeld;refine hK.out _ _ ⟨(b4.cell (World.block_lt_of_cell? _ _ a1)).trans a1,(b4.cell (World.block_lt_of_cell? _ _ a2)).trans a2,(b4.cell (World.block_lt_of_cell? _ _ a3)).trans a3,(b4.cell (World.block_lt_of_cell? _ _ a4)).trans a4,(b4.cell (World.block_lt_of_cell? _ _ a5)).trans a5,(b4.cell (World.block_lt_of_cell? _ _ a6)).trans a6,(b4.cell (World.block_lt_of_cell? _ _ a7)).trans a7,(b4.cell (World.block_lt_of_cell? _ _ a8)).trans a8,(b4.cell (World.block_lt_of_cell? _ _ a9)).trans a9,(b4.cell (World.block_lt_of_cell? _ _ a10)).trans a10,(b4.cell (World.block_lt_of_cell? _ _ a11)).trans a11,(b4.cell (World.block_lt_of_cell? _ _ a12)).trans a12,(b4.cell (World.block_lt_of_cell? _ _ a13)).trans a13,(b4.cell (World.block_lt_of_cell? _ _ a14)).trans a14⟩ ?_;have hHeld:w4.cell? ⟨w.heap.size,0,none⟩=some (.slice (some ⟨b1,o1,none⟩) o.ps.length o.c)/\w4.cell? ⟨Y,0,none⟩=some (.slice (some ⟨b2,o2,none⟩) o.ps.length o'.c)/\w4.cell? ⟨b1,o1+k*6,none⟩=some (.string qn)/\w4.cell? ⟨b1,o1+k*6+1,none⟩=some (.int .i64 qk)/\w4.cell? ⟨b1,o1+k*6+2,none⟩=some (.int .i64 qa)/\w4.cell? ⟨b1,o1+k*6+3,none⟩=some (.slice pA qz.length pc)/\w4.cell? ⟨b1,o1+k*6+4,none⟩=some (.int .i64 qs)/\w4.cell? ⟨b1,o1+k*6+5,none⟩=some (.slice pF qf.length pfc)/\w4.cell? ⟨b2,o2+k*6,none⟩=some (.string qn)/\w4.cell? ⟨b2,o2+k*6+1,none⟩=some (.int .i64 qk)/\w4.cell? ⟨b2,o2+k*6+2,none⟩=some (.int .i64 qa)/\w4.cell? ⟨b2,o2+k*6+3,none⟩=some (.slice qA qz.length qc)/\w4.cell? ⟨b2,o2+k*6+4,none⟩=some (.int .i64 qs)/\w4.cell? ⟨b2,o2+k*6+5,none⟩=some (.slice qF qf.length qfc):=⟨(b4.cell (World.block_lt_of_cell? _ _ a1)).trans a1,(b4.cell (World.block_lt_of_cell? _ _ a2)).trans a2,(b4.cell (World.block_lt_of_cell? _ _ a3)).trans a3,(b4.cell (World.block_lt_of_cell? _ _ a4)).trans a4,(b4.cell (World.block_lt_of_cell? _ _ a5)).trans a5,(b4.cell (World.block_lt_of_cell? _ _ a6)).trans a6,(b4.cell (World.block_lt_of_cell? _ _ a7)).trans a7,(b4.cell (World.block_lt_of_cell? _ _ a8)).trans a8,(b4.cell (World.block_lt_of_cell? _ _ a9)).trans a9,(b4.cell (World.block_lt_of_cell? _ _ a10)).trans a10,(b4.cell (World.block_lt_of_cell? _ _ a11)).trans a11,(b4.cell (World.block_lt_of_cell? _ _ a12)).trans a12,(b4.cell (World.block_lt_of_cell? _ _ a13)).trans a13,(b4.cell (World.block_lt_of_cell? _ _ a14)).trans a14⟩
   clear hK K a1 a2 a3 a4 a5 a6 a7 a8 a9 a10 a11 a12 a13 a14 b4 bd;try simp only[y1_,y2_,y3_,Act.put,y4_,y5_,y6_]
   refine t_ 11 rfl ?_;clear hHeld;refine Reg.doneT (by kernel_rfl) ?_ _;go_wp2_with fail
   refine⟨⟨k+1,by omega,by go_num,HB4.o⟩,by simp[intOf];omega⟩
  ·have hke:k=o.ps.length:=by omega
   have x0:=d_ HX2.o 0;have hxl:=HX2.o.lt;subst hke;have HBS:=h_ (HB.o.trans (hb.mono HB.o.size));clear hb;have hwy:Below w1.heap.size w1 wr:=HBI.o;clear hwy;go_wp2_with fail
   clear x0 hxl;have HXR:=h_ HX2.o;have HYR:=h_ HY2.o;have HR2:=h_ (HR.o.2.below (HBI.o.mono HB.o.size));have HR2':=h_ (show Rd wr w.heap.size o'.Y (cellsOf symbolC o.ys)from by
    have h:=HR'.o.2.below (HBI.o.mono HB.o.size);rw[HYS.o]at h;exact h)
   have hwl:w.heap.size<=wr.heap.size:=HBS.o.size;go_loopw [6] (λi wi=>∃(k:Nat),k<=o.ys.length/\i=.int .i64 k/\Below wr.heap.size wr wi) (λi _=>o.ys.length-(intOf i).toNat)
   case atStart=>exact⟨0,Nat.zero_le _,rfl,Below.refl _ _⟩
   case round=>
    obtain⟨k,hk2,rfl,hb⟩:=hrel;have HBJ:=h_ hb;have HX3:=h_ (HXR.o.call hb);have HY3:=h_ (HYR.o.call hb);by_cases hlk:k<o.ys.length
    ·obtain⟨b1,o1,hA1,hb1,hc⟩:=(HR2.o.below (hb.mono hwl)).row symbolC_len (by decide) hlk;obtain⟨b2,o2,hA2,hb2,hd⟩:=(HR2'.o.below (hb.mono hwl)).row symbolC_len (by decide) hlk;have hc0:=hc 0 _ rfl;have hc1:=hc 1 _ rfl;have hc2:=hc 2 _ rfl;have hc3:=hc 3 _ rfl;have hd0:=hd 0 _ rfl;have hd1:=hd 1 _ rfl;have hd2:=hd 2 _ rfl;have hd3:=hd 3 _ rfl;simp only[Nat.add_zero]at hc0 hd0;clear hc hd hb;have x1:=d_ HX3.o 1;have y1:=d_ HY3.o 1;rw[hA1]at x1;rw[hA2]at y1;have hxl:=HX3.o.lt;have hyl:=HY3.o.lt;clear hA1 hA2;generalize o.ys[k]=z at *;obtain⟨z1,z2,z3,z4⟩:=z;simp only at hc0 hc1 hc2 hc3 hd0 hd1 hd2 hd3;go_wp2_with fail
     go_quiet (fail)
     go_wp2_with fail
     refine⟨⟨k+1,by omega,by go_num,Kit.Below.drewN HBJ.o _⟩,by first|(simp[intOf];done)|(simp[intOf];omega)⟩
    ·have hke:k=o.ys.length:=by omega
     subst hke;have x1:=d_ HX3.o 1;have hxl:=HX3.o.lt;clear hb;go_wp2_with fail
     go_ret;exact⟨rfl,HBS.o.trans (HBJ.o.mono HBS.o.size)⟩
end CSameO
/- sameObjects,of lists that are equal. -/
namespace CSameLs
open Kit CFixups CSymbols PObj BObj BList CSameO
set_option maxHeartbeats 4000000 in
theorem sameObjects_same(A A':Option Addr)(os qs:List OV)(c c':Nat)(w:World)(hr:RdOs w w.heap.size A os)(hr':RdOs w w.heap.size A' qs)(hd:qs.map OV.d=os.map OV.d)(hm:os.length<=1000)(hl:∀o∈os,Lim o):
  Calls Tryz.prog 18 #[.slice A os.length c,.slice A' qs.length c'] w (Ret (.bool true) w):=by
 have hlen:qs.length=os.length:=by simpa using congrArg List.length hd
 rw[hlen];have HR:=h_ hr;have HR':=h_ hr';have HD:=h_ hd;have HL:=h_ hl;have HLE:=h_ hlen;clear hr hr' hd hl hlen;go_enter Tryz.func18,Tryz.ntmps18
 go_wp2_with fail
 go_loopw [5] (λi wi=>∃k:Nat,k<=os.length/\i=.int .i64 k/\Below w.heap.size w wi) (λi _=>os.length-(intOf i).toNat)
 case atStart=>exact⟨0,Nat.zero_le _,rfl,Below.refl _ _⟩
 case round=>
  obtain⟨k,hk,rfl,hb⟩:=hrel;have HB:=h_ hb;by_cases hlt:k<os.length
  ·have hlt':k<qs.length:=by rw[HLE.o];exact hlt
   obtain⟨b,off,hA,hbb,c0,c1⟩:=(HR.o.below hb).at hlt;obtain⟨b',off',hA',hbb',d0,d1⟩:=(HR'.o.below hb).at hlt';have HDK:=h_ (show(qs[k]).d=(os[k]).d from by
    have h:=congrArg (λl=>l[k]?) HD.o;simp only[List.getElem?_map,List.getElem?_eq_getElem hlt,List.getElem?_eq_getElem hlt',Option.map_some,Option.some.injEq]at h;exact h)
   have HO:=h_ (HR.o.2 _ (List.getElem_mem hlt));have HO':=h_ (HR'.o.2 _ (List.getElem_mem hlt'));have HLK:=h_ (HL.o _ (List.getElem_mem hlt));have hbw:b<wr.heap.size:=Nat.lt_of_lt_of_le hbb hb.size;have hbw':b'<wr.heap.size:=Nat.lt_of_lt_of_le hbb' hb.size;have hlq:k<qs.length:=hlt';clear hb;subst hA;subst hA';generalize os[k]=o at *;generalize qs[k]=q at *;go_wp2_with fail
   refine Reg.startT (λW=>W.cell? ⟨b,off+k*2,none⟩=some (.slice o.A o.ps.length o.c)/\W.cell? ⟨b,off+k*2+1,none⟩=some (.slice o.Y o.ys.length o.yc)/\W.cell? ⟨b',off'+k*2,none⟩=some (.slice q.A q.ps.length q.c)/\W.cell? ⟨b',off'+k*2+1,none⟩=some (.slice q.Y q.ys.length q.yc)) (λ_=>false) (by kernel_rfl) ?_;have hHeld:wr.drew.cell? ⟨b,off+k*2,none⟩=some (.slice o.A o.ps.length o.c)/\wr.drew.cell? ⟨b,off+k*2+1,none⟩=some (.slice o.Y o.ys.length o.yc)/\wr.drew.cell? ⟨b',off'+k*2,none⟩=some (.slice q.A q.ps.length q.c)/\wr.drew.cell? ⟨b',off'+k*2+1,none⟩=some (.slice q.Y q.ys.length q.yc):=⟨c0,c1,d0,d1⟩;refine t_ 0 rfl ?_;refine t_ 1 rfl ?_;refine t_ 2 rfl ?_;refine t_ 3 rfl ?_;refine t_ 4 rfl ?_;refine t_ 5 rfl ?_;refine t_ 6 rfl ?_;refine t_ 7 rfl ?_;refine Reg.oneT (i:=8) rfl (by kernel_rfl) (λK hK=>?_);go_simp
   have HBD:=h_ (below_dr HB.o);refine(sameObject_same o q HDK.o _ ((HO.o.below HBD.o).more HBD.o.size) ((HO'.o.below HBD.o).more HBD.o.size) HLK.o).mono ?_;rintro e w8 ⟨rfl,b8⟩;have b8':=of_drew b8;have hHeld:w8.cell? ⟨b,off+k*2,none⟩=some (.slice o.A o.ps.length o.c)/\w8.cell? ⟨b,off+k*2+1,none⟩=some (.slice o.Y o.ys.length o.yc)/\w8.cell? ⟨b',off'+k*2,none⟩=some (.slice q.A q.ps.length q.c)/\w8.cell? ⟨b',off'+k*2+1,none⟩=some (.slice q.Y q.ys.length q.yc):=⟨(b8'.cell (p:=⟨b,off+k*2,none⟩) hbw).trans c0,(b8'.cell (p:=⟨b,off+k*2+1,none⟩) hbw).trans c1,(b8'.cell (p:=⟨b',off'+k*2,none⟩) hbw').trans d0,(b8'.cell (p:=⟨b',off'+k*2+1,none⟩) hbw').trans d1⟩;refine hK.out _ _ hHeld ?_;clear hK K;try simp only[y1_,y2_,y3_,Act.put,y4_,y5_,y6_]
   refine t_ 9 rfl ?_;refine Reg.doneT (by kernel_rfl) ?_ _;clear hHeld c0 c1 d0 d1 hbw hbw' HBD;replace HB:=h_ (HB.o.trans (b8'.mono HB.o.size));clear b8 b8';go_wp2_with fail
   refine⟨⟨k+1,by omega,by go_num,HB.o⟩,by simp[intOf];omega⟩
  ·clear hb;go_wp2_with fail
   go_ret;exact⟨rfl,HB.o⟩
end CSameLs
/- Contracts of the reference's reader of drawn bytes: it turns its own block alone,and its numbers are in range. -/
namespace DPick
open Kit
def Tape(w:World)(B R:Nat)(N:Int):Prop:=
 B<=R/\∃(A:Option Addr) (zs:List Int) (c:Nat) (p:Int),Box w R 115 #[.slice A zs.length c,.int .i64 p]/\Rd w B A (ints .u8 zs)/\InR 0 255 zs/\zs.length<=2000/\0<=p/\p<=N
section
variable {w w':World}{B R:Nat}{N:Int}
theorem Tape.lt (h:Tape w B R N):R<w.heap.size:=by obtain⟨_,A,zs,c,p,hb,_⟩:=h;exact hb.lt
theorem Tape.more (h:Tape w B R N){N':Int}(hN:N<=N'):Tape w B R N':=by obtain⟨h0,A,zs,c,p,hb,hr,hz,hl,p0,p1⟩:=h;exact⟨h0,A,zs,c,p,hb,hr,hz,hl,p0,by omega⟩
theorem Tape.below (h:Tape w B R N)(hb:Below (R+1) w w'):Tape w' B R N:=by obtain⟨h0,A,zs,c,p,hx,hr,hz,hl,p0,p1⟩:=h;exact⟨h0,A,zs,c,p,hx.below hb (by omega),hr.below (hb.mono (by omega)),hz,hl,p0,p1⟩
theorem Tape.call (h:Tape w B R N)(hb:Below w.heap.size w w'):Tape w' B R N:=h.below (hb.mono h.lt)
end
theorem xor_i64(a b:Nat)(ha:a<9223372036854775808)(hb:b<9223372036854775808):bits .xor .i64 (a:Int) (b:Int)=((a^^^b:Nat):Int)/\a^^^b<9223372036854775808:=by
 have hx:a^^^b<2^63:=Nat.xor_lt_two_pow (by omega) (by omega);refine⟨?_,by omega⟩;show IntKind.i64.wrap ((BitVec.ofInt 64 (a:Int)^^^BitVec.ofInt 64 (b:Int)).toNat:Int)=_
 rw[BitVec.toNat_xor,ofInt_i64 a ha,ofInt_i64 b hb,IntKind.wrap_i64];omega
def Picked(w:World)(B R:Nat)(N:Int)(n:Int)(e:Ending)(w':World):Prop:=∃x:Int,e=.returned (.int .i64 x)/\0<=x/\x<n/\Tape w' B R (N+1)/\w.grownBy w' (some R)
theorem pick_any{w:World}{B R:Nat}{N:Int}(hT:Tape w B R N)(hN:N<=1099511627776)(n:Int)(hn:1<=n)(hn':n<=1099511627776):
  Calls Tryz.prog 70 #[.pointer (some ⟨R,0,none⟩),.int .i64 n] w (Picked w B R N n):=by
 obtain⟨h0,A,zs,c,p,hx,hr,hz,hl,p0,p1⟩:=hT;have q0:=hx.cell 0;have q1:=hx.cell 1;have f0:=hx.frozen 0;have f1:=hx.frozen 1;simp only[g_]at q0 q1;have HX:=h_ hx;clear hx;have HR:=h_ hr;have HZ:=h_ hz;clear hr hz;have hfin:∀(x:Int) (w':World),0<=x->x<n->w'.heap=(w.setCell ⟨R,1,none⟩ (.int .i64 (p+1))).heap->w'.os=w.os->w'.tape=w.tape->w'.output=w.output->Picked w B R N n (.returned (.int .i64 x)) w':=by
  intro x w' x0 x1 hh ho ht hu;have hk:∀k,k≠R->w'.heap[k]?=w.heap[k]?:=λk hk=>by rw[hh];exact Below.heap_setCell w ⟨R,1,none⟩ _ k hk
  refine⟨x,rfl,x0,x1,⟨h0,A,zs,c,p+1,?_,HR.o.keep (λa ha=>World.cell?_of_block (hk _ (by omega))),HZ.o,hl,by omega,by omega⟩,ho,ht,hu,by rw[hh];simp[World.setCell],λk _ hne=>hk k (λe=>hne (by rw[e]))⟩;have:=HX.o.set 1 (.int .i64 (p+1));unfold Box at this ⊢;rw[hh];exact this
 have HF:=h_ hfin;clear hfin;have hd:decide (n<1)=false:=by simp;omega
 by_cases hz0:zs.length=0
 ·go_enter Tryz.func70,Tryz.ntmps70
  go_wp2_with fail
  all_goals(go_ret;exact HF.o 0 _ (by omega) (by omega) rfl rfl rfl rfl)
 ·by_cases hk:p<zs.length
  ·obtain⟨k,rfl⟩:=Int.eq_ofNat_of_zero_le p0;obtain⟨b,off,rfl,hbb,hc⟩:=HR.o.int (i:=k) (by omega);obtain⟨x0,x1⟩:=HZ.o.at_ (i:=k) (by omega);generalize zs[k]=x at *;have hbR:b≠R:=by omega
   go_enter Tryz.func70,Tryz.ntmps70
   go_wp2_with fail
   all_goals(go_ret;exact HF.o (x%n) _ (Int.emod_nonneg _ (by omega)) (Int.emod_lt_of_pos _ (by omega)) rfl rfl rfl rfl)
  ·obtain⟨i1,e1⟩:=Int.eq_ofNat_of_zero_le (Int.emod_nonneg p (show(zs.length:Int)≠0 by omega));obtain⟨i2,e2⟩:=Int.eq_ofNat_of_zero_le (Int.emod_nonneg (p*7+3) (show(zs.length:Int)≠0 by omega));have l1:=Int.emod_lt_of_pos p (show 0<(zs.length:Int)by omega);have l2:=Int.emod_lt_of_pos (p*7+3) (show 0<(zs.length:Int)by omega);rw[e1]at l1;rw[e2]at l2;have d0:0<=p/(zs.length:Int):=Int.ediv_nonneg p0 (by omega);have d1:p/(zs.length:Int)<=p:=Int.ediv_le_self _ p0;generalize hdv:p/(zs.length:Int)=dv at *;obtain⟨b,off,rfl,hbb,hc1⟩:=HR.o.int (i:=i1) (by omega);obtain⟨b',off',e',_,hc2⟩:=HR.o.int (i:=i2) (by omega);simp only[Option.some.injEq,Addr.mk.injEq,and_true]at e';obtain⟨rfl,rfl⟩:=e';obtain⟨x0,x1⟩:=HZ.o.at_ (i:=i1) (by omega);obtain⟨y0,y1⟩:=HZ.o.at_ (i:=i2) (by omega);generalize zs[i1]=x at *;generalize zs[i2]=y at *;have hbR:b≠R:=by omega
   go_enter Tryz.func70,Tryz.ntmps70
   go_wp2_with fail
   go_quiet (fail)
   obtain⟨X,hX⟩:=Int.eq_ofNat_of_zero_le (show 0<=x*131+y*1117+p*29+dv*53 by omega);have hXb:(X:Int)<=1125899906842624:=by omega
   rw[hX];obtain⟨M,hM⟩:∃M:Nat,X^^^(X/64)=M:=⟨_,rfl⟩;obtain⟨hx1,hx2⟩:=xor_i64 X (X/64) (by omega) (by omega);rw[hM]at hx1 hx2;have hx1:bits .xor .i64 (X:Int) ((X:Int)/64)=(M:Int):=hx1;have hMb:(M:Int)<=9223372036854775807:=by omega
   clear hX hM hx2 e1 e2 l1 l2 hdv d0 d1 hc1 hc2 hk;go_wp2_with fail
   all_goals(go_ret;exact HF.o _ _ (Int.emod_nonneg _ (by omega)) (Int.emod_lt_of_pos _ (by omega)) rfl rfl rfl rfl)
theorem odd_any{w:World}{B R:Nat}{N:Int}(hT:Tape w B R N)(hN:N<=1099511627776)(n:Int)(hn:0<=n)(hn':n<=1099511627776):
  Calls Tryz.prog 71 #[.pointer (some ⟨R,0,none⟩),.int .i64 n] w λe w'=>∃b:Bool,e=.returned (.bool b)/\Tape w' B R (N+1)/\w.grownBy w' (some R):=by
 by_cases h0:n=0
 ·subst h0;go_enter Tryz.func71,Tryz.ntmps71
  go_wp2_with fail
  go_ret;exact⟨false,rfl,hT.more (by omega),grown_refl _ _⟩
 ·have h1:0<n:=by omega
  go_enter Tryz.func71,Tryz.ntmps71
  go_wp2_with fail
  refine(pick_any hT hN n (by omega) hn').mono ?_;rintro e w1 ⟨x,rfl,x0,x1,T1,g1⟩;have HT:=h_ (And.intro T1 g1);clear T1 g1 hT;go_wp2_with fail
  go_ret;exact⟨_,rfl,HT.o.1,HT.o.2⟩
theorem open_any(A:Option Addr)(zs:List Int)(c:Nat)(w:World)(hr:Rd w w.heap.size A (ints .u8 zs))(hz:InR 0 255 zs)(hc:zs.length<=c)(hcm:c<=maxLen):
  Calls Tryz.prog 35 #[.slice A zs.length c] w λe w'=>∃R,e=.returned (.pointer (some ⟨R,0,none⟩))/\Tape w' w.heap.size R 0/\Below w.heap.size w w':=by
 unfold maxLen at hcm;by_cases h:2000<zs.length
 ·obtain⟨b,off,rfl,_,_⟩:=hr.int (i:=0) (by omega);obtain⟨hr',hl'⟩:=hr.slice 0 2000 (by omega);simp only[Nat.add_zero,List.drop_zero]at hr' hl';have HH:=h_ (And.intro hr' hl');have HZ:=h_ (show InR 0 255 (zs.take 2000)from λx hx=>hz x (List.mem_of_mem_take hx));clear hr hr' hl' hz;go_enter Tryz.func35,Tryz.ntmps35
  go_wp2_with fail
  go_ret;have hlen:(zs.take 2000).length=2000:=by rw[List.length_take];omega
  have hbx:=Box.new w 115 #[.slice (some ⟨b,off,none⟩) 2000 c,.int .i64 0];have hbl:Below w.heap.size w (w.alloc (.cells #[.slice (some ⟨b,off,none⟩) 2000 c,.int .i64 0] 115)):=b_;exact⟨w.heap.size,rfl,⟨Nat.le_refl _,_,zs.take 2000,c,0,by rw[hlen];exact hbx,HH.o.1.below hbl,HZ.o,by omega,by omega,by omega⟩,hbl⟩
 ·have HR:=h_ hr;have HZ:=h_ hz;clear hr hz;go_enter Tryz.func35,Tryz.ntmps35
  go_wp2_with fail
  go_ret;have hbl:Below w.heap.size w (w.alloc (.cells #[.slice A zs.length c,.int .i64 0] 115)):=b_;exact⟨w.heap.size,rfl,⟨Nat.le_refl _,_,zs,c,0,Box.new _ _ _,HR.o.below hbl,HZ.o,by omega,by omega,by omega⟩,hbl⟩
end DPick
/- The reader and the world it was opened in; draws of numbers. -/
namespace DVar
open Kit DPick
def Tp(w0 w:World)(B R:Nat)(N:Int):Prop:=DPick.Tape w B R N/\w0.grownBy w (some R)
section
variable {w0 w w':World}{B R:Nat}{N:Int}
theorem Tp.start (h:DPick.Tape w B R N):Tp w w B R N:=⟨h,grown_refl _ _⟩
theorem Tp.call (h:Tp w0 w B R N)(hb:Below w.heap.size w w'):Tp w0 w' B R N:=⟨h.1.call hb,grown_below h.2 hb⟩
theorem Tp.alloc (h:Tp w0 w B R N)(o:Obj):Tp w0 (w.alloc o) B R N:=h.call ((Below.refl _ _).alloc (Nat.le_refl _) o)
theorem Tp.more (h:Tp w0 w B R N){N':Int}(hN:N<=N'):Tp w0 w B R N':=⟨h.1.more hN,h.2⟩
theorem Tp.below {B':Nat}(h:Tp w0 w B R N)(hB:B'<=w0.heap.size)(hR:B'<=R):Below B' w0 w:=below_of_grown (Below.refl _ _) h.2 hB hR
theorem pick_tp(h:Tp w0 w B R N)(hN:N<=1099511627776)(n:Int)(hn:1<=n)(hn':n<=1099511627776):
  Calls Tryz.prog 70 #[.pointer (some ⟨R,0,none⟩),.int .i64 n] w λe w'=>∃x:Int,e=.returned (.int .i64 x)/\0<=x/\x<n/\Tp w0 w' B R (N+1)/\w.grownBy w' (some R):=by
 refine(pick_any h.1 hN n hn hn').mono ?_;rintro e w' ⟨x,he,x0,x1,T,g⟩;exact⟨x,he,x0,x1,⟨T,grown_trans h.2 g⟩,g⟩
theorem odd_tp(h:Tp w0 w B R N)(hN:N<=1099511627776)(n:Int)(hn:0<=n)(hn':n<=1099511627776):
  Calls Tryz.prog 71 #[.pointer (some ⟨R,0,none⟩),.int .i64 n] w λe w'=>∃b:Bool,e=.returned (.bool b)/\Tp w0 w' B R (N+1)/\w.grownBy w' (some R):=by
 refine(odd_any h.1 hN n hn hn').mono ?_;rintro e w' ⟨x,he,T,g⟩;exact⟨x,he,⟨T,grown_trans h.2 g⟩,g⟩
end
theorem Tp.set {w0 w:World}{B R:Nat}{N:Int}(h:Tp w0 w B R N){a:Addr}(ha:w0.heap.size<=a.block)(hR:R<a.block)(u:Value):Tp w0 (w.setCell a u) B R N:=by refine⟨?_,⟨h.2.os,h.2.tape,h.2.output,by simpa[World.setCell]using h.2.size,λk hk hne=>(Below.heap_setCell w a u k (by omega)).trans (h.2.block k hk hne)⟩⟩;obtain⟨h0,A,zs,c,p,hb,hr,hz,hl,p0,p1⟩:=h.1;exact⟨h0,A,zs,c,p,hb.far (by omega) u,hr.keep (λx hx=>World.cell?_of_block (Below.heap_setCell w a u _ (by omega))),hz,hl,p0,p1⟩
theorem Tp.own {w0 w w':World}{B R:Nat}{N:Int}(h:Tp w0 w B R N){v:Option Nat}(g:w.grownBy w' v)(hv:∀k,v=some k->w0.heap.size<=k/\R<k):Tp w0 w' B R N:=by refine⟨?_,grown_own h.2 g (λk hk=>(hv k hk).1)⟩;obtain⟨h0,A,zs,c,p,hb,hr,hz,hl,p0,p1⟩:=h.1;have hk:∀k,k<R+1->w'.heap[k]?=w.heap[k]?:=λk hk=>g.block k (Nat.lt_of_lt_of_le hk hb.lt) (λe=>by have:=(hv k e.symm).2;omega);exact⟨h0,A,zs,c,p,(hk R (by omega)).trans hb,hr.keep (λx hx=>World.cell?_of_block (hk _ (by omega))),hz,hl,p0,p1⟩
theorem own_pick{w w':World}{base:Nat}{e:TypeId}{size n:Nat}{v:Value}{xs:List Value}{R:Nat}(h:w.ownsRow base e size v n xs)(g:w.grownBy w' (some R))(hR:R<base):w'.ownsRow base e size v n xs:=
 own_keep h λk hk=>g.block k (h.lt k hk).2 (λe=>by injection e with e;have:=(h.lt k hk).1;omega)
theorem Tp.lt {w0 w:World}{B R:Nat}{N:Int}(h:Tp w0 w B R N):R<w.heap.size:=h.1.lt
theorem lit_at{w1 w2:World}{cs:Array Value}{t:TypeId}{R:Nat}{k:IntKind}(g:(w1.alloc (.cells cs t)).grownBy w2 (some R))(hR:R<w1.heap.size){i:Int}(h0:0<=i)(h1:i<cs.size)(hb:∀v∈cs.toList,∃z,v=Value.int k z):
  ∃z,Value.int k z∈cs.toList/\w2.cell? ⟨w1.heap.size,i.toNat,none⟩=some (.int k z):=by
 have hx:Box w2 w1.heap.size t cs:=(Box.new w1 t cs).grown g (λk hk=>by injection hk with hk;omega);have hi':i.toNat<cs.size:=by omega
 obtain⟨z,hz⟩:=hb (cs[i.toNat]'hi') (by simp);refine⟨z,by rw[<-hz];simp,?_⟩;rw[hx.cell,Array.getElem?_eq_getElem hi',hz]
theorem pick_lit{w0 w1:World}{B R:Nat}{N:Int}{cs:Array Value}{t:TypeId}{k:IntKind}(h:Tp w0 w1 B R N)(hN:N<=1099511627776)(n:Int)(hn:1<=n)(hn':n<=1099511627776)(hb:∀v∈cs.toList,∃z,v=Value.int k z)(hs:n<=cs.size):
  Calls Tryz.prog 70 #[.pointer (some ⟨R,0,none⟩),.int .i64 n] (w1.alloc (.cells cs t)) λe w'=>∃x:Int,e=.returned (.int .i64 x)/\0<=x/\x<n/\Tp w0 w' B R (N+1)/\(w1.alloc (.cells cs t)).grownBy w' (some R)∧
   ∃z,Value.int k z∈cs.toList/\w'.cell? ⟨w1.heap.size,x.toNat,none⟩=some (.int k z):=by
 refine(pick_tp (h.alloc (.cells cs t)) hN n hn hn').mono ?_;rintro e w' ⟨x,he,x0,x1,T,g⟩;exact⟨x,he,x0,x1,T,g,lit_at g h.lt x0 (by omega) hb⟩
theorem pick_lit2{w0 w1:World}{B R:Nat}{N:Int}{cs cs2:Array Value}{t t2:TypeId}{k:IntKind}(h:Tp w0 w1 B R N)(hN:N<=1099511627776)(n:Int)(hn:1<=n)(hn':n<=1099511627776)(hb:∀v∈cs.toList,∃z,v=Value.int k z)(hb2:∀v∈cs2.toList,∃z,v=Value.int .i64 z/\0<=z/\z<cs.size)(hs:n<=cs2.size):
  Calls Tryz.prog 70 #[.pointer (some ⟨R,0,none⟩),.int .i64 n] ((w1.alloc (.cells cs t)).alloc (.cells cs2 t2)) λe w'=>∃x:Int,e=.returned (.int .i64 x)/\0<=x/\x<n/\Tp w0 w' B R (N+1)/\((w1.alloc (.cells cs t)).alloc (.cells cs2 t2)).grownBy w' (some R)∧
   ∃z y,Value.int .i64 z∈cs2.toList/\w'.cell? ⟨w1.heap.size+1,x.toNat,none⟩=some (.int .i64 z)/\0<=z/\z<cs.size/\Value.int k y∈cs.toList/\w'.cell? ⟨w1.heap.size,z.toNat,none⟩=some (.int k y):=by
 have hb3:∀v∈cs2.toList,∃z,v=Value.int .i64 z:=λv hv=>by obtain⟨z,hz,_⟩:=hb2 v hv;exact⟨z,hz⟩
 refine(pick_lit (h.alloc (.cells cs t)) hN n hn hn' hb3 hs).mono ?_;rintro e w' ⟨x,he,x0,x1,T,g,z,hm,hz⟩;obtain⟨z',hz',z0,z1⟩:=hb2 _ hm;obtain rfl:z=z':=by injection hz'
 have hsz:(w1.alloc (.cells cs t)).heap.size=w1.heap.size+1:=by simp
 rw[hsz]at hz;have hx:Box w' w1.heap.size t cs:=((Box.new w1 t cs).alloc _).grown g (λk hk=>by injection hk with hk;have:=h.lt;omega);have hi':z.toNat<cs.size:=by omega
 obtain⟨y,hy⟩:=hb (cs[z.toNat]'hi') (by simp);refine⟨x,he,x0,x1,T,g,z,y,hm,hz,z0,z1,by rw[<-hy];simp,?_⟩;rw[hx.cell,Array.getElem?_eq_getElem hi',hy]
end DVar
/- The draw of a name. -/
namespace DName
open Kit DPick DVar
theorem pick_litP{p:Value->Prop}{w0 w1:World}{B R:Nat}{N:Int}{cs:Array Value}{t:TypeId}(h:Tp w0 w1 B R N)(hN:N<=1099511627776)(n:Int)(hn:1<=n)(hn':n<=1099511627776)(hb:∀v∈cs.toList,p v)(hs:n<=cs.size):
  Calls Tryz.prog 70 #[.pointer (some ⟨R,0,none⟩),.int .i64 n] (w1.alloc (.cells cs t)) λe w'=>∃x:Int,e=.returned (.int .i64 x)/\0<=x/\x<n/\Tp w0 w' B R (N+1)/\(w1.alloc (.cells cs t)).grownBy w' (some R)∧
   ∃v,p v/\w'.cell? ⟨w1.heap.size,x.toNat,none⟩=some v:=by
 refine(pick_tp (h.alloc (.cells cs t)) hN n hn hn').mono ?_;rintro e w' ⟨x,he,x0,x1,T,g⟩;have hx:Box w' w1.heap.size t cs:=(Box.new w1 t cs).grown g (λk hk=>by injection hk with hk;have:=h.lt;omega);have hi':x.toNat<cs.size:=by omega
 refine⟨x,he,x0,x1,T,g,cs[x.toNat]'hi',hb _ (by simp),?_⟩;rw[hx.cell,Array.getElem?_eq_getElem hi']
theorem odd_zero{w:World}{R:Nat}:Calls Tryz.prog 71 #[.pointer (some ⟨R,0,none⟩),.int .i64 0] w (Pure (.bool false) w):=by
 go_enter Tryz.func71,Tryz.ntmps71
 go_wp2_with fail
 go_ret;exact⟨rfl,rfl⟩
def IsName(v:Value):Prop:=∃s:ByteArray,v=.string s/\0<s.size/\s.size<=9
def IsText(v:Value):Prop:=∃s:ByteArray,v=.string s/\s.size<=9
def DrewText(w0 w:World)(B R:Nat)(N:Int)(lo:Nat)(e:Ending)(w':World):Prop:=∃s:ByteArray,e=.returned (.string s)/\lo<=s.size/\s.size<=9/\Tp w0 w' B R N/\w.grownBy w' (some R)
theorem grown_lit{w w1 w2:World}{o:Obj}{R:Nat}(g1:w.grownBy w1 (some R))(g2:(w1.alloc o).grownBy w2 (some R)):w.grownBy w2 (some R):=grown_trans (grown_alloc g1 o) g2
theorem name_any{w0 w:World}{B R:Nat}{N:Int}(T:Tp w0 w B R N)(hN:N<=1000000)(n:Int)(hn:0<=n)(hn':n<=1000):
  Calls Tryz.prog 108 #[.pointer (some ⟨R,0,none⟩),.int .i64 n] w (DrewText w0 w B R (N+2) 0):=by
 go_enter Tryz.func108,Tryz.ntmps108
 go_wp2_with fail
 refine(odd_tp (by first|with_reducible assumption|exact Tp.alloc (by with_reducible assumption) _|exact Tp.alloc (Tp.alloc (by with_reducible assumption) _) _|exact Tp.drewN (by with_reducible assumption) _|exact Tp.drew (by with_reducible assumption)|exact Tp.drawn (by with_reducible assumption)|exact Tp.alloc (Tp.drewN (by with_reducible assumption) _) _|exact Tp.alloc (Tp.drew (by with_reducible assumption)) _|exact Tp.alloc (Tp.alloc (Tp.alloc (by with_reducible assumption) _) _) _) (by omega) _ (by omega) (by omega)).mono ?_
 rintro e w1 ⟨bo,rfl,T1,g1⟩;clear T;cases bo
 ·go_wp2_with fail
  refine(pick_litP (p:=IsText) T1 (by omega) _ (by omega) (by omega) (by repeat(first|exact List.forall_mem_nil _|refine List.forall_mem_cons.2 ⟨⟨_,rfl,by decide⟩,?_⟩)) (by simp)).mono ?_
  rintro e w2 ⟨x,rfl,x0,x1,T2,g2,v,⟨s,rfl,s1⟩,hv⟩;have HG:=h_ (grown_lit g1 g2);clear g1 g2 T1;go_wp2_with fail
  go_ret;exact⟨s,rfl,Nat.zero_le _,s1,T2.more (by omega),HG.o⟩
 ·go_wp2_with fail
  refine(pick_litP (p:=IsText) T1 (by omega) _ (by omega) (by omega) (by repeat(first|exact List.forall_mem_nil _|refine List.forall_mem_cons.2 ⟨⟨_,rfl,by decide⟩,?_⟩)) (by simp)).mono ?_
  rintro e w2 ⟨x,rfl,x0,x1,T2,g2,v,⟨s,rfl,s1⟩,hv⟩;have HG:=h_ (grown_lit g1 g2);clear g1 g2 T1;go_wp2_with fail
  go_ret;exact⟨s,rfl,Nat.zero_le _,s1,T2.more (by omega),HG.o⟩
theorem name_ok{w0 w:World}{B R:Nat}{N:Int}(T:Tp w0 w B R N)(hN:N<=1000000):
  Calls Tryz.prog 108 #[.pointer (some ⟨R,0,none⟩),.int .i64 0] w (DrewText w0 w B R (N+2) 1):=by
 go_enter Tryz.func108,Tryz.ntmps108
 go_wp2_with fail
 refine odd_zero.mono ?_;rintro e w' ⟨rfl,rfl⟩;go_wp2_with fail
 refine(pick_litP (p:=IsName) T (by omega) _ (by omega) (by omega) (by repeat(first|exact List.forall_mem_nil _|refine List.forall_mem_cons.2 ⟨⟨_,rfl,by decide,by decide⟩,?_⟩)) (by simp)).mono ?_
 rintro e w2 ⟨x,rfl,x0,x1,T2,g2,v,⟨s,rfl,s0,s1⟩,hv⟩;have HG:=h_ (grown_lit (grown_refl w (some R)) g2);clear g2 T;go_wp2_with fail
 go_ret;exact⟨s,rfl,s0,s1,T2.more (by omega),HG.o⟩
end DName
/- The draw of bytes. -/
namespace DBytes
open Kit DPick DVar
theorem info8:(Tryz.prog.info? 5).map (λi=>(i.zero,i.size,i.bytes))=some (some (.int .u8 0),1,1):=by kernel_rfl
def DrewBytes(w0 w:World)(B R:Nat)(N:Int)(most:Nat)(e:Ending)(w':World):Prop:=∃(A:Option Addr) (zs:List Int) (c:Nat),e=.returned (.slice A zs.length c)/\zs.length<=most/\InR 0 255 zs/\w'.ownsRow w.heap.size 5 1 (.slice A zs.length c) zs.length (ints .u8 zs)/\Tp w0 w' B R N
theorem bytes_any{w0 w:World}{B R:Nat}{N:Int}(T:Tp w0 w B R N)(hN:N<=1000000)(hN0:0<=N)(most:Nat)(hm:most<=1000):
  Calls Tryz.prog 134 #[.pointer (some ⟨R,0,none⟩),.int .i64 most] w (DrewBytes w0 w B R (N+2*most+1) most):=by
 obtain⟨i0,hi,hz0,hz1,hz2⟩:=info_parts info8;have hR:=T.lt;have hw0:=T.2.size;have HO:=h_ (own_empty (w:=w) (E:=5));go_enter Tryz.func134,Tryz.ntmps134
 go_wp2_with fail
 refine(pick_tp (by first|with_reducible assumption|exact Tp.alloc (by with_reducible assumption) _|exact Tp.alloc (Tp.alloc (by with_reducible assumption) _) _|exact Tp.drewN (by with_reducible assumption) _|exact Tp.drew (by with_reducible assumption)|exact Tp.drawn (by with_reducible assumption)|exact Tp.alloc (Tp.drewN (by with_reducible assumption) _) _|exact Tp.alloc (Tp.drew (by with_reducible assumption)) _|exact Tp.alloc (Tp.alloc (Tp.alloc (by with_reducible assumption) _) _) _) (by omega) _ (by omega) (by omega)).mono ?_
 rintro e w1 ⟨x,rfl,x0,x1,T1,g1⟩;have HO1:=h_ (own_pick HO.o g1 hR);have HT1:=h_ T1;obtain⟨j,rfl⟩:=Int.eq_ofNat_of_zero_le x0;have hsz1:w.heap.size<=w1.heap.size:=by have h1:=g1.size;simp at h1;omega
 clear T T1 g1 HO;go_wp2_with fail
 go_loopw [5,6] (λo k wr=>∃(i:Nat) (A':Option Addr) (l c':Nat) (zs:List Int),k=.int .i64 i/\o=.slice A' l c'/\l=zs.length/\l+i<=most/\InR 0 255 zs/\wr.ownsRow w.heap.size 5 1 (.slice A' l c') l (ints .u8 zs)/\Tp w0 wr B R (N+2*(most-i:Int)+1)/\w.heap.size<=wr.heap.size) (λ_ k _=>(intOf k).toNat)
 case atStart=>exact⟨j,_,0,_,[],rfl,rfl,rfl,by omega,λx hx=>by simp at hx,HO1.o,HT1.o.more (by omega),hsz1⟩
 case round=>
  obtain⟨i,A',l,c',zs,rfl,rfl,hl,hli,hzs,ho,T,hszr⟩:=hrel;have HL:=h_ hl;have HZ:=h_ hzs;have HO:=h_ ho;clear hl hzs ho HO1 HT1;by_cases h0:0<i
  ·go_wp2_with fail
   refine(pick_tp (by first|with_reducible assumption|exact Tp.alloc (by with_reducible assumption) _|exact Tp.alloc (Tp.alloc (by with_reducible assumption) _) _|exact Tp.drewN (by with_reducible assumption) _|exact Tp.drew (by with_reducible assumption)|exact Tp.drawn (by with_reducible assumption)|exact Tp.alloc (Tp.drewN (by with_reducible assumption) _) _|exact Tp.alloc (Tp.drew (by with_reducible assumption)) _|exact Tp.alloc (Tp.alloc (Tp.alloc (by with_reducible assumption) _) _) _) (by omega) _ (by omega) (by omega)).mono ?_
   rintro e w2 ⟨y,rfl,y0,y1,T2,g2⟩;have HO2:=h_ (own_pick HO.o g2 hR);have g2s:=g2.size;clear T g2 HO;go_wp2_with fail
   refine(pick_lit T2 (by omega) _ (by omega) (by omega) (by repeat(first|exact List.forall_mem_nil _|refine List.forall_mem_cons.2 ⟨⟨_,rfl⟩,?_⟩)) (by simp)).mono ?_
   rintro e w3 ⟨v,rfl,v0,v1,T3,g3,z,hm,hz⟩;simp only[List.mem_cons,Value.int.injEq,true_and,List.not_mem_nil,or_false]at hm;have hzb:0<=z/\z<=255:=by omega
   have HO3:=h_ (own_pick (HO2.o.alloc _) g3 hR);have HT3:=h_ T3;have hsz3:w.heap.size<=w3.heap.size:=by have h1:=g3.size;have h2:=hszr;have h3:=g2s;simp at h1;omega
   clear T2 g3 HO2 hm T3;go_wp2_with (at_builtin;refine wpList_app1 w3 rfl (.tmp 16) (.tmp 25) 22 rfl w.heap.size 5 i0 (.int .u8 0) 1 1 Tryz.underlying22 hi hz0 hz1 hz2 rfl (by decide) _ rfl rfl ?o1 _ _ _ rfl HO3.o ?n1 ?n2 ?n3 ?_)
   case o1=>first|rfl|(simp;done)|(intro u hu;simp at hu;subst hu;rfl)
   case n1=>unfold maxLen;omega
   case n2=>omega
   case n3=>exact hsz3
   intro A4 n4 c4 w4 hn4 o4 g4;subst hn4;have T4:=HT3.o.own g4 (λk hk=>⟨Nat.le_trans hw0 (HO3.o.lt k hk).1,Nat.lt_of_lt_of_le hR (HO3.o.lt k hk).1⟩);have HO4:=h_ o4;have HT4:=h_ T4;have hsz4:=Nat.le_trans hsz3 g4.size;clear o4 g4 T4 HO3 HT3 hz;go_wp2_with fail
   refine⟨⟨i-1,A4,l+1,c4,zs++[z],by go_num,rfl,by rw[HL.o];simp,by omega,?_,by simpa using HO4.o,HT4.o.more (by omega),hsz4⟩,by simp[intOf];omega⟩;intro a ha;rcases List.mem_append.1 ha with ha|ha
   ·exact HZ.o a ha
   ·simp at ha;omega
  ·have e:i=0:=by omega
   subst e;have hl:=HL.o;subst hl;go_wp2_with fail
   go_ret;exact⟨A',zs,c',rfl,by omega,HZ.o,HO.o,T.more (by omega)⟩
end DBytes
/- The program's WarningsOf. -/
namespace CWarn
open Kit CCode CFixups CSymbols PObj BObj PValid CSecValid CUses CCovers CObjValid PWarn
end CWarn
end Go.Proofs.YtepoiphmmjfbdaaGreatDoor
