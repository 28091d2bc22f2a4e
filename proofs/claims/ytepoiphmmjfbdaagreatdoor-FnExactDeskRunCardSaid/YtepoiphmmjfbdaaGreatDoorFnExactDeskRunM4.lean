/- The reference's l4Copy: an object in new memory. -/
import Derived.Test.YtepoiphmmjfbdaaGreatDoorFnExactDeskRunM3
import Derived.Lib.AppendZerosOnto
import Derived.WalkSpells
import Derived.Deep.RegionHeld3
import Derived.Deep.RegionLaw
import Derived.Deep.RegionLawGrows
import Derived.Lib.SliceRun
import Derived.Test.YtepoiphmmjfbdaaGreatDoorRows
import Derived.StillTailTactics
import Derived.BigQuiet
import Derived.Lib.VarintMem
import Derived.Lib.EndianMore
set_option linter.unusedSimpArgs false
set_option linter.unusedVariables false
set_option maxRecDepth 200000
open Go.ChangeShapes Go.WideShapes Go.ChangeAt Go.RowKit
namespace Go.Proofs.YtepoiphmmjfbdaaGreatDoor
namespace CCopyS
open Kit CFixups CSymbols PObj BObj CMarkRows CObjValid
structure Nils (o:OV):Prop where
 y:o.Y=none->o.yc=0
 p:∀ p ∈ o.ps,(p.A=none->p.c=0)/\(p.F=none->p.fc=0)
theorem nils_own {o:OV} {w:World} {base:Nat} (h:OwnO w base o):Nils o:=⟨h.2.nil,fun p hp=>⟨(h.1.2.1 p hp).1.nil,(h.1.2.1 p hp).2.nil⟩⟩
theorem infoY:(Tryz.prog.info? 67).map (fun i=>(i.zero,i.size,i.bytes))=some (some (.agg #[.string ByteArray.empty,.int .i64 0,.int .i64 0,.int .i64 0]),4,40):=CSymbols.info
theorem one_sym (ys:List YD):∀ u ∈ cellsOf symbolC ys,u.oneCell'=true:=by
 intro u hu;obtain ⟨z,_,hz⟩:=List.mem_flatMap.1 hu;simp only [symbolC,List.mem_cons,List.not_mem_nil,or_false] at hz
 rcases hz with rfl | rfl | rfl | rfl <;> rfl
theorem one_fix (ys:List FD):∀ u ∈ cellsOf fixupC ys,u.oneCell'=true:=by
 intro u hu;obtain ⟨z,_,hz⟩:=List.mem_flatMap.1 hu;simp only [fixupC,List.mem_cons,List.not_mem_nil,or_false] at hz
 rcases hz with rfl | rfl | rfl | rfl <;> rfl
theorem one_ints (k:IntKind) (zs:List Int):∀ u ∈ ints k zs,u.oneCell'=true:=by
 intro u hu;obtain ⟨z,_,rfl⟩:=List.mem_map.1 hu
 rfl
set_option maxHeartbeats 2000000 in
theorem l4Copy_any (o:OV) (w:World) (hr:RdO w w.heap.size o) (hf:Fit o) (hn:Nils o) (hs:o.ps.length<=100/\o.ys.length<=100):
  Calls Tryz.prog 109 #[.agg #[.slice o.A o.ps.length o.c,.slice o.Y o.ys.length o.yc]] w (RetO o.d w):=by
 obtain ⟨iy,hy1,hy2,hy3,hy4⟩:=info_parts infoY;obtain ⟨ix,hx1,hx2,hx3,hx4⟩:=info_parts BObj.info;obtain ⟨i8,h81,h82,h83,h84⟩:=info_parts CBytes.info8;obtain ⟨iF,hF1,hF2,hF3,hF4⟩:=info_parts CFixups.info;have HIY:=h_ (And.intro hy1 (And.intro hy2 (And.intro hy3 hy4)));have HIX:=h_ (And.intro hx1 (And.intro hx2 (And.intro hx3 hx4)));have HI8:=h_ (And.intro h81 (And.intro h82 (And.intro h83 h84)));have HIF:=h_ (And.intro hF1 (And.intro hF2 (And.intro hF3 hF4)));clear hy1 hy2 hy3 hy4 hx1 hx2 hx3 hx4 h81 h82 h83 h84 hF1 hF2 hF3 hF4;obtain ⟨A,c,ps,Y,yc,ys⟩:=o;obtain ⟨np,ny,cy,hp,hy⟩:=hf;obtain ⟨ny0,np0⟩:=hn;obtain ⟨ss1,ss2⟩:=hs;simp only at np ny cy hp hy ny0 np0 ss1 ss2 ⊢;have HR:=h_ hr;have HL:=h_ (And.intro hp np0);have HNY:=h_ ny0;clear hr hp hy np0 ny0;have B0:Below w.heap.size w (((w.alloc (.cells #[.slice A ps.length c,.slice Y ys.length yc] 26)).alloc (.cells #[.slice none 0 0,.slice none 0 0] 26)).alloc (.cells #[] 67)):=b_;have HV0:=h_ (((Box.new w 26 #[.slice A ps.length c,.slice Y ys.length yc]).alloc (.cells #[.slice none 0 0,.slice none 0 0] 26)).alloc (.cells #[] 67));have HR0:=(Box.new (w.alloc (.cells #[.slice A ps.length c,.slice Y ys.length yc] 26)) 26 #[.slice none 0 0,.slice none 0 0]).alloc (.cells #[] 67);simp only [World.size_alloc] at HR0;have HRR0:=h_ HR0;clear HR0;have HB0:=h_ B0
 have hVR:w.heap.size<w.heap.size+1:=by omega
 clear B0
 go_enter Tryz.func109,Tryz.ntmps109
 go_wp2_with (at_builtin; refine wpList_app _ rfl (.tmp 6) (.tmp 8) 24 rfl 67 iy (.agg #[.string ByteArray.empty,.int .i64 0,.int .i64 0,.int .i64 0]) 4 40 Tryz.underlying24 HIY.o.1 HIY.o.2.1 HIY.o.2.2.1 HIY.o.2.2.2 rfl (by decide) w.heap.size (some ⟨w.heap.size+1+1,0,none⟩) 0 0 [] rfl (Row.empty _ _ _ _ _) HB0.o.size Y ys.length yc (cellsOf symbolC ys) rfl (HR.o.2.below HB0.o) (cellsOf_len symbolC_len ys) HNY.o (one_sym ys) ?n1 ?n2 ?_)
 case n1=>unfold maxLen; omega
 case n2=>omega
 intro A1 n1 c1 w1 hn1 o1 g1 k1;subst hn1;have HB1:=h_ (HB0.o.grown g1 HB0.o.size (fun k hk=>by cases hk));have HV1:=h_ (HV0.o.grown g1 (fun k hk=>by cases hk));have HRR1:=h_ (HRR0.o.grown g1 (fun k hk=>by cases hk));have HY1:=h_ o1;have hR0:=HRR1.o.lt;clear o1 g1 k1 HB0 HV0 HRR0
 go_wp2_with fail
 have HX2:=h_ (Box.new w1 26 #[.slice none 0 0,.slice A1 ys.length c1]);have HB2:=h_ (HB1.o.alloc HB1.o.size (.cells #[.slice none 0 0,.slice A1 ys.length c1] 26));have HV2:=h_ (HV1.o.alloc (.cells #[.slice none 0 0,.slice A1 ys.length c1] 26));have HRR2:=h_ (HRR1.o.alloc (.cells #[.slice none 0 0,.slice A1 ys.length c1] 26));have HY2:=h_ (HY1.o.alloc (.cells #[.slice none 0 0,.slice A1 ys.length c1] 26));clear HB1 HV1 HRR1 HY1;generalize w1.alloc (.cells #[.slice none 0 0,.slice A1 ys.length c1] 26)=w2 at *;have hRX:w.heap.size+1<w1.heap.size:=hR0
 have hVX:w.heap.size<w1.heap.size:=by omega
 generalize w1.heap.size=X at *;generalize w.heap.size+1=R at *
 go_loopw [4] (fun i wi=>∃ (k:Nat) (qs:List SV) (Aq:Option Addr) (cq:Nat),k<=ps.length/\qs.length=k/\i=.int .i64 k/\qs.map SV.d=(ps.take k).map SV.d/\OwnSs wi w.heap.size Aq cq qs/\Box wi X 26 #[.slice Aq k cq,.slice A1 ys.length c1]/\Row wi w.heap.size 67 4 A1 ys.length c1 (cellsOf symbolC ys)/\Box wi w.heap.size 26 #[.slice A ps.length c,.slice Y ys.length yc]/\Box wi R 26 #[.slice none 0 0,.slice none 0 0]/\Below w.heap.size w wi) (fun i _=>ps.length - (intOf i).toNat)
 case atStart=>exact ⟨0,[],none,0,Nat.zero_le _,rfl,rfl,rfl,⟨Row.empty _ _ _ _ _,(fun p hp=>by cases hp),List.Pairwise.nil⟩,HX2.o,HY2.o,HV2.o,HRR2.o,HB2.o⟩
 case round=>
  clear HX2 HY2 HV2 HRR2 HB2;obtain ⟨k,qs,Aq,cq,hk,hql,rfl,hqd,ho,hx,hrow,hv,hrr,hb⟩:=hrel;have HO:=h_ ho;have HX:=h_ hx;have HY:=h_ hrow;have HV:=h_ hv;have HRR:=h_ hrr;have HB:=h_ hb;have HQ:=h_ (And.intro hql hqd);have v0:=d_ hv 0;have x0:=d_ hx 0;have x1:=d_ hx 1;have hvl:=hv.lt;have hxl:=hx.lt
  by_cases hlt:k<ps.length
  ·obtain ⟨b,off,hA,hbg,hc⟩:=(HR.o.1.1.below hb).row secC_len (by decide) hlt;have hbw:b<wr.heap.size:=Nat.lt_of_lt_of_le hbg hb.size;have hc0:=hc 0 _ rfl;have hc1:=hc 1 _ rfl;have hc2:=hc 2 _ rfl;have hc3:=hc 3 _ rfl;have hc4:=hc 4 _ rfl;have hc5:=hc 5 _ rfl;simp only [Nat.add_zero] at hc0;have HM:=h_ (HL.o.1 _ (List.getElem_mem hlt));have HN:=h_ (HL.o.2 _ (List.getElem_mem hlt));have HRS:=h_ (HR.o.1.2 _ (List.getElem_mem hlt));have HD:=h_ (show (qs++[ps[k]]).map SV.d=(ps.take (k+1)).map SV.d by rw [take_succ hlt,List.map_append,List.map_append,hqd]);clear hql hqd ho hx hrow hv hrr hb hc;subst hA;generalize ps[k]=p at *;have hmz:=HM.o.2.1;have hmf:=HM.o.2.2;have Ba:Below wr.heap.size wr ((wr.alloc (.cells #[.string p.nm,.int .i64 p.kd,.int .i64 p.al,.slice p.A p.zs.length p.c,.int .i64 p.sz,.slice p.F p.fs.length p.fc] 61)).alloc (.cells #[] 5)):=b_;have HBa:=h_ (HB.o.trans (Ba.mono HB.o.size));have HSa:=h_ ((Box.new wr 61 #[.string p.nm,.int .i64 p.kd,.int .i64 p.al,.slice p.A p.zs.length p.c,.int .i64 p.sz,.slice p.F p.fs.length p.fc]).alloc (.cells #[] 5));have hsa:wr.heap.size<=((wr.alloc (.cells #[.string p.nm,.int .i64 p.kd,.int .i64 p.al,.slice p.A p.zs.length p.c,.int .i64 p.sz,.slice p.F p.fs.length p.fc] 61)).alloc (.cells #[] 5)).heap.size:=Ba.size;have HBA:=h_ Ba;clear Ba
   go_wp2_with (at_builtin; refine wpList_app _ rfl (.tmp 23) (.tmp 25) 22 rfl 5 i8 (.int .u8 0) 1 1 Tryz.underlying22 HI8.o.1 HI8.o.2.1 HI8.o.2.2.1 HI8.o.2.2.2 rfl (by decide) w.heap.size (some ⟨wr.heap.size+1,0,none⟩) 0 0 [] rfl (Row.empty _ _ _ _ _) HBa.o.size p.A p.zs.length p.c (ints .u8 p.zs) rfl (HRS.o.1.below HBa.o) (by simp) HN.o.1 (one_ints _ _) ?n1 ?n2 ?_)
   case n1=>unfold maxLen; omega
   case n2=>omega
   intro A2 n2 c2 w2 hn2 o2 g2 k2;subst hn2;clear hc0 hc1 hc2 hc3 hc4 hc5 v0 x0 x1;have b2:=(Below.refl _ _).grown g2 (Nat.le_refl _) (fun k h=>by cases h);have HBt:=h_ (HBA.o.trans (b2.mono HBA.o.size));have HS2:=h_ (HSa.o.call b2)
   have HA2:=h_ (And.intro o2 (fun k (hk:blk A2 c2=some k)=>(show wr.heap.size<=k from by
    rcases k2 k hk with h | h
    ·cases h
    ·omega)))
   generalize ((wr.alloc (.cells #[.string p.nm,.int .i64 p.kd,.int .i64 p.al,.slice p.A p.zs.length p.c,.int .i64 p.sz,.slice p.F p.fs.length p.fc] 61)).alloc (.cells #[] 5))=wa at *;clear o2 g2 k2 b2 HSa HBA HBa;have s3:=HS2.o.cell 3;have s5:=HS2.o.cell 5;have sf3:=HS2.o.frozen 3;simp only [g_] at s3 s5;have hSl:=HS2.o.lt;have HB4:=h_ (show Below wr.heap.size wr ((w2.setCell ⟨wr.heap.size,3,none⟩ (.slice A2 p.zs.length c2)).alloc (.cells #[] 65)) from (HBt.o.setCell (p:=⟨wr.heap.size,3,none⟩) (Nat.le_refl _) _).alloc (HBt.o.setCell (p:=⟨wr.heap.size,3,none⟩) (Nat.le_refl _) (.slice A2 p.zs.length c2)).size _);have HW4:=h_ (HB.o.trans (HB4.o.mono HB.o.size));have HS4:=h_ ((show Box (w2.setCell ⟨wr.heap.size,3,none⟩ (.slice A2 p.zs.length c2)) wr.heap.size 61 #[.string p.nm,.int .i64 p.kd,.int .i64 p.al,.slice A2 p.zs.length c2,.int .i64 p.sz,.slice p.F p.fs.length p.fc] from HS2.o.set 3 _).alloc (.cells #[] 65));have HA4:=h_ ((HA2.o.1.set (a:=⟨wr.heap.size,3,none⟩) (HA2.o.1.box HS2.o (by decide)) (.slice A2 p.zs.length c2)).alloc (.cells #[] 65));have HA2k:=h_ HA2.o.2;clear HS2 HA2 HBt
   have hz4:(w2.setCell ⟨wr.heap.size,3,none⟩ (.slice A2 p.zs.length c2)).heap.size=w2.heap.size:=by simp [World.setCell]
   go_wp2_with (at_builtin; refine wpList_app _ rfl (.tmp 28) (.tmp 30) 59 rfl 65 iF (.agg #[.int .i64 0,.int .i64 0,.int .i64 0,.int .i64 0]) 4 32 Tryz.underlying59 HIF.o.1 HIF.o.2.1 HIF.o.2.2.1 HIF.o.2.2.2 rfl (by decide) w.heap.size (some ⟨w2.heap.size,0,none⟩) 0 0 [] rfl (Row.empty _ _ _ _ _) HW4.o.size p.F p.fs.length p.fc (cellsOf fixupC p.fs) rfl (HRS.o.2.below HW4.o) (cellsOf_len fixupC_len p.fs) HN.o.2 (one_fix _) ?n1 ?n2 ?_)
   case n1=>unfold maxLen; omega
   case n2=>omega
   intro A5 n5 c5 w5 hn5 o5 g5 k5;subst hn5;have b5:=(Below.refl _ _).grown g5 (Nat.le_refl _) (fun k h=>by cases h);have HBt:=h_ (HB4.o.trans (b5.mono HB4.o.size));have HS5:=h_ (HS4.o.call b5);have HA5:=h_ (HA4.o.call b5);have hle4:=HBt.o.size;have hs24:wr.heap.size<=w2.heap.size:=Nat.le_of_lt hSl
   have HF5:=h_ (And.intro o5 (fun k (hk:blk A5 c5=some k)=>(show wr.heap.size<=k from by
    rcases k5 k hk with h | h
    ·cases h
    ·omega)))
   clear o5 g5 k5 b5 s3 s5 sf3 HS4 HA4 HB4 HW4;have s0:=HS5.o.cell 0;have s1:=HS5.o.cell 1;have s2:=HS5.o.cell 2;have s3:=HS5.o.cell 3;have s4:=HS5.o.cell 4;have s5:=HS5.o.cell 5;have sf5:=HS5.o.frozen 5;simp only [g_] at s0 s1 s2 s3 s4 s5;have hSl5:=HS5.o.lt
   -- the world behind the stores into the section's variable
   have HB6:=h_ (show Below wr.heap.size wr (w5.setCell ⟨wr.heap.size,5,none⟩ (.slice A5 p.fs.length c5)) from HBt.o.setCell (p:=⟨wr.heap.size,5,none⟩) (Nat.le_refl _) _);have HA6:=h_ (HA5.o.set (a:=⟨wr.heap.size,5,none⟩) (HA5.o.box HS5.o (by decide)) (.slice A5 p.fs.length c5));have HF6:=h_ (HF5.o.1.set (a:=⟨wr.heap.size,5,none⟩) (HF5.o.1.box HS5.o (by decide)) (.slice A5 p.fs.length c5));have HFk:=h_ HF5.o.2;have HX6:=h_ (HX.o.call HB6.o);have x0:=HX6.o.cell 0;have x1:=HX6.o.cell 1;have xf0:=HX6.o.frozen 0;simp only [g_] at x0 x1;have HSS6:=h_ (show Box (w5.setCell ⟨wr.heap.size,5,none⟩ (.slice A5 p.fs.length c5)) wr.heap.size 61 #[.string p.nm,.int .i64 p.kd,.int .i64 p.al,.slice A2 p.zs.length c2,.int .i64 p.sz,.slice A5 p.fs.length c5] from HS5.o.set 5 _);have u0:=d_ HSS6.o 0;have u1:=d_ HSS6.o 1;have u2:=d_ HSS6.o 2;have u3:=d_ HSS6.o 3;have u4:=d_ HSS6.o 4;have u5:=d_ HSS6.o 5;have HO6:=h_ (HO.o.call HB6.o);have HY6:=h_ (HY.o.call HB6.o);have HV6:=h_ (HV.o.call HB6.o);have HRR6:=h_ (HRR.o.call HB6.o);have HBW6:=h_ (HB.o.trans (HB6.o.mono HB.o.size));have HQlt:=h_ (fun x (hx:x ∈ qs) k (hk:sblk x k)=>(show k<wr.heap.size from ((HO.o.2.1 x hx).lt k hk).2))
   have hcl:(cellsOf secC qs).length=k*6:=by rw [cellsOf_len secC_len,HQ.o.1]
   clear HA5 HF5 HX HO HY HV HRR HB HBt HS5
   have hz6:(w5.setCell ⟨wr.heap.size,5,none⟩ (.slice A5 p.fs.length c5)).heap.size=w5.heap.size:=by simp [World.setCell]
   have HSEC:=h_ (show Row ((w5.setCell ⟨wr.heap.size,5,none⟩ (.slice A5 p.fs.length c5)).alloc (.cells #[.string p.nm,.int .i64 p.kd,.int .i64 p.al,.slice A2 p.zs.length c2,.int .i64 p.sz,.slice A5 p.fs.length c5] 61)) w.heap.size 61 6 Aq k cq (cellsOf secC qs) from by
    have h:=(HO6.o.1).alloc (.cells #[.string p.nm,.int .i64 p.kd,.int .i64 p.al,.slice A2 p.zs.length c2,.int .i64 p.sz,.slice A5 p.fs.length c5] 61);rw [HQ.o.1] at h
    exact h)
   have HW7:=h_ (HBW6.o.alloc HBW6.o.size (.cells #[.string p.nm,.int .i64 p.kd,.int .i64 p.al,.slice A2 p.zs.length c2,.int .i64 p.sz,.slice A5 p.fs.length c5] 61))
   go_wp2_with (at_builtin; refine wpList_app _ rfl (.tmp 34) (.tmp 36) 23 rfl 61 ix (.agg #[.string ByteArray.empty,.int .i64 0,.int .i64 0,.slice none 0 0,.int .i64 0,.slice none 0 0]) 6 88 Tryz.underlying23 HIX.o.1 HIX.o.2.1 HIX.o.2.2.1 HIX.o.2.2.2 rfl (by decide) w.heap.size Aq k cq (cellsOf secC qs) rfl HSEC.o HW7.o.size (some ⟨w5.heap.size,0,none⟩) 1 1 [.string p.nm,.int .i64 p.kd,.int .i64 p.al,.slice A2 p.zs.length c2,.int .i64 p.sz,.slice A5 p.fs.length c5] rfl (rd_lit (w5.setCell ⟨wr.heap.size,5,none⟩ (.slice A5 p.fs.length c5)) #[.string p.nm,.int .i64 p.kd,.int .i64 p.al,.slice A2 p.zs.length c2,.int .i64 p.sz,.slice A5 p.fs.length c5] 61 _ hz6.symm) rfl (fun h=>by cases h) ?o1 ?n1 ?n2 ?_)
   case o1=>intro u hu; simp only [List.mem_cons,List.not_mem_nil,or_false] at hu; rcases hu with rfl | rfl | rfl | rfl | rfl | rfl <;> rfl
   case n1=>unfold maxLen; omega
   case n2=>omega
   intro A8 n8 c8 w8 hn8 o8 g8 k8;subst hn8;have HX7:=h_ ((HX6.o.alloc (.cells #[.string p.nm,.int .i64 p.kd,.int .i64 p.al,.slice A2 p.zs.length c2,.int .i64 p.sz,.slice A5 p.fs.length c5] 61)).grown g8 (fun j hj=>HSEC.o.box (HX6.o.alloc _) (by decide) j hj));have HV7:=h_ ((HV6.o.alloc (.cells #[.string p.nm,.int .i64 p.kd,.int .i64 p.al,.slice A2 p.zs.length c2,.int .i64 p.sz,.slice A5 p.fs.length c5] 61)).grown g8 (fun j hj=>HSEC.o.box (HV6.o.alloc _) (by decide) j hj));have HRR7:=h_ ((HRR6.o.alloc (.cells #[.string p.nm,.int .i64 p.kd,.int .i64 p.al,.slice A2 p.zs.length c2,.int .i64 p.sz,.slice A5 p.fs.length c5] 61)).grown g8 (fun j hj=>HSEC.o.box (HRR6.o.alloc _) (by decide) j hj));have HY7:=h_ ((HY6.o.alloc (.cells #[.string p.nm,.int .i64 p.kd,.int .i64 p.al,.slice A2 p.zs.length c2,.int .i64 p.sz,.slice A5 p.fs.length c5] 61)).grown g8 (fun j hj h=>apartT (HY6.o.alloc _) HSEC.o (by decide) j hj h));have HBW7:=h_ (HW7.o.grown g8 HW7.o.size (fun j hj=>(HSEC.o.lt j hj).1));have hgrow:∀ x:SV,RwS ((w5.setCell ⟨wr.heap.size,5,none⟩ (.slice A5 p.fs.length c5)).alloc (.cells #[.string p.nm,.int .i64 p.kd,.int .i64 p.al,.slice A2 p.zs.length c2,.int .i64 p.sz,.slice A5 p.fs.length c5] 61)) w.heap.size x->RwS w8 w.heap.size x:=fun x hx=>⟨hx.1.grown g8 (fun j hj h=>apartT hx.1 HSEC.o (by decide) j hj h),hx.2.grown g8 (fun j hj h=>apartT hx.2 HSEC.o (by decide) j hj h)⟩;have hq7:RwS ((w5.setCell ⟨wr.heap.size,5,none⟩ (.slice A5 p.fs.length c5)).alloc (.cells #[.string p.nm,.int .i64 p.kd,.int .i64 p.al,.slice A2 p.zs.length c2,.int .i64 p.sz,.slice A5 p.fs.length c5] 61)) w.heap.size ⟨p.nm,p.kd,p.al,A2,c2,p.zs,p.sz,A5,c5,p.fs⟩:=⟨HA6.o.alloc _,HF6.o.alloc _⟩;have hqs7:∀ x ∈ qs,RwS ((w5.setCell ⟨wr.heap.size,5,none⟩ (.slice A5 p.fs.length c5)).alloc (.cells #[.string p.nm,.int .i64 p.kd,.int .i64 p.al,.slice A2 p.zs.length c2,.int .i64 p.sz,.slice A5 p.fs.length c5] 61)) w.heap.size x:=fun x hx=>(HO6.o.2.1 x hx).call ((Below.refl _ _).alloc (Nat.le_refl _) _);have hX7:=HX7.o
   have HOW:=h_ (show OwnSs (w8.setCell ⟨X,0,none⟩ (.slice A8 (k+1) c8)) w.heap.size A8 c8 (qs++[⟨p.nm,p.kd,p.al,A2,c2,p.zs,p.sz,A5,c5,p.fs⟩]) from by
    refine ⟨?_,?_,?_⟩
    ·have h:=(show Row w8 w.heap.size 61 6 A8 (k+1) c8 _ from o8).set (a:=⟨X,0,none⟩) ((show Row w8 w.heap.size 61 6 A8 (k+1) c8 _ from o8).box hX7 (by decide)) (.slice A8 (k+1) c8);rw [cells_snoc,List.length_append,HQ.o.1];exact h
    ·refine RwSs.snoc (fun x hx=>?_) ?_
     ·exact (hgrow x (hqs7 x hx)).set (a:=⟨X,0,none⟩) ((hgrow x (hqs7 x hx)).box hX7 (by decide) (by decide)) _
     ·exact (hgrow _ hq7).set (a:=⟨X,0,none⟩) ((hgrow _ hq7).box hX7 (by decide) (by decide)) _
    ·refine HO6.o.2.2.snoc (N:=wr.heap.size) HQlt.o ?_;rintro j (hj | hj)
     ·exact HA2k.o j hj
     ·exact HFk.o j hj)
   have HX8:=h_ (show Box (w8.setCell ⟨X,0,none⟩ (.slice A8 (k+1) c8)) X 26 #[.slice A8 (k+1) c8,.slice A1 ys.length c1] from hX7.set 0 _);have HY8:=h_ (HY7.o.set (a:=⟨X,0,none⟩) (HY7.o.box hX7 (by decide)) (.slice A8 (k+1) c8));have HV8:=h_ (HV7.o.far (p:=⟨X,0,none⟩) (Nat.ne_of_lt hVX) (.slice A8 (k+1) c8));have HRR8:=h_ (HRR7.o.far (p:=⟨X,0,none⟩) (Nat.ne_of_lt hRX) (.slice A8 (k+1) c8));have HB8:=h_ (HBW7.o.setCell (p:=⟨X,0,none⟩) (Nat.le_of_lt hVX) (.slice A8 (k+1) c8));have x0:=hX7.cell 0;have x1:=hX7.cell 1;have xf0:=hX7.frozen 0;simp only [g_] at x0 x1;have hxl8:=hX7.lt;clear o8 g8 k8 hgrow hq7 hqs7 hX7 HX7 HV7 HRR7 HY7 HBW7 HSEC HW7 HO6 HY6 HV6 HRR6 HBW6 HX6 HSS6 u0 u1 u2 u3 u4 u5 s0 s1 s2 s3 s4 s5 sf5
   go_wp2_with fail
   refine ⟨⟨k+1,qs++[⟨p.nm,p.kd,p.al,A2,c2,p.zs,p.sz,A5,c5,p.fs⟩],A8,c8,by omega,by simp [HQ.o.1],by go_num,?_,HOW.o,HX8.o,HY8.o,HV8.o,HRR8.o,HB8.o⟩,by simp [intOf]; omega⟩;rw [<-HD.o,List.map_append,List.map_append]
   rfl
  ·have e:k=ps.length:=by omega
   have hqd':qs.map SV.d=ps.map SV.d:=by rw [hqd,List.take_of_length_le (by omega)]
   have HOO:=h_ (show OwnO wr w.heap.size ⟨Aq,cq,qs,A1,c1,ys⟩ from ⟨ho,hrow⟩);have HDD:=h_ (show OV.d ⟨Aq,cq,qs,A1,c1,ys⟩=OV.d ⟨A,c,ps,Y,yc,ys⟩ by simp only [OV.d,hqd'])
   have HNE:=h_ (show ∀ j,oblk ⟨Aq,cq,qs,A1,c1,ys⟩ j->j ≠ R from by
    rintro j ((hj | ⟨x,hx,hj⟩) | hj)
    ·exact ho.1.box hrr (by decide) j hj
    ·exact (ho.2.1 x hx).box hrr (by decide) (by decide) j hj
    ·exact hrow.box hrr (by decide) j hj)
   have HFIN:=h_ (CObject.ret_object HOO.o HB.o HNE.o (Nat.le_of_lt hVR));rw [HDD.o] at HFIN;have y0:=hrr.cell 0;have y1:=hrr.cell 1;have yf0:=hrr.frozen 0;have yf1:=hrr.frozen 1;have hrl:=hrr.lt;simp only [g_] at y0 y1;have kk:=(HRR.o.set 0 (.slice Aq qs.length cq)).set 1 (.slice A1 ys.length c1);have k0:=kk.cell 0;have k1:=kk.cell 1;simp only [k_] at k0 k1;clear kk ho hx hrow hv hrr hb hqd hqd' e;subst hql
   go_wp2_with fail
   exact bodyPost_ret (v:=OV.v ⟨Aq,cq,qs,A1,c1,ys⟩) (by simp [results,Tryz.results109,go_sem,OV.v,k0,k1]) rfl HFIN.o
end CCopyS
/- slices.Clone of symbols,fixups and bytes. -/
namespace CClones
open Kit CFixups CSymbols PObj BObj CMarkRows CObjValid CCopyS
def RetRow (T m n:Nat) (xs:List Value) (w:World) (e:Ending) (w':World):Prop:=∃ A c,e=.returned (.slice A n c)/\Row w' w.heap.size T m A n c xs/\Below w.heap.size w w'
theorem cloneY_any (A:Option Addr) (xs:List YD) (c B:Nat) (w:World) (hx:Rd w B A (cellsOf symbolC xs)) (hB:B<=w.heap.size) (hxm:xs.length<=1048576) (hnil:A=none->c=0):
  Calls Tryz.prog 142 #[.slice A xs.length c] w (RetRow 67 4 xs.length (cellsOf symbolC xs) w):=by
 obtain ⟨i0,hi,hz0,hz1,hz2⟩:=info_parts infoY;have hq:=fun W=>Lib.run_eql_slice_nil (P:=Tryz.prog) W 24 67 A xs.length c 0 0 Tryz.underlying24
 cases A with
 | none=>
  have hxs:xs=[]:=by
   cases xs with
   | nil=>rfl
   | cons u r=>
    obtain ⟨b,off,e',_⟩:=hx 0 _ rfl
    cases e'
  subst hxs;have hc:=hnil rfl;subst hc;clear hnil hx;simp only [Option.isNone_none,List.length_nil] at hq
  show Calls _ _ #[.slice none 0 0] _ _
  go_enter Tryz.func142,Tryz.ntmps142
  go_wp2_with fail
  go_ret;exact ⟨none,0,rfl,Row.empty _ _ _ _ _,Below.refl _ _⟩
 | some ad=>
  have HX:=h_ ((hx.more hB).below ((Below.refl _ _).alloc (Nat.le_refl _) (.cells #[] 67)));have HB:Hd (Below w.heap.size w (w.alloc (.cells #[] 67))):=b_;have HI:=h_ (And.intro hi (And.intro hz0 (And.intro hz1 hz2)));simp only [Option.isNone_some] at hq;clear hx hnil hi hz0 hz1 hz2
  go_enter Tryz.func142,Tryz.ntmps142
  go_wp2_with (at_builtin; refine wpList_app _ rfl (.tmp 5) (.tmp 6) 24 rfl 67 i0 (.agg #[.string ByteArray.empty,.int .i64 0,.int .i64 0,.int .i64 0]) 4 40 Tryz.underlying24 HI.o.1 HI.o.2.1 HI.o.2.2.1 HI.o.2.2.2 rfl (by decide) w.heap.size (some ⟨w.heap.size,0,none⟩) 0 0 [] rfl (Row.empty _ _ _ _ _) HB.o.size (some ad) xs.length c (cellsOf symbolC xs) rfl HX.o (cellsOf_len symbolC_len xs) (fun h=>by cases h) (one_sym xs) ?n1 ?n2 ?_)
  case n1=>unfold maxLen; omega
  case n2=>omega
  intro A6 n6 c6 w6 hn6 o6 g6 k6
  have hn6:n6=xs.length:=by omega
  have HO6:=h_ (show Row w6 w.heap.size 67 4 A6 n6 c6 (cellsOf symbolC xs) from o6);have HB6:=h_ (HB.o.grown g6 HB.o.size (fun k hk=>by cases hk));clear o6 g6 k6;subst hn6
  go_wp2_with fail
  go_ret;exact ⟨A6,c6,rfl,HO6.o,HB6.o⟩
theorem cloneF_any (A:Option Addr) (xs:List FD) (c B:Nat) (w:World) (hx:Rd w B A (cellsOf fixupC xs)) (hB:B<=w.heap.size) (hxm:xs.length<=1048576) (hnil:A=none->c=0):
  Calls Tryz.prog 143 #[.slice A xs.length c] w (RetRow 65 4 xs.length (cellsOf fixupC xs) w):=by
 obtain ⟨i0,hi,hz0,hz1,hz2⟩:=info_parts CFixups.info;have hq:=fun W=>Lib.run_eql_slice_nil (P:=Tryz.prog) W 59 65 A xs.length c 0 0 Tryz.underlying59
 cases A with
 | none=>
  have hxs:xs=[]:=by
   cases xs with
   | nil=>rfl
   | cons u r=>
    obtain ⟨b,off,e',_⟩:=hx 0 _ rfl
    cases e'
  subst hxs;have hc:=hnil rfl;subst hc;clear hnil hx;simp only [Option.isNone_none,List.length_nil] at hq
  show Calls _ _ #[.slice none 0 0] _ _
  go_enter Tryz.func143,Tryz.ntmps143
  go_wp2_with fail
  go_ret;exact ⟨none,0,rfl,Row.empty _ _ _ _ _,Below.refl _ _⟩
 | some ad=>
  have HX:=h_ ((hx.more hB).below ((Below.refl _ _).alloc (Nat.le_refl _) (.cells #[] 65)));have HB:Hd (Below w.heap.size w (w.alloc (.cells #[] 65))):=b_;have HI:=h_ (And.intro hi (And.intro hz0 (And.intro hz1 hz2)));simp only [Option.isNone_some] at hq;clear hx hnil hi hz0 hz1 hz2
  go_enter Tryz.func143,Tryz.ntmps143
  go_wp2_with (at_builtin; refine wpList_app _ rfl (.tmp 5) (.tmp 6) 59 rfl 65 i0 (.agg #[.int .i64 0,.int .i64 0,.int .i64 0,.int .i64 0]) 4 32 Tryz.underlying59 HI.o.1 HI.o.2.1 HI.o.2.2.1 HI.o.2.2.2 rfl (by decide) w.heap.size (some ⟨w.heap.size,0,none⟩) 0 0 [] rfl (Row.empty _ _ _ _ _) HB.o.size (some ad) xs.length c (cellsOf fixupC xs) rfl HX.o (cellsOf_len fixupC_len xs) (fun h=>by cases h) (one_fix xs) ?n1 ?n2 ?_)
  case n1=>unfold maxLen; omega
  case n2=>omega
  intro A6 n6 c6 w6 hn6 o6 g6 k6
  have hn6:n6=xs.length:=by omega
  have HO6:=h_ (show Row w6 w.heap.size 65 4 A6 n6 c6 (cellsOf fixupC xs) from o6);have HB6:=h_ (HB.o.grown g6 HB.o.size (fun k hk=>by cases hk));clear o6 g6 k6;subst hn6
  go_wp2_with fail
  go_ret;exact ⟨A6,c6,rfl,HO6.o,HB6.o⟩
theorem clone8_any (A:Option Addr) (xs:List Int) (c B:Nat) (w:World) (hx:Rd w B A (ints .u8 xs)) (hB:B<=w.heap.size) (hxm:xs.length<=1048576) (hnil:A=none->c=0):
  Calls Tryz.prog 103 #[.slice A xs.length c] w (RetRow 5 1 xs.length (ints .u8 xs) w):=by
 obtain ⟨i0,hi,hz0,hz1,hz2⟩:=info_parts CBytes.info8;have hq:=fun W=>Lib.run_eql_slice_nil (P:=Tryz.prog) W 22 5 A xs.length c 0 0 Tryz.underlying22
 cases A with
 | none=>
  have hxs:xs=[]:=by
   cases xs with
   | nil=>rfl
   | cons u r=>
    obtain ⟨b,off,e',_⟩:=hx 0 (.int .u8 u) rfl
    cases e'
  subst hxs;have hc:=hnil rfl;subst hc;clear hnil hx;simp only [Option.isNone_none,List.length_nil] at hq
  show Calls _ _ #[.slice none 0 0] _ _
  go_enter Tryz.func103,Tryz.ntmps103
  go_wp2_with fail
  go_ret;exact ⟨none,0,rfl,Row.empty _ _ _ _ _,Below.refl _ _⟩
 | some ad=>
  have HX:=h_ ((hx.more hB).below ((Below.refl _ _).alloc (Nat.le_refl _) (.cells #[] 5)));have HB:Hd (Below w.heap.size w (w.alloc (.cells #[] 5))):=b_;have HI:=h_ (And.intro hi (And.intro hz0 (And.intro hz1 hz2)));simp only [Option.isNone_some] at hq;clear hx hnil hi hz0 hz1 hz2
  go_enter Tryz.func103,Tryz.ntmps103
  go_wp2_with (at_builtin; refine wpList_app _ rfl (.tmp 5) (.tmp 6) 22 rfl 5 i0 (.int .u8 0) 1 1 Tryz.underlying22 HI.o.1 HI.o.2.1 HI.o.2.2.1 HI.o.2.2.2 rfl (by decide) w.heap.size (some ⟨w.heap.size,0,none⟩) 0 0 [] rfl (Row.empty _ _ _ _ _) HB.o.size (some ad) xs.length c (ints .u8 xs) rfl HX.o (by simp) (fun h=>by cases h) (one_ints _ xs) ?n1 ?n2 ?_)
  case n1=>unfold maxLen; omega
  case n2=>omega
  intro A6 n6 c6 w6 hn6 o6 g6 k6
  have hn6:n6=xs.length:=by omega
  have HO6:=h_ (show Row w6 w.heap.size 5 1 A6 n6 c6 (ints .u8 xs) from o6);have HB6:=h_ (HB.o.grown g6 HB.o.size (fun k hk=>by cases hk));clear o6 g6 k6;subst hn6
  go_wp2_with fail
  go_ret;exact ⟨A6,c6,rfl,HO6.o,HB6.o⟩
end CClones
/- The program's copyObject: an object in new memory. -/
namespace CCopyI
open Kit CFixups CSymbols PObj BObj CMarkRows CObjValid CCopyS CClones
set_option maxHeartbeats 2000000 in
theorem copyObject_any (o:OV) (w:World) (hr:RdO w w.heap.size o) (hf:Fit o) (hn:Nils o) (hs:o.ps.length<=100/\o.ys.length<=100):
  Calls Tryz.prog 90 #[.agg #[.slice o.A o.ps.length o.c,.slice o.Y o.ys.length o.yc]] w (RetO o.d w):=by
 obtain ⟨ix,hx1,hx2,hx3,hx4⟩:=info_parts BObj.info;have HIX:=h_ (And.intro hx1 (And.intro hx2 (And.intro hx3 hx4)));clear hx1 hx2 hx3 hx4;obtain ⟨A,c,ps,Y,yc,ys⟩:=o;obtain ⟨np,ny,cy,hp,hy⟩:=hf;obtain ⟨ny0,np0⟩:=hn;obtain ⟨ss1,ss2⟩:=hs;simp only at np ny cy hp hy ny0 np0 ss1 ss2 ⊢;have HR:=h_ hr;have HL:=h_ (And.intro hp np0);have HNY:=h_ ny0;clear hr hp hy np0 ny0;have B0:Below w.heap.size w ((w.alloc (.cells #[.slice A ps.length c,.slice Y ys.length yc] 26)).alloc (.cells #[.slice none 0 0,.slice none 0 0] 26)):=b_;have HV0:=h_ ((Box.new w 26 #[.slice A ps.length c,.slice Y ys.length yc]).alloc (.cells #[.slice none 0 0,.slice none 0 0] 26));have HR0:=(Box.new (w.alloc (.cells #[.slice A ps.length c,.slice Y ys.length yc] 26)) 26 #[.slice none 0 0,.slice none 0 0]);simp only [World.size_alloc] at HR0;have HRR0:=h_ HR0;clear HR0;have HB0:=h_ B0
 have hVR:w.heap.size<w.heap.size+1:=by omega
 clear B0
 go_enter Tryz.func90,Tryz.ntmps90
 go_wp2_with fail
 refine (cloneY_any Y ys yc w.heap.size _ (HR.o.2.below HB0.o) HB0.o.size (by omega) HNY.o).mono ?_;rintro e w1 ⟨A1,c1,rfl,o1,b1⟩;have HB1:=h_ (HB0.o.trans (b1.mono HB0.o.size));have HV1:=h_ (HV0.o.call b1);have HRR1:=h_ (HRR0.o.call b1);have HY1:=h_ (o1.down HB0.o.size);have hR0:=HRR1.o.lt;have v0:=d_ HV1.o 0;have hvl1:=HV1.o.lt;clear o1 b1 HB0 HV0 HRR0
 go_wp2_with fail
 clear v0;have HX2:=h_ (Box.new w1 26 #[.slice none 0 0,.slice A1 ys.length c1]);have HB2:=h_ (HB1.o.alloc HB1.o.size (.cells #[.slice none 0 0,.slice A1 ys.length c1] 26));have HV2:=h_ (HV1.o.alloc (.cells #[.slice none 0 0,.slice A1 ys.length c1] 26));have HRR2:=h_ (HRR1.o.alloc (.cells #[.slice none 0 0,.slice A1 ys.length c1] 26));have HY2:=h_ (HY1.o.alloc (.cells #[.slice none 0 0,.slice A1 ys.length c1] 26));clear HB1 HV1 HRR1 HY1;generalize w1.alloc (.cells #[.slice none 0 0,.slice A1 ys.length c1] 26)=w2 at *;have hRX:w.heap.size+1<w1.heap.size:=hR0
 have hVX:w.heap.size<w1.heap.size:=by omega
 generalize w1.heap.size=X at *;generalize w.heap.size+1=R at *
 go_loopw [13] (fun i wi=>∃ (k:Nat) (qs:List SV) (Aq:Option Addr) (cq:Nat),k<=ps.length/\qs.length=k/\i=.int .i64 k/\qs.map SV.d=(ps.take k).map SV.d/\OwnSs wi w.heap.size Aq cq qs/\Box wi X 26 #[.slice Aq k cq,.slice A1 ys.length c1]/\Row wi w.heap.size 67 4 A1 ys.length c1 (cellsOf symbolC ys)/\Box wi w.heap.size 26 #[.slice A ps.length c,.slice Y ys.length yc]/\Box wi R 26 #[.slice none 0 0,.slice none 0 0]/\Below w.heap.size w wi) (fun i _=>ps.length - (intOf i).toNat)
 case atStart=>exact ⟨0,[],none,0,Nat.zero_le _,rfl,rfl,rfl,⟨Row.empty _ _ _ _ _,(fun p hp=>by cases hp),List.Pairwise.nil⟩,HX2.o,HY2.o,HV2.o,HRR2.o,HB2.o⟩
 case round=>
  clear HX2 HY2 HV2 HRR2 HB2;obtain ⟨k,qs,Aq,cq,hk,hql,rfl,hqd,ho,hx,hrow,hv,hrr,hb⟩:=hrel;have HO:=h_ ho;have HX:=h_ hx;have HY:=h_ hrow;have HV:=h_ hv;have HRR:=h_ hrr;have HB:=h_ hb;have HQ:=h_ (And.intro hql hqd);have v0:=d_ hv 0;have x0:=d_ hx 0;have x1:=d_ hx 1;have hvl:=hv.lt;have hxl:=hx.lt
  by_cases hlt:k<ps.length
  ·obtain ⟨b,off,hA,hbg,hc⟩:=(HR.o.1.1.below hb).row secC_len (by decide) hlt;have hbw:b<wr.heap.size:=Nat.lt_of_lt_of_le hbg hb.size;have hc0:=hc 0 _ rfl;have hc1:=hc 1 _ rfl;have hc2:=hc 2 _ rfl;have hc3:=hc 3 _ rfl;have hc4:=hc 4 _ rfl;have hc5:=hc 5 _ rfl;simp only [Nat.add_zero] at hc0;have HM:=h_ (HL.o.1 _ (List.getElem_mem hlt));have HN:=h_ (HL.o.2 _ (List.getElem_mem hlt));have HRS:=h_ (HR.o.1.2 _ (List.getElem_mem hlt));have HD:=h_ (show (qs++[ps[k]]).map SV.d=(ps.take (k+1)).map SV.d by rw [take_succ hlt,List.map_append,List.map_append,hqd]);clear hql hqd ho hx hrow hv hrr hb hc;subst hA;generalize ps[k]=p at *;have hmz:=HM.o.2.1;have hmf:=HM.o.2.2
   go_wp2_with fail
   have HSa:=Box.new wr 61 #[.string p.nm,.int .i64 p.kd,.int .i64 p.al,.slice p.A p.zs.length p.c,.int .i64 p.sz,.slice p.F p.fs.length p.fc];have HBA:=h_ (show Below wr.heap.size wr (wr.alloc (.cells #[.string p.nm,.int .i64 p.kd,.int .i64 p.al,.slice p.A p.zs.length p.c,.int .i64 p.sz,.slice p.F p.fs.length p.fc] 61)) from b_);generalize wr.alloc (.cells #[.string p.nm,.int .i64 p.kd,.int .i64 p.al,.slice p.A p.zs.length p.c,.int .i64 p.sz,.slice p.F p.fs.length p.fc] 61)=wa at *;have Z0:wa.cell? ⟨wr.heap.size,3,none⟩=some (.slice p.A p.zs.length p.c)/\wa.cell? ⟨wr.heap.size,5,none⟩=some (.slice p.F p.fs.length p.fc):=⟨HSa.cell 3,HSa.cell 5⟩;have hSa:=HSa.lt;have HS:=h_ HSa;have HWA:=h_ (HB.o.trans (HBA.o.mono HB.o.size));clear HSa hc0 hc1 hc2 hc3 hc4 hc5 v0 x0 x1
   refine Reg.startT (fun W=>W.cell? ⟨wr.heap.size,3,none⟩=some (.slice p.A p.zs.length p.c)/\W.cell? ⟨wr.heap.size,5,none⟩=some (.slice p.F p.fs.length p.fc)) (fun j=>j == 7 || j == 8 || j == 9) (by kernel_rfl) ?_
   have hHeld:wa.drew.cell? ⟨wr.heap.size,3,none⟩=some (.slice p.A p.zs.length p.c)/\wa.drew.cell? ⟨wr.heap.size,5,none⟩=some (.slice p.F p.fs.length p.fc):=Z0;refine t_ 0 rfl ?_;refine t_ 1 rfl ?_;refine t_ 3 rfl ?_;refine t_ 4 rfl ?_;clear hHeld;refine Reg.oneT (i:=2) rfl (by kernel_rfl) (fun K hK=>?_)
   go_simp
   refine (clone8_any p.A p.zs p.c w.heap.size _ (HRS.o.1.below (HWA.o.drew)) (show w.heap.size<=wa.drew.heap.size from HWA.o.size) (by omega) HN.o.1).mono ?_;rintro e w2 ⟨A2,c2,rfl,o2,b2⟩;have b2':Below wa.heap.size wa w2:=below_drawn b2;have HS2:=h_ (HS.o.call b2');have HA2:=h_ (And.intro (o2.down (show w.heap.size<=wa.drew.heap.size from HWA.o.size)) (fun k (hk:blk A2 c2=some k)=>(show wr.heap.size<=k from Nat.le_trans HBA.o.size ((o2.lt k hk).1))));have HBt:=h_ (HBA.o.trans (b2'.mono HBA.o.size));have hHeld:w2.cell? ⟨wr.heap.size,3,none⟩=some (.slice p.A p.zs.length p.c)/\w2.cell? ⟨wr.heap.size,5,none⟩=some (.slice p.F p.fs.length p.fc):=⟨HS2.o.cell 3,HS2.o.cell 5⟩;clear o2 b2 b2' HS Z0;refine hK.out _ _ hHeld ?_;clear hK K
   try simp only [y1_,y2_,y3_,Act.put,y4_,y5_,y6_]
   refine t_ 6 rfl ?_;clear hHeld;refine Reg.oneT (i:=5) rfl (by kernel_rfl) (fun K hK=>?_)
   go_simp
   have HW2:=h_ (HB.o.trans (HBt.o.mono HB.o.size));refine (cloneF_any p.F p.fs p.fc w.heap.size _ (HRS.o.2.below HW2.o) HW2.o.size (by omega) HN.o.2).mono ?_;rintro e w4 ⟨A5,c5,rfl,o5,b5⟩;have HS4:=h_ (HS2.o.call b5);have HA4:=h_ (HA2.o.1.call b5);have HA2k:=h_ HA2.o.2;have HF4:=h_ (And.intro (o5.down HW2.o.size) (fun k (hk:blk A5 c5=some k)=>(show wr.heap.size<=k from Nat.le_trans HBt.o.size ((o5.lt k hk).1))));have HB4:=h_ (HBt.o.trans (b5.mono HBt.o.size));have hHeld:w4.cell? ⟨wr.heap.size,3,none⟩=some (.slice p.A p.zs.length p.c)/\w4.cell? ⟨wr.heap.size,5,none⟩=some (.slice p.F p.fs.length p.fc):=⟨HS4.o.cell 3,HS4.o.cell 5⟩;have sf3:=HS4.o.frozen 3;have sf5:=HS4.o.frozen 5;have s3:=hHeld.1;have s5:=hHeld.2;have hSl4:=HS4.o.lt;clear o5 b5 HS2 HA2 HBt HW2;refine hK.out _ _ hHeld ?_;clear hK K
   try simp only [y1_,y2_,y3_,Act.put,y4_,y5_,y6_]
   refine Reg.lastT (i:=7) rfl (by kernel_rfl) (by rfl) (fun K hK=>?_)
   go_simp
   refine hK.out _ _ ?_;clear hK K
   try simp only [y1_,y2_,y3_,Act.put,y4_,y5_,y6_]
   refine Reg.lastT (i:=8) rfl (by kernel_rfl) (by rfl) (fun K hK=>?_)
   go_simp
   refine hK.out _ _ ?_;clear hK K
   try simp only [y1_,y2_,y3_,Act.put,y4_,y5_,y6_]
   refine Reg.lastT (i:=9) rfl (by kernel_rfl) (by rfl) (fun K hK=>?_)
   go_simp
   refine hK.out _ _ ?_;clear hK K hHeld s3 s5
   try simp only [y1_,y2_,y3_,Act.put,y4_,y5_,y6_]
   refine Reg.doneT (by kernel_rfl) ?_ _;have HS5:=h_ (show Box (w4.setCell ⟨wr.heap.size,3,none⟩ (.slice A2 p.zs.length c2)) wr.heap.size 61 #[.string p.nm,.int .i64 p.kd,.int .i64 p.al,.slice A2 p.zs.length c2,.int .i64 p.sz,.slice p.F p.fs.length p.fc] from HS4.o.set 3 _);have HA5:=h_ (HA4.o.set (a:=⟨wr.heap.size,3,none⟩) (HA4.o.box HS4.o (by decide)) (.slice A2 p.zs.length c2));have HF5:=h_ (And.intro (HF4.o.1.set (a:=⟨wr.heap.size,3,none⟩) (HF4.o.1.box HS4.o (by decide)) (.slice A2 p.zs.length c2)) HF4.o.2);have HBt:=h_ (HB4.o.setCell (p:=⟨wr.heap.size,3,none⟩) (Nat.le_refl _) (.slice A2 p.zs.length c2));clear HS4 HA4 HF4 HB4 sf3 sf5;generalize w4.setCell ⟨wr.heap.size,3,none⟩ (.slice A2 p.zs.length c2)=w5 at *;have s0:=HS5.o.cell 0;have s1:=HS5.o.cell 1;have s2:=HS5.o.cell 2;have s3:=HS5.o.cell 3;have s4:=HS5.o.cell 4;have s5:=HS5.o.cell 5;have sf5:=HS5.o.frozen 5;simp only [g_] at s0 s1 s2 s3 s4 s5;have hSl5:=HS5.o.lt
   -- the world behind the stores into the section's variable
   have HB6:=h_ (show Below wr.heap.size wr (w5.setCell ⟨wr.heap.size,5,none⟩ (.slice A5 p.fs.length c5)) from HBt.o.setCell (p:=⟨wr.heap.size,5,none⟩) (Nat.le_refl _) _);have HA6:=h_ (HA5.o.set (a:=⟨wr.heap.size,5,none⟩) (HA5.o.box HS5.o (by decide)) (.slice A5 p.fs.length c5));have HF6:=h_ (HF5.o.1.set (a:=⟨wr.heap.size,5,none⟩) (HF5.o.1.box HS5.o (by decide)) (.slice A5 p.fs.length c5));have HFk:=h_ HF5.o.2;have HX6:=h_ (HX.o.call HB6.o);have x0:=HX6.o.cell 0;have x1:=HX6.o.cell 1;have xf0:=HX6.o.frozen 0;simp only [g_] at x0 x1;have HSS6:=h_ (show Box (w5.setCell ⟨wr.heap.size,5,none⟩ (.slice A5 p.fs.length c5)) wr.heap.size 61 #[.string p.nm,.int .i64 p.kd,.int .i64 p.al,.slice A2 p.zs.length c2,.int .i64 p.sz,.slice A5 p.fs.length c5] from HS5.o.set 5 _);have u0:=d_ HSS6.o 0;have u1:=d_ HSS6.o 1;have u2:=d_ HSS6.o 2;have u3:=d_ HSS6.o 3;have u4:=d_ HSS6.o 4;have u5:=d_ HSS6.o 5;have HO6:=h_ (HO.o.call HB6.o);have HY6:=h_ (HY.o.call HB6.o);have HV6:=h_ (HV.o.call HB6.o);have HRR6:=h_ (HRR.o.call HB6.o);have HBW6:=h_ (HB.o.trans (HB6.o.mono HB.o.size));have HQlt:=h_ (fun x (hx:x ∈ qs) k (hk:sblk x k)=>(show k<wr.heap.size from ((HO.o.2.1 x hx).lt k hk).2))
   have hcl:(cellsOf secC qs).length=k*6:=by rw [cellsOf_len secC_len,HQ.o.1]
   clear HA5 HF5 HX HO HY HV HRR HB HBt HS5
   have hz6:(w5.setCell ⟨wr.heap.size,5,none⟩ (.slice A5 p.fs.length c5)).heap.size=w5.heap.size:=by simp [World.setCell]
   have HSEC:=h_ (show Row ((w5.setCell ⟨wr.heap.size,5,none⟩ (.slice A5 p.fs.length c5)).alloc (.cells #[.string p.nm,.int .i64 p.kd,.int .i64 p.al,.slice A2 p.zs.length c2,.int .i64 p.sz,.slice A5 p.fs.length c5] 61)) w.heap.size 61 6 Aq k cq (cellsOf secC qs) from by
    have h:=(HO6.o.1).alloc (.cells #[.string p.nm,.int .i64 p.kd,.int .i64 p.al,.slice A2 p.zs.length c2,.int .i64 p.sz,.slice A5 p.fs.length c5] 61);rw [HQ.o.1] at h
    exact h)
   have HW7:=h_ (HBW6.o.alloc HBW6.o.size (.cells #[.string p.nm,.int .i64 p.kd,.int .i64 p.al,.slice A2 p.zs.length c2,.int .i64 p.sz,.slice A5 p.fs.length c5] 61))
   go_wp2_with (at_builtin; refine wpList_app _ rfl (.tmp 26) (.tmp 28) 23 rfl 61 ix (.agg #[.string ByteArray.empty,.int .i64 0,.int .i64 0,.slice none 0 0,.int .i64 0,.slice none 0 0]) 6 88 Tryz.underlying23 HIX.o.1 HIX.o.2.1 HIX.o.2.2.1 HIX.o.2.2.2 rfl (by decide) w.heap.size Aq k cq (cellsOf secC qs) rfl HSEC.o HW7.o.size (some ⟨w5.heap.size,0,none⟩) 1 1 [.string p.nm,.int .i64 p.kd,.int .i64 p.al,.slice A2 p.zs.length c2,.int .i64 p.sz,.slice A5 p.fs.length c5] rfl (rd_lit (w5.setCell ⟨wr.heap.size,5,none⟩ (.slice A5 p.fs.length c5)) #[.string p.nm,.int .i64 p.kd,.int .i64 p.al,.slice A2 p.zs.length c2,.int .i64 p.sz,.slice A5 p.fs.length c5] 61 _ hz6.symm) rfl (fun h=>by cases h) ?o1 ?n1 ?n2 ?_)
   case o1=>intro u hu; simp only [List.mem_cons,List.not_mem_nil,or_false] at hu; rcases hu with rfl | rfl | rfl | rfl | rfl | rfl <;> rfl
   case n1=>unfold maxLen; omega
   case n2=>omega
   intro A8 n8 c8 w8 hn8 o8 g8 k8;subst hn8;have HX7:=h_ ((HX6.o.alloc (.cells #[.string p.nm,.int .i64 p.kd,.int .i64 p.al,.slice A2 p.zs.length c2,.int .i64 p.sz,.slice A5 p.fs.length c5] 61)).grown g8 (fun j hj=>HSEC.o.box (HX6.o.alloc _) (by decide) j hj));have HV7:=h_ ((HV6.o.alloc (.cells #[.string p.nm,.int .i64 p.kd,.int .i64 p.al,.slice A2 p.zs.length c2,.int .i64 p.sz,.slice A5 p.fs.length c5] 61)).grown g8 (fun j hj=>HSEC.o.box (HV6.o.alloc _) (by decide) j hj));have HRR7:=h_ ((HRR6.o.alloc (.cells #[.string p.nm,.int .i64 p.kd,.int .i64 p.al,.slice A2 p.zs.length c2,.int .i64 p.sz,.slice A5 p.fs.length c5] 61)).grown g8 (fun j hj=>HSEC.o.box (HRR6.o.alloc _) (by decide) j hj));have HY7:=h_ ((HY6.o.alloc (.cells #[.string p.nm,.int .i64 p.kd,.int .i64 p.al,.slice A2 p.zs.length c2,.int .i64 p.sz,.slice A5 p.fs.length c5] 61)).grown g8 (fun j hj h=>apartT (HY6.o.alloc _) HSEC.o (by decide) j hj h));have HBW7:=h_ (HW7.o.grown g8 HW7.o.size (fun j hj=>(HSEC.o.lt j hj).1));have hgrow:∀ x:SV,RwS ((w5.setCell ⟨wr.heap.size,5,none⟩ (.slice A5 p.fs.length c5)).alloc (.cells #[.string p.nm,.int .i64 p.kd,.int .i64 p.al,.slice A2 p.zs.length c2,.int .i64 p.sz,.slice A5 p.fs.length c5] 61)) w.heap.size x->RwS w8 w.heap.size x:=fun x hx=>⟨hx.1.grown g8 (fun j hj h=>apartT hx.1 HSEC.o (by decide) j hj h),hx.2.grown g8 (fun j hj h=>apartT hx.2 HSEC.o (by decide) j hj h)⟩;have hq7:RwS ((w5.setCell ⟨wr.heap.size,5,none⟩ (.slice A5 p.fs.length c5)).alloc (.cells #[.string p.nm,.int .i64 p.kd,.int .i64 p.al,.slice A2 p.zs.length c2,.int .i64 p.sz,.slice A5 p.fs.length c5] 61)) w.heap.size ⟨p.nm,p.kd,p.al,A2,c2,p.zs,p.sz,A5,c5,p.fs⟩:=⟨HA6.o.alloc _,HF6.o.alloc _⟩;have hqs7:∀ x ∈ qs,RwS ((w5.setCell ⟨wr.heap.size,5,none⟩ (.slice A5 p.fs.length c5)).alloc (.cells #[.string p.nm,.int .i64 p.kd,.int .i64 p.al,.slice A2 p.zs.length c2,.int .i64 p.sz,.slice A5 p.fs.length c5] 61)) w.heap.size x:=fun x hx=>(HO6.o.2.1 x hx).call ((Below.refl _ _).alloc (Nat.le_refl _) _);have hX7:=HX7.o
   have HOW:=h_ (show OwnSs (w8.setCell ⟨X,0,none⟩ (.slice A8 (k+1) c8)) w.heap.size A8 c8 (qs++[⟨p.nm,p.kd,p.al,A2,c2,p.zs,p.sz,A5,c5,p.fs⟩]) from by
    refine ⟨?_,?_,?_⟩
    ·have h:=(show Row w8 w.heap.size 61 6 A8 (k+1) c8 _ from o8).set (a:=⟨X,0,none⟩) ((show Row w8 w.heap.size 61 6 A8 (k+1) c8 _ from o8).box hX7 (by decide)) (.slice A8 (k+1) c8);rw [cells_snoc,List.length_append,HQ.o.1];exact h
    ·refine RwSs.snoc (fun x hx=>?_) ?_
     ·exact (hgrow x (hqs7 x hx)).set (a:=⟨X,0,none⟩) ((hgrow x (hqs7 x hx)).box hX7 (by decide) (by decide)) _
     ·exact (hgrow _ hq7).set (a:=⟨X,0,none⟩) ((hgrow _ hq7).box hX7 (by decide) (by decide)) _
    ·refine HO6.o.2.2.snoc (N:=wr.heap.size) HQlt.o ?_;rintro j (hj | hj)
     ·exact HA2k.o j hj
     ·exact HFk.o j hj)
   have HX8:=h_ (show Box (w8.setCell ⟨X,0,none⟩ (.slice A8 (k+1) c8)) X 26 #[.slice A8 (k+1) c8,.slice A1 ys.length c1] from hX7.set 0 _);have HY8:=h_ (HY7.o.set (a:=⟨X,0,none⟩) (HY7.o.box hX7 (by decide)) (.slice A8 (k+1) c8));have HV8:=h_ (HV7.o.far (p:=⟨X,0,none⟩) (Nat.ne_of_lt hVX) (.slice A8 (k+1) c8));have HRR8:=h_ (HRR7.o.far (p:=⟨X,0,none⟩) (Nat.ne_of_lt hRX) (.slice A8 (k+1) c8));have HB8:=h_ (HBW7.o.setCell (p:=⟨X,0,none⟩) (Nat.le_of_lt hVX) (.slice A8 (k+1) c8));have x0:=hX7.cell 0;have x1:=hX7.cell 1;have xf0:=hX7.frozen 0;simp only [g_] at x0 x1;have hxl8:=hX7.lt;clear o8 g8 k8 hgrow hq7 hqs7 hX7 HX7 HV7 HRR7 HY7 HBW7 HSEC HW7 HO6 HY6 HV6 HRR6 HBW6 HX6 HSS6 u0 u1 u2 u3 u4 u5 s0 s1 s2 s3 s4 s5 sf5
   go_wp2_with fail
   refine ⟨⟨k+1,qs++[⟨p.nm,p.kd,p.al,A2,c2,p.zs,p.sz,A5,c5,p.fs⟩],A8,c8,by omega,by simp [HQ.o.1],by go_num,?_,HOW.o,HX8.o,HY8.o,HV8.o,HRR8.o,HB8.o⟩,by simp [intOf]; omega⟩;rw [<-HD.o,List.map_append,List.map_append]
   rfl
  ·have e:k=ps.length:=by omega
   have hqd':qs.map SV.d=ps.map SV.d:=by rw [hqd,List.take_of_length_le (by omega)]
   have HOO:=h_ (show OwnO wr w.heap.size ⟨Aq,cq,qs,A1,c1,ys⟩ from ⟨ho,hrow⟩);have HDD:=h_ (show OV.d ⟨Aq,cq,qs,A1,c1,ys⟩=OV.d ⟨A,c,ps,Y,yc,ys⟩ by simp only [OV.d,hqd'])
   have HNE:=h_ (show ∀ j,oblk ⟨Aq,cq,qs,A1,c1,ys⟩ j->j ≠ R from by
    rintro j ((hj | ⟨x,hx,hj⟩) | hj)
    ·exact ho.1.box hrr (by decide) j hj
    ·exact (ho.2.1 x hx).box hrr (by decide) (by decide) j hj
    ·exact hrow.box hrr (by decide) j hj)
   have HFIN:=h_ (CObject.ret_object HOO.o HB.o HNE.o (Nat.le_of_lt hVR));rw [HDD.o] at HFIN;have y0:=hrr.cell 0;have y1:=hrr.cell 1;have yf0:=hrr.frozen 0;have yf1:=hrr.frozen 1;have hrl:=hrr.lt;simp only [g_] at y0 y1;have kk:=(HRR.o.set 0 (.slice Aq qs.length cq)).set 1 (.slice A1 ys.length c1);have k0:=kk.cell 0;have k1:=kk.cell 1;simp only [k_] at k0 k1;clear kk ho hx hrow hv hrr hb hqd hqd' e;subst hql
   go_wp2_with fail
   exact bodyPost_ret (v:=OV.v ⟨Aq,cq,qs,A1,c1,ys⟩) (by simp [results,Tryz.results90,go_sem,OV.v,k0,k1]) rfl HFIN.o
end CCopyI
/- Stores into an object of one's own: a byte,a fixup's To,a symbol. -/
namespace BStore
open Kit CFixups CSymbols PObj BObj CMarkRows
theorem own_of {w:World} {base:Nat} {e:TypeId} {size n c:Nat} {A:Option Addr} {xs:List Value} (h:Row w base e size A n c xs) (hn:0<n):
  ∃ g,A=some ⟨g,0,none⟩/\base<=g/\g<w.heap.size/\blk A c=some g/\w.ownsRow base e size (.slice (some ⟨g,0,none⟩) n c) n xs:=by
 have hc:c ≠ 0:=by
  have:=h.cap.1;omega
 have hown:w.ownsRow base e size (.slice A n c) n xs:=h.elim (fun h=>absurd h.2.1 hc) id
 rcases hown.2 with ⟨hv,h0⟩ | ⟨g,cap,c',hv,hN,_⟩
 ·omega
 ·injection hv with hA;subst hA
  have hb:blk (some ⟨g,0,none⟩) c=some g:=by
   unfold blk;rw [if_neg hc]
   rfl
  exact ⟨g,rfl,hN,(h.lt g hb).2,hb,hown⟩
theorem OwnO.swap {w w':World} {base c yc:Nat} {A Y:Option Addr} {l1 l2:List SV} {q:SV} {ys:List YD} (h:OwnO w base ⟨A,c,l1++q :: l2,Y,yc,ys⟩) (q':SV)
  (hs:secC q'=secC q) (h1:q'.A=q.A) (h2:q'.c=q.c) (h3:q'.F=q.F) (h4:q'.fc=q.fc) (hq':RwS w' base q') (g:Nat) (hg:sblk q g) (hk:∀ k,k ≠ g->w'.heap[k]?=w.heap[k]?):
  OwnO w' base ⟨A,c,l1++q' :: l2,Y,yc,ys⟩:=by
 obtain ⟨⟨hrow,hrw,hpw⟩,hy⟩:=h;simp only at hrow hrw hpw hy;have hq:=hrw q (by simp);unfold PwSs at hpw;obtain ⟨p1,p2,p3⟩:=List.pairwise_append.1 hpw;obtain ⟨p4,p5⟩:=List.pairwise_cons.1 p2
 have happ:∀ x,RwS w base x->(ApS x q\/ApS q x)->RwS w' base x:=by
  rintro x hx ha;refine ⟨hx.1.keep fun k hb=>hk k ?_,hx.2.keep fun k hb=>hk k ?_⟩
  ·rintro rfl
   rcases hg with hg | hg
   ·rcases ha with ha | ha
    ·exact ha.1 _ hb hg
    ·exact ha.1 _ hg hb
   ·exact apartT hx.1 hq.2 (by decide) _ hb hg
  ·rintro rfl
   rcases hg with hg | hg
   ·exact apartT hx.2 hq.1 (by decide) _ hb hg
   ·rcases ha with ha | ha
    ·exact ha.2 _ hb hg
    ·exact ha.2 _ hg hb
 have hap:∀ x,(ApS x q' ↔ ApS x q)/\(ApS q' x ↔ ApS q x):=fun x=>by
  unfold ApS;rw [h1,h2,h3,h4];exact ⟨Iff.rfl,Iff.rfl⟩
 refine ⟨⟨?_,?_,?_⟩,?_⟩
 ·have e1:cellsOf secC (l1++q' :: l2)=cellsOf secC (l1++q :: l2):=by simp [cellsOf,hs]
  have e2:(l1++q' :: l2).length=(l1++q :: l2).length:=by simp
  show Row w' base _ 6 A (l1++q' :: l2).length c (cellsOf secC (l1++q' :: l2))
  rw [e1,e2];refine hrow.keep fun k hb=>hk k ?_;rintro rfl
  rcases hg with hg | hg
  ·exact apartT hrow hq.1 (by decide) _ hb hg
  ·exact apartT hrow hq.2 (by decide) _ hb hg
 ·intro x hx
  rcases List.mem_append.1 hx with hx | hx
  ·exact happ x (hrw x (by simp [hx])) (.inl (p3 x hx q (List.mem_cons_self ..)))
  ·rcases List.mem_cons.1 hx with rfl | hx
   ·exact hq'
   ·exact happ x (hrw x (by simp [hx])) (.inr (p4 x hx))
 ·show (l1++q' :: l2).Pairwise ApS
  refine List.pairwise_append.2 ⟨p1,List.pairwise_cons.2 ⟨fun x hx=>(hap x).2.2 (p4 x hx),p5⟩,fun a ha b hb=>?_⟩
  rcases List.mem_cons.1 hb with rfl | hb
  ·exact (hap a).1.2 (p3 a ha q (List.mem_cons_self ..))
  ·exact p3 a ha b (List.mem_cons_of_mem _ hb)
 ·show Row w' base _ 4 Y ys.length yc _
  refine hy.keep fun k hb=>hk k ?_;rintro rfl
  rcases hg with hg | hg
  ·exact apartT hy hq.1 (by decide) _ hb hg
  ·exact apartT hy hq.2 (by decide) _ hb hg
theorem setFix (l:List FD) (j:Nat) (z:FD) (hz:l[j]?=some z) (x:Int):(cellsOf fixupC l).set (j*4+2) (.int .i64 x)=cellsOf fixupC (l.set j (z.1,z.2.1,x,z.2.2.2)):=by
 induction l generalizing j with
 | nil=>cases hz
 | cons a l ih=>
  have hc:∀ u (l:List FD),cellsOf fixupC (u :: l)=fixupC u++cellsOf fixupC l:=fun u l=>by simp [cellsOf]
  cases j with
  | zero=>
   simp only [List.getElem?_cons_zero,Option.some.injEq] at hz;subst hz;simp [hc,fixupC]
  | succ j=>
   have e:(j+1)*4+2=(fixupC a).length+(j*4+2):=by rw [fixupC_len]; omega
   rw [hc,List.set_cons_succ,hc,e,List.set_append_right _ _ (by omega),Nat.add_sub_cancel_left];rw [ih j (by simpa using hz)]
theorem OwnO.storeF {w:World} {base c yc:Nat} {A Y:Option Addr} {l1 l2:List SV} {q:SV} {ys:List YD} (h:OwnO w base ⟨A,c,l1++q :: l2,Y,yc,ys⟩) {g:Nat} (hF:q.F=some ⟨g,0,none⟩) (i:Nat) (z:FD) (hz:q.fs[i]?=some z) (x:Int):
  OwnO (w.setCell ⟨g,i*4+2,none⟩ (.int .i64 x)) base ⟨A,c,l1++{ q with fs:=q.fs.set i (z.1,z.2.1,x,z.2.2.2) } :: l2,Y,yc,ys⟩:=by
 have hq:RwS w base q:=h.1.2.1 q (by simp);have hi:i<q.fs.length:=(List.getElem?_eq_some_iff.1 hz).1;obtain ⟨g',hF',_,_,hb,hown⟩:=own_of hq.2 (by omega);rw [hF] at hF';simp only [Option.some.injEq,Addr.mk.injEq,and_true] at hF';subst hF';refine OwnO.swap h { q with fs:=q.fs.set i (z.1,z.2.1,x,z.2.2.2) } (by simp [secC]) rfl rfl rfl rfl ⟨?_,?_⟩ g (.inr hb) (fun k hk=>Below.heap_setCell _ _ _ k hk)
 ·exact hq.1.set (a:=⟨g,i*4+2,none⟩) (fun k hk e=>apartT hq.1 hq.2 (by decide) k hk (by rw [hb,e])) _
 ·refine .inr ?_
  show (w.setCell _ _).ownsRow base _ 4 (.slice q.F (q.fs.set i (z.1,z.2.1,x,z.2.2.2)).length q.fc) (q.fs.set i (z.1,z.2.1,x,z.2.2.2)).length (cellsOf fixupC (q.fs.set i (z.1,z.2.1,x,z.2.2.2)))
  rw [List.length_set,<- setFix _ _ _ hz,hF];exact (hown.stored (i*4+2) _).1
theorem setSym (l:List YD) (j:Nat) (hj:j<l.length) (z:YD):((((cellsOf symbolC l).set (j*4) (.string z.1)).set (j*4+1) (.int .i64 z.2.1)).set (j*4+2) (.int .i64 z.2.2.1)).set (j*4+3) (.int .i64 z.2.2.2)=cellsOf symbolC (l.set j z):=by
 induction l generalizing j with
 | nil=>cases hj
 | cons a l ih=>
  have hc:∀ u (l:List YD),cellsOf symbolC (u :: l)=symbolC u++cellsOf symbolC l:=fun u l=>by simp [cellsOf]
  cases j with
  | zero=>simp [hc,symbolC]
  | succ j=>
   have e:∀ m,(j+1)*4+m=(symbolC a).length+(j*4+m):=fun m=>by rw [symbolC_len]; omega
   have e0:(j+1)*4=(symbolC a).length+(j*4):=by rw [symbolC_len]; omega
   rw [hc,List.set_cons_succ,hc,e,e,e,e0,List.set_append_right _ _ (by omega),Nat.add_sub_cancel_left,List.set_append_right _ _ (by omega),Nat.add_sub_cancel_left,List.set_append_right _ _ (by omega),Nat.add_sub_cancel_left,List.set_append_right _ _ (by omega),Nat.add_sub_cancel_left];rw [ih j (by simpa using hj)]
def putY (w:World) (g i:Nat) (z:YD):World:=(((w.setCell ⟨g,i,none⟩ (.string z.1)).setCell ⟨g,i+1,none⟩ (.int .i64 z.2.1)).setCell ⟨g,i+2,none⟩ (.int .i64 z.2.2.1)).setCell ⟨g,i+3,none⟩ (.int .i64 z.2.2.2)
theorem putY_block (w:World) (g i:Nat) (z:YD) (k:Nat) (hk:k ≠ g):(putY w g i z).heap[k]?=w.heap[k]?:=by
 unfold putY;rw [Below.heap_setCell _ _ _ k hk,Below.heap_setCell _ _ _ k hk,Below.heap_setCell _ _ _ k hk,Below.heap_setCell _ _ _ k hk]
theorem putY_below {B:Nat} {a w:World} {g i:Nat} {z:YD} (h:Below B a w) (hg:B<=g):Below B a (putY w g i z):=
 (((h.setCell (p:=⟨g,i,none⟩) hg _).setCell (p:=⟨g,i+1,none⟩) hg _).setCell (p:=⟨g,i+2,none⟩) hg _).setCell (p:=⟨g,i+3,none⟩) hg _
theorem OwnO.storeY {w:World} {base c yc:Nat} {A:Option Addr} {ps:List SV} {g:Nat} {ys:List YD} (h:OwnO w base ⟨A,c,ps,some ⟨g,0,none⟩,yc,ys⟩) (i:Nat) (hi:i<ys.length) (z:YD):
  OwnO (putY w g (i*4) z) base ⟨A,c,ps,some ⟨g,0,none⟩,yc,ys.set i z⟩:=by
 obtain ⟨⟨hrow,hrw,hpw⟩,hy⟩:=h;simp only at hrow hrw hpw hy;obtain ⟨g',hA',_,_,hb,hown⟩:=own_of hy (by omega);simp only [Option.some.injEq,Addr.mk.injEq,and_true] at hA';subst hA';have hkeep:=putY_block w g (i*4) z;refine ⟨⟨hrow.keep fun k hk=>hkeep k ?_,fun p hp=>⟨(hrw p hp).1.keep fun k hk=>hkeep k ?_,(hrw p hp).2.keep fun k hk=>hkeep k ?_⟩,hpw⟩,?_⟩
 ·rintro rfl;exact apartT hrow hy (by decide) _ hk hb
 ·rintro rfl;exact apartT (hrw p hp).1 hy (by decide) _ hk hb
 ·rintro rfl;exact apartT (hrw p hp).2 hy (by decide) _ hk hb
 ·refine .inr ?_
  show (putY w g (i*4) z).ownsRow base _ 4 (.slice (some ⟨g,0,none⟩) (ys.set i z).length yc) (ys.set i z).length (cellsOf symbolC (ys.set i z))
  rw [List.length_set,<- setSym _ _ hi];exact ((((hown.stored (i*4) _).1.stored (i*4+1) _).1.stored (i*4+2) _).1.stored (i*4+3) _).1
theorem cell_own {w:World} {base:Nat} {e:TypeId} {size n c:Nat} {g:Nat} {xs:List Value} (h:w.ownsRow base e size (.slice (some ⟨g,0,none⟩) n c) n xs):∃ cs,Box w g e cs:=box_of_own h
end BStore
/- Whether a fixup uses a symbol: the program's uses. -/
namespace CUses
open Kit CFixups CSymbols PObj BObj
end CUses
/- Contracts of the laws' helpers on Warning: the copy,the comparison of equal data,the marks. Written by a program. -/
namespace CWarnings
open Kit
abbrev D:=Int × Int
def marks (k0:Int) (m:Nat):List D:=(List.range m).map fun (i:Nat)=>(k0+2*(i:Int),k0+2*(i:Int)+1)
theorem marks_len (k0:Int) (m:Nat):(marks k0 m).length=m:=by simp [marks]
end CWarnings
/- The reference's l9Used; the program's covers. -/
namespace CCovers
open Kit CCode CFixups CSymbols PObj BObj PValid CSecValid CUses
end CCovers
/- The reference's ObjectValid. -/
namespace CObjValidS
open Kit CCode CName CFixups CSymbols PObj BObj PValid CSecValid CSecValid2 CSecValid3 CSymValid CGlobalOf CObjValid
theorem obj_sizes {d:OD} (h3:∀ p ∈ d.ss,secOk d.ys.length p=true) (h4:∀ k,(h:k<d.ys.length)->symAt d.ss d.ys k d.ys[k]=true):objOk d=(decide (d.ss.length<=8) && decide (d.ys.length<=12)):=by
 by_cases h1:d.ss.length<=8
 ·by_cases h2:d.ys.length<=12
  ·rw [obj_yes h1 h2 h3 h4,decide_eq_true h1,decide_eq_true h2]
   rfl
  ·rw [obj_big (.inr (by omega)),decide_eq_false h2,Bool.and_false]
 ·rw [obj_big (.inl (by omega)),decide_eq_false h1,Bool.false_and]
set_option maxHeartbeats 4000000 in
theorem objectValidS_any (o:OV) (w:World) (hr:RdO w w.heap.size o) (hf:Fit o):
  Calls Tryz.prog 39 #[.agg #[.slice o.A o.ps.length o.c,.slice o.Y o.ys.length o.yc]] w (Ret (.bool (objOk o.d)) w):=by
 obtain ⟨A,c,ps,Y,yc,ys⟩:=o;obtain ⟨np,ny,cy,hp,hy⟩:=hf;simp only [OV.d] at np ny cy hp hy ⊢;have HR:=h_ hr;have HL:=h_ (And.intro hp hy);clear hr hp hy;have B0:Below w.heap.size w (w.alloc (.cells #[.slice A ps.length c,.slice Y ys.length yc] 26)):=b_;have X0:=Box.new w 26 #[.slice A ps.length c,.slice Y ys.length yc];have HB:=h_ B0;clear B0
 go_enter Tryz.func39,Tryz.ntmps39
 go_wp2_with fail
 generalize w.alloc (.cells #[.slice A ps.length c,.slice Y ys.length yc] 26)=w0 at *
 go_loopw [3] (fun i wi=>∃ k:Nat,k<=ps.length/\i=.int .i64 k/\(∀ p ∈ ps.take k,secOk ys.length p.d=true)/\Box wi w.heap.size 26 #[.slice A ps.length c,.slice Y ys.length yc]/\Below w.heap.size w wi) (fun i _=>ps.length - (intOf i).toNat)
 case atStart=>exact ⟨0,Nat.zero_le _,rfl,fun p hp=>by simp at hp,X0,HB.o⟩
 case round=>
  obtain ⟨k,hk,rfl,hok,hx,hb⟩:=hrel;have HO:=h_ hok;have HX:=h_ hx;have HBI:=h_ hb;clear X0 HB;have x0:=d_ hx 0;have x1:=d_ hx 1;have hxl:=hx.lt
  by_cases hlt:k<ps.length
  ·obtain ⟨b,off,hA,hbg,hc⟩:=(HR.o.1.1.below hb).row secC_len (by decide) hlt;subst hA;have hbw:b<wr.heap.size:=Nat.lt_of_lt_of_le hbg hb.size;have hc0:=hc 0 _ rfl;have hc1:=hc 1 _ rfl;have hc2:=hc 2 _ rfl;have hc3:=hc 3 _ rfl;have hc4:=hc 4 _ rfl;have hc5:=hc 5 _ rfl;simp only [Nat.add_zero] at hc0;have HM:=h_ (HL.o.1 _ (List.getElem_mem hlt));have HRS:=h_ (HR.o.1.2 _ (List.getElem_mem hlt))
   have HS:=h_ (fun (h:secOk ys.length ps[k].d=true)=>(show ∀ p ∈ ps.take (k+1),secOk ys.length p.d=true from fun p hp=>by
    rw [take_succ hlt] at hp
    rcases List.mem_append.1 hp with hp | hp
    ·exact HO.o p hp
    ·rw [List.mem_singleton.1 hp]; exact h))
   have HF:=h_ (fun (h:secOk ys.length ps[k].d=false)=>obj_sec (d:=⟨ps.map SV.d,ys⟩) (List.mem_map_of_mem (List.getElem_mem hlt)) h);clear hok hx hb hc HO;generalize ps[k]=p at *
   go_wp2_with fail
   have HSS:Hd (∀ V:World,Below wr.heap.size wr V->(V.cell? ⟨w.heap.size,0,none⟩=some (.slice (some ⟨b,off,none⟩) ps.length c)/\V.cell? ⟨w.heap.size,1,none⟩=some (.slice Y ys.length yc)/\V.cell? ⟨b,off+k*6,none⟩=some (.string p.nm)/\V.cell? ⟨b,off+k*6+1,none⟩=some (.int .i64 p.kd)/\V.cell? ⟨b,off+k*6+2,none⟩=some (.int .i64 p.al)/\V.cell? ⟨b,off+k*6+3,none⟩=some (.slice p.A p.zs.length p.c)/\V.cell? ⟨b,off+k*6+4,none⟩=some (.int .i64 p.sz)/\V.cell? ⟨b,off+k*6+5,none⟩=some (.slice p.F p.fs.length p.fc))):=h_ (fun V hV=>⟨(hV.cell (p:=⟨w.heap.size,0,none⟩) hxl).trans x0,(hV.cell (p:=⟨w.heap.size,1,none⟩) hxl).trans x1,(hV.cell (p:=⟨b,off+k*6,none⟩) hbw).trans hc0,(hV.cell (p:=⟨b,off+k*6+1,none⟩) hbw).trans hc1,(hV.cell (p:=⟨b,off+k*6+2,none⟩) hbw).trans hc2,(hV.cell (p:=⟨b,off+k*6+3,none⟩) hbw).trans hc3,(hV.cell (p:=⟨b,off+k*6+4,none⟩) hbw).trans hc4,(hV.cell (p:=⟨b,off+k*6+5,none⟩) hbw).trans hc5⟩);clear hc0 hc1 hc2 hc3 hc4 hc5 x0 x1;refine Reg.startT (fun V=>V.cell? ⟨w.heap.size,0,none⟩=some (.slice (some ⟨b,off,none⟩) ps.length c)/\V.cell? ⟨w.heap.size,1,none⟩=some (.slice Y ys.length yc)/\V.cell? ⟨b,off+k*6,none⟩=some (.string p.nm)/\V.cell? ⟨b,off+k*6+1,none⟩=some (.int .i64 p.kd)/\V.cell? ⟨b,off+k*6+2,none⟩=some (.int .i64 p.al)/\V.cell? ⟨b,off+k*6+3,none⟩=some (.slice p.A p.zs.length p.c)/\V.cell? ⟨b,off+k*6+4,none⟩=some (.int .i64 p.sz)/\V.cell? ⟨b,off+k*6+5,none⟩=some (.slice p.F p.fs.length p.fc)) (fun _=>false) (by kernel_rfl) ?_;have hHeld:=HSS.o wr.drew (Below.drew (Below.refl _ _));refine t_ 0 rfl ?_;refine t_ 1 rfl ?_;refine t_ 2 rfl ?_;refine t_ 3 rfl ?_;refine t_ 4 rfl ?_;refine t_ 5 rfl ?_;refine t_ 6 rfl ?_;refine t_ 7 rfl ?_;refine Reg.oneT (i:=8) rfl (by kernel_rfl) (fun K hK=>?_)
   go_simp
   refine (sectionValidS_any p ys.length _ ((HRS.o.below (Below.drew HBI.o)).more (Below.drew HBI.o).size) HM.o.1 HM.o.2.1 HM.o.2.2).mono ?_;rintro e w2 ⟨rfl,b2⟩;have b2':=of_drew b2;have hHeld:=HSS.o w2 b2';refine hK.out _ _ hHeld ?_;clear hK K
   try simp only [y1_,y2_,y3_,Act.put,y4_,y5_,y6_]
   have HX2:=h_ (HX.o.call b2');have HB2:=h_ (HBI.o.trans (b2'.mono HBI.o.size));clear b2 b2' HX HBI HSS
   cases hs:secOk ys.length p.d
   ·have HV:=h_ (HF.o hs);clear HF HS hs;refine t_ 9 rfl ?_;refine Reg.doneT (by kernel_rfl) ?_ _;clear hHeld
    go_wp2_with fail
    go_ret;exact ⟨by rw [HV.o]; rfl,HB2.o⟩
   ·have HS':=h_ (HS.o hs);clear HF HS hs;refine t_ 9 rfl ?_;refine Reg.doneT (by kernel_rfl) ?_ _;clear hHeld
    go_wp2_with fail
    refine ⟨⟨k+1,by omega,by go_num,HS'.o,HX2.o,HB2.o⟩,by simp [intOf]; omega⟩
  ·have HALL:=h_ (show ∀ p ∈ ps.map SV.d,secOk ys.length p=true from fun p hp=>by
    obtain ⟨q,hq,rfl⟩:=List.mem_map.1 hp
    exact HO.o q (by rw [List.take_of_length_le (by omega)]; exact hq))
   clear HO hok hx hb
   go_wp2_with fail
   clear x0 x1
   go_loopw [4] (fun i wi=>∃ k:Nat,k<=ys.length/\i=.int .i64 k/\(∀ j,(h:j<ys.length)->j<k->symAt (ps.map SV.d) ys j ys[j]=true)/\Box wi w.heap.size 26 #[.slice A ps.length c,.slice Y ys.length yc]/\Below w.heap.size w wi) (fun i _=>ys.length - (intOf i).toNat)
   case atStart=>exact ⟨0,Nat.zero_le _,rfl,fun j _ hj=>absurd hj (Nat.not_lt_zero j),HX.o,HBI.o⟩
   case round=>
    obtain ⟨k,hk,rfl,hok,hx,hb⟩:=hrel;clear HX HBI hxl;have HO:=h_ hok;have HX:=h_ hx;have HBI:=h_ hb;have x0:=d_ hx 0;have x1:=d_ hx 1;have hxl:=hx.lt
    by_cases hlt:k<ys.length
    ·obtain ⟨b,off,hY,hbg,hc⟩:=(HR.o.2.below hb).row symbolC_len (by decide) hlt;have hbw:b<wr.heap.size:=Nat.lt_of_lt_of_le hbg hb.size;have hc0:=hc 0 _ rfl;have hc1:=hc 1 _ rfl;have hc2:=hc 2 _ rfl;have hc3:=hc 3 _ rfl;simp only [Nat.add_zero] at hc0;have HM:=h_ (HL.o.2 _ (List.getElem_mem hlt))
     have HS:=h_ (fun (h:symAt (ps.map SV.d) ys k ys[k]=true)=>(show ∀ j,(h:j<ys.length)->j<k+1->symAt (ps.map SV.d) ys j ys[j]=true from fun j hj hjk=>by
      rcases Nat.lt_or_ge j k with h' | h'
      ·exact HO.o j hj h'
      ·obtain rfl:j=k:=by omega
       exact h))
     have HF:=h_ (fun (h:symAt (ps.map SV.d) ys k ys[k]=false)=>obj_sym (d:=⟨ps.map SV.d,ys⟩) hlt h);clear hok hx hb hc HO;unfold symAt at HS HF;generalize ys[k]=z at *;obtain ⟨zn,zb,zw,zv⟩:=z;simp only at HM hc0 hc1 hc2 hc3 HS HF;subst hY
     go_wp2_with fail
     have HSS:Hd (∀ V:World,Below wr.heap.size wr V->(V.cell? ⟨w.heap.size,0,none⟩=some (.slice A ps.length c)/\V.cell? ⟨w.heap.size,1,none⟩=some (.slice (some ⟨b,off,none⟩) ys.length yc)/\V.cell? ⟨b,off+k*4,none⟩=some (.string zn)/\V.cell? ⟨b,off+k*4+1,none⟩=some (.int .i64 zb)/\V.cell? ⟨b,off+k*4+2,none⟩=some (.int .i64 zw)/\V.cell? ⟨b,off+k*4+3,none⟩=some (.int .i64 zv))):=h_ (fun V hV=>⟨(hV.cell (p:=⟨w.heap.size,0,none⟩) hxl).trans x0,(hV.cell (p:=⟨w.heap.size,1,none⟩) hxl).trans x1,(hV.cell (p:=⟨b,off+k*4,none⟩) hbw).trans hc0,(hV.cell (p:=⟨b,off+k*4+1,none⟩) hbw).trans hc1,(hV.cell (p:=⟨b,off+k*4+2,none⟩) hbw).trans hc2,(hV.cell (p:=⟨b,off+k*4+3,none⟩) hbw).trans hc3⟩);clear hc0 hc1 hc2 hc3 x0 x1;refine Reg.startT (fun V=>V.cell? ⟨w.heap.size,0,none⟩=some (.slice A ps.length c)/\V.cell? ⟨w.heap.size,1,none⟩=some (.slice (some ⟨b,off,none⟩) ys.length yc)/\V.cell? ⟨b,off+k*4,none⟩=some (.string zn)/\V.cell? ⟨b,off+k*4+1,none⟩=some (.int .i64 zb)/\V.cell? ⟨b,off+k*4+2,none⟩=some (.int .i64 zw)/\V.cell? ⟨b,off+k*4+3,none⟩=some (.int .i64 zv)) (fun _=>false) (by kernel_rfl) ?_;have hHeld:=HSS.o wr.drew (Below.drew (Below.refl _ _));refine t_ 0 rfl ?_;refine t_ 1 rfl ?_;refine t_ 2 rfl ?_;refine t_ 3 rfl ?_;refine t_ 4 rfl ?_;refine t_ 5 rfl ?_;refine t_ 6 rfl ?_;refine Reg.oneT (i:=7) rfl (by kernel_rfl) (fun K hK=>?_)
     go_simp
     refine (symbolValidS_any (zn,zb,zw,zv) A ps c _ ((HR.o.1.1.below (Below.drew HBI.o)).more (Below.drew HBI.o).size) np HM.o (fun p hp=>Nat.le_trans (HL.o.1 p hp).2.1 (by decide))).mono ?_;rintro e w3 ⟨rfl,b3⟩;have b3':=of_drew b3;have hHeld:=HSS.o w3 b3';refine hK.out _ _ hHeld ?_;clear hK K
     try simp only [y1_,y2_,y3_,Act.put,y4_,y5_,y6_]
     have HX3:=h_ (HX.o.call b3');have HB3:=h_ (HBI.o.trans (b3'.mono HBI.o.size));clear b3 b3' HX HBI HSS
     cases hs:symOk (ps.map SV.d) (zn,zb,zw,zv)
     ·have HV:=h_ (HF.o (by rw [hs]; rfl));clear HF HS hs;refine t_ 8 rfl ?_;refine Reg.doneT (by kernel_rfl) ?_ _;clear hHeld
      go_wp2_with fail
      go_ret;exact ⟨by rw [HV.o]; rfl,HB3.o⟩
     rw [hs] at HS HF;clear hs;refine t_ 8 rfl ?_;refine Reg.doneT (by kernel_rfl) ?_ _;obtain ⟨_,_,z0,z1,z2,z3⟩:=hHeld;have HZ:=h_ (And.intro z0 z1);have hb3:b<w3.heap.size:=World.block_lt_of_cell? _ _ z0;clear z0 z1 z2 z3
     go_wp2_with fail
     go_loopw [5] (fun jj wi=>∃ j:Nat,j<=k/\jj=.int .i64 j/\(!decide (zb=0) && (ys.take j).any (hit zn))=false/\wi.cell? ⟨b,off+k*4,none⟩=some (.string zn)/\wi.cell? ⟨b,off+k*4+1,none⟩=some (.int .i64 zb)/\Box wi w.heap.size 26 #[.slice A ps.length c,.slice (some ⟨b,off,none⟩) ys.length yc]/\Below w.heap.size w wi) (fun jj _=>k - (intOf jj).toNat)
     case atStart=>exact ⟨0,Nat.zero_le _,rfl,by simp,HZ.o.1,HZ.o.2,HX3.o,HB3.o⟩
     case round=>
      clear HX3 HB3 HZ hb3 hxl hbw;obtain ⟨j,hj,rfl,hno,z0,z1,hx,hb⟩:=hrel;have HX:=h_ hx;have HBI:=h_ hb;have x0:=d_ hx 0;have x1:=d_ hx 1;have hxl:=hx.lt
      by_cases hjk:j<k
      ·have hjy:j<ys.length:=by omega
       obtain ⟨b',off',hY',hbg',hc⟩:=(HR.o.2.below hb).row symbolC_len (by decide) hjy;simp only [Option.some.injEq,Addr.mk.injEq,and_true] at hY';obtain ⟨rfl,rfl⟩:=hY';have hc0:=hc 0 _ rfl;have hc1:=hc 1 _ rfl;simp only [Nat.add_zero] at hc0
       have HT:=h_ (show (!decide (zb=0) && (ys.take (j+1)).any (hit zn))=(!decide (zb=0) && hit zn ys[j]) by
        rw [take_succ hjy,List.any_append]
        cases hzz:(!decide (zb=0))
        ·rfl
        ·rw [hzz,Bool.true_and] at hno;rw [hno]
         simp)
       have HA:=h_ (show (!decide (zb=0) && hit zn ys[j])=true->(!decide (zb=0) && (ys.take k).any (hit zn))=true from fun h=>by
        rw [Bool.and_eq_true] at h ⊢
        exact ⟨h.1,List.any_eq_true.2 ⟨ys[j],by
         rw [List.mem_take_iff_getElem]
         exact ⟨j,by omega,rfl⟩,h.2⟩⟩)
       clear hno hx hb hc;generalize ys[j]=x at *;obtain ⟨xn,xb,xw,xv⟩:=x;simp only [hit] at hc0 hc1 HT HA
       by_cases h1:xn=zn
       ·have e1:(xn.toList == zn.toList)=true:=by rw [str_eq,decide_eq_true h1]
        rw [decide_eq_true h1] at HT HA
        by_cases h2:xb=0
        ·have e2:(xb != 0)=false:=by rw [h2]; rfl
         rw [decide_eq_true h2] at HT HA;have HT':=h_ (show (!decide (zb=0) && (ys.take (j+1)).any (hit zn))=false by rw [HT.o]; simp);clear h1 h2 HT HA
         go_wp2_with fail
         go_quiet (fail)
         go_wp2_with fail
         refine ⟨⟨j+1,by omega,by go_num,HT'.o,z0,z1,HX.o.drewN _,Kit.Below.drewN HBI.o _⟩,by simp [intOf]; omega⟩
        ·have e2:(xb != 0)=true:=bne_iff_ne.2 h2;rw [decide_eq_false h2] at HT HA
         by_cases h3:zb=0
         ·have e3:(zb != 0)=false:=by rw [h3]; rfl
          rw [decide_eq_true h3] at HT HA;have HT':=h_ (show (!decide (zb=0) && (ys.take (j+1)).any (hit zn))=false by rw [decide_eq_true h3]; rfl);clear h1 h2 h3 HT HA
          go_wp2_with fail
          go_quiet (fail)
          go_wp2_with fail
          refine ⟨⟨j+1,by omega,by go_num,HT'.o,z0,z1,HX.o.drewN _,Kit.Below.drewN HBI.o _⟩,by simp [intOf]; omega⟩
         ·have e3:(zb != 0)=true:=bne_iff_ne.2 h3;rw [decide_eq_false h3] at HA;have HV:=h_ (HF.o (by rw [decide_eq_false h3,HA.o rfl]; rfl));clear h1 h2 h3 HT HA
          go_wp2_with fail
          go_quiet (fail)
          go_wp2_with fail
          go_ret;exact ⟨by rw [HV.o]; rfl,Kit.Below.drewN HBI.o _⟩
       ·have e1:(xn.toList == zn.toList)=false:=by rw [str_eq,decide_eq_false h1]
        rw [decide_eq_false h1] at HT HA;have HT':=h_ (show (!decide (zb=0) && (ys.take (j+1)).any (hit zn))=false by rw [HT.o]; simp);clear h1 HT HA
        go_wp2_with fail
        go_quiet (fail)
        go_wp2_with fail
        refine ⟨⟨j+1,by omega,by go_num,HT'.o,z0,z1,HX.o.drewN _,Kit.Below.drewN HBI.o _⟩,by simp [intOf]; omega⟩
      ·have e:j=k:=by omega
       subst e;have HS':=h_ (HS.o (by rw [hno]; rfl));clear HS HF hno hx hb x0 x1 z0 z1
       go_wp2_with fail
       refine ⟨⟨j+1,by omega,by go_num,HS'.o,HX.o,HBI.o⟩,by simp [intOf]; omega⟩
    ·have HV:=h_ ((obj_sizes (d:=⟨ps.map SV.d,ys⟩) HALL.o (fun j hj=>HO.o j hj (Nat.lt_of_lt_of_le hj (show ys.length<=k by omega)))).trans (show _=(decide (ps.length<=8) && decide (ys.length<=12)) by simp));clear HO hok hx hb
     by_cases h1:ps.length<=8
     ·have e1:decide ((ps.length:Int)<=8)=true:=decide_eq_true (by omega);rw [decide_eq_true h1] at HV
      by_cases h2:ys.length<=12
      ·have e2:decide ((ys.length:Int)<=12)=true:=decide_eq_true (by omega);rw [decide_eq_true h2] at HV;clear h1 h2
       go_wp2_with fail
       go_ret;exact ⟨by rw [HV.o]; rfl,HBI.o⟩
      ·have e2:decide ((ys.length:Int)<=12)=false:=decide_eq_false (by omega);rw [decide_eq_false h2] at HV;clear h1 h2
       go_wp2_with fail
       go_ret;exact ⟨by rw [HV.o]; rfl,HBI.o⟩
     ·have e1:decide ((ps.length:Int)<=8)=false:=decide_eq_false (by omega);rw [decide_eq_false h1] at HV;clear h1
      go_wp2_with fail
      go_ret;exact ⟨by rw [HV.o]; simp,HBI.o⟩
end CObjValidS
/- The warnings for an object; plain. -/
namespace PWarn
open Kit CCode CFixups CSymbols PObj BObj PValid CUses CCovers CObjValid
def dY:YD:=(ByteArray.empty,0,0,0)
end PWarn
/- Clearing what fixups fill: plain; and the stores that do it. -/
namespace PClear
open Kit CFixups CSymbols PObj BObj CMarkRows PValid BStore CCovers PWarn
theorem fixes_all {many:Int} {n:Nat}:∀ {e:Int} {fs:List FD},0<=e->fixesOk many n e fs=true->∀ f ∈ fs,(0<=f.1/\f.1+wide f.2.1<=n/\0<wide f.2.1)/\0<=f.2.2.1/\f.2.2.1<many
 | _,[],_,_,f,hf=>by cases hf
 | e,g :: fs,he,h,f,hf=>by
  simp only [fixesOk,Bool.and_eq_true] at h;have hg:=fixOk_iff.1 h.1;have hw:=wide_bd g.2.1
  rcases List.mem_cons.1 hf with rfl | hf
  ·omega
  ·exact fixes_all (by omega) h.2 f hf
theorem sec_all {many:Int} {d:SD} (h:secOk many d=true):d.fs.length<=6/\d.zs.length<=48/\∀ f ∈ d.fs,(0<=f.1/\f.1+wide f.2.1<=d.zs.length/\0<wide f.2.1)/\0<=f.2.2.1/\f.2.2.1<many:=by
 rw [secOk,Bool.and_eq_true] at h;obtain ⟨_,h⟩:=h
 split at h
 ·simp only [blankOk,Bool.and_eq_true,decide_eq_true_eq] at h;have:d.fs=[]:=List.eq_nil_of_length_eq_zero h.2;rw [this];refine ⟨by simp,by omega,?_⟩;intro f hf
  cases hf
 ·simp only [bodyOk,Bool.and_eq_true,decide_eq_true_eq] at h;exact ⟨h.1.2,h.1.1.2,fixes_all (Int.le_refl 0) h.2⟩
theorem obj_all {d:OD} (h:objOk d=true):d.ss.length<=8/\d.ys.length<=12/\∀ s ∈ d.ss,s.fs.length<=6/\s.zs.length<=48/\∀ f ∈ s.fs,(0<=f.1/\f.1+wide f.2.1<=s.zs.length/\0<wide f.2.1)/\0<=f.2.2.1/\f.2.2.1<d.ys.length:=by
 simp only [objOk,Bool.and_eq_true,decide_eq_true_eq,List.all_eq_true] at h;exact ⟨h.1.1.1,h.1.1.2,fun s hs=>sec_all (h.1.2 s hs)⟩
theorem row_at {w:World} {B:Nat} {A:Option Addr} {l1 l2:List SV} {q:SV} (h:RdSs w B A (l1++q :: l2)):
  ∃ b off,A=some ⟨b,off,none⟩/\b<B/\∀ j u,(secC q)[j]?=some u->w.cell? ⟨b,off+l1.length*6+j,none⟩=some u:=by
 obtain ⟨b,off,hA,hb,hc⟩:=h.1.row secC_len (by decide) (show l1.length<(l1++q :: l2).length by simp);refine ⟨b,off,hA,hb,fun j u hu=>hc j u ?_⟩;rw [List.getElem_append_right (Nat.le_refl _)]
 simpa using hu
end PClear
/- The lines of an object,and what the two readers read out of lines: plain. -/
namespace PDump
open Kit CCode CName CNumTxt CFixups CSymbols PObj PValid PClear PNum
def secW:List UInt8:=[115,101,99,116,105,111,110]
def fixW:List UInt8:=[102,105,120,117,112]
def symW:List UInt8:=[115,121,109,98,111,108]
def hexD:List UInt8:=[48,49,50,51,52,53,54,55,56,57,97,98,99,100,101,102]
def hexC (n:Nat):UInt8:=hexD.getD n 0
def hex2 (z:Int):List UInt8:=[hexC (z.toNat / 16),hexC (z.toNat % 16)]
def hexL (zs:List Int):List UInt8:=zs.flatMap hex2
def hexV (c:UInt8):Int:=match hexD.idxOf? c with
 | some i=>i
 | none=>-1
theorem hexV_hexC (n:Nat) (h:n<16):hexV (hexC n)=n:=by
 have key:∀ i:Fin 16,hexV (hexC i.1)=i.1:=by decide +kernel
 exact key ⟨n,h⟩
theorem hexV_bd (c:UInt8):-1<=hexV c/\hexV c<=15:=by
 have key:∀ i:Fin 256,-1<=hexV (UInt8.ofNat i.1)/\hexV (UInt8.ofNat i.1)<=15:=by decide +kernel
 have:=key ⟨c.toNat,UInt8.toNat_lt c⟩
 rwa [UInt8.ofNat_toNat] at this
def unhex:List UInt8->Option (List Int)
 | []=>some []
 | [_]=>none
 | a :: b :: r=>if hexV a<0\/hexV b<0 then none else (unhex r).map fun zs=>(16*hexV a+hexV b) :: zs
theorem unhex_hex:∀ {zs:List Int},InR 0 255 zs->unhex (hexL zs)=some zs
 | [],_=>rfl
 | z :: zs,h=>by
  have hz:=h z (by simp);have ih:=unhex_hex (zs:=zs) (fun x hx=>h x (by simp [hx]))
  show unhex (hexC (z.toNat / 16) :: hexC (z.toNat % 16) :: hexL zs)=_
  rw [unhex,ih,hexV_hexC _ (by omega),hexV_hexC _ (by omega),if_neg (by omega)];simp only [Option.map_some,Option.some.injEq,List.cons.injEq,and_true];omega
theorem unhex_in:∀ {l:List UInt8} {zs:List Int},unhex l=some zs->InR 0 255 zs
 | [],zs,h=>by
  injection h with h;subst h;intro x hx
  cases hx
 | [_],_,h=>by cases h
 | a :: b :: r,zs,h=>by
  rw [unhex] at h
  split at h
  ·cases h
  ·rename_i hn
   cases hr:unhex r with
   | none=>rw [hr] at h; cases h
   | some ys=>
    rw [hr] at h;simp only [Option.map_some,Option.some.injEq] at h;subst h;have ha:=hexV_bd a;have hb:=hexV_bd b;intro x hx
    rcases List.mem_cons.1 hx with rfl | hx
    ·omega
    ·exact unhex_in hr x hx
theorem unhex_len:∀ {l:List UInt8} {zs:List Int},unhex l=some zs->2*zs.length=l.length
 | [],zs,h=>by
  injection h with h;subst h
  rfl
 | [_],_,h=>by cases h
 | a :: b :: r,zs,h=>by
  rw [unhex] at h
  split at h
  ·cases h
  ·cases hr:unhex r with
   | none=>rw [hr] at h; cases h
   | some ys=>
    rw [hr] at h;simp only [Option.map_some,Option.some.injEq] at h;subst h;have:=unhex_len hr;simp only [List.length_cons];omega
theorem hexC_no (c:UInt8) (hc:c=32\/c=124) (n:Nat):hexC n ≠ c:=by
 unfold hexC
 rcases Nat.lt_or_ge n 16 with h | h
 ·have key:∀ i:Fin 16,hexD.getD i.1 0 ≠ 32/\hexD.getD i.1 0 ≠ 124:=by decide
  rcases hc with rfl | rfl
  ·exact (key ⟨n,h⟩).1
  ·exact (key ⟨n,h⟩).2
 ·rw [List.getD_eq_getElem?_getD,List.getElem?_eq_none (by simpa [hexD] using h)]
  rcases hc with rfl | rfl <;> decide
theorem hexL_no (c:UInt8) (hc:c=32\/c=124) (zs:List Int):c ∉ hexL zs:=by
 intro h;simp only [hexL,List.mem_flatMap,hex2,List.mem_cons,List.not_mem_nil,or_false] at h;obtain ⟨z,_,h | h⟩:=h
 ·exact hexC_no c hc _ h.symm
 ·exact hexC_no c hc _ h.symm
theorem hexL_len (zs:List Int):(hexL zs).length=2*zs.length:=by
 induction zs with
 | nil=>rfl
 | cons z zs ih=>
  show (hex2 z++hexL zs).length=_
  rw [List.length_append,ih];simp only [hex2,List.length_cons,List.length_nil];omega
theorem hexL_snoc (zs:List Int) (z:Int):hexL (zs++[z])=hexL zs++hex2 z:=by simp [hexL]
def nmL (s:ByteArray):List UInt8:=s.data.toList
def wordsS (s:SD):List (List UInt8):=[secW,nmL s.nm,Lib.itoa s.kd,Lib.itoa s.al,Lib.itoa (secSize s)]++(if s.zs.length=0 then [] else [hexL s.zs])
def wordsF (f:FD):List (List UInt8):=[fixW,Lib.itoa f.1,Lib.itoa f.2.1,Lib.itoa f.2.2.1,Lib.itoa f.2.2.2]
def wordsY (y:YD):List (List UInt8):=[symW,nmL y.1,Lib.itoa y.2.1,Lib.itoa y.2.2.1,Lib.itoa y.2.2.2]
def lineS (s:SD):List UInt8:=joinC 32 (wordsS s)
def lineF (f:FD):List UInt8:=joinC 32 (wordsF f)
def lineY (y:YD):List UInt8:=joinC 32 (wordsY y)
def linesS (s:SD):List (List UInt8):=lineS s :: s.fs.map lineF
def linesSs (ss:List SD):List (List UInt8):=ss.flatMap linesS
def linesO (d:OD):List (List UInt8):=linesSs d.ss++d.ys.map lineY
def dumpL (d:OD):List (List UInt8):=bif objOk d then linesO d else []
def bs (l:List UInt8):ByteArray:=⟨l.toArray⟩
theorem bs_nm (s:ByteArray):bs (nmL s)=s:=rfl
theorem nm_bs (l:List UInt8):nmL (bs l)=l:=by simp [nmL,bs]
theorem name_byte {s:ByteArray} (h:nameOk s=true):∀ c ∈ nmL s,c.toNat=46\/c.toNat=95\/(48<=c.toNat/\c.toNat<=57)\/(97<=c.toNat/\c.toNat<=122):=by
 intro c hc;rw [nameOk,Bool.and_eq_true,allOk,List.all_eq_true] at h;obtain ⟨k,hk,rfl⟩:=List.getElem_of_mem hc
 have hs:k<s.size:=by
  have:(nmL s).length=s.size:=by rw [nmL,Array.length_toList]; rfl
  omega
 have:=h.1 k (List.mem_range.2 hs);rw [show s.data.toList.getD k 0=(nmL s)[k] from by rw [List.getD_eq_getElem?_getD,show s.data.toList=nmL s from rfl,List.getElem?_eq_getElem hk]; rfl] at this;simp only [chOk,Bool.or_eq_true,Bool.and_eq_true,decide_eq_true_eq] at this;omega
theorem name_no {s:ByteArray} (h:nameOk s=true) {c:UInt8} (hc:c=32\/c=124):c ∉ nmL s:=fun hm=>by
 have:=name_byte h c hm;have h32:(32:UInt8).toNat=32:=rfl;have h124:(124:UInt8).toNat=124:=rfl
 rcases hc with rfl | rfl <;> omega
theorem itoa_free {c:UInt8} (hc:c=32\/c=124) (b:Int):c ∉ Lib.itoa b:=by
 have h32:(32:UInt8).toNat=32:=rfl;have h124:(124:UInt8).toNat=124:=rfl
 rcases hc with rfl | rfl
 ·exact itoa_no (.inl (by omega)) b
 ·exact itoa_no (.inr (by omega)) b
theorem wordsS_no {s:SD} (h:nameOk s.nm=true) {c:UInt8} (hc:c=32\/c=124):∀ w ∈ wordsS s,c ∉ w:=by
 intro w hw;simp only [wordsS,List.mem_append,List.mem_cons,List.not_mem_nil,or_false] at hw
 rcases hw with (rfl | rfl | rfl | rfl | rfl) | hw
 ·rcases hc with rfl | rfl <;> decide
 ·exact name_no h hc
 ·exact itoa_free hc _
 ·exact itoa_free hc _
 ·exact itoa_free hc _
 ·split at hw
  ·cases hw
  ·simp only [List.mem_singleton] at hw;subst hw;exact hexL_no c hc _
theorem wordsF_no (f:FD) {c:UInt8} (hc:c=32\/c=124):∀ w ∈ wordsF f,c ∉ w:=by
 intro w hw;simp only [wordsF,List.mem_cons,List.not_mem_nil,or_false] at hw
 rcases hw with rfl | rfl | rfl | rfl | rfl
 ·rcases hc with rfl | rfl <;> decide
 all_goals exact itoa_free hc _
theorem wordsY_no {y:YD} (h:nameOk y.1=true) {c:UInt8} (hc:c=32\/c=124):∀ w ∈ wordsY y,c ∉ w:=by
 intro w hw;simp only [wordsY,List.mem_cons,List.not_mem_nil,or_false] at hw
 rcases hw with rfl | rfl | rfl | rfl | rfl
 ·rcases hc with rfl | rfl <;> decide
 ·exact name_no h hc
 all_goals exact itoa_free hc _
theorem splt_S {s:SD} (h:nameOk s.nm=true):splt 32 (lineS s)=wordsS s:=splt_join 32 _ (by simp [wordsS]) (wordsS_no h (.inl rfl))
theorem splt_F (f:FD):splt 32 (lineF f)=wordsF f:=splt_join 32 _ (by simp [wordsF]) (wordsF_no f (.inl rfl))
theorem splt_Y {y:YD} (h:nameOk y.1=true):splt 32 (lineY y)=wordsY y:=splt_join 32 _ (by simp [wordsY]) (wordsY_no h (.inl rfl))
def nums:List (List UInt8)->Option (List Int)
 | []=>some []
 | w :: ws=>match Lib.atoiAll w with
  | .ok v=>(nums ws).map (v :: ·)
  | _=>none
def addS (d:OD) (s:SD):OD:=⟨d.ss++[s],d.ys⟩
def addY (d:OD) (y:YD):OD:=⟨d.ss,d.ys++[y]⟩
def addF (d:OD) (f:FD):Option OD:=match d.ss.getLast? with
 | some s=>some ⟨d.ss.dropLast++[{ s with fs:=s.fs++[f] }],d.ys⟩
 | none=>none
def blankSz (k n:Int):Int:=if k=3 then n else 0
def mkSI (nm:List UInt8) (ns:List Int) (zs:List Int):SD:=⟨bs nm,ns.getD 0 0,ns.getD 1 0,zs,blankSz (ns.getD 0 0) (ns.getD 2 0),[]⟩
def mkY (nm:List UInt8) (ns:List Int):YD:=(bs nm,ns.getD 0 0,ns.getD 1 0,ns.getD 2 0)
def mkF (ns:List Int):FD:=(ns.getD 0 0,ns.getD 1 0,ns.getD 2 0,ns.getD 3 0)
def takeHex (ws:List (List UInt8)):List (List UInt8) × List UInt8:=if ws.getD 0 []=secW/\ws.length=6 then (ws.take 5,ws.getD 5 []) else (ws,[])
def many (w:List UInt8):Nat:=if w=secW\/w=fixW\/w=symW then 5 else 0
def wordI (d:OD) (ws:List (List UInt8)) (hx:List UInt8):Option OD:=
 if ws.length ≠ many (ws.getD 0 []) then none
 else if ws.getD 0 []=fixW then (nums (ws.drop 1)).bind fun ns=>addF d (mkF ns)
 else (nums (ws.drop 2)).bind fun ns=>if ws.getD 0 []=secW then (unhex hx).map fun zs=>addS d (mkSI (ws.getD 1 []) ns zs) else some (addY d (mkY (ws.getD 1 []) ns))
def stepI (d:OD) (l:List UInt8):Option OD:=wordI d (takeHex (splt 32 l)).1 (takeHex (splt 32 l)).2
def stepsI:OD->List (List UInt8)->Option OD
 | d,[]=>some d
 | d,l :: ls=>(stepI d l).bind fun d'=>stepsI d' ls
/-! ### The reference's reading -/
def hexS (ws:List (List UInt8)):List Int:=if ws.length=6 then (unhex (ws.getD 5 [])).getD [] else []
def mkSS (ws:List (List UInt8)):SD:=⟨bs (ws.getD 1 []),rdN (ws.getD 2 []),rdN (ws.getD 3 []),hexS ws,blankSz (rdN (ws.getD 2 [])) (rdN (ws.getD 4 [])),[]⟩
def mkYS (ws:List (List UInt8)):YD:=(bs (ws.getD 1 []),rdN (ws.getD 2 []),rdN (ws.getD 3 []),rdN (ws.getD 4 []))
def mkFS (ws:List (List UInt8)):FD:=(rdN (ws.getD 1 []),rdN (ws.getD 2 []),rdN (ws.getD 3 []),rdN (ws.getD 4 []))
def wordS (d:OD) (ws:List (List UInt8)):Option OD:=
 if ws.getD 0 []=secW/\5<=ws.length/\ws.length<=6 then some (addS d (mkSS ws))
 else if ws.getD 0 []=fixW/\ws.length=5/\0<d.ss.length then addF d (mkFS ws)
 else if ws.getD 0 []=symW/\ws.length=5 then some (addY d (mkYS ws))
 else none
def stepS (d:OD) (l:List UInt8):Option OD:=wordS d (splt 32 l)
def stepsS:OD->List (List UInt8)->Option OD
 | d,[]=>some d
 | d,l :: ls=>(stepS d l).bind fun d'=>stepsS d' ls
def fin (o:Option OD) (ls:List (List UInt8)):Option OD:=match o with
 | some d=>if objOk d=true/\dumpL d=ls then some d else none
 | none=>none
def readI (ls:List (List UInt8)):Option OD:=fin (stepsI ⟨[],[]⟩ ls) ls
def readS (ls:List (List UInt8)):Option OD:=fin (stepsS ⟨[],[]⟩ ls) ls
theorem stepsI_app (d:OD) (a b:List (List UInt8)):stepsI d (a++b)=(stepsI d a).bind fun d'=>stepsI d' b:=by
 induction a generalizing d with
 | nil=>rfl
 | cons l a ih=>
  rw [List.cons_append,stepsI,stepsI]
  cases stepI d l with
  | none=>rfl
  | some d'=>exact ih d'
theorem stepsS_app (d:OD) (a b:List (List UInt8)):stepsS d (a++b)=(stepsS d a).bind fun d'=>stepsS d' b:=by
 induction a generalizing d with
 | nil=>rfl
 | cons l a ih=>
  rw [List.cons_append,stepsS,stepsS]
  cases stepS d l with
  | none=>rfl
  | some d'=>exact ih d'
theorem addF_last (ss:List SD) (s:SD) (ys:List YD) (f:FD):addF ⟨ss++[s],ys⟩ f=some ⟨ss++[{ s with fs:=s.fs++[f] }],ys⟩:=by simp [addF]
def Num (n:Int):Prop:=-99999<=n/\n<=99999
theorem nums_itoa:∀ (ns:List Int),(∀ n ∈ ns,Num n)->nums (ns.map Lib.itoa)=some ns
 | [],_=>rfl
 | n :: ns,h=>by
  have hn:=h n (by simp);unfold Num at hn;rw [List.map_cons,nums,atoi_itoa (by omega) (by omega),nums_itoa ns (fun x hx=>h x (by simp [hx]))]
  rfl
structure GoodS (s:SD):Prop where
 nm:nameOk s.nm=true
 kd:Num s.kd
 al:Num s.al
 size:Num (secSize s)
 zs:InR 0 255 s.zs
 sz:blankSz s.kd (secSize s)=s.sz
def GoodF (f:FD):Prop:=Num f.1/\Num f.2.1/\Num f.2.2.1/\Num f.2.2.2
def GoodY (y:YD):Prop:=nameOk y.1=true/\Num y.2.1/\Num y.2.2.1/\Num y.2.2.2
theorem step_S {s:SD} (h:GoodS s) (d:OD):stepI d (lineS s)=some (addS d { s with fs:=[] })/\stepS d (lineS s)=some (addS d { s with fs:=[] }):=by
 have hn:=nums_itoa [s.kd,s.al,secSize s] (by
  intro n hn;simp only [List.mem_cons,List.not_mem_nil,or_false] at hn
  rcases hn with rfl | rfl | rfl
  ·exact h.kd
  ·exact h.al
  ·exact h.size)
 have hz:=unhex_hex h.zs;have e2:rdN (Lib.itoa s.kd)=s.kd:=rdN_itoa h.kd.1 h.kd.2;have e3:rdN (Lib.itoa s.al)=s.al:=rdN_itoa h.al.1 h.al.2;have e4:rdN (Lib.itoa (secSize s))=secSize s:=rdN_itoa h.size.1 h.size.2;have hsz:=h.sz;unfold stepI stepS;rw [splt_S h.nm]
 by_cases h0:s.zs.length=0
 ·have h00:s.zs=[]:=List.eq_nil_of_length_eq_zero h0
  have hw:wordsS s=[secW,nmL s.nm,Lib.itoa s.kd,Lib.itoa s.al,Lib.itoa (secSize s)]:=by simp [wordsS,h0]
  rw [hw];refine ⟨?_,?_⟩
  ·have ht:takeHex [secW,nmL s.nm,Lib.itoa s.kd,Lib.itoa s.al,Lib.itoa (secSize s)]=([secW,nmL s.nm,Lib.itoa s.kd,Lib.itoa s.al,Lib.itoa (secSize s)],[]):=if_neg (fun h=>by simp at h);rw [ht];unfold wordI;rw [if_neg (by simp [many]),if_neg (by simp [secW,fixW])]
   show (nums (List.map Lib.itoa [s.kd,s.al,secSize s])).bind _=_
   rw [hn];simp only [Option.bind_some,List.getD_cons_zero,if_pos];rw [unhex];simp only [Option.map_some,Option.some.injEq,List.getD_cons_succ,List.getD_cons_zero,mkSI,bs_nm,hsz,<- h00]
  ·unfold wordS;rw [if_pos (by simp)];simp only [Option.some.injEq,mkSS,List.getD_cons_succ,List.getD_cons_zero,bs_nm,e2,e3,e4,hsz];rw [show hexS [secW,nmL s.nm,Lib.itoa s.kd,Lib.itoa s.al,Lib.itoa (secSize s)]=s.zs from by rw [h00]; exact if_neg (by simp)]
 ·have hw:wordsS s=[secW,nmL s.nm,Lib.itoa s.kd,Lib.itoa s.al,Lib.itoa (secSize s),hexL s.zs]:=by simp [wordsS,h0]
  rw [hw];refine ⟨?_,?_⟩
  ·have ht:takeHex [secW,nmL s.nm,Lib.itoa s.kd,Lib.itoa s.al,Lib.itoa (secSize s),hexL s.zs]=([secW,nmL s.nm,Lib.itoa s.kd,Lib.itoa s.al,Lib.itoa (secSize s)],hexL s.zs):=if_pos (by simp);rw [ht];unfold wordI;rw [if_neg (by simp [many]),if_neg (by simp [secW,fixW])]
   show (nums (List.map Lib.itoa [s.kd,s.al,secSize s])).bind _=_
   rw [hn];simp only [Option.bind_some,List.getD_cons_zero,if_pos];rw [hz];simp only [Option.map_some,Option.some.injEq,List.getD_cons_succ,List.getD_cons_zero,mkSI,bs_nm,hsz]
  ·unfold wordS;rw [if_pos (by simp)];simp only [Option.some.injEq,mkSS,List.getD_cons_succ,List.getD_cons_zero,bs_nm,e2,e3,e4,hsz]
   rw [show hexS [secW,nmL s.nm,Lib.itoa s.kd,Lib.itoa s.al,Lib.itoa (secSize s),hexL s.zs]=s.zs from by
    unfold hexS;rw [if_pos (by simp)]
    simp only [List.getD_cons_succ,List.getD_cons_zero,hz,Option.getD_some]]
theorem step_F {f:FD} (h:GoodF f) (ss:List SD) (s:SD) (ys:List YD):
  stepI ⟨ss++[s],ys⟩ (lineF f)=some ⟨ss++[{ s with fs:=s.fs++[f] }],ys⟩/\stepS ⟨ss++[s],ys⟩ (lineF f)=some ⟨ss++[{ s with fs:=s.fs++[f] }],ys⟩:=by
 obtain ⟨h1,h2,h3,h4⟩:=h
 have hn:=nums_itoa [f.1,f.2.1,f.2.2.1,f.2.2.2] (by
  intro n hn;simp only [List.mem_cons,List.not_mem_nil,or_false] at hn
  rcases hn with rfl | rfl | rfl | rfl
  ·exact h1
  ·exact h2
  ·exact h3
  ·exact h4)
 unfold stepI stepS;rw [splt_F f];refine ⟨?_,?_⟩
 ·have ht:takeHex (wordsF f)=(wordsF f,[]):=if_neg (fun h=>by simp [wordsF] at h);rw [ht];unfold wordI;rw [if_neg (by simp [many,wordsF]),if_pos (by simp [wordsF])]
  show (nums (List.map Lib.itoa [f.1,f.2.1,f.2.2.1,f.2.2.2])).bind _=_
  rw [hn,Option.bind_some,addF_last]
  rfl
 ·unfold wordS;rw [if_neg (by simp [wordsF,secW,fixW]),if_pos (by simp [wordsF]),addF_last]
  have e:mkFS (wordsF f)=f:=by
   simp only [mkFS,wordsF,List.getD_cons_succ,List.getD_cons_zero,rdN_itoa h1.1 h1.2,rdN_itoa h2.1 h2.2,rdN_itoa h3.1 h3.2,rdN_itoa h4.1 h4.2]
  rw [e]
theorem step_Y {y:YD} (h:GoodY y) (d:OD):stepI d (lineY y)=some (addY d y)/\stepS d (lineY y)=some (addY d y):=by
 obtain ⟨hnm,h2,h3,h4⟩:=h
 have hn:=nums_itoa [y.2.1,y.2.2.1,y.2.2.2] (by
  intro n hn;simp only [List.mem_cons,List.not_mem_nil,or_false] at hn
  rcases hn with rfl | rfl | rfl
  ·exact h2
  ·exact h3
  ·exact h4)
 unfold stepI stepS;rw [splt_Y hnm];refine ⟨?_,?_⟩
 ·have ht:takeHex (wordsY y)=(wordsY y,[]):=if_neg (fun h=>by simp [wordsY] at h);rw [ht];unfold wordI;rw [if_neg (by simp [many,wordsY]),if_neg (by simp [wordsY,symW,fixW])]
  show (nums (List.map Lib.itoa [y.2.1,y.2.2.1,y.2.2.2])).bind _=_
  rw [hn,Option.bind_some,if_neg (by simp [wordsY,symW,secW])]
  rfl
 ·unfold wordS;rw [if_neg (by simp [wordsY,symW,secW]),if_neg (by simp [wordsY,symW,fixW]),if_pos (by simp [wordsY])]
  have e:mkYS (wordsY y)=y:=by
   simp only [mkYS,wordsY,List.getD_cons_succ,List.getD_cons_zero,bs_nm,rdN_itoa h2.1 h2.2,rdN_itoa h3.1 h3.2,rdN_itoa h4.1 h4.2]
  rw [e]
theorem steps_Fs:∀ (fs:List FD),(∀ f ∈ fs,GoodF f)->∀ (ss:List SD) (s:SD) (ys:List YD),
  stepsI ⟨ss++[s],ys⟩ (fs.map lineF)=some ⟨ss++[{ s with fs:=s.fs++fs }],ys⟩/\stepsS ⟨ss++[s],ys⟩ (fs.map lineF)=some ⟨ss++[{ s with fs:=s.fs++fs }],ys⟩
 | [],_,ss,s,ys=>by simp [stepsI,stepsS]
 | f :: fs,h,ss,s,ys=>by
  obtain ⟨h1,h2⟩:=step_F (h f (by simp)) ss s ys;obtain ⟨h3,h4⟩:=steps_Fs fs (fun x hx=>h x (by simp [hx])) ss { s with fs:=s.fs++[f] } ys;rw [List.map_cons,stepsI,stepsS,h1,h2,Option.bind_some,Option.bind_some,h3,h4];simp
def Good (d:OD):Prop:=(∀ s ∈ d.ss,GoodS s/\∀ f ∈ s.fs,GoodF f)/\∀ y ∈ d.ys,GoodY y
theorem steps_Ss:∀ (ss:List SD),(∀ s ∈ ss,GoodS s/\∀ f ∈ s.fs,GoodF f)->∀ (d:OD),stepsI d (linesSs ss)=some ⟨d.ss++ss,d.ys⟩/\stepsS d (linesSs ss)=some ⟨d.ss++ss,d.ys⟩
 | [],_,d=>by simp [linesSs,stepsI,stepsS]
 | s :: ss,h,d=>by
  obtain ⟨hs,hf⟩:=h s (by simp);obtain ⟨h1,h2⟩:=step_S hs d;obtain ⟨h3,h4⟩:=steps_Fs s.fs hf d.ss { s with fs:=[] } d.ys;obtain ⟨h5,h6⟩:=steps_Ss ss (fun x hx=>h x (by simp [hx])) ⟨d.ss++[s],d.ys⟩
  have e:linesSs (s :: ss)=lineS s :: (s.fs.map lineF++linesSs ss):=by simp [linesSs,linesS]
  rw [e,stepsI,stepsS,h1,h2,Option.bind_some,Option.bind_some,stepsI_app,stepsS_app];rw [show addS d { s with fs:=[] }=⟨d.ss++[{ s with fs:=[] }],d.ys⟩ from rfl,h3,h4];simp only [Option.bind_some,List.nil_append];rw [h5,h6];simp
theorem steps_Ys:∀ (ys:List YD),(∀ y ∈ ys,GoodY y)->∀ (d:OD),stepsI d (ys.map lineY)=some ⟨d.ss,d.ys++ys⟩/\stepsS d (ys.map lineY)=some ⟨d.ss,d.ys++ys⟩
 | [],_,d=>by simp [stepsI,stepsS]
 | y :: ys,h,d=>by
  obtain ⟨h1,h2⟩:=step_Y (h y (by simp)) d;obtain ⟨h3,h4⟩:=steps_Ys ys (fun x hx=>h x (by simp [hx])) (addY d y);rw [List.map_cons,stepsI,stepsS,h1,h2,Option.bind_some,Option.bind_some,h3,h4];simp [addY]
theorem steps_O {d:OD} (h:Good d):stepsI ⟨[],[]⟩ (linesO d)=some d/\stepsS ⟨[],[]⟩ (linesO d)=some d:=by
 obtain ⟨h1,h2⟩:=steps_Ss d.ss h.1 ⟨[],[]⟩;obtain ⟨h3,h4⟩:=steps_Ys d.ys h.2 ⟨d.ss,[]⟩;unfold linesO;rw [stepsI_app,stepsS_app,h1,h2];simp only [Option.bind_some,List.nil_append] at h3 h4 ⊢;exact ⟨h3,h4⟩
theorem good_S {n:Int} {s:SD} (h:secOk n s=true) (hz:InR 0 255 s.zs):GoodS s:=by
 rw [secOk,Bool.and_eq_true] at h;obtain ⟨h1,h2⟩:=h;simp only [headOk,Bool.and_eq_true,inB,decide_eq_true_eq] at h1;obtain ⟨⟨hn,hk⟩,ha⟩:=h1
 have ha':Num s.al:=by
  simp only [alignOk,Bool.or_eq_true,decide_eq_true_eq] at ha;unfold Num;omega
 by_cases hk3:s.kd=3
 ·rw [if_pos hk3] at h2;simp only [blankOk,Bool.and_eq_true,inB,decide_eq_true_eq] at h2;have hs:secSize s=s.sz:=if_pos hk3;exact ⟨hn,by unfold Num; omega,ha',by rw [hs]; unfold Num; omega,hz,by rw [hs,blankSz,if_pos hk3]⟩
 ·rw [if_neg hk3] at h2;simp only [bodyOk,Bool.and_eq_true,decide_eq_true_eq] at h2;have hs:secSize s=s.zs.length:=if_neg hk3;exact ⟨hn,by unfold Num; omega,ha',by rw [hs]; unfold Num; omega,hz,by rw [blankSz,if_neg hk3]; omega⟩
theorem good_F {f:FD} {n m:Nat} (h:(0<=f.1/\f.1+wide f.2.1<=n/\0<wide f.2.1)/\0<=f.2.2.1/\f.2.2.1<m) (ha:-1000<=f.2.2.2/\f.2.2.2<=1000) (hn:n<=48) (hm:m<=12):GoodF f:=by
 have hk:f.2.1=1\/f.2.1=2\/f.2.1=3:=by
  have h3:=h.1.2.2;unfold wide at h3
  split at h3
  ·omega
  ·split at h3
   ·omega
   ·split at h3 <;> omega
 unfold GoodF Num;omega
theorem fixes_add {many:Int} {n:Nat}:∀ {e:Int} {fs:List FD},fixesOk many n e fs=true->∀ f ∈ fs,-1000<=f.2.2.2/\f.2.2.2<=1000
 | _,[],_,f,hf=>by cases hf
 | e,g :: fs,h,f,hf=>by
  simp only [fixesOk,Bool.and_eq_true] at h;have hg:=fixOk_iff.1 h.1
  rcases List.mem_cons.1 hf with rfl | hf
  ·exact hg.2.2.2.1
  ·exact fixes_add h.2 f hf
theorem sec_add {n:Int} {s:SD} (h:secOk n s=true):∀ f ∈ s.fs,-1000<=f.2.2.2/\f.2.2.2<=1000:=by
 rw [secOk,Bool.and_eq_true] at h;have h2:=h.2
 split at h2
 ·simp only [blankOk,Bool.and_eq_true,decide_eq_true_eq] at h2;rw [List.eq_nil_of_length_eq_zero h2.2];intro f hf
  cases hf
 ·simp only [bodyOk,Bool.and_eq_true] at h2;exact fixes_add h2.2
theorem good_Y {ss:List SD} {y:YD} (h:symOk ss y=true) (hs:ss.length<=8) (hz:∀ s ∈ ss,secSize s<=48):GoodY y:=by
 rw [symOk,Bool.and_eq_true] at h;obtain ⟨h1,h2⟩:=h;simp only [bindOk,Bool.and_eq_true,inB,decide_eq_true_eq] at h1;refine ⟨h1.1,by unfold Num; omega,?_⟩;unfold placeOk at h2
 split at h2
 ·simp only [Bool.and_eq_true,decide_eq_true_eq] at h2;unfold Num;omega
 ·split at h2
  ·simp only [inB,decide_eq_true_eq] at h2;unfold Num;omega
  ·simp only [inB,Bool.and_eq_true,decide_eq_true_eq] at h2
   have hb:secSize (ss.getD y.2.2.1.toNat ⟨ByteArray.empty,0,0,[],0,[]⟩)<=48:=by
    rw [List.getD_eq_getElem?_getD]
    cases hq:ss[y.2.2.1.toNat]? with
    | none=>decide
    | some x=>exact hz x (List.mem_of_getElem? hq)
   unfold Num;omega
def InD (d:OD):Prop:=∀ s ∈ d.ss,InR 0 255 s.zs
theorem sec_size {n:Int} {s:SD} (h:secOk n s=true):secSize s<=48:=by
 rw [secOk,Bool.and_eq_true] at h;have h2:=h.2
 by_cases hk3:s.kd=3
 ·rw [if_pos hk3] at h2;simp only [blankOk,Bool.and_eq_true,inB,decide_eq_true_eq] at h2;rw [secSize,if_pos hk3];omega
 ·rw [if_neg hk3] at h2;simp only [bodyOk,Bool.and_eq_true,decide_eq_true_eq] at h2;rw [secSize,if_neg hk3];omega
theorem good_O {d:OD} (h:objOk d=true) (hz:InD d):Good d:=by
 have h0:=obj_all h;simp only [objOk,Bool.and_eq_true,decide_eq_true_eq,List.all_eq_true] at h;obtain ⟨⟨⟨hs,hy⟩,h3⟩,h4⟩:=h;refine ⟨fun s hm=>⟨good_S (h3 s hm) (hz s hm),fun f hf=>?_⟩,fun y hm=>?_⟩
 ·obtain ⟨_,h6,h7⟩:=h0.2.2 s hm;exact good_F (h7 f hf) (sec_add (h3 s hm) f hf) h6 hy
 ·simp only [symsOk,List.all_eq_true,Bool.and_eq_true] at h4;obtain ⟨k,hk,rfl⟩:=List.getElem_of_mem hm;have h5:=(h4 k (List.mem_range.2 hk)).1;rw [List.getD_eq_getElem?_getD,List.getElem?_eq_getElem hk] at h5;exact good_Y h5 hs (fun s hm=>sec_size (h3 s hm))
/-! ### What is read has bytes -/
theorem inD_add {d:OD} {s:SD} (h:InD d) (hs:InR 0 255 s.zs):InD (addS d s):=by
 intro x hx
 rcases List.mem_append.1 hx with hx | hx
 ·exact h x hx
 ·rw [List.mem_singleton.1 hx];exact hs
theorem inD_addF {d d':OD} {f:FD} (h:InD d) (e:addF d f=some d'):InD d':=by
 unfold addF at e
 cases hl:d.ss.getLast? with
 | none=>rw [hl] at e; cases e
 | some s=>
  rw [hl] at e;simp only [Option.some.injEq] at e;subst e;intro x hx
  rcases List.mem_append.1 hx with hx | hx
  ·exact h x (List.dropLast_subset _ hx)
  ·rw [List.mem_singleton.1 hx];exact h s (List.mem_of_getLast? hl)
theorem inD_stepI {d d':OD} {l:List UInt8} (h:InD d) (e:stepI d l=some d'):InD d':=by
 unfold stepI wordI at e
 split at e
 ·cases e
 ·split at e
  ·obtain ⟨ns,_,e⟩:=Option.bind_eq_some_iff.1 e;exact inD_addF h e
  ·obtain ⟨ns,_,e⟩:=Option.bind_eq_some_iff.1 e
   split at e
   ·obtain ⟨zs,hz,e⟩:=Option.map_eq_some_iff.1 e;subst e;exact inD_add h (unhex_in hz)
   ·injection e with e;subst e;exact h
theorem inD_stepS {d d':OD} {l:List UInt8} (h:InD d) (e:stepS d l=some d'):InD d':=by
 unfold stepS wordS at e
 split at e
 ·injection e with e;subst e;refine inD_add h ?_
  show InR 0 255 (hexS _)
  unfold hexS
  split
  ·cases hq:unhex ((splt 32 l).getD 5 []) with
   | none=>intro x hx; cases hx
   | some zs=>exact unhex_in hq
  ·intro x hx
   cases hx
 ·split at e
  ·exact inD_addF h e
  ·split at e
   ·injection e with e;subst e;exact h
   ·cases e
theorem inD_stepsI:∀ {ls:List (List UInt8)} {d d':OD},InD d->stepsI d ls=some d'->InD d'
 | [],d,d',h,e=>by
  injection e with e;subst e;exact h
 | l :: ls,d,d',h,e=>by
  obtain ⟨x,hx,e⟩:=Option.bind_eq_some_iff.1 e;exact inD_stepsI (inD_stepI h hx) e
theorem inD_stepsS:∀ {ls:List (List UInt8)} {d d':OD},InD d->stepsS d ls=some d'->InD d'
 | [],d,d',h,e=>by
  injection e with e;subst e;exact h
 | l :: ls,d,d',h,e=>by
  obtain ⟨x,hx,e⟩:=Option.bind_eq_some_iff.1 e;exact inD_stepsS (inD_stepS h hx) e
theorem inD_nil:InD ⟨[],[]⟩:=fun s hs=>by cases hs
theorem fin_some {o:Option OD} {ls:List (List UInt8)} {d:OD} (h:fin o ls=some d):o=some d/\objOk d=true/\dumpL d=ls:=by
 unfold fin at h
 cases o with
 | none=>cases h
 | some x=>
  simp only at h
  split at h
  ·rename_i hc;injection h with h;subst h;exact ⟨rfl,hc.1,hc.2⟩
  ·cases h
theorem dump_ok {d:OD} (h:objOk d=true):dumpL d=linesO d:=by
 rw [dumpL,h]
 rfl
theorem read_dump {d:OD} (h:objOk d=true) (hz:InD d):readI (dumpL d)=some d/\readS (dumpL d)=some d:=by
 obtain ⟨h1,h2⟩:=steps_O (good_O h hz);unfold readI readS;rw [dump_ok h,h1,h2];unfold fin;simp only;rw [if_pos ⟨h,dump_ok h⟩];exact ⟨rfl,rfl⟩
theorem readI_some {ls:List (List UInt8)} {d:OD} (h:readI ls=some d):objOk d=true/\dumpL d=ls/\InD d:=by
 obtain ⟨h1,h2,h3⟩:=fin_some h;exact ⟨h2,h3,inD_stepsI inD_nil h1⟩
theorem read_same (ls:List (List UInt8)):readI ls=readS ls:=by
 cases hI:readI ls with
 | some d=>
  obtain ⟨h2,h3,h4⟩:=readI_some hI;rw [<-h3,(read_dump h2 h4).2]
 | none=>
  cases hS:readS ls with
  | none=>rfl
  | some d=>
   obtain ⟨h1,h2,h3⟩:=fin_some hS;have h4:=inD_stepsS inD_nil h1;rw [<-h3,(read_dump h2 h4).1] at hI
   cases hI
end PDump
/- HexText: bytes as digits; the program's. -/
namespace CHexI
open Kit CEqual PDump
def numL (l:List UInt8):List Int:=l.map fun c=>(c.toNat:Int)
theorem numL_app (a b:List UInt8):numL (a++b)=numL a++numL b:=by simp [numL]
theorem str_num (l:List UInt8):strOfNums (numL l)=bs l:=by
 unfold strOfNums numL bs;rw [List.map_map]
 congr 1
 have:(fun c:UInt8=>UInt8.ofNat ((c.toNat:Int)).toNat)=id:=by
  funext c
  simp
 simp [Function.comp_def]
theorem hex_bd (n:Nat):(hexC n).toNat<256:=UInt8.toNat_lt _
theorem index_hex (y:Int) (h0:0<=y) (h1:y<16) (V:World):(Instr.index 9 (.string ⟨#[48,49,50,51,52,53,54,55,56,57,97,98,99,100,101,102]⟩) (.int .u8 y)).run Tryz.prog V=.ok (.int .u8 (hexC y.toNat).toNat) V:=by
 have h:y=0\/y=1\/y=2\/y=3\/y=4\/y=5\/y=6\/y=7\/y=8\/y=9\/y=10\/y=11\/y=12\/y=13\/y=14\/y=15:=by omega
 clear h0 h1
 rcases h with rfl | rfl | rfl | rfl | rfl | rfl | rfl | rfl | rfl | rfl | rfl | rfl | rfl | rfl | rfl | rfl
 all_goals (simp [Instr.index,run_underlying Tryz.underlying9,asIntOf,go_sem]; rfl)
theorem one_two (a b:Int):∀ u ∈ [Value.int .u8 a,Value.int .u8 b],u.oneCell'=true:=by
 intro u hu;simp only [List.mem_cons,List.not_mem_nil,or_false] at hu
 rcases hu with rfl | rfl <;> rfl
theorem and_low (x:Int) (h:0<=x/\x<=255):bits .and .u8 x 15=x % 16:=by
 have key:∀ i:Fin 256,bits .and .u8 (i.1:Int) 15=(i.1:Int) % 16:=by decide +kernel
 obtain ⟨n,rfl⟩:=Int.eq_ofNat_of_zero_le h.1;exact key ⟨n,by omega⟩
theorem hex2_eq (x:Int) (h:0<=x):hex2 x=[hexC (x / 16).toNat,hexC (x % 16).toNat]:=by
 unfold hex2;rw [show (x / 16).toNat=x.toNat / 16 by omega,show (x % 16).toNat=x.toNat % 16 by omega]
set_option maxHeartbeats 4000000 in
theorem hexText_any (A:Option Addr) (zs:List Int) (c:Nat) (w:World) (hr:Rd w w.heap.size A (ints .u8 zs)) (hz:InR 0 255 zs) (hm:zs.length<=1048576):
  Calls Tryz.prog 15 #[.slice A zs.length c] w (Ret (.string (bs (hexL zs))) w):=by
 obtain ⟨i0,hi1,hi2,hi3,hi4⟩:=info_parts CBytes.info8;have HI:=h_ (And.intro hi1 (And.intro hi2 (And.intro hi3 hi4)));clear hi1 hi2 hi3 hi4;have HR:=h_ hr;have HZ:=h_ hz;clear hr hz;have HB:=h_ (show Below w.heap.size w (w.alloc (.cells #[] 5)) from b_)
 go_enter Tryz.func15,Tryz.ntmps15
 go_wp2_with fail
 generalize w.alloc (.cells #[] 5)=w0 at *
 go_loopw [3,9] (fun s i wi=>∃ (k:Nat) (A1:Option Addr) (c1:Nat) (ys:List Int),k<=zs.length/\s=.slice A1 ys.length c1/\i=.int .i64 k/\ys=numL (hexL (zs.take k))/\ys.length=2*k/\Row wi w.heap.size 5 1 A1 ys.length c1 (ints .u8 ys)/\Below w.heap.size w wi) (fun _ i _=>zs.length - (intOf i).toNat)
 case atStart=>exact ⟨0,_,0,[],Nat.zero_le _,rfl,rfl,rfl,rfl,Row.empty _ _ _ _ _,HB.o⟩
 case round=>
  rename World=>wk
  clear HB;obtain ⟨k,A1,c1,ys,hk,rfl,rfl,hys,hyl,hrow,hb⟩:=hrel;have HY:=h_ hys;have HL:=h_ hyl
  have hl2:ys.length<=2097152:=by omega
  have HW:=h_ hrow;have HB:=h_ hb;clear hys hrow hb hyl
  by_cases hlt:k<zs.length
  ·obtain ⟨b,off,hA,hbb,hc⟩:=(HR.o.below HB.o).int hlt;have hx:=HZ.o.at_ hlt;subst hA;have HT:=h_ (show zs.take (k+1)=zs.take k++[zs[k]] from take_succ hlt);generalize zs[k]=x at *
   go_wp2_with fail
   have hix1:=fun V=>index_hex (x / 16) (by omega) (by omega) V;have hand:=and_low x hx;have hix2:=fun V=>index_hex (x % 16) (by omega) (by omega) V;refine Reg.startT (fun _=>True) (fun _=>false) (by kernel_rfl) ?_;have hHeld:True:=trivial;refine t_ 0 rfl ?_;refine t_ 1 rfl ?_;refine t_ 2 rfl ?_;refine t_ 3 rfl ?_;refine t_ 4 rfl ?_;refine t_ 5 rfl ?_;refine t_ 6 rfl ?_;refine Reg.oneT (i:=7) rfl (by kernel_rfl) (fun K hK=>?_)
   go_simp
   refine hK.out _ _ hHeld ?_;clear hK K hix1 hix2 hand
   try simp only [y1_,y2_,y3_,Act.put,y4_,y5_,y6_]
   have hv1:=hex_bd (x / 16).toNat;generalize hya:((hexC (x / 16).toNat).toNat:Int)=ya at *;generalize hyb:((hexC (x % 16).toNat).toNat:Int)=yb at *;have HYS:=h_ (And.intro hya hyb);clear hya hyb;have B2:Below wk.heap.size wk.drew (wk.drew.alloc (.cells #[.int .u8 ya,.int .u8 yb] 5)):=b_;refine Reg.oneT (i:=8) rfl (by kernel_rfl) (fun K hK=>?_);refine step_app (by rfl) _ _ 22 rfl 5 i0 (.int .u8 0) 1 1 Tryz.underlying22 HI.o.1 HI.o.2.1 HI.o.2.2.1 HI.o.2.2.2 rfl (by decide) w.heap.size A1 ys.length c1 (ints .u8 ys) (by rfl) (HW.o.drew.alloc _) (by have:=HB.o.size; simp; omega) (some ⟨wk.heap.size,0,none⟩) 2 2 [.int .u8 ya,.int .u8 yb] (by rfl) (rd_lit wk.drew #[.int .u8 ya,.int .u8 yb] 5 _ rfl) rfl (fun h=>by cases h) (one_two ya yb) (by unfold maxLen; omega) (by omega) ?_;intro A3 n3 c3 w3 hn3 o3 g3 k3;subst hn3;have HW3:=h_ o3;have HB3:=h_ ((HB.o.drew.alloc HB.o.size (.cells #[.int .u8 ya,.int .u8 yb] 5)).grown g3 (by have:=HB.o.size; simp; omega) (fun j hj=>(HW.o.lt j hj).1));refine hK.out _ _ hHeld ?_;clear hK K o3 g3 k3 B2 HW HB
   try simp only [y1_,y2_,y3_,Act.put,y4_,y5_,y6_]
   refine t_ 9 rfl ?_;refine Reg.doneT (by kernel_rfl) ?_ _;clear hHeld
   have HN:=h_ (show ys++[ya,yb]=numL (hexL (zs.take (k+1))) from by
    rw [HT.o,hexL_snoc,numL_app,HY.o,<- HYS.o.1,<- HYS.o.2];rw [hex2_eq x hx.1]
    rfl)
   have hll:(ys++[ya,yb]).length=ys.length+2:=by simp
   have HLL:=h_ hll
   have HW4:=h_ (show Row w3 w.heap.size 5 1 A3 (ys.length+2) c3 (ints .u8 (ys++[ya,yb])) from by
    simpa [ints] using HW3.o)
   clear hll HW3 HYS hv1;generalize ys++[ya,yb]=ys' at *
   go_wp2_with fail
   refine ⟨⟨k+1,A3,c3,ys',by omega,by rw [HLL.o],by go_num,HN.o,by rw [HLL.o,HL.o]; omega,by rw [HLL.o]; exact HW4.o,HB3.o⟩,by simp [intOf]; omega⟩
  ·have hke:k=zs.length:=by omega
   have hcv:=conv_run (show Rd wk wk.heap.size A1 (ints .u8 ys) from HW.o.rd) c1
   have hE:strOfNums ys=bs (hexL zs):=by rw [HY.o,str_num,hke,List.take_length]
   rw [hE] at hcv;clear hE hke
   go_wp2_with fail
   go_ret;exact ⟨rfl,HB.o⟩
end CHexI
end Go.Proofs.YtepoiphmmjfbdaaGreatDoor
