/- Texts divided at a byte: the reference's. -/
import Derived.Test.YtepoiphmmjfbdaaGreatDoorFnExactDeskRunM5
import Derived.Laws.OwnMore
import Derived.Lib.AppendIntMem
import Derived.OpenVars
import Derived.Lib.LaidTab
import Derived.Stop.LaidErr
import Derived.LaidMore
import Derived.OpenShut
import Derived.Shelf.Vars
import Derived.HandedShaped
import Derived.Lay
import Derived.Test.YtepoiphmmjfbdaaGreatDoorRows
set_option linter.unusedSimpArgs false
set_option linter.unusedVariables false
set_option maxRecDepth 200000
open Go.ChangeShapes Go.WideShapes Go.ChangeAt Go.RowKit
namespace Go.Proofs.YtepoiphmmjfbdaaGreatDoor
namespace CWordsS
open Kit CEqual PNum PDump CHexI CHexS CSorted CNames BStore
theorem row_lit1 (W:World) (y:Value) (t:TypeId):Row (W.alloc (.cells #[y] t)) W.heap.size t 1 (some ⟨W.heap.size,0,none⟩) 1 1 [y]:=
 .inr (World.ownsRow_lit W #[y] 1 (Nat.le_refl _) (by unfold maxLen; omega) rfl)
theorem ext1 (s:ByteArray) (k:Nat) (h:k<s.size):s.extract k (k+1)=bs [s[k]'h]:=by
 apply ByteArray.ext
 rw [ByteArray.data_extract]
 apply Array.ext'
 have h':k<s.data.toList.length:=by rw [Array.length_toList]; exact h
 rw [Array.toList_extract]
 show (s.data.toList.drop k).take (k+1 - k)=[s[k]'h]
 rw [Nat.add_sub_cancel_left,List.drop_eq_getElem_cons h']
 rfl
theorem take_byte (s:ByteArray) (k:Nat) (h:k<s.size):s.data.toList.take (k+1)=s.data.toList.take k++[s[k]'h]:=by
 have h':k<s.data.toList.length:=by rw [Array.length_toList]; exact h
 rw [take_succ h']
 rfl
theorem wds_bd (c:UInt8) (s:ByteArray) (k:Nat) (hk:k<=s.size):(splt c (s.data.toList.take k)).length<=s.size+1:=by
 have:=(splt_len c (s.data.toList.take k)).2;rw [List.length_take] at this;omega
theorem splt_mem (c:UInt8):∀ (l:List UInt8),∀ x ∈ splt c l,x.length<=l.length
 | [],x,hx=>by
  rw [splt,List.mem_singleton] at hx;subst hx;exact Nat.le_refl _
 | b :: l,x,hx=>by
  rw [splt] at hx
  split at hx
  ·rcases List.mem_cons.1 hx with rfl | hx
   ·simp
   ·have:=splt_mem c l x hx;simp only [List.length_cons];omega
  ·have ih:=splt_mem c l
   cases hs:splt c l with
   | nil=>exact absurd hs (splt_ne c l)
   | cons y r=>
    rw [hs] at hx ih;rw [headC] at hx
    rcases List.mem_cons.1 hx with rfl | hx
    ·have:=ih y (by simp);simp only [List.length_cons];omega
    ·have:=ih x (by simp [hx]);simp only [List.length_cons];omega
theorem snoc_of {l:List (List UInt8)} (h:l ≠ []):∃ a x,l=a++[x]:=⟨l.dropLast,l.getLast h,(List.dropLast_concat_getLast h).symm⟩
theorem nmC_snoc (a:List (List UInt8)) (x:List UInt8):nmC ((a++[x]).map bs)=nmC (a.map bs)++[.string (bs x)]:=by simp [nmC]
theorem nmC_len (a:List (List UInt8)):(nmC (a.map bs)).length=a.length:=by simp [nmC]
theorem one_s:∀ u ∈ [Value.string ⟨#[]⟩],u.oneCell'=true:=fun u hu=>by
 rw [List.mem_singleton] at hu;subst hu
 rfl
set_option maxHeartbeats 4000000 in
theorem words_any (s:ByteArray) (hs:s.size<=1048576) (w:World):Calls Tryz.prog 110 #[.string s] w (RetN ((splt (32:UInt8) s.data.toList).map bs) w):=by
 obtain ⟨i0,hi1,hi2,hi3,hi4⟩:=info_parts infoStr;have HI:=h_ (And.intro hi1 (And.intro hi2 (And.intro hi3 hi4)));clear hi1 hi2 hi3 hi4;have HB:=h_ (show Below w.heap.size w (w.alloc (.cells #[.string ⟨#[]⟩] 9)) from b_);have HW:=h_ (show Row (w.alloc (.cells #[.string ⟨#[]⟩] 9)) w.heap.size 9 1 (some ⟨w.heap.size,0,none⟩) 1 1 (nmC ((splt (32:UInt8) (s.data.toList.take 0)).map bs)) from row_lit1 w (.string ⟨#[]⟩) 9)
 go_enter Tryz.func110,Tryz.ntmps110
 go_wp2_with fail
 generalize w.alloc (.cells #[.string ⟨#[]⟩] 9)=w0 at *
 go_loopw [3,4] (fun v i wi=>∃ (k:Nat) (A1:Option Addr) (c1 n:Nat),k<=s.size/\v=.slice A1 n c1/\i=.int .i64 k/\n=(splt (32:UInt8) (s.data.toList.take k)).length/\Row wi w.heap.size 9 1 A1 n c1 (nmC ((splt (32:UInt8) (s.data.toList.take k)).map bs))/\Below w.heap.size w wi) (fun _ i _=>s.size - (intOf i).toNat)
 case atStart=>exact ⟨0,_,1,1,Nat.zero_le _,rfl,rfl,rfl,HW.o,HB.o⟩
 case round=>
  rename World=>wk
  clear HW HB;obtain ⟨k,A1,c1,n,hk,rfl,rfl,hn,hrow,hb⟩:=hrel;have HW:=h_ hrow;have HB:=h_ hb;have HN:=h_ hn
  have hn1:n<=1048577:=by
   have:=wds_bd (32:UInt8) s k hk;omega
  clear hrow hb hn
  by_cases hlt:k<s.size
  ·have HT:=h_ (take_byte s k hlt);have HE:=h_ (ext1 s k hlt);have HSN:=h_ (splt_snoc (32:UInt8) (s.data.toList.take k) (s[k]'hlt))
   have hx8:(0:Int)<=((s[k]'hlt).toNat:Int):=by omega
   by_cases hc:s[k]'hlt=(32:UInt8)
   ·have hc1:(((s[k]'hlt).toNat:Int) == 32)=true:=by rw [hc]; rfl
    have HX:=h_ (show splt (32:UInt8) (s.data.toList.take (k+1))=splt (32:UInt8) (s.data.toList.take k)++[[]] from by
     rw [HT.o,HSN.o,if_pos hc])
    have B4:Below wk.heap.size wk (wk.alloc (.cells #[.string ⟨#[]⟩] 9)):=b_;have HWA:=h_ (HW.o.alloc (.cells #[.string ⟨#[]⟩] 9));have HBA:=h_ (HB.o.trans (B4.mono HB.o.size));clear hc HSN HE B4 HW HB
    go_wp2_with (at_builtin; refine wpList_app _ rfl (.tmp 16) (.tmp 17) 28 rfl 9 i0 (.string ByteArray.empty) 1 16 Tryz.underlying28 HI.o.1 HI.o.2.1 HI.o.2.2.1 HI.o.2.2.2 rfl (by decide) w.heap.size A1 n c1 _ rfl HWA.o HBA.o.size (some ⟨wk.heap.size,0,none⟩) 1 1 [.string ⟨#[]⟩] rfl (rd_lit wk #[.string ⟨#[]⟩] 9 _ rfl) rfl (fun h=>by cases h) one_s ?n1 ?n2 ?_)
    case n1=>unfold maxLen; omega
    case n2=>omega
    intro A6 n6 c6 w6 hn6 o6 g6 k6;subst hn6;have HB6:=h_ (HBA.o.grown g6 HBA.o.size (fun j hj=>(HWA.o.lt j hj).1))
    have HW6:=h_ (show Row w6 w.heap.size 9 1 A6 (n+1) c6 (nmC ((splt (32:UInt8) (s.data.toList.take (k+1))).map bs)) from by
     rw [HX.o,nmC_snoc]
     exact o6)
    have HN6:=h_ (show n+1=(splt (32:UInt8) (s.data.toList.take (k+1))).length from by rw [HX.o,List.length_append,HN.o]; rfl);clear o6 g6 k6 HWA HBA HX
    go_wp2_with fail
    refine ⟨⟨k+1,A6,c6,n+1,by omega,rfl,by go_num,HN6.o,HW6.o,HB6.o⟩,by simp [intOf]; omega⟩
   ·have hc1:(((s[k]'hlt).toNat:Int) == 32)=false:=beq_eq_false_iff_ne.2 (fun h=>hc (UInt8.toNat_inj.1 (by have h2:((32:UInt8):UInt8).toNat=32:=rfl; omega)));obtain ⟨a,x,hax⟩:=snoc_of (splt_ne (32:UInt8) (s.data.toList.take k))
    have hxl:x.length<=s.size:=by
     have h1:=splt_mem (32:UInt8) (s.data.toList.take k) x (by rw [hax]; simp);rw [List.length_take] at h1;omega
    have HX:=h_ (show splt (32:UInt8) (s.data.toList.take (k+1))=a++[x++[s[k]'hlt]] from by
     rw [HT.o,HSN.o,if_neg hc,hax,lastC_snoc])
    have hna:n=a.length+1:=by rw [HN.o,hax]; simp
    have HAX:=h_ hax
    have HWX:=h_ (show Row wk w.heap.size 9 1 A1 (a.length+1) c1 (nmC (a.map bs)++[.string (bs x)]) from by
     rw [<-nmC_snoc,<- hax,<- hna]
     exact HW.o)
    obtain ⟨g,hA,hg1,hg2,_,hown⟩:=own_of HWX.o (by omega);have hcell:=World.ownsRow.cellAt hown a.length (by simp [nmC]);rw [List.getElem?_append_right (by rw [nmC_len]; exact Nat.le_refl _)] at hcell;simp only [nmC_len,Nat.sub_self,List.getElem?_cons_zero] at hcell;have hfz:=World.ownsRow.frozenAt hown a.length
    have HST:=h_ (fun (y:List UInt8)=>(show Row (wk.setCell ⟨g,a.length,none⟩ (.string (bs y))) w.heap.size 9 1 (some ⟨g,0,none⟩) (a.length+1) c1 (nmC ((a++[y]).map bs)) from by
     have h:=(hown.stored a.length (.string (bs y))).1;rw [List.set_append_right _ _ (by rw [nmC_len]; exact Nat.le_refl _),nmC_len,Nat.sub_self,List.set_cons_zero] at h;rw [nmC_snoc]
     exact .inr h))
    have HBS:=h_ (fun (u:Value)=>HB.o.drew.setCell (p:=⟨g,a.length,none⟩) hg1 u);subst hA hna;have hs1:=bs_size x
    have he1:(s.extract k (k+1)).size=1:=by rw [HE.o]; rfl
    have HBX:=h_ (show bs x++s.extract k (k+1)=bs (x++[s[k]'hlt]) from by rw [HE.o,bs_app])
    have hl1:(((a.length+1:Nat):Int) - 1)=(a.length:Int):=by omega
    have hl2:((((a.length+1:Nat):Int) - 1)).toNat=a.length:=by omega
    generalize bs x=X at *;obtain ⟨E,hE⟩:∃ E,s.extract k (k+1)=E:=⟨_,rfl⟩;rw [hE] at he1 HBX;have hwr:IntKind.i64.wrap ((a.length:Nat):Int)=a.length:=IntWalk.i64_in _ (by omega);have hwk:IntKind.i64.wrap ((k:Int)+1)=(k:Int)+1:=IntWalk.i64_in _ (by omega)
    have hkt:((k:Int)+1).toNat=k+1:=by omega
    have hk1:(k:Int)+1<=s.size:=by omega
    have hk2:(0:Int)<=(k:Int)+1:=by omega
    have hk3:(k:Int)<=(k:Int)+1:=by omega
    have hll:((a.length:Nat):Int)<(a.length:Int)+1:=by omega
    have hsz:¬ 9223372036854775807<X.size+E.size:=by omega
    clear hax hown HSN hc HT HE HW hs1 he1 hxl
    go_wp2_with fail
    refine Reg.startT (fun W=>W.cell? ⟨g,a.length,none⟩=some (.string X)) (fun j=>j == 17) (by kernel_rfl) ?_;have hHeld:wk.drew.cell? ⟨g,a.length,none⟩=some (.string X):=hcell;refine t_ 0 rfl ?_;refine t_ 1 rfl ?_;refine t_ 2 rfl ?_;refine t_ 3 rfl ?_;refine t_ 4 rfl ?_;refine t_ 5 rfl ?_;refine t_ 6 rfl ?_;refine t_ 7 rfl ?_;refine t_ 8 rfl ?_;refine t_ 9 rfl ?_;refine t_ 10 rfl ?_;refine t_ 11 rfl ?_;refine t_ 12 rfl ?_;refine t_ 13 rfl ?_;refine t_ 14 rfl ?_;refine t_ 15 rfl ?_;refine t_ 16 rfl ?_;refine Reg.lastT (i:=17) rfl (by kernel_rfl) (by rfl) (fun K hK=>?_)
    go_simp
    refine hK.out _ _ ?_;clear hK K hHeld hll hsz hwr hwk hkt hk1 hk2 hk3 hl1 hl2 hfz hE hcell hc1
    try simp only [y1_,y2_,y3_,Act.put,y4_,y5_,y6_]
    refine Reg.doneT (by kernel_rfl) ?_ _;have hq:X++E=bs (x++[s[k]'hlt]):=HBX.o
    have HF:=h_ (show Row (wk.drew.setCell ⟨g,a.length,none⟩ (.string (X++E))) w.heap.size 9 1 (some ⟨g,0,none⟩) (a.length+1) c1 (nmC ((splt (32:UInt8) (s.data.toList.take (k+1))).map bs)) from by
     rw [hq,HX.o]
     exact HST.o (x++[s[k]'hlt]))
    have HFB:=h_ (show Below w.heap.size w (wk.drew.setCell ⟨g,a.length,none⟩ (.string (X++E))) from HBS.o _);have HFN:=h_ (show a.length+1=(splt (32:UInt8) (s.data.toList.take (k+1))).length from by rw [HX.o]; simp);clear hq HBX HST HBS HX HAX HN
    go_wp2_with fail
    refine ⟨⟨k+1,some ⟨g,0,none⟩,c1,a.length+1,by omega,rfl,by go_num,HFN.o,HF.o,HFB.o⟩,by simp [intOf]; omega⟩
  ·have HV:=h_ (show splt (32:UInt8) (s.data.toList.take k)=splt (32:UInt8) s.data.toList from by
    rw [List.take_of_length_le (by rw [Array.length_toList]; show s.size<=k; omega)])
   have HF:=h_ (show RetN ((splt (32:UInt8) s.data.toList).map bs) w (.returned (.slice A1 n c1)) wk from by
    refine ⟨A1,c1,by rw [List.length_map,<- HV.o,<- HN.o],?_,HB.o⟩;rw [List.length_map,<- HV.o,<- HN.o]
    exact HW.o)
   go_wp2_with fail
   go_ret;exact HF.o
set_option maxHeartbeats 4000000 in
theorem parts_any (s:ByteArray) (hs:s.size<=1048576) (w:World):Calls Tryz.prog 63 #[.string s] w (RetN ((splt (124:UInt8) s.data.toList).map bs) w):=by
 obtain ⟨i0,hi1,hi2,hi3,hi4⟩:=info_parts infoStr;have HI:=h_ (And.intro hi1 (And.intro hi2 (And.intro hi3 hi4)));clear hi1 hi2 hi3 hi4;have HB:=h_ (show Below w.heap.size w (w.alloc (.cells #[.string ⟨#[]⟩] 9)) from b_);have HW:=h_ (show Row (w.alloc (.cells #[.string ⟨#[]⟩] 9)) w.heap.size 9 1 (some ⟨w.heap.size,0,none⟩) 1 1 (nmC ((splt (124:UInt8) (s.data.toList.take 0)).map bs)) from row_lit1 w (.string ⟨#[]⟩) 9)
 go_enter Tryz.func63,Tryz.ntmps63
 go_wp2_with fail
 generalize w.alloc (.cells #[.string ⟨#[]⟩] 9)=w0 at *
 go_loopw [3,4] (fun v i wi=>∃ (k:Nat) (A1:Option Addr) (c1 n:Nat),k<=s.size/\v=.slice A1 n c1/\i=.int .i64 k/\n=(splt (124:UInt8) (s.data.toList.take k)).length/\Row wi w.heap.size 9 1 A1 n c1 (nmC ((splt (124:UInt8) (s.data.toList.take k)).map bs))/\Below w.heap.size w wi) (fun _ i _=>s.size - (intOf i).toNat)
 case atStart=>exact ⟨0,_,1,1,Nat.zero_le _,rfl,rfl,rfl,HW.o,HB.o⟩
 case round=>
  rename World=>wk
  clear HW HB;obtain ⟨k,A1,c1,n,hk,rfl,rfl,hn,hrow,hb⟩:=hrel;have HW:=h_ hrow;have HB:=h_ hb;have HN:=h_ hn
  have hn1:n<=1048577:=by
   have:=wds_bd (124:UInt8) s k hk;omega
  clear hrow hb hn
  by_cases hlt:k<s.size
  ·have HT:=h_ (take_byte s k hlt);have HE:=h_ (ext1 s k hlt);have HSN:=h_ (splt_snoc (124:UInt8) (s.data.toList.take k) (s[k]'hlt))
   have hx8:(0:Int)<=((s[k]'hlt).toNat:Int):=by omega
   by_cases hc:s[k]'hlt=(124:UInt8)
   ·have hc1:(((s[k]'hlt).toNat:Int) == 124)=true:=by rw [hc]; rfl
    have HX:=h_ (show splt (124:UInt8) (s.data.toList.take (k+1))=splt (124:UInt8) (s.data.toList.take k)++[[]] from by
     rw [HT.o,HSN.o,if_pos hc])
    have B4:Below wk.heap.size wk (wk.alloc (.cells #[.string ⟨#[]⟩] 9)):=b_;have HWA:=h_ (HW.o.alloc (.cells #[.string ⟨#[]⟩] 9));have HBA:=h_ (HB.o.trans (B4.mono HB.o.size));clear hc HSN HE B4 HW HB
    go_wp2_with (at_builtin; refine wpList_app _ rfl (.tmp 16) (.tmp 17) 28 rfl 9 i0 (.string ByteArray.empty) 1 16 Tryz.underlying28 HI.o.1 HI.o.2.1 HI.o.2.2.1 HI.o.2.2.2 rfl (by decide) w.heap.size A1 n c1 _ rfl HWA.o HBA.o.size (some ⟨wk.heap.size,0,none⟩) 1 1 [.string ⟨#[]⟩] rfl (rd_lit wk #[.string ⟨#[]⟩] 9 _ rfl) rfl (fun h=>by cases h) one_s ?n1 ?n2 ?_)
    case n1=>unfold maxLen; omega
    case n2=>omega
    intro A6 n6 c6 w6 hn6 o6 g6 k6;subst hn6;have HB6:=h_ (HBA.o.grown g6 HBA.o.size (fun j hj=>(HWA.o.lt j hj).1))
    have HW6:=h_ (show Row w6 w.heap.size 9 1 A6 (n+1) c6 (nmC ((splt (124:UInt8) (s.data.toList.take (k+1))).map bs)) from by
     rw [HX.o,nmC_snoc]
     exact o6)
    have HN6:=h_ (show n+1=(splt (124:UInt8) (s.data.toList.take (k+1))).length from by rw [HX.o,List.length_append,HN.o]; rfl);clear o6 g6 k6 HWA HBA HX
    go_wp2_with fail
    refine ⟨⟨k+1,A6,c6,n+1,by omega,rfl,by go_num,HN6.o,HW6.o,HB6.o⟩,by simp [intOf]; omega⟩
   ·have hc1:(((s[k]'hlt).toNat:Int) == 124)=false:=beq_eq_false_iff_ne.2 (fun h=>hc (UInt8.toNat_inj.1 (by have h2:((124:UInt8):UInt8).toNat=124:=rfl; omega)));obtain ⟨a,x,hax⟩:=snoc_of (splt_ne (124:UInt8) (s.data.toList.take k))
    have hxl:x.length<=s.size:=by
     have h1:=splt_mem (124:UInt8) (s.data.toList.take k) x (by rw [hax]; simp);rw [List.length_take] at h1;omega
    have HX:=h_ (show splt (124:UInt8) (s.data.toList.take (k+1))=a++[x++[s[k]'hlt]] from by
     rw [HT.o,HSN.o,if_neg hc,hax,lastC_snoc])
    have hna:n=a.length+1:=by rw [HN.o,hax]; simp
    have HAX:=h_ hax
    have HWX:=h_ (show Row wk w.heap.size 9 1 A1 (a.length+1) c1 (nmC (a.map bs)++[.string (bs x)]) from by
     rw [<-nmC_snoc,<- hax,<- hna]
     exact HW.o)
    obtain ⟨g,hA,hg1,hg2,_,hown⟩:=own_of HWX.o (by omega);have hcell:=World.ownsRow.cellAt hown a.length (by simp [nmC]);rw [List.getElem?_append_right (by rw [nmC_len]; exact Nat.le_refl _)] at hcell;simp only [nmC_len,Nat.sub_self,List.getElem?_cons_zero] at hcell;have hfz:=World.ownsRow.frozenAt hown a.length
    have HST:=h_ (fun (y:List UInt8)=>(show Row (wk.setCell ⟨g,a.length,none⟩ (.string (bs y))) w.heap.size 9 1 (some ⟨g,0,none⟩) (a.length+1) c1 (nmC ((a++[y]).map bs)) from by
     have h:=(hown.stored a.length (.string (bs y))).1;rw [List.set_append_right _ _ (by rw [nmC_len]; exact Nat.le_refl _),nmC_len,Nat.sub_self,List.set_cons_zero] at h;rw [nmC_snoc]
     exact .inr h))
    have HBS:=h_ (fun (u:Value)=>HB.o.drew.setCell (p:=⟨g,a.length,none⟩) hg1 u);subst hA hna;have hs1:=bs_size x
    have he1:(s.extract k (k+1)).size=1:=by rw [HE.o]; rfl
    have HBX:=h_ (show bs x++s.extract k (k+1)=bs (x++[s[k]'hlt]) from by rw [HE.o,bs_app])
    have hl1:(((a.length+1:Nat):Int) - 1)=(a.length:Int):=by omega
    have hl2:((((a.length+1:Nat):Int) - 1)).toNat=a.length:=by omega
    generalize bs x=X at *;obtain ⟨E,hE⟩:∃ E,s.extract k (k+1)=E:=⟨_,rfl⟩;rw [hE] at he1 HBX;have hwr:IntKind.i64.wrap ((a.length:Nat):Int)=a.length:=IntWalk.i64_in _ (by omega);have hwk:IntKind.i64.wrap ((k:Int)+1)=(k:Int)+1:=IntWalk.i64_in _ (by omega)
    have hkt:((k:Int)+1).toNat=k+1:=by omega
    have hk1:(k:Int)+1<=s.size:=by omega
    have hk2:(0:Int)<=(k:Int)+1:=by omega
    have hk3:(k:Int)<=(k:Int)+1:=by omega
    have hll:((a.length:Nat):Int)<(a.length:Int)+1:=by omega
    have hsz:¬ 9223372036854775807<X.size+E.size:=by omega
    clear hax hown HSN hc HT HE HW hs1 he1 hxl
    go_wp2_with fail
    refine Reg.startT (fun W=>W.cell? ⟨g,a.length,none⟩=some (.string X)) (fun j=>j == 17) (by kernel_rfl) ?_;have hHeld:wk.drew.cell? ⟨g,a.length,none⟩=some (.string X):=hcell;refine t_ 0 rfl ?_;refine t_ 1 rfl ?_;refine t_ 2 rfl ?_;refine t_ 3 rfl ?_;refine t_ 4 rfl ?_;refine t_ 5 rfl ?_;refine t_ 6 rfl ?_;refine t_ 7 rfl ?_;refine t_ 8 rfl ?_;refine t_ 9 rfl ?_;refine t_ 10 rfl ?_;refine t_ 11 rfl ?_;refine t_ 12 rfl ?_;refine t_ 13 rfl ?_;refine t_ 14 rfl ?_;refine t_ 15 rfl ?_;refine t_ 16 rfl ?_;refine Reg.lastT (i:=17) rfl (by kernel_rfl) (by rfl) (fun K hK=>?_)
    go_simp
    refine hK.out _ _ ?_;clear hK K hHeld hll hsz hwr hwk hkt hk1 hk2 hk3 hl1 hl2 hfz hE hcell hc1
    try simp only [y1_,y2_,y3_,Act.put,y4_,y5_,y6_]
    refine Reg.doneT (by kernel_rfl) ?_ _;have hq:X++E=bs (x++[s[k]'hlt]):=HBX.o
    have HF:=h_ (show Row (wk.drew.setCell ⟨g,a.length,none⟩ (.string (X++E))) w.heap.size 9 1 (some ⟨g,0,none⟩) (a.length+1) c1 (nmC ((splt (124:UInt8) (s.data.toList.take (k+1))).map bs)) from by
     rw [hq,HX.o]
     exact HST.o (x++[s[k]'hlt]))
    have HFB:=h_ (show Below w.heap.size w (wk.drew.setCell ⟨g,a.length,none⟩ (.string (X++E))) from HBS.o _);have HFN:=h_ (show a.length+1=(splt (124:UInt8) (s.data.toList.take (k+1))).length from by rw [HX.o]; simp);clear hq HBX HST HBS HX HAX HN
    go_wp2_with fail
    refine ⟨⟨k+1,some ⟨g,0,none⟩,c1,a.length+1,by omega,rfl,by go_num,HFN.o,HF.o,HFB.o⟩,by simp [intOf]; omega⟩
  ·have HV:=h_ (show splt (124:UInt8) (s.data.toList.take k)=splt (124:UInt8) s.data.toList from by
    rw [List.take_of_length_le (by rw [Array.length_toList]; show s.size<=k; omega)])
   have HF:=h_ (show RetN ((splt (124:UInt8) s.data.toList).map bs) w (.returned (.slice A1 n c1)) wk from by
    refine ⟨A1,c1,by rw [List.length_map,<- HV.o,<- HN.o],?_,HB.o⟩;rw [List.length_map,<- HV.o,<- HN.o]
    exact HW.o)
   go_wp2_with fail
   go_ret;exact HF.o
end CWordsS
/- What the desks' laws read of the library: the table of powers,the two sentinels,a length; and the library's words on texts. -/
namespace BDesk
open Kit CNumTxt PNum PDump CHexI CHexS CSorted CWordsS BStore
def Tab (w:World):Prop:=Lib.TabIs Tryz.prog w "internal/strconv.uint64pow10" .u64 Lib.pow10Tab
structure Err (n:String) (g:Nat) (w:World):Prop where
 pos:g<w.heap.size
 var:∃ tp p,w.var? Tryz.prog n=some #[.iface tp p]
theorem Err.below {n:String} {g:Nat} {w w':World} (h:Err n g w) (hg:Tryz.prog.globalNamed n=some g) (hb:Below w.heap.size w w'):Err n g w':=by
 refine ⟨Nat.lt_of_lt_of_le h.pos hb.size,?_⟩;obtain ⟨tp,p,hv⟩:=h.var;refine ⟨tp,p,?_⟩;unfold World.var? at hv ⊢;rw [hg] at hv ⊢;simp only [Option.bind_some] at hv ⊢;rw [hb.block g h.pos];exact hv
structure Env (w:World):Prop where
 tab:Tab w
 er:Err "strconv.ErrRange" 2 w
 es:Err "strconv.ErrSyntax" 1 w
 mx:∃ m,w.cell? ⟨0,0,none⟩=some (.int .i64 m)
theorem Env.below {w w':World} (h:Env w) (hb:Below w.heap.size w w'):Env w':=by
 refine ⟨Lib.tabBelow_of_tabIs h.tab w' hb,h.er.below (by kernel_rfl) hb,h.es.below (by kernel_rfl) hb,?_⟩;obtain ⟨m,hm⟩:=h.mx;exact ⟨m,(hb.cell (p:=⟨0,0,none⟩) (World.block_lt_of_cell? _ _ hm)).trans hm⟩
theorem itoa_any (n:Int) (h0:-9223372036854775808<=n) (h1:n<=9223372036854775807) (w:World) (he:Env w):
  Calls Tryz.prog 51 #[.int .i64 n] w (Ret (.string (bs (Lib.itoa n))) w):=by
 refine (XDesk.strconv_Itoa n h0 h1 w he.tab).mono ?_;rintro e w' ⟨rfl,k,os,rfl⟩;exact ⟨rfl,Lib.below_grow w.heap.size w (Nat.le_refl _) k os⟩
def AtoiE (s:List UInt8) (w:World) (e:Ending) (w':World):Prop:=
 (∃ v,Lib.atoiAll s=.ok v/\-9223372036854775808<=v/\v<=9223372036854775807/\e=.returned (.tuple #[.int .i64 v,.nilIface])/\Below w.heap.size w w') ∨
 ((∀ v,Lib.atoiAll s ≠ .ok v)/\∃ x t p,e=.returned (.tuple #[.int .i64 x,.iface t p])/\Below w.heap.size w w')
theorem atoi_any (s:ByteArray) (hs:s.size<=281474976710656) (w:World) (he:Env w):Calls Tryz.prog 96 #[.string s] w (AtoiE s.data.toList w):=by
 cases ha:Lib.atoiAll s.data.toList with
 | ok v=>
  refine (XDesk.strconv_Atoi_ok s (by omega) v ha w).mono ?_;rintro e w' ⟨rfl,h⟩;obtain ⟨h0,h1⟩:=Lib.atoiAll_bounds ha;refine .inl ⟨v,ha,h0,h1,rfl,?_⟩
  rcases h with rfl | ⟨t,rfl⟩
  ·exact Below.refl _ _
  ·exact Lib.bytesWorld_below _ _ _
 | range=>
  obtain ⟨tp,p,hv⟩:=he.er.var;refine (XDesk.strconv_Atoi_range_var s hs ha tp p w hv).mono ?_;rintro e w' ⟨N,rfl,_,_,hb⟩;exact .inr ⟨fun v h=>by (rw [ha] at h; cases h),_,_,_,rfl,hb⟩
 | _=>
  obtain ⟨tp,p,hv⟩:=he.es.var;refine (XDesk.strconv_Atoi_syntax_var s hs (ha.trans rfl) tp p w hv).mono ?_;rintro e w' ⟨N,rfl,_,_,hb⟩;exact .inr ⟨fun v h=>by (rw [ha] at h; cases h),_,_,_,rfl,hb⟩
theorem split_list (c:UInt8) (s:ByteArray):Lib.splitB ⟨#[c]⟩ 0 (Lib.countB s ⟨#[c]⟩) s=(splt c s.data.toList).map bs:=by
 have h:=Lib.splitB_data ⟨#[c]⟩ 0 (Lib.countB s ⟨#[c]⟩) s;have h2:Lib.countB s ⟨#[c]⟩=Lib.count s.data.toList [c]:=rfl;rw [h2,show (⟨#[c]⟩:ByteArray).data.toList=[c] from rfl,split_splt] at h;rw [h2,<- h,List.map_map]
 have:(bs ∘ fun x:ByteArray=>x.data.toList)=id:=by
  funext x
  rfl
 rw [this,List.map_id]
theorem split_any (c:UInt8) (s:ByteArray) (hs:s.size<=1048576) (w:World) (he:Env w):Calls Tryz.prog 48 #[.string s,.string ⟨#[c]⟩] w (RetN ((splt c s.data.toList).map bs) w):=by
 obtain ⟨m,hm⟩:=he.mx;refine (XDesk.strings_Split s ⟨#[c]⟩ m w (by omega) hm (Nat.le_refl _)).mono ?_;rintro e w' ⟨rfl,rfl⟩;rw [split_list]
 have hl:Lib.countB s ⟨#[c]⟩+1=(splt c s.data.toList).length:=by
  have h1:=Lib.splitB_all ⟨#[c]⟩ (Nat.le_refl _) 0 _ s rfl;rw [split_list,List.length_map] at h1;exact h1.symm
 rw [hl];have hlm:=(splt_len c s.data.toList).2
 have hsz:s.data.toList.length=s.size:=by rw [Array.length_toList]; rfl
 refine ⟨some ⟨w.heap.size,0,none⟩,(splt c s.data.toList).length,by rw [List.length_map],?_,(Below.refl _ _).alloc (Nat.le_refl _) _⟩;rw [List.length_map];have ho:=World.ownsRow_lit (e:=9) (size:=1) (base:=w.heap.size) w (((splt c s.data.toList).map bs).map Value.string).toArray (splt c s.data.toList).length (Nat.le_refl _) (by unfold maxLen; omega) (by simp);refine .inr ?_
 simpa [nmC] using ho
end BDesk
/- What the listed variables and the world's shape give the desks' walks. -/
namespace BDoor
open Go Go.ChangeShapes Go.WideShapes Go.ChangeAt Go.RowKit Kit BDesk
def laidList:List (String × DataW Unit):=[("math/bits.deBruijn32tab",Rows.laid_math_bits_deBruijn32tab),("math/bits.deBruijn64tab",Rows.laid_math_bits_deBruijn64tab),("internal/strconv.uint64pow10",Rows.laid_internal_strconv_uint64pow10),("unicode/utf8.acceptRanges",Rows.laid_unicode_utf8_acceptRanges),("strconv.ErrRange",Rows.laid_strconv_ErrRange),("strconv.ErrSyntax",Rows.laid_strconv_ErrSyntax),("unicode/utf8.first",Rows.laid_unicode_utf8_first)]
set_option maxRecDepth 100000 in
theorem door_met (os:Os) (args:Array Value):laidMetH Tryz.prog laidList ((World.laidAll Tryz.prog os laidList).forCall (fun _ _=>0) ⟨#[],args,[]⟩).memory:=by
 rw [MakeChecks.laidMetH_plain _ _ _ (by kernel_rfl)];exact laidMet_laidAll _ (by kernel_rfl) (by kernel_rfl)
theorem tab_of {W:World} {rest:List (String × DataW Unit)} (h:laidMet Tryz.prog (("internal/strconv.uint64pow10",Rows.laid_internal_strconv_uint64pow10) :: rest) W):Tab W:=
 Lib.tabIs_of_head (g:=3) (t:=211) (e:=190) (n:=20) (by kernel_rfl) (by kernel_rfl) (by kernel_rfl) (by kernel_rfl) (by kernel_rfl) (by kernel_rfl) h
theorem star: "*"++ "errors.errorString"= "*errors.errorString":=by decide
theorem rowT (u:TypeId) (h:Tryz.prog.typeName? 3 u=some "*errors.errorString"):u=232:=
 typeName_ptr_named (nm:= "errors.errorString") (by rw [star]; kernel_rfl) (by kernel_rfl) (by decide) u (by rw [star]; exact h)
theorem global_lt {W:World} {n:String} {g:Nat} {cs:Array Value} (hg:Tryz.prog.globalNamed n=some g) (hv:W.var? Tryz.prog n=some cs):g<W.heap.size:=by
 unfold World.var? at hv;rw [hg] at hv;simp only [Option.bind_some] at hv
 rcases Nat.lt_or_ge g W.heap.size with h' | h'
 ·exact h'
 ·simp [Array.getElem?_eq_none h'] at hv
theorem range_of {W:World} {rest:List (String × DataW Unit)} (h:laidMet Tryz.prog (("strconv.ErrRange",Rows.laid_strconv_ErrRange) :: rest) W):Err "strconv.ErrRange" 2 W:=by
 have hg:Tryz.prog.globalNamed "strconv.ErrRange"=some 2:=by kernel_rfl
 obtain ⟨a,s,hv,_,_,_⟩:=laid_sentinel (ti:=125) (tp:=232) (te:=234) (ts:=9) h hg (by kernel_rfl) Tryz.underlying125 rowT Tryz.underlying232 Tryz.underlying234 rfl rfl Tryz.underlying9 (by kernel_rfl) (by kernel_rfl);exact ⟨global_lt hg hv,_,_,hv⟩
theorem wrong_of {W:World} {rest:List (String × DataW Unit)} (h:laidMet Tryz.prog (("strconv.ErrSyntax",Rows.laid_strconv_ErrSyntax) :: rest) W):Err "strconv.ErrSyntax" 1 W:=by
 have hg:Tryz.prog.globalNamed "strconv.ErrSyntax"=some 1:=by kernel_rfl
 obtain ⟨a,s,hv,_,_,_⟩:=laid_sentinel (ti:=125) (tp:=232) (te:=234) (ts:=9) h hg (by kernel_rfl) Tryz.underlying125 rowT Tryz.underlying232 Tryz.underlying234 rfl rfl Tryz.underlying9 (by kernel_rfl) (by kernel_rfl);exact ⟨global_lt hg hv,_,_,hv⟩
theorem mx_of {W:World} (h:W.ShapedOpen Tryz.prog):∃ m,W.cell? ⟨0,0,none⟩=some (.int .i64 m):=
 cell_of_shapedOpen_int (t:=3) (zero:=#[.int .i64 0]) h (of_decide_eq_true (by kernel_rfl)) (by kernel_rfl) rfl (by kernel_rfl) (by kernel_rfl) Tryz.underlying3
theorem env_of {W:World} (h:laidMetH Tryz.prog laidList W) (hs:W.ShapedOpen Tryz.prog):Env W:=by
 have hL:laidMet Tryz.prog laidList W:=by
  rw [MakeChecks.laidMetH_plain _ _ _ (by kernel_rfl)] at h;exact h
 exact ⟨tab_of hL.tail.tail,range_of hL.tail.tail.tail.tail,wrong_of hL.tail.tail.tail.tail.tail,mx_of hs⟩
end BDoor
/- An object handed back with a word; a result's variable laid over. -/
namespace BRetO
open Kit CFixups CSymbols PObj BObj CMarkRows BObj2
def RetOB (r:Option OD) (w:World) (e:Ending) (w':World):Prop:=∃ o:OV,e=.returned (.tuple #[.agg #[.slice o.A o.ps.length o.c,.slice o.Y o.ys.length o.yc],.bool r.isSome])/\Below w.heap.size w w'/\∀ d,r=some d->o.d=d/\OwnO w' w.heap.size o
def nilO:OV:=⟨none,0,[],none,0,[]⟩
theorem ret_nilO {w w':World} (h:Below w.heap.size w w'):RetOB none w (.returned (.tuple #[.agg #[.slice none 0 0,.slice none 0 0],.bool false])) w':=⟨nilO,rfl,h,fun d h=>by cases h⟩
theorem own_nilO (w:World) (base:Nat):OwnO w base nilO:=⟨⟨Row.empty _ _ _ _ _,(fun p hp=>by cases hp),List.Pairwise.nil⟩,Row.empty _ _ _ _ _⟩
theorem cells2 {w:World} {R:Nat} {a b u v:Value} (h:Box w R 26 #[a,b]):
  ((w.setCell ⟨R,0,none⟩ u).setCell ⟨R,1,none⟩ v).cell? ⟨R,0,none⟩=some u/\((w.setCell ⟨R,0,none⟩ u).setCell ⟨R,1,none⟩ v).cell? ⟨R,1,none⟩=some v:=by
 have kk:=(h.set 0 u).set 1 v;have k0:=kk.cell 0;have k1:=kk.cell 1;simp only [k_] at k0 k1;exact ⟨k0,k1⟩
theorem below2 {w0 w:World} {R:Nat} (h:Below w0.heap.size w0 w) (hR:w0.heap.size<=R) (u v:Value):Below w0.heap.size w0 ((w.setCell ⟨R,0,none⟩ u).setCell ⟨R,1,none⟩ v):=(h.setCell (p:=⟨R,0,none⟩) hR u).setCell (p:=⟨R,1,none⟩) hR v
theorem own2 {w:World} {base R:Nat} {o:OV} (h:OwnO w base o) (hR:∀ k,oblk o k->k ≠ R) (u v:Value):OwnO ((w.setCell ⟨R,0,none⟩ u).setCell ⟨R,1,none⟩ v) base o:=
 OwnO.set (a:=⟨R,1,none⟩) (OwnO.set (a:=⟨R,0,none⟩) h hR u) hR v
theorem ret_ok {w w':World} {o:OV} {R:Nat} (ho:OwnO w' w.heap.size o) (hb:Below w.heap.size w w') (hR:∀ k,oblk o k->k ≠ R) (hRw:w.heap.size<=R):
  RetOB (some o.d) w (.returned (.tuple #[.agg #[.slice o.A o.ps.length o.c,.slice o.Y o.ys.length o.yc],.bool true])) ((w'.setCell ⟨R,0,none⟩ (.slice o.A o.ps.length o.c)).setCell ⟨R,1,none⟩ (.slice o.Y o.ys.length o.yc)):=
 ⟨o,rfl,below2 hb hRw _ _,fun d hd=>by
  injection hd with hd
  exact ⟨hd,own2 ho hR _ _⟩⟩
end BRetO
/- What stands while two objects are joined. -/
namespace BJoin
open Kit CFixups CSymbols PObj BObj CMarkRows BObj2 BRetO BStore
theorem OwnO.apart_row {w:World} {base b:Nat} {o:OV} {A:Option Addr} {n c sz:Nat} {e:TypeId} {xs:List Value} (h:OwnO w base o) (r:Row w b e sz A n c xs) (h1:5 ≠ e) (h2:65 ≠ e) (h3:61 ≠ e) (h4:67 ≠ e):∀ k,oblk o k->blk A c ≠ some k:=by
 rintro k ((hk | ⟨p,hp,hk | hk⟩) | hk) hr
 ·exact apartT h.1.1 r h3 k hk hr
 ·exact apartT (h.1.2.1 p hp).1 r h1 k hk hr
 ·exact apartT (h.1.2.1 p hp).2 r h2 k hk hr
 ·exact apartT h.2 r h4 k hk hr
theorem OwnO.grownN {w w':World} {base:Nat} {o:OV} {v:Option Nat} (h:OwnO w base o) (g:w.grownBy w' v) (hv:∀ k,oblk o k->v ≠ some k):OwnO w' base o:=
 h.keep fun k hk=>g.block k (h.lt k hk).2 (fun e=>hv k hk e.symm)
structure J1 (w0:World) (V R O:Nat) (a b o:OV) (An:Option Addr) (cn:Nat) (ns:List Int) (w:World):Prop where
 ba:Box w w0.heap.size 26 #[.slice a.A a.ps.length a.c,.slice a.Y a.ys.length a.yc]
 bb:Box w V 26 #[.slice b.A b.ps.length b.c,.slice b.Y b.ys.length b.yc]
 br:Box w R 26 #[.slice none 0 0,.slice none 0 0]
 bo:Box w O 26 #[.slice o.A o.ps.length o.c,.slice o.Y o.ys.length o.yc]
 own:OwnO w w0.heap.size o
 row:Row w w0.heap.size 3 1 An ns.length cn (ints .i64 ns)
 b:Below w0.heap.size w0 w
 hO:w0.heap.size<V/\V<R/\R<O
section
variable {w0 w w':World} {V R O:Nat} {a b o:OV} {An:Option Addr} {cn:Nat} {ns:List Int}
theorem J1.call (h:J1 w0 V R O a b o An cn ns w) (hb:Below w.heap.size w w'):J1 w0 V R O a b o An cn ns w':=
 ⟨h.ba.call hb,h.bb.call hb,h.br.call hb,h.bo.call hb,h.own.call hb,h.row.call hb,h.b.trans (hb.mono h.b.size),h.hO⟩
theorem J1.addY (h:J1 w0 V R O a b o An cn ns w) (y:YD) {A9:Option Addr} {n9 c9:Nat} (hn:n9=o.ys.length+1) (o9:Row w' w0.heap.size 67 4 A9 n9 c9 (cellsOf symbolC o.ys++symbolC y)) (g:w.grownBy w' (blk o.Y o.yc)):
  J1 w0 V R O a b { o with Y:=A9,yc:=c9,ys:=o.ys++[y] } An cn ns (w'.setCell ⟨O,1,none⟩ (.slice A9 n9 c9)):=by
 have own':OwnO w' w0.heap.size { o with Y:=A9,yc:=c9,ys:=o.ys++[y] }:=h.own.addY [y] hn (by simpa [cellsOf] using o9) g;have bo':=h.bo.grown g (h.own.2.box h.bo (by decide));have hO:=h.hO;refine ⟨(h.ba.grown g (h.own.2.box h.ba (by decide))).far (p:=⟨O,1,none⟩) (by show w0.heap.size ≠ O; omega) _,(h.bb.grown g (h.own.2.box h.bb (by decide))).far (p:=⟨O,1,none⟩) (by show V ≠ O; omega) _,(h.br.grown g (h.own.2.box h.br (by decide))).far (p:=⟨O,1,none⟩) (by show R ≠ O; omega) _,?_,OwnO.set (a:=⟨O,1,none⟩) own' (own'.ne_box bo' (by decide) (by decide) (by decide) (by decide)) _,?_,?_,hO⟩
 ·have hb:=bo'.set 1 (.slice A9 n9 c9);subst hn
  show Box _ O _ #[.slice o.A o.ps.length o.c,.slice A9 (o.ys++[y]).length c9]
  rw [List.length_append];exact hb
 ·have r:=h.row.grown g (fun k hk=>apartT h.row h.own.2 (by decide) k hk);exact r.set (a:=⟨O,1,none⟩) (r.box bo' (by decide)) _
 ·exact (h.b.grown g h.b.size (fun k hk=>(h.own.2.lt k hk).1)).setCell (p:=⟨O,1,none⟩) (by show w0.heap.size<=O; omega) _
theorem J1.store (h:J1 w0 V R O a b o An cn ns w) {g:Nat} (hY:o.Y=some ⟨g,0,none⟩) {j:Nat} (hj:j<o.ys.length) (z:YD):J1 w0 V R O a b { o with ys:=o.ys.set j z } An cn ns (putY w g (j*4) z):=by
 obtain ⟨g',hY',hg1,hg2,hbk,hown⟩:=own_of h.own.2 (by omega);rw [hY] at hY';simp only [Option.some.injEq,Addr.mk.injEq,and_true] at hY';subst hY';have hk:=putY_block w g (j*4) z;have nb:∀ {X:Nat} {cs:Array Value},Box w X 26 cs->X ≠ g:=fun hb e=>h.own.2.box hb (by decide) g hbk e.symm;obtain ⟨oA,oc,ops,oY,oyc,oys⟩:=o;simp only at hY hj;subst hY;refine ⟨(hk _ (nb h.ba)).trans h.ba,(hk _ (nb h.bb)).trans h.bb,(hk _ (nb h.br)).trans h.br,?_,OwnO.storeY h.own j hj z,h.row.keep fun k hr=>hk k (fun e=>apartT h.row h.own.2 (by decide) k hr (by rw [e]; exact hbk)),putY_below h.b hg1,h.hO⟩
 show Box _ O _ #[.slice oA ops.length oc,.slice (some ⟨g,0,none⟩) (oys.set j z).length oyc]
 rw [List.length_set];exact (hk _ (nb h.bo)).trans h.bo
theorem J1.addN (h:J1 w0 V R O a b o An cn ns w) (x:Int) {A9:Option Addr} {n9 c9:Nat} (hn:n9=ns.length+1) (o9:Row w' w0.heap.size 3 1 A9 n9 c9 (ints .i64 ns++[.int .i64 x])) (g:w.grownBy w' (blk An cn)):
  J1 w0 V R O a b o A9 c9 (ns++[x]) w':=by
 subst hn;refine ⟨h.ba.grown g (h.row.box h.ba (by decide)),h.bb.grown g (h.row.box h.bb (by decide)),h.br.grown g (h.row.box h.br (by decide)),h.bo.grown g (h.row.box h.bo (by decide)),OwnO.grownN h.own g (OwnO.apart_row h.own h.row (by decide) (by decide) (by decide) (by decide)),?_,h.b.grown g h.b.size (fun k hk=>(h.row.lt k hk).1),h.hO⟩;rw [List.length_append,<- ints_snoc];exact o9
end
structure J2 (w0:World) (Z O:Nat) (o q:OV) (fsx L R:List SV) (An:Option Addr) (cn:Nat) (ns:List Int) (w:World):Prop where
 br:Box w Z 26 #[.slice none 0 0,.slice none 0 0]
 bo:Box w O 26 #[.slice o.A o.ps.length o.c,.slice o.Y o.ys.length o.yc]
 oq:OwnO w w0.heap.size q
 hq:q.ps=L++R
 ho:o.ps=fsx++L
 rs:RwSs w w0.heap.size fsx
 pw:PwSs (fsx++q.ps)
 row:Row w w0.heap.size 61 6 o.A o.ps.length o.c (cellsOf secC o.ps)
 y:Row w w0.heap.size 67 4 o.Y o.ys.length o.yc (cellsOf symbolC o.ys)
 ap:Apart o.A o.c q.A q.c
 nums:Row w w0.heap.size 3 1 An ns.length cn (ints .i64 ns)
 b:Below w0.heap.size w0 w
 hO:w0.heap.size<Z/\Z<O
section
variable {w0 w w':World} {Z O:Nat} {o q:OV} {fsx L R:List SV} {An:Option Addr} {cn:Nat} {ns:List Int}
theorem J2.call (h:J2 w0 Z O o q fsx L R An cn ns w) (hb:Below w.heap.size w w'):J2 w0 Z O o q fsx L R An cn ns w':=
 ⟨h.br.call hb,h.bo.call hb,h.oq.call hb,h.hq,h.ho,h.rs.call hb,h.pw,h.row.call hb,h.y.call hb,h.ap,h.nums.call hb,h.b.trans (hb.mono h.b.size),h.hO⟩
theorem J2.own (h:J2 w0 Z O o q fsx L [] An cn ns w):OwnO w w0.heap.size o:=by
 have hq:=h.hq;rw [List.append_nil] at hq;refine ⟨⟨h.row,fun p hp=>?_,?_⟩,h.y⟩
 ·rw [h.ho] at hp
  rcases List.mem_append.1 hp with hp | hp
  ·exact h.rs p hp
  ·exact h.oq.1.2.1 p (by rw [hq]; exact hp)
 ·have:=h.pw;rw [hq,<- h.ho] at this;exact this
theorem J2.fix {p:SV} {R':List SV} (h:J2 w0 Z O o q fsx L (p :: R') An cn ns w) {g:Nat} (hF:p.F=some ⟨g,0,none⟩) {i:Nat} {z:FD} (hz:p.fs[i]?=some z) (x:Int):
  J2 w0 Z O o { q with ps:=L++{ p with fs:=p.fs.set i (z.1,z.2.1,x,z.2.2.2) } :: R' } fsx L ({ p with fs:=p.fs.set i (z.1,z.2.1,x,z.2.2.2) } :: R') An cn ns (w.setCell ⟨g,i*4+2,none⟩ (.int .i64 x)):=by
 have hi:i<p.fs.length:=(List.getElem?_eq_some_iff.1 hz).1
 have hpq:p ∈ q.ps:=by rw [h.hq]; simp
 have hp:=h.oq.1.2.1 p hpq;obtain ⟨g',hF',hg1,_,hbk,hown⟩:=own_of hp.2 (by omega);rw [hF] at hF';simp only [Option.some.injEq,Addr.mk.injEq,and_true] at hF';subst hF';have nb:∀ {X:Nat} {t:TypeId} {cs:Array Value},65 ≠ t->Box w X t cs->X ≠ g:=fun hne hb e=>hp.2.box hb hne g hbk e.symm;have nr:∀ {e:TypeId} {sz n c b:Nat} {A:Option Addr} {xs:List Value},e ≠ 65->Row w b e sz A n c xs->∀ k,blk A c=some k->k ≠ g:=fun hne r k hk e=>apartT r hp.2 hne k hk (by rw [e]; exact hbk);obtain ⟨qA,qc,qps,qY,qyc,qys⟩:=q;have hq:=h.hq;have hpw:=h.pw;have hqo:=h.oq;have hap:=h.ap;simp only at hq hpw hap;subst hq;refine ⟨h.br.far (p:=⟨g,i*4+2,none⟩) (nb (by decide) h.br) _,h.bo.far (p:=⟨g,i*4+2,none⟩) (nb (by decide) h.bo) _,OwnO.storeF hqo hF i z hz x,rfl,h.ho,fun s hs=>?_,?_,h.row.set (a:=⟨g,i*4+2,none⟩) (nr (by decide) h.row) _,h.y.set (a:=⟨g,i*4+2,none⟩) (nr (by decide) h.y) _,hap,h.nums.set (a:=⟨g,i*4+2,none⟩) (nr (by decide) h.nums) _,h.b.setCell (p:=⟨g,i*4+2,none⟩) hg1 _,h.hO⟩
 ·have hs':=h.rs s hs;have hap:=(List.pairwise_append.1 hpw).2.2 s hs p (by simp);refine hs'.set (a:=⟨g,i*4+2,none⟩) (fun k hk e=>?_) _;have e':k=g:=e;subst e'
  rcases hk with hk | hk
  ·exact nr (by decide) hs'.1 k hk rfl
  ·exact hap.2 k hk hbk
 ·show List.Pairwise ApS _
  have h0:List.Pairwise ApS (fsx++(L++p :: R')):=hpw
  have key:∀ (X:List SV) (Y:List SV) (p':SV),p'.A=p.A->p'.c=p.c->p'.F=p.F->p'.fc=p.fc->List.Pairwise ApS (X++p :: Y)->List.Pairwise ApS (X++p' :: Y):=by
   intro X Y p' e1 e2 e3 e4 hx
   have hl:∀ s,(ApS s p' ↔ ApS s p)/\(ApS p' s ↔ ApS p s):=fun s=>by
    unfold ApS;rw [e1,e2,e3,e4];exact ⟨Iff.rfl,Iff.rfl⟩
   obtain ⟨x1,x2,x3⟩:=List.pairwise_append.1 hx;obtain ⟨x4,x5⟩:=List.pairwise_cons.1 x2;refine List.pairwise_append.2 ⟨x1,List.pairwise_cons.2 ⟨fun s hs=>(hl s).2.2 (x4 s hs),x5⟩,fun u hu v hv=>?_⟩
   rcases List.mem_cons.1 hv with rfl | hv
   ·exact (hl u).1.2 (x3 u hu p (List.mem_cons_self ..))
   ·exact x3 u hu v (List.mem_cons_of_mem _ hv)
  rw [<-List.append_assoc] at h0 ⊢;exact key _ _ _ rfl rfl rfl rfl h0
theorem J2.add {p:SV} {R':List SV} (h:J2 w0 Z O o q fsx L (p :: R') An cn ns w) {A9:Option Addr} {n9 c9:Nat} (hn:n9=o.ps.length+1) (o9:Row w' w0.heap.size 61 6 A9 n9 c9 (cellsOf secC o.ps++secC p)) (g:w.grownBy w' (blk o.A o.c)) (hk:∀ k,blk A9 c9=some k->blk o.A o.c=some k\/w.heap.size<=k):
  J2 w0 Z O { o with A:=A9,c:=c9,ps:=o.ps++[p] } q fsx (L++[p]) R' An cn ns (w'.setCell ⟨O,0,none⟩ (.slice A9 n9 c9)):=by
 have bo':=h.bo.grown g (h.row.box h.bo (by decide));have hO:=h.hO
 have q':OwnO w' w0.heap.size q:=OwnO.grownN h.oq g (by
  rintro k ((hk | ⟨s,hs,hk | hk⟩) | hk) hr
  ·exact h.ap k hr hk
  ·exact apartT (h.oq.1.2.1 s hs).1 h.row (by decide) k hk hr
  ·exact apartT (h.oq.1.2.1 s hs).2 h.row (by decide) k hk hr
  ·exact apartT h.oq.2 h.row (by decide) k hk hr)
 refine ⟨(h.br.grown g (h.row.box h.br (by decide))).far (p:=⟨O,0,none⟩) (by show Z ≠ O; omega) _,?_,OwnO.set (a:=⟨O,0,none⟩) q' (q'.ne_box bo' (by decide) (by decide) (by decide) (by decide)) _,by rw [h.hq]; simp,by rw [h.ho]; simp,fun s hs=>?_,h.pw,?_,?_,?_,?_,?_,hO⟩
 ·have hb:=bo'.set 0 (.slice A9 n9 c9);subst hn
  show Box _ O _ #[.slice A9 (o.ps++[p]).length c9,.slice o.Y o.ys.length o.yc]
  rw [List.length_append];exact hb
 ·have hs':RwS w' w0.heap.size s:=⟨(h.rs s hs).1.grown g (fun k hk=>apartT (h.rs s hs).1 h.row (by decide) k hk),(h.rs s hs).2.grown g (fun k hk=>apartT (h.rs s hs).2 h.row (by decide) k hk)⟩;exact hs'.set (a:=⟨O,0,none⟩) (hs'.box bo' (by decide) (by decide)) _
 ·subst hn
  have r:Row w' w0.heap.size 61 6 A9 (o.ps++[p]).length c9 (cellsOf secC (o.ps++[p])):=by
   rw [List.length_append,cells_snoc];exact o9
  exact r.set (a:=⟨O,0,none⟩) (r.box bo' (by decide)) _
 ·have r:=h.y.grown g (fun k hk=>apartT h.y h.row (by decide) k hk);exact r.set (a:=⟨O,0,none⟩) (r.box bo' (by decide)) _
 ·intro k h1 h2
  rcases hk k h1 with h3 | h3
  ·exact h.ap k h3 h2
  ·have:=(h.oq.lt k (.inl (.inl h2))).2;omega
 ·have r:=h.nums.grown g (fun k hk=>apartT h.nums h.row (by decide) k hk);exact r.set (a:=⟨O,0,none⟩) (r.box bo' (by decide)) _
 ·exact (h.b.grown g h.b.size (fun k hk=>(h.row.lt k hk).1)).setCell (p:=⟨O,0,none⟩) (by show w0.heap.size<=O; omega) _
end
end BJoin
/- Joining objects: plain. -/
namespace PJoin
open Kit CCode CName CFixups CSymbols PObj PValid PWarn PClear PSort PLink CGlobalOf
def glob (ys:List YD) (nm:ByteArray):Option Nat:=fiS (hit nm) 0 ys
def shiftY (n:Nat) (s:YD):YD:=(s.1,s.2.1,(if s.2.2.1<0 then s.2.2.1 else s.2.2.1+n),s.2.2.2)
def strongB (a b:YD):Bool:=decide (b.2.1=1) && !decide (a.2.1=1)
def takesB (a b:YD):Bool:=
 if a.2.2.1=-1 then (if b.2.2.1=-1 then strongB a b else true) else (if b.2.2.1=-1 then false else strongB a b)
def betterB (a b:YD):Bool:=
 if b.2.2.1=-1 then !decide (a.2.2.1=-1) || (decide (a.2.1=1) && decide (b.2.1=2)) else !decide (a.2.2.1=-1) && (decide (a.2.1=1) && decide (b.2.1=2))
theorem better_takes {a b:YD} (h:b.2.1=1\/b.2.1=2):betterB a b=takesB b a:=by
 unfold betterB takesB strongB
 by_cases h1:b.2.2.1=-1 <;> by_cases h2:a.2.2.1=-1 <;> by_cases h3:a.2.1=1 <;> rcases h with h | h <;> simp [h1,h2,h3,h]
abbrev JS:=List YD × List Int
def jput (n:Nat) (st:JS) (s:YD):JS:=(st.1++[shiftY n s],st.2++[(st.1.length:Int)])
def jset (n:Nat) (xs:List YD) (st:JS) (s:YD) (j:Nat):JS:=((bif takesB (xs.getD j dY) s then st.1.set j (shiftY n s) else st.1),st.2++[(j:Int)])
def jstep (n:Nat) (xs:List YD) (st:JS) (s:YD):JS:=
 if s.2.1=0 then jput n st s else match glob xs s.1 with
  | none=>jput n st s
  | some j=>jset n xs st s j
def joinY (n:Nat) (xs bs:List YD):JS:=bs.foldl (jstep n xs) (xs,[])
def mapF (ns:List Int) (f:FD):FD:=(f.1,f.2.1,ns.getD f.2.2.1.toNat 0,f.2.2.2)
def mapS (ns:List Int) (s:SD):SD:={ s with fs:=s.fs.map (mapF ns) }
def joinR (a b:OD):OD:=⟨a.ss++b.ss.map (mapS (joinY a.ss.length a.ys b.ys).2),(joinY a.ss.length a.ys b.ys).1⟩
def joinD (a b:OD):Option OD:=if objOk a=true/\objOk b=true/\(twice [a,b]).length=0/\objOk (joinR a b)=true then some (joinR a b) else none
def joins:OD->List OD->Option OD
 | d,[]=>some d
 | d,e :: es=>(joinD d e).bind fun x=>joins x es
def joinAll:List OD->Option OD
 | []=>none
 | d :: ds=>if objsOk (d :: ds)=true then joins d ds else none
theorem joinY_snoc (n:Nat) (xs:List YD) {bs:List YD} {k:Nat} (h:k<bs.length):joinY n xs (bs.take (k+1))=jstep n xs (joinY n xs (bs.take k)) bs[k]:=by
 unfold joinY;rw [take_succ h,List.foldl_append]
 rfl
theorem jstep_len (n:Nat) (xs:List YD) (st:JS) (s:YD) (h:xs.length<=st.1.length):xs.length<=(jstep n xs st s).1.length/\(jstep n xs st s).1.length<=st.1.length+1/\(jstep n xs st s).2.length=st.2.length+1:=by
 have hp:xs.length<=(jput n st s).1.length/\(jput n st s).1.length<=st.1.length+1/\(jput n st s).2.length=st.2.length+1:=by
  simp [jput];omega
 unfold jstep
 split
 ·exact hp
 ·split
  ·exact hp
  ·rename_i j _;unfold jset
   cases takesB (xs.getD j dY) s <;> simp <;> omega
theorem joinY_len (n:Nat) (xs:List YD):∀ (bs:List YD) (st:JS),xs.length<=st.1.length->xs.length<=(bs.foldl (jstep n xs) st).1.length/\(bs.foldl (jstep n xs) st).1.length<=st.1.length+bs.length/\(bs.foldl (jstep n xs) st).2.length=st.2.length+bs.length
 | [],st,h=>⟨h,by simp,by simp⟩
 | b :: bs,st,h=>by
  obtain ⟨h1,h2,h3⟩:=jstep_len n xs st b h;obtain ⟨h4,h5,h6⟩:=joinY_len n xs bs (jstep n xs st b) h1;rw [List.foldl_cons,List.length_cons];omega
theorem joinD_ok {a b x:OD} (h:joinD a b=some x):objOk x=true:=by
 unfold joinD at h
 split at h
 ·rename_i hc;injection h with h;subst h;exact hc.2.2.2
 ·cases h
theorem joins_ok:∀ {es:List OD} {d x:OD},objOk d=true->joins d es=some x->objOk x=true
 | [],d,x,h,e=>by
  injection e with e;subst e;exact h
 | b :: es,d,x,h,e=>by
  obtain ⟨y,hy,e⟩:=Option.bind_eq_some_iff.1 e;exact joins_ok (joinD_ok hy) e
theorem joinAll_ok {l:List OD} {x:OD} (h:joinAll l=some x):objOk x=true:=by
 cases l with
 | nil=>cases h
 | cons d ds=>
  by_cases hc:objsOk (d :: ds)=true
  ·rw [joinAll,if_pos hc] at h;simp only [objsOk,List.all_cons,Bool.and_eq_true] at hc;exact joins_ok hc.2.1 h
  ·rw [joinAll,if_neg hc] at h
   cases h
end PJoin
/- Clearing fixups and sorting symbols change no image; plain. -/
namespace PLinkL
open Kit CCode CName CNumber CFixups CSymbols PObj PValid PWarn PClear PSort CObjValid PLink
def Uniq (ys:List YD):Prop:=ys.Pairwise fun a b=>¬ a.2.1=0->¬ b.2.1=0->¬ a.1=b.1
theorem syms_iff (ss:List SD) (ys:List YD):symsOk ss ys=true ↔ (∀ y ∈ ys,symOk ss y=true)/\Uniq ys:=by
 simp only [symsOk,List.all_eq_true,Bool.and_eq_true,List.mem_range,Bool.not_eq_true']
 constructor
 ·intro h;refine ⟨fun y hy=>?_,?_⟩
  ·obtain ⟨i,hi,rfl⟩:=List.getElem_of_mem hy;have:=(h i hi).1
   rwa [getD_at hi] at this
  ·rw [Uniq,List.pairwise_iff_getElem];intro i j hi hj hij h1 h2 h3;have:=(h j hj).2;rw [getD_at hj] at this
   have hc:clash (ys.take j) ys[j]=true:=by
    unfold clash;rw [Bool.and_eq_true];refine ⟨by simpa using h2,List.any_eq_true.2 ⟨ys[i],?_,?_⟩⟩
    ·exact List.mem_take_iff_getElem.2 ⟨i,by omega,rfl⟩
    ·simpa using ⟨h1,h3⟩
   rw [hc] at this
   cases this
 ·rintro ⟨h1,h2⟩ i hi;rw [getD_at hi];refine ⟨h1 _ (List.getElem_mem hi),?_⟩;rw [<-Bool.not_eq_true];intro hc;unfold clash at hc;rw [Bool.and_eq_true,List.any_eq_true] at hc;obtain ⟨hb,x,hx,hxx⟩:=hc;obtain ⟨j,hj,rfl⟩:=List.mem_take_iff_getElem.1 hx;rw [Uniq,List.pairwise_iff_getElem] at h2;simp only [Bool.and_eq_true,Bool.not_eq_true',decide_eq_false_iff_not,decide_eq_true_eq] at hb hxx;exact h2 j i (by omega) hi (by omega) hxx.1 hb hxx.2
theorem obj_iff (d:OD):objOk d=true ↔ d.ss.length<=8/\d.ys.length<=12/\(∀ s ∈ d.ss,secOk d.ys.length s=true)/\(∀ y ∈ d.ys,symOk d.ss y=true)/\Uniq d.ys:=by
 simp only [objOk,Bool.and_eq_true,decide_eq_true_eq,List.all_eq_true,syms_iff]
 constructor
 ·rintro ⟨⟨⟨h1,h2⟩,h3⟩,h4,h5⟩;exact ⟨h1,h2,h3,h4,h5⟩
 ·rintro ⟨h1,h2,h3,h4,h5⟩;exact ⟨⟨⟨h1,h2⟩,h3⟩,h4,h5⟩
theorem sym_facts {ss:List SD} {y:YD} (h:symOk ss y=true):(0<=y.2.1/\y.2.1<=2)/\(y.2.2.1=-1->¬ y.2.1=0):=by
 simp only [symOk,bindOk,Bool.and_eq_true,inB,decide_eq_true_eq] at h;refine ⟨h.1.2,fun hy=>?_⟩;have h2:=h.2;unfold placeOk at h2;rw [if_pos hy] at h2;simp only [Bool.and_eq_true,Bool.not_eq_true',decide_eq_false_iff_not] at h2;exact h2.2
end PLinkL
/- Sizes of valid objects and of what they are joined to: plain. -/
namespace PJoin2
open Kit CCode CName CFixups CSymbols PObj BObj PValid PWarn PClear PSort PLink PLinkL CGlobalOf PJoin CObjValid
def SmD (d:OD):Prop:=d.ss.length<=32/\d.ys.length<=32/\(∀ s ∈ d.ss,s.nm.size<=8/\s.zs.length<=48/\s.fs.length<=6)/\∀ y ∈ d.ys,y.1.size<=8
theorem nm8 {s:ByteArray} (h:nameOk s=true):s.size<=8:=by
 rw [nameOk,Bool.and_eq_true] at h;have:=h.2;simp only [inB,decide_eq_true_eq] at this;omega
theorem sec_nm {n:Int} {s:SD} (h:secOk n s=true):s.nm.size<=8:=by
 rw [secOk,Bool.and_eq_true,headOk,Bool.and_eq_true,Bool.and_eq_true] at h;exact nm8 h.1.1.1
theorem sym_nm {ss:List SD} {y:YD} (h:symOk ss y=true):y.1.size<=8:=by
 rw [symOk,Bool.and_eq_true,bindOk,Bool.and_eq_true] at h;exact nm8 h.1.1
theorem sym_wh {ss:List SD} {y:YD} (h:symOk ss y=true) (hs:ss.length<=8):-2<=y.2.2.1/\y.2.2.1<=8:=by
 rw [symOk,Bool.and_eq_true] at h;have h2:=h.2;unfold placeOk at h2
 split at h2
 ·omega
 ·split at h2
  ·omega
  ·simp only [inB,Bool.and_eq_true,decide_eq_true_eq] at h2;omega
theorem valid_sm {d:OD} (h:objOk d=true):SmD d:=by
 obtain ⟨h1,h2,h3,h4,_⟩:=(obj_iff d).1 h;obtain ⟨_,_,h5⟩:=obj_all h;exact ⟨by omega,by omega,fun s hs=>⟨sec_nm (h3 s hs),(h5 s hs).2.1,(h5 s hs).1⟩,fun y hy=>sym_nm (h4 y hy)⟩
theorem fit_sm {o:OV} (h:SmD o.d) (hc:o.ys.length<=o.yc):Fit o:=by
 have h1:o.ps.length<=32:=by simpa [OV.d] using h.1
 have h2:o.ys.length<=32:=h.2.1;refine ⟨by omega,by omega,hc,fun p hp=>?_,fun y hy=>?_⟩
 ·obtain ⟨a,b,c⟩:=h.2.2.1 p.d (List.mem_map_of_mem hp);have a':p.nm.size<=8:=a;have b':p.zs.length<=48:=b;have c':p.fs.length<=6:=c;unfold maxLen;omega
 ·have:=h.2.2.2 y hy;unfold maxLen;omega
theorem jstep_nm (n:Nat) (xs:List YD) (st:JS) (s:YD) (h:∀ y ∈ st.1,y.1.size<=8) (hs:s.1.size<=8):∀ y ∈ (jstep n xs st s).1,y.1.size<=8:=by
 have hp:∀ y ∈ (jput n st s).1,y.1.size<=8:=fun y hy=>by
  rcases List.mem_append.1 hy with hy | hy
  ·exact h y hy
  ·rw [List.mem_singleton.1 hy];exact hs
 unfold jstep
 split
 ·exact hp
 ·split
  ·exact hp
  ·rename_i j _;unfold jset
   cases takesB (xs.getD j dY) s
   ·exact h
   ·intro y hy
    rcases List.mem_or_eq_of_mem_set hy with hy | rfl
    ·exact h y hy
    ·exact hs
theorem joinY_nm (n:Nat) (xs:List YD):∀ (bs:List YD) (st:JS),(∀ y ∈ st.1,y.1.size<=8)->(∀ y ∈ bs,y.1.size<=8)->∀ y ∈ (bs.foldl (jstep n xs) st).1,y.1.size<=8
 | [],st,h,_=>h
 | b :: bs,st,h,hb=>joinY_nm n xs bs _ (jstep_nm n xs st b h (hb b List.mem_cons_self)) (fun y hy=>hb y (List.mem_cons_of_mem _ hy))
theorem join_sm {a b:OD} (ha:objOk a=true) (hb:objOk b=true):SmD (joinR a b):=by
 obtain ⟨a1,a2,_⟩:=obj_all ha;obtain ⟨b1,b2,_⟩:=obj_all hb;obtain ⟨_,_,a3,a4⟩:=valid_sm ha;obtain ⟨_,_,b3,b4⟩:=valid_sm hb;have hl:=joinY_len a.ss.length a.ys b.ys (a.ys,[]) (Nat.le_refl _);refine ⟨by simp only [joinR,List.length_append,List.length_map]; omega,?_,fun s hs=>?_,fun y hy=>?_⟩
 ·show (joinY a.ss.length a.ys b.ys).1.length<=32
  unfold joinY;have:=hl.2.1;simp only at this;omega
 ·rcases List.mem_append.1 hs with hs | hs
  ·exact a3 s hs
  ·obtain ⟨t,ht,rfl⟩:=List.mem_map.1 hs;obtain ⟨c1,c2,c3⟩:=b3 t ht;exact ⟨c1,c2,by show (t.fs.map _).length<=6; rw [List.length_map]; exact c3⟩
 ·exact joinY_nm a.ss.length a.ys b.ys (a.ys,[]) a4 b4 y hy
theorem fix_next {ns:List Int} {f0:List FD} {i:Nat} (hi:i<f0.length):((f0.take i).map (mapF ns)++f0.drop i)[i]?=some f0[i]/\((f0.take i).map (mapF ns)++f0.drop i).set i (mapF ns f0[i])=(f0.take (i+1)).map (mapF ns)++f0.drop (i+1):=by
 have hl:((f0.take i).map (mapF ns)).length=i:=by rw [List.length_map,List.length_take]; omega
 constructor
 ·rw [List.getElem?_append_right (by omega),hl,Nat.sub_self,List.drop_eq_getElem_cons hi]
  rfl
 ·rw [List.set_append_right _ _ (by omega),hl,Nat.sub_self,List.drop_eq_getElem_cons hi,List.set_cons_zero,take_succ hi,List.map_append,List.append_assoc]
  rfl
theorem fix_len {ns:List Int} {f0:List FD} {i:Nat}:((f0.take i).map (mapF ns)++f0.drop i).length=f0.length:=by
 rw [List.length_append,List.length_map,List.length_take,List.length_drop];omega
end PJoin2
/- takes: whether the second symbol takes the first one's place; globalOf with its number. -/
namespace CTakes
open Kit CFixups CSymbols PObj BObj PValid PLink PJoin CGlobalOf
set_option maxHeartbeats 2000000 in
theorem takes_any (a b:YD) (w:World):Calls Tryz.prog 145 #[.agg #[.string a.1,.int .i64 a.2.1,.int .i64 a.2.2.1,.int .i64 a.2.2.2],.agg #[.string b.1,.int .i64 b.2.1,.int .i64 b.2.2.1,.int .i64 b.2.2.2]] w (Ret (.bool (takesB a b)) w):=by
 obtain ⟨an,ab,aw,av⟩:=a;obtain ⟨bn,bb,bw,bv⟩:=b;have HB:=h_ (show Below w.heap.size w ((w.alloc (.cells #[.string an,.int .i64 ab,.int .i64 aw,.int .i64 av] 67)).alloc (.cells #[.string bn,.int .i64 bb,.int .i64 bw,.int .i64 bv] 67)) from b_);have X0:=(Box.new w 67 #[.string an,.int .i64 ab,.int .i64 aw,.int .i64 av]).alloc (.cells #[.string bn,.int .i64 bb,.int .i64 bw,.int .i64 bv] 67);have X1:=Box.new (w.alloc (.cells #[.string an,.int .i64 ab,.int .i64 aw,.int .i64 av] 67)) 67 #[.string bn,.int .i64 bb,.int .i64 bw,.int .i64 bv];simp only [World.size_alloc] at X1;have x1:=d_ X0 1;have x2:=d_ X0 2;have y1:=d_ X1 1;have y2:=d_ X1 2;have hxl:=X0.lt;have hyl:=X1.lt;clear X0 X1;simp only
 go_enter Tryz.func145,Tryz.ntmps145
 have HV:=h_ (show takesB (an,ab,aw,av) (bn,bb,bw,bv)=if aw=-1 then (if bw=-1 then (decide (bb=1) && !decide (ab=1)) else true) else (if bw=-1 then false else (decide (bb=1) && !decide (ab=1))) from rfl)
 by_cases h1:aw=-1
 ·have e0:(aw == (-1))=true:=beq_iff_eq.2 h1
  have f0:(aw != (-1))=false:=by rw [bne,e0]; rfl
  by_cases h2:bw=-1
  ·have e1:(bw == (-1))=true:=beq_iff_eq.2 h2
   have f1:(bw != (-1))=false:=by rw [bne,e1]; rfl
   by_cases h3:ab=1
   ·have e2:(ab == 1)=true:=beq_iff_eq.2 h3
    have f2:(ab != 1)=false:=by rw [bne,e2]; rfl
    by_cases h4:bb=1
    ·have e3:(bb == 1)=true:=beq_iff_eq.2 h4
     have f3:(bb != 1)=false:=by rw [bne,e3]; rfl
     have HVV:=h_ (HV.o.trans (show _=false from by simp [h1,h2,h3,h4]));clear HV h1 h2 h3 h4
     go_wp2_with fail
     go_ret;refine ⟨?_,HB.o⟩;rw [HVV.o];simp [e3,f2,go_sem]
    ·have e3:(bb == 1)=false:=beq_eq_false_iff_ne.2 h4;have f3:(bb != 1)=true:=bne_iff_ne.2 h4;have HVV:=h_ (HV.o.trans (show _=false from by simp [h1,h2,h3,h4]));clear HV h1 h2 h3 h4
     go_wp2_with fail
     go_ret;refine ⟨?_,HB.o⟩;rw [HVV.o];simp [e3,f2,go_sem]
   ·have e2:(ab == 1)=false:=beq_eq_false_iff_ne.2 h3;have f2:(ab != 1)=true:=bne_iff_ne.2 h3
    by_cases h4:bb=1
    ·have e3:(bb == 1)=true:=beq_iff_eq.2 h4
     have f3:(bb != 1)=false:=by rw [bne,e3]; rfl
     have HVV:=h_ (HV.o.trans (show _=true from by simp [h1,h2,h3,h4]));clear HV h1 h2 h3 h4
     go_wp2_with fail
     go_ret;refine ⟨?_,HB.o⟩;rw [HVV.o];simp [e3,f2,go_sem]
    ·have e3:(bb == 1)=false:=beq_eq_false_iff_ne.2 h4;have f3:(bb != 1)=true:=bne_iff_ne.2 h4;have HVV:=h_ (HV.o.trans (show _=false from by simp [h1,h2,h3,h4]));clear HV h1 h2 h3 h4
     go_wp2_with fail
     go_ret;refine ⟨?_,HB.o⟩;rw [HVV.o];simp [e3,f2,go_sem]
  ·have e1:(bw == (-1))=false:=beq_eq_false_iff_ne.2 h2;have f1:(bw != (-1))=true:=bne_iff_ne.2 h2
   by_cases h3:ab=1
   ·have e2:(ab == 1)=true:=beq_iff_eq.2 h3
    have f2:(ab != 1)=false:=by rw [bne,e2]; rfl
    by_cases h4:bb=1
    ·have e3:(bb == 1)=true:=beq_iff_eq.2 h4
     have f3:(bb != 1)=false:=by rw [bne,e3]; rfl
     have HVV:=h_ (HV.o.trans (show _=true from by simp [h1,h2,h3,h4]));clear HV h1 h2 h3 h4
     go_wp2_with fail
     go_ret;refine ⟨?_,HB.o⟩;rw [HVV.o];simp [e3,f2,go_sem]
    ·have e3:(bb == 1)=false:=beq_eq_false_iff_ne.2 h4;have f3:(bb != 1)=true:=bne_iff_ne.2 h4;have HVV:=h_ (HV.o.trans (show _=true from by simp [h1,h2,h3,h4]));clear HV h1 h2 h3 h4
     go_wp2_with fail
     go_ret;refine ⟨?_,HB.o⟩;rw [HVV.o];simp [e3,f2,go_sem]
   ·have e2:(ab == 1)=false:=beq_eq_false_iff_ne.2 h3;have f2:(ab != 1)=true:=bne_iff_ne.2 h3
    by_cases h4:bb=1
    ·have e3:(bb == 1)=true:=beq_iff_eq.2 h4
     have f3:(bb != 1)=false:=by rw [bne,e3]; rfl
     have HVV:=h_ (HV.o.trans (show _=true from by simp [h1,h2,h3,h4]));clear HV h1 h2 h3 h4
     go_wp2_with fail
     go_ret;refine ⟨?_,HB.o⟩;rw [HVV.o];simp [e3,f2,go_sem]
    ·have e3:(bb == 1)=false:=beq_eq_false_iff_ne.2 h4;have f3:(bb != 1)=true:=bne_iff_ne.2 h4;have HVV:=h_ (HV.o.trans (show _=true from by simp [h1,h2,h3,h4]));clear HV h1 h2 h3 h4
     go_wp2_with fail
     go_ret;refine ⟨?_,HB.o⟩;rw [HVV.o];simp [e3,f2,go_sem]
 ·have e0:(aw == (-1))=false:=beq_eq_false_iff_ne.2 h1;have f0:(aw != (-1))=true:=bne_iff_ne.2 h1
  by_cases h2:bw=-1
  ·have e1:(bw == (-1))=true:=beq_iff_eq.2 h2
   have f1:(bw != (-1))=false:=by rw [bne,e1]; rfl
   by_cases h3:ab=1
   ·have e2:(ab == 1)=true:=beq_iff_eq.2 h3
    have f2:(ab != 1)=false:=by rw [bne,e2]; rfl
    by_cases h4:bb=1
    ·have e3:(bb == 1)=true:=beq_iff_eq.2 h4
     have f3:(bb != 1)=false:=by rw [bne,e3]; rfl
     have HVV:=h_ (HV.o.trans (show _=false from by simp [h1,h2,h3,h4]));clear HV h1 h2 h3 h4
     go_wp2_with fail
     go_ret;refine ⟨?_,HB.o⟩;rw [HVV.o];simp [e3,f2,go_sem]
    ·have e3:(bb == 1)=false:=beq_eq_false_iff_ne.2 h4;have f3:(bb != 1)=true:=bne_iff_ne.2 h4;have HVV:=h_ (HV.o.trans (show _=false from by simp [h1,h2,h3,h4]));clear HV h1 h2 h3 h4
     go_wp2_with fail
     go_ret;refine ⟨?_,HB.o⟩;rw [HVV.o];simp [e3,f2,go_sem]
   ·have e2:(ab == 1)=false:=beq_eq_false_iff_ne.2 h3;have f2:(ab != 1)=true:=bne_iff_ne.2 h3
    by_cases h4:bb=1
    ·have e3:(bb == 1)=true:=beq_iff_eq.2 h4
     have f3:(bb != 1)=false:=by rw [bne,e3]; rfl
     have HVV:=h_ (HV.o.trans (show _=false from by simp [h1,h2,h3,h4]));clear HV h1 h2 h3 h4
     go_wp2_with fail
     go_ret;refine ⟨?_,HB.o⟩;rw [HVV.o];simp [e3,f2,go_sem]
    ·have e3:(bb == 1)=false:=beq_eq_false_iff_ne.2 h4;have f3:(bb != 1)=true:=bne_iff_ne.2 h4;have HVV:=h_ (HV.o.trans (show _=false from by simp [h1,h2,h3,h4]));clear HV h1 h2 h3 h4
     go_wp2_with fail
     go_ret;refine ⟨?_,HB.o⟩;rw [HVV.o];simp [e3,f2,go_sem]
  ·have e1:(bw == (-1))=false:=beq_eq_false_iff_ne.2 h2;have f1:(bw != (-1))=true:=bne_iff_ne.2 h2
   by_cases h3:ab=1
   ·have e2:(ab == 1)=true:=beq_iff_eq.2 h3
    have f2:(ab != 1)=false:=by rw [bne,e2]; rfl
    by_cases h4:bb=1
    ·have e3:(bb == 1)=true:=beq_iff_eq.2 h4
     have f3:(bb != 1)=false:=by rw [bne,e3]; rfl
     have HVV:=h_ (HV.o.trans (show _=false from by simp [h1,h2,h3,h4]));clear HV h1 h2 h3 h4
     go_wp2_with fail
     go_ret;refine ⟨?_,HB.o⟩;rw [HVV.o];simp [e3,f2,go_sem]
    ·have e3:(bb == 1)=false:=beq_eq_false_iff_ne.2 h4;have f3:(bb != 1)=true:=bne_iff_ne.2 h4;have HVV:=h_ (HV.o.trans (show _=false from by simp [h1,h2,h3,h4]));clear HV h1 h2 h3 h4
     go_wp2_with fail
     go_ret;refine ⟨?_,HB.o⟩;rw [HVV.o];simp [e3,f2,go_sem]
   ·have e2:(ab == 1)=false:=beq_eq_false_iff_ne.2 h3;have f2:(ab != 1)=true:=bne_iff_ne.2 h3
    by_cases h4:bb=1
    ·have e3:(bb == 1)=true:=beq_iff_eq.2 h4
     have f3:(bb != 1)=false:=by rw [bne,e3]; rfl
     have HVV:=h_ (HV.o.trans (show _=true from by simp [h1,h2,h3,h4]));clear HV h1 h2 h3 h4
     go_wp2_with fail
     go_ret;refine ⟨?_,HB.o⟩;rw [HVV.o];simp [e3,f2,go_sem]
    ·have e3:(bb == 1)=false:=beq_eq_false_iff_ne.2 h4;have f3:(bb != 1)=true:=bne_iff_ne.2 h4;have HVV:=h_ (HV.o.trans (show _=false from by simp [h1,h2,h3,h4]));clear HV h1 h2 h3 h4
     go_wp2_with fail
     go_ret;refine ⟨?_,HB.o⟩;rw [HVV.o];simp [e3,f2,go_sem]
theorem fi_take {nm:ByteArray} {ys:List YD}:∀ {k:Nat} (n:Nat),(hk:k<ys.length)->(ys.take k).any (hit nm)=false->hit nm ys[k]=true->fiS (hit nm) n ys=some (n+k):=by
 intro k
 induction k generalizing ys with
 | zero=>
  intro n hk _ h
  cases ys with
  | nil=>cases hk
  | cons y ys=>
   rw [fiS];simp only [List.getElem_cons_zero] at h;rw [h]
   rfl
 | succ k ih=>
  intro n hk h0 h
  cases ys with
  | nil=>cases hk
  | cons y ys=>
   rw [List.take_succ_cons,List.any_cons,Bool.or_eq_false_iff] at h0;rw [fiS,h0.1,cond_false,ih (n+1) (by simpa using hk) h0.2 (by simpa using h)]
   congr 1
   omega
def globI (ys:List YD) (nm:ByteArray):Int:=match glob ys nm with
 | some j=>j
 | none=>-1
theorem globI_none {ys:List YD} {nm:ByteArray} (h:ys.any (hit nm)=false):globI ys nm=-1:=by
 unfold globI glob
 rw [(fiS_none ys 0).2 (fun y hy=>by
  rw [List.any_eq_false] at h
  simpa using h y hy)]
theorem globI_some {ys:List YD} {nm:ByteArray} {k:Nat} (hk:k<ys.length) (h0:(ys.take k).any (hit nm)=false) (h:hit nm ys[k]=true):globI ys nm=k:=by
 unfold globI glob;rw [fi_take 0 hk h0 h,Nat.zero_add]
theorem indexX_any (nm:ByteArray) (N:Nat) (A:Option Addr) (ys:List YD) (c:Nat) (w:World) (hr:Rd w w.heap.size A (cellsOf symbolC ys)) (hm:ys.length<=maxLen) (hN:N<w.heap.size) (hc:w.cell? ⟨N,0,none⟩=some (.string nm)):
  Calls Tryz.prog 138 #[.slice A ys.length c,.func (.func 139) #[] #[.pointer (some ⟨N,0,none⟩)]] w (Ret (.int .i64 (globI ys nm)) w):=by
 unfold maxLen at hm
 go_enter Tryz.func138,Tryz.ntmps138
 go_wp2
 go_loopw [8] (fun i wr=>∃ k:Nat,k<=ys.length/\i=.int .i64 k/\(ys.take k).any (hit nm)=false/\Below w.heap.size w wr) (fun i _=>ys.length - (intOf i).toNat)
 case atStart=>exact ⟨0,Nat.zero_le _,rfl,rfl,Below.refl _ _⟩
 case round=>
  obtain ⟨k,hk,rfl,hn,hb⟩:=hrel;have HB:=h_ hb
  by_cases hlt:k<ys.length
  ·obtain ⟨b,off,rfl,hbb,hcc⟩:=(hr.below hb).row symbolC_len (by decide) hlt;have hc0:=hcc 0 _ rfl;have hc1:=hcc 1 _ rfl;have hc2:=hcc 2 _ rfl;have hc3:=hcc 3 _ rfl;simp only [Nat.add_zero] at hc0;have HS:=h_ (show (ys.take (k+1)).any (hit nm)=hit nm ys[k] by rw [take_succ hlt,List.any_append,hn]; simp);have HT:=h_ (show hit nm ys[k]=true->globI ys nm=k from fun h=>globI_some hlt hn h);have HP:=h_ (fun z=>pred_any nm N z wr (Nat.lt_of_lt_of_le hN hb.size) ((hb.cell (p:=⟨N,0,none⟩) hN).trans hc));clear hr hb hcc hn hc;generalize ys[k]=z at *;have hpred:=HP.o z
   cases h:hit nm z
   ·have HS':=h_ (HS.o.trans h);rw [h] at hpred;clear HT HS h HP
    go_wp2_with fail
    refine hpred.mono ?_;rintro e w2 ⟨rfl,b2⟩;have HB':=h_ (HB.o.trans (b2.mono HB.o.size));clear b2 hc0 hc1 hc2 hc3
    go_wp2_with fail
    refine ⟨⟨k+1,by omega,by go_num,HS'.o,HB'.o⟩,by simp [intOf]; omega⟩
   ·have HT':=h_ (HT.o h);rw [h] at hpred;clear HT HS h HP
    go_wp2_with fail
    refine hpred.mono ?_;rintro e w2 ⟨rfl,b2⟩;have HB':=h_ (HB.o.trans (b2.mono HB.o.size));clear b2 hc0 hc1 hc2 hc3
    go_wp2_with fail
    go_ret;exact ⟨by rw [HT'.o]; rfl,HB'.o⟩
  ·have HN:=h_ (globI_none (show ys.any (hit nm)=false by rw [<-hn,List.take_of_length_le (by omega)]));clear hr hb hn hc
   go_wp2_with fail
   go_ret;exact ⟨by rw [HN.o]; rfl,HB.o⟩
theorem globX_any (nm:ByteArray) (A:Option Addr) (ys:List YD) (c:Nat) (w:World) (hr:Rd w w.heap.size A (cellsOf symbolC ys)) (hm:ys.length<=maxLen):
  Calls Tryz.prog 84 #[.slice A ys.length c,.string nm] w (Ret (.int .i64 (globI ys nm)) w):=by
 have B0:Below w.heap.size w (w.alloc (.cells #[.string nm] 9)):=b_;have X0:=Box.new w 9 #[.string nm];have x0:=d_ X0 0;have HX:=h_ (And.intro X0.lt x0);have HB:=h_ B0;have HR:=h_ ((hr.below B0).more B0.size);clear B0 hr X0 x0
 go_enter Tryz.func84,Tryz.ntmps84
 go_wp2_with fail
 refine (indexX_any nm w.heap.size A ys c _ HR.o hm HX.o.1 HX.o.2).mono ?_;rintro e w2 ⟨rfl,b2⟩;have HB2:=h_ (HB.o.trans (b2.mono HB.o.size));clear b2;generalize globI ys nm=r at *
 go_wp2_with fail
 go_ret;exact ⟨rfl,HB2.o⟩
end CTakes
end Go.Proofs.YtepoiphmmjfbdaaGreatDoor
