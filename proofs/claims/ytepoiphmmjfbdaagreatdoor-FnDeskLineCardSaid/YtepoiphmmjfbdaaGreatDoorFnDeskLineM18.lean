/- The walk of FnDeskLine. -/
import Derived.Test.YtepoiphmmjfbdaaGreatDoorFnDeskLineM17
set_option linter.unusedSimpArgs false
set_option linter.unusedVariables false
set_option maxRecDepth 200000
open Go.ChangeShapes Go.WideShapes Go.ChangeAt Go.RowKit
namespace Go.Proofs.YtepoiphmmjfbdaaGreatDoor
namespace WFnDeskLine
open Kit CCode CFixups CSymbols PObj BObj PValid CObjValid CObject WObj BList CObjL CObjL2 CPlaceS CCopyS CValids PLink PDump PDesk BDesk CHexS CDeskI CDeskS BDeskW DObject DDrawB DDrawD DDrawK CSameO CSameLs CAlive
theorem lim_of {o:OV} (h:objOk o.d=true):CSameO.Lim o:=by
 obtain ⟨h1,h2⟩:=CJoinAI.valid_len h;obtain ⟨_,_,h3⟩:=PClear.obj_all h
 exact ⟨by omega,by omega,fun p hp=>by
  obtain ⟨a,b,_⟩:=h3 p.d (List.mem_map_of_mem hp);have a':p.fs.length<=6:=a;have b':p.zs.length<=48:=b
  omega⟩
theorem small_args {w:World} {base c:Nat} {A:Option Addr} {os:List OV} (h8:os.length<=8) (hs:∀ o ∈ os,SmallO o.d) (ho:OwnOs w base A c os):Lst os/\(∀ o ∈ os,Nils o)/\(∀ o ∈ os,InD o.d)/\os.length<=c:=by
 have hf:∀ o ∈ os,Fit o:=fun o h=>small_fit (hs o h) (ho.2.1 o h);exact ⟨⟨by omega,hf,fun o h=>cp_copy rfl (hf o h) (ho.2.1 o h)⟩,fun o h=>nils_own (ho.2.1 o h),fun o h=>small_in (hs o h),ho.1.cap.1⟩
set_option maxHeartbeats 8000000 in
theorem walk (A:Option Addr) (zs:List Int) (c:Nat) (hl:zs.length<=c) (hc:c<=maxLen) (hz:InR 0 255 zs) (w:World) (hr:Rd w w.heap.size A (ints .u8 zs)) (he:Env w):
  Calls Tryz.prog 4 #[.slice A zs.length c] w (LawEnds w):=by
 have hcm:=hc;unfold maxLen at hcm;have HD:=h_ (draw_DrawDeskLine hr hz hl hc);have HE:=h_ he;clear hr hz hc he
 by_cases hbig:1048576<zs.length
 ·go_enter Tryz.func4,Tryz.ntmps4
  go_wp2_with fail
  go_ret;exact ⟨rfl,Below.refl _ _⟩
 go_enter Tryz.func4,Tryz.ntmps4
 go_wp2_with fail
 refine HD.o.mono ?_;rintro e w1 ⟨A1,c1,os,s0,rfl,h8,hsm,own1,hsz,b1⟩;have HAR:=h_ (small_args h8 hsm own1);have HO:=h_ own1;have HB:=h_ b1;clear hsm own1 b1 HD hbig;have HLS:=h_ (show (nmL s0).length<=1048576 from by rw [<-bs_size,bs_nm]; omega)
 have HIC:=h_ (show ∀ (t:List UInt8) (V:World),t.length<=1048576->Below w.heap.size w V->OwnOs V w.heap.size A1 c1 os->Calls Tryz.prog 13 #[.slice A1 os.length c1,.string (bs t)] V (RetDA (deskA (os.map OV.d) t) V) from fun t V h1 h2 h3=>
  deskLine_any A1 os c1 t V h3.rd HAR.o.1.fits HAR.o.2.1 HAR.o.2.2.1 HAR.o.2.2.2 h1 (HE.o.below h2))
 have HSC:=h_ (show ∀ V:World,Below w.heap.size w V->OwnOs V w.heap.size A1 c1 os->Calls Tryz.prog 17 #[.slice A1 os.length c1,.string s0] V (RetDA (deskA (os.map OV.d) (nmL s0)) V) from fun V h2 h3=>
  deskLineS_any A1 os c1 (nmL s0) V h3.rd HAR.o.1 HAR.o.2.1 HAR.o.2.2.1 HAR.o.2.2.2 HLS.o (HE.o.below h2))
 have HOK:=h_ (desk_ok (os.map OV.d) (nmL s0));have HV1:=h_ (fun h=>desk_valid (l:=os.map OV.d) h (nmL s0));have HV0:=h_ (show objsOk (os.map OV.d)=false->deskA (os.map OV.d) (nmL s0)=([],[]) from fun h=>if_pos h);have HVN:=h_ (fun h=>desk_nothing (l:=os.map OV.d) h);have HIC0:=h_ (show ∀ V:World,Below w.heap.size w V->OwnOs V w.heap.size A1 c1 os->Calls Tryz.prog 13 #[.slice A1 os.length c1,.string s0] V (RetDA (deskA (os.map OV.d) (nmL s0)) V) from fun V h2 h3=>HIC.o (nmL s0) V HLS.o h2 h3);clear HLS;generalize hdk:deskA (os.map OV.d) (nmL s0)=r at *;clear hdk;obtain ⟨ds,t⟩:=r
 have htt:((bs t).toList == (bs t).toList)=true:=by simp
 go_wp2_with fail
 refine (HIC0.o w1 HB.o HO.o).mono ?_;rintro e w2 ⟨AX,cx,xs,rfl,hdx,ownx,b2⟩;have HX:=h_ ownx;have HDX:=h_ hdx;replace HB:=c_ HB b2;replace HO:=h_ (HO.o.call b2);clear b2;clear hdx ownx HIC0
 go_wp2_with fail
 refine (HSC.o w2 HB.o HO.o).mono ?_;rintro e w3 ⟨AY,cy,ys,rfl,hdy,owny,b3⟩;have HY:=h_ owny;have HDY:=h_ hdy;replace HB:=c_ HB b3;replace HO:=h_ (HO.o.call b3);replace HX:=h_ (HX.o.call b3);clear b3;clear hdy owny HSC;have hxv:=valid_lims (os:=xs) (by rw [HDX.o]; exact HOK.o);have hx4:=hxv.1;have HLX:=h_ (show ∀ o ∈ xs,CSameO.Lim o from fun o ho=>lim_of ((CJoinAI.objs_all (os:=xs) (by rw [HDX.o]; exact HOK.o)).2 o ho));clear hxv
 go_wp2_with fail
 refine (sameObjects_same AX AY xs ys cx cy w3 HX.o.rd HY.o.rd (by rw [HDX.o,HDY.o]) (by omega) HLX.o).mono ?_;rintro e w4 ⟨rfl,b4⟩;replace HB:=c_ HB b4;replace HO:=h_ (HO.o.call b4);replace HX:=h_ (HX.o.call b4);clear b4;clear HY HDY
 go_wp2_with fail
 refine (objectsValidS_any A1 os c1 w4 HO.o.rd HAR.o.1.fits).mono ?_;rintro e w5 ⟨rfl,b5⟩;replace HB:=c_ HB b5;replace HO:=h_ (HO.o.call b5);replace HX:=h_ (HX.o.call b5);clear b5
 cases hok:objsOk (os.map OV.d)
 ·have h:=HV0.o hok;simp only [Prod.mk.injEq] at h;obtain ⟨h1,h2⟩:=h
  have hx0:xs=[]:=by
   have h3:=HDX.o;rw [h1] at h3
   simpa using h3
  have hq:(bs t).toList.isEmpty=true:=by rw [h2,CDeskLI.bs_list]; rfl
  clear hok HV1 HV0 HVN HIC h1 h2 HDX HX HLX;subst hx0
  go_wp2_with fail
  refine (alive_any _).mono ?_;rintro e w' ⟨rfl,rfl⟩
  go_wp2_with fail
  go_ret;exact ⟨rfl,HB.o⟩
 ·obtain ⟨_,hne,hor⟩:=HV1.o hok;have HNT:=h_ (HVN.o hok);have HOR:=h_ hor;have HNE:=h_ hne;have HC2:=h_ (HIC.o nothingT w5 (by decide) HB.o HO.o);rw [HNT.o] at HC2;clear hok HV1 HV0 HVN HIC hne hor
  go_wp2_with fail
  refine HC2.o.mono ?_;clear HC2;rintro e w6 ⟨A6,c6,os6,rfl,_,_,b6⟩;replace HB:=c_ HB b6;replace HO:=h_ (HO.o.call b6);replace HX:=h_ (HX.o.call b6);clear b6
  go_wp2_with fail
  refine (objectsValid_any AX xs cx w6 HX.o.rd ⟨by omega,fun o ho=>PJoin2.fit_sm (PJoin2.valid_sm ((CJoinAI.objs_all (os:=xs) (by rw [HDX.o]; exact HOK.o)).2 o ho)) (HX.o.2.1 o ho).2.cap.1⟩).mono ?_;rintro e w7 ⟨rfl,b7⟩;rw [show objsOk (xs.map OV.d)=true from by rw [HDX.o]; exact HOK.o];replace HB:=c_ HB b7;replace HO:=h_ (HO.o.call b7);replace HX:=h_ (HX.o.call b7);clear b7
  have hq1:(bs t).toList.isEmpty=false:=by
   rw [CDeskLI.bs_list]
   cases t with
   | nil=>exact absurd rfl HNE.o
   | cons x r=>rfl
  have hq2:((bs whatT).toList == [119,104,97,116])=true:=text_eq rfl
  by_cases hk:t=okT
  ·have hq3:((bs t).toList == [111,107])=true:=text_eq hk;clear hk HNE HOR
   go_wp2_with fail
   go_ret;exact ⟨rfl,HB.o⟩
  ·have hq3:((bs t).toList == [111,107])=false:=text_ne hk
   have HXO:=h_ (show os.map OV.d=xs.map OV.d from by
    rcases HOR.o with h | h
    ·exact absurd h hk
    ·rw [HDX.o]
     exact h.symm)
   clear hk HNE HOR
   go_wp2_with fail
   refine (sameObjects_same AX A1 xs os cx c1 w7 HX.o.rd HO.o.rd HXO.o (by omega) HLX.o).mono ?_;rintro e w8 ⟨rfl,b8⟩;replace HB:=c_ HB b8;clear b8
   go_wp2_with fail
   go_ret;exact ⟨rfl,HB.o⟩
end WFnDeskLine
end Go.Proofs.YtepoiphmmjfbdaaGreatDoor
