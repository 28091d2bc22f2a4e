/- Contracts of the laws' helpers on Fixup: the copy, the comparison of equal data, the marks. Written by a program. -/
import Derived.Test.YtepoiphmmjfbdaaGreatDoorFnExactDeskRunM1
import Derived.Test.YtepoiphmmjfbdaaGreatDoorRows
import Derived.StillTailTactics
import Derived.Deep.QuietTactic
import Derived.BigQuiet
set_option linter.unusedSimpArgs false
set_option linter.unusedVariables false
set_option maxRecDepth 200000
open Go.ChangeShapes Go.WideShapes Go.ChangeAt Go.RowKit
namespace Go.Proofs.YtepoiphmmjfbdaaGreatDoor
namespace CFixups
open Kit
theorem info:(Tryz.prog.info? 65).map (fun i=>(i.zero,i.size,i.bytes))=some (some (.agg #[.int .i64 0,.int .i64 0,.int .i64 0,.int .i64 0]),4,32):=by kernel_rfl
abbrev D:=Int × Int × Int × Int
def fixupC (r:D):List Value:=[.int .i64 r.1,.int .i64 r.2.1,.int .i64 r.2.2.1,.int .i64 r.2.2.2]
theorem fixupC_len (r:D):(fixupC r).length=4:=rfl
theorem toFixup_any (z:D) (w:World):Calls Tryz.prog 223 #[.agg #[.int .i64 z.1,.int .i64 z.2.1,.int .i64 z.2.2.1,.int .i64 z.2.2.2]] w (Ret (.agg #[.int .i64 z.1,.int .i64 z.2.1,.int .i64 z.2.2.1,.int .i64 z.2.2.2]) w):=by
 go_enter Tryz.func223,Tryz.ntmps223
 go_wp2
 exact bodyPost_ret (v:=.agg #[.int .i64 z.1,.int .i64 z.2.1,.int .i64 z.2.2.1,.int .i64 z.2.2.2]) (by simp [results,Tryz.results223,go_sem]) rfl ⟨rfl,b_⟩
theorem toFixupS_any (A:Option Addr) (zs:List D) (c:Nat) (w:World) (hr:Rd w w.heap.size A (cellsOf fixupC zs)) (hm:zs.length<=1048576):
  Calls Tryz.prog 198 #[.slice A zs.length c] w fun e w'=>∃ A' c',e=.returned (.slice A' zs.length c')/\w'.ownsRow w.heap.size 65 4 (.slice A' zs.length c') zs.length (cellsOf fixupC zs)/\Below w.heap.size w w':=by
 obtain ⟨i0,hi,hz0,hz1,hz2⟩:=info_parts info
 go_enter Tryz.func198,Tryz.ntmps198
 go_wp2_with (at_make; refine wpList_make_full _ rfl _ _ _ rfl w.heap.size 65 i0 (.agg #[.int .i64 0,.int .i64 0,.int .i64 0,.int .i64 0]) 4 Tryz.underlying59 hi hz0 hz1 .i64 .i64 _ _ zs.length rfl rfl rfl rfl ?c1 ?c2 ?c3 ?_)
 case c1=>rw [hz2]; omega
 case c2=>unfold maxLen; omega
 case c3=>exact Nat.le_refl _
 intro w1 hown hg;have hb1:Below w.heap.size w w1:=(Below.refl _ _).grown hg (Nat.le_refl _) (by intro k h; cases h);clear hg;have hown1:∃ xs,w1.ownsRow w.heap.size 65 4 (.slice (some ⟨w.heap.size,0,none⟩) zs.length zs.length) zs.length xs:=⟨_,hown⟩;clear hown
 go_wp2
 go_loopw [4] (fun i wr=>∃ k:Nat,k<=zs.length/\i=.int .i64 k/\(∃ xs,wr.ownsRow w.heap.size 65 4 (.slice (some ⟨w.heap.size,0,none⟩) zs.length zs.length) zs.length (cellsOf fixupC (zs.take k)++xs))/\Below w.heap.size w wr) (fun i _=>zs.length - (intOf i).toNat)
 case atStart=>exact ⟨0,Nat.zero_le _,rfl,by simpa [cellsOf] using hown1,hb1⟩
 case round=>
  obtain ⟨k,hk,rfl,⟨xs,ho⟩,hb⟩:=hrel;clear hown1 hb1
  by_cases hlt:k<zs.length
  ·obtain ⟨b,off,rfl,hbg,hc⟩:=(hr.below hb).row fixupC_len (by decide) hlt;have hc0:=hc 0 _ rfl;have hc1:=hc 1 _ rfl;have hc2:=hc 2 _ rfl;have hc3:=hc 3 _ rfl;simp only [Nat.add_zero] at hc0;have hl:=ho.1;have HO:=h_ ho;have HB:=h_ hb;clear hr ho hb hc
   go_wp2_with fail
   refine (toFixup_any _ _).mono ?_;rintro e w2 ⟨rfl,hb2⟩;have ho:=own_call hb2 HO.o;have hb':=HB.o.trans (hb2.mono HB.o.size);obtain ⟨⟨old0,hk0⟩,hfz0⟩:=own_old ho (j:=k*4) (by omega);obtain ⟨⟨old1,hk1⟩,hfz1⟩:=own_old ho (j:=k*4+1) (by omega);obtain ⟨⟨old2,hk2⟩,hfz2⟩:=own_old ho (j:=k*4+2) (by omega);obtain ⟨⟨old3,hk3⟩,hfz3⟩:=own_old ho (j:=k*4+3) (by omega)
   have hpl:(cellsOf fixupC (zs.take k)).length=k*4:=by rw [cellsOf_len fixupC_len,List.length_take]; omega
   have ho1:=own_put ho hpl (by omega) (.int .i64 zs[k].1);have ho2:=own_put ho1 (j:=k*4+1) (by simp only [List.length_append,hpl]; rfl) (by omega) (.int .i64 zs[k].2.1);have ho3:=own_put ho2 (j:=k*4+2) (by simp only [List.length_append,hpl]; rfl) (by omega) (.int .i64 zs[k].2.2.1);have ho4:=own_put ho3 (j:=k*4+3) (by simp only [List.length_append,hpl]; rfl) (by omega) (.int .i64 zs[k].2.2.2);have HO':=h_ ho4;have HB':=h_ hb';have HT:=h_ (take_succ hlt);generalize zs[k]=z at *;clear ho ho1 ho2 ho3 ho4 hpl hb' HO HB hb2
   go_wp2_with fail
   refine ⟨⟨k+1,by omega,by go_num,⟨xs.tail.tail.tail.tail,?_⟩,?_⟩,by simp [intOf]; omega⟩
   ·rw [HT.o]
    simpa [cellsOf,fixupC] using HO'.o
   ·exact (Below.setCell (Below.setCell (Below.setCell (Below.setCell HB'.o (Nat.le_refl _) _) (Nat.le_refl _) _) (Nat.le_refl _) _) (Nat.le_refl _) _)
  ·have e:k=zs.length:=by omega
   subst e
   have hxs:xs=[]:=by
    have:=ho.1;rw [List.take_length,List.length_append,cellsOf_len fixupC_len] at this;exact List.eq_nil_of_length_eq_zero (by omega)
   subst hxs;rw [List.take_length,List.append_nil] at ho;clear hr
   go_wp2
   go_ret;exact ⟨_,_,rfl,ho,hb⟩
theorem eqFixup_same (x:D) (w:World):Calls Tryz.prog 224 #[.agg #[.int .i64 x.1,.int .i64 x.2.1,.int .i64 x.2.2.1,.int .i64 x.2.2.2],.agg #[.int .i64 x.1,.int .i64 x.2.1,.int .i64 x.2.2.1,.int .i64 x.2.2.2]] w (Ret (.bool true) w):=by
 go_enter Tryz.func224,Tryz.ntmps224
 go_wp2
 go_ret;exact ⟨rfl,b_⟩
set_option maxRecDepth 20000 in
theorem eqFixupS_same (A A':Option Addr) (xs:List D) (c c':Nat) (w:World) (hr:Rd w w.heap.size A (cellsOf fixupC xs)) (hr':Rd w w.heap.size A' (cellsOf fixupC xs)) (hm:xs.length<=maxLen):
  Calls Tryz.prog 200 #[.slice A xs.length c,.slice A' xs.length c'] w (Ret (.bool true) w):=by
 unfold maxLen at hm
 have h0:(((xs.length:Nat):Int) != (xs.length:Nat))=false:=by simp
 go_enter Tryz.func200,Tryz.ntmps200
 go_wp2
 clear h0
 go_loopw [5] (fun i wr=>∃ k:Nat,k<=xs.length/\i=.int .i64 k/\Below w.heap.size w wr) (fun i _=>xs.length - (intOf i).toNat)
 case atStart=>exact ⟨0,Nat.zero_le _,rfl,Below.refl _ _⟩
 case round=>
  obtain ⟨k,hk,rfl,hb⟩:=hrel;have HB:=h_ hb
  by_cases hlt:k<xs.length
  ·obtain ⟨b,off,rfl,_,hc⟩:=(hr.below hb).row fixupC_len (by decide) hlt;obtain ⟨b',off',rfl,_,hd⟩:=(hr'.below hb).row fixupC_len (by decide) hlt;have hc0:=hc 0 _ rfl;have hd0:=hd 0 _ rfl;have hc1:=hc 1 _ rfl;have hd1:=hd 1 _ rfl;have hc2:=hc 2 _ rfl;have hd2:=hd 2 _ rfl;have hc3:=hc 3 _ rfl;have hd3:=hd 3 _ rfl;simp only [Nat.add_zero] at hc0 hd0;clear hr hr' hc hd hb;generalize xs[k]=x at *
   go_wp2_with fail
   go_still_tail 8,(by kernel_rfl)
   change wpList _ _ _ _ _ wr.drew;clear hc0 hd0 hc1 hd1 hc2 hd2 hc3 hd3
   go_wp2_with fail
   refine (eqFixup_same _ _).mono ?_;rintro e w2 ⟨rfl,hb2⟩;have HB':=h_ (HB.o.trans ((of_drew hb2).mono HB.o.size));clear hb2
   go_wp2_with fail
   go_roundw
   case rel=>exact ⟨k+1,by omega,by go_num,HB'.o⟩
   case measure=>simp [intOf]; omega
  ·clear hr hr'
   go_wp2_with fail
   go_ret;exact ⟨rfl,HB.o⟩

def marks (k0:Int) (m:Nat):List D:=(List.range m).map fun (i:Nat)=>(k0+4*(i:Int),k0+4*(i:Int)+1,k0+4*(i:Int)+1+1,k0+4*(i:Int)+1+1+1)
theorem marks_len (k0:Int) (m:Nat):(marks k0 m).length=m:=by simp [marks]
theorem marks_at (k0:Int) (m i:Nat) (h:i<m):(marks k0 m)[i]'(by rw [marks_len]; exact h)=(k0+4*(i:Int),k0+4*(i:Int)+1,k0+4*(i:Int)+1+1,k0+4*(i:Int)+1+1+1):=by simp [marks]
theorem marks_succ (k0:Int) (i:Nat):marks k0 (i+1)=marks k0 i++[(k0+4*(i:Int),k0+4*(i:Int)+1,k0+4*(i:Int)+1+1,k0+4*(i:Int)+1+1+1)]:=by simp [marks,List.range_succ]
theorem mark_any (base:Nat) (A:Option Addr) (c m:Nat) (cs:List Value) (k0:Int) (w:World) (h0:0<=k0) (hk0:k0<=4294967296) (hm:m<=4294967296)
  (hown:w.ownsRow base 65 4 (.slice A m c) m cs):
  Calls Tryz.prog 131 #[.slice A m c,.int .i64 k0] w fun e w'=>e=.returned (.int .i64 (k0+4*m))/\w'.ownsRow base 65 4 (.slice A m c) m (cellsOf fixupC (marks k0 m))/\w.grownBy w' (Value.slice A m c).ownBlock:=by
 go_enter Tryz.func131,Tryz.ntmps131
 go_wp2
 have hg0:=World.grownBy.refl w (Value.slice A m c).ownBlock
 go_loopw [1,5] (fun k i wr=>∃ j:Nat,j<=m/\i=.int .i64 j/\k=.int .i64 (k0+4*j)/\(∃ xs,wr.ownsRow base 65 4 (.slice A m c) m (cellsOf fixupC (marks k0 j)++xs))/\w.grownBy wr (Value.slice A m c).ownBlock) (fun _ i _=>m - (intOf i).toNat)
 case atStart=>exact ⟨0,Nat.zero_le _,rfl,by simp,⟨cs,by simpa [marks,cellsOf] using hown⟩,hg0⟩
 case round=>
  obtain ⟨j,hj,rfl,rfl,⟨xs,ho⟩,hg⟩:=hrel;clear hown hg0
  by_cases hlt:j<m
  ·have hform:∃ g,A=some ⟨g,0,none⟩:=by
    rcases ho.2 with ⟨hv,h0⟩ | ⟨g,cap,cur,hv,_⟩
    ·omega
    ·injection hv with hA;exact ⟨g,hA⟩
   obtain ⟨g,rfl⟩:=hform;obtain ⟨⟨old0,hk0⟩,hfz0⟩:=own_old ho (j:=j*4) (by omega);obtain ⟨⟨old1,hk1⟩,hfz1⟩:=own_old ho (j:=j*4+1) (by omega);obtain ⟨⟨old2,hk2⟩,hfz2⟩:=own_old ho (j:=j*4+2) (by omega);obtain ⟨⟨old3,hk3⟩,hfz3⟩:=own_old ho (j:=j*4+3) (by omega)
   have hpl:(cellsOf fixupC (marks k0 j)).length=j*4:=by rw [cellsOf_len fixupC_len,marks_len]
   have ho1:=own_put ho hpl (by omega) (.int .i64 (k0+4*(j:Int)));have hg1:=grown_put (u:=.int .i64 (k0+4*(j:Int))) (j:=j*4) hg;have ho2:=own_put ho1 (j:=j*4+1) (by simp only [List.length_append,hpl]; rfl) (by omega) (.int .i64 (k0+4*(j:Int)+1));have hg2:=grown_put (u:=.int .i64 (k0+4*(j:Int)+1)) (j:=j*4+1) hg1;have ho3:=own_put ho2 (j:=j*4+2) (by simp only [List.length_append,hpl]; rfl) (by omega) (.int .i64 (k0+4*(j:Int)+1+1));have hg3:=grown_put (u:=.int .i64 (k0+4*(j:Int)+1+1)) (j:=j*4+2) hg2;have ho4:=own_put ho3 (j:=j*4+3) (by simp only [List.length_append,hpl]; rfl) (by omega) (.int .i64 (k0+4*(j:Int)+1+1+1));have hg4:=grown_put (u:=.int .i64 (k0+4*(j:Int)+1+1+1)) (j:=j*4+3) hg3;have HH:=h_ (And.intro ho4 hg4);have E1:=h_ (show k0+4*(j:Int)+1+1+1+1=k0+4*((j+1:Nat):Int) by omega);clear ho1 hg1 ho2 hg2 ho3 hg3 ho4 hg4 ho hg hpl
   go_wp2
   refine ⟨⟨j+1,by omega,by go_num,by rw [E1.o],⟨xs.tail.tail.tail.tail,?_⟩,HH.o.2⟩,by simp [intOf]; omega⟩;rw [marks_succ]
   simpa [cellsOf,fixupC] using HH.o.1
  ·have e:j=m:=by omega
   subst e
   have hxs:xs=[]:=by
    have:=ho.1;rw [List.length_append,cellsOf_len fixupC_len,marks_len] at this;exact List.eq_nil_of_length_eq_zero (by omega)
   subst hxs;rw [List.append_nil] at ho
   go_wp2
   go_ret;exact ⟨rfl,ho,hg⟩
theorem held_any (B:Nat) (A:Option Addr) (c m:Nat) (k0:Int) (w:World) (h0:0<=k0) (hk0:k0<=4294967296) (hm:m<=4294967296) (hr:Rd w B A (cellsOf fixupC (marks k0 m))):
  Calls Tryz.prog 133 #[.slice A m c,.int .i64 k0] w (Pure (.int .i64 (k0+4*m)) w):=by
 go_enter Tryz.func133,Tryz.ntmps133
 go_wp2
 go_loop [1,5] (fun k i=>∃ j:Nat,j<=m/\i=.int .i64 j/\k=.int .i64 (k0+4*j)) (fun _ i=>m - (intOf i).toNat)
 case atStart=>exact ⟨0,Nat.zero_le _,rfl,by simp⟩
 case round=>
  obtain ⟨j,hj,rfl,rfl⟩:=hrel
  by_cases hlt:j<m
  ·obtain ⟨b,off,rfl,_,hc⟩:=hr.row fixupC_len (by decide) (k:=j) (by rw [marks_len]; exact hlt);rw [marks_at _ _ _ hlt] at hc;have hc0:=hc 0 _ rfl;have hc1:=hc 1 _ rfl;have hc2:=hc 2 _ rfl;have hc3:=hc 3 _ rfl;simp only [Nat.add_zero] at hc0;have E1:=h_ (show k0+4*(j:Int)+1+1+1+1=k0+4*((j+1:Nat):Int) by omega);clear hr hc
   go_wp2
   go_round
   case rel=>exact ⟨j+1,by omega,by go_num,by rw [E1.o]⟩
   case measure=>simp [intOf]; omega
  ·have e:j=m:=by omega
   subst e;clear hr
   go_wp2
   go_ret;exact ⟨rfl,rfl⟩
end CFixups
/- Contracts of the laws' helpers on Symbol: the copy,the comparison of equal data,the marks. Written by a program. -/
namespace CSymbols
open Kit
theorem info:(Tryz.prog.info? 67).map (fun i=>(i.zero,i.size,i.bytes))=some (some (.agg #[.string ByteArray.empty,.int .i64 0,.int .i64 0,.int .i64 0]),4,40):=by kernel_rfl
abbrev D:=ByteArray × Int × Int × Int
def symbolC (r:D):List Value:=[.string r.1,.int .i64 r.2.1,.int .i64 r.2.2.1,.int .i64 r.2.2.2]
theorem symbolC_len (r:D):(symbolC r).length=4:=rfl
theorem toSymbol_any (z:D) (w:World):Calls Tryz.prog 171 #[.agg #[.string z.1,.int .i64 z.2.1,.int .i64 z.2.2.1,.int .i64 z.2.2.2]] w (Ret (.agg #[.string z.1,.int .i64 z.2.1,.int .i64 z.2.2.1,.int .i64 z.2.2.2]) w):=by
 go_enter Tryz.func171,Tryz.ntmps171
 go_wp2
 exact bodyPost_ret (v:=.agg #[.string z.1,.int .i64 z.2.1,.int .i64 z.2.2.1,.int .i64 z.2.2.2]) (by simp [results,Tryz.results171,go_sem]) rfl ⟨rfl,b_⟩
theorem toSymbolS_any (A:Option Addr) (zs:List D) (c:Nat) (w:World) (hr:Rd w w.heap.size A (cellsOf symbolC zs)) (hm:zs.length<=1048576):
  Calls Tryz.prog 127 #[.slice A zs.length c] w fun e w'=>∃ A' c',e=.returned (.slice A' zs.length c')/\w'.ownsRow w.heap.size 67 4 (.slice A' zs.length c') zs.length (cellsOf symbolC zs)/\Below w.heap.size w w':=by
 obtain ⟨i0,hi,hz0,hz1,hz2⟩:=info_parts info
 go_enter Tryz.func127,Tryz.ntmps127
 go_wp2_with (at_make; refine wpList_make_full _ rfl _ _ _ rfl w.heap.size 67 i0 (.agg #[.string ByteArray.empty,.int .i64 0,.int .i64 0,.int .i64 0]) 4 Tryz.underlying24 hi hz0 hz1 .i64 .i64 _ _ zs.length rfl rfl rfl rfl ?c1 ?c2 ?c3 ?_)
 case c1=>rw [hz2]; omega
 case c2=>unfold maxLen; omega
 case c3=>exact Nat.le_refl _
 intro w1 hown hg;have hb1:Below w.heap.size w w1:=(Below.refl _ _).grown hg (Nat.le_refl _) (by intro k h; cases h);clear hg;have hown1:∃ xs,w1.ownsRow w.heap.size 67 4 (.slice (some ⟨w.heap.size,0,none⟩) zs.length zs.length) zs.length xs:=⟨_,hown⟩;clear hown
 go_wp2
 go_loopw [4] (fun i wr=>∃ k:Nat,k<=zs.length/\i=.int .i64 k/\(∃ xs,wr.ownsRow w.heap.size 67 4 (.slice (some ⟨w.heap.size,0,none⟩) zs.length zs.length) zs.length (cellsOf symbolC (zs.take k)++xs))/\Below w.heap.size w wr) (fun i _=>zs.length - (intOf i).toNat)
 case atStart=>exact ⟨0,Nat.zero_le _,rfl,by simpa [cellsOf] using hown1,hb1⟩
 case round=>
  obtain ⟨k,hk,rfl,⟨xs,ho⟩,hb⟩:=hrel;clear hown1 hb1
  by_cases hlt:k<zs.length
  ·obtain ⟨b,off,rfl,hbg,hc⟩:=(hr.below hb).row symbolC_len (by decide) hlt;have hc0:=hc 0 _ rfl;have hc1:=hc 1 _ rfl;have hc2:=hc 2 _ rfl;have hc3:=hc 3 _ rfl;simp only [Nat.add_zero] at hc0;have hl:=ho.1;have HO:=h_ ho;have HB:=h_ hb;clear hr ho hb hc
   go_wp2_with fail
   refine (toSymbol_any _ _).mono ?_;rintro e w2 ⟨rfl,hb2⟩;have ho:=own_call hb2 HO.o;have hb':=HB.o.trans (hb2.mono HB.o.size);obtain ⟨⟨old0,hk0⟩,hfz0⟩:=own_old ho (j:=k*4) (by omega);obtain ⟨⟨old1,hk1⟩,hfz1⟩:=own_old ho (j:=k*4+1) (by omega);obtain ⟨⟨old2,hk2⟩,hfz2⟩:=own_old ho (j:=k*4+2) (by omega);obtain ⟨⟨old3,hk3⟩,hfz3⟩:=own_old ho (j:=k*4+3) (by omega)
   have hpl:(cellsOf symbolC (zs.take k)).length=k*4:=by rw [cellsOf_len symbolC_len,List.length_take]; omega
   have ho1:=own_put ho hpl (by omega) (.string zs[k].1);have ho2:=own_put ho1 (j:=k*4+1) (by simp only [List.length_append,hpl]; rfl) (by omega) (.int .i64 zs[k].2.1);have ho3:=own_put ho2 (j:=k*4+2) (by simp only [List.length_append,hpl]; rfl) (by omega) (.int .i64 zs[k].2.2.1);have ho4:=own_put ho3 (j:=k*4+3) (by simp only [List.length_append,hpl]; rfl) (by omega) (.int .i64 zs[k].2.2.2);have HO':=h_ ho4;have HB':=h_ hb';have HT:=h_ (take_succ hlt);generalize zs[k]=z at *;clear ho ho1 ho2 ho3 ho4 hpl hb' HO HB hb2
   go_wp2_with fail
   refine ⟨⟨k+1,by omega,by go_num,⟨xs.tail.tail.tail.tail,?_⟩,?_⟩,by simp [intOf]; omega⟩
   ·rw [HT.o]
    simpa [cellsOf,symbolC] using HO'.o
   ·exact (Below.setCell (Below.setCell (Below.setCell (Below.setCell HB'.o (Nat.le_refl _) _) (Nat.le_refl _) _) (Nat.le_refl _) _) (Nat.le_refl _) _)
  ·have e:k=zs.length:=by omega
   subst e
   have hxs:xs=[]:=by
    have:=ho.1;rw [List.take_length,List.length_append,cellsOf_len symbolC_len] at this;exact List.eq_nil_of_length_eq_zero (by omega)
   subst hxs;rw [List.take_length,List.append_nil] at ho;clear hr
   go_wp2
   go_ret;exact ⟨_,_,rfl,ho,hb⟩
theorem eqSymbol_same (x:D) (w:World):Calls Tryz.prog 173 #[.agg #[.string x.1,.int .i64 x.2.1,.int .i64 x.2.2.1,.int .i64 x.2.2.2],.agg #[.string x.1,.int .i64 x.2.1,.int .i64 x.2.2.1,.int .i64 x.2.2.2]] w (Ret (.bool true) w):=by
 go_enter Tryz.func173,Tryz.ntmps173
 go_wp2
 go_ret;exact ⟨rfl,b_⟩
set_option maxRecDepth 20000 in
theorem eqSymbolS_same (A A':Option Addr) (xs:List D) (c c':Nat) (w:World) (hr:Rd w w.heap.size A (cellsOf symbolC xs)) (hr':Rd w w.heap.size A' (cellsOf symbolC xs)) (hm:xs.length<=maxLen):
  Calls Tryz.prog 129 #[.slice A xs.length c,.slice A' xs.length c'] w (Ret (.bool true) w):=by
 unfold maxLen at hm
 have h0:(((xs.length:Nat):Int) != (xs.length:Nat))=false:=by simp
 go_enter Tryz.func129,Tryz.ntmps129
 go_wp2
 clear h0
 go_loopw [5] (fun i wr=>∃ k:Nat,k<=xs.length/\i=.int .i64 k/\Below w.heap.size w wr) (fun i _=>xs.length - (intOf i).toNat)
 case atStart=>exact ⟨0,Nat.zero_le _,rfl,Below.refl _ _⟩
 case round=>
  obtain ⟨k,hk,rfl,hb⟩:=hrel;have HB:=h_ hb
  by_cases hlt:k<xs.length
  ·obtain ⟨b,off,rfl,_,hc⟩:=(hr.below hb).row symbolC_len (by decide) hlt;obtain ⟨b',off',rfl,_,hd⟩:=(hr'.below hb).row symbolC_len (by decide) hlt;have hc0:=hc 0 _ rfl;have hd0:=hd 0 _ rfl;have hc1:=hc 1 _ rfl;have hd1:=hd 1 _ rfl;have hc2:=hc 2 _ rfl;have hd2:=hd 2 _ rfl;have hc3:=hc 3 _ rfl;have hd3:=hd 3 _ rfl;simp only [Nat.add_zero] at hc0 hd0;clear hr hr' hc hd hb;generalize xs[k]=x at *
   go_wp2_with fail
   go_still_tail 8,(by kernel_rfl)
   change wpList _ _ _ _ _ wr.drew;clear hc0 hd0 hc1 hd1 hc2 hd2 hc3 hd3
   go_wp2_with fail
   refine (eqSymbol_same _ _).mono ?_;rintro e w2 ⟨rfl,hb2⟩;have HB':=h_ (HB.o.trans ((of_drew hb2).mono HB.o.size));clear hb2
   go_wp2_with fail
   go_roundw
   case rel=>exact ⟨k+1,by omega,by go_num,HB'.o⟩
   case measure=>simp [intOf]; omega
  ·clear hr hr'
   go_wp2_with fail
   go_ret;exact ⟨rfl,HB.o⟩
end CSymbols
/- Objects as values: their sections and symbols,where these lie,and the plain data. -/
namespace PObj
open Kit CFixups CSymbols
abbrev FD:=CFixups.D
abbrev YD:=CSymbols.D
structure SV where
 nm:ByteArray
 kd:Int
 al:Int
 A:Option Addr
 c:Nat
 zs:List Int
 sz:Int
 F:Option Addr
 fc:Nat
 fs:List FD
structure SD where
 nm:ByteArray
 kd:Int
 al:Int
 zs:List Int
 sz:Int
 fs:List FD
def SV.d (p:SV):SD:=⟨p.nm,p.kd,p.al,p.zs,p.sz,p.fs⟩
def secC (p:SV):List Value:=[.string p.nm,.int .i64 p.kd,.int .i64 p.al,.slice p.A p.zs.length p.c,.int .i64 p.sz,.slice p.F p.fs.length p.fc]
theorem secC_len (p:SV):(secC p).length=6:=rfl
structure OV where
 A:Option Addr
 c:Nat
 ps:List SV
 Y:Option Addr
 yc:Nat
 ys:List YD
structure OD where
 ss:List SD
 ys:List YD
def OV.d (o:OV):OD:=⟨o.ps.map SV.d,o.ys⟩
def OV.v (o:OV):Value:=.agg #[.slice o.A o.ps.length o.c,.slice o.Y o.ys.length o.yc]
def wt (d:SD):Int:=d.nm.size+d.zs.length+d.fs.length
def tot:List SD->Int
 | []=>0
 | d :: ds=>wt d+tot ds
theorem wt_nonneg (d:SD):0<=wt d:=by unfold wt; omega
theorem tot_nonneg:∀ ds,0<=tot ds
 | []=>Int.le_refl 0
 | d :: ds=>by
  have:=tot_nonneg ds;have:=wt_nonneg d;simp only [tot];omega
theorem tot_mem:∀ (ds:List SD) (d:SD),d ∈ ds->wt d<=tot ds
 | [],d,h=>by simp at h
 | e :: ds,d,h=>by
  have:=tot_nonneg ds;have:=wt_nonneg e;simp only [tot]
  rcases List.mem_cons.1 h with rfl | h
  ·omega
  ·have:=tot_mem ds d h;omega
theorem tot_drop {ds:List SD} {k:Nat} (h:k<ds.length):tot (ds.drop k)=wt ds[k]+tot (ds.drop (k+1)):=by
 rw [List.drop_eq_getElem_cons h]
 rfl
theorem tot_drop_le:∀ (ds:List SD) (k:Nat),tot (ds.drop k)<=tot ds
 | [],k=>by simp [tot]
 | d :: ds,0=>Int.le_refl _
 | d :: ds,k+1=>by
  have:=tot_drop_le ds k;have:=wt_nonneg d;simp only [List.drop_succ_cons,tot];omega
def toty:List YD->Int
 | []=>0
 | d :: ds=>d.1.size+toty ds
theorem toty_nonneg:∀ ds,0<=toty ds
 | []=>Int.le_refl 0
 | d :: ds=>by
  have:=toty_nonneg ds;simp only [toty];omega
theorem toty_mem:∀ (ds:List YD) (d:YD),d ∈ ds->(d.1.size:Int)<=toty ds
 | [],d,h=>by simp at h
 | e :: ds,d,h=>by
  have:=toty_nonneg ds;simp only [toty]
  rcases List.mem_cons.1 h with rfl | h
  ·omega
  ·have:=toty_mem ds d h;omega
theorem toty_drop {ds:List YD} {k:Nat} (h:k<ds.length):toty (ds.drop k)=ds[k].1.size+toty (ds.drop (k+1)):=by
 rw [List.drop_eq_getElem_cons h]
 rfl
theorem toty_drop_le:∀ (ds:List YD) (k:Nat),toty (ds.drop k)<=toty ds
 | [],k=>by simp [toty]
 | d :: ds,0=>Int.le_refl _
 | d :: ds,k+1=>by
  have:=toty_drop_le ds k;simp only [List.drop_succ_cons,toty];omega
end PObj
/- What turns,block by block. -/
namespace Kit

structure Gp (p:Nat->Prop) (w w':World):Prop where
 os:w'.os=w.os
 tape:w'.tape=w.tape
 output:w'.output=w.output
 size:w.heap.size<=w'.heap.size
 block:∀ k,k<w.heap.size->¬ p k->w'.heap[k]?=w.heap[k]?
section
variable {p q:Nat->Prop} {w w' w'':World}
theorem Gp.refl (p:Nat->Prop) (w:World):Gp p w w:=⟨rfl,rfl,rfl,Nat.le_refl _,fun _ _ _=>rfl⟩
theorem Gp.of_below (h:Below w.heap.size w w'):Gp p w w':=⟨h.os,h.tape,h.output,h.size,fun k hk _=>h.block k hk⟩
theorem Gp.of_grown {v:Option Nat} (h:w.grownBy w' v) (hv:∀ k,v=some k->p k):Gp p w w':=⟨h.os,h.tape,h.output,h.size,fun k hk hp=>h.block k hk (fun e=>hp (hv k e.symm))⟩
theorem Gp.trans (h:Gp p w w') (k:Gp p w' w''):Gp p w w'':=
 ⟨k.os.trans h.os,k.tape.trans h.tape,k.output.trans h.output,Nat.le_trans h.size k.size,fun i hi hp=>(k.block i (Nat.lt_of_lt_of_le hi h.size) hp).trans (h.block i hi hp)⟩
theorem Gp.mono (h:Gp p w w') (hp:∀ k,p k->q k):Gp q w w':=⟨h.os,h.tape,h.output,h.size,fun k hk hq=>h.block k hk (fun h=>hq (hp k h))⟩
theorem Gp.below {B:Nat} {a:World} (h:Below B a w) (g:Gp p w w') (hB:B<=w.heap.size) (hp:∀ k,p k->B<=k):Below B a w':=
 h.trans ⟨g.os,g.tape,g.output,g.size,fun k hk=>g.block k (Nat.lt_of_lt_of_le hk hB) (fun h=>by have:=hp k h; omega)⟩
theorem Gp.row {base:Nat} {e:TypeId} {size n c:Nat} {A:Option Addr} {xs:List Value} (g:Gp p w w') (h:Row w base e size A n c xs) (hp:∀ k,blk A c=some k->¬ p k):Row w' base e size A n c xs:=
 h.keep fun k hk=>g.block k (h.lt k hk).2 (hp k hk)
end
end Kit
/- Contracts of the laws' helpers on []byte: the copy,the comparison,the marks. -/
namespace CBytes
open Kit
theorem info8:(Tryz.prog.info? 5).map (fun i=>(i.zero,i.size,i.bytes))=some (some (.int .u8 0),1,1):=by kernel_rfl
theorem toByteS_any (A:Option Addr) (zs:List Int) (c:Nat) (w:World) (hr:Rd w w.heap.size A (ints .u8 zs)) (hm:zs.length<=1048576):
  Calls Tryz.prog 197 #[.slice A zs.length c] w fun e w'=>∃ A' c',e=.returned (.slice A' zs.length c')/\w'.ownsRow w.heap.size 5 1 (.slice A' zs.length c') zs.length (ints .u8 zs)/\Below w.heap.size w w':=by
 obtain ⟨i0,hi,hz0,hz1,hz2⟩:=info_parts info8
 go_enter Tryz.func197,Tryz.ntmps197
 go_wp2_with (at_make; refine wpList_make_full _ rfl _ _ _ rfl w.heap.size 5 i0 (.int .u8 0) 1 Tryz.underlying22 hi hz0 hz1 .i64 .i64 _ _ zs.length rfl rfl rfl rfl ?c1 ?c2 ?c3 ?_)
 case c1=>rw [hz2]; omega
 case c2=>unfold maxLen; omega
 case c3=>exact Nat.le_refl _
 intro w1 hown hg;rw [zero_cells',show List.replicate zs.length 0=upTo zs 0 from by simp [upTo]] at hown;have hb1:Below w.heap.size w w1:=(Below.refl _ _).grown hg (Nat.le_refl _) (by intro k h; cases h);clear hg
 go_wp2
 go_loopw [4] (fun i wr=>∃ k:Nat,k<=zs.length/\i=.int .i64 k/\wr.ownsRow w.heap.size 5 1 (.slice (some ⟨w.heap.size,0,none⟩) zs.length zs.length) zs.length (ints .u8 (upTo zs k))/\Below w.heap.size w wr) (fun i _=>zs.length - (intOf i).toNat)
 case atStart=>exact ⟨0,Nat.zero_le _,rfl,hown,hb1⟩
 case round=>
  obtain ⟨k,hk,rfl,ho,hb⟩:=hrel;clear hown hb1
  by_cases hlt:k<zs.length
  ·obtain ⟨b,off,rfl,hbg,hc⟩:=(hr.below hb).int hlt;have hs:=ho.stored k (.int .u8 zs[k]);have hcell:=ho.cellAt k (by omega);have hfz:=ho.frozenAt k
   have hold:(ints IntKind.u8 (upTo zs k))[k]?=some (Value.int .u8 ((upTo zs k)[k]'(by rw [upTo_len _ _ hk]; exact hlt))):=by
    rw [List.getElem?_eq_getElem (by simp [upTo_len _ _ hk,hlt])]; simp
   rw [hold] at hcell;generalize ((upTo zs k)[k]'(by rw [upTo_len _ _ hk]; exact hlt))=old at hcell;rw [setInts,upTo_set zs k hlt] at hs;obtain ⟨ho',hg'⟩:=hs;have hb':=hb.setCell (p:=⟨w.heap.size,k,none⟩) (Nat.le_refl _) (.int .u8 zs[k]);have HH:=h_ (And.intro ho' hb');clear hold ho' hg' hb' ho hb hr;generalize zs[k]=z at *
   go_wp2
   go_roundw
   case rel=>exact ⟨k+1,by omega,by go_num,HH.o.1,HH.o.2⟩
   case measure=>simp [intOf]; omega
  ·have e:k=zs.length:=by omega
   subst e;rw [upTo_all] at ho;clear hr
   go_wp2
   go_ret;exact ⟨_,_,rfl,ho,hb⟩
theorem eqByteS_any (A A':Option Addr) (xs ys:List Int) (c c' B:Nat) (w:World) (hr:Rd w B A (ints .u8 xs)) (hr':Rd w B A' (ints .u8 ys)) (hm:xs.length<=maxLen) (hm':ys.length<=maxLen):
  Calls Tryz.prog 199 #[.slice A xs.length c,.slice A' ys.length c'] w fun e w'=>e=.returned (.bool (xs == ys))/\∃ n,w'=w.drewN n:=by
 unfold maxLen at hm hm'
 by_cases hl:xs.length=ys.length
 ·have h0:(((xs.length:Nat):Int) != (ys.length:Nat))=false:=by simp; omega
  go_enter Tryz.func199,Tryz.ntmps199
  go_wp2
  clear h0;have HL:=h_ hl
  go_loopw [5] (fun i wr=>∃ k:Nat,k<=xs.length/\i=.int .i64 k/\xs.take k=ys.take k/\∃ n,wr=w.drewN n) (fun i _=>xs.length - (intOf i).toNat)
  case atStart=>exact ⟨0,Nat.zero_le _,rfl,rfl,0,rfl⟩
  case round=>
   obtain ⟨k,hk,rfl,he,n,rfl⟩:=hrel;have HE:=h_ he;clear he hl
   by_cases hlt:k<xs.length
   ·obtain ⟨b,off,rfl,_,hc⟩:=hr.int hlt;obtain ⟨b',off',rfl,_,hc'⟩:=hr'.int (i:=k) (by have:=HL.o; omega);clear hr hr'
    have hlt':k<ys.length:=by have:=HL.o; omega
    by_cases hxy:xs[k]=ys[k]
    ·have HE':=h_ (show xs.take (k+1)=ys.take (k+1) by rw [take_succ hlt,take_succ hlt',HE.o,hxy])
     have hn:(xs[k] != ys[k])=false:=by simpa using hxy
     clear hxy
     go_wp2_with fail
     go_quiet (fail)
     go_wp2
     go_roundw
     case rel=>exact ⟨k+1,by omega,by go_num,HE'.o,_,rfl⟩
     case measure=>simp [intOf]; omega
    ·have hn:(xs[k] != ys[k])=true:=by simpa using hxy
     have HF:=h_ (show (xs == ys)=false by
      apply beq_eq_false_iff_ne.2
      intro e;subst e
      exact hxy rfl)
     clear hxy
     go_wp2_with fail
     go_quiet (fail)
     go_wp2
     go_ret;exact ⟨ret_bool HF.o.symm,_,World.drewN_drewN ..⟩
   ·have HF:=h_ (show (xs == ys)=true by
     have e:=HE.o;have:=HL.o;rw [List.take_of_length_le (by omega),List.take_of_length_le (by omega)] at e;subst e
     simp)
    clear hr hr'
    go_wp2
    go_ret;exact ⟨ret_bool HF.o.symm,_,rfl⟩
 ·have h1:(((xs.length:Nat):Int) != (ys.length:Nat))=true:=by simp; omega
  have h2:(xs == ys)=false:=by simp; intro e; exact hl (by rw [e])
  have H2:=h_ h2;clear h2 hl
  go_enter Tryz.func199,Tryz.ntmps199
  go_wp2
  go_ret;exact ⟨ret_bool H2.o.symm,0,rfl⟩

def marks (k0:Int) (n:Nat):List Int:=(List.range n).map fun (i:Nat)=>(k0+(i:Int)) % 256
theorem marks_len (k0:Int) (n:Nat):(marks k0 n).length=n:=by simp [marks]
theorem marks_at (k0:Int) (n i:Nat) (h:i<n):(marks k0 n)[i]'(by rw [marks_len]; exact h)=(k0+i) % 256:=by simp [marks]
theorem marks_set (k0:Int) (n i:Nat) (xs:List Int) (h:i<xs.length) (hn:xs.length=n):(marks k0 i++xs.drop i).set i ((k0+i) % 256)=marks k0 (i+1)++xs.drop (i+1):=by
 rw [List.set_append_right _ _ (by rw [marks_len]; exact Nat.le_refl _),marks_len,Nat.sub_self,List.drop_eq_getElem_cons h,List.set_cons_zero];simp [marks,List.range_succ]
theorem mark_any (base:Nat) (A:Option Addr) (c:Nat) (xs:List Int) (k0:Int) (w:World) (h0:0<=k0) (hk0:k0<=4294967296) (hm:xs.length<=4294967296)
  (hown:w.ownsRow base 5 1 (.slice A xs.length c) xs.length (ints .u8 xs)):
  Calls Tryz.prog 130 #[.slice A xs.length c,.int .i64 k0] w fun e w'=>e=.returned (.int .i64 (k0+xs.length))/\w'.ownsRow base 5 1 (.slice A xs.length c) xs.length (ints .u8 (marks k0 xs.length))/\w.grownBy w' (Value.slice A xs.length c).ownBlock:=by
 go_enter Tryz.func130,Tryz.ntmps130
 go_wp2
 have hg0:=World.grownBy.refl w (Value.slice A xs.length c).ownBlock
 go_loopw [1,5] (fun k i wr=>∃ j:Nat,j<=xs.length/\i=.int .i64 j/\k=.int .i64 (k0+j)/\wr.ownsRow base 5 1 (.slice A xs.length c) xs.length (ints .u8 (marks k0 j++xs.drop j))/\w.grownBy wr (Value.slice A xs.length c).ownBlock) (fun _ i _=>xs.length - (intOf i).toNat)
 case atStart=>exact ⟨0,Nat.zero_le _,rfl,by simp,by simpa [marks] using hown,hg0⟩
 case round=>
  obtain ⟨j,hj,rfl,rfl,ho,hg⟩:=hrel;clear hown hg0
  by_cases hlt:j<xs.length
  ·have hform:∃ g,A=some ⟨g,0,none⟩:=by
    rcases ho.2 with ⟨hv,h0⟩ | ⟨g,cap,cur,hv,_⟩
    ·omega
    ·injection hv with hA;exact ⟨g,hA⟩
   obtain ⟨g,rfl⟩:=hform;have hs:=ho.stored j (.int .u8 ((k0+j) % 256));have hcell:=ho.cellAt j (by omega);have hfz:=ho.frozenAt j
   have hlen:(marks k0 j++xs.drop j).length=xs.length:=by rw [List.length_append,marks_len,List.length_drop]; omega
   have hold:(ints IntKind.u8 (marks k0 j++xs.drop j))[j]?=some (Value.int .u8 ((marks k0 j++xs.drop j)[j]'(by omega))):=by
    rw [List.getElem?_map,List.getElem?_eq_getElem (by omega)]; rfl
   rw [hold] at hcell;generalize ((marks k0 j++xs.drop j)[j]'(by omega))=old at hcell;rw [setInts,marks_set k0 xs.length j xs hlt rfl] at hs;obtain ⟨ho',hg'⟩:=hs
   have HH:=h_ (And.intro ho' (show w.grownBy _ (some g) from
    ⟨hg'.os.trans hg.os,hg'.tape.trans hg.tape,hg'.output.trans hg.output,Nat.le_trans hg.size hg'.size,fun k hk hne=>(hg'.block k (Nat.lt_of_lt_of_le hk hg.size) hne).trans (hg.block k hk (by simpa [Value.ownBlock] using hne))⟩))
   clear hold ho' hg' hg ho hlen
   have e1:k0+(j:Int)+1=k0+((j+1:Nat):Int):=by omega
   have E1:=h_ e1;clear e1
   go_wp2
   refine ⟨⟨j+1,by omega,by go_num,by rw [E1.o],HH.o.1,HH.o.2⟩,by simp [intOf]; omega⟩
  ·have e:j=xs.length:=by omega
   subst e;rw [List.drop_length,List.append_nil] at ho
   go_wp2
   go_ret;exact ⟨rfl,ho,hg⟩
theorem held_any (B:Nat) (A:Option Addr) (c n:Nat) (k0:Int) (w:World) (h0:0<=k0) (hk0:k0<=4294967296) (hm:n<=4294967296) (hr:Rd w B A (ints .u8 (marks k0 n))):
  Calls Tryz.prog 132 #[.slice A n c,.int .i64 k0] w (Pure (.int .i64 (k0+n)) w):=by
 go_enter Tryz.func132,Tryz.ntmps132
 go_wp2
 go_loop [1,5] (fun k i=>∃ j:Nat,j<=n/\i=.int .i64 j/\k=.int .i64 (k0+j)) (fun _ i=>n - (intOf i).toNat)
 case atStart=>exact ⟨0,Nat.zero_le _,rfl,by simp⟩
 case round=>
  obtain ⟨j,hj,rfl,rfl⟩:=hrel
  by_cases hlt:j<n
  ·obtain ⟨b,off,rfl,_,hc⟩:=hr.int (i:=j) (by rw [marks_len]; exact hlt);rw [marks_at _ _ _ hlt] at hc
   have hne:((k0+(j:Int)) % 256 != (k0+(j:Int)) % 256)=false:=by simp
   have E1:=h_ (show k0+(j:Int)+1=k0+((j+1:Nat):Int) by omega);clear hr
   go_wp2
   go_round
   case rel=>exact ⟨j+1,by omega,by go_num,by rw [E1.o]⟩
   case measure=>simp [intOf]; omega
  ·have e:j=n:=by omega
   subst e;clear hr
   go_wp2
   go_ret;exact ⟨rfl,rfl⟩
end CBytes
/- Objects in memory: what is read,what is the call's own. -/
namespace BObj
open Kit CFixups CSymbols PObj
theorem info:(Tryz.prog.info? 61).map (fun i=>(i.zero,i.size,i.bytes))=some (some (.agg #[.string ByteArray.empty,.int .i64 0,.int .i64 0,.slice none 0 0,.int .i64 0,.slice none 0 0]),6,88):=by kernel_rfl
def RwS (w:World) (base:Nat) (p:SV):Prop:=Row w base 5 1 p.A p.zs.length p.c (ints .u8 p.zs)/\Row w base 65 4 p.F p.fs.length p.fc (cellsOf fixupC p.fs)
def RdS (w:World) (B:Nat) (p:SV):Prop:=Rd w B p.A (ints .u8 p.zs)/\Rd w B p.F (cellsOf fixupC p.fs)
def ApS (p q:SV):Prop:=Apart p.A p.c q.A q.c/\Apart p.F p.fc q.F q.fc
def RwSs (w:World) (base:Nat) (ps:List SV):Prop:=∀ p ∈ ps,RwS w base p
def RdSs (w:World) (B:Nat) (A:Option Addr) (ps:List SV):Prop:=Rd w B A (cellsOf secC ps)/\∀ p ∈ ps,RdS w B p
def PwSs (ps:List SV):Prop:=ps.Pairwise ApS
def OwnSs (w:World) (base:Nat) (A:Option Addr) (c:Nat) (ps:List SV):Prop:=Row w base 61 6 A ps.length c (cellsOf secC ps)/\RwSs w base ps/\PwSs ps
def RdO (w:World) (B:Nat) (o:OV):Prop:=RdSs w B o.A o.ps/\Rd w B o.Y (cellsOf symbolC o.ys)
def OwnO (w:World) (base:Nat) (o:OV):Prop:=OwnSs w base o.A o.c o.ps/\Row w base 67 4 o.Y o.ys.length o.yc (cellsOf symbolC o.ys)
def sblk (p:SV) (k:Nat):Prop:=blk p.A p.c=some k\/blk p.F p.fc=some k
def ssblk (A:Option Addr) (c:Nat) (ps:List SV) (k:Nat):Prop:=blk A c=some k\/∃ p ∈ ps,sblk p k
def oblk (o:OV) (k:Nat):Prop:=ssblk o.A o.c o.ps k\/blk o.Y o.yc=some k
section
variable {w w':World} {B B' base:Nat} {A:Option Addr} {c:Nat} {ps:List SV} {p:SV} {o:OV}
theorem RdS.below (h:RdS w B p) (hb:Below B w w'):RdS w' B p:=⟨h.1.below hb,h.2.below hb⟩
theorem RdS.more (h:RdS w B p) (hB:B<=B'):RdS w B' p:=⟨h.1.more hB,h.2.more hB⟩
theorem RdSs.below (h:RdSs w B A ps) (hb:Below B w w'):RdSs w' B A ps:=⟨h.1.below hb,fun p hp=>(h.2 p hp).below hb⟩
theorem RdSs.more (h:RdSs w B A ps) (hB:B<=B'):RdSs w B' A ps:=⟨h.1.more hB,fun p hp=>(h.2 p hp).more hB⟩
theorem RdO.below (h:RdO w B o) (hb:Below B w w'):RdO w' B o:=⟨h.1.below hb,h.2.below hb⟩
theorem RdO.more (h:RdO w B o) (hB:B<=B'):RdO w B' o:=⟨h.1.more hB,h.2.more hB⟩
theorem RwS.rd (h:RwS w base p):RdS w w.heap.size p:=⟨h.1.rd,h.2.rd⟩
theorem OwnSs.rd (h:OwnSs w base A c ps):RdSs w w.heap.size A ps:=⟨h.1.rd,fun p hp=>(h.2.1 p hp).rd⟩
theorem OwnO.rd (h:OwnO w base o):RdO w w.heap.size o:=⟨h.1.rd,h.2.rd⟩
theorem RwS.lt (h:RwS w base p):∀ k,sblk p k->base<=k/\k<w.heap.size:=by
 rintro k (hk | hk)
 ·exact h.1.lt k hk
 ·exact h.2.lt k hk
theorem OwnSs.lt (h:OwnSs w base A c ps):∀ k,ssblk A c ps k->base<=k/\k<w.heap.size:=by
 rintro k (hk | ⟨p,hp,hk⟩)
 ·exact h.1.lt k hk
 ·exact (h.2.1 p hp).lt k hk
theorem OwnO.lt (h:OwnO w base o):∀ k,oblk o k->base<=k/\k<w.heap.size:=by
 rintro k (hk | hk)
 ·exact h.1.lt k hk
 ·exact h.2.lt k hk
theorem RwS.keep (h:RwS w base p) (hk:∀ k,sblk p k->w'.heap[k]?=w.heap[k]?):RwS w' base p:=⟨h.1.keep fun k hb=>hk k (.inl hb),h.2.keep fun k hb=>hk k (.inr hb)⟩
theorem RwS.call (h:RwS w base p) (hb:Below w.heap.size w w'):RwS w' base p:=h.keep fun k hk=>hb.block k (h.lt k hk).2
theorem RwS.down {b:Nat} (h:RwS w base p) (hb:b<=base):RwS w b p:=⟨h.1.down hb,h.2.down hb⟩
theorem RwS.set (h:RwS w base p) {a:Addr} (ha:∀ k,sblk p k->k ≠ a.block) (u:Value):RwS (w.setCell a u) base p:=h.keep fun k hk=>Below.heap_setCell w a u k (ha k hk)
theorem RwS.gp {q:Nat->Prop} (g:Gp q w w') (h:RwS w base p) (hp:∀ k,sblk p k->¬ q k):RwS w' base p:=h.keep fun k hk=>g.block k (h.lt k hk).2 (hp k hk)
theorem RwSs.call (h:RwSs w base ps) (hb:Below w.heap.size w w'):RwSs w' base ps:=fun p hp=>(h p hp).call hb
theorem RwSs.down {b:Nat} (h:RwSs w base ps) (hb:b<=base):RwSs w b ps:=fun p hp=>(h p hp).down hb
theorem OwnSs.keep (h:OwnSs w base A c ps) (hk:∀ k,ssblk A c ps k->w'.heap[k]?=w.heap[k]?):OwnSs w' base A c ps:=
 ⟨h.1.keep fun k hb=>hk k (.inl hb),fun p hp=>(h.2.1 p hp).keep fun k hb=>hk k (.inr ⟨p,hp,hb⟩),h.2.2⟩
theorem OwnSs.call (h:OwnSs w base A c ps) (hb:Below w.heap.size w w'):OwnSs w' base A c ps:=h.keep fun k hk=>hb.block k (h.lt k hk).2
theorem OwnSs.down {b:Nat} (h:OwnSs w base A c ps) (hb:b<=base):OwnSs w b A c ps:=⟨h.1.down hb,h.2.1.down hb,h.2.2⟩
theorem OwnO.keep (h:OwnO w base o) (hk:∀ k,oblk o k->w'.heap[k]?=w.heap[k]?):OwnO w' base o:=⟨h.1.keep fun k hb=>hk k (.inl hb),h.2.keep fun k hb=>hk k (.inr hb)⟩
theorem OwnO.call (h:OwnO w base o) (hb:Below w.heap.size w w'):OwnO w' base o:=h.keep fun k hk=>hb.block k (h.lt k hk).2
theorem OwnO.down {b:Nat} (h:OwnO w base o) (hb:b<=base):OwnO w b o:=⟨h.1.down hb,h.2.down hb⟩
theorem OwnO.gp {q:Nat->Prop} (g:Gp q w w') (h:OwnO w base o) (hp:∀ k,oblk o k->¬ q k):OwnO w' base o:=h.keep fun k hk=>g.block k (h.lt k hk).2 (hp k hk)
theorem RwSs.snoc {q:SV} (h:RwSs w base ps) (hq:RwS w base q):RwSs w base (ps++[q]):=by
 intro p hp
 rcases List.mem_append.1 hp with hp | hp
 ·exact h p hp
 ·obtain rfl:=List.mem_singleton.1 hp;exact hq
theorem PwSs.snoc {q:SV} {N:Nat} (h:PwSs ps) (h1:∀ p ∈ ps,∀ k,sblk p k->k<N) (h2:∀ k,sblk q k->N<=k):PwSs (ps++[q]):=by
 refine List.pairwise_append.2 ⟨h,List.pairwise_singleton _ _,fun a ha b hb=>?_⟩;obtain rfl:=List.mem_singleton.1 hb;refine ⟨fun k hk hk'=>?_,fun k hk hk'=>?_⟩
 ·have e1:=h1 a ha k (.inl hk);have e2:=h2 k (.inl hk');omega
 ·have e1:=h1 a ha k (.inr hk);have e2:=h2 k (.inr hk');omega
theorem RwS.box (h:RwS w base p) {X:Nat} {t:TypeId} {cs:Array Value} (hb:Box w X t cs) (h1:5 ≠ t) (h2:65 ≠ t):∀ k,sblk p k->k ≠ X:=by
 rintro k (hk | hk)
 ·exact h.1.box hb h1 k hk
 ·exact h.2.box hb h2 k hk
end
theorem box_of_own {w:World} {base g n c size:Nat} {e:TypeId} {xs:List Value} (h:w.ownsRow base e size (.slice (some ⟨g,0,none⟩) n c) n xs):∃ cs,Box w g e cs:=by
 rcases h.2 with ⟨hv,_⟩ | ⟨g',cap,cur,hv,_,hg,_⟩
 ·cases hv
 ·injection hv with hA;simp only [Option.some.injEq,Addr.mk.injEq,and_true] at hA;subst hA;exact ⟨cur,hg⟩
theorem cells_snoc (qs:List SV) (q:SV):cellsOf secC (qs++[q])=cellsOf secC qs++secC q:=by simp [cellsOf]
def put6 (w:World) (Y:Nat) (i:Nat) (v0 v1 v2 v3 v4 v5:Value):World:=(((((w.setCell ⟨Y,i,none⟩ v0).setCell ⟨Y,i+1,none⟩ v1).setCell ⟨Y,i+2,none⟩ v2).setCell ⟨Y,i+3,none⟩ v3).setCell ⟨Y,i+4,none⟩ v4).setCell ⟨Y,i+5,none⟩ v5
section
variable {w a:World} {B Y i:Nat} {v0 v1 v2 v3 v4 v5:Value}
theorem put6_below (h:Below B a w) (hY:B<=Y):Below B a (put6 w Y i v0 v1 v2 v3 v4 v5):=
 (((((h.setCell (p:=⟨Y,i,none⟩) hY v0).setCell (p:=⟨Y,i+1,none⟩) hY v1).setCell (p:=⟨Y,i+2,none⟩) hY v2).setCell (p:=⟨Y,i+3,none⟩) hY v3).setCell (p:=⟨Y,i+4,none⟩) hY v4).setCell (p:=⟨Y,i+5,none⟩) hY v5
theorem put6_rwS {base:Nat} {p:SV} (h:RwS w base p) (hk:∀ k,sblk p k->k ≠ Y):RwS (put6 w Y i v0 v1 v2 v3 v4 v5) base p:=
 (((((h.set (a:=⟨Y,i,none⟩) hk v0).set (a:=⟨Y,i+1,none⟩) hk v1).set (a:=⟨Y,i+2,none⟩) hk v2).set (a:=⟨Y,i+3,none⟩) hk v3).set (a:=⟨Y,i+4,none⟩) hk v4).set (a:=⟨Y,i+5,none⟩) hk v5
theorem put6_box {t:TypeId} {u0 u1 u2 u3 u4 u5:Value} (h:Box w Y t #[u0,u1,u2,u3,u4,u5]):Box (put6 w Y 0 v0 v1 v2 v3 v4 v5) Y t #[v0,v1,v2,v3,v4,v5]:=
 (((((h.set 0 v0).set 1 v1).set 2 v2).set 3 v3).set 4 v4).set 5 v5
end
theorem six_box {w:World} {Y:Nat} {t:TypeId} {u0 u1 u2 u3 u4 u5:Value} (h:Box w Y t #[u0,u1,u2,u3,u4,u5]) (v0 v1 v2 v3 v4 v5:Value):
  Box ((((((w.setCell ⟨Y,0,none⟩ v0).setCell ⟨Y,1,none⟩ v1).setCell ⟨Y,2,none⟩ v2).setCell ⟨Y,3,none⟩ v3).setCell ⟨Y,4,none⟩ v4).setCell ⟨Y,5,none⟩ v5) Y t #[v0,v1,v2,v3,v4,v5]:=
 (((((h.set 0 v0).set 1 v1).set 2 v2).set 3 v3).set 4 v4).set 5 v5
def RetS (p:SD) (w:World) (e:Ending) (w':World):Prop:=∃ q:SV,e=.returned (.agg (secC q).toArray)/\q.d=p/\RwS w' w.heap.size q/\Below w.heap.size w w'
def RetSs (ds:List SD) (w:World) (e:Ending) (w':World):Prop:=∃ A c qs,e=.returned (.slice A qs.length c)/\qs.map SV.d=ds/\OwnSs w' w.heap.size A c qs/\Below w.heap.size w w'
def RetO (d:OD) (w:World) (e:Ending) (w':World):Prop:=∃ o:OV,e=.returned o.v/\o.d=d/\OwnO w' w.heap.size o/\Below w.heap.size w w'
end BObj
/- Contracts of the laws' helpers on one Section: the copy,the comparison of equal data,the size. -/
namespace CSection
open Kit CFixups CSymbols PObj BObj
theorem toSection_any (p:SV) (w:World) (hr:RdS w w.heap.size p) (h1:p.zs.length<=1048576) (h2:p.fs.length<=1048576):
  Calls Tryz.prog 170 #[.agg #[.string p.nm,.int .i64 p.kd,.int .i64 p.al,.slice p.A p.zs.length p.c,.int .i64 p.sz,.slice p.F p.fs.length p.fc]] w (RetS p.d w):=by
 obtain ⟨nm,kd,al,A,c,zs,sz,F,fc,fs⟩:=p;simp only at h1 h2 ⊢;have HR:=h_ hr;clear hr;have HY:=(Box.new (w.alloc (.cells #[.string nm,.int .i64 kd,.int .i64 al,.slice A zs.length c,.int .i64 sz,.slice F fs.length fc] 175)) 61 #[.string ⟨#[]⟩,.int .i64 0,.int .i64 0,.slice none 0 0,.int .i64 0,.slice none 0 0]).alloc (.cells #[.string nm,.int .i64 kd,.int .i64 al,.slice none 0 0,.int .i64 0,.slice none 0 0] 61);have HZ:=Box.new ((w.alloc (.cells #[.string nm,.int .i64 kd,.int .i64 al,.slice A zs.length c,.int .i64 sz,.slice F fs.length fc] 175)).alloc (.cells #[.string ⟨#[]⟩,.int .i64 0,.int .i64 0,.slice none 0 0,.int .i64 0,.slice none 0 0] 61)) 61 #[.string nm,.int .i64 kd,.int .i64 al,.slice none 0 0,.int .i64 0,.slice none 0 0];have HV:=((Box.new w 175 #[.string nm,.int .i64 kd,.int .i64 al,.slice A zs.length c,.int .i64 sz,.slice F fs.length fc]).alloc (.cells #[.string ⟨#[]⟩,.int .i64 0,.int .i64 0,.slice none 0 0,.int .i64 0,.slice none 0 0] 61)).alloc (.cells #[.string nm,.int .i64 kd,.int .i64 al,.slice none 0 0,.int .i64 0,.slice none 0 0] 61);have B0:Below w.heap.size w (((w.alloc (.cells #[.string nm,.int .i64 kd,.int .i64 al,.slice A zs.length c,.int .i64 sz,.slice F fs.length fc] 175)).alloc (.cells #[.string ⟨#[]⟩,.int .i64 0,.int .i64 0,.slice none 0 0,.int .i64 0,.slice none 0 0] 61)).alloc (.cells #[.string nm,.int .i64 kd,.int .i64 al,.slice none 0 0,.int .i64 0,.slice none 0 0] 61)):=b_;simp only [World.size_alloc] at HY HZ
 have hYX:w.heap.size+1<w.heap.size+1+1:=by omega
 have hVY:w.heap.size<w.heap.size+1:=by omega
 have HB:=h_ B0;clear B0
 go_enter Tryz.func170,Tryz.ntmps170
 go_wp2_with fail
 generalize (((w.alloc (.cells #[.string nm,.int .i64 kd,.int .i64 al,.slice A zs.length c,.int .i64 sz,.slice F fs.length fc] 175)).alloc (.cells #[.string ⟨#[]⟩,.int .i64 0,.int .i64 0,.slice none 0 0,.int .i64 0,.slice none 0 0] 61)).alloc (.cells #[.string nm,.int .i64 kd,.int .i64 al,.slice none 0 0,.int .i64 0,.slice none 0 0] 61))=w0 at *;generalize w.heap.size+1+1=X at *;generalize w.heap.size+1=Y at *;refine (CBytes.toByteS_any A zs c w0 ((HR.o.1.below HB.o).more HB.o.size) h1).mono ?_;rintro e w1 ⟨A1,c1,rfl,o1,b1⟩;have HY1:=h_ (HY.call b1);have HZ1:=h_ (HZ.call b1);have HV1:=h_ (HV.call b1);have HB1:=h_ (HB.o.trans (b1.mono HB.o.size));have HO:=h_ (show Row w1 w0.heap.size 5 1 A1 zs.length c1 (ints .u8 zs) from .inr o1);have hX0:X<w0.heap.size:=HZ.lt;have z3:=HZ1.o.cell 3;have z4:=HZ1.o.cell 4;have z5:=HZ1.o.cell 5;have zf3:=HZ1.o.frozen 3;have zf4:=HZ1.o.frozen 4;have zf5:=HZ1.o.frozen 5;have v4:=HV1.o.cell 4;have v5:=HV1.o.cell 5;simp only [g_] at z3 z4 z5 v4 v5;clear HY HZ HV o1 b1 HB
 have hne:w.heap.size ≠ X:=by omega
 have hnY:Y ≠ X:=by omega
 have hle:w.heap.size<=X:=by omega
 go_wp2_with fail
 have HB2:=h_ ((HB1.o.setCell (p:=⟨X,3,none⟩) hle (.slice A1 zs.length c1)).setCell (p:=⟨X,4,none⟩) hle (.int .i64 sz))
 have hk1:∀ k,blk A1 c1=some k->k ≠ X:=fun k hk=>by have:=(HO.o.lt k hk).1; omega
 have HO2:=h_ ((HO.o.set (a:=⟨X,3,none⟩) hk1 (.slice A1 zs.length c1)).set (a:=⟨X,4,none⟩) hk1 (.int .i64 sz));have HY2:=h_ ((HY1.o.far (p:=⟨X,3,none⟩) hnY (.slice A1 zs.length c1)).far (p:=⟨X,4,none⟩) hnY (.int .i64 sz));have HZ2:=h_ (show Box ((w1.setCell ⟨X,3,none⟩ (.slice A1 zs.length c1)).setCell ⟨X,4,none⟩ (.int .i64 sz)) X 61 #[.string nm,.int .i64 kd,.int .i64 al,.slice A1 zs.length c1,.int .i64 sz,.slice none 0 0] from (HZ1.o.set 3 (.slice A1 zs.length c1)).set 4 (.int .i64 sz));clear HB1 HO HY1 HZ1 HV1 z3 z4 z5 zf3 zf4 zf5 v4 v5;generalize (w1.setCell ⟨X,3,none⟩ (.slice A1 zs.length c1)).setCell ⟨X,4,none⟩ (.int .i64 sz)=w2 at *;refine (toFixupS_any F fs fc w2 ((HR.o.2.below HB2.o).more HB2.o.size) h2).mono ?_;rintro e w3 ⟨F1,fc1,rfl,o3,b3⟩;have HB3:=h_ (HB2.o.trans (b3.mono HB2.o.size));have HO3:=h_ (HO2.o.call b3);have HF3:=h_ (show Row w3 w2.heap.size 65 4 F1 fs.length fc1 (cellsOf fixupC fs) from .inr o3);have HY3:=h_ (HY2.o.call b3);have HZ3:=h_ (HZ2.o.call b3);have hX2:X<w2.heap.size:=HZ2.o.lt;have hZ3:=HZ3.o.lt;have hY3:=HY3.o.lt;have z0:=HZ3.o.cell 0;have z1:=HZ3.o.cell 1;have z2:=HZ3.o.cell 2;have z3:=HZ3.o.cell 3;have z4:=HZ3.o.cell 4;have z5:=HZ3.o.cell 5;have zf5:=HZ3.o.frozen 5;have y0:=HY3.o.cell 0;have y1:=HY3.o.cell 1;have y2:=HY3.o.cell 2;have y3:=HY3.o.cell 3;have y4:=HY3.o.cell 4;have y5:=HY3.o.cell 5;have yf0:=HY3.o.frozen 0;have yf1:=HY3.o.frozen 1;have yf2:=HY3.o.frozen 2;have yf3:=HY3.o.frozen 3;have yf4:=HY3.o.frozen 4;have yf5:=HY3.o.frozen 5;simp only [g_] at z0 z1 z2 z3 z4 z5 y0 y1 y2 y3 y4 y5;have hk2:∀ k,blk A1 c1=some k->k ≠ X:=hk1
 have hk3:∀ k,blk F1 fc1=some k->k ≠ X:=fun k hk=>by have:=(HF3.o.lt k hk).1; omega
 have hk4:∀ k,blk A1 c1=some k->k ≠ Y:=fun k hk=>by have:=(HO3.o.lt k hk).1; omega
 have hk5:∀ k,blk F1 fc1=some k->k ≠ Y:=fun k hk=>by have:=(HF3.o.lt k hk).1; omega
 have HQ:=h_ (show RwS (w3.setCell ⟨X,5,none⟩ (.slice F1 fs.length fc1)) w.heap.size ⟨nm,kd,al,A1,c1,zs,sz,F1,fc1,fs⟩ from ⟨(HO3.o.set (a:=⟨X,5,none⟩) hk2 _).down (by omega),(HF3.o.set (a:=⟨X,5,none⟩) hk3 _).down HB2.o.size⟩);have HB4:=h_ (HB3.o.setCell (p:=⟨X,5,none⟩) hle (.slice F1 fs.length fc1));have HY4:=h_ (HY3.o.far (p:=⟨X,5,none⟩) hnY (.slice F1 fs.length fc1))
 have hse:∀ k,sblk ⟨nm,kd,al,A1,c1,zs,sz,F1,fc1,fs⟩ k->k ≠ Y:=by
  rintro k (hk | hk)
  ·exact hk4 k hk
  ·exact hk5 k hk
 have HE:=h_ hse;clear hse hk1 hk2 hk3 hk4 hk5 b3 o3 HO3 HF3 HB2 HB3 HO2 HY2 HZ2 HY3 HZ3;have k:=six_box HY4.o (.string nm) (.int .i64 kd) (.int .i64 al) (.slice A1 zs.length c1) (.int .i64 sz) (.slice F1 fs.length fc1);have k0:=d_ k 0;have k1:=d_ k 1;have k2:=d_ k 2;have k3:=d_ k 3;have k4:=d_ k 4;have k5:=d_ k 5;clear k
 go_wp2_with fail
 exact bodyPost_ret (v:=.agg (secC ⟨nm,kd,al,A1,c1,zs,sz,F1,fc1,fs⟩).toArray) (by simp [results,Tryz.results170,go_sem,secC,k0,k1,k2,k3,k4,k5]) rfl ⟨⟨nm,kd,al,A1,c1,zs,sz,F1,fc1,fs⟩,rfl,rfl,put6_rwS HQ.o HE.o,put6_below HB4.o (Nat.le_of_lt hVY)⟩
theorem eqSection_same (p q:SV) (w:World) (h:RdS w w.heap.size p) (h':RdS w w.heap.size q) (hd:p.d=q.d) (h1:p.zs.length<=maxLen) (h2:p.fs.length<=maxLen):
  Calls Tryz.prog 172 #[.agg (secC p).toArray,.agg (secC q).toArray] w (Ret (.bool true) w):=by
 obtain ⟨nm,kd,al,A,c,zs,sz,F,fc,fs⟩:=p;obtain ⟨nm',kd',al',A',c',zs',sz',F',fc',fs'⟩:=q;simp only [SV.d,SD.mk.injEq] at hd;obtain ⟨rfl,rfl,rfl,rfl,rfl,rfl⟩:=hd;simp only [secC] at h1 h2 ⊢;have B0:Below w.heap.size w ((w.alloc (.cells #[.string nm,.int .i64 kd,.int .i64 al,.slice A zs.length c,.int .i64 sz,.slice F fs.length fc] 61)).alloc (.cells #[.string nm,.int .i64 kd,.int .i64 al,.slice A' zs.length c',.int .i64 sz,.slice F' fs.length fc'] 61)):=b_;have X0:=(Box.new w 61 #[.string nm,.int .i64 kd,.int .i64 al,.slice A zs.length c,.int .i64 sz,.slice F fs.length fc]).alloc (.cells #[.string nm,.int .i64 kd,.int .i64 al,.slice A' zs.length c',.int .i64 sz,.slice F' fs.length fc'] 61);have Y0:=Box.new (w.alloc (.cells #[.string nm,.int .i64 kd,.int .i64 al,.slice A zs.length c,.int .i64 sz,.slice F fs.length fc] 61)) 61 #[.string nm,.int .i64 kd,.int .i64 al,.slice A' zs.length c',.int .i64 sz,.slice F' fs.length fc'];simp only [World.size_alloc] at Y0;have HB:=h_ B0;have HR:=h_ (And.intro h h');clear B0 h h'
 go_enter Tryz.func172,Tryz.ntmps172
 go_wp2_with fail
 generalize (w.alloc (.cells #[.string nm,.int .i64 kd,.int .i64 al,.slice A zs.length c,.int .i64 sz,.slice F fs.length fc] 61)).alloc (.cells #[.string nm,.int .i64 kd,.int .i64 al,.slice A' zs.length c',.int .i64 sz,.slice F' fs.length fc'] 61)=w0 at *;refine (CBytes.eqByteS_any A A' zs zs c c' _ _ ((HR.o.1.1.below HB.o).more HB.o.size) ((HR.o.2.1.below HB.o).more HB.o.size) h1 h1).mono ?_;rintro e w1 ⟨rfl,n1,rfl⟩;simp only [beq_self_eq_true];have HB1:=h_ (Kit.Below.drewN HB.o n1);have X1:=X0.drewN n1;have Y1:=Y0.drewN n1;generalize w0.drewN n1=w1 at *;have x4:=d_ X1 4;have x5:=d_ X1 5;have y4:=d_ Y1 4;have y5:=d_ Y1 5;clear X0 Y0 X1 Y1 HB
 go_wp2_with fail
 refine (eqFixupS_same F F' fs fc fc' _ ((HR.o.1.2.below HB1.o).more HB1.o.size) ((HR.o.2.2.below HB1.o).more HB1.o.size) h2).mono ?_;rintro e w2 ⟨rfl,b2⟩;have HB2:=h_ (HB1.o.trans (b2.mono HB1.o.size));clear b2
 go_wp2_with fail
 go_ret;exact ⟨rfl,HB2.o⟩
def szI (left:Int) (n:Nat):Int:=if left - n<0 then -1 else left - n
theorem szByteS_any (A:Option Addr) (n c:Nat) (left:Int) (w:World) (h0:0<=left) (h1:left<=1048576) (hn:n<=maxLen):Calls Tryz.prog 195 #[.slice A n c,.int .i64 left] w (Ret (.int .i64 (szI left n)) w):=by
 unfold maxLen at hn;unfold szI
 by_cases h:left - n<0
 ·rw [if_pos h]
  go_enter Tryz.func195,Tryz.ntmps195
  go_wp2
  go_ret;exact ⟨rfl,b_⟩
 ·rw [if_neg h]
  go_enter Tryz.func195,Tryz.ntmps195
  go_wp2
  go_ret;exact ⟨rfl,b_⟩
theorem szFixupS_any (A:Option Addr) (n c:Nat) (left:Int) (w:World) (h0:0<=left) (h1:left<=1048576) (hn:n<=maxLen):Calls Tryz.prog 196 #[.slice A n c,.int .i64 left] w (Ret (.int .i64 (szI left n)) w):=by
 unfold maxLen at hn;unfold szI
 by_cases h:left - n<0
 ·rw [if_pos h]
  go_enter Tryz.func196,Tryz.ntmps196
  go_wp2
  go_ret;exact ⟨rfl,b_⟩
 ·rw [if_neg h]
  go_enter Tryz.func196,Tryz.ntmps196
  go_wp2
  go_ret;exact ⟨rfl,b_⟩
def szJ (left k:Int):Int:=if left - k<0 then -1 else left - k
theorem szJ_neg {left k:Int} (h:left - k<0):szJ left k=-1:=if_pos h
theorem szJ_pos {left k:Int} (h:¬ left - k<0):szJ left k=left - k:=if_neg h
theorem szSection_any (p:SV) (left:Int) (w:World) (h0:0<=left) (h1:left<=1048576) (hs:p.nm.size<=maxLen) (hn:p.zs.length<=maxLen) (hf:p.fs.length<=maxLen):
  Calls Tryz.prog 168 #[.agg #[.string p.nm,.int .i64 p.kd,.int .i64 p.al,.slice p.A p.zs.length p.c,.int .i64 p.sz,.slice p.F p.fs.length p.fc],.int .i64 left] w (Ret (.int .i64 (szJ left (wt p.d))) w):=by
 obtain ⟨nm,kd,al,A,c,zs,sz,F,fc,fs⟩:=p;have hw:wt (SV.d ⟨nm,kd,al,A,c,zs,sz,F,fc,fs⟩)=nm.size+zs.length+fs.length:=rfl;rw [hw];clear hw;simp only at hs hn hf ⊢;have HN:=h_ (And.intro hn hf);unfold maxLen at hs hn hf;have B0:Below w.heap.size w (w.alloc (.cells #[.string nm,.int .i64 kd,.int .i64 al,.slice A zs.length c,.int .i64 sz,.slice F fs.length fc] 175)):=b_;have X0:=Box.new w 175 #[.string nm,.int .i64 kd,.int .i64 al,.slice A zs.length c,.int .i64 sz,.slice F fs.length fc];have HB:=h_ B0;clear B0
 by_cases k0:left - nm.size<0
 ·rw [szJ_neg (by omega)]
  go_enter Tryz.func168,Tryz.ntmps168
  go_wp2_with fail
  go_ret;exact ⟨rfl,HB.o⟩
 by_cases k1:left - nm.size - zs.length<0
 ·rw [szJ_neg (by omega)]
  have e1:szI (left - nm.size) zs.length=-1:=by rw [szI,if_pos k1]
  go_enter Tryz.func168,Tryz.ntmps168
  go_wp2_with fail
  refine (szByteS_any A zs.length c (left - nm.size) _ (by omega) (by omega) HN.o.1).mono ?_;rintro e w1 ⟨rfl,b1⟩;rw [e1];have HB1:=h_ (HB.o.trans (b1.mono HB.o.size));clear b1 e1
  go_wp2_with fail
  go_ret;exact ⟨rfl,HB1.o⟩
 have e1:szI (left - nm.size) zs.length=left - nm.size - zs.length:=by rw [szI,if_neg k1]
 by_cases k2:left - nm.size - zs.length - fs.length<0
 ·rw [szJ_neg (by omega)]
  have e2:szI (left - nm.size - zs.length) fs.length=-1:=by rw [szI,if_pos k2]
  have HE:=h_ (And.intro e1 e2);clear e1 e2
  go_enter Tryz.func168,Tryz.ntmps168
  go_wp2_with fail
  refine (szByteS_any A zs.length c (left - nm.size) _ (by omega) (by omega) HN.o.1).mono ?_;rintro e w1 ⟨rfl,b1⟩;rw [HE.o.1];have HB1:=h_ (HB.o.trans (b1.mono HB.o.size));have X1:=X0.call b1;have x5:=d_ X1 5;clear b1 X0 X1
  go_wp2_with fail
  refine (szFixupS_any F fs.length fc (left - nm.size - zs.length) _ (by omega) (by omega) HN.o.2).mono ?_;rintro e w2 ⟨rfl,b2⟩;rw [HE.o.2];have HB2:=h_ (HB1.o.trans (b2.mono HB1.o.size));clear b2
  go_wp2_with fail
  go_ret;exact ⟨rfl,HB2.o⟩
 ·rw [szJ_pos (by omega)]
  have e2:szI (left - nm.size - zs.length) fs.length=left - nm.size - zs.length - fs.length:=by rw [szI,if_neg k2]
  have HE:=h_ (And.intro e1 e2);have HL:=h_ (show left - nm.size - zs.length - fs.length=left - (nm.size+zs.length+fs.length) by omega);clear e1 e2
  go_enter Tryz.func168,Tryz.ntmps168
  go_wp2_with fail
  refine (szByteS_any A zs.length c (left - nm.size) _ (by omega) (by omega) HN.o.1).mono ?_;rintro e w1 ⟨rfl,b1⟩;rw [HE.o.1];have HB1:=h_ (HB.o.trans (b1.mono HB.o.size));have X1:=X0.call b1;have x5:=d_ X1 5;clear b1 X0 X1
  go_wp2_with fail
  refine (szFixupS_any F fs.length fc (left - nm.size - zs.length) _ (by omega) (by omega) HN.o.2).mono ?_;rintro e w2 ⟨rfl,b2⟩;rw [HE.o.2];have HB2:=h_ (HB1.o.trans (b2.mono HB1.o.size));clear b2
  go_wp2_with fail
  go_ret;exact ⟨by rw [HL.o]; rfl,HB2.o⟩
end CSection
/- Contracts of the laws' helpers on []Section: the copy,the comparison of equal data,the size. -/
namespace CSections
open Kit CFixups CSymbols PObj BObj CSection
def Lim (p:SV):Prop:=p.zs.length<=1048576/\p.fs.length<=1048576
theorem toSectionS_any (A:Option Addr) (ps:List SV) (c:Nat) (w:World) (hr:RdSs w w.heap.size A ps) (hm:ps.length<=1048576) (hl:∀ p ∈ ps,Lim p):
  Calls Tryz.prog 126 #[.slice A ps.length c] w (RetSs (ps.map SV.d) w):=by
 obtain ⟨i0,hi,hz0,hz1,hz2⟩:=info_parts BObj.info
 go_enter Tryz.func126,Tryz.ntmps126
 go_wp2_with (at_make; refine wpList_make_full _ rfl _ _ _ rfl w.heap.size 61 i0 (.agg #[.string ByteArray.empty,.int .i64 0,.int .i64 0,.slice none 0 0,.int .i64 0,.slice none 0 0]) 6 Tryz.underlying23 hi hz0 hz1 .i64 .i64 _ _ ps.length rfl rfl rfl rfl ?c1 ?c2 ?c3 ?_)
 case c1=>rw [hz2]; omega
 case c2=>unfold maxLen; omega
 case c3=>exact Nat.le_refl _
 intro w1 hown hg;have hb1:Below w.heap.size w w1:=(Below.refl _ _).grown hg (Nat.le_refl _) (by intro k h; cases h);clear hg;have hown1:∃ xs,w1.ownsRow w.heap.size 61 6 (.slice (some ⟨w.heap.size,0,none⟩) ps.length ps.length) ps.length xs:=⟨_,hown⟩;clear hown
 go_wp2
 go_loopw [4] (fun i wr=>∃ (k:Nat) (qs:List SV),qs.length=k/\k<=ps.length/\i=.int .i64 k/\qs.map SV.d=(ps.take k).map SV.d/\(∃ xs,wr.ownsRow w.heap.size 61 6 (.slice (some ⟨w.heap.size,0,none⟩) ps.length ps.length) ps.length (cellsOf secC qs++xs))/\RwSs wr w.heap.size qs/\PwSs qs/\Below w.heap.size w wr) (fun i _=>ps.length - (intOf i).toNat)
 case atStart=>exact ⟨0,[],rfl,Nat.zero_le _,rfl,rfl,by simpa [cellsOf] using hown1,(fun p hp=>by cases hp),List.Pairwise.nil,hb1⟩
 case round=>
  obtain ⟨k,qs,hql,hk,rfl,hd,⟨xs,ho⟩,hrw,hpw,hb⟩:=hrel;clear hown1 hb1
  by_cases hlt:k<ps.length
  ·obtain ⟨b,off,rfl,hbg,hc⟩:=(hr.1.below hb).row secC_len (by decide) hlt;have hc0:=hc 0 _ rfl;have hc1:=hc 1 _ rfl;have hc2:=hc 2 _ rfl;have hc3:=hc 3 _ rfl;have hc4:=hc 4 _ rfl;have hc5:=hc 5 _ rfl;simp only [Nat.add_zero] at hc0;have hll:=ho.1;have HO:=h_ ho;have HB:=h_ hb;have HR:=h_ (((hr.2 _ (List.getElem_mem hlt)).below hb).more hb.size);have HM:=h_ (hl _ (List.getElem_mem hlt));have HW:=h_ (And.intro hrw hpw);have HD:=h_ (show (qs++[ps[k]]).map SV.d=(ps.take (k+1)).map SV.d by rw [take_succ hlt,List.map_append,List.map_append,hd]);clear hr ho hb hc hrw hpw hd;generalize ps[k]=p at *
   go_wp2_with fail
   refine (toSection_any p _ HR.o HM.o.1 HM.o.2).mono ?_;rintro e w2 ⟨q,rfl,hqd,r1,hb2⟩
   have HF:Hd (∀ p ∈ qs,∀ k,sblk p k->k ≠ w.heap.size):=h_ (by
    obtain ⟨cs,hbx⟩:=box_of_own HO.o
    exact fun p hp=>(HW.o.1 p hp).box hbx (by decide) (by decide))
   have ho:=own_call hb2 HO.o;have hb':=HB.o.trans (hb2.mono HB.o.size);obtain ⟨⟨old0,hk0⟩,hfz0⟩:=own_old ho (j:=k*6) (by omega);obtain ⟨⟨old1,hk1⟩,hfz1⟩:=own_old ho (j:=k*6+1) (by omega);obtain ⟨⟨old2,hk2⟩,hfz2⟩:=own_old ho (j:=k*6+2) (by omega);obtain ⟨⟨old3,hk3⟩,hfz3⟩:=own_old ho (j:=k*6+3) (by omega);obtain ⟨⟨old4,hk4⟩,hfz4⟩:=own_old ho (j:=k*6+4) (by omega);obtain ⟨⟨old5,hk5⟩,hfz5⟩:=own_old ho (j:=k*6+5) (by omega)
   have hpl:(cellsOf secC qs).length=k*6:=by rw [cellsOf_len secC_len,hql]
   have ho1:=own_put ho hpl (by omega) (.string q.nm);have ho2:=own_put ho1 (j:=k*6+1) (by simp only [List.length_append,hpl]; rfl) (by omega) (.int .i64 q.kd);have ho3:=own_put ho2 (j:=k*6+2) (by simp only [List.length_append,hpl]; rfl) (by omega) (.int .i64 q.al);have ho4:=own_put ho3 (j:=k*6+3) (by simp only [List.length_append,hpl]; rfl) (by omega) (.slice q.A q.zs.length q.c);have ho5:=own_put ho4 (j:=k*6+4) (by simp only [List.length_append,hpl]; rfl) (by omega) (.int .i64 q.sz);have ho6:=own_put ho5 (j:=k*6+5) (by simp only [List.length_append,hpl]; rfl) (by omega) (.slice q.F q.fs.length q.fc)
   have HF1:∀ k,sblk q k->k ≠ w.heap.size:=by
    obtain ⟨cs,hbx⟩:=box_of_own ho;exact r1.box hbx (by decide) (by decide)
   have HO':=h_ ho6;have HB':=h_ hb';have HW':=h_ (show RwSs (put6 w2 w.heap.size (k*6) (.string q.nm) (.int .i64 q.kd) (.int .i64 q.al) (.slice q.A q.zs.length q.c) (.int .i64 q.sz) (.slice q.F q.fs.length q.fc)) w.heap.size qs from fun x hx=>put6_rwS ((HW.o.1.call hb2) x hx) (HF.o x hx));have HQ':=h_ (put6_rwS (i:=k*6) (v0:=.string q.nm) (v1:=.int .i64 q.kd) (v2:=.int .i64 q.al) (v3:=.slice q.A q.zs.length q.c) (v4:=.int .i64 q.sz) (v5:=.slice q.F q.fs.length q.fc) (r1.down HB.o.size) HF1);have HP':=h_ (HW.o.2.snoc (q:=q) (fun x hx j hj=>((HW.o.1 x hx).lt j hj).2) (fun j hj=>(r1.lt j hj).1));have HQD:=h_ hqd;clear ho ho1 ho2 ho3 ho4 ho5 ho6 hpl hb' HO HB hb2 HW HF HF1 r1 HR hqd;simp only [secC]
   go_wp2_with fail
   refine ⟨⟨k+1,qs++[q],by simp [hql],by omega,by go_num,?_,⟨xs.tail.tail.tail.tail.tail.tail,?_⟩,?_,HP'.o,?_⟩,by simp [intOf]; omega⟩
   ·rw [<-HD.o,List.map_append,List.map_append,List.map_singleton,List.map_singleton,HQD.o]
   ·rw [cells_snoc]
    simpa [secC] using HO'.o
   ·exact HW'.o.snoc HQ'.o
   ·exact put6_below (i:=k*6) HB'.o (Nat.le_refl _)
  ·have e:k=ps.length:=by omega
   subst e
   have hxs:xs=[]:=by
    have:=ho.1;rw [List.length_append,cellsOf_len secC_len] at this;exact List.eq_nil_of_length_eq_zero (by omega)
   subst hxs;rw [List.take_length] at hd;rw [List.append_nil] at ho;have HH:=h_ (show RetSs (ps.map SV.d) w (.returned (.slice (some ⟨w.heap.size,0,none⟩) ps.length ps.length)) _ from ⟨_,ps.length,qs,by rw [hql],hd,⟨.inr (by rw [hql]; exact ho),hrw,hpw⟩,hb⟩);clear hr ho hd hrw hpw hb
   go_wp2
   go_ret;exact HH.o
set_option maxRecDepth 20000 in
theorem eqSectionS_same (A A':Option Addr) (ps qs:List SV) (c c':Nat) (w:World) (hr:RdSs w w.heap.size A ps) (hr':RdSs w w.heap.size A' qs) (hd:ps.map SV.d=qs.map SV.d) (hm:ps.length<=maxLen) (hl:∀ p ∈ ps,p.zs.length<=maxLen/\p.fs.length<=maxLen):
  Calls Tryz.prog 128 #[.slice A ps.length c,.slice A' qs.length c'] w (Ret (.bool true) w):=by
 unfold maxLen at hm
 have hlen:ps.length=qs.length:=by simpa using congrArg List.length hd
 rw [<-hlen];have HL:=h_ hlen;clear hlen
 have h0:(((ps.length:Nat):Int) != (ps.length:Nat))=false:=by simp
 go_enter Tryz.func128,Tryz.ntmps128
 go_wp2
 clear h0
 go_loopw [5] (fun i wr=>∃ k:Nat,k<=ps.length/\i=.int .i64 k/\Below w.heap.size w wr) (fun i _=>ps.length - (intOf i).toNat)
 case atStart=>exact ⟨0,Nat.zero_le _,rfl,Below.refl _ _⟩
 case round=>
  obtain ⟨k,hk,rfl,hb⟩:=hrel;have HB:=h_ hb
  by_cases hlt:k<ps.length
  ·obtain ⟨b,off,rfl,_,hc⟩:=(hr.1.below hb).row secC_len (by decide) hlt;obtain ⟨b',off',rfl,_,hd'⟩:=(hr'.1.below hb).row secC_len (by decide) (show k<qs.length by rw [<-HL.o]; exact hlt);have hc0:=hc 0 _ rfl;have hd0:=hd' 0 _ rfl;have hc1:=hc 1 _ rfl;have hd1:=hd' 1 _ rfl;have hc2:=hc 2 _ rfl;have hd2:=hd' 2 _ rfl;have hc3:=hc 3 _ rfl;have hd3:=hd' 3 _ rfl;have hc4:=hc 4 _ rfl;have hd4:=hd' 4 _ rfl;have hc5:=hc 5 _ rfl;have hd5:=hd' 5 _ rfl;simp only [Nat.add_zero] at hc0 hd0
   have hkq:k<qs.length:=by rw [<-HL.o]; exact hlt
   have hkd:(ps[k]).d=(qs[k]).d:=by
    have:=congrArg (fun l=>l[k]?) hd
    simpa [List.getElem?_map,List.getElem?_eq_getElem hlt,List.getElem?_eq_getElem hkq] using this
   have HM:=h_ (hl _ (List.getElem_mem hlt));have HR1:=h_ (((hr.2 _ (List.getElem_mem hlt)).below hb).more hb.size);have HR2:=h_ (((hr'.2 _ (List.getElem_mem hkq)).below hb).more hb.size);have HD:=h_ hkd;clear hr hr' hc hd' hb hd hkd;generalize ps[k]=p at *;generalize qs[k]=q at *
   go_wp2_with fail
   go_still_tail 8,(by kernel_rfl)
   change wpList _ _ _ _ _ wr.drew;clear hc0 hd0 hc1 hd1 hc2 hd2 hc3 hd3 hc4 hd4 hc5 hd5
   go_wp2_with fail
   refine (eqSection_same p q _ (by exact HR1.o) (by exact HR2.o) HD.o HM.o.1 HM.o.2).mono ?_;rintro e w2 ⟨rfl,hb2⟩;have HB':=h_ (HB.o.trans ((of_drew hb2).mono HB.o.size));clear hb2
   go_wp2_with fail
   go_roundw
   case rel=>
    exact ⟨k+1,by omega,by go_num,HB'.o⟩
   case measure=>simp [intOf]; omega
  ·clear hr hr'
   go_wp2_with fail
   go_ret;exact ⟨rfl,HB.o⟩
theorem szSectionS_any (A:Option Addr) (ps:List SV) (c:Nat) (left:Int) (w:World) (h0:0<=left) (h1:left<=1048576) (hr:Rd w w.heap.size A (cellsOf secC ps)) (hn:ps.length<=maxLen) (hl:∀ p ∈ ps,p.nm.size<=maxLen/\p.zs.length<=maxLen/\p.fs.length<=maxLen):
  Calls Tryz.prog 124 #[.slice A ps.length c,.int .i64 left] w fun e w'=>(∃ r,e=.returned (.int .i64 r)/\(r=-1\/0<=r/\r<=left/\r+ps.length+tot (ps.map SV.d)=left))/\Below w.heap.size w w':=by
 have hn':=hn;unfold maxLen at hn'
 by_cases hf:left - ps.length<0
 ·go_enter Tryz.func124,Tryz.ntmps124
  clear hr
  go_wp2
  go_ret;exact ⟨⟨_,rfl,.inl rfl⟩,Below.refl _ _⟩
 ·go_enter Tryz.func124,Tryz.ntmps124
  have HR:=h_ hr;clear hr;have hDl:(ps.map SV.d).length=ps.length:=List.length_map _;generalize hD:ps.map SV.d=ds at *;have HDD:=h_ hD;clear hD
  go_wp2
  go_loopw [1,5] (fun l i wr=>∃ (k:Nat) (x:Int),k<=ps.length/\i=.int .i64 k/\l=.int .i64 x/\0<=x/\x+(ps.length+(tot ds - tot (ds.drop k)))=left/\Below w.heap.size w wr) (fun _ i _=>ps.length - (intOf i).toNat)
  case atStart=>exact ⟨0,left - ps.length,Nat.zero_le _,rfl,by go_num,by omega,by rw [List.drop_zero]; omega,Below.refl _ _⟩
  case round=>
   obtain ⟨k,x,hk,rfl,rfl,hx0,hx1,hb⟩:=hrel;have HB:=h_ hb
   have hx2:x<=left:=by
    have:=tot_drop_le ds k;omega
   by_cases hlt:k<ps.length
   ·obtain ⟨b,off,rfl,_,hc⟩:=(HR.o.below hb).row secC_len (by decide) hlt;have hc0:=hc 0 _ rfl;have hc1:=hc 1 _ rfl;have hc2:=hc 2 _ rfl;have hc3:=hc 3 _ rfl;have hc4:=hc 4 _ rfl;have hc5:=hc 5 _ rfl;simp only [Nat.add_zero] at hc0
    have hkd:k<ds.length:=by omega
    have hpd:ds[k]=ps[k].d:=by
     have h:=HDD.o;subst h;simp
    have HT:=h_ (show tot (ds.drop k)=wt ps[k].d+tot (ds.drop (k+1)) by rw [tot_drop hkd,hpd]);have HX:=h_ hx1;have HM:=h_ (hl _ (List.getElem_mem hlt));clear hc hb hx1 hpd hkd;generalize ps[k]=p at *
    by_cases hs:x - wt p.d<0
    ·have HZ:=h_ (szJ_neg hs)
     go_wp2_with fail
     refine (szSection_any p x _ hx0 (by omega) HM.o.1 HM.o.2.1 HM.o.2.2).mono ?_;rintro e w2 ⟨rfl,hb2⟩;rw [HZ.o];have HB':=h_ (HB.o.trans (hb2.mono HB.o.size));clear hb2
     go_wp2_with fail
     go_ret;exact ⟨⟨_,rfl,.inl rfl⟩,HB'.o⟩
    ·have HZ:=h_ (szJ_pos hs)
     go_wp2_with fail
     refine (szSection_any p x _ hx0 (by omega) HM.o.1 HM.o.2.1 HM.o.2.2).mono ?_;rintro e w2 ⟨rfl,hb2⟩;rw [HZ.o];have HB':=h_ (HB.o.trans (hb2.mono HB.o.size));clear hb2
     go_wp2_with fail
     go_roundw
     case rel=>exact ⟨k+1,x - wt p.d,by omega,by go_num,rfl,by omega,(by have h1:=HT.o; have h2:=HX.o; omega),HB'.o⟩
     case measure=>simp [intOf]; omega
   ·have hE:0<=x/\x<=left/\x+ps.length+tot ds=left:=by
     have e:k=ds.length:=by omega
     subst e;rw [List.drop_length] at hx1;simp only [tot] at hx1;omega
    have HE:=h_ hE;clear hE hx1 hb
    go_wp2_with fail
    go_ret;exact ⟨⟨_,rfl,.inr HE.o⟩,HB.o⟩
end CSections
/- The texts that the laws' marks write. -/
namespace CMarkText
open Kit CNumTxt
def mpre (v:Nat):List UInt8:=if v=0 then [] else Lib.decDigits v
theorem mpre_next {v:Nat} (h:v ≠ 0):mpre v=mpre (v / 10)++[dch v]:=by
 unfold mpre;rw [if_neg h,dec_pre]
 congr 1
 unfold dpre
 by_cases h9:v<10
 ·rw [if_pos h9,if_pos (by omega)]
 ·rw [if_neg h9,if_neg (by omega)]
def mtx (k:Int):ByteArray:=if k<=0 then ⟨#[109,48]⟩ else ⟨(109 :: Lib.decDigits k.toNat).toArray⟩
theorem markText_any (k:Int) (w:World) (h1:k<=9000000000000):
  Calls Tryz.prog 79 #[.int .i64 k] w (Ret (.string (mtx k)) w):=by
 by_cases h0:k<=0
 ·have HV:=h_ (show mtx k=⟨#[109,48]⟩ from if_pos h0)
  go_enter Tryz.func79,Tryz.ntmps79
  go_wp2_with fail
  go_ret;exact ⟨by rw [HV.o]; rfl,Below.refl _ _⟩
 ·obtain ⟨u,rfl⟩:∃ u:Nat,k=u:=⟨k.toNat,by omega⟩;have HV:=h_ (show mtx (u:Int)=⟨(109 :: Lib.decDigits u).toArray⟩ from if_neg h0);have hm:=Lib.nDigits_le20 u (by omega)
  go_enter Tryz.func79,Tryz.ntmps79
  go_wp2_with fail
  go_loopw [0,3] (fun x s wr=>∃ (v:Nat) (l:List UInt8),x=.int .i64 v/\s=.string ⟨l.toArray⟩/\v<=u/\mpre u=mpre v++l/\Below w.heap.size w wr) (fun x _ _=>(intOf x).toNat)
  case atStart=>exact ⟨u,[],rfl,rfl,Nat.le_refl _,by simp,Below.refl _ _⟩
  case round=>
   obtain ⟨v,l,rfl,rfl,hv,hd,hb⟩:=hrel
   have hll:l.length<=20:=by
    have h:=congrArg List.length hd;rw [List.length_append] at h
    have:(mpre u).length<=20:=by
     unfold mpre
     split
     ·simp
     ·rw [Lib.decDigits_length]; omega
    omega
   have hl1:¬ 9223372036854775807<l.length:=by omega
   have hl2:¬ 9223372036854775807<1+l.length:=by omega
   have hl3:¬ 9223372036854775807<l.length+1:=by omega
   have HD:=h_ hd;have HB:=h_ hb;clear hd hb
   by_cases hz:v=0
   ·subst hz
    have HF:=h_ (show ((⟨#[109]⟩:ByteArray)++(⟨l.toArray⟩:ByteArray))=mtx (u:Int) by
     rw [HV.o,show ((⟨#[109]⟩:ByteArray)++(⟨l.toArray⟩:ByteArray))=⟨([109]++l).toArray⟩ from str_add [109] l];have h:=HD.o
     have hu:u ≠ 0:=by omega
     have h2:mpre u=Lib.decDigits u:=if_neg hu;rw [h2] at h;rw [h]
     rfl)
    go_wp2_with fail
    rw [HF.o];go_ret;exact ⟨rfl,HB.o⟩
   ·have hv0:(0:Int)<v:=by omega
    have e1:=conv_digit wr v;have HA:=h_ (str_add [dch v] l);have HN:=h_ (show (v:Int) / 10=((v / 10:Nat):Int) from by omega);have HP:=h_ (mpre_next hz)
    go_wp2_with fail
    go_roundw
    case rel=>
     refine ⟨v / 10,[dch v]++l,by rw [HN.o],by rw [<-HA.o],by omega,?_,HB.o.alloc HB.o.size _⟩;rw [HD.o,HP.o,List.append_assoc]
    case measure=>simp [intOf]; omega
end CMarkText
/- The marks of symbols; marks of rows. -/
namespace CSymMarks
open Kit CFixups CSymbols PObj BObj CMarkText
def ymark (k:Int):YD:=(mtx k,k+1,k+1+1,k+1+1+1)
def ymarks (k0:Int) (m:Nat):List YD:=(List.range m).map fun (i:Nat)=>ymark (k0+4*(i:Int))
theorem ymarks_len (k0:Int) (m:Nat):(ymarks k0 m).length=m:=by simp [ymarks]
theorem ymarks_at (k0:Int) (m i:Nat) (h:i<m):(ymarks k0 m)[i]'(by rw [ymarks_len]; exact h)=ymark (k0+4*(i:Int)):=by simp [ymarks]
theorem ymarks_succ (k0:Int) (i:Nat):ymarks k0 (i+1)=ymarks k0 i++[ymark (k0+4*(i:Int))]:=by simp [ymarks,List.range_succ]
theorem ymark_any (base:Nat) (A:Option Addr) (c m:Nat) (cs:List Value) (k0:Int) (w:World) (h0:0<=k0) (hk0:k0<=4294967296) (hm:m<=4294967296)
  (hown:w.ownsRow base 67 4 (.slice A m c) m cs):
  Calls Tryz.prog 76 #[.slice A m c,.int .i64 k0] w fun e w'=>e=.returned (.int .i64 (k0+4*m))/\w'.ownsRow base 67 4 (.slice A m c) m (cellsOf symbolC (ymarks k0 m))/\w.grownBy w' (Value.slice A m c).ownBlock:=by
 go_enter Tryz.func76,Tryz.ntmps76
 go_wp2
 have hg0:=World.grownBy.refl w (Value.slice A m c).ownBlock
 go_loopw [1,5] (fun k i wr=>∃ j:Nat,j<=m/\i=.int .i64 j/\k=.int .i64 (k0+4*j)/\(∃ xs,wr.ownsRow base 67 4 (.slice A m c) m (cellsOf symbolC (ymarks k0 j)++xs))/\w.grownBy wr (Value.slice A m c).ownBlock) (fun _ i _=>m - (intOf i).toNat)
 case atStart=>exact ⟨0,Nat.zero_le _,rfl,by simp,⟨cs,by simpa [ymarks,cellsOf] using hown⟩,hg0⟩
 case round=>
  obtain ⟨j,hj,rfl,rfl,⟨xs,ho⟩,hg⟩:=hrel;clear hown hg0
  by_cases hlt:j<m
  ·have hform:∃ g,A=some ⟨g,0,none⟩:=by
    rcases ho.2 with ⟨hv,h0⟩ | ⟨g,cap,cur,hv,_⟩
    ·omega
    ·injection hv with hA;exact ⟨g,hA⟩
   obtain ⟨g,rfl⟩:=hform;have HO:=h_ ho;have HG:=h_ hg;clear ho hg
   go_wp2_with fail
   refine (markText_any (k0+4*j) _ (by omega)).mono ?_;rintro e w2 ⟨rfl,b2⟩;have ho:=own_call b2 HO.o;have hg:=grown_below HG.o b2;obtain ⟨⟨old0,hk0⟩,hfz0⟩:=own_old ho (j:=j*4) (by omega);obtain ⟨⟨old1,hk1⟩,hfz1⟩:=own_old ho (j:=j*4+1) (by omega);obtain ⟨⟨old2,hk2⟩,hfz2⟩:=own_old ho (j:=j*4+2) (by omega);obtain ⟨⟨old3,hk3⟩,hfz3⟩:=own_old ho (j:=j*4+3) (by omega)
   have hpl:(cellsOf symbolC (ymarks k0 j)).length=j*4:=by rw [cellsOf_len symbolC_len,ymarks_len]
   have ho1:=own_put ho hpl (by omega) (.string (mtx (k0+4*j)));have hg1:=grown_put (u:=.string (mtx (k0+4*j))) (j:=j*4) hg;have ho2:=own_put ho1 (j:=j*4+1) (by simp only [List.length_append,hpl]; rfl) (by omega) (.int .i64 (k0+4*(j:Int)+1));have hg2:=grown_put (u:=.int .i64 (k0+4*(j:Int)+1)) (j:=j*4+1) hg1;have ho3:=own_put ho2 (j:=j*4+2) (by simp only [List.length_append,hpl]; rfl) (by omega) (.int .i64 (k0+4*(j:Int)+1+1));have hg3:=grown_put (u:=.int .i64 (k0+4*(j:Int)+1+1)) (j:=j*4+2) hg2;have ho4:=own_put ho3 (j:=j*4+3) (by simp only [List.length_append,hpl]; rfl) (by omega) (.int .i64 (k0+4*(j:Int)+1+1+1));have hg4:=grown_put (u:=.int .i64 (k0+4*(j:Int)+1+1+1)) (j:=j*4+3) hg3;have HH:=h_ (And.intro ho4 hg4);have E1:=h_ (show k0+4*(j:Int)+1+1+1+1=k0+4*((j+1:Nat):Int) by omega);clear ho1 hg1 ho2 hg2 ho3 hg3 ho4 hg4 ho hg hpl HO HG b2
   go_wp2
   refine ⟨⟨j+1,by omega,by go_num,by rw [E1.o],⟨xs.tail.tail.tail.tail,?_⟩,HH.o.2⟩,by simp [intOf]; omega⟩;rw [ymarks_succ]
   simpa [cellsOf,symbolC,ymark] using HH.o.1
  ·have e:j=m:=by omega
   subst e
   have hxs:xs=[]:=by
    have:=ho.1;rw [List.length_append,cellsOf_len symbolC_len,ymarks_len] at this;exact List.eq_nil_of_length_eq_zero (by omega)
   subst hxs;rw [List.append_nil] at ho
   go_wp2
   go_ret;exact ⟨rfl,ho,hg⟩
theorem yheld_any (A:Option Addr) (c m:Nat) (k0:Int) (w:World) (h0:0<=k0) (hk0:k0<=4294967296) (hm:m<=4294967296) (hr:Rd w w.heap.size A (cellsOf symbolC (ymarks k0 m))):
  Calls Tryz.prog 78 #[.slice A m c,.int .i64 k0] w (Ret (.int .i64 (k0+4*m)) w):=by
 go_enter Tryz.func78,Tryz.ntmps78
 go_wp2
 go_loopw [1,5] (fun k i wr=>∃ j:Nat,j<=m/\i=.int .i64 j/\k=.int .i64 (k0+4*j)/\Below w.heap.size w wr) (fun _ i _=>m - (intOf i).toNat)
 case atStart=>exact ⟨0,Nat.zero_le _,rfl,by simp,Below.refl _ _⟩
 case round=>
  obtain ⟨j,hj,rfl,rfl,hb⟩:=hrel;have HB:=h_ hb
  by_cases hlt:j<m
  ·obtain ⟨b,off,rfl,hbg,hc⟩:=(hr.below hb).row symbolC_len (by decide) (k:=j) (by rw [ymarks_len]; exact hlt);rw [ymarks_at _ _ _ hlt] at hc;have hc0:=hc 0 _ rfl;have hc1:=hc 1 _ rfl;have hc2:=hc 2 _ rfl;have hc3:=hc 3 _ rfl;simp only [Nat.add_zero,ymark] at hc0 hc1 hc2 hc3;have hbl:b<wr.heap.size:=Nat.lt_of_lt_of_le hbg hb.size;have HC:=h_ (And.intro hc1 (And.intro hc2 hc3));have E1:=h_ (show k0+4*(j:Int)+1+1+1+1=k0+4*((j+1:Nat):Int) by omega);clear hr hc hb hc1 hc2 hc3
   go_wp2_with fail
   refine Reg.startT (fun V=>V.cell? ⟨b,off+j*4,none⟩=some (.string (mtx (k0+4*j)))) (fun _=>false) (by kernel_rfl) ?_;have hHeld:wr.drew.cell? ⟨b,off+j*4,none⟩=some (.string (mtx (k0+4*j))):=hc0;refine t_ 0 rfl ?_;refine t_ 1 rfl ?_;refine t_ 2 rfl ?_;refine t_ 3 rfl ?_;refine t_ 4 rfl ?_;refine t_ 5 rfl ?_;refine Reg.oneT (i:=6) rfl (by kernel_rfl) (fun K hK=>?_)
   go_simp
   refine (markText_any (k0+4*j) _ (by omega)).mono ?_;rintro e w2 ⟨rfl,b2⟩;have b2':=of_drew b2;have hHeld:w2.cell? ⟨b,off+j*4,none⟩=some (.string (mtx (k0+4*j))):=(b2'.cell (p:=⟨b,off+j*4,none⟩) hbl).trans hc0;refine hK.out _ _ hHeld ?_;clear hK K
   try simp only [y1_,y2_,y3_,Act.put,y4_,y5_,y6_]
   refine t_ 7 rfl ?_;refine Reg.doneT (by kernel_rfl) ?_ _;clear hHeld;have HB':=h_ (HB.o.trans (b2'.mono HB.o.size));have hc1:=(b2'.cell (p:=⟨b,off+j*4+1,none⟩) hbl).trans HC.o.1;have hc2:=(b2'.cell (p:=⟨b,off+j*4+2,none⟩) hbl).trans HC.o.2.1;have hc3:=(b2'.cell (p:=⟨b,off+j*4+3,none⟩) hbl).trans HC.o.2.2;clear b2 b2' HC hc0
   go_wp2_with fail
   go_roundw
   case rel=>exact ⟨j+1,by omega,by go_num,by rw [E1.o],HB'.o⟩
   case measure=>simp [intOf]; omega
  ·have e:j=m:=by omega
   subst e;clear hr
   go_wp2_with fail
   go_ret;exact ⟨rfl,HB.o⟩
end CSymMarks
/- Marks of rows,whether they have room or not. -/
namespace CMarkRows
open Kit CFixups CSymbols PObj BObj CMarkText CSymMarks
theorem blk_own {A:Option Addr} {n c:Nat} (hc:c ≠ 0):blk A c=(Value.slice A n c).ownBlock:=by
 unfold blk;rw [if_neg hc]
 cases A <;> rfl
theorem markB_none (A:Option Addr) (k0:Int) (w:World):Calls Tryz.prog 130 #[.slice A 0 0,.int .i64 k0] w (Pure (.int .i64 k0) w):=by
 go_enter Tryz.func130,Tryz.ntmps130
 go_wp2
 go_loop [1,5] (fun k i=>i=.int .i64 0/\k=.int .i64 k0) (fun _ _=>0)
 case atStart=>exact ⟨rfl,rfl⟩
 case round=>
  obtain ⟨rfl,rfl⟩:=hrel
  go_wp2
  go_ret;exact ⟨rfl,rfl⟩
theorem markF_none (A:Option Addr) (k0:Int) (w:World):Calls Tryz.prog 131 #[.slice A 0 0,.int .i64 k0] w (Pure (.int .i64 k0) w):=by
 go_enter Tryz.func131,Tryz.ntmps131
 go_wp2
 go_loop [1,5] (fun k i=>i=.int .i64 0/\k=.int .i64 k0) (fun _ _=>0)
 case atStart=>exact ⟨rfl,rfl⟩
 case round=>
  obtain ⟨rfl,rfl⟩:=hrel
  go_wp2
  go_ret;exact ⟨rfl,rfl⟩
theorem markY_none (A:Option Addr) (k0:Int) (w:World):Calls Tryz.prog 76 #[.slice A 0 0,.int .i64 k0] w (Pure (.int .i64 k0) w):=by
 go_enter Tryz.func76,Tryz.ntmps76
 go_wp2
 go_loop [1,5] (fun k i=>i=.int .i64 0/\k=.int .i64 k0) (fun _ _=>0)
 case atStart=>exact ⟨rfl,rfl⟩
 case round=>
  obtain ⟨rfl,rfl⟩:=hrel
  go_wp2
  go_ret;exact ⟨rfl,rfl⟩
theorem markB_row (base:Nat) (A:Option Addr) (c:Nat) (xs:List Int) (k0:Int) (w:World) (h0:0<=k0) (hk0:k0<=4294967296) (hm:xs.length<=4294967296) (h:Row w base 5 1 A xs.length c (ints .u8 xs)):
  Calls Tryz.prog 130 #[.slice A xs.length c,.int .i64 k0] w fun e w'=>e=.returned (.int .i64 (k0+xs.length))/\Row w' base 5 1 A xs.length c (ints .u8 (CBytes.marks k0 xs.length))/\w.grownBy w' (blk A c):=by
 by_cases hc:c=0
 ·subst hc;have hx:xs=[]:=List.eq_nil_of_length_eq_zero (Nat.le_zero.1 h.cap.1);subst hx;refine (markB_none A k0 w).mono ?_;rintro e w' ⟨rfl,rfl⟩;exact ⟨by simp,.inl ⟨rfl,rfl,rfl⟩,World.grownBy.refl w _⟩
 ·have hown:w.ownsRow base 5 1 (.slice A xs.length c) xs.length (ints .u8 xs):=h.elim (fun h=>absurd h.2.1 hc) id;refine (CBytes.mark_any base A c xs k0 w h0 hk0 hm hown).mono ?_;rintro e w' ⟨rfl,o,g⟩;exact ⟨rfl,.inr o,by rw [blk_own (n:=xs.length) hc]; exact g⟩
theorem markF_row (base:Nat) (A:Option Addr) (c m:Nat) (xs:List Value) (k0:Int) (w:World) (h0:0<=k0) (hk0:k0<=4294967296) (hm:m<=4294967296) (h:Row w base 65 4 A m c xs):
  Calls Tryz.prog 131 #[.slice A m c,.int .i64 k0] w fun e w'=>e=.returned (.int .i64 (k0+4*m))/\Row w' base 65 4 A m c (cellsOf fixupC (CFixups.marks k0 m))/\w.grownBy w' (blk A c):=by
 by_cases hc:c=0
 ·subst hc;obtain rfl:m=0:=Nat.le_zero.1 h.cap.1;refine (markF_none A k0 w).mono ?_;rintro e w' ⟨rfl,rfl⟩;exact ⟨by simp,.inl ⟨rfl,rfl,rfl⟩,World.grownBy.refl w _⟩
 ·have hown:w.ownsRow base 65 4 (.slice A m c) m xs:=h.elim (fun h=>absurd h.2.1 hc) id;refine (CFixups.mark_any base A c m xs k0 w h0 hk0 hm hown).mono ?_;rintro e w' ⟨rfl,o,g⟩;exact ⟨rfl,.inr o,by rw [blk_own (n:=m) hc]; exact g⟩
theorem markY_row (base:Nat) (A:Option Addr) (c m:Nat) (xs:List Value) (k0:Int) (w:World) (h0:0<=k0) (hk0:k0<=4294967296) (hm:m<=4294967296) (h:Row w base 67 4 A m c xs):
  Calls Tryz.prog 76 #[.slice A m c,.int .i64 k0] w fun e w'=>e=.returned (.int .i64 (k0+4*m))/\Row w' base 67 4 A m c (cellsOf symbolC (ymarks k0 m))/\w.grownBy w' (blk A c):=by
 by_cases hc:c=0
 ·subst hc;obtain rfl:m=0:=Nat.le_zero.1 h.cap.1;refine (markY_none A k0 w).mono ?_;rintro e w' ⟨rfl,rfl⟩;exact ⟨by simp,.inl ⟨rfl,rfl,rfl⟩,World.grownBy.refl w _⟩
 ·have hown:w.ownsRow base 67 4 (.slice A m c) m xs:=h.elim (fun h=>absurd h.2.1 hc) id;refine (ymark_any base A c m xs k0 w h0 hk0 hm hown).mono ?_;rintro e w' ⟨rfl,o,g⟩;exact ⟨rfl,.inr o,by rw [blk_own (n:=m) hc]; exact g⟩
theorem apartT {w:World} {base base':Nat} {e e':TypeId} {size size' n n' c c':Nat} {A A':Option Addr} {xs xs':List Value} (h:Row w base e size A n c xs) (h':Row w base' e' size' A' n' c' xs') (hne:e ≠ e'):∀ k,blk A c=some k->blk A' c' ≠ some k:=by
 intro k hk hk'
 have hc:c' ≠ 0:=by
  intro h0;rw [h0] at hk'
  cases hk'
 have hown:w.ownsRow base' e' size' (.slice A' n' c') n' xs':=h'.elim (fun h=>absurd h.2.1 hc) id
 rcases hown.2 with ⟨hv,h0⟩ | ⟨g,cap,cur,hv,_,hg,_⟩
 ·injection hv with hA;subst hA;unfold blk at hk'
  split at hk' <;> cases hk'
 ·injection hv with hA;subst hA
  have hkg:g=k:=by
   unfold blk at hk';rw [if_neg hc] at hk'
   simpa using hk'
  subst hkg;exact h.box (show Box w g e' cur from hg) hne g hk rfl
theorem RwS.apart {w:World} {b b':Nat} {p q:SV} (hp:RwS w b p) (hq:RwS w b' q) (h:ApS p q):∀ k,sblk p k->¬ sblk q k:=by
 rintro k (hk | hk) (hk' | hk')
 ·exact h.1 k hk hk'
 ·exact apartT hp.1 hq.2 (by decide) k hk hk'
 ·exact apartT hp.2 hq.1 (by decide) k hk hk'
 ·exact h.2 k hk hk'
theorem ApS.symm {p q:SV} (h:ApS p q):ApS q p:=⟨h.1.symm,h.2.symm⟩
def mS (k:Int) (p:SV):SV:={ p with nm:=mtx k,kd:=k+1,al:=k+1+1,zs:=CBytes.marks (k+1+1+1) p.zs.length,sz:=k+1+1+1+p.zs.length,fs:=CFixups.marks (k+1+1+1+p.zs.length+1) p.fs.length }
def wd (p:SV):Int:=4+p.zs.length+4*p.fs.length
def mSs:Int->List SV->List SV
 | _,[]=>[]
 | k,p :: ps=>mS k p :: mSs (k+wd p) ps
def wds:List SV->Int
 | []=>0
 | p :: ps=>wd p+wds ps
theorem wds_nonneg:∀ ps,0<=wds ps
 | []=>Int.le_refl 0
 | p :: ps=>by
  have:=wds_nonneg ps;unfold wds wd;omega
theorem wds_append:∀ (ps qs:List SV),wds (ps++qs)=wds ps+wds qs
 | [],qs=>by simp [wds]
 | p :: ps,qs=>by
  have:=wds_append ps qs;simp only [List.cons_append,wds];omega
theorem mSs_len:∀ (k:Int) (ps:List SV),(mSs k ps).length=ps.length
 | _,[]=>rfl
 | k,p :: ps=>by simp [mSs,mSs_len]
theorem mSs_snoc:∀ (k:Int) (ps:List SV) (q:SV),mSs k (ps++[q])=mSs k ps++[mS (k+wds ps) q]
 | k,[],q=>by simp [mSs,wds]
 | k,p :: ps,q=>by
  simp only [List.cons_append,mSs,wds,mSs_snoc (k+wd p) ps q];rw [show k+wd p+wds ps=k+(wd p+wds ps) by omega]
theorem mSs_mem:∀ {k:Int} {ps:List SV} {x:SV},x ∈ mSs k ps->∃ q ∈ ps,∃ k',x=mS k' q
 | _,[],_,h=>by cases h
 | k,p :: ps,x,h=>by
  rcases List.mem_cons.1 h with rfl | h
  ·exact ⟨p,by simp,k,rfl⟩
  ·obtain ⟨q,hq,k',e⟩:=mSs_mem h;exact ⟨q,by simp [hq],k',e⟩
theorem mSs_get {k:Int} {ps:List SV} {j:Nat} (h:j<ps.length):(mSs k ps)[j]'(by rw [mSs_len]; exact h)=mS (k+wds (ps.take j)) ps[j]:=by
 have h1:ps=ps.take j++ps[j] :: ps.drop (j+1):=by rw [<-List.drop_eq_getElem_cons h,List.take_append_drop]
 have h2:∀ (k:Int) (xs:List SV) (q:SV) (ys:List SV),mSs k (xs++q :: ys)=mSs k xs++mS (k+wds xs) q :: mSs (k+wds xs+wd q) ys:=by
  intro k xs
  induction xs generalizing k with
  | nil=>intro q ys; simp [mSs,wds]
  | cons x xs ih=>
   intro q ys;simp only [List.cons_append,mSs,wds,ih];rw [show k+wd x+wds xs=k+(wd x+wds xs) by omega]
 have h3:=h2 k (ps.take j) ps[j] (ps.drop (j+1));rw [<-h1] at h3
 have h4:(mSs k (ps.take j)).length=j:=by rw [mSs_len,List.length_take]; omega
 rw [List.getElem_of_eq h3,List.getElem_append_right (by omega)];simp [h4]
theorem mSs_pw {k:Int} {ps:List SV} (h:PwSs ps):PwSs (mSs k ps):=by
 induction ps generalizing k with
 | nil=>exact List.Pairwise.nil
 | cons p ps ih=>
  obtain ⟨h1,h2⟩:=List.pairwise_cons.1 h;refine List.pairwise_cons.2 ⟨fun x hx=>?_,ih h2⟩;obtain ⟨q,hq,k',rfl⟩:=mSs_mem hx;exact h1 q hq
theorem own_grown {w w':World} {base g n c size:Nat} {e:TypeId} {xs:List Value} {v:Option Nat} (h:w.ownsRow base e size (.slice (some ⟨g,0,none⟩) n c) n xs) (hg:w.grownBy w' v) (hv:v ≠ some g):w'.ownsRow base e size (.slice (some ⟨g,0,none⟩) n c) n xs:=
 own_keep h fun k hk=>hg.block k (h.lt k hk).2 (fun e=>hv (by
  have:g=k:=by simpa [Value.ownBlock] using hk
  rw [<-e,this]))
end CMarkRows
/- The marks of sections. -/
namespace CSecMarks
open Kit CFixups CSymbols PObj BObj CMarkText CSymMarks CMarkRows
theorem rwS_mS {w:World} {b:Nat} {p:SV} {k:Int} (h1:Row w b 5 1 p.A p.zs.length p.c (ints .u8 (CBytes.marks (k+1+1+1) p.zs.length))) (h2:Row w b 65 4 p.F p.fs.length p.fc (cellsOf fixupC (CFixups.marks (k+1+1+1+p.zs.length+1) p.fs.length))):RwS w b (mS k p):=by
 refine ⟨?_,?_⟩
 ·simpa [mS,CBytes.marks_len] using h1
 ·simpa [mS,CFixups.marks_len] using h2
theorem gp_set {p:Nat->Prop} {w:World} {a:Addr} (ha:p a.block) (u:Value):Gp p w (w.setCell a u):=
 ⟨rfl,rfl,rfl,by simp [World.setCell],fun k _ hp=>Below.heap_setCell w a u k (fun e=>hp (e ▸ ha))⟩
set_option maxHeartbeats 1000000 in
theorem smark_any (base:Nat) (A:Option Addr) (c:Nat) (ps:List SV) (k0:Int) (w:World) (h0:0<=k0) (hk0:k0+wds ps<=4294967296) (h:OwnSs w base A c ps):
  Calls Tryz.prog 75 #[.slice A ps.length c,.int .i64 k0] w fun e w'=>e=.returned (.int .i64 (k0+wds ps))/\OwnSs w' base A c (mSs k0 ps)/\Gp (ssblk A c ps) w w':=by
 have hn:ps.length<=maxLen:=Nat.le_trans h.1.cap.1 h.1.cap.2;unfold maxLen at hn;have HP:=h_ h.2.2;have HA:=h_ (And.intro h.1 h.2.1);have HK:=h_ hk0;clear h hk0
 go_enter Tryz.func75,Tryz.ntmps75
 go_wp2
 go_loopw [1,5] (fun k i wr=>∃ (j:Nat),j<=ps.length/\i=.int .i64 j/\k=.int .i64 (k0+wds (ps.take j))/\Row wr base 61 6 A ps.length c (cellsOf secC (mSs k0 (ps.take j))++cellsOf secC (ps.drop j))/\RwSs wr base (mSs k0 (ps.take j))/\RwSs wr base (ps.drop j)/\Gp (ssblk A c ps) w wr) (fun _ i _=>ps.length - (intOf i).toNat)
 case atStart=>exact ⟨0,Nat.zero_le _,rfl,by simp [wds],by simpa [mSs,cellsOf] using HA.o.1,(fun p hp=>by cases hp),by rw [List.drop_zero]; exact HA.o.2,Gp.refl _ _⟩
 case round=>
  obtain ⟨j,hj,rfl,rfl,ho,hrw0,hrw,hg⟩:=hrel;clear HA
  by_cases hlt:j<ps.length
  ·have hc:c ≠ 0:=by
    have:=ho.cap.1;omega
   have hown:wr.ownsRow base 61 6 (.slice A ps.length c) ps.length (cellsOf secC (mSs k0 (ps.take j))++cellsOf secC (ps.drop j)):=ho.elim (fun h=>absurd h.2.1 hc) id
   have hform:∃ g,A=some ⟨g,0,none⟩:=by
    rcases hown.2 with ⟨hv,h0⟩ | ⟨g,cap,cur,hv,_⟩
    ·omega
    ·injection hv with hA;exact ⟨g,hA⟩
   obtain ⟨g,rfl⟩:=hform
   have hbk:blk (some ⟨g,0,none⟩) c=some g:=by
    unfold blk;rw [if_neg hc]
    rfl
   have hd:ps.drop j=ps[j] :: ps.drop (j+1):=List.drop_eq_getElem_cons hlt
   have hpl:(cellsOf secC (mSs k0 (ps.take j))).length=j*6:=by rw [cellsOf_len secC_len,mSs_len,List.length_take]; omega
   have hwall:wds ps=wds (ps.take j)+(wd ps[j]+wds (ps.drop (j+1))):=by
    have:=wds_append (ps.take j) (ps.drop j);rw [List.take_append_drop,hd] at this;exact this
   have hw1:=wds_nonneg (ps.take j);have hw2:=wds_nonneg (ps.drop (j+1));have hin:ps[j] ∈ ps:=List.getElem_mem hlt
   -- apart from the others
   have hpwj:(∀ q ∈ ps.take j,ApS q ps[j])/\(∀ q ∈ ps.drop (j+1),ApS ps[j] q):=by
    have h1:=HP.o;unfold PwSs at h1;rw [<-List.take_append_drop j ps,hd] at h1;obtain ⟨_,h2,h3⟩:=List.pairwise_append.1 h1;exact ⟨fun q hq=>h3 q hq _ (List.mem_cons_self ..),(List.pairwise_cons.1 h2).1⟩
   have HS:=h_ (mSs_snoc k0 (ps.take j) ps[j]);have HT:=h_ (take_succ hlt);have HW3:=h_ (show wds (ps.take (j+1))=wds (ps.take j)+wd ps[j] by rw [take_succ hlt,wds_append]; simp [wds]);rw [hd] at hown hrw;obtain ⟨cs,hbx⟩:=box_of_own hown;have hrest:∀ q ∈ ps.drop (j+1),RwS wr base q:=fun q hq=>hrw q (List.mem_cons_of_mem _ hq);have hp:=hrw ps[j] (List.mem_cons_self ..);have hkk:=HK.o
   -- what the marking of this one leaves alone
   have HL0:=h_ (fun q hq=>(hrw0 q hq).box hbx (by decide) (by decide));have HL1:=h_ (fun q hq=>(hrest q hq).box hbx (by decide) (by decide));have HLp:=h_ (hp.box hbx (by decide) (by decide))
   have HAp0:Hd (∀ q ∈ mSs k0 (ps.take j),∀ k,sblk q k->¬ sblk ps[j] k):=h_ (by
    intro x hx;obtain ⟨q,hq,k',e⟩:=mSs_mem hx;have hx':=hrw0 x hx;refine CMarkRows.RwS.apart hx' hp ?_;rw [e]
    exact hpwj.1 q hq)
   have HAp1:=h_ (fun q hq=>CMarkRows.RwS.apart (hrest q hq) hp (CMarkRows.ApS.symm (hpwj.2 q hq)));have HR0:=h_ hrw0;have HR1:=h_ hrest;have HG:=h_ hg;have HPR:=h_ hp;have HBK:=h_ (And.intro hbk hin);clear hd hrw hpwj hg hp hrest hrw0 ho hbx hbk hin;generalize hx:k0+wds (ps.take j)=x at *;generalize hM0:mSs k0 (ps.take j)=M0 at *;generalize hR:ps.drop (j+1)=rest at *;generalize hp:ps[j]=p at *;have hwd:wd p=4+p.zs.length+4*p.fs.length:=rfl
   have hx0:0<=x:=by omega
   have hxb:x+4+p.zs.length+4*p.fs.length<=4294967296:=by omega
   have HXX:=h_ (And.intro hx (And.intro hM0 (And.intro hR hp)));clear hx hM0 hR hp hwall hw1 hw2 hkk hwd;obtain ⟨nm,kd,al,PA,pc,zs,sz,F,fc,fs⟩:=p;simp only at hxb
   have hcell:cellsOf secC (⟨nm,kd,al,PA,pc,zs,sz,F,fc,fs⟩ :: rest)=.string nm :: .int .i64 kd :: .int .i64 al :: .slice PA zs.length pc :: .int .i64 sz :: .slice F fs.length fc :: cellsOf secC rest:=by simp [cellsOf,secC]
   rw [hcell] at hown;have HOW:=h_ hown;clear hown hcell
   go_wp2_with fail
   refine (markText_any x _ (by omega)).mono ?_;rintro e w2 ⟨rfl,b2⟩;have hown:=own_call b2 HOW.o;have HG2:=h_ (HG.o.trans (Gp.of_below b2));have HR02:=h_ (RwSs.call HR0.o b2);have HR12:=h_ (fun q hq=>(HR1.o q hq).call b2);have HP2:=h_ (HPR.o.call b2);obtain ⟨⟨old0,hk0⟩,hfz0⟩:=own_old hown (j:=j*6) (by omega);obtain ⟨⟨old1,hk1⟩,hfz1⟩:=own_old hown (j:=j*6+1) (by omega);obtain ⟨⟨old2,hk2⟩,hfz2⟩:=own_old hown (j:=j*6+2) (by omega)
   have hk3:w2.cell? ⟨g,j*6+3,none⟩=some (.slice PA zs.length pc):=by
    rw [hown.cellAt (j*6+3) (by omega),List.getElem?_append_right (by omega),hpl,Nat.add_sub_cancel_left]
    rfl
   have ho1:=own_put hown hpl (by omega) (.string (mtx x));have ho2:=own_put ho1 (j:=j*6+1) (by simp only [List.length_append,hpl]; rfl) (by omega) (.int .i64 (x+1));have ho3:=own_put ho2 (j:=j*6+2) (by simp only [List.length_append,hpl]; rfl) (by omega) (.int .i64 (x+1+1));simp only [List.tail_cons] at ho3;have HO3:=h_ ho3;have HP3:=h_ (((HP2.o.set (a:=⟨g,j*6,none⟩) HLp.o (.string (mtx x))).set (a:=⟨g,j*6+1,none⟩) HLp.o (.int .i64 (x+1))).set (a:=⟨g,j*6+2,none⟩) HLp.o (.int .i64 (x+1+1)));have HR03:=h_ (fun q hq=>(((HR02.o q hq).set (a:=⟨g,j*6,none⟩) (HL0.o q hq) (.string (mtx x))).set (a:=⟨g,j*6+1,none⟩) (HL0.o q hq) (.int .i64 (x+1))).set (a:=⟨g,j*6+2,none⟩) (HL0.o q hq) (.int .i64 (x+1+1)));have HR13:=h_ (fun q hq=>(((HR12.o q hq).set (a:=⟨g,j*6,none⟩) (HL1.o q hq) (.string (mtx x))).set (a:=⟨g,j*6+1,none⟩) (HL1.o q hq) (.int .i64 (x+1))).set (a:=⟨g,j*6+2,none⟩) (HL1.o q hq) (.int .i64 (x+1+1)));have HG3:=h_ (((HG2.o.trans (gp_set (a:=⟨g,j*6,none⟩) (.inl HBK.o.1) (.string (mtx x)))).trans (gp_set (a:=⟨g,j*6+1,none⟩) (.inl HBK.o.1) (.int .i64 (x+1)))).trans (gp_set (a:=⟨g,j*6+2,none⟩) (.inl HBK.o.1) (.int .i64 (x+1+1))));have hlg:=hown.1;clear hown ho1 ho2 ho3 HG2 HR02 HR12 HP2 b2 HOW HG HR0 HR1 HPR
   go_wp2_with fail
   refine (markB_row base PA pc zs (x+1+1+1) _ (by omega) (by omega) (by omega) HP3.o.1).mono ?_;rintro e w4 ⟨rfl,r4,g4⟩;have hne4:blk PA pc ≠ some g:=fun h=>HLp.o g (.inl h) rfl;have hown:=own_grown HO3.o g4 hne4;have G4:=Gp.of_grown (p:=fun k=>blk PA pc=some k) g4 (fun k h=>h);have HR4:=h_ r4;have HF4:=h_ (HP3.o.2.grown g4 (fun k hk h=>apartT HP3.o.2 HP3.o.1 (by decide) k hk h));have HR04:=h_ (fun q hq=>RwS.gp G4 (HR03.o q hq) (fun k hk h=>HAp0.o q hq k hk (.inl h)));have HR14:=h_ (fun q hq=>RwS.gp G4 (HR13.o q hq) (fun k hk h=>HAp1.o q hq k hk (.inl h)));have HG4:=h_ (HG3.o.trans (G4.mono (fun k h=>.inr ⟨_,HBK.o.2,.inl h⟩)));obtain ⟨⟨old4,hk4⟩,hfz4⟩:=own_old hown (j:=j*6+4) (by omega)
   have hpl5:(cellsOf secC M0++[Value.string (mtx x)]++[Value.int .i64 (x+1)]++[Value.int .i64 (x+1+1)]++[Value.slice PA zs.length pc]).length=j*6+4:=by simp only [List.length_append,hpl]; rfl
   have hre:cellsOf secC M0++[Value.string (mtx x)]++[Value.int .i64 (x+1)]++[Value.int .i64 (x+1+1)]++(Value.slice PA zs.length pc :: Value.int .i64 sz :: Value.slice F fs.length fc :: cellsOf secC rest)=(cellsOf secC M0++[Value.string (mtx x)]++[Value.int .i64 (x+1)]++[Value.int .i64 (x+1+1)]++[Value.slice PA zs.length pc])++(Value.int .i64 sz :: Value.slice F fs.length fc :: cellsOf secC rest):=by simp
   rw [hre] at hown;have ho5:=own_put hown hpl5 (by omega) (.int .i64 (x+1+1+1+zs.length));simp only [List.tail_cons] at ho5
   have hk5:w4.cell? ⟨g,j*6+5,none⟩=some (.slice F fs.length fc):=by
    rw [hown.cellAt (j*6+5) (by omega),List.getElem?_append_right (by omega),hpl5,show j*6+5 - (j*6+4)=1 by omega]
    rfl
   have HO5:=h_ ho5;have HR5:=h_ (HR4.o.set (a:=⟨g,j*6+4,none⟩) (fun k hk=>HLp.o k (.inl hk)) (.int .i64 (x+1+1+1+zs.length)));have HF5:=h_ (HF4.o.set (a:=⟨g,j*6+4,none⟩) (fun k hk=>HLp.o k (.inr hk)) (.int .i64 (x+1+1+1+zs.length)));have HR05:=h_ (fun q hq=>(HR04.o q hq).set (a:=⟨g,j*6+4,none⟩) (HL0.o q hq) (.int .i64 (x+1+1+1+zs.length)));have HR15:=h_ (fun q hq=>(HR14.o q hq).set (a:=⟨g,j*6+4,none⟩) (HL1.o q hq) (.int .i64 (x+1+1+1+zs.length)));have HG5:=h_ (HG4.o.trans (gp_set (a:=⟨g,j*6+4,none⟩) (.inl HBK.o.1) (.int .i64 (x+1+1+1+zs.length))));clear hown ho5 hre r4 g4 G4 HO3 HP3 HR03 HR13 HG3 HR4 HF4 HR04 HR14 HG4 hk0 hk1 hk2 hfz0 hfz1 hfz2 hk3
   go_wp2_with fail
   refine (markF_row base F fc fs.length _ (x+1+1+1+zs.length+1) _ (by omega) (by omega) (by omega) HF5.o).mono ?_;rintro e w6 ⟨rfl,r6,g6⟩;have hne6:blk F fc ≠ some g:=fun h=>HLp.o g (.inr h) rfl;have HO6:=h_ (own_grown HO5.o g6 hne6);have G6:=Gp.of_grown (p:=fun k=>blk F fc=some k) g6 (fun k h=>h);have HB6:=h_ (HR5.o.grown g6 (fun k hk h=>apartT HR5.o HF5.o (by decide) k hk h));have HR06:=h_ (fun q hq=>RwS.gp G6 (HR05.o q hq) (fun k hk h=>HAp0.o q hq k hk (.inr h)));have HR16:=h_ (fun q hq=>RwS.gp G6 (HR15.o q hq) (fun k hk h=>HAp1.o q hq k hk (.inr h)));have HG6:=h_ (HG5.o.trans (G6.mono (fun k h=>.inr ⟨_,HBK.o.2,.inr h⟩)));have HF6:=h_ r6;have E1:=h_ (show x+1+1+1+(zs.length:Int)+1+4*fs.length=x+wd ⟨nm,kd,al,PA,pc,zs,sz,F,fc,fs⟩ by simp only [wd]; omega);clear r6 g6 G6 HO5 HR5 HF5 HR05 HR15 HG5 hk4 hk5 hfz4
   go_wp2_with fail
   refine ⟨⟨j+1,by omega,by go_num,?_,?_,?_,?_,HG6.o⟩,by simp [intOf]; omega⟩
   ·rw [E1.o,HW3.o,<- HXX.o.1]
    congr 1
    omega
   ·rw [HT.o,HS.o,HXX.o.2.2.1];refine .inr ?_
    simpa [cellsOf,secC,mS,CBytes.marks_len,CFixups.marks_len] using HO6.o
   ·rw [HT.o,HS.o];exact RwSs.snoc HR06.o (rwS_mS HB6.o HF6.o)
   ·rw [HXX.o.2.2.1];exact HR16.o
  ·have e:j=ps.length:=by omega
   subst e;rw [List.take_length] at ho hrw0;rw [List.drop_length] at ho;have HE:=h_ (show OwnSs wr base A c (mSs k0 ps) from ⟨by rw [mSs_len]; simpa [cellsOf] using ho,hrw0,mSs_pw HP.o⟩);rw [List.take_length];clear ho hrw hrw0
   go_wp2
   go_ret;exact ⟨rfl,HE.o,hg⟩
end CSecMarks
/- The marks of sections read again. -/
namespace CSecHeld
open Kit CFixups CSymbols PObj BObj CMarkText CSymMarks CMarkRows CSecMarks
theorem sheld_any (A:Option Addr) (c:Nat) (ps:List SV) (k0:Int) (w:World) (h0:0<=k0) (hk0:k0+wds ps<=4294967296) (hn:ps.length<=4294967296) (hr:RdSs w w.heap.size A (mSs k0 ps)):
  Calls Tryz.prog 77 #[.slice A ps.length c,.int .i64 k0] w (Ret (.int .i64 (k0+wds ps)) w):=by
 have HK:=h_ hk0;clear hk0
 go_enter Tryz.func77,Tryz.ntmps77
 go_wp2
 go_loopw [1,5] (fun k i wr=>∃ j:Nat,j<=ps.length/\i=.int .i64 j/\k=.int .i64 (k0+wds (ps.take j))/\Below w.heap.size w wr) (fun _ i _=>ps.length - (intOf i).toNat)
 case atStart=>exact ⟨0,Nat.zero_le _,rfl,by simp [wds],Below.refl _ _⟩
 case round=>
  obtain ⟨j,hj,rfl,rfl,hb⟩:=hrel;have HB:=h_ hb
  by_cases hlt:j<ps.length
  ·have hltm:j<(mSs k0 ps).length:=by rw [mSs_len]; exact hlt
   obtain ⟨b,off,rfl,hbg,hc⟩:=(hr.1.below hb).row secC_len (by decide) hltm;have hmem:=hr.2 _ (List.getElem_mem hltm);have hget:(mSs k0 ps)[j]'hltm=mS (k0+wds (ps.take j)) ps[j]:=mSs_get hlt;rw [hget] at hc hmem;have hc0:=hc 0 _ rfl;have hc1:=hc 1 _ rfl;have hc2:=hc 2 _ rfl;have hc3:=hc 3 _ rfl;have hc4:=hc 4 _ rfl;have hc5:=hc 5 _ rfl;simp only [Nat.add_zero,mS,CBytes.marks_len,CFixups.marks_len] at hc0 hc1 hc2 hc3 hc4 hc5;have hbl:b<wr.heap.size:=Nat.lt_of_lt_of_le hbg hb.size
   have hwall:wds ps=wds (ps.take j)+(wd ps[j]+wds (ps.drop (j+1))):=by
    have:=wds_append (ps.take j) (ps.drop j);rw [List.take_append_drop,List.drop_eq_getElem_cons hlt] at this;exact this
   have hw1:=wds_nonneg (ps.take j);have hw2:=wds_nonneg (ps.drop (j+1));have HW3:=h_ (show k0+wds (ps.take (j+1))=k0+wds (ps.take j)+wd ps[j] by rw [take_succ hlt,wds_append]; simp [wds]; omega);have hkk:=HK.o;have HR:=h_ hmem;clear hget hmem hr hc hb hltm;generalize hx:k0+wds (ps.take j)=x at *;generalize ps[j]=p at *;have hwd:wd p=4+p.zs.length+4*p.fs.length:=rfl
   have hx0:0<=x:=by omega
   have hxb:x+4+p.zs.length+4*p.fs.length<=4294967296:=by omega
   clear hx hwall hw1 hw2 hkk hwd;obtain ⟨nm,kd,al,PA,pc,zs,sz,F,fc,fs⟩:=p;simp only at hxb hc3 hc4 hc5;have HR':Hd (Rd w w.heap.size PA (ints .u8 (CBytes.marks (x+1+1+1) zs.length))/\Rd w w.heap.size F (cellsOf fixupC (CFixups.marks (x+1+1+1+zs.length+1) fs.length))):=h_ HR.o;have HC:=h_ (And.intro hc1 (And.intro hc2 (And.intro hc3 (And.intro hc4 hc5))));clear hc1 hc2 hc3 hc4 hc5 HR
   go_wp2_with fail
   refine Reg.startT (fun V=>V.cell? ⟨b,off+j*6,none⟩=some (.string (mtx x))) (fun _=>false) (by kernel_rfl) ?_;have hHeld:wr.drew.cell? ⟨b,off+j*6,none⟩=some (.string (mtx x)):=hc0;refine t_ 0 rfl ?_;refine t_ 1 rfl ?_;refine t_ 2 rfl ?_;refine t_ 3 rfl ?_;refine t_ 4 rfl ?_;refine t_ 5 rfl ?_;refine Reg.oneT (i:=6) rfl (by kernel_rfl) (fun K hK=>?_)
   go_simp
   refine (markText_any x _ (by omega)).mono ?_;rintro e w2 ⟨rfl,b2⟩;have b2':=of_drew b2;have hHeld:w2.cell? ⟨b,off+j*6,none⟩=some (.string (mtx x)):=(b2'.cell (p:=⟨b,off+j*6,none⟩) hbl).trans hc0;refine hK.out _ _ hHeld ?_;clear hK K
   try simp only [y1_,y2_,y3_,Act.put,y4_,y5_,y6_]
   refine t_ 7 rfl ?_;refine Reg.doneT (by kernel_rfl) ?_ _;clear hHeld;have HB':=h_ (HB.o.trans (b2'.mono HB.o.size));have hc1:=(b2'.cell (p:=⟨b,off+j*6+1,none⟩) hbl).trans HC.o.1;have hc2:=(b2'.cell (p:=⟨b,off+j*6+2,none⟩) hbl).trans HC.o.2.1;have hc3:=(b2'.cell (p:=⟨b,off+j*6+3,none⟩) hbl).trans HC.o.2.2.1;have hc4:=(b2'.cell (p:=⟨b,off+j*6+4,none⟩) hbl).trans HC.o.2.2.2.1;have hc5:=(b2'.cell (p:=⟨b,off+j*6+5,none⟩) hbl).trans HC.o.2.2.2.2;clear b2 b2' HC hc0
   go_wp2_with fail
   refine (CBytes.held_any _ PA pc zs.length (x+1+1+1) _ (by omega) (by omega) (by omega) ((HR'.o.1.below HB'.o).more HB'.o.size)).mono ?_;rintro e w' ⟨rfl,rfl⟩
   go_wp2_with fail
   refine (CFixups.held_any _ F fc fs.length (x+1+1+1+zs.length+1) _ (by omega) (by omega) (by omega) ((HR'.o.2.below HB'.o).more HB'.o.size)).mono ?_;rintro e w' ⟨rfl,rfl⟩;have E1:=h_ (show x+1+1+1+(zs.length:Int)+1+4*fs.length=x+wd ⟨nm,kd,al,PA,pc,zs,sz,F,fc,fs⟩ by simp only [wd]; omega);clear hc1 hc2 hc3 hc4 hc5
   go_wp2_with fail
   go_roundw
   case rel=>exact ⟨j+1,by omega,by go_num,by rw [E1.o,HW3.o],HB'.o⟩
   case measure=>simp [intOf]; omega
  ·have e:j=ps.length:=by omega
   subst e;rw [List.take_length];clear hr
   go_wp2_with fail
   go_ret;exact ⟨rfl,HB.o⟩
end CSecHeld
end Go.Proofs.YtepoiphmmjfbdaaGreatDoor
