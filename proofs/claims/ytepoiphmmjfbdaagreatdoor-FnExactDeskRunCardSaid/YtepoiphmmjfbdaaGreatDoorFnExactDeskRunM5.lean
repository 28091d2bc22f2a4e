/- HexText: bytes as digits; the reference's. -/
import Derived.Test.YtepoiphmmjfbdaaGreatDoorFnExactDeskRunM4
import Derived.BigQuiet
import Derived.Shelf.Small.Bits
import Derived.Shelf.Small.Strs
import Derived.Shelf.Strconv.Atoi
import Derived.Shelf.Strconv.Itoa0
import Derived.Shelf.Strconv.Itoa1
import Derived.Shelf.LaysM
import Derived.Shelf.Strconv.Itoa2
import Derived.Shelf.Strconv.Itoa3
import Derived.Shelf.Strconv.AtoiErrFast
import Derived.Shelf.Strconv.ParseIntEmpty
import Derived.Shelf.Strconv.AtoiFail
import Derived.Shelf.Strconv.Clone
import Derived.Shelf.Strconv.SyntaxError
import Derived.Shelf.LaysC
import Derived.Shelf.Strconv.ToError
import Derived.Shelf.Strconv.Lower
import Derived.Shelf.Strconv.ParseUint10
import Derived.Shelf.Strconv.ParseUint10Empty
import Derived.Shelf.Strconv.ParseUint10Any
import Derived.Shelf.Strconv.ParseInt10
import Derived.Shelf.Strconv.AtoiLong
import Derived.Shelf.Strconv.AtoiInnerAll
import Derived.Shelf.Strconv.RangeError
import Derived.Shelf.Strconv.ToErrorRange
import Derived.Shelf.Strconv.AtoiAll
import Derived.Shelf.Strconv.ErrVarAll
import Derived.Shelf.Strings.Search1
import Derived.Shelf.Strings.Search2
import Derived.Shelf.Strings.Search3
import Derived.Shelf.Strings.Cut
import Derived.Shelf.Strings.Count
import Derived.Shelf.Strings.Shaped
import Derived.Shelf.Sort.Plain
import Derived.Shelf.Strings.Split
import Derived.Shelf.Unicode.DecodeSlow
import Derived.Shelf.Slices.Turned
import Derived.Shelf.Slices.Equal
import Derived.Shelf.Slices.Clone
import Derived.Shelf.Slices.CompactS
import Derived.Shelf.Slices.Delete
import Derived.Shelf.Slices.Cells
import Derived.Shelf.Slices.In.SortNone
import Derived.Shelf.Slices.Empties
import Derived.Shelf.Slices.Empties2
import Derived.Ground.SlgnProg
import Derived.Shelf.SlicesE.Clone
import Derived.Test.YtepoiphmmjfbdaaGreatDoorProg
import Derived.Deep.QuietTactic
import Derived.Test.YtepoiphmmjfbdaaGreatDoorRows
import Derived.Lib.OwnBridge
import Derived.Lib.SlicesS
set_option linter.unusedSimpArgs false
set_option linter.unusedVariables false
set_option maxRecDepth 200000
open Go.ChangeShapes Go.WideShapes Go.ChangeAt Go.RowKit
namespace Go.Proofs.YtepoiphmmjfbdaaGreatDoor
namespace CHexS
open Kit CEqual PDump CHexI
theorem cut_hex (y:Int) (h0:0<=y) (h1:y<16):(⟨#[48,49,50,51,52,53,54,55,56,57,97,98,99,100,101,102]⟩:ByteArray).extract y.toNat (y+1).toNat=bs [hexC y.toNat]:=by
 have h:y=0\/y=1\/y=2\/y=3\/y=4\/y=5\/y=6\/y=7\/y=8\/y=9\/y=10\/y=11\/y=12\/y=13\/y=14\/y=15:=by omega
 clear h0 h1
 rcases h with rfl | rfl | rfl | rfl | rfl | rfl | rfl | rfl | rfl | rfl | rfl | rfl | rfl | rfl | rfl | rfl
 all_goals rfl
theorem bs_app (a b:List UInt8):bs a++bs b=bs (a++b):=CNumTxt.str_add a b
theorem bs_size (a:List UInt8):(bs a).size=a.length:=by simp [bs,ByteArray.size]
theorem wrap8 (y:Int) (h:0<=y/\y<=255):IntKind.u8.wrap y=y:=by
 have key:∀ i:Fin 256,IntKind.u8.wrap (i.1:Int)=(i.1:Int):=by decide +kernel
 obtain ⟨n,rfl⟩:=Int.eq_ofNat_of_zero_le h.1;exact key ⟨n,by omega⟩
theorem parts (x:Int) (hx:0<=x/\x<=255):∃ p r:Int,IntKind.u8.wrap (x.tdiv 16)=p/\IntKind.u8.wrap (p+1)=p+1/\x.tmod 16=r/\IntKind.u8.wrap (r+1)=r+1/\0<=p/\p<16/\0<=r/\r<16/\hex2 x=[hexC p.toNat,hexC r.toNat]:=by
 refine ⟨x / 16,x % 16,?_,wrap8 _ (by omega),?_,wrap8 _ (by omega),by omega,by omega,by omega,by omega,hex2_eq x hx.1⟩
 ·rw [Int.tdiv_eq_ediv_of_nonneg hx.1];exact wrap8 _ (by omega)
 ·rw [Int.tmod_eq_emod_of_nonneg hx.1]
set_option maxHeartbeats 4000000 in
theorem hexTextS_any (A:Option Addr) (zs:List Int) (c:Nat) (w:World) (hr:Rd w w.heap.size A (ints .u8 zs)) (hz:InR 0 255 zs) (hm:zs.length<=1048576):
  Calls Tryz.prog 42 #[.slice A zs.length c] w (Ret (.string (bs (hexL zs))) w):=by
 have HR:=h_ hr;have HZ:=h_ hz;clear hr hz
 go_enter Tryz.func42,Tryz.ntmps42
 go_wp2_with fail
 go_loopw [3,4] (fun s i wi=>∃ (k:Nat) (t:ByteArray),k<=zs.length/\s=.string t/\i=.int .i64 k/\t=bs (hexL (zs.take k))/\t.size=2*k/\Below w.heap.size w wi) (fun _ i _=>zs.length - (intOf i).toNat)
 case atStart=>exact ⟨0,_,Nat.zero_le _,rfl,rfl,rfl,rfl,Below.refl _ _⟩
 case round=>
  rename World=>wk
  obtain ⟨k,t,hk,rfl,rfl,ht,htl,hb⟩:=hrel;have HT:=h_ ht;have HTL:=h_ htl
  have htm:t.size<=2097152:=by omega
  have HB:=h_ hb;clear ht htl hb
  by_cases hlt:k<zs.length
  ·obtain ⟨b,off,hA,hbb,hc⟩:=(HR.o.below HB.o).int hlt;have hx:=HZ.o.at_ hlt;subst hA;have HTK:=h_ (show zs.take (k+1)=zs.take k++[zs[k]] from take_succ hlt);generalize zs[k]=x at *;obtain ⟨p,r,hw1,hw2,hw3,hw4,hp0,hp1,hr0,hr1,hH⟩:=parts x hx;have hq:=cut_hex p (by omega) (by omega);have hrr:=cut_hex r (by omega) (by omega);have HH:=h_ hH
   have hp2:0<=p+1:=by omega
   have hp3:p+1<=16:=by omega
   have hp4:p<=p+1:=by omega
   have hr2:0<=r+1:=by omega
   have hr3:r+1<=16:=by omega
   have hr4:r<=r+1:=by omega
   have hz1:=bs_size [hexC p.toNat];have hz2:=bs_size [hexC r.toNat];generalize hbp:bs [hexC p.toNat]=P at *;generalize hbr:bs [hexC r.toNat]=Q at *;have HP:=h_ (And.intro hbp hbr);have hz3:P.size=1:=hz1;have hz4:Q.size=1:=hz2
   have hsz:(t++P).size=t.size+1:=by rw [ByteArray.size_append,hz3]
   have hs1:¬ 9223372036854775807<t.size+P.size:=by omega
   have hs2:¬ 9223372036854775807<t.size+P.size+Q.size:=by omega
   have HSZ:=h_ (And.intro hz3 (And.intro hz4 hsz));clear hz3 hz4 hsz;clear hbp hbr hz1 hz2;clear hH
   go_wp2_with fail
   refine Reg.startT (fun W=>W.cell? ⟨b,off+k,none⟩=some (.int .u8 x)) (fun _=>false) (by kernel_rfl) ?_;have hHeld:wk.drew.cell? ⟨b,off+k,none⟩=some (.int .u8 x):=hc;refine t_ 0 rfl ?_;refine t_ 1 rfl ?_;refine t_ 2 rfl ?_;refine t_ 3 rfl ?_;refine t_ 4 rfl ?_;refine t_ 5 rfl ?_;refine t_ 6 rfl ?_;refine t_ 7 rfl ?_;refine t_ 8 rfl ?_;refine t_ 9 rfl ?_;refine t_ 10 rfl ?_;refine t_ 11 rfl ?_;refine t_ 12 rfl ?_;refine t_ 13 rfl ?_;refine t_ 14 rfl ?_;refine t_ 15 rfl ?_;refine t_ 16 rfl ?_;refine t_ 17 rfl ?_;refine t_ 18 rfl ?_;refine t_ 19 rfl ?_;refine t_ 20 rfl ?_;refine t_ 21 rfl ?_;refine t_ 22 rfl ?_;refine t_ 23 rfl ?_;refine t_ 24 rfl ?_;refine t_ 25 rfl ?_;refine t_ 26 rfl ?_;refine t_ 27 rfl ?_;refine Reg.doneT (by kernel_rfl) ?_ _;clear hHeld hp2 hp3 hp4 hr2 hr3 hr4 hw1 hw2 hw3 hw4 hq hrr;clear hs1 hs2
   have HN:=h_ (show t++P++Q=bs (hexL (zs.take (k+1))) from by
    rw [HTK.o,hexL_snoc,HH.o,HT.o,<- HP.o.1,<- HP.o.2,bs_app,bs_app]
    simp)
   have HNL:=h_ (show (t++P++Q).size=2*(k+1) from by
    rw [ByteArray.size_append,HSZ.o.2.2,HSZ.o.2.1,HTL.o]
    omega)
   clear HP HH HSZ;generalize t++P++Q=t' at *;have HB2:=h_ HB.o.drew
   go_wp2_with fail
   refine ⟨⟨k+1,t',by omega,rfl,by go_num,HN.o,HNL.o,HB2.o⟩,by simp [intOf]; omega⟩
  ·have HV:=h_ (show t=bs (hexL zs) from by rw [HT.o,show k=zs.length by omega,List.take_length])
   go_wp2_with fail
   go_ret;rw [HV.o];exact ⟨rfl,HB.o⟩
end CHexS
/- The library at []string,at this dump: printed by the kit's lay-plain. -/
namespace XNames
open Go.Shelf
def lays190_ren:Go.Shelf.Ren:=⟨fun | 190=>157 | 125=>192 | 258=>191 | 128=>221 | 129=>208 | 302=>212 | 303=>213 | 304=>214 | 305=>215 | 306=>216 | 307=>217 | 308=>218 | 309=>219 | 310=>220 | 333=>229 | 329=>230 | 330=>231 | 334=>232 | 335=>233 | 336=>234 | 344=>235 | n=>n,fun | 31=>28 | 9=>9 | 3=>3 | 46=>94 | 0=>0 | 51=>201 | 53=>190 | 4=>4 | 183=>215 | 182=>214 | 131=>90 | 5=>5 | 218=>235 | 222=>239 | 228=>243 | 229=>244 | n=>n,fun | n=>n⟩
theorem lays190:Go.Proofs.Lays.n190 Tryz.prog lays190_ren:={
 mixed:=by kernel_rfl
 f125:=Tryz.func192.trans (congrArg some (by kernel_rfl))
 f128:=Tryz.func221.trans (congrArg some (by kernel_rfl))
 f129:=Tryz.func208.trans (congrArg some (by kernel_rfl))
 f190:=Tryz.func157.trans (congrArg some (by kernel_rfl))
 f258:=Tryz.func191.trans (congrArg some (by kernel_rfl))
 f302:=Tryz.func212.trans (congrArg some (by kernel_rfl))
 f303:=Tryz.func213.trans (congrArg some (by kernel_rfl))
 f304:=Tryz.func214.trans (congrArg some (by kernel_rfl))
 f305:=Tryz.func215.trans (congrArg some (by kernel_rfl))
 f306:=Tryz.func216.trans (congrArg some (by kernel_rfl))
 f307:=Tryz.func217.trans (congrArg some (by kernel_rfl))
 f308:=Tryz.func218.trans (congrArg some (by kernel_rfl))
 f309:=Tryz.func219.trans (congrArg some (by kernel_rfl))
 f310:=Tryz.func220.trans (congrArg some (by kernel_rfl))
 f329:=Tryz.func230.trans (congrArg some (by kernel_rfl))
 f330:=Tryz.func231.trans (congrArg some (by kernel_rfl))
 f333:=Tryz.func229.trans (congrArg some (by kernel_rfl))
 f334:=Tryz.func232.trans (congrArg some (by kernel_rfl))
 f335:=Tryz.func233.trans (congrArg some (by kernel_rfl))
 f336:=Tryz.func234.trans (congrArg some (by kernel_rfl))
 f344:=Tryz.func235.trans (congrArg some (by kernel_rfl))
 t0:=Tryz.underlying0
 a0:=Tryz.isAgg0
 z0:=Tryz.sizeOf0
 v0:=Tryz.zeroValue0
 t3:=Tryz.underlying3
 a3:=Tryz.isAgg3
 z3:=Tryz.sizeOf3
 v3:=Tryz.zeroValue3
 t4:=Tryz.underlying4
 a4:=Tryz.isAgg4
 z4:=Tryz.sizeOf4
 v4:=Tryz.zeroValue4
 t5:=Tryz.underlying5
 a5:=Tryz.isAgg5
 z5:=Tryz.sizeOf5
 v5:=Tryz.zeroValue5
 t9:=Tryz.underlying9
 a9:=Tryz.isAgg9
 z9:=Tryz.sizeOf9
 v9:=Tryz.zeroValue9
 t31:=Tryz.underlying28
 a31:=Tryz.isAgg28
 z31:=Tryz.sizeOf28
 v31:=Tryz.zeroValue28
 t46:=Tryz.underlying94
 a46:=Tryz.isAgg94
 z46:=Tryz.sizeOf94
 v46:=Tryz.zeroValue94
 t51:=Tryz.underlying201
 a51:=Tryz.isAgg201
 z51:=Tryz.sizeOf201
 v51:=Tryz.zeroValue201
 t53:=Tryz.underlying190
 a53:=Tryz.isAgg190
 z53:=Tryz.sizeOf190
 v53:=Tryz.zeroValue190
 t131:=Tryz.underlying90
 a131:=Tryz.isAgg90
 z131:=Tryz.sizeOf90
 v131:=Tryz.zeroValue90
 t182:=Tryz.underlying214
 a182:=Tryz.isAgg214
 z182:=Tryz.sizeOf214
 v182:=Tryz.zeroValue214
 t183:=Tryz.underlying215
 a183:=Tryz.isAgg215
 z183:=Tryz.sizeOf215
 v183:=Tryz.zeroValue215
 t218:=Tryz.underlying235
 a218:=Tryz.isAgg235
 z218:=Tryz.sizeOf235
 v218:=Tryz.zeroValue235
 t222:=Tryz.underlying239
 a222:=Tryz.isAgg239
 z222:=Tryz.sizeOf239
 v222:=Tryz.zeroValue239
 t228:=Tryz.underlying243
 a228:=Tryz.isAgg243
 z228:=Tryz.sizeOf243
 v228:=Tryz.zeroValue243
 t229:=Tryz.underlying244
 a229:=Tryz.isAgg244
 z229:=Tryz.sizeOf244
 v229:=Tryz.zeroValue244 }
open Go.Sort Go.RowKit in
theorem slices_Sort_string (blk off cap:Nat) (ss:List (List UInt8)) (w:World) (hH:Holds encStr w blk off ss.toArray) (hblk:blk<w.heap.size) (hsz:ss.length<4611686018427387904):
  Calls Tryz.prog 157 #[.slice (some ⟨blk,off,none⟩) ss.length cap] w fun e w'=>
   e=.returned (.tuple #[])/\∃ n os,w'=grow (putRow encStr (Sort.ahead w n) blk off (ss.mergeSort fun x y=>decide (x<=y)).toArray) os:=Any.slices_Sort_string lays190 blk off cap ss w hH hblk hsz
def lays110_ren:Go.Shelf.Ren:=⟨fun | 110=>100 | 109=>155 | n=>n,fun | 31=>28 | 9=>9 | 4=>4 | 3=>3 | 0=>0 | n=>n,fun | n=>n⟩
theorem lays110:Go.Proofs.Lays.n110 Tryz.prog lays110_ren:={
 mixed:=by kernel_rfl
 f109:=Tryz.func155.trans (congrArg some (by kernel_rfl))
 f110:=Tryz.func100.trans (congrArg some (by kernel_rfl))
 t0:=Tryz.underlying0
 a0:=Tryz.isAgg0
 z0:=Tryz.sizeOf0
 v0:=Tryz.zeroValue0
 t3:=Tryz.underlying3
 a3:=Tryz.isAgg3
 z3:=Tryz.sizeOf3
 v3:=Tryz.zeroValue3
 t4:=Tryz.underlying4
 a4:=Tryz.isAgg4
 z4:=Tryz.sizeOf4
 v4:=Tryz.zeroValue4
 t9:=Tryz.underlying9
 a9:=Tryz.isAgg9
 z9:=Tryz.sizeOf9
 v9:=Tryz.zeroValue9
 t31:=Tryz.underlying28
 a31:=Tryz.isAgg28
 z31:=Tryz.sizeOf28
 v31:=Tryz.zeroValue28 }
open Go.Lib in
theorem slices_Contains_string (b off n c:Nat) (zs:List ByteArray) (x:ByteArray) (w:World) (hz:n<=zs.length) (hbig:n<=9223372036854775807) (hc:∀ j,j<zs.length->w.cell? ⟨b,off+j,none⟩=some (.string (zs.getD j ByteArray.empty))):
  Calls Tryz.prog 100 #[.slice (some ⟨b,off,none⟩) n c,.string x] w fun e w'=>e=.returned (.bool (Lib.containsS (zs.take n) x))/\w'=w:=Any.slices_Contains_string lays110 b off n c zs x w hz hbig hc
open Go.Lib in
theorem slices_Contains_string_empty (a:Option Addr) (c:Nat) (x:ByteArray) (w:World):
  Calls Tryz.prog 100 #[.slice a 0 c,.string x] w fun e w'=>e=.returned (.bool false)/\w'=w:=Any.slices_Contains_string_empty lays110 a c x w
def laysNm216_ren:Go.Shelf.Ren:=⟨fun | 16=>156 | n=>n,fun | 24=>28 | 9=>9 | 4=>4 | n=>n,fun | n=>n⟩
theorem laysNm216:Go.Proofs.Lays2.n16 Tryz.prog laysNm216_ren:={
 mixed:=by kernel_rfl
 f16:=Tryz.func156.trans (congrArg some (by kernel_rfl))
 t4:=Tryz.underlying4
 a4:=Tryz.isAgg4
 z4:=Tryz.sizeOf4
 v4:=Tryz.zeroValue4
 t9:=Tryz.underlying9
 a9:=Tryz.isAgg9
 z9:=Tryz.sizeOf9
 v9:=Tryz.zeroValue9
 t24:=Tryz.underlying28
 a24:=Tryz.isAgg28
 z24:=Tryz.sizeOf28
 v24:=Tryz.zeroValue28
 i9:=by kernel_rfl }
open Go.RowKit Go.Lib in
theorem slices_Clone_string (b off n c:Nat) (zs:List ByteArray) (w:World) (hz:n<=zs.length) (hbig:n*16<=140737488355328) (hc:∀ j,j<zs.length->w.cell? ⟨b,off+j,none⟩=some (.string (zs.getD j ByteArray.empty))):
  Calls Tryz.prog 156 #[.slice (some ⟨b,off,none⟩) n c] w fun e w'=>∃ v',e=.returned v'/\w'.ownsRow w.heap.size 9 1 v' n ((zs.take n).map (Value.string))/\v' ≠ .slice none 0 0/\Below w.heap.size w w':=Any.slices_Clone_string laysNm216 b off n c zs w hz hbig hc
open Go.RowKit Go.Lib in
theorem slices_Clone_string_nil (n c:Nat) (w:World):
  Calls Tryz.prog 156 #[.slice none n c] w fun e w'=>e=.returned (.slice none 0 0)/\w'=w:=Any.slices_Clone_string_nil laysNm216 n c w
open Go.RowKit Go.Lib in
theorem slices_Clone_string_zero (a:Addr) (c:Nat) (w:World):
  Calls Tryz.prog 156 #[.slice (some a) 0 c] w fun e w'=>∃ v',e=.returned v'/\w'.ownsRow w.heap.size 9 1 v' 0 []/\v' ≠ .slice none 0 0/\Below w.heap.size w w':=Any.slices_Clone_string_zero laysNm216 a c w
def lays194_ren:Go.Shelf.Ren:=⟨fun | 194=>158 | n=>n,fun | 31=>28 | 9=>9 | 3=>3 | 4=>4 | 0=>0 | n=>n,fun | n=>n⟩
theorem lays194:Go.Proofs.Lays.n194 Tryz.prog lays194_ren:={
 mixed:=by kernel_rfl
 f194:=Tryz.func158.trans (congrArg some (by kernel_rfl))
 t0:=Tryz.underlying0
 a0:=Tryz.isAgg0
 z0:=Tryz.sizeOf0
 v0:=Tryz.zeroValue0
 t3:=Tryz.underlying3
 a3:=Tryz.isAgg3
 z3:=Tryz.sizeOf3
 v3:=Tryz.zeroValue3
 t4:=Tryz.underlying4
 a4:=Tryz.isAgg4
 z4:=Tryz.sizeOf4
 v4:=Tryz.zeroValue4
 t9:=Tryz.underlying9
 a9:=Tryz.isAgg9
 z9:=Tryz.sizeOf9
 v9:=Tryz.zeroValue9
 t31:=Tryz.underlying28
 a31:=Tryz.isAgg28
 z31:=Tryz.sizeOf28
 v31:=Tryz.zeroValue28 }
open Go.RowKit Go.Lib Go.Sort in
theorem slices_Compact_string (blk off cap:Nat) (zs:List (List UInt8)) (w:World) (hH:Holds encStr w blk off zs.toArray) (hsz:zs.length<=9223372036854775807) (hcap:zs.length<=cap):
  Calls Tryz.prog 158 #[.slice (some ⟨blk,off,none⟩) zs.length cap] w fun e w'=>e=.returned (.slice (some ⟨blk,off,none⟩) (Lib.compact zs).length cap)/\∃ q,w'=putRow encStr (Sort.ahead w q) blk off (Lib.compact zs++List.replicate (zs.length - (Lib.compact zs).length) []).toArray:=Any.slices_Compact_string lays194 blk off cap zs w hH hsz hcap
open Go.RowKit Go.Lib Go.Sort in
theorem slices_Compact_string_empty (a:Option Addr) (cap:Nat) (w:World):
  Calls Tryz.prog 158 #[.slice a 0 cap] w fun e w'=>e=.returned (.slice a 0 cap)/\w'=w:=Any.slices_Compact_string_empty lays194 a cap w
open Go.RowKit Go.Sort in
theorem slices_Sort_string_none (p:Option Addr) (cap:Nat) (w:World):
  Calls Tryz.prog 157 #[.slice p 0 cap] w fun e w'=>e=.returned (.tuple #[])/\w'=w:=Any.slices_Sort_string_none lays190 p cap w
end XNames
/- An object that grows: a section or a symbol is put behind its last. -/
namespace BObj2
open Kit CFixups CSymbols PObj BObj CMarkRows
section
variable {w w':World} {base N:Nat} {o:OV}
theorem _root_.Go.Proofs.YtepoiphmmjfbdaaGreatDoor.BObj.OwnO.addS (h:OwnO w base o) {q:SV} (hq:RwS w base q) (hold:∀ p ∈ o.ps,∀ k,sblk p k->k<N) (hnew:∀ k,sblk q k->N<=k) {A':Option Addr} {n' c':Nat} (hn:n'=o.ps.length+1)
  (row:Row w' base 61 6 A' n' c' (cellsOf secC o.ps++secC q)) (g:w.grownBy w' (blk o.A o.c)):OwnO w' base { o with A:=A',c:=c',ps:=o.ps++[q] }:=by
 subst hn;have hS:∀ p,RwS w base p->RwS w' base p:=fun p hp=>⟨hp.1.grown g (fun k hk=>apartT hp.1 h.1.1 (by decide) k hk),hp.2.grown g (fun k hk=>apartT hp.2 h.1.1 (by decide) k hk)⟩;refine ⟨⟨?_,?_,?_⟩,h.2.grown g (fun k hk=>apartT h.2 h.1.1 (by decide) k hk)⟩
 ·rw [<-cells_snoc] at row
  show Row w' base _ 6 A' (o.ps++[q]).length c' _
  rw [List.length_append];exact row
 ·exact RwSs.snoc (fun p hp=>hS p (h.1.2.1 p hp)) (hS q hq)
 ·exact PwSs.snoc h.1.2.2 hold hnew
theorem _root_.Go.Proofs.YtepoiphmmjfbdaaGreatDoor.BObj.OwnO.addY (h:OwnO w base o) (zs:List YD) {Y':Option Addr} {n' c':Nat} (hn:n'=o.ys.length+zs.length)
  (row:Row w' base 67 4 Y' n' c' (cellsOf symbolC o.ys++cellsOf symbolC zs)) (g:w.grownBy w' (blk o.Y o.yc)):OwnO w' base { o with Y:=Y',yc:=c',ys:=o.ys++zs }:=by
 subst hn;refine ⟨⟨h.1.1.grown g (fun k hk=>apartT h.1.1 h.2 (by decide) k hk),fun p hp=>⟨(h.1.2.1 p hp).1.grown g (fun k hk=>apartT (h.1.2.1 p hp).1 h.2 (by decide) k hk),(h.1.2.1 p hp).2.grown g (fun k hk=>apartT (h.1.2.1 p hp).2 h.2 (by decide) k hk)⟩,h.1.2.2⟩,?_⟩
 show Row w' base _ 4 Y' (o.ys++zs).length c' (cellsOf symbolC (o.ys++zs))
 rw [List.length_append,show cellsOf symbolC (o.ys++zs)=cellsOf symbolC o.ys++cellsOf symbolC zs by simp [cellsOf]];exact row
theorem _root_.Go.Proofs.YtepoiphmmjfbdaaGreatDoor.BObj.OwnO.ne_box (h:OwnO w base o) {X:Nat} {t:TypeId} {cs:Array Value} (hb:Box w X t cs) (h1:5 ≠ t) (h2:65 ≠ t) (h3:61 ≠ t) (h4:67 ≠ t):∀ k,oblk o k->k ≠ X:=by
 rintro k ((hk | ⟨p,hp,hk⟩) | hk)
 ·exact h.1.1.box hb h3 k hk
 ·exact (h.1.2.1 p hp).box hb h1 h2 k hk
 ·exact h.2.box hb h4 k hk
theorem _root_.Go.Proofs.YtepoiphmmjfbdaaGreatDoor.BObj.OwnO.set (h:OwnO w base o) {a:Addr} (ha:∀ k,oblk o k->k ≠ a.block) (u:Value):OwnO (w.setCell a u) base o:=h.keep fun k hk=>Below.heap_setCell w a u k (ha k hk)
end
end BObj2
/- Contracts of the laws' helpers on []int: the copy,the comparison,the marks. -/
namespace CInts
open Kit
theorem info64:(Tryz.prog.info? 3).map (fun i=>(i.zero,i.size,i.bytes))=some (some (.int .i64 0),1,8):=by kernel_rfl
def marks (k0:Int) (n:Nat):List Int:=(List.range n).map fun (i:Nat)=>k0+(i:Int)
theorem marks_len (k0:Int) (n:Nat):(marks k0 n).length=n:=by simp [marks]
end CInts
/- Lists of objects,and rows of rows of numbers,in memory. -/
namespace BList
open Kit CFixups CSymbols PObj BObj CMarkRows BStore CObjValid
def objC (o:OV):List Value:=[.slice o.A o.ps.length o.c,.slice o.Y o.ys.length o.yc]
theorem objC_len (o:OV):(objC o).length=2:=rfl
def RdOs (w:World) (B:Nat) (A:Option Addr) (os:List OV):Prop:=Rd w B A (cellsOf objC os)/\∀ o ∈ os,RdO w B o
structure RV where
 A:Option Addr
 c:Nat
 zs:List Int
def rowC (p:RV):List Value:=[.slice p.A p.zs.length p.c]
theorem rowC_len (p:RV):(rowC p).length=1:=rfl
def RdRs (w:World) (B:Nat) (A:Option Addr) (rs:List RV):Prop:=Rd w B A (cellsOf rowC rs)/\∀ r ∈ rs,Rd w B r.A (ints .i64 r.zs)
def RwR (w:World) (base:Nat) (p:RV):Prop:=Row w base 3 1 p.A p.zs.length p.c (ints .i64 p.zs)
def RwRs (w:World) (base:Nat) (rs:List RV):Prop:=∀ p ∈ rs,RwR w base p
def PwRs (rs:List RV):Prop:=rs.Pairwise fun p q=>Apart p.A p.c q.A q.c
def OwnRs (w:World) (base:Nat) (A:Option Addr) (c:Nat) (rs:List RV):Prop:=Row w base 89 1 A rs.length c (cellsOf rowC rs)/\RwRs w base rs/\PwRs rs
section
variable {w w':World} {B B' base:Nat} {A:Option Addr} {c:Nat} {os:List OV} {rs:List RV} {p:RV}
theorem RdOs.below (h:RdOs w B A os) (hb:Below B w w'):RdOs w' B A os:=⟨h.1.below hb,fun o ho=>(h.2 o ho).below hb⟩
theorem RdOs.more (h:RdOs w B A os) (hB:B<=B'):RdOs w B' A os:=⟨h.1.more hB,fun o ho=>(h.2 o ho).more hB⟩
theorem RdRs.below (h:RdRs w B A rs) (hb:Below B w w'):RdRs w' B A rs:=⟨h.1.below hb,fun o ho=>(h.2 o ho).below hb⟩
theorem RdRs.more (h:RdRs w B A rs) (hB:B<=B'):RdRs w B' A rs:=⟨h.1.more hB,fun o ho=>(h.2 o ho).more hB⟩
theorem OwnRs.rd (h:OwnRs w base A c rs):RdRs w w.heap.size A rs:=⟨h.1.rd,fun p hp=>(h.2.1 p hp).rd⟩
end
theorem rows_set (rs:List RV) (k:Nat) (hk:k<rs.length) (q:RV) (hq:rowC q=rowC rs[k]):cellsOf rowC (rs.set k q)=cellsOf rowC rs:=by
 have e:rs=rs.take k++rs[k] :: rs.drop (k+1):=by rw [<-List.drop_eq_getElem_cons hk,List.take_append_drop]
 rw [List.set_eq_take_append_cons_drop,if_pos hk]
 conv=>rhs; rw [e]
 simp only [cellsOf,List.flatMap_append,List.flatMap_cons,hq]
theorem setInts64 (l:List Int) (j:Nat) (x:Int):(ints .i64 l).set j (.int .i64 x)=ints .i64 (l.set j x):=by simp [ints,List.map_set]
theorem OwnRs.put {w:World} {base:Nat} {A:Option Addr} {c:Nat} {rs:List RV} (h:OwnRs w base A c rs) {k:Nat} (hk:k<rs.length) {i:Nat} (hi:i<rs[k].zs.length) (v:Int):
  ∃ g,rs[k].A=some ⟨g,0,none⟩/\base<=g/\g<w.heap.size/\blk rs[k].A rs[k].c=some g/\(∃ cs,Box w g 3 cs)/\(w.frozen? ⟨g,i,none⟩=false)/\(∃ u,w.cell? ⟨g,i,none⟩=some (.int .i64 u))/\OwnRs (w.setCell ⟨g,i,none⟩ (.int .i64 v)) base A c (rs.set k { rs[k] with zs:=rs[k].zs.set i v }):=by
 obtain ⟨hrow,hrw,hpw⟩:=h;have hq:=hrw rs[k] (List.getElem_mem hk);obtain ⟨g,hA,hb1,hb2,hb,hown⟩:=own_of hq (by omega);have hcell:=World.ownsRow.cellAt hown i (by simpa using hi);refine ⟨g,hA,hb1,hb2,hb,cell_own hown,World.ownsRow.frozenAt hown i,⟨rs[k].zs[i],?_⟩,?_,?_,?_⟩
 ·rw [hcell];simp [ints]
 ·rw [rows_set rs k hk _ (by simp [rowC]),List.length_set];exact hrow.set (a:=⟨g,i,none⟩) (fun j hj e=>apartT hrow hq (by decide) j hj (by rw [hb,e])) _
 ·intro p hp;obtain ⟨j,hj,rfl⟩:=List.getElem_of_mem hp;rw [List.length_set] at hj;rw [List.getElem_set]
  by_cases hjk:k=j
  ·subst hjk;rw [if_pos rfl];refine .inr ?_
   show (w.setCell _ _).ownsRow base _ 1 (.slice rs[k].A (rs[k].zs.set i v).length rs[k].c) (rs[k].zs.set i v).length (ints .i64 (rs[k].zs.set i v))
   rw [List.length_set,<- setInts64,hA];exact (hown.stored i _).1
  ·rw [if_neg hjk];refine (hrw rs[j] (List.getElem_mem hj)).set (a:=⟨g,i,none⟩) (fun m hm e=>?_) _;have e':m=g:=e;rw [PwRs,List.pairwise_iff_getElem] at hpw;subst e'
   rcases Nat.lt_or_gt_of_ne hjk with hlt | hgt
   ·exact hpw k j hk hj hlt _ hb hm
   ·exact hpw j k hj hk hgt _ hm hb
 ·rw [PwRs,List.pairwise_iff_getElem] at hpw ⊢;intro a b ha hb hab;rw [List.length_set] at ha hb
  have key:∀ m (hm:m<rs.length) (hm':m<(rs.set k { rs[k] with zs:=rs[k].zs.set i v }).length),((rs.set k { rs[k] with zs:=rs[k].zs.set i v })[m]).A=rs[m].A/\((rs.set k { rs[k] with zs:=rs[k].zs.set i v })[m]).c=rs[m].c:=by
   intro m hm hm';rw [List.getElem_set]
   by_cases hkm:k=m
   ·subst hkm;rw [if_pos rfl];exact ⟨rfl,rfl⟩
   ·rw [if_neg hkm];exact ⟨rfl,rfl⟩
  rw [(key a ha _).1,(key a ha _).2,(key b hb _).1,(key b hb _).2];exact hpw a b ha hb hab
theorem OwnRs.snoc {w w':World} {base:Nat} {A:Option Addr} {c:Nat} {rs:List RV} {N:Nat} (h:OwnRs w base A c rs) {q:RV} (hq:RwR w base q) (hold:∀ p ∈ rs,∀ k,blk p.A p.c=some k->k<N) (hnew:∀ k,blk q.A q.c=some k->N<=k)
  {A':Option Addr} {n' c':Nat} (hn:n'=rs.length+1) (row:Row w' base 89 1 A' n' c' (cellsOf rowC rs++rowC q)) (g:w.grownBy w' (blk A c)):OwnRs w' base A' c' (rs++[q]):=by
 subst hn;have hS:∀ p,RwR w base p->RwR w' base p:=fun p hp=>hp.grown g (fun k hk=>apartT hp h.1 (by decide) k hk);refine ⟨?_,?_,?_⟩
 ·rw [List.length_append,show cellsOf rowC (rs++[q])=cellsOf rowC rs++rowC q by simp [cellsOf]];exact row
 ·intro p hp
  rcases List.mem_append.1 hp with hp | hp
  ·exact hS p (h.2.1 p hp)
  ·have e:=List.mem_singleton.1 hp;subst e;exact hS _ hq
 ·refine List.pairwise_append.2 ⟨h.2.2,List.pairwise_singleton _ _,fun a ha b hb=>?_⟩;have e:=List.mem_singleton.1 hb;subst e;intro k hk hk';have e1:=hold a ha k hk;have e2:=hnew k hk';omega
theorem OwnRs.keep {w w':World} {base:Nat} {A:Option Addr} {c:Nat} {rs:List RV} (h:OwnRs w base A c rs) (hk:∀ k,base<=k->k<w.heap.size->(blk A c=some k\/∃ p ∈ rs,blk p.A p.c=some k)->w'.heap[k]?=w.heap[k]?):OwnRs w' base A c rs:=
 ⟨h.1.keep fun k hb=>hk k (h.1.lt k hb).1 (h.1.lt k hb).2 (.inl hb),fun p hp=>(h.2.1 p hp).keep fun k hb=>hk k ((h.2.1 p hp).lt k hb).1 ((h.2.1 p hp).lt k hb).2 (.inr ⟨p,hp,hb⟩),h.2.2⟩
theorem OwnRs.call {w w':World} {base:Nat} {A:Option Addr} {c:Nat} {rs:List RV} (h:OwnRs w base A c rs) (hb:Below w.heap.size w w'):OwnRs w' base A c rs:=h.keep fun k _ hk _=>hb.block k hk
theorem OwnRs.set {w:World} {base:Nat} {A:Option Addr} {c:Nat} {rs:List RV} (h:OwnRs w base A c rs) {X:Nat} {t:TypeId} {cs:Array Value} (hb:Box w X t cs) (h1:89 ≠ t) (h2:3 ≠ t) (i:Nat) (u:Value):OwnRs (w.setCell ⟨X,i,none⟩ u) base A c rs:=
 h.keep fun k _ _ hk=>Below.heap_setCell w ⟨X,i,none⟩ u k (by
  rcases hk with hk | ⟨p,hp,hk⟩
  ·exact h.1.box hb h1 k hk
  ·exact (h.2.1 p hp).box hb h2 k hk)
theorem OwnRs.lt {w:World} {base:Nat} {A:Option Addr} {c:Nat} {rs:List RV} (h:OwnRs w base A c rs):∀ p ∈ rs,∀ k,blk p.A p.c=some k->k<w.heap.size:=fun p hp k hk=>((h.2.1 p hp).lt k hk).2
theorem RdOs.at {w:World} {B:Nat} {A:Option Addr} {os:List OV} (h:RdOs w B A os) {k:Nat} (hk:k<os.length):
  ∃ b off,A=some ⟨b,off,none⟩/\b<B/\w.cell? ⟨b,off+k*2,none⟩=some (.slice os[k].A os[k].ps.length os[k].c)/\w.cell? ⟨b,off+k*2+1,none⟩=some (.slice os[k].Y os[k].ys.length os[k].yc):=by
 obtain ⟨b,off,hA,hb,hc⟩:=h.1.row objC_len (by decide) hk;exact ⟨b,off,hA,hb,by simpa using hc 0 _ rfl,hc 1 _ rfl⟩
theorem RdRs.at {w:World} {B:Nat} {A:Option Addr} {rs:List RV} (h:RdRs w B A rs) {k:Nat} (hk:k<rs.length):
  ∃ b off,A=some ⟨b,off,none⟩/\b<B/\w.cell? ⟨b,off+k,none⟩=some (.slice rs[k].A rs[k].zs.length rs[k].c):=by
 obtain ⟨b,off,hA,hb,hc⟩:=h.1.row rowC_len (by decide) hk;exact ⟨b,off,hA,hb,by simpa using hc 0 _ rfl⟩
theorem two_below {B:Nat} {a w:World} {Y:Nat} (h:Below B a w) (hY:B<=Y) (u v:Value):Below B a ((w.setCell ⟨Y,0,none⟩ u).setCell ⟨Y,1,none⟩ v):=
 (h.setCell (p:=⟨Y,0,none⟩) hY u).setCell (p:=⟨Y,1,none⟩) hY v
structure Fits (os:List OV):Prop where
 n:os.length<=1048576
 o:∀ o ∈ os,Fit o
end BList
/- sorted: names by their bytes,each once. -/
namespace CSorted
open Kit CFixups CSymbols PObj BObj CMarkRows BStore
def nmC (xs:List ByteArray):List Value:=xs.map Value.string
def bytesOf (xs:List ByteArray):List (List UInt8):=xs.map (·.data.toList)
def sortB (xs:List ByteArray):List (List UInt8):=Lib.compact ((bytesOf xs).mergeSort fun x y=>decide (x<=y))
def srtN (xs:List ByteArray):List ByteArray:=(sortB xs).map fun l=>⟨l.toArray⟩
theorem enc_strs (ls:List (List UInt8)):ls.map encStr=nmC (ls.map fun l=>⟨l.toArray⟩):=by
 unfold nmC;rw [List.map_map]
 rfl
theorem strs_enc (xs:List ByteArray):nmC xs=(bytesOf xs).map encStr:=(Lib.map_encStr xs).symm
theorem srtN_nil:srtN []=[]:=by
 simp [srtN,sortB,bytesOf,Lib.compact,Lib.compactUpTo]
theorem srtN_pos (xs:List ByteArray):0<(srtN xs).length ↔ 0<xs.length:=by
 constructor
 ·intro h
  rcases xs with _ | ⟨x,xs⟩
  ·rw [srtN_nil] at h;exact h
  ·simp
 ·intro h
  have hm:((bytesOf xs).mergeSort fun x y=>decide (x<=y)).length=xs.length:=by rw [List.length_mergeSort]; simp [bytesOf]
  unfold srtN sortB Lib.compact Lib.compactUpTo;rw [List.length_map,List.length_map,List.length_pos_iff_exists_mem];exact ⟨0,List.mem_filter.2 ⟨List.mem_range.2 (by rw [hm]; exact h),by simpa using Lib.keeps_lt_one _ 0 (by omega)⟩⟩
theorem below_grow (w:World) (os:Array Obj):Below w.heap.size w (Sort.grow w os):=⟨rfl,rfl,rfl,by simp,fun _ hk=>Sort.heap_grow_old w os hk⟩
def RetN (xs:List ByteArray) (w:World) (e:Ending) (w':World):Prop:=∃ A c,e=.returned (.slice A xs.length c)/\Row w' w.heap.size 9 1 A xs.length c (nmC xs)/\Below w.heap.size w w'
theorem of_owns {w:World} {base n:Nat} {v:Value} {xs:List Value} (h:w.ownsRow base 9 1 v n xs):∃ A c,v=.slice A n c/\Row w base 9 1 A n c xs:=by
 rcases h.2 with ⟨rfl,rfl⟩ | ⟨g,cap,cur,rfl,_⟩
 ·exact ⟨none,0,rfl,.inr h⟩
 ·exact ⟨_,cap,rfl,.inr h⟩
theorem cloneN_any (xs:List ByteArray) (A:Option Addr) (c:Nat) (base:Nat) (w:World) (h:Row w base 9 1 A xs.length c (nmC xs)) (hm:xs.length<=1048576):
  Calls Tryz.prog 156 #[.slice A xs.length c] w (RetN xs w):=by
 by_cases h0:xs.length=0
 ·obtain rfl:=List.eq_nil_of_length_eq_zero h0
  cases A with
  | none=>
   refine (XNames.slices_Clone_string_nil 0 c w).mono ?_;rintro e w' ⟨rfl,rfl⟩;exact ⟨none,0,rfl,Row.empty _ _ _ _ _,Below.refl _ _⟩
  | some a=>
   refine (XNames.slices_Clone_string_zero a c w).mono ?_;rintro e w' ⟨v,rfl,ho,_,hb⟩;obtain ⟨A',c',rfl,hr⟩:=of_owns ho;exact ⟨A',c',rfl,hr,hb⟩
 ·obtain ⟨g,rfl,_,_,_,hown⟩:=own_of h (by omega);refine (XNames.slices_Clone_string g 0 xs.length c xs w (Nat.le_refl _) (by omega) (fun j hj=>?_)).mono ?_
  ·have h1:=World.ownsRow.cellAt hown j (by simpa [nmC] using hj);rw [Nat.zero_add,h1];simp [nmC,List.getD_eq_getElem?_getD,List.getElem?_eq_getElem hj]
  ·rintro e w' ⟨v,rfl,ho,_,hb⟩;rw [List.take_length] at ho;obtain ⟨A',c',rfl,hr⟩:=of_owns ho;exact ⟨A',c',rfl,hr,hb⟩
set_option maxHeartbeats 1000000 in
theorem sorted_any (xs:List ByteArray) (A:Option Addr) (c:Nat) (base:Nat) (w:World) (h:Row w base 9 1 A xs.length c (nmC xs)) (hm:xs.length<=1048576):
  Calls Tryz.prog 101 #[.slice A xs.length c] w (RetN (srtN xs) w):=by
 have HQ:=h_ (cloneN_any xs A c base w h hm);clear h
 go_enter Tryz.func101,Tryz.ntmps101
 go_wp2_with fail
 refine HQ.o.mono ?_;rintro e w1 ⟨A1,c1,rfl,r1,b1⟩;have HR:=h_ r1;have HB:=h_ b1;clear r1 b1 HQ
 go_wp2_with fail
 have HS:Calls Tryz.prog 157 #[.slice A1 xs.length c1] w1 fun e w'=>e=.returned (.tuple #[])/\Row w' w.heap.size 9 1 A1 xs.length c1 (((bytesOf xs).mergeSort fun x y=>decide (x<=y)).map encStr)/\Below w.heap.size w w':=by
  by_cases h0:xs.length=0
  ·obtain rfl:=List.eq_nil_of_length_eq_zero h0;refine (XNames.slices_Sort_string_none A1 c1 w1).mono ?_;rintro e w' ⟨rfl,rfl⟩;exact ⟨rfl,by simpa [nmC,bytesOf] using HR.o,HB.o⟩
  ·obtain ⟨g,rfl,hb1,hb2,_,hown⟩:=own_of HR.o (by omega);rw [strs_enc] at hown;obtain ⟨g',cap,hv,_,_,_,_,hl,hH⟩:=Lib.holds_of_ownsRow hown (by intro e; cases e);injection hv with e1 _ e3;simp only [Option.some.injEq,Addr.mk.injEq,and_true] at e1;subst e1 e3
   have hl':(bytesOf xs).length=xs.length:=by simp [bytesOf]
   have hC:=XNames.slices_Sort_string g 0 c1 (bytesOf xs) w1 hH hb2 (by rw [hl']; omega);rw [hl'] at hC;refine hC.mono ?_;rintro e w' ⟨rfl,q,os,rfl⟩
   have hlen:((bytesOf xs).mergeSort fun x y=>decide (x<=y)).length=xs.length:=by rw [List.length_mergeSort,hl']
   have ho:=Lib.ownsRow_putRow (q:=q) (k:=xs.length) hown hlen (Nat.le_refl _);rw [List.take_of_length_le (by omega)] at ho;exact ⟨rfl,.inr (own_call (below_grow _ os) ho),(Lib.below_putRow HB.o hb1).trans ((below_grow _ os).mono (Lib.below_putRow HB.o hb1).size)⟩
 refine HS.mono ?_;rintro e w2 ⟨rfl,r2,b2⟩;have HR2:=h_ r2;have HB2:=h_ b2;clear r2 b2 HS HR HB
 go_wp2_with fail
 have HC:Calls Tryz.prog 158 #[.slice A1 xs.length c1] w2 fun e w'=>∃ c',e=.returned (.slice A1 (srtN xs).length c')/\Row w' w.heap.size 9 1 A1 (srtN xs).length c' (nmC (srtN xs))/\Below w.heap.size w w':=by
  have hlen:((bytesOf xs).mergeSort fun x y=>decide (x<=y)).length=xs.length:=by rw [List.length_mergeSort]; simp [bytesOf]
  by_cases h0:xs.length=0
  ·obtain rfl:=List.eq_nil_of_length_eq_zero h0;refine (XNames.slices_Compact_string_empty A1 c1 w2).mono ?_;rintro e w' ⟨rfl,rfl⟩;rw [srtN_nil];exact ⟨c1,rfl,by simpa [nmC,bytesOf] using HR2.o,HB2.o⟩
  ·obtain ⟨g,rfl,hb1,hb2,_,hown⟩:=own_of HR2.o (by omega);have hcap:=HR2.o.cap.1;generalize hM:((bytesOf xs).mergeSort fun x y=>decide (x<=y))=M at *
   have hsr:srtN xs=(Lib.compact M).map fun l=>⟨l.toArray⟩:=by unfold srtN sortB; rw [hM]
   obtain ⟨g',cap,hv,_,_,_,_,hl,hH⟩:=Lib.holds_of_ownsRow hown (by intro e; cases e);injection hv with e1 _ e3;simp only [Option.some.injEq,Addr.mk.injEq,and_true] at e1;subst e1 e3;have hle:=Lib.compact_length_le M;have hC:=XNames.slices_Compact_string g 0 c1 M w2 hH (by omega) (by omega);rw [hlen] at hC;refine hC.mono ?_;rintro e w' ⟨rfl,q,rfl⟩;have ho:=Lib.ownsRow_putRow (q:=q) (k:=(Lib.compact M).length) (ys:=Lib.compact M++List.replicate (xs.length - (Lib.compact M).length) []) hown (by simp; omega) (by omega);rw [List.take_left] at ho;refine ⟨c1,by rw [hsr,List.length_map],?_,Lib.below_putRow HB2.o hb1⟩;rw [hsr,<- enc_strs,List.length_map];exact .inr ho
 refine HC.mono ?_;rintro e w3 ⟨c3,rfl,r3,b3⟩;have HB3:=h_ b3
 have hl:(srtN xs).length<=1048576:=by
  have h1:=Lib.compact_length_le ((bytesOf xs).mergeSort fun x y=>decide (x<=y));rw [List.length_mergeSort] at h1
  have h2:(bytesOf xs).length=xs.length:=by simp [bytesOf]
  have h3:(srtN xs).length=(sortB xs).length:=by simp [srtN]
  unfold sortB at h3;omega
 have HQ:=h_ (cloneN_any (srtN xs) A1 c3 _ w3 r3 hl);clear r3 b3 HC HR2 HB2 hl;generalize srtN xs=ys at *
 go_wp2_with fail
 refine HQ.o.mono ?_;rintro e w4 ⟨A4,c4,rfl,r4,b4⟩;have HF:=h_ (And.intro (r4.down HB3.o.size) (HB3.o.trans (b4.mono HB3.o.size)));clear r4 b4 HQ
 go_wp2_with fail
 go_ret;exact ⟨A4,c4,rfl,HF.o.1,HF.o.2⟩
end CSorted
/- What the walks of exact laws on objects share. -/
namespace WObj
open Kit CCode CFixups CSymbols PObj BObj PValid CObjValid CSections CObject CObject2 CMarkRows
def sumD (d:OD):Int:=(d.ss.length:Int)+tot d.ss+d.ys.length+toty d.ys
theorem sum_D (o:OV):sum o=sumD o.d:=by simp [sum,sumD,OV.d]
theorem sumD_nonneg (d:OD):0<=sumD d:=by
 have h1:=tot_nonneg d.ss;have h2:=toty_nonneg d.ys;unfold sumD;omega
theorem fit_own {o:OV} {w:World} {base:Nat} (hs:sum o<=1048576) (ho:OwnO w base o):Fit o/\(∀ p ∈ o.ps,p.zs.length<=p.c):=by
 obtain ⟨⟨l1,l2,l3⟩,l4,l5⟩:=sum_lim hs
 have hmx:(1048576:Nat)<=maxLen:=by decide
 refine ⟨⟨l1,l2,ho.2.cap.1,fun p hp=>⟨Nat.le_trans (l4 p hp) hmx,(l3 p hp).1,(l3 p hp).2⟩,fun y hy=>Nat.le_trans (l5 y hy) hmx⟩,fun p hp=>((ho.1.2.1 p hp).1).cap.1⟩
end WObj
/- The order of symbols; plain. -/
namespace PSort
open Kit CFixups CSymbols PObj BObj PValid PWarn PClear WObj
def sl (a b:ByteArray):Bool:=Op.bytesLess a.toList b.toList
section
variable (bf:Nat->Nat->Bool)
end
end PSort
/- Contracts of PutNumber and GetNumber,the program's and the reference's. -/
namespace CNumber
open Kit CCode
theorem info8:(Tryz.prog.info? 5).map (fun i=>(i.zero,i.size,i.bytes))=some (some (.int .u8 0),1,1):=by kernel_rfl
def putL:Nat->Int->List Int
 | 0,_=>[]
 | w+1,n=>n % 256 :: putL w (n / 256)
theorem putL_len:∀ (w:Nat) (n:Int),(putL w n).length=w
 | 0,_=>rfl
 | w+1,n=>by simp [putL,putL_len w]
theorem putL_bd:∀ (w:Nat) (n:Int),InR 0 255 (putL w n)
 | 0,_=>fun x hx=>by simp [putL] at hx
 | w+1,n=>fun x hx=>by
  rcases List.mem_cons.1 hx with rfl | hx
  ·omega
  ·exact putL_bd w _ x hx
def all:Int->Int:=fun w=>if w=1 then 255 else if w=2 then 65535 else if w=3 then 16777215 else 4294967295
def pnum (n wide:Int):List Int:=if inB wide 1 4=true/\inB n 0 (all wide)=true then putL wide.toNat n else []
theorem putL_step {w w':Nat} {m:Int} (h:w=w'+1):putL w m=m % 256 :: putL w' (m / 256):=by rw [h]; rfl
def powI:Int->Int:=fun w=>if w=1 then 256 else if w=2 then 65536 else if w=3 then 16777216 else 4294967296
def p256:Nat->Int
 | 0=>1
 | k+1=>256*p256 k
theorem p256_bd {k:Nat} (h:k<4):0<=p256 k/\p256 k<=16777216:=by
 obtain rfl | rfl | rfl | rfl:k=0\/k=1\/k=2\/k=3:=by omega
 all_goals simp [p256]
theorem p256_pow {k:Nat} (h:1<=k/\k<=4):p256 k=powI k:=by
 obtain rfl | rfl | rfl | rfl:k=1\/k=2\/k=3\/k=4:=by omega
 all_goals simp [p256,powI]
theorem power_any (W:Nat) (hW:1<=W/\W<=4) (w:World):Calls Tryz.prog 194 #[.int .i64 W] w (Pure (.int .i64 (powI W)) w):=by
 go_enter Tryz.func194,Tryz.ntmps194
 go_wp2_with fail
 go_loop [3,4] (fun n i=>∃ k:Nat,k<=W/\i=.int .i64 k/\n=.int .i64 (p256 k)) (fun _ i=>W - (intOf i).toNat)
 case atStart=>exact ⟨0,by omega,rfl,rfl⟩
 case round=>
  obtain ⟨k,hk,rfl,rfl⟩:=hrel
  by_cases hlt:k<W
  ·obtain ⟨b0,b1⟩:=p256_bd (k:=k) (by omega);have HS:=h_ (show p256 (k+1)=256*p256 k from rfl);generalize p256 k=q at *
   go_wp2_with fail
   go_round
   case rel=>exact ⟨k+1,by omega,by go_num,by rw [HS.o]⟩
   case measure=>simp [intOf]; omega
  ·have e:k=W:=by omega
   subst e;have HS:=h_ (p256_pow hW)
   go_wp2_with fail
   go_ret;exact ⟨ret_int HS.o,rfl⟩
theorem putNumber_go (n:Int) (W:Nat) (w:World) (hW:1<=W/\W<=4) (h0:0<=n) (h1:n<=all W):Calls Tryz.prog 106 #[.int .i64 n,.int .i64 W] w (RetInts 5 .u8 (putL W n) w):=by
 obtain ⟨i0,hi,hz0,hz1,hz2⟩:=info_parts info8
 have hn:n<=4294967295:=by unfold all at h1; split at h1 <;> (try split at h1) <;> (try split at h1) <;> omega
 have hA:=inB_t (n:=n) (lo:=0) (hi:=all W) ⟨h0,h1⟩;have ho0:=h_ (own_empty (w:=w) (E:=5));have hb0:Hd (Below w.heap.size w (w.alloc (.cells #[] 5))):=b_
 obtain rfl | rfl | rfl | rfl:W=1\/W=2\/W=3\/W=4:=by omega
 ·have hb:inB 1 1 4=true:=by decide
  have hA':inB n 0 255=true:=hA;clear hA h1
  go_enter Tryz.func106,Tryz.ntmps106
  go_wp2_with (first | (go_at_call 88; refine (within_any _ _ _ _).mono ?_; rintro e w' ⟨rfl,rfl⟩) | (go_at_call 111; refine (l1In_any _ _ _ _).mono ?_; rintro e w' ⟨rfl,rfl⟩) | fail)
  clear hb hA'
  go_loopw [0,5,21] (fun n' v i wr=>∃ (k:Nat) (m:Int) (pre:List Int) (A:Option Addr) (l c:Nat),k<=1/\i=.int .i64 k/\n'=.int .i64 m/\0<=m/\m<=4294967295/\v=.slice A l c/\l=pre.length/\l=k/\pre++putL (1 - k) m=putL 1 n/\wr.ownsRow w.heap.size 5 1 (.slice A l c) l (ints .u8 pre)/\Below w.heap.size w wr) (fun _ _ i _=>1 - (intOf i).toNat)
  case atStart=>exact ⟨0,n,[],_,_,_,by omega,rfl,rfl,h0,hn,rfl,rfl,rfl,rfl,ho0.o,hb0.o⟩
  case round=>
   obtain ⟨k,m,pre,A,l,c,hk,rfl,rfl,m0,m1,rfl,hl,hlk,hpre,ho,hb⟩:=hrel;have HL:=h_ hl;have HP:=h_ hpre;have HO:=h_ ho;have HB:=h_ hb;have HK:=h_ hlk
   have hl4:l<=4:=by omega
   clear hl hpre ho hb hlk h0 hn
   by_cases hlt:k<1
   ·have HS:=h_ (putL_step (m:=m) (show 1 - k=(1 - (k+1))+1 by omega))
    go_wp2_with (at_builtin; refine wpList_app1 wr rfl (.tmp 23) (.tmp 26) 22 rfl w.heap.size 5 i0 (.int .u8 0) 1 1 Tryz.underlying22 hi hz0 hz1 hz2 rfl (by decide) _ rfl rfl ?o1 _ _ _ rfl HO.o ?n1 ?n2 ?n3 ?_)
    case o1=>first | rfl | (simp; done) | (intro u hu; simp at hu; subst hu; rfl)
    case n1=>unfold maxLen; omega
    case n2=>omega
    case n3=>exact HB.o.size
    intro A' n' c' w' hn' ho' hg';subst hn';have HO':=h_ ho';have HB':=h_ (HB.o.grown hg' HB.o.size (fun k hk=>(HO.o.lt k hk).1));clear ho' hg'
    go_wp2_with fail
    refine ⟨⟨k+1,m / 256,pre++[m % 256],A',l+1,c',by omega,by go_num,rfl,by omega,by omega,rfl,?_,?_,?_,?_,HB'.o⟩,by simp [intOf]; omega⟩
    ·rw [HL.o]; simp
    ·rw [HK.o]
    ·rw [List.append_assoc,<- HP.o,HS.o]; rfl
    ·rw [<-ints_snoc]
     first | exact HO'.o | (simpa using HO'.o)
   ·have e:1 - k=0:=by omega
    have HV:=h_ (show putL 1 n=pre by rw [<-HP.o,e]; simp [putL]);clear e
    go_wp2_with fail
    go_ret;exact HV.o ▸ RetInts.mk HL.o HO.o HB.o
 ·have hb:inB 2 1 4=true:=by decide
  have hA':inB n 0 65535=true:=hA;clear hA h1
  go_enter Tryz.func106,Tryz.ntmps106
  go_wp2_with (first | (go_at_call 88; refine (within_any _ _ _ _).mono ?_; rintro e w' ⟨rfl,rfl⟩) | (go_at_call 111; refine (l1In_any _ _ _ _).mono ?_; rintro e w' ⟨rfl,rfl⟩) | fail)
  clear hb hA'
  go_loopw [0,5,21] (fun n' v i wr=>∃ (k:Nat) (m:Int) (pre:List Int) (A:Option Addr) (l c:Nat),k<=2/\i=.int .i64 k/\n'=.int .i64 m/\0<=m/\m<=4294967295/\v=.slice A l c/\l=pre.length/\l=k/\pre++putL (2 - k) m=putL 2 n/\wr.ownsRow w.heap.size 5 1 (.slice A l c) l (ints .u8 pre)/\Below w.heap.size w wr) (fun _ _ i _=>2 - (intOf i).toNat)
  case atStart=>exact ⟨0,n,[],_,_,_,by omega,rfl,rfl,h0,hn,rfl,rfl,rfl,rfl,ho0.o,hb0.o⟩
  case round=>
   obtain ⟨k,m,pre,A,l,c,hk,rfl,rfl,m0,m1,rfl,hl,hlk,hpre,ho,hb⟩:=hrel;have HL:=h_ hl;have HP:=h_ hpre;have HO:=h_ ho;have HB:=h_ hb;have HK:=h_ hlk
   have hl4:l<=4:=by omega
   clear hl hpre ho hb hlk h0 hn
   by_cases hlt:k<2
   ·have HS:=h_ (putL_step (m:=m) (show 2 - k=(2 - (k+1))+1 by omega))
    go_wp2_with (at_builtin; refine wpList_app1 wr rfl (.tmp 23) (.tmp 26) 22 rfl w.heap.size 5 i0 (.int .u8 0) 1 1 Tryz.underlying22 hi hz0 hz1 hz2 rfl (by decide) _ rfl rfl ?o1 _ _ _ rfl HO.o ?n1 ?n2 ?n3 ?_)
    case o1=>first | rfl | (simp; done) | (intro u hu; simp at hu; subst hu; rfl)
    case n1=>unfold maxLen; omega
    case n2=>omega
    case n3=>exact HB.o.size
    intro A' n' c' w' hn' ho' hg';subst hn';have HO':=h_ ho';have HB':=h_ (HB.o.grown hg' HB.o.size (fun k hk=>(HO.o.lt k hk).1));clear ho' hg'
    go_wp2_with fail
    refine ⟨⟨k+1,m / 256,pre++[m % 256],A',l+1,c',by omega,by go_num,rfl,by omega,by omega,rfl,?_,?_,?_,?_,HB'.o⟩,by simp [intOf]; omega⟩
    ·rw [HL.o]; simp
    ·rw [HK.o]
    ·rw [List.append_assoc,<- HP.o,HS.o]; rfl
    ·rw [<-ints_snoc]
     first | exact HO'.o | (simpa using HO'.o)
   ·have e:2 - k=0:=by omega
    have HV:=h_ (show putL 2 n=pre by rw [<-HP.o,e]; simp [putL]);clear e
    go_wp2_with fail
    go_ret;exact HV.o ▸ RetInts.mk HL.o HO.o HB.o
 ·have hb:inB 3 1 4=true:=by decide
  have hA':inB n 0 16777215=true:=hA;clear hA h1
  go_enter Tryz.func106,Tryz.ntmps106
  go_wp2_with (first | (go_at_call 88; refine (within_any _ _ _ _).mono ?_; rintro e w' ⟨rfl,rfl⟩) | (go_at_call 111; refine (l1In_any _ _ _ _).mono ?_; rintro e w' ⟨rfl,rfl⟩) | fail)
  clear hb hA'
  go_loopw [0,5,21] (fun n' v i wr=>∃ (k:Nat) (m:Int) (pre:List Int) (A:Option Addr) (l c:Nat),k<=3/\i=.int .i64 k/\n'=.int .i64 m/\0<=m/\m<=4294967295/\v=.slice A l c/\l=pre.length/\l=k/\pre++putL (3 - k) m=putL 3 n/\wr.ownsRow w.heap.size 5 1 (.slice A l c) l (ints .u8 pre)/\Below w.heap.size w wr) (fun _ _ i _=>3 - (intOf i).toNat)
  case atStart=>exact ⟨0,n,[],_,_,_,by omega,rfl,rfl,h0,hn,rfl,rfl,rfl,rfl,ho0.o,hb0.o⟩
  case round=>
   obtain ⟨k,m,pre,A,l,c,hk,rfl,rfl,m0,m1,rfl,hl,hlk,hpre,ho,hb⟩:=hrel;have HL:=h_ hl;have HP:=h_ hpre;have HO:=h_ ho;have HB:=h_ hb;have HK:=h_ hlk
   have hl4:l<=4:=by omega
   clear hl hpre ho hb hlk h0 hn
   by_cases hlt:k<3
   ·have HS:=h_ (putL_step (m:=m) (show 3 - k=(3 - (k+1))+1 by omega))
    go_wp2_with (at_builtin; refine wpList_app1 wr rfl (.tmp 23) (.tmp 26) 22 rfl w.heap.size 5 i0 (.int .u8 0) 1 1 Tryz.underlying22 hi hz0 hz1 hz2 rfl (by decide) _ rfl rfl ?o1 _ _ _ rfl HO.o ?n1 ?n2 ?n3 ?_)
    case o1=>first | rfl | (simp; done) | (intro u hu; simp at hu; subst hu; rfl)
    case n1=>unfold maxLen; omega
    case n2=>omega
    case n3=>exact HB.o.size
    intro A' n' c' w' hn' ho' hg';subst hn';have HO':=h_ ho';have HB':=h_ (HB.o.grown hg' HB.o.size (fun k hk=>(HO.o.lt k hk).1));clear ho' hg'
    go_wp2_with fail
    refine ⟨⟨k+1,m / 256,pre++[m % 256],A',l+1,c',by omega,by go_num,rfl,by omega,by omega,rfl,?_,?_,?_,?_,HB'.o⟩,by simp [intOf]; omega⟩
    ·rw [HL.o]; simp
    ·rw [HK.o]
    ·rw [List.append_assoc,<- HP.o,HS.o]; rfl
    ·rw [<-ints_snoc]
     first | exact HO'.o | (simpa using HO'.o)
   ·have e:3 - k=0:=by omega
    have HV:=h_ (show putL 3 n=pre by rw [<-HP.o,e]; simp [putL]);clear e
    go_wp2_with fail
    go_ret;exact HV.o ▸ RetInts.mk HL.o HO.o HB.o
 ·have hb:inB 4 1 4=true:=by decide
  have hA':inB n 0 4294967295=true:=hA;clear hA h1
  go_enter Tryz.func106,Tryz.ntmps106
  go_wp2_with (first | (go_at_call 88; refine (within_any _ _ _ _).mono ?_; rintro e w' ⟨rfl,rfl⟩) | (go_at_call 111; refine (l1In_any _ _ _ _).mono ?_; rintro e w' ⟨rfl,rfl⟩) | fail)
  clear hb hA'
  go_loopw [0,5,21] (fun n' v i wr=>∃ (k:Nat) (m:Int) (pre:List Int) (A:Option Addr) (l c:Nat),k<=4/\i=.int .i64 k/\n'=.int .i64 m/\0<=m/\m<=4294967295/\v=.slice A l c/\l=pre.length/\l=k/\pre++putL (4 - k) m=putL 4 n/\wr.ownsRow w.heap.size 5 1 (.slice A l c) l (ints .u8 pre)/\Below w.heap.size w wr) (fun _ _ i _=>4 - (intOf i).toNat)
  case atStart=>exact ⟨0,n,[],_,_,_,by omega,rfl,rfl,h0,hn,rfl,rfl,rfl,rfl,ho0.o,hb0.o⟩
  case round=>
   obtain ⟨k,m,pre,A,l,c,hk,rfl,rfl,m0,m1,rfl,hl,hlk,hpre,ho,hb⟩:=hrel;have HL:=h_ hl;have HP:=h_ hpre;have HO:=h_ ho;have HB:=h_ hb;have HK:=h_ hlk
   have hl4:l<=4:=by omega
   clear hl hpre ho hb hlk h0 hn
   by_cases hlt:k<4
   ·have HS:=h_ (putL_step (m:=m) (show 4 - k=(4 - (k+1))+1 by omega))
    go_wp2_with (at_builtin; refine wpList_app1 wr rfl (.tmp 23) (.tmp 26) 22 rfl w.heap.size 5 i0 (.int .u8 0) 1 1 Tryz.underlying22 hi hz0 hz1 hz2 rfl (by decide) _ rfl rfl ?o1 _ _ _ rfl HO.o ?n1 ?n2 ?n3 ?_)
    case o1=>first | rfl | (simp; done) | (intro u hu; simp at hu; subst hu; rfl)
    case n1=>unfold maxLen; omega
    case n2=>omega
    case n3=>exact HB.o.size
    intro A' n' c' w' hn' ho' hg';subst hn';have HO':=h_ ho';have HB':=h_ (HB.o.grown hg' HB.o.size (fun k hk=>(HO.o.lt k hk).1));clear ho' hg'
    go_wp2_with fail
    refine ⟨⟨k+1,m / 256,pre++[m % 256],A',l+1,c',by omega,by go_num,rfl,by omega,by omega,rfl,?_,?_,?_,?_,HB'.o⟩,by simp [intOf]; omega⟩
    ·rw [HL.o]; simp
    ·rw [HK.o]
    ·rw [List.append_assoc,<- HP.o,HS.o]; rfl
    ·rw [<-ints_snoc]
     first | exact HO'.o | (simpa using HO'.o)
   ·have e:4 - k=0:=by omega
    have HV:=h_ (show putL 4 n=pre by rw [<-HP.o,e]; simp [putL]);clear e
    go_wp2_with fail
    go_ret;exact HV.o ▸ RetInts.mk HL.o HO.o HB.o
theorem putNumberS_go (n:Int) (W:Nat) (w:World) (hW:1<=W/\W<=4) (h0:0<=n) (h1:n<=all W):Calls Tryz.prog 165 #[.int .i64 n,.int .i64 W] w (RetInts 5 .u8 (putL W n) w):=by
 obtain ⟨i0,hi,hz0,hz1,hz2⟩:=info_parts info8
 have hn:n<=4294967295:=by unfold all at h1; split at h1 <;> (try split at h1) <;> (try split at h1) <;> omega
 have hA:=inB_t (n:=n) (lo:=0) (hi:=all W) ⟨h0,h1⟩;have ho0:=h_ (own_empty (w:=w) (E:=5));have hb0:Hd (Below w.heap.size w (w.alloc (.cells #[] 5))):=b_
 obtain rfl | rfl | rfl | rfl:W=1\/W=2\/W=3\/W=4:=by omega
 ·have hb:inB 1 1 4=true:=by decide
  have hA':inB n 0 255=true:=hA;have hpw:powI 1=256:=rfl;clear hA h1
  go_enter Tryz.func165,Tryz.ntmps165
  go_wp2_with (first | (go_at_call 111; refine (l1In_any _ _ _ _).mono ?_; rintro e w' ⟨rfl,rfl⟩) | (go_at_call 194; refine (power_any 1 (by omega) _).mono ?_; rintro e w' ⟨rfl,rfl⟩))
  clear hb hA'
  go_loopw [0,5,6] (fun n' v i wr=>∃ (k:Nat) (m:Int) (pre:List Int) (A:Option Addr) (l c:Nat),k<=1/\i=.int .i64 k/\n'=.int .i64 m/\0<=m/\m<=4294967295/\v=.slice A l c/\l=pre.length/\l=k/\pre++putL (1 - k) m=putL 1 n/\wr.ownsRow w.heap.size 5 1 (.slice A l c) l (ints .u8 pre)/\Below w.heap.size w wr) (fun _ _ i _=>1 - (intOf i).toNat)
  case atStart=>exact ⟨0,n,[],_,_,_,by omega,rfl,rfl,h0,hn,rfl,rfl,rfl,rfl,ho0.o,hb0.o⟩
  case round=>
   obtain ⟨k,m,pre,A,l,c,hk,rfl,rfl,m0,m1,rfl,hl,hlk,hpre,ho,hb⟩:=hrel;have HL:=h_ hl;have HP:=h_ hpre;have HO:=h_ ho;have HB:=h_ hb;have HK:=h_ hlk
   have hl4:l<=4:=by omega
   clear hl hpre ho hb hlk h0 hn
   by_cases hlt:k<1
   ·have HS:=h_ (putL_step (m:=m) (show 1 - k=(1 - (k+1))+1 by omega))
    go_wp2_with (at_builtin; refine wpList_app1 wr rfl (.tmp 25) (.tmp 29) 22 rfl w.heap.size 5 i0 (.int .u8 0) 1 1 Tryz.underlying22 hi hz0 hz1 hz2 rfl (by decide) _ rfl rfl ?o1 _ _ _ rfl HO.o ?n1 ?n2 ?n3 ?_)
    case o1=>first | rfl | (simp; done) | (intro u hu; simp at hu; subst hu; rfl)
    case n1=>unfold maxLen; omega
    case n2=>omega
    case n3=>exact HB.o.size
    intro A' n' c' w' hn' ho' hg';subst hn';have HO':=h_ ho';have HB':=h_ (HB.o.grown hg' HB.o.size (fun k hk=>(HO.o.lt k hk).1));clear ho' hg'
    go_wp2_with fail
    refine ⟨⟨k+1,m / 256,pre++[m % 256],A',l+1,c',by omega,by go_num,rfl,by omega,by omega,rfl,?_,?_,?_,?_,HB'.o⟩,by simp [intOf]; omega⟩
    ·rw [HL.o]; simp
    ·rw [HK.o]
    ·rw [List.append_assoc,<- HP.o,HS.o]; rfl
    ·rw [<-ints_snoc]
     first | exact HO'.o | (simpa using HO'.o)
   ·have e:1 - k=0:=by omega
    have HV:=h_ (show putL 1 n=pre by rw [<-HP.o,e]; simp [putL]);clear e
    go_wp2_with fail
    go_ret;exact HV.o ▸ RetInts.mk HL.o HO.o HB.o
 ·have hb:inB 2 1 4=true:=by decide
  have hA':inB n 0 65535=true:=hA;have hpw:powI 2=65536:=rfl;clear hA h1
  go_enter Tryz.func165,Tryz.ntmps165
  go_wp2_with (first | (go_at_call 111; refine (l1In_any _ _ _ _).mono ?_; rintro e w' ⟨rfl,rfl⟩) | (go_at_call 194; refine (power_any 2 (by omega) _).mono ?_; rintro e w' ⟨rfl,rfl⟩))
  clear hb hA'
  go_loopw [0,5,6] (fun n' v i wr=>∃ (k:Nat) (m:Int) (pre:List Int) (A:Option Addr) (l c:Nat),k<=2/\i=.int .i64 k/\n'=.int .i64 m/\0<=m/\m<=4294967295/\v=.slice A l c/\l=pre.length/\l=k/\pre++putL (2 - k) m=putL 2 n/\wr.ownsRow w.heap.size 5 1 (.slice A l c) l (ints .u8 pre)/\Below w.heap.size w wr) (fun _ _ i _=>2 - (intOf i).toNat)
  case atStart=>exact ⟨0,n,[],_,_,_,by omega,rfl,rfl,h0,hn,rfl,rfl,rfl,rfl,ho0.o,hb0.o⟩
  case round=>
   obtain ⟨k,m,pre,A,l,c,hk,rfl,rfl,m0,m1,rfl,hl,hlk,hpre,ho,hb⟩:=hrel;have HL:=h_ hl;have HP:=h_ hpre;have HO:=h_ ho;have HB:=h_ hb;have HK:=h_ hlk
   have hl4:l<=4:=by omega
   clear hl hpre ho hb hlk h0 hn
   by_cases hlt:k<2
   ·have HS:=h_ (putL_step (m:=m) (show 2 - k=(2 - (k+1))+1 by omega))
    go_wp2_with (at_builtin; refine wpList_app1 wr rfl (.tmp 25) (.tmp 29) 22 rfl w.heap.size 5 i0 (.int .u8 0) 1 1 Tryz.underlying22 hi hz0 hz1 hz2 rfl (by decide) _ rfl rfl ?o1 _ _ _ rfl HO.o ?n1 ?n2 ?n3 ?_)
    case o1=>first | rfl | (simp; done) | (intro u hu; simp at hu; subst hu; rfl)
    case n1=>unfold maxLen; omega
    case n2=>omega
    case n3=>exact HB.o.size
    intro A' n' c' w' hn' ho' hg';subst hn';have HO':=h_ ho';have HB':=h_ (HB.o.grown hg' HB.o.size (fun k hk=>(HO.o.lt k hk).1));clear ho' hg'
    go_wp2_with fail
    refine ⟨⟨k+1,m / 256,pre++[m % 256],A',l+1,c',by omega,by go_num,rfl,by omega,by omega,rfl,?_,?_,?_,?_,HB'.o⟩,by simp [intOf]; omega⟩
    ·rw [HL.o]; simp
    ·rw [HK.o]
    ·rw [List.append_assoc,<- HP.o,HS.o]; rfl
    ·rw [<-ints_snoc]
     first | exact HO'.o | (simpa using HO'.o)
   ·have e:2 - k=0:=by omega
    have HV:=h_ (show putL 2 n=pre by rw [<-HP.o,e]; simp [putL]);clear e
    go_wp2_with fail
    go_ret;exact HV.o ▸ RetInts.mk HL.o HO.o HB.o
 ·have hb:inB 3 1 4=true:=by decide
  have hA':inB n 0 16777215=true:=hA;have hpw:powI 3=16777216:=rfl;clear hA h1
  go_enter Tryz.func165,Tryz.ntmps165
  go_wp2_with (first | (go_at_call 111; refine (l1In_any _ _ _ _).mono ?_; rintro e w' ⟨rfl,rfl⟩) | (go_at_call 194; refine (power_any 3 (by omega) _).mono ?_; rintro e w' ⟨rfl,rfl⟩))
  clear hb hA'
  go_loopw [0,5,6] (fun n' v i wr=>∃ (k:Nat) (m:Int) (pre:List Int) (A:Option Addr) (l c:Nat),k<=3/\i=.int .i64 k/\n'=.int .i64 m/\0<=m/\m<=4294967295/\v=.slice A l c/\l=pre.length/\l=k/\pre++putL (3 - k) m=putL 3 n/\wr.ownsRow w.heap.size 5 1 (.slice A l c) l (ints .u8 pre)/\Below w.heap.size w wr) (fun _ _ i _=>3 - (intOf i).toNat)
  case atStart=>exact ⟨0,n,[],_,_,_,by omega,rfl,rfl,h0,hn,rfl,rfl,rfl,rfl,ho0.o,hb0.o⟩
  case round=>
   obtain ⟨k,m,pre,A,l,c,hk,rfl,rfl,m0,m1,rfl,hl,hlk,hpre,ho,hb⟩:=hrel;have HL:=h_ hl;have HP:=h_ hpre;have HO:=h_ ho;have HB:=h_ hb;have HK:=h_ hlk
   have hl4:l<=4:=by omega
   clear hl hpre ho hb hlk h0 hn
   by_cases hlt:k<3
   ·have HS:=h_ (putL_step (m:=m) (show 3 - k=(3 - (k+1))+1 by omega))
    go_wp2_with (at_builtin; refine wpList_app1 wr rfl (.tmp 25) (.tmp 29) 22 rfl w.heap.size 5 i0 (.int .u8 0) 1 1 Tryz.underlying22 hi hz0 hz1 hz2 rfl (by decide) _ rfl rfl ?o1 _ _ _ rfl HO.o ?n1 ?n2 ?n3 ?_)
    case o1=>first | rfl | (simp; done) | (intro u hu; simp at hu; subst hu; rfl)
    case n1=>unfold maxLen; omega
    case n2=>omega
    case n3=>exact HB.o.size
    intro A' n' c' w' hn' ho' hg';subst hn';have HO':=h_ ho';have HB':=h_ (HB.o.grown hg' HB.o.size (fun k hk=>(HO.o.lt k hk).1));clear ho' hg'
    go_wp2_with fail
    refine ⟨⟨k+1,m / 256,pre++[m % 256],A',l+1,c',by omega,by go_num,rfl,by omega,by omega,rfl,?_,?_,?_,?_,HB'.o⟩,by simp [intOf]; omega⟩
    ·rw [HL.o]; simp
    ·rw [HK.o]
    ·rw [List.append_assoc,<- HP.o,HS.o]; rfl
    ·rw [<-ints_snoc]
     first | exact HO'.o | (simpa using HO'.o)
   ·have e:3 - k=0:=by omega
    have HV:=h_ (show putL 3 n=pre by rw [<-HP.o,e]; simp [putL]);clear e
    go_wp2_with fail
    go_ret;exact HV.o ▸ RetInts.mk HL.o HO.o HB.o
 ·have hb:inB 4 1 4=true:=by decide
  have hA':inB n 0 4294967295=true:=hA;have hpw:powI 4=4294967296:=rfl;clear hA h1
  go_enter Tryz.func165,Tryz.ntmps165
  go_wp2_with (first | (go_at_call 111; refine (l1In_any _ _ _ _).mono ?_; rintro e w' ⟨rfl,rfl⟩) | (go_at_call 194; refine (power_any 4 (by omega) _).mono ?_; rintro e w' ⟨rfl,rfl⟩))
  clear hb hA'
  go_loopw [0,5,6] (fun n' v i wr=>∃ (k:Nat) (m:Int) (pre:List Int) (A:Option Addr) (l c:Nat),k<=4/\i=.int .i64 k/\n'=.int .i64 m/\0<=m/\m<=4294967295/\v=.slice A l c/\l=pre.length/\l=k/\pre++putL (4 - k) m=putL 4 n/\wr.ownsRow w.heap.size 5 1 (.slice A l c) l (ints .u8 pre)/\Below w.heap.size w wr) (fun _ _ i _=>4 - (intOf i).toNat)
  case atStart=>exact ⟨0,n,[],_,_,_,by omega,rfl,rfl,h0,hn,rfl,rfl,rfl,rfl,ho0.o,hb0.o⟩
  case round=>
   obtain ⟨k,m,pre,A,l,c,hk,rfl,rfl,m0,m1,rfl,hl,hlk,hpre,ho,hb⟩:=hrel;have HL:=h_ hl;have HP:=h_ hpre;have HO:=h_ ho;have HB:=h_ hb;have HK:=h_ hlk
   have hl4:l<=4:=by omega
   clear hl hpre ho hb hlk h0 hn
   by_cases hlt:k<4
   ·have HS:=h_ (putL_step (m:=m) (show 4 - k=(4 - (k+1))+1 by omega))
    go_wp2_with (at_builtin; refine wpList_app1 wr rfl (.tmp 25) (.tmp 29) 22 rfl w.heap.size 5 i0 (.int .u8 0) 1 1 Tryz.underlying22 hi hz0 hz1 hz2 rfl (by decide) _ rfl rfl ?o1 _ _ _ rfl HO.o ?n1 ?n2 ?n3 ?_)
    case o1=>first | rfl | (simp; done) | (intro u hu; simp at hu; subst hu; rfl)
    case n1=>unfold maxLen; omega
    case n2=>omega
    case n3=>exact HB.o.size
    intro A' n' c' w' hn' ho' hg';subst hn';have HO':=h_ ho';have HB':=h_ (HB.o.grown hg' HB.o.size (fun k hk=>(HO.o.lt k hk).1));clear ho' hg'
    go_wp2_with fail
    refine ⟨⟨k+1,m / 256,pre++[m % 256],A',l+1,c',by omega,by go_num,rfl,by omega,by omega,rfl,?_,?_,?_,?_,HB'.o⟩,by simp [intOf]; omega⟩
    ·rw [HL.o]; simp
    ·rw [HK.o]
    ·rw [List.append_assoc,<- HP.o,HS.o]; rfl
    ·rw [<-ints_snoc]
     first | exact HO'.o | (simpa using HO'.o)
   ·have e:4 - k=0:=by omega
    have HV:=h_ (show putL 4 n=pre by rw [<-HP.o,e]; simp [putL]);clear e
    go_wp2_with fail
    go_ret;exact HV.o ▸ RetInts.mk HL.o HO.o HB.o
theorem putNumber_any (n wide:Int) (w:World):Calls Tryz.prog 106 #[.int .i64 n,.int .i64 wide] w (RetInts 5 .u8 (pnum n wide) w):=by
 by_cases hw:1<=wide/\wide<=4
 ·obtain ⟨W,rfl⟩:=Int.eq_ofNat_of_zero_le (show 0<=wide by omega)
  by_cases hn:0<=n/\n<=all W
  ·rw [show pnum n W=putL W n by rw [pnum,if_pos ⟨inB_t hw,inB_t hn⟩]; rfl];exact putNumber_go n W w (by omega) hn.1 hn.2
  ·rw [show pnum n W=[] by rw [pnum,if_neg (by rw [inB_f hn]; simp)]];have hA:=inB_f (n:=n) (lo:=0) (hi:=all W) hn
   obtain rfl | rfl | rfl | rfl:W=1\/W=2\/W=3\/W=4:=by omega
   ·have hb:inB 1 1 4=true:=by decide
    have hA':inB n 0 255=false:=hA;clear hA hn hw
    go_enter Tryz.func106,Tryz.ntmps106
    go_wp2_with (first | (go_at_call 88; refine (within_any _ _ _ _).mono ?_; rintro e w' ⟨rfl,rfl⟩) | (go_at_call 111; refine (l1In_any _ _ _ _).mono ?_; rintro e w' ⟨rfl,rfl⟩) | fail)
    go_ret;exact RetInts.nil (Below.refl _ _)
   ·have hb:inB 2 1 4=true:=by decide
    have hA':inB n 0 65535=false:=hA;clear hA hn hw
    go_enter Tryz.func106,Tryz.ntmps106
    go_wp2_with (first | (go_at_call 88; refine (within_any _ _ _ _).mono ?_; rintro e w' ⟨rfl,rfl⟩) | (go_at_call 111; refine (l1In_any _ _ _ _).mono ?_; rintro e w' ⟨rfl,rfl⟩) | fail)
    go_ret;exact RetInts.nil (Below.refl _ _)
   ·have hb:inB 3 1 4=true:=by decide
    have hA':inB n 0 16777215=false:=hA;clear hA hn hw
    go_enter Tryz.func106,Tryz.ntmps106
    go_wp2_with (first | (go_at_call 88; refine (within_any _ _ _ _).mono ?_; rintro e w' ⟨rfl,rfl⟩) | (go_at_call 111; refine (l1In_any _ _ _ _).mono ?_; rintro e w' ⟨rfl,rfl⟩) | fail)
    go_ret;exact RetInts.nil (Below.refl _ _)
   ·have hb:inB 4 1 4=true:=by decide
    have hA':inB n 0 4294967295=false:=hA;clear hA hn hw
    go_enter Tryz.func106,Tryz.ntmps106
    go_wp2_with (first | (go_at_call 88; refine (within_any _ _ _ _).mono ?_; rintro e w' ⟨rfl,rfl⟩) | (go_at_call 111; refine (l1In_any _ _ _ _).mono ?_; rintro e w' ⟨rfl,rfl⟩) | fail)
    go_ret;exact RetInts.nil (Below.refl _ _)
 ·rw [show pnum n wide=[] by rw [pnum,if_neg (by rw [inB_f hw]; simp)]];have hb:=inB_f hw;clear hw
  go_enter Tryz.func106,Tryz.ntmps106
  go_wp2_with (first | (go_at_call 88; refine (within_any _ _ _ _).mono ?_; rintro e w' ⟨rfl,rfl⟩) | (go_at_call 111; refine (l1In_any _ _ _ _).mono ?_; rintro e w' ⟨rfl,rfl⟩) | fail)
  go_ret;exact RetInts.nil (Below.refl _ _)
theorem putNumberS_any (n wide:Int) (w:World):Calls Tryz.prog 165 #[.int .i64 n,.int .i64 wide] w (RetInts 5 .u8 (pnum n wide) w):=by
 by_cases hw:1<=wide/\wide<=4
 ·obtain ⟨W,rfl⟩:=Int.eq_ofNat_of_zero_le (show 0<=wide by omega)
  by_cases hn:0<=n/\n<=all W
  ·rw [show pnum n W=putL W n by rw [pnum,if_pos ⟨inB_t hw,inB_t hn⟩]; rfl];exact putNumberS_go n W w (by omega) hn.1 hn.2
  ·rw [show pnum n W=[] by rw [pnum,if_neg (by rw [inB_f hn]; simp)]];have hA:=inB_f (n:=n) (lo:=0) (hi:=all W) hn
   obtain rfl | rfl | rfl | rfl:W=1\/W=2\/W=3\/W=4:=by omega
   ·have hb:inB 1 1 4=true:=by decide
    have hA':inB n 0 255=false:=hA;have hpw:powI 1=256:=rfl;clear hA hn hw
    go_enter Tryz.func165,Tryz.ntmps165
    go_wp2_with (first | (go_at_call 111; refine (l1In_any _ _ _ _).mono ?_; rintro e w' ⟨rfl,rfl⟩) | (go_at_call 194; refine (power_any 1 (by omega) _).mono ?_; rintro e w' ⟨rfl,rfl⟩))
    go_ret;exact RetInts.mk rfl own_empty b_
   ·have hb:inB 2 1 4=true:=by decide
    have hA':inB n 0 65535=false:=hA;have hpw:powI 2=65536:=rfl;clear hA hn hw
    go_enter Tryz.func165,Tryz.ntmps165
    go_wp2_with (first | (go_at_call 111; refine (l1In_any _ _ _ _).mono ?_; rintro e w' ⟨rfl,rfl⟩) | (go_at_call 194; refine (power_any 2 (by omega) _).mono ?_; rintro e w' ⟨rfl,rfl⟩))
    go_ret;exact RetInts.mk rfl own_empty b_
   ·have hb:inB 3 1 4=true:=by decide
    have hA':inB n 0 16777215=false:=hA;have hpw:powI 3=16777216:=rfl;clear hA hn hw
    go_enter Tryz.func165,Tryz.ntmps165
    go_wp2_with (first | (go_at_call 111; refine (l1In_any _ _ _ _).mono ?_; rintro e w' ⟨rfl,rfl⟩) | (go_at_call 194; refine (power_any 3 (by omega) _).mono ?_; rintro e w' ⟨rfl,rfl⟩))
    go_ret;exact RetInts.mk rfl own_empty b_
   ·have hb:inB 4 1 4=true:=by decide
    have hA':inB n 0 4294967295=false:=hA;have hpw:powI 4=4294967296:=rfl;clear hA hn hw
    go_enter Tryz.func165,Tryz.ntmps165
    go_wp2_with (first | (go_at_call 111; refine (l1In_any _ _ _ _).mono ?_; rintro e w' ⟨rfl,rfl⟩) | (go_at_call 194; refine (power_any 4 (by omega) _).mono ?_; rintro e w' ⟨rfl,rfl⟩))
    go_ret;exact RetInts.mk rfl own_empty b_
 ·rw [show pnum n wide=[] by rw [pnum,if_neg (by rw [inB_f hw]; simp)]];have hb:=inB_f hw;clear hw
  go_enter Tryz.func165,Tryz.ntmps165
  go_wp2_with (first | (go_at_call 88; refine (within_any _ _ _ _).mono ?_; rintro e w' ⟨rfl,rfl⟩) | (go_at_call 111; refine (l1In_any _ _ _ _).mono ?_; rintro e w' ⟨rfl,rfl⟩) | fail)
  go_ret;exact RetInts.mk rfl own_empty b_
def numL:List Int->Int
 | []=>0
 | x :: r=>x+256*numL r
end CNumber
/- Linking objects: where sections lie,what names mean,what fixups fill; plain. -/
namespace PLink
open Kit CCode CName CNumber CFixups CSymbols PObj PValid PWarn PClear PSort
def sp (l:List Int) (i:Nat) (zs:List Int):List Int:=l.take i++zs++l.drop (i+zs.length)
theorem sp_len {l zs:List Int} {i:Nat} (h:i+zs.length<=l.length):(sp l i zs).length=l.length:=by
 unfold sp;simp only [List.length_append,List.length_take,List.length_drop];omega
theorem sp_in {l zs:List Int} {i:Nat} {lo hi:Int} (h:InR lo hi l) (h':InR lo hi zs):InR lo hi (sp l i zs):=by
 intro x hx;unfold sp at hx
 rcases List.mem_append.1 hx with hx | hx
 ·rcases List.mem_append.1 hx with hx | hx
  ·exact h x (List.mem_of_mem_take hx)
  ·exact h' x hx
 ·exact h x (List.mem_of_mem_drop hx)
abbrev G:=Nat × Nat
def gives (nm:ByteArray) (b:Int) (y:YD):Bool:=decide (y.1=nm) && decide (y.2.1=b) && !decide (y.2.2.1=-1)
def fiS (p:YD->Bool):Nat->List YD->Option Nat
 | _,[]=>none
 | j,y :: ys=>bif p y then some j else fiS p (j+1) ys
def fiR (p:YD->Bool) (k:Nat) (r:Option Nat) (rest:Option G):Option G:=match r with
 | some j=>some (k,j)
 | none=>rest
def fiO (p:YD->Bool):Nat->List OD->Option G
 | _,[]=>none
 | k,d :: ds=>fiR p k (fiS p 0 d.ys) (fiO p (k+1) ds)
theorem fiS_drop {p:YD->Bool} {ys:List YD} {j:Nat} (h:j<ys.length) (n:Nat):fiS p n (ys.drop j)=bif p ys[j] then some n else fiS p (n+1) (ys.drop (j+1)):=by
 rw [List.drop_eq_getElem_cons h]
 rfl
theorem fiO_drop {p:YD->Bool} {ds:List OD} {k:Nat} (h:k<ds.length) (n:Nat):fiO p n (ds.drop k)=fiR p n (fiS p 0 ds[k].ys) (fiO p (n+1) (ds.drop (k+1))):=by
 rw [List.drop_eq_getElem_cons h]
 rfl
def orG (a b:Option G):Option G:=match a with
 | some g=>some g
 | none=>b
def findN (l:List OD) (nm:ByteArray):Option G:=orG (fiO (gives nm 1) 0 l) (fiO (gives nm 2) 0 l)
def gin:Option G->Int
 | some g=>g.1
 | none=>0
def gat:Option G->Int
 | some g=>g.2
 | none=>0
theorem fiS_spec {p:YD->Bool}:∀ (ys:List YD) (n j:Nat),fiS p n ys=some j->n<=j/\j - n<ys.length/\p (ys.getD (j - n) dY)=true
 | [],n,j,h=>by cases h
 | y :: ys,n,j,h=>by
  rw [fiS] at h
  cases hp:p y
  ·rw [hp,cond_false] at h;obtain ⟨h1,h2,h3⟩:=fiS_spec ys (n+1) j h;obtain ⟨m,rfl⟩:∃ m,j=n+1+m:=⟨j - (n+1),by omega⟩
   have e1:n+1+m - n=m+1:=by omega
   have e2:n+1+m - (n+1)=m:=by omega
   rw [e2] at h2 h3;rw [e1];exact ⟨by omega,by simpa using h2,by simpa using h3⟩
  ·rw [hp,cond_true] at h;injection h with h;subst h;simp [hp]
theorem fiS_none {p:YD->Bool}:∀ (ys:List YD) (n:Nat),fiS p n ys=none ↔ ∀ y ∈ ys,p y=false
 | [],n=>by simp [fiS]
 | y :: ys,n=>by
  rw [fiS]
  cases hp:p y
  ·rw [cond_false,fiS_none ys (n+1)];simp [hp]
  ·simp [hp]
theorem fiO_spec {p:YD->Bool}:∀ (ds:List OD) (n:Nat) (g:G),fiO p n ds=some g->n<=g.1/\g.1 - n<ds.length/\g.2<(ds.getD (g.1 - n) ⟨[],[]⟩).ys.length/\p ((ds.getD (g.1 - n) ⟨[],[]⟩).ys.getD g.2 dY)=true
 | [],n,g,h=>by cases h
 | d :: ds,n,g,h=>by
  rw [fiO] at h
  cases hs:fiS p 0 d.ys with
  | some j=>
   rw [hs,fiR] at h;injection h with h;subst h;have:=fiS_spec d.ys 0 j hs
   simpa using this
  | none=>
   rw [hs,fiR] at h;obtain ⟨h1,h2,h3,h4⟩:=fiO_spec ds (n+1) g h;obtain ⟨m,hm⟩:∃ m,g.1=n+1+m:=⟨g.1 - (n+1),by omega⟩
   have e1:g.1 - n=m+1:=by omega
   have e2:g.1 - (n+1)=m:=by omega
   rw [e2] at h2 h3 h4;rw [e1];exact ⟨by omega,by simpa using h2,by simpa using h3,by simpa using h4⟩
def Gok (l:List OD) (g:G):Prop:=g.1<l.length/\g.2<(l.getD g.1 ⟨[],[]⟩).ys.length/\¬ ((l.getD g.1 ⟨[],[]⟩).ys.getD g.2 dY).2.2.1=-1
theorem find_ok {l:List OD} {nm:ByteArray} {g:G} (h:findN l nm=some g):Gok l g:=by
 unfold findN at h
 have key:∀ b,fiO (gives nm b) 0 l=some g->Gok l g:=fun b hb=>by
  obtain ⟨_,h2,h3,h4⟩:=fiO_spec l 0 g hb;rw [Nat.sub_zero] at h2 h3 h4;simp only [gives,Bool.and_eq_true,Bool.not_eq_true',decide_eq_false_iff_not] at h4;exact ⟨h2,h3,h4.2⟩
 cases h1:fiO (gives nm 1) 0 l with
 | some a=>
  rw [h1] at h;injection h with h;subst h;exact key 1 h1
 | none=>
  rw [h1] at h;exact key 2 h
def isStrong (y:YD):Bool:=decide (y.2.1=1) && !decide (y.2.2.1=-1)
def twStep (st:List ByteArray × List ByteArray) (y:YD):List ByteArray × List ByteArray:=bif isStrong y then ((bif st.2.any (fun x=>decide (x=y.1)) then st.1++[y.1] else st.1),st.2++[y.1]) else st
def twS (st:List ByteArray × List ByteArray) (ys:List YD):List ByteArray × List ByteArray:=ys.foldl twStep st
def twO (st:List ByteArray × List ByteArray) (l:List OD):List ByteArray × List ByteArray:=l.foldl (fun st d=>twS st d.ys) st
def twice (l:List OD):List ByteArray:=(twO ([],[]) l).1
def isMiss (l:List OD) (y:YD):Bool:=decide (y.2.1=1) && decide (y.2.2.1=-1) && (findN l y.1).isNone
def missS (l:List OD) (ys:List YD):List ByteArray:=(ys.filter (isMiss l)).map (·.1)
def miss (l:List OD):List ByteArray:=l.flatMap fun d=>missS l d.ys
def al (n q:Int):Int:=(n+q - 1) / q*q
theorem al_bd {n q:Int} (hn:0<=n) (h:alignOk q=true):n<=al n q/\al n q<=n+7:=by
 unfold al;simp only [alignOk,Bool.or_eq_true,decide_eq_true_eq] at h
 rcases h with ((rfl | rfl) | rfl) | rfl <;> omega
abbrev St:=Int × List (List Int)
def setP (P:List (List Int)) (k i:Nat) (v:Int):List (List Int):=P.set k ((P.getD k []).set i v)
def getP (P:List (List Int)) (k i:Nat):Int:=(P.getD k []).getD i 0
def stepS (kd:Int) (k i:Nat) (s:SD) (st:St):St:=bif decide (s.kd=kd) then (al st.1 s.al+secSize s,setP st.2 k i (al st.1 s.al)) else st
def foldS (kd:Int) (k:Nat):Nat->List SD->St->St
 | _,[],st=>st
 | i,s :: ss,st=>foldS kd k (i+1) ss (stepS kd k i s st)
def foldO (kd:Int):Nat->List OD->St->St
 | _,[],st=>st
 | k,d :: ds,st=>foldO kd (k+1) ds (foldS kd k 0 d.ss st)
theorem foldS_drop {kd:Int} {k:Nat} {ss:List SD} {j:Nat} (h:j<ss.length) (i:Nat) (st:St):foldS kd k i (ss.drop j) st=foldS kd k (i+1) (ss.drop (j+1)) (stepS kd k i ss[j] st):=by
 rw [List.drop_eq_getElem_cons h]
 rfl
theorem foldO_drop {kd:Int} {l:List OD} {j:Nat} (h:j<l.length) (k:Nat) (st:St):foldO kd k (l.drop j) st=foldO kd (k+1) (l.drop (j+1)) (foldS kd k 0 l[j].ss st):=by
 rw [List.drop_eq_getElem_cons h]
 rfl
def kindS (l:List OD) (kd:Int) (st:St):St:=foldO kd 0 l (al st.1 8,st.2)
def zeroP (l:List OD):List (List Int):=l.map fun d=>List.replicate d.ss.length 0
def lay (l:List OD) (base:Int):St:=kindS l 3 (kindS l 2 (kindS l 1 (base,zeroP l)))
def sh (d:OD):List (Int × Int × Int):=d.ss.map fun s=>(s.kd,s.al,secSize s)
def tgY (P:List (List Int)) (k:Nat) (y:YD):Int:=if y.2.2.1=-2 then y.2.2.2 else getP P k y.2.2.1.toNat+y.2.2.2
def symAtL (l:List OD) (g:G):YD:=(l.getD g.1 ⟨[],[]⟩).ys.getD g.2 dY
def tgG (l:List OD) (P:List (List Int)) (g:G):Int:=tgY P g.1 (symAtL l g)
def tgO (l:List OD) (P:List (List Int)):Option G->Int
 | some g=>tgG l P g
 | none=>0
def symPl (l:List OD) (P:List (List Int)) (k j:Nat):Int:=
 if (symAtL l (k,j)).2.1=0 then tgG l P (k,j) else tgO l P (findN l (symAtL l (k,j)).1)
def near (p v:Int):Int:=v - (p+1)
def fixVal (kind place target add:Int):Option Int:=
  if inB place 0 100000=true/\inB target 0 100000=true/\inB add (-1000) 1000=true then
    (if kind=2 then (if inB (target+add) 0 65535=true then some (target+add) else none)
     else if kind=3 then (if 0<=target+add then some (target+add) else none)
     else if kind=1 then (if inB (near place (target+add)) (-128) 127=true then some (near place (target+add) % 256) else none)
     else none)
  else none
def apF (b:List Int) (place:Int) (f:FD) (target:Int):Option (List Int):=
 if inB place 0 100000=true/\¬ wide f.2.1=0/\inB f.1 0 (b.length - wide f.2.1)=true then
  (fixVal f.2.1 (place+f.1) target f.2.2.2).map fun v=>sp b f.1.toNat (putL (wide f.2.1).toNat v)
 else none
def fill (l:List OD) (P:List (List Int)) (k:Nat) (place:Int):List FD->Option (List Int)->Option (List Int)
 | [],b=>b
 | f :: fs,b=>fill l P k place fs (b.bind fun b=>apF b place f (symPl l P k f.2.2.1.toNat))
def over (im:List Int) (i:Nat) (b:List Int):List Int:=sp im i (b.take (im.length - i))
def imS (l:List OD) (P:List (List Int)) (base:Int) (k:Nat):Nat->List SD->Option (List Int)->Option (List Int)
 | _,[],im=>im
 | i,s :: ss,im=>imS l P base k (i+1) ss (im.bind fun im=>(fill l P k (getP P k i) s.fs (some s.zs)).map fun b=>over im (getP P k i - base).toNat b)
def imO (l:List OD) (P:List (List Int)) (base:Int):Nat->List OD->Option (List Int)->Option (List Int)
 | _,[],im=>im
 | k,d :: ds,im=>imO l P base (k+1) ds (imS l P base k 0 d.ss im)
theorem fill_drop {l:List OD} {P:List (List Int)} {k:Nat} {place:Int} {fs:List FD} {j:Nat} (h:j<fs.length) (b:Option (List Int)):fill l P k place (fs.drop j) b=fill l P k place (fs.drop (j+1)) (b.bind fun b=>apF b place fs[j] (symPl l P k fs[j].2.2.1.toNat)):=by
 rw [List.drop_eq_getElem_cons h]
 rfl
theorem fill_none (l:List OD) (P:List (List Int)) (k:Nat) (place:Int):∀ fs,fill l P k place fs none=none
 | []=>rfl
 | f :: fs=>by rw [fill,Option.bind_none,fill_none l P k place fs]
theorem imS_drop {l:List OD} {P:List (List Int)} {base:Int} {k:Nat} {ss:List SD} {j:Nat} (h:j<ss.length) (i:Nat) (im:Option (List Int)):imS l P base k i (ss.drop j) im=imS l P base k (i+1) (ss.drop (j+1)) (im.bind fun im=>(fill l P k (getP P k i) ss[j].fs (some ss[j].zs)).map fun b=>over im (getP P k i - base).toNat b):=by
 rw [List.drop_eq_getElem_cons h]
 rfl
theorem imS_none (l:List OD) (P:List (List Int)) (base:Int) (k:Nat):∀ i ss,imS l P base k i ss none=none
 | _,[]=>rfl
 | i,s :: ss=>by rw [imS,Option.bind_none,imS_none l P base k (i+1) ss]
theorem imO_drop {l:List OD} {P:List (List Int)} {base:Int} {ds:List OD} {j:Nat} (h:j<ds.length) (k:Nat) (im:Option (List Int)):imO l P base k (ds.drop j) im=imO l P base (k+1) (ds.drop (j+1)) (imS l P base k 0 ds[j].ss im):=by
 rw [List.drop_eq_getElem_cons h]
 rfl
theorem imO_none (l:List OD) (P:List (List Int)) (base:Int):∀ k ds,imO l P base k ds none=none
 | _,[]=>rfl
 | k,d :: ds=>by rw [imO,imS_none,imO_none l P base (k+1) ds]
def objsOk (l:List OD):Bool:=decide (l.length<=4) && l.all objOk
def baseOk (b:Int):Bool:=decide (0<=b/\b<=4096) && decide (b % 8=0)
abbrev RD:=Int × List Int × Int
def imgR (base:Int):Option (List Int)->RD
 | some im=>(base,im,0)
 | none=>(0,[],3)
def image (l:List OD) (base:Int):Option (List Int):=imO l (lay l base).2 base 0 l (some (List.replicate ((lay l base).1 - base).toNat 0))
def linkR (l:List OD) (base:Int):RD:=
 if (objsOk l && baseOk base)=false then (0,[],-1)
 else if 0<(twice l).length then (0,[],1)
 else if 0<(miss l).length then (0,[],2)
 else imgR base (image l base)
end PLink
/- findBound and findName: which symbol a name means. -/
namespace CFind
open Kit CCode CName CFixups CSymbols PObj BObj PValid CGlobalOf BList PLink
theorem find_name (l:List OD) (nm:ByteArray):findN l nm=orG (fiO (gives nm 1) 0 l) (fiO (gives nm 2) 0 l):=rfl
def givV (r:Option G):Value:=.tuple #[.agg #[.int .i64 (gin r),.int .i64 (gat r)],.bool r.isSome]
def Lens (os:List OV):Prop:=os.length<=1048576/\∀ o ∈ os,o.ys.length<=1048576
set_option maxHeartbeats 2000000 in
theorem findBound_any (A:Option Addr) (os:List OV) (c:Nat) (nm:ByteArray) (b:Int) (w:World) (hr:RdOs w w.heap.size A os) (hm:Lens os):
  Calls Tryz.prog 97 #[.slice A os.length c,.string nm,.int .i64 b] w (Ret (givV (fiO (gives nm b) 0 (os.map OV.d))) w):=by
 obtain ⟨hm1,hm2⟩:=hm;have HY:=h_ hm2;clear hm2;have HB:=h_ (show Below w.heap.size w (w.alloc (.cells #[.int .i64 0,.int .i64 0] 79)) from b_);have HX:=h_ (Box.new w 79 #[.int .i64 0,.int .i64 0]);have HR:=h_ hr;clear hr
 go_enter Tryz.func97,Tryz.ntmps97
 go_wp2_with fail
 generalize w.alloc (.cells #[.int .i64 0,.int .i64 0] 79)=w0 at *
 go_loopw [14] (fun i wi=>∃ k:Nat,k<=os.length/\i=.int .i64 k/\fiO (gives nm b) 0 (os.map OV.d)=fiO (gives nm b) k ((os.map OV.d).drop k)/\Box wi w.heap.size 79 #[.int .i64 0,.int .i64 0]/\Below w.heap.size w wi) (fun i _=>os.length - (intOf i).toNat)
 case atStart=>exact ⟨0,Nat.zero_le _,rfl,rfl,HX.o,HB.o⟩
 case round=>
  clear HX HB;obtain ⟨k,hk,rfl,hf,hx,hb⟩:=hrel;have HX:=h_ hx;have HB:=h_ hb
  by_cases hlt:k<os.length
  ·obtain ⟨bb,off,hA,hbb,hc0,hc1⟩:=(HR.o.below hb).at hlt
   have hlm:k<(os.map OV.d).length:=by simpa using hlt
   have HF:=h_ (hf.trans (fiO_drop hlm k));have HRO:=h_ (HR.o.2 _ (List.getElem_mem hlt));have hyl:=HY.o _ (List.getElem_mem hlt);have HE:=h_ (show (os.map OV.d)[k].ys=os[k].ys by simp [OV.d]);clear hf hx hb;subst hA;rw [HE.o] at HF;clear HE;generalize hrest:fiO (gives nm b) (k+1) ((os.map OV.d).drop (k+1))=rest at *;have HRS:=h_ hrest;clear hrest;generalize os[k]=o at *
   go_wp2_with fail
   have B1:Below wr.heap.size wr (wr.alloc (.cells #[.slice o.A o.ps.length o.c,.slice o.Y o.ys.length o.yc] 26)):=b_;have HO:=h_ (Box.new wr 26 #[.slice o.A o.ps.length o.c,.slice o.Y o.ys.length o.yc]);replace HB:=c_ HB B1;replace HX:=h_ (HX.o.call B1);clear B1;generalize wr.alloc (.cells #[.slice o.A o.ps.length o.c,.slice o.Y o.ys.length o.yc] 26)=w1 at *;generalize wr.heap.size=X at *;clear hc0 hc1;have x1:=d_ HO.o 1;have hxl:=HO.o.lt
   go_wp2_with fail
   clear x1 hxl
   go_loopw [22] (fun i wi=>∃ j:Nat,j<=o.ys.length/\i=.int .i64 j/\fiO (gives nm b) 0 (os.map OV.d)=fiR (gives nm b) k (fiS (gives nm b) j (o.ys.drop j)) rest/\Box wi w.heap.size 79 #[.int .i64 0,.int .i64 0]/\Below w.heap.size w wi) (fun i _=>o.ys.length - (intOf i).toNat)
   case atStart=>exact ⟨0,Nat.zero_le _,rfl,HF.o,HX.o,HB.o⟩
   case round=>
    clear HX HB HF HO;obtain ⟨j,hj,rfl,hf,hx,hb⟩:=hrel;have HX:=h_ hx;have HB:=h_ hb
    by_cases hlj:j<o.ys.length
    ·obtain ⟨b2,off2,hY,hb2,hc⟩:=(HRO.o.2.below hb).row symbolC_len (by decide) hlj;have hc0:=hc 0 _ rfl;have hc1:=hc 1 _ rfl;have hc2:=hc 2 _ rfl;have hc3:=hc 3 _ rfl;simp only [Nat.add_zero] at hc0;have HF:=h_ (hf.trans (by rw [fiS_drop hlj]));clear hf hx hb hc;rw [hY];clear hY;generalize o.ys[j]=z at *
     have HG:=h_ (show gives nm b z=((z.1.toList == nm.toList) && (z.2.1 == b) && (z.2.2.1 != -1)) from by
      rw [str_eq]
      rfl)
     obtain ⟨z1,z2,z3,z4⟩:=z;simp only at hc0 hc1 hc2 hc3 HG;have HB2:=h_ (HB.o.alloc HB.o.size (.cells #[.string z1,.int .i64 z2,.int .i64 z3,.int .i64 z4] 67));have HX2:=h_ (HX.o.alloc (.cells #[.string z1,.int .i64 z2,.int .i64 z3,.int .i64 z4] 67))
     cases q1:(z1.toList == nm.toList)
     ·rw [q1,Bool.false_and,Bool.false_and] at HG;have HF':=h_ (HF.o.trans (by rw [HG.o]; try rfl));clear HF HG
      go_wp2_with fail
      refine ⟨⟨j+1,by omega,by go_num,HF'.o,HX2.o,HB2.o⟩,by simp [intOf]; omega⟩
     cases q2:(z2 == b)
     ·rw [q1,q2,Bool.and_false,Bool.false_and] at HG;have HF':=h_ (HF.o.trans (by rw [HG.o]; try rfl));clear HF HG
      go_wp2_with fail
      refine ⟨⟨j+1,by omega,by go_num,HF'.o,HX2.o,HB2.o⟩,by simp [intOf]; omega⟩
     cases q3:(z3 != -1)
     ·rw [q1,q2,q3,Bool.and_false] at HG;have HF':=h_ (HF.o.trans (by rw [HG.o]; try rfl));clear HF HG
      go_wp2_with fail
      refine ⟨⟨j+1,by omega,by go_num,HF'.o,HX2.o,HB2.o⟩,by simp [intOf]; omega⟩
     rw [q1,q2,q3,Bool.and_true,Bool.and_true] at HG;have HF':=h_ (HF.o.trans (by rw [HG.o]; try rfl));clear HF HG;have kk:=(HX2.o.set 0 (.int .i64 k)).set 1 (.int .i64 j);have k0:=kk.cell 0;have k1:=kk.cell 1;simp only [k_] at k0 k1;clear kk;have hxl:=HX2.o.lt;have x0:=d_ HX2.o 0;have x1:=d_ HX2.o 1;have xf0:=HX2.o.frozen 0;have xf1:=HX2.o.frozen 1;have HFB:=h_ (two_below (Y:=w.heap.size) HB2.o (Nat.le_refl _) (.int .i64 k) (.int .i64 j))
     go_wp2_with fail
     (try simp only [Exit.inBlock,Exit.then])
     exact bodyPost_ret (v:=givV (some (k,j))) (by simp [results,Tryz.results97,go_sem,givV,gin,gat,k0,k1]) rfl (by rw [HF'.o]; exact ⟨rfl,HFB.o⟩)
    ·obtain rfl:j=o.ys.length:=by omega
     have HF:=h_ (hf.trans (by rw [List.drop_length]; rfl:_=rest));have HX:=h_ hx;have HB:=h_ hb;clear hf hx hb
     go_wp2_with fail
     refine ⟨⟨k+1,by omega,by go_num,by rw [HRS.o]; exact HF.o,HX.o,HB.o⟩,by simp [intOf]; omega⟩
  ·obtain rfl:k=os.length:=by omega
   have HF:=h_ (hf.trans (by rw [List.drop_of_length_le (by simp)]; rfl:_=none));clear hf hx hb;have kk:=(HX.o.set 0 (.int .i64 0)).set 1 (.int .i64 0);have k0:=kk.cell 0;have k1:=kk.cell 1;simp only [k_] at k0 k1;clear kk;have hxl:=HX.o.lt;have x0:=d_ HX.o 0;have x1:=d_ HX.o 1;have xf0:=HX.o.frozen 0;have xf1:=HX.o.frozen 1;have HFB:=h_ (two_below (Y:=w.heap.size) HB.o (Nat.le_refl _) (.int .i64 0) (.int .i64 0))
   go_wp2_with fail
   (try simp only [Exit.inBlock,Exit.then])
   exact bodyPost_ret (v:=givV none) (by simp [results,Tryz.results97,go_sem,givV,gin,gat,k0,k1]) rfl (by rw [HF.o]; exact ⟨rfl,HFB.o⟩)
theorem findName_any (A:Option Addr) (os:List OV) (c:Nat) (nm:ByteArray) (w:World) (hr:RdOs w w.heap.size A os) (hm:Lens os):
  Calls Tryz.prog 50 #[.slice A os.length c,.string nm] w (Ret (givV (findN (os.map OV.d) nm)) w):=by
 have HB:=h_ (show Below w.heap.size w (w.alloc (.cells #[.int .i64 0,.int .i64 0] 79)) from b_);have HX:=h_ (Box.new w 79 #[.int .i64 0,.int .i64 0]);have HR:=h_ hr;clear hr
 go_enter Tryz.func50,Tryz.ntmps50
 go_wp2_with fail
 generalize w.alloc (.cells #[.int .i64 0,.int .i64 0] 79)=w0 at *;refine (findBound_any A os c nm 1 w0 ((HR.o.below HB.o).more HB.o.size) hm).mono ?_;rintro e w1 ⟨rfl,b1⟩;replace HB:=c_ HB b1;replace HX:=h_ (HX.o.call b1);clear b1;generalize hr1:fiO (gives nm 1) 0 (os.map OV.d)=r at *;have HR1:=h_ hr1;clear hr1
 cases r with
 | some g=>
  simp only [givV,gin,gat,Option.isSome];have kk:=(((HX.o.alloc (.cells #[.int .i64 g.1,.int .i64 g.2] 79)).set 0 (.int .i64 g.1)).set 1 (.int .i64 g.2));have k0:=kk.cell 0;have k1:=kk.cell 1;simp only [k_] at k0 k1;clear kk;have HFB:=h_ (two_below (Y:=w.heap.size) (HB.o.alloc HB.o.size (.cells #[.int .i64 g.1,.int .i64 g.2] 79)) (Nat.le_refl _) (.int .i64 g.1) (.int .i64 g.2));have HX2:=HX.o.alloc (.cells #[.int .i64 g.1,.int .i64 g.2] 79);have hxl:=HX2.lt;have x0:=d_ HX2 0;have x1:=d_ HX2 1;have xf0:=HX2.frozen 0;have xf1:=HX2.frozen 1;clear HX2
  go_wp2_with fail
  exact bodyPost_ret (v:=givV (some g)) (by simp [results,Tryz.results50,go_sem,givV,gin,gat,k0,k1]) rfl (by rw [find_name,HR1.o]; exact ⟨rfl,HFB.o⟩)
 | none=>
  simp only [givV,gin,gat,Option.isSome]
  go_wp2_with fail
  have B1:Below w1.heap.size w1 (w1.alloc (.cells #[.int .i64 0,.int .i64 0] 79)):=b_;replace HB:=c_ HB B1;replace HX:=h_ (HX.o.call B1);clear B1;generalize w1.alloc (.cells #[.int .i64 0,.int .i64 0] 79)=w2 at *;refine (findBound_any A os c nm 2 w2 ((HR.o.below HB.o).more HB.o.size) hm).mono ?_;rintro e w3 ⟨rfl,b3⟩;replace HB:=c_ HB b3;replace HX:=h_ (HX.o.call b3);clear b3;generalize hr2:fiO (gives nm 2) 0 (os.map OV.d)=r at *;have HR2:=h_ hr2;clear hr2;simp only [givV];have kk:=((HX.o.set 0 (.int .i64 (gin r))).set 1 (.int .i64 (gat r)));have k0:=kk.cell 0;have k1:=kk.cell 1;simp only [k_] at k0 k1;clear kk;have HFB:=h_ (two_below (Y:=w.heap.size) HB.o (Nat.le_refl _) (.int .i64 (gin r)) (.int .i64 (gat r)));have hxl:=HX.o.lt;have x0:=d_ HX.o 0;have x1:=d_ HX.o 1;have xf0:=HX.o.frozen 0;have xf1:=HX.o.frozen 1
  go_wp2_with fail
  exact bodyPost_ret (v:=givV r) (by simp [results,Tryz.results50,go_sem,givV,k0,k1]) rfl (by rw [find_name,HR1.o,HR2.o]; exact ⟨rfl,HFB.o⟩)
end CFind
/- namesTwice and namesMissing. -/
namespace CNames
open Kit CCode CName CFixups CSymbols PObj BObj CGlobalOf BStore BList PLink CFind CSorted
theorem infoStr:(Tryz.prog.info? 9).map (fun i=>(i.zero,i.size,i.bytes))=some (some (.string ByteArray.empty),1,16):=by kernel_rfl
def hasN (ys:List ByteArray) (nm:ByteArray):Bool:=ys.any fun x=>decide (x=nm)
theorem has_lib (ys:List ByteArray) (nm:ByteArray):Lib.containsS ys nm=hasN ys nm:=by
 rw [Bool.eq_iff_iff,Lib.containsS_iff,hasN,List.any_eq_true]
 constructor
 ·intro h;exact ⟨nm,h,by simp⟩
 ·rintro ⟨x,hx,h⟩;exact of_decide_eq_true h ▸ hx
theorem containsN_any (ys:List ByteArray) (nm:ByteArray) (A:Option Addr) (c base:Nat) (w:World) (h:Row w base 9 1 A ys.length c (nmC ys)) (hm:ys.length<=1048576):
  Calls Tryz.prog 100 #[.slice A ys.length c,.string nm] w (Pure (.bool (hasN ys nm)) w):=by
 by_cases h0:ys.length=0
 ·obtain rfl:=List.eq_nil_of_length_eq_zero h0;refine (XNames.slices_Contains_string_empty A c nm w).mono ?_;rintro e w' ⟨rfl,rfl⟩;exact ⟨rfl,rfl⟩
 ·obtain ⟨g,rfl,_,_,_,hown⟩:=own_of h (by omega);refine (XNames.slices_Contains_string g 0 ys.length c ys nm w (Nat.le_refl _) (by omega) (fun j hj=>?_)).mono ?_
  ·have h1:=World.ownsRow.cellAt hown j (by simpa [nmC] using hj);rw [Nat.zero_add,h1];simp [nmC,List.getD_eq_getElem?_getD,List.getElem?_eq_getElem hj]
  ·rintro e w' ⟨rfl,rfl⟩;rw [List.take_length,has_lib];exact ⟨rfl,rfl⟩
theorem strs_snoc (xs:List ByteArray) (x:ByteArray):nmC xs++[.string x]=nmC (xs++[x]):=by simp [nmC]
theorem one_str (x:ByteArray):∀ u ∈ [Value.string x],u.oneCell'=true:=by
 intro u hu;rw [List.mem_singleton.1 hu]
 rfl
theorem twO_snoc (st:List ByteArray × List ByteArray) (a:List OD) (d:OD):twO st (a++[d])=twS (twO st a) d.ys:=by simp [twO]
theorem twS_snoc (st:List ByteArray × List ByteArray) (a:List YD) (y:YD):twS st (a++[y])=twStep (twS st a) y:=by simp [twS]
def Small (os:List OV):Prop:=os.length<=4/\∀ o ∈ os,o.ys.length<=12
structure TI (w0:World) (A1:Option Addr) (c1:Nat) (xs:List ByteArray) (A2:Option Addr) (c2:Nat) (ys:List ByteArray) (w:World):Prop where
 x:Row w w0.heap.size 9 1 A1 xs.length c1 (nmC xs)
 y:Row w w0.heap.size 9 1 A2 ys.length c2 (nmC ys)
 ap:Apart A1 c1 A2 c2
 b:Below w0.heap.size w0 w
theorem TI.call {w0 w w':World} {A1 A2:Option Addr} {c1 c2:Nat} {xs ys:List ByteArray} (h:TI w0 A1 c1 xs A2 c2 ys w) (hb:Below w.heap.size w w'):TI w0 A1 c1 xs A2 c2 ys w':=⟨h.x.call hb,h.y.call hb,h.ap,h.b.trans (hb.mono h.b.size)⟩
theorem TI.addX {w0 w w':World} {A1 A2 A':Option Addr} {c1 c2 n' c':Nat} {xs ys:List ByteArray} {x:ByteArray} (h:TI w0 A1 c1 xs A2 c2 ys w) (hn:n'=xs.length+1) (o:Row w' w0.heap.size 9 1 A' n' c' (nmC xs++[.string x])) (g:w.grownBy w' (blk A1 c1)) (hk:∀ k,blk A' c'=some k->blk A1 c1=some k\/w.heap.size<=k):
  TI w0 A' c' (xs++[x]) A2 c2 ys w':=by
 subst hn;refine ⟨?_,h.y.grown g (fun k hk e=>h.ap k e hk),?_,h.b.grown g h.b.size (fun j hj=>(h.x.lt j hj).1)⟩
 ·rw [List.length_append,<- strs_snoc];exact o
 ·intro k h1 h2
  rcases hk k h1 with h3 | h3
  ·exact h.ap k h3 h2
  ·have:=(h.y.lt k h2).2;omega
theorem TI.addY {w0 w w':World} {A1 A2 A':Option Addr} {c1 c2 n' c':Nat} {xs ys:List ByteArray} {x:ByteArray} (h:TI w0 A1 c1 xs A2 c2 ys w) (hn:n'=ys.length+1) (o:Row w' w0.heap.size 9 1 A' n' c' (nmC ys++[.string x])) (g:w.grownBy w' (blk A2 c2)) (hk:∀ k,blk A' c'=some k->blk A2 c2=some k\/w.heap.size<=k):
  TI w0 A1 c1 xs A' c' (ys++[x]) w':=by
 subst hn;refine ⟨h.x.grown g (fun k hk e=>h.ap k hk e),?_,?_,h.b.grown g h.b.size (fun j hj=>(h.y.lt j hj).1)⟩
 ·rw [List.length_append,<- strs_snoc];exact o
 ·intro k h1 h2
  rcases hk k h2 with h3 | h3
  ·exact h.ap k h1 h3
  ·have:=(h.x.lt k h1).2;omega
set_option maxHeartbeats 4000000 in
theorem namesTwice_any (A:Option Addr) (os:List OV) (c:Nat) (w:World) (hr:RdOs w w.heap.size A os) (hs:Small os):
  Calls Tryz.prog 53 #[.slice A os.length c] w (RetN (srtN (twice (os.map OV.d))) w):=by
 obtain ⟨i0,hi1,hi2,hi3,hi4⟩:=info_parts infoStr;have HI:=h_ (And.intro hi1 (And.intro hi2 (And.intro hi3 hi4)));clear hi1 hi2 hi3 hi4;obtain ⟨hs1,hs2⟩:=hs;have HY:=h_ hs2;have HR:=h_ hr;clear hs2 hr;have B0:Below w.heap.size w ((w.alloc (.cells #[] 9)).alloc (.cells #[] 9)):=b_;have HT:=h_ (show TI w (some ⟨w.heap.size,0,none⟩) 0 [] (some ⟨w.heap.size+1,0,none⟩) 0 [] ((w.alloc (.cells #[] 9)).alloc (.cells #[] 9)) from ⟨Row.empty _ _ _ _ _,Row.empty _ _ _ _ _,(fun k h1 h2=>by cases h1),B0⟩);clear B0
 go_enter Tryz.func53,Tryz.ntmps53
 go_wp2_with fail
 generalize (w.alloc (.cells #[] 9)).alloc (.cells #[] 9)=w0 at *;generalize hLL:os.map OV.d=l at *;have HLL:=h_ hLL;clear hLL
 go_loopw [3,4,13] (fun s t i wi=>∃ (k:Nat) (A1:Option Addr) (c1:Nat) (xs:List ByteArray) (A2:Option Addr) (c2:Nat) (ys:List ByteArray),k<=os.length/\s=.slice A1 xs.length c1/\t=.slice A2 ys.length c2/\i=.int .i64 k/\(xs,ys)=twO ([],[]) (l.take k)/\xs.length<=12*k/\ys.length<=12*k/\TI w A1 c1 xs A2 c2 ys wi) (fun _ _ i _=>os.length - (intOf i).toNat)
 case atStart=>exact ⟨0,_,0,[],_,0,[],Nat.zero_le _,rfl,rfl,rfl,rfl,Nat.le_refl _,Nat.le_refl _,HT.o⟩
 case round=>
  clear HT;obtain ⟨k,A1,c1,xs,A2,c2,ys,hk,rfl,rfl,rfl,hxy,hx1,hy1,hti⟩:=hrel;have HT:=h_ hti
  by_cases hlt:k<os.length
  ·obtain ⟨bb,off,hA,hbb,hc0,hc1⟩:=(HR.o.below hti.b).at hlt
   have hll:k<l.length:=by rw [<-HLL.o,List.length_map]; exact hlt
   have HXY:=h_ (show twO ([],[]) (l.take (k+1))=twS (xs,ys) os[k].ys from by
    rw [take_succ hll,twO_snoc,<- hxy];have:=HLL.o;subst this
    simp [OV.d])
   have HRO:=h_ (HR.o.2 _ (List.getElem_mem hlt)).2;have hyl:=HY.o _ (List.getElem_mem hlt);clear hti hxy;subst hA;generalize os[k]=o at *
   go_wp2_with fail
   have B1:Below wr.heap.size wr (wr.alloc (.cells #[.slice o.A o.ps.length o.c,.slice o.Y o.ys.length o.yc] 26)):=b_;have HO:=h_ (Box.new wr 26 #[.slice o.A o.ps.length o.c,.slice o.Y o.ys.length o.yc]);replace HT:=h_ (HT.o.call B1);clear B1;generalize wr.alloc (.cells #[.slice o.A o.ps.length o.c,.slice o.Y o.ys.length o.yc] 26)=wa at *;generalize wr.heap.size=Z at *;clear hc0 hc1;have y1:=d_ HO.o 1;have hol:=HO.o.lt
   go_wp2_with fail
   clear y1 hol HO;have HXY2:=h_ (show (xs,ys)=twS (xs,ys) (o.ys.take 0) from rfl);generalize hq0:(xs,ys)=q0 at *
   go_loopw [3,4,20] (fun s t i wi=>∃ (j:Nat) (A1:Option Addr) (c1:Nat) (xs:List ByteArray) (A2:Option Addr) (c2:Nat) (ys:List ByteArray),j<=o.ys.length/\s=.slice A1 xs.length c1/\t=.slice A2 ys.length c2/\i=.int .i64 j/\(xs,ys)=twS q0 (o.ys.take j)/\xs.length<=12*k+j/\ys.length<=12*k+j/\TI w A1 c1 xs A2 c2 ys wi) (fun _ _ i _=>o.ys.length - (intOf i).toNat)
   case atStart=>exact ⟨0,A1,c1,xs,A2,c2,ys,Nat.zero_le _,rfl,rfl,rfl,hq0.trans HXY2.o,by omega,by omega,HT.o⟩
   case round=>
    clear HT HXY2 hq0;obtain ⟨j,A1,c1,xs,A2,c2,ys,hj,rfl,rfl,rfl,hxy,hx1,hy1,hti⟩:=hrel;have HT:=h_ hti
    by_cases hlj:j<o.ys.length
    ·obtain ⟨b2,off2,hYA,hb2,hc⟩:=(HRO.o.below hti.b).row symbolC_len (by decide) hlj;have hc0:=hc 0 _ rfl;have hc1:=hc 1 _ rfl;have hc2:=hc 2 _ rfl;have hc3:=hc 3 _ rfl;simp only [Nat.add_zero] at hc0
     have HST:=h_ (show twS q0 (o.ys.take (j+1))=twStep (xs,ys) o.ys[j] from by
      rw [take_succ hlj,twS_snoc,<- hxy])
     clear hti hxy hc;rw [hYA];clear hYA;generalize o.ys[j]=z at *;obtain ⟨z1,z2,z3,z4⟩:=z;simp only at hc0 hc1 hc2 hc3;have B1:Below wr.heap.size wr (wr.alloc (.cells #[.string z1,.int .i64 z2,.int .i64 z3,.int .i64 z4] 67)):=b_;have HZ:=h_ (Box.new wr 67 #[.string z1,.int .i64 z2,.int .i64 z3,.int .i64 z4]);replace HT:=h_ (HT.o.call B1)
     cases q1:(z2 != 1)
     ·cases q2:(z3 == -1)
      ·have hst:isStrong (z1,z2,z3,z4)=true:=by
        have e1:z2=1:=by simpa using q1
        have e2:¬ z3=-1:=by simpa using q2
        simp [isStrong,e1,e2]
       have HST2:=h_ (show twS q0 (o.ys.take (j+1))=(if hasN ys z1=true then xs++[z1] else xs,ys++[z1]) from by
        rw [HST.o,twStep,hst];simp only [cond_true];unfold hasN
        cases ys.any (fun x=>decide (x=z1)) <;> rfl)
       clear hst HST
       go_wp2_with fail
       clear hc0 hc1 hc2 hc3 q1 q2 B1;generalize wr.alloc (.cells #[.string z1,.int .i64 z2,.int .i64 z3,.int .i64 z4] 67)=wz at *;generalize wr.heap.size=S at *;refine (containsN_any ys z1 A2 c2 _ wz HT.o.y (by omega)).mono ?_;rintro e w' ⟨rfl,rfl⟩;have hzl:=HZ.o.lt;have z0:=d_ HZ.o 0
       cases hh:hasN ys z1
       ·rw [hh,if_neg (by decide)] at HST2;clear hh
        go_wp2_with (at_builtin; refine wpList_app (wz.alloc (.cells #[.string z1] 9)) rfl (.tmp 41) (.tmp 44) 28 rfl 9 i0 (.string ByteArray.empty) 1 16 Tryz.underlying28 HI.o.1 HI.o.2.1 HI.o.2.2.1 HI.o.2.2.2 rfl (by decide) w.heap.size A2 ys.length c2 (nmC ys) rfl (HT.o.y.alloc _) ?hb (some ⟨wz.heap.size,0,none⟩) 1 1 [.string z1] rfl (rd_lit wz #[.string z1] 9 _ rfl) rfl (fun h=>by cases h) ?o1 ?n1 ?n2 ?_)
        case hb=>have h:=(HT.o.b.alloc HT.o.b.size (.cells #[.string z1] 9)).size; simpa using h
        case o1=>exact one_str z1
        case n1=>unfold maxLen; omega
        case n2=>omega
        intro A3 n3 c3 w3 hn o3 g3 k3;have bl:Below wz.heap.size wz (wz.alloc (.cells #[.string z1] 9)):=b_;have HT3:=h_ (TI.addY (HT.o.call bl) hn (by simpa using o3) g3 (fun k hk=>by have h:=k3 k hk; simpa using h));subst hn;clear o3 g3 k3 bl HT
        go_wp2_with fail
        refine ⟨⟨j+1,A1,c1,xs,A3,c3,ys++[z1],by omega,rfl,by simp,by go_num,by rw [HST2.o],by omega,by simp; omega,HT3.o⟩,by simp [intOf]; omega⟩
       ·rw [hh,if_pos rfl] at HST2;clear hh
        go_wp2_with (at_builtin; refine wpList_app (wz.alloc (.cells #[.string z1] 9)) rfl (.tmp 36) (.tmp 39) 28 rfl 9 i0 (.string ByteArray.empty) 1 16 Tryz.underlying28 HI.o.1 HI.o.2.1 HI.o.2.2.1 HI.o.2.2.2 rfl (by decide) w.heap.size A1 xs.length c1 (nmC xs) rfl (HT.o.x.alloc _) ?hb (some ⟨wz.heap.size,0,none⟩) 1 1 [.string z1] rfl (rd_lit wz #[.string z1] 9 _ rfl) rfl (fun h=>by cases h) ?o1 ?n1 ?n2 ?_)
        case hb=>have h:=(HT.o.b.alloc HT.o.b.size (.cells #[.string z1] 9)).size; simpa using h
        case o1=>exact one_str z1
        case n1=>unfold maxLen; omega
        case n2=>omega
        intro A3 n3 c3 w3 hn o3 g3 k3;have bl:Below wz.heap.size wz (wz.alloc (.cells #[.string z1] 9)):=b_;have HZ3:=h_ ((HZ.o.call bl).grown g3 ((HT.o.call bl).x.box (HZ.o.call bl) (by decide)));have HT3:=h_ (TI.addX (HT.o.call bl) hn (by simpa using o3) g3 (fun k hk=>by have h:=k3 k hk; simpa using h));subst hn;clear o3 g3 k3 bl HT HZ z0 hzl;have HT:=h_ HT3.o;clear HT3;have hzl:=HZ3.o.lt;have z0:=d_ HZ3.o 0
        go_wp2_with (at_builtin; refine wpList_app (w3.alloc (.cells #[.string z1] 9)) rfl (.tmp 41) (.tmp 44) 28 rfl 9 i0 (.string ByteArray.empty) 1 16 Tryz.underlying28 HI.o.1 HI.o.2.1 HI.o.2.2.1 HI.o.2.2.2 rfl (by decide) w.heap.size A2 ys.length c2 (nmC ys) rfl (HT.o.y.alloc _) ?hb (some ⟨w3.heap.size,0,none⟩) 1 1 [.string z1] rfl (rd_lit w3 #[.string z1] 9 _ rfl) rfl (fun h=>by cases h) ?o1 ?n1 ?n2 ?_)
        case hb=>have h:=(HT.o.b.alloc HT.o.b.size (.cells #[.string z1] 9)).size; simpa using h
        case o1=>exact one_str z1
        case n1=>unfold maxLen; omega
        case n2=>omega
        intro A4 n4 c4 w4 hn o4 g4 k4;have bl:Below w3.heap.size w3 (w3.alloc (.cells #[.string z1] 9)):=b_;have HT4:=h_ (TI.addY (HT.o.call bl) hn (by simpa using o4) g4 (fun k hk=>by have h:=k4 k hk; simpa using h));subst hn;clear o4 g4 k4 bl HT
        go_wp2_with fail
        refine ⟨⟨j+1,A3,c3,xs++[z1],A4,c4,ys++[z1],by omega,by simp,by simp,by go_num,by rw [HST2.o],by simp; omega,by simp; omega,HT4.o⟩,by simp [intOf]; omega⟩
      ·have hst:isStrong (z1,z2,z3,z4)=false:=by
        have e2:z3=-1:=by simpa using q2
        simp [isStrong,e2]
       have HST2:=h_ (show twS q0 (o.ys.take (j+1))=(xs,ys) from by
        rw [HST.o,twStep,hst]
        rfl)
       clear hst HST
       go_wp2_with fail
       refine ⟨⟨j+1,A1,c1,xs,A2,c2,ys,by omega,rfl,rfl,by go_num,HST2.o.symm,by omega,by omega,HT.o⟩,by simp [intOf]; omega⟩
     ·have hst:isStrong (z1,z2,z3,z4)=false:=by
       have e2:¬ z2=1:=by simpa using q1
       simp [isStrong,e2]
      have HST2:=h_ (show twS q0 (o.ys.take (j+1))=(xs,ys) from by
       rw [HST.o,twStep,hst]
       rfl)
      clear hst HST
      go_wp2_with fail
      refine ⟨⟨j+1,A1,c1,xs,A2,c2,ys,by omega,rfl,rfl,by go_num,HST2.o.symm,by omega,by omega,HT.o⟩,by simp [intOf]; omega⟩
    ·have hje:j=o.ys.length:=by omega
     subst hje
     have HQ2:=h_ (show (xs,ys)=twO ([],[]) (l.take (k+1)) from by
      rw [HXY.o,hxy,List.take_length])
     clear hxy hti HXY
     go_wp2_with fail
     refine ⟨⟨k+1,A1,c1,xs,A2,c2,ys,by omega,rfl,rfl,by go_num,HQ2.o,by omega,by omega,HT.o⟩,by simp [intOf]; omega⟩
  ·have hke:k=os.length:=by omega
   subst hke
   have HTW:=h_ (show twice l=xs from by
    rw [twice,<- List.take_of_length_le (show l.length<=os.length by rw [<-HLL.o]; simp),<- hxy])
   have HQ:=h_ (sorted_any xs A1 c1 _ wr hti.x (by omega));clear hxy hti;generalize hzs:srtN xs=zs at HQ;have HZS:=h_ hzs;clear hzs
   go_wp2_with fail
   refine HQ.o.mono ?_;rintro e w4 ⟨A4,c4,rfl,r4,b4⟩;have HF:=h_ (And.intro (r4.down HT.o.b.size) (HT.o.b.trans (b4.mono HT.o.b.size)));clear r4 b4 HQ
   go_wp2_with fail
   go_ret
   show RetN (srtN (twice l)) w _ _
   rw [HTW.o,HZS.o];exact ⟨A4,c4,rfl,HF.o.1,HF.o.2⟩
end CNames
end Go.Proofs.YtepoiphmmjfbdaaGreatDoor
