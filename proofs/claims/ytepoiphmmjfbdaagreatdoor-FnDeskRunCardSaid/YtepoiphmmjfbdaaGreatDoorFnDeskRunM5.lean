/- Contracts of PutNumber and GetNumber, the program's and the reference's. -/
import Derived.Test.YtepoiphmmjfbdaaGreatDoorFnDeskRunM4
import Derived.Laws.OwnMore
import Derived.Lib.AppendIntMem
import Derived.OpenVars
import Derived.Lib.LaidTab
import Derived.Stop.LaidErr
import Derived.LaidMore
import Derived.OpenShut
import Derived.Shelf.Vars
import Derived.HandedShaped
import Derived.Lay
import Derived.Test.YtepoiphmmjfbdaaGreatDoorRows
set_option linter.unusedSimpArgs false
set_option linter.unusedVariables false
set_option maxRecDepth 200000
open Go.ChangeShapes Go.WideShapes Go.ChangeAt Go.RowKit
namespace Go.Proofs.YtepoiphmmjfbdaaGreatDoor
namespace CNumber
open Kit CCode
theorem info8:(Tryz.prog.info? 5).map (λi=>(i.zero,i.size,i.bytes))=some (some (.int .u8 0),1,1):=by kernel_rfl
def putL:Nat->Int->List Int
 |0,_=>[]
 |w+1,n=>n%256::putL w (n/256)
theorem putL_len:∀(w:Nat) (n:Int),(putL w n).length=w
 |0,_=>rfl
 |w+1,n=>by simp[putL,putL_len w]
theorem putL_bd:∀(w:Nat) (n:Int),InR 0 255 (putL w n)
 |0,_=>λx hx=>by simp[putL]at hx
 |w+1,n=>λx hx=>by
  rcases List.mem_cons.1 hx with rfl|hx
  ·omega
  ·exact putL_bd w _ x hx
def all:Int->Int:=λw=>if w=1 then 255 else if w=2 then 65535 else if w=3 then 16777215 else 4294967295
def pnum(n wide:Int):List Int:=if inB wide 1 4=true/\inB n 0 (all wide)=true then putL wide.toNat n else[]
theorem putL_step{w w':Nat}{m:Int}(h:w=w'+1):putL w m=m%256::putL w' (m/256):=by rw[h];rfl
def powI:Int->Int:=λw=>if w=1 then 256 else if w=2 then 65536 else if w=3 then 16777216 else 4294967296
def p256:Nat->Int
 |0=>1
 |k+1=>256*p256 k
theorem p256_bd{k:Nat}(h:k<4):0<=p256 k/\p256 k<=16777216:=by
 obtain rfl|rfl|rfl|rfl:k=0\/k=1\/k=2\/k=3:=by omega
 all_goals simp[p256]
theorem p256_pow{k:Nat}(h:1<=k/\k<=4):p256 k=powI k:=by
 obtain rfl|rfl|rfl|rfl:k=1\/k=2\/k=3\/k=4:=by omega
 all_goals simp[p256,powI]
theorem power_any(W:Nat)(hW:1<=W/\W<=4)(w:World):Calls Tryz.prog 194 #[.int .i64 W] w (Pure (.int .i64 (powI W)) w):=by
 go_enter Tryz.func194,Tryz.ntmps194
 go_wp2_with fail
 go_loop [3,4] (λn i=>∃k:Nat,k<=W/\i=.int .i64 k/\n=.int .i64 (p256 k)) (λ_ i=>W-(intOf i).toNat)
 case atStart=>exact⟨0,by omega,rfl,rfl⟩
 case round=>
  obtain⟨k,hk,rfl,rfl⟩:=hrel;by_cases hlt:k<W
  ·obtain⟨b0,b1⟩:=p256_bd (k:=k) (by omega);have HS:=h_ (show p256 (k+1)=256*p256 k from rfl);generalize p256 k=q at *;go_wp2_with fail
   go_round
   case rel=>exact⟨k+1,by omega,by go_num,by rw[HS.o]⟩
   case measure=>simp[intOf];omega
  ·have e:k=W:=by omega
   subst e;have HS:=h_ (p256_pow hW);go_wp2_with fail
   go_ret;exact⟨ret_int HS.o,rfl⟩
theorem putNumber_go(n:Int)(W:Nat)(w:World)(hW:1<=W/\W<=4)(h0:0<=n)(h1:n<=all W):Calls Tryz.prog 106 #[.int .i64 n,.int .i64 W] w (RetInts 5 .u8 (putL W n) w):=by
 obtain⟨i0,hi,hz0,hz1,hz2⟩:=info_parts info8;have hn:n<=4294967295:=by unfold all at h1;split at h1<;>(try split at h1)<;>(try split at h1)<;>omega
 have hA:=inB_t (n:=n) (lo:=0) (hi:=all W) ⟨h0,h1⟩;have ho0:=h_ (own_empty (w:=w) (E:=5));have hb0:Hd (Below w.heap.size w (w.alloc (.cells #[] 5))):=b_;obtain rfl|rfl|rfl|rfl:W=1\/W=2\/W=3\/W=4:=by omega
 ·have hb:inB 1 1 4=true:=by decide
  have hA':inB n 0 255=true:=hA;clear hA h1;go_enter Tryz.func106,Tryz.ntmps106
  go_wp2_with (first|(go_at_call 88;refine(within_any _ _ _ _).mono ?_;rintro e w' ⟨rfl,rfl⟩)|(go_at_call 111;refine(l1In_any _ _ _ _).mono ?_;rintro e w' ⟨rfl,rfl⟩)|fail)
  clear hb hA';go_loopw [0,5,21] (λn' v i wr=>∃(k:Nat) (m:Int) (pre:List Int) (A:Option Addr) (l c:Nat),k<=1/\i=.int .i64 k/\n'=.int .i64 m/\0<=m/\m<=4294967295/\v=.slice A l c/\l=pre.length/\l=k/\pre++putL (1-k) m=putL 1 n/\wr.ownsRow w.heap.size 5 1 (.slice A l c) l (ints .u8 pre)/\Below w.heap.size w wr) (λ_ _ i _=>1-(intOf i).toNat)
  case atStart=>exact⟨0,n,[],_,_,_,by omega,rfl,rfl,h0,hn,rfl,rfl,rfl,rfl,ho0.o,hb0.o⟩
  case round=>
   obtain⟨k,m,pre,A,l,c,hk,rfl,rfl,m0,m1,rfl,hl,hlk,hpre,ho,hb⟩:=hrel;have HL:=h_ hl;have HP:=h_ hpre;have HO:=h_ ho;have HB:=h_ hb;have HK:=h_ hlk;have hl4:l<=4:=by omega
   clear hl hpre ho hb hlk h0 hn;by_cases hlt:k<1
   ·have HS:=h_ (putL_step (m:=m) (show 1-k=(1-(k+1))+1 by omega));go_wp2_with (at_builtin;refine wpList_app1 wr rfl (.tmp 23) (.tmp 26) 22 rfl w.heap.size 5 i0 (.int .u8 0) 1 1 Tryz.underlying22 hi hz0 hz1 hz2 rfl (by decide) _ rfl rfl ?o1 _ _ _ rfl HO.o ?n1 ?n2 ?n3 ?_)
    case o1=>first|rfl|(simp;done)|(intro u hu;simp at hu;subst hu;rfl)
    case n1=>unfold maxLen;omega
    case n2=>omega
    case n3=>exact HB.o.size
    intro A' n' c' w' hn' ho' hg';subst hn';have HO':=h_ ho';have HB':=h_ (HB.o.grown hg' HB.o.size (λk hk=>(HO.o.lt k hk).1));clear ho' hg';go_wp2_with fail
    refine⟨⟨k+1,m/256,pre++[m%256],A',l+1,c',by omega,by go_num,rfl,by omega,by omega,rfl,?_,?_,?_,?_,HB'.o⟩,by simp[intOf];omega⟩
    ·rw[HL.o];simp
    ·rw[HK.o]
    ·rw[List.append_assoc,<-HP.o,HS.o];rfl
    ·rw[<-ints_snoc];first|exact HO'.o|(simpa using HO'.o)
   ·have e:1-k=0:=by omega
    have HV:=h_ (show putL 1 n=pre by rw[<-HP.o,e];simp[putL]);clear e;go_wp2_with fail
    go_ret;exact HV.o▸RetInts.mk HL.o HO.o HB.o
 ·have hb:inB 2 1 4=true:=by decide
  have hA':inB n 0 65535=true:=hA;clear hA h1;go_enter Tryz.func106,Tryz.ntmps106
  go_wp2_with (first|(go_at_call 88;refine(within_any _ _ _ _).mono ?_;rintro e w' ⟨rfl,rfl⟩)|(go_at_call 111;refine(l1In_any _ _ _ _).mono ?_;rintro e w' ⟨rfl,rfl⟩)|fail)
  clear hb hA';go_loopw [0,5,21] (λn' v i wr=>∃(k:Nat) (m:Int) (pre:List Int) (A:Option Addr) (l c:Nat),k<=2/\i=.int .i64 k/\n'=.int .i64 m/\0<=m/\m<=4294967295/\v=.slice A l c/\l=pre.length/\l=k/\pre++putL (2-k) m=putL 2 n/\wr.ownsRow w.heap.size 5 1 (.slice A l c) l (ints .u8 pre)/\Below w.heap.size w wr) (λ_ _ i _=>2-(intOf i).toNat)
  case atStart=>exact⟨0,n,[],_,_,_,by omega,rfl,rfl,h0,hn,rfl,rfl,rfl,rfl,ho0.o,hb0.o⟩
  case round=>
   obtain⟨k,m,pre,A,l,c,hk,rfl,rfl,m0,m1,rfl,hl,hlk,hpre,ho,hb⟩:=hrel;have HL:=h_ hl;have HP:=h_ hpre;have HO:=h_ ho;have HB:=h_ hb;have HK:=h_ hlk;have hl4:l<=4:=by omega
   clear hl hpre ho hb hlk h0 hn;by_cases hlt:k<2
   ·have HS:=h_ (putL_step (m:=m) (show 2-k=(2-(k+1))+1 by omega));go_wp2_with (at_builtin;refine wpList_app1 wr rfl (.tmp 23) (.tmp 26) 22 rfl w.heap.size 5 i0 (.int .u8 0) 1 1 Tryz.underlying22 hi hz0 hz1 hz2 rfl (by decide) _ rfl rfl ?o1 _ _ _ rfl HO.o ?n1 ?n2 ?n3 ?_)
    case o1=>first|rfl|(simp;done)|(intro u hu;simp at hu;subst hu;rfl)
    case n1=>unfold maxLen;omega
    case n2=>omega
    case n3=>exact HB.o.size
    intro A' n' c' w' hn' ho' hg';subst hn';have HO':=h_ ho';have HB':=h_ (HB.o.grown hg' HB.o.size (λk hk=>(HO.o.lt k hk).1));clear ho' hg';go_wp2_with fail
    refine⟨⟨k+1,m/256,pre++[m%256],A',l+1,c',by omega,by go_num,rfl,by omega,by omega,rfl,?_,?_,?_,?_,HB'.o⟩,by simp[intOf];omega⟩
    ·rw[HL.o];simp
    ·rw[HK.o]
    ·rw[List.append_assoc,<-HP.o,HS.o];rfl
    ·rw[<-ints_snoc];first|exact HO'.o|(simpa using HO'.o)
   ·have e:2-k=0:=by omega
    have HV:=h_ (show putL 2 n=pre by rw[<-HP.o,e];simp[putL]);clear e;go_wp2_with fail
    go_ret;exact HV.o▸RetInts.mk HL.o HO.o HB.o
 ·have hb:inB 3 1 4=true:=by decide
  have hA':inB n 0 16777215=true:=hA;clear hA h1;go_enter Tryz.func106,Tryz.ntmps106
  go_wp2_with (first|(go_at_call 88;refine(within_any _ _ _ _).mono ?_;rintro e w' ⟨rfl,rfl⟩)|(go_at_call 111;refine(l1In_any _ _ _ _).mono ?_;rintro e w' ⟨rfl,rfl⟩)|fail)
  clear hb hA';go_loopw [0,5,21] (λn' v i wr=>∃(k:Nat) (m:Int) (pre:List Int) (A:Option Addr) (l c:Nat),k<=3/\i=.int .i64 k/\n'=.int .i64 m/\0<=m/\m<=4294967295/\v=.slice A l c/\l=pre.length/\l=k/\pre++putL (3-k) m=putL 3 n/\wr.ownsRow w.heap.size 5 1 (.slice A l c) l (ints .u8 pre)/\Below w.heap.size w wr) (λ_ _ i _=>3-(intOf i).toNat)
  case atStart=>exact⟨0,n,[],_,_,_,by omega,rfl,rfl,h0,hn,rfl,rfl,rfl,rfl,ho0.o,hb0.o⟩
  case round=>
   obtain⟨k,m,pre,A,l,c,hk,rfl,rfl,m0,m1,rfl,hl,hlk,hpre,ho,hb⟩:=hrel;have HL:=h_ hl;have HP:=h_ hpre;have HO:=h_ ho;have HB:=h_ hb;have HK:=h_ hlk;have hl4:l<=4:=by omega
   clear hl hpre ho hb hlk h0 hn;by_cases hlt:k<3
   ·have HS:=h_ (putL_step (m:=m) (show 3-k=(3-(k+1))+1 by omega));go_wp2_with (at_builtin;refine wpList_app1 wr rfl (.tmp 23) (.tmp 26) 22 rfl w.heap.size 5 i0 (.int .u8 0) 1 1 Tryz.underlying22 hi hz0 hz1 hz2 rfl (by decide) _ rfl rfl ?o1 _ _ _ rfl HO.o ?n1 ?n2 ?n3 ?_)
    case o1=>first|rfl|(simp;done)|(intro u hu;simp at hu;subst hu;rfl)
    case n1=>unfold maxLen;omega
    case n2=>omega
    case n3=>exact HB.o.size
    intro A' n' c' w' hn' ho' hg';subst hn';have HO':=h_ ho';have HB':=h_ (HB.o.grown hg' HB.o.size (λk hk=>(HO.o.lt k hk).1));clear ho' hg';go_wp2_with fail
    refine⟨⟨k+1,m/256,pre++[m%256],A',l+1,c',by omega,by go_num,rfl,by omega,by omega,rfl,?_,?_,?_,?_,HB'.o⟩,by simp[intOf];omega⟩
    ·rw[HL.o];simp
    ·rw[HK.o]
    ·rw[List.append_assoc,<-HP.o,HS.o];rfl
    ·rw[<-ints_snoc];first|exact HO'.o|(simpa using HO'.o)
   ·have e:3-k=0:=by omega
    have HV:=h_ (show putL 3 n=pre by rw[<-HP.o,e];simp[putL]);clear e;go_wp2_with fail
    go_ret;exact HV.o▸RetInts.mk HL.o HO.o HB.o
 ·have hb:inB 4 1 4=true:=by decide
  have hA':inB n 0 4294967295=true:=hA;clear hA h1;go_enter Tryz.func106,Tryz.ntmps106
  go_wp2_with (first|(go_at_call 88;refine(within_any _ _ _ _).mono ?_;rintro e w' ⟨rfl,rfl⟩)|(go_at_call 111;refine(l1In_any _ _ _ _).mono ?_;rintro e w' ⟨rfl,rfl⟩)|fail)
  clear hb hA';go_loopw [0,5,21] (λn' v i wr=>∃(k:Nat) (m:Int) (pre:List Int) (A:Option Addr) (l c:Nat),k<=4/\i=.int .i64 k/\n'=.int .i64 m/\0<=m/\m<=4294967295/\v=.slice A l c/\l=pre.length/\l=k/\pre++putL (4-k) m=putL 4 n/\wr.ownsRow w.heap.size 5 1 (.slice A l c) l (ints .u8 pre)/\Below w.heap.size w wr) (λ_ _ i _=>4-(intOf i).toNat)
  case atStart=>exact⟨0,n,[],_,_,_,by omega,rfl,rfl,h0,hn,rfl,rfl,rfl,rfl,ho0.o,hb0.o⟩
  case round=>
   obtain⟨k,m,pre,A,l,c,hk,rfl,rfl,m0,m1,rfl,hl,hlk,hpre,ho,hb⟩:=hrel;have HL:=h_ hl;have HP:=h_ hpre;have HO:=h_ ho;have HB:=h_ hb;have HK:=h_ hlk;have hl4:l<=4:=by omega
   clear hl hpre ho hb hlk h0 hn;by_cases hlt:k<4
   ·have HS:=h_ (putL_step (m:=m) (show 4-k=(4-(k+1))+1 by omega));go_wp2_with (at_builtin;refine wpList_app1 wr rfl (.tmp 23) (.tmp 26) 22 rfl w.heap.size 5 i0 (.int .u8 0) 1 1 Tryz.underlying22 hi hz0 hz1 hz2 rfl (by decide) _ rfl rfl ?o1 _ _ _ rfl HO.o ?n1 ?n2 ?n3 ?_)
    case o1=>first|rfl|(simp;done)|(intro u hu;simp at hu;subst hu;rfl)
    case n1=>unfold maxLen;omega
    case n2=>omega
    case n3=>exact HB.o.size
    intro A' n' c' w' hn' ho' hg';subst hn';have HO':=h_ ho';have HB':=h_ (HB.o.grown hg' HB.o.size (λk hk=>(HO.o.lt k hk).1));clear ho' hg';go_wp2_with fail
    refine⟨⟨k+1,m/256,pre++[m%256],A',l+1,c',by omega,by go_num,rfl,by omega,by omega,rfl,?_,?_,?_,?_,HB'.o⟩,by simp[intOf];omega⟩
    ·rw[HL.o];simp
    ·rw[HK.o]
    ·rw[List.append_assoc,<-HP.o,HS.o];rfl
    ·rw[<-ints_snoc];first|exact HO'.o|(simpa using HO'.o)
   ·have e:4-k=0:=by omega
    have HV:=h_ (show putL 4 n=pre by rw[<-HP.o,e];simp[putL]);clear e;go_wp2_with fail
    go_ret;exact HV.o▸RetInts.mk HL.o HO.o HB.o
theorem putNumberS_go(n:Int)(W:Nat)(w:World)(hW:1<=W/\W<=4)(h0:0<=n)(h1:n<=all W):Calls Tryz.prog 165 #[.int .i64 n,.int .i64 W] w (RetInts 5 .u8 (putL W n) w):=by
 obtain⟨i0,hi,hz0,hz1,hz2⟩:=info_parts info8;have hn:n<=4294967295:=by unfold all at h1;split at h1<;>(try split at h1)<;>(try split at h1)<;>omega
 have hA:=inB_t (n:=n) (lo:=0) (hi:=all W) ⟨h0,h1⟩;have ho0:=h_ (own_empty (w:=w) (E:=5));have hb0:Hd (Below w.heap.size w (w.alloc (.cells #[] 5))):=b_;obtain rfl|rfl|rfl|rfl:W=1\/W=2\/W=3\/W=4:=by omega
 ·have hb:inB 1 1 4=true:=by decide
  have hA':inB n 0 255=true:=hA;have hpw:powI 1=256:=rfl;clear hA h1;go_enter Tryz.func165,Tryz.ntmps165
  go_wp2_with (first|(go_at_call 111;refine(l1In_any _ _ _ _).mono ?_;rintro e w' ⟨rfl,rfl⟩)|(go_at_call 194;refine(power_any 1 (by omega) _).mono ?_;rintro e w' ⟨rfl,rfl⟩))
  clear hb hA';go_loopw [0,5,6] (λn' v i wr=>∃(k:Nat) (m:Int) (pre:List Int) (A:Option Addr) (l c:Nat),k<=1/\i=.int .i64 k/\n'=.int .i64 m/\0<=m/\m<=4294967295/\v=.slice A l c/\l=pre.length/\l=k/\pre++putL (1-k) m=putL 1 n/\wr.ownsRow w.heap.size 5 1 (.slice A l c) l (ints .u8 pre)/\Below w.heap.size w wr) (λ_ _ i _=>1-(intOf i).toNat)
  case atStart=>exact⟨0,n,[],_,_,_,by omega,rfl,rfl,h0,hn,rfl,rfl,rfl,rfl,ho0.o,hb0.o⟩
  case round=>
   obtain⟨k,m,pre,A,l,c,hk,rfl,rfl,m0,m1,rfl,hl,hlk,hpre,ho,hb⟩:=hrel;have HL:=h_ hl;have HP:=h_ hpre;have HO:=h_ ho;have HB:=h_ hb;have HK:=h_ hlk;have hl4:l<=4:=by omega
   clear hl hpre ho hb hlk h0 hn;by_cases hlt:k<1
   ·have HS:=h_ (putL_step (m:=m) (show 1-k=(1-(k+1))+1 by omega));go_wp2_with (at_builtin;refine wpList_app1 wr rfl (.tmp 25) (.tmp 29) 22 rfl w.heap.size 5 i0 (.int .u8 0) 1 1 Tryz.underlying22 hi hz0 hz1 hz2 rfl (by decide) _ rfl rfl ?o1 _ _ _ rfl HO.o ?n1 ?n2 ?n3 ?_)
    case o1=>first|rfl|(simp;done)|(intro u hu;simp at hu;subst hu;rfl)
    case n1=>unfold maxLen;omega
    case n2=>omega
    case n3=>exact HB.o.size
    intro A' n' c' w' hn' ho' hg';subst hn';have HO':=h_ ho';have HB':=h_ (HB.o.grown hg' HB.o.size (λk hk=>(HO.o.lt k hk).1));clear ho' hg';go_wp2_with fail
    refine⟨⟨k+1,m/256,pre++[m%256],A',l+1,c',by omega,by go_num,rfl,by omega,by omega,rfl,?_,?_,?_,?_,HB'.o⟩,by simp[intOf];omega⟩
    ·rw[HL.o];simp
    ·rw[HK.o]
    ·rw[List.append_assoc,<-HP.o,HS.o];rfl
    ·rw[<-ints_snoc];first|exact HO'.o|(simpa using HO'.o)
   ·have e:1-k=0:=by omega
    have HV:=h_ (show putL 1 n=pre by rw[<-HP.o,e];simp[putL]);clear e;go_wp2_with fail
    go_ret;exact HV.o▸RetInts.mk HL.o HO.o HB.o
 ·have hb:inB 2 1 4=true:=by decide
  have hA':inB n 0 65535=true:=hA;have hpw:powI 2=65536:=rfl;clear hA h1;go_enter Tryz.func165,Tryz.ntmps165
  go_wp2_with (first|(go_at_call 111;refine(l1In_any _ _ _ _).mono ?_;rintro e w' ⟨rfl,rfl⟩)|(go_at_call 194;refine(power_any 2 (by omega) _).mono ?_;rintro e w' ⟨rfl,rfl⟩))
  clear hb hA';go_loopw [0,5,6] (λn' v i wr=>∃(k:Nat) (m:Int) (pre:List Int) (A:Option Addr) (l c:Nat),k<=2/\i=.int .i64 k/\n'=.int .i64 m/\0<=m/\m<=4294967295/\v=.slice A l c/\l=pre.length/\l=k/\pre++putL (2-k) m=putL 2 n/\wr.ownsRow w.heap.size 5 1 (.slice A l c) l (ints .u8 pre)/\Below w.heap.size w wr) (λ_ _ i _=>2-(intOf i).toNat)
  case atStart=>exact⟨0,n,[],_,_,_,by omega,rfl,rfl,h0,hn,rfl,rfl,rfl,rfl,ho0.o,hb0.o⟩
  case round=>
   obtain⟨k,m,pre,A,l,c,hk,rfl,rfl,m0,m1,rfl,hl,hlk,hpre,ho,hb⟩:=hrel;have HL:=h_ hl;have HP:=h_ hpre;have HO:=h_ ho;have HB:=h_ hb;have HK:=h_ hlk;have hl4:l<=4:=by omega
   clear hl hpre ho hb hlk h0 hn;by_cases hlt:k<2
   ·have HS:=h_ (putL_step (m:=m) (show 2-k=(2-(k+1))+1 by omega));go_wp2_with (at_builtin;refine wpList_app1 wr rfl (.tmp 25) (.tmp 29) 22 rfl w.heap.size 5 i0 (.int .u8 0) 1 1 Tryz.underlying22 hi hz0 hz1 hz2 rfl (by decide) _ rfl rfl ?o1 _ _ _ rfl HO.o ?n1 ?n2 ?n3 ?_)
    case o1=>first|rfl|(simp;done)|(intro u hu;simp at hu;subst hu;rfl)
    case n1=>unfold maxLen;omega
    case n2=>omega
    case n3=>exact HB.o.size
    intro A' n' c' w' hn' ho' hg';subst hn';have HO':=h_ ho';have HB':=h_ (HB.o.grown hg' HB.o.size (λk hk=>(HO.o.lt k hk).1));clear ho' hg';go_wp2_with fail
    refine⟨⟨k+1,m/256,pre++[m%256],A',l+1,c',by omega,by go_num,rfl,by omega,by omega,rfl,?_,?_,?_,?_,HB'.o⟩,by simp[intOf];omega⟩
    ·rw[HL.o];simp
    ·rw[HK.o]
    ·rw[List.append_assoc,<-HP.o,HS.o];rfl
    ·rw[<-ints_snoc];first|exact HO'.o|(simpa using HO'.o)
   ·have e:2-k=0:=by omega
    have HV:=h_ (show putL 2 n=pre by rw[<-HP.o,e];simp[putL]);clear e;go_wp2_with fail
    go_ret;exact HV.o▸RetInts.mk HL.o HO.o HB.o
 ·have hb:inB 3 1 4=true:=by decide
  have hA':inB n 0 16777215=true:=hA;have hpw:powI 3=16777216:=rfl;clear hA h1;go_enter Tryz.func165,Tryz.ntmps165
  go_wp2_with (first|(go_at_call 111;refine(l1In_any _ _ _ _).mono ?_;rintro e w' ⟨rfl,rfl⟩)|(go_at_call 194;refine(power_any 3 (by omega) _).mono ?_;rintro e w' ⟨rfl,rfl⟩))
  clear hb hA';go_loopw [0,5,6] (λn' v i wr=>∃(k:Nat) (m:Int) (pre:List Int) (A:Option Addr) (l c:Nat),k<=3/\i=.int .i64 k/\n'=.int .i64 m/\0<=m/\m<=4294967295/\v=.slice A l c/\l=pre.length/\l=k/\pre++putL (3-k) m=putL 3 n/\wr.ownsRow w.heap.size 5 1 (.slice A l c) l (ints .u8 pre)/\Below w.heap.size w wr) (λ_ _ i _=>3-(intOf i).toNat)
  case atStart=>exact⟨0,n,[],_,_,_,by omega,rfl,rfl,h0,hn,rfl,rfl,rfl,rfl,ho0.o,hb0.o⟩
  case round=>
   obtain⟨k,m,pre,A,l,c,hk,rfl,rfl,m0,m1,rfl,hl,hlk,hpre,ho,hb⟩:=hrel;have HL:=h_ hl;have HP:=h_ hpre;have HO:=h_ ho;have HB:=h_ hb;have HK:=h_ hlk;have hl4:l<=4:=by omega
   clear hl hpre ho hb hlk h0 hn;by_cases hlt:k<3
   ·have HS:=h_ (putL_step (m:=m) (show 3-k=(3-(k+1))+1 by omega));go_wp2_with (at_builtin;refine wpList_app1 wr rfl (.tmp 25) (.tmp 29) 22 rfl w.heap.size 5 i0 (.int .u8 0) 1 1 Tryz.underlying22 hi hz0 hz1 hz2 rfl (by decide) _ rfl rfl ?o1 _ _ _ rfl HO.o ?n1 ?n2 ?n3 ?_)
    case o1=>first|rfl|(simp;done)|(intro u hu;simp at hu;subst hu;rfl)
    case n1=>unfold maxLen;omega
    case n2=>omega
    case n3=>exact HB.o.size
    intro A' n' c' w' hn' ho' hg';subst hn';have HO':=h_ ho';have HB':=h_ (HB.o.grown hg' HB.o.size (λk hk=>(HO.o.lt k hk).1));clear ho' hg';go_wp2_with fail
    refine⟨⟨k+1,m/256,pre++[m%256],A',l+1,c',by omega,by go_num,rfl,by omega,by omega,rfl,?_,?_,?_,?_,HB'.o⟩,by simp[intOf];omega⟩
    ·rw[HL.o];simp
    ·rw[HK.o]
    ·rw[List.append_assoc,<-HP.o,HS.o];rfl
    ·rw[<-ints_snoc];first|exact HO'.o|(simpa using HO'.o)
   ·have e:3-k=0:=by omega
    have HV:=h_ (show putL 3 n=pre by rw[<-HP.o,e];simp[putL]);clear e;go_wp2_with fail
    go_ret;exact HV.o▸RetInts.mk HL.o HO.o HB.o
 ·have hb:inB 4 1 4=true:=by decide
  have hA':inB n 0 4294967295=true:=hA;have hpw:powI 4=4294967296:=rfl;clear hA h1;go_enter Tryz.func165,Tryz.ntmps165
  go_wp2_with (first|(go_at_call 111;refine(l1In_any _ _ _ _).mono ?_;rintro e w' ⟨rfl,rfl⟩)|(go_at_call 194;refine(power_any 4 (by omega) _).mono ?_;rintro e w' ⟨rfl,rfl⟩))
  clear hb hA';go_loopw [0,5,6] (λn' v i wr=>∃(k:Nat) (m:Int) (pre:List Int) (A:Option Addr) (l c:Nat),k<=4/\i=.int .i64 k/\n'=.int .i64 m/\0<=m/\m<=4294967295/\v=.slice A l c/\l=pre.length/\l=k/\pre++putL (4-k) m=putL 4 n/\wr.ownsRow w.heap.size 5 1 (.slice A l c) l (ints .u8 pre)/\Below w.heap.size w wr) (λ_ _ i _=>4-(intOf i).toNat)
  case atStart=>exact⟨0,n,[],_,_,_,by omega,rfl,rfl,h0,hn,rfl,rfl,rfl,rfl,ho0.o,hb0.o⟩
  case round=>
   obtain⟨k,m,pre,A,l,c,hk,rfl,rfl,m0,m1,rfl,hl,hlk,hpre,ho,hb⟩:=hrel;have HL:=h_ hl;have HP:=h_ hpre;have HO:=h_ ho;have HB:=h_ hb;have HK:=h_ hlk;have hl4:l<=4:=by omega
   clear hl hpre ho hb hlk h0 hn;by_cases hlt:k<4
   ·have HS:=h_ (putL_step (m:=m) (show 4-k=(4-(k+1))+1 by omega));go_wp2_with (at_builtin;refine wpList_app1 wr rfl (.tmp 25) (.tmp 29) 22 rfl w.heap.size 5 i0 (.int .u8 0) 1 1 Tryz.underlying22 hi hz0 hz1 hz2 rfl (by decide) _ rfl rfl ?o1 _ _ _ rfl HO.o ?n1 ?n2 ?n3 ?_)
    case o1=>first|rfl|(simp;done)|(intro u hu;simp at hu;subst hu;rfl)
    case n1=>unfold maxLen;omega
    case n2=>omega
    case n3=>exact HB.o.size
    intro A' n' c' w' hn' ho' hg';subst hn';have HO':=h_ ho';have HB':=h_ (HB.o.grown hg' HB.o.size (λk hk=>(HO.o.lt k hk).1));clear ho' hg';go_wp2_with fail
    refine⟨⟨k+1,m/256,pre++[m%256],A',l+1,c',by omega,by go_num,rfl,by omega,by omega,rfl,?_,?_,?_,?_,HB'.o⟩,by simp[intOf];omega⟩
    ·rw[HL.o];simp
    ·rw[HK.o]
    ·rw[List.append_assoc,<-HP.o,HS.o];rfl
    ·rw[<-ints_snoc];first|exact HO'.o|(simpa using HO'.o)
   ·have e:4-k=0:=by omega
    have HV:=h_ (show putL 4 n=pre by rw[<-HP.o,e];simp[putL]);clear e;go_wp2_with fail
    go_ret;exact HV.o▸RetInts.mk HL.o HO.o HB.o
theorem putNumber_any(n wide:Int)(w:World):Calls Tryz.prog 106 #[.int .i64 n,.int .i64 wide] w (RetInts 5 .u8 (pnum n wide) w):=by
 by_cases hw:1<=wide/\wide<=4
 ·obtain⟨W,rfl⟩:=Int.eq_ofNat_of_zero_le (show 0<=wide by omega);by_cases hn:0<=n/\n<=all W
  ·rw[show pnum n W=putL W n by rw[pnum,if_pos ⟨inB_t hw,inB_t hn⟩];rfl];exact putNumber_go n W w (by omega) hn.1 hn.2
  ·rw[show pnum n W=[]by rw[pnum,if_neg (by rw[inB_f hn];simp)]];have hA:=inB_f (n:=n) (lo:=0) (hi:=all W) hn;obtain rfl|rfl|rfl|rfl:W=1\/W=2\/W=3\/W=4:=by omega
   ·have hb:inB 1 1 4=true:=by decide
    have hA':inB n 0 255=false:=hA;clear hA hn hw;go_enter Tryz.func106,Tryz.ntmps106
    go_wp2_with (first|(go_at_call 88;refine(within_any _ _ _ _).mono ?_;rintro e w' ⟨rfl,rfl⟩)|(go_at_call 111;refine(l1In_any _ _ _ _).mono ?_;rintro e w' ⟨rfl,rfl⟩)|fail)
    go_ret;exact RetInts.nil (Below.refl _ _)
   ·have hb:inB 2 1 4=true:=by decide
    have hA':inB n 0 65535=false:=hA;clear hA hn hw;go_enter Tryz.func106,Tryz.ntmps106
    go_wp2_with (first|(go_at_call 88;refine(within_any _ _ _ _).mono ?_;rintro e w' ⟨rfl,rfl⟩)|(go_at_call 111;refine(l1In_any _ _ _ _).mono ?_;rintro e w' ⟨rfl,rfl⟩)|fail)
    go_ret;exact RetInts.nil (Below.refl _ _)
   ·have hb:inB 3 1 4=true:=by decide
    have hA':inB n 0 16777215=false:=hA;clear hA hn hw;go_enter Tryz.func106,Tryz.ntmps106
    go_wp2_with (first|(go_at_call 88;refine(within_any _ _ _ _).mono ?_;rintro e w' ⟨rfl,rfl⟩)|(go_at_call 111;refine(l1In_any _ _ _ _).mono ?_;rintro e w' ⟨rfl,rfl⟩)|fail)
    go_ret;exact RetInts.nil (Below.refl _ _)
   ·have hb:inB 4 1 4=true:=by decide
    have hA':inB n 0 4294967295=false:=hA;clear hA hn hw;go_enter Tryz.func106,Tryz.ntmps106
    go_wp2_with (first|(go_at_call 88;refine(within_any _ _ _ _).mono ?_;rintro e w' ⟨rfl,rfl⟩)|(go_at_call 111;refine(l1In_any _ _ _ _).mono ?_;rintro e w' ⟨rfl,rfl⟩)|fail)
    go_ret;exact RetInts.nil (Below.refl _ _)
 ·rw[show pnum n wide=[]by rw[pnum,if_neg (by rw[inB_f hw];simp)]];have hb:=inB_f hw;clear hw;go_enter Tryz.func106,Tryz.ntmps106
  go_wp2_with (first|(go_at_call 88;refine(within_any _ _ _ _).mono ?_;rintro e w' ⟨rfl,rfl⟩)|(go_at_call 111;refine(l1In_any _ _ _ _).mono ?_;rintro e w' ⟨rfl,rfl⟩)|fail)
  go_ret;exact RetInts.nil (Below.refl _ _)
theorem putNumberS_any(n wide:Int)(w:World):Calls Tryz.prog 165 #[.int .i64 n,.int .i64 wide] w (RetInts 5 .u8 (pnum n wide) w):=by
 by_cases hw:1<=wide/\wide<=4
 ·obtain⟨W,rfl⟩:=Int.eq_ofNat_of_zero_le (show 0<=wide by omega);by_cases hn:0<=n/\n<=all W
  ·rw[show pnum n W=putL W n by rw[pnum,if_pos ⟨inB_t hw,inB_t hn⟩];rfl];exact putNumberS_go n W w (by omega) hn.1 hn.2
  ·rw[show pnum n W=[]by rw[pnum,if_neg (by rw[inB_f hn];simp)]];have hA:=inB_f (n:=n) (lo:=0) (hi:=all W) hn;obtain rfl|rfl|rfl|rfl:W=1\/W=2\/W=3\/W=4:=by omega
   ·have hb:inB 1 1 4=true:=by decide
    have hA':inB n 0 255=false:=hA;have hpw:powI 1=256:=rfl;clear hA hn hw;go_enter Tryz.func165,Tryz.ntmps165
    go_wp2_with (first|(go_at_call 111;refine(l1In_any _ _ _ _).mono ?_;rintro e w' ⟨rfl,rfl⟩)|(go_at_call 194;refine(power_any 1 (by omega) _).mono ?_;rintro e w' ⟨rfl,rfl⟩))
    go_ret;exact RetInts.mk rfl own_empty b_
   ·have hb:inB 2 1 4=true:=by decide
    have hA':inB n 0 65535=false:=hA;have hpw:powI 2=65536:=rfl;clear hA hn hw;go_enter Tryz.func165,Tryz.ntmps165
    go_wp2_with (first|(go_at_call 111;refine(l1In_any _ _ _ _).mono ?_;rintro e w' ⟨rfl,rfl⟩)|(go_at_call 194;refine(power_any 2 (by omega) _).mono ?_;rintro e w' ⟨rfl,rfl⟩))
    go_ret;exact RetInts.mk rfl own_empty b_
   ·have hb:inB 3 1 4=true:=by decide
    have hA':inB n 0 16777215=false:=hA;have hpw:powI 3=16777216:=rfl;clear hA hn hw;go_enter Tryz.func165,Tryz.ntmps165
    go_wp2_with (first|(go_at_call 111;refine(l1In_any _ _ _ _).mono ?_;rintro e w' ⟨rfl,rfl⟩)|(go_at_call 194;refine(power_any 3 (by omega) _).mono ?_;rintro e w' ⟨rfl,rfl⟩))
    go_ret;exact RetInts.mk rfl own_empty b_
   ·have hb:inB 4 1 4=true:=by decide
    have hA':inB n 0 4294967295=false:=hA;have hpw:powI 4=4294967296:=rfl;clear hA hn hw;go_enter Tryz.func165,Tryz.ntmps165
    go_wp2_with (first|(go_at_call 111;refine(l1In_any _ _ _ _).mono ?_;rintro e w' ⟨rfl,rfl⟩)|(go_at_call 194;refine(power_any 4 (by omega) _).mono ?_;rintro e w' ⟨rfl,rfl⟩))
    go_ret;exact RetInts.mk rfl own_empty b_
 ·rw[show pnum n wide=[]by rw[pnum,if_neg (by rw[inB_f hw];simp)]];have hb:=inB_f hw;clear hw;go_enter Tryz.func165,Tryz.ntmps165
  go_wp2_with (first|(go_at_call 88;refine(within_any _ _ _ _).mono ?_;rintro e w' ⟨rfl,rfl⟩)|(go_at_call 111;refine(l1In_any _ _ _ _).mono ?_;rintro e w' ⟨rfl,rfl⟩)|fail)
  go_ret;exact RetInts.mk rfl own_empty b_
def numL:List Int->Int
 |[]=>0
 |x::r=>x+256*numL r
end CNumber
/- Linking objects: where sections lie,what names mean,what fixups fill; plain. -/
namespace PLink
open Kit CCode CName CNumber CFixups CSymbols PObj PValid PWarn PClear PSort
def sp(l:List Int)(i:Nat)(zs:List Int):List Int:=l.take i++zs++l.drop (i+zs.length)
theorem sp_len{l zs:List Int}{i:Nat}(h:i+zs.length<=l.length):(sp l i zs).length=l.length:=by unfold sp;simp only[List.length_append,List.length_take,List.length_drop];omega
theorem sp_in{l zs:List Int}{i:Nat}{lo hi:Int}(h:InR lo hi l)(h':InR lo hi zs):InR lo hi (sp l i zs):=by
 intro x hx;unfold sp at hx;rcases List.mem_append.1 hx with hx|hx
 ·rcases List.mem_append.1 hx with hx|hx
  ·exact h x (List.mem_of_mem_take hx)
  ·exact h' x hx
 ·exact h x (List.mem_of_mem_drop hx)
abbrev G:=Nat×Nat
def gives(nm:ByteArray)(b:Int)(y:YD):Bool:=decide (y.1=nm)&&decide (y.2.1=b)&& !decide (y.2.2.1=-1)
def fiS(p:YD->Bool):Nat->List YD->Option Nat
 |_,[]=>none
 |j,y::ys=>bif p y then some j else fiS p (j+1) ys
def fiR(p:YD->Bool)(k:Nat)(r:Option Nat)(rest:Option G):Option G:=match r with
 |some j=>some (k,j)
 |none=>rest
def fiO(p:YD->Bool):Nat->List OD->Option G
 |_,[]=>none
 |k,d::ds=>fiR p k (fiS p 0 d.ys) (fiO p (k+1) ds)
theorem fiS_drop{p:YD->Bool}{ys:List YD}{j:Nat}(h:j<ys.length)(n:Nat):fiS p n (ys.drop j)=bif p ys[j]then some n else fiS p (n+1) (ys.drop (j+1)):=by
 rw[List.drop_eq_getElem_cons h]
 rfl
theorem fiO_drop{p:YD->Bool}{ds:List OD}{k:Nat}(h:k<ds.length)(n:Nat):fiO p n (ds.drop k)=fiR p n (fiS p 0 ds[k].ys) (fiO p (n+1) (ds.drop (k+1))):=by
 rw[List.drop_eq_getElem_cons h]
 rfl
def orG(a b:Option G):Option G:=match a with
 |some g=>some g
 |none=>b
def findN(l:List OD)(nm:ByteArray):Option G:=orG (fiO (gives nm 1) 0 l) (fiO (gives nm 2) 0 l)
def gin:Option G->Int
 |some g=>g.1
 |none=>0
def gat:Option G->Int
 |some g=>g.2
 |none=>0
theorem fiS_spec{p:YD->Bool}:∀(ys:List YD) (n j:Nat),fiS p n ys=some j->n<=j/\j-n<ys.length/\p (ys.getD (j-n) dY)=true
 |[],n,j,h=>by cases h
 |y::ys,n,j,h=>by
  rw[fiS]at h;cases hp:p y
  ·rw[hp,cond_false]at h;obtain⟨h1,h2,h3⟩:=fiS_spec ys (n+1) j h;obtain⟨m,rfl⟩:∃m,j=n+1+m:=⟨j-(n+1),by omega⟩;have e1:n+1+m-n=m+1:=by omega
   have e2:n+1+m-(n+1)=m:=by omega
   rw[e2]at h2 h3;rw[e1];exact⟨by omega,by simpa using h2,by simpa using h3⟩
  ·rw[hp,cond_true]at h;injection h with h;subst h;simp[hp]
theorem fiS_none{p:YD->Bool}:∀(ys:List YD) (n:Nat),fiS p n ys=none↔∀y∈ys,p y=false
 |[],n=>by simp[fiS]
 |y::ys,n=>by
  rw[fiS];cases hp:p y
  ·rw[cond_false,fiS_none ys (n+1)];simp[hp]
  ·simp[hp]
theorem fiO_spec{p:YD->Bool}:∀(ds:List OD) (n:Nat) (g:G),fiO p n ds=some g->n<=g.1/\g.1-n<ds.length/\g.2<(ds.getD (g.1-n) ⟨[],[]⟩).ys.length/\p ((ds.getD (g.1-n) ⟨[],[]⟩).ys.getD g.2 dY)=true
 |[],n,g,h=>by cases h
 |d::ds,n,g,h=>by
  rw[fiO]at h;cases hs:fiS p 0 d.ys with
  |some j=>
   rw[hs,fiR]at h;injection h with h;subst h;have:=fiS_spec d.ys 0 j hs;simpa using this
  |none=>
   rw[hs,fiR]at h;obtain⟨h1,h2,h3,h4⟩:=fiO_spec ds (n+1) g h;obtain⟨m,hm⟩:∃m,g.1=n+1+m:=⟨g.1-(n+1),by omega⟩;have e1:g.1-n=m+1:=by omega
   have e2:g.1-(n+1)=m:=by omega
   rw[e2]at h2 h3 h4;rw[e1];exact⟨by omega,by simpa using h2,by simpa using h3,by simpa using h4⟩
def Gok(l:List OD)(g:G):Prop:=g.1<l.length/\g.2<(l.getD g.1 ⟨[],[]⟩).ys.length/\¬((l.getD g.1 ⟨[],[]⟩).ys.getD g.2 dY).2.2.1=-1
theorem find_ok{l:List OD}{nm:ByteArray}{g:G}(h:findN l nm=some g):Gok l g:=by
 unfold findN at h;have key:∀b,fiO (gives nm b) 0 l=some g->Gok l g:=λb hb=>by obtain⟨_,h2,h3,h4⟩:=fiO_spec l 0 g hb;rw[Nat.sub_zero]at h2 h3 h4;simp only[gives,Bool.and_eq_true,Bool.not_eq_true',decide_eq_false_iff_not]at h4;exact⟨h2,h3,h4.2⟩
 cases h1:fiO (gives nm 1) 0 l with
 |some a=>rw[h1]at h;injection h with h;subst h;exact key 1 h1
 |none=>rw[h1]at h;exact key 2 h
def isStrong(y:YD):Bool:=decide (y.2.1=1)&& !decide (y.2.2.1=-1)
def twStep(st:List ByteArray×List ByteArray)(y:YD):List ByteArray×List ByteArray:=bif isStrong y then((bif st.2.any (λx=>decide (x=y.1))then st.1++[y.1]else st.1),st.2++[y.1])else st
def twS(st:List ByteArray×List ByteArray)(ys:List YD):List ByteArray×List ByteArray:=ys.foldl twStep st
def twO(st:List ByteArray×List ByteArray)(l:List OD):List ByteArray×List ByteArray:=l.foldl (λst d=>twS st d.ys) st
def twice(l:List OD):List ByteArray:=(twO ([],[]) l).1
def isMiss(l:List OD)(y:YD):Bool:=decide (y.2.1=1)&&decide (y.2.2.1=-1)&&(findN l y.1).isNone
def missS(l:List OD)(ys:List YD):List ByteArray:=(ys.filter (isMiss l)).map (·.1)
def miss(l:List OD):List ByteArray:=l.flatMap λd=>missS l d.ys
def al(n q:Int):Int:=(n+q-1)/q*q
theorem al_bd{n q:Int}(hn:0<=n)(h:alignOk q=true):n<=al n q/\al n q<=n+7:=by
 unfold al;simp only[alignOk,Bool.or_eq_true,decide_eq_true_eq]at h;rcases h with((rfl|rfl)|rfl)|rfl<;>omega
abbrev St:=Int×List (List Int)
def setP(P:List (List Int))(k i:Nat)(v:Int):List (List Int):=P.set k ((P.getD k []).set i v)
def getP(P:List (List Int))(k i:Nat):Int:=(P.getD k []).getD i 0
def stepS(kd:Int)(k i:Nat)(s:SD)(st:St):St:=bif decide (s.kd=kd)then(al st.1 s.al+secSize s,setP st.2 k i (al st.1 s.al))else st
def foldS(kd:Int)(k:Nat):Nat->List SD->St->St
 |_,[],st=>st
 |i,s::ss,st=>foldS kd k (i+1) ss (stepS kd k i s st)
def foldO(kd:Int):Nat->List OD->St->St
 |_,[],st=>st
 |k,d::ds,st=>foldO kd (k+1) ds (foldS kd k 0 d.ss st)
theorem foldS_drop{kd:Int}{k:Nat}{ss:List SD}{j:Nat}(h:j<ss.length)(i:Nat)(st:St):foldS kd k i (ss.drop j) st=foldS kd k (i+1) (ss.drop (j+1)) (stepS kd k i ss[j] st):=by
 rw[List.drop_eq_getElem_cons h]
 rfl
theorem foldO_drop{kd:Int}{l:List OD}{j:Nat}(h:j<l.length)(k:Nat)(st:St):foldO kd k (l.drop j) st=foldO kd (k+1) (l.drop (j+1)) (foldS kd k 0 l[j].ss st):=by
 rw[List.drop_eq_getElem_cons h]
 rfl
def kindS(l:List OD)(kd:Int)(st:St):St:=foldO kd 0 l (al st.1 8,st.2)
def zeroP(l:List OD):List (List Int):=l.map λd=>List.replicate d.ss.length 0
def lay(l:List OD)(base:Int):St:=kindS l 3 (kindS l 2 (kindS l 1 (base,zeroP l)))
def sh(d:OD):List (Int×Int×Int):=d.ss.map λs=>(s.kd,s.al,secSize s)
def tgY(P:List (List Int))(k:Nat)(y:YD):Int:=if y.2.2.1=-2 then y.2.2.2 else getP P k y.2.2.1.toNat+y.2.2.2
def symAtL(l:List OD)(g:G):YD:=(l.getD g.1 ⟨[],[]⟩).ys.getD g.2 dY
def tgG(l:List OD)(P:List (List Int))(g:G):Int:=tgY P g.1 (symAtL l g)
def tgO(l:List OD)(P:List (List Int)):Option G->Int
 |some g=>tgG l P g
 |none=>0
def symPl(l:List OD)(P:List (List Int))(k j:Nat):Int:=
 if(symAtL l (k,j)).2.1=0 then tgG l P (k,j)else tgO l P (findN l (symAtL l (k,j)).1)
def near(p v:Int):Int:=v-(p+1)
def fixVal (kind place target add:Int):Option Int:=
  if inB place 0 100000=true/\inB target 0 100000=true/\inB add (-1000) 1000=true then
    (if kind=2 then (if inB (target+add) 0 65535=true then some (target+add) else none)
     else if kind=3 then (if 0<=target+add then some (target+add) else none)
     else if kind=1 then (if inB (near place (target+add)) (-128) 127=true then some (near place (target+add) % 256) else none)
     else none)
  else none
def apF(b:List Int)(place:Int)(f:FD)(target:Int):Option (List Int):=
 if inB place 0 100000=true/\¬wide f.2.1=0/\inB f.1 0 (b.length-wide f.2.1)=true then
  (fixVal f.2.1 (place+f.1) target f.2.2.2).map λv=>sp b f.1.toNat (putL (wide f.2.1).toNat v)
 else none
def fill(l:List OD)(P:List (List Int))(k:Nat)(place:Int):List FD->Option (List Int)->Option (List Int)
 |[],b=>b
 |f::fs,b=>fill l P k place fs (b.bind λb=>apF b place f (symPl l P k f.2.2.1.toNat))
def over(im:List Int)(i:Nat)(b:List Int):List Int:=sp im i (b.take (im.length-i))
def imS(l:List OD)(P:List (List Int))(base:Int)(k:Nat):Nat->List SD->Option (List Int)->Option (List Int)
 |_,[],im=>im
 |i,s::ss,im=>imS l P base k (i+1) ss (im.bind λim=>(fill l P k (getP P k i) s.fs (some s.zs)).map λb=>over im (getP P k i-base).toNat b)
def imO(l:List OD)(P:List (List Int))(base:Int):Nat->List OD->Option (List Int)->Option (List Int)
 |_,[],im=>im
 |k,d::ds,im=>imO l P base (k+1) ds (imS l P base k 0 d.ss im)
theorem fill_drop{l:List OD}{P:List (List Int)}{k:Nat}{place:Int}{fs:List FD}{j:Nat}(h:j<fs.length)(b:Option (List Int)):fill l P k place (fs.drop j) b=fill l P k place (fs.drop (j+1)) (b.bind λb=>apF b place fs[j] (symPl l P k fs[j].2.2.1.toNat)):=by
 rw[List.drop_eq_getElem_cons h]
 rfl
theorem fill_none(l:List OD)(P:List (List Int))(k:Nat)(place:Int):∀fs,fill l P k place fs none=none
 |[]=>rfl
 |f::fs=>by rw[fill,Option.bind_none,fill_none l P k place fs]
theorem imS_drop{l:List OD}{P:List (List Int)}{base:Int}{k:Nat}{ss:List SD}{j:Nat}(h:j<ss.length)(i:Nat)(im:Option (List Int)):imS l P base k i (ss.drop j) im=imS l P base k (i+1) (ss.drop (j+1)) (im.bind λim=>(fill l P k (getP P k i) ss[j].fs (some ss[j].zs)).map λb=>over im (getP P k i-base).toNat b):=by
 rw[List.drop_eq_getElem_cons h]
 rfl
theorem imS_none(l:List OD)(P:List (List Int))(base:Int)(k:Nat):∀i ss,imS l P base k i ss none=none
 |_,[]=>rfl
 |i,s::ss=>by rw[imS,Option.bind_none,imS_none l P base k (i+1) ss]
theorem imO_drop{l:List OD}{P:List (List Int)}{base:Int}{ds:List OD}{j:Nat}(h:j<ds.length)(k:Nat)(im:Option (List Int)):imO l P base k (ds.drop j) im=imO l P base (k+1) (ds.drop (j+1)) (imS l P base k 0 ds[j].ss im):=by
 rw[List.drop_eq_getElem_cons h]
 rfl
theorem imO_none(l:List OD)(P:List (List Int))(base:Int):∀k ds,imO l P base k ds none=none
 |_,[]=>rfl
 |k,d::ds=>by rw[imO,imS_none,imO_none l P base (k+1) ds]
def objsOk(l:List OD):Bool:=decide (l.length<=4)&&l.all objOk
def baseOk(b:Int):Bool:=decide (0<=b/\b<=4096)&&decide (b%8=0)
abbrev RD:=Int×List Int×Int
def imgR(base:Int):Option (List Int)->RD
 |some im=>(base,im,0)
 |none=>(0,[],3)
def image(l:List OD)(base:Int):Option (List Int):=imO l (lay l base).2 base 0 l (some (List.replicate ((lay l base).1-base).toNat 0))
def linkR(l:List OD)(base:Int):RD:=
 if(objsOk l&&baseOk base)=false then(0,[],-1)
 else if 0<(twice l).length then(0,[],1)
 else if 0<(miss l).length then(0,[],2)
 else imgR base (image l base)
end PLink
/- findBound and findName: which symbol a name means. -/
namespace CFind
open Kit CCode CName CFixups CSymbols PObj BObj PValid CGlobalOf BList PLink
theorem find_name(l:List OD)(nm:ByteArray):findN l nm=orG (fiO (gives nm 1) 0 l) (fiO (gives nm 2) 0 l):=rfl
def givV(r:Option G):Value:=.tuple #[.agg #[.int .i64 (gin r),.int .i64 (gat r)],.bool r.isSome]
def Lens(os:List OV):Prop:=os.length<=1048576/\∀o∈os,o.ys.length<=1048576
set_option maxHeartbeats 2000000 in
theorem findBound_any(A:Option Addr)(os:List OV)(c:Nat)(nm:ByteArray)(b:Int)(w:World)(hr:RdOs w w.heap.size A os)(hm:Lens os):
  Calls Tryz.prog 97 #[.slice A os.length c,.string nm,.int .i64 b] w (Ret (givV (fiO (gives nm b) 0 (os.map OV.d))) w):=by
 obtain⟨hm1,hm2⟩:=hm;have HY:=h_ hm2;clear hm2;have HB:=h_ (show Below w.heap.size w (w.alloc (.cells #[.int .i64 0,.int .i64 0] 79))from b_);have HX:=h_ (Box.new w 79 #[.int .i64 0,.int .i64 0]);have HR:=h_ hr;clear hr;go_enter Tryz.func97,Tryz.ntmps97
 go_wp2_with fail
 generalize w.alloc (.cells #[.int .i64 0,.int .i64 0] 79)=w0 at *;go_loopw [14] (λi wi=>∃k:Nat,k<=os.length/\i=.int .i64 k/\fiO (gives nm b) 0 (os.map OV.d)=fiO (gives nm b) k ((os.map OV.d).drop k)/\Box wi w.heap.size 79 #[.int .i64 0,.int .i64 0]/\Below w.heap.size w wi) (λi _=>os.length-(intOf i).toNat)
 case atStart=>exact⟨0,Nat.zero_le _,rfl,rfl,HX.o,HB.o⟩
 case round=>
  clear HX HB;obtain⟨k,hk,rfl,hf,hx,hb⟩:=hrel;have HX:=h_ hx;have HB:=h_ hb;by_cases hlt:k<os.length
  ·obtain⟨bb,off,hA,hbb,hc0,hc1⟩:=(HR.o.below hb).at hlt;have hlm:k<(os.map OV.d).length:=by simpa using hlt
   have HF:=h_ (hf.trans (fiO_drop hlm k));have HRO:=h_ (HR.o.2 _ (List.getElem_mem hlt));have hyl:=HY.o _ (List.getElem_mem hlt);have HE:=h_ (show(os.map OV.d)[k].ys=os[k].ys by simp[OV.d]);clear hf hx hb;subst hA;rw[HE.o]at HF;clear HE;generalize hrest:fiO (gives nm b) (k+1) ((os.map OV.d).drop (k+1))=rest at *;have HRS:=h_ hrest;clear hrest;generalize os[k]=o at *;go_wp2_with fail
   have B1:Below wr.heap.size wr (wr.alloc (.cells #[.slice o.A o.ps.length o.c,.slice o.Y o.ys.length o.yc] 26)):=b_;have HO:=h_ (Box.new wr 26 #[.slice o.A o.ps.length o.c,.slice o.Y o.ys.length o.yc]);replace HB:=c_ HB B1;replace HX:=h_ (HX.o.call B1);clear B1;generalize wr.alloc (.cells #[.slice o.A o.ps.length o.c,.slice o.Y o.ys.length o.yc] 26)=w1 at *;generalize wr.heap.size=X at *;clear hc0 hc1;have x1:=d_ HO.o 1;have hxl:=HO.o.lt;go_wp2_with fail
   clear x1 hxl;go_loopw [22] (λi wi=>∃j:Nat,j<=o.ys.length/\i=.int .i64 j/\fiO (gives nm b) 0 (os.map OV.d)=fiR (gives nm b) k (fiS (gives nm b) j (o.ys.drop j)) rest/\Box wi w.heap.size 79 #[.int .i64 0,.int .i64 0]/\Below w.heap.size w wi) (λi _=>o.ys.length-(intOf i).toNat)
   case atStart=>exact⟨0,Nat.zero_le _,rfl,HF.o,HX.o,HB.o⟩
   case round=>
    clear HX HB HF HO;obtain⟨j,hj,rfl,hf,hx,hb⟩:=hrel;have HX:=h_ hx;have HB:=h_ hb;by_cases hlj:j<o.ys.length
    ·obtain⟨b2,off2,hY,hb2,hc⟩:=(HRO.o.2.below hb).row symbolC_len (by decide) hlj;have hc0:=hc 0 _ rfl;have hc1:=hc 1 _ rfl;have hc2:=hc 2 _ rfl;have hc3:=hc 3 _ rfl;simp only[Nat.add_zero]at hc0;have HF:=h_ (hf.trans (by rw[fiS_drop hlj]));clear hf hx hb hc;rw[hY];clear hY;generalize o.ys[j]=z at *;have HG:=h_ (show gives nm b z=((z.1.toList==nm.toList)&&(z.2.1==b)&&(z.2.2.1 != -1))from by
      rw[str_eq]
      rfl)
     obtain⟨z1,z2,z3,z4⟩:=z;simp only at hc0 hc1 hc2 hc3 HG;have HB2:=h_ (HB.o.alloc HB.o.size (.cells #[.string z1,.int .i64 z2,.int .i64 z3,.int .i64 z4] 67));have HX2:=h_ (HX.o.alloc (.cells #[.string z1,.int .i64 z2,.int .i64 z3,.int .i64 z4] 67));cases q1:(z1.toList==nm.toList)
     ·rw[q1,Bool.false_and,Bool.false_and]at HG;have HF':=h_ (HF.o.trans (by rw[HG.o];try rfl));clear HF HG;go_wp2_with fail
      refine⟨⟨j+1,by omega,by go_num,HF'.o,HX2.o,HB2.o⟩,by simp[intOf];omega⟩
     cases q2:(z2==b)
     ·rw[q1,q2,Bool.and_false,Bool.false_and]at HG;have HF':=h_ (HF.o.trans (by rw[HG.o];try rfl));clear HF HG;go_wp2_with fail
      refine⟨⟨j+1,by omega,by go_num,HF'.o,HX2.o,HB2.o⟩,by simp[intOf];omega⟩
     cases q3:(z3 != -1)
     ·rw[q1,q2,q3,Bool.and_false]at HG;have HF':=h_ (HF.o.trans (by rw[HG.o];try rfl));clear HF HG;go_wp2_with fail
      refine⟨⟨j+1,by omega,by go_num,HF'.o,HX2.o,HB2.o⟩,by simp[intOf];omega⟩
     rw[q1,q2,q3,Bool.and_true,Bool.and_true]at HG;have HF':=h_ (HF.o.trans (by rw[HG.o];try rfl));clear HF HG;have kk:=(HX2.o.set 0 (.int .i64 k)).set 1 (.int .i64 j);have k0:=kk.cell 0;have k1:=kk.cell 1;simp only[k_]at k0 k1;clear kk;have hxl:=HX2.o.lt;have x0:=d_ HX2.o 0;have x1:=d_ HX2.o 1;have xf0:=HX2.o.frozen 0;have xf1:=HX2.o.frozen 1;have HFB:=h_ (two_below (Y:=w.heap.size) HB2.o (Nat.le_refl _) (.int .i64 k) (.int .i64 j));go_wp2_with fail
     (try simp only[Exit.inBlock,Exit.then])
     exact bodyPost_ret (v:=givV (some (k,j))) (by simp[results,Tryz.results97,go_sem,givV,gin,gat,k0,k1]) rfl (by rw[HF'.o];exact⟨rfl,HFB.o⟩)
    ·obtain rfl:j=o.ys.length:=by omega
     have HF:=h_ (hf.trans (by rw[List.drop_length];rfl:_=rest));have HX:=h_ hx;have HB:=h_ hb;clear hf hx hb;go_wp2_with fail
     refine⟨⟨k+1,by omega,by go_num,by rw[HRS.o];exact HF.o,HX.o,HB.o⟩,by simp[intOf];omega⟩
  ·obtain rfl:k=os.length:=by omega
   have HF:=h_ (hf.trans (by rw[List.drop_of_length_le (by simp)];rfl:_=none));clear hf hx hb;have kk:=(HX.o.set 0 (.int .i64 0)).set 1 (.int .i64 0);have k0:=kk.cell 0;have k1:=kk.cell 1;simp only[k_]at k0 k1;clear kk;have hxl:=HX.o.lt;have x0:=d_ HX.o 0;have x1:=d_ HX.o 1;have xf0:=HX.o.frozen 0;have xf1:=HX.o.frozen 1;have HFB:=h_ (two_below (Y:=w.heap.size) HB.o (Nat.le_refl _) (.int .i64 0) (.int .i64 0));go_wp2_with fail
   (try simp only[Exit.inBlock,Exit.then])
   exact bodyPost_ret (v:=givV none) (by simp[results,Tryz.results97,go_sem,givV,gin,gat,k0,k1]) rfl (by rw[HF.o];exact⟨rfl,HFB.o⟩)
theorem findName_any(A:Option Addr)(os:List OV)(c:Nat)(nm:ByteArray)(w:World)(hr:RdOs w w.heap.size A os)(hm:Lens os):
  Calls Tryz.prog 50 #[.slice A os.length c,.string nm] w (Ret (givV (findN (os.map OV.d) nm)) w):=by
 have HB:=h_ (show Below w.heap.size w (w.alloc (.cells #[.int .i64 0,.int .i64 0] 79))from b_);have HX:=h_ (Box.new w 79 #[.int .i64 0,.int .i64 0]);have HR:=h_ hr;clear hr;go_enter Tryz.func50,Tryz.ntmps50
 go_wp2_with fail
 generalize w.alloc (.cells #[.int .i64 0,.int .i64 0] 79)=w0 at *;refine(findBound_any A os c nm 1 w0 ((HR.o.below HB.o).more HB.o.size) hm).mono ?_;rintro e w1 ⟨rfl,b1⟩;replace HB:=c_ HB b1;replace HX:=h_ (HX.o.call b1);clear b1;generalize hr1:fiO (gives nm 1) 0 (os.map OV.d)=r at *;have HR1:=h_ hr1;clear hr1;cases r with
 |some g=>
  simp only[givV,gin,gat,Option.isSome];have kk:=(((HX.o.alloc (.cells #[.int .i64 g.1,.int .i64 g.2] 79)).set 0 (.int .i64 g.1)).set 1 (.int .i64 g.2));have k0:=kk.cell 0;have k1:=kk.cell 1;simp only[k_]at k0 k1;clear kk;have HFB:=h_ (two_below (Y:=w.heap.size) (HB.o.alloc HB.o.size (.cells #[.int .i64 g.1,.int .i64 g.2] 79)) (Nat.le_refl _) (.int .i64 g.1) (.int .i64 g.2));have HX2:=HX.o.alloc (.cells #[.int .i64 g.1,.int .i64 g.2] 79);have hxl:=HX2.lt;have x0:=d_ HX2 0;have x1:=d_ HX2 1;have xf0:=HX2.frozen 0;have xf1:=HX2.frozen 1;clear HX2;go_wp2_with fail
  exact bodyPost_ret (v:=givV (some g)) (by simp[results,Tryz.results50,go_sem,givV,gin,gat,k0,k1]) rfl (by rw[find_name,HR1.o];exact⟨rfl,HFB.o⟩)
 |none=>
  simp only[givV,gin,gat,Option.isSome];go_wp2_with fail
  have B1:Below w1.heap.size w1 (w1.alloc (.cells #[.int .i64 0,.int .i64 0] 79)):=b_;replace HB:=c_ HB B1;replace HX:=h_ (HX.o.call B1);clear B1;generalize w1.alloc (.cells #[.int .i64 0,.int .i64 0] 79)=w2 at *;refine(findBound_any A os c nm 2 w2 ((HR.o.below HB.o).more HB.o.size) hm).mono ?_;rintro e w3 ⟨rfl,b3⟩;replace HB:=c_ HB b3;replace HX:=h_ (HX.o.call b3);clear b3;generalize hr2:fiO (gives nm 2) 0 (os.map OV.d)=r at *;have HR2:=h_ hr2;clear hr2;simp only[givV];have kk:=((HX.o.set 0 (.int .i64 (gin r))).set 1 (.int .i64 (gat r)));have k0:=kk.cell 0;have k1:=kk.cell 1;simp only[k_]at k0 k1;clear kk;have HFB:=h_ (two_below (Y:=w.heap.size) HB.o (Nat.le_refl _) (.int .i64 (gin r)) (.int .i64 (gat r)));have hxl:=HX.o.lt;have x0:=d_ HX.o 0;have x1:=d_ HX.o 1;have xf0:=HX.o.frozen 0;have xf1:=HX.o.frozen 1;go_wp2_with fail
  exact bodyPost_ret (v:=givV r) (by simp[results,Tryz.results50,go_sem,givV,k0,k1]) rfl (by rw[find_name,HR1.o,HR2.o];exact⟨rfl,HFB.o⟩)
end CFind
/- namesTwice and namesMissing. -/
namespace CNames
open Kit CCode CName CFixups CSymbols PObj BObj CGlobalOf BStore BList PLink CFind CSorted
theorem infoStr:(Tryz.prog.info? 9).map (λi=>(i.zero,i.size,i.bytes))=some (some (.string ByteArray.empty),1,16):=by kernel_rfl
def hasN(ys:List ByteArray)(nm:ByteArray):Bool:=ys.any λx=>decide (x=nm)
theorem has_lib(ys:List ByteArray)(nm:ByteArray):Lib.containsS ys nm=hasN ys nm:=by
 rw[Bool.eq_iff_iff,Lib.containsS_iff,hasN,List.any_eq_true];constructor
 ·intro h;exact⟨nm,h,by simp⟩
 ·rintro⟨x,hx,h⟩;exact of_decide_eq_true h▸hx
theorem containsN_any(ys:List ByteArray)(nm:ByteArray)(A:Option Addr)(c base:Nat)(w:World)(h:Row w base 9 1 A ys.length c (nmC ys))(hm:ys.length<=1048576):
  Calls Tryz.prog 100 #[.slice A ys.length c,.string nm] w (Pure (.bool (hasN ys nm)) w):=by
 by_cases h0:ys.length=0
 ·obtain rfl:=List.eq_nil_of_length_eq_zero h0;refine(XNames.slices_Contains_string_empty A c nm w).mono ?_;rintro e w' ⟨rfl,rfl⟩;exact⟨rfl,rfl⟩
 ·obtain⟨g,rfl,_,_,_,hown⟩:=own_of h (by omega);refine(XNames.slices_Contains_string g 0 ys.length c ys nm w (Nat.le_refl _) (by omega) (λj hj=>?_)).mono ?_
  ·have h1:=World.ownsRow.cellAt hown j (by simpa[nmC]using hj);rw[Nat.zero_add,h1];simp[nmC,List.getD_eq_getElem?_getD,List.getElem?_eq_getElem hj]
  ·rintro e w' ⟨rfl,rfl⟩;rw[List.take_length,has_lib];exact⟨rfl,rfl⟩
theorem strs_snoc(xs:List ByteArray)(x:ByteArray):nmC xs++[.string x]=nmC (xs++[x]):=by simp[nmC]
theorem one_str(x:ByteArray):∀u∈[Value.string x],u.oneCell'=true:=by
 intro u hu;rw[List.mem_singleton.1 hu]
 rfl
theorem twO_snoc(st:List ByteArray×List ByteArray)(a:List OD)(d:OD):twO st (a++[d])=twS (twO st a) d.ys:=by simp[twO]
theorem twS_snoc(st:List ByteArray×List ByteArray)(a:List YD)(y:YD):twS st (a++[y])=twStep (twS st a) y:=by simp[twS]
def Small(os:List OV):Prop:=os.length<=4/\∀o∈os,o.ys.length<=12
structure TI(w0:World)(A1:Option Addr)(c1:Nat)(xs:List ByteArray)(A2:Option Addr)(c2:Nat)(ys:List ByteArray)(w:World):Prop where
 x:Row w w0.heap.size 9 1 A1 xs.length c1 (nmC xs)
 y:Row w w0.heap.size 9 1 A2 ys.length c2 (nmC ys)
 ap:Apart A1 c1 A2 c2
 b:Below w0.heap.size w0 w
theorem TI.call {w0 w w':World}{A1 A2:Option Addr}{c1 c2:Nat}{xs ys:List ByteArray}(h:TI w0 A1 c1 xs A2 c2 ys w)(hb:Below w.heap.size w w'):TI w0 A1 c1 xs A2 c2 ys w':=⟨h.x.call hb,h.y.call hb,h.ap,h.b.trans (hb.mono h.b.size)⟩
theorem TI.addX {w0 w w':World}{A1 A2 A':Option Addr}{c1 c2 n' c':Nat}{xs ys:List ByteArray}{x:ByteArray}(h:TI w0 A1 c1 xs A2 c2 ys w)(hn:n'=xs.length+1)(o:Row w' w0.heap.size 9 1 A' n' c' (nmC xs++[.string x]))(g:w.grownBy w' (blk A1 c1))(hk:∀k,blk A' c'=some k->blk A1 c1=some k\/w.heap.size<=k):
  TI w0 A' c' (xs++[x]) A2 c2 ys w':=by
 subst hn;refine⟨?_,h.y.grown g (λk hk e=>h.ap k e hk),?_,h.b.grown g h.b.size (λj hj=>(h.x.lt j hj).1)⟩
 ·rw[List.length_append,<-strs_snoc];exact o
 ·intro k h1 h2;rcases hk k h1 with h3|h3
  ·exact h.ap k h3 h2
  ·have:=(h.y.lt k h2).2;omega
theorem TI.addY {w0 w w':World}{A1 A2 A':Option Addr}{c1 c2 n' c':Nat}{xs ys:List ByteArray}{x:ByteArray}(h:TI w0 A1 c1 xs A2 c2 ys w)(hn:n'=ys.length+1)(o:Row w' w0.heap.size 9 1 A' n' c' (nmC ys++[.string x]))(g:w.grownBy w' (blk A2 c2))(hk:∀k,blk A' c'=some k->blk A2 c2=some k\/w.heap.size<=k):
  TI w0 A1 c1 xs A' c' (ys++[x]) w':=by
 subst hn;refine⟨h.x.grown g (λk hk e=>h.ap k hk e),?_,?_,h.b.grown g h.b.size (λj hj=>(h.y.lt j hj).1)⟩
 ·rw[List.length_append,<-strs_snoc];exact o
 ·intro k h1 h2;rcases hk k h2 with h3|h3
  ·exact h.ap k h1 h3
  ·have:=(h.x.lt k h1).2;omega
set_option maxHeartbeats 4000000 in
theorem namesTwice_any(A:Option Addr)(os:List OV)(c:Nat)(w:World)(hr:RdOs w w.heap.size A os)(hs:Small os):
  Calls Tryz.prog 53 #[.slice A os.length c] w (RetN (srtN (twice (os.map OV.d))) w):=by
 obtain⟨i0,hi1,hi2,hi3,hi4⟩:=info_parts infoStr;have HI:=h_ (And.intro hi1 (And.intro hi2 (And.intro hi3 hi4)));clear hi1 hi2 hi3 hi4;obtain⟨hs1,hs2⟩:=hs;have HY:=h_ hs2;have HR:=h_ hr;clear hs2 hr;have B0:Below w.heap.size w ((w.alloc (.cells #[] 9)).alloc (.cells #[] 9)):=b_;have HT:=h_ (show TI w (some ⟨w.heap.size,0,none⟩) 0 [] (some ⟨w.heap.size+1,0,none⟩) 0 [] ((w.alloc (.cells #[] 9)).alloc (.cells #[] 9))from⟨Row.empty _ _ _ _ _,Row.empty _ _ _ _ _,(λk h1 h2=>by cases h1),B0⟩);clear B0;go_enter Tryz.func53,Tryz.ntmps53
 go_wp2_with fail
 generalize (w.alloc (.cells #[] 9)).alloc (.cells #[] 9)=w0 at *;generalize hLL:os.map OV.d=l at *;have HLL:=h_ hLL;clear hLL;go_loopw [3,4,13] (λs t i wi=>∃(k:Nat) (A1:Option Addr) (c1:Nat) (xs:List ByteArray) (A2:Option Addr) (c2:Nat) (ys:List ByteArray),k<=os.length/\s=.slice A1 xs.length c1/\t=.slice A2 ys.length c2/\i=.int .i64 k/\(xs,ys)=twO ([],[]) (l.take k)/\xs.length<=12*k/\ys.length<=12*k/\TI w A1 c1 xs A2 c2 ys wi) (λ_ _ i _=>os.length-(intOf i).toNat)
 case atStart=>exact⟨0,_,0,[],_,0,[],Nat.zero_le _,rfl,rfl,rfl,rfl,Nat.le_refl _,Nat.le_refl _,HT.o⟩
 case round=>
  clear HT;obtain⟨k,A1,c1,xs,A2,c2,ys,hk,rfl,rfl,rfl,hxy,hx1,hy1,hti⟩:=hrel;have HT:=h_ hti;by_cases hlt:k<os.length
  ·obtain⟨bb,off,hA,hbb,hc0,hc1⟩:=(HR.o.below hti.b).at hlt;have hll:k<l.length:=by rw[<-HLL.o,List.length_map];exact hlt
   have HXY:=h_ (show twO ([],[]) (l.take (k+1))=twS (xs,ys) os[k].ys from by
    rw[take_succ hll,twO_snoc,<-hxy];have:=HLL.o;subst this;simp[OV.d])
   have HRO:=h_ (HR.o.2 _ (List.getElem_mem hlt)).2;have hyl:=HY.o _ (List.getElem_mem hlt);clear hti hxy;subst hA;generalize os[k]=o at *;go_wp2_with fail
   have B1:Below wr.heap.size wr (wr.alloc (.cells #[.slice o.A o.ps.length o.c,.slice o.Y o.ys.length o.yc] 26)):=b_;have HO:=h_ (Box.new wr 26 #[.slice o.A o.ps.length o.c,.slice o.Y o.ys.length o.yc]);replace HT:=h_ (HT.o.call B1);clear B1;generalize wr.alloc (.cells #[.slice o.A o.ps.length o.c,.slice o.Y o.ys.length o.yc] 26)=wa at *;generalize wr.heap.size=Z at *;clear hc0 hc1;have y1:=d_ HO.o 1;have hol:=HO.o.lt;go_wp2_with fail
   clear y1 hol HO;have HXY2:=h_ (show(xs,ys)=twS (xs,ys) (o.ys.take 0)from rfl);generalize hq0:(xs,ys)=q0 at *;go_loopw [3,4,20] (λs t i wi=>∃(j:Nat) (A1:Option Addr) (c1:Nat) (xs:List ByteArray) (A2:Option Addr) (c2:Nat) (ys:List ByteArray),j<=o.ys.length/\s=.slice A1 xs.length c1/\t=.slice A2 ys.length c2/\i=.int .i64 j/\(xs,ys)=twS q0 (o.ys.take j)/\xs.length<=12*k+j/\ys.length<=12*k+j/\TI w A1 c1 xs A2 c2 ys wi) (λ_ _ i _=>o.ys.length-(intOf i).toNat)
   case atStart=>exact⟨0,A1,c1,xs,A2,c2,ys,Nat.zero_le _,rfl,rfl,rfl,hq0.trans HXY2.o,by omega,by omega,HT.o⟩
   case round=>
    clear HT HXY2 hq0;obtain⟨j,A1,c1,xs,A2,c2,ys,hj,rfl,rfl,rfl,hxy,hx1,hy1,hti⟩:=hrel;have HT:=h_ hti;by_cases hlj:j<o.ys.length
    ·obtain⟨b2,off2,hYA,hb2,hc⟩:=(HRO.o.below hti.b).row symbolC_len (by decide) hlj;have hc0:=hc 0 _ rfl;have hc1:=hc 1 _ rfl;have hc2:=hc 2 _ rfl;have hc3:=hc 3 _ rfl;simp only[Nat.add_zero]at hc0;have HST:=h_ (show twS q0 (o.ys.take (j+1))=twStep (xs,ys) o.ys[j]from by rw[take_succ hlj,twS_snoc,<-hxy]);clear hti hxy hc;rw[hYA];clear hYA;generalize o.ys[j]=z at *;obtain⟨z1,z2,z3,z4⟩:=z;simp only at hc0 hc1 hc2 hc3;have B1:Below wr.heap.size wr (wr.alloc (.cells #[.string z1,.int .i64 z2,.int .i64 z3,.int .i64 z4] 67)):=b_;have HZ:=h_ (Box.new wr 67 #[.string z1,.int .i64 z2,.int .i64 z3,.int .i64 z4]);replace HT:=h_ (HT.o.call B1);cases q1:(z2 != 1)
     ·cases q2:(z3== -1)
      ·have hst:isStrong (z1,z2,z3,z4)=true:=by
        have e1:z2=1:=by simpa using q1
        have e2:¬z3=-1:=by simpa using q2
        simp[isStrong,e1,e2]
       have HST2:=h_ (show twS q0 (o.ys.take (j+1))=(if hasN ys z1=true then xs++[z1]else xs,ys++[z1])from by
        rw[HST.o,twStep,hst];simp only[cond_true];unfold hasN;cases ys.any (λx=>decide (x=z1))<;>rfl)
       clear hst HST;go_wp2_with fail
       clear hc0 hc1 hc2 hc3 q1 q2 B1;generalize wr.alloc (.cells #[.string z1,.int .i64 z2,.int .i64 z3,.int .i64 z4] 67)=wz at *;generalize wr.heap.size=S at *;refine(containsN_any ys z1 A2 c2 _ wz HT.o.y (by omega)).mono ?_;rintro e w' ⟨rfl,rfl⟩;have hzl:=HZ.o.lt;have z0:=d_ HZ.o 0;cases hh:hasN ys z1
       ·rw[hh,if_neg (by decide)]at HST2;clear hh;go_wp2_with (at_builtin;refine wpList_app (wz.alloc (.cells #[.string z1] 9)) rfl (.tmp 41) (.tmp 44) 28 rfl 9 i0 (.string ByteArray.empty) 1 16 Tryz.underlying28 HI.o.1 HI.o.2.1 HI.o.2.2.1 HI.o.2.2.2 rfl (by decide) w.heap.size A2 ys.length c2 (nmC ys) rfl (HT.o.y.alloc _) ?hb (some ⟨wz.heap.size,0,none⟩) 1 1 [.string z1] rfl (rd_lit wz #[.string z1] 9 _ rfl) rfl (λh=>by cases h) ?o1 ?n1 ?n2 ?_)
        case hb=>have h:=(HT.o.b.alloc HT.o.b.size (.cells #[.string z1] 9)).size;simpa using h
        case o1=>exact one_str z1
        case n1=>unfold maxLen;omega
        case n2=>omega
        intro A3 n3 c3 w3 hn o3 g3 k3;have bl:Below wz.heap.size wz (wz.alloc (.cells #[.string z1] 9)):=b_;have HT3:=h_ (TI.addY (HT.o.call bl) hn (by simpa using o3) g3 (λk hk=>by have h:=k3 k hk;simpa using h));subst hn;clear o3 g3 k3 bl HT;go_wp2_with fail
        refine⟨⟨j+1,A1,c1,xs,A3,c3,ys++[z1],by omega,rfl,by simp,by go_num,by rw[HST2.o],by omega,by simp;omega,HT3.o⟩,by simp[intOf];omega⟩
       ·rw[hh,if_pos rfl]at HST2;clear hh;go_wp2_with (at_builtin;refine wpList_app (wz.alloc (.cells #[.string z1] 9)) rfl (.tmp 36) (.tmp 39) 28 rfl 9 i0 (.string ByteArray.empty) 1 16 Tryz.underlying28 HI.o.1 HI.o.2.1 HI.o.2.2.1 HI.o.2.2.2 rfl (by decide) w.heap.size A1 xs.length c1 (nmC xs) rfl (HT.o.x.alloc _) ?hb (some ⟨wz.heap.size,0,none⟩) 1 1 [.string z1] rfl (rd_lit wz #[.string z1] 9 _ rfl) rfl (λh=>by cases h) ?o1 ?n1 ?n2 ?_)
        case hb=>have h:=(HT.o.b.alloc HT.o.b.size (.cells #[.string z1] 9)).size;simpa using h
        case o1=>exact one_str z1
        case n1=>unfold maxLen;omega
        case n2=>omega
        intro A3 n3 c3 w3 hn o3 g3 k3;have bl:Below wz.heap.size wz (wz.alloc (.cells #[.string z1] 9)):=b_;have HZ3:=h_ ((HZ.o.call bl).grown g3 ((HT.o.call bl).x.box (HZ.o.call bl) (by decide)));have HT3:=h_ (TI.addX (HT.o.call bl) hn (by simpa using o3) g3 (λk hk=>by have h:=k3 k hk;simpa using h));subst hn;clear o3 g3 k3 bl HT HZ z0 hzl;have HT:=h_ HT3.o;clear HT3;have hzl:=HZ3.o.lt;have z0:=d_ HZ3.o 0;go_wp2_with (at_builtin;refine wpList_app (w3.alloc (.cells #[.string z1] 9)) rfl (.tmp 41) (.tmp 44) 28 rfl 9 i0 (.string ByteArray.empty) 1 16 Tryz.underlying28 HI.o.1 HI.o.2.1 HI.o.2.2.1 HI.o.2.2.2 rfl (by decide) w.heap.size A2 ys.length c2 (nmC ys) rfl (HT.o.y.alloc _) ?hb (some ⟨w3.heap.size,0,none⟩) 1 1 [.string z1] rfl (rd_lit w3 #[.string z1] 9 _ rfl) rfl (λh=>by cases h) ?o1 ?n1 ?n2 ?_)
        case hb=>have h:=(HT.o.b.alloc HT.o.b.size (.cells #[.string z1] 9)).size;simpa using h
        case o1=>exact one_str z1
        case n1=>unfold maxLen;omega
        case n2=>omega
        intro A4 n4 c4 w4 hn o4 g4 k4;have bl:Below w3.heap.size w3 (w3.alloc (.cells #[.string z1] 9)):=b_;have HT4:=h_ (TI.addY (HT.o.call bl) hn (by simpa using o4) g4 (λk hk=>by have h:=k4 k hk;simpa using h));subst hn;clear o4 g4 k4 bl HT;go_wp2_with fail
        refine⟨⟨j+1,A3,c3,xs++[z1],A4,c4,ys++[z1],by omega,by simp,by simp,by go_num,by rw[HST2.o],by simp;omega,by simp;omega,HT4.o⟩,by simp[intOf];omega⟩
      ·have hst:isStrong (z1,z2,z3,z4)=false:=by
        have e2:z3=-1:=by simpa using q2
        simp[isStrong,e2]
       have HST2:=h_ (show twS q0 (o.ys.take (j+1))=(xs,ys)from by
        rw[HST.o,twStep,hst]
        rfl)
       clear hst HST;go_wp2_with fail
       refine⟨⟨j+1,A1,c1,xs,A2,c2,ys,by omega,rfl,rfl,by go_num,HST2.o.symm,by omega,by omega,HT.o⟩,by simp[intOf];omega⟩
     ·have hst:isStrong (z1,z2,z3,z4)=false:=by
       have e2:¬z2=1:=by simpa using q1
       simp[isStrong,e2]
      have HST2:=h_ (show twS q0 (o.ys.take (j+1))=(xs,ys)from by
       rw[HST.o,twStep,hst]
       rfl)
      clear hst HST;go_wp2_with fail
      refine⟨⟨j+1,A1,c1,xs,A2,c2,ys,by omega,rfl,rfl,by go_num,HST2.o.symm,by omega,by omega,HT.o⟩,by simp[intOf];omega⟩
    ·have hje:j=o.ys.length:=by omega
     subst hje;have HQ2:=h_ (show(xs,ys)=twO ([],[]) (l.take (k+1))from by rw[HXY.o,hxy,List.take_length]);clear hxy hti HXY;go_wp2_with fail
     refine⟨⟨k+1,A1,c1,xs,A2,c2,ys,by omega,rfl,rfl,by go_num,HQ2.o,by omega,by omega,HT.o⟩,by simp[intOf];omega⟩
  ·have hke:k=os.length:=by omega
   subst hke;have HTW:=h_ (show twice l=xs from by rw[twice,<-List.take_of_length_le (show l.length<=os.length by rw[<-HLL.o];simp),<-hxy]);have HQ:=h_ (sorted_any xs A1 c1 _ wr hti.x (by omega));clear hxy hti;generalize hzs:srtN xs=zs at HQ;have HZS:=h_ hzs;clear hzs;go_wp2_with fail
   refine HQ.o.mono ?_;rintro e w4 ⟨A4,c4,rfl,r4,b4⟩;have HF:=h_ (And.intro (r4.down HT.o.b.size) (HT.o.b.trans (b4.mono HT.o.b.size)));clear r4 b4 HQ;go_wp2_with fail
   go_ret;show RetN (srtN (twice l)) w _ _
   rw[HTW.o,HZS.o];exact⟨A4,c4,rfl,HF.o.1,HF.o.2⟩
end CNames
/- Texts divided at a byte: the reference's. -/
namespace CWordsS
open Kit CEqual PNum PDump CHexI CHexS CSorted CNames BStore
theorem row_lit1(W:World)(y:Value)(t:TypeId):Row (W.alloc (.cells #[y] t)) W.heap.size t 1 (some ⟨W.heap.size,0,none⟩) 1 1 [y]:=
 .inr (World.ownsRow_lit W #[y] 1 (Nat.le_refl _) (by unfold maxLen;omega) rfl)
theorem ext1(s:ByteArray)(k:Nat)(h:k<s.size):s.extract k (k+1)=bs [s[k]'h]:=by
 apply ByteArray.ext
 rw[ByteArray.data_extract];apply Array.ext'
 have h':k<s.data.toList.length:=by rw[Array.length_toList];exact h
 rw[Array.toList_extract];show(s.data.toList.drop k).take (k+1-k)=[s[k]'h]
 rw[Nat.add_sub_cancel_left,List.drop_eq_getElem_cons h']
 rfl
theorem take_byte(s:ByteArray)(k:Nat)(h:k<s.size):s.data.toList.take (k+1)=s.data.toList.take k++[s[k]'h]:=by
 have h':k<s.data.toList.length:=by rw[Array.length_toList];exact h
 rw[take_succ h']
 rfl
theorem wds_bd(c:UInt8)(s:ByteArray)(k:Nat)(hk:k<=s.size):(splt c (s.data.toList.take k)).length<=s.size+1:=by have:=(splt_len c (s.data.toList.take k)).2;rw[List.length_take]at this;omega
theorem splt_mem(c:UInt8):∀(l:List UInt8),∀x∈splt c l,x.length<=l.length
 |[],x,hx=>by rw[splt,List.mem_singleton]at hx;subst hx;exact Nat.le_refl _
 |b::l,x,hx=>by
  rw[splt]at hx;split at hx
  ·rcases List.mem_cons.1 hx with rfl|hx
   ·simp
   ·have:=splt_mem c l x hx;simp only[List.length_cons];omega
  ·have ih:=splt_mem c l;cases hs:splt c l with
   |nil=>exact absurd hs (splt_ne c l)
   |cons y r=>
    rw[hs]at hx ih;rw[headC]at hx;rcases List.mem_cons.1 hx with rfl|hx
    ·have:=ih y (by simp);simp only[List.length_cons];omega
    ·have:=ih x (by simp[hx]);simp only[List.length_cons];omega
theorem snoc_of{l:List (List UInt8)}(h:l≠[]):∃a x,l=a++[x]:=⟨l.dropLast,l.getLast h,(List.dropLast_concat_getLast h).symm⟩
theorem nmC_snoc(a:List (List UInt8))(x:List UInt8):nmC ((a++[x]).map bs)=nmC (a.map bs)++[.string (bs x)]:=by simp[nmC]
theorem nmC_len(a:List (List UInt8)):(nmC (a.map bs)).length=a.length:=by simp[nmC]
theorem one_s:∀u∈[Value.string ⟨#[]⟩],u.oneCell'=true:=λu hu=>by
 rw[List.mem_singleton]at hu;subst hu
 rfl
set_option maxHeartbeats 4000000 in
theorem words_any(s:ByteArray)(hs:s.size<=1048576)(w:World):Calls Tryz.prog 110 #[.string s] w (RetN ((splt (32:UInt8) s.data.toList).map bs) w):=by
 obtain⟨i0,hi1,hi2,hi3,hi4⟩:=info_parts infoStr;have HI:=h_ (And.intro hi1 (And.intro hi2 (And.intro hi3 hi4)));clear hi1 hi2 hi3 hi4;have HB:=h_ (show Below w.heap.size w (w.alloc (.cells #[.string ⟨#[]⟩] 9))from b_);have HW:=h_ (show Row (w.alloc (.cells #[.string ⟨#[]⟩] 9)) w.heap.size 9 1 (some ⟨w.heap.size,0,none⟩) 1 1 (nmC ((splt (32:UInt8) (s.data.toList.take 0)).map bs))from row_lit1 w (.string ⟨#[]⟩) 9);go_enter Tryz.func110,Tryz.ntmps110
 go_wp2_with fail
 generalize w.alloc (.cells #[.string ⟨#[]⟩] 9)=w0 at *;go_loopw [3,4] (λv i wi=>∃(k:Nat) (A1:Option Addr) (c1 n:Nat),k<=s.size/\v=.slice A1 n c1/\i=.int .i64 k/\n=(splt (32:UInt8) (s.data.toList.take k)).length/\Row wi w.heap.size 9 1 A1 n c1 (nmC ((splt (32:UInt8) (s.data.toList.take k)).map bs))/\Below w.heap.size w wi) (λ_ i _=>s.size-(intOf i).toNat)
 case atStart=>exact⟨0,_,1,1,Nat.zero_le _,rfl,rfl,rfl,HW.o,HB.o⟩
 case round=>
  rename World=>wk
  clear HW HB;obtain⟨k,A1,c1,n,hk,rfl,rfl,hn,hrow,hb⟩:=hrel;have HW:=h_ hrow;have HB:=h_ hb;have HN:=h_ hn;have hn1:n<=1048577:=by have:=wds_bd (32:UInt8) s k hk;omega
  clear hrow hb hn;by_cases hlt:k<s.size
  ·have HT:=h_ (take_byte s k hlt);have HE:=h_ (ext1 s k hlt);have HSN:=h_ (splt_snoc (32:UInt8) (s.data.toList.take k) (s[k]'hlt));have hx8:(0:Int)<=((s[k]'hlt).toNat:Int):=by omega
   by_cases hc:s[k]'hlt=(32:UInt8)
   ·have hc1:(((s[k]'hlt).toNat:Int)==32)=true:=by rw[hc];rfl
    have HX:=h_ (show splt (32:UInt8) (s.data.toList.take (k+1))=splt (32:UInt8) (s.data.toList.take k)++[[]]from by rw[HT.o,HSN.o,if_pos hc]);have B4:Below wk.heap.size wk (wk.alloc (.cells #[.string ⟨#[]⟩] 9)):=b_;have HWA:=h_ (HW.o.alloc (.cells #[.string ⟨#[]⟩] 9));have HBA:=h_ (HB.o.trans (B4.mono HB.o.size));clear hc HSN HE B4 HW HB;go_wp2_with (at_builtin;refine wpList_app _ rfl (.tmp 16) (.tmp 17) 28 rfl 9 i0 (.string ByteArray.empty) 1 16 Tryz.underlying28 HI.o.1 HI.o.2.1 HI.o.2.2.1 HI.o.2.2.2 rfl (by decide) w.heap.size A1 n c1 _ rfl HWA.o HBA.o.size (some ⟨wk.heap.size,0,none⟩) 1 1 [.string ⟨#[]⟩] rfl (rd_lit wk #[.string ⟨#[]⟩] 9 _ rfl) rfl (λh=>by cases h) one_s ?n1 ?n2 ?_)
    case n1=>unfold maxLen;omega
    case n2=>omega
    intro A6 n6 c6 w6 hn6 o6 g6 k6;subst hn6;have HB6:=h_ (HBA.o.grown g6 HBA.o.size (λj hj=>(HWA.o.lt j hj).1));have HW6:=h_ (show Row w6 w.heap.size 9 1 A6 (n+1) c6 (nmC ((splt (32:UInt8) (s.data.toList.take (k+1))).map bs))from by
     rw[HX.o,nmC_snoc];exact o6)
    have HN6:=h_ (show n+1=(splt (32:UInt8) (s.data.toList.take (k+1))).length from by rw[HX.o,List.length_append,HN.o];rfl);clear o6 g6 k6 HWA HBA HX;go_wp2_with fail
    refine⟨⟨k+1,A6,c6,n+1,by omega,rfl,by go_num,HN6.o,HW6.o,HB6.o⟩,by simp[intOf];omega⟩
   ·have hc1:(((s[k]'hlt).toNat:Int)==32)=false:=beq_eq_false_iff_ne.2 (λh=>hc (UInt8.toNat_inj.1 (by have h2:((32:UInt8):UInt8).toNat=32:=rfl;omega)));obtain⟨a,x,hax⟩:=snoc_of (splt_ne (32:UInt8) (s.data.toList.take k));have hxl:x.length<=s.size:=by have h1:=splt_mem (32:UInt8) (s.data.toList.take k) x (by rw[hax];simp);rw[List.length_take]at h1;omega
    have HX:=h_ (show splt (32:UInt8) (s.data.toList.take (k+1))=a++[x++[s[k]'hlt]]from by rw[HT.o,HSN.o,if_neg hc,hax,lastC_snoc]);have hna:n=a.length+1:=by rw[HN.o,hax];simp
    have HAX:=h_ hax;have HWX:=h_ (show Row wk w.heap.size 9 1 A1 (a.length+1) c1 (nmC (a.map bs)++[.string (bs x)])from by
     rw[<-nmC_snoc,<-hax,<-hna];exact HW.o)
    obtain⟨g,hA,hg1,hg2,_,hown⟩:=own_of HWX.o (by omega);have hcell:=World.ownsRow.cellAt hown a.length (by simp[nmC]);rw[List.getElem?_append_right (by rw[nmC_len];exact Nat.le_refl _)]at hcell;simp only[nmC_len,Nat.sub_self,List.getElem?_cons_zero]at hcell;have hfz:=World.ownsRow.frozenAt hown a.length;have HST:=h_ (λ(y:List UInt8)=>(show Row (wk.setCell ⟨g,a.length,none⟩ (.string (bs y))) w.heap.size 9 1 (some ⟨g,0,none⟩) (a.length+1) c1 (nmC ((a++[y]).map bs))from by
     have h:=(hown.stored a.length (.string (bs y))).1;rw[List.set_append_right _ _ (by rw[nmC_len];exact Nat.le_refl _),nmC_len,Nat.sub_self,List.set_cons_zero]at h;rw[nmC_snoc];exact .inr h))
    have HBS:=h_ (λ(u:Value)=>HB.o.drew.setCell (p:=⟨g,a.length,none⟩) hg1 u);subst hA hna;have hs1:=bs_size x;have he1:(s.extract k (k+1)).size=1:=by rw[HE.o];rfl
    have HBX:=h_ (show bs x++s.extract k (k+1)=bs (x++[s[k]'hlt])from by rw[HE.o,bs_app]);have hl1:(((a.length+1:Nat):Int)-1)=(a.length:Int):=by omega
    have hl2:((((a.length+1:Nat):Int)-1)).toNat=a.length:=by omega
    generalize bs x=X at *;obtain⟨E,hE⟩:∃E,s.extract k (k+1)=E:=⟨_,rfl⟩;rw[hE]at he1 HBX;have hwr:IntKind.i64.wrap ((a.length:Nat):Int)=a.length:=IntWalk.i64_in _ (by omega);have hwk:IntKind.i64.wrap ((k:Int)+1)=(k:Int)+1:=IntWalk.i64_in _ (by omega);have hkt:((k:Int)+1).toNat=k+1:=by omega
    have hk1:(k:Int)+1<=s.size:=by omega
    have hk2:(0:Int)<=(k:Int)+1:=by omega
    have hk3:(k:Int)<=(k:Int)+1:=by omega
    have hll:((a.length:Nat):Int)<(a.length:Int)+1:=by omega
    have hsz:¬9223372036854775807<X.size+E.size:=by omega
    clear hax hown HSN hc HT HE HW hs1 he1 hxl;go_wp2_with fail
    refine Reg.startT (λW=>W.cell? ⟨g,a.length,none⟩=some (.string X)) (λj=>j==17) (by kernel_rfl) ?_;have hHeld:wk.drew.cell? ⟨g,a.length,none⟩=some (.string X):=hcell;refine t_ 0 rfl ?_;refine t_ 1 rfl ?_;refine t_ 2 rfl ?_;refine t_ 3 rfl ?_;refine t_ 4 rfl ?_;refine t_ 5 rfl ?_;refine t_ 6 rfl ?_;refine t_ 7 rfl ?_;refine t_ 8 rfl ?_;refine t_ 9 rfl ?_;refine t_ 10 rfl ?_;refine t_ 11 rfl ?_;refine t_ 12 rfl ?_;refine t_ 13 rfl ?_;refine t_ 14 rfl ?_;refine t_ 15 rfl ?_;refine t_ 16 rfl ?_;refine Reg.lastT (i:=17) rfl (by kernel_rfl) (by rfl) (λK hK=>?_);go_simp
    refine hK.out _ _ ?_;clear hK K hHeld hll hsz hwr hwk hkt hk1 hk2 hk3 hl1 hl2 hfz hE hcell hc1;try simp only[y1_,y2_,y3_,Act.put,y4_,y5_,y6_]
    refine Reg.doneT (by kernel_rfl) ?_ _;have hq:X++E=bs (x++[s[k]'hlt]):=HBX.o;have HF:=h_ (show Row (wk.drew.setCell ⟨g,a.length,none⟩ (.string (X++E))) w.heap.size 9 1 (some ⟨g,0,none⟩) (a.length+1) c1 (nmC ((splt (32:UInt8) (s.data.toList.take (k+1))).map bs))from by
     rw[hq,HX.o];exact HST.o (x++[s[k]'hlt]))
    have HFB:=h_ (show Below w.heap.size w (wk.drew.setCell ⟨g,a.length,none⟩ (.string (X++E)))from HBS.o _);have HFN:=h_ (show a.length+1=(splt (32:UInt8) (s.data.toList.take (k+1))).length from by rw[HX.o];simp);clear hq HBX HST HBS HX HAX HN;go_wp2_with fail
    refine⟨⟨k+1,some ⟨g,0,none⟩,c1,a.length+1,by omega,rfl,by go_num,HFN.o,HF.o,HFB.o⟩,by simp[intOf];omega⟩
  ·have HV:=h_ (show splt (32:UInt8) (s.data.toList.take k)=splt (32:UInt8) s.data.toList from by rw[List.take_of_length_le (by rw[Array.length_toList];show s.size<=k;omega)]);have HF:=h_ (show RetN ((splt (32:UInt8) s.data.toList).map bs) w (.returned (.slice A1 n c1)) wk from by
    refine⟨A1,c1,by rw[List.length_map,<-HV.o,<-HN.o],?_,HB.o⟩;rw[List.length_map,<-HV.o,<-HN.o];exact HW.o)
   go_wp2_with fail
   go_ret;exact HF.o
set_option maxHeartbeats 4000000 in
theorem parts_any(s:ByteArray)(hs:s.size<=1048576)(w:World):Calls Tryz.prog 63 #[.string s] w (RetN ((splt (124:UInt8) s.data.toList).map bs) w):=by
 obtain⟨i0,hi1,hi2,hi3,hi4⟩:=info_parts infoStr;have HI:=h_ (And.intro hi1 (And.intro hi2 (And.intro hi3 hi4)));clear hi1 hi2 hi3 hi4;have HB:=h_ (show Below w.heap.size w (w.alloc (.cells #[.string ⟨#[]⟩] 9))from b_);have HW:=h_ (show Row (w.alloc (.cells #[.string ⟨#[]⟩] 9)) w.heap.size 9 1 (some ⟨w.heap.size,0,none⟩) 1 1 (nmC ((splt (124:UInt8) (s.data.toList.take 0)).map bs))from row_lit1 w (.string ⟨#[]⟩) 9);go_enter Tryz.func63,Tryz.ntmps63
 go_wp2_with fail
 generalize w.alloc (.cells #[.string ⟨#[]⟩] 9)=w0 at *;go_loopw [3,4] (λv i wi=>∃(k:Nat) (A1:Option Addr) (c1 n:Nat),k<=s.size/\v=.slice A1 n c1/\i=.int .i64 k/\n=(splt (124:UInt8) (s.data.toList.take k)).length/\Row wi w.heap.size 9 1 A1 n c1 (nmC ((splt (124:UInt8) (s.data.toList.take k)).map bs))/\Below w.heap.size w wi) (λ_ i _=>s.size-(intOf i).toNat)
 case atStart=>exact⟨0,_,1,1,Nat.zero_le _,rfl,rfl,rfl,HW.o,HB.o⟩
 case round=>
  rename World=>wk
  clear HW HB;obtain⟨k,A1,c1,n,hk,rfl,rfl,hn,hrow,hb⟩:=hrel;have HW:=h_ hrow;have HB:=h_ hb;have HN:=h_ hn;have hn1:n<=1048577:=by have:=wds_bd (124:UInt8) s k hk;omega
  clear hrow hb hn;by_cases hlt:k<s.size
  ·have HT:=h_ (take_byte s k hlt);have HE:=h_ (ext1 s k hlt);have HSN:=h_ (splt_snoc (124:UInt8) (s.data.toList.take k) (s[k]'hlt));have hx8:(0:Int)<=((s[k]'hlt).toNat:Int):=by omega
   by_cases hc:s[k]'hlt=(124:UInt8)
   ·have hc1:(((s[k]'hlt).toNat:Int)==124)=true:=by rw[hc];rfl
    have HX:=h_ (show splt (124:UInt8) (s.data.toList.take (k+1))=splt (124:UInt8) (s.data.toList.take k)++[[]]from by rw[HT.o,HSN.o,if_pos hc]);have B4:Below wk.heap.size wk (wk.alloc (.cells #[.string ⟨#[]⟩] 9)):=b_;have HWA:=h_ (HW.o.alloc (.cells #[.string ⟨#[]⟩] 9));have HBA:=h_ (HB.o.trans (B4.mono HB.o.size));clear hc HSN HE B4 HW HB;go_wp2_with (at_builtin;refine wpList_app _ rfl (.tmp 16) (.tmp 17) 28 rfl 9 i0 (.string ByteArray.empty) 1 16 Tryz.underlying28 HI.o.1 HI.o.2.1 HI.o.2.2.1 HI.o.2.2.2 rfl (by decide) w.heap.size A1 n c1 _ rfl HWA.o HBA.o.size (some ⟨wk.heap.size,0,none⟩) 1 1 [.string ⟨#[]⟩] rfl (rd_lit wk #[.string ⟨#[]⟩] 9 _ rfl) rfl (λh=>by cases h) one_s ?n1 ?n2 ?_)
    case n1=>unfold maxLen;omega
    case n2=>omega
    intro A6 n6 c6 w6 hn6 o6 g6 k6;subst hn6;have HB6:=h_ (HBA.o.grown g6 HBA.o.size (λj hj=>(HWA.o.lt j hj).1));have HW6:=h_ (show Row w6 w.heap.size 9 1 A6 (n+1) c6 (nmC ((splt (124:UInt8) (s.data.toList.take (k+1))).map bs))from by
     rw[HX.o,nmC_snoc];exact o6)
    have HN6:=h_ (show n+1=(splt (124:UInt8) (s.data.toList.take (k+1))).length from by rw[HX.o,List.length_append,HN.o];rfl);clear o6 g6 k6 HWA HBA HX;go_wp2_with fail
    refine⟨⟨k+1,A6,c6,n+1,by omega,rfl,by go_num,HN6.o,HW6.o,HB6.o⟩,by simp[intOf];omega⟩
   ·have hc1:(((s[k]'hlt).toNat:Int)==124)=false:=beq_eq_false_iff_ne.2 (λh=>hc (UInt8.toNat_inj.1 (by have h2:((124:UInt8):UInt8).toNat=124:=rfl;omega)));obtain⟨a,x,hax⟩:=snoc_of (splt_ne (124:UInt8) (s.data.toList.take k));have hxl:x.length<=s.size:=by have h1:=splt_mem (124:UInt8) (s.data.toList.take k) x (by rw[hax];simp);rw[List.length_take]at h1;omega
    have HX:=h_ (show splt (124:UInt8) (s.data.toList.take (k+1))=a++[x++[s[k]'hlt]]from by rw[HT.o,HSN.o,if_neg hc,hax,lastC_snoc]);have hna:n=a.length+1:=by rw[HN.o,hax];simp
    have HAX:=h_ hax;have HWX:=h_ (show Row wk w.heap.size 9 1 A1 (a.length+1) c1 (nmC (a.map bs)++[.string (bs x)])from by
     rw[<-nmC_snoc,<-hax,<-hna];exact HW.o)
    obtain⟨g,hA,hg1,hg2,_,hown⟩:=own_of HWX.o (by omega);have hcell:=World.ownsRow.cellAt hown a.length (by simp[nmC]);rw[List.getElem?_append_right (by rw[nmC_len];exact Nat.le_refl _)]at hcell;simp only[nmC_len,Nat.sub_self,List.getElem?_cons_zero]at hcell;have hfz:=World.ownsRow.frozenAt hown a.length;have HST:=h_ (λ(y:List UInt8)=>(show Row (wk.setCell ⟨g,a.length,none⟩ (.string (bs y))) w.heap.size 9 1 (some ⟨g,0,none⟩) (a.length+1) c1 (nmC ((a++[y]).map bs))from by
     have h:=(hown.stored a.length (.string (bs y))).1;rw[List.set_append_right _ _ (by rw[nmC_len];exact Nat.le_refl _),nmC_len,Nat.sub_self,List.set_cons_zero]at h;rw[nmC_snoc];exact .inr h))
    have HBS:=h_ (λ(u:Value)=>HB.o.drew.setCell (p:=⟨g,a.length,none⟩) hg1 u);subst hA hna;have hs1:=bs_size x;have he1:(s.extract k (k+1)).size=1:=by rw[HE.o];rfl
    have HBX:=h_ (show bs x++s.extract k (k+1)=bs (x++[s[k]'hlt])from by rw[HE.o,bs_app]);have hl1:(((a.length+1:Nat):Int)-1)=(a.length:Int):=by omega
    have hl2:((((a.length+1:Nat):Int)-1)).toNat=a.length:=by omega
    generalize bs x=X at *;obtain⟨E,hE⟩:∃E,s.extract k (k+1)=E:=⟨_,rfl⟩;rw[hE]at he1 HBX;have hwr:IntKind.i64.wrap ((a.length:Nat):Int)=a.length:=IntWalk.i64_in _ (by omega);have hwk:IntKind.i64.wrap ((k:Int)+1)=(k:Int)+1:=IntWalk.i64_in _ (by omega);have hkt:((k:Int)+1).toNat=k+1:=by omega
    have hk1:(k:Int)+1<=s.size:=by omega
    have hk2:(0:Int)<=(k:Int)+1:=by omega
    have hk3:(k:Int)<=(k:Int)+1:=by omega
    have hll:((a.length:Nat):Int)<(a.length:Int)+1:=by omega
    have hsz:¬9223372036854775807<X.size+E.size:=by omega
    clear hax hown HSN hc HT HE HW hs1 he1 hxl;go_wp2_with fail
    refine Reg.startT (λW=>W.cell? ⟨g,a.length,none⟩=some (.string X)) (λj=>j==17) (by kernel_rfl) ?_;have hHeld:wk.drew.cell? ⟨g,a.length,none⟩=some (.string X):=hcell;refine t_ 0 rfl ?_;refine t_ 1 rfl ?_;refine t_ 2 rfl ?_;refine t_ 3 rfl ?_;refine t_ 4 rfl ?_;refine t_ 5 rfl ?_;refine t_ 6 rfl ?_;refine t_ 7 rfl ?_;refine t_ 8 rfl ?_;refine t_ 9 rfl ?_;refine t_ 10 rfl ?_;refine t_ 11 rfl ?_;refine t_ 12 rfl ?_;refine t_ 13 rfl ?_;refine t_ 14 rfl ?_;refine t_ 15 rfl ?_;refine t_ 16 rfl ?_;refine Reg.lastT (i:=17) rfl (by kernel_rfl) (by rfl) (λK hK=>?_);go_simp
    refine hK.out _ _ ?_;clear hK K hHeld hll hsz hwr hwk hkt hk1 hk2 hk3 hl1 hl2 hfz hE hcell hc1;try simp only[y1_,y2_,y3_,Act.put,y4_,y5_,y6_]
    refine Reg.doneT (by kernel_rfl) ?_ _;have hq:X++E=bs (x++[s[k]'hlt]):=HBX.o;have HF:=h_ (show Row (wk.drew.setCell ⟨g,a.length,none⟩ (.string (X++E))) w.heap.size 9 1 (some ⟨g,0,none⟩) (a.length+1) c1 (nmC ((splt (124:UInt8) (s.data.toList.take (k+1))).map bs))from by
     rw[hq,HX.o];exact HST.o (x++[s[k]'hlt]))
    have HFB:=h_ (show Below w.heap.size w (wk.drew.setCell ⟨g,a.length,none⟩ (.string (X++E)))from HBS.o _);have HFN:=h_ (show a.length+1=(splt (124:UInt8) (s.data.toList.take (k+1))).length from by rw[HX.o];simp);clear hq HBX HST HBS HX HAX HN;go_wp2_with fail
    refine⟨⟨k+1,some ⟨g,0,none⟩,c1,a.length+1,by omega,rfl,by go_num,HFN.o,HF.o,HFB.o⟩,by simp[intOf];omega⟩
  ·have HV:=h_ (show splt (124:UInt8) (s.data.toList.take k)=splt (124:UInt8) s.data.toList from by rw[List.take_of_length_le (by rw[Array.length_toList];show s.size<=k;omega)]);have HF:=h_ (show RetN ((splt (124:UInt8) s.data.toList).map bs) w (.returned (.slice A1 n c1)) wk from by
    refine⟨A1,c1,by rw[List.length_map,<-HV.o,<-HN.o],?_,HB.o⟩;rw[List.length_map,<-HV.o,<-HN.o];exact HW.o)
   go_wp2_with fail
   go_ret;exact HF.o
end CWordsS
/- What the desks' laws read of the library: the table of powers,the two sentinels,a length; and the library's words on texts. -/
namespace BDesk
open Kit CNumTxt PNum PDump CHexI CHexS CSorted CWordsS BStore
def Tab(w:World):Prop:=Lib.TabIs Tryz.prog w "internal/strconv.uint64pow10" .u64 Lib.pow10Tab
structure Err(n:String)(g:Nat)(w:World):Prop where
 pos:g<w.heap.size
 var:∃tp p,w.var? Tryz.prog n=some #[.iface tp p]
theorem Err.below {n:String}{g:Nat}{w w':World}(h:Err n g w)(hg:Tryz.prog.globalNamed n=some g)(hb:Below w.heap.size w w'):Err n g w':=by refine⟨Nat.lt_of_lt_of_le h.pos hb.size,?_⟩;obtain⟨tp,p,hv⟩:=h.var;refine⟨tp,p,?_⟩;unfold World.var? at hv ⊢;rw[hg]at hv ⊢;simp only[Option.bind_some]at hv ⊢;rw[hb.block g h.pos];exact hv
structure Env(w:World):Prop where
 tab:Tab w
 er:Err "strconv.ErrRange" 2 w
 es:Err "strconv.ErrSyntax" 1 w
 mx:∃m,w.cell? ⟨0,0,none⟩=some (.int .i64 m)
theorem Env.below {w w':World}(h:Env w)(hb:Below w.heap.size w w'):Env w':=by refine⟨Lib.tabBelow_of_tabIs h.tab w' hb,h.er.below (by kernel_rfl) hb,h.es.below (by kernel_rfl) hb,?_⟩;obtain⟨m,hm⟩:=h.mx;exact⟨m,(hb.cell (p:=⟨0,0,none⟩) (World.block_lt_of_cell? _ _ hm)).trans hm⟩
theorem itoa_any(n:Int)(h0:-9223372036854775808<=n)(h1:n<=9223372036854775807)(w:World)(he:Env w):
  Calls Tryz.prog 51 #[.int .i64 n] w (Ret (.string (bs (Lib.itoa n))) w):=by
 refine(XDesk.strconv_Itoa n h0 h1 w he.tab).mono ?_;rintro e w' ⟨rfl,k,os,rfl⟩;exact⟨rfl,Lib.below_grow w.heap.size w (Nat.le_refl _) k os⟩
def AtoiE(s:List UInt8)(w:World)(e:Ending)(w':World):Prop:=
 (∃v,Lib.atoiAll s=.ok v/\-9223372036854775808<=v/\v<=9223372036854775807/\e=.returned (.tuple #[.int .i64 v,.nilIface])/\Below w.heap.size w w')∨
 ((∀v,Lib.atoiAll s≠ .ok v)/\∃x t p,e=.returned (.tuple #[.int .i64 x,.iface t p])/\Below w.heap.size w w')
theorem atoi_any(s:ByteArray)(hs:s.size<=281474976710656)(w:World)(he:Env w):Calls Tryz.prog 96 #[.string s] w (AtoiE s.data.toList w):=by
 cases ha:Lib.atoiAll s.data.toList with
 |ok v=>
  refine(XDesk.strconv_Atoi_ok s (by omega) v ha w).mono ?_;rintro e w' ⟨rfl,h⟩;obtain⟨h0,h1⟩:=Lib.atoiAll_bounds ha;refine .inl ⟨v,ha,h0,h1,rfl,?_⟩;rcases h with rfl|⟨t,rfl⟩
  ·exact Below.refl _ _
  ·exact Lib.bytesWorld_below _ _ _
 |range=>obtain⟨tp,p,hv⟩:=he.er.var;refine(XDesk.strconv_Atoi_range_var s hs ha tp p w hv).mono ?_;rintro e w' ⟨N,rfl,_,_,hb⟩;exact .inr ⟨λv h=>by(rw[ha]at h;cases h),_,_,_,rfl,hb⟩
 |_=>obtain⟨tp,p,hv⟩:=he.es.var;refine(XDesk.strconv_Atoi_syntax_var s hs (ha.trans rfl) tp p w hv).mono ?_;rintro e w' ⟨N,rfl,_,_,hb⟩;exact .inr ⟨λv h=>by(rw[ha]at h;cases h),_,_,_,rfl,hb⟩
theorem split_list(c:UInt8)(s:ByteArray):Lib.splitB ⟨#[c]⟩ 0 (Lib.countB s ⟨#[c]⟩) s=(splt c s.data.toList).map bs:=by
 have h:=Lib.splitB_data ⟨#[c]⟩ 0 (Lib.countB s ⟨#[c]⟩) s;have h2:Lib.countB s ⟨#[c]⟩=Lib.count s.data.toList [c]:=rfl;rw[h2,show(⟨#[c]⟩:ByteArray).data.toList=[c]from rfl,split_splt]at h;rw[h2,<-h,List.map_map];have:(bs∘λx:ByteArray=>x.data.toList)=id:=by
  funext x
  rfl
 rw[this,List.map_id]
theorem split_any(c:UInt8)(s:ByteArray)(hs:s.size<=1048576)(w:World)(he:Env w):Calls Tryz.prog 48 #[.string s,.string ⟨#[c]⟩] w (RetN ((splt c s.data.toList).map bs) w):=by
 obtain⟨m,hm⟩:=he.mx;refine(XDesk.strings_Split s ⟨#[c]⟩ m w (by omega) hm (Nat.le_refl _)).mono ?_;rintro e w' ⟨rfl,rfl⟩;rw[split_list];have hl:Lib.countB s ⟨#[c]⟩+1=(splt c s.data.toList).length:=by have h1:=Lib.splitB_all ⟨#[c]⟩ (Nat.le_refl _) 0 _ s rfl;rw[split_list,List.length_map]at h1;exact h1.symm
 rw[hl];have hlm:=(splt_len c s.data.toList).2;have hsz:s.data.toList.length=s.size:=by rw[Array.length_toList];rfl
 refine⟨some ⟨w.heap.size,0,none⟩,(splt c s.data.toList).length,by rw[List.length_map],?_,(Below.refl _ _).alloc (Nat.le_refl _) _⟩;rw[List.length_map];have ho:=World.ownsRow_lit (e:=9) (size:=1) (base:=w.heap.size) w (((splt c s.data.toList).map bs).map Value.string).toArray (splt c s.data.toList).length (Nat.le_refl _) (by unfold maxLen;omega) (by simp);refine .inr ?_;simpa[nmC]using ho
end BDesk
/- What the listed variables and the world's shape give the desks' walks. -/
namespace BDoor
open Go Go.ChangeShapes Go.WideShapes Go.ChangeAt Go.RowKit Kit BDesk
def laidList:List (String×DataW Unit):=[("math/bits.deBruijn32tab",Rows.laid_math_bits_deBruijn32tab),("math/bits.deBruijn64tab",Rows.laid_math_bits_deBruijn64tab),("internal/strconv.uint64pow10",Rows.laid_internal_strconv_uint64pow10),("unicode/utf8.acceptRanges",Rows.laid_unicode_utf8_acceptRanges),("strconv.ErrRange",Rows.laid_strconv_ErrRange),("strconv.ErrSyntax",Rows.laid_strconv_ErrSyntax),("unicode/utf8.first",Rows.laid_unicode_utf8_first)]
set_option maxRecDepth 100000 in
theorem door_met(os:Os)(args:Array Value):laidMetH Tryz.prog laidList ((World.laidAll Tryz.prog os laidList).forCall (λ_ _=>0) ⟨#[],args,[]⟩).memory:=by rw[MakeChecks.laidMetH_plain _ _ _ (by kernel_rfl)];exact laidMet_laidAll _ (by kernel_rfl) (by kernel_rfl)
theorem tab_of{W:World}{rest:List (String×DataW Unit)}(h:laidMet Tryz.prog (("internal/strconv.uint64pow10",Rows.laid_internal_strconv_uint64pow10)::rest) W):Tab W:=
 Lib.tabIs_of_head (g:=3) (t:=211) (e:=190) (n:=20) (by kernel_rfl) (by kernel_rfl) (by kernel_rfl) (by kernel_rfl) (by kernel_rfl) (by kernel_rfl) h
theorem star: "*"++ "errors.errorString"= "*errors.errorString":=by decide
theorem rowT(u:TypeId)(h:Tryz.prog.typeName? 3 u=some "*errors.errorString"):u=232:=
 typeName_ptr_named (nm:= "errors.errorString") (by rw[star];kernel_rfl) (by kernel_rfl) (by decide) u (by rw[star];exact h)
theorem global_lt{W:World}{n:String}{g:Nat}{cs:Array Value}(hg:Tryz.prog.globalNamed n=some g)(hv:W.var? Tryz.prog n=some cs):g<W.heap.size:=by
 unfold World.var? at hv;rw[hg]at hv;simp only[Option.bind_some]at hv;rcases Nat.lt_or_ge g W.heap.size with h'|h'
 ·exact h'
 ·simp[Array.getElem?_eq_none h']at hv
theorem range_of{W:World}{rest:List (String×DataW Unit)}(h:laidMet Tryz.prog (("strconv.ErrRange",Rows.laid_strconv_ErrRange)::rest) W):Err "strconv.ErrRange" 2 W:=by
 have hg:Tryz.prog.globalNamed "strconv.ErrRange"=some 2:=by kernel_rfl
 obtain⟨a,s,hv,_,_,_⟩:=laid_sentinel (ti:=125) (tp:=232) (te:=234) (ts:=9) h hg (by kernel_rfl) Tryz.underlying125 rowT Tryz.underlying232 Tryz.underlying234 rfl rfl Tryz.underlying9 (by kernel_rfl) (by kernel_rfl);exact⟨global_lt hg hv,_,_,hv⟩
theorem wrong_of{W:World}{rest:List (String×DataW Unit)}(h:laidMet Tryz.prog (("strconv.ErrSyntax",Rows.laid_strconv_ErrSyntax)::rest) W):Err "strconv.ErrSyntax" 1 W:=by
 have hg:Tryz.prog.globalNamed "strconv.ErrSyntax"=some 1:=by kernel_rfl
 obtain⟨a,s,hv,_,_,_⟩:=laid_sentinel (ti:=125) (tp:=232) (te:=234) (ts:=9) h hg (by kernel_rfl) Tryz.underlying125 rowT Tryz.underlying232 Tryz.underlying234 rfl rfl Tryz.underlying9 (by kernel_rfl) (by kernel_rfl);exact⟨global_lt hg hv,_,_,hv⟩
theorem mx_of{W:World}(h:W.ShapedOpen Tryz.prog):∃m,W.cell? ⟨0,0,none⟩=some (.int .i64 m):=
 cell_of_shapedOpen_int (t:=3) (zero:=#[.int .i64 0]) h (of_decide_eq_true (by kernel_rfl)) (by kernel_rfl) rfl (by kernel_rfl) (by kernel_rfl) Tryz.underlying3
theorem env_of{W:World}(h:laidMetH Tryz.prog laidList W)(hs:W.ShapedOpen Tryz.prog):Env W:=by
 have hL:laidMet Tryz.prog laidList W:=by rw[MakeChecks.laidMetH_plain _ _ _ (by kernel_rfl)]at h;exact h
 exact⟨tab_of hL.tail.tail,range_of hL.tail.tail.tail.tail,wrong_of hL.tail.tail.tail.tail.tail,mx_of hs⟩
end BDoor
/- An object handed back with a word; a result's variable laid over. -/
namespace BRetO
open Kit CFixups CSymbols PObj BObj CMarkRows BObj2
def RetOB(r:Option OD)(w:World)(e:Ending)(w':World):Prop:=∃o:OV,e=.returned (.tuple #[.agg #[.slice o.A o.ps.length o.c,.slice o.Y o.ys.length o.yc],.bool r.isSome])/\Below w.heap.size w w'/\∀d,r=some d->o.d=d/\OwnO w' w.heap.size o
def nilO:OV:=⟨none,0,[],none,0,[]⟩
theorem ret_nilO{w w':World}(h:Below w.heap.size w w'):RetOB none w (.returned (.tuple #[.agg #[.slice none 0 0,.slice none 0 0],.bool false])) w':=⟨nilO,rfl,h,λd h=>by cases h⟩
theorem own_nilO(w:World)(base:Nat):OwnO w base nilO:=⟨⟨Row.empty _ _ _ _ _,(λp hp=>by cases hp),List.Pairwise.nil⟩,Row.empty _ _ _ _ _⟩
theorem cells2{w:World}{R:Nat}{a b u v:Value}(h:Box w R 26 #[a,b]):
  ((w.setCell ⟨R,0,none⟩ u).setCell ⟨R,1,none⟩ v).cell? ⟨R,0,none⟩=some u/\((w.setCell ⟨R,0,none⟩ u).setCell ⟨R,1,none⟩ v).cell? ⟨R,1,none⟩=some v:=by
 have kk:=(h.set 0 u).set 1 v;have k0:=kk.cell 0;have k1:=kk.cell 1;simp only[k_]at k0 k1;exact⟨k0,k1⟩
theorem below2{w0 w:World}{R:Nat}(h:Below w0.heap.size w0 w)(hR:w0.heap.size<=R)(u v:Value):Below w0.heap.size w0 ((w.setCell ⟨R,0,none⟩ u).setCell ⟨R,1,none⟩ v):=(h.setCell (p:=⟨R,0,none⟩) hR u).setCell (p:=⟨R,1,none⟩) hR v
theorem own2{w:World}{base R:Nat}{o:OV}(h:OwnO w base o)(hR:∀k,oblk o k->k≠R)(u v:Value):OwnO ((w.setCell ⟨R,0,none⟩ u).setCell ⟨R,1,none⟩ v) base o:=
 OwnO.set (a:=⟨R,1,none⟩) (OwnO.set (a:=⟨R,0,none⟩) h hR u) hR v
theorem ret_ok{w w':World}{o:OV}{R:Nat}(ho:OwnO w' w.heap.size o)(hb:Below w.heap.size w w')(hR:∀k,oblk o k->k≠R)(hRw:w.heap.size<=R):
  RetOB (some o.d) w (.returned (.tuple #[.agg #[.slice o.A o.ps.length o.c,.slice o.Y o.ys.length o.yc],.bool true])) ((w'.setCell ⟨R,0,none⟩ (.slice o.A o.ps.length o.c)).setCell ⟨R,1,none⟩ (.slice o.Y o.ys.length o.yc)):=
 ⟨o,rfl,below2 hb hRw _ _,λd hd=>by
  injection hd with hd;exact⟨hd,own2 ho hR _ _⟩⟩
end BRetO
/- What stands while two objects are joined. -/
namespace BJoin
open Kit CFixups CSymbols PObj BObj CMarkRows BObj2 BRetO BStore
theorem OwnO.apart_row {w:World}{base b:Nat}{o:OV}{A:Option Addr}{n c sz:Nat}{e:TypeId}{xs:List Value}(h:OwnO w base o)(r:Row w b e sz A n c xs)(h1:5≠e)(h2:65≠e)(h3:61≠e)(h4:67≠e):∀k,oblk o k->blk A c≠some k:=by
 rintro k ((hk|⟨p,hp,hk|hk⟩)|hk) hr
 ·exact apartT h.1.1 r h3 k hk hr
 ·exact apartT (h.1.2.1 p hp).1 r h1 k hk hr
 ·exact apartT (h.1.2.1 p hp).2 r h2 k hk hr
 ·exact apartT h.2 r h4 k hk hr
theorem OwnO.grownN {w w':World}{base:Nat}{o:OV}{v:Option Nat}(h:OwnO w base o)(g:w.grownBy w' v)(hv:∀k,oblk o k->v≠some k):OwnO w' base o:=
 h.keep λk hk=>g.block k (h.lt k hk).2 (λe=>hv k hk e.symm)
structure J1(w0:World)(V R O:Nat)(a b o:OV)(An:Option Addr)(cn:Nat)(ns:List Int)(w:World):Prop where
 ba:Box w w0.heap.size 26 #[.slice a.A a.ps.length a.c,.slice a.Y a.ys.length a.yc]
 bb:Box w V 26 #[.slice b.A b.ps.length b.c,.slice b.Y b.ys.length b.yc]
 br:Box w R 26 #[.slice none 0 0,.slice none 0 0]
 bo:Box w O 26 #[.slice o.A o.ps.length o.c,.slice o.Y o.ys.length o.yc]
 own:OwnO w w0.heap.size o
 row:Row w w0.heap.size 3 1 An ns.length cn (ints .i64 ns)
 b:Below w0.heap.size w0 w
 hO:w0.heap.size<V/\V<R/\R<O
section
variable {w0 w w':World}{V R O:Nat}{a b o:OV}{An:Option Addr}{cn:Nat}{ns:List Int}
theorem J1.call (h:J1 w0 V R O a b o An cn ns w)(hb:Below w.heap.size w w'):J1 w0 V R O a b o An cn ns w':=
 ⟨h.ba.call hb,h.bb.call hb,h.br.call hb,h.bo.call hb,h.own.call hb,h.row.call hb,h.b.trans (hb.mono h.b.size),h.hO⟩
theorem J1.addY (h:J1 w0 V R O a b o An cn ns w)(y:YD){A9:Option Addr}{n9 c9:Nat}(hn:n9=o.ys.length+1)(o9:Row w' w0.heap.size 67 4 A9 n9 c9 (cellsOf symbolC o.ys++symbolC y))(g:w.grownBy w' (blk o.Y o.yc)):
  J1 w0 V R O a b {o with Y:=A9,yc:=c9,ys:=o.ys++[y]} An cn ns (w'.setCell ⟨O,1,none⟩ (.slice A9 n9 c9)):=by
 have own':OwnO w' w0.heap.size {o with Y:=A9,yc:=c9,ys:=o.ys++[y]}:=h.own.addY [y] hn (by simpa[cellsOf]using o9) g;have bo':=h.bo.grown g (h.own.2.box h.bo (by decide));have hO:=h.hO;refine⟨(h.ba.grown g (h.own.2.box h.ba (by decide))).far (p:=⟨O,1,none⟩) (by show w0.heap.size≠O;omega) _,(h.bb.grown g (h.own.2.box h.bb (by decide))).far (p:=⟨O,1,none⟩) (by show V≠O;omega) _,(h.br.grown g (h.own.2.box h.br (by decide))).far (p:=⟨O,1,none⟩) (by show R≠O;omega) _,?_,OwnO.set (a:=⟨O,1,none⟩) own' (own'.ne_box bo' (by decide) (by decide) (by decide) (by decide)) _,?_,?_,hO⟩
 ·have hb:=bo'.set 1 (.slice A9 n9 c9);subst hn;show Box _ O _ #[.slice o.A o.ps.length o.c,.slice A9 (o.ys++[y]).length c9]
  rw[List.length_append];exact hb
 ·have r:=h.row.grown g (λk hk=>apartT h.row h.own.2 (by decide) k hk);exact r.set (a:=⟨O,1,none⟩) (r.box bo' (by decide)) _
 ·exact(h.b.grown g h.b.size (λk hk=>(h.own.2.lt k hk).1)).setCell (p:=⟨O,1,none⟩) (by show w0.heap.size<=O;omega) _
theorem J1.store (h:J1 w0 V R O a b o An cn ns w){g:Nat}(hY:o.Y=some ⟨g,0,none⟩){j:Nat}(hj:j<o.ys.length)(z:YD):J1 w0 V R O a b {o with ys:=o.ys.set j z} An cn ns (putY w g (j*4) z):=by
 obtain⟨g',hY',hg1,hg2,hbk,hown⟩:=own_of h.own.2 (by omega);rw[hY]at hY';simp only[Option.some.injEq,Addr.mk.injEq,and_true]at hY';subst hY';have hk:=putY_block w g (j*4) z;have nb:∀{X:Nat} {cs:Array Value},Box w X 26 cs->X≠g:=λhb e=>h.own.2.box hb (by decide) g hbk e.symm;obtain⟨oA,oc,ops,oY,oyc,oys⟩:=o;simp only at hY hj;subst hY;refine⟨(hk _ (nb h.ba)).trans h.ba,(hk _ (nb h.bb)).trans h.bb,(hk _ (nb h.br)).trans h.br,?_,OwnO.storeY h.own j hj z,h.row.keep λk hr=>hk k (λe=>apartT h.row h.own.2 (by decide) k hr (by rw[e];exact hbk)),putY_below h.b hg1,h.hO⟩;show Box _ O _ #[.slice oA ops.length oc,.slice (some ⟨g,0,none⟩) (oys.set j z).length oyc]
 rw[List.length_set];exact(hk _ (nb h.bo)).trans h.bo
theorem J1.addN (h:J1 w0 V R O a b o An cn ns w)(x:Int){A9:Option Addr}{n9 c9:Nat}(hn:n9=ns.length+1)(o9:Row w' w0.heap.size 3 1 A9 n9 c9 (ints .i64 ns++[.int .i64 x]))(g:w.grownBy w' (blk An cn)):
  J1 w0 V R O a b o A9 c9 (ns++[x]) w':=by
 subst hn;refine⟨h.ba.grown g (h.row.box h.ba (by decide)),h.bb.grown g (h.row.box h.bb (by decide)),h.br.grown g (h.row.box h.br (by decide)),h.bo.grown g (h.row.box h.bo (by decide)),OwnO.grownN h.own g (OwnO.apart_row h.own h.row (by decide) (by decide) (by decide) (by decide)),?_,h.b.grown g h.b.size (λk hk=>(h.row.lt k hk).1),h.hO⟩;rw[List.length_append,<-ints_snoc];exact o9
end
structure J2(w0:World)(Z O:Nat)(o q:OV)(fsx L R:List SV)(An:Option Addr)(cn:Nat)(ns:List Int)(w:World):Prop where
 br:Box w Z 26 #[.slice none 0 0,.slice none 0 0]
 bo:Box w O 26 #[.slice o.A o.ps.length o.c,.slice o.Y o.ys.length o.yc]
 oq:OwnO w w0.heap.size q
 hq:q.ps=L++R
 ho:o.ps=fsx++L
 rs:RwSs w w0.heap.size fsx
 pw:PwSs (fsx++q.ps)
 row:Row w w0.heap.size 61 6 o.A o.ps.length o.c (cellsOf secC o.ps)
 y:Row w w0.heap.size 67 4 o.Y o.ys.length o.yc (cellsOf symbolC o.ys)
 ap:Apart o.A o.c q.A q.c
 nums:Row w w0.heap.size 3 1 An ns.length cn (ints .i64 ns)
 b:Below w0.heap.size w0 w
 hO:w0.heap.size<Z/\Z<O
section
variable {w0 w w':World}{Z O:Nat}{o q:OV}{fsx L R:List SV}{An:Option Addr}{cn:Nat}{ns:List Int}
theorem J2.call (h:J2 w0 Z O o q fsx L R An cn ns w)(hb:Below w.heap.size w w'):J2 w0 Z O o q fsx L R An cn ns w':=
 ⟨h.br.call hb,h.bo.call hb,h.oq.call hb,h.hq,h.ho,h.rs.call hb,h.pw,h.row.call hb,h.y.call hb,h.ap,h.nums.call hb,h.b.trans (hb.mono h.b.size),h.hO⟩
theorem J2.own (h:J2 w0 Z O o q fsx L [] An cn ns w):OwnO w w0.heap.size o:=by
 have hq:=h.hq;rw[List.append_nil]at hq;refine⟨⟨h.row,λp hp=>?_,?_⟩,h.y⟩
 ·rw[h.ho]at hp;rcases List.mem_append.1 hp with hp|hp
  ·exact h.rs p hp
  ·exact h.oq.1.2.1 p (by rw[hq];exact hp)
 ·have:=h.pw;rw[hq,<-h.ho]at this;exact this
theorem J2.fix {p:SV}{R':List SV}(h:J2 w0 Z O o q fsx L (p::R') An cn ns w){g:Nat}(hF:p.F=some ⟨g,0,none⟩){i:Nat}{z:FD}(hz:p.fs[i]?=some z)(x:Int):
  J2 w0 Z O o {q with ps:=L++{p with fs:=p.fs.set i (z.1,z.2.1,x,z.2.2.2)}::R'} fsx L ({p with fs:=p.fs.set i (z.1,z.2.1,x,z.2.2.2)}::R') An cn ns (w.setCell ⟨g,i*4+2,none⟩ (.int .i64 x)):=by
 have hi:i<p.fs.length:=(List.getElem?_eq_some_iff.1 hz).1;have hpq:p∈q.ps:=by rw[h.hq];simp
 have hp:=h.oq.1.2.1 p hpq;obtain⟨g',hF',hg1,_,hbk,hown⟩:=own_of hp.2 (by omega);rw[hF]at hF';simp only[Option.some.injEq,Addr.mk.injEq,and_true]at hF';subst hF';have nb:∀{X:Nat} {t:TypeId} {cs:Array Value},65≠t->Box w X t cs->X≠g:=λhne hb e=>hp.2.box hb hne g hbk e.symm;have nr:∀{e:TypeId} {sz n c b:Nat} {A:Option Addr} {xs:List Value},e≠65->Row w b e sz A n c xs->∀k,blk A c=some k->k≠g:=λhne r k hk e=>apartT r hp.2 hne k hk (by rw[e];exact hbk);obtain⟨qA,qc,qps,qY,qyc,qys⟩:=q;have hq:=h.hq;have hpw:=h.pw;have hqo:=h.oq;have hap:=h.ap;simp only at hq hpw hap;subst hq;refine⟨h.br.far (p:=⟨g,i*4+2,none⟩) (nb (by decide) h.br) _,h.bo.far (p:=⟨g,i*4+2,none⟩) (nb (by decide) h.bo) _,OwnO.storeF hqo hF i z hz x,rfl,h.ho,λs hs=>?_,?_,h.row.set (a:=⟨g,i*4+2,none⟩) (nr (by decide) h.row) _,h.y.set (a:=⟨g,i*4+2,none⟩) (nr (by decide) h.y) _,hap,h.nums.set (a:=⟨g,i*4+2,none⟩) (nr (by decide) h.nums) _,h.b.setCell (p:=⟨g,i*4+2,none⟩) hg1 _,h.hO⟩
 ·have hs':=h.rs s hs;have hap:=(List.pairwise_append.1 hpw).2.2 s hs p (by simp);refine hs'.set (a:=⟨g,i*4+2,none⟩) (λk hk e=>?_) _;have e':k=g:=e;subst e';rcases hk with hk|hk
  ·exact nr (by decide) hs'.1 k hk rfl
  ·exact hap.2 k hk hbk
 ·show List.Pairwise ApS _
  have h0:List.Pairwise ApS (fsx++(L++p::R')):=hpw;have key:∀(X:List SV) (Y:List SV) (p':SV),p'.A=p.A->p'.c=p.c->p'.F=p.F->p'.fc=p.fc->List.Pairwise ApS (X++p::Y)->List.Pairwise ApS (X++p'::Y):=by
   intro X Y p' e1 e2 e3 e4 hx;have hl:∀s,(ApS s p'↔ApS s p)/\(ApS p' s↔ApS p s):=λs=>by unfold ApS;rw[e1,e2,e3,e4];exact⟨Iff.rfl,Iff.rfl⟩
   obtain⟨x1,x2,x3⟩:=List.pairwise_append.1 hx;obtain⟨x4,x5⟩:=List.pairwise_cons.1 x2;refine List.pairwise_append.2 ⟨x1,List.pairwise_cons.2 ⟨λs hs=>(hl s).2.2 (x4 s hs),x5⟩,λu hu v hv=>?_⟩;rcases List.mem_cons.1 hv with rfl|hv
   ·exact(hl u).1.2 (x3 u hu p (List.mem_cons_self ..))
   ·exact x3 u hu v (List.mem_cons_of_mem _ hv)
  rw[<-List.append_assoc]at h0 ⊢;exact key _ _ _ rfl rfl rfl rfl h0
theorem J2.add {p:SV}{R':List SV}(h:J2 w0 Z O o q fsx L (p::R') An cn ns w){A9:Option Addr}{n9 c9:Nat}(hn:n9=o.ps.length+1)(o9:Row w' w0.heap.size 61 6 A9 n9 c9 (cellsOf secC o.ps++secC p))(g:w.grownBy w' (blk o.A o.c))(hk:∀k,blk A9 c9=some k->blk o.A o.c=some k\/w.heap.size<=k):
  J2 w0 Z O {o with A:=A9,c:=c9,ps:=o.ps++[p]} q fsx (L++[p]) R' An cn ns (w'.setCell ⟨O,0,none⟩ (.slice A9 n9 c9)):=by
 have bo':=h.bo.grown g (h.row.box h.bo (by decide));have hO:=h.hO;have q':OwnO w' w0.heap.size q:=OwnO.grownN h.oq g (by
  rintro k ((hk|⟨s,hs,hk|hk⟩)|hk) hr
  ·exact h.ap k hr hk
  ·exact apartT (h.oq.1.2.1 s hs).1 h.row (by decide) k hk hr
  ·exact apartT (h.oq.1.2.1 s hs).2 h.row (by decide) k hk hr
  ·exact apartT h.oq.2 h.row (by decide) k hk hr)
 refine⟨(h.br.grown g (h.row.box h.br (by decide))).far (p:=⟨O,0,none⟩) (by show Z≠O;omega) _,?_,OwnO.set (a:=⟨O,0,none⟩) q' (q'.ne_box bo' (by decide) (by decide) (by decide) (by decide)) _,by rw[h.hq];simp,by rw[h.ho];simp,λs hs=>?_,h.pw,?_,?_,?_,?_,?_,hO⟩
 ·have hb:=bo'.set 0 (.slice A9 n9 c9);subst hn;show Box _ O _ #[.slice A9 (o.ps++[p]).length c9,.slice o.Y o.ys.length o.yc]
  rw[List.length_append];exact hb
 ·have hs':RwS w' w0.heap.size s:=⟨(h.rs s hs).1.grown g (λk hk=>apartT (h.rs s hs).1 h.row (by decide) k hk),(h.rs s hs).2.grown g (λk hk=>apartT (h.rs s hs).2 h.row (by decide) k hk)⟩;exact hs'.set (a:=⟨O,0,none⟩) (hs'.box bo' (by decide) (by decide)) _
 ·subst hn;have r:Row w' w0.heap.size 61 6 A9 (o.ps++[p]).length c9 (cellsOf secC (o.ps++[p])):=by rw[List.length_append,cells_snoc];exact o9
  exact r.set (a:=⟨O,0,none⟩) (r.box bo' (by decide)) _
 ·have r:=h.y.grown g (λk hk=>apartT h.y h.row (by decide) k hk);exact r.set (a:=⟨O,0,none⟩) (r.box bo' (by decide)) _
 ·intro k h1 h2;rcases hk k h1 with h3|h3
  ·exact h.ap k h3 h2
  ·have:=(h.oq.lt k (.inl (.inl h2))).2;omega
 ·have r:=h.nums.grown g (λk hk=>apartT h.nums h.row (by decide) k hk);exact r.set (a:=⟨O,0,none⟩) (r.box bo' (by decide)) _
 ·exact(h.b.grown g h.b.size (λk hk=>(h.row.lt k hk).1)).setCell (p:=⟨O,0,none⟩) (by show w0.heap.size<=O;omega) _
end
end BJoin
end Go.Proofs.YtepoiphmmjfbdaaGreatDoor
