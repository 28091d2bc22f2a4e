/- The library at []string, at this dump: printed by the kit's lay-plain. -/
import Derived.Test.YtepoiphmmjfbdaaGreatDoorFnDeskRunM1
import Derived.Shelf.Small.Bits
import Derived.Shelf.Small.Strs
import Derived.Shelf.Strconv.Atoi
import Derived.Shelf.Strconv.Itoa0
import Derived.Shelf.Strconv.Itoa1
import Derived.Shelf.LaysM
import Derived.Shelf.Strconv.Itoa2
import Derived.Shelf.Strconv.Itoa3
import Derived.Shelf.Strconv.AtoiErrFast
import Derived.Shelf.Strconv.ParseIntEmpty
import Derived.Shelf.Strconv.AtoiFail
import Derived.Shelf.Strconv.Clone
import Derived.Shelf.Strconv.SyntaxError
import Derived.Shelf.LaysC
import Derived.Shelf.Strconv.ToError
import Derived.Shelf.Strconv.Lower
import Derived.Shelf.Strconv.ParseUint10
import Derived.Shelf.Strconv.ParseUint10Empty
import Derived.Shelf.Strconv.ParseUint10Any
import Derived.Shelf.Strconv.ParseInt10
import Derived.Shelf.Strconv.AtoiLong
import Derived.Shelf.Strconv.AtoiInnerAll
import Derived.Shelf.Strconv.RangeError
import Derived.Shelf.Strconv.ToErrorRange
import Derived.Shelf.Strconv.AtoiAll
import Derived.Shelf.Strconv.ErrVarAll
import Derived.Shelf.Strings.Search1
import Derived.Shelf.Strings.Search2
import Derived.Shelf.Strings.Search3
import Derived.Shelf.Strings.Cut
import Derived.Shelf.Strings.Count
import Derived.Shelf.Strings.Shaped
import Derived.Shelf.Sort.Plain
import Derived.Shelf.Strings.Split
import Derived.Shelf.Unicode.DecodeSlow
import Derived.Shelf.Slices.Turned
import Derived.Shelf.Slices.Equal
import Derived.Shelf.Slices.Clone
import Derived.Shelf.Slices.CompactS
import Derived.Shelf.Slices.Delete
import Derived.Shelf.Slices.Cells
import Derived.Shelf.Slices.In.SortNone
import Derived.Shelf.Slices.Empties
import Derived.Shelf.Slices.Empties2
import Derived.Ground.SlgnProg
import Derived.Shelf.SlicesE.Clone
import Derived.Test.YtepoiphmmjfbdaaGreatDoorProg
import Derived.Test.YtepoiphmmjfbdaaGreatDoorRows
import Derived.Laws.BytesArg
import Derived.Lib.Bytes
import Derived.Lib.ItoaNum
import Derived.Lib.ItoaLen
import Derived.Deep.CutRange
import Derived.Lib.AtoiAllCases
import Derived.Lib.SplitLaws
import Derived.StillTailTactics
import Derived.Deep.QuietTactic
import Derived.BigQuiet
set_option linter.unusedSimpArgs false
set_option linter.unusedVariables false
set_option maxRecDepth 200000
open Go.ChangeShapes Go.WideShapes Go.ChangeAt Go.RowKit
namespace Go.Proofs.YtepoiphmmjfbdaaGreatDoor
namespace XDesk
open Go.Shelf
def lays137_ren:Go.Shelf.Ren:=⟨λ|137=>178|217=>174|266=>201|n=>n,λ|9=>9|5=>5|3=>3|n=>n,λ|n=>n⟩
theorem lays137:Go.Proofs.Lays.n137 Tryz.prog lays137_ren:={
 mixed:=by kernel_rfl
 f137:=Tryz.func178.trans (congrArg some (by kernel_rfl))
 f217:=Tryz.func174.trans (congrArg some (by kernel_rfl))
 f266:=Tryz.func201.trans (congrArg some (by kernel_rfl))
 t3:=Tryz.underlying3
 a3:=Tryz.isAgg3
 z3:=Tryz.sizeOf3
 v3:=Tryz.zeroValue3
 t5:=Tryz.underlying5
 a5:=Tryz.isAgg5
 z5:=Tryz.sizeOf5
 v5:=Tryz.zeroValue5
 t9:=Tryz.underlying9
 a9:=Tryz.isAgg9
 z9:=Tryz.sizeOf9
 v9:=Tryz.zeroValue9}
open Go.RowKit in
theorem strings_IndexByte(s:ByteArray)(c:Int)(w:World):
  Calls Tryz.prog 178 #[.string s,.int .u8 c] w λe w'=>e=.returned (.int .i64 (Lib.indexByte s.data.toList c.toNat.toUInt8))/\w'=w:=Any.strings_IndexByte lays137 s c w
def laysM171_ren:Go.Shelf.Ren:=⟨λ|171=>51|243=>98|246=>154|283=>187|284=>188|285=>189|286=>190|129=>208|317=>207|318=>209|319=>210|320=>211|337=>227|338=>228|n=>n,λ|3=>3|9=>9|2=>2|4=>4|171=>189|0=>0|53=>190|37=>22|5=>5|173=>193|212=>211|51=>201|20=>20|213=>212|46=>94|232=>241|233=>242|n=>n,λ|17=>3|18=>6|19=>7|n=>n⟩
theorem laysM171:Go.Proofs.LaysM.n171 Tryz.prog laysM171_ren:={
 mixed:=by kernel_rfl
 f129:=Tryz.func208.trans (congrArg some (by kernel_rfl))
 f171:=Tryz.func51.trans (congrArg some (by kernel_rfl))
 f243:=Tryz.func98.trans (congrArg some (by kernel_rfl))
 f246:=Tryz.func154.trans (congrArg some (by kernel_rfl))
 f283:=Tryz.func187.trans (congrArg some (by kernel_rfl))
 f284:=Tryz.func188.trans (congrArg some (by kernel_rfl))
 f285:=Tryz.func189.trans (congrArg some (by kernel_rfl))
 f286:=Tryz.func190.trans (congrArg some (by kernel_rfl))
 f317:=Tryz.func207.trans (congrArg some (by kernel_rfl))
 f318:=Tryz.func209.trans (congrArg some (by kernel_rfl))
 f319:=Tryz.func210.trans (congrArg some (by kernel_rfl))
 f320:=Tryz.func211.trans (congrArg some (by kernel_rfl))
 f337:=Tryz.func227.trans (congrArg some (by kernel_rfl))
 f338:=Tryz.func228.trans (congrArg some (by kernel_rfl))
 t0:=Tryz.underlying0
 a0:=Tryz.isAgg0
 z0:=Tryz.sizeOf0
 v0:=Tryz.zeroValue0
 t2:=Tryz.underlying2
 a2:=Tryz.isAgg2
 z2:=Tryz.sizeOf2
 v2:=Tryz.zeroValue2
 t3:=Tryz.underlying3
 a3:=Tryz.isAgg3
 z3:=Tryz.sizeOf3
 v3:=Tryz.zeroValue3
 t4:=Tryz.underlying4
 a4:=Tryz.isAgg4
 z4:=Tryz.sizeOf4
 v4:=Tryz.zeroValue4
 t5:=Tryz.underlying5
 a5:=Tryz.isAgg5
 z5:=Tryz.sizeOf5
 v5:=Tryz.zeroValue5
 t9:=Tryz.underlying9
 a9:=Tryz.isAgg9
 z9:=Tryz.sizeOf9
 v9:=Tryz.zeroValue9
 t20:=Tryz.underlying20
 a20:=Tryz.isAgg20
 z20:=Tryz.sizeOf20
 v20:=Tryz.zeroValue20
 t37:=Tryz.underlying22
 a37:=Tryz.isAgg22
 z37:=Tryz.sizeOf22
 v37:=Tryz.zeroValue22
 t46:=Tryz.underlying94
 a46:=Tryz.isAgg94
 z46:=Tryz.sizeOf94
 v46:=Tryz.zeroValue94
 t51:=Tryz.underlying201
 a51:=Tryz.isAgg201
 z51:=Tryz.sizeOf201
 v51:=Tryz.zeroValue201
 t53:=Tryz.underlying190
 a53:=Tryz.isAgg190
 z53:=Tryz.sizeOf190
 v53:=Tryz.zeroValue190
 t171:=Tryz.underlying189
 a171:=Tryz.isAgg189
 z171:=Tryz.sizeOf189
 v171:=Tryz.zeroValue189
 t173:=Tryz.underlying193
 a173:=Tryz.isAgg193
 z173:=Tryz.sizeOf193
 v173:=Tryz.zeroValue193
 t212:=Tryz.underlying211
 a212:=Tryz.isAgg211
 z212:=Tryz.sizeOf211
 v212:=Tryz.zeroValue211
 t213:=Tryz.underlying212
 a213:=Tryz.isAgg212
 z213:=Tryz.sizeOf212
 t232:=Tryz.underlying241
 a232:=Tryz.isAgg241
 z232:=Tryz.sizeOf241
 v232:=Tryz.zeroValue241
 t233:=Tryz.underlying242
 a233:=Tryz.isAgg242
 z233:=Tryz.sizeOf242
 v233:=Tryz.zeroValue242
 g17:=by kernel_rfl
 g18:=by kernel_rfl
 g19:=by kernel_rfl
 i0:=by kernel_rfl
 i2:=by kernel_rfl
 i3:=by kernel_rfl
 i4:=by kernel_rfl
 i5:=by kernel_rfl
 i9:=by kernel_rfl
 i20:=by kernel_rfl
 i37:=by kernel_rfl
 i46:=by kernel_rfl
 i51:=by kernel_rfl
 i53:=by kernel_rfl
 i171:=by kernel_rfl
 i173:=by kernel_rfl
 i212:=by kernel_rfl
 i232:=by kernel_rfl
 i233:=by kernel_rfl
 m17:=by kernel_rfl
 m18:=by kernel_rfl
 m19:=by kernel_rfl}
open Go.RowKit Go.Sort Go.Lib in
theorem strconv_Itoa(n:Int)(h0:-9223372036854775808<=n)(h1:n<=9223372036854775807)(w:World)(htab:Lib.TabIs Tryz.prog w "internal/strconv.uint64pow10" .u64 Lib.pow10Tab):
  Calls Tryz.prog 51 #[.int .i64 n] w λe w'=>e=.returned (.string ⟨(Lib.itoa n).toArray⟩)/\∃k os,w'=grow (w.drewN k) os:=Any.strconv_Itoa laysM171 n h0 h1 w htab
def laysC172_ren:Go.Shelf.Ren:=⟨λ|172=>96|244=>152|245=>153|247=>182|279=>183|280=>184|281=>185|282=>186|287=>204|316=>205|171=>51|205=>206|321=>225|322=>226|243=>98|246=>154|283=>187|284=>188|285=>189|286=>190|129=>208|317=>207|318=>209|319=>210|320=>211|337=>227|338=>228|n=>n,λ|9=>9|3=>3|75=>125|76=>126|4=>4|5=>5|167=>183|37=>22|0=>0|85=>184|2=>2|168=>186|53=>190|175=>204|46=>94|210=>208|127=>231|145=>234|143=>232|21=>21|171=>189|173=>193|212=>211|51=>201|20=>20|213=>212|232=>241|233=>242|80=>246|n=>n,λ|15=>1|16=>2|17=>3|18=>6|19=>7|n=>n⟩
theorem laysC172:Go.Proofs.LaysC.n172 Tryz.prog laysC172_ren:={
 mixed:=by kernel_rfl
 f129:=Tryz.func208.trans (congrArg some (by kernel_rfl))
 f171:=Tryz.func51.trans (congrArg some (by kernel_rfl))
 f172:=Tryz.func96.trans (congrArg some (by kernel_rfl))
 f205:=Tryz.func206.trans (congrArg some (by kernel_rfl))
 f243:=Tryz.func98.trans (congrArg some (by kernel_rfl))
 f244:=Tryz.func152.trans (congrArg some (by kernel_rfl))
 f245:=Tryz.func153.trans (congrArg some (by kernel_rfl))
 f246:=Tryz.func154.trans (congrArg some (by kernel_rfl))
 f247:=Tryz.func182.trans (congrArg some (by kernel_rfl))
 f279:=Tryz.func183.trans (congrArg some (by kernel_rfl))
 f280:=Tryz.func184.trans (congrArg some (by kernel_rfl))
 f281:=Tryz.func185.trans (congrArg some (by kernel_rfl))
 f282:=Tryz.func186.trans (congrArg some (by kernel_rfl))
 f283:=Tryz.func187.trans (congrArg some (by kernel_rfl))
 f284:=Tryz.func188.trans (congrArg some (by kernel_rfl))
 f285:=Tryz.func189.trans (congrArg some (by kernel_rfl))
 f286:=Tryz.func190.trans (congrArg some (by kernel_rfl))
 f287:=Tryz.func204.trans (congrArg some (by kernel_rfl))
 f316:=Tryz.func205.trans (congrArg some (by kernel_rfl))
 f317:=Tryz.func207.trans (congrArg some (by kernel_rfl))
 f318:=Tryz.func209.trans (congrArg some (by kernel_rfl))
 f319:=Tryz.func210.trans (congrArg some (by kernel_rfl))
 f320:=Tryz.func211.trans (congrArg some (by kernel_rfl))
 f321:=Tryz.func225.trans (congrArg some (by kernel_rfl))
 f322:=Tryz.func226.trans (congrArg some (by kernel_rfl))
 f337:=Tryz.func227.trans (congrArg some (by kernel_rfl))
 f338:=Tryz.func228.trans (congrArg some (by kernel_rfl))
 t0:=Tryz.underlying0
 a0:=Tryz.isAgg0
 z0:=Tryz.sizeOf0
 v0:=Tryz.zeroValue0
 t2:=Tryz.underlying2
 a2:=Tryz.isAgg2
 z2:=Tryz.sizeOf2
 v2:=Tryz.zeroValue2
 t3:=Tryz.underlying3
 a3:=Tryz.isAgg3
 z3:=Tryz.sizeOf3
 v3:=Tryz.zeroValue3
 t4:=Tryz.underlying4
 a4:=Tryz.isAgg4
 z4:=Tryz.sizeOf4
 v4:=Tryz.zeroValue4
 t5:=Tryz.underlying5
 a5:=Tryz.isAgg5
 z5:=Tryz.sizeOf5
 v5:=Tryz.zeroValue5
 t9:=Tryz.underlying9
 a9:=Tryz.isAgg9
 z9:=Tryz.sizeOf9
 v9:=Tryz.zeroValue9
 t20:=Tryz.underlying20
 a20:=Tryz.isAgg20
 z20:=Tryz.sizeOf20
 v20:=Tryz.zeroValue20
 t21:=Tryz.underlying21
 a21:=Tryz.isAgg21
 z21:=Tryz.sizeOf21
 v21:=Tryz.zeroValue21
 t37:=Tryz.underlying22
 a37:=Tryz.isAgg22
 z37:=Tryz.sizeOf22
 v37:=Tryz.zeroValue22
 t46:=Tryz.underlying94
 a46:=Tryz.isAgg94
 z46:=Tryz.sizeOf94
 v46:=Tryz.zeroValue94
 t51:=Tryz.underlying201
 a51:=Tryz.isAgg201
 z51:=Tryz.sizeOf201
 v51:=Tryz.zeroValue201
 t53:=Tryz.underlying190
 a53:=Tryz.isAgg190
 z53:=Tryz.sizeOf190
 v53:=Tryz.zeroValue190
 t75:=Tryz.underlying125
 a75:=Tryz.isAgg125
 z75:=Tryz.sizeOf125
 v75:=Tryz.zeroValue125
 t76:=Tryz.underlying126
 a76:=Tryz.isAgg126
 z76:=Tryz.sizeOf126
 v76:=Tryz.zeroValue126
 t85:=Tryz.underlying184
 a85:=Tryz.isAgg184
 z85:=Tryz.sizeOf184
 v85:=Tryz.zeroValue184
 t127:=Tryz.underlying231
 a127:=Tryz.isAgg231
 z127:=Tryz.sizeOf231
 v127:=Tryz.zeroValue231
 t143:=Tryz.underlying232
 a143:=Tryz.isAgg232
 z143:=Tryz.sizeOf232
 v143:=Tryz.zeroValue232
 t145:=Tryz.underlying234
 a145:=Tryz.isAgg234
 z145:=Tryz.sizeOf234
 v145:=Tryz.zeroValue234
 t167:=Tryz.underlying183
 a167:=Tryz.isAgg183
 z167:=Tryz.sizeOf183
 v167:=Tryz.zeroValue183
 t168:=Tryz.underlying186
 a168:=Tryz.isAgg186
 z168:=Tryz.sizeOf186
 v168:=Tryz.zeroValue186
 t171:=Tryz.underlying189
 a171:=Tryz.isAgg189
 z171:=Tryz.sizeOf189
 v171:=Tryz.zeroValue189
 t173:=Tryz.underlying193
 a173:=Tryz.isAgg193
 z173:=Tryz.sizeOf193
 v173:=Tryz.zeroValue193
 t175:=Tryz.underlying204
 a175:=Tryz.isAgg204
 z175:=Tryz.sizeOf204
 v175:=Tryz.zeroValue204
 t210:=Tryz.underlying208
 a210:=Tryz.isAgg208
 z210:=Tryz.sizeOf208
 v210:=Tryz.zeroValue208
 t212:=Tryz.underlying211
 a212:=Tryz.isAgg211
 z212:=Tryz.sizeOf211
 v212:=Tryz.zeroValue211
 t213:=Tryz.underlying212
 a213:=Tryz.isAgg212
 z213:=Tryz.sizeOf212
 t232:=Tryz.underlying241
 a232:=Tryz.isAgg241
 z232:=Tryz.sizeOf241
 v232:=Tryz.zeroValue241
 t233:=Tryz.underlying242
 a233:=Tryz.isAgg242
 z233:=Tryz.sizeOf242
 v233:=Tryz.zeroValue242
 g15:=by kernel_rfl
 g16:=by kernel_rfl
 g17:=by kernel_rfl
 g18:=by kernel_rfl
 g19:=by kernel_rfl
 t80:=Tryz.underlying246
 a80:=Tryz.isAgg246
 z80:=Tryz.sizeOf246
 v80:=Tryz.zeroValue246
 i0:=by kernel_rfl
 i2:=by kernel_rfl
 i3:=by kernel_rfl
 i4:=by kernel_rfl
 i5:=by kernel_rfl
 i9:=by kernel_rfl
 i20:=by kernel_rfl
 i21:=by kernel_rfl
 i37:=by kernel_rfl
 i46:=by kernel_rfl
 i51:=by kernel_rfl
 i53:=by kernel_rfl
 i75:=by kernel_rfl
 i76:=by kernel_rfl
 i80:=by kernel_rfl
 i85:=by kernel_rfl
 i127:=by kernel_rfl
 i143:=by kernel_rfl
 i145:=by kernel_rfl
 i167:=by kernel_rfl
 i168:=by kernel_rfl
 i171:=by kernel_rfl
 i173:=by kernel_rfl
 i175:=by kernel_rfl
 i210:=by kernel_rfl
 i212:=by kernel_rfl
 i232:=by kernel_rfl
 i233:=by kernel_rfl
 m15:=by kernel_rfl
 m16:=by kernel_rfl
 m17:=by kernel_rfl
 m18:=by kernel_rfl
 m19:=by kernel_rfl
 c0:=by kernel_rfl
 c2:=by kernel_rfl
 c3:=by kernel_rfl
 c4:=by kernel_rfl
 c5:=by kernel_rfl
 c9:=by kernel_rfl
 c20:=by kernel_rfl
 c21:=by kernel_rfl
 c37:=by kernel_rfl
 c46:=by kernel_rfl
 c51:=by kernel_rfl
 c53:=by kernel_rfl
 c75:=by kernel_rfl
 c76:=by kernel_rfl
 c80:=by kernel_rfl
 c85:=by kernel_rfl
 c127:=by kernel_rfl
 c143:=by kernel_rfl
 c145:=by kernel_rfl
 c167:=by kernel_rfl
 c168:=by kernel_rfl
 c171:=by kernel_rfl
 c173:=by kernel_rfl
 c175:=by kernel_rfl
 c210:=by kernel_rfl
 c212:=by kernel_rfl
 c213:=by kernel_rfl
 c232:=by kernel_rfl
 c233:=by kernel_rfl}
open Go.RowKit in
theorem strconv_Atoi_ok(s:ByteArray)(hmax:s.size<=9223372036854775806)(v:Int)(h:Lib.atoiAll s.data.toList=.ok v)(w:World):
  Calls Tryz.prog 96 #[.string s] w λe w'=>e=.returned (.tuple #[.int .i64 v,.nilIface])/\(w'=w\/∃t,w'=Lib.bytesWorld w 5 t):=Any.strconv_Atoi_ok laysC172 s hmax v h w
open Go.RowKit in
theorem strconv_Atoi_syntax_var(s:ByteArray)(hlim:s.size<=281474976710656)(h:Lib.atoiAll s.data.toList=Lib.atoiAll [])(tp:TypeId)(p:Value)(w:World)(hvar:w.var? Tryz.prog "strconv.ErrSyntax"=some #[.iface tp p]):
  Calls Tryz.prog 96 #[.string s] w λe w'=>∃N,e=.returned (.tuple #[.int .i64 0,.iface 186 (.pointer (some ⟨N,0,none⟩))])/\w.heap.size<=N/\w'.heap[N]?=some (.cells #[.string ⟨#[65,116,111,105]⟩,.string s,.iface tp p] 208 (0,0))/\Below w.heap.size w w':=Any.strconv_Atoi_syntax_var laysC172 s hlim (h.trans (by rfl)) tp p w hvar
open Go.RowKit in
theorem strconv_Atoi_range_var(s:ByteArray)(hlim:s.size<=281474976710656)(h:Lib.atoiAll s.data.toList=.range)(tp:TypeId)(p:Value)(w:World)(hvar:w.var? Tryz.prog "strconv.ErrRange"=some #[.iface tp p]):
  Calls Tryz.prog 96 #[.string s] w λe w'=>∃N,e=.returned (.tuple #[.int .i64 (Lib.atoiSat s.data.toList),.iface 186 (.pointer (some ⟨N,0,none⟩))])/\w.heap.size<=N/\w'.heap[N]?=some (.cells #[.string ⟨#[65,116,111,105]⟩,.string s,.iface tp p] 208 (0,0))/\Below w.heap.size w w':=Any.strconv_Atoi_range_var laysC172 s hlim h tp p w hvar
def lays145_ren:Go.Shelf.Ren:=⟨λ|145=>45|220=>91|219=>144|217=>174|225=>175|224=>176|267=>177|266=>201|314=>202|n=>n,λ|9=>9|4=>4|59=>71|3=>3|5=>5|46=>94|146=>202|51=>201|n=>n,λ|1=>0|n=>n⟩
theorem lays145:Go.Proofs.Lays.n145 Tryz.prog lays145_ren:={
 mixed:=by kernel_rfl
 f145:=Tryz.func45.trans (congrArg some (by kernel_rfl))
 f217:=Tryz.func174.trans (congrArg some (by kernel_rfl))
 f219:=Tryz.func144.trans (congrArg some (by kernel_rfl))
 f220:=Tryz.func91.trans (congrArg some (by kernel_rfl))
 f224:=Tryz.func176.trans (congrArg some (by kernel_rfl))
 f225:=Tryz.func175.trans (congrArg some (by kernel_rfl))
 f266:=Tryz.func201.trans (congrArg some (by kernel_rfl))
 f267:=Tryz.func177.trans (congrArg some (by kernel_rfl))
 f314:=Tryz.func202.trans (congrArg some (by kernel_rfl))
 t3:=Tryz.underlying3
 a3:=Tryz.isAgg3
 z3:=Tryz.sizeOf3
 v3:=Tryz.zeroValue3
 t4:=Tryz.underlying4
 a4:=Tryz.isAgg4
 z4:=Tryz.sizeOf4
 v4:=Tryz.zeroValue4
 t5:=Tryz.underlying5
 a5:=Tryz.isAgg5
 z5:=Tryz.sizeOf5
 v5:=Tryz.zeroValue5
 t9:=Tryz.underlying9
 a9:=Tryz.isAgg9
 z9:=Tryz.sizeOf9
 v9:=Tryz.zeroValue9
 t46:=Tryz.underlying94
 a46:=Tryz.isAgg94
 z46:=Tryz.sizeOf94
 v46:=Tryz.zeroValue94
 t51:=Tryz.underlying201
 a51:=Tryz.isAgg201
 z51:=Tryz.sizeOf201
 v51:=Tryz.zeroValue201
 t59:=Tryz.underlying71
 a59:=Tryz.isAgg71
 z59:=Tryz.sizeOf71
 v59:=Tryz.zeroValue71
 t146:=Tryz.underlying202
 a146:=Tryz.isAgg202
 z146:=Tryz.sizeOf202
 v146:=Tryz.zeroValue202
 g1:=by kernel_rfl}
open Go.RowKit Go.Lib in
theorem strings_Cut(s sep:ByteArray)(m:Int)(w:World)(hs:s.size<4294967281)(hm:w.cell? ⟨0,0,none⟩=some (.int .i64 m)):
  Calls Tryz.prog 45 #[.string s,.string sep] w λe w'=>e=.returned (.tuple #[.string ⟨(Lib.cut s.data.toList sep.data.toList).1.toArray⟩,.string ⟨(Lib.cut s.data.toList sep.data.toList).2.1.toArray⟩,.bool (Lib.cut s.data.toList sep.data.toList).2.2])/\∃n,w'=w.drewN n:=Any.strings_Cut lays145 s sep m w hs hm
def lays146_ren:Go.Shelf.Ren:=⟨λ|146=>48|221=>95|268=>149|138=>150|143=>151|195=>179|197=>180|218=>181|219=>144|260=>203|217=>174|225=>175|224=>176|267=>177|266=>201|314=>202|n=>n,λ|9=>9|31=>28|3=>3|4=>4|0=>0|105=>181|21=>21|5=>5|46=>94|119=>226|139=>229|138=>228|146=>202|51=>201|n=>n,λ|1=>0|3=>4|4=>5|n=>n⟩
theorem lays146:Go.Proofs.Lays.n146 Tryz.prog lays146_ren:={
 mixed:=by kernel_rfl
 f138:=Tryz.func150.trans (congrArg some (by kernel_rfl))
 f143:=Tryz.func151.trans (congrArg some (by kernel_rfl))
 f146:=Tryz.func48.trans (congrArg some (by kernel_rfl))
 f195:=Tryz.func179.trans (congrArg some (by kernel_rfl))
 f197:=Tryz.func180.trans (congrArg some (by kernel_rfl))
 f217:=Tryz.func174.trans (congrArg some (by kernel_rfl))
 f218:=Tryz.func181.trans (congrArg some (by kernel_rfl))
 f219:=Tryz.func144.trans (congrArg some (by kernel_rfl))
 f221:=Tryz.func95.trans (congrArg some (by kernel_rfl))
 f224:=Tryz.func176.trans (congrArg some (by kernel_rfl))
 f225:=Tryz.func175.trans (congrArg some (by kernel_rfl))
 f260:=Tryz.func203.trans (congrArg some (by kernel_rfl))
 f266:=Tryz.func201.trans (congrArg some (by kernel_rfl))
 f267:=Tryz.func177.trans (congrArg some (by kernel_rfl))
 f268:=Tryz.func149.trans (congrArg some (by kernel_rfl))
 f314:=Tryz.func202.trans (congrArg some (by kernel_rfl))
 t0:=Tryz.underlying0
 a0:=Tryz.isAgg0
 z0:=Tryz.sizeOf0
 v0:=Tryz.zeroValue0
 t3:=Tryz.underlying3
 a3:=Tryz.isAgg3
 z3:=Tryz.sizeOf3
 v3:=Tryz.zeroValue3
 t4:=Tryz.underlying4
 a4:=Tryz.isAgg4
 z4:=Tryz.sizeOf4
 v4:=Tryz.zeroValue4
 t5:=Tryz.underlying5
 a5:=Tryz.isAgg5
 z5:=Tryz.sizeOf5
 v5:=Tryz.zeroValue5
 t9:=Tryz.underlying9
 a9:=Tryz.isAgg9
 z9:=Tryz.sizeOf9
 v9:=Tryz.zeroValue9
 t21:=Tryz.underlying21
 a21:=Tryz.isAgg21
 z21:=Tryz.sizeOf21
 v21:=Tryz.zeroValue21
 t31:=Tryz.underlying28
 a31:=Tryz.isAgg28
 z31:=Tryz.sizeOf28
 v31:=Tryz.zeroValue28
 t46:=Tryz.underlying94
 a46:=Tryz.isAgg94
 z46:=Tryz.sizeOf94
 v46:=Tryz.zeroValue94
 t51:=Tryz.underlying201
 a51:=Tryz.isAgg201
 z51:=Tryz.sizeOf201
 v51:=Tryz.zeroValue201
 t105:=Tryz.underlying181
 a105:=Tryz.isAgg181
 z105:=Tryz.sizeOf181
 v105:=Tryz.zeroValue181
 t119:=Tryz.underlying226
 a119:=Tryz.isAgg226
 z119:=Tryz.sizeOf226
 t138:=Tryz.underlying228
 a138:=Tryz.isAgg228
 z138:=Tryz.sizeOf228
 v138:=Tryz.zeroValue228
 t139:=Tryz.underlying229
 a139:=Tryz.isAgg229
 z139:=Tryz.sizeOf229
 v139:=Tryz.zeroValue229
 t146:=Tryz.underlying202
 a146:=Tryz.isAgg202
 z146:=Tryz.sizeOf202
 v146:=Tryz.zeroValue202
 g1:=by kernel_rfl
 g3:=by kernel_rfl
 g4:=by kernel_rfl}
open Go.RowKit Go.Lib in
theorem strings_Split(s sep:ByteArray)(m:Int)(w:World)(hs:s.size<4294967281)(hm:w.cell? ⟨0,0,none⟩=some (.int .i64 m))(h1:1<=sep.size):
  Calls Tryz.prog 48 #[.string s,.string sep] w λe w'=>e=.returned (.slice (some ⟨w.heap.size,0,none⟩) (Lib.countB s sep+1) (Lib.countB s sep+1))/\w'=w.alloc (.cells ((Lib.splitB sep 0 (Lib.countB s sep) s).map Value.string).toArray 9):=Any.strings_Split lays146 (by kernel_rfl) s sep m w hs hm h1
def lays193_ren:Go.Shelf.Ren:=⟨λ|193=>94|n=>n,λ|31=>28|9=>9|4=>4|3=>3|0=>0|n=>n,λ|n=>n⟩
theorem lays193:Go.Proofs.Lays.n193 Tryz.prog lays193_ren:={
 mixed:=by kernel_rfl
 f193:=Tryz.func94.trans (congrArg some (by kernel_rfl))
 t0:=Tryz.underlying0
 a0:=Tryz.isAgg0
 z0:=Tryz.sizeOf0
 v0:=Tryz.zeroValue0
 t3:=Tryz.underlying3
 a3:=Tryz.isAgg3
 z3:=Tryz.sizeOf3
 v3:=Tryz.zeroValue3
 t4:=Tryz.underlying4
 a4:=Tryz.isAgg4
 z4:=Tryz.sizeOf4
 v4:=Tryz.zeroValue4
 t9:=Tryz.underlying9
 a9:=Tryz.isAgg9
 z9:=Tryz.sizeOf9
 v9:=Tryz.zeroValue9
 t31:=Tryz.underlying28
 a31:=Tryz.isAgg28
 z31:=Tryz.sizeOf28
 v31:=Tryz.zeroValue28}
open Go.RowKit Go.Lib in
theorem slices_Equal_string(b1 o1 n c b2 o2 m d:Nat)(xs ys:List ByteArray)(w:World)(hx:n<=xs.length)(hy:m<=ys.length)(hbig:n<=9223372036854775807)(hbig2:m<=9223372036854775807)(hc1:∀j,j<xs.length->w.cell? ⟨b1,o1+j,none⟩=some (.string (xs.getD j ByteArray.empty)))(hc2:∀j,j<ys.length->w.cell? ⟨b2,o2+j,none⟩=some (.string (ys.getD j ByteArray.empty))):
  Calls Tryz.prog 94 #[.slice (some ⟨b1,o1,none⟩) n c,.slice (some ⟨b2,o2,none⟩) m d] w λe w'=>e=.returned (.bool (decide (xs.take n=ys.take m)))/\∃q,w'=w.drewN q:=Any.slices_Equal_string lays193 b1 o1 n c b2 o2 m d xs ys w hx hy hbig hbig2 hc1 hc2
open Go.RowKit Go.Lib in
theorem slices_Equal_string_empty(a1 a2:Option Addr)(c m d:Nat)(w:World)(hbig2:m<=9223372036854775807):
  Calls Tryz.prog 94 #[.slice a1 0 c,.slice a2 m d] w λe w'=>e=.returned (.bool (decide (m=0)))/\w'=w:=Any.slices_Equal_string_empty lays193 a1 a2 c m d w hbig2
def laysNm224_ren:Go.Shelf.Ren:=⟨λ|24=>146|n=>n,λ|24=>28|9=>9|3=>3|4=>4|0=>0|n=>n,λ|n=>n⟩
theorem laysNm224:Go.Proofs.Lays2.n24 Tryz.prog laysNm224_ren:={
 mixed:=by kernel_rfl
 f24:=Tryz.func146.trans (congrArg some (by kernel_rfl))
 t0:=Tryz.underlying0
 a0:=Tryz.isAgg0
 z0:=Tryz.sizeOf0
 v0:=Tryz.zeroValue0
 t3:=Tryz.underlying3
 a3:=Tryz.isAgg3
 z3:=Tryz.sizeOf3
 v3:=Tryz.zeroValue3
 t4:=Tryz.underlying4
 a4:=Tryz.isAgg4
 z4:=Tryz.sizeOf4
 v4:=Tryz.zeroValue4
 t9:=Tryz.underlying9
 a9:=Tryz.isAgg9
 z9:=Tryz.sizeOf9
 v9:=Tryz.zeroValue9
 t24:=Tryz.underlying28
 a24:=Tryz.isAgg28
 z24:=Tryz.sizeOf28
 v24:=Tryz.zeroValue28
 i9:=by kernel_rfl}
open Go.RowKit Go.Lib Go.Sort in
theorem slices_Delete_string(blk off cap i j:Nat)(zs:List (List UInt8))(w:World)(hH:Holds encStr w blk off zs.toArray)(hcap:zs.length<=cap)(hm:cap<=9223372036854775807)(hij:i<=j)(hj:j<=zs.length):
  Calls Tryz.prog 146 #[.slice (some ⟨blk,off,none⟩) zs.length cap,.int .i64 i,.int .i64 j] w λe w'=>e=.returned (.slice (some ⟨blk,off,none⟩) (zs.length-(j-i)) cap)/\∃q,w'=putRow encStr (Sort.ahead w q) blk off (zs.take i++zs.drop j++List.replicate (j-i) []).toArray:=Any.slices_Delete_string laysNm224 blk off cap i j zs w hH hcap hm hij hj
open Go.RowKit Go.Lib in
theorem slices_Equal_string_lens(a1 a2:Option Addr)(n c m d:Nat)(w:World)(hnm:n≠m):
  Calls Tryz.prog 94 #[.slice a1 n c,.slice a2 m d] w λe w'=>e=.returned (.bool false)/\w'=w:=Any.slices_Equal_string_lens lays193 a1 a2 n c m d w hnm
end XDesk
/- The contract of the library's bytes.Equal,at every two slices of bytes. -/
namespace CEqual
open Kit
theorem conv_run{w:World}{B:Nat}{A:Option Addr}{xs:List Int}(h:Rd w B A (ints .u8 xs))(c:Nat):(convert 22 9 (.slice A xs.length c)).run Tryz.prog w=.ok (.string (strOfNums xs)) w:=by
 cases xs with
 |nil=>
  cases A with
  |none=>exact run_convert_bytes_nil w 22 5 Tryz.underlying22 Tryz.underlying5 0 c 9 Tryz.underlying9
  |some a=>
   have hl:(loadCells a 0).run Tryz.prog w=.ok (([]:List Int).map (Value.int .u8)).toArray w:=by
    have:=run_loadCells_list (P:=Tryz.prog) w a [] (λj v hj=>by simp at hj);simpa using this
   have hl0:([]:List Int).length=0:=rfl;rw[hl0,run_convert_bytes_string w 22 9 5 _ 0 c Tryz.underlying22 Tryz.underlying5 Tryz.underlying9,run_bytesToString w _ 0 c [] hl]
   rfl
 |cons x r=>
  obtain⟨b,off,rfl,_⟩:=h.int (i:=0) (by simp);refine run_convert_bytes_arg w 22 5 Tryz.underlying22 Tryz.underlying5 b off _ c (x::r) rfl (λi hi=>?_) 9 Tryz.underlying9;obtain⟨b',off',e,_,hc⟩:=h.int hi;simp only[Option.some.injEq,Addr.mk.injEq,and_true]at e;obtain⟨rfl,rfl⟩:=e;rw[hc,List.getD_eq_getElem?_getD,List.getElem?_eq_getElem hi]
  rfl
end CEqual
/- The reference's decimal numbers: they are the library's. -/
namespace CNumTxt
open Kit CEqual
def dch(v:Nat):UInt8:=UInt8.ofNat (48+v%10)
def dpre(v:Nat):List UInt8:=if v<10 then[]else Lib.decDigits (v/10)
theorem dec_pre(v:Nat):Lib.decDigits v=dpre v++[dch v]:=by
 rw[Lib.decDigits];unfold dpre dch;split
 ·rename_i h;rw[show v%10=v by omega]
  rfl
 ·rfl
theorem dpre_next{v:Nat}(h:¬v<10):dpre v=dpre (v/10)++[dch (v/10)]:=by rw[<-dec_pre];unfold dpre;rw[if_neg h]
theorem str_add(a b:List UInt8):((⟨a.toArray⟩:ByteArray)++(⟨b.toArray⟩:ByteArray))=⟨(a++b).toArray⟩:=by
 apply ByteArray.ext
 simp
theorem conv_digit(W:World)(v:Nat):(convert 22 9 (.slice (some ⟨W.heap.size,0,none⟩) 1 1)).run Tryz.prog (W.alloc (.cells #[.int .u8 (48+(v:Int)%10)] 5))=.ok (.string ⟨[dch v].toArray⟩) (W.alloc (.cells #[.int .u8 (48+(v:Int)%10)] 5)):=by
 have h:Rd (W.alloc (.cells #[.int .u8 (48+(v:Int)%10)] 5)) (W.heap.size+1) (some ⟨W.heap.size,0,none⟩) (ints .u8 [48+(v:Int)%10]):=by
  intro i u hi
  match i,hi with
  |0,hi=>simp at hi;subst hi;exact⟨_,_,rfl,Nat.lt_succ_self _,(Box.new W 5 #[.int .u8 (48+(v:Int)%10)]).cell 0⟩
  |i+1,hi=>simp at hi
 have:=conv_run h 1;rw[show strOfNums [48+(v:Int)%10]=⟨[dch v].toArray⟩from by
  unfold strOfNums dch;simp only[List.map_cons,List.map_nil];rw[show(48+(v:Int)%10).toNat=48+v%10 by omega]]at this
 exact this
theorem l8Number_any(n:Int)(w:World)(h0:-1000000000<=n)(h1:n<=1000000000):
  Calls Tryz.prog 40 #[.int .i64 n] w (Ret (.string ⟨(Lib.itoa n).toArray⟩) w):=by
 by_cases hn:n<0
 ·obtain⟨u,rfl⟩:∃u:Nat,n=-(u:Int):=⟨n.natAbs,by omega⟩;have w1:IntKind.i64.wrap (u:Int)=u:=by rw[IntKind.wrap_i64];omega
  have hu1:1<=u:=by omega
  have e1:=conv_digit w u;go_enter Tryz.func40,Tryz.ntmps40
  go_wp2_with fail
  clear e1;go_loopw [0,4] (λx s wr=>∃(v:Nat) (l:List UInt8),x=.int .i64 v/\s=.string ⟨l.toArray⟩/\v<=u/\Lib.decDigits u=dpre v++l/\Below w.heap.size w wr) (λx _ _=>(intOf x).toNat)
  case atStart=>exact⟨u,_,rfl,rfl,Nat.le_refl _,dec_pre u,b_⟩
  case round=>
   obtain⟨v,l,rfl,rfl,hv,hd,hb⟩:=hrel;have hll:l.length<=20:=by have h:=congrArg List.length hd;rw[Lib.decDigits_length,List.length_append]at h;have:=Lib.nDigits_le20 u (by omega);omega
   have hl1:¬9223372036854775807<l.length:=by omega
   have hl2:¬9223372036854775807<1+l.length:=by omega
   have hl3:¬9223372036854775807<l.length+1:=by omega
   have HD:=h_ hd;have HB:=h_ hb;clear hd hb;by_cases h9:v<10
   ·have HV:=h_ (show((⟨#[45]⟩:ByteArray)++(⟨l.toArray⟩:ByteArray))=⟨(Lib.itoa (-(u:Int))).toArray⟩from by
     rw[show((⟨#[45]⟩:ByteArray)++(⟨l.toArray⟩:ByteArray))=⟨([45]++l).toArray⟩from str_add [45] l];have h:=HD.o;rw[dpre,if_pos h9,List.nil_append]at h;rw[Lib.itoa_neg u hu1,h]
     rfl)
    go_wp2_with fail
    rw[HV.o];go_ret;exact⟨rfl,HB.o⟩
   ·have e1:=conv_digit wr (v/10);rw[show((v/10:Nat):Int)=(v:Int)/10 from by omega]at e1;have HV:=h_ (str_add [dch (v/10)] l);have HN:=h_ (show(v:Int)/10=((v/10:Nat):Int)from by omega);have HP:=h_ (dpre_next h9);go_wp2_with fail
    go_roundw
    case rel=>refine⟨v/10,[dch (v/10)]++l,by rw[HN.o],by rw[<-HV.o],by omega,?_,HB.o.alloc HB.o.size _⟩;rw[HD.o,HP.o,List.append_assoc]
    case measure=>simp[intOf];omega
 ·obtain⟨u,rfl⟩:∃u:Nat,n=u:=⟨n.toNat,by omega⟩;have e1:=conv_digit w u;go_enter Tryz.func40,Tryz.ntmps40
  go_wp2_with fail
  clear e1;go_loopw [0,4] (λx s wr=>∃(v:Nat) (l:List UInt8),x=.int .i64 v/\s=.string ⟨l.toArray⟩/\v<=u/\Lib.decDigits u=dpre v++l/\Below w.heap.size w wr) (λx _ _=>(intOf x).toNat)
  case atStart=>exact⟨u,_,rfl,rfl,Nat.le_refl _,dec_pre u,b_⟩
  case round=>
   obtain⟨v,l,rfl,rfl,hv,hd,hb⟩:=hrel;have hll:l.length<=20:=by have h:=congrArg List.length hd;rw[Lib.decDigits_length,List.length_append]at h;have:=Lib.nDigits_le20 u (by omega);omega
   have hl1:¬9223372036854775807<l.length:=by omega
   have hl2:¬9223372036854775807<1+l.length:=by omega
   have hl3:¬9223372036854775807<l.length+1:=by omega
   have HD:=h_ hd;have HB:=h_ hb;clear hd hb;by_cases h9:v<10
   ·have HV:=h_ (show((⟨#[]⟩:ByteArray)++(⟨l.toArray⟩:ByteArray))=⟨(Lib.itoa (u:Int)).toArray⟩from by
     rw[show((⟨#[]⟩:ByteArray)++(⟨l.toArray⟩:ByteArray))=⟨l.toArray⟩from str_add [] l];have h:=HD.o;rw[dpre,if_pos h9,List.nil_append]at h;rw[Lib.itoa,if_neg (by omega),show(u:Int).toNat=u from rfl,h])
    go_wp2_with fail
    rw[HV.o];go_ret;exact⟨rfl,HB.o⟩
   ·have e1:=conv_digit wr (v/10);rw[show((v/10:Nat):Int)=(v:Int)/10 from by omega]at e1;have HV:=h_ (str_add [dch (v/10)] l);have HN:=h_ (show(v:Int)/10=((v/10:Nat):Int)from by omega);have HP:=h_ (dpre_next h9);go_wp2_with fail
    go_roundw
    case rel=>refine⟨v/10,[dch (v/10)]++l,by rw[HN.o],by rw[<-HV.o],by omega,?_,HB.o.alloc HB.o.size _⟩;rw[HD.o,HP.o,List.append_assoc]
    case measure=>simp[intOf];omega
end CNumTxt
/- Decimal numbers,read and written; and texts divided at a byte: plain. -/
namespace PNum
open CNumTxt
def dfold(acc:Int):List UInt8->Int
 |[]=>acc
 |c::r=>dfold (10*acc+c.toNat-48) r
theorem dfold_snoc(acc:Int)(l:List UInt8)(c:UInt8):dfold acc (l++[c])=10*dfold acc l+c.toNat-48:=by
 induction l generalizing acc with
 |nil=>rfl
 |cons x l ih=>exact ih _
theorem dig_toNat(v:Nat):(dch v).toNat=48+v%10:=by unfold dch;rw[UInt8.toNat_ofNat'];omega
theorem dfold_dec(u:Nat)(r:List UInt8):dfold 0 (Lib.decDigits u++r)=dfold u r:=by
 induction u using Nat.strongRecOn generalizing r with
 |ind u ih=>
  rw[dec_pre];unfold dpre;by_cases h:u<10
  ·rw[if_pos h];show dfold (10*0+(dch u).toNat-48) r=_
   rw[dig_toNat];congr 1
   omega
  ·rw[if_neg h,List.append_assoc,ih (u/10) (by omega)];show dfold (10*((u/10:Nat):Int)+(dch u).toNat-48) r=_
   rw[dig_toNat];congr 1
   omega
theorem parse_dec(u:Nat)(hu:u<=1000000)(r:List UInt8):Lib.parseUint10 0 (Lib.decDigits u++r)=Lib.parseUint10 u r:=by
 induction u using Nat.strongRecOn generalizing r with
 |ind u ih=>
  rw[dec_pre];unfold dpre;by_cases h:u<10
  ·rw[if_pos h];show Lib.parseUint10 0 (dch u::r)=_
   rw[Lib.parseUint10,dig_toNat,if_pos (by omega),if_neg (by omega),if_neg (by omega)];congr 1
   omega
  ·rw[if_neg h,List.append_assoc,ih (u/10) (by omega) (by omega)];show Lib.parseUint10 (u/10) (dch u::r)=_
   rw[Lib.parseUint10,dig_toNat,if_pos (by omega),if_neg (by omega),if_neg (by omega)];congr 1
   omega
theorem dec_ne(u:Nat):Lib.decDigits u≠[]:=by rw[dec_pre];simp
theorem dec_digit(u:Nat):∀c∈Lib.decDigits u,48<=c.toNat/\c.toNat<=57:=by
 induction u using Nat.strongRecOn with
 |ind u ih=>
  intro c hc;rw[dec_pre]at hc;rcases List.mem_append.1 hc with hc|hc
  ·unfold dpre at hc;split at hc
   ·cases hc
   ·exact ih (u/10) (by omega) c hc
  ·simp only[List.mem_singleton]at hc;subst hc;rw[dig_toNat];omega
theorem itoa_nat(u:Nat):Lib.itoa (u:Int)=Lib.decDigits u:=by unfold Lib.itoa;rw[if_neg (by omega)];simp
theorem parseMag_dec(u:Nat)(hu:u<=1000000):Lib.parseMag (Lib.decDigits u)=.ok u:=by
 unfold Lib.parseMag;rw[if_neg (dec_ne u)];have:=parse_dec u hu [];rw[List.append_nil]at this;rw[this]
 rfl
theorem neg_of{b:Int}(h:b<0):∃u:Nat,b=-(u:Int)/\1<=u:=⟨b.natAbs,by omega,by omega⟩
theorem atoi_itoa{b:Int}(h0:-1000000<=b)(h1:b<=1000000):Lib.atoiAll (Lib.itoa b)=.ok b:=by
 by_cases hb:b<0
 ·obtain⟨u,rfl,hu⟩:=neg_of hb;rw[Lib.itoa_neg u hu,Lib.atoiAll_minus,parseMag_dec u (by omega)];unfold Lib.signed;simp only;rw[if_neg (by omega)]
 ·obtain⟨u,rfl⟩:=Int.eq_ofNat_of_zero_le (show 0<=b by omega);rw[itoa_nat];have hp:=parseMag_dec u (by omega);have hd:=dec_digit u;cases hl:Lib.decDigits u with
  |nil=>exact absurd hl (dec_ne u)
  |cons c r=>rw[hl]at hp hd;have hc:=hd c (by simp);rw[Lib.atoiAll_plain c r (by omega) (by omega),hp];unfold Lib.signless;simp only;rw[if_neg (by omega)]
def rdV:List UInt8->Int
 |[]=>0
 |c::r=>if c=45 then -dfold 0 r else dfold 0 (c::r)
def rdN(l:List UInt8):Int:=if l.length<=6/\Lib.itoa (rdV l)=l then rdV l else 99999
theorem rdV_itoa(b:Int):rdV (Lib.itoa b)=b:=by
 by_cases hb:b<0
 ·obtain⟨u,rfl,hu⟩:=neg_of hb;rw[Lib.itoa_neg u hu,rdV,if_pos rfl];have:=dfold_dec u [];rw[List.append_nil]at this;rw[this]
  rfl
 ·obtain⟨u,rfl⟩:=Int.eq_ofNat_of_zero_le (show 0<=b by omega);rw[itoa_nat];have hd:=dec_digit u;have hf:=dfold_dec u [];rw[List.append_nil]at hf;cases hl:Lib.decDigits u with
  |nil=>exact absurd hl (dec_ne u)
  |cons c r=>
   rw[hl]at hd hf;have hc:=hd c (by simp);rw[rdV,if_neg (by rintro rfl;have:(45:UInt8).toNat=45:=rfl;omega),hf]
   rfl
theorem dec_len(u:Nat)(h:u<=99999):1<=(Lib.decDigits u).length/\(Lib.decDigits u).length<=5:=by
 rw[Lib.decDigits_length];refine⟨Lib.nDigits_pos u,?_⟩;rw[Lib.nDigits];split
 ·omega
 rw[Lib.nDigits];split
 ·omega
 rw[Lib.nDigits];split
 ·omega
 rw[Lib.nDigits];split
 ·omega
 rw[Lib.nDigits_small (by omega)];decide
theorem itoa_len{b:Int}(h0:-99999<=b)(h1:b<=99999):1<=(Lib.itoa b).length/\(Lib.itoa b).length<=6:=by
 by_cases hb:b<0
 ·obtain⟨u,rfl,hu⟩:=neg_of hb;have:=dec_len u (by omega);rw[Lib.itoa_neg u hu,List.length_cons];omega
 ·obtain⟨u,rfl⟩:=Int.eq_ofNat_of_zero_le (show 0<=b by omega);have:=dec_len u (by omega);rw[itoa_nat];omega
theorem rdN_itoa{b:Int}(h0:-99999<=b)(h1:b<=99999):rdN (Lib.itoa b)=b:=by unfold rdN;rw[rdV_itoa,if_pos ⟨(itoa_len h0 h1).2,rfl⟩]
theorem rdN_cases(l:List UInt8):rdN l=99999\/Lib.itoa (rdN l)=l:=by
 unfold rdN;split
 ·rename_i h;exact .inr h.2
 ·exact .inl rfl
theorem itoa_byte(b:Int):∀c∈Lib.itoa b,c.toNat=45\/(48<=c.toNat/\c.toNat<=57):=by
 intro c hc;by_cases hb:b<0
 ·obtain⟨u,rfl,hu⟩:=neg_of hb;rw[Lib.itoa_neg u hu]at hc;rcases List.mem_cons.1 hc with rfl|hc
  ·exact .inl rfl
  ·exact .inr (dec_digit u c hc)
 ·obtain⟨u,rfl⟩:=Int.eq_ofNat_of_zero_le (show 0<=b by omega);rw[itoa_nat]at hc;exact .inr (dec_digit u c hc)
theorem itoa_digit(b:Int)(k:Nat)(c:UInt8)(h:(Lib.itoa b)[k]?=some c)(hk:0<k\/c≠45):48<=c.toNat/\c.toNat<=57:=by
 by_cases hb:b<0
 ·obtain⟨u,rfl,hu⟩:=neg_of hb;rw[Lib.itoa_neg u hu]at h;cases k with
  |zero=>
   simp only[List.getElem?_cons_zero,Option.some.injEq]at h;rcases hk with hk|hk
   ·omega
   ·exact absurd h.symm hk
  |succ k=>rw[List.getElem?_cons_succ]at h;exact dec_digit u c (List.mem_of_getElem? h)
 ·obtain⟨u,rfl⟩:=Int.eq_ofNat_of_zero_le (show 0<=b by omega);rw[itoa_nat]at h;exact dec_digit u c (List.mem_of_getElem? h)
theorem itoa_no{c:UInt8}(hc:c.toNat<45\/57<c.toNat)(b:Int):c∉Lib.itoa b:=λh=>by have:=itoa_byte b c h;omega
theorem rdN_long{l:List UInt8}(h:6<l.length):rdN l=99999:=if_neg (λh'=>by omega)
theorem rdN_bad{l:List UInt8}{k:Nat}{c:UInt8}(h:l[k]?=some c)(hk:0<k\/c≠45)(hc:c.toNat<48\/57<c.toNat):rdN l=99999:=by refine if_neg λh'=>?_;rw[<-h'.2]at h;have:=itoa_digit _ k c h hk;omega
def canon(l:List UInt8):Option Int:=match Lib.atoiAll l with
 | .ok v=>if Lib.itoa v=l then some v else none
 |_=>none
theorem canon_itoa{b:Int}(h0:-1000000<=b)(h1:b<=1000000):canon (Lib.itoa b)=some b:=by unfold canon;rw[atoi_itoa h0 h1];exact if_pos rfl
theorem canon_some{l:List UInt8}{v:Int}(h:canon l=some v):Lib.itoa v=l:=by
 unfold canon at h;split at h
 ·split at h
  ·injection h with h;subst h;assumption
  ·cases h
 ·cases h
/-! ### Texts divided at a byte -/
def headC(b:UInt8):List (List UInt8)->List (List UInt8)
 |[]=>[[b]]
 |x::r=>(b::x)::r
def splt(c:UInt8):List UInt8->List (List UInt8)
 |[]=>[[]]
 |b::l=>if b=c then[]::splt c l else headC b (splt c l)
def lastC(b:UInt8):List (List UInt8)->List (List UInt8)
 |[]=>[[b]]
 |[x]=>[x++[b]]
 |x::y::r=>x::lastC b (y::r)
theorem headC_ne(b:UInt8)(l:List (List UInt8)):headC b l≠[]:=by cases l<;>simp[headC]
theorem splt_ne(c:UInt8)(l:List UInt8):splt c l≠[]:=by
 cases l with
 |nil=>simp[splt]
 |cons b l=>
  rw[splt];split
  ·simp
  ·exact headC_ne b _
theorem splt_len(c:UInt8)(l:List UInt8):1<=(splt c l).length/\(splt c l).length<=l.length+1:=by
 induction l with
 |nil=>simp[splt]
 |cons b l ih=>
  rw[splt];split
  ·simp only[List.length_cons];omega
  ·cases h:splt c l with
   |nil=>exact absurd h (splt_ne c l)
   |cons x r=>rw[h]at ih;simp only[headC,List.length_cons]at ih ⊢;omega
theorem splt_snoc(c:UInt8)(l:List UInt8)(b:UInt8):splt c (l++[b])=if b=c then splt c l++[[]]else lastC b (splt c l):=by
 induction l with
 |nil=>
  simp only[List.nil_append,splt,headC,lastC];split<;>rfl
 |cons a l ih=>
  rw[List.cons_append,splt,splt,ih];by_cases hb:b=c
  ·simp only[if_pos hb];split
   ·rfl
   ·cases h:splt c l with
    |nil=>exact absurd h (splt_ne c l)
    |cons x r=>rfl
  ·simp only[if_neg hb];cases h:splt c l with
   |nil=>exact absurd h (splt_ne c l)
   |cons x r=>
    split
    ·rfl
    ·cases r with
     |nil=>rfl
     |cons y r=>rfl
theorem lastC_snoc(b:UInt8)(l:List (List UInt8))(x:List UInt8):lastC b (l++[x])=l++[x++[b]]:=by
 induction l with
 |nil=>rfl
 |cons a l ih=>
  cases l with
  |nil=>rfl
  |cons a' l=>rw[List.cons_append,List.cons_append,lastC,<-List.cons_append,ih];rfl
theorem splt_whole(c:UInt8){l:List UInt8}(h:c∉l):splt c l=[l]:=by
 induction l with
 |nil=>rfl
 |cons b l ih=>
  rw[splt,if_neg (λe=>h (by simp[e])),ih (λhc=>h (by simp[hc]))]
  rfl
theorem splt_cut(c:UInt8){x:List UInt8}(h:c∉x)(r:List UInt8):splt c (x++c::r)=x::splt c r:=by
 induction x with
 |nil=>simp[splt]
 |cons b x ih=>
  rw[List.cons_append,splt,if_neg (λe=>h (by simp[e])),ih (λhc=>h (by simp[hc]))]
  rfl
def joinC(c:UInt8):List (List UInt8)->List UInt8
 |[]=>[]
 |[x]=>x
 |x::y::r=>x++c::joinC c (y::r)
theorem splt_join(c:UInt8):∀(ws:List (List UInt8)),ws≠[]->(∀w∈ws,c∉w)->splt c (joinC c ws)=ws
 |[],h,_=>absurd rfl h
 |[x],_,h=>splt_whole c (h x (by simp))
 |x::y::r,_,h=>by rw[joinC,splt_cut c (h x (by simp)),splt_join c (y::r) (by simp) (λw hw=>h w (by simp[List.mem_cons.1 hw]))]
theorem join_snoc(c:UInt8):∀(ws:List (List UInt8)) (x:List UInt8),ws≠[]->joinC c (ws++[x])=joinC c ws++c::x
 |[],_,h=>absurd rfl h
 |[a],x,_=>by simp[joinC]
 |a::b::r,x,_=>by have:=join_snoc c (b::r) x (by simp);simp only[List.cons_append]at this ⊢;rw[joinC,joinC,this];simp
theorem index_none{c:UInt8}:∀{l:List UInt8},c∉l->Lib.index l [c]=-1
 |[],_=>by simp[Lib.index]
 |b::l,h=>by
  have hb:b≠c:=λe=>h (by simp[e]);have hp:([c]:List UInt8).isPrefixOf (b::l)=false:=by simp[List.isPrefixOf,Ne.symm hb]
  rw[Lib.index,hp,index_none (l:=l) (λhc=>h (by simp[hc]))];simp
theorem index_cut{c:UInt8}:∀{x:List UInt8} (_:c∉x) (r:List UInt8),Lib.index (x++c::r) [c]=(x.length:Int)
 |[],_,r=>by simp[Lib.index,List.isPrefixOf]
 |b::x,h,r=>by
  have hb:b≠c:=λe=>h (by simp[e]);have hp:([c]:List UInt8).isPrefixOf (b::(x++c::r))=false:=by simp[List.isPrefixOf,Ne.symm hb]
  rw[List.cons_append,Lib.index,hp,index_cut (x:=x) (λhc=>h (by simp[hc])) r];have hn:¬((x.length:Int)== -1)=true:=by simp
  simp only[Bool.false_eq_true,if_false];rw[if_neg hn,List.length_cons];omega
theorem cut_or(c:UInt8)(l:List UInt8):c∉l\/∃x r,l=x++c::r/\c∉x:=by
 induction l with
 |nil=>exact .inl (by simp)
 |cons b l ih=>
  by_cases hb:b=c
  ·exact .inr ⟨[],l,by simp[hb],by simp⟩
  ·rcases ih with h|⟨x,r,rfl,h⟩
   ·exact .inl (by simp[Ne.symm hb,h])
   ·exact .inr ⟨b::x,r,rfl,by simp[Ne.symm hb,h]⟩
theorem splitK_splt(c:UInt8):∀(k:Nat) (l:List UInt8),l.count c=k->Lib.splitK [c] 0 k l=splt c l
 |0,l,h=>by
  rw[splt_whole c (List.count_eq_zero.1 h)]
  rfl
 |k+1,l,h=>by
  rcases cut_or c l with h'|⟨x,r,rfl,hx⟩
  ·rw[List.count_eq_zero.2 h']at h;omega
  ·rw[Lib.splitK,index_cut hx,splt_cut c hx,if_neg (by simp)];rw[show((x.length:Int)).toNat=x.length from rfl,Nat.add_zero,List.take_left];rw[show x.length+([c]:List UInt8).length=(x++[c]).length by simp,show x++c::r=(x++[c])++r by simp,List.drop_left];rw[splitK_splt c k r ?_];rw[List.count_append,List.count_eq_zero.2 hx,List.count_cons_self]at h;omega
theorem split_splt(c:UInt8)(l:List UInt8):Lib.splitK [c] 0 (Lib.count l [c]) l=splt c l:=by rw[Lib.count_one];exact splitK_splt c _ l rfl
end PNum
/- Contracts of the laws' helpers on Fixup: the copy,the comparison of equal data,the marks. Written by a program. -/
namespace CFixups
open Kit
theorem info:(Tryz.prog.info? 65).map (λi=>(i.zero,i.size,i.bytes))=some (some (.agg #[.int .i64 0,.int .i64 0,.int .i64 0,.int .i64 0]),4,32):=by kernel_rfl
abbrev D:=Int×Int×Int×Int
def fixupC(r:D):List Value:=[.int .i64 r.1,.int .i64 r.2.1,.int .i64 r.2.2.1,.int .i64 r.2.2.2]
theorem fixupC_len(r:D):(fixupC r).length=4:=rfl
end CFixups
/- Contracts of the laws' helpers on Symbol: the copy,the comparison of equal data,the marks. Written by a program. -/
namespace CSymbols
open Kit
theorem info:(Tryz.prog.info? 67).map (λi=>(i.zero,i.size,i.bytes))=some (some (.agg #[.string ByteArray.empty,.int .i64 0,.int .i64 0,.int .i64 0]),4,40):=by kernel_rfl
abbrev D:=ByteArray×Int×Int×Int
def symbolC(r:D):List Value:=[.string r.1,.int .i64 r.2.1,.int .i64 r.2.2.1,.int .i64 r.2.2.2]
theorem symbolC_len(r:D):(symbolC r).length=4:=rfl
end CSymbols
/- Objects as values: their sections and symbols,where these lie,and the plain data. -/
namespace PObj
open Kit CFixups CSymbols
abbrev FD:=CFixups.D
abbrev YD:=CSymbols.D
structure SV where
 nm:ByteArray
 kd:Int
 al:Int
 A:Option Addr
 c:Nat
 zs:List Int
 sz:Int
 F:Option Addr
 fc:Nat
 fs:List FD
structure SD where
 nm:ByteArray
 kd:Int
 al:Int
 zs:List Int
 sz:Int
 fs:List FD
def SV.d (p:SV):SD:=⟨p.nm,p.kd,p.al,p.zs,p.sz,p.fs⟩
def secC(p:SV):List Value:=[.string p.nm,.int .i64 p.kd,.int .i64 p.al,.slice p.A p.zs.length p.c,.int .i64 p.sz,.slice p.F p.fs.length p.fc]
theorem secC_len(p:SV):(secC p).length=6:=rfl
structure OV where
 A:Option Addr
 c:Nat
 ps:List SV
 Y:Option Addr
 yc:Nat
 ys:List YD
structure OD where
 ss:List SD
 ys:List YD
def OV.d (o:OV):OD:=⟨o.ps.map SV.d,o.ys⟩
def OV.v (o:OV):Value:=.agg #[.slice o.A o.ps.length o.c,.slice o.Y o.ys.length o.yc]
end PObj
/- What turns,block by block. -/
namespace Kit

structure Gp(p:Nat->Prop)(w w':World):Prop where
 os:w'.os=w.os
 tape:w'.tape=w.tape
 output:w'.output=w.output
 size:w.heap.size<=w'.heap.size
 block:∀k,k<w.heap.size->¬p k->w'.heap[k]?=w.heap[k]?
section
variable {p q:Nat->Prop}{w w' w'':World}
theorem Gp.mono (h:Gp p w w')(hp:∀k,p k->q k):Gp q w w':=⟨h.os,h.tape,h.output,h.size,λk hk hq=>h.block k hk (λh=>hq (hp k h))⟩
theorem Gp.row {base:Nat}{e:TypeId}{size n c:Nat}{A:Option Addr}{xs:List Value}(g:Gp p w w')(h:Row w base e size A n c xs)(hp:∀k,blk A c=some k->¬p k):Row w' base e size A n c xs:=
 h.keep λk hk=>g.block k (h.lt k hk).2 (hp k hk)
end
end Kit
/- Contracts of the laws' helpers on []byte: the copy,the comparison,the marks. -/
namespace CBytes
open Kit
theorem info8:(Tryz.prog.info? 5).map (λi=>(i.zero,i.size,i.bytes))=some (some (.int .u8 0),1,1):=by kernel_rfl
end CBytes
/- Objects in memory: what is read,what is the call's own. -/
namespace BObj
open Kit CFixups CSymbols PObj
theorem info:(Tryz.prog.info? 61).map (λi=>(i.zero,i.size,i.bytes))=some (some (.agg #[.string ByteArray.empty,.int .i64 0,.int .i64 0,.slice none 0 0,.int .i64 0,.slice none 0 0]),6,88):=by kernel_rfl
def RwS(w:World)(base:Nat)(p:SV):Prop:=Row w base 5 1 p.A p.zs.length p.c (ints .u8 p.zs)/\Row w base 65 4 p.F p.fs.length p.fc (cellsOf fixupC p.fs)
def RdS(w:World)(B:Nat)(p:SV):Prop:=Rd w B p.A (ints .u8 p.zs)/\Rd w B p.F (cellsOf fixupC p.fs)
def ApS(p q:SV):Prop:=Apart p.A p.c q.A q.c/\Apart p.F p.fc q.F q.fc
def RwSs(w:World)(base:Nat)(ps:List SV):Prop:=∀p∈ps,RwS w base p
def RdSs(w:World)(B:Nat)(A:Option Addr)(ps:List SV):Prop:=Rd w B A (cellsOf secC ps)/\∀p∈ps,RdS w B p
def PwSs(ps:List SV):Prop:=ps.Pairwise ApS
def OwnSs(w:World)(base:Nat)(A:Option Addr)(c:Nat)(ps:List SV):Prop:=Row w base 61 6 A ps.length c (cellsOf secC ps)/\RwSs w base ps/\PwSs ps
def RdO(w:World)(B:Nat)(o:OV):Prop:=RdSs w B o.A o.ps/\Rd w B o.Y (cellsOf symbolC o.ys)
def OwnO(w:World)(base:Nat)(o:OV):Prop:=OwnSs w base o.A o.c o.ps/\Row w base 67 4 o.Y o.ys.length o.yc (cellsOf symbolC o.ys)
def sblk(p:SV)(k:Nat):Prop:=blk p.A p.c=some k\/blk p.F p.fc=some k
def ssblk(A:Option Addr)(c:Nat)(ps:List SV)(k:Nat):Prop:=blk A c=some k\/∃p∈ps,sblk p k
def oblk(o:OV)(k:Nat):Prop:=ssblk o.A o.c o.ps k\/blk o.Y o.yc=some k
section
variable {w w':World}{B B' base:Nat}{A:Option Addr}{c:Nat}{ps:List SV}{p:SV}{o:OV}
theorem RdS.below (h:RdS w B p)(hb:Below B w w'):RdS w' B p:=⟨h.1.below hb,h.2.below hb⟩
theorem RdS.more (h:RdS w B p)(hB:B<=B'):RdS w B' p:=⟨h.1.more hB,h.2.more hB⟩
theorem RdSs.below (h:RdSs w B A ps)(hb:Below B w w'):RdSs w' B A ps:=⟨h.1.below hb,λp hp=>(h.2 p hp).below hb⟩
theorem RdSs.more (h:RdSs w B A ps)(hB:B<=B'):RdSs w B' A ps:=⟨h.1.more hB,λp hp=>(h.2 p hp).more hB⟩
theorem RdO.below (h:RdO w B o)(hb:Below B w w'):RdO w' B o:=⟨h.1.below hb,h.2.below hb⟩
theorem RdO.more (h:RdO w B o)(hB:B<=B'):RdO w B' o:=⟨h.1.more hB,h.2.more hB⟩
theorem RwS.rd (h:RwS w base p):RdS w w.heap.size p:=⟨h.1.rd,h.2.rd⟩
theorem OwnSs.rd (h:OwnSs w base A c ps):RdSs w w.heap.size A ps:=⟨h.1.rd,λp hp=>(h.2.1 p hp).rd⟩
theorem OwnO.rd (h:OwnO w base o):RdO w w.heap.size o:=⟨h.1.rd,h.2.rd⟩
theorem RwS.lt (h:RwS w base p):∀k,sblk p k->base<=k/\k<w.heap.size:=by
 rintro k (hk|hk)
 ·exact h.1.lt k hk
 ·exact h.2.lt k hk
theorem OwnSs.lt (h:OwnSs w base A c ps):∀k,ssblk A c ps k->base<=k/\k<w.heap.size:=by
 rintro k (hk|⟨p,hp,hk⟩)
 ·exact h.1.lt k hk
 ·exact(h.2.1 p hp).lt k hk
theorem OwnO.lt (h:OwnO w base o):∀k,oblk o k->base<=k/\k<w.heap.size:=by
 rintro k (hk|hk)
 ·exact h.1.lt k hk
 ·exact h.2.lt k hk
theorem RwS.keep (h:RwS w base p)(hk:∀k,sblk p k->w'.heap[k]?=w.heap[k]?):RwS w' base p:=⟨h.1.keep λk hb=>hk k (.inl hb),h.2.keep λk hb=>hk k (.inr hb)⟩
theorem RwS.call (h:RwS w base p)(hb:Below w.heap.size w w'):RwS w' base p:=h.keep λk hk=>hb.block k (h.lt k hk).2
theorem RwS.down {b:Nat}(h:RwS w base p)(hb:b<=base):RwS w b p:=⟨h.1.down hb,h.2.down hb⟩
theorem RwS.set (h:RwS w base p){a:Addr}(ha:∀k,sblk p k->k≠a.block)(u:Value):RwS (w.setCell a u) base p:=h.keep λk hk=>Below.heap_setCell w a u k (ha k hk)
theorem RwSs.call (h:RwSs w base ps)(hb:Below w.heap.size w w'):RwSs w' base ps:=λp hp=>(h p hp).call hb
theorem RwSs.down {b:Nat}(h:RwSs w base ps)(hb:b<=base):RwSs w b ps:=λp hp=>(h p hp).down hb
theorem OwnSs.keep (h:OwnSs w base A c ps)(hk:∀k,ssblk A c ps k->w'.heap[k]?=w.heap[k]?):OwnSs w' base A c ps:=
 ⟨h.1.keep λk hb=>hk k (.inl hb),λp hp=>(h.2.1 p hp).keep λk hb=>hk k (.inr ⟨p,hp,hb⟩),h.2.2⟩
theorem OwnSs.call (h:OwnSs w base A c ps)(hb:Below w.heap.size w w'):OwnSs w' base A c ps:=h.keep λk hk=>hb.block k (h.lt k hk).2
theorem OwnSs.down {b:Nat}(h:OwnSs w base A c ps)(hb:b<=base):OwnSs w b A c ps:=⟨h.1.down hb,h.2.1.down hb,h.2.2⟩
theorem OwnO.keep (h:OwnO w base o)(hk:∀k,oblk o k->w'.heap[k]?=w.heap[k]?):OwnO w' base o:=⟨h.1.keep λk hb=>hk k (.inl hb),h.2.keep λk hb=>hk k (.inr hb)⟩
theorem OwnO.call (h:OwnO w base o)(hb:Below w.heap.size w w'):OwnO w' base o:=h.keep λk hk=>hb.block k (h.lt k hk).2
theorem OwnO.down {b:Nat}(h:OwnO w base o)(hb:b<=base):OwnO w b o:=⟨h.1.down hb,h.2.down hb⟩
theorem OwnO.gp {q:Nat->Prop}(g:Gp q w w')(h:OwnO w base o)(hp:∀k,oblk o k->¬q k):OwnO w' base o:=h.keep λk hk=>g.block k (h.lt k hk).2 (hp k hk)
theorem RwSs.snoc {q:SV}(h:RwSs w base ps)(hq:RwS w base q):RwSs w base (ps++[q]):=by
 intro p hp;rcases List.mem_append.1 hp with hp|hp
 ·exact h p hp
 ·obtain rfl:=List.mem_singleton.1 hp;exact hq
theorem PwSs.snoc {q:SV}{N:Nat}(h:PwSs ps)(h1:∀p∈ps,∀k,sblk p k->k<N)(h2:∀k,sblk q k->N<=k):PwSs (ps++[q]):=by
 refine List.pairwise_append.2 ⟨h,List.pairwise_singleton _ _,λa ha b hb=>?_⟩;obtain rfl:=List.mem_singleton.1 hb;refine⟨λk hk hk'=>?_,λk hk hk'=>?_⟩
 ·have e1:=h1 a ha k (.inl hk);have e2:=h2 k (.inl hk');omega
 ·have e1:=h1 a ha k (.inr hk);have e2:=h2 k (.inr hk');omega
theorem RwS.box (h:RwS w base p){X:Nat}{t:TypeId}{cs:Array Value}(hb:Box w X t cs)(h1:5≠t)(h2:65≠t):∀k,sblk p k->k≠X:=by
 rintro k (hk|hk)
 ·exact h.1.box hb h1 k hk
 ·exact h.2.box hb h2 k hk
end
theorem box_of_own{w:World}{base g n c size:Nat}{e:TypeId}{xs:List Value}(h:w.ownsRow base e size (.slice (some ⟨g,0,none⟩) n c) n xs):∃cs,Box w g e cs:=by
 rcases h.2 with⟨hv,_⟩|⟨g',cap,cur,hv,_,hg,_⟩
 ·cases hv
 ·injection hv with hA;simp only[Option.some.injEq,Addr.mk.injEq,and_true]at hA;subst hA;exact⟨cur,hg⟩
theorem cells_snoc(qs:List SV)(q:SV):cellsOf secC (qs++[q])=cellsOf secC qs++secC q:=by simp[cellsOf]
def put6(w:World)(Y:Nat)(i:Nat)(v0 v1 v2 v3 v4 v5:Value):World:=(((((w.setCell ⟨Y,i,none⟩ v0).setCell ⟨Y,i+1,none⟩ v1).setCell ⟨Y,i+2,none⟩ v2).setCell ⟨Y,i+3,none⟩ v3).setCell ⟨Y,i+4,none⟩ v4).setCell ⟨Y,i+5,none⟩ v5
section
variable {w a:World}{B Y i:Nat}{v0 v1 v2 v3 v4 v5:Value}
theorem put6_below(h:Below B a w)(hY:B<=Y):Below B a (put6 w Y i v0 v1 v2 v3 v4 v5):=
 (((((h.setCell (p:=⟨Y,i,none⟩) hY v0).setCell (p:=⟨Y,i+1,none⟩) hY v1).setCell (p:=⟨Y,i+2,none⟩) hY v2).setCell (p:=⟨Y,i+3,none⟩) hY v3).setCell (p:=⟨Y,i+4,none⟩) hY v4).setCell (p:=⟨Y,i+5,none⟩) hY v5
theorem put6_rwS{base:Nat}{p:SV}(h:RwS w base p)(hk:∀k,sblk p k->k≠Y):RwS (put6 w Y i v0 v1 v2 v3 v4 v5) base p:=
 (((((h.set (a:=⟨Y,i,none⟩) hk v0).set (a:=⟨Y,i+1,none⟩) hk v1).set (a:=⟨Y,i+2,none⟩) hk v2).set (a:=⟨Y,i+3,none⟩) hk v3).set (a:=⟨Y,i+4,none⟩) hk v4).set (a:=⟨Y,i+5,none⟩) hk v5
theorem put6_box{t:TypeId}{u0 u1 u2 u3 u4 u5:Value}(h:Box w Y t #[u0,u1,u2,u3,u4,u5]):Box (put6 w Y 0 v0 v1 v2 v3 v4 v5) Y t #[v0,v1,v2,v3,v4,v5]:=
 (((((h.set 0 v0).set 1 v1).set 2 v2).set 3 v3).set 4 v4).set 5 v5
end
theorem six_box{w:World}{Y:Nat}{t:TypeId}{u0 u1 u2 u3 u4 u5:Value}(h:Box w Y t #[u0,u1,u2,u3,u4,u5])(v0 v1 v2 v3 v4 v5:Value):
  Box ((((((w.setCell ⟨Y,0,none⟩ v0).setCell ⟨Y,1,none⟩ v1).setCell ⟨Y,2,none⟩ v2).setCell ⟨Y,3,none⟩ v3).setCell ⟨Y,4,none⟩ v4).setCell ⟨Y,5,none⟩ v5) Y t #[v0,v1,v2,v3,v4,v5]:=
 (((((h.set 0 v0).set 1 v1).set 2 v2).set 3 v3).set 4 v4).set 5 v5
def RetS(p:SD)(w:World)(e:Ending)(w':World):Prop:=∃q:SV,e=.returned (.agg (secC q).toArray)/\q.d=p/\RwS w' w.heap.size q/\Below w.heap.size w w'
def RetSs(ds:List SD)(w:World)(e:Ending)(w':World):Prop:=∃A c qs,e=.returned (.slice A qs.length c)/\qs.map SV.d=ds/\OwnSs w' w.heap.size A c qs/\Below w.heap.size w w'
def RetO(d:OD)(w:World)(e:Ending)(w':World):Prop:=∃o:OV,e=.returned o.v/\o.d=d/\OwnO w' w.heap.size o/\Below w.heap.size w w'
end BObj
/- Contracts of the laws' helpers on one Section: the copy,the comparison of equal data,the size. -/
namespace CSection
open Kit CFixups CSymbols PObj BObj
end CSection
/- Contracts of the laws' helpers on []Section: the copy,the comparison of equal data,the size. -/
namespace CSections
open Kit CFixups CSymbols PObj BObj CSection
def Lim(p:SV):Prop:=p.zs.length<=1048576/\p.fs.length<=1048576
end CSections
/- The texts that the laws' marks write. -/
namespace CMarkText
open Kit CNumTxt
end CMarkText
/- The marks of symbols; marks of rows. -/
namespace CSymMarks
open Kit CFixups CSymbols PObj BObj CMarkText
end CSymMarks
/- Marks of rows,whether they have room or not. -/
namespace CMarkRows
open Kit CFixups CSymbols PObj BObj CMarkText CSymMarks
theorem apartT{w:World}{base base':Nat}{e e':TypeId}{size size' n n' c c':Nat}{A A':Option Addr}{xs xs':List Value}(h:Row w base e size A n c xs)(h':Row w base' e' size' A' n' c' xs')(hne:e≠e'):∀k,blk A c=some k->blk A' c'≠some k:=by
 intro k hk hk';have hc:c'≠0:=by
  intro h0;rw[h0]at hk';cases hk'
 have hown:w.ownsRow base' e' size' (.slice A' n' c') n' xs':=h'.elim (λh=>absurd h.2.1 hc) id;rcases hown.2 with⟨hv,h0⟩|⟨g,cap,cur,hv,_,hg,_⟩
 ·injection hv with hA;subst hA;unfold blk at hk';split at hk'<;>cases hk'
 ·injection hv with hA;subst hA;have hkg:g=k:=by
   unfold blk at hk';rw[if_neg hc]at hk';simpa using hk'
  subst hkg;exact h.box (show Box w g e' cur from hg) hne g hk rfl
theorem ApS.symm {p q:SV}(h:ApS p q):ApS q p:=⟨h.1.symm,h.2.symm⟩
def wd(p:SV):Int:=4+p.zs.length+4*p.fs.length
def wds:List SV->Int
 |[]=>0
 |p::ps=>wd p+wds ps
end CMarkRows
/- The marks of sections. -/
namespace CSecMarks
open Kit CFixups CSymbols PObj BObj CMarkText CSymMarks CMarkRows
end CSecMarks
/- The marks of sections read again. -/
namespace CSecHeld
open Kit CFixups CSymbols PObj BObj CMarkText CSymMarks CMarkRows CSecMarks
end CSecHeld
/- Contracts of the laws' helpers on Object: the copy,the comparison of equal data,the size,the marks. -/
namespace CObject
open Kit CFixups CSymbols PObj BObj CSection CSections CMarkText CSymMarks CMarkRows CSecMarks CSecHeld
def LimO(o:OV):Prop:=o.ps.length<=1048576/\o.ys.length<=1048576/\(∀p∈o.ps,Lim p)
theorem ret_object{w w1:World}{Y:Nat}{o:OV}(ho:OwnO w1 w.heap.size o)(B:Below w.heap.size w w1)(hY:∀k,oblk o k->k≠Y)(hYw:w.heap.size<=Y):
  RetO o.d w (.returned o.v) ((w1.setCell ⟨Y,0,none⟩ (.slice o.A o.ps.length o.c)).setCell ⟨Y,1,none⟩ (.slice o.Y o.ys.length o.yc)):=by
 refine⟨o,rfl,rfl,?_,(B.setCell (p:=⟨Y,0,none⟩) hYw _).setCell (p:=⟨Y,1,none⟩) hYw _⟩;exact ho.keep λk hk=>(Below.heap_setCell _ ⟨Y,1,none⟩ _ k (hY k hk)).trans (Below.heap_setCell _ ⟨Y,0,none⟩ _ k (hY k hk))
end CObject
/- Contracts of the laws' helpers on Object: the size,the marks. -/
namespace CObject2
open Kit CFixups CSymbols PObj BObj CSection CSections CMarkText CSymMarks CMarkRows CSecMarks CSecHeld CObject
end CObject2
/- Contracts of hasArg,CodeValid (the program's and the reference's) and of the mirror of Code. -/
namespace CCode
open Kit
def inB(n lo hi:Int):Bool:=decide (lo<=n/\n<=hi)
theorem inB_t{n lo hi:Int}(h:lo<=n/\n<=hi):inB n lo hi=true:=decide_eq_true h
theorem inB_f{n lo hi:Int}(h:¬(lo<=n/\n<=hi)):inB n lo hi=false:=decide_eq_false h
theorem within_any(n lo hi:Int)(w:World):Calls Tryz.prog 88 #[.int .i64 n,.int .i64 lo,.int .i64 hi] w (Pure (.bool (inB n lo hi)) w):=by
 by_cases h1:lo<=n
 ·by_cases h2:n<=hi
  all_goals
   go_enter Tryz.func88,Tryz.ntmps88
   go_wp2
   go_ret;exact⟨ret_bool (by simp[inB,h1,h2]),rfl⟩
 ·go_enter Tryz.func88,Tryz.ntmps88
  go_wp2
  go_ret;exact⟨ret_bool (inB_f (by omega)).symm,rfl⟩
theorem l1In_any(n lo hi:Int)(w:World):Calls Tryz.prog 111 #[.int .i64 n,.int .i64 lo,.int .i64 hi] w (Pure (.bool (inB n lo hi)) w):=by
 by_cases h1:lo<=n
 ·by_cases h2:n<=hi
  all_goals
   go_enter Tryz.func111,Tryz.ntmps111
   go_wp2
   go_ret;exact⟨ret_bool (by simp[inB,h1,h2]),rfl⟩
 ·go_enter Tryz.func111,Tryz.ntmps111
  go_wp2
  go_ret;exact⟨ret_bool (inB_f (by omega)).symm,rfl⟩
end CCode
/- Names that are valid: the program's and the reference's test. -/
namespace CName
open Kit CCode
def chOk(k:Nat)(x:Int):Bool:=decide (97<=x/\x<=122)||decide (x=95)||decide (x=46)||(decide (0<k)&&decide (48<=x/\x<=57))
def allOk(s:ByteArray):Bool:=(List.range s.size).all λk=>chOk k (s.data.toList.getD k 0).toNat
def nameOk(s:ByteArray):Bool:=allOk s&&inB s.size 1 8
theorem all_false{s:ByteArray}{k:Nat}(h:k<s.size)(hc:chOk k (s.data.toList.getD k 0).toNat=false):nameOk s=false:=by
 rw[nameOk,allOk,List.all_eq_false.2 ⟨k,List.mem_range.2 h,by rw[hc];decide⟩]
 rfl
theorem all_true{s:ByteArray}(h:∀k,k<s.size->chOk k (s.data.toList.getD k 0).toNat=true):nameOk s=inB s.size 1 8:=by rw[nameOk,allOk,List.all_eq_true.2 (λk hk=>h k (List.mem_range.1 hk)),Bool.true_and]
theorem get_at(s:ByteArray)(k:Nat)(h:k<s.size):s.data.toList.getD k 0=s[k]'h:=by
 obtain⟨x⟩:=s;show x.toList.getD k 0=x[k]
 rw[List.getD_eq_getElem?_getD,Array.getElem?_toList,Array.getElem?_eq_getElem h]
 rfl
set_option maxHeartbeats 4000000 in
theorem nameValid_any (s:ByteArray) (hs:s.size<=maxLen) (w:World):Calls Tryz.prog 136 #[.string s] w (Pure (.bool (nameOk s)) w):=by
  unfold maxLen at hs
  go_enter Tryz.func136,Tryz.ntmps136
  go_wp2_with fail
  go_loop [6] (fun i=>∃ k:Nat,k<=s.size/\i=.int .i64 k/\∀ j,j<k->chOk j (s.data.toList.getD j 0).toNat=true) (fun i=>s.size - (intOf i).toNat)
  case atStart=>exact ⟨0,Nat.zero_le _,rfl,fun j hj=>absurd hj (Nat.not_lt_zero j)⟩
  case round=>
    obtain ⟨k,hk,rfl,hok⟩:=hrel
    have HO:=h_ hok
    clear hok
    by_cases hlt:k<s.size
    · have hg:=get_at s k hlt
      have HN:=h_ (fun (h:chOk k (s[k]'hlt).toNat=true)=>(show ∀ j,j<k+1->chOk j (s.data.toList.getD j 0).toNat=true from fun j hj=>by
        rcases Nat.lt_or_ge j k with h' | h'
        · exact HO.o j h'
        · obtain rfl:j=k:=by omega
          rw [hg]; exact h))
      have HF:=h_ (fun (h:chOk k (s[k]'hlt).toNat=false)=>all_false hlt (by rw [hg]; exact h))
      have hx0:(0:Int)<=(s[k]'hlt).toNat:=by omega
      clear HO hg
      go_wp2_with fail
      all_goals (try simp only [Bool.not_eq_false',Bool.not_eq_true',decide_eq_true_eq,decide_eq_false_iff_not,beq_iff_eq,beq_eq_false_iff_ne,ne_eq,Bool.not_not] at *)
      all_goals first
        | (refine ⟨⟨k+1,by omega,by go_num,HN.o ?_⟩,by simp [intOf]; omega⟩
           simp only [chOk,Bool.or_eq_true,Bool.and_eq_true,decide_eq_true_eq]
           omega)
        | (have hF:=HF.o (by rw [<-Bool.not_eq_true]; simp only [chOk,Bool.or_eq_true,Bool.and_eq_true,decide_eq_true_eq]; omega)
           rw [hF]
           go_ret
           exact ⟨rfl,rfl⟩)
        | (exfalso; omega)
    · have HV:=h_ (all_true (s:=s) (fun j hj=>HO.o j (by omega)))
      clear HO
      go_wp2_with fail
      refine (within_any _ _ _ _).mono ?_
      rintro e w' ⟨rfl,rfl⟩
      rw [<-HV.o]
      go_wp2_with fail
      go_ret
      exact ⟨rfl,rfl⟩
set_option maxHeartbeats 4000000 in
theorem nameValidS_any (s:ByteArray) (hs:s.size<=maxLen) (w:World):Calls Tryz.prog 140 #[.string s] w (Pure (.bool (nameOk s)) w):=by
  unfold maxLen at hs
  go_enter Tryz.func140,Tryz.ntmps140
  go_wp2_with fail
  go_loop [3] (fun i=>∃ k:Nat,k<=s.size/\i=.int .i64 k/\∀ j,j<k->chOk j (s.data.toList.getD j 0).toNat=true) (fun i=>s.size - (intOf i).toNat)
  case atStart=>exact ⟨0,Nat.zero_le _,rfl,fun j hj=>absurd hj (Nat.not_lt_zero j)⟩
  case round=>
    obtain ⟨k,hk,rfl,hok⟩:=hrel
    have HO:=h_ hok
    clear hok
    by_cases hlt:k<s.size
    · have hg:=get_at s k hlt
      have HN:=h_ (fun (h:chOk k (s[k]'hlt).toNat=true)=>(show ∀ j,j<k+1->chOk j (s.data.toList.getD j 0).toNat=true from fun j hj=>by
        rcases Nat.lt_or_ge j k with h' | h'
        · exact HO.o j h'
        · obtain rfl:j=k:=by omega
          rw [hg]; exact h))
      have HF:=h_ (fun (h:chOk k (s[k]'hlt).toNat=false)=>all_false hlt (by rw [hg]; exact h))
      have hx0:(0:Int)<=(s[k]'hlt).toNat:=by omega
      clear HO hg
      go_wp2_with fail
      all_goals (try simp only [Bool.not_eq_false',Bool.not_eq_true',decide_eq_true_eq,decide_eq_false_iff_not,beq_iff_eq,beq_eq_false_iff_ne,ne_eq,Bool.not_not] at *)
      all_goals first
        | (refine ⟨⟨k+1,by omega,by go_num,HN.o ?_⟩,by simp [intOf]; omega⟩
           simp only [chOk,Bool.or_eq_true,Bool.and_eq_true,decide_eq_true_eq]
           omega)
        | (have hF:=HF.o (by rw [<-Bool.not_eq_true]; simp only [chOk,Bool.or_eq_true,Bool.and_eq_true,decide_eq_true_eq]; omega)
           rw [hF]
           go_ret
           exact ⟨rfl,rfl⟩)
        | (exfalso; omega)
        | (exfalso
           have h48:((s[k]'hlt).toNat:Int)<48:=by omega
           rename_i hq hw hb _ _ 
           simp_all)
    · have HV:=h_ (all_true (s:=s) (fun j hj=>HO.o j (by omega)))
      clear HO
      go_wp2_with fail
      refine (l1In_any _ _ _ _).mono ?_
      rintro e w' ⟨rfl,rfl⟩
      rw [<-HV.o]
      go_wp2_with fail
      go_ret
      exact ⟨rfl,rfl⟩
end CName
/- When sections,symbols and objects are valid; plain. -/
namespace PValid
open Kit CCode CName PObj
def wide(k:Int):Int:=if k=1 then 1 else if k=2 then 2 else if k=3 then 4 else 0
theorem wide_bd(k:Int):0<=wide k/\wide k<=4:=by
 unfold wide;split
 ·omega
 ·split
  ·omega
  ·split<;>omega
def alignOk(n:Int):Bool:=decide (n=1)||decide (n=2)||decide (n=4)||decide (n=8)
def fixOk(many:Int)(n:Nat)(e:Int)(f:FD):Bool:=!decide (wide f.2.1=0)&& !decide (f.2.2.1<0)&& !decide (many<=f.2.2.1)&&inB f.2.2.2 (-1000) 1000&&inB f.1 e (n-wide f.2.1)
def fixesOk(many:Int)(n:Nat):Int->List FD->Bool
 |_,[]=>true
 |e,f::fs=>fixOk many n e f&&fixesOk many n (f.1+wide f.2.1) fs
def headOk(d:SD):Bool:=nameOk d.nm&&inB d.kd 1 3&&alignOk d.al
def blankOk(d:SD):Bool:=inB d.sz 0 48&&decide (d.zs.length=0)&&decide (d.fs.length=0)
def bodyOk(many:Int)(d:SD):Bool:=decide (d.sz=0)&&decide (d.zs.length<=48)&&decide (d.fs.length<=6)&&fixesOk many d.zs.length 0 d.fs
def secOk(many:Int)(d:SD):Bool:=headOk d&&(if d.kd=3 then blankOk d else bodyOk many d)
def secSize(d:SD):Int:=if d.kd=3 then d.sz else d.zs.length
theorem fixes_drop{many:Int}{n:Nat}{e:Int}{fs:List FD}{k:Nat}(h:k<fs.length):fixesOk many n e (fs.drop k)=(fixOk many n e fs[k]&&fixesOk many n (fs[k].1+wide fs[k].2.1) (fs.drop (k+1))):=by
 rw[List.drop_eq_getElem_cons h]
 rfl
theorem fixOk_iff{many:Int}{n:Nat}{e:Int}{f:FD}:fixOk many n e f=true↔wide f.2.1≠0/\0<=f.2.2.1/\f.2.2.1<many/\(-1000<=f.2.2.2/\f.2.2.2<=1000)/\(e<=f.1/\f.1<=n-wide f.2.1):=by simp only[fixOk,inB,Bool.and_eq_true,Bool.not_eq_true',decide_eq_false_iff_not,decide_eq_true_eq];omega
def bindOk(y:YD):Bool:=nameOk y.1&&inB y.2.1 0 2
def placeOk(ss:List SD)(y:YD):Bool:=
 if y.2.2.1=-1 then decide (y.2.2.2=0)&& !decide (y.2.1=0)
 else if y.2.2.1=-2 then inB y.2.2.2 0 60000
 else inB y.2.2.1 0 (ss.length-1)&&inB y.2.2.2 0 (secSize (ss.getD y.2.2.1.toNat ⟨ByteArray.empty,0,0,[],0,[]⟩))
def symOk(ss:List SD)(y:YD):Bool:=bindOk y&&placeOk ss y
def clash(ys:List YD)(y:YD):Bool:=!decide (y.2.1=0)&&ys.any λx=>!decide (x.2.1=0)&&decide (x.1=y.1)
def symsOk(ss:List SD)(ys:List YD):Bool:=(List.range ys.length).all λk=>symOk ss (ys.getD k (ByteArray.empty,0,0,0))&& !clash (ys.take k) (ys.getD k (ByteArray.empty,0,0,0))
def objOk(o:OD):Bool:=decide (o.ss.length<=8)&&decide (o.ys.length<=12)&&(o.ss.all λd=>secOk o.ys.length d)&&symsOk o.ss o.ys
end PValid
/- The program's and the reference's SectionValid,and what they call. -/
namespace CSecValid
open Kit CCode CName CFixups CSymbols PObj BObj PValid
theorem isAlign_any(n:Int)(w:World):Calls Tryz.prog 87 #[.int .i64 n] w (Pure (.bool (alignOk n)) w):=by
 by_cases h1:n=1
 ·subst h1;go_enter Tryz.func87,Tryz.ntmps87
  go_wp2
  go_ret;exact⟨rfl,rfl⟩
 by_cases h2:n=2
 ·subst h2;go_enter Tryz.func87,Tryz.ntmps87
  go_wp2
  go_ret;exact⟨rfl,rfl⟩
 by_cases h4:n=4
 ·subst h4;go_enter Tryz.func87,Tryz.ntmps87
  go_wp2
  go_ret;exact⟨rfl,rfl⟩
 by_cases h8:n=8
 ·subst h8;go_enter Tryz.func87,Tryz.ntmps87
  go_wp2
  go_ret;exact⟨rfl,rfl⟩
 have hv:alignOk n=false:=by simp[alignOk,h1,h2,h4,h8]
 rw[hv];have e1:(n==1)=false:=beq_eq_false_iff_ne.2 h1;have e2:(n==2)=false:=beq_eq_false_iff_ne.2 h2;have e4:(n==4)=false:=beq_eq_false_iff_ne.2 h4;have e8:(n==8)=false:=beq_eq_false_iff_ne.2 h8;go_enter Tryz.func87,Tryz.ntmps87
 go_wp2
 go_ret;exact⟨rfl,rfl⟩
theorem alignUp0_any(n:Int)(w:World):Calls Tryz.prog 141 #[.int .i64 0,.int .i64 n] w (Pure (.int .i64 (bif alignOk n then 0 else -1)) w):=by
 by_cases h1:n=1
 ·subst h1;go_enter Tryz.func141,Tryz.ntmps141
  go_wp2_with (go_at_call 111;refine(l1In_any _ _ _ _).mono ?_;rintro e w' ⟨rfl,rfl⟩;rw[inB_t (by omega)])
  go_ret;exact⟨rfl,rfl⟩
 by_cases h2:n=2
 ·subst h2;go_enter Tryz.func141,Tryz.ntmps141
  go_wp2_with (go_at_call 111;refine(l1In_any _ _ _ _).mono ?_;rintro e w' ⟨rfl,rfl⟩;rw[inB_t (by omega)])
  go_ret;exact⟨rfl,rfl⟩
 by_cases h4:n=4
 ·subst h4;go_enter Tryz.func141,Tryz.ntmps141
  go_wp2_with (go_at_call 111;refine(l1In_any _ _ _ _).mono ?_;rintro e w' ⟨rfl,rfl⟩;rw[inB_t (by omega)])
  go_ret;exact⟨rfl,rfl⟩
 by_cases h8:n=8
 ·subst h8;go_enter Tryz.func141,Tryz.ntmps141
  go_wp2_with (go_at_call 111;refine(l1In_any _ _ _ _).mono ?_;rintro e w' ⟨rfl,rfl⟩;rw[inB_t (by omega)])
  go_ret;exact⟨rfl,rfl⟩
 have hv:alignOk n=false:=by simp[alignOk,h1,h2,h4,h8]
 rw[hv];have e1:(n==1)=false:=beq_eq_false_iff_ne.2 h1;have e2:(n==2)=false:=beq_eq_false_iff_ne.2 h2;have e4:(n==4)=false:=beq_eq_false_iff_ne.2 h4;have e8:(n==8)=false:=beq_eq_false_iff_ne.2 h8;have b1:(n != 1)=true:=bne_iff_ne.2 h1;have b2:(n != 2)=true:=bne_iff_ne.2 h2;have b4:(n != 4)=true:=bne_iff_ne.2 h4;have b8:(n != 8)=true:=bne_iff_ne.2 h8;go_enter Tryz.func141,Tryz.ntmps141
 go_wp2_with (go_at_call 111;refine(l1In_any _ _ _ _).mono ?_;rintro e w' ⟨rfl,rfl⟩;rw[inB_t (by omega)])
 go_ret;exact⟨rfl,rfl⟩
theorem fixupWide_any(k:Int)(w:World):Calls Tryz.prog 104 #[.int .i64 k] w (Pure (.int .i64 (wide k)) w):=by
 by_cases h1:k=1
 ·subst h1;go_enter Tryz.func104,Tryz.ntmps104
  go_wp2
  go_ret;exact⟨rfl,rfl⟩
 by_cases h2:k=2
 ·subst h2;go_enter Tryz.func104,Tryz.ntmps104
  go_wp2
  go_ret;exact⟨rfl,rfl⟩
 by_cases h3:k=3
 ·subst h3;go_enter Tryz.func104,Tryz.ntmps104
  go_wp2
  go_ret;exact⟨rfl,rfl⟩
 have hv:wide k=0:=by simp[wide,h1,h2,h3]
 rw[hv];have e1:(k==1)=false:=beq_eq_false_iff_ne.2 h1;have e2:(k==2)=false:=beq_eq_false_iff_ne.2 h2;have e3:(k==3)=false:=beq_eq_false_iff_ne.2 h3;go_enter Tryz.func104,Tryz.ntmps104
 go_wp2
 go_ret;exact⟨rfl,rfl⟩
theorem fixupWideS_any(k:Int)(w:World):Calls Tryz.prog 135 #[.int .i64 k] w (Ret (.int .i64 (wide k)) w):=by
 by_cases h1:k=1
 ·subst h1;go_enter Tryz.func135,Tryz.ntmps135
  go_wp2_with (go_at_call 111;refine(l1In_any _ _ _ _).mono ?_;rintro e w' ⟨rfl,rfl⟩;rw[inB_t (by omega)])
  go_ret;exact⟨rfl,b_⟩
 by_cases h2:k=2
 ·subst h2;go_enter Tryz.func135,Tryz.ntmps135
  go_wp2_with (go_at_call 111;refine(l1In_any _ _ _ _).mono ?_;rintro e w' ⟨rfl,rfl⟩;rw[inB_t (by omega)])
  go_ret;exact⟨rfl,b_⟩
 by_cases h3:k=3
 ·subst h3;go_enter Tryz.func135,Tryz.ntmps135
  go_wp2_with (go_at_call 111;refine(l1In_any _ _ _ _).mono ?_;rintro e w' ⟨rfl,rfl⟩;rw[inB_t (by omega)])
  go_ret;exact⟨rfl,b_⟩
 have hv:wide k=0:=by simp[wide,h1,h2,h3]
 rw[hv];go_enter Tryz.func135,Tryz.ntmps135
 go_wp2_with (go_at_call 111;refine(l1In_any _ _ _ _).mono ?_;rintro e w' ⟨rfl,rfl⟩;rw[inB_f (by omega)])
 go_ret;exact⟨rfl,b_⟩
theorem isAdd_any(n:Int)(w:World):Calls Tryz.prog 137 #[.int .i64 n] w (Pure (.bool (inB n (-1000) 1000)) w):=by
 go_enter Tryz.func137,Tryz.ntmps137
 go_wp2_with fail
 refine(within_any _ _ _ _).mono ?_;rintro e w' ⟨rfl,rfl⟩;go_wp2_with fail
 go_ret;exact⟨rfl,rfl⟩
theorem sectionSize_any(p:SV)(w:World)(hz:p.zs.length<=maxLen):Calls Tryz.prog 38 #[.agg #[.string p.nm,.int .i64 p.kd,.int .i64 p.al,.slice p.A p.zs.length p.c,.int .i64 p.sz,.slice p.F p.fs.length p.fc]] w (Ret (.int .i64 (secSize p.d)) w):=by
 unfold maxLen at hz;by_cases h:p.kd=3
 ·have hv:secSize p.d=p.sz:=if_pos h;rw[hv,h];go_enter Tryz.func38,Tryz.ntmps38
  go_wp2
  go_ret;exact⟨rfl,b_⟩
 ·have hv:secSize p.d=p.zs.length:=if_neg h;rw[hv];have e1:(p.kd==3)=false:=beq_eq_false_iff_ne.2 h;go_enter Tryz.func38,Tryz.ntmps38
  go_wp2
  go_ret;exact⟨rfl,b_⟩
theorem sectionSizeS_any(p:SV)(w:World)(hz:p.zs.length<=maxLen):Calls Tryz.prog 41 #[.agg #[.string p.nm,.int .i64 p.kd,.int .i64 p.al,.slice p.A p.zs.length p.c,.int .i64 p.sz,.slice p.F p.fs.length p.fc]] w (Ret (.int .i64 (secSize p.d)) w):=by
 unfold maxLen at hz;by_cases h:p.kd=3
 ·have hv:secSize p.d=p.sz:=if_pos h;rw[hv,h];go_enter Tryz.func41,Tryz.ntmps41
  go_wp2
  go_ret;exact⟨rfl,b_⟩
 ·have hv:secSize p.d=p.zs.length:=if_neg h;rw[hv];have e1:(p.kd==3)=false:=beq_eq_false_iff_ne.2 h;go_enter Tryz.func41,Tryz.ntmps41
  go_wp2
  go_ret;exact⟨rfl,b_⟩
end CSecValid
/- The program's SectionValid. -/
namespace CSecValid2
open Kit CCode CName CFixups CSymbols PObj BObj PValid CSecValid
theorem sec_head{many:Int}{d:SD}(h:headOk d=false):secOk many d=false:=by rw[secOk,h];rfl
theorem sec_blank{many:Int}{d:SD}(h:headOk d=true)(hk:d.kd=3):secOk many d=blankOk d:=by rw[secOk,h,if_pos hk];rfl
theorem sec_body{many:Int}{d:SD}(h:headOk d=true)(hk:¬d.kd=3):secOk many d=bodyOk many d:=by rw[secOk,h,if_neg hk];rfl
theorem sectionValid_any(p:SV)(many:Int)(w:World)(hr:RdS w w.heap.size p)(h0:p.nm.size<=maxLen)(h1:p.zs.length<=1048576)(h2:p.fs.length<=1048576):
  Calls Tryz.prog 82 #[.agg #[.string p.nm,.int .i64 p.kd,.int .i64 p.al,.slice p.A p.zs.length p.c,.int .i64 p.sz,.slice p.F p.fs.length p.fc],.int .i64 many] w (Ret (.bool (secOk many p.d)) w):=by
 obtain⟨nm,kd,al,A,c,zs,sz,F,fc,fs⟩:=p;have HR:=h_ hr.2;have H0:=h_ h0;simp only[SV.d]at h0 h1 h2 ⊢;clear hr h0;have B0:Below w.heap.size w (w.alloc (.cells #[.string nm,.int .i64 kd,.int .i64 al,.slice A zs.length c,.int .i64 sz,.slice F fs.length fc] 61)):=b_;have X0:=Box.new w 61 #[.string nm,.int .i64 kd,.int .i64 al,.slice A zs.length c,.int .i64 sz,.slice F fs.length fc];have HB:=h_ B0;have x0:=d_ X0 0;have x1:=d_ X0 1;have x2:=d_ X0 2;have x3:=d_ X0 3;have x4:=d_ X0 4;have x5:=d_ X0 5;clear B0;go_enter Tryz.func82,Tryz.ntmps82
 go_wp2_with fail
 generalize w.alloc (.cells #[.string nm,.int .i64 kd,.int .i64 al,.slice A zs.length c,.int .i64 sz,.slice F fs.length fc] 61)=w0 at *;refine(nameValid_any nm H0.o w0).mono ?_;rintro e w' ⟨rfl,rfl⟩;cases hn:nameOk nm
 ·have HV:=h_ (sec_head (many:=many) (d:=⟨nm,kd,al,zs,sz,fs⟩) (by simp[headOk,hn]));go_wp2_with fail
  go_ret;exact⟨by rw[HV.o];rfl,HB.o⟩
 go_wp2_with fail
 refine(within_any _ _ _ _).mono ?_;rintro e w' ⟨rfl,rfl⟩;cases hk:inB kd 1 3
 ·have HV:=h_ (sec_head (many:=many) (d:=⟨nm,kd,al,zs,sz,fs⟩) (by simp[headOk,hk]));go_wp2_with fail
  go_ret;exact⟨by rw[HV.o];rfl,HB.o⟩
 go_wp2_with fail
 refine(isAlign_any _ _).mono ?_;rintro e w' ⟨rfl,rfl⟩;cases ha:alignOk al
 ·have HV:=h_ (sec_head (many:=many) (d:=⟨nm,kd,al,zs,sz,fs⟩) (by simp[headOk,ha]));go_wp2_with fail
  go_ret;exact⟨by rw[HV.o];rfl,HB.o⟩
 have hh:headOk ⟨nm,kd,al,zs,sz,fs⟩=true:=by simp[headOk,hn,hk,ha]
 by_cases hk3:kd=3
 ·have HV:=h_ ((sec_blank (many:=many) hh hk3).trans (show blankOk ⟨nm,kd,al,zs,sz,fs⟩=(inB sz 0 48&&decide (zs.length=0)&&decide (fs.length=0))from rfl));clear hn hk ha hh;have e3:(kd==3)=true:=beq_iff_eq.2 hk3;clear hk3;go_wp2_with fail
  refine(within_any _ _ _ _).mono ?_;rintro e w' ⟨rfl,rfl⟩;cases hs:inB sz 0 48
  ·rw[hs]at HV;go_wp2_with fail
   go_ret;exact⟨by rw[HV.o];rfl,HB.o⟩
  ·rw[hs]at HV;clear hs;by_cases hz:zs.length=0
   ·have ez:((zs.length:Int)==0)=true:=by rw[hz];rfl
    rw[decide_eq_true hz]at HV;by_cases hf:fs.length=0
    ·have ef:((fs.length:Int)==0)=true:=by rw[hf];rfl
     rw[decide_eq_true hf]at HV;clear hz hf;go_wp2_with fail
     go_ret;exact⟨by rw[HV.o];rfl,HB.o⟩
    ·have ef:((fs.length:Int)==0)=false:=beq_eq_false_iff_ne.2 (by omega);rw[decide_eq_false hf]at HV;clear hz hf;go_wp2_with fail
     go_ret;exact⟨by rw[HV.o];rfl,HB.o⟩
   ·have ez:((zs.length:Int)==0)=false:=beq_eq_false_iff_ne.2 (by omega);rw[decide_eq_false hz]at HV;clear hz;go_wp2_with fail
    go_ret;exact⟨by rw[HV.o];simp,HB.o⟩
 have HV:=h_ ((sec_body (many:=many) hh hk3).trans (show bodyOk many ⟨nm,kd,al,zs,sz,fs⟩=(decide (sz=0)&&decide (zs.length<=48)&&decide (fs.length<=6)&&fixesOk many zs.length 0 fs)from rfl));have e3:(kd==3)=false:=beq_eq_false_iff_ne.2 hk3;clear hn hk ha hh hk3;by_cases hs:sz=0
 ·have es:(sz != 0)=false:=by rw[hs];rfl
  rw[decide_eq_true hs]at HV;by_cases hz:zs.length<=48
  ·have ez:decide ((48:Int)<zs.length)=false:=decide_eq_false (by omega);rw[decide_eq_true hz]at HV;by_cases hf:fs.length<=6
   ·have ef:decide ((6:Int)<fs.length)=false:=decide_eq_false (by omega);rw[decide_eq_true hf]at HV;have HV':=h_ (HV.o.trans (show(true&&true&&true&&fixesOk many zs.length 0 fs)=fixesOk many zs.length 0 fs by simp));clear HV hs;go_wp2_with fail
    clear x0 x1 x2 x4 e3 es ez ef;go_loopw [5,61] (λen ix wi=>∃(k:Nat) (e:Int),k<=fs.length/\ix=.int .i64 k/\en=.int .i64 e/\0<=e/\e<=48/\fixesOk many zs.length 0 fs=fixesOk many zs.length e (fs.drop k)/\Box wi w.heap.size 61 #[.string nm,.int .i64 kd,.int .i64 al,.slice A zs.length c,.int .i64 sz,.slice F fs.length fc]/\Below w.heap.size w wi) (λ_ ix _=>fs.length-(intOf ix).toNat)
    case atStart=>exact⟨0,0,Nat.zero_le _,rfl,rfl,by omega,by omega,rfl,X0,HB.o⟩
    case round=>
     obtain⟨k,e,hk,rfl,rfl,he0,he1,hfx,hbx,hb⟩:=hrel;have HBX:=h_ hbx;have HBI:=h_ hb;clear X0 HB x3 x5;by_cases hlt:k<fs.length
     ·obtain⟨b,off,rfl,hbg,hc⟩:=(HR.o.below hb).row fixupC_len (by decide) hlt;have hc0:=hc 0 _ rfl;have hc1:=hc 1 _ rfl;have hc2:=hc 2 _ rfl;have hc3:=hc 3 _ rfl;simp only[Nat.add_zero]at hc0;have HFX:=h_ (hfx.trans (fixes_drop hlt));have HIF:=h_ (fixOk_iff (many:=many) (n:=zs.length) (e:=e) (f:=fs[k]));clear hfx hc hbx hb;generalize fs[k]=f at *;go_wp2_with fail
      have X1:=HBX.o.alloc (.cells #[.int .i64 f.1,.int .i64 f.2.1,.int .i64 f.2.2.1,.int .i64 f.2.2.2] 65);have Z1:=Box.new wr 65 #[.int .i64 f.1,.int .i64 f.2.1,.int .i64 f.2.2.1,.int .i64 f.2.2.2];have HB1:=h_ (HBI.o.alloc HBI.o.size (.cells #[.int .i64 f.1,.int .i64 f.2.1,.int .i64 f.2.2.1,.int .i64 f.2.2.2] 65));generalize wr.alloc (.cells #[.int .i64 f.1,.int .i64 f.2.1,.int .i64 f.2.2.1,.int .i64 f.2.2.2] 65)=w1 at *;generalize wr.heap.size=X at *;have z0:=d_ Z1 0;have z1:=d_ Z1 1;have z2:=d_ Z1 2;have z3:=d_ Z1 3;have x3:=d_ X1 3;have HX1:=h_ X1;clear HBX HBI X1 Z1 hc0 hc1 hc2 hc3;refine(fixupWide_any _ _).mono ?_;rintro e' w' ⟨rfl,rfl⟩;have hwd:=wide_bd f.2.1;generalize hwg:wide f.2.1=wd at *;have HWG:=h_ hwg;clear hwg;by_cases g1:wd=0
      ·have HN:=h_ (show fixOk many zs.length e f=false by rw[<-Bool.not_eq_true,HIF.o];omega);have e1:(wd==0)=true:=beq_iff_eq.2 g1;clear HIF g1 hwd;go_wp2_with fail
       go_ret;exact⟨by rw[HV'.o,HFX.o,HN.o];rfl,HB1.o⟩
      have e1:(wd==0)=false:=beq_eq_false_iff_ne.2 g1;by_cases g2:f.2.2.1<0
      ·have HN:=h_ (show fixOk many zs.length e f=false by rw[<-Bool.not_eq_true,HIF.o];omega);clear HIF g1;go_wp2_with fail
       go_ret;exact⟨by rw[HV'.o,HFX.o,HN.o];rfl,HB1.o⟩
      have e2:decide (f.2.2.1<0)=false:=decide_eq_false g2;by_cases g3:many<=f.2.2.1
      ·have HN:=h_ (show fixOk many zs.length e f=false by rw[<-Bool.not_eq_true,HIF.o];omega);clear HIF g1 g2;go_wp2_with fail
       go_ret;exact⟨by rw[HV'.o,HFX.o,HN.o];rfl,HB1.o⟩
      have e3:decide (many<=f.2.2.1)=false:=decide_eq_false g3;go_wp2_with fail
      refine(isAdd_any _ _).mono ?_;rintro e' w' ⟨rfl,rfl⟩;by_cases g4:-1000<=f.2.2.2/\f.2.2.2<=1000
      ·rw[inB_t g4];go_wp2_with fail
       refine(within_any _ _ _ _).mono ?_;rintro e' w' ⟨rfl,rfl⟩;by_cases g5:e<=f.1/\f.1<=zs.length-wd
       ·rw[inB_t g5];have HY:=h_ (show fixOk many zs.length e f=true by rw[HIF.o];omega);have HS:=h_ (show fixesOk many zs.length 0 fs=fixesOk many zs.length (f.1+wd) (fs.drop (k+1))by rw[HFX.o,HY.o];rfl);have hbd:0<=f.1+wd/\f.1+wd<=48:=by omega
        clear HIF g1 g2 g3 g4 HFX HY;go_wp2_with fail
        refine⟨⟨k+1,f.1+wd,by omega,by go_num,rfl,hbd.1,hbd.2,HS.o,HX1.o,HB1.o⟩,by simp[intOf];omega⟩
       ·rw[inB_f g5];have HN:=h_ (show fixOk many zs.length e f=false by rw[<-Bool.not_eq_true,HIF.o];omega);clear HIF g1 g2 g3 g4 g5;go_wp2_with fail
        go_ret;exact⟨by rw[HV'.o,HFX.o,HN.o];rfl,HB1.o⟩
      ·rw[inB_f g4];have HN:=h_ (show fixOk many zs.length e f=false by rw[<-Bool.not_eq_true,HIF.o];omega);clear HIF g1 g2 g3 g4;go_wp2_with fail
       go_ret;exact⟨by rw[HV'.o,HFX.o,HN.o];rfl,HB1.o⟩
     ·have hE:fixesOk many zs.length 0 fs=true:=by
       rw[hfx,List.drop_of_length_le (by omega)]
       rfl
      have HE:=h_ hE;clear hE hfx hbx hb;go_wp2_with fail
      go_ret;exact⟨by rw[HV'.o,HE.o];rfl,HBI.o⟩
   ·have ef:decide ((6:Int)<fs.length)=true:=decide_eq_true (by omega);rw[decide_eq_false hf]at HV;clear hs hz hf;go_wp2_with fail
    go_ret;exact⟨by rw[HV.o];simp,HB.o⟩
  ·have ez:decide ((48:Int)<zs.length)=true:=decide_eq_true (by omega);rw[decide_eq_false hz]at HV;clear hs hz;go_wp2_with fail
   go_ret;exact⟨by rw[HV.o];simp,HB.o⟩
 ·have es:(sz != 0)=true:=bne_iff_ne.2 hs;rw[decide_eq_false hs]at HV;clear hs;go_wp2_with fail
  go_ret;exact⟨by rw[HV.o];simp,HB.o⟩
end CSecValid2
/- The reference's SectionValid. -/
namespace CSecValid3
open Kit CCode CName CFixups CSymbols PObj BObj PValid CSecValid CSecValid2
theorem sec_big{many:Int}{d:SD}(h:¬d.zs.length<=48\/¬d.fs.length<=6\/inB d.sz 0 48=false):secOk many d=false:=by
 rw[<-Bool.not_eq_true];intro ht;rw[secOk,Bool.and_eq_true]at ht;obtain⟨_,ht⟩:=ht;split at ht
 ·simp only[blankOk,Bool.and_eq_true,decide_eq_true_eq]at ht;rcases h with h|h|h
  ·omega
  ·omega
  ·rw[h]at ht;exact absurd ht.1.1 (by decide)
 ·simp only[bodyOk,Bool.and_eq_true,decide_eq_true_eq]at ht;rcases h with h|h|h
  ·omega
  ·omega
  ·rw[ht.1.1.1]at h;exact absurd h (by decide)
theorem sectionValidS_any(p:SV)(many:Int)(w:World)(hr:RdS w w.heap.size p)(h0:p.nm.size<=maxLen)(h1:p.zs.length<=1048576)(h2:p.fs.length<=1048576):
  Calls Tryz.prog 85 #[.agg #[.string p.nm,.int .i64 p.kd,.int .i64 p.al,.slice p.A p.zs.length p.c,.int .i64 p.sz,.slice p.F p.fs.length p.fc],.int .i64 many] w (Ret (.bool (secOk many p.d)) w):=by
 obtain⟨nm,kd,al,A,c,zs,sz,F,fc,fs⟩:=p;have HR:=h_ hr.2;have H0:=h_ h0;simp only[SV.d]at h0 h1 h2 ⊢;clear hr h0;have B0:Below w.heap.size w (w.alloc (.cells #[.string nm,.int .i64 kd,.int .i64 al,.slice A zs.length c,.int .i64 sz,.slice F fs.length fc] 61)):=b_;have X0:=Box.new w 61 #[.string nm,.int .i64 kd,.int .i64 al,.slice A zs.length c,.int .i64 sz,.slice F fs.length fc];have HB:=h_ B0;have x0:=d_ X0 0;have x1:=d_ X0 1;have x2:=d_ X0 2;have x3:=d_ X0 3;have x4:=d_ X0 4;have x5:=d_ X0 5;clear B0;go_enter Tryz.func85,Tryz.ntmps85
 go_wp2_with fail
 generalize w.alloc (.cells #[.string nm,.int .i64 kd,.int .i64 al,.slice A zs.length c,.int .i64 sz,.slice F fs.length fc] 61)=w0 at *;refine(nameValidS_any nm H0.o w0).mono ?_;rintro e w' ⟨rfl,rfl⟩;cases hn:nameOk nm
 ·have HV:=h_ (sec_head (many:=many) (d:=⟨nm,kd,al,zs,sz,fs⟩) (by simp[headOk,hn]));go_wp2_with fail
  go_ret;exact⟨by rw[HV.o];rfl,HB.o⟩
 go_wp2_with fail
 refine(l1In_any _ _ _ _).mono ?_;rintro e w' ⟨rfl,rfl⟩;cases hk:inB kd 1 3
 ·have HV:=h_ (sec_head (many:=many) (d:=⟨nm,kd,al,zs,sz,fs⟩) (by simp[headOk,hk]));go_wp2_with fail
  go_ret;exact⟨by rw[HV.o];rfl,HB.o⟩
 go_wp2_with fail
 refine(alignUp0_any _ _).mono ?_;rintro e w' ⟨rfl,rfl⟩;cases ha:alignOk al
 ·have HV:=h_ (sec_head (many:=many) (d:=⟨nm,kd,al,zs,sz,fs⟩) (by simp[headOk,ha]));simp only[cond_false];go_wp2_with fail
  go_ret;exact⟨by rw[HV.o];rfl,HB.o⟩
 simp only[cond_true];have hh:headOk ⟨nm,kd,al,zs,sz,fs⟩=true:=by simp[headOk,hn,hk,ha]
 clear hn hk ha;by_cases hz:zs.length<=48
 case neg=>
  have HV:=h_ (sec_big (many:=many) (d:=⟨nm,kd,al,zs,sz,fs⟩) (.inl hz));have ez:decide ((48:Int)<zs.length)=true:=decide_eq_true (by omega);clear hz;go_wp2_with fail
  go_ret;exact⟨by rw[HV.o];rfl,HB.o⟩
 have ez:decide ((48:Int)<zs.length)=false:=decide_eq_false (by omega);by_cases hf:fs.length<=6
 case neg=>
  have HV:=h_ (sec_big (many:=many) (d:=⟨nm,kd,al,zs,sz,fs⟩) (.inr (.inl hf)));have ef:decide ((6:Int)<fs.length)=true:=decide_eq_true (by omega);clear hf;go_wp2_with fail
  go_ret;exact⟨by rw[HV.o];rfl,HB.o⟩
 have ef:decide ((6:Int)<fs.length)=false:=decide_eq_false (by omega);have HHH:=h_ hh;clear hh;go_wp2_with fail
 refine(l1In_any _ _ _ _).mono ?_;rintro e w' ⟨rfl,rfl⟩;cases hs:inB sz 0 48
 ·have HV:=h_ (sec_big (many:=many) (d:=⟨nm,kd,al,zs,sz,fs⟩) (.inr (.inr hs)));clear hs;go_wp2_with fail
  go_ret;exact⟨by rw[HV.o];rfl,HB.o⟩
 by_cases hk3:kd=3
 ·have HV:=h_ ((sec_blank (many:=many) HHH.o hk3).trans (show blankOk ⟨nm,kd,al,zs,sz,fs⟩=(inB sz 0 48&&decide (zs.length=0)&&decide (fs.length=0))from rfl));rw[hs]at HV;have e3:(kd==3)=true:=beq_iff_eq.2 hk3;clear hk3 hs;by_cases hz:zs.length=0
  ·have ez:((zs.length:Int)==0)=true:=by rw[hz];rfl
   rw[decide_eq_true hz]at HV;by_cases hf:fs.length=0
   ·have ef:((fs.length:Int)==0)=true:=by rw[hf];rfl
    rw[decide_eq_true hf]at HV;clear hz hf;go_wp2_with fail
    go_ret;exact⟨by rw[HV.o];rfl,HB.o⟩
   ·have ef:((fs.length:Int)==0)=false:=beq_eq_false_iff_ne.2 (by omega);rw[decide_eq_false hf]at HV;clear hz hf;go_wp2_with fail
    go_ret;exact⟨by rw[HV.o];rfl,HB.o⟩
  ·have ez:((zs.length:Int)==0)=false:=beq_eq_false_iff_ne.2 (by omega);rw[decide_eq_false hz]at HV;clear hz;go_wp2_with fail
   go_ret;exact⟨by rw[HV.o];simp,HB.o⟩
 ·have hV:=(sec_body (many:=many) HHH.o hk3).trans (show bodyOk many ⟨nm,kd,al,zs,sz,fs⟩=(decide (sz=0)&&decide (zs.length<=48)&&decide (fs.length<=6)&&fixesOk many zs.length 0 fs)from rfl);have HFF:=h_ (λ(h:fixesOk many zs.length 0 fs=false)=>(show secOk many ⟨nm,kd,al,zs,sz,fs⟩=false by rw[hV,h,Bool.and_false]));have HTT:=h_ (λ(h:fixesOk many zs.length 0 fs=true)=>(show secOk many ⟨nm,kd,al,zs,sz,fs⟩=decide (sz=0)by rw[hV,h,decide_eq_true hz,decide_eq_true hf,Bool.and_true,Bool.and_true,Bool.and_true]));have e3:(kd==3)=false:=beq_eq_false_iff_ne.2 hk3;clear hk3 hV hs ez ef HHH;go_wp2_with fail
  clear x0 x1 x2 x3 x4 x5 e3;go_loopw [5,6] (λen ix wi=>∃(k:Nat) (e:Int),k<=fs.length/\ix=.int .i64 k/\en=.int .i64 e/\0<=e/\e<=48/\fixesOk many zs.length 0 fs=fixesOk many zs.length e (fs.drop k)/\Box wi w.heap.size 61 #[.string nm,.int .i64 kd,.int .i64 al,.slice A zs.length c,.int .i64 sz,.slice F fs.length fc]/\Below w.heap.size w wi) (λ_ ix _=>fs.length-(intOf ix).toNat)
  case atStart=>exact⟨0,0,Nat.zero_le _,rfl,rfl,by omega,by omega,rfl,X0,HB.o⟩
  case round=>
   obtain⟨k,e,hk,rfl,rfl,he0,he1,hfx,hbx,hb⟩:=hrel;have HBX:=h_ hbx;have HBI:=h_ hb;have x5:=d_ hbx 5;have x4:=d_ hbx 4;clear X0 HB;by_cases hlt:k<fs.length
   ·obtain⟨b,off,rfl,hbg,hc⟩:=(HR.o.below hb).row fixupC_len (by decide) hlt;have hc0:=hc 0 _ rfl;have hc1:=hc 1 _ rfl;have hc2:=hc 2 _ rfl;have hc3:=hc 3 _ rfl;simp only[Nat.add_zero]at hc0;have HFX:=h_ (hfx.trans (fixes_drop hlt));have HIF:=h_ (fixOk_iff (many:=many) (n:=zs.length) (e:=e) (f:=fs[k]));clear hfx hc hbx hb;generalize fs[k]=f at *;go_wp2_with fail
    have X1:=HBX.o.alloc (.cells #[.int .i64 f.1,.int .i64 f.2.1,.int .i64 f.2.2.1,.int .i64 f.2.2.2] 65);have Z1:=Box.new wr 65 #[.int .i64 f.1,.int .i64 f.2.1,.int .i64 f.2.2.1,.int .i64 f.2.2.2];have HB1:=h_ (HBI.o.alloc HBI.o.size (.cells #[.int .i64 f.1,.int .i64 f.2.1,.int .i64 f.2.2.1,.int .i64 f.2.2.2] 65));generalize wr.alloc (.cells #[.int .i64 f.1,.int .i64 f.2.1,.int .i64 f.2.2.1,.int .i64 f.2.2.2] 65)=w1 at *;generalize wr.heap.size=X at *;have z0:=d_ Z1 0;have z1:=d_ Z1 1;have z2:=d_ Z1 2;have z3:=d_ Z1 3;have x3:=d_ X1 3;have HX1:=h_ X1;have HZ1:=h_ Z1;clear HBX HBI X1 Z1 hc0 hc1 hc2 hc3 x4 x5;refine(fixupWideS_any _ _).mono ?_;rintro e' w2 ⟨rfl,b2⟩;have X2:=HX1.o.call b2;have Z2:=HZ1.o.call b2;have HB2:=h_ (HB1.o.trans (b2.mono HB1.o.size));have HX2:=h_ X2;clear z0 z1 z2 z3 x3 b2 HX1 HZ1 HB1;have z0:=d_ Z2 0;have z1:=d_ Z2 1;have z2:=d_ Z2 2;have z3:=d_ Z2 3;have x3:=d_ X2 3;clear X2 Z2;have hwd:=wide_bd f.2.1;generalize hwg:wide f.2.1=wd at *;have HWG:=h_ hwg;clear hwg;by_cases g1:wd=0
    ·have HN:=h_ (show fixOk many zs.length e f=false by rw[<-Bool.not_eq_true,HIF.o];omega);have e1:(wd==0)=true:=beq_iff_eq.2 g1;clear HIF g1 hwd;go_wp2_with fail
     go_ret;exact⟨by rw[HFF.o (by rw[HFX.o,HN.o];rfl)];rfl,HB2.o⟩
    have e1:(wd==0)=false:=beq_eq_false_iff_ne.2 g1;by_cases g2:f.2.2.1<0
    ·have HN:=h_ (show fixOk many zs.length e f=false by rw[<-Bool.not_eq_true,HIF.o];omega);clear HIF g1;go_wp2_with fail
     go_ret;exact⟨by rw[HFF.o (by rw[HFX.o,HN.o];rfl)];rfl,HB2.o⟩
    have e2:decide (f.2.2.1<0)=false:=decide_eq_false g2;by_cases g3:many<=f.2.2.1
    ·have HN:=h_ (show fixOk many zs.length e f=false by rw[<-Bool.not_eq_true,HIF.o];omega);clear HIF g1 g2;go_wp2_with fail
     go_ret;exact⟨by rw[HFF.o (by rw[HFX.o,HN.o];rfl)];rfl,HB2.o⟩
    have e3:decide (many<=f.2.2.1)=false:=decide_eq_false g3;go_wp2_with fail
    refine(l1In_any _ _ _ _).mono ?_;rintro e' w' ⟨rfl,rfl⟩;by_cases g4:-1000<=f.2.2.2/\f.2.2.2<=1000
    ·rw[inB_t g4];go_wp2_with fail
     refine(l1In_any _ _ _ _).mono ?_;rintro e' w' ⟨rfl,rfl⟩;by_cases g5:e<=f.1/\f.1<=zs.length-wd
     ·rw[inB_t g5];have HY:=h_ (show fixOk many zs.length e f=true by rw[HIF.o];omega);have HS:=h_ (show fixesOk many zs.length 0 fs=fixesOk many zs.length (f.1+wd) (fs.drop (k+1))by rw[HFX.o,HY.o];rfl);have hbd:0<=f.1+wd/\f.1+wd<=48:=by omega
      clear HIF g1 g2 g3 g4 HFX HY;go_wp2_with fail
      refine⟨⟨k+1,f.1+wd,by omega,by go_num,rfl,hbd.1,hbd.2,HS.o,HX2.o,HB2.o⟩,by simp[intOf];omega⟩
     ·rw[inB_f g5];have HN:=h_ (show fixOk many zs.length e f=false by rw[<-Bool.not_eq_true,HIF.o];omega);clear HIF g1 g2 g3 g4 g5;go_wp2_with fail
      go_ret;exact⟨by rw[HFF.o (by rw[HFX.o,HN.o];rfl)];rfl,HB2.o⟩
    ·rw[inB_f g4];have HN:=h_ (show fixOk many zs.length e f=false by rw[<-Bool.not_eq_true,HIF.o];omega);clear HIF g1 g2 g3 g4;go_wp2_with fail
     go_ret;exact⟨by rw[HFF.o (by rw[HFX.o,HN.o];rfl)];rfl,HB2.o⟩
   ·have hE:fixesOk many zs.length 0 fs=true:=by
     rw[hfx,List.drop_of_length_le (by omega)]
     rfl
    have HE:=h_ (HTT.o hE);clear hE hfx hbx hb;by_cases hs:sz=0
    ·have es:(sz==0)=true:=beq_iff_eq.2 hs;rw[decide_eq_true hs]at HE;clear hs;go_wp2_with fail
     go_ret;exact⟨by rw[HE.o];rfl,HBI.o⟩
    ·have es:(sz==0)=false:=beq_eq_false_iff_ne.2 hs;rw[decide_eq_false hs]at HE;clear hs;go_wp2_with fail
     go_ret;exact⟨by rw[HE.o];rfl,HBI.o⟩
end CSecValid3
end Go.Proofs.YtepoiphmmjfbdaaGreatDoor
