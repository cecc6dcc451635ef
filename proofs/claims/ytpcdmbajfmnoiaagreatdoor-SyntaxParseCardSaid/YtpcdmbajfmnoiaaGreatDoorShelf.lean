/- The library's contracts at this program (laid by the kit's tool, in plain words). No condition. -/
import Derived.Lib.AtoiTie
import Derived.Shelf.Strings.Builder1
import Derived.Shelf.Strings.Builder2
import Derived.Shelf.Strings.OnBuilder
import Derived.Shelf.Small.Bits
import Derived.Shelf.Small.Wraps
import Derived.Shelf.Strconv.Atoi
import Derived.Shelf.Strconv.Itoa0
import Derived.Shelf.Strconv.Itoa1
import Derived.Shelf.LaysM
import Derived.Shelf.Strconv.Itoa2
import Derived.Shelf.Strconv.Itoa3
import Derived.Shelf.Strconv.AtoiErrFast
import Derived.Shelf.Strconv.ParseIntEmpty
import Derived.Shelf.Strconv.AtoiFail
import Derived.Shelf.Strconv.Clone
import Derived.Shelf.Strconv.SyntaxError
import Derived.Shelf.LaysC
import Derived.Shelf.Strconv.ToError
import Derived.Shelf.Strconv.Lower
import Derived.Shelf.Strconv.ParseUint10
import Derived.Shelf.Strconv.ParseUint10Empty
import Derived.Shelf.Strconv.ParseUint10Any
import Derived.Shelf.Strconv.ParseInt10
import Derived.Shelf.Strconv.AtoiLong
import Derived.Shelf.Strconv.AtoiInnerAll
import Derived.Shelf.Strconv.RangeError
import Derived.Shelf.Strconv.ToErrorRange
import Derived.Shelf.Strconv.AtoiAll
import Derived.Shelf.Strconv.ErrVarAll
import Derived.Shelf.Pu.ParseUintPublic10
import Derived.Shelf.Pu.ErrVarParseUint
import Derived.Shelf.Strings.Search1
import Derived.Shelf.Strings.Search2
import Derived.Shelf.Strings.Search3
import Derived.Shelf.Strings.Cut
import Derived.Shelf.Strings.Count
import Derived.Shelf.Strings.Shaped
import Derived.Shelf.Sort.Plain
import Derived.Shelf.Strings.Prefix
import Derived.Shelf.Strings.Split
import Derived.Shelf.Strings.SplitShaped
import Derived.Shelf.Unicode.DecodeSlow
import Derived.Shelf.Slices.Clone
import Derived.Shelf.Slices.CompactI
import Derived.Shelf.Slices.SearchI
import Derived.Shelf.Slices.Cells
import Derived.Shelf.Slices.In.SortNone
import Derived.Test.YtpcdmbajfmnoiaaGreatDoorProg
namespace Go.Proofs.YtpcdmbajfmnoiaaGreatDoor
set_option linter.unusedVariables false
set_option linter.unusedSimpArgs false
open Go.Shelf
def lays156_ren:Go.Shelf.Ren:=⟨fun|156=>72|165=>120|166=>121|169=>122|240=>160|241=>161|276=>196|277=>197|n=>n,fun|31=>69|9=>9|3=>3|4=>4|0=>0|20=>20|72=>157|76=>161|70=>155|37=>123|75=>160|127=>202|164=>222|5=>5|80=>132|n=>n,fun|n=>n⟩
theorem lays156:Go.Proofs.Lays.n156 Tryz.prog lays156_ren:={
  mixed:=by kernel_rfl
  f156:=Tryz.func72.trans (congrArg some (by kernel_rfl))
  f165:=Tryz.func120.trans (congrArg some (by kernel_rfl))
  f166:=Tryz.func121.trans (congrArg some (by kernel_rfl))
  f169:=Tryz.func122.trans (congrArg some (by kernel_rfl))
  f240:=Tryz.func160.trans (congrArg some (by kernel_rfl))
  f241:=Tryz.func161.trans (congrArg some (by kernel_rfl))
  f276:=Tryz.func196.trans (congrArg some (by kernel_rfl))
  f277:=Tryz.func197.trans (congrArg some (by kernel_rfl))
  t0:=Tryz.underlying0
  a0:=Tryz.isAgg0
  z0:=Tryz.sizeOf0
  v0:=Tryz.zeroValue0
  t3:=Tryz.underlying3
  a3:=Tryz.isAgg3
  z3:=Tryz.sizeOf3
  v3:=Tryz.zeroValue3
  t4:=Tryz.underlying4
  a4:=Tryz.isAgg4
  z4:=Tryz.sizeOf4
  v4:=Tryz.zeroValue4
  t9:=Tryz.underlying9
  a9:=Tryz.isAgg9
  z9:=Tryz.sizeOf9
  v9:=Tryz.zeroValue9
  t20:=Tryz.underlying20
  a20:=Tryz.isAgg20
  z20:=Tryz.sizeOf20
  v20:=Tryz.zeroValue20
  t31:=Tryz.underlying69
  a31:=Tryz.isAgg69
  z31:=Tryz.sizeOf69
  v31:=Tryz.zeroValue69
  t37:=Tryz.underlying123
  a37:=Tryz.isAgg123
  z37:=Tryz.sizeOf123
  v37:=Tryz.zeroValue123
  t70:=Tryz.underlying155
  a70:=Tryz.isAgg155
  z70:=Tryz.sizeOf155
  v70:=Tryz.zeroValue155
  t72:=Tryz.underlying157
  a72:=Tryz.isAgg157
  z72:=Tryz.sizeOf157
  v72:=Tryz.zeroValue157
  t75:=Tryz.underlying160
  a75:=Tryz.isAgg160
  z75:=Tryz.sizeOf160
  v75:=Tryz.zeroValue160
  t76:=Tryz.underlying161
  a76:=Tryz.isAgg161
  z76:=Tryz.sizeOf161
  v76:=Tryz.zeroValue161
  t127:=Tryz.underlying202
  a127:=Tryz.isAgg202
  z127:=Tryz.sizeOf202
  v127:=Tryz.zeroValue202
  t164:=Tryz.underlying222
  a164:=Tryz.isAgg222
  z164:=Tryz.sizeOf222
  v164:=Tryz.zeroValue222 }
theorem Builder_Extra_156:Builder.Extra Tryz.prog lays156_ren:={
  sizeBuilder:=by kernel_rfl
  liesBuilder:=by kernel_rfl
  t5:=Tryz.underlying5
  a5:=Tryz.isAgg5
  z5:=Tryz.sizeOf5
  v5:=Tryz.zeroValue5
  infoByte:=by kernel_rfl
  cellsByte:=by kernel_rfl
  sizeByte:=by kernel_rfl
  neB5:=by decide }
open Go.RowKit in
theorem strings_Join(bk o c:Nat)(xs:List ByteArray)(sep:ByteArray)(w:World)(hcells:∀(j:Nat) x,xs[j]?=some x→w.cell? ⟨bk,o+j,none⟩=some (.string x))(hbk:bk<w.heap.size)(hN:xs.length≤140737488355328)(hcap:xs.length≤c)(hlen:(Lib.join (xs.map (·.data.toList)) sep.data.toList).length≤140737488355328) :
    Calls Tryz.prog 72 #[.slice (some ⟨bk,o,none⟩) xs.length c,.string sep] w fun e w'=>e=.returned (.string ⟨(Lib.join (xs.map (·.data.toList)) sep.data.toList).toArray⟩)∧Below w.heap.size w w':=Any.strings_Join lays156 Builder_Extra_156 bk o c xs sep w hcells hbk hN hcap hlen
def lays103_ren:Go.Shelf.Ren:=⟨fun|103=>52|210=>86|206=>51|n=>n,fun|9=>9|4=>4|24=>93|3=>3|n=>n,fun|n=>n⟩
theorem lays103:Go.Proofs.Lays.n103 Tryz.prog lays103_ren:={
  mixed:=by kernel_rfl
  f103:=Tryz.func52.trans (congrArg some (by kernel_rfl))
  f206:=Tryz.func51.trans (congrArg some (by kernel_rfl))
  f210:=Tryz.func86.trans (congrArg some (by kernel_rfl))
  t3:=Tryz.underlying3
  a3:=Tryz.isAgg3
  z3:=Tryz.sizeOf3
  v3:=Tryz.zeroValue3
  t4:=Tryz.underlying4
  a4:=Tryz.isAgg4
  z4:=Tryz.sizeOf4
  v4:=Tryz.zeroValue4
  t9:=Tryz.underlying9
  a9:=Tryz.isAgg9
  z9:=Tryz.sizeOf9
  v9:=Tryz.zeroValue9
  t24:=Tryz.underlying93
  a24:=Tryz.isAgg93
  z24:=Tryz.sizeOf93
  v24:=Tryz.zeroValue93 }
open Go.RowKit in
theorem strings_CutPrefix(s p:ByteArray)(w:World) :
    Calls Tryz.prog 52 #[.string s,.string p] w fun e w'=>e=.returned (.tuple #[.string ⟨(Lib.trimPrefix s.data.toList p.data.toList).toArray⟩,.bool (Lib.hasPrefix s.data.toList p.data.toList)])∧w'=w:=Any.strings_CutPrefix lays103 s p w
def lays104_ren:Go.Shelf.Ren:=⟨fun|104=>173|211=>203|207=>198|n=>n,fun|9=>9|4=>4|24=>93|3=>3|n=>n,fun|n=>n⟩
theorem lays104:Go.Proofs.Lays.n104 Tryz.prog lays104_ren:={
  mixed:=by kernel_rfl
  f104:=Tryz.func173.trans (congrArg some (by kernel_rfl))
  f207:=Tryz.func198.trans (congrArg some (by kernel_rfl))
  f211:=Tryz.func203.trans (congrArg some (by kernel_rfl))
  t3:=Tryz.underlying3
  a3:=Tryz.isAgg3
  z3:=Tryz.sizeOf3
  v3:=Tryz.zeroValue3
  t4:=Tryz.underlying4
  a4:=Tryz.isAgg4
  z4:=Tryz.sizeOf4
  v4:=Tryz.zeroValue4
  t9:=Tryz.underlying9
  a9:=Tryz.isAgg9
  z9:=Tryz.sizeOf9
  v9:=Tryz.zeroValue9
  t24:=Tryz.underlying93
  a24:=Tryz.isAgg93
  z24:=Tryz.sizeOf93
  v24:=Tryz.zeroValue93 }
open Go.RowKit in
theorem strings_CutSuffix(s p:ByteArray)(w:World)(hs:s.size≤9223372036854775807) :
    Calls Tryz.prog 173 #[.string s,.string p] w fun e w'=>e=.returned (.tuple #[.string ⟨(Lib.trimSuffix s.data.toList p.data.toList).toArray⟩,.bool (Lib.hasSuffix s.data.toList p.data.toList)])∧w'=w:=Any.strings_CutSuffix lays104 s p w hs
def laysM171_ren:Go.Shelf.Ren:=⟨fun|171=>43|243=>76|246=>126|283=>116|284=>117|285=>118|286=>119|129=>156|317=>155|318=>157|319=>158|320=>159|337=>194|338=>195|n=>n,fun|3=>3|9=>9|2=>2|4=>4|171=>150|0=>0|53=>36|37=>123|5=>5|173=>153|212=>200|51=>83|20=>20|213=>201|46=>193|232=>240|233=>241|n=>n,fun|17=>0|18=>2|19=>3|n=>n⟩
theorem laysM171:Go.Proofs.LaysM.n171 Tryz.prog laysM171_ren:={
  mixed:=by kernel_rfl
  f129:=Tryz.func156.trans (congrArg some (by kernel_rfl))
  f171:=Tryz.func43.trans (congrArg some (by kernel_rfl))
  f243:=Tryz.func76.trans (congrArg some (by kernel_rfl))
  f246:=Tryz.func126.trans (congrArg some (by kernel_rfl))
  f283:=Tryz.func116.trans (congrArg some (by kernel_rfl))
  f284:=Tryz.func117.trans (congrArg some (by kernel_rfl))
  f285:=Tryz.func118.trans (congrArg some (by kernel_rfl))
  f286:=Tryz.func119.trans (congrArg some (by kernel_rfl))
  f317:=Tryz.func155.trans (congrArg some (by kernel_rfl))
  f318:=Tryz.func157.trans (congrArg some (by kernel_rfl))
  f319:=Tryz.func158.trans (congrArg some (by kernel_rfl))
  f320:=Tryz.func159.trans (congrArg some (by kernel_rfl))
  f337:=Tryz.func194.trans (congrArg some (by kernel_rfl))
  f338:=Tryz.func195.trans (congrArg some (by kernel_rfl))
  t0:=Tryz.underlying0
  a0:=Tryz.isAgg0
  z0:=Tryz.sizeOf0
  v0:=Tryz.zeroValue0
  t2:=Tryz.underlying2
  a2:=Tryz.isAgg2
  z2:=Tryz.sizeOf2
  v2:=Tryz.zeroValue2
  t3:=Tryz.underlying3
  a3:=Tryz.isAgg3
  z3:=Tryz.sizeOf3
  v3:=Tryz.zeroValue3
  t4:=Tryz.underlying4
  a4:=Tryz.isAgg4
  z4:=Tryz.sizeOf4
  v4:=Tryz.zeroValue4
  t5:=Tryz.underlying5
  a5:=Tryz.isAgg5
  z5:=Tryz.sizeOf5
  v5:=Tryz.zeroValue5
  t9:=Tryz.underlying9
  a9:=Tryz.isAgg9
  z9:=Tryz.sizeOf9
  v9:=Tryz.zeroValue9
  t20:=Tryz.underlying20
  a20:=Tryz.isAgg20
  z20:=Tryz.sizeOf20
  v20:=Tryz.zeroValue20
  t37:=Tryz.underlying123
  a37:=Tryz.isAgg123
  z37:=Tryz.sizeOf123
  v37:=Tryz.zeroValue123
  t46:=Tryz.underlying193
  a46:=Tryz.isAgg193
  z46:=Tryz.sizeOf193
  v46:=Tryz.zeroValue193
  t51:=Tryz.underlying83
  a51:=Tryz.isAgg83
  z51:=Tryz.sizeOf83
  v51:=Tryz.zeroValue83
  t53:=Tryz.underlying36
  a53:=Tryz.isAgg36
  z53:=Tryz.sizeOf36
  v53:=Tryz.zeroValue36
  t171:=Tryz.underlying150
  a171:=Tryz.isAgg150
  z171:=Tryz.sizeOf150
  v171:=Tryz.zeroValue150
  t173:=Tryz.underlying153
  a173:=Tryz.isAgg153
  z173:=Tryz.sizeOf153
  v173:=Tryz.zeroValue153
  t212:=Tryz.underlying200
  a212:=Tryz.isAgg200
  z212:=Tryz.sizeOf200
  v212:=Tryz.zeroValue200
  t213:=Tryz.underlying201
  a213:=Tryz.isAgg201
  z213:=Tryz.sizeOf201
  t232:=Tryz.underlying240
  a232:=Tryz.isAgg240
  z232:=Tryz.sizeOf240
  v232:=Tryz.zeroValue240
  t233:=Tryz.underlying241
  a233:=Tryz.isAgg241
  z233:=Tryz.sizeOf241
  v233:=Tryz.zeroValue241
  g17:=by kernel_rfl
  g18:=by kernel_rfl
  g19:=by kernel_rfl
  i0:=by kernel_rfl
  i2:=by kernel_rfl
  i3:=by kernel_rfl
  i4:=by kernel_rfl
  i5:=by kernel_rfl
  i9:=by kernel_rfl
  i20:=by kernel_rfl
  i37:=by kernel_rfl
  i46:=by kernel_rfl
  i51:=by kernel_rfl
  i53:=by kernel_rfl
  i171:=by kernel_rfl
  i173:=by kernel_rfl
  i212:=by kernel_rfl
  i232:=by kernel_rfl
  i233:=by kernel_rfl
  m17:=by kernel_rfl
  m18:=by kernel_rfl
  m19:=by kernel_rfl }
open Go.RowKit Go.Sort Go.Lib in
theorem strconv_Itoa (n : Int) (h0 : -9223372036854775808 ≤ n) (h1 : n ≤ 9223372036854775807) (w : World) (htab : Lib.TabIs Tryz.prog w "internal/strconv.uint64pow10" .u64 Lib.pow10Tab) :
    Calls Tryz.prog 43 #[.int .i64 n] w fun e w'=>e=.returned (.string ⟨(Lib.itoa n).toArray⟩)∧∃k os,w'=grow (w.drewN k) os:=Any.strconv_Itoa laysM171 n h0 h1 w htab
def laysC172_ren:Go.Shelf.Ren:=⟨fun|172=>137|244=>176|245=>177|247=>204|279=>205|280=>206|281=>207|282=>208|287=>178|316=>218|171=>43|205=>219|321=>209|322=>210|243=>76|246=>126|283=>116|284=>117|285=>118|286=>119|129=>156|317=>155|318=>157|319=>158|320=>159|337=>194|338=>195|n=>n,fun|9=>9|3=>3|75=>160|76=>161|4=>4|5=>5|167=>227|37=>123|0=>0|85=>228|2=>2|168=>230|53=>36|175=>181|46=>193|210=>248|127=>202|145=>255|143=>253|21=>21|171=>150|173=>153|212=>200|51=>83|20=>20|213=>201|232=>240|233=>241|80=>132|n=>n,fun|15=>6|16=>7|17=>0|18=>2|19=>3|n=>n⟩
theorem laysC172:Go.Proofs.LaysC.n172 Tryz.prog laysC172_ren:={
  mixed:=by kernel_rfl
  f129:=Tryz.func156.trans (congrArg some (by kernel_rfl))
  f171:=Tryz.func43.trans (congrArg some (by kernel_rfl))
  f172:=Tryz.func137.trans (congrArg some (by kernel_rfl))
  f205:=Tryz.func219.trans (congrArg some (by kernel_rfl))
  f243:=Tryz.func76.trans (congrArg some (by kernel_rfl))
  f244:=Tryz.func176.trans (congrArg some (by kernel_rfl))
  f245:=Tryz.func177.trans (congrArg some (by kernel_rfl))
  f246:=Tryz.func126.trans (congrArg some (by kernel_rfl))
  f247:=Tryz.func204.trans (congrArg some (by kernel_rfl))
  f279:=Tryz.func205.trans (congrArg some (by kernel_rfl))
  f280:=Tryz.func206.trans (congrArg some (by kernel_rfl))
  f281:=Tryz.func207.trans (congrArg some (by kernel_rfl))
  f282:=Tryz.func208.trans (congrArg some (by kernel_rfl))
  f283:=Tryz.func116.trans (congrArg some (by kernel_rfl))
  f284:=Tryz.func117.trans (congrArg some (by kernel_rfl))
  f285:=Tryz.func118.trans (congrArg some (by kernel_rfl))
  f286:=Tryz.func119.trans (congrArg some (by kernel_rfl))
  f287:=Tryz.func178.trans (congrArg some (by kernel_rfl))
  f316:=Tryz.func218.trans (congrArg some (by kernel_rfl))
  f317:=Tryz.func155.trans (congrArg some (by kernel_rfl))
  f318:=Tryz.func157.trans (congrArg some (by kernel_rfl))
  f319:=Tryz.func158.trans (congrArg some (by kernel_rfl))
  f320:=Tryz.func159.trans (congrArg some (by kernel_rfl))
  f321:=Tryz.func209.trans (congrArg some (by kernel_rfl))
  f322:=Tryz.func210.trans (congrArg some (by kernel_rfl))
  f337:=Tryz.func194.trans (congrArg some (by kernel_rfl))
  f338:=Tryz.func195.trans (congrArg some (by kernel_rfl))
  t0:=Tryz.underlying0
  a0:=Tryz.isAgg0
  z0:=Tryz.sizeOf0
  v0:=Tryz.zeroValue0
  t2:=Tryz.underlying2
  a2:=Tryz.isAgg2
  z2:=Tryz.sizeOf2
  v2:=Tryz.zeroValue2
  t3:=Tryz.underlying3
  a3:=Tryz.isAgg3
  z3:=Tryz.sizeOf3
  v3:=Tryz.zeroValue3
  t4:=Tryz.underlying4
  a4:=Tryz.isAgg4
  z4:=Tryz.sizeOf4
  v4:=Tryz.zeroValue4
  t5:=Tryz.underlying5
  a5:=Tryz.isAgg5
  z5:=Tryz.sizeOf5
  v5:=Tryz.zeroValue5
  t9:=Tryz.underlying9
  a9:=Tryz.isAgg9
  z9:=Tryz.sizeOf9
  v9:=Tryz.zeroValue9
  t20:=Tryz.underlying20
  a20:=Tryz.isAgg20
  z20:=Tryz.sizeOf20
  v20:=Tryz.zeroValue20
  t21:=Tryz.underlying21
  a21:=Tryz.isAgg21
  z21:=Tryz.sizeOf21
  v21:=Tryz.zeroValue21
  t37:=Tryz.underlying123
  a37:=Tryz.isAgg123
  z37:=Tryz.sizeOf123
  v37:=Tryz.zeroValue123
  t46:=Tryz.underlying193
  a46:=Tryz.isAgg193
  z46:=Tryz.sizeOf193
  v46:=Tryz.zeroValue193
  t51:=Tryz.underlying83
  a51:=Tryz.isAgg83
  z51:=Tryz.sizeOf83
  v51:=Tryz.zeroValue83
  t53:=Tryz.underlying36
  a53:=Tryz.isAgg36
  z53:=Tryz.sizeOf36
  v53:=Tryz.zeroValue36
  t75:=Tryz.underlying160
  a75:=Tryz.isAgg160
  z75:=Tryz.sizeOf160
  v75:=Tryz.zeroValue160
  t76:=Tryz.underlying161
  a76:=Tryz.isAgg161
  z76:=Tryz.sizeOf161
  v76:=Tryz.zeroValue161
  t85:=Tryz.underlying228
  a85:=Tryz.isAgg228
  z85:=Tryz.sizeOf228
  v85:=Tryz.zeroValue228
  t127:=Tryz.underlying202
  a127:=Tryz.isAgg202
  z127:=Tryz.sizeOf202
  v127:=Tryz.zeroValue202
  t143:=Tryz.underlying253
  a143:=Tryz.isAgg253
  z143:=Tryz.sizeOf253
  v143:=Tryz.zeroValue253
  t145:=Tryz.underlying255
  a145:=Tryz.isAgg255
  z145:=Tryz.sizeOf255
  v145:=Tryz.zeroValue255
  t167:=Tryz.underlying227
  a167:=Tryz.isAgg227
  z167:=Tryz.sizeOf227
  v167:=Tryz.zeroValue227
  t168:=Tryz.underlying230
  a168:=Tryz.isAgg230
  z168:=Tryz.sizeOf230
  v168:=Tryz.zeroValue230
  t171:=Tryz.underlying150
  a171:=Tryz.isAgg150
  z171:=Tryz.sizeOf150
  v171:=Tryz.zeroValue150
  t173:=Tryz.underlying153
  a173:=Tryz.isAgg153
  z173:=Tryz.sizeOf153
  v173:=Tryz.zeroValue153
  t175:=Tryz.underlying181
  a175:=Tryz.isAgg181
  z175:=Tryz.sizeOf181
  v175:=Tryz.zeroValue181
  t210:=Tryz.underlying248
  a210:=Tryz.isAgg248
  z210:=Tryz.sizeOf248
  v210:=Tryz.zeroValue248
  t212:=Tryz.underlying200
  a212:=Tryz.isAgg200
  z212:=Tryz.sizeOf200
  v212:=Tryz.zeroValue200
  t213:=Tryz.underlying201
  a213:=Tryz.isAgg201
  z213:=Tryz.sizeOf201
  t232:=Tryz.underlying240
  a232:=Tryz.isAgg240
  z232:=Tryz.sizeOf240
  v232:=Tryz.zeroValue240
  t233:=Tryz.underlying241
  a233:=Tryz.isAgg241
  z233:=Tryz.sizeOf241
  v233:=Tryz.zeroValue241
  g15:=by kernel_rfl
  g16:=by kernel_rfl
  g17:=by kernel_rfl
  g18:=by kernel_rfl
  g19:=by kernel_rfl
  t80:=Tryz.underlying132
  a80:=Tryz.isAgg132
  z80:=Tryz.sizeOf132
  v80:=Tryz.zeroValue132
  i0:=by kernel_rfl
  i2:=by kernel_rfl
  i3:=by kernel_rfl
  i4:=by kernel_rfl
  i5:=by kernel_rfl
  i9:=by kernel_rfl
  i20:=by kernel_rfl
  i21:=by kernel_rfl
  i37:=by kernel_rfl
  i46:=by kernel_rfl
  i51:=by kernel_rfl
  i53:=by kernel_rfl
  i75:=by kernel_rfl
  i76:=by kernel_rfl
  i80:=by kernel_rfl
  i85:=by kernel_rfl
  i127:=by kernel_rfl
  i143:=by kernel_rfl
  i145:=by kernel_rfl
  i167:=by kernel_rfl
  i168:=by kernel_rfl
  i171:=by kernel_rfl
  i173:=by kernel_rfl
  i175:=by kernel_rfl
  i210:=by kernel_rfl
  i212:=by kernel_rfl
  i232:=by kernel_rfl
  i233:=by kernel_rfl
  m15:=by kernel_rfl
  m16:=by kernel_rfl
  m17:=by kernel_rfl
  m18:=by kernel_rfl
  m19:=by kernel_rfl
  c0:=by kernel_rfl
  c2:=by kernel_rfl
  c3:=by kernel_rfl
  c4:=by kernel_rfl
  c5:=by kernel_rfl
  c9:=by kernel_rfl
  c20:=by kernel_rfl
  c21:=by kernel_rfl
  c37:=by kernel_rfl
  c46:=by kernel_rfl
  c51:=by kernel_rfl
  c53:=by kernel_rfl
  c75:=by kernel_rfl
  c76:=by kernel_rfl
  c80:=by kernel_rfl
  c85:=by kernel_rfl
  c127:=by kernel_rfl
  c143:=by kernel_rfl
  c145:=by kernel_rfl
  c167:=by kernel_rfl
  c168:=by kernel_rfl
  c171:=by kernel_rfl
  c173:=by kernel_rfl
  c175:=by kernel_rfl
  c210:=by kernel_rfl
  c212:=by kernel_rfl
  c213:=by kernel_rfl
  c232:=by kernel_rfl
  c233:=by kernel_rfl }
open Go.RowKit in
theorem strconv_Atoi_ok(s:ByteArray)(hmax:s.size≤9223372036854775806)(v:Int)(h:Lib.atoiAll s.data.toList=.ok v)(w:World) :
    Calls Tryz.prog 137 #[.string s] w fun e w'=>e=.returned (.tuple #[.int .i64 v,.nilIface])∧(w'=w∨∃t,w'=Lib.bytesWorld w 5 t):=Any.strconv_Atoi_ok laysC172 s hmax v h w
open Go.RowKit in
theorem strconv_Atoi_syntax_var (s : ByteArray) (hlim : s.size ≤ 281474976710656) (h : Lib.atoiAll s.data.toList = Lib.NumEnd.ofOption none) (tp : TypeId) (p : Value) (w : World) (hvar : w.var? Tryz.prog "strconv.ErrSyntax" = some #[.iface tp p]) :
    Calls Tryz.prog 137 #[.string s] w fun e w'=>∃N,e=.returned (.tuple #[.int .i64 0,.iface 230 (.pointer (some ⟨N,0,none⟩))])∧w.heap.size≤N∧w'.heap[N]?=some (.cells #[.string ⟨#[65,116,111,105]⟩,.string s,.iface tp p] 248 (0,0))∧Below w.heap.size w w':=Any.strconv_Atoi_syntax_var laysC172 s hlim h tp p w hvar
open Go.RowKit in
theorem strconv_Atoi_range_var (s : ByteArray) (hlim : s.size ≤ 281474976710656) (h : Lib.atoiAll s.data.toList = .range) (tp : TypeId) (p : Value) (w : World) (hvar : w.var? Tryz.prog "strconv.ErrRange" = some #[.iface tp p]) :
    Calls Tryz.prog 137 #[.string s] w fun e w'=>∃N,e=.returned (.tuple #[.int .i64 (Lib.atoiSat s.data.toList),.iface 230 (.pointer (some ⟨N,0,none⟩))])∧w.heap.size≤N∧w'.heap[N]?=some (.cells #[.string ⟨#[65,116,111,105]⟩,.string s,.iface tp p] 248 (0,0))∧Below w.heap.size w w':=Any.strconv_Atoi_range_var laysC172 s hlim h tp p w hvar
def laysPu14_ren:Go.Shelf.Ren:=⟨fun|14=>138|16=>178|17=>177|19=>209|20=>210|21=>205|22=>206|23=>207|24=>208|25=>218|27=>43|26=>219|28=>76|29=>126|30=>116|31=>117|32=>118|33=>119|35=>156|34=>155|36=>157|37=>158|38=>159|39=>194|40=>195|n=>n,fun|9=>9|3=>3|22=>36|24=>160|25=>181|4=>4|34=>227|5=>5|36=>193|37=>123|0=>0|39=>230|21=>21|44=>248|47=>202|50=>255|48=>253|2=>2|52=>150|55=>153|59=>200|60=>83|20=>20|61=>201|65=>240|66=>241|67=>132|n=>n,fun|0=>6|1=>7|2=>0|3=>2|4=>3|n=>n⟩
theorem laysPu14:Go.Proofs.LaysPu.n14 Tryz.prog laysPu14_ren:={
  mixed:=by kernel_rfl
  f14:=Tryz.func138.trans (congrArg some (by kernel_rfl))
  f16:=Tryz.func178.trans (congrArg some (by kernel_rfl))
  f17:=Tryz.func177.trans (congrArg some (by kernel_rfl))
  f19:=Tryz.func209.trans (congrArg some (by kernel_rfl))
  f20:=Tryz.func210.trans (congrArg some (by kernel_rfl))
  f21:=Tryz.func205.trans (congrArg some (by kernel_rfl))
  f22:=Tryz.func206.trans (congrArg some (by kernel_rfl))
  f23:=Tryz.func207.trans (congrArg some (by kernel_rfl))
  f24:=Tryz.func208.trans (congrArg some (by kernel_rfl))
  f25:=Tryz.func218.trans (congrArg some (by kernel_rfl))
  f26:=Tryz.func219.trans (congrArg some (by kernel_rfl))
  f27:=Tryz.func43.trans (congrArg some (by kernel_rfl))
  f28:=Tryz.func76.trans (congrArg some (by kernel_rfl))
  f29:=Tryz.func126.trans (congrArg some (by kernel_rfl))
  f30:=Tryz.func116.trans (congrArg some (by kernel_rfl))
  f31:=Tryz.func117.trans (congrArg some (by kernel_rfl))
  f32:=Tryz.func118.trans (congrArg some (by kernel_rfl))
  f33:=Tryz.func119.trans (congrArg some (by kernel_rfl))
  f34:=Tryz.func155.trans (congrArg some (by kernel_rfl))
  f35:=Tryz.func156.trans (congrArg some (by kernel_rfl))
  f36:=Tryz.func157.trans (congrArg some (by kernel_rfl))
  f37:=Tryz.func158.trans (congrArg some (by kernel_rfl))
  f38:=Tryz.func159.trans (congrArg some (by kernel_rfl))
  f39:=Tryz.func194.trans (congrArg some (by kernel_rfl))
  f40:=Tryz.func195.trans (congrArg some (by kernel_rfl))
  t0:=Tryz.underlying0
  a0:=Tryz.isAgg0
  z0:=Tryz.sizeOf0
  v0:=Tryz.zeroValue0
  i0:=by kernel_rfl
  t2:=Tryz.underlying2
  a2:=Tryz.isAgg2
  z2:=Tryz.sizeOf2
  v2:=Tryz.zeroValue2
  i2:=by kernel_rfl
  t3:=Tryz.underlying3
  a3:=Tryz.isAgg3
  z3:=Tryz.sizeOf3
  v3:=Tryz.zeroValue3
  i3:=by kernel_rfl
  t4:=Tryz.underlying4
  a4:=Tryz.isAgg4
  z4:=Tryz.sizeOf4
  v4:=Tryz.zeroValue4
  i4:=by kernel_rfl
  t5:=Tryz.underlying5
  a5:=Tryz.isAgg5
  z5:=Tryz.sizeOf5
  v5:=Tryz.zeroValue5
  i5:=by kernel_rfl
  t9:=Tryz.underlying9
  a9:=Tryz.isAgg9
  z9:=Tryz.sizeOf9
  v9:=Tryz.zeroValue9
  i9:=by kernel_rfl
  t20:=Tryz.underlying20
  a20:=Tryz.isAgg20
  z20:=Tryz.sizeOf20
  v20:=Tryz.zeroValue20
  i20:=by kernel_rfl
  t21:=Tryz.underlying21
  a21:=Tryz.isAgg21
  z21:=Tryz.sizeOf21
  v21:=Tryz.zeroValue21
  i21:=by kernel_rfl
  t22:=Tryz.underlying36
  a22:=Tryz.isAgg36
  z22:=Tryz.sizeOf36
  v22:=Tryz.zeroValue36
  i22:=by kernel_rfl
  t24:=Tryz.underlying160
  a24:=Tryz.isAgg160
  z24:=Tryz.sizeOf160
  v24:=Tryz.zeroValue160
  i24:=by kernel_rfl
  t25:=Tryz.underlying181
  a25:=Tryz.isAgg181
  z25:=Tryz.sizeOf181
  v25:=Tryz.zeroValue181
  i25:=by kernel_rfl
  t34:=Tryz.underlying227
  a34:=Tryz.isAgg227
  z34:=Tryz.sizeOf227
  v34:=Tryz.zeroValue227
  i34:=by kernel_rfl
  c34:=by kernel_rfl
  t36:=Tryz.underlying193
  a36:=Tryz.isAgg193
  z36:=Tryz.sizeOf193
  v36:=Tryz.zeroValue193
  i36:=by kernel_rfl
  t37:=Tryz.underlying123
  a37:=Tryz.isAgg123
  z37:=Tryz.sizeOf123
  v37:=Tryz.zeroValue123
  i37:=by kernel_rfl
  t39:=Tryz.underlying230
  a39:=Tryz.isAgg230
  z39:=Tryz.sizeOf230
  v39:=Tryz.zeroValue230
  i39:=by kernel_rfl
  t44:=Tryz.underlying248
  a44:=Tryz.isAgg248
  z44:=Tryz.sizeOf248
  v44:=Tryz.zeroValue248
  i44:=by kernel_rfl
  t47:=Tryz.underlying202
  a47:=Tryz.isAgg202
  z47:=Tryz.sizeOf202
  v47:=Tryz.zeroValue202
  i47:=by kernel_rfl
  t48:=Tryz.underlying253
  a48:=Tryz.isAgg253
  z48:=Tryz.sizeOf253
  v48:=Tryz.zeroValue253
  i48:=by kernel_rfl
  t50:=Tryz.underlying255
  a50:=Tryz.isAgg255
  z50:=Tryz.sizeOf255
  v50:=Tryz.zeroValue255
  i50:=by kernel_rfl
  t52:=Tryz.underlying150
  a52:=Tryz.isAgg150
  z52:=Tryz.sizeOf150
  v52:=Tryz.zeroValue150
  i52:=by kernel_rfl
  t55:=Tryz.underlying153
  a55:=Tryz.isAgg153
  z55:=Tryz.sizeOf153
  v55:=Tryz.zeroValue153
  i55:=by kernel_rfl
  t59:=Tryz.underlying200
  a59:=Tryz.isAgg200
  z59:=Tryz.sizeOf200
  v59:=Tryz.zeroValue200
  i59:=by kernel_rfl
  t60:=Tryz.underlying83
  a60:=Tryz.isAgg83
  z60:=Tryz.sizeOf83
  v60:=Tryz.zeroValue83
  i60:=by kernel_rfl
  t61:=Tryz.underlying201
  a61:=Tryz.isAgg201
  z61:=Tryz.sizeOf201
  t65:=Tryz.underlying240
  a65:=Tryz.isAgg240
  z65:=Tryz.sizeOf240
  v65:=Tryz.zeroValue240
  i65:=by kernel_rfl
  t66:=Tryz.underlying241
  a66:=Tryz.isAgg241
  z66:=Tryz.sizeOf241
  v66:=Tryz.zeroValue241
  i66:=by kernel_rfl
  t67:=Tryz.underlying132
  a67:=Tryz.isAgg132
  z67:=Tryz.sizeOf132
  v67:=Tryz.zeroValue132
  i67:=by kernel_rfl
  g0:=by kernel_rfl
  m0:=by kernel_rfl
  g1:=by kernel_rfl
  m1:=by kernel_rfl
  g2:=by kernel_rfl
  m2:=by kernel_rfl
  g3:=by kernel_rfl
  m3:=by kernel_rfl
  g4:=by kernel_rfl
  m4:=by kernel_rfl }
open Go.RowKit in
theorem strconv_ParseUint_10_at64_ok(s:ByteArray)(hmax:s.size≤9223372036854775806)(u:Nat)(h:Lib.parseUintB 64 s.data.toList=.ok u)(w:World) :
    Calls Tryz.prog 138 #[.string s,.int .i64 10,.int .i64 64] w fun e w'=>e=.returned (.tuple #[.int .u64 u,.nilIface])∧(w'=w∨w'=Lib.bytesWorld w 5 s):=Any.strconv_ParseUint_10_at64_ok laysPu14 s hmax u h w
open Go.RowKit in
theorem strconv_ParseUint_10_at64_syntax_var (s : ByteArray) (hlim : s.size ≤ 281474976710656) (h : Lib.parseUintB 64 s.data.toList = Lib.NumEnd.ofOption none) (tp : TypeId) (p : Value) (w : World) (hvar : w.var? Tryz.prog "strconv.ErrSyntax" = some #[.iface tp p]) :
    Calls Tryz.prog 138 #[.string s,.int .i64 10,.int .i64 64] w fun e w'=>∃N,e=.returned (.tuple #[.int .u64 0,.iface 230 (.pointer (some ⟨N,0,none⟩))])∧w.heap.size≤N∧w'.heap[N]?=some (.cells #[.string ⟨#[80,97,114,115,101,85,105,110,116]⟩,.string s,.iface tp p] 248 (0,0))∧Below w.heap.size w w':=Any.strconv_ParseUint_10_at64_syntax_var laysPu14 s hlim h tp p w hvar
open Go.RowKit in
theorem strconv_ParseUint_10_at64_range_var (s : ByteArray) (hlim : s.size ≤ 281474976710656) (h : Lib.parseUintB 64 s.data.toList = .range) (tp : TypeId) (p : Value) (w : World) (hvar : w.var? Tryz.prog "strconv.ErrRange" = some #[.iface tp p]) :
    Calls Tryz.prog 138 #[.string s,.int .i64 10,.int .i64 64] w fun e w'=>∃N,e=.returned (.tuple #[.int .u64 18446744073709551615,.iface 230 (.pointer (some ⟨N,0,none⟩))])∧w.heap.size≤N∧w'.heap[N]?=some (.cells #[.string ⟨#[80,97,114,115,101,85,105,110,116]⟩,.string s,.iface tp p] 248 (0,0))∧Below w.heap.size w w':=Any.strconv_ParseUint_10_at64_range_var laysPu14 s hlim h tp p w hvar
def lays143_ren:Go.Shelf.Ren:=⟨fun|143=>133|219=>130|217=>165|225=>166|224=>167|267=>168|266=>199|314=>200|n=>n,fun|9=>9|3=>3|4=>4|5=>5|46=>193|146=>225|51=>83|n=>n,fun|1=>1|n=>n⟩
theorem lays143:Go.Proofs.Lays.n143 Tryz.prog lays143_ren:={
  mixed:=by kernel_rfl
  f143:=Tryz.func133.trans (congrArg some (by kernel_rfl))
  f217:=Tryz.func165.trans (congrArg some (by kernel_rfl))
  f219:=Tryz.func130.trans (congrArg some (by kernel_rfl))
  f224:=Tryz.func167.trans (congrArg some (by kernel_rfl))
  f225:=Tryz.func166.trans (congrArg some (by kernel_rfl))
  f266:=Tryz.func199.trans (congrArg some (by kernel_rfl))
  f267:=Tryz.func168.trans (congrArg some (by kernel_rfl))
  f314:=Tryz.func200.trans (congrArg some (by kernel_rfl))
  t3:=Tryz.underlying3
  a3:=Tryz.isAgg3
  z3:=Tryz.sizeOf3
  v3:=Tryz.zeroValue3
  t4:=Tryz.underlying4
  a4:=Tryz.isAgg4
  z4:=Tryz.sizeOf4
  v4:=Tryz.zeroValue4
  t5:=Tryz.underlying5
  a5:=Tryz.isAgg5
  z5:=Tryz.sizeOf5
  v5:=Tryz.zeroValue5
  t9:=Tryz.underlying9
  a9:=Tryz.isAgg9
  z9:=Tryz.sizeOf9
  v9:=Tryz.zeroValue9
  t46:=Tryz.underlying193
  a46:=Tryz.isAgg193
  z46:=Tryz.sizeOf193
  v46:=Tryz.zeroValue193
  t51:=Tryz.underlying83
  a51:=Tryz.isAgg83
  z51:=Tryz.sizeOf83
  v51:=Tryz.zeroValue83
  t146:=Tryz.underlying225
  a146:=Tryz.isAgg225
  z146:=Tryz.sizeOf225
  v146:=Tryz.zeroValue225
  g1:=by kernel_rfl }
open Go.RowKit Go.Lib in
theorem strings_Index(s sub:ByteArray)(m:Int)(w:World)(hs:s.size<4294967281)(hm:w.cell? ⟨1,0,none⟩=some (.int .i64 m)) :
    Calls Tryz.prog 133 #[.string s,.string sub] w fun e w'=>e=.returned (.int .i64 (Lib.index s.data.toList sub.data.toList))∧w'=w:=Any.strings_Index lays143 s sub m w hs hm
def lays145_ren:Go.Shelf.Ren:=⟨fun|145=>50|220=>85|219=>130|217=>165|225=>166|224=>167|267=>168|266=>199|314=>200|n=>n,fun|9=>9|4=>4|59=>91|3=>3|5=>5|46=>193|146=>225|51=>83|n=>n,fun|1=>1|n=>n⟩
theorem lays145:Go.Proofs.Lays.n145 Tryz.prog lays145_ren:={
  mixed:=by kernel_rfl
  f145:=Tryz.func50.trans (congrArg some (by kernel_rfl))
  f217:=Tryz.func165.trans (congrArg some (by kernel_rfl))
  f219:=Tryz.func130.trans (congrArg some (by kernel_rfl))
  f220:=Tryz.func85.trans (congrArg some (by kernel_rfl))
  f224:=Tryz.func167.trans (congrArg some (by kernel_rfl))
  f225:=Tryz.func166.trans (congrArg some (by kernel_rfl))
  f266:=Tryz.func199.trans (congrArg some (by kernel_rfl))
  f267:=Tryz.func168.trans (congrArg some (by kernel_rfl))
  f314:=Tryz.func200.trans (congrArg some (by kernel_rfl))
  t3:=Tryz.underlying3
  a3:=Tryz.isAgg3
  z3:=Tryz.sizeOf3
  v3:=Tryz.zeroValue3
  t4:=Tryz.underlying4
  a4:=Tryz.isAgg4
  z4:=Tryz.sizeOf4
  v4:=Tryz.zeroValue4
  t5:=Tryz.underlying5
  a5:=Tryz.isAgg5
  z5:=Tryz.sizeOf5
  v5:=Tryz.zeroValue5
  t9:=Tryz.underlying9
  a9:=Tryz.isAgg9
  z9:=Tryz.sizeOf9
  v9:=Tryz.zeroValue9
  t46:=Tryz.underlying193
  a46:=Tryz.isAgg193
  z46:=Tryz.sizeOf193
  v46:=Tryz.zeroValue193
  t51:=Tryz.underlying83
  a51:=Tryz.isAgg83
  z51:=Tryz.sizeOf83
  v51:=Tryz.zeroValue83
  t59:=Tryz.underlying91
  a59:=Tryz.isAgg91
  z59:=Tryz.sizeOf91
  v59:=Tryz.zeroValue91
  t146:=Tryz.underlying225
  a146:=Tryz.isAgg225
  z146:=Tryz.sizeOf225
  v146:=Tryz.zeroValue225
  g1:=by kernel_rfl }
open Go.RowKit Go.Lib in
theorem strings_Cut(s sep:ByteArray)(m:Int)(w:World)(hs:s.size<4294967281)(hm:w.cell? ⟨1,0,none⟩=some (.int .i64 m)) :
    Calls Tryz.prog 50 #[.string s,.string sep] w fun e w'=>e=.returned (.tuple #[.string ⟨(Lib.cut s.data.toList sep.data.toList).1.toArray⟩,.string ⟨(Lib.cut s.data.toList sep.data.toList).2.1.toArray⟩,.bool (Lib.cut s.data.toList sep.data.toList).2.2])∧∃n,w'=w.drewN n:=Any.strings_Cut lays145 s sep m w hs hm
def lays189_ren:Go.Shelf.Ren:=⟨fun|189=>109|125=>150|257=>149|128=>192|129=>156|294=>183|295=>184|296=>185|297=>186|298=>187|299=>188|216=>189|300=>190|301=>191|328=>212|329=>213|330=>214|331=>215|332=>216|215=>217|343=>220|n=>n,fun|28=>40|3=>3|46=>193|0=>0|51=>83|53=>36|4=>4|183=>214|182=>213|131=>180|5=>5|9=>9|218=>235|222=>238|228=>250|229=>251|n=>n,fun|n=>n⟩
theorem lays189:Go.Proofs.Lays.n189 Tryz.prog lays189_ren:={
  mixed:=by kernel_rfl
  f125:=Tryz.func150.trans (congrArg some (by kernel_rfl))
  f128:=Tryz.func192.trans (congrArg some (by kernel_rfl))
  f129:=Tryz.func156.trans (congrArg some (by kernel_rfl))
  f189:=Tryz.func109.trans (congrArg some (by kernel_rfl))
  f215:=Tryz.func217.trans (congrArg some (by kernel_rfl))
  f216:=Tryz.func189.trans (congrArg some (by kernel_rfl))
  f257:=Tryz.func149.trans (congrArg some (by kernel_rfl))
  f294:=Tryz.func183.trans (congrArg some (by kernel_rfl))
  f295:=Tryz.func184.trans (congrArg some (by kernel_rfl))
  f296:=Tryz.func185.trans (congrArg some (by kernel_rfl))
  f297:=Tryz.func186.trans (congrArg some (by kernel_rfl))
  f298:=Tryz.func187.trans (congrArg some (by kernel_rfl))
  f299:=Tryz.func188.trans (congrArg some (by kernel_rfl))
  f300:=Tryz.func190.trans (congrArg some (by kernel_rfl))
  f301:=Tryz.func191.trans (congrArg some (by kernel_rfl))
  f328:=Tryz.func212.trans (congrArg some (by kernel_rfl))
  f329:=Tryz.func213.trans (congrArg some (by kernel_rfl))
  f330:=Tryz.func214.trans (congrArg some (by kernel_rfl))
  f331:=Tryz.func215.trans (congrArg some (by kernel_rfl))
  f332:=Tryz.func216.trans (congrArg some (by kernel_rfl))
  f343:=Tryz.func220.trans (congrArg some (by kernel_rfl))
  t0:=Tryz.underlying0
  a0:=Tryz.isAgg0
  z0:=Tryz.sizeOf0
  v0:=Tryz.zeroValue0
  t3:=Tryz.underlying3
  a3:=Tryz.isAgg3
  z3:=Tryz.sizeOf3
  v3:=Tryz.zeroValue3
  t4:=Tryz.underlying4
  a4:=Tryz.isAgg4
  z4:=Tryz.sizeOf4
  v4:=Tryz.zeroValue4
  t5:=Tryz.underlying5
  a5:=Tryz.isAgg5
  z5:=Tryz.sizeOf5
  v5:=Tryz.zeroValue5
  t9:=Tryz.underlying9
  a9:=Tryz.isAgg9
  z9:=Tryz.sizeOf9
  v9:=Tryz.zeroValue9
  t28:=Tryz.underlying40
  a28:=Tryz.isAgg40
  z28:=Tryz.sizeOf40
  v28:=Tryz.zeroValue40
  t46:=Tryz.underlying193
  a46:=Tryz.isAgg193
  z46:=Tryz.sizeOf193
  v46:=Tryz.zeroValue193
  t51:=Tryz.underlying83
  a51:=Tryz.isAgg83
  z51:=Tryz.sizeOf83
  v51:=Tryz.zeroValue83
  t53:=Tryz.underlying36
  a53:=Tryz.isAgg36
  z53:=Tryz.sizeOf36
  v53:=Tryz.zeroValue36
  t131:=Tryz.underlying180
  a131:=Tryz.isAgg180
  z131:=Tryz.sizeOf180
  v131:=Tryz.zeroValue180
  t182:=Tryz.underlying213
  a182:=Tryz.isAgg213
  z182:=Tryz.sizeOf213
  v182:=Tryz.zeroValue213
  t183:=Tryz.underlying214
  a183:=Tryz.isAgg214
  z183:=Tryz.sizeOf214
  v183:=Tryz.zeroValue214
  t218:=Tryz.underlying235
  a218:=Tryz.isAgg235
  z218:=Tryz.sizeOf235
  v218:=Tryz.zeroValue235
  t222:=Tryz.underlying238
  a222:=Tryz.isAgg238
  z222:=Tryz.sizeOf238
  v222:=Tryz.zeroValue238
  t228:=Tryz.underlying250
  a228:=Tryz.isAgg250
  z228:=Tryz.sizeOf250
  v228:=Tryz.zeroValue250
  t229:=Tryz.underlying251
  a229:=Tryz.isAgg251
  z229:=Tryz.sizeOf251
  v229:=Tryz.zeroValue251 }
open Go.Sort Go.RowKit in
theorem slices_Sort_int(blk off cap:Nat)(zs:List Int)(w:World)(hH:Holds (Value.int .i64) w blk off zs.toArray)(hblk:blk<w.heap.size)(hsz:zs.length<4611686018427387904) :
    Calls Tryz.prog 109 #[.slice (some ⟨blk,off,none⟩) zs.length cap] w fun e w' =>
      e=.returned (.tuple #[])∧∃n os,w'=grow (putRow (Value.int .i64) (Sort.ahead w n) blk off (zs.mergeSort fun x y=>decide (x≤y)).toArray) os:=Any.slices_Sort_int lays189 blk off cap zs w hH hblk hsz
def lays99_ren:Go.Shelf.Ren:=⟨fun|99=>26|206=>51|n=>n,fun|9=>9|4=>4|3=>3|n=>n,fun|n=>n⟩
theorem lays99:Go.Proofs.Lays.n99 Tryz.prog lays99_ren:={
  mixed:=by kernel_rfl
  f99:=Tryz.func26.trans (congrArg some (by kernel_rfl))
  f206:=Tryz.func51.trans (congrArg some (by kernel_rfl))
  t3:=Tryz.underlying3
  a3:=Tryz.isAgg3
  z3:=Tryz.sizeOf3
  v3:=Tryz.zeroValue3
  t4:=Tryz.underlying4
  a4:=Tryz.isAgg4
  z4:=Tryz.sizeOf4
  v4:=Tryz.zeroValue4
  t9:=Tryz.underlying9
  a9:=Tryz.isAgg9
  z9:=Tryz.sizeOf9
  v9:=Tryz.zeroValue9 }
open Go.RowKit Go.Lib in
theorem strings_HasPrefix(s p:ByteArray)(w:World) :
    Calls Tryz.prog 26 #[.string s,.string p] w fun e w'=>e=.returned (.bool (Lib.hasPrefix s.data.toList p.data.toList))∧w'=w:=Any.strings_HasPrefix lays99 s p w
def lays146_ren:Go.Shelf.Ren:=⟨fun|146=>53|221=>87|268=>131|138=>132|143=>133|195=>169|197=>170|218=>171|219=>130|260=>201|217=>165|225=>166|224=>167|267=>168|266=>199|314=>200|n=>n,fun|9=>9|31=>69|3=>3|4=>4|0=>0|105=>205|21=>21|5=>5|46=>193|119=>242|139=>245|138=>244|146=>225|51=>83|n=>n,fun|1=>1|3=>4|4=>5|n=>n⟩
theorem lays146:Go.Proofs.Lays.n146 Tryz.prog lays146_ren:={
  mixed:=by kernel_rfl
  f138:=Tryz.func132.trans (congrArg some (by kernel_rfl))
  f143:=Tryz.func133.trans (congrArg some (by kernel_rfl))
  f146:=Tryz.func53.trans (congrArg some (by kernel_rfl))
  f195:=Tryz.func169.trans (congrArg some (by kernel_rfl))
  f197:=Tryz.func170.trans (congrArg some (by kernel_rfl))
  f217:=Tryz.func165.trans (congrArg some (by kernel_rfl))
  f218:=Tryz.func171.trans (congrArg some (by kernel_rfl))
  f219:=Tryz.func130.trans (congrArg some (by kernel_rfl))
  f221:=Tryz.func87.trans (congrArg some (by kernel_rfl))
  f224:=Tryz.func167.trans (congrArg some (by kernel_rfl))
  f225:=Tryz.func166.trans (congrArg some (by kernel_rfl))
  f260:=Tryz.func201.trans (congrArg some (by kernel_rfl))
  f266:=Tryz.func199.trans (congrArg some (by kernel_rfl))
  f267:=Tryz.func168.trans (congrArg some (by kernel_rfl))
  f268:=Tryz.func131.trans (congrArg some (by kernel_rfl))
  f314:=Tryz.func200.trans (congrArg some (by kernel_rfl))
  t0:=Tryz.underlying0
  a0:=Tryz.isAgg0
  z0:=Tryz.sizeOf0
  v0:=Tryz.zeroValue0
  t3:=Tryz.underlying3
  a3:=Tryz.isAgg3
  z3:=Tryz.sizeOf3
  v3:=Tryz.zeroValue3
  t4:=Tryz.underlying4
  a4:=Tryz.isAgg4
  z4:=Tryz.sizeOf4
  v4:=Tryz.zeroValue4
  t5:=Tryz.underlying5
  a5:=Tryz.isAgg5
  z5:=Tryz.sizeOf5
  v5:=Tryz.zeroValue5
  t9:=Tryz.underlying9
  a9:=Tryz.isAgg9
  z9:=Tryz.sizeOf9
  v9:=Tryz.zeroValue9
  t21:=Tryz.underlying21
  a21:=Tryz.isAgg21
  z21:=Tryz.sizeOf21
  v21:=Tryz.zeroValue21
  t31:=Tryz.underlying69
  a31:=Tryz.isAgg69
  z31:=Tryz.sizeOf69
  v31:=Tryz.zeroValue69
  t46:=Tryz.underlying193
  a46:=Tryz.isAgg193
  z46:=Tryz.sizeOf193
  v46:=Tryz.zeroValue193
  t51:=Tryz.underlying83
  a51:=Tryz.isAgg83
  z51:=Tryz.sizeOf83
  v51:=Tryz.zeroValue83
  t105:=Tryz.underlying205
  a105:=Tryz.isAgg205
  z105:=Tryz.sizeOf205
  v105:=Tryz.zeroValue205
  t119:=Tryz.underlying242
  a119:=Tryz.isAgg242
  z119:=Tryz.sizeOf242
  t138:=Tryz.underlying244
  a138:=Tryz.isAgg244
  z138:=Tryz.sizeOf244
  v138:=Tryz.zeroValue244
  t139:=Tryz.underlying245
  a139:=Tryz.isAgg245
  z139:=Tryz.sizeOf245
  v139:=Tryz.zeroValue245
  t146:=Tryz.underlying225
  a146:=Tryz.isAgg225
  z146:=Tryz.sizeOf225
  v146:=Tryz.zeroValue225
  g1:=by kernel_rfl
  g3:=by kernel_rfl
  g4:=by kernel_rfl }
open Go.RowKit Go.Lib in
theorem strings_Split(s sep:ByteArray)(m:Int)(w:World)(hs:s.size<4294967281)(hm:w.cell? ⟨1,0,none⟩=some (.int .i64 m))(h1:1≤sep.size) :
    Calls Tryz.prog 53 #[.string s,.string sep] w fun e w' =>
      e=.returned (.slice (some ⟨w.heap.size,0,none⟩) (Lib.countB s sep+1) (Lib.countB s sep+1))∧w'=w.alloc (.cells ((Lib.splitB sep 0 (Lib.countB s sep) s).map Value.string).toArray 9):=Any.strings_Split lays146 (by kernel_rfl) s sep m w hs hm h1
def laysNm215_ren:Go.Shelf.Ren:=⟨fun|15=>108|n=>n,fun|22=>40|3=>3|4=>4|n=>n,fun|n=>n⟩
theorem laysNm215:Go.Proofs.Lays2.n15 Tryz.prog laysNm215_ren:={
  mixed:=by kernel_rfl
  f15:=Tryz.func108.trans (congrArg some (by kernel_rfl))
  t3:=Tryz.underlying3
  a3:=Tryz.isAgg3
  z3:=Tryz.sizeOf3
  v3:=Tryz.zeroValue3
  t4:=Tryz.underlying4
  a4:=Tryz.isAgg4
  z4:=Tryz.sizeOf4
  v4:=Tryz.zeroValue4
  t22:=Tryz.underlying40
  a22:=Tryz.isAgg40
  z22:=Tryz.sizeOf40
  v22:=Tryz.zeroValue40
  i3:=by kernel_rfl }
open Go.RowKit Go.Lib in
theorem slices_Clone_int(b off n c:Nat)(zs:List Int)(w:World)(hz:n≤zs.length)(hbig:n*8≤140737488355328)(hc:∀j,j<zs.length→w.cell? ⟨b,off+j,none⟩=some (.int .i64 (zs.getD j 0))) :
    Calls Tryz.prog 108 #[.slice (some ⟨b,off,none⟩) n c] w fun e w'=>∃v',e=.returned v'∧w'.ownsRow w.heap.size 3 1 v' n ((zs.take n).map (Value.int .i64))∧v'≠ .slice none 0 0∧Below w.heap.size w w':=Any.slices_Clone_int laysNm215 b off n c zs w hz hbig hc
open Go.RowKit Go.Lib in
theorem slices_Clone_int_nil(n c:Nat)(w:World) :
    Calls Tryz.prog 108 #[.slice none n c] w fun e w'=>e=.returned (.slice none 0 0)∧w'=w:=Any.slices_Clone_int_nil laysNm215 n c w
open Go.RowKit Go.Lib in
theorem slices_Clone_int_zero(a:Addr)(c:Nat)(w:World) :
    Calls Tryz.prog 108 #[.slice (some a) 0 c] w fun e w'=>∃v',e=.returned v'∧w'.ownsRow w.heap.size 3 1 v' 0 []∧v'≠ .slice none 0 0∧Below w.heap.size w w':=Any.slices_Clone_int_zero laysNm215 a c w
def laysNm220_ren:Go.Shelf.Ren:=⟨fun|20=>112|n=>n,fun|22=>40|3=>3|4=>4|0=>0|n=>n,fun|n=>n⟩
theorem laysNm220:Go.Proofs.Lays2.n20 Tryz.prog laysNm220_ren:={
  mixed:=by kernel_rfl
  f20:=Tryz.func112.trans (congrArg some (by kernel_rfl))
  t0:=Tryz.underlying0
  a0:=Tryz.isAgg0
  z0:=Tryz.sizeOf0
  v0:=Tryz.zeroValue0
  t3:=Tryz.underlying3
  a3:=Tryz.isAgg3
  z3:=Tryz.sizeOf3
  v3:=Tryz.zeroValue3
  t4:=Tryz.underlying4
  a4:=Tryz.isAgg4
  z4:=Tryz.sizeOf4
  v4:=Tryz.zeroValue4
  t22:=Tryz.underlying40
  a22:=Tryz.isAgg40
  z22:=Tryz.sizeOf40
  v22:=Tryz.zeroValue40
  i3:=by kernel_rfl }
open Go.RowKit Go.Lib Go.Sort in
theorem slices_Compact_int(blk off cap:Nat)(zs:List Int)(w:World)(hH:Holds (Value.int .i64) w blk off zs.toArray)(hsz:zs.length≤9223372036854775807)(hcap:zs.length≤cap) :
    Calls Tryz.prog 112 #[.slice (some ⟨blk,off,none⟩) zs.length cap] w fun e w'=>e=.returned (.slice (some ⟨blk,off,none⟩) (Lib.compact zs).length cap)∧∃q,w'=putRow (Value.int .i64) (Sort.ahead w q) blk off (Lib.compact zs++List.replicate (zs.length-(Lib.compact zs).length) 0).toArray:=Any.slices_Compact_int laysNm220 blk off cap zs w hH hsz hcap
open Go.RowKit Go.Lib Go.Sort in
theorem slices_Compact_int_empty(a:Option Addr)(cap:Nat)(w:World) :
    Calls Tryz.prog 112 #[.slice a 0 cap] w fun e w'=>e=.returned (.slice a 0 cap)∧w'=w:=Any.slices_Compact_int_empty laysNm220 a cap w
open Go.RowKit Go.Sort in
theorem slices_Sort_int_none(p:Option Addr)(cap:Nat)(w:World) :
    Calls Tryz.prog 109 #[.slice p 0 cap] w fun e w'=>e=.returned (.tuple #[])∧w'=w:=Any.slices_Sort_int_none lays189 p cap w
end Go.Proofs.YtpcdmbajfmnoiaaGreatDoor
