/- Rs08: the texts Itoab Itoa TrayTx Bl Emp Plain Sum Line Ver Cut Dec Read, joined into one file. -/
import Derived.Shelf.LaysM
import Derived.Shelf.LaysC
import Derived.Shelf.Strconv.Itoa3
import Derived.Shelf.Strconv.AtoiAll
import Derived.Shelf.Small.Wraps
import Derived.Shelf.Small.Strs
import Derived.Shelf.Strings.Search3
import Derived.Shelf.Strings.LastIndexAll
import Derived.Shelf.Strings.Prefix
import Derived.Shelf.Strings.Split
import Derived.Shelf.Slices.Turned
import Derived.Test.YtoeoimhemojdeaaGreatDoorProg
import Derived.WalkSmall
import Derived.Lib.AppendIntMem
import Derived.Test.YtoeoimhemojdeaaGreatDoorRs01
import Derived.Test.YtoeoimhemojdeaaGreatDoorRs02
import Derived.Test.YtoeoimhemojdeaaGreatDoorRs03
import Derived.Test.YtoeoimhemojdeaaGreatDoorRs07

set_option linter.unusedVariables false
open Go.Value renaming int → O, slice → F, string → uk
open Go.IntKind renaming i64 → U

namespace Go.Proofs
open Go.Shelf
def Tryz.lays137_ren:Go.Shelf.Ren:=⟨fun | 137=>122 | 217=>168 | 266=>193 | n=>n,fun | 9=>9 | 5=>5 | 3=>3 | n=>n,fun | n=>n⟩
theorem Tryz.lays137:Go.Proofs.Lays.n137 Tryz.prog Tryz.lays137_ren:={
 mixed:=by kernel_rfl
 f137:=Tryz.func122.trans (congrArg some (by kernel_rfl))
 f217:=Tryz.func168.trans (congrArg some (by kernel_rfl))
 f266:=Tryz.func193.trans (congrArg some (by kernel_rfl))
 t3:=Tryz.underlying3
 a3:=Tryz.isAgg3
 z3:=Tryz.sizeOf3
 v3:=Tryz.zeroValue3
 t5:=Tryz.underlying5
 a5:=Tryz.isAgg5
 z5:=Tryz.sizeOf5
 v5:=Tryz.zeroValue5
 t9:=Tryz.underlying9
 a9:=Tryz.isAgg9
 z9:=Tryz.sizeOf9
 v9:=Tryz.zeroValue9 }
open Go.RowKit in
theorem Tryz.strings_IndexByte (s:ByteArray) (c:Int) (w:World) :
  Calls Tryz.prog 122 #[uk s,.int .u8 c] w fun e w'=>e=.returned (O U (Lib.indexByte s.data.toList c.toNat.toUInt8))∧w'=w:=Any.strings_IndexByte Tryz.lays137 s c w
def Tryz.lays103_ren:Go.Shelf.Ren:=⟨fun | 103=>170 | 210=>195 | 206=>220 | n=>n,fun | 9=>9 | 4=>4 | 24=>64 | 3=>3 | n=>n,fun | n=>n⟩
theorem Tryz.lays103:Go.Proofs.Lays.n103 Tryz.prog Tryz.lays103_ren:={
 mixed:=by kernel_rfl
 f103:=Tryz.func170.trans (congrArg some (by kernel_rfl))
 f206:=Tryz.func220.trans (congrArg some (by kernel_rfl))
 f210:=Tryz.func195.trans (congrArg some (by kernel_rfl))
 t3:=Tryz.underlying3
 a3:=Tryz.isAgg3
 z3:=Tryz.sizeOf3
 v3:=Tryz.zeroValue3
 t4:=Tryz.underlying4
 a4:=Tryz.isAgg4
 z4:=Tryz.sizeOf4
 v4:=Tryz.zeroValue4
 t9:=Tryz.underlying9
 a9:=Tryz.isAgg9
 z9:=Tryz.sizeOf9
 v9:=Tryz.zeroValue9
 t24:=Tryz.underlying64
 a24:=Tryz.isAgg64
 z24:=Tryz.sizeOf64
 v24:=Tryz.zeroValue64 }
open Go.RowKit in
theorem Tryz.strings_CutPrefix (s p:ByteArray) (w:World) :
  Calls Tryz.prog 170 #[uk s,uk p] w fun e w'=>e=.returned (.tuple #[uk ⟨(Lib.trimPrefix s.data.toList p.data.toList).toArray⟩,.bool (Lib.hasPrefix s.data.toList p.data.toList)])∧w'=w:=Any.strings_CutPrefix Tryz.lays103 s p w
def Tryz.laysM171_ren:Go.Shelf.Ren:=⟨fun | 171=>69 | 243=>124 | 246=>172 | 283=>197 | 284=>198 | 285=>199 | 286=>200 | 129=>222 | 317=>221 | 318=>223 | 319=>224 | 320=>225 | 337=>239 | 338=>240 | n=>n,fun | 3=>3 | 9=>9 | 2=>2 | 4=>4 | 171=>199 | 0=>0 | 53=>90 | 37=>54 | 5=>5 | 173=>202 | 212=>219 | 51=>220 | 20=>20 | 213=>221 | 46=>181 | 232=>250 | 233=>251 | n=>n,fun | 17=>1 | 18=>6 | 19=>7 | n=>n⟩
theorem Tryz.laysM171:Go.Proofs.LaysM.n171 Tryz.prog Tryz.laysM171_ren:={
 mixed:=by kernel_rfl
 f129:=Tryz.func222.trans (congrArg some (by kernel_rfl))
 f171:=Tryz.func69.trans (congrArg some (by kernel_rfl))
 f243:=Tryz.func124.trans (congrArg some (by kernel_rfl))
 f246:=Tryz.func172.trans (congrArg some (by kernel_rfl))
 f283:=Tryz.func197.trans (congrArg some (by kernel_rfl))
 f284:=Tryz.func198.trans (congrArg some (by kernel_rfl))
 f285:=Tryz.func199.trans (congrArg some (by kernel_rfl))
 f286:=Tryz.func200.trans (congrArg some (by kernel_rfl))
 f317:=Tryz.func221.trans (congrArg some (by kernel_rfl))
 f318:=Tryz.func223.trans (congrArg some (by kernel_rfl))
 f319:=Tryz.func224.trans (congrArg some (by kernel_rfl))
 f320:=Tryz.func225.trans (congrArg some (by kernel_rfl))
 f337:=Tryz.func239.trans (congrArg some (by kernel_rfl))
 f338:=Tryz.func240.trans (congrArg some (by kernel_rfl))
 t0:=Tryz.underlying0
 a0:=Tryz.isAgg0
 z0:=Tryz.sizeOf0
 v0:=Tryz.zeroValue0
 t2:=Tryz.underlying2
 a2:=Tryz.isAgg2
 z2:=Tryz.sizeOf2
 v2:=Tryz.zeroValue2
 t3:=Tryz.underlying3
 a3:=Tryz.isAgg3
 z3:=Tryz.sizeOf3
 v3:=Tryz.zeroValue3
 t4:=Tryz.underlying4
 a4:=Tryz.isAgg4
 z4:=Tryz.sizeOf4
 v4:=Tryz.zeroValue4
 t5:=Tryz.underlying5
 a5:=Tryz.isAgg5
 z5:=Tryz.sizeOf5
 v5:=Tryz.zeroValue5
 t9:=Tryz.underlying9
 a9:=Tryz.isAgg9
 z9:=Tryz.sizeOf9
 v9:=Tryz.zeroValue9
 t20:=Tryz.underlying20
 a20:=Tryz.isAgg20
 z20:=Tryz.sizeOf20
 v20:=Tryz.zeroValue20
 t37:=Tryz.underlying54
 a37:=Tryz.isAgg54
 z37:=Tryz.sizeOf54
 v37:=Tryz.zeroValue54
 t46:=Tryz.underlying181
 a46:=Tryz.isAgg181
 z46:=Tryz.sizeOf181
 v46:=Tryz.zeroValue181
 t51:=Tryz.underlying220
 a51:=Tryz.isAgg220
 z51:=Tryz.sizeOf220
 v51:=Tryz.zeroValue220
 t53:=Tryz.underlying90
 a53:=Tryz.isAgg90
 z53:=Tryz.sizeOf90
 v53:=Tryz.zeroValue90
 t171:=Tryz.underlying199
 a171:=Tryz.isAgg199
 z171:=Tryz.sizeOf199
 v171:=Tryz.zeroValue199
 t173:=Tryz.underlying202
 a173:=Tryz.isAgg202
 z173:=Tryz.sizeOf202
 v173:=Tryz.zeroValue202
 t212:=Tryz.underlying219
 a212:=Tryz.isAgg219
 z212:=Tryz.sizeOf219
 v212:=Tryz.zeroValue219
 t213:=Tryz.underlying221
 a213:=Tryz.isAgg221
 z213:=Tryz.sizeOf221
 t232:=Tryz.underlying250
 a232:=Tryz.isAgg250
 z232:=Tryz.sizeOf250
 v232:=Tryz.zeroValue250
 t233:=Tryz.underlying251
 a233:=Tryz.isAgg251
 z233:=Tryz.sizeOf251
 v233:=Tryz.zeroValue251
 g17:=by kernel_rfl
 g18:=by kernel_rfl
 g19:=by kernel_rfl
 i0:=by kernel_rfl
 i2:=by kernel_rfl
 i3:=by kernel_rfl
 i4:=by kernel_rfl
 i5:=by kernel_rfl
 i9:=by kernel_rfl
 i20:=by kernel_rfl
 i37:=by kernel_rfl
 i46:=by kernel_rfl
 i51:=by kernel_rfl
 i53:=by kernel_rfl
 i171:=by kernel_rfl
 i173:=by kernel_rfl
 i212:=by kernel_rfl
 i232:=by kernel_rfl
 i233:=by kernel_rfl
 m17:=by kernel_rfl
 m18:=by kernel_rfl
 m19:=by kernel_rfl }
open Go.RowKit Go.Sort Go.Lib in
theorem Tryz.strconv_Itoa (n : Int) (h0 : -9223372036854775808 ≤ n) (h1 : n ≤ 9223372036854775807) (w : World) (htab : Lib.TabIs Tryz.prog w "internal/strconv.uint64pow10" .u64 Lib.pow10Tab) :
  Calls Tryz.prog 69 #[O U n] w fun e w'=>e=.returned (uk ⟨(Lib.itoa n).toArray⟩)∧∃ k os,w'=grow (w.drewN k) os:=Any.strconv_Itoa Tryz.laysM171 n h0 h1 w htab
def Tryz.laysC172_ren:Go.Shelf.Ren:=⟨fun | 172=>150 | 244=>181 | 245=>182 | 247=>206 | 279=>207 | 280=>208 | 281=>209 | 282=>210 | 287=>227 | 316=>228 | 171=>69 | 205=>229 | 321=>241 | 322=>242 | 243=>124 | 246=>172 | 283=>197 | 284=>198 | 285=>199 | 286=>200 | 129=>222 | 317=>221 | 318=>223 | 319=>224 | 320=>225 | 337=>239 | 338=>240 | n=>n,fun | 9=>9 | 3=>3 | 75=>173 | 76=>174 | 4=>4 | 5=>5 | 167=>206 | 37=>54 | 0=>0 | 85=>207 | 2=>2 | 168=>209 | 53=>90 | 175=>225 | 46=>181 | 210=>228 | 127=>245 | 145=>248 | 143=>246 | 21=>21 | 171=>199 | 173=>202 | 212=>219 | 51=>220 | 20=>20 | 213=>221 | 232=>250 | 233=>251 | 80=>234 | n=>n,fun | 15=>2 | 16=>3 | 17=>1 | 18=>6 | 19=>7 | n=>n⟩
theorem Tryz.laysC172:Go.Proofs.LaysC.n172 Tryz.prog Tryz.laysC172_ren:={
 mixed:=by kernel_rfl
 f129:=Tryz.func222.trans (congrArg some (by kernel_rfl))
 f171:=Tryz.func69.trans (congrArg some (by kernel_rfl))
 f172:=Tryz.func150.trans (congrArg some (by kernel_rfl))
 f205:=Tryz.func229.trans (congrArg some (by kernel_rfl))
 f243:=Tryz.func124.trans (congrArg some (by kernel_rfl))
 f244:=Tryz.func181.trans (congrArg some (by kernel_rfl))
 f245:=Tryz.func182.trans (congrArg some (by kernel_rfl))
 f246:=Tryz.func172.trans (congrArg some (by kernel_rfl))
 f247:=Tryz.func206.trans (congrArg some (by kernel_rfl))
 f279:=Tryz.func207.trans (congrArg some (by kernel_rfl))
 f280:=Tryz.func208.trans (congrArg some (by kernel_rfl))
 f281:=Tryz.func209.trans (congrArg some (by kernel_rfl))
 f282:=Tryz.func210.trans (congrArg some (by kernel_rfl))
 f283:=Tryz.func197.trans (congrArg some (by kernel_rfl))
 f284:=Tryz.func198.trans (congrArg some (by kernel_rfl))
 f285:=Tryz.func199.trans (congrArg some (by kernel_rfl))
 f286:=Tryz.func200.trans (congrArg some (by kernel_rfl))
 f287:=Tryz.func227.trans (congrArg some (by kernel_rfl))
 f316:=Tryz.func228.trans (congrArg some (by kernel_rfl))
 f317:=Tryz.func221.trans (congrArg some (by kernel_rfl))
 f318:=Tryz.func223.trans (congrArg some (by kernel_rfl))
 f319:=Tryz.func224.trans (congrArg some (by kernel_rfl))
 f320:=Tryz.func225.trans (congrArg some (by kernel_rfl))
 f321:=Tryz.func241.trans (congrArg some (by kernel_rfl))
 f322:=Tryz.func242.trans (congrArg some (by kernel_rfl))
 f337:=Tryz.func239.trans (congrArg some (by kernel_rfl))
 f338:=Tryz.func240.trans (congrArg some (by kernel_rfl))
 t0:=Tryz.underlying0
 a0:=Tryz.isAgg0
 z0:=Tryz.sizeOf0
 v0:=Tryz.zeroValue0
 t2:=Tryz.underlying2
 a2:=Tryz.isAgg2
 z2:=Tryz.sizeOf2
 v2:=Tryz.zeroValue2
 t3:=Tryz.underlying3
 a3:=Tryz.isAgg3
 z3:=Tryz.sizeOf3
 v3:=Tryz.zeroValue3
 t4:=Tryz.underlying4
 a4:=Tryz.isAgg4
 z4:=Tryz.sizeOf4
 v4:=Tryz.zeroValue4
 t5:=Tryz.underlying5
 a5:=Tryz.isAgg5
 z5:=Tryz.sizeOf5
 v5:=Tryz.zeroValue5
 t9:=Tryz.underlying9
 a9:=Tryz.isAgg9
 z9:=Tryz.sizeOf9
 v9:=Tryz.zeroValue9
 t20:=Tryz.underlying20
 a20:=Tryz.isAgg20
 z20:=Tryz.sizeOf20
 v20:=Tryz.zeroValue20
 t21:=Tryz.underlying21
 a21:=Tryz.isAgg21
 z21:=Tryz.sizeOf21
 v21:=Tryz.zeroValue21
 t37:=Tryz.underlying54
 a37:=Tryz.isAgg54
 z37:=Tryz.sizeOf54
 v37:=Tryz.zeroValue54
 t46:=Tryz.underlying181
 a46:=Tryz.isAgg181
 z46:=Tryz.sizeOf181
 v46:=Tryz.zeroValue181
 t51:=Tryz.underlying220
 a51:=Tryz.isAgg220
 z51:=Tryz.sizeOf220
 v51:=Tryz.zeroValue220
 t53:=Tryz.underlying90
 a53:=Tryz.isAgg90
 z53:=Tryz.sizeOf90
 v53:=Tryz.zeroValue90
 t75:=Tryz.underlying173
 a75:=Tryz.isAgg173
 z75:=Tryz.sizeOf173
 v75:=Tryz.zeroValue173
 t76:=Tryz.underlying174
 a76:=Tryz.isAgg174
 z76:=Tryz.sizeOf174
 v76:=Tryz.zeroValue174
 t85:=Tryz.underlying207
 a85:=Tryz.isAgg207
 z85:=Tryz.sizeOf207
 v85:=Tryz.zeroValue207
 t127:=Tryz.underlying245
 a127:=Tryz.isAgg245
 z127:=Tryz.sizeOf245
 v127:=Tryz.zeroValue245
 t143:=Tryz.underlying246
 a143:=Tryz.isAgg246
 z143:=Tryz.sizeOf246
 v143:=Tryz.zeroValue246
 t145:=Tryz.underlying248
 a145:=Tryz.isAgg248
 z145:=Tryz.sizeOf248
 v145:=Tryz.zeroValue248
 t167:=Tryz.underlying206
 a167:=Tryz.isAgg206
 z167:=Tryz.sizeOf206
 v167:=Tryz.zeroValue206
 t168:=Tryz.underlying209
 a168:=Tryz.isAgg209
 z168:=Tryz.sizeOf209
 v168:=Tryz.zeroValue209
 t171:=Tryz.underlying199
 a171:=Tryz.isAgg199
 z171:=Tryz.sizeOf199
 v171:=Tryz.zeroValue199
 t173:=Tryz.underlying202
 a173:=Tryz.isAgg202
 z173:=Tryz.sizeOf202
 v173:=Tryz.zeroValue202
 t175:=Tryz.underlying225
 a175:=Tryz.isAgg225
 z175:=Tryz.sizeOf225
 v175:=Tryz.zeroValue225
 t210:=Tryz.underlying228
 a210:=Tryz.isAgg228
 z210:=Tryz.sizeOf228
 v210:=Tryz.zeroValue228
 t212:=Tryz.underlying219
 a212:=Tryz.isAgg219
 z212:=Tryz.sizeOf219
 v212:=Tryz.zeroValue219
 t213:=Tryz.underlying221
 a213:=Tryz.isAgg221
 z213:=Tryz.sizeOf221
 t232:=Tryz.underlying250
 a232:=Tryz.isAgg250
 z232:=Tryz.sizeOf250
 v232:=Tryz.zeroValue250
 t233:=Tryz.underlying251
 a233:=Tryz.isAgg251
 z233:=Tryz.sizeOf251
 v233:=Tryz.zeroValue251
 g15:=by kernel_rfl
 g16:=by kernel_rfl
 g17:=by kernel_rfl
 g18:=by kernel_rfl
 g19:=by kernel_rfl
 t80:=Tryz.underlying234
 a80:=Tryz.isAgg234
 z80:=Tryz.sizeOf234
 v80:=Tryz.zeroValue234
 i0:=by kernel_rfl
 i2:=by kernel_rfl
 i3:=by kernel_rfl
 i4:=by kernel_rfl
 i5:=by kernel_rfl
 i9:=by kernel_rfl
 i20:=by kernel_rfl
 i21:=by kernel_rfl
 i37:=by kernel_rfl
 i46:=by kernel_rfl
 i51:=by kernel_rfl
 i53:=by kernel_rfl
 i75:=by kernel_rfl
 i76:=by kernel_rfl
 i80:=by kernel_rfl
 i85:=by kernel_rfl
 i127:=by kernel_rfl
 i143:=by kernel_rfl
 i145:=by kernel_rfl
 i167:=by kernel_rfl
 i168:=by kernel_rfl
 i171:=by kernel_rfl
 i173:=by kernel_rfl
 i175:=by kernel_rfl
 i210:=by kernel_rfl
 i212:=by kernel_rfl
 i232:=by kernel_rfl
 i233:=by kernel_rfl
 m15:=by kernel_rfl
 m16:=by kernel_rfl
 m17:=by kernel_rfl
 m18:=by kernel_rfl
 m19:=by kernel_rfl
 c0:=by kernel_rfl
 c2:=by kernel_rfl
 c3:=by kernel_rfl
 c4:=by kernel_rfl
 c5:=by kernel_rfl
 c9:=by kernel_rfl
 c20:=by kernel_rfl
 c21:=by kernel_rfl
 c37:=by kernel_rfl
 c46:=by kernel_rfl
 c51:=by kernel_rfl
 c53:=by kernel_rfl
 c75:=by kernel_rfl
 c76:=by kernel_rfl
 c80:=by kernel_rfl
 c85:=by kernel_rfl
 c127:=by kernel_rfl
 c143:=by kernel_rfl
 c145:=by kernel_rfl
 c167:=by kernel_rfl
 c168:=by kernel_rfl
 c171:=by kernel_rfl
 c173:=by kernel_rfl
 c175:=by kernel_rfl
 c210:=by kernel_rfl
 c212:=by kernel_rfl
 c213:=by kernel_rfl
 c232:=by kernel_rfl
 c233:=by kernel_rfl }
open Go.RowKit in
theorem Tryz.strconv_Atoi_ok (s:ByteArray) (hmax:s.size≤9223372036854775806) (v:Int) (h:Lib.atoiAll s.data.toList=.ok v) (w:World) :
  Calls Tryz.prog 150 #[uk s] w fun e w'=>e=.returned (.tuple #[O U v,.nilIface])∧(w'=w ∨ ∃ t,w'=Lib.bytesWorld w 5 t):=Any.strconv_Atoi_ok Tryz.laysC172 s hmax v h w
open Go.RowKit in
theorem Tryz.strconv_Atoi_syntax (s:ByteArray) (hlim:s.size≤281474976710656) (h:Lib.atoiAll s.data.toList=Lib.atoiAll []) (ev:Value) (w:World) (hv:w.cell? ⟨2,0,none⟩=some ev) (hev:ev=.nilIface ∨ ∃ te pe,ev=.iface te pe) :
  Calls Tryz.prog 150 #[uk s] w fun e w'=>∃ N,e=.returned (.tuple #[O U (0),.iface 209 (.pointer (some ⟨N,0,none⟩))])∧w.heap.size≤N∧w'.heap[N]?=some (.cells #[uk ⟨#[65,116,111,105]⟩,uk s,ev] 228 (0,0))∧Below w.heap.size w w':=Any.strconv_Atoi_syntax Tryz.laysC172 s hlim (h.trans rfl) ev w hv hev
open Go.RowKit in
theorem Tryz.strconv_Atoi_range (s:ByteArray) (hlim:s.size≤281474976710656) (h:Lib.atoiAll s.data.toList=.range) (ev:Value) (w:World) (hv:w.cell? ⟨3,0,none⟩=some ev) (hev:ev=.nilIface ∨ ∃ te pe,ev=.iface te pe) :
  Calls Tryz.prog 150 #[uk s] w fun e w'=>∃ N,e=.returned (.tuple #[O U (Lib.atoiSat s.data.toList),.iface 209 (.pointer (some ⟨N,0,none⟩))])∧w.heap.size≤N∧w'.heap[N]?=some (.cells #[uk ⟨#[65,116,111,105]⟩,uk s,ev] 228 (0,0))∧Below w.heap.size w w':=Any.strconv_Atoi_range Tryz.laysC172 s hlim h ev w hv hev
def Tryz.lays219_ren:Go.Shelf.Ren:=⟨fun | 219=>180 | 217=>168 | 225=>203 | 224=>204 | 267=>205 | 266=>193 | 314=>226 | n=>n,fun | 9=>9 | 3=>3 | 4=>4 | 5=>5 | 46=>181 | 146=>223 | 51=>220 | n=>n,fun | 1=>0 | n=>n⟩
theorem Tryz.lays219:Go.Proofs.Lays.n219 Tryz.prog Tryz.lays219_ren:={
 mixed:=by kernel_rfl
 f217:=Tryz.func168.trans (congrArg some (by kernel_rfl))
 f219:=Tryz.func180.trans (congrArg some (by kernel_rfl))
 f224:=Tryz.func204.trans (congrArg some (by kernel_rfl))
 f225:=Tryz.func203.trans (congrArg some (by kernel_rfl))
 f266:=Tryz.func193.trans (congrArg some (by kernel_rfl))
 f267:=Tryz.func205.trans (congrArg some (by kernel_rfl))
 f314:=Tryz.func226.trans (congrArg some (by kernel_rfl))
 t3:=Tryz.underlying3
 a3:=Tryz.isAgg3
 z3:=Tryz.sizeOf3
 v3:=Tryz.zeroValue3
 t4:=Tryz.underlying4
 a4:=Tryz.isAgg4
 z4:=Tryz.sizeOf4
 v4:=Tryz.zeroValue4
 t5:=Tryz.underlying5
 a5:=Tryz.isAgg5
 z5:=Tryz.sizeOf5
 v5:=Tryz.zeroValue5
 t9:=Tryz.underlying9
 a9:=Tryz.isAgg9
 z9:=Tryz.sizeOf9
 v9:=Tryz.zeroValue9
 t46:=Tryz.underlying181
 a46:=Tryz.isAgg181
 z46:=Tryz.sizeOf181
 v46:=Tryz.zeroValue181
 t51:=Tryz.underlying220
 a51:=Tryz.isAgg220
 z51:=Tryz.sizeOf220
 v51:=Tryz.zeroValue220
 t146:=Tryz.underlying223
 a146:=Tryz.isAgg223
 z146:=Tryz.sizeOf223
 v146:=Tryz.zeroValue223
 g1:=by kernel_rfl }
open Go.RowKit Go.Lib in
theorem Tryz.stringslite_Index_one (s:ByteArray) (c:UInt8) (w:World) :
  Calls Tryz.prog 180 #[uk s,uk ⟨#[c]⟩] w fun e w'=>e=.returned (O U (Lib.indexByte s.data.toList c))∧w'=w:=Any.stringslite_Index_one Tryz.lays219 s c w
def Tryz.lays144_ren:Go.Shelf.Ren:=⟨fun | 144=>95 | 143=>149 | 219=>180 | 217=>168 | 225=>203 | 224=>204 | 267=>205 | 266=>193 | 314=>226 | n=>n,fun | 9=>9 | 4=>4 | 3=>3 | 5=>5 | 46=>181 | 146=>223 | 51=>220 | n=>n,fun | 1=>0 | n=>n⟩
theorem Tryz.lays144:Go.Proofs.Lays.n144 Tryz.prog Tryz.lays144_ren:={
 mixed:=by kernel_rfl
 f143:=Tryz.func149.trans (congrArg some (by kernel_rfl))
 f144:=Tryz.func95.trans (congrArg some (by kernel_rfl))
 f217:=Tryz.func168.trans (congrArg some (by kernel_rfl))
 f219:=Tryz.func180.trans (congrArg some (by kernel_rfl))
 f224:=Tryz.func204.trans (congrArg some (by kernel_rfl))
 f225:=Tryz.func203.trans (congrArg some (by kernel_rfl))
 f266:=Tryz.func193.trans (congrArg some (by kernel_rfl))
 f267:=Tryz.func205.trans (congrArg some (by kernel_rfl))
 f314:=Tryz.func226.trans (congrArg some (by kernel_rfl))
 t3:=Tryz.underlying3
 a3:=Tryz.isAgg3
 z3:=Tryz.sizeOf3
 v3:=Tryz.zeroValue3
 t4:=Tryz.underlying4
 a4:=Tryz.isAgg4
 z4:=Tryz.sizeOf4
 v4:=Tryz.zeroValue4
 t5:=Tryz.underlying5
 a5:=Tryz.isAgg5
 z5:=Tryz.sizeOf5
 v5:=Tryz.zeroValue5
 t9:=Tryz.underlying9
 a9:=Tryz.isAgg9
 z9:=Tryz.sizeOf9
 v9:=Tryz.zeroValue9
 t46:=Tryz.underlying181
 a46:=Tryz.isAgg181
 z46:=Tryz.sizeOf181
 v46:=Tryz.zeroValue181
 t51:=Tryz.underlying220
 a51:=Tryz.isAgg220
 z51:=Tryz.sizeOf220
 v51:=Tryz.zeroValue220
 t146:=Tryz.underlying223
 a146:=Tryz.isAgg223
 z146:=Tryz.sizeOf223
 v146:=Tryz.zeroValue223
 g1:=by kernel_rfl }
open Go.RowKit Go.Lib in
theorem Tryz.strings_Contains_one (s:ByteArray) (c:UInt8) (w:World) :
  Calls Tryz.prog 95 #[uk s,uk ⟨#[c]⟩] w fun e w'=>e=.returned (.bool (decide (0≤Lib.indexByte s.data.toList c)))∧w'=w:=Any.strings_Contains_one Tryz.lays144 s c w
def Tryz.lays148_ren:Go.Shelf.Ren:=⟨fun | 148=>194 | 222=>218 | 223=>219 | 269=>238 | n=>n,fun | 9=>9 | 3=>3 | 4=>4 | 5=>5 | 146=>223 | 51=>220 | 46=>181 | n=>n,fun | n=>n⟩
theorem Tryz.lays148:Go.Proofs.Lays.n148 Tryz.prog Tryz.lays148_ren:={
 mixed:=by kernel_rfl
 f148:=Tryz.func194.trans (congrArg some (by kernel_rfl))
 f222:=Tryz.func218.trans (congrArg some (by kernel_rfl))
 f223:=Tryz.func219.trans (congrArg some (by kernel_rfl))
 f269:=Tryz.func238.trans (congrArg some (by kernel_rfl))
 t3:=Tryz.underlying3
 a3:=Tryz.isAgg3
 z3:=Tryz.sizeOf3
 v3:=Tryz.zeroValue3
 t4:=Tryz.underlying4
 a4:=Tryz.isAgg4
 z4:=Tryz.sizeOf4
 v4:=Tryz.zeroValue4
 t5:=Tryz.underlying5
 a5:=Tryz.isAgg5
 z5:=Tryz.sizeOf5
 v5:=Tryz.zeroValue5
 t9:=Tryz.underlying9
 a9:=Tryz.isAgg9
 z9:=Tryz.sizeOf9
 v9:=Tryz.zeroValue9
 t46:=Tryz.underlying181
 a46:=Tryz.isAgg181
 z46:=Tryz.sizeOf181
 v46:=Tryz.zeroValue181
 t51:=Tryz.underlying220
 a51:=Tryz.isAgg220
 z51:=Tryz.sizeOf220
 v51:=Tryz.zeroValue220
 t146:=Tryz.underlying223
 a146:=Tryz.isAgg223
 z146:=Tryz.sizeOf223
 v146:=Tryz.zeroValue223 }
open Go.RowKit Go.Lib in
theorem Tryz.strings_LastIndex (s sub:ByteArray) (hs:s.size < 4611686018427387904) (w:World) :
  Calls Tryz.prog 194 #[uk s,uk sub] w fun e w'=>e=.returned (O U (Lib.lastIndex s.data.toList sub.data.toList))∧w'=w:=Any.strings_LastIndex Tryz.lays148 s sub hs w
def Tryz.lays146_ren:Go.Shelf.Ren:=⟨fun | 146=>59 | 221=>107 | 268=>161 | 138=>162 | 143=>149 | 195=>188 | 197=>189 | 218=>190 | 219=>180 | 260=>217 | 217=>168 | 225=>203 | 224=>204 | 267=>205 | 266=>193 | 314=>226 | n=>n,fun | 9=>9 | 31=>49 | 3=>3 | 4=>4 | 0=>0 | 105=>195 | 21=>21 | 5=>5 | 46=>181 | 119=>239 | 139=>242 | 138=>241 | 146=>223 | 51=>220 | n=>n,fun | 1=>0 | 3=>4 | 4=>5 | n=>n⟩
theorem Tryz.lays146:Go.Proofs.Lays.n146 Tryz.prog Tryz.lays146_ren:={
 mixed:=by kernel_rfl
 f138:=Tryz.func162.trans (congrArg some (by kernel_rfl))
 f143:=Tryz.func149.trans (congrArg some (by kernel_rfl))
 f146:=Tryz.func59.trans (congrArg some (by kernel_rfl))
 f195:=Tryz.func188.trans (congrArg some (by kernel_rfl))
 f197:=Tryz.func189.trans (congrArg some (by kernel_rfl))
 f217:=Tryz.func168.trans (congrArg some (by kernel_rfl))
 f218:=Tryz.func190.trans (congrArg some (by kernel_rfl))
 f219:=Tryz.func180.trans (congrArg some (by kernel_rfl))
 f221:=Tryz.func107.trans (congrArg some (by kernel_rfl))
 f224:=Tryz.func204.trans (congrArg some (by kernel_rfl))
 f225:=Tryz.func203.trans (congrArg some (by kernel_rfl))
 f260:=Tryz.func217.trans (congrArg some (by kernel_rfl))
 f266:=Tryz.func193.trans (congrArg some (by kernel_rfl))
 f267:=Tryz.func205.trans (congrArg some (by kernel_rfl))
 f268:=Tryz.func161.trans (congrArg some (by kernel_rfl))
 f314:=Tryz.func226.trans (congrArg some (by kernel_rfl))
 t0:=Tryz.underlying0
 a0:=Tryz.isAgg0
 z0:=Tryz.sizeOf0
 v0:=Tryz.zeroValue0
 t3:=Tryz.underlying3
 a3:=Tryz.isAgg3
 z3:=Tryz.sizeOf3
 v3:=Tryz.zeroValue3
 t4:=Tryz.underlying4
 a4:=Tryz.isAgg4
 z4:=Tryz.sizeOf4
 v4:=Tryz.zeroValue4
 t5:=Tryz.underlying5
 a5:=Tryz.isAgg5
 z5:=Tryz.sizeOf5
 v5:=Tryz.zeroValue5
 t9:=Tryz.underlying9
 a9:=Tryz.isAgg9
 z9:=Tryz.sizeOf9
 v9:=Tryz.zeroValue9
 t21:=Tryz.underlying21
 a21:=Tryz.isAgg21
 z21:=Tryz.sizeOf21
 v21:=Tryz.zeroValue21
 t31:=Tryz.underlying49
 a31:=Tryz.isAgg49
 z31:=Tryz.sizeOf49
 v31:=Tryz.zeroValue49
 t46:=Tryz.underlying181
 a46:=Tryz.isAgg181
 z46:=Tryz.sizeOf181
 v46:=Tryz.zeroValue181
 t51:=Tryz.underlying220
 a51:=Tryz.isAgg220
 z51:=Tryz.sizeOf220
 v51:=Tryz.zeroValue220
 t105:=Tryz.underlying195
 a105:=Tryz.isAgg195
 z105:=Tryz.sizeOf195
 v105:=Tryz.zeroValue195
 t119:=Tryz.underlying239
 a119:=Tryz.isAgg239
 z119:=Tryz.sizeOf239
 t138:=Tryz.underlying241
 a138:=Tryz.isAgg241
 z138:=Tryz.sizeOf241
 v138:=Tryz.zeroValue241
 t139:=Tryz.underlying242
 a139:=Tryz.isAgg242
 z139:=Tryz.sizeOf242
 v139:=Tryz.zeroValue242
 t146:=Tryz.underlying223
 a146:=Tryz.isAgg223
 z146:=Tryz.sizeOf223
 v146:=Tryz.zeroValue223
 g1:=by kernel_rfl
 g3:=by kernel_rfl
 g4:=by kernel_rfl }
open Go.RowKit Go.Lib in
theorem Tryz.strings_Split (s sep:ByteArray) (m:Int) (w:World) (hs:s.size < 4294967281) (hm:w.cell? ⟨0,0,none⟩=some (O U m)) (h1:1≤sep.size) :
  Calls Tryz.prog 59 #[uk s,uk sep] w fun e w' =>
   e=.returned (F (some ⟨w.heap.size,0,none⟩) (Lib.countB s sep+1) (Lib.countB s sep+1))∧w'=w.alloc (.cells ((Lib.splitB sep 0 (Lib.countB s sep) s).map Value.string).toArray 9):=Any.strings_Split Tryz.lays146 (by kernel_rfl) s sep m w hs hm h1
def Tryz.lays107_ren:Go.Shelf.Ren:=⟨fun | 107=>78 | 108=>129 | n=>n,fun | 28=>100 | 3=>3 | 4=>4 | 0=>0 | n=>n,fun | n=>n⟩
theorem Tryz.lays107:Go.Proofs.Lays.n107 Tryz.prog Tryz.lays107_ren:={
 mixed:=by kernel_rfl
 f107:=Tryz.func78.trans (congrArg some (by kernel_rfl))
 f108:=Tryz.func129.trans (congrArg some (by kernel_rfl))
 t0:=Tryz.underlying0
 a0:=Tryz.isAgg0
 z0:=Tryz.sizeOf0
 v0:=Tryz.zeroValue0
 t3:=Tryz.underlying3
 a3:=Tryz.isAgg3
 z3:=Tryz.sizeOf3
 v3:=Tryz.zeroValue3
 t4:=Tryz.underlying4
 a4:=Tryz.isAgg4
 z4:=Tryz.sizeOf4
 v4:=Tryz.zeroValue4
 t28:=Tryz.underlying100
 a28:=Tryz.isAgg100
 z28:=Tryz.sizeOf100
 v28:=Tryz.zeroValue100 }
open Go.Lib in
theorem Tryz.slices_Contains_int (b off n c:Nat) (zs:List Int) (x:Int) (w:World) (hz:n≤zs.length) (hbig:n≤9223372036854775807) (hc:∀ j,j < zs.length→w.cell? ⟨b,off+j,none⟩=some (O U (zs.getD j 0))) :
  Calls Tryz.prog 78 #[F (some ⟨b,off,none⟩) n c,O U x] w fun e w'=>e=.returned (.bool ((zs.take n).contains x))∧w'=w:=Any.slices_Contains_int Tryz.lays107 b off n c zs x w hz hbig hc
end Go.Proofs
namespace Go.Proofs.YtoeoimhemojdeaaGreatDoor
open Go.RowKit
theorem qj (w:World) (k:Nat) (os:Array Obj):Below w.heap.size w (Sort.grow (w.drewN k) os):=by
 have h1:Below w.heap.size w (w.drewN k):=below_drewN (Below.refl _ _) k
 refine h1.trans ⟨rfl,rfl,rfl,by simp [Sort.grow],fun i hi=>?_⟩
 have hs:(w.drewN k).heap=w.heap:=by simp
 simp only [Sort.grow]
 rw [Array.getElem?_append_left (by rw [hs]; exact hi)]
abbrev iR (w : World) : Prop := Lib.TabBelow Tryz.prog w.heap.size w "internal/strconv.uint64pow10" .u64 Lib.pow10Tab
theorem iR.is {w : World} (h : iR w) : Lib.TabIs Tryz.prog w "internal/strconv.uint64pow10" .u64 Lib.pow10Tab := h w (Below.refl _ _)
theorem iR.then {w w' : World} (h:iR w) (hb:Below w.heap.size w w'):iR w':=fun w'' h''=>h w'' (hb.trans (h''.mono hb.size))
theorem iR.at {w:World} (h:iR w) (q:an w.heap.size w):iR q.val:=h.then q.below
theorem cE (n:Int) (w:World) (h0 : -9223372036854775808≤n) (h1:n≤9223372036854775807) (ht:iR w) :
  Calls Tryz.prog 69 #[O U n] w fun e w'=>e=.returned (uk ⟨(Lib.itoa n).toArray⟩)∧Below w.heap.size w w' :=
 (Tryz.strconv_Itoa n h0 h1 w ht.is).mono fun e w' ⟨he,k,os,hw⟩=>⟨he,by rw [hw]; exact qj w k os⟩
abbrev bm (k:Int):ae→Bool:=fun o=>decide (o.k=k)
def pO (c o:ByteArray):ByteArray:=c++⟨#[32,105,110,32]⟩++o++⟨#[32,111,117,116]⟩
abbrev bv (n:Int):ByteArray:=⟨(Lib.itoa n).toArray⟩
def mB (x:aL) (kd:Int):ByteArray:=pO (bv (x.t.getD (au x.t kd).toNat default).c) (bv (aS (bm kd) x.o))
def ed (x:aL) (kd:Int):ByteArray:=if al x && aO x.t kd then mB x kd else ⟨#[]⟩
theorem mC {α:Type} (f:α→Bool):∀ (l:List α) (k:Nat) (i:Nat),bi f k l=(i:Int)→k≤i∧∃ h:i - k < l.length,f l[i - k]=true
 | [],k,i,h=>by simp [bi] at h
 | x :: l,k,i,h=>by
  rw [bi] at h
  split at h
  ·rename_i hx
   obtain rfl:k=i:=by omega
   exact ⟨Nat.le_refl _,by simp,by simpa using hx⟩
  ·obtain ⟨h1,h2,h3⟩:=mC f l (k+1) i h
   refine ⟨by omega,by simp; omega, ?_⟩
   have e:i - k=(i - (k+1))+1:=by omega
   simp only [e,List.getElem_cons_succ]
   exact h3
theorem f9 {ts:List ap} {kd:Int} {i:Nat} (h:au ts kd=i):∃ hi:i < ts.length,ts[i].k=kd:=by
 obtain ⟨_,h2,h3⟩:=mC _ ts 0 i h
 simp only [Nat.sub_zero] at h2 h3
 exact ⟨h2,of_decide_eq_true h3⟩
theorem fD {ts:List ap} {kd:Int} (h:0≤au ts kd):∃ i:Nat,au ts kd=i:=⟨(au ts kd).toNat,by omega⟩
set_option maxRecDepth 100000 in
set_option maxHeartbeats 2000000 in
theorem pn (x:aL) (i:Nat) (kd:Int) (w:World) (h:aM w w.heap.size x) (G:bo x) (hi:i < x.t.length) (hk:x.t[i].k=kd) :
  Calls Tryz.prog 72 #[x.val,O U i] w fun e w'=>e=.returned (uk (pO (bv x.t[i].c) (bv (aS (bm kd) x.o))))∧Below w.heap.size w w':=by
 have hb0:=(Below.refl w.heap.size w).alloc (Nat.le_refl _) (.cells #[F x.TA x.t.length x.tc,F x.OA x.o.length x.oc,O U x.got,O U x.sold,O U x.missed] 40)
 have hS:=mp.of (x:=x) (ah.new w 40 #[F x.TA x.t.length x.tc,F x.OA x.o.length x.oc,O U x.got,O U x.sold,O U x.missed])
 have hR:=h.up hb0 (Nat.le_refl _)
 have HO:=Lib.hid G.oall
 have ol:=G.ol
 have tl:=G.tl
 have htb:=(ap.bounds (G.tall i hi)).2
 have hob:=eU (bm kd) x.t x.o 0 G.oall
 change 0≤aS (bm kd) x.o∧aS (bm kd) x.o≤_ at hob
 have HF:Hid (bs (bm kd) 0 (x.o.drop 0)=aS (bm kd) x.o):=rfl
 have HT:Hid (pO (bv x.t[i].c) (bv (aS (bm kd) x.o))=bv x.t[i].c++⟨#[32,105,110,32]⟩++bv (aS (bm kd) x.o)++⟨#[32,111,117,116]⟩):=rfl
 obtain ⟨tr,htr⟩ : ∃ tr,x.t[i]=tr:=⟨_,rfl⟩
 rw [htr] at hk htb HT ⊢
 go_enter Tryz.func72,Tryz.ntmps72
 go_wp2
 generalize w.alloc (.cells #[F x.TA x.t.length x.tc,F x.OA x.o.length x.oc,O U x.got,O U x.sold,O U x.missed] 40)=W at hb0 hS hR ⊢
 obtain ⟨s0,s1,s2,s3,s4⟩:=hS
 obtain ⟨bt,ot,hTA,_,htc⟩:=hR.ts.el (by omega)
 obtain ⟨t0,t1⟩:=htc i hi
 have hro:=hR.os.el
 simp only [hTA] at s0
 rw [htr] at t0 t1
 clear htc hTA htr
 subst hk
 obtain ⟨htb1,htb2⟩:=htb
 obtain ⟨hob1,hob2⟩:=hob
 have hz0:(0:Int)≤(i:Int):=by omega
 have hii:(i:Int) < (x.t.length:Int):=by omega
 go_loopw [5,6] (fun s k wr=>∃ (j:Nat) (u:Int),j≤x.o.length∧k=O U j∧s=O U u∧(0≤u∧u≤9999 * (j:Int))∧(∃ q:an W.heap.size W,wr=q.val)∧Hid (bs (bm tr.k) u (x.o.drop j)=aS (bm tr.k) x.o)) (fun _ k _=>x.o.length - (intOf k).toNat)
 case atStart=>exact ⟨0,0,Nat.zero_le _,rfl,rfl,by omega,⟨an.start _ _,rfl⟩,HF⟩
 case round =>
  obtain ⟨j,u,hj,rfl,rfl,⟨u0,u1⟩,⟨p,rfl⟩,HU⟩:=hrel
  by_cases hlj:j < x.o.length
  ·obtain ⟨b,off,hA,hb,hcell⟩:=hro (by omega)
   obtain ⟨e0,e1,e2⟩:=hcell j hlj
   obtain ⟨_,_,x1,x2⟩:=ae.bounds (HO.out j hlj)
   have HS:Hid (bs (bm tr.k) u (x.o.drop j)=bs (bm tr.k) (if bm tr.k x.o[j] then u+x.o[j].c else u) (x.o.drop (j+1))):=j0 (f:=bm tr.k) hlj u
   obtain ⟨r,hre⟩ : ∃ r,r=x.o[j]:=⟨_,rfl⟩
   rw [← hre] at e0 e1 e2 HS x1 x2
   simp only [hA] at s1
   clear hre hcell hro hA
   by_cases hz:r.k=tr.k
   ·have hv:(r.k == tr.k)=true:=by simp [hz]
    have HE:Hid (bs (bm tr.k) (u+r.c) (x.o.drop (j+1))=aS (bm tr.k) x.o):=by
     have h1:=HU.out; rw [HS.out,show bm tr.k r=true from decide_eq_true hz,if_pos rfl] at h1; exact h1
    clear hz HS
    go_wp2
    refine bf _ (by kernel_rfl) (by kernel_rfl) ?_
    repeat (any_goals (first | go_big_quiet_step ((fail)) | (refine wpQuiet_step (fun K hK=>?_); go_simp; split <;> (refine hK _ ?_; clear hK K))))
    all_goals (refine wpQuiet_nil ?_; rintro _ ⟨q1,rfl⟩)
    all_goals go_wp2
    go_roundw
    case rel=>exact ⟨j+1,u+r.c,by omega,by go_num,rfl,by omega,⟨q1,rfl⟩,HE⟩
    case measure=>simp [intOf]; omega
   ·have hv:(r.k == tr.k)=false:=by simp [hz]
    have HE:Hid (bs (bm tr.k) u (x.o.drop (j+1))=aS (bm tr.k) x.o):=by
     have h1:=HU.out; rw [HS.out,show bm tr.k r=false from decide_eq_false hz,if_neg (by simp)] at h1; exact h1
    clear hz HS
    go_wp2
    refine bf _ (by kernel_rfl) (by kernel_rfl) ?_
    repeat (any_goals (first | go_big_quiet_step ((fail)) | (refine wpQuiet_step (fun K hK=>?_); go_simp; split <;> (refine hK _ ?_; clear hK K))))
    all_goals (refine wpQuiet_nil ?_; rintro _ ⟨q1,rfl⟩)
    all_goals go_wp2
    go_roundw
    case rel=>exact ⟨j+1,u,by omega,by go_num,rfl,by omega,⟨q1,rfl⟩,HE⟩
    case measure=>simp [intOf]; omega
  ·have HE2:Hid (u=aS (bm tr.k) x.o):=by
    have h1:=HU.out; rw [List.drop_eq_nil_of_le (by omega)] at h1; exact h1
   have z1:=cz htb1 (by omega:tr.c≤1000000000)
   have z2:=cz u0 (by omega:u≤1000000000)
   obtain ⟨SA,hSA⟩ : ∃ SA,bv tr.c=SA:=⟨_,rfl⟩
   obtain ⟨SB,hSB⟩ : ∃ SB,bv u=SB:=⟨_,rfl⟩
   have cA:∀ W,Calls Tryz.prog 71 #[O U tr.c] W fun e w'=>e=.returned (uk SA)∧Below W.heap.size W w':=fun W=>by rw [← hSA]; exact cn tr.c W htb1 (by omega)
   have cB:∀ W,Calls Tryz.prog 71 #[O U u] W fun e w'=>e=.returned (uk SB)∧Below W.heap.size W w':=fun W=>by rw [← hSB]; exact cn u W u0 (by omega)
   have z1' : SA.size≤100:=by rw [← hSA]; exact z1
   have z2' : SB.size≤100:=by rw [← hSB]; exact z2
   have HA:=Lib.hid hSA
   have HB:=Lib.hid hSB
   clear hro hSA hSB z1 z2
   go_wp2_with fail
   refine (cA _).mono ?_
   rintro e w1 ⟨rfl,hb1⟩
   go_wp2_with fail
   refine (cB _).mono ?_
   rintro e w2 ⟨rfl,hb2⟩
   go_wp2
   go_ret
   exact ⟨by rw [HT.out,← HE2.out,HA.out,HB.out]; rfl,aq (aq (aq hb0 p.below) hb1) hb2⟩
theorem ks {x:aL} {kd:Int} (h:(al x && aO x.t kd)=false):ed x kd=⟨#[]⟩:=by unfold ed; rw [h]; rfl
theorem jp {x:aL} {kd:Int} {i:Nat} (hg:al x=true) (hI:au x.t kd=i) (hi:i < x.t.length):(al x && aO x.t kd)=true∧ed x kd=pO (bv x.t[i].c) (bv (aS (bm kd) x.o)):=by
 have h1:aO x.t kd=true:=by rw [← de,hI]; simp
 refine ⟨by rw [hg,h1]; rfl, ?_⟩
 unfold ed mB
 rw [hg,h1,hI,Int.toNat_natCast,List.getD_eq_getElem?_getD,List.getElem?_eq_getElem hi]; rfl
theorem iJ {ts:List ap} {kd:Int} (h : ¬ 0≤au ts kd):aO ts kd=false:=by rw [← de,decide_eq_false h]
set_option maxRecDepth 100000 in
set_option maxHeartbeats 2000000 in
theorem kR (x:aL) (kd:Int) (w:World) (h:aM w w.heap.size x) :
  Calls Tryz.prog 178 #[x.val,O U kd] w fun e w'=>e=.returned (.tuple #[uk (ed x kd),.bool (al x && aO x.t kd)])∧Below w.heap.size w w':=by
 have b1:=(Below.refl w.heap.size w).alloc (Nat.le_refl _) (.cells #[F x.TA x.t.length x.tc,F x.OA x.o.length x.oc,O U x.got,O U x.sold,O U x.missed] 40)
 have hA:=gq h 40
 have cG:=fun W hW=>dA x W hW
 have cT:=fun W hW=>bx x kd W hW
 cases hg:al x
 ·rw [hg] at cG
  have HN:=Lib.hid (ks (x:=x) (kd:=kd) (by rw [hg]; rfl))
  clear hg
  rw [HN.out]
  generalize au x.t kd=I at cT
  go_enter Tryz.func178,Tryz.ntmps178
  go_wp2_with fail
  generalize w.alloc (.cells #[F x.TA x.t.length x.tc,F x.OA x.o.length x.oc,O U x.got,O U x.sold,O U x.missed] 40)=W at b1 hA ⊢
  obtain ⟨p0,p1,p2,p3,p4⟩:=hA.s
  refine (aT (cT _ hA.r)).mono ?_
  rintro e w1 ⟨rfl,q1,rfl⟩
  go_wp2_with fail
  refine (aK (Nat.le_refl _) (cG _ (hA.r.at q1))).mono ?_
  rintro e w2 ⟨rfl,q2,rfl⟩
  go_wp2
  go_ret2
  exact ⟨rfl,b1.trans (q2.below.mono b1.size)⟩
 ·rw [hg] at cG
  have G:=bj.1 hg
  by_cases hI:0≤au x.t kd
  ·obtain ⟨i,hi⟩:=fD hI
   obtain ⟨hlt,hk⟩:=f9 hi
   have HY:=Lib.hid (jp hg hi hlt).2
   have HT:Hid (aO x.t kd=true):=by have:=(jp hg hi hlt).1; rw [hg] at this; exact this
   have cX:=fun W hW=>pn x i kd W hW G hlt hk
   rw [hi] at cT
   clear hg hI hi
   rw [HY.out,HT.out]
   generalize pO (bv x.t[i].c) (bv (aS (bm kd) x.o))=TX at cX ⊢
   go_enter Tryz.func178,Tryz.ntmps178
   go_wp2_with fail
   generalize w.alloc (.cells #[F x.TA x.t.length x.tc,F x.OA x.o.length x.oc,O U x.got,O U x.sold,O U x.missed] 40)=W at b1 hA ⊢
   obtain ⟨p0,p1,p2,p3,p4⟩:=hA.s
   refine (aT (cT _ hA.r)).mono ?_
   rintro e w1 ⟨rfl,q1,rfl⟩
   go_wp2_with fail
   refine (aK (Nat.le_refl _) (cG _ (hA.r.at q1))).mono ?_
   rintro e w2 ⟨rfl,q2,rfl⟩
   go_wp2_with fail
   refine (aK (Nat.le_refl _) (cX _ (hA.r.at q2))).mono ?_
   rintro e w3 ⟨rfl,q3,rfl⟩
   go_wp2
   go_ret2
   exact ⟨rfl,b1.trans (q3.below.mono b1.size)⟩
  ·have HH:=Lib.hid (iJ hI)
   have HN:=Lib.hid (ks (x:=x) (kd:=kd) (by rw [iJ hI,Bool.and_false]))
   clear hg
   rw [HN.out,HH.out]
   generalize au x.t kd=I at cT hI
   go_enter Tryz.func178,Tryz.ntmps178
   go_wp2_with fail
   generalize w.alloc (.cells #[F x.TA x.t.length x.tc,F x.OA x.o.length x.oc,O U x.got,O U x.sold,O U x.missed] 40)=W at b1 hA ⊢
   obtain ⟨p0,p1,p2,p3,p4⟩:=hA.s
   refine (aT (cT _ hA.r)).mono ?_
   rintro e w1 ⟨rfl,q1,rfl⟩
   go_wp2_with fail
   refine (aK (Nat.le_refl _) (cG _ (hA.r.at q1))).mono ?_
   rintro e w2 ⟨rfl,q2,rfl⟩
   go_wp2
   go_ret2
   exact ⟨rfl,b1.trans (q2.below.mono b1.size)⟩
theorem qk (t:ae) (gk:Nat) (kd:Int) (w:World) (hL:ah w gk 3 [O U kd]) :
  Calls Tryz.prog 125 (#[t.val]++#[.pointer (some ⟨gk,0,none⟩)]) w fun e w'=>e=.returned (.bool (bm kd t))∧Below w.heap.size w w':=by
 show Calls Tryz.prog 125 #[t.val,.pointer (some ⟨gk,0,none⟩)] w _
 have b1:=(Below.refl w.heap.size w).alloc (Nat.le_refl _) (.cells #[O U t.k,O U t.p,O U t.c] 147)
 have c0:=(hL.alloc (.cells #[O U t.k,O U t.p,O U t.c] 147)).cell 0
 simp only [List.getElem?_cons_zero] at c0
 obtain ⟨v,hv⟩ : ∃ v,(t.k == kd)=v:=⟨_,rfl⟩
 have HV:Hid (bm kd t=v):=by rw [← hv]; unfold Hid; rw [Bool.eq_iff_iff]; simp [bm]
 go_enter Tryz.func125,Tryz.ntmps125
 go_wp2
 go_ret
 exact ⟨by rw [HV.out]; rfl,b1⟩
set_option maxRecDepth 100000 in
set_option maxHeartbeats 2000000 in
theorem fX (x:aL) (g i:Nat) (kd:Int) (w:World) (h:bX w w.heap.size g x) (G:bo x) (hI:au x.t kd=i) (hi:i < x.t.length) (ht:iR w) :
  Calls Tryz.prog 70 #[.pointer (some ⟨g,0,none⟩),O U kd] w fun e w'=>e=.returned (uk (pO (bv x.t[i].c) (bv (aS (bm kd) x.o))))∧Below w.heap.size w w':=by
 have hmf:∀ (fn:Fn) (first cap:Array Value) (w:World),(Instr.makeFunc fn first cap).run Tryz.prog w=.ok (.func fn first cap) w:=fun _ _ _ _=>rfl
 have b1:=(Below.refl w.heap.size w).alloc (Nat.le_refl _) (.cells #[O U kd] 3)
 have hL:=ah.new w 3 #[O U kd]
 have hA:=h.then b1 b1.size
 have ht1:=ht.then b1
 have ol:=G.ol
 have htb:=(ap.bounds (G.tall i hi)).2
 have hob:=eU (bm kd) x.t x.o 0 G.oall
 change 0≤aS (bm kd) x.o∧aS (bm kd) x.o≤_ at hob
 have HT:Hid (pO (bv x.t[i].c) (bv (aS (bm kd) x.o))=bv x.t[i].c++⟨#[32,105,110,32]⟩++bv (aS (bm kd) x.o)++⟨#[32,111,117,116]⟩):=rfl
 rw [HT.out]
 obtain ⟨tr,htr⟩ : ∃ tr,x.t[i]=tr:=⟨_,rfl⟩
 obtain ⟨S,hS⟩ : ∃ S,aS (bm kd) x.o=S:=⟨_,rfl⟩
 rw [htr] at htb
 rw [hS] at hob
 rw [htr,hS]
 go_enter Tryz.func70,Tryz.ntmps70
 go_wp2_with fail
 generalize w.alloc (.cells #[O U kd] 3)=W at b1 hL hA ht1 ⊢
 have cO:=eG (bm kd) 125 #[.pointer (some ⟨w.heap.size,0,none⟩)] Tryz.call125 x g W (fun o p=>qk o w.heap.size kd p.val (hL.below p.below hL.lt)) hA ol G.oall
 rw [hS] at cO
 refine (aT cO).mono ?_
 rintro e w1 ⟨rfl,q1,rfl⟩
 have hk0:∀ q:an W.heap.size W,q.val.cell? ⟨w.heap.size,0,none⟩=some (O U kd):=fun q=>(q.cell hL.lt).trans (hL.cell 0)
 obtain ⟨p0,p1,p2,p3,p4⟩:=hA.s
 obtain ⟨bt,ot,hTA,_,htc⟩:=hA.r.ts.el (by omega)
 obtain ⟨t0,t1⟩:=htc i hi
 simp only [hTA] at p0
 have cA:=fun q:an W.heap.size W=>bc x g kd q.val (hA.at q)
 rw [hI] at cA
 rw [htr] at t1
 obtain ⟨htb1,htb2⟩:=htb
 obtain ⟨hob1,hob2⟩:=hob
 have c1:=fun q:an W.heap.size W=>cE tr.c q.val (by omega) (by omega) (ht1.at q)
 have c2:=fun q:an W.heap.size W=>cE S q.val (by omega) (by omega) (ht1.at q)
 have z1:=cz htb1 (by omega:tr.c≤1000000000)
 have z2:=cz hob1 (by omega:S≤1000000000)
 have HA:Hid (bv tr.c=⟨(Lib.itoa tr.c).toArray⟩):=rfl
 have HB:Hid (bv S=⟨(Lib.itoa S).toArray⟩):=rfl
 generalize (⟨(Lib.itoa tr.c).toArray⟩ : ByteArray)=SA at c1 z1 HA
 generalize (⟨(Lib.itoa S).toArray⟩ : ByteArray)=SB at c2 z2 HB
 have hz0:(0:Int)≤(i:Int):=by omega
 have hii:(i:Int) < (x.t.length:Int):=by omega
 clear htc hTA cO hS t0 HT
 go_wp2
 refine bf _ (by kernel_rfl) (by kernel_rfl) ?_
 repeat (any_goals (first | go_big_quiet_step ((first | (go_at_call 116; with_reducible refine aK (Nat.le_refl _) (cA _)) | (go_at_call 69; with_reducible refine aK (Nat.le_refl _) (c1 _)) | (go_at_call 69; with_reducible refine aK (Nat.le_refl _) (c2 _)))) | (refine wpQuiet_step (fun K hK=>?_); go_simp; split <;> (refine hK _ ?_; clear hK K))))
 all_goals (refine wpQuiet_nil ?_; rintro _ ⟨q1,rfl⟩)
 all_goals go_wp2
 go_ret
 exact ⟨by rw [HA.out,HB.out]; rfl,aq b1 q1.below⟩
set_option maxRecDepth 100000 in
set_option maxHeartbeats 2000000 in
theorem kS (x:aL) (kd:Int) (w:World) (h:aM w w.heap.size x) (ht:iR w) :
  Calls Tryz.prog 156 #[x.val,O U kd] w fun e w'=>e=.returned (.tuple #[uk (ed x kd),.bool (al x && aO x.t kd)])∧Below w.heap.size w w':=by
 have b1:=(Below.refl w.heap.size w).alloc (Nat.le_refl _) (.cells #[F x.TA x.t.length x.tc,F x.OA x.o.length x.oc,O U x.got,O U x.sold,O U x.missed] 40)
 have hA:=gq h 40
 have ht1:=ht.then b1
 have cG:=fun W hW=>aX x w.heap.size W hW
 have cT:=fun W hW=>bc x w.heap.size kd W hW
 cases hg:al x
 ·rw [hg] at cG
  have HN:=Lib.hid (ks (x:=x) (kd:=kd) (by rw [hg]; rfl))
  clear hg
  rw [HN.out]
  go_enter Tryz.func156,Tryz.ntmps156
  go_wp2_with fail
  generalize w.alloc (.cells #[F x.TA x.t.length x.tc,F x.OA x.o.length x.oc,O U x.got,O U x.sold,O U x.missed] 40)=W at b1 hA ⊢
  refine (cG _ hA).mono ?_
  rintro e w1 ⟨rfl,hb⟩
  go_wp2
  go_ret2
  exact ⟨rfl,aq b1 hb⟩
 ·rw [hg] at cG
  have G:=bj.1 hg
  by_cases hI:0≤au x.t kd
  ·obtain ⟨i,hi⟩:=fD hI
   obtain ⟨hlt,hk⟩:=f9 hi
   have HY:=Lib.hid (jp hg hi hlt).2
   have HT:Hid (aO x.t kd=true):=by have:=(jp hg hi hlt).1; rw [hg] at this; exact this
   have cX:=fun W hW ht=>fX x w.heap.size i kd W hW G hi hlt ht
   rw [hi] at cT
   clear hg hI hi
   rw [HY.out,HT.out]
   generalize pO (bv x.t[i].c) (bv (aS (bm kd) x.o))=TX at cX ⊢
   go_enter Tryz.func156,Tryz.ntmps156
   go_wp2_with fail
   generalize w.alloc (.cells #[F x.TA x.t.length x.tc,F x.OA x.o.length x.oc,O U x.got,O U x.sold,O U x.missed] 40)=W at b1 hA ht1 ⊢
   refine (aT (cG _ hA)).mono ?_
   rintro e w1 ⟨rfl,q1,rfl⟩
   go_wp2_with fail
   refine (aK (Nat.le_refl _) (cT _ (hA.at q1))).mono ?_
   rintro e w2 ⟨rfl,q2,rfl⟩
   go_wp2_with fail
   refine (aK (Nat.le_refl _) (cX _ (hA.at q2) (ht1.at q2))).mono ?_
   rintro e w3 ⟨rfl,q3,rfl⟩
   go_wp2
   go_ret2
   exact ⟨rfl,b1.trans (q3.below.mono b1.size)⟩
  ·have HH:=Lib.hid (iJ hI)
   have HN:=Lib.hid (ks (x:=x) (kd:=kd) (by rw [iJ hI,Bool.and_false]))
   clear hg
   rw [HN.out,HH.out]
   generalize au x.t kd=I at cT hI
   go_enter Tryz.func156,Tryz.ntmps156
   go_wp2_with fail
   generalize w.alloc (.cells #[F x.TA x.t.length x.tc,F x.OA x.o.length x.oc,O U x.got,O U x.sold,O U x.missed] 40)=W at b1 hA ⊢
   refine (aT (cG _ hA)).mono ?_
   rintro e w1 ⟨rfl,q1,rfl⟩
   go_wp2_with fail
   refine (aK (Nat.le_refl _) (cT _ (hA.at q1))).mono ?_
   rintro e w2 ⟨rfl,q2,rfl⟩
   go_wp2
   go_ret2
   exact ⟨rfl,b1.trans (q2.below.mono b1.size)⟩
def bl (s:ByteArray):List UInt8:=s.data.toList
theorem dP (a b:ByteArray):bl (a++b)=bl a++bl b:=by unfold bl; rw [ByteArray.data_append,Array.toList_append]
theorem bK (l:List UInt8):bl ⟨l.toArray⟩=l:=by simp [bl]
theorem kT (l:Array UInt8):bl ⟨l⟩=l.toList:=rfl
theorem ao (s:ByteArray):(bl s).length=s.size:=rfl
theorem dQ {s:ByteArray} {l:List UInt8} (h:bl s=l):s=⟨l.toArray⟩:=by
 rw [← h]; simp [bl]
set_option maxRecDepth 10000 in
theorem eI (a b:ByteArray):(a++b).size=a.size+b.size:=by rw [← ao (a++b),dP,List.length_append,ao,ao]
theorem jq {s:ByteArray} {k:Nat} (h:k < s.size):(bl s).drop k=s[k] :: (bl s).drop (k+1):=List.drop_eq_getElem_cons (l:=bl s) h
theorem tJ {s:ByteArray} {k:Nat} (h:k < s.size):(bl s).take (k+1)=(bl s).take k++[s[k]]:=List.take_succ_eq_append_getElem (l:=bl s) h
theorem bE (s:ByteArray) (a b:Nat):bl (s.extract a b)=((bl s).take b).drop a:=by
 unfold bl
 rw [Lib.extract_data,List.drop_take]
theorem tQ {a b:UInt8} : ((a.toNat:Int) == (b.toNat:Int))=decide (a=b):=by
 rw [Bool.eq_iff_iff]; simp [← UInt8.toNat_inj]; omega
end Go.Proofs.YtoeoimhemojdeaaGreatDoor
namespace Go.Proofs.YtoeoimhemojdeaaGreatDoor
theorem ue (s:ByteArray):s.toList=bl s:=ByteArray.toList_eq s
theorem rL {s:ByteArray} (h : ¬ 1≤s.size):s.toList = []:=by rw [ue]; exact List.eq_nil_of_length_eq_zero (by rw [ao]; omega)
theorem rM {s:ByteArray} (h:1≤s.size):s.toList ≠ []:=fun e=>by rw [ue] at e; have:=congrArg List.length e; rw [ao,List.length_nil] at this; omega
end Go.Proofs.YtoeoimhemojdeaaGreatDoor
namespace Go.Proofs.YtoeoimhemojdeaaGreatDoor
open Go.RowKit
theorem iK {c:UInt8} : iX c=true ↔ 32≤c.toNat∧c.toNat≤126∧c.toNat ≠ 35:=by
 unfold iX
 simp only [Bool.and_eq_true,decide_eq_true_eq,bne_iff_ne,ne_eq,and_assoc]
 constructor <;> (rintro ⟨h1,h2,h3⟩; refine ⟨h1,h2,fun h=>h3 ?_⟩)
 ·exact UInt8.toNat_inj.1 h
 ·rw [h]; rfl
theorem mD {s:ByteArray} {k:Nat} (h:k < s.size):bV ((bl s).drop k)=(iX s[k] && bV ((bl s).drop (k+1))):=by rw [jq h]; rfl
set_option maxHeartbeats 1000000 in
theorem od (s:ByteArray) (m:Int) (w:World) (hs:s.size≤1000000000) :
  Calls Tryz.prog 83 #[uk s,O U m] w fun e w'=>e=.returned (.bool (bV (bl s) && decide ((s.size:Int)≤m)))∧w=w':=by
 have HF:Hid (bV ((bl s).drop 0)=bV (bl s)):=rfl
 go_enter Tryz.func83,Tryz.ntmps83
 go_wp2
 go_loop [5] (fun i=>∃ k:Nat,k≤s.size∧i=O U k∧Hid (bV ((bl s).drop k)=bV (bl s))) (fun i=>s.size - (intOf i).toNat)
 case atStart=>exact ⟨0,Nat.zero_le _,rfl,HF⟩
 case round =>
  obtain ⟨k,hk,rfl,HR⟩:=hrel
  by_cases hlt:k < s.size
  ·have HD:=Lib.hid (mD hlt)
   have u1:(s[k].toNat:Int)≤255:=by have:=UInt8.toNat_lt s[k]; omega
   cases hp:iX s[k]
   ·rw [hp] at HD
    have HN:Hid (bV (bl s)=false):=by rw [Hid,← HR.out,HD.out]; rfl
    by_cases h1:bU (s[k].toNat:Int) 32 126=true
    ·have h2:((s[k].toNat:Int) == 35)=true:=by
      rw [bL] at h1
      have : ¬ (32≤s[k].toNat∧s[k].toNat≤126∧s[k].toNat ≠ 35):=fun h=>by rw [iK.2 h] at hp; cases hp
      simp; omega
     clear hp
     have H1:=Lib.hid h1; clear h1
     go_wp2_with (go_at_call 134; refine (aE _ _ _ _).mono ?_; rw [H1.out]; rintro e w' ⟨rfl,rfl⟩)
     go_ret
     exact ⟨by rw [HN.out]; rfl,rfl⟩
    ·have h1' : bU (s[k].toNat:Int) 32 126=false:=by simpa using h1
     clear hp h1
     have H1:=Lib.hid h1'; clear h1'
     go_wp2_with (go_at_call 134; refine (aE _ _ _ _).mono ?_; rw [H1.out]; rintro e w' ⟨rfl,rfl⟩)
     go_ret
     exact ⟨by rw [HN.out]; rfl,rfl⟩
   ·rw [hp] at HD
    rw [iK] at hp
    have H1:Hid (bU (s[k].toNat:Int) 32 126=true):=by rw [Hid,bL]; omega
    have h2:((s[k].toNat:Int) == 35)=false:=by simp; omega
    clear hp
    go_wp2_with (go_at_call 134; refine (aE _ _ _ _).mono ?_; rw [H1.out]; rintro e w' ⟨rfl,rfl⟩)
    go_round
    case rel=>exact ⟨k+1,by omega,by go_num,by have h:=HR.out; rw [HD.out] at h; exact h⟩
    case measure=>simp [intOf]; omega
  ·have HK:Hid (bV (bl s)=true):=by
    have h1:=HR.out
    rw [List.drop_eq_nil_of_le (by rw [ao]; omega)] at h1; exact h1.symm
   go_wp2
   go_ret
   exact ⟨by rw [HK.out]; rfl,rfl⟩
set_option maxHeartbeats 1000000 in
theorem lW (s:ByteArray) (w:World) (hs:s.size≤1000000000) :
  Calls Tryz.prog 94 #[uk s] w fun e w'=>e=.returned (.bool (bV (bl s)))∧w=w':=by
 have HF:Hid (bV ((bl s).drop 0)=bV (bl s)):=rfl
 go_enter Tryz.func94,Tryz.ntmps94
 go_wp2
 go_loop [3,6] (fun _ i=>∃ k:Nat,k≤s.size∧i=O U k∧Hid (bV ((bl s).drop k)=bV (bl s))) (fun _ i=>s.size - (intOf i).toNat)
 case atStart=>exact ⟨0,Nat.zero_le _,rfl,HF⟩
 case round =>
  obtain ⟨k,hk,rfl,HR⟩:=hrel
  by_cases hlt:k < s.size
  ·have HD:=Lib.hid (mD hlt)
   have u1:(s[k].toNat:Int)≤255:=by have:=UInt8.toNat_lt s[k]; omega
   cases hp:iX s[k]
   ·rw [hp] at HD
    have HN:Hid (bV (bl s)=false):=by rw [Hid,← HR.out,HD.out]; rfl
    have hor:(s[k].toNat:Int) < 32 ∨ (32≤(s[k].toNat:Int)∧126 < (s[k].toNat:Int)) ∨ (32≤(s[k].toNat:Int)∧(s[k].toNat:Int)≤126∧(s[k].toNat:Int)=35):=by
     have : ¬ (32≤s[k].toNat∧s[k].toNat≤126∧s[k].toNat ≠ 35):=fun h=>by rw [iK.2 h] at hp; cases hp
     omega
    clear hp
    rcases hor with h1 | ⟨h1,h2⟩ | ⟨h1,h2,h3⟩
    ·have d1:decide ((s[k].toNat:Int) < 32)=true:=decide_eq_true h1
     clear h1
     go_wp2
     go_ret
     exact ⟨by rw [HN.out]; rfl,rfl⟩
    ·have d1:decide ((s[k].toNat:Int) < 32)=false:=decide_eq_false (by omega)
     have d2:decide (126 < (s[k].toNat:Int))=true:=decide_eq_true h2
     clear h1 h2
     go_wp2
     go_ret
     exact ⟨by rw [HN.out]; rfl,rfl⟩
    ·have d1:decide ((s[k].toNat:Int) < 32)=false:=decide_eq_false (by omega)
     have d2:decide (126 < (s[k].toNat:Int))=false:=decide_eq_false (by omega)
     have d3:((s[k].toNat:Int) == 35)=true:=by simp [h3]
     clear h1 h2 h3
     go_wp2
     go_ret
     exact ⟨by rw [HN.out]; rfl,rfl⟩
   ·rw [hp] at HD
    rw [iK] at hp
    have d1:decide ((s[k].toNat:Int) < 32)=false:=decide_eq_false (by omega)
    have d2:decide (126 < (s[k].toNat:Int))=false:=decide_eq_false (by omega)
    have d3:((s[k].toNat:Int) == 35)=false:=by simp; omega
    clear hp
    go_wp2
    go_round
    case rel=>exact ⟨k+1,by omega,by go_num,by have h:=HR.out; rw [HD.out] at h; exact h⟩
    case measure=>simp [intOf]; omega
  ·have HK:Hid (bV (bl s)=true):=by
    have h1:=HR.out
    rw [List.drop_eq_nil_of_le (by rw [ao]; omega)] at h1; exact h1.symm
   go_wp2
   go_ret
   exact ⟨by rw [HK.out]; rfl,rfl⟩
def ft (l:List UInt8) (b:UInt8):Bool:=l.contains b
theorem sU {s:ByteArray} {k:Nat} {b:UInt8} (h:k < s.size):ft ((bl s).drop k) b=(decide (s[k]=b) || ft ((bl s).drop (k+1)) b):=by
 unfold ft
 rw [jq h,List.contains_cons]
 congr 1
 rw [Bool.eq_iff_iff]; simp; exact eq_comm
set_option maxHeartbeats 1000000 in
theorem oe (s:ByteArray) (b:UInt8) (w:World) (hs:s.size≤1000000000) :
  Calls Tryz.prog 84 #[uk s,.int .u8 b.toNat] w fun e w'=>e=.returned (.bool (ft (bl s) b))∧w=w':=by
 have HF:Hid (ft ((bl s).drop 0) b=ft (bl s) b):=rfl
 go_enter Tryz.func84,Tryz.ntmps84
 go_wp2
 go_loop [5] (fun i=>∃ k:Nat,k≤s.size∧i=O U k∧Hid (ft ((bl s).drop k) b=ft (bl s) b)) (fun i=>s.size - (intOf i).toNat)
 case atStart=>exact ⟨0,Nat.zero_le _,rfl,HF⟩
 case round =>
  obtain ⟨k,hk,rfl,HR⟩:=hrel
  by_cases hlt:k < s.size
  ·have HD:=Lib.hid (sU (b:=b) hlt)
   have hq:=@tQ s[k] b
   cases hp:decide (s[k]=b)
   ·rw [hp] at HD hq
    clear hp
    go_wp2
    go_round
    case rel=>exact ⟨k+1,by omega,by go_num,by have h:=HR.out; rw [HD.out] at h; exact h⟩
    case measure=>simp [intOf]; omega
   ·rw [hp] at HD hq
    clear hp
    go_wp2
    go_ret
    exact ⟨by rw [← HR.out,HD.out]; rfl,rfl⟩
  ·have HK:Hid (ft (bl s) b=false):=by
    have h1:=HR.out
    rw [List.drop_eq_nil_of_le (by rw [ao]; omega)] at h1; exact h1.symm
   go_wp2
   go_ret
   exact ⟨by rw [HK.out]; rfl,rfl⟩
structure fu where
 c:ByteArray
 r:ByteArray
abbrev fu.val (e:fu):Value:=.agg #[uk e.c,uk e.r]
def fu.enc (e:fu):List Value:=[uk e.c,uk e.r]
theorem fu.enc_len (e:fu):e.enc.length=2:=rfl
def fu.ok (e:fu):Bool:=gf (bl e.c) (bl e.r)
theorem fu.ok_eq (e:fu):e.ok=(decide (1≤e.c.size) && decide (e.c.size≤160) && bV (bl e.c) && !ft (bl e.c) 64 && bV (bl e.r) && decide (e.r.size≤200)):=rfl
def og (s:ByteArray) (m:Int):Bool:=bV (bl s) && decide ((s.size:Int)≤m)
theorem ql (s:ByteArray) (m:Int) (w:World) (hs:s.size≤1000000000) :
  Calls Tryz.prog 83 #[uk s,O U m] w fun e w'=>e=.returned (.bool (og s m))∧w=w':=od s m w hs
theorem fu.ok_spec (e:fu):e.ok=(decide (1≤e.c.size) && og e.c 160 && !ft (bl e.c) 64 && og e.r 200):=by
 rw [fu.ok_eq]
 unfold og
 have e1:decide ((e.c.size:Int)≤160)=decide (e.c.size≤160):=by rw [Bool.eq_iff_iff]; simp; omega
 have e2:decide ((e.r.size:Int)≤200)=decide (e.r.size≤200):=by rw [Bool.eq_iff_iff]; simp; omega
 rw [e1,e2]
 cases decide (1≤e.c.size) <;> cases decide (e.c.size≤160) <;> cases bV (bl e.c) <;> cases ft (bl e.c) 64 <;> cases bV (bl e.r) <;> simp
theorem fu.ok_impl (e:fu):e.ok=(bU e.c.size 1 160 && decide ((e.r.size:Int)≤200) && bV (bl e.c) && bV (bl e.r) && !ft (bl e.c) 64):=by
 rw [fu.ok_eq]
 have e1:bU e.c.size 1 160=(decide (1≤e.c.size) && decide (e.c.size≤160)):=by rw [Bool.eq_iff_iff]; simp [bU]; omega
 have e2:decide ((e.r.size:Int)≤200)=decide (e.r.size≤200):=by rw [Bool.eq_iff_iff]; simp; omega
 rw [e1,e2]
 cases decide (1≤e.c.size) <;> cases decide (e.c.size≤160) <;> cases bV (bl e.c) <;> cases bV (bl e.r) <;> cases ft (bl e.c) 64 <;> simp
theorem jH (s:ByteArray) (b:UInt8) (w:World):Calls Tryz.prog 95 #[uk s,uk ⟨#[b]⟩] w fun e w'=>e=.returned (.bool (ft (bl s) b))∧w=w':=by
 refine (Tryz.strings_Contains_one s b w).mono ?_
 rintro e w' ⟨rfl,rfl⟩
 refine ⟨?_,rfl⟩
 congr 2
 unfold ft
 rw [← nG]
 unfold Lib.contains
 rw [Bool.eq_iff_iff]
 simp only [decide_eq_true_eq]
 have h1:Lib.indexByte (bl s) b=Lib.index (bl s) [b]:=by
  rcases iw (bl s) b with ⟨hn,e⟩ | ⟨hy,e⟩
  ·rw [e]
   rcases h:Lib.indexByte (bl s) b with n | n
   ·exfalso; exact hn (List.mem_of_getElem? (Lib.indexByte_some (o:=n) h).1)
   ·have:=Lib.indexByte_ge (bl s) b; rw [h] at this; omega
  ·rw [e]
   have hge:=Lib.indexByte_ge (bl s) b
   rcases Int.lt_or_le (Lib.indexByte (bl s) b) 0 with hlt | hge0
   ·have:Lib.indexByte (bl s) b = -1:=by omega
    have h2:=Lib.indexByte_none this
    obtain ⟨k,hk,hk2⟩:=List.getElem_of_mem hy
    exact absurd (by rw [List.getElem?_eq_getElem hk,hk2]) (h2 k)
   ·obtain ⟨n,hn⟩:=Int.eq_ofNat_of_zero_le hge0
    obtain ⟨h3,h4⟩:=Lib.indexByte_some hn
    rw [hn]
    have hp:=dr hy
    have h5:(bl s)[(dF b (bl s)).length]?=some b:=by
     have:(dF b (bl s)++b :: (bl s).drop ((dF b (bl s)).length+1))[(dF b (bl s)).length]?=some b:=by simp
     rwa [← hp] at this
    rcases Nat.lt_trichotomy n (dF b (bl s)).length with hlt | heq | hgt
    ·exfalso
     have h6:(dF b (bl s))[n]?=some b:=by
      have:(dF b (bl s)++b :: (bl s).drop ((dF b (bl s)).length+1))[n]?=some b:=by rw [← hp]; exact h3
      rwa [List.getElem?_append_left hlt] at this
     exact fT b (bl s) (List.mem_of_getElem? h6)
    ·rw [heq]
    ·exact absurd h5 (h4 _ hgt)
 rw [show s.data.toList=bl s from rfl,h1]
set_option maxHeartbeats 2000000 in
theorem fO (e:fu) (w:World) (h1:e.c.size≤1000000000) (h2:e.r.size≤1000000000) :
  Calls Tryz.prog 46 #[e.val] w fun en w'=>en=.returned (.bool e.ok)∧Below w.heap.size w w':=by
 have hb0:=(Below.refl w.heap.size w).alloc (Nat.le_refl _) (.cells #[uk e.c,uk e.r] 62)
 have HO:=Lib.hid e.ok_spec
 by_cases h0:1≤e.c.size
 ·have n1:=rM h0
  have n2:(e.c.toList.isEmpty)=false:=by simpa using n1
  have H0:Hid (decide (1≤e.c.size)=true):=decide_eq_true h0
  clear h0
  go_enter Tryz.func46,Tryz.ntmps46
  go_wp2_with (first | (go_at_call 83; refine (ql _ _ _ (by assumption)).mono ?_; rintro e w' ⟨rfl,rfl⟩) | (go_at_call 84; refine (oe _ 64 _ (by assumption)).mono ?_; rintro e w' ⟨rfl,rfl⟩))
  all_goals (go_ret; exact ⟨by rw [HO.out,H0.out]; simp [*],hb0⟩)
 ·have n1:=rL h0
  have n2:(e.c.toList.isEmpty)=true:=by simp [n1]
  have H0:Hid (decide (1≤e.c.size)=false):=decide_eq_false h0
  clear h0
  go_enter Tryz.func46,Tryz.ntmps46
  go_wp2
  go_ret
  exact ⟨by rw [HO.out,H0.out]; rfl,hb0⟩
set_option maxHeartbeats 2000000 in
theorem eC (e:fu) (w:World) (h1:e.c.size≤1000000000) (h2:e.r.size≤1000000000) :
  Calls Tryz.prog 51 #[e.val] w fun en w'=>en=.returned (.bool e.ok)∧Below w.heap.size w w':=by
 have hb0:=(Below.refl w.heap.size w).alloc (Nat.le_refl _) (.cells #[uk e.c,uk e.r] 62)
 have HO:=Lib.hid e.ok_impl
 go_enter Tryz.func51,Tryz.ntmps51
 go_wp2_with (first | (go_at_call 75; refine (aN _ _ _ _).mono ?_; rintro e w' ⟨rfl,rfl⟩) | (go_at_call 94; refine (lW _ _ (by assumption)).mono ?_; rintro e w' ⟨rfl,rfl⟩) | (go_at_call 95; refine (jH _ 64 _).mono ?_; rintro e w' ⟨rfl,rfl⟩))
 all_goals (go_ret; refine ⟨?_,hb0⟩; rw [HO.out]; simp [*] <;> omega)
theorem po {s:ByteArray} {k h:Nat} (hk:k < s.size):fU h ((bl s).drop k)=fU ((41 * h+s[k].toNat+1) % 999979) ((bl s).drop (k+1)):=by rw [jq hk]; rfl
set_option maxHeartbeats 1000000 in
theorem rO (s:ByteArray) (w:World) (hs:s.size≤1000000000) :
  Calls Tryz.prog 179 #[uk s] w fun e w'=>e=.returned (O U (ix (bl s)))∧w=w':=by
 have HF:Hid (fU 7 ((bl s).drop 0)=ix (bl s)):=rfl
 go_enter Tryz.func179,Tryz.ntmps179
 go_wp2
 go_loop [3,4] (fun n i=>∃ k h:Nat,k≤s.size∧i=O U k∧n=O U h∧h < 999979∧Hid (fU h ((bl s).drop k)=ix (bl s))) (fun _ i=>s.size - (intOf i).toNat)
 case atStart=>exact ⟨0,7,Nat.zero_le _,rfl,rfl,by omega,HF⟩
 case round =>
  obtain ⟨k,h,hk,rfl,rfl,hh,HR⟩:=hrel
  by_cases hlt:k < s.size
  ·have HD:=Lib.hid (po (h:=h) hlt)
   have u1:(s[k].toNat:Int)≤255:=by have:=UInt8.toNat_lt s[k]; omega
   have HM:Hid ((41 * (h:Int)+(s[k].toNat:Int)+1) % 999979=(((41 * h+s[k].toNat+1) % 999979:Nat):Int)):=by unfold Hid; omega
   have HB:Hid ((41 * h+s[k].toNat+1) % 999979 < 999979):=Nat.mod_lt _ (by omega)
   have e1:(41 * (h:Int)+(s[k].toNat:Int)+1).tmod 999979=(41 * (h:Int)+(s[k].toNat:Int)+1) % 999979:=Int.tmod_eq_emod_of_nonneg (by omega)
   go_wp2
   go_round
   case rel=>exact ⟨k+1,(41 * h+s[k].toNat+1) % 999979,by omega,by go_num,congrArg _ HM.out,HB.out,by have h1:=HR.out; rw [HD.out] at h1; exact h1⟩
   case measure=>simp [intOf]; omega
  ·have HK:Hid (h=ix (bl s)):=by
    have h1:=HR.out
    rw [List.drop_eq_nil_of_le (by rw [ao]; omega)] at h1; exact h1
   go_wp2
   go_ret
   exact ⟨by rw [← HK.out]; rfl,rfl⟩
set_option maxHeartbeats 1000000 in
theorem oh (s:ByteArray) (w:World) (hs:s.size≤1000000000) :
  Calls Tryz.prog 187 #[uk s] w fun e w'=>e=.returned (.tuple #[O U (if s.size≤4000 then (ix (bl s):Int) else 0),.bool (decide (s.size≤4000))])∧w=w':=by
 by_cases h4:s.size≤4000
 ·have d4:decide (4000 < (s.size:Int))=false:=decide_eq_false (by omega)
  have HF:Hid (fU 7 ((bl s).drop 0)=ix (bl s)):=rfl
  rw [if_pos h4,decide_eq_true h4]
  have H4:=Lib.hid h4
  go_enter Tryz.func187,Tryz.ntmps187
  go_wp2
  go_loop [4,5,11] (fun n _ i=>∃ k h:Nat,k≤s.size∧i=O U k∧n=O U h∧h < 999979∧Hid (fU h ((bl s).drop k)=ix (bl s))) (fun _ _ i=>s.size - (intOf i).toNat)
  case atStart=>exact ⟨0,7,Nat.zero_le _,rfl,rfl,by omega,HF⟩
  case round =>
   obtain ⟨k,h,hk,rfl,rfl,hh,HR⟩:=hrel
   by_cases hlt:k < s.size
   ·have HD:=Lib.hid (po (h:=h) hlt)
    have u1:(s[k].toNat:Int)≤255:=by have:=UInt8.toNat_lt s[k]; omega
    have HM:Hid ((41 * (h:Int)+(s[k].toNat:Int)+1) % 999979=(((41 * h+s[k].toNat+1) % 999979:Nat):Int)):=by unfold Hid; omega
    have HB:Hid ((41 * h+s[k].toNat+1) % 999979 < 999979):=Nat.mod_lt _ (by omega)
    have e1:(41 * (h:Int)+(s[k].toNat:Int)+1).tmod 999979=(41 * (h:Int)+(s[k].toNat:Int)+1) % 999979:=Int.tmod_eq_emod_of_nonneg (by omega)
    go_wp2
    go_round
    case rel=>exact ⟨k+1,(41 * h+s[k].toNat+1) % 999979,by omega,by go_num,congrArg _ HM.out,HB.out,by have h1:=HR.out; rw [HD.out] at h1; exact h1⟩
    case measure=>simp [intOf]; omega
   ·have HK:Hid (h=ix (bl s)):=by
     have h1:=HR.out
     rw [List.drop_eq_nil_of_le (by rw [ao]; omega)] at h1; exact h1
    go_wp2
    go_ret2
    exact ⟨by rw [← HK.out]; rfl,rfl⟩
 ·have d4:decide (4000 < (s.size:Int))=true:=decide_eq_true (by omega)
  rw [if_neg h4,decide_eq_false h4]
  clear h4
  go_enter Tryz.func187,Tryz.ntmps187
  go_wp2
  go_ret2
  exact ⟨rfl,rfl⟩
theorem qm {s:ByteArray} {l:List UInt8} (h:bl s=l):Ending.returned (uk s)=.returned (uk ⟨l.toArray⟩):=by rw [dQ h]
theorem qn (s:ByteArray) (w:World) (hs:s.size≤1000000000) :
  Calls Tryz.prog 144 #[uk s] w fun e w'=>e=.returned (uk ⟨(dZ (bl s)).toArray⟩)∧Below w.heap.size w w':=by
 have hl:=nI (bl s)
 have HS:=Lib.hid (fun W=>rO s W hs)
 have HN:=Lib.hid (fun W=>cn (ix (bl s):Int) W (by omega) (by omega))
 have hsz:(⟨(Lib.itoa (ix (bl s):Int)).toArray⟩ : ByteArray).size≤100:=cz (by omega) (by omega)
 obtain ⟨t,ht⟩ : ∃ t:ByteArray,t=⟨(Lib.itoa (ix (bl s):Int)).toArray⟩:=⟨_,rfl⟩
 rw [← ht] at HN hsz
 have HT:Hid (bl t=Lib.itoa (ix (bl s):Int)):=by rw [ht,Hid,bK]
 clear ht
 go_enter Tryz.func144,Tryz.ntmps144
 go_wp2_with (first | (go_at_call 179; refine (HS.out _).mono ?_; rintro e w' ⟨rfl,rfl⟩) | (go_at_call 71; refine (HN.out _).mono ?_; rintro e w1 ⟨rfl,hb1⟩))
 go_ret
 exact ⟨qm (by rw [dP,dP,HT.out]; unfold dZ; simp [kT]),hb1⟩
set_option maxHeartbeats 2000000 in
theorem lH (k:Nat) (e:fu) (w:World) (hk:k≤1000) (h1:e.c.size≤1000000) (h2:e.r.size≤1000000) :
  Calls Tryz.prog 90 #[O U k,e.val] w fun en w'=>en=.returned (uk ⟨(cu k (bl e.c) (bl e.r)).toArray⟩)∧Below w.heap.size w w':=by
 have b1:=(Below.refl w.heap.size w).alloc (Nat.le_refl _) (.cells #[uk e.c,uk e.r] 62)
 have L1:=ah.new w 62 #[uk e.c,uk e.r]
 obtain ⟨t,ht⟩ : ∃ t:ByteArray,t=⟨(Lib.itoa (k:Int)).toArray⟩:=⟨_,rfl⟩
 have hts:t.size≤100:=by rw [ht]; exact cz (by omega) (by omega)
 have HN:Hid (∀ W,Calls Tryz.prog 71 #[O U k] W fun e w'=>e=.returned (uk t)∧Below W.heap.size W w'):=fun W=>by rw [ht]; exact cn (k:Int) W (by omega) (by omega)
 have HT:Hid (bl t=Lib.itoa (k:Int)):=by rw [ht,Hid,bK]
 clear ht
 obtain ⟨x,hx⟩ : ∃ x:ByteArray,x=t++⟨#[32]⟩++e.c++⟨#[64]⟩++e.r:=⟨_,rfl⟩
 have hxs:x.size≤3000000:=by rw [hx]; simp only [eI]; (have e1:(⟨#[32]⟩ : ByteArray).size=1:=rfl); (have e2:(⟨#[64]⟩ : ByteArray).size=1:=rfl); omega
 obtain ⟨z,hz⟩ : ∃ z:ByteArray,z=⟨(dZ (bl x)).toArray⟩:=⟨_,rfl⟩
 have hzs:z.size≤4000000:=by rw [← ao,hz,bK]; have:=jW (bl x); rw [ao] at this; omega
 have HSl:Hid (∀ W,Calls Tryz.prog 144 #[uk (t++⟨#[32]⟩++e.c++⟨#[64]⟩++e.r)] W fun e w'=>e=.returned (uk z)∧Below W.heap.size W w'):=fun W=>by rw [hz,← hx]; exact qn x W (by omega)
 have HF:Hid (bl (z++⟨#[10]⟩)=cu k (bl e.c) (bl e.r)):=by
  rw [Hid,dP,hz,bK,hx]
  unfold cu fj
  simp [dP,kT,HT.out]
 clear hz hx
 have z1:(⟨#[32]⟩ : ByteArray).size=1:=rfl
 have z2:(⟨#[64]⟩ : ByteArray).size=1:=rfl
 have z3:(⟨#[10]⟩ : ByteArray).size=1:=rfl
 go_enter Tryz.func90,Tryz.ntmps90
 go_wp2_with fail
 generalize w.alloc (.cells #[uk e.c,uk e.r] 62)=W at b1 L1 ⊢
 generalize hg:w.heap.size=g at L1 ⊢
 have c0:∀ p:an W.heap.size W,p.val.cell? ⟨g,0,none⟩=some (uk e.c):=fun p=>(p.cell L1.lt).trans (L1.cell 0)
 have c1:∀ p:an W.heap.size W,p.val.cell? ⟨g,1,none⟩=some (uk e.r):=fun p=>(p.cell L1.lt).trans (L1.cell 1)
 clear L1
 refine ar (by kernel_rfl) (by kernel_rfl) ?_
 repeat (any_goals (first | go_big_quiet_step ((first | (go_at_call 71; refine aK (Nat.le_refl _) (HN.out _)) | (go_at_call 144; refine aK (Nat.le_refl _) (HSl.out _)))) | (refine wpQuiet_step (fun K hK=>?_); go_simp; split <;> (refine hK _ ?_; clear hK K))))
 all_goals (refine wpQuiet_nil ?_; rintro _ ⟨q1,rfl⟩)
 go_wp2
 go_ret
 exact ⟨qm HF.out,by rw [← hg] at *; exact aq b1 q1.below⟩
def fx (s:ByteArray):Bool:=decide (s.size≤4000) && !ft (bl s) 35 && decide ((dZ (bl s)).length≤4000)
def hQ (s:ByteArray):ByteArray:=if fx s then ⟨(dZ (bl s)).toArray⟩ else ⟨#[]⟩
set_option maxHeartbeats 2000000 in
theorem gA (s:ByteArray) (w:World) (hs:s.size≤1000000000) (ht:iR w) :
  Calls Tryz.prog 158 #[uk s] w fun e w'=>e=.returned (.tuple #[uk (hQ s),.bool (fx s)])∧Below w.heap.size w w':=by
 have HC:=Lib.hid (fun W=>oh s W hs)
 by_cases h4:s.size≤4000
 ·rw [if_pos h4,decide_eq_true h4] at HC
  have HSt:=Lib.hid (jH s 35)
  cases hh:ft (bl s) 35
  ·rw [hh] at HSt
   have hl:=nI (bl s)
   obtain ⟨t,htt⟩ : ∃ t:ByteArray,t=⟨(Lib.itoa (ix (bl s):Int)).toArray⟩:=⟨_,rfl⟩
   have hts:t.size≤100:=by rw [htt]; exact cz (by omega) (by omega)
   have HN:Hid (∀ W,iR W→Calls Tryz.prog 69 #[O U (ix (bl s):Int)] W fun e w'=>e=.returned (uk t)∧Below W.heap.size W w'):=fun W hW=>by rw [htt]; exact cE _ W (by omega) (by omega) hW
   have HT:Hid (bl t=Lib.itoa (ix (bl s):Int)):=by rw [htt,Hid,bK]
   clear htt
   have z1:(⟨#[35]⟩ : ByteArray).size=1:=rfl
   have HFin:Hid (bl (s++⟨#[35]⟩++t)=dZ (bl s)):=by
    rw [Hid,dP,dP,HT.out]; unfold dZ; simp [kT]
   have HLn:Hid ((s++⟨#[35]⟩++t).size=(dZ (bl s)).length):=by rw [Hid,← ao,HFin.out]
   have HZ:Hid ((s++⟨#[35]⟩++t).size=s.size+1+t.size):=by rw [Hid,eI,eI]; rfl
   have HA:Hid (fx s=decide ((dZ (bl s)).length≤4000)):=by unfold fx Hid; rw [hh,decide_eq_true h4]; rfl
   clear hh h4
   by_cases h5:s.size+1+t.size≤4000
   ·have HA2:Hid (fx s=true):=by rw [Hid,HA.out,← HLn.out,HZ.out]; exact decide_eq_true h5
    have HA3:Hid (hQ s=s++⟨#[35]⟩++t):=by unfold hQ Hid; rw [HA2.out,if_pos rfl]; exact (dQ HFin.out).symm
    have d5:decide ((4000:Int) < (s.size:Int)+1+(t.size:Int))=false:=decide_eq_false (by omega)
    go_enter Tryz.func158,Tryz.ntmps158
    go_wp2_with (first | (go_at_call 187; refine (HC.out _).mono ?_; rintro e w' ⟨rfl,rfl⟩) | (go_at_call 95; refine (HSt.out _).mono ?_; rintro e w' ⟨rfl,rfl⟩) | (go_at_call 69; refine (HN.out _ (by assumption)).mono ?_; rintro e w1 ⟨rfl,hb1⟩))
    go_ret2
    exact ⟨by rw [HA2.out,HA3.out]; rfl,hb1⟩
   ·have HA2:Hid (fx s=false):=by rw [Hid,HA.out,← HLn.out,HZ.out]; exact decide_eq_false h5
    have HA3:Hid (hQ s=⟨#[]⟩):=by unfold hQ Hid; rw [HA2.out]; rfl
    have d5:decide ((4000:Int) < (s.size:Int)+1+(t.size:Int))=true:=decide_eq_true (by omega)
    go_enter Tryz.func158,Tryz.ntmps158
    go_wp2_with (first | (go_at_call 187; refine (HC.out _).mono ?_; rintro e w' ⟨rfl,rfl⟩) | (go_at_call 95; refine (HSt.out _).mono ?_; rintro e w' ⟨rfl,rfl⟩) | (go_at_call 69; refine (HN.out _ (by assumption)).mono ?_; rintro e w1 ⟨rfl,hb1⟩))
    go_ret2
    exact ⟨by rw [HA2.out,HA3.out]; rfl,hb1⟩
  ·rw [hh] at HSt
   have HA2:Hid (fx s=false):=by unfold fx Hid; rw [hh]; simp
   have HA3:Hid (hQ s=⟨#[]⟩):=by unfold hQ Hid; rw [HA2.out]; rfl
   clear hh h4
   go_enter Tryz.func158,Tryz.ntmps158
   go_wp2_with (first | (go_at_call 187; refine (HC.out _).mono ?_; rintro e w' ⟨rfl,rfl⟩) | (go_at_call 95; refine (HSt.out _).mono ?_; rintro e w' ⟨rfl,rfl⟩))
   go_ret2
   exact ⟨by rw [HA2.out,HA3.out]; rfl,Below.refl _ _⟩
 ·rw [if_neg h4,decide_eq_false h4] at HC
  have HA2:Hid (fx s=false):=by unfold fx Hid; rw [decide_eq_false h4]; rfl
  have HA3:Hid (hQ s=⟨#[]⟩):=by unfold hQ Hid; rw [HA2.out]; rfl
  clear h4
  go_enter Tryz.func158,Tryz.ntmps158
  go_wp2_with (first | (go_at_call 187; refine (HC.out _).mono ?_; rintro e w' ⟨rfl,rfl⟩))
  go_ret2
  exact ⟨by rw [HA2.out,HA3.out]; rfl,Below.refl _ _⟩
theorem jN {l:List UInt8} {b:UInt8} : ft l b=false ↔ b ∉ l:=by unfold ft; simp
theorem nz {l:List UInt8} {b:UInt8} : ft l b=true ↔ b ∈ l:=by unfold ft; simp
theorem ik {s:ByteArray} : fx s=true ↔ s.size≤4000∧(35:UInt8) ∉ bl s∧(dZ (bl s)).length≤4000:=by
 unfold fx; simp [Bool.and_eq_true,jN,and_assoc]
set_option maxHeartbeats 2000000 in
theorem kU (k:Nat) (e:fu) (w:World) (hk:k≤1000) (hok:e.ok=true) (ht:iR w) :
  Calls Tryz.prog 100 #[O U k,e.val] w fun en w'=>en=.returned (uk ⟨(cu k (bl e.c) (bl e.r)).toArray⟩)∧Below w.heap.size w w':=by
 have b1:=(Below.refl w.heap.size w).alloc (Nat.le_refl _) (.cells #[uk e.c,uk e.r] 62)
 have L1:=ah.new w 62 #[uk e.c,uk e.r]
 have ht1:=ht.then b1
 obtain ⟨_,h1,_,_,_,h2⟩:=dt.1 hok
 rw [ao] at h1 h2
 obtain ⟨t,htt⟩ : ∃ t:ByteArray,t=⟨(Lib.itoa (k:Int)).toArray⟩:=⟨_,rfl⟩
 have hts:t.size≤100:=by rw [htt]; exact cz (by omega) (by omega)
 have HN:Hid (∀ W,iR W→Calls Tryz.prog 69 #[O U k] W fun e w'=>e=.returned (uk t)∧Below W.heap.size W w'):=fun W hW=>by rw [htt]; exact cE (k:Int) W (by omega) (by omega) hW
 have HT:Hid (bl t=Lib.itoa (k:Int)):=by rw [htt,Hid,bK]
 clear htt
 obtain ⟨x,hx⟩ : ∃ x:ByteArray,x=t++⟨#[32]⟩++e.c++⟨#[64]⟩++e.r:=⟨_,rfl⟩
 have hxt:bl x=fj k (bl e.c) (bl e.r):=by rw [hx]; unfold fj; simp [dP,kT,HT.out]
 have hao:fx x=true:=by
  rw [ik,hxt]
  have h3:=l5 (k:=k) hok (by omega)
  have h4:=jW (fj k (bl e.c) (bl e.r))
  exact ⟨by rw [← ao,hxt]; omega,gi hok,by omega⟩
 obtain ⟨z,hz⟩ : ∃ z:ByteArray,z=⟨(dZ (bl x)).toArray⟩:=⟨_,rfl⟩
 have hzs:z.size≤4000:=by rw [← ao,hz,bK]; exact (ik.1 hao).2.2
 have hxs:x.size≤4000:=(ik.1 hao).1
 have HSl:Hid (∀ W,iR W→Calls Tryz.prog 158 #[uk (t++⟨#[32]⟩++e.c++⟨#[64]⟩++e.r)] W fun e w'=>e=.returned (.tuple #[uk z,.bool true])∧Below W.heap.size W w'):=fun W hW=>by
  have:=gA x W (by omega) hW
  rw [show hQ x=z by unfold hQ; rw [hao,if_pos rfl,hz],hao] at this
  rw [← hx]; exact this
 have HF:Hid (bl (z++⟨#[10]⟩)=cu k (bl e.c) (bl e.r)):=by
  rw [Hid,dP,hz,bK,hxt]
  unfold cu; simp [kT]
 clear hz hx hxt hao hok
 have z1:(⟨#[32]⟩ : ByteArray).size=1:=rfl
 have z2:(⟨#[64]⟩ : ByteArray).size=1:=rfl
 have z3:(⟨#[10]⟩ : ByteArray).size=1:=rfl
 go_enter Tryz.func100,Tryz.ntmps100
 go_wp2_with fail
 generalize w.alloc (.cells #[uk e.c,uk e.r] 62)=W at b1 L1 ht1 ⊢
 generalize hg:w.heap.size=g at L1 ⊢
 have c0:∀ p:an W.heap.size W,p.val.cell? ⟨g,0,none⟩=some (uk e.c):=fun p=>(p.cell L1.lt).trans (L1.cell 0)
 have c1:∀ p:an W.heap.size W,p.val.cell? ⟨g,1,none⟩=some (uk e.r):=fun p=>(p.cell L1.lt).trans (L1.cell 1)
 clear L1
 refine ar (by kernel_rfl) (by kernel_rfl) ?_
 repeat (any_goals (first | go_big_quiet_step ((first | (go_at_call 69; refine aK (Nat.le_refl _) (HN.out _ (ht1.at _))) | (go_at_call 158; refine aK (Nat.le_refl _) (HSl.out _ (ht1.at _))))) | (refine wpQuiet_step (fun K hK=>?_); go_simp; split <;> (refine hK _ ?_; clear hK K))))
 all_goals (refine wpQuiet_nil ?_; rintro _ ⟨q1,rfl⟩)
 go_wp2
 go_ret
 exact ⟨qm HF.out,by rw [← hg] at *; exact aq b1 q1.below⟩
open Classical in
noncomputable def ku (s:List UInt8):Option (List UInt8):=if h:∃ t,oF t s then some h.choose else none
theorem nA {t s:List UInt8} (h:oF t s):ku s=some t:=by
 have hex:∃ t,oF t s:=⟨t,h⟩
 unfold ku
 rw [dif_pos hex]
 exact congrArg some (hex.choose_spec.inj h)
theorem kV {s:List UInt8} (h:∀ t,¬ oF t s):ku s=none:=by unfold ku; rw [dif_neg (fun ⟨t,ht⟩=>h t ht)]
theorem sV {t s:List UInt8} (h:ku s=some t):oF t s:=by
 by_cases hex:∃ t,oF t s
 ·unfold ku at h
  rw [dif_pos hex] at h
  have:=hex.choose_spec
  rw [Option.some.inj h] at this
  exact this
 ·unfold ku at h
  rw [dif_neg hex] at h; cases h
theorem pq {t s:List UInt8} (h:oF t s):Lib.lastIndex s [35]=t.length:=by rw [← h.2.1]; exact ro t
theorem sW {t s:List UInt8} (h:oF t s):s.take t.length=t:=by rw [← h.2.1]; unfold dZ; exact List.take_left' rfl
def tK:Option (List UInt8)→ByteArray
 | some t=>⟨t.toArray⟩
 | none=>⟨#[]⟩
theorem kv (a b:ByteArray):(a.toList == b.toList)=decide (bl a=bl b):=by
 rw [ue,ue,Bool.eq_iff_iff]; simp
set_option maxHeartbeats 2000000 in
theorem qo (s:ByteArray) (w:World) (hs:s.size≤1000000000) (ht:iR w) :
  Calls Tryz.prog 169 #[uk s] w fun e w'=>e=.returned (.tuple #[uk (tK (ku (bl s))),.bool (ku (bl s)).isSome])∧Below w.heap.size w w':=by
 have HL:Hid (∀ W,Calls Tryz.prog 194 #[uk s,uk ⟨#[35]⟩] W fun e w'=>e=.returned (O U (Lib.lastIndex (bl s) [35]))∧w'=W):=fun W=>Tryz.strings_LastIndex s ⟨#[35]⟩ (by omega) W
 rcases oH (bl s) 35 with h1 | ⟨i,h1,h2,h3⟩
 ·have HV:Hid (ku (bl s)=none):=kV fun t hv=>by have:=pq hv; omega
  rw [h1] at HL
  clear h1
  go_enter Tryz.func169,Tryz.ntmps169
  go_wp2_with (go_at_call 194; refine (HL.out _).mono ?_; rintro e w' ⟨rfl,rfl⟩)
  go_ret2
  exact ⟨by rw [HV.out]; rfl,Below.refl _ _⟩
 ·rw [h1] at HL
  have hi:i < s.size:=h2
  obtain ⟨t,htt⟩ : ∃ t:ByteArray,t=s.extract 0 i:=⟨_,rfl⟩
  have hbt:bl t=(bl s).take i:=by rw [htt,bE]; simp
  have HC:Hid (∀ W,iR W→Calls Tryz.prog 158 #[uk (s.extract 0 i)] W fun e w'=>e=.returned (.tuple #[uk (hQ t),.bool (fx t)])∧Below W.heap.size W w'):=fun W hW=>by
   rw [← htt]; exact gA t W (by rw [← ao,hbt,List.length_take,ao]; omega) hW
  have HVer:Hid (∀ t',oF t' (bl s)→t'=bl t∧fx t=true∧hQ t=s):=fun t' hv=>by
   have e1:=pq hv
   have e2:t'.length=i:=by omega
   have e3:=sW hv
   rw [e2,← hbt] at e3
   subst e3
   have e4:fx t=true:=ik.2 ⟨by rw [← ao]; exact hv.2.2.1,hv.1,by rw [hv.2.1]; exact hv.2.2.2⟩
   refine ⟨rfl,e4, ?_⟩
   unfold hQ
   rw [e4,if_pos rfl,hv.2.1]
   exact (dQ rfl).symm
  have HGet:Hid (fx t=true→bl (hQ t)=bl s→oF (bl t) (bl s)):=fun h5 h6=>by
   obtain ⟨a1,a2,a3⟩:=ik.1 h5
   have a4:bl (hQ t)=dZ (bl t):=by unfold hQ; rw [h5,if_pos rfl,bK]
   exact ⟨a2,by rw [← a4]; exact h6,by rw [ao]; exact a1,by rw [← h6,a4]; exact a3⟩
  clear h1 h2 h3
  cases hok:fx t
  ·have HV:Hid (ku (bl s)=none):=kV fun t' hv=>by have:=(HVer.out t' hv).2.1; rw [hok] at this; cases this
   rw [hok] at HC
   clear hok HVer HGet htt hbt
   go_enter Tryz.func169,Tryz.ntmps169
   go_wp2_with (first | (go_at_call 194; refine (HL.out _).mono ?_; rintro e w' ⟨rfl,rfl⟩) | (go_at_call 158; refine (HC.out _ (by assumption)).mono ?_; rintro e w1 ⟨rfl,hb1⟩))
   go_ret2
   exact ⟨by rw [HV.out]; rfl,hb1⟩
  ·rw [hok] at HC
   have hne:=kv (hQ t) s
   by_cases heq:bl (hQ t)=bl s
   ·have HV:Hid (ku (bl s)=some (bl t)):=nA (HGet.out hok heq)
    have HT:Hid (tK (some (bl t))=s.extract 0 i):=by unfold tK Hid; rw [← htt]; exact (dQ rfl).symm
    rw [decide_eq_true heq] at hne
    clear hok HVer HGet htt hbt heq
    generalize hQ t=at' at HC hne
    go_enter Tryz.func169,Tryz.ntmps169
    go_wp2_with (first | (go_at_call 194; refine (HL.out _).mono ?_; rintro e w' ⟨rfl,rfl⟩) | (go_at_call 158; refine (HC.out _ (by assumption)).mono ?_; rintro e w1 ⟨rfl,hb1⟩))
    go_ret2
    exact ⟨by rw [HV.out,HT.out]; rfl,hb1⟩
   ·have HV:Hid (ku (bl s)=none):=kV fun t' hv=>by have:=(HVer.out t' hv).2.2; exact heq (by rw [this])
    rw [decide_eq_false heq] at hne
    clear hok HVer HGet htt hbt heq
    generalize hQ t=at' at HC hne
    go_enter Tryz.func169,Tryz.ntmps169
    go_wp2_with (first | (go_at_call 194; refine (HL.out _).mono ?_; rintro e w' ⟨rfl,rfl⟩) | (go_at_call 158; refine (HC.out _ (by assumption)).mono ?_; rintro e w1 ⟨rfl,hb1⟩))
    go_ret2
    exact ⟨by rw [HV.out]; rfl,hb1⟩
theorem mE (l:List UInt8) (b:UInt8):(b ∉ l∧Lib.indexByte l b = -1) ∨ (b ∈ l∧Lib.indexByte l b=(dF b l).length):=by
 induction l with
 | nil=>exact .inl ⟨by simp,rfl⟩
 | cons x l ih =>
  unfold Lib.indexByte dF
  by_cases h:x=b
  ·subst h; exact .inr ⟨by simp,by simp⟩
  ·have h' : (x == b)=false:=by simp [h]
   rw [if_neg (by simp [h]),if_neg h]
   rcases ih with ⟨h1,h2⟩ | ⟨h1,h2⟩
   ·exact .inl ⟨by simp only [List.mem_cons,not_or]; exact ⟨Ne.symm h,h1⟩,by rw [h2]; rfl⟩
   ·refine .inr ⟨by simp [h1], ?_⟩
    rw [h2,if_neg (by simp)]; simp
def aR (s:ByteArray) (b:UInt8):ByteArray:=⟨(dF b (bl s)).toArray⟩
def aZ (s:ByteArray) (b:UInt8):ByteArray:=⟨((bl s).drop ((dF b (bl s)).length+1)).toArray⟩
set_option maxHeartbeats 1000000 in
theorem qp (s:ByteArray) (b:UInt8) (w:World) (hs:s.size≤1000000000) :
  Calls Tryz.prog 196 #[uk s,uk ⟨#[b]⟩] w fun e w'=>e=.returned (.tuple #[uk (aR s b),uk (aZ s b),.bool (ft (bl s) b)])∧Below w.heap.size w w':=by
 have HI:=Lib.hid (fun W=>Tryz.stringslite_Index_one s b W)
 have hb:=jV b (bl s)
 rw [ao] at hb
 rcases mE (bl s) b with ⟨h1,h2⟩ | ⟨h1,h2⟩
 ·rw [show s.data.toList=bl s from rfl,h2] at HI
  have HL:Hid (aR s b=s):=by unfold aR Hid; rw [jU h1]; exact (dQ rfl).symm
  have HR:Hid (aZ s b=⟨#[]⟩):=by unfold aZ Hid; rw [jU h1,List.drop_eq_nil_of_le (by omega)]
  have HF:Hid (ft (bl s) b=false):=jN.2 h1
  clear h1 h2
  go_enter Tryz.func196,Tryz.ntmps196
  go_wp2_with (go_at_call 180; refine (HI.out _).mono ?_; rintro e w' ⟨rfl,rfl⟩)
  go_ret3
  exact ⟨by rw [HL.out,HR.out,HF.out]; rfl,Below.refl _ _⟩
 ·rw [show s.data.toList=bl s from rfl,h2] at HI
  have hp:=congrArg List.length (dr h1)
  rw [ao] at hp
  simp only [List.length_append,List.length_cons,List.length_drop,ao] at hp
  have HF:Hid (ft (bl s) b=true):=nz.2 h1
  obtain ⟨n,hn⟩ : ∃ n,n=(dF b (bl s)).length:=⟨_,rfl⟩
  have HL:Hid (aR s b=s.extract 0 n):=by
   unfold aR Hid; refine (dQ ?_).symm
   rw [bE,hn,l9]; simp
  have HR:Hid (aZ s b=s.extract (n+1) s.size):=by
   unfold aZ Hid; refine (dQ ?_).symm
   rw [bE,hn,List.take_of_length_le (by rw [ao]; omega)]
  rw [← hn] at HI hp hb
  have z1:(⟨#[b]⟩ : ByteArray).size=1:=rfl
  have hn1:n+1≤s.size:=by omega
  have i0:(0:Int)≤(n:Int):=by omega
  have i1:(n:Int)≤(s.size:Int):=by omega
  have i2:(n:Int)+1≤(s.size:Int):=by omega
  have i3:IntKind.i64.wrap ((n:Int)+1)=(n:Int)+1:=IntWalk.i64_in _ (by omega)
  clear hn hp h1 h2
  go_enter Tryz.func196,Tryz.ntmps196
  go_wp2_with (go_at_call 180; refine (HI.out _).mono ?_; rintro e w' ⟨rfl,rfl⟩)
  refine ar (by kernel_rfl) (by kernel_rfl) ?_
  repeat (any_goals (first | go_big_quiet_step ((fail)) | (refine wpQuiet_step (fun K hK=>?_); go_simp; split <;> (refine hK _ ?_; clear hK K))))
  all_goals (refine wpQuiet_nil ?_; rintro _ ⟨q1,rfl⟩)
  go_wp2
  go_ret3
  exact ⟨by rw [HL.out,HR.out,HF.out]; rfl,q1.below⟩
theorem oi (s:ByteArray) (b:UInt8) (w:World) (hs:s.size≤1000000000) :
  Calls Tryz.prog 171 #[uk s,uk ⟨#[b]⟩] w fun e w'=>e=.returned (.tuple #[uk (aR s b),uk (aZ s b),.bool (ft (bl s) b)])∧Below w.heap.size w w':=by
 have HC:=Lib.hid (fun W=>qp s b W hs)
 go_enter Tryz.func171,Tryz.ntmps171
 go_wp2_with (go_at_call 196; refine (HC.out _).mono ?_; rintro e w1 ⟨rfl,hb1⟩)
 go_ret3
 exact ⟨rfl,hb1⟩
def t7 (k:Nat) (s:ByteArray) (a b:ByteArray) (ok:Bool):Prop:=(ok=true∧dG k (bl s)=some (bl a,bl b)) ∨ (ok=false∧dG k (bl s)=none)
def mF (k:Nat) (s:ByteArray) (w:World) (e:Ending) (w' : World):Prop:=∃ a b ok,e=.returned (.tuple #[.agg #[uk a,uk b],.bool ok])∧t7 k s a b ok∧Below w.heap.size w w'
theorem pr {p t:List UInt8} (h:p <+: t):t=p++t.drop p.length:=by
 obtain ⟨u,rfl⟩:=h; simp
set_option maxRecDepth 100000 in
set_option maxHeartbeats 4000000 in
theorem kW (k:Nat) (s:ByteArray) (w:World) (hk:k≤1000) (hs:s.size≤3000000) (ht:iR w) :
  Calls Tryz.prog 123 #[O U k,uk s] w (mF k s w):=by
 have b1:=(Below.refl w.heap.size w).alloc (Nat.le_refl _) (.cells #[uk ⟨#[]⟩,uk ⟨#[]⟩] 62)
 have L1:=ah.new w 62 #[uk ⟨#[]⟩,uk ⟨#[]⟩]
 have ht1:=ht.then b1
 have hk9:k≤9223372036854775807:=by omega
 obtain ⟨t,htt⟩ : ∃ t:ByteArray,t=⟨(Lib.itoa (k:Int)).toArray⟩:=⟨_,rfl⟩
 have hts:t.size≤100:=by rw [htt]; exact cz (by omega) (by omega)
 have HN:Hid (∀ W,iR W→Calls Tryz.prog 69 #[O U k] W fun e w'=>e=.returned (uk t)∧Below W.heap.size W w'):=fun W hW=>by rw [htt]; exact cE (k:Int) W (by omega) (by omega) hW
 have HT:Hid (bl t=Lib.itoa (k:Int)):=by rw [htt,Hid,bK]
 have HPre:Hid (bl (t++⟨#[32]⟩)=Lib.itoa (k:Int)++[32]):=by rw [Hid,dP,HT.out]; rfl
 clear htt
 have z1:(⟨#[32]⟩ : ByteArray).size=1:=rfl
 have HV:=Lib.hid (fun W hW=>qo s W (by omega) hW)
 cases hv:ku (bl s) with
 | none =>
  rw [hv] at HV
  have HD:Hid (dG k (bl s)=none):=pP hk9 fun u hu=>by rw [nA hu] at hv; cases hv
  have HCP:Hid (∀ W,Calls Tryz.prog 170 #[uk ⟨#[]⟩,uk (t++⟨#[32]⟩)] W fun e w'=>e=.returned (.tuple #[uk ⟨#[]⟩,.bool false])∧w'=W):=fun W=>by
   have h1:=Tryz.strings_CutPrefix ⟨#[]⟩ (t++⟨#[32]⟩) W
   have h2:Lib.hasPrefix (⟨#[]⟩ : ByteArray).data.toList (t++⟨#[32]⟩ : ByteArray).data.toList=false:=by
    unfold Lib.hasPrefix
    have:(t++⟨#[32]⟩ : ByteArray).data.toList=Lib.itoa (k:Int)++[32]:=HPre.out
    rw [this]
    cases Lib.itoa (k:Int) <;> rfl
   unfold Lib.trimPrefix at h1
   rw [h2] at h1
   exact h1
  have HCt:=Lib.hid (fun W=>oi ⟨#[]⟩ 64 W (by decide))
  have e1:aR ⟨#[]⟩ 64=⟨#[]⟩:=rfl
  have e2:aZ ⟨#[]⟩ 64=⟨#[]⟩:=rfl
  have e3:ft (bl ⟨#[]⟩) 64=false:=rfl
  rw [e1,e2,e3] at HCt
  clear e1 e2 e3 hv
  go_enter Tryz.func123,Tryz.ntmps123
  go_wp2_with fail
  generalize w.alloc (.cells #[uk ⟨#[]⟩,uk ⟨#[]⟩] 62)=W at b1 L1 ht1 ⊢
  generalize hg:w.heap.size=g at L1 ⊢
  refine (HV.out _ ht1).mono ?_
  rintro e w2 ⟨rfl,hb2⟩
  have ht2:=ht1.then hb2
  go_wp2_with (first | (go_at_call 69; refine (HN.out _ ht2).mono ?_; rintro e w3 ⟨rfl,hb3⟩) | (go_at_call 170; refine (HCP.out _).mono ?_; rintro e w4 ⟨rfl,rfl⟩))
  refine (HCt.out _).mono ?_
  rintro e w5 ⟨rfl,hb5⟩
  have hb15:=aq (aq hb2 hb3) hb5
  have L5:=L1.below hb15 L1.lt
  have c0:=L5.cell 0
  have c1:=L5.cell 1
  have f0:=L5.frozen 0
  have f1:=L5.frozen 1
  have hgl:=L5.lt
  simp only [List.getElem?_cons_zero,List.getElem?_cons_succ] at c0 c1
  clear L1 L5
  go_wp2_with fail
  refine bodyPost_ret (v:=.tuple #[.agg #[uk ⟨#[]⟩,uk ⟨#[]⟩],.bool false]) (by simp [results,Tryz.results123,go_sem, *]) rfl ⟨⟨#[]⟩,⟨#[]⟩,false,rfl,.inr ⟨rfl,HD.out⟩, ?_⟩
  rw [← hg] at *
  exact (aq b1 hb15).trans (by repeat (first | exact Below.refl _ _ | refine Below.alloc ?_ (by simp; have:=b1.size; have:=hb15.size; omega) _ | refine Below.setCell ?_ (by simp) _))
 | some u0 =>
  obtain ⟨u,rfl⟩ : ∃ u:ByteArray,u0=bl u:=⟨⟨u0.toArray⟩,(bK u0).symm⟩
  have hver:=sV hv
  have hul:u.size≤4000:=hver.2.2.1
  rw [hv] at HV
  have HO:Hid (tK (some (bl u))=u):=(dQ rfl).symm
  rw [HO.out] at HV
  have hcp:∀ W,Calls Tryz.prog 170 #[uk u,uk (t++⟨#[32]⟩)] W fun e w'=>e=.returned (.tuple #[uk ⟨(Lib.trimPrefix (bl u) (Lib.itoa (k:Int)++[32])).toArray⟩,.bool (Lib.hasPrefix (bl u) (Lib.itoa (k:Int)++[32]))])∧w'=W:=fun W=>by
   rw [← HPre.out]; exact Tryz.strings_CutPrefix u (t++⟨#[32]⟩) W
  by_cases hp:(Lib.itoa (k:Int)++[32]) <+: bl u
  ·have hpt:Lib.hasPrefix (bl u) (Lib.itoa (k:Int)++[32])=true:=List.isPrefixOf_iff_prefix.2 hp
   have hsplit:=pr hp
   obtain ⟨u',hu'⟩ : ∃ u' : ByteArray,u'=⟨((bl u).drop (Lib.itoa (k:Int)++[32]).length).toArray⟩:=⟨_,rfl⟩
   have hbu:bl u'=(bl u).drop (Lib.itoa (k:Int)++[32]).length:=by rw [hu',bK]
   rw [← hbu] at hsplit
   have HCP:Hid (∀ W,Calls Tryz.prog 170 #[uk u,uk (t++⟨#[32]⟩)] W fun e w'=>e=.returned (.tuple #[uk u',.bool true])∧w'=W):=fun W=>by
    have:=hcp W
    unfold Lib.trimPrefix at this
    rw [hpt,if_pos rfl,← hu'] at this; exact this
   have hu4:u'.size≤4000:=by rw [← ao,hbu,List.length_drop,ao]; omega
   have HCt:=Lib.hid (fun W=>oi u' 64 W (by omega))
   have hcl:(aR u' 64).size≤4000:=by unfold aR; rw [← ao,bK]; have:=jV 64 (bl u'); rw [ao] at this; omega
   have hcr:(aZ u' 64).size≤4000:=by unfold aZ; rw [← ao,bK,List.length_drop,ao]; omega
   cases hat:ft (bl u') 64
   ·have HD:Hid (dG k (bl s)=none):=rq hk9 hver hsplit (jN.1 hat)
    rw [hat] at HCt
    clear hv hver hcp hp hpt hsplit hu' hbu hat
    go_enter Tryz.func123,Tryz.ntmps123
    go_wp2_with fail
    generalize w.alloc (.cells #[uk ⟨#[]⟩,uk ⟨#[]⟩] 62)=W at b1 L1 ht1 ⊢
    generalize hg:w.heap.size=g at L1 ⊢
    refine (HV.out _ ht1).mono ?_
    rintro e w2 ⟨rfl,hb2⟩
    have ht2:=ht1.then hb2
    go_wp2_with (first | (go_at_call 69; refine (HN.out _ ht2).mono ?_; rintro e w3 ⟨rfl,hb3⟩) | (go_at_call 170; refine (HCP.out _).mono ?_; rintro e w4 ⟨rfl,rfl⟩))
    refine (HCt.out _).mono ?_
    rintro e w5 ⟨rfl,hb5⟩
    have hb15:=aq (aq hb2 hb3) hb5
    have L5:=L1.below hb15 L1.lt
    have c0:=L5.cell 0
    have c1:=L5.cell 1
    have f0:=L5.frozen 0
    have f1:=L5.frozen 1
    have hgl:=L5.lt
    simp only [List.getElem?_cons_zero,List.getElem?_cons_succ] at c0 c1
    clear L1 L5
    go_wp2_with fail
    refine bodyPost_ret (v:=.tuple #[.agg #[uk ⟨#[]⟩,uk ⟨#[]⟩],.bool false]) (by simp [results,Tryz.results123,go_sem, *]) rfl ⟨⟨#[]⟩,⟨#[]⟩,false,rfl,.inr ⟨rfl,HD.out⟩, ?_⟩
    rw [← hg] at *
    exact (aq b1 hb15).trans (by repeat (first | exact Below.refl _ _ | refine Below.alloc ?_ (by simp; have:=b1.size; have:=hb15.size; omega) _ | refine Below.setCell ?_ (by simp) _))
   ·have hdec:=oJ (c:=bl (aR u' 64)) (r:=bl (aZ u' 64)) hk9 hver (by
     rw [hsplit]; congr 1
     unfold aR aZ; rw [bK,bK]; exact dr (nz.1 hat)) (by unfold aR; rw [bK]; exact fT 64 _)
    rw [hat] at HCt
    cases hok:fu.ok ⟨aR u' 64,aZ u' 64⟩
    ·have HD:Hid (dG k (bl s)=none):=by
      rw [Hid,hdec,if_neg (fun h=>by rw [show fu.ok ⟨aR u' 64,aZ u' 64⟩=gf (bl (aR u' 64)) (bl (aZ u' 64)) from rfl,h] at hok; cases hok)]
     have HOK:=Lib.hid hok
     clear hv hver hcp hp hpt hsplit hu' hbu hat hdec hok
     go_enter Tryz.func123,Tryz.ntmps123
     go_wp2_with fail
     generalize w.alloc (.cells #[uk ⟨#[]⟩,uk ⟨#[]⟩] 62)=W at b1 L1 ht1 ⊢
     generalize hg:w.heap.size=g at L1 ⊢
     refine (HV.out _ ht1).mono ?_
     rintro e w2 ⟨rfl,hb2⟩
     have ht2:=ht1.then hb2
     go_wp2_with (first | (go_at_call 69; refine (HN.out _ ht2).mono ?_; rintro e w3 ⟨rfl,hb3⟩) | (go_at_call 170; refine (HCP.out _).mono ?_; rintro e w4 ⟨rfl,rfl⟩))
     refine (HCt.out _).mono ?_
     rintro e w5 ⟨rfl,hb5⟩
     have hb15:=aq (aq hb2 hb3) hb5
     have L5:=L1.below hb15 L1.lt
     go_wp2_with fail
     have L6:=L5.alloc (.cells #[uk (aR u' 64),uk (aZ u' 64)] 62)
     have N6:=ah.new w5 62 #[uk (aR u' 64),uk (aZ u' 64)]
     have b6:=(Below.refl w5.heap.size w5).alloc (Nat.le_refl _) (.cells #[uk (aR u' 64),uk (aZ u' 64)] 62)
     generalize w5.alloc (.cells #[uk (aR u' 64),uk (aZ u' 64)] 62)=W6 at L6 N6 b6 ⊢
     generalize hg5:w5.heap.size=g5 at N6 ⊢
     refine (eC ⟨aR u' 64,aZ u' 64⟩ _ (by simp only; omega) (by simp only; omega)).mono ?_
     rw [HOK.out]
     rintro e w7 ⟨rfl,hb7⟩
     have L7:=L6.below hb7 L6.lt
     have N7:=N6.below hb7 N6.lt
     have c0:=L7.cell 0
     have c1:=L7.cell 1
     have f0:=L7.frozen 0
     have f1:=L7.frozen 1
     have d0:=N7.cell 0
     have d1:=N7.cell 1
     have hgl:=L7.lt
     simp only [List.getElem?_cons_zero,List.getElem?_cons_succ] at c0 c1 d0 d1
     have hgB:w.heap.size≤g:=by omega
     have hall:Below w.heap.size w w7:=aq (aq b1 hb15) (aq (by rw [← hg5] at *; exact b6) hb7)
     clear L1 L5 L6 L7 N6 N7
     go_wp2_with fail
     refine bodyPost_ret (v:=.tuple #[.agg #[uk ⟨#[]⟩,uk ⟨#[]⟩],.bool false]) (by simp [results,Tryz.results123,go_sem, *]) rfl ⟨⟨#[]⟩,⟨#[]⟩,false,rfl,.inr ⟨rfl,HD.out⟩, ?_⟩
     exact hall.trans (by repeat (first | exact Below.refl _ _ | refine Below.setCell ?_ (by simp only; exact hgB) _))
    ·have HD:Hid (dG k (bl s)=some (bl (aR u' 64),bl (aZ u' 64))):=by
      rw [Hid,hdec,if_pos (by exact hok)]
     have HOK:=Lib.hid hok
     clear hv hver hcp hp hpt hsplit hu' hbu hat hdec hok
     go_enter Tryz.func123,Tryz.ntmps123
     go_wp2_with fail
     generalize w.alloc (.cells #[uk ⟨#[]⟩,uk ⟨#[]⟩] 62)=W at b1 L1 ht1 ⊢
     generalize hg:w.heap.size=g at L1 ⊢
     refine (HV.out _ ht1).mono ?_
     rintro e w2 ⟨rfl,hb2⟩
     have ht2:=ht1.then hb2
     go_wp2_with (first | (go_at_call 69; refine (HN.out _ ht2).mono ?_; rintro e w3 ⟨rfl,hb3⟩) | (go_at_call 170; refine (HCP.out _).mono ?_; rintro e w4 ⟨rfl,rfl⟩))
     refine (HCt.out _).mono ?_
     rintro e w5 ⟨rfl,hb5⟩
     have hb15:=aq (aq hb2 hb3) hb5
     have L5:=L1.below hb15 L1.lt
     go_wp2_with fail
     have L6:=L5.alloc (.cells #[uk (aR u' 64),uk (aZ u' 64)] 62)
     have N6:=ah.new w5 62 #[uk (aR u' 64),uk (aZ u' 64)]
     have b6:=(Below.refl w5.heap.size w5).alloc (Nat.le_refl _) (.cells #[uk (aR u' 64),uk (aZ u' 64)] 62)
     generalize w5.alloc (.cells #[uk (aR u' 64),uk (aZ u' 64)] 62)=W6 at L6 N6 b6 ⊢
     generalize hg5:w5.heap.size=g5 at N6 ⊢
     refine (eC ⟨aR u' 64,aZ u' 64⟩ _ (by simp only; omega) (by simp only; omega)).mono ?_
     rw [HOK.out]
     rintro e w7 ⟨rfl,hb7⟩
     have L7:=L6.below hb7 L6.lt
     have N7:=N6.below hb7 N6.lt
     have c0:=L7.cell 0
     have c1:=L7.cell 1
     have f0:=L7.frozen 0
     have f1:=L7.frozen 1
     have d0:=N7.cell 0
     have d1:=N7.cell 1
     have hgl:=L7.lt
     simp only [List.getElem?_cons_zero,List.getElem?_cons_succ] at c0 c1 d0 d1
     have hgB:w.heap.size≤g:=by omega
     have hall:Below w.heap.size w w7:=aq (aq b1 hb15) (aq (by rw [← hg5] at *; exact b6) hb7)
     clear L1 L5 L6 L7 N6 N7
     go_wp2_with fail
     refine bodyPost_ret (v:=.tuple #[.agg #[uk (aR u' 64),uk (aZ u' 64)],.bool true]) (by simp [results,Tryz.results123,go_sem, *]) rfl ⟨aR u' 64,aZ u' 64,true,rfl,.inl ⟨rfl,HD.out⟩, ?_⟩
     exact hall.trans (by repeat (first | exact Below.refl _ _ | refine Below.setCell ?_ (by simp only; exact hgB) _))
  ·have hpf:Lib.hasPrefix (bl u) (Lib.itoa (k:Int)++[32])=false:=by
    rcases h:Lib.hasPrefix (bl u) (Lib.itoa (k:Int)++[32]) with _ | _
    ·rfl
    ·exact absurd (List.isPrefixOf_iff_prefix.1 h) hp
   have HD:Hid (dG k (bl s)=none):=pQ hk9 hver hp
   have HCP:Hid (∀ W,Calls Tryz.prog 170 #[uk u,uk (t++⟨#[32]⟩)] W fun e w'=>e=.returned (.tuple #[uk u,.bool false])∧w'=W):=fun W=>by
    have:=hcp W
    unfold Lib.trimPrefix at this
    rw [hpf] at this
    simp only [Bool.false_eq_true,if_false] at this
    rwa [show (⟨(bl u).toArray⟩ : ByteArray)=u from (dQ rfl).symm] at this
   have HCt:=Lib.hid (fun W=>oi u 64 W (by omega))
   generalize ft (bl u) 64=hb at HCt
   clear hv hver hcp hp hpf
   go_enter Tryz.func123,Tryz.ntmps123
   go_wp2_with fail
   generalize w.alloc (.cells #[uk ⟨#[]⟩,uk ⟨#[]⟩] 62)=W at b1 L1 ht1 ⊢
   generalize hg:w.heap.size=g at L1 ⊢
   refine (HV.out _ ht1).mono ?_
   rintro e w2 ⟨rfl,hb2⟩
   have ht2:=ht1.then hb2
   go_wp2_with (first | (go_at_call 69; refine (HN.out _ ht2).mono ?_; rintro e w3 ⟨rfl,hb3⟩) | (go_at_call 170; refine (HCP.out _).mono ?_; rintro e w4 ⟨rfl,rfl⟩))
   refine (HCt.out _).mono ?_
   rintro e w5 ⟨rfl,hb5⟩
   have hb15:=aq (aq hb2 hb3) hb5
   have L5:=L1.below hb15 L1.lt
   have c0:=L5.cell 0
   have c1:=L5.cell 1
   have f0:=L5.frozen 0
   have f1:=L5.frozen 1
   have hgl:=L5.lt
   simp only [List.getElem?_cons_zero,List.getElem?_cons_succ] at c0 c1
   clear L1 L5
   go_wp2_with fail
   refine bodyPost_ret (v:=.tuple #[.agg #[uk ⟨#[]⟩,uk ⟨#[]⟩],.bool false]) (by simp [results,Tryz.results123,go_sem, *]) rfl ⟨⟨#[]⟩,⟨#[]⟩,false,rfl,.inr ⟨rfl,HD.out⟩, ?_⟩
   rw [← hg] at *
   exact (aq b1 hb15).trans (by repeat (first | exact Below.refl _ _ | refine Below.alloc ?_ (by simp; have:=b1.size; have:=hb15.size; omega) _ | refine Below.setCell ?_ (by simp) _))
theorem qY:(Tryz.prog.info? 62).map (fun i=>(i.zero,i.size,i.bytes))=some (some (.agg #[uk ⟨#[]⟩,uk ⟨#[]⟩]),2,32):=by kernel_rfl
def iL (l:List ((List UInt8 × List UInt8) × Nat)) (m:List fu):Prop:=m.map (fun r=>(bl r.c,bl r.r))=l.map (·.1)
theorem mG {l:List ((List UInt8 × List UInt8) × Nat)} {m:List fu} (h:iL l m):m.length=l.length:=by
 have:=congrArg List.length h; simpa using this
def rP (l:List Nat):List Value:=l.map fun (n:Nat)=>Value.int .i64 (n:Int)
def jr (s:ByteArray) (w:World) (e:Ending) (w' : World):Prop:=∃ A c A' c' m,e=.returned (.tuple #[F A m.length c,F A' (m.length+1) c'])∧iL (aW 60 0 (bl s)) m ∧
 w'.ownsRow w.heap.size 62 2 (F A m.length c) m.length (m.flatMap fu.enc)∧w'.ownsRow w.heap.size 3 1 (F A' (m.length+1) c') (m.length+1) (rP (du 0 (aW 60 0 (bl s))))∧Below w.heap.size w w'
set_option maxRecDepth 100000 in
set_option maxHeartbeats 8000000 in
theorem lX (s:ByteArray) (w:World) (hs:s.size≤3000000) (ht:iR w) :
  Calls Tryz.prog 68 #[uk s] w (jr s w):=by
 have b0:=(Below.refl w.heap.size w).alloc (Nat.le_refl _) (.cells #[O U 0] 3)
 have L0:=ah.new w 3 #[O U 0]
 have E0:Hid ((w.alloc (.cells #[O U 0] 3)).ownsRow w.heap.size 3 1 (F (some ⟨w.heap.size,0,none⟩) 1 1) 1 (rP (du 0 []))):=L0.own (Nat.le_refl _) (by simp) (by unfold maxLen; omega)
 have hne:62 ≠ 3:=by decide
 go_enter Tryz.func68,Tryz.ntmps68
 go_wp2
 have HZ:Hid (aW 60 0 (bl s) = []++aW (60 - 0) 0 ((bl s).drop 0)):=rfl
 go_loopw [4,5,6,7,8,9] (fun r en at' _ _ _ wr=>∃ (a:Nat) (A:Option Addr) (c:Nat) (A' : Option Addr) (c' : Nat) (m:List fu) (acc:List ((List UInt8 × List UInt8) × Nat)),m.length≤60∧a≤s.size∧r=F A m.length c∧en=F A' (m.length+1) c'∧at'=O U a∧(∃ q:an w.heap.size w,wr=q.val) ∧
  Hid (iL acc m)∧Hid (dJ acc=a)∧Hid (aW 60 0 (bl s)=acc++aW (60 - m.length) m.length ((bl s).drop a))∧Hid (wr.ownsRow w.heap.size 62 2 (F A m.length c) m.length (m.flatMap fu.enc))∧Hid (wr.ownsRow w.heap.size 3 1 (F A' (m.length+1) c') (m.length+1) (rP (du 0 acc)))) (fun r _ _ _ _ _ _=>60 - lenOf r)
 case atStart=>exact ⟨0,none,0,some ⟨w.heap.size,0,none⟩,1,[],[],by simp,Nat.zero_le _,rfl,rfl,rfl,⟨⟨_,b0⟩,rfl⟩,rfl,rfl,HZ,World.ownsRow_nil _ _ _ _,E0⟩
 case round =>
  obtain ⟨a,A,c,A',c',m,acc,hm,ha,rfl,rfl,rfl,⟨q,rfl⟩,HA,HL,HF,HR,HE⟩:=hrel
  have DONE:aW (60 - m.length) m.length ((bl s).drop a) = []→∀ W',Below q.val.heap.size q.val W'→jr s w (.returned (.tuple #[F A m.length c,F A' (m.length+1) c'])) W':=fun h W' hb=>by
   have h1:=HF.out
   rw [h,List.append_nil] at h1
   exact ⟨A,c,A',c',m,rfl,by rw [h1]; exact HA.out,ac HR.out hb,by rw [h1]; exact ac HE.out hb,(q.go (Nat.le_refl _) hb).below⟩
  by_cases hlt:m.length < 60
  ·obtain ⟨n,hn⟩ : ∃ n,60 - m.length=n+1:=⟨59 - m.length,by omega⟩
   obtain ⟨x,hx⟩ : ∃ x:ByteArray,x=s.extract a s.size:=⟨_,rfl⟩
   have hbx:bl x=(bl s).drop a:=by rw [hx,bE,List.take_of_length_le (by rw [ao]; exact Nat.le_refl _)]
   have HI:Hid (∀ W,Calls Tryz.prog 122 #[uk (s.extract a s.size),.int .u8 10] W fun e w'=>e=.returned (O U (Lib.indexByte (bl x) 10))∧w'=W):=fun W=>by rw [← hx]; exact Tryz.strings_IndexByte x 10 W
   rw [hn] at DONE HF
   rw [← hbx] at DONE HF
   have i1:(a:Int)≤(s.size:Int):=by omega
   rcases mE (bl x) 10 with ⟨h1,h2⟩ | ⟨h1,h2⟩
   ·rw [h2] at HI
    have HD:=Lib.hid (DONE (eh h1) _ (Below.refl _ _))
    clear DONE h1 h2 hx hbx hn
    go_wp2_with (go_at_call 122; refine (HI.out _).mono ?_; rintro e w' ⟨rfl,rfl⟩)
    go_ret2
    exact HD.out
   ·rw [h2] at HI
    have hp:=congrArg List.length (dr h1)
    have hxs:(bl x).length=s.size - a:=by rw [hbx,List.length_drop,ao]
    simp only [List.length_append,List.length_cons,List.length_drop,hxs] at hp
    have hparts:=dr h1
    obtain ⟨d,hd⟩ : ∃ d,d=(dF 10 (bl x)).length:=⟨_,rfl⟩
    rw [← hd] at HI hp
    have hda:a+d+1≤s.size:=by omega
    obtain ⟨y,hy⟩ : ∃ y:ByteArray,y=s.extract a (a+d):=⟨_,rfl⟩
    have hby:bl y=dF 10 (bl x):=by
     rw [hy,bE,List.drop_take,Nat.add_sub_cancel_left,← hbx,hd,l9]
    have hys:y.size≤3000000:=by rw [← ao,hby,← hd]; omega
    have HDc:Hid (∀ W,iR W→Calls Tryz.prog 123 #[O U (m.length:Int),uk (s.extract a (a+d))] W (mF m.length y W)):=fun W hW=>by
     rw [← hy]; exact kW m.length y W (by omega) hys hW
    have HBad:Hid (dG m.length (bl y)=none→∀ W',Below q.val.heap.size q.val W'→jr s w (.returned (.tuple #[F A m.length c,F A' (m.length+1) c'])) W'):=fun h=>DONE (es (by rw [← hby]; exact h))
    have HGood:Hid (∀ ra rb,dG m.length (bl y)=some (ra,rb)→aW 60 0 (bl s)=(acc++[((ra,rb),d+1)])++aW (60 - (m.length+1)) (m.length+1) ((bl s).drop (a+(d+1)))):=fun ra rb h=>by
     have e1:=dH (n:=n) h1 (by rw [← hby]; exact h)
     have e2:60 - (m.length+1)=n:=by omega
     rw [HF.out,e1,e2,← hd,hbx,List.drop_drop]
     simp
    have i2:(0:Int)≤(d:Int):=by omega
    have i3:(a:Int)+(d:Int)≤(s.size:Int):=by omega
    have i4:(a:Int)+((d:Int)+1)≤(s.size:Int):=by omega
    have htq:=ht.at q
    clear DONE h1 h2 hx hbx hn hp hxs hparts hd hy hby
    go_wp2_with (go_at_call 122; refine (HI.out _).mono ?_; rintro e w' ⟨rfl,rfl⟩)
    refine (HDc.out _ htq).mono ?_
    rintro e w3 ⟨ra,rb,ok,rfl,hdec,hb3⟩
    cases ok
    ·have HD:=Lib.hid (HBad.out (by rcases hdec with ⟨h,_⟩ | ⟨_,h⟩; cases h; exact h) _ (hb3.alloc hb3.size (.cells #[uk ra,uk rb] 62)))
     clear hdec
     go_wp2_with fail
     go_ret2
     exact HD.out
    ·have hdec' : dG m.length (bl y)=some (bl ra,bl rb):=by rcases hdec with ⟨_,h⟩ | ⟨h,_⟩; exact h; cases h
     have HF2:=Lib.hid (HGood.out _ _ hdec')
     clear hdec hdec'
     have b4:=hb3.alloc hb3.size (.cells #[uk ra,uk rb] 62)
     have HR4:=Lib.hid (ac HR.out b4)
     have HE4:=Lib.hid (ac HE.out b4)
     have hqs:=q.size
     have hsz4:w.heap.size≤(w3.alloc (.cells #[uk ra,uk rb] 62)).heap.size:=Nat.le_trans hqs b4.size
     go_wp2_with (first
      | (at_builtin; refine bY (w0:=w3.alloc (.cells #[uk ra,uk rb] 62)) rfl (.tmp 38) (.tmp 40) 58 rfl 62 _ 2 32 Tryz.underlying58 qY rfl (by omega) (by omega) w.heap.size _ _ _ rfl HR4 #[uk ra,uk rb] 1 _ rfl (by first | rfl | simp | exact Array.size_push _) rfl (by simp [Value.oneCell']) (by omega) hsz4 rfl rfl rfl rfl ?_; intro v5 w5 HO5 hg5 hb5; have HE5:=Lib.hid (ej HE4.out HR4.out hne hg5); have hsz5:w.heap.size≤w5.heap.size:=Nat.le_trans hsz4 hg5.size)
      | (at_builtin; refine bY (w0:=w5) rfl (.tmp 42) (.tmp 44) 100 rfl 3 (O U 0) 1 8 Tryz.underlying100 gV rfl (by omega) (by omega) w.heap.size _ _ _ rfl HE5 #[O U ((a:Int)+((d:Int)+1))] 1 _ rfl (by first | rfl | simp | exact Array.size_push _) rfl (by simp [Value.oneCell']) (by omega) hsz5 rfl rfl rfl rfl ?_; intro v6 w6 HO6 hg6 hb6))
     have HR6:=Lib.hid (ej HO5.out HE5.out hne.symm hg6)
     obtain ⟨A5,c5,hv5⟩:=av HO5.out
     subst hv5
     obtain ⟨A6,c6,hv6⟩:=av HO6.out
     subst hv6
     go_roundw
     case rel =>
      refine ⟨a+(d+1),A5,c5,A6,c6,m++[⟨ra,rb⟩],acc++[((bl ra,bl rb),d+1)],by simp; omega,by omega,by simp,by simp,by go_num,⟨((q.go (Nat.le_refl _) b4).go' hb5).go' hb6,rfl⟩, ?_, ?_, ?_, ?_, ?_⟩
      ·have h1:=HA.out; unfold iL at h1; unfold iL Hid; simp [h1]
      ·have h1:=HL.out; unfold Hid; rw [← h1]; simp [dJ]
      ·have h1:=HF2.out; rw [Hid]; simpa using h1
      ·have h1:=HR6.out; rw [Hid]; simpa [fu.enc] using h1
      ·have h1:=HO6.out; rw [Hid,me,HL.out]; simpa [rP] using h1
     case measure=>simp [lenOf]; omega
  ·have HD:Hid (jr s w (.returned (.tuple #[F A m.length c,F A' (m.length+1) c'])) q.val):=DONE (by rw [show 60 - m.length=0 by omega]; rfl) _ (Below.refl _ _)
   clear DONE
   go_wp2
   go_ret2
   exact HD.out
end Go.Proofs.YtoeoimhemojdeaaGreatDoor
