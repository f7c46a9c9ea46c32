/- Lemmas for the proof, no statement of the seat; no conditions. -/
import Derived.Test.YtcbjbdnmhlhijaaGreatDoorLayAQ
import Derived.Shelf.Small.Strs
import Derived.Shelf.Strconv.Atoi
import Derived.Shelf.Strconv.Itoa0
import Derived.Shelf.Strconv.Itoa1
import Derived.Shelf.LaysM
import Derived.Shelf.Strconv.Itoa2
import Derived.Shelf.Strconv.Itoa3
import Derived.Shelf.Strconv.AtoiErrFast
import Derived.Shelf.Strconv.ParseIntEmpty
import Derived.Shelf.Strconv.AtoiFail
import Derived.Shelf.Strconv.Clone
import Derived.Shelf.Strconv.SyntaxError
import Derived.Shelf.LaysC
import Derived.Shelf.Strconv.ToError
import Derived.Shelf.Strconv.Lower
import Derived.Shelf.Strconv.ParseUint10
import Derived.Shelf.Strconv.ParseUint10Empty
import Derived.Shelf.Strconv.ParseUint10Any
import Derived.Shelf.Strconv.ParseInt10
import Derived.Shelf.Strconv.AtoiLong
import Derived.Shelf.Strconv.AtoiInnerAll
import Derived.Shelf.Strconv.RangeError
import Derived.Shelf.Strconv.ToErrorRange
import Derived.Shelf.Strconv.AtoiAll
import Derived.Shelf.Strings.Search1
import Derived.Shelf.Strings.Search2
import Derived.Shelf.Strings.Search3
import Derived.Shelf.Strings.Count
import Derived.Test.YtcbjbdnmhlhijaaGreatDoorProg
set_option linter.unusedSimpArgs false
set_option linter.unusedVariables false
set_option linter.unnecessarySimpa false
set_option maxRecDepth 100000
section
namespace Go.Proofs
open Go.Shelf Go.RowKit Go.Sort Go.Lib
def Tryz.lays137_ren:Go.Shelf.Ren:=⟨fun | 137=>308 | 217=>355 | 266=>389 | n=>n,fun | 9=>9 | 5=>5 | 3=>3 | n=>n,fun | n=>n⟩
theorem Tryz.lays137:Go.Proofs.Lays.n137 Tryz.prog Tryz.lays137_ren:={
 mixed:=by kernel_rfl
 f137:=Tryz.func308.trans (congrArg some (by kernel_rfl))
 f217:=Tryz.func355.trans (congrArg some (by kernel_rfl))
 f266:=Tryz.func389.trans (congrArg some (by kernel_rfl))
 t3:=Tryz.underlying3
 a3:=Tryz.isAgg3
 z3:=Tryz.sizeOf3
 v3:=Tryz.zeroValue3
 t5:=Tryz.underlying5
 a5:=Tryz.isAgg5
 z5:=Tryz.sizeOf5
 v5:=Tryz.zeroValue5
 t9:=Tryz.underlying9
 a9:=Tryz.isAgg9
 z9:=Tryz.sizeOf9
 v9:=Tryz.zeroValue9 }
theorem Tryz.strings_IndexByte (s:ByteArray) (c:Int) (w:World) :
  Calls Tryz.prog 308 #[.string s,.int .u8 c] w fun e w'=>e=.returned (.int .i64 (Lib.indexByte s.data.toList c.toNat.toUInt8))∧w'=w:=Any.strings_IndexByte Tryz.lays137 s c w
def Tryz.laysM171_ren:Go.Shelf.Ren:=⟨fun | 171=>280 | 243=>331 | 246=>373 | 283=>397 | 284=>398 | 285=>399 | 286=>400 | 129=>348 | 317=>410 | 318=>411 | 319=>412 | 320=>413 | 337=>415 | 338=>416 | n=>n,fun | 3=>3 | 9=>9 | 2=>2 | 4=>4 | 171=>380 | 0=>0 | 53=>342 | 37=>294 | 5=>5 | 173=>382 | 212=>397 | 51=>340 | 20=>20 | 213=>398 | 46=>308 | 232=>404 | 233=>405 | n=>n,fun | 17=>3 | 18=>6 | 19=>7 | n=>n⟩
theorem Tryz.laysM171:Go.Proofs.LaysM.n171 Tryz.prog Tryz.laysM171_ren:={
 mixed:=by kernel_rfl
 f129:=Tryz.func348.trans (congrArg some (by kernel_rfl))
 f171:=Tryz.func280.trans (congrArg some (by kernel_rfl))
 f243:=Tryz.func331.trans (congrArg some (by kernel_rfl))
 f246:=Tryz.func373.trans (congrArg some (by kernel_rfl))
 f283:=Tryz.func397.trans (congrArg some (by kernel_rfl))
 f284:=Tryz.func398.trans (congrArg some (by kernel_rfl))
 f285:=Tryz.func399.trans (congrArg some (by kernel_rfl))
 f286:=Tryz.func400.trans (congrArg some (by kernel_rfl))
 f317:=Tryz.func410.trans (congrArg some (by kernel_rfl))
 f318:=Tryz.func411.trans (congrArg some (by kernel_rfl))
 f319:=Tryz.func412.trans (congrArg some (by kernel_rfl))
 f320:=Tryz.func413.trans (congrArg some (by kernel_rfl))
 f337:=Tryz.func415.trans (congrArg some (by kernel_rfl))
 f338:=Tryz.func416.trans (congrArg some (by kernel_rfl))
 t0:=Tryz.underlying0
 a0:=Tryz.isAgg0
 z0:=Tryz.sizeOf0
 v0:=Tryz.zeroValue0
 t2:=Tryz.underlying2
 a2:=Tryz.isAgg2
 z2:=Tryz.sizeOf2
 v2:=Tryz.zeroValue2
 t3:=Tryz.underlying3
 a3:=Tryz.isAgg3
 z3:=Tryz.sizeOf3
 v3:=Tryz.zeroValue3
 t4:=Tryz.underlying4
 a4:=Tryz.isAgg4
 z4:=Tryz.sizeOf4
 v4:=Tryz.zeroValue4
 t5:=Tryz.underlying5
 a5:=Tryz.isAgg5
 z5:=Tryz.sizeOf5
 v5:=Tryz.zeroValue5
 t9:=Tryz.underlying9
 a9:=Tryz.isAgg9
 z9:=Tryz.sizeOf9
 v9:=Tryz.zeroValue9
 t20:=Tryz.underlying20
 a20:=Tryz.isAgg20
 z20:=Tryz.sizeOf20
 v20:=Tryz.zeroValue20
 t37:=Tryz.underlying294
 a37:=Tryz.isAgg294
 z37:=Tryz.sizeOf294
 v37:=Tryz.zeroValue294
 t46:=Tryz.underlying308
 a46:=Tryz.isAgg308
 z46:=Tryz.sizeOf308
 v46:=Tryz.zeroValue308
 t51:=Tryz.underlying340
 a51:=Tryz.isAgg340
 z51:=Tryz.sizeOf340
 v51:=Tryz.zeroValue340
 t53:=Tryz.underlying342
 a53:=Tryz.isAgg342
 z53:=Tryz.sizeOf342
 v53:=Tryz.zeroValue342
 t171:=Tryz.underlying380
 a171:=Tryz.isAgg380
 z171:=Tryz.sizeOf380
 v171:=Tryz.zeroValue380
 t173:=Tryz.underlying382
 a173:=Tryz.isAgg382
 z173:=Tryz.sizeOf382
 v173:=Tryz.zeroValue382
 t212:=Tryz.underlying397
 a212:=Tryz.isAgg397
 z212:=Tryz.sizeOf397
 v212:=Tryz.zeroValue397
 t213:=Tryz.underlying398
 a213:=Tryz.isAgg398
 z213:=Tryz.sizeOf398
 t232:=Tryz.underlying404
 a232:=Tryz.isAgg404
 z232:=Tryz.sizeOf404
 v232:=Tryz.zeroValue404
 t233:=Tryz.underlying405
 a233:=Tryz.isAgg405
 z233:=Tryz.sizeOf405
 v233:=Tryz.zeroValue405
 g17:=by kernel_rfl
 g18:=by kernel_rfl
 g19:=by kernel_rfl
 i0:=by kernel_rfl
 i2:=by kernel_rfl
 i3:=by kernel_rfl
 i4:=by kernel_rfl
 i5:=by kernel_rfl
 i9:=by kernel_rfl
 i20:=by kernel_rfl
 i37:=by kernel_rfl
 i46:=by kernel_rfl
 i51:=by kernel_rfl
 i53:=by kernel_rfl
 i171:=by kernel_rfl
 i173:=by kernel_rfl
 i212:=by kernel_rfl
 i232:=by kernel_rfl
 i233:=by kernel_rfl
 m17:=by kernel_rfl
 m18:=by kernel_rfl
 m19:=by kernel_rfl }
theorem Tryz.strconv_Itoa (n:Int) (h0:-9223372036854775808≤n) (h1:n≤9223372036854775807) (w:World) (htab:Lib.TabIs Tryz.prog w "internal/strconv.uint64pow10" .u64 Lib.pow10Tab) :
  Calls Tryz.prog 280 #[.int .i64 n] w fun e w'=>e=.returned (.string ⟨(Lib.itoa n).toArray⟩)∧∃ k os,w'=grow (w.drewN k) os:=Any.strconv_Itoa Tryz.laysM171 n h0 h1 w htab
def Tryz.laysC172_ren:Go.Shelf.Ren:=⟨fun | 172=>229 | 244=>306 | 245=>307 | 247=>350 | 279=>351 | 280=>352 | 281=>353 | 282=>354 | 287=>386 | 316=>387 | 171=>280 | 205=>388 | 321=>404 | 322=>405 | 243=>331 | 246=>373 | 283=>397 | 284=>398 | 285=>399 | 286=>400 | 129=>348 | 317=>410 | 318=>411 | 319=>412 | 320=>413 | 337=>415 | 338=>416 | n=>n,fun | 9=>9 | 3=>3 | 75=>258 | 76=>259 | 4=>4 | 5=>5 | 167=>343 | 37=>294 | 0=>0 | 85=>344 | 2=>2 | 168=>346 | 53=>342 | 175=>370 | 46=>308 | 210=>373 | 127=>359 | 145=>392 | 143=>390 | 21=>21 | 171=>380 | 173=>382 | 212=>397 | 51=>340 | 20=>20 | 213=>398 | 232=>404 | 233=>405 | 80=>328 | n=>n,fun | 15=>1 | 16=>2 | 17=>3 | 18=>6 | 19=>7 | n=>n⟩
theorem Tryz.laysC172:Go.Proofs.LaysC.n172 Tryz.prog Tryz.laysC172_ren:={
 mixed:=by kernel_rfl
 f129:=Tryz.func348.trans (congrArg some (by kernel_rfl))
 f171:=Tryz.func280.trans (congrArg some (by kernel_rfl))
 f172:=Tryz.func229.trans (congrArg some (by kernel_rfl))
 f205:=Tryz.func388.trans (congrArg some (by kernel_rfl))
 f243:=Tryz.func331.trans (congrArg some (by kernel_rfl))
 f244:=Tryz.func306.trans (congrArg some (by kernel_rfl))
 f245:=Tryz.func307.trans (congrArg some (by kernel_rfl))
 f246:=Tryz.func373.trans (congrArg some (by kernel_rfl))
 f247:=Tryz.func350.trans (congrArg some (by kernel_rfl))
 f279:=Tryz.func351.trans (congrArg some (by kernel_rfl))
 f280:=Tryz.func352.trans (congrArg some (by kernel_rfl))
 f281:=Tryz.func353.trans (congrArg some (by kernel_rfl))
 f282:=Tryz.func354.trans (congrArg some (by kernel_rfl))
 f283:=Tryz.func397.trans (congrArg some (by kernel_rfl))
 f284:=Tryz.func398.trans (congrArg some (by kernel_rfl))
 f285:=Tryz.func399.trans (congrArg some (by kernel_rfl))
 f286:=Tryz.func400.trans (congrArg some (by kernel_rfl))
 f287:=Tryz.func386.trans (congrArg some (by kernel_rfl))
 f316:=Tryz.func387.trans (congrArg some (by kernel_rfl))
 f317:=Tryz.func410.trans (congrArg some (by kernel_rfl))
 f318:=Tryz.func411.trans (congrArg some (by kernel_rfl))
 f319:=Tryz.func412.trans (congrArg some (by kernel_rfl))
 f320:=Tryz.func413.trans (congrArg some (by kernel_rfl))
 f321:=Tryz.func404.trans (congrArg some (by kernel_rfl))
 f322:=Tryz.func405.trans (congrArg some (by kernel_rfl))
 f337:=Tryz.func415.trans (congrArg some (by kernel_rfl))
 f338:=Tryz.func416.trans (congrArg some (by kernel_rfl))
 t0:=Tryz.underlying0
 a0:=Tryz.isAgg0
 z0:=Tryz.sizeOf0
 v0:=Tryz.zeroValue0
 t2:=Tryz.underlying2
 a2:=Tryz.isAgg2
 z2:=Tryz.sizeOf2
 v2:=Tryz.zeroValue2
 t3:=Tryz.underlying3
 a3:=Tryz.isAgg3
 z3:=Tryz.sizeOf3
 v3:=Tryz.zeroValue3
 t4:=Tryz.underlying4
 a4:=Tryz.isAgg4
 z4:=Tryz.sizeOf4
 v4:=Tryz.zeroValue4
 t5:=Tryz.underlying5
 a5:=Tryz.isAgg5
 z5:=Tryz.sizeOf5
 v5:=Tryz.zeroValue5
 t9:=Tryz.underlying9
 a9:=Tryz.isAgg9
 z9:=Tryz.sizeOf9
 v9:=Tryz.zeroValue9
 t20:=Tryz.underlying20
 a20:=Tryz.isAgg20
 z20:=Tryz.sizeOf20
 v20:=Tryz.zeroValue20
 t21:=Tryz.underlying21
 a21:=Tryz.isAgg21
 z21:=Tryz.sizeOf21
 v21:=Tryz.zeroValue21
 t37:=Tryz.underlying294
 a37:=Tryz.isAgg294
 z37:=Tryz.sizeOf294
 v37:=Tryz.zeroValue294
 t46:=Tryz.underlying308
 a46:=Tryz.isAgg308
 z46:=Tryz.sizeOf308
 v46:=Tryz.zeroValue308
 t51:=Tryz.underlying340
 a51:=Tryz.isAgg340
 z51:=Tryz.sizeOf340
 v51:=Tryz.zeroValue340
 t53:=Tryz.underlying342
 a53:=Tryz.isAgg342
 z53:=Tryz.sizeOf342
 v53:=Tryz.zeroValue342
 t75:=Tryz.underlying258
 a75:=Tryz.isAgg258
 z75:=Tryz.sizeOf258
 v75:=Tryz.zeroValue258
 t76:=Tryz.underlying259
 a76:=Tryz.isAgg259
 z76:=Tryz.sizeOf259
 v76:=Tryz.zeroValue259
 t85:=Tryz.underlying344
 a85:=Tryz.isAgg344
 z85:=Tryz.sizeOf344
 v85:=Tryz.zeroValue344
 t127:=Tryz.underlying359
 a127:=Tryz.isAgg359
 z127:=Tryz.sizeOf359
 v127:=Tryz.zeroValue359
 t143:=Tryz.underlying390
 a143:=Tryz.isAgg390
 z143:=Tryz.sizeOf390
 v143:=Tryz.zeroValue390
 t145:=Tryz.underlying392
 a145:=Tryz.isAgg392
 z145:=Tryz.sizeOf392
 v145:=Tryz.zeroValue392
 t167:=Tryz.underlying343
 a167:=Tryz.isAgg343
 z167:=Tryz.sizeOf343
 v167:=Tryz.zeroValue343
 t168:=Tryz.underlying346
 a168:=Tryz.isAgg346
 z168:=Tryz.sizeOf346
 v168:=Tryz.zeroValue346
 t171:=Tryz.underlying380
 a171:=Tryz.isAgg380
 z171:=Tryz.sizeOf380
 v171:=Tryz.zeroValue380
 t173:=Tryz.underlying382
 a173:=Tryz.isAgg382
 z173:=Tryz.sizeOf382
 v173:=Tryz.zeroValue382
 t175:=Tryz.underlying370
 a175:=Tryz.isAgg370
 z175:=Tryz.sizeOf370
 v175:=Tryz.zeroValue370
 t210:=Tryz.underlying373
 a210:=Tryz.isAgg373
 z210:=Tryz.sizeOf373
 v210:=Tryz.zeroValue373
 t212:=Tryz.underlying397
 a212:=Tryz.isAgg397
 z212:=Tryz.sizeOf397
 v212:=Tryz.zeroValue397
 t213:=Tryz.underlying398
 a213:=Tryz.isAgg398
 z213:=Tryz.sizeOf398
 t232:=Tryz.underlying404
 a232:=Tryz.isAgg404
 z232:=Tryz.sizeOf404
 v232:=Tryz.zeroValue404
 t233:=Tryz.underlying405
 a233:=Tryz.isAgg405
 z233:=Tryz.sizeOf405
 v233:=Tryz.zeroValue405
 g15:=by kernel_rfl
 g16:=by kernel_rfl
 g17:=by kernel_rfl
 g18:=by kernel_rfl
 g19:=by kernel_rfl
 t80:=Tryz.underlying328
 a80:=Tryz.isAgg328
 z80:=Tryz.sizeOf328
 v80:=Tryz.zeroValue328
 i0:=by kernel_rfl
 i2:=by kernel_rfl
 i3:=by kernel_rfl
 i4:=by kernel_rfl
 i5:=by kernel_rfl
 i9:=by kernel_rfl
 i20:=by kernel_rfl
 i21:=by kernel_rfl
 i37:=by kernel_rfl
 i46:=by kernel_rfl
 i51:=by kernel_rfl
 i53:=by kernel_rfl
 i75:=by kernel_rfl
 i76:=by kernel_rfl
 i80:=by kernel_rfl
 i85:=by kernel_rfl
 i127:=by kernel_rfl
 i143:=by kernel_rfl
 i145:=by kernel_rfl
 i167:=by kernel_rfl
 i168:=by kernel_rfl
 i171:=by kernel_rfl
 i173:=by kernel_rfl
 i175:=by kernel_rfl
 i210:=by kernel_rfl
 i212:=by kernel_rfl
 i232:=by kernel_rfl
 i233:=by kernel_rfl
 m15:=by kernel_rfl
 m16:=by kernel_rfl
 m17:=by kernel_rfl
 m18:=by kernel_rfl
 m19:=by kernel_rfl
 c0:=by kernel_rfl
 c2:=by kernel_rfl
 c3:=by kernel_rfl
 c4:=by kernel_rfl
 c5:=by kernel_rfl
 c9:=by kernel_rfl
 c20:=by kernel_rfl
 c21:=by kernel_rfl
 c37:=by kernel_rfl
 c46:=by kernel_rfl
 c51:=by kernel_rfl
 c53:=by kernel_rfl
 c75:=by kernel_rfl
 c76:=by kernel_rfl
 c80:=by kernel_rfl
 c85:=by kernel_rfl
 c127:=by kernel_rfl
 c143:=by kernel_rfl
 c145:=by kernel_rfl
 c167:=by kernel_rfl
 c168:=by kernel_rfl
 c171:=by kernel_rfl
 c173:=by kernel_rfl
 c175:=by kernel_rfl
 c210:=by kernel_rfl
 c212:=by kernel_rfl
 c213:=by kernel_rfl
 c232:=by kernel_rfl
 c233:=by kernel_rfl }
theorem Tryz.strconv_Atoi_ok (s:ByteArray) (hmax:s.size≤9223372036854775806) (v:Int) (h:Lib.atoiAll s.data.toList=.ok v) (w:World) :
  Calls Tryz.prog 229 #[.string s] w fun e w'=>e=.returned (.tuple #[.int .i64 v,.nilIface])∧(w'=w∨∃ t,w'=Lib.bytesWorld w 5 t):=Any.strconv_Atoi_ok Tryz.laysC172 s hmax v h w
theorem Tryz.strconv_Atoi_syntax (s:ByteArray) (hlim:s.size≤281474976710656) (h:Lib.atoiAll s.data.toList=Lib.atoiAll []) (ev:Value) (w:World) (hv:w.cell? ⟨1,0,none⟩=some ev) (hev:ev=.nilIface∨∃ te pe,ev=.iface te pe) :
  Calls Tryz.prog 229 #[.string s] w fun e w'=>∃ N,e=.returned (.tuple #[.int .i64 (0),.iface 346 (.pointer (some ⟨N,0,none⟩))])∧w.heap.size≤N∧w'.heap[N]?=some (.cells #[.string ⟨#[65,116,111,105]⟩,.string s,ev] 373 (0,0))∧Below w.heap.size w w':=Any.strconv_Atoi_syntax Tryz.laysC172 s hlim h ev w hv hev
theorem Tryz.strconv_Atoi_range (s:ByteArray) (hlim:s.size≤281474976710656) (h:Lib.atoiAll s.data.toList=.range) (ev:Value) (w:World) (hv:w.cell? ⟨2,0,none⟩=some ev) (hev:ev=.nilIface∨∃ te pe,ev=.iface te pe) :
  Calls Tryz.prog 229 #[.string s] w fun e w'=>∃ N,e=.returned (.tuple #[.int .i64 (Lib.atoiSat s.data.toList),.iface 346 (.pointer (some ⟨N,0,none⟩))])∧w.heap.size≤N∧w'.heap[N]?=some (.cells #[.string ⟨#[65,116,111,105]⟩,.string s,ev] 373 (0,0))∧Below w.heap.size w w':=Any.strconv_Atoi_range Tryz.laysC172 s hlim h ev w hv hev
def Tryz.lays219_ren:Go.Shelf.Ren:=⟨fun | 219=>349 | 217=>355 | 225=>383 | 224=>384 | 267=>385 | 266=>389 | 314=>403 | n=>n,fun | 9=>9 | 3=>3 | 4=>4 | 5=>5 | 46=>308 | 146=>387 | 51=>340 | n=>n,fun | 1=>0 | n=>n⟩
theorem Tryz.lays219:Go.Proofs.Lays.n219 Tryz.prog Tryz.lays219_ren:={
 mixed:=by kernel_rfl
 f217:=Tryz.func355.trans (congrArg some (by kernel_rfl))
 f219:=Tryz.func349.trans (congrArg some (by kernel_rfl))
 f224:=Tryz.func384.trans (congrArg some (by kernel_rfl))
 f225:=Tryz.func383.trans (congrArg some (by kernel_rfl))
 f266:=Tryz.func389.trans (congrArg some (by kernel_rfl))
 f267:=Tryz.func385.trans (congrArg some (by kernel_rfl))
 f314:=Tryz.func403.trans (congrArg some (by kernel_rfl))
 t3:=Tryz.underlying3
 a3:=Tryz.isAgg3
 z3:=Tryz.sizeOf3
 v3:=Tryz.zeroValue3
 t4:=Tryz.underlying4
 a4:=Tryz.isAgg4
 z4:=Tryz.sizeOf4
 v4:=Tryz.zeroValue4
 t5:=Tryz.underlying5
 a5:=Tryz.isAgg5
 z5:=Tryz.sizeOf5
 v5:=Tryz.zeroValue5
 t9:=Tryz.underlying9
 a9:=Tryz.isAgg9
 z9:=Tryz.sizeOf9
 v9:=Tryz.zeroValue9
 t46:=Tryz.underlying308
 a46:=Tryz.isAgg308
 z46:=Tryz.sizeOf308
 v46:=Tryz.zeroValue308
 t51:=Tryz.underlying340
 a51:=Tryz.isAgg340
 z51:=Tryz.sizeOf340
 v51:=Tryz.zeroValue340
 t146:=Tryz.underlying387
 a146:=Tryz.isAgg387
 z146:=Tryz.sizeOf387
 v146:=Tryz.zeroValue387
 g1:=by kernel_rfl }
theorem Tryz.stringslite_Index_one (s:ByteArray) (c:UInt8) (w:World) :
  Calls Tryz.prog 349 #[.string s,.string ⟨#[c]⟩] w fun e w'=>e=.returned (.int .i64 (Lib.indexByte s.data.toList c))∧w'=w:=Any.stringslite_Index_one Tryz.lays219 s c w
def Tryz.lays143_ren:Go.Shelf.Ren:=⟨fun | 143=>335 | 219=>349 | 217=>355 | 225=>383 | 224=>384 | 267=>385 | 266=>389 | 314=>403 | n=>n,fun | 9=>9 | 3=>3 | 4=>4 | 5=>5 | 46=>308 | 146=>387 | 51=>340 | n=>n,fun | 1=>0 | n=>n⟩
theorem Tryz.lays143:Go.Proofs.Lays.n143 Tryz.prog Tryz.lays143_ren:={
 mixed:=by kernel_rfl
 f143:=Tryz.func335.trans (congrArg some (by kernel_rfl))
 f217:=Tryz.func355.trans (congrArg some (by kernel_rfl))
 f219:=Tryz.func349.trans (congrArg some (by kernel_rfl))
 f224:=Tryz.func384.trans (congrArg some (by kernel_rfl))
 f225:=Tryz.func383.trans (congrArg some (by kernel_rfl))
 f266:=Tryz.func389.trans (congrArg some (by kernel_rfl))
 f267:=Tryz.func385.trans (congrArg some (by kernel_rfl))
 f314:=Tryz.func403.trans (congrArg some (by kernel_rfl))
 t3:=Tryz.underlying3
 a3:=Tryz.isAgg3
 z3:=Tryz.sizeOf3
 v3:=Tryz.zeroValue3
 t4:=Tryz.underlying4
 a4:=Tryz.isAgg4
 z4:=Tryz.sizeOf4
 v4:=Tryz.zeroValue4
 t5:=Tryz.underlying5
 a5:=Tryz.isAgg5
 z5:=Tryz.sizeOf5
 v5:=Tryz.zeroValue5
 t9:=Tryz.underlying9
 a9:=Tryz.isAgg9
 z9:=Tryz.sizeOf9
 v9:=Tryz.zeroValue9
 t46:=Tryz.underlying308
 a46:=Tryz.isAgg308
 z46:=Tryz.sizeOf308
 v46:=Tryz.zeroValue308
 t51:=Tryz.underlying340
 a51:=Tryz.isAgg340
 z51:=Tryz.sizeOf340
 v51:=Tryz.zeroValue340
 t146:=Tryz.underlying387
 a146:=Tryz.isAgg387
 z146:=Tryz.sizeOf387
 v146:=Tryz.zeroValue387
 g1:=by kernel_rfl }
theorem Tryz.strings_Index_one (s:ByteArray) (c:UInt8) (w:World) :
  Calls Tryz.prog 335 #[.string s,.string ⟨#[c]⟩] w fun e w'=>e=.returned (.int .i64 (Lib.indexByte s.data.toList c))∧w'=w:=Any.strings_Index_one Tryz.lays143 s c w
def Tryz.lays138_ren:Go.Shelf.Ren:=⟨fun | 138=>334 | 195=>374 | 218=>376 | 143=>335 | 219=>349 | 217=>355 | 225=>383 | 224=>384 | 267=>385 | 266=>389 | 314=>403 | n=>n,fun | 9=>9 | 3=>3 | 4=>4 | 5=>5 | 0=>0 | 46=>308 | 146=>387 | 51=>340 | n=>n,fun | 1=>0 | n=>n⟩
theorem Tryz.lays138:Go.Proofs.Lays.n138 Tryz.prog Tryz.lays138_ren:={
 mixed:=by kernel_rfl
 f138:=Tryz.func334.trans (congrArg some (by kernel_rfl))
 f143:=Tryz.func335.trans (congrArg some (by kernel_rfl))
 f195:=Tryz.func374.trans (congrArg some (by kernel_rfl))
 f217:=Tryz.func355.trans (congrArg some (by kernel_rfl))
 f218:=Tryz.func376.trans (congrArg some (by kernel_rfl))
 f219:=Tryz.func349.trans (congrArg some (by kernel_rfl))
 f224:=Tryz.func384.trans (congrArg some (by kernel_rfl))
 f225:=Tryz.func383.trans (congrArg some (by kernel_rfl))
 f266:=Tryz.func389.trans (congrArg some (by kernel_rfl))
 f267:=Tryz.func385.trans (congrArg some (by kernel_rfl))
 f314:=Tryz.func403.trans (congrArg some (by kernel_rfl))
 t0:=Tryz.underlying0
 a0:=Tryz.isAgg0
 z0:=Tryz.sizeOf0
 v0:=Tryz.zeroValue0
 t3:=Tryz.underlying3
 a3:=Tryz.isAgg3
 z3:=Tryz.sizeOf3
 v3:=Tryz.zeroValue3
 t4:=Tryz.underlying4
 a4:=Tryz.isAgg4
 z4:=Tryz.sizeOf4
 v4:=Tryz.zeroValue4
 t5:=Tryz.underlying5
 a5:=Tryz.isAgg5
 z5:=Tryz.sizeOf5
 v5:=Tryz.zeroValue5
 t9:=Tryz.underlying9
 a9:=Tryz.isAgg9
 z9:=Tryz.sizeOf9
 v9:=Tryz.zeroValue9
 t46:=Tryz.underlying308
 a46:=Tryz.isAgg308
 z46:=Tryz.sizeOf308
 v46:=Tryz.zeroValue308
 t51:=Tryz.underlying340
 a51:=Tryz.isAgg340
 z51:=Tryz.sizeOf340
 v51:=Tryz.zeroValue340
 t146:=Tryz.underlying387
 a146:=Tryz.isAgg387
 z146:=Tryz.sizeOf387
 v146:=Tryz.zeroValue387
 g1:=by kernel_rfl }
theorem Tryz.strings_Count_one (s:ByteArray) (c:UInt8) (w:World) :
  Calls Tryz.prog 334 #[.string s,.string ⟨#[c]⟩] w fun e w'=>e=.returned (.int .i64 (Lib.countByte s.data.toList c))∧w'=w:=Any.strings_Count_one Tryz.lays138 s c w
end Go.Proofs
end
section
namespace Go.Av.F
open Go Go.Av Go.Proofs Go.Proofs.Tryz Go.RowKit
theorem str_rel {w:World} {Z:Addr→Prop} {γ:Gm} {s:List UInt8} {x:Value} (h:AVRel w Z γ (.str s) x):x=.string ⟨s.toArray⟩:=by cases h;rfl
theorem int_rel {w:World} {Z:Addr→Prop} {γ:Gm} {k:IntKind} {n:Int} {x:Value} (h:AVRel w Z γ (.int k n) x):x=.int k n:=by cases h;rfl
theorem idx_ge (c:UInt8):∀ (s:List UInt8),-1≤Lib.indexByte s c
 | []=>by simp[Lib.indexByte]
 | x::r=>by
  have:=idx_ge c r
  simp only[Lib.indexByte]
  repeat' split
  all_goals omega
theorem findB_idx (c:UInt8):∀ (s:List UInt8) (i:Int),findB c s i=if Lib.indexByte s c=-1 then -1 else i+Lib.indexByte s c
 | [],i=>by simp[findB,Lib.indexByte]
 | x::r,i=>by
  have h1:=findB_idx c r (i+1)
  have h2:=idx_ge c r
  simp only[findB,Lib.indexByte]
  by_cases hx:x=c
  ·simp[hx]
  ·have:(x == c)=false:=by simpa using hx
   simp only[hx,this,if_false,h1,beq_iff_eq,Bool.false_eq_true]
   split
   ·simp
   ·rw[if_neg (by omega)]
    omega
theorem findB_lib (c:UInt8) (s:List UInt8):Lib.indexByte s c=findB c s 0:=by
 have:=findB_idx c s 0
 rw[this]
 split <;> omega
theorem idxByteC (s:List UInt8) (c:UInt8):CV prog 308 [.str s,.int .u8 (c.toNat:Int)] (.int .i64 (findB c s 0)):=by
 refine qcg fun w Z vs hv hg hz=>?_
 obtain⟨x,y,rfl,h1,h2⟩:=crel2 hv
 rw[str_rel h1,int_rel h2]
 refine(Tryz.strings_IndexByte _ _ w).mono ?_
 rintro e w' ⟨rfl,rfl⟩
 have e1:((c.toNat:Int).toNat).toUInt8=c:=by simp
 exact⟨_,rfl,by rw[e1,← findB_lib];exact .int _ _ _,.refl _ _⟩
theorem idxStrC (s:List UInt8) (c:UInt8):CV prog 335 [.str s,.str [c]] (.int .i64 (findB c s 0)):=by
 refine qcg fun w Z vs hv hg hz=>?_
 obtain⟨x,y,rfl,h1,h2⟩:=crel2 hv
 rw[str_rel h1,str_rel h2]
 refine(Tryz.strings_Index_one _ c w).mono ?_
 rintro e w' ⟨rfl,rfl⟩
 exact⟨_,rfl,by rw[← findB_lib];exact .int _ _ _,.refl _ _⟩
theorem idxSlC (s:List UInt8) (c:UInt8):CV prog 349 [.str s,.str [c]] (.int .i64 (findB c s 0)):=by
 refine qcg fun w Z vs hv hg hz=>?_
 obtain⟨x,y,rfl,h1,h2⟩:=crel2 hv
 rw[str_rel h1,str_rel h2]
 refine(Tryz.stringslite_Index_one _ c w).mono ?_
 rintro e w' ⟨rfl,rfl⟩
 exact⟨_,rfl,by rw[← findB_lib];exact .int _ _ _,.refl _ _⟩
theorem cntC (s:List UInt8) (c:UInt8):CV prog 334 [.str s,.str [c]] (.int .i64 (s.count c:Nat)):=by
 refine qcg fun w Z vs hv hg hz=>?_
 obtain⟨x,y,rfl,h1,h2⟩:=crel2 hv
 rw[str_rel h1,str_rel h2]
 refine(Tryz.strings_Count_one _ c w).mono ?_
 rintro e w' ⟨rfl,rfl⟩
 exact⟨_,rfl,.int _ _ _,.refl _ _⟩
theorem below_grow (w:World) (k:Nat) (os:Array Obj):Below w.heap.size w (Go.Sort.grow (w.drewN k) os) :=
 ⟨rfl,rfl,rfl,by simp[Go.Sort.grow,World.drewN],fun i hi=>by
  show((w.drewN k).heap++os)[i]?=_
  rw[Array.getElem?_append_left (by simpa [World.drewN]using hi)]
  rfl⟩
theorem itoaC (n:Int) (h0:-9223372036854775808≤n) (h1:n≤9223372036854775807):CV prog 280 [.int .i64 n] (.str (Lib.itoa n)):=by
 refine qcg fun w Z vs hv hg hz=>?_
 obtain⟨x,rfl,hx⟩:=crel1 hv
 rw[int_rel hx]
 have htab:Lib.TabIs prog w "internal/strconv.uint64pow10" .u64 Lib.pow10Tab:=by
  have hgn:prog.globalNamed "internal/strconv.uint64pow10"=some 3:=by kernel_rfl
  obtain⟨ty,fz,hh⟩:=gl_var hg (g:=3) (cs:=Lib.pow10Tab.map (AV.int .u64)) (by unfold gtab;rfl) (Lib.pow10Tab.map fun z=>Value.int .u64 z) (by simp) (fun x j hj hr=>by
   simp only[List.getD_eq_getElem?_getD,List.getElem?_map]at hr ⊢
   simp only[List.length_map]at hj
   rw[List.getElem?_eq_getElem hj]at hr ⊢
   exact int_rel hr) (by simp[Lib.pow10Tab])
  unfold Lib.TabIs World.var?
  rw[hgn]
  simp only[Option.bind_some,hh]
 refine(Tryz.strconv_Itoa n h0 h1 w htab).mono ?_
 rintro e w' ⟨rfl,k,os,rfl⟩
 exact⟨_,rfl,.str _ _,below_grow _ _ _⟩
def atoiV (s:List UInt8):Int:=match Lib.atoiAll s with
 | .ok v=>v
 | .range=>Lib.atoiSat s
 | _=>0
def atoiK (s:List UInt8):Bool:=match Lib.atoiAll s with
 | .ok _=>true
 | _=>false
def errA (b:Bool):AV:=if b then .nili else .ifc
theorem gl_ifc {w:World} {Z:Addr→Prop} (h:GlR w Z) {g:Nat} (hg:gtab g=some [.ifc]):∃ t v,w.cell? ⟨g,0,none⟩=some (.iface t v):=by
 obtain⟨h1,_,_⟩:=h g _ hg
 generalize hp:(Value.pointer (some ⟨g,0,none⟩))=u at h1
 cases h1 with
 | elm _ _ A vf hA hz hc hr =>
  injection hp with hp;injection hp with hp;subst hp
  have c0:=hc 0 (by simp)
  have r0:=hr 0 (by simp)
  simp only[List.getD_cons_zero]at r0
  generalize vf 0=x at c0 r0
  cases r0 with
  | ifc _ t v=>exact⟨t,v,by simpa [Addr.at]using c0⟩
theorem atoiC (s:List UInt8) (hl:s.length≤281474976710656):CV prog 229 [.str s] (.tup [.int .i64 (atoiV s),errA (atoiK s)]):=by
 refine qcg (fun w Z vs hv hg hz=>?_) (hcv:=by unfold errA;split <;> simp[clA])
 obtain⟨x,rfl,hx⟩:=crel1 hv
 rw[str_rel hx]
 have tup:∀ {w:World} {a b:AV} {p q:Value},AVRel w Z noG a p→AVRel w Z noG b q→AVRel w Z noG (.tup [a,b]) (.tuple #[p,q]):=fun h1 h2=>.tup _ _ _ rfl fun j hj=>by
  match j,hj with
  | 0,_=>exact h1
  | 1,_=>exact h2
 have hsz:(⟨s.toArray⟩:ByteArray).size=s.length:=by simp[ByteArray.size]
 unfold atoiV atoiK
 rcases hA:Lib.atoiAll s with v | _ | _
 ·refine(Tryz.strconv_Atoi_ok ⟨s.toArray⟩ (by rw[hsz];omega) v (by simpa using hA) w).mono ?_
  rintro e w' ⟨rfl,hw⟩
  refine⟨_,rfl,tup (.int _ _ _) (.nili _),?_⟩
  rcases hw with rfl | ⟨t,rfl⟩
  ·exact .refl _ _
  ·unfold Lib.bytesWorld
   refine⟨rfl,rfl,rfl,?_,fun k hk=>?_⟩
   ·show w.heap.size≤(Array.modify _ _ _).size
    rw[Array.size_modify]
    refine Nat.le_of_lt ?_
    show w.heap.size<(w.drew.heap.push _).size
    rw[Array.size_push]
    exact Nat.lt_succ_self _
   ·show(Array.modify _ w.heap.size _)[k]?=_
    rw[Array.getElem?_modify,if_neg (by omega)]
    exact Below.heap_alloc w.drew _ k hk
 ·obtain⟨te,pe,hc⟩:=gl_ifc hg (g:=1) (by unfold gtab;rfl)
  refine(Tryz.strconv_Atoi_syntax ⟨s.toArray⟩ (by rw[hsz];omega) hA _ w hc (.inr ⟨te,pe,rfl⟩)).mono ?_
  rintro e w' ⟨N,rfl,_,_,hb⟩
  exact⟨_,rfl,tup (.int _ _ _) (.ifc _ _ _),hb⟩
 ·obtain⟨te,pe,hc⟩:=gl_ifc hg (g:=2) (by unfold gtab;rfl)
  refine(Tryz.strconv_Atoi_range ⟨s.toArray⟩ (by rw[hsz];omega) (by simpa using hA) _ w hc (.inr ⟨te,pe,rfl⟩)).mono ?_
  rintro e w' ⟨N,rfl,_,_,hb⟩
  exact⟨_,rfl,tup (.int _ _ _) (.ifc _ _ _),hb⟩
end Go.Av.F
end
section
namespace Go.Av.F
open Go Go.Av Go.Proofs Go.Proofs.Tryz
def cut1 (c:UInt8) (s:List UInt8):List UInt8×List UInt8×Bool:=if findB c s 0<0 then (s,[],false) else (s.take (findB c s 0).toNat,s.drop ((findB c s 0).toNat+1),true)
theorem slCutC (s:List UInt8) (c:UInt8) (hs:s.length≤1048576):CV prog 305 [.str s,.str [c]] (.tup [.str (cut1 c s).1,.str (cut1 c s).2.1,.bool (cut1 c s).2.2]):=by
 obtain⟨R,hR⟩:∃ R,cut1 c s=R:=⟨_,rfl⟩
 rw[hR]
 unfold cut1 at hR
 have hlt:=findB_lt c s 0 (by omega)
 have hge:=findB_ge c s 0 (by omega)
 have fc:=idxSlC s c
 generalize findB c s 0=k at *
 refine cvx func305 [] ntmps305 rfl rfl rfl ?_
 simp -implicitDefEqProofs
 refine fc.call ?_
 by_cases h:k<0
 ·rw[if_pos h]at hR
  have h':¬ 0≤k:=by omega
  simp -implicitDefEqProofs [h',← hR]
 ·rw[if_neg h]at hR
  have h':0≤k:=by omega
  have e1:=i64w (k+1) (by omega) (by omega)
  have d1:(k+1).toNat=k.toNat+1:=by omega
  have d2:List.take (s.length-(k.toNat+1)) (List.drop (k.toNat+1) s)=List.drop (k.toNat+1) s:=List.take_of_length_le (by simp)
  simp -implicitDefEqProofs [h',e1,d1,d2,← hR]
  repeat' first | with_reducible refine And.intro ?_ ?_ | omega
theorem cutC (s:List UInt8) (c:UInt8) (hs:s.length≤1048576):CV prog 228 [.str s,.str [c]] (.tup [.str (cut1 c s).1,.str (cut1 c s).2.1,.bool (cut1 c s).2.2]):=by
 refine cvx func228 [] ntmps228 rfl rfl rfl ?_
 simp -implicitDefEqProofs
 refine(slCutC s c hs).call ?_
 simp -implicitDefEqProofs
theorem cutR_find (c:UInt8):∀ (s cur:List UInt8),cutR c s cur=if findB c s 0<0 then [cur++s] else (cur++s.take (findB c s 0).toNat)::cutR c (s.drop ((findB c s 0).toNat+1)) []
 | [],cur=>by simp[cutR,findB]
 | x::r,cur=>by
  have ih:=cutR_find c r (cur++[x])
  have h1:=findB_idx c r (0+1)
  have h2:=findB_idx c r 0
  have h3:=idx_ge c r
  simp only[cutR,findB]
  by_cases hx:x=c
  ·simp[hx]
  ·simp only[hx,if_false]
   rw[ih,h1,h2]
   by_cases h:Lib.indexByte r c=-1
   ·simp[h]
   ·have e:(0+1+Lib.indexByte r c).toNat=(0+Lib.indexByte r c).toNat+1:=by omega
    rw[if_neg h,if_neg h,e,if_neg (by omega),if_neg (by omega)]
    simp
theorem count_find (c:UInt8):∀ (s:List UInt8),s.count c=if findB c s 0<0 then 0 else (s.drop ((findB c s 0).toNat+1)).count c+1
 | []=>by simp[findB]
 | x::r=>by
  have ih:=count_find c r
  have h1:=findB_idx c r (0+1)
  have h2:=findB_idx c r 0
  have h3:=idx_ge c r
  simp only[findB]
  by_cases hx:x=c
  ·simp[hx]
  ·have hc:List.count c (x::r)=List.count c r:=List.count_cons_of_ne (fun h=>hx h)
   simp only[hx,if_false]
   rw[hc,ih,h1,h2]
   by_cases h:Lib.indexByte r c=-1
   ·simp[h]
   ·have e:(0+1+Lib.indexByte r c).toNat=(0+Lib.indexByte r c).toNat+1:=by omega
    rw[if_neg h,if_neg h,e,if_neg (by omega),if_neg (by omega)]
    simp
theorem count_len (c:UInt8) (s:List UInt8):s.count c≤s.length:=List.count_le_length
theorem gsplitO (s:List UInt8) (c:UInt8) (hs:s.length≤1048576):ACall prog 295 [.str s,.str [c],.int .i64 0,.int .i64 (-1)] [] (fun r L'=>r=.sl 900 0 (cutR c s []).length∧L'=[(900,⟨1,(cutR c s []).map strR⟩)]):=by
 obtain⟨R,hR⟩:∃ R,cutR c s []=R:=⟨_,rfl⟩
 rw[hR]
 obtain⟨N,hN⟩:∃ N,s.count c=N:=⟨_,rfl⟩
 have hNl:=count_len c s
 have cc:=cntC s c
 rw[hN]at cc hNl
 have e1:=i64w ((N:Int)+1) (by omega) (by omega)
 have e2:=i64w ((s.length:Int)+1) (by omega) (by omega)
 have e3:¬ (s.length:Int)+1<(N:Int)+1:=by omega
 refine acx func295 [] ntmps295 rfl rfl rfl ?_
 simp -implicitDefEqProofs
 refine cc.call ?_
 have e4:((N:Int)+1).toNat=N+1:=by omega
 have e5:(N:Int)+1-1=N:=by omega
 have e6:=i64w (N:Int) (by omega) (by omega)
 simp -implicitDefEqProofs [e1,e2,e3,e4,e5,e6]
 refine⟨⟨by omega,by omega⟩,?_⟩
 refine ev_lo (X:=Nat×List UInt8×List (List UInt8)) [0,1,2,3,9,10] [(31,900)] (fun x=>[(0,.str x.2.1),(9,.sl 900 0 (N+1)),(10,.int .i64 x.1)]) (fun x=>[(900,⟨1,x.2.2.map strR⟩)]) (fun x=>N-x.1)
  (fun x=>x.1≤N∧x.2.2.length=N+1∧x.2.1.count c+x.1=N∧x.2.1.length≤s.length∧x.2.2.take x.1++cutR c x.2.1 []=R) (0,s,List.replicate (N+1) []) ⟨by simp,by simp,by simp[hN],by simp,by simpa using hR⟩ ?_ (he:=by simp[obOf,strR])
 rintro⟨i,t,ps⟩ ⟨hi,hpl,hct,htl,hd⟩
 simp only at hi hpl hct htl hd
 have hcf:=count_find c t
 have hcr:=cutR_find c t []
 have fc:=idxStrC t c
 have hlt:=findB_lt c t 0 (by omega)
 have hge:=findB_ge c t 0 (by omega)
 by_cases h1:i<N
 ·have h1':(i:Int)<N:=by omega
  generalize findB c t 0=k at *
  have hk:¬ k<0:=by
   intro hk
   rw[if_pos hk]at hcf
   omega
  rw[if_neg hk]at hcf hcr
  have w1:=i64w k (by omega) (by omega)
  have w2:=i64w (k+1) (by omega) (by omega)
  have w3:=i64w ((i:Int)+1) (by omega) (by omega)
  have d1:(k+1).toNat=k.toNat+1:=by omega
  have d2:List.take (t.length-(k.toNat+1)) (List.drop (k.toNat+1) t)=List.drop (k.toNat+1) t:=List.take_of_length_le (by simp)
  simp -implicitDefEqProofs [h1']
  refine fc.call ?_
  simp -implicitDefEqProofs [h1',hk,w1,w2,w3,d1,d2,hpl]
  refine⟨⟨by omega,by omega⟩,by omega,by omega,⟨by omega,by omega⟩,?_⟩
  refine nx (i+1,t.drop (k.toNat+1),ps.set i (t.take k.toNat)) [(900,900)] ⟨by simp only;omega,by simp only[List.length_set];omega,by simp only;omega,by simp only[List.length_drop];omega,?_⟩ (by simp only;omega) (h4:=?_)
  ·show List.take (i+1) (ps.set i (List.take k.toNat t))++cutR c (List.drop (k.toNat+1) t) []=R
   rw[takeS (x:=t.take k.toNat) (by rw[List.getElem?_set_self (by omega)]),List.take_set,List.set_eq_of_length_le (by simp;omega),List.append_assoc]
   rw[hcr]at hd
   simpa using hd
  ·obtain⟨q,hq⟩:∃ q,ps[i]?=some q:=⟨_,List.getElem?_eq_getElem (by omega)⟩
   simp[obOf,w3,List.map_set,strR,renL_strR,hq]
 ·have:i=N:=by omega
  subst this
  have h1':¬ (i:Int)<i:=by omega
  simp -implicitDefEqProofs [hpl]
  have hk:findB c t 0<0:=by
   rcases hge with h | h
   ·omega
   ·rw[if_neg (by omega)]at hcf
    omega
  rw[if_pos hk]at hcr
  rw[hcr]at hd
  have hps:ps.set i t=R:=by
   rw[← hd]
   have h2:ps.set i t=(ps.set i t).take (i+1):=(List.take_of_length_le (by simp[hpl])).symm
   rw[h2,takeS (x:=t) (by simp[hpl]),List.take_set,List.set_eq_of_length_le (by simp;omega)]
   simp
  refine⟨by omega,⟨by omega,by omega⟩,?_,?_⟩
  ·rw[← hps,List.map_set]
   simp[strR]
  ·rw[e1,← hps]
   simp[hpl]
theorem gsplitC (s:List UInt8) (c:UInt8) (hs:s.length≤1048576):CV prog 295 [.str s,.str [c],.int .i64 0,.int .i64 (-1)] (.lst 1 ((cutR c s []).map strR)):=by
 refine CV.of_frz (gsplitO s c hs) (fun r L' hR=>?_)
 obtain⟨rfl,rfl⟩:=hR
 refine⟨by simp,by simp,?_,?_⟩
 ·simp[clR,strR,clL,clA]
 ·simp[frzAll,List.take_of_length_le]
  exact qbw _
theorem splitC (s:List UInt8) (c:UInt8) (hs:s.length≤1048576):CV prog 211 [.str s,.str [c]] (.lst 1 ((cutR c s []).map strR)):=by
 refine cvx func211 [] ntmps211 rfl rfl rfl ?_
 simp -implicitDefEqProofs
 refine(gsplitC s c hs).call ?_
 simp -implicitDefEqProofs
theorem ddig_dec:∀ (k:Nat) (out:List UInt8),ddig k out=Lib.decDigits k++out:=by
 intro k
 induction k using Nat.strongRecOn with
 | ind k ih =>
  intro out
  rw[ddig,Lib.decDigits]
  by_cases h:k<10
  ·rw[dif_pos (by omega),dif_pos h]
   rfl
  ·rw[dif_neg (by omega),dif_neg h,ih _ (by omega)]
   simp
theorem itoa_nat (k:Nat):Lib.itoa (k:Int)=ddig k []:=by
 unfold Lib.itoa
 rw[if_neg (by omega),ddig_dec]
 simp
theorem isealC (s:List UInt8) (hs:s.length≤maxLen):CV prog 278 [.str s] (.str (sealB s)):=by
 obtain⟨R,hR⟩:∃ R,sealB s=R:=⟨_,rfl⟩
 rw[hR]
 have hml:maxLen=9223372036854775807:=rfl
 have hlt:=sumB_lt s (1+s.length % 997) (by omega)
 have sc:=isumC s hs
 refine cvx func278 [] ntmps278 rfl rfl rfl ?_
 unfold sealB at hR
 by_cases h:400<s.length
 ·rw[if_pos h]at hR
  have h':(400:Int)<s.length:=by omega
  simp -implicitDefEqProofs [h',← hR]
 ·rw[if_neg h]at hR
  have h':¬ (400:Int)<s.length:=by omega
  simp -implicitDefEqProofs [h']
  refine sc.call ?_
  generalize sumB s (1+s.length % 997)=n at *
  have hl:=ddig_len n []
  simp only[List.length_nil]at hl
  simp -implicitDefEqProofs
  refine(itoaC (n:Int) (by omega) (by omega)).call ?_
  rw[itoa_nat]
  simp -implicitDefEqProofs [← hR]
  omega
theorem cut1_open (s:List UInt8):openB s=if (cut1 58 s).2.2=true∧sealB (cut1 58 s).2.1=s then ((cut1 58 s).2.1,true) else ([],false):=by
 unfold openB cut1
 by_cases h:findB 58 s 0<0
 ·simp[h]
 ·simp[h]
theorem cut1_len (c:UInt8) (s:List UInt8):(cut1 c s).1.length≤s.length∧(cut1 c s).2.1.length≤s.length:=by
 unfold cut1
 split <;> simp
 omega
theorem iopenC (s:List UInt8) (hs:s.length≤1048576):CV prog 227 [.str s] (.tup [.str (openB s).1,.bool (openB s).2]):=by
 obtain⟨R,hR⟩:∃ R,openB s=R:=⟨_,rfl⟩
 rw[hR]
 have hml:maxLen=9223372036854775807:=rfl
 rw[cut1_open]at hR
 have cc:=cutC s 58 hs
 have cl:=cut1_len 58 s
 generalize cut1 58 s=k at *
 obtain⟨k1,k2,k3⟩:=k
 simp only at cc cl hR
 refine cvx func227 [] ntmps227 rfl rfl rfl ?_
 simp -implicitDefEqProofs
 refine cc.call ?_
 cases k3 with
 | false=>simp -implicitDefEqProofs [← hR]
 | true =>
  simp -implicitDefEqProofs
  refine(isealC k2 (by omega)).call ?_
  by_cases h2:sealB k2=s
  ·simp -implicitDefEqProofs [h2,← hR]
  ·simp -implicitDefEqProofs [h2,← hR]
theorem numB_le:∀ (l:List UInt8) (n m:Nat),numB n l=some m→n * 10 ^ l.length≤m
 | [],n,m,h=>by
  simp only[numB,Option.some.injEq]at h
  simp[h]
 | x::r,n,m,h=>by
  unfold numB at h
  split at h
  ·cases h
  ·have:=numB_le r _ m h
   refine Nat.le_trans ?_ this
   rw[List.length_cons,Nat.pow_succ,Nat.mul_comm (10 ^ r.length),← Nat.mul_assoc]
   exact Nat.mul_le_mul_right _ (by omega)
theorem numB_app:∀ (a b:List UInt8) (n:Nat),numB n (a++b)=(numB n a).bind fun m=>numB m b
 | [],b,n=>rfl
 | x::r,b,n=>by
  simp only[List.cons_append,numB]
  split
  ·rfl
  ·exact numB_app r b _
theorem u8_dig {d:Nat} (h:d<10):(UInt8.ofNat (48+d)).toNat=48+d:=by
 simp only[UInt8.toNat_ofNat']
 exact Nat.mod_eq_of_lt (by omega)
theorem dig_u8 {x:UInt8} (h1:48≤x.toNat):UInt8.ofNat (48+(x.toNat-48))=x:=by
 rw[show 48+(x.toNat-48)=x.toNat by omega]
 simp
theorem numB_one {n d:Nat} (h:d<10):numB n [UInt8.ofNat (48+d)]=some (n * 10+d):=by
 unfold numB
 rw[u8_dig h,if_neg (by omega)]
 simp[numB]
theorem numB_dec:∀ n,numB 0 (Lib.decDigits n)=some n:=by
 intro n
 induction n using Nat.strongRecOn with
 | ind n ih =>
  rw[Lib.decDigits]
  by_cases h:n<10
  ·rw[dif_pos h,numB_one h]
   simp
  ·rw[dif_neg h,numB_app,ih _ (by omega)]
   simp only[Option.bind_some]
   rw[numB_one (by omega)]
   congr 1
   omega
theorem dec_app {n d:Nat} (hn:1≤n) (hd:d<10):Lib.decDigits (n * 10+d)=Lib.decDigits n++[UInt8.ofNat (48+d)]:=by
 rw[Lib.decDigits,dif_neg (by omega),show(n * 10+d) / 10=n by omega,show(n * 10+d) % 10=d by omega]
theorem dec_numB:∀ (l:List UInt8) (n m:Nat),1≤n→numB n l=some m→Lib.decDigits m=Lib.decDigits n++l
 | [],n,m,hn,h=>by
  simp only[numB,Option.some.injEq]at h
  simp[h]
 | x::r,n,m,hn,h=>by
  unfold numB at h
  split at h
  ·cases h
  ·rename_i hx
   rw[dec_numB r _ m (by omega) h,dec_app hn (by omega),dig_u8 (by omega)]
   simp
theorem dec_of_numB {t:List UInt8} {m:Nat} (h0:t≠[]) (hz:t.head?=some 48→t.length≤1) (h:numB 0 t=some m):Lib.decDigits m=t:=by
 cases t with
 | nil=>exact absurd rfl h0
 | cons x r =>
  unfold numB at h
  split at h
  ·cases h
  ·rename_i hx
   have hxd:=dig_u8 (x:=x) (by omega)
   by_cases hx0:x=48
   ·have:=hz (by simp[hx0])
    have hr:r=[]:=List.eq_nil_of_length_eq_zero (by simpa using this)
    subst hr
    simp only[numB,Option.some.injEq]at h
    rw[← h,Lib.decDigits,dif_pos (by omega)]
    simpa using hxd
   ·have hx1:x.toNat≠48:=fun h=>hx0 (UInt8.toNat_inj.1 h)
    rw[dec_numB r _ m (by omega) h]
    have:Lib.decDigits (0 * 10+(x.toNat-48))=[x]:=by
     rw[Lib.decDigits,dif_pos (by omega)]
     simpa using hxd
    rw[this]
    rfl
theorem snum_itoa {t:List UInt8} {n:Int} (h:snumB t=(n,true)):Lib.itoa n=t∧n.natAbs<10 ^ 17:=by
 have lt17:∀ (l:List UInt8) (k m:Nat),numB k l=some m→m<(k+1) * 10 ^ l.length:=by
  intro l
  induction l with
  | nil=>intro k m h;simp only[numB,Option.some.injEq]at h;simp;omega
  | cons x r ih =>
   intro k m h
   unfold numB at h
   split at h
   ·cases h
   ·have:=ih _ _ h
    refine Nat.lt_of_lt_of_le this ?_
    rw[List.length_cons,Nat.pow_succ,Nat.mul_comm (10 ^ r.length),← Nat.mul_assoc]
    exact Nat.mul_le_mul_right _ (by omega)
 have key:∀ (neg:Bool) (s:List UInt8),numT neg s=(n,true)→∃ m,Lib.decDigits m=s∧n=(if neg=true then -(m:Int) else m)∧m<10 ^ 17∧(neg=true→1≤m):=by
  intro neg s hs
  unfold numT at hs
  split at hs
  ·cases hs
  ·rename_i hc
   simp only[not_or,not_and]at hc
   split at hs
   ·cases hs
   ·rename_i m hm
    injection hs with h1 _
    have hz:s.head?=some 48→s.length≤1:=fun hh=>by have:=(hc.2.2 hh).1;omega
    refine⟨m,dec_of_numB (by intro h;simp[h]at hc) hz hm,h1.symm,?_,fun hn=>?_⟩
    ·have:=lt17 s 0 m hm
     have h2:(10:Nat) ^ s.length≤10 ^ 17:=Nat.pow_le_pow_right (by omega) (by omega)
     omega
    ·cases s with
     | nil=>simp at hc
     | cons x r =>
      have hx:x≠48:=fun h=>by have:=(hc.2.2 (by simp[h])).2;exact this hn
      have hx1:x.toNat≠48:=fun h=>hx (UInt8.toNat_inj.1 h)
      unfold numB at hm
      split at hm
      ·cases hm
      ·have:=numB_le r _ m hm
       have:1 * 1≤(0 * 10+(x.toNat-48)) * 10 ^ r.length:=Nat.mul_le_mul (by omega) (Nat.pow_pos (by omega))
       omega
 unfold snumB at h
 split at h
 ·rename_i hh
  obtain⟨m,h1,h2,h3,h4⟩:=key true _ h
  have h4:=h4 rfl
  simp only[if_true]at h2
  subst h2
  cases t with
  | nil=>simp at hh
  | cons x r =>
   simp only[List.head?_cons,Option.some.injEq]at hh
   subst hh
   refine⟨?_,by omega⟩
   unfold Lib.itoa
   rw[if_pos (by omega),show(-(m:Int)).natAbs=m by omega,h1]
   rfl
 ·obtain⟨m,h1,h2,h3,_⟩:=key false _ h
  simp only[Bool.false_eq_true,if_false]at h2
  subst h2
  refine⟨?_,by omega⟩
  unfold Lib.itoa
  rw[if_neg (by omega)]
  simpa using h1
theorem dec_ne (n:Nat):Lib.decDigits n≠[]:=by
 rw[Lib.decDigits]
 split <;> simp
theorem dec_head (n:Nat):∃ x r,Lib.decDigits n=x::r∧48≤x.toNat∧x.toNat≤57:=by
 induction n using Nat.strongRecOn with
 | ind n ih =>
  rw[Lib.decDigits]
  by_cases h:n<10
  ·rw[dif_pos h]
   exact⟨_,_,rfl,by rw[u8_dig h];omega,by rw[u8_dig h];omega⟩
  ·rw[dif_neg h]
   obtain⟨x,r,h1,h2,h3⟩:=ih (n / 10) (by omega)
   exact⟨x,r++[UInt8.ofNat (48+n % 10)],by rw[h1];rfl,h2,h3⟩
theorem dec_zero (n:Nat) (h:(Lib.decDigits n).head?=some 48):n=0:=by
 induction n using Nat.strongRecOn with
 | ind n ih =>
  rw[Lib.decDigits]at h
  by_cases h9:n<10
  ·rw[dif_pos h9]at h
   simp only[List.head?_cons,Option.some.injEq]at h
   have h2:=u8_dig h9
   rw[h]at h2
   simp at h2
   omega
  ·rw[dif_neg h9]at h
   obtain⟨x,r,h1,_,_⟩:=dec_head (n / 10)
   have:=ih (n / 10) (by omega) (by rw[h1]at h ⊢;simpa using h)
   omega
theorem dec_len (n:Nat):∀ k,n<10 ^ k→1≤k→(Lib.decDigits n).length≤k:=by
 induction n using Nat.strongRecOn with
 | ind n ih =>
  intro k hk h1
  rw[Lib.decDigits]
  by_cases h:n<10
  ·rw[dif_pos h]
   simpa using h1
  ·rw[dif_neg h]
   obtain⟨j,rfl⟩:∃ j,k=j+1:=⟨k-1,by omega⟩
   rw[Nat.pow_succ]at hk
   have hj:1≤j:=by
    rcases Nat.eq_zero_or_pos j with h0 | h0
    ·subst h0;simp at hk;omega
    ·exact h0
   have:=ih (n / 10) (by omega) j (by omega) hj
   simp
   omega
theorem snum_of {n:Int} (h:n.natAbs<10 ^ 17):snumB (Lib.itoa n)=(n,true):=by
 have key:∀ (m:Nat) (neg:Bool),m<10 ^ 17→(neg=true→1≤m)→numT neg (Lib.decDigits m)=(if neg=true then -(m:Int) else m,true):=fun m neg hm hn=>by
  unfold numT
  have h1:=dec_len m 17 hm (by omega)
  have h2:=List.length_pos_iff.2 (dec_ne m)
  rw[if_neg,numB_dec]
  rintro(h | h | ⟨h,h'⟩)
  ·omega
  ·omega
  ·have h0:=dec_zero m h
   subst h0
   rcases h' with h' | h'
   ·rw[Lib.decDigits]at h'
    simp at h'
   ·have:=hn h'
    omega
 unfold Lib.itoa snumB
 by_cases h0:n<0
 ·rw[if_pos h0]
  simp only[List.head?_cons,if_true,List.tail_cons]
  rw[key _ true h (fun _=>by omega)]
  simp
  omega
 ·rw[if_neg h0]
  obtain⟨x,r,h1,h2,h3⟩:=dec_head n.toNat
  have hx:¬ (Lib.decDigits n.toNat).head?=some 45:=by
   rw[h1]
   intro h
   simp only[List.head?_cons,Option.some.injEq]at h
   subst h
   simp at h2
  rw[if_neg hx,key _ false (by omega) (by simp)]
  simp
  omega
theorem parse_numB:∀ (l:List UInt8) (acc m:Nat),numB acc l=some m→m<18446744073709551616→Lib.parseUint10 acc l=.ok m
 | [],acc,m,h,hm=>by
  simp only[numB,Option.some.injEq]at h
  simp[Lib.parseUint10,h]
 | x::r,acc,m,h,hm=>by
  unfold numB at h
  split at h
  ·cases h
  ·rename_i hx
   have h1:=numB_le r _ m h
   have h2:(acc * 10+(x.toNat-48)) * 1≤(acc * 10+(x.toNat-48)) * 10 ^ r.length:=Nat.mul_le_mul_left _ (Nat.pow_pos (by omega))
   have h3:=parse_numB r _ m h hm
   simp only[Lib.parseUint10]
   rw[if_pos (by omega),if_neg (by omega),if_neg (by omega),h3]
theorem atoi_itoa (n:Int) (h0:-9223372036854775808≤n) (h1:n≤9223372036854775807):Lib.atoiAll (Lib.itoa n)=.ok n:=by
 unfold Lib.itoa
 by_cases h:n<0
 ·rw[if_pos h]
  simp only[Lib.atoiAll,Lib.parseMag]
  have h45:(45:UInt8).toNat=45:=rfl
  simp only[h45,or_true,if_true,dec_ne,if_false]
  rw[parse_numB _ _ _ (numB_dec _) (by omega)]
  simp
  rw[if_neg (by omega)]
  congr 1
  omega
 ·rw[if_neg h]
  obtain⟨x,r,e1,h2,h3⟩:=dec_head n.toNat
  have e2:=parse_numB _ _ _ (numB_dec n.toNat) (by omega)
  rw[e1]at e2 ⊢
  have n1:¬ (x.toNat=43∨x.toNat=45):=by omega
  have n2:¬ x.toNat=45:=by omega
  have n3:¬ x.toNat=43:=by omega
  have n4:¬ 9223372036854775808≤n.toNat:=by omega
  simp[Lib.atoiAll,Lib.parseMag,n1,n2,n3,n4,e2]
  omega
def canB (t:List UInt8):Bool:=atoiK t && decide (Lib.itoa (atoiV t)=t)
theorem can_of {n:Int} (h0:-9223372036854775808≤n) (h1:n≤9223372036854775807):canB (Lib.itoa n)=true∧atoiV (Lib.itoa n)=n:=by
 have a:=atoi_itoa n h0 h1
 unfold canB atoiK atoiV
 rw[a]
 simp
theorem can_snum (t:List UInt8):(canB t=true∧(atoiV t).natAbs<10 ^ 17)↔(snumB t).2=true:=by
 constructor
 ·rintro⟨h1,h2⟩
  simp only[canB,Bool.and_eq_true,decide_eq_true_eq]at h1
  have:=snum_of h2
  rw[h1.2]at this
  rw[this]
 ·intro h
  have h2:snumB t=((snumB t).1,true):=by rw[← h]
  obtain⟨h3,h4⟩:=snum_itoa h2
  obtain⟨h5,h6⟩:=can_of (n:=(snumB t).1) (by omega) (by omega)
  rw[h3]at h5 h6
  exact⟨h5,by rw[h6];exact h4⟩
theorem can_val {t:List UInt8} (h:(snumB t).2=true):atoiV t=(snumB t).1:=by
 have h2:snumB t=((snumB t).1,true):=by rw[← h]
 obtain⟨h3,h4⟩:=snum_itoa h2
 obtain⟨_,h6⟩:=can_of (n:=(snumB t).1) (by omega) (by omega)
 rw[h3]at h6
 exact h6
theorem iunhC (s:List UInt8) (hs:s.length≤1048576):CV prog 230 [.str s] (.tup [.str (unhB s []).1,.bool (unhB s []).2]):=by
 obtain⟨R,hR⟩:∃ R,unhB s []=R:=⟨_,rfl⟩
 rw[hR]
 have hml:maxLen=9223372036854775807:=rfl
 have t1:(s.length:Int).tmod 2=(s.length:Int) % 2:=Int.tmod_eq_emod_of_nonneg (by omega)
 refine cvx func230 [(7,[zI 0,zI 1,zI 2,zI 4,zI 5,zI 6,zI 7,zI 3,zI 8,zI 9,zI 10])] ntmps230 rfl rfl rfl ?_
 by_cases hodd:s.length % 2=0
 ·have h1:(s.length:Int) % 2=0:=by omega
  simp -implicitDefEqProofs [t1,h1]
  refine ev_sw (sw_ph 4 1 (by simp) (by simp)) ?_
  refine ev_lo (X:=Nat×List UInt8) [0,4,5] [(4,900)] (fun x=>[(5,.int .i64 x.1),(4,.sl 900 0 x.2.length)]) (fun x=>[(900,⟨1,x.2.map u8row⟩)]) (fun x=>s.length-x.1) (fun x=>x.1≤s.length∧x.1 % 2=0∧x.2.length≤x.1∧unhB (s.drop x.1) x.2=R) (0,[]) (by simp[hR]) ?_ (he:=by simp[obOf])
  rintro⟨i,out⟩ ⟨hi,hev,hol,hd⟩
  simp only at hi hev hol hd
  by_cases h2:i<s.length
  ·obtain⟨a,f1⟩:∃ a,s[i]?=some a:=⟨_,List.getElem?_eq_getElem (by omega)⟩
   obtain⟨b,f2⟩:∃ b,s[i+1]?=some b:=⟨_,List.getElem?_eq_getElem (by omega)⟩
   rw[dropAt f1,dropAt f2,unhB]at hd
   have h3:i+1<s.length:=by omega
   have g1:s[i]=a:=(List.getElem?_eq_some_iff.1 f1).2
   have g2:s[i+1]=b:=(List.getElem?_eq_some_iff.1 f2).2
   have c1:=idxByteC hexL a
   have c2:=idxByteC hexL b
   have b1:=hex16 a
   have b2:=hex16 b
   obtain⟨p,hp⟩:∃ p,findB a hexL 0=p:=⟨_,rfl⟩
   obtain⟨q,hq⟩:∃ q,findB b hexL 0=q:=⟨_,rfl⟩
   rw[hp]at c1 b1 hd
   rw[hq]at c2 b2 hd
   simp only[hexL]at c1 c2
   have e1:=i64w ((i:Int)+1) (by omega) (by omega)
   have e2:=i64w ((i:Int)+2) (by omega) (by omega)
   have e3:((i:Int)+1).toNat=i+1:=by omega
   simp -implicitDefEqProofs [h2,h3,f1,g1,f2,g2,e1,e3]
   refine⟨by omega,?_⟩
   refine c1.call ?_
   simp -implicitDefEqProofs [h2,h3,f1,g1,f2,g2,e1,e3]
   refine c2.call ?_
   by_cases hpn:p<0
   ·rw[if_pos (.inl hpn)]at hd
    simp -implicitDefEqProofs [hpn,← hd]
   ·by_cases hqn:q<0
    ·rw[if_pos (.inr hqn)]at hd
     simp -implicitDefEqProofs [hpn,hqn,← hd]
    ·rw[if_neg (by omega)]at hd
     have w1:=i64w (16 * p) (by omega) (by omega)
     have w2:=i64w (16 * p+q) (by omega) (by omega)
     have w3:IntKind.u8.wrap (16 * p+q)=16 * p+q:=by
      show(16 * p+q) % 256=_
      omega
     simp -implicitDefEqProofs [hpn,hqn,w1,w2,w3]
     refine⟨by omega,?_⟩
     have hu:u8row (UInt8.ofNat (p * 16+q).toNat)=[.int .u8 (16 * p+q)]:=by
      show [AV.int .u8 (((UInt8.ofNat (p * 16+q).toNat).toNat:Nat):Int)]=_
      simp only[UInt8.toNat_ofNat']
      have:(p * 16+q).toNat % 2 ^ 8=(p * 16+q).toNat:=Nat.mod_eq_of_lt (by omega)
      rw[this]
      have:(((p * 16+q).toNat:Nat):Int)=16 * p+q:=by omega
      rw[this]
     refine nx (i+2,out++[UInt8.ofNat (p * 16+q).toNat]) [(40,900)] ⟨by simp only;omega,by simp only;omega,by simp;omega,hd⟩ (by simp only;omega) (h4:=?_)
     simp[obOf,e2,hu,List.take_of_length_le,renL_u8c]
  ·have:i=s.length:=by omega
   subst this
   rw[List.drop_eq_nil_of_le (by omega),unhB]at hd
   simp -implicitDefEqProofs [byteOf_u8,List.take_of_length_le]
   exact⟨fun _ _=>rfl,by rw[← hd],by rw[← hd]⟩
 ·have h1:(s.length:Int) % 2=1:=by omega
  have ho:∀ (n:Nat) (l o:List UInt8),l.length=2 * n+1→unhB l o=([],false):=by
   intro n
   induction n with
   | zero =>
    intro l o hl
    match l,hl with
    | [x],_=>rfl
   | succ n ih =>
    intro l o hl
    match l,hl with
    | a::b::r,hl =>
     unfold unhB
     split
     ·rfl
     ·exact ih r _ (by simp at hl;omega)
  have:=ho (s.length / 2) s [] (by omega)
  rw[this]at hR
  simp -implicitDefEqProofs [t1,h1,← hR]
def digB (n:Nat):UInt8:=hexL.getD n 0
theorem sdigC (n:Nat) (h:n<16):CV prog 326 [.int .i64 n] (.int .u8 (digB n).toNat):=by
 refine cvx func326 [] ntmps326 rfl rfl rfl ?_
 have hn:(n:Int)<16:=by omega
 have h0:n<hexL.length:=by simpa [hexL]using h
 have e:hexL[n]'h0=digB n:=by simp[digB,List.getD,h0]
 simp only[hexL]at h0 e
 simp -implicitDefEqProofs [hn,h0,h,e]
 try omega
def hexB:List UInt8→List UInt8
 | []=>[]
 | c::r=>digB (c.toNat / 16)::digB (c.toNat % 16)::hexB r
theorem hexB_len:∀ s,(hexB s).length=2 * s.length
 | []=>rfl
 | c::r=>by simp[hexB,hexB_len r];omega
theorem shexC (s:List UInt8) (hs:s.length≤1048576):CV prog 267 [.str s] (.str (hexB s)):=by
 obtain⟨R,hR⟩:∃ R,hexB s=R:=⟨_,rfl⟩
 rw[hR]
 refine cvx func267 [(5,[zI 0,zI 1,zI 2,zI 3,zI 4,zI 5,zI 7,zI 8,zI 9,zI 10,zI 11,zI 6,zI 12,zI 13,zI 14,zI 15])] ntmps267 rfl rfl rfl ?_
 simp -implicitDefEqProofs
 refine ev_lo (X:=Nat×List UInt8) [0,3,4] [(5,900)] (fun x=>[(4,.int .i64 x.1),(3,.sl 900 0 x.2.length)]) (fun x=>[(900,⟨1,x.2.map u8row⟩)]) (fun x=>s.length-x.1) (fun x=>x.1≤s.length∧x.2.length=2 * x.1∧x.2++hexB (s.drop x.1)=R) (0,[]) (by simp[hR]) ?_ (he:=by simp[obOf])
 rintro⟨i,out⟩ ⟨hi,hol,hd⟩
 simp only at hi hol hd
 cases hr:s.drop i with
 | nil =>
  have:=dropn hr
  rw[hr,hexB]at hd
  have hie:i=s.length:=by omega
  subst hie
  simp only[List.append_nil]at hd
  simp -implicitDefEqProofs [byteOf_u8,List.take_of_length_le,hd]
  exact fun x _=>rfl
 | cons x r =>
  obtain⟨h1,e0,e1,h3⟩:=dropc hr
  rw[hr,hexB]at hd
  have e2:=i64w ((i:Int)+1) (by omega) (by omega)
  have hx:=x.toNat_lt
  have w1:=i64w (x.toNat:Int) (by omega) (by omega)
  have q1:((x.toNat:Int)).tdiv 16=(x.toNat:Int) / 16:=Int.tdiv_eq_ediv_of_nonneg (by omega)
  have q2:((x.toNat:Int)).tmod 16=(x.toNat:Int) % 16:=Int.tmod_eq_emod_of_nonneg (by omega)
  have w2:=i64w ((x.toNat:Int) / 16) (by omega) (by omega)
  have c1:=sdigC (x.toNat / 16) (by omega)
  have c2:=sdigC (x.toNat % 16) (by omega)
  rw[show((x.toNat / 16:Nat):Int)=(x.toNat:Int) / 16 by omega]at c1
  rw[show((x.toNat % 16:Nat):Int)=(x.toNat:Int) % 16 by omega]at c2
  simp -implicitDefEqProofs [h1,e0,e1,w1,q1,q2,w2]
  refine c1.call ?_
  simp -implicitDefEqProofs [h1,e0,e1,w1,q1,q2,w2]
  refine c2.call ?_
  simp -implicitDefEqProofs
  refine⟨by omega,?_⟩
  refine nx (i+1,out++[digB (x.toNat / 16),digB (x.toNat % 16)]) [(26,900)] ⟨by simp only;omega,by simp;omega,by simp only[h3];simpa using hd⟩ (by simp only;omega) (h4:=?_)
  simp[obOf,e2,List.take_of_length_le,renL_u8c,u8row]
  try trace_state
structure LT where
 ls:Int
 la:Int
 lx:List UInt8
deriving DecidableEq,Inhabited
def LT.row (w:LT):List AV:=[.int .i64 w.ls,.int .i64 w.la,.str w.lx]
structure DK where
 s0:List (List UInt8)
 s1:List (List UInt8)
 late:List LT
deriving DecidableEq,Inhabited
def DK.row (d:DK):List AV:=[.lst 1 (d.s0.map qai),.lst 1 (d.s1.map qai),.lst 3 (d.late.map LT.row)]
def ltOb (l:List LT):Ob:=⟨3,l.map LT.row⟩
structure DkT (d:DK):Prop where
 l0:d.s0.length≤1048576
 l1:d.s1.length≤1048576
 l2:d.late.length≤1048576
 t0:∀ x∈d.s0,x.length≤1048576
 t1:∀ x∈d.s1,x.length≤1048576
 t2:∀ w∈d.late,w.lx.length≤1048576
def qbt (d:DK) (side at':Int) (text:List UInt8):Bool:=decide (0≤side) && decide (side≤1) && decide (0≤at') && decide (at'<d.s0.length) && decide (text.length≤420)
theorem sThereC (d:DK) (h:DkT d) (side at':Int) (text:List UInt8) (ht:text.length≤1048576):CV prog 143 [.agg d.row,.int .i64 side,.int .i64 at',.str text] (.bool (qbt d side at' text)):=by
 have:=h.l0
 refine cvx func143 [] ntmps143 rfl rfl rfl ?_ (hca:=by simp[DK.row])
 simp -implicitDefEqProofs [DK.row,qbt]
 grind
def dOkB (d:DK):Bool:=decide (1≤d.s0.length) && decide (d.s0.length≤120) && decide (d.s1.length=d.s0.length) && decide (d.late.length≤600) &&
 d.s0.all (fun x=>decide (x.length≤420)) && d.s1.all (fun x=>decide (x.length≤420)) && d.late.all (fun w=>qbt d w.ls w.la w.lx)
theorem sDiskOkC (d:DK) (h:DkT d):CV prog 68 [.agg d.row] (.bool (dOkB d)):=by
 obtain⟨R,hR⟩:∃ R,dOkB d=R:=⟨_,rfl⟩
 rw[hR]
 have h0:=h.l0
 have h1:=h.l1
 have h2:=h.l2
 refine cvx func68 [(12,[zJ 0 [1] [],zJ 1 [] [1],zJ 2 [1] [1],zJ 3 [] [1],zJ 4 [] [1],zJ 5 [] [1],zJ 6 [] [1],zJ 7 [] [1],zJ 8 [1] [1],zJ 9 [] [1],zJ 10 [] [1],zJ 11 [] [1],zJ 12 [] [1],zJ 13 [] [1],zJ 14 [1] [1],zJ 15 [] [1],zJ 16 [] [1],zJ 17 [] [1],zJ 18 [] [1],zI 19,zI 20])] ntmps68 rfl rfl rfl ?_ (hca:=by simp[DK.row])
 by_cases g:1≤d.s0.length∧d.s0.length≤120∧d.s1.length=d.s0.length∧d.late.length≤600
 rotate_left
 ·have:R=false:=by rw[← hR];unfold dOkB;grind
  subst this
  simp -implicitDefEqProofs [DK.row]
  grind
 obtain⟨g1,g2,g3,g4⟩:=g
 have g1':¬ (d.s0.length:Int)<1:=by omega
 have g2':¬ 120<(d.s0.length:Int):=by omega
 have g4':¬ 600<(d.late.length:Int):=by omega
 simp -implicitDefEqProofs [DK.row,g1',g2',g3,g4']
 refine ev_lp (X:=Nat) [1,2,3,4] [(1,1)] (fun i=>[(4,.int .i64 i)]) (fun _=>[]) (fun i=>d.s0.length-i) (fun i=>i≤d.s0.length∧((d.s0.drop i).all (fun x=>decide (x.length≤420)) && (d.s1.drop i).all (fun x=>decide (x.length≤420)) && d.late.all (fun w=>qbt d w.ls w.la w.lx))=R) 0 (by simp[← hR,dOkB,g1,g2,g3,g4]) ?_ (he:=by simp[obOf])
 rintro i ⟨hi,hd⟩
 by_cases hlt:i<d.s0.length
 ·have hlt1:i<d.s1.length:=by omega
  have k0:=List.drop_eq_getElem_cons hlt
  have k1:=List.drop_eq_getElem_cons hlt1
  generalize ex:d.s0[i]=x at *
  generalize ey:d.s1[i]=y at *
  have hx:=List.getElem?_eq_some_iff.2 ⟨hlt,ex⟩
  have hy:=List.getElem?_eq_some_iff.2 ⟨hlt1,ey⟩
  rw[k0,k1]at hd
  simp only[List.all_cons]at hd
  have hli:(i:Int)<d.s0.length:=by omega
  have e2:=i64w ((i:Int)+1) (by omega) (by omega)
  simp -implicitDefEqProofs [obOf,qai,hlt,hlt1,ex,ey,hx,hy,hli,e2,g3]
  repeat' first
   | with_reducible refine And.intro ?_ ?_
   | with_reducible intro _
  all_goals first
   | exact nx (i+1) [(1,1)] (by grind) (h4:=by simp[obOf])
   | grind
 ·have hie:i=d.s0.length:=by omega
  subst hie
  rw[List.drop_of_length_le (Nat.le_refl _),List.drop_of_length_le (by omega)]at hd
  simp only[List.all_nil,Bool.true_and]at hd
  simp -implicitDefEqProofs [obOf]
  refine ev_lp (X:=Nat) [1,2,3,5] [(1,1)] (fun i=>[(5,.int .i64 i)]) (fun _=>[]) (fun i=>d.late.length-i) (fun i=>i≤d.late.length∧((d.late.drop i).all (fun w=>qbt d w.ls w.la w.lx))=R) 0 (by simp[hd]) ?_ (he:=by simp[obOf])
  rintro i ⟨hi,hd⟩
  cases hr:d.late.drop i with
  | nil =>
   have:=dropn hr
   rw[hr]at hd
   have hie:i=d.late.length:=by omega
   subst hie
   simp -implicitDefEqProofs [obOf]
   simpa using hd
  | cons w q =>
   obtain⟨k1,e0,e1,k3⟩:=dropc hr
   rw[hr]at hd
   simp only[List.all_cons]at hd
   have hli:(i:Int)<d.late.length:=by omega
   have e2:=i64w ((i:Int)+1) (by omega) (by omega)
   have hw:=h.t2 w (List.mem_of_getElem? e1)
   have c:=sThereC d h w.ls w.la w.lx hw
   simp only[DK.row]at c
   simp -implicitDefEqProofs [obOf,LT.row,k1,e0,e1,hli,e2]
   refine c.call ?_
   simp -implicitDefEqProofs [e2]
   repeat' first
    | with_reducible refine And.intro ?_ ?_
    | with_reducible intro _
   all_goals first
    | exact nx (i+1) [(1,1)] (by grind) (h4:=by simp[obOf,e2])
    | grind
def lateF (side at':Int) (w:LT):Bool:=decide (w.ls=side) && decide (w.la=at')
def sideL (d:DK) (side:Int):List (List UInt8):=if side=0 then d.s0 else d.s1
def readB (d:DK) (side at':Int):List UInt8:=match d.late.reverse.find? (lateF side at')with
 | some w=>w.lx
 | none=>(sideL d side)[at'.toNat]?.getD []
theorem find_rev {α:Type} (p:α→Bool) {l:List α} {i:Nat} {x:α} (h:l[i]?=some x) (ha:(l.drop (i+1)).all (fun y=>!p y)=true):(if p x=true then l.reverse.find? p=some x else l.reverse.find? p=(l.take i).reverse.find? p):=by
 have e:l=l.take i++x::l.drop (i+1):=by
  obtain⟨h1,rfl⟩:=List.getElem?_eq_some_iff.1 h
  rw[← List.drop_eq_getElem_cons h1,List.take_append_drop]
 have e2:l.reverse=(l.drop (i+1)).reverse++x::(l.take i).reverse:=by
  conv=>lhs;rw[e]
  simp
 have e3:(l.drop (i+1)).reverse.find? p=none:=by
  rw[List.find?_eq_none]
  intro y hy
  rw[List.mem_reverse]at hy
  simpa using List.all_eq_true.1 ha y hy
 rw[e2,List.find?_append,e3,Option.none_or,List.find?_cons]
 cases p x <;> simp
theorem sReadC' (d:DK) (h:DkT d) (side at':Int) (hs:side=0∨side=1) (ha:0≤at'∧at'<d.s0.length) (h1:d.s1.length=d.s0.length):CV prog 191 [.agg d.row,.int .i64 side,.int .i64 at'] (.str (readB d side at')):=by
 obtain⟨R,hR⟩:∃ R,readB d side at'=R:=⟨_,rfl⟩
 rw[hR]
 have h0:=h.l0
 have h2:=h.l2
 refine cvx func191 [] ntmps191 rfl rfl rfl ?_ (hca:=by simp[DK.row])
 have e0:=i64w ((d.late.length:Int)-1) (by omega) (by omega)
 simp -implicitDefEqProofs [DK.row,e0]
 refine ev_lp (X:=Nat) [1,2,3,7] [(3,3)] (fun i=>[(7,.int .i64 ((i:Int)-1))]) (fun _=>[]) (fun i=>i) (fun i=>i≤d.late.length∧(d.late.drop i).all (fun w=>!lateF side at' w)=true) d.late.length (by simp) ?_ (he:=by simp[obOf])
 rintro i ⟨hi,hd⟩
 cases i with
 | zero =>
  have hf:d.late.reverse.find? (lateF side at')=none:=by
   rw[List.find?_eq_none]
   intro y hy
   rw[List.mem_reverse]at hy
   simpa using List.all_eq_true.1 hd y hy
  unfold readB at hR
  rw[hf]at hR
  have ha0:at'.toNat<d.s0.length:=by omega
  have ha1:at'.toNat<d.s1.length:=by omega
  have ha1':at'<d.s1.length:=by omega
  rcases hs with rfl | rfl
  ·have hx:d.s0[at'.toNat]?=some R:=by
    rw[List.getElem?_eq_getElem ha0]
    simpa [sideL,List.getElem?_eq_getElem ha0]using hR
   have hx0:=(List.getElem?_eq_some_iff.1 hx).2
   simp -implicitDefEqProofs [obOf,ha.1,ha.2,ha0,hx,hx0,qai]
  ·have hx:d.s1[at'.toNat]?=some R:=by
    rw[List.getElem?_eq_getElem ha1]
    simpa [sideL,List.getElem?_eq_getElem ha1]using hR
   have hx0:=(List.getElem?_eq_some_iff.1 hx).2
   simp -implicitDefEqProofs [obOf,ha.1,ha1',ha1,hx,hx0,qai]
 | succ k =>
  have hk:k<d.late.length:=by omega
  obtain⟨w,hw⟩:∃ w,d.late[k]?=some w:=⟨_,List.getElem?_eq_getElem hk⟩
  have hw0:=(List.getElem?_eq_some_iff.1 hw).2
  have e1:((k+1:Nat):Int)-1=k:=by omega
  have e2:(0:Int)≤k:=by omega
  have e3:(k:Int)<d.late.length:=by omega
  have e4:=i64w ((k:Int)-1) (by omega) (by omega)
  have hf:=find_rev (lateF side at') hw hd
  have hdk:(d.late.drop k).all (fun w=>!lateF side at' w)=(!lateF side at' w && (d.late.drop (k+1)).all (fun w=>!lateF side at' w)):=by
   rw[List.drop_eq_getElem_cons hk,hw0,List.all_cons]
  have hnx:lateF side at' w=false→∀ x∈d.late.drop k,lateF side at' x=false:=fun hl x hx=>by
   rw[hl,hd]at hdk
   simpa using List.all_eq_true.1 hdk x hx
  have hlx:lateF side at' w=true→w.lx=R:=fun hl=>by
   rw[if_pos hl]at hf
   unfold readB at hR
   rw[hf]at hR
   exact hR
  simp only[e1]
  simp -implicitDefEqProofs [obOf,LT.row,hk,hw,hw0,e2,e3,e4]
  refine⟨fun q1=>⟨fun q2=>hlx (by simp[lateF,q1,q2]),fun q2=>nx k [(3,3)] ⟨by omega,hnx (by simp[lateF,q2])⟩ (h4:=by simp[obOf,e4])⟩,fun q1=>nx k [(3,3)] ⟨by omega,hnx (by simp[lateF,q1])⟩ (h4:=by simp[obOf,e4])⟩
theorem dOk_len {d:DK} (h:dOkB d=true):1≤d.s0.length∧d.s0.length≤120∧d.s1.length=d.s0.length∧d.late.length≤600∧(∀ x∈d.s0,x.length≤420)∧(∀ x∈d.s1,x.length≤420)∧∀ w∈d.late,qbt d w.ls w.la w.lx=true:=by
 simp only[dOkB,Bool.and_eq_true,decide_eq_true_eq,List.all_eq_true]at h
 obtain⟨⟨⟨⟨⟨⟨g1,g2⟩,g3⟩,g4⟩,g5⟩,g6⟩,g7⟩:=h
 exact⟨g1,g2,g3,g4,g5,g6,g7⟩
theorem thereB_iff {d:DK} {side at':Int} {t:List UInt8}:qbt d side at' t=true↔(side=0∨side=1)∧(0≤at'∧at'<d.s0.length)∧t.length≤420:=by
 simp only[qbt,Bool.and_eq_true,decide_eq_true_eq]
 omega
theorem dOk_T {d:DK} (h:dOkB d=true):DkT d:=by
 obtain⟨g1,g2,g3,g4,g5,g6,g7⟩:=dOk_len h
 refine⟨by omega,by omega,by omega,fun x hx=>by have:=g5 x hx;omega,fun x hx=>by have:=g6 x hx;omega,fun w hw=>?_⟩
 have:=(thereB_iff.1 (g7 w hw)).2.2
 omega
theorem readB_len {d:DK} (h:dOkB d=true) (side at':Int):(readB d side at').length≤420:=by
 obtain⟨g1,g2,g3,g4,g5,g6,g7⟩:=dOk_len h
 unfold readB
 split
 ·rename_i w hw
  have:=List.mem_of_find?_eq_some hw
  rw[List.mem_reverse]at this
  exact(thereB_iff.1 (g7 w this)).2.2
 ·unfold sideL
  split
  ·cases e:d.s0[at'.toNat]? with
   | none=>simp
   | some x=>simpa using g5 x (List.mem_of_getElem? e)
  ·cases e:d.s1[at'.toNat]? with
   | none=>simp
   | some x=>simpa using g6 x (List.mem_of_getElem? e)
def qbo (d:DK) (side at':Int):List UInt8×Bool:=if dOkB d && qbt d side at' [] then (readB d side at',true) else ([],false)
theorem sReadC (d:DK) (h:DkT d) (side at':Int):CV prog 188 [.agg d.row,.int .i64 side,.int .i64 at'] (.tup [.str (qbo d side at').1,.bool (qbo d side at').2]):=by
 have c1:=sDiskOkC d h
 have c2:=sThereC d h side at' [] (by simp)
 unfold qbo
 refine cvx func188 [] ntmps188 rfl rfl rfl ?_ (hca:=by simp[DK.row])
 cases g1:dOkB d with
 | false =>
  rw[g1]at c1
  simp only[DK.row]at c1
  simp -implicitDefEqProofs [DK.row]
  refine c1.call ?_
  simp -implicitDefEqProofs
 | true =>
  rw[g1]at c1
  cases g2:qbt d side at' []with
  | false =>
   rw[g2]at c2
   simp only[DK.row]at c1 c2
   simp -implicitDefEqProofs [DK.row]
   refine c1.call ?_
   simp -implicitDefEqProofs
   refine c2.call ?_
   simp -implicitDefEqProofs
  | true =>
   rw[g2]at c2
   obtain⟨k1,k2,k3⟩:=thereB_iff.1 g2
   have c3:=sReadC' d h side at' k1 k2 (dOk_len g1).2.2.1
   simp only[DK.row]at c1 c2 c3
   simp -implicitDefEqProofs [DK.row]
   refine c1.call ?_
   simp -implicitDefEqProofs
   refine c2.call ?_
   simp -implicitDefEqProofs
   refine c3.call ?_
   simp -implicitDefEqProofs
def smB (s:List UInt8):Nat:=sumB s (1+s.length % 997)
theorem sSumC (s:List UInt8) (hs:s.length≤maxLen):CV prog 266 [.str s] (.int .i64 (smB s:Nat)):=ssumC s hs
theorem dReadB_len (d:DK) (side at':Int):(qbo d side at').1.length≤420:=by
 unfold qbo
 split
 ·rename_i h
  simp only[Bool.and_eq_true]at h
  exact readB_len h.1 side at'
 ·simp
def qav (d:DK) (p:PT) (side:Int):Bool:=(qbo d side p.pa).2 && ptOkB p && decide (0<p.pa) && decide ((smB (qbo d side p.pa).1:Int)=p.ps)
theorem sSideC (d:DK) (h:DkT d) (p:PT) (side:Int):CV prog 190 [.agg d.row,.agg p.row,.int .i64 side] (.bool (qav d p side)):=by
 have c1:=sReadC d h side p.pa
 have c2:=sPtrOkC p
 have c3:=sSumC (qbo d side p.pa).1 (by have:=dReadB_len d side p.pa;simp[maxLen];omega)
 unfold qav
 generalize qbo d side p.pa=x at *
 obtain⟨t,ok⟩:=x
 simp only[DK.row,PT.row]at c1 c2 c3
 refine cvx func190 [(2,[zI 0,zI 1,zJ 2 [4] [],zI 3,zI 4,zI 5,zI 6,zJ 7 [4] [],zI 8,zI 9,zI 10,zI 11,zI 13,zJ 14 [4] [],zJ 12 [] [4],zI 15,zI 16,zI 17])] ntmps190 rfl rfl rfl ?_ (hca:=by simp[DK.row,PT.row])
 simp -implicitDefEqProofs [DK.row,PT.row]
 refine c1.call ?_
 cases ok with
 | false=>simp -implicitDefEqProofs
 | true =>
  simp -implicitDefEqProofs
  refine c2.call ?_
  cases ptOkB p with
  | false=>simp -implicitDefEqProofs
  | true =>
   simp -implicitDefEqProofs
   refine⟨fun hp=>?_,fun hp=>by omega⟩
   refine c3.call ?_
   simp -implicitDefEqProofs [hp]
   first | rfl | simp[Bool.eq_iff_iff]
def qad (d:DK) (p:PT):List UInt8×Int :=
 if (ptOkB p && decide (p.pa=0))=true then ([],1) else if qav d p 0=true then (readB d 0 p.pa,0) else if qav d p 1=true then (readB d 1 p.pa,0) else ([],2)
theorem side_read {d:DK} {p:PT} {side:Int} (h:qav d p side=true):dOkB d=true∧ptOkB p=true∧0<p.pa∧qbt d side p.pa []=true∧(smB (readB d side p.pa):Int)=p.ps:=by
 simp only[qav,Bool.and_eq_true,decide_eq_true_eq]at h
 obtain⟨⟨⟨h1,h2⟩,h3⟩,h4⟩:=h
 unfold qbo at h1 h4
 split at h1
 ·rename_i g
  rw[if_pos g]at h4
  simp only[Bool.and_eq_true]at g
  exact⟨g.1,h2,h3,g.2,h4⟩
 ·cases h1
theorem sBlkReadC (d:DK) (h:DkT d) (p:PT):CV prog 106 [.agg d.row,.agg p.row] (.tup [.str (qad d p).1,.int .i64 (qad d p).2]):=by
 obtain⟨R,hR⟩:∃ R,qad d p=R:=⟨_,rfl⟩
 rw[hR]
 unfold qad at hR
 have c2:=sPtrOkC p
 simp only[PT.row]at c2
 refine cvx func106 [] ntmps106 rfl rfl rfl ?_ (hca:=by simp[DK.row,PT.row])
 simp -implicitDefEqProofs [DK.row,PT.row]
 refine c2.call ?_
 by_cases hz:(ptOkB p && decide (p.pa=0))=true
 ·rw[if_pos hz]at hR
  simp only[Bool.and_eq_true,decide_eq_true_eq]at hz
  simp -implicitDefEqProofs [hz.1,hz.2,← hR]
 rw[if_neg hz]at hR
 have hz':¬ (ptOkB p=true∧p.pa=0):=by simpa using hz
 have key:∀ j:Nat,j<2→qav d p j=true→(∀ k:Nat,k<j→qav d p k=false)→R=(readB d j p.pa,0):=fun j hj h1 h2=>by
  rw[← hR]
  rcases(show j=0∨j=1 by omega)with rfl | rfl
  ·have h1':qav d p 0=true:=h1
   simp[h1']
  ·have h2':qav d p 0=false:=h2 0 (by omega)
   have h1':qav d p 1=true:=h1
   simp[h1',h2']
 have key2:qav d p 0=false→qav d p 1=false→R=([],2):=fun h1 h2=>by rw[← hR,h1,h2];simp
 have hcase:ptOkB p=false∨(ptOkB p=true∧¬ p.pa=0):=by
  cases g:ptOkB p with
  | false=>exact .inl rfl
  | true=>exact .inr ⟨rfl,fun e=>hz' ⟨g,e⟩⟩
 rcases hcase with hp | ⟨hp,hpa⟩
 rotate_left
 simp -implicitDefEqProofs [hp,hpa]
 rotate_left
 simp -implicitDefEqProofs [hp]
 all_goals
  refine ev_lp (X:=Nat) [2,3,4,5,6] [(2,2),(3,3)] (fun i=>[(6,.int .i64 i)]) (fun _=>[]) (fun i=>2-i) (fun i=>i≤2∧∀ k:Nat,k<i→qav d p k=false) 0 (by simp) ?_ (he:=by simp[obOf])
  rintro i ⟨hi,hf⟩
  by_cases h2:i=2
  ·subst h2
   have:=key2 (hf 0 (by omega)) (hf 1 (by omega))
   simp -implicitDefEqProofs [obOf,this]
  ·have h2':i<2:=by omega
   have h2i:(i:Int)<2:=by omega
   have e2:=i64w ((i:Int)+1) (by omega) (by omega)
   have c4:=sSideC d h p i
   simp only[DK.row,PT.row]at c4
   simp -implicitDefEqProofs [obOf,h2i]
   refine c4.call ?_
   cases hb:qav d p i with
   | true =>
    have hk:=key i h2' hb hf
    obtain⟨m1,m2,m3,m4,m5⟩:=side_read hb
    obtain⟨n1,n2,n3⟩:=thereB_iff.1 m4
    have c5:=sReadC' d h i p.pa n1 n2 (dOk_len m1).2.2.1
    simp only[DK.row]at c5
    simp -implicitDefEqProofs
    refine c5.call ?_
    simp -implicitDefEqProofs [hk]
   | false =>
    simp -implicitDefEqProofs
    exact nx (i+1) [(2,2),(3,3)] ⟨by omega,fun k hk=>by
     rcases(show k<i∨k=i by omega)with h | rfl
     ·exact hf k h
     ·exact hb⟩ (h4:=by simp[obOf,e2])
@[simp] theorem impA_rfl (r:AV):impA r r=True:=eq_true (qbw r)
theorem qbh {α β:Type} (f:α→β) (l:List α):List.take l.length (List.map f l)=List.map f l:=List.take_of_length_le (by simp)
@[simp] theorem renL_strRow (ρ:Nat→Option Plc):renL ρ ∘ qai=qai:=by funext x;simp[qai]
@[simp] theorem renL_ltRow (ρ:Nat→Option Plc):renL ρ ∘ LT.row=LT.row:=by funext x;simp[LT.row]
@[simp] theorem renOb_strOb (ρ:Nat→Option Plc) (l:List (List UInt8)):renOb ρ (strOb l)=strOb l:=by simp[strOb,renOb]
@[simp] theorem renOb_ltOb (ρ:Nat→Option Plc) (l:List LT):renOb ρ (ltOb l)=ltOb l:=by simp[ltOb,renOb]
def deOb (l:List DE):Ob:=⟨3,l.map DE.row⟩
@[simp] theorem renL_deRow (ρ:Nat→Option Plc):renL ρ ∘ DE.row=DE.row:=by funext x;simp[DE.row]
@[simp] theorem renOb_deOb (ρ:Nat→Option Plc) (l:List DE):renOb ρ (deOb l)=deOb l:=by simp[deOb,renOb]
theorem dr_to {α β:Type} (f:α→β) (l:List α) (k:Nat):((l.map f).drop k).take (l.length-k)=(l.drop k).map f:=by
 rw[List.take_of_length_le (by simp),List.map_drop]
theorem clR_de (l:List DE):clR (deOb l).els=true:=by simp[clR,deOb,DE.row]
def dec (n:Int):List UInt8:=ddig n.toNat []
theorem qap (n:Int) (h:n<1000000000):(dec n).length≤9:=by
 unfold dec
 rw[ddig_dec]
 have:=dec_len n.toNat 9 (by omega) (by omega)
 simpa using this
theorem sdecI (n:Int) (h0:0≤n) (h:n<1000000000):CV prog 268 [.int .i64 n] (.str (dec n)):=by
 have:=sdecC n.toNat (by omega)
 have e:((n.toNat:Nat):Int)=n:=by omega
 rw[e]at this
 exact this
theorem ptOk_b {p:PT} (h:ptOkB p=true):0≤p.pa∧p.pa<120∧0≤p.ps∧p.ps<65521∧0≤p.pb∧p.pb≤1000000:=by
 unfold ptOkB at h
 split at h
 ·simp only[Bool.and_eq_true,decide_eq_true_eq]at h
  omega
 ·simp only[Bool.and_eq_true,decide_eq_true_eq]at h
  omega
def qay (p:PT):List UInt8:=if ptOkB p=false then [] else if p.pa=0 then [45] else dec p.pa++(46::(dec p.ps++(46::dec p.pb)))
theorem qbz (p:PT):(qay p).length≤29:=by
 unfold qay
 split
 ·simp
 ·rename_i h
  have hb:=ptOk_b (p:=p) (by simpa using h)
  split
  ·simp
  ·have h1:=qap p.pa (by omega)
   have h2:=qap p.ps (by omega)
   have h3:=qap p.pb (by omega)
   simp;omega
theorem sPtrTextC (p:PT):CV prog 287 [.agg p.row] (.str (qay p)):=by
 obtain⟨R,hR⟩:∃ R,qay p=R:=⟨_,rfl⟩
 rw[hR]
 have c1:=sPtrOkC p
 simp only[PT.row]at c1
 unfold qay at hR
 refine cvx func287 [(5,[zI 0,zJ 1 [1] [],zJ 4 [] [1],zJ 5 [1] [1],zJ 9 [] [1],zJ 10 [1] [1],zJ 2 [] [1],zJ 3 [] [1],zJ 6 [] [1],zJ 7 [] [1],zJ 8 [] [1],zI 11,zI 12,zI 13])] ntmps287 rfl rfl rfl ?_ (hca:=by simp[PT.row])
 simp -implicitDefEqProofs [PT.row]
 refine c1.call ?_
 cases hok:ptOkB p with
 | false =>
  rw[if_pos hok]at hR
  simp -implicitDefEqProofs [← hR]
 | true =>
  rw[if_neg (by simp[hok])]at hR
  have hb:=ptOk_b hok
  by_cases h0:p.pa=0
  ·rw[if_pos h0]at hR
   simp -implicitDefEqProofs [h0,← hR]
  ·rw[if_neg h0]at hR
   have d1:=sdecI p.pa (by omega) (by omega)
   have d2:=sdecI p.ps (by omega) (by omega)
   have d3:=sdecI p.pb (by omega) (by omega)
   have l1:=qap p.pa (by omega)
   have l2:=qap p.ps (by omega)
   have l3:=qap p.pb (by omega)
   simp -implicitDefEqProofs [h0]
   refine d1.call ?_
   simp -implicitDefEqProofs
   refine⟨by omega,?_⟩
   refine d2.call ?_
   simp -implicitDefEqProofs
   refine⟨by omega,by omega,?_⟩
   refine d3.call ?_
   simp -implicitDefEqProofs [← hR]
   omega
def ptsText:List PT→Bool→Option (List UInt8)
 | [],_=>some []
 | p::r,first=>if ptOkB p=false then none else (ptsText r false).map fun t=>(if first=true then [] else [32])++(qay p++t)
def mapText (m:List PT):List UInt8:=(ptsText m true).getD []
theorem sCoreMapC (m:List PT) (h8:m.length=8):CV prog 288 [.agg (m.flatMap PT.row)] (.str (mapText m)):=by
 obtain⟨R,hR⟩:∃ R,mapText m=R:=⟨_,rfl⟩
 rw[hR]
 refine cvx func288 [] ntmps288 rfl rfl rfl ?_ (hca:=by simp[clL_pts])
 simp -implicitDefEqProofs [sum3 h8]
 refine ev_lp (X:=Nat×List UInt8) [1,2,3,4] [(1,1)] (fun x=>[(3,.str x.2),(4,.int .i64 x.1)]) (fun _=>[]) (fun x=>8-x.1) (fun x=>x.1≤8∧x.2.length≤30 * x.1∧((ptsText (m.drop x.1) (decide (x.1=0))).map (x.2++·)).getD []=R) (0,[]) (by simp[← hR,mapText]) ?_ (he:=by simp[obOf])
 rintro⟨i,t⟩ ⟨hi,hl,hd⟩
 simp only at hi hl hd
 cases hr:m.drop i with
 | nil =>
  have:=dropn hr
  rw[hr]at hd
  have hie:i=8:=by omega
  subst hie
  simp only[ptsText,Option.map_some,List.append_nil,Option.getD_some]at hd
  simp -implicitDefEqProofs [hd]
 | cons p q =>
  obtain⟨k1,e0,e1,k3⟩:=dropc hr
  rw[hr]at hd
  simp only[ptsText]at hd
  have hli:(i:Int)<8:=by omega
  have hi8:i<8:=by omega
  have e2:=i64w ((i:Int)+1) (by omega) (by omega)
  have c1:=sPtrOkC p
  have c2:=sPtrTextC p
  have hpl:=qbz p
  have hf:=flat_at e1
  simp only[PT.row]at c1 c2
  simp -implicitDefEqProofs [obOf,hli,hi8,hf]
  refine⟨by omega,?_⟩
  refine c1.call ?_
  cases hok:ptOkB p with
  | false =>
   rw[if_pos hok]at hd
   simp only[Option.map_none,Option.getD_none]at hd
   simp -implicitDefEqProofs [← hd]
  | true =>
   rw[if_neg (by simp[hok])]at hd
   by_cases h0:i=0
   ·subst h0
    have hf0:List.take 3 (List.flatMap PT.row m)=p.row:=by simpa using hf
    simp only[PT.row]at hf0
    simp -implicitDefEqProofs [obOf,hf0,PT.row]
    refine c2.call ?_
    simp -implicitDefEqProofs [e2]
    refine⟨by omega,nx (1,t++qay p) [(1,1)] ⟨by simp only;omega,by simp;omega,by simp only[k3];simpa [Option.map_map,Function.comp_def]using hd⟩ (by simp only;omega) (h4:=by simp[obOf,e2])⟩
   ·have h0':(0:Int)<i:=by omega
    simp -implicitDefEqProofs [obOf,hf,h0',h0]
    intro _
    refine⟨by omega,hli,by omega,?_⟩
    refine c2.call ?_
    simp -implicitDefEqProofs [e2]
    have hd':decide (i=0)=false:=by simpa using h0
    rw[hd']at hd
    refine⟨by omega,nx (i+1,t++(32::qay p)) [(1,1)] ⟨by simp only;omega,by simp;omega,by simp only[k3];simpa [Option.map_map,Function.comp_def]using hd⟩ (by simp only;omega) (h4:=by simp[obOf,e2])⟩
def fromT (s:List UInt8):List UInt8:=if s=[] then [45] else s
theorem sFromC (s:List UInt8):CV prog 286 [.str s] (.str (fromT s)):=by
 unfold fromT
 refine cvx func286 [] ntmps286 rfl rfl rfl ?_
 by_cases h:s=[]
 ·simp -implicitDefEqProofs [h]
 ·simp -implicitDefEqProofs [h]
def rootSet (s:CS):List UInt8:=10::(s.name++(32::(dec s.kind++(32::(fromT s.frm++(32::qay s.home))))))
def rootSets:List CS→Option (List UInt8)
 | []=>some []
 | s::r=>if csOkB s=false then none else (rootSets r).map (rootSet s++·)
def qbm:List PT→Option (List UInt8)
 | []=>some []
 | p::r=>if qam p=false then none else (qbm r).map ((10::46::32::qay p)++·)
def qch (c:CO):List UInt8:=((rootSets c.sets).bind fun t=>(qbm c.parts).map fun u=>[114,111,111,116]++(t++u)).getD []
theorem cs_kind {s:CS} (h:csOkB s=true):1≤s.kind∧s.kind≤2:=by
 simp only[csOkB,Bool.and_eq_true,decide_eq_true_eq]at h
 exact h.1.1.2
theorem cs_ones (s:CS):∀ x∈s.row,oneA x=true:=fun x hx=>by
 simp only[CS.row,List.mem_cons,List.mem_append,List.mem_flatMap,PT.row,List.not_mem_nil,or_false]at hx
 rcases hx with rfl | rfl | rfl | ⟨p,_,hp⟩ | h | rfl
 ·rfl
 ·rfl
 ·rfl
 ·rcases hp with rfl | rfl | rfl <;> rfl
 ·rcases h with rfl | rfl | rfl <;> rfl
 ·rfl
theorem fromT_len (s:List UInt8):(fromT s).length≤s.length+1:=by unfold fromT;split <;> simp
theorem rootSet_len {s:CS} (h:csOkB s=true):(rootSet s).length≤64:=by
 have h1:=csOk_nm h
 have h2:=cs_kind h
 have h3:=qap s.kind (by omega)
 have h4:=fromT_len s.frm
 have h5:=qbz s.home
 simp[rootSet];omega
theorem sRootC (c:CO) (h:CoT c):CV prog 194 [.agg c.row] (.str (qch c)):=by
 obtain⟨R,hR⟩:∃ R,qch c=R:=⟨_,rfl⟩
 rw[hR]
 have hs:=h.sets
 have hp:=h.parts
 refine cvx func194 [(8,[zI 0,zI 1,zI 2,zJ 3 [5] [],zI 4,zI 5,zJ 6 [] [5],zJ 7 [5] [5],zJ 11 [] [5],zJ 12 [5] [5],zJ 16 [] [5],zJ 17 [5] [5],zJ 8 [] [5],zJ 9 [] [5],zJ 10 [] [5],zJ 13 [] [5],zJ 14 [] [5],zJ 15 [] [5],zJ 18 [] [5],zI 19,zI 20])] ntmps194 rfl rfl rfl ?_ (hca:=by simp[CO.row,PT.row,DE.row,cs_cl,qac])
 simp -implicitDefEqProofs [CO.row]
 refine ev_lp (X:=Nat×List UInt8) [1,2,3,4] [(1,1)] (fun x=>[(3,.str x.2),(4,.int .i64 x.1)]) (fun _=>[]) (fun x=>c.sets.length-x.1) (fun x=>x.1≤c.sets.length∧x.2.length≤4+64 * x.1∧((rootSets (c.sets.drop x.1)).bind fun t=>(qbm c.parts).map fun u=>x.2++(t++u)).getD []=R) (0,[114,111,111,116]) (by simp[← hR,qch]) ?_ (he:=by simp[obOf])
 rintro⟨i,t⟩ ⟨hi,hl,hd⟩
 simp only at hi hl hd
 cases hr:c.sets.drop i with
 | nil =>
  have:=dropn hr
  rw[hr]at hd
  have hie:i=c.sets.length:=by omega
  subst hie
  simp only[rootSets,Option.bind_some,List.nil_append]at hd
  simp -implicitDefEqProofs [obOf]
  refine ev_lp (X:=Nat×List UInt8) [1,2,3,6] [(1,1)] (fun x=>[(3,.str x.2),(6,.int .i64 x.1)]) (fun _=>[]) (fun x=>c.parts.length-x.1) (fun x=>x.1≤c.parts.length∧x.2.length≤4+64 * c.sets.length+64 * x.1∧((qbm (c.parts.drop x.1)).map fun u=>x.2++u).getD []=R) (0,t) (by simp[hd];omega) ?_ (he:=by simp[obOf])
  rintro⟨i,t⟩ ⟨hi,hl,hd⟩
  simp only at hi hl hd
  cases hr:c.parts.drop i with
  | nil =>
   have:=dropn hr
   rw[hr]at hd
   have hie:i=c.parts.length:=by omega
   subst hie
   simp only[qbm,Option.map_some,List.append_nil,Option.getD_some]at hd
   simp -implicitDefEqProofs [obOf,hd]
  | cons p q =>
   obtain⟨k1,e0,e1,k3⟩:=dropc hr
   rw[hr]at hd
   simp only[qbm]at hd
   have hli:(i:Int)<c.parts.length:=by omega
   have e2:=i64w ((i:Int)+1) (by omega) (by omega)
   have c1:=sPtrOkC p
   have c2:=sPtrTextC p
   have hpl:=qbz p
   simp only[PT.row]at c1 c2
   simp -implicitDefEqProofs [obOf,k1,e0,e1,hli,PT.row]
   refine c1.call ?_
   cases hok:ptOkB p with
   | false =>
    rw[if_pos (show qam p=false by simp[qam,hok])]at hd
    simp only[Option.map_none,Option.getD_none]at hd
    simp -implicitDefEqProofs [← hd]
   | true =>
    by_cases h0:p.pa=0
    ·rw[if_pos (show qam p=false by simp[qam,hok,h0])]at hd
     simp only[Option.map_none,Option.getD_none]at hd
     simp -implicitDefEqProofs [← hd,h0,obOf,k1,e0,e1,hli,PT.row]
    ·rw[if_neg (show ¬ qam p=false by simp[qam,hok,h0])]at hd
     simp -implicitDefEqProofs [h0,obOf,k1,e0,e1,hli,PT.row]
     refine⟨by omega,?_⟩
     refine c2.call ?_
     simp -implicitDefEqProofs [e2]
     refine⟨by omega,nx (i+1,t++(10::46::32::qay p)) [(1,1)] ⟨by simp only;omega,by simp;omega,by simp only[k3];simpa [Option.map_map,Function.comp_def]using hd⟩ (by simp only;omega) (h4:=by simp[obOf,e2])⟩
 | cons s q =>
  obtain⟨k1,e0,e1,k3⟩:=dropc hr
  rw[hr]at hd
  simp only[rootSets]at hd
  have hsm:=List.mem_of_getElem? e1
  have hli:(i:Int)<c.sets.length:=by omega
  have e2:=i64w ((i:Int)+1) (by omega) (by omega)
  have h8:=h.m8 s hsm
  have c1:=sSetC s h8 (h.nm s hsm).1 (h.nm s hsm).2
  simp -implicitDefEqProofs [obOf,k1,e0,e1,hli,qbf s h8,cs_take s h8]
  refine⟨cs_ones s,?_⟩
  refine c1.call ?_
  cases hok:csOkB s with
  | false =>
   rw[if_pos hok]at hd
   simp only[Option.bind_none,Option.getD_none]at hd
   simp -implicitDefEqProofs [← hd]
  | true =>
   rw[if_neg (by simp[hok])]at hd
   have hk:=cs_kind hok
   have c2:=sdecI s.kind (by omega) (by omega)
   have c3:=sFromC s.frm
   have c4:=sPtrTextC s.home
   have hrl:=rootSet_len hok
   have hn:=csOk_nm hok
   have hdl:=qap s.kind (by omega)
   have hfl:=fromT_len s.frm
   have hpl:=qbz s.home
   simp -implicitDefEqProofs [cs_home s h8]
   refine⟨by omega,by omega,by omega,?_⟩
   refine c2.call ?_
   simp -implicitDefEqProofs
   refine⟨by omega,by omega,?_⟩
   refine c3.call ?_
   simp -implicitDefEqProofs [cs_home s h8]
   refine⟨by omega,by omega,?_⟩
   refine c4.call ?_
   simp -implicitDefEqProofs [e2]
   refine⟨by omega,nx (i+1,t++rootSet s) [(1,1)] ⟨by simp only;omega,by simp only[List.length_append];omega,by simp only[k3];simpa [Option.map_map,Option.bind_map,Function.comp_def]using hd⟩ (by simp only;omega) (h4:=by simp[obOf,e2,rootSet])⟩
def qbx (txg:Int) (p:PT):List UInt8:=if txg<1∨1000000<txg∨qam p=false then [] else sealB (dec txg++(32::(qay p++(32::dec txg))))
theorem sUberC (txg:Int) (p:PT):CV prog 285 [.int .i64 txg,.agg p.row] (.str (qbx txg p)):=by
 obtain⟨R,hR⟩:∃ R,qbx txg p=R:=⟨_,rfl⟩
 rw[hR]
 unfold qbx at hR
 have c1:=sPtrOkC p
 have c2:=sPtrTextC p
 have hpl:=qbz p
 simp only[PT.row]at c1 c2
 refine cvx func285 [(3,[zI 0,zJ 3 [3] [],zJ 7 [] [3],zJ 1 [] [3],zJ 2 [] [3],zI 4,zI 5,zI 6,zI 8,zI 9,zI 10,zI 11])] ntmps285 rfl rfl rfl ?_ (hca:=by simp[PT.row])
 by_cases h1:txg<1
 ·rw[if_pos (.inl h1)]at hR
  simp -implicitDefEqProofs [PT.row,h1,← hR]
 by_cases h2:1000000<txg
 ·rw[if_pos (.inr (.inl h2))]at hR
  simp -implicitDefEqProofs [PT.row,h1,h2,← hR]
 simp -implicitDefEqProofs [PT.row,h1,h2]
 refine c1.call ?_
 cases hok:ptOkB p with
 | false =>
  rw[if_pos (.inr (.inr (by simp[qam,hok])))]at hR
  simp -implicitDefEqProofs [← hR]
 | true =>
  by_cases h0:p.pa=0
  ·rw[if_pos (.inr (.inr (by simp[qam,hok,h0])))]at hR
   simp -implicitDefEqProofs [← hR,h0,PT.row]
  ·rw[if_neg (fun h=>h.elim h1 fun h=>h.elim h2 fun h=>by simp[qam,hok,h0]at h)]at hR
   have d1:=sdecI txg (by omega) (by omega)
   have l1:=qap txg (by omega)
   have c3:=ssealC (dec txg++(32::(qay p++(32::dec txg)))) (by simp[maxLen];omega)
   simp -implicitDefEqProofs [h0,PT.row]
   refine d1.call ?_
   simp -implicitDefEqProofs [PT.row]
   refine⟨by omega,?_⟩
   refine c2.call ?_
   simp -implicitDefEqProofs
   refine⟨by omega,by omega,?_⟩
   refine d1.call ?_
   simp -implicitDefEqProofs
   refine⟨by omega,?_⟩
   refine c3.call ?_
   simp -implicitDefEqProofs [hR]
structure LR where
 txg:Int
 seq:Int
 op:BO
deriving DecidableEq,Inhabited
def LR.row (r:LR):List AV:=.int .i64 r.txg::.int .i64 r.seq::r.op.row
def lrOkB (r:LR):Bool:=decide (1≤r.txg) && decide (r.txg≤1000000) && decide (0≤r.seq) && decide (r.seq<8) && decide (r.op.kind=3) && nameB r.op.a && decide (r.op.b=[]) && decide (0≤r.op.i) && decide (r.op.i<8) && decide (r.op.text.length≤24)
def hexT (s:List UInt8):List UInt8:=if hexB s=[] then [45] else hexB s
def qbv (r:LR):List UInt8:=if lrOkB r=false then [] else
 sealB (dec r.txg++(46::(dec r.seq++(32::(r.op.a++(32::(dec r.op.i++(32::(hexT r.op.text++(32::(dec r.txg++(46::dec r.seq))))))))))))
theorem sLogTextC (r:LR) (ha:r.op.a.length≤1048576) (ht:r.op.text.length≤1048576):CV prog 160 [.agg r.row] (.str (qbv r)):=by
 obtain⟨R,hR⟩:∃ R,qbv r=R:=⟨_,rfl⟩
 rw[hR]
 have hno:lrOkB r=false→R=[]:=fun h=>by rw[← hR];unfold qbv;rw[if_pos h]
 have hbad:∀ b:Prop,[Decidable b]→¬ b→(lrOkB r=true→b)→R=[]:=fun b _ hb h=>hno (by
  cases e:lrOkB r with
  | false=>rfl
  | true=>exact absurd (h e) hb)
 have hsp:lrOkB r=true↔(1≤r.txg∧r.txg≤1000000)∧(0≤r.seq∧r.seq<8)∧r.op.kind=3∧nameB r.op.a=true∧r.op.b=[]∧(0≤r.op.i∧r.op.i<8)∧r.op.text.length≤24:=by
  simp only[lrOkB,Bool.and_eq_true,decide_eq_true_eq]
  grind
 have c1:=sName r.op.a ha
 have c2:=shexC r.op.text ht
 have hxl:=hexB_len r.op.text
 have hyes:lrOkB r=true→R=sealB (dec r.txg++(46::(dec r.seq++(32::(r.op.a++(32::(dec r.op.i++(32::(hexT r.op.text++(32::(dec r.txg++(46::dec r.seq)))))))))))):=fun h=>by
  rw[← hR];unfold qbv;rw[if_neg (by simp[h])]
 refine cvx func160 [(7,[zI 0,zJ 1 [1] [],zJ 4 [] [1],zJ 5 [1] [1],zJ 2 [] [1],zJ 3 [] [1],zI 6,zI 7,zI 8]),(8,[zI 0,zI 1,zI 2,zJ 3 [3] [],zI 4,zI 5,zJ 6 [] [3],zJ 7 [3] [3],zJ 11 [] [3],zJ 14 [] [3],zJ 8 [] [3],zI 9,zI 10,zI 12,zI 13,zI 15,zI 16,zI 17])] ntmps160 rfl rfl rfl ?_ (hca:=by simp[LR.row,BO.row])
 simp -implicitDefEqProofs [LR.row,BO.row]
 refine⟨fun q1=>⟨fun q2=>⟨fun q3=>⟨fun q4=>⟨fun q5=>?_,fun q=>hbad _ q fun h=>(hsp.1 h).2.2.1⟩,fun q=>hbad _ (Int.not_lt.2 q) fun h=>(hsp.1 h).2.1.2⟩,fun q=>hbad _ (Int.not_le.2 q) fun h=>(hsp.1 h).2.1.1⟩,fun q=>hbad _ (Int.not_le.2 q) fun h=>(hsp.1 h).1.2⟩,fun q=>hbad _ (Int.not_le.2 q) fun h=>(hsp.1 h).1.1⟩
 refine c1.call ?_
 cases hn:nameB r.op.a with
 | false =>
  have:=hno (by cases e:lrOkB r with
   | false=>rfl
   | true=>exact absurd (hsp.1 e).2.2.2.1 (by simp[hn]))
  simp -implicitDefEqProofs [this]
 | true =>
  simp -implicitDefEqProofs [LR.row,BO.row]
  refine⟨fun q6=>⟨fun q7=>⟨fun q8=>⟨fun q=>hbad (r.op.text.length≤24) (by omega) fun h=>(hsp.1 h).2.2.2.2.2.2,fun q9=>?_⟩,fun q=>hbad _ (Int.not_lt.2 q) fun h=>(hsp.1 h).2.2.2.2.2.1.2⟩,fun q=>hbad _ (Int.not_le.2 q) fun h=>(hsp.1 h).2.2.2.2.2.1.1⟩,fun q=>hbad _ q fun h=>(hsp.1 h).2.2.2.2.1⟩
  have hy:=hyes (hsp.2 ⟨⟨q1,q2⟩,⟨q3,q4⟩,q5,hn,q6,⟨q7,q8⟩,by omega⟩)
  have d1:=sdecI r.txg (by omega) (by omega)
  have d2:=sdecI r.seq (by omega) (by omega)
  have d3:=sdecI r.op.i (by omega) (by omega)
  have l1:=qap r.txg (by omega)
  have l2:=qap r.seq (by omega)
  have l3:=qap r.op.i (by omega)
  have hna:r.op.a.length≤6:=by
   simp only[nameB,Bool.and_eq_true,decide_eq_true_eq]at hn
   exact hn.2
  refine c2.call ?_
  have hxT:hexB r.op.text=[]∨hexB r.op.text≠[]:=by cases hexB r.op.text <;> simp
  rcases hxT with hx | hx
  ·have he:hexT r.op.text=[45]:=by simp[hexT,hx]
   rw[he]at hy
   have c3:=ssealC (dec r.txg++(46::(dec r.seq++(32::(r.op.a++(32::(dec r.op.i++(32::([45]++(32::(dec r.txg++(46::dec r.seq)))))))))))) (by simp[maxLen];omega)
   rw[← hy]at c3
   simp -implicitDefEqProofs [hx,LR.row,BO.row]
   refine d1.call ?_
   simp -implicitDefEqProofs [LR.row,BO.row]
   refine⟨by omega,?_⟩
   refine d2.call ?_
   simp -implicitDefEqProofs [LR.row,BO.row]
   refine⟨by omega,by omega,by omega,by omega,?_⟩
   refine d3.call ?_
   simp -implicitDefEqProofs [LR.row,BO.row]
   refine⟨by omega,by omega,by omega,by omega,by omega,?_⟩
   first
    | (refine c3.call ?_;simp -implicitDefEqProofs)
    | (simp only[List.cons_append,List.nil_append,List.append_assoc]at c3;refine c3.call ?_;simp -implicitDefEqProofs)
  ·have he:hexT r.op.text=hexB r.op.text:=by simp[hexT,hx]
   rw[he]at hy
   have c3:=ssealC (dec r.txg++(46::(dec r.seq++(32::(r.op.a++(32::(dec r.op.i++(32::(hexB r.op.text++(32::(dec r.txg++(46::dec r.seq)))))))))))) (by simp[maxLen];omega)
   rw[← hy]at c3
   simp -implicitDefEqProofs [hx,LR.row,BO.row]
   refine d1.call ?_
   simp -implicitDefEqProofs [LR.row,BO.row]
   refine⟨by omega,?_⟩
   refine d2.call ?_
   simp -implicitDefEqProofs [LR.row,BO.row]
   refine⟨by omega,by omega,by omega,by omega,?_⟩
   refine d3.call ?_
   simp -implicitDefEqProofs [LR.row,BO.row]
   refine⟨by omega,by omega,by omega,by omega,by omega,?_⟩
   first
    | (refine c3.call ?_;simp -implicitDefEqProofs)
    | (simp only[List.cons_append,List.nil_append,List.append_assoc]at c3;refine c3.call ?_;simp -implicitDefEqProofs)
def kcs (l:List CS):Ob:=⟨31,l.map CS.row⟩
def kpt (l:List PT):Ob:=⟨3,l.map PT.row⟩
def kin (l:List Int):Ob:=⟨1,l.map qac⟩
@[simp] theorem renL_csRow (ρ:Nat→Option Plc):renL ρ ∘ CS.row=CS.row:=by funext x;exact renL_closed.renL_closedL ρ _ (cs_cl x)
@[simp] theorem renL_ptRow (ρ:Nat→Option Plc):renL ρ ∘ PT.row=PT.row:=by funext x;simp[PT.row]
@[simp] theorem renL_inRow (ρ:Nat→Option Plc):renL ρ ∘ qac=qac:=by funext x;simp[qac]
@[simp] theorem renOb_kcs (ρ:Nat→Option Plc) (l:List CS):renOb ρ (kcs l)=kcs l:=by simp[kcs,renOb]
@[simp] theorem renOb_kpt (ρ:Nat→Option Plc) (l:List PT):renOb ρ (kpt l)=kpt l:=by simp[kpt,renOb]
@[simp] theorem renOb_kin (ρ:Nat→Option Plc) (l:List Int):renOb ρ (kin l)=kin l:=by simp[kin,renOb]
theorem clR_kcs (l:List CS):clR (kcs l).els=true:=by simp[clR,kcs,cs_cl]
theorem clR_kpt (l:List PT):clR (kpt l).els=true:=by simp[clR,kpt,PT.row]
theorem clR_kin (l:List Int):clR (kin l).els=true:=by simp[clR,kin,qac]
def coreA (c:CO) (a b e f:Nat):AV:=.agg [.int .i64 c.txg,.sl a 0 c.sets.length,.sl b 0 c.ddt.length,.sl e 0 c.parts.length,.bool c.dirty,.sl f 0 c.safe.length,.int .i64 c.logn]
theorem sHasC (l:List Int) (a:Int) (hl:l.length≤1048576):CV prog 290 [.lst 1 (l.map qac),.int .i64 a] (.bool (l.contains a)):=by
 obtain⟨R,hR⟩:∃ R,l.contains a=R:=⟨_,rfl⟩
 rw[hR]
 refine cvx func290 [] ntmps290 rfl rfl rfl ?_ (hca:=by simp[qac])
 simp -implicitDefEqProofs
 refine ev_lp (X:=Nat) [0,1,4,5] [] (fun i=>[(5,.int .i64 i)]) (fun _=>[]) (fun i=>l.length-i) (fun i=>i≤l.length∧(l.drop i).contains a=R) 0 (by simp[← hR]) ?_
 rintro i ⟨hi,hd⟩
 cases hr:l.drop i with
 | nil =>
  have:=dropn hr
  rw[hr]at hd
  have hie:i=l.length:=by omega
  subst hie
  simp -implicitDefEqProofs
  simpa using hd
 | cons x q =>
  obtain⟨k1,e0,e1,k3⟩:=dropc hr
  rw[hr]at hd
  have hli:(i:Int)<l.length:=by omega
  have e2:=i64w ((i:Int)+1) (by omega) (by omega)
  simp -implicitDefEqProofs [k1,e0,e1,hli,e2,qac]
  refine⟨fun q1=>?_,fun q1=>nx (i+1) [] ⟨by omega,?_⟩ (h4:=by simp[e2])⟩
  ·rw[← hd];simp[q1]
  ·rw[k3,← hd]
   have:¬ a=x:=fun e=>q1 e.symm
   simp[this]
def plP (l:List Int) (a:Int):Nat:=(l.takeWhile fun x=>decide (x<a)).length
def addB (l:List Int) (a:Int):List Int:=if a<13∨l.contains a=true then l else l.take (plP l a)++a::l.drop (plP l a)
theorem plP_le (l:List Int) (a:Int):plP l a≤l.length:=(List.takeWhile_prefix _).length_le
theorem sPlAddO (l:List Int) (a:Int) (hl:l.length≤1000000):ACall prog 197 [.sl 1000 0 l.length,.int .i64 a] [(1000,kin l)] (fun r L'=>∃ id,(id=1000∨id=41)∧r=.sl id 0 (addB l a).length∧L'=[(id,kin (addB l a))]):=by
 obtain⟨R,hR⟩:∃ R,addB l a=R:=⟨_,rfl⟩
 rw[hR]
 unfold addB at hR
 have c1:=sHasC l a (by omega)
 have hk:=plP_le l a
 refine acx func197 [] ntmps197 rfl rfl rfl ?_
 by_cases h1:a<13
 ·rw[if_pos (.inl h1)]at hR
  simp -implicitDefEqProofs [h1,← hR]
 simp -implicitDefEqProofs [h1]
 refine c1.view (by simp[vwOk,mtA,kin,qbh]) ?_
 cases hc:l.contains a with
 | true =>
  rw[if_pos (.inr hc)]at hR
  simp -implicitDefEqProofs [← hR]
 | false =>
  rw[if_neg (by simp only[hc,h1];simp)]at hR
  simp -implicitDefEqProofs
  refine ev_lp (X:=Nat) [0,1,4,5] [(1000,1000)] (fun i=>[(5,.int .i64 i)]) (fun _=>[]) (fun i=>l.length-i) (fun i=>i≤l.length∧i+plP (l.drop i) a=plP l a) 0 (by simp) ?_ (he:=by simp[obOf])
  rintro i ⟨hi,hd⟩
  have fin:i=plP l a→List.take i l++a::List.drop i l=R:=fun e=>by rw[e];exact hR
  cases hr:l.drop i with
  | nil =>
   have:=dropn hr
   rw[hr]at hd
   have hie:i=l.length:=by omega
   have hf:=fin (by simpa [plP]using hd)
   subst hie
   simp -implicitDefEqProofs [obOf,kin]
   subst hf
   refine⟨by omega,?_,by simp⟩
   rw[qbh,List.take_of_length_le (by simp)]
   simp[qac,List.take_of_length_le]
  | cons x q =>
   obtain⟨k1,e0,e1,k3⟩:=dropc hr
   rw[hr]at hd
   have hli:(i:Int)<l.length:=by omega
   have e2:=i64w ((i:Int)+1) (by omega) (by omega)
   by_cases hx:x<a
   ·have hp:plP (x::q) a=plP q a+1:=by simp[plP,List.takeWhile_cons,hx]
    simp -implicitDefEqProofs [obOf,kin,k1,e0,e1,hli,e2,hx,qac]
    exact nx (i+1) [(1000,1000)] ⟨by omega,by rw[k3];omega⟩ (h4:=by simp[obOf,e2,kin])
   ·have hp:plP (x::q) a=0:=by simp[plP,List.takeWhile_cons,hx]
    have hf:=fin (by omega)
    simp -implicitDefEqProofs [obOf,kin,k1,e0,e1,hli,e2,hx,qac]
    rw[dr_to]
    have et:List.take (l.length-i) ((l.drop i).map qac)=(l.drop i).map qac:=List.take_of_length_le (by simp)
    have e5:List.take (i+1) (List.take i (List.map qac l)++[[AV.int IntKind.i64 a]])=List.map qac (List.take i l++[a]):=by
     rw[List.take_of_length_le (by simp;omega)];simp[qac]
    rw[et,e5]
    have ho:∀ x∈(l.drop i).map qac,∀ y∈x,oneA y=true:=fun x hx y hy=>by
     obtain⟨e,_,rfl⟩:=List.mem_map.1 hx
     simp only[qac,List.mem_cons,List.not_mem_nil,or_false]at hy
     subst hy;rfl
    subst hf
    refine⟨by omega,⟨by omega,by omega,ho⟩,by omega,⟨by omega,by omega⟩,⟨by omega,by omega,ho⟩,by simp,by simp;omega⟩
theorem addB_len (l:List Int) (a:Int):(addB l a).length≤l.length+1:=by
 unfold addB
 split
 ·omega
 ·have:=plP_le l a
  simp;omega
def addsB (l:List Int) (bs:List Int):List Int:=bs.foldl addB l
theorem addsB_len:∀ (bs:List Int) (l:List Int),(addsB l bs).length≤l.length+bs.length
 | [],l=>by simp[addsB]
 | a::r,l=>by
  have h1:=addB_len l a
  have h2:=addsB_len r (addB l a)
  simp only[addsB,List.foldl_cons,List.length_cons]at *
  omega
def reachB (c:CO) (root:Int):List Int:=addsB (addsB (addsB (addB [] root) (c.ddt.map DE.ea)) (c.sets.map fun s=>s.home.pa)) (c.parts.map PT.pa)
structure CoM (c:CO):Prop where
 sets:c.sets.length≤1000
 ddt:c.ddt.length≤1000
 parts:c.parts.length≤1000
theorem addsB_cons (l:List Int) (a:Int) (r:List Int):addsB l (a::r)=addsB (addB l a) r:=rfl
theorem addsB_nil (l:List Int):addsB l []=l:=rfl
theorem cs_hpa (s:CS) (h8:s.map.length=8):s.row[27]?=some (.int .i64 s.home.pa):=by
 have h:=cs_home s h8
 have h2:=congrArg (fun l:List AV=>l[0]?) h
 simp only[List.getElem?_take,List.getElem?_drop]at h2
 simpa [PT.row]using h2
theorem sPlAddN (l:List Int) (a:Int) (hl:l.length≤1000000):ACall prog 197 [.sl 1000 0 l.length,.int .i64 a] [(1000,kin l)] (fun r L'=>r=.sl 902 0 (addB l a).length∧L'=[(902,kin (addB l a))]):=by
 refine(sPlAddO l a hl).can ?_
 rintro r L' ⟨id,rfl | rfl,rfl,rfl⟩
 ·exact⟨[(1000,902)],by simp,by simp,by simp,by simp,by simp,by simp[obOf]⟩
 ·exact⟨[(41,902)],by simp,by simp,by simp,by simp,by simp,by simp[obOf]⟩
theorem sReachO (c:CO) (h:CoT c) (hm:CoM c) (root:Int):ACall prog 110 [.agg c.row,.int .i64 root] [] (fun r L'=>r=.sl 900 0 (reachB c root).length∧L'=[(900,kin (reachB c root))]):=by
 obtain⟨R,hR⟩:∃ R,reachB c root=R:=⟨_,rfl⟩
 rw[hR]
 unfold reachB at hR
 have h1:=hm.sets
 have h2:=hm.ddt
 have h3:=hm.parts
 refine acx func110 [] ntmps110 rfl rfl rfl ?_
 simp -implicitDefEqProofs [CO.row]
 refine qaf [(1000,.whole 9)] (by kernel_rfl) (sPlAddN [] root (by simp)) (by simp) (by simp) (by simp[kin];exact qah rfl (by simp[clR])) (by simp) (by simp) ?_
 rintro r L' ⟨rfl,rfl⟩
 have hl0:=addB_len [] root
 simp only[List.length_nil]at hl0
 refine⟨[(902,902)],⟨by simp,by simp,by simp,by simp,by simp⟩,?_⟩
 simp only[qan]
 simp -implicitDefEqProofs [CO.row]
 refine ev_lo (X:=Nat×List Int) [2,5,6] [(2,2),(902,900)] (fun x=>[(5,.sl 900 0 x.2.length),(6,.int .i64 x.1)]) (fun x=>[(2,⟨7,[c.row]⟩),(900,kin x.2)]) (fun x=>c.ddt.length-x.1) (fun x=>x.1≤c.ddt.length∧x.2.length≤1+x.1∧addsB (addsB (addsB x.2 ((c.ddt.drop x.1).map DE.ea)) (c.sets.map fun s=>s.home.pa)) (c.parts.map PT.pa)=R) (0,(addB [] root)) ⟨by simp,by simp only;omega,by simpa using hR⟩ ?_ (he:=by simp[obOf,kin,CO.row])
 rintro⟨i,l⟩ ⟨hi,hl,hd⟩
 simp only at hi hl hd
 cases hr:c.ddt.drop i with
 | nil =>
  have:=dropn hr
  rw[hr]at hd
  have hie:i=c.ddt.length:=by omega
  subst hie
  simp only[List.map_nil,addsB_nil]at hd
  simp -implicitDefEqProofs [obOf,CO.row]
  refine ev_lo (X:=Nat×List Int) [2,5,7] [(2,2),(900,900)] (fun x=>[(5,.sl 900 0 x.2.length),(7,.int .i64 x.1)]) (fun x=>[(2,⟨7,[c.row]⟩),(900,kin x.2)]) (fun x=>c.sets.length-x.1) (fun x=>x.1≤c.sets.length∧x.2.length≤1001+x.1∧addsB (addsB x.2 ((c.sets.drop x.1).map (fun s:CS=>s.home.pa))) (c.parts.map PT.pa)=R) (0,l) ⟨by simp,by simp only;omega,by simpa using hd⟩ ?_ (he:=by simp[obOf,kin,CO.row])
  rintro⟨i,l⟩ ⟨hi,hl,hd⟩
  simp only at hi hl hd
  cases hr:c.sets.drop i with
  | nil =>
   have:=dropn hr
   rw[hr]at hd
   have hie:i=c.sets.length:=by omega
   subst hie
   simp only[List.map_nil,addsB_nil]at hd
   simp -implicitDefEqProofs [obOf,CO.row]
   refine ev_lo (X:=Nat×List Int) [2,5,8] [(2,2),(900,900)] (fun x=>[(5,.sl 900 0 x.2.length),(8,.int .i64 x.1)]) (fun x=>[(2,⟨7,[c.row]⟩),(900,kin x.2)]) (fun x=>c.parts.length-x.1) (fun x=>x.1≤c.parts.length∧x.2.length≤2001+x.1∧(addsB x.2 ((c.parts.drop x.1).map PT.pa))=R) (0,l) ⟨by simp,by simp only;omega,by simpa using hd⟩ ?_ (he:=by simp[obOf,kin,CO.row])
   rintro⟨i,l⟩ ⟨hi,hl,hd⟩
   simp only at hi hl hd
   cases hr:c.parts.drop i with
   | nil =>
    have:=dropn hr
    rw[hr]at hd
    have hie:i=c.parts.length:=by omega
    subst hie
    simp only[List.map_nil,addsB_nil]at hd
    simp -implicitDefEqProofs [obOf,← hd]
   | cons x q =>
    obtain⟨k1,e0,e1,k3⟩:=dropc hr
    rw[hr,List.map_cons,addsB_cons]at hd
    have hli:(i:Int)<c.parts.length:=by omega
    have e2:=i64w ((i:Int)+1) (by omega) (by omega)
    simp -implicitDefEqProofs [obOf,k1,e0,e1,hli,CO.row,PT.row]
    refine qaf [(1000,.whole 900)] (by kernel_rfl) (sPlAddN l x.pa (by omega)) (by simp) (by simp) (by simp[kin];exact qah rfl (clR_kin l)) (by simp) (by simp) ?_
    have hal:=addB_len l x.pa
    rintro r L' ⟨rfl,rfl⟩
    refine⟨[(902,902)],⟨by simp,by simp,by simp,by simp,by simp⟩,?_⟩
    simp only[qan]
    simp -implicitDefEqProofs [e2,CO.row]
    exact nx (i+1,addB l x.pa) [(2,2),(902,900)] ⟨by simp only;omega,by simp only;omega,by simp only[← List.map_drop,k3];exact hd⟩ (by simp only;omega) (h4:=by simp[obOf,e2,CO.row,kin])
  | cons x q =>
   obtain⟨k1,e0,e1,k3⟩:=dropc hr
   rw[hr,List.map_cons,addsB_cons]at hd
   have hli:(i:Int)<c.sets.length:=by omega
   have e2:=i64w ((i:Int)+1) (by omega) (by omega)
   have h8:=h.m8 x (List.mem_of_getElem? e1)
   have hx27:x.row[27]?=some (.int .i64 x.home.pa):=cs_hpa x h8
   have hx27':=(List.getElem?_eq_some_iff.1 hx27).2
   simp -implicitDefEqProofs [obOf,k1,e0,e1,hli,CO.row,qbf x h8,hx27,hx27']
   refine qaf [(1000,.whole 900)] (by kernel_rfl) (sPlAddN l x.home.pa (by omega)) (by simp) (by simp) (by simp[kin];exact qah rfl (clR_kin l)) (by simp) (by simp) ?_
   have hal:=addB_len l x.home.pa
   rintro r L' ⟨rfl,rfl⟩
   refine⟨[(902,902)],⟨by simp,by simp,by simp,by simp,by simp⟩,?_⟩
   simp only[qan]
   simp -implicitDefEqProofs [e2,CO.row]
   exact nx (i+1,addB l x.home.pa) [(2,2),(902,900)] ⟨by simp only;omega,by simp only;omega,by simp only[← List.map_drop,k3];exact hd⟩ (by simp only;omega) (h4:=by simp[obOf,e2,CO.row,kin])
 | cons x q =>
  obtain⟨k1,e0,e1,k3⟩:=dropc hr
  rw[hr,List.map_cons,addsB_cons]at hd
  have hli:(i:Int)<c.ddt.length:=by omega
  have e2:=i64w ((i:Int)+1) (by omega) (by omega)
  simp -implicitDefEqProofs [obOf,k1,e0,e1,hli,CO.row,DE.row]
  refine qaf [(1000,.whole 900)] (by kernel_rfl) (sPlAddN l x.ea (by omega)) (by simp) (by simp) (by simp[kin];exact qah rfl (clR_kin l)) (by simp) (by simp) ?_
  have hal:=addB_len l x.ea
  rintro r L' ⟨rfl,rfl⟩
  refine⟨[(902,902)],⟨by simp,by simp,by simp,by simp,by simp⟩,?_⟩
  simp only[qan]
  simp -implicitDefEqProofs [e2,CO.row]
  exact nx (i+1,addB l x.ea) [(2,2),(902,900)] ⟨by simp only;omega,by simp only;omega,by simp only[← List.map_drop,k3];exact hd⟩ (by simp only;omega) (h4:=by simp[obOf,e2,CO.row,kin])
def deText (e:DE):List UInt8:=dec e.es++(46::(dec e.ea++(46::dec e.ec)))
def desText:List DE→Bool→List UInt8
 | [],_=>[]
 | e::r,first=>(if first=true then [] else [32])++(deText e++desText r false)
def ddText (l:List DE):List UInt8:=if qbc l=true then desText l true else []
theorem deOk_b {e:DE} (h:deOkB e=true):0≤e.es∧e.es<65521∧1≤e.ea∧e.ea<120∧1≤e.ec∧e.ec≤1000:=by
 simp only[deOkB,Bool.and_eq_true,decide_eq_true_eq]at h
 omega
theorem ddt_de {l:List DE} (h:qbc l=true):∀ e∈l,deOkB e=true:=by
 simp only[qbc,Bool.and_eq_true]at h
 exact fun e he=>((ddtR_up h.2).1 e he).2
theorem deText_len {e:DE} (h:deOkB e=true):(deText e).length≤29:=by
 have hb:=deOk_b h
 have h1:=qap e.es (by omega)
 have h2:=qap e.ea (by omega)
 have h3:=qap e.ec (by omega)
 simp[deText];omega
theorem sDdtTextC (l:List DE) (hl:l.length≤1048576):CV prog 289 [.lst 3 (l.map DE.row)] (.str (ddText l)):=by
 obtain⟨R,hR⟩:∃ R,ddText l=R:=⟨_,rfl⟩
 rw[hR]
 unfold ddText at hR
 have c1:=sDdtOkC l hl
 refine cvx func289 [(7,[zI 0,zI 1,zI 2,zI 3,zI 4,zI 5,zI 9,zI 10,zI 11,zI 12,zI 13,zI 17,zI 18,zI 19,zI 20,zI 21,zI 6,zI 7,zI 8,zI 14,zI 15,zI 16,zI 22,zI 23,zI 24])] ntmps289 rfl rfl rfl ?_ (hca:=by simp[DE.row])
 simp -implicitDefEqProofs
 refine ev_lp (X:=Nat×List UInt8) [0,2,3,4] [] (fun x=>[(3,.str x.2),(4,.int .i64 x.1)]) (fun _=>[]) (fun x=>l.length-x.1) (fun x=>x.1≤l.length∧x.2.length≤30 * x.1∧(if qbc l=true then x.2++desText (l.drop x.1) (decide (x.1=0)) else [])=R∧(qbc l=false→x.2=[])) (0,[]) (by simp[← hR]) ?_
 rintro⟨i,t⟩ ⟨hi,hl2,hd,hz⟩
 simp only at hi hl2 hd hz
 cases hok:qbc l with
 | false =>
  rw[hok]at c1
  rw[if_neg (by simp[hok])]at hd
  simp -implicitDefEqProofs
  refine c1.call ?_
  simp -implicitDefEqProofs [hz hok,← hd]
 | true =>
  rw[if_pos hok]at hd
  rw[hok]at c1
  cases hr:l.drop i with
  | nil =>
   have:=dropn hr
   rw[hr]at hd
   have hie:i=l.length:=by omega
   subst hie
   simp only[desText,List.append_nil]at hd
   simp -implicitDefEqProofs
   refine c1.call ?_
   simp -implicitDefEqProofs [hd]
  | cons e q =>
   obtain⟨k1,e0,e1,k3⟩:=dropc hr
   rw[hr]at hd
   have hde:=ddt_de hok e (List.mem_of_getElem? e1)
   have hb:=deOk_b hde
   have hli:(i:Int)<l.length:=by omega
   have e2:=i64w ((i:Int)+1) (by omega) (by omega)
   have d1:=sdecI e.es (by omega) (by omega)
   have d2:=sdecI e.ea (by omega) (by omega)
   have d3:=sdecI e.ec (by omega) (by omega)
   have l1:=qap e.es (by omega)
   have l2:=qap e.ea (by omega)
   have l3:=qap e.ec (by omega)
   have htl:=deText_len hde
   simp -implicitDefEqProofs
   refine c1.call ?_
   by_cases h0:i=0
   ·subst h0
    simp only[desText,decide_true,if_true,List.nil_append]at hd
    simp -implicitDefEqProofs [k1,e0,e1,hli,DE.row]
    refine d1.call ?_
    simp -implicitDefEqProofs
    refine⟨by omega,by omega,?_⟩
    refine d2.call ?_
    simp -implicitDefEqProofs
    refine⟨by omega,by omega,?_⟩
    refine d3.call ?_
    simp -implicitDefEqProofs [e2]
    refine⟨by omega,nx (1,t++deText e) [] ⟨by simp only;omega,by simp only[List.length_append];omega,by simpa [k3]using hd⟩ (by simp only;omega) (h4:=by simp[deText])⟩
   ·have h0':(0:Int)<i:=by omega
    have hdf:decide (i=0)=false:=by simpa using h0
    rw[hdf]at hd
    simp only[desText,Bool.false_eq_true,if_false]at hd
    simp -implicitDefEqProofs [k1,e0,e1,hli,DE.row,h0',h0]
    intro _
    refine⟨by omega,?_⟩
    refine d1.call ?_
    simp -implicitDefEqProofs
    refine⟨by omega,by omega,?_⟩
    refine d2.call ?_
    simp -implicitDefEqProofs
    refine⟨by omega,by omega,?_⟩
    refine d3.call ?_
    simp -implicitDefEqProofs [e2]
    refine⟨by omega,nx (i+1,t++(32::deText e)) [] ⟨by simp only;omega,by simp only[List.length_append,List.length_cons];omega,by simpa [k3]using hd⟩ (by simp only;omega) (h4:=by simp[deText,e2])⟩
theorem cs_dty (s:CS) (h8:s.map.length=8):s.row[30]?=some (.bool s.dirty):=by
 have hl:(s.map.flatMap PT.row).length=24:=by
  rw[List.length_flatMap];exact sum3 h8
 show(.str s.name::.int .i64 s.kind::.str s.frm::(s.map.flatMap PT.row++(s.home.row++[.bool s.dirty])))[30]?=_
 simp only[List.getElem?_cons_succ]
 rw[List.getElem?_append_right (by omega),hl]
 rfl
theorem renL_cs1 (ρ:Nat→Option Plc) (s:CS):renL ρ s.row=s.row:=renL_closed.renL_closedL ρ _ (cs_cl s)
def zK:CO:=⟨0,[],[],[],false,[],0⟩
theorem impA_zk:impA (.agg [.int .i64 0,.nils,.nils,.nils,.bool false,.nils,.int .i64 0]) (.agg zK.row) :=
 impA_ag (.cons (qbw _) (.cons (impA_nils 31) (.cons (impA_nils 3) (.cons (impA_nils 3) (.cons (qbw _) (.cons (impA_nils 1) (.cons (qbw _) .nil)))))))
theorem coreOk_M {c:CO} (h:qax c=true):CoM c∧c.sets.length≤6∧c.ddt.length≤48∧c.parts.length≤8∧0≤c.txg∧c.txg≤1000000∧0≤c.logn∧c.logn≤8:=by
 have hb:=(okB_iff.1 (core_book h)).1
 have hd:=(ddt_ec (core_ddt h)).1
 simp only[qax,Bool.and_eq_true,decide_eq_true_eq]at h
 have h1:=h.1.1.1.1.1.1.1.1.1.1.1
 have h2:=h.1.1.1.1.1.1.1.1.1.1.2
 have h3:=h.1.1.1.1.1.1.1.1.2
 have h4:=h.1.1.1.1.1.1.2
 have h5:=h.1.1.1.1.1.2
 simp only[List.length_map]at hb
 exact⟨⟨by omega,by omega,by omega⟩,hb,hd,h3,h1,h2,h4,h5⟩
end Go.Av.F
end
section
namespace Go.Av
open Go Go.Proofs
variable {P:Program}
theorem ACall.hps {f:Nat} {args:List AV} {L:List (Nat×Ob)} {R R':AV→List (Nat×Ob)→Prop} (h:ACall P f args L R) (hr:∀ r L',R r L'→∃ L2,(∀ i,hpOf L2 i=hpOf L' i)∧R' r L2):ACall P f args L R':=by
 intro w Z γ vs hv hh hg
 refine(h w Z γ vs hv hh hg).mono ?_
 rintro e w' ⟨v,r,L',Z',γ',h1,h2,h3⟩
 obtain⟨L2,he,hR⟩:=hr r L' h2
 have:hpOf L'=hpOf L2:=funext fun i=>(he i).symm
 rw[this]at h3
 exact⟨v,r,L2,Z',γ',h1,hR,h3⟩
end Go.Av
namespace Go.Av.F
open Go Go.Av Go.Proofs Go.Proofs.Tryz
end Go.Av.F
end
section
namespace Go.Av.F
open Go Go.Av Go.Proofs Go.Proofs.Tryz
def zPT:PT:=⟨0,0,0⟩
theorem tk3 {X F:List AV} {n k:Nat} (h:X.length=k):List.take (k+n) (X++F)=X++List.take n F:=by
 subst h
 rw[List.take_append,List.take_of_length_le (by omega)]
 congr 2;omega
theorem dp3 {X F:List AV} {n k:Nat} (h:X.length=k):List.drop (k+n) (X++F)=List.drop n F:=by
 subst h
 rw[List.drop_append,List.drop_of_length_le (by omega),List.nil_append]
 congr 1;omega
theorem flat_set:∀ (l:List PT) (i:Nat) (p:PT),i<l.length→(l.set i p).flatMap PT.row=(l.flatMap PT.row).take (i * 3)++(p.row++(l.flatMap PT.row).drop (i * 3+3))
 | [],i,p,h=>by simp at h
 | x::q,0,p,h=>by simp[PT.row]
 | x::q,i+1,p,h=>by
  have ih:=flat_set q i p (by simpa using h)
  have hx:x.row.length=3:=rfl
  rw[List.set_cons_succ,List.flatMap_cons,ih,List.flatMap_cons,show(i+1) * 3=3+i * 3 by omega,tk3 hx,show 3+i * 3+3=3+(i * 3+3) by omega,dp3 hx,List.append_assoc]
structure PO where
 d:DK
 c:CO
 up:Bool
deriving DecidableEq,Inhabited
def PO.row (p:PO):List AV:=p.d.row++(p.c.row++[.bool p.up])
def poolOkB (p:PO):Bool:=dOkB p.d && decide (13<p.d.s0.length) && qax p.c
theorem sPoolOkC (p:PO) (hd:DkT p.d) (hc:CoT p.c):CV prog 24 [.agg p.row] (.bool (poolOkB p)):=by
 have c1:=sDiskOkC p.d hd
 have c2:=sCoreOk p.c hc
 have hl:=hd.l0
 unfold poolOkB
 simp only[DK.row,CO.row]at c1 c2
 refine cvx func24 [] ntmps24 rfl rfl rfl ?_ (hca:=by simp[PO.row,DK.row,co_cl])
 simp -implicitDefEqProofs [PO.row,DK.row,CO.row]
 refine c1.call ?_
 cases dOkB p.d with
 | false=>simp -implicitDefEqProofs
 | true =>
  simp -implicitDefEqProofs
  by_cases h:13<p.d.s0.length
  ·simp -implicitDefEqProofs [h,show(13:Int)<p.d.s0.length by omega,show ¬ (p.d.s0.length:Int)≤13 by omega]
   refine c2.call ?_
   simp -implicitDefEqProofs
  ·simp -implicitDefEqProofs [h,show ¬ (13:Int)<p.d.s0.length by omega]
abbrev L2:=List (List UInt8)×List (List UInt8)
theorem iLongC (s:List UInt8) (hs:s.length≤1048576):CV prog 204 [.str s] (.bool (decide (420<s.length))):=by
 refine cvx func204 [] ntmps204 rfl rfl rfl ?_
 simp -implicitDefEqProofs
 try omega
def secB (n:Nat) (side at':Int):Bool:=decide (0≤side) && decide (side≤1) && decide (0≤at') && decide (at'<n)
theorem iSectorC (d:DK) (h:DkT d) (side at':Int):CV prog 207 [.agg d.row,.int .i64 side,.int .i64 at'] (.bool (secB d.s0.length side at')):=by
 have:=h.l0
 have e1:=i64w ((d.s0.length:Int)-1) (by omega) (by omega)
 refine cvx func207 [] ntmps207 rfl rfl rfl ?_ (hca:=by simp[DK.row])
 simp -implicitDefEqProofs [DK.row]
 refine(withinC' ..).call ?_
 cases hw:wiB side 0 1 with
 | false =>
  simp -implicitDefEqProofs
  simp only[secB,wiB]at *
  rw[hw];rfl
 | true =>
  simp -implicitDefEqProofs [e1]
  refine(withinC' ..).call ?_
  simp -implicitDefEqProofs
  simp only[secB,wiB,Bool.and_eq_true,decide_eq_true_eq]at *
  have:(at'≤(d.s0.length:Int)-1)↔at'<d.s0.length:=by omega
  simp[hw,this]
theorem rowLT:RowT LT.row 39 171 3:=⟨tt39,⟨_,_,_,tt171⟩,by simp[LT.row]⟩
abbrev dkOb (d:DK):Ob:=⟨3,[d.row]⟩
theorem lateFC (d:DK) (h:DkT d) (w:LT) (hw:w.lx.length≤1048576):CW prog 206 [.agg w.row,.ptr 1000 0 0] (dkOb d) (.bool (!qbt d w.ls w.la w.lx)):=by
 have c1:=iSectorC d h w.ls w.la
 have c2:=iLongC w.lx hw
 simp only[DK.row]at c1
 refine cwx func206 [] ntmps206 rfl rfl rfl ?_ (hco:=by simp[clR,DK.row])
 simp -implicitDefEqProofs [DK.row,LT.row]
 refine c1.call ?_
 cases hs:secB d.s0.length w.ls w.la with
 | false =>
  simp -implicitDefEqProofs
  simp only[secB,qbt]at *
  rw[hs];rfl
 | true =>
  simp -implicitDefEqProofs
  refine c2.call ?_
  simp -implicitDefEqProofs
  simp only[secB,qbt]at *
  rw[hs]
  by_cases g:w.lx.length≤420
  ·simp[g] <;> omega
  ·simp[g] <;> omega
theorem lateIx (d:DK) (h:DkT d) (l:List LT) (hl:l.length≤1048576) (ht:∀ w∈l,w.lx.length≤1048576):CW prog 205 [.lst 3 (l.map LT.row),.fn 206 [.ptr 1000 0 0]] (dkOb d) (.bool (l.any fun w=>!qbt d w.ls w.la w.lx)):=by
 have key:CW prog 293 [.lst 3 (l.map LT.row),.fn 206 [.ptr 1000 0 0]] (dkOb d) (.int .i64 (ixR (fun w=>!qbt d w.ls w.la w.lx) 0 l)):=by
  refine cwx func293 [] ntmps293 rfl rfl rfl ?_ (hco:=by simp[clR,DK.row])
  exact ix_ev1 rowLT _ l (by omega) (fun x hx=>rfl) (by simp[clR,DK.row]) fun x hx=>lateFC d h x (ht x hx)
 refine cwx func205 [] ntmps205 rfl rfl rfl ?_ (hco:=by simp[clR,DK.row])
 simp -implicitDefEqProofs
 refine key.call 1000 (by simp) (by simp[LT.row]) ?_
 simp -implicitDefEqProofs [ixR_ge]
theorem contLong (l:List (List UInt8)) (hl:l.length≤1048576) (ht:∀ x∈l,x.length≤1048576):CV prog 203 [.lst 1 (l.map qai),.fn 204 []] (.bool (l.any fun x=>decide (420<x.length))) :=
 cv_of (contSC (fun x=>decide (420<x.length)) 204 l (by omega) (by kernel_rfl) fun s hs=>(iLongC s (ht s hs)).c)
theorem dOkB_i (d:DK):dOkB d=(wiB d.s0.length 1 120 && decide (d.s1.length=d.s0.length) && !(d.s0.any fun x=>decide (420<x.length)) && !(d.s1.any fun x=>decide (420<x.length)) && (decide (d.late.length≤600) && !(d.late.any fun w=>!qbt d w.ls w.la w.lx))):=by
 have e:∀ l:List (List UInt8),(!(l.any fun x=>decide (420<x.length)))=l.all fun x=>decide (x.length≤420):=fun l=>by
  induction l with
  | nil=>rfl
  | cons x r ih =>
   simp only[List.any_cons,List.all_cons,Bool.not_or,ih]
   congr 1
   by_cases g:x.length≤420
   ·simp[g] <;> omega
   ·simp[g] <;> omega
 have e2:(!(d.late.any fun w=>!qbt d w.ls w.la w.lx))=d.late.all fun w=>qbt d w.ls w.la w.lx:=by
  induction d.late with
  | nil=>rfl
  | cons x r ih=>simp only[List.any_cons,List.all_cons,Bool.not_or,ih,Bool.not_not]
 rw[e,e,e2]
 unfold dOkB wiB
 have e3:decide ((1:Int)≤(d.s0.length:Int))=decide (1≤d.s0.length):=by simp;omega
 have e4:decide ((d.s0.length:Int)≤120)=decide (d.s0.length≤120):=by simp;omega
 rw[e3,e4]
 cases decide (1≤d.s0.length) <;> cases decide (d.s0.length≤120) <;> cases decide (d.s1.length=d.s0.length) <;> cases decide (d.late.length≤600) <;> simp
theorem iDiskOkC (d:DK) (h:DkT d):CV prog 116 [.agg d.row] (.bool (dOkB d)):=by
 rw[dOkB_i]
 have h0:=h.l0
 have h1:=h.l1
 have h2:=h.l2
 have c1:=contLong d.s0 h0 h.t0
 have c2:=contLong d.s1 h1 h.t1
 have c3:=lateIx d h d.late h2 h.t2
 have c0:=withinC' d.s0.length 1 120
 generalize hA:wiB d.s0.length 1 120=A at *
 generalize hB:(d.s0.any fun x=>decide (420<x.length))=B at *
 generalize hC:(d.s1.any fun x=>decide (420<x.length))=C at *
 generalize hD:(d.late.any fun w=>!qbt d w.ls w.la w.lx)=D at *
 refine cvx func116 [] ntmps116 rfl rfl rfl ?_ (hca:=by simp[DK.row])
 simp -implicitDefEqProofs [DK.row]
 refine c0.call ?_
 cases A with
 | false=>simp -implicitDefEqProofs
 | true =>
  by_cases g:d.s1.length=d.s0.length
  ·simp -implicitDefEqProofs [g]
   refine c1.call ?_
   cases B with
   | true=>simp -implicitDefEqProofs
   | false =>
    simp -implicitDefEqProofs
    refine c2.call ?_
    cases C with
    | true=>simp -implicitDefEqProofs
    | false =>
     by_cases g2:d.late.length≤600
     ·simp -implicitDefEqProofs [g2,show(d.late.length:Int)≤600 by omega]
      refine c3.call 1 (by simp[DK.row]) (by simp[LT.row]) ?_
      simp -implicitDefEqProofs
     ·simp -implicitDefEqProofs [g2,show ¬ (d.late.length:Int)≤600 by omega]
  ·simp -implicitDefEqProofs [g,show ¬ (d.s1.length:Int)=d.s0.length by omega]
theorem iTextC (d:DK) (h:DkT d) (side at':Int) (hs:side=0∨side=1) (ha:0≤at'∧at'<d.s0.length) (h1:d.s1.length=d.s0.length):CV prog 210 [.agg d.row,.int .i64 side,.int .i64 at'] (.str (readB d side at')):=by
 obtain⟨R,hR⟩:∃ R,readB d side at'=R:=⟨_,rfl⟩
 rw[hR]
 have h0:=h.l0
 have h2:=h.l2
 refine cvx func210 [] ntmps210 rfl rfl rfl ?_ (hca:=by simp[DK.row])
 have e0:=i64w ((d.late.length:Int)-1) (by omega) (by omega)
 simp -implicitDefEqProofs [DK.row,e0]
 refine ev_lp (X:=Nat) [1,2,3,7] [(3,3)] (fun i=>[(7,.int .i64 ((i:Int)-1))]) (fun _=>[]) (fun i=>i) (fun i=>i≤d.late.length∧(d.late.drop i).all (fun w=>!lateF side at' w)=true) d.late.length (by simp) ?_ (he:=by simp[obOf])
 rintro i ⟨hi,hd⟩
 cases i with
 | zero =>
  have hf:d.late.reverse.find? (lateF side at')=none:=by
   rw[List.find?_eq_none]
   intro y hy
   rw[List.mem_reverse]at hy
   simpa using List.all_eq_true.1 hd y hy
  unfold readB at hR
  rw[hf]at hR
  have ha0:at'.toNat<d.s0.length:=by omega
  have ha1:at'.toNat<d.s1.length:=by omega
  have ha1':at'<d.s1.length:=by omega
  rcases hs with rfl | rfl
  ·have hx:d.s0[at'.toNat]?=some R:=by
    rw[List.getElem?_eq_getElem ha0]
    simpa [sideL,List.getElem?_eq_getElem ha0]using hR
   have hx0:=(List.getElem?_eq_some_iff.1 hx).2
   simp -implicitDefEqProofs [obOf,ha.1,ha.2,ha0,hx,hx0,qai]
  ·have hx:d.s1[at'.toNat]?=some R:=by
    rw[List.getElem?_eq_getElem ha1]
    simpa [sideL,List.getElem?_eq_getElem ha1]using hR
   have hx0:=(List.getElem?_eq_some_iff.1 hx).2
   simp -implicitDefEqProofs [obOf,ha.1,ha1',ha1,hx,hx0,qai]
 | succ k =>
  have hk:k<d.late.length:=by omega
  obtain⟨w,hw⟩:∃ w,d.late[k]?=some w:=⟨_,List.getElem?_eq_getElem hk⟩
  have hw0:=(List.getElem?_eq_some_iff.1 hw).2
  have e1:((k+1:Nat):Int)-1=k:=by omega
  have e2:(0:Int)≤k:=by omega
  have e3:(k:Int)<d.late.length:=by omega
  have e4:=i64w ((k:Int)-1) (by omega) (by omega)
  have hf:=find_rev (lateF side at') hw hd
  have hdk:(d.late.drop k).all (fun w=>!lateF side at' w)=(!lateF side at' w && (d.late.drop (k+1)).all (fun w=>!lateF side at' w)):=by
   rw[List.drop_eq_getElem_cons hk,hw0,List.all_cons]
  have hnx:lateF side at' w=false→∀ x∈d.late.drop k,lateF side at' x=false:=fun hl x hx=>by
   rw[hl,hd]at hdk
   simpa using List.all_eq_true.1 hdk x hx
  have hlx:lateF side at' w=true→w.lx=R:=fun hl=>by
   rw[if_pos hl]at hf
   unfold readB at hR
   rw[hf]at hR
   exact hR
  simp only[e1]
  simp -implicitDefEqProofs [obOf,LT.row,hk,hw,hw0,e2,e3,e4]
  refine⟨fun q1=>⟨fun q2=>hlx (by simp[lateF,q1,q2]),fun q2=>nx k [(3,3)] ⟨by omega,hnx (by simp[lateF,q2])⟩ (h4:=by simp[obOf,e4])⟩,fun q1=>nx k [(3,3)] ⟨by omega,hnx (by simp[lateF,q1])⟩ (h4:=by simp[obOf,e4])⟩
theorem iHasC (d:DK) (hd:dOkB d=true) (p:PT) (side:Int) (hs:side=0∨side=1):CV prog 209 [.agg d.row,.agg p.row,.int .i64 side] (.bool (qbt d side p.pa [] && decide ((smB (readB d side p.pa):Int)=p.ps))):=by
 have h:=dOk_T hd
 have c1:=iSectorC d h side p.pa
 have hse:qbt d side p.pa []=secB d.s0.length side p.pa:=by simp[qbt,secB]
 simp only[DK.row]at c1
 refine cvx func209 [(1,[zJ 0 [3] [],zJ 1 [] [3],zJ 2 [] [3],zJ 3 [4] [3],zI 4,zI 5,zJ 6 [3] [],zJ 7 [] [3],zJ 8 [] [3],zJ 9 [4] [3],zJ 12 [] [3,4],zJ 13 [4] [3,4],zJ 10 [] [4],zJ 11 [] [4],zI 14,zI 15,zI 16])] ntmps209 rfl rfl rfl ?_ (hca:=by simp[DK.row,PT.row])
 simp -implicitDefEqProofs [DK.row,PT.row]
 refine c1.call ?_
 rw[hse]
 cases hb:secB d.s0.length side p.pa with
 | false=>simp -implicitDefEqProofs
 | true =>
  obtain⟨n1,n2,n3⟩:=thereB_iff.1 (hse.trans hb)
  have c2:=iTextC d h side p.pa n1 n2 (dOk_len hd).2.2.1
  have c3:CV prog 272 [.str (readB d side p.pa)] (.int .i64 (smB (readB d side p.pa):Nat)):=isumC _ (by have:=readB_len hd side p.pa;simp[maxLen];omega)
  simp only[DK.row]at c2
  simp -implicitDefEqProofs
  refine c2.call ?_
  simp -implicitDefEqProofs
  refine c3.call ?_
  simp -implicitDefEqProofs
  by_cases q:(smB (readB d side p.pa):Int)=p.ps <;> simp[q]
theorem side_has {d:DK} (hd:dOkB d=true) {p:PT} (hp:ptOkB p=true) (h0:0<p.pa) (side:Int):qav d p side=(qbt d side p.pa [] && decide ((smB (readB d side p.pa):Int)=p.ps)):=by
 unfold qav qbo
 cases h:qbt d side p.pa [] <;> simp[hd,hp,h0]
theorem iBlkReadC (d:DK) (h:DkT d) (p:PT):CV prog 117 [.agg d.row,.agg p.row] (.tup [.str (qad d p).1,.int .i64 (qad d p).2]):=by
 obtain⟨R,hR⟩:∃ R,qad d p=R:=⟨_,rfl⟩
 rw[hR]
 unfold qad at hR
 have c1:=iDiskOkC d h
 have c2:=realC p
 simp only[DK.row,PT.row]at c1 c2
 refine cvx func117 [] ntmps117 rfl rfl rfl ?_ (hca:=by simp[DK.row,PT.row])
 have hz:(ptOkB p && decide (p.pa=0))=(decide (p.pa=0) && decide (p.ps=0) && decide (p.pb=0)):=by
  unfold ptOkB
  by_cases g:p.pa=0 <;> simp[g]
 rw[hz]at hR
 by_cases q0:p.pa=0∧p.ps=0∧p.pb=0
 ·rw[if_pos (by simp[q0])]at hR
  subst hR
  obtain⟨a1,a2,a3⟩:=q0
  simp -implicitDefEqProofs [DK.row,PT.row,a1,a2,a3]
 ·rw[if_neg (by simpa [and_assoc]using q0)]at hR
  have q0':p.pa=0→p.ps=0→¬ p.pb=0:=fun a b c=>q0 ⟨a,b,c⟩
  have hno:dOkB d=false∨qam p=false→R=([],2):=fun hb=>by
   rw[← hR]
   have e:∀ side,qav d p side=false:=fun side=>by
    cases hx:qav d p side with
    | false=>rfl
    | true =>
     obtain⟨m1,m2,m3,_⟩:=side_read hx
     rcases hb with hb | hb
     ·rw[m1]at hb;cases hb
     ·simp[qam,m2]at hb
      omega
   simp[e]
  simp -implicitDefEqProofs [DK.row,PT.row]
  refine⟨fun a b c=>absurd c (q0' a b),fun hne=>?_⟩
  clear hne
  refine c1.call ?_
  cases hok:dOkB d with
  | false =>
   have:=hno (.inl hok)
   subst this
   simp -implicitDefEqProofs
  | true =>
   simp -implicitDefEqProofs
   refine c2.call ?_
   cases hre:qam p with
   | false =>
    have:=hno (.inr hre)
    subst this
    simp -implicitDefEqProofs
   | true =>
    have hp:ptOkB p=true:=by simp[qam]at hre;exact hre.1
    have h0:0<p.pa:=by
     simp[qam]at hre
     unfold ptOkB at hp
     rw[if_neg hre.2]at hp
     simp at hp;omega
    have hsd:=side_has hok hp h0
    have key:∀ j:Nat,j<2→qav d p j=true→(∀ k:Nat,k<j→qav d p k=false)→R=(readB d j p.pa,0):=fun j hj h1 h2=>by
     rw[← hR]
     rcases(show j=0∨j=1 by omega)with rfl | rfl
     ·have h1':qav d p 0=true:=h1
      simp[h1']
     ·have h2':qav d p 0=false:=h2 0 (by omega)
      have h1':qav d p 1=true:=h1
      simp[h1',h2']
    have key2:qav d p 0=false→qav d p 1=false→R=([],2):=fun h1 h2=>by rw[← hR,h1,h2];simp
    simp -implicitDefEqProofs
    refine ev_lp (X:=Nat) [2,3,4,5,16] [(2,2),(3,3)] (fun i=>[(16,.int .i64 i)]) (fun _=>[]) (fun i=>2-i) (fun i=>i≤2∧∀ k:Nat,k<i→qav d p k=false) 0 (by simp) ?_ (he:=by simp[obOf])
    rintro i ⟨hi,hf⟩
    by_cases h2:i=2
    ·subst h2
     have:=key2 (hf 0 (by omega)) (hf 1 (by omega))
     simp -implicitDefEqProofs [obOf,this]
    ·have h2':i<2:=by omega
     have h2i:(i:Int)<2:=by omega
     have e2:=i64w ((i:Int)+1) (by omega) (by omega)
     have c4:=iHasC d hok p i (by omega)
     rw[← hsd]at c4
     simp only[DK.row,PT.row]at c4
     simp -implicitDefEqProofs [obOf,h2i]
     refine c4.call ?_
     cases hb:qav d p i with
     | true =>
      have hk:=key i h2' hb hf
      obtain⟨m1,m2,m3,m4,m5⟩:=side_read hb
      obtain⟨n1,n2,n3⟩:=thereB_iff.1 m4
      have c5:=iTextC d h i p.pa n1 n2 (dOk_len m1).2.2.1
      simp only[DK.row]at c5
      simp -implicitDefEqProofs
      refine c5.call ?_
      simp -implicitDefEqProofs [hk]
     | false =>
      simp -implicitDefEqProofs
      exact nx (i+1) [(2,2),(3,3)] ⟨by omega,fun k hk=>by
       rcases(show k<i∨k=i by omega)with h | rfl
       ·exact hf k h
       ·exact hb⟩ (h4:=by simp[obOf,e2])
end Go.Av.F
end
