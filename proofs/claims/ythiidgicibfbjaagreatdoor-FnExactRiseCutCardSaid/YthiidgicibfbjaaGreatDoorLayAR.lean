/- Lemmas for the proof, no statement of the seat; no conditions. -/
import Derived.Test.YthiidgicibfbjaaGreatDoorLayAQ
import Derived.Shelf.Strings.Builder1
import Derived.Shelf.Small.Strs
import Derived.Shelf.Strconv.Atoi
import Derived.Shelf.Strconv.Itoa0
import Derived.Shelf.Strconv.Itoa1
import Derived.Shelf.LaysM
import Derived.Shelf.Strconv.Itoa2
import Derived.Shelf.Strconv.Itoa3
import Derived.Shelf.Strconv.AtoiErrFast
import Derived.Shelf.Strconv.ParseIntEmpty
import Derived.Shelf.Strconv.AtoiFail
import Derived.Shelf.Strconv.Clone
import Derived.Shelf.Strconv.SyntaxError
import Derived.Shelf.LaysC
import Derived.Shelf.Strconv.ToError
import Derived.Shelf.Strconv.Lower
import Derived.Shelf.Strconv.ParseUint10
import Derived.Shelf.Strconv.ParseUint10Empty
import Derived.Shelf.Strconv.ParseUint10Any
import Derived.Shelf.Strconv.ParseInt10
import Derived.Shelf.Strconv.AtoiLong
import Derived.Shelf.Strconv.AtoiInnerAll
import Derived.Shelf.Strconv.RangeError
import Derived.Shelf.Strconv.ToErrorRange
import Derived.Shelf.Strconv.AtoiAll
import Derived.Shelf.Strings.Search1
import Derived.Shelf.Strings.Search2
import Derived.Shelf.Strings.Search3
import Derived.Shelf.Strings.Count
import Derived.Shelf.Sort.Plain
import Derived.Test.YthiidgicibfbjaaGreatDoorProg
set_option linter.unusedSimpArgs false
set_option linter.unusedVariables false
set_option linter.unnecessarySimpa false
set_option maxRecDepth 100000
section
namespace Go.Proofs
open Go.Shelf Go.RowKit Go.Sort Go.Lib
def Tryz.lays137_ren:Go.Shelf.Ren:=⟨fun | 137=>329 | 217=>366 | 266=>390 | n=>n,fun | 9=>9 | 5=>5 | 3=>3 | n=>n,fun | n=>n⟩
theorem Tryz.lays137:Go.Proofs.Lays.n137 Tryz.prog Tryz.lays137_ren:={
 mixed:=by kernel_rfl
 f137:=Tryz.func329.trans (congrArg some (by kernel_rfl))
 f217:=Tryz.func366.trans (congrArg some (by kernel_rfl))
 f266:=Tryz.func390.trans (congrArg some (by kernel_rfl))
 t3:=Tryz.underlying3
 a3:=Tryz.isAgg3
 z3:=Tryz.sizeOf3
 v3:=Tryz.zeroValue3
 t5:=Tryz.underlying5
 a5:=Tryz.isAgg5
 z5:=Tryz.sizeOf5
 v5:=Tryz.zeroValue5
 t9:=Tryz.underlying9
 a9:=Tryz.isAgg9
 z9:=Tryz.sizeOf9
 v9:=Tryz.zeroValue9 }
theorem Tryz.strings_IndexByte (s:ByteArray) (c:Int) (w:World) :
  Calls Tryz.prog 329 #[.string s,.int .u8 c] w fun e w'=>e=.returned (.int .i64 (Lib.indexByte s.data.toList c.toNat.toUInt8))∧w'=w:=Any.strings_IndexByte Tryz.lays137 s c w
def Tryz.laysM171_ren:Go.Shelf.Ren:=⟨fun | 171=>261 | 243=>313 | 246=>356 | 283=>382 | 284=>383 | 285=>384 | 286=>385 | 129=>324 | 317=>398 | 318=>399 | 319=>400 | 320=>401 | 337=>407 | 338=>408 | n=>n,fun | 3=>3 | 9=>9 | 2=>2 | 4=>4 | 171=>360 | 0=>0 | 53=>316 | 37=>237 | 5=>5 | 173=>362 | 212=>381 | 51=>314 | 20=>20 | 213=>382 | 46=>277 | 232=>389 | 233=>390 | n=>n,fun | 17=>5 | 18=>6 | 19=>7 | n=>n⟩
theorem Tryz.laysM171:Go.Proofs.LaysM.n171 Tryz.prog Tryz.laysM171_ren:={
 mixed:=by kernel_rfl
 f129:=Tryz.func324.trans (congrArg some (by kernel_rfl))
 f171:=Tryz.func261.trans (congrArg some (by kernel_rfl))
 f243:=Tryz.func313.trans (congrArg some (by kernel_rfl))
 f246:=Tryz.func356.trans (congrArg some (by kernel_rfl))
 f283:=Tryz.func382.trans (congrArg some (by kernel_rfl))
 f284:=Tryz.func383.trans (congrArg some (by kernel_rfl))
 f285:=Tryz.func384.trans (congrArg some (by kernel_rfl))
 f286:=Tryz.func385.trans (congrArg some (by kernel_rfl))
 f317:=Tryz.func398.trans (congrArg some (by kernel_rfl))
 f318:=Tryz.func399.trans (congrArg some (by kernel_rfl))
 f319:=Tryz.func400.trans (congrArg some (by kernel_rfl))
 f320:=Tryz.func401.trans (congrArg some (by kernel_rfl))
 f337:=Tryz.func407.trans (congrArg some (by kernel_rfl))
 f338:=Tryz.func408.trans (congrArg some (by kernel_rfl))
 t0:=Tryz.underlying0
 a0:=Tryz.isAgg0
 z0:=Tryz.sizeOf0
 v0:=Tryz.zeroValue0
 t2:=Tryz.underlying2
 a2:=Tryz.isAgg2
 z2:=Tryz.sizeOf2
 v2:=Tryz.zeroValue2
 t3:=Tryz.underlying3
 a3:=Tryz.isAgg3
 z3:=Tryz.sizeOf3
 v3:=Tryz.zeroValue3
 t4:=Tryz.underlying4
 a4:=Tryz.isAgg4
 z4:=Tryz.sizeOf4
 v4:=Tryz.zeroValue4
 t5:=Tryz.underlying5
 a5:=Tryz.isAgg5
 z5:=Tryz.sizeOf5
 v5:=Tryz.zeroValue5
 t9:=Tryz.underlying9
 a9:=Tryz.isAgg9
 z9:=Tryz.sizeOf9
 v9:=Tryz.zeroValue9
 t20:=Tryz.underlying20
 a20:=Tryz.isAgg20
 z20:=Tryz.sizeOf20
 v20:=Tryz.zeroValue20
 t37:=Tryz.underlying237
 a37:=Tryz.isAgg237
 z37:=Tryz.sizeOf237
 v37:=Tryz.zeroValue237
 t46:=Tryz.underlying277
 a46:=Tryz.isAgg277
 z46:=Tryz.sizeOf277
 v46:=Tryz.zeroValue277
 t51:=Tryz.underlying314
 a51:=Tryz.isAgg314
 z51:=Tryz.sizeOf314
 v51:=Tryz.zeroValue314
 t53:=Tryz.underlying316
 a53:=Tryz.isAgg316
 z53:=Tryz.sizeOf316
 v53:=Tryz.zeroValue316
 t171:=Tryz.underlying360
 a171:=Tryz.isAgg360
 z171:=Tryz.sizeOf360
 v171:=Tryz.zeroValue360
 t173:=Tryz.underlying362
 a173:=Tryz.isAgg362
 z173:=Tryz.sizeOf362
 v173:=Tryz.zeroValue362
 t212:=Tryz.underlying381
 a212:=Tryz.isAgg381
 z212:=Tryz.sizeOf381
 v212:=Tryz.zeroValue381
 t213:=Tryz.underlying382
 a213:=Tryz.isAgg382
 z213:=Tryz.sizeOf382
 t232:=Tryz.underlying389
 a232:=Tryz.isAgg389
 z232:=Tryz.sizeOf389
 v232:=Tryz.zeroValue389
 t233:=Tryz.underlying390
 a233:=Tryz.isAgg390
 z233:=Tryz.sizeOf390
 v233:=Tryz.zeroValue390
 g17:=by kernel_rfl
 g18:=by kernel_rfl
 g19:=by kernel_rfl
 i0:=by kernel_rfl
 i2:=by kernel_rfl
 i3:=by kernel_rfl
 i4:=by kernel_rfl
 i5:=by kernel_rfl
 i9:=by kernel_rfl
 i20:=by kernel_rfl
 i37:=by kernel_rfl
 i46:=by kernel_rfl
 i51:=by kernel_rfl
 i53:=by kernel_rfl
 i171:=by kernel_rfl
 i173:=by kernel_rfl
 i212:=by kernel_rfl
 i232:=by kernel_rfl
 i233:=by kernel_rfl
 m17:=by kernel_rfl
 m18:=by kernel_rfl
 m19:=by kernel_rfl }
theorem Tryz.strconv_Itoa (n:Int) (h0:-9223372036854775808≤n) (h1:n≤9223372036854775807) (w:World) (htab:Lib.TabIs Tryz.prog w "internal/strconv.uint64pow10" .u64 Lib.pow10Tab) :
  Calls Tryz.prog 261 #[.int .i64 n] w fun e w'=>e=.returned (.string ⟨(Lib.itoa n).toArray⟩)∧∃ k os,w'=grow (w.drewN k) os:=Any.strconv_Itoa Tryz.laysM171 n h0 h1 w htab
def Tryz.laysC172_ren:Go.Shelf.Ren:=⟨fun | 172=>252 | 244=>305 | 245=>306 | 247=>340 | 279=>341 | 280=>342 | 281=>343 | 282=>344 | 287=>372 | 316=>373 | 171=>261 | 205=>374 | 321=>393 | 322=>394 | 243=>313 | 246=>356 | 283=>382 | 284=>383 | 285=>384 | 286=>385 | 129=>324 | 317=>398 | 318=>399 | 319=>400 | 320=>401 | 337=>407 | 338=>408 | n=>n,fun | 9=>9 | 3=>3 | 75=>262 | 76=>263 | 4=>4 | 5=>5 | 167=>323 | 37=>237 | 0=>0 | 85=>324 | 2=>2 | 168=>326 | 53=>316 | 175=>352 | 46=>277 | 210=>355 | 127=>364 | 145=>372 | 143=>370 | 21=>21 | 171=>360 | 173=>362 | 212=>381 | 51=>314 | 20=>20 | 213=>382 | 232=>389 | 233=>390 | 80=>343 | n=>n,fun | 15=>1 | 16=>2 | 17=>5 | 18=>6 | 19=>7 | n=>n⟩
theorem Tryz.laysC172:Go.Proofs.LaysC.n172 Tryz.prog Tryz.laysC172_ren:={
 mixed:=by kernel_rfl
 f129:=Tryz.func324.trans (congrArg some (by kernel_rfl))
 f171:=Tryz.func261.trans (congrArg some (by kernel_rfl))
 f172:=Tryz.func252.trans (congrArg some (by kernel_rfl))
 f205:=Tryz.func374.trans (congrArg some (by kernel_rfl))
 f243:=Tryz.func313.trans (congrArg some (by kernel_rfl))
 f244:=Tryz.func305.trans (congrArg some (by kernel_rfl))
 f245:=Tryz.func306.trans (congrArg some (by kernel_rfl))
 f246:=Tryz.func356.trans (congrArg some (by kernel_rfl))
 f247:=Tryz.func340.trans (congrArg some (by kernel_rfl))
 f279:=Tryz.func341.trans (congrArg some (by kernel_rfl))
 f280:=Tryz.func342.trans (congrArg some (by kernel_rfl))
 f281:=Tryz.func343.trans (congrArg some (by kernel_rfl))
 f282:=Tryz.func344.trans (congrArg some (by kernel_rfl))
 f283:=Tryz.func382.trans (congrArg some (by kernel_rfl))
 f284:=Tryz.func383.trans (congrArg some (by kernel_rfl))
 f285:=Tryz.func384.trans (congrArg some (by kernel_rfl))
 f286:=Tryz.func385.trans (congrArg some (by kernel_rfl))
 f287:=Tryz.func372.trans (congrArg some (by kernel_rfl))
 f316:=Tryz.func373.trans (congrArg some (by kernel_rfl))
 f317:=Tryz.func398.trans (congrArg some (by kernel_rfl))
 f318:=Tryz.func399.trans (congrArg some (by kernel_rfl))
 f319:=Tryz.func400.trans (congrArg some (by kernel_rfl))
 f320:=Tryz.func401.trans (congrArg some (by kernel_rfl))
 f321:=Tryz.func393.trans (congrArg some (by kernel_rfl))
 f322:=Tryz.func394.trans (congrArg some (by kernel_rfl))
 f337:=Tryz.func407.trans (congrArg some (by kernel_rfl))
 f338:=Tryz.func408.trans (congrArg some (by kernel_rfl))
 t0:=Tryz.underlying0
 a0:=Tryz.isAgg0
 z0:=Tryz.sizeOf0
 v0:=Tryz.zeroValue0
 t2:=Tryz.underlying2
 a2:=Tryz.isAgg2
 z2:=Tryz.sizeOf2
 v2:=Tryz.zeroValue2
 t3:=Tryz.underlying3
 a3:=Tryz.isAgg3
 z3:=Tryz.sizeOf3
 v3:=Tryz.zeroValue3
 t4:=Tryz.underlying4
 a4:=Tryz.isAgg4
 z4:=Tryz.sizeOf4
 v4:=Tryz.zeroValue4
 t5:=Tryz.underlying5
 a5:=Tryz.isAgg5
 z5:=Tryz.sizeOf5
 v5:=Tryz.zeroValue5
 t9:=Tryz.underlying9
 a9:=Tryz.isAgg9
 z9:=Tryz.sizeOf9
 v9:=Tryz.zeroValue9
 t20:=Tryz.underlying20
 a20:=Tryz.isAgg20
 z20:=Tryz.sizeOf20
 v20:=Tryz.zeroValue20
 t21:=Tryz.underlying21
 a21:=Tryz.isAgg21
 z21:=Tryz.sizeOf21
 v21:=Tryz.zeroValue21
 t37:=Tryz.underlying237
 a37:=Tryz.isAgg237
 z37:=Tryz.sizeOf237
 v37:=Tryz.zeroValue237
 t46:=Tryz.underlying277
 a46:=Tryz.isAgg277
 z46:=Tryz.sizeOf277
 v46:=Tryz.zeroValue277
 t51:=Tryz.underlying314
 a51:=Tryz.isAgg314
 z51:=Tryz.sizeOf314
 v51:=Tryz.zeroValue314
 t53:=Tryz.underlying316
 a53:=Tryz.isAgg316
 z53:=Tryz.sizeOf316
 v53:=Tryz.zeroValue316
 t75:=Tryz.underlying262
 a75:=Tryz.isAgg262
 z75:=Tryz.sizeOf262
 v75:=Tryz.zeroValue262
 t76:=Tryz.underlying263
 a76:=Tryz.isAgg263
 z76:=Tryz.sizeOf263
 v76:=Tryz.zeroValue263
 t85:=Tryz.underlying324
 a85:=Tryz.isAgg324
 z85:=Tryz.sizeOf324
 v85:=Tryz.zeroValue324
 t127:=Tryz.underlying364
 a127:=Tryz.isAgg364
 z127:=Tryz.sizeOf364
 v127:=Tryz.zeroValue364
 t143:=Tryz.underlying370
 a143:=Tryz.isAgg370
 z143:=Tryz.sizeOf370
 v143:=Tryz.zeroValue370
 t145:=Tryz.underlying372
 a145:=Tryz.isAgg372
 z145:=Tryz.sizeOf372
 v145:=Tryz.zeroValue372
 t167:=Tryz.underlying323
 a167:=Tryz.isAgg323
 z167:=Tryz.sizeOf323
 v167:=Tryz.zeroValue323
 t168:=Tryz.underlying326
 a168:=Tryz.isAgg326
 z168:=Tryz.sizeOf326
 v168:=Tryz.zeroValue326
 t171:=Tryz.underlying360
 a171:=Tryz.isAgg360
 z171:=Tryz.sizeOf360
 v171:=Tryz.zeroValue360
 t173:=Tryz.underlying362
 a173:=Tryz.isAgg362
 z173:=Tryz.sizeOf362
 v173:=Tryz.zeroValue362
 t175:=Tryz.underlying352
 a175:=Tryz.isAgg352
 z175:=Tryz.sizeOf352
 v175:=Tryz.zeroValue352
 t210:=Tryz.underlying355
 a210:=Tryz.isAgg355
 z210:=Tryz.sizeOf355
 v210:=Tryz.zeroValue355
 t212:=Tryz.underlying381
 a212:=Tryz.isAgg381
 z212:=Tryz.sizeOf381
 v212:=Tryz.zeroValue381
 t213:=Tryz.underlying382
 a213:=Tryz.isAgg382
 z213:=Tryz.sizeOf382
 t232:=Tryz.underlying389
 a232:=Tryz.isAgg389
 z232:=Tryz.sizeOf389
 v232:=Tryz.zeroValue389
 t233:=Tryz.underlying390
 a233:=Tryz.isAgg390
 z233:=Tryz.sizeOf390
 v233:=Tryz.zeroValue390
 g15:=by kernel_rfl
 g16:=by kernel_rfl
 g17:=by kernel_rfl
 g18:=by kernel_rfl
 g19:=by kernel_rfl
 t80:=Tryz.underlying343
 a80:=Tryz.isAgg343
 z80:=Tryz.sizeOf343
 v80:=Tryz.zeroValue343
 i0:=by kernel_rfl
 i2:=by kernel_rfl
 i3:=by kernel_rfl
 i4:=by kernel_rfl
 i5:=by kernel_rfl
 i9:=by kernel_rfl
 i20:=by kernel_rfl
 i21:=by kernel_rfl
 i37:=by kernel_rfl
 i46:=by kernel_rfl
 i51:=by kernel_rfl
 i53:=by kernel_rfl
 i75:=by kernel_rfl
 i76:=by kernel_rfl
 i80:=by kernel_rfl
 i85:=by kernel_rfl
 i127:=by kernel_rfl
 i143:=by kernel_rfl
 i145:=by kernel_rfl
 i167:=by kernel_rfl
 i168:=by kernel_rfl
 i171:=by kernel_rfl
 i173:=by kernel_rfl
 i175:=by kernel_rfl
 i210:=by kernel_rfl
 i212:=by kernel_rfl
 i232:=by kernel_rfl
 i233:=by kernel_rfl
 m15:=by kernel_rfl
 m16:=by kernel_rfl
 m17:=by kernel_rfl
 m18:=by kernel_rfl
 m19:=by kernel_rfl
 c0:=by kernel_rfl
 c2:=by kernel_rfl
 c3:=by kernel_rfl
 c4:=by kernel_rfl
 c5:=by kernel_rfl
 c9:=by kernel_rfl
 c20:=by kernel_rfl
 c21:=by kernel_rfl
 c37:=by kernel_rfl
 c46:=by kernel_rfl
 c51:=by kernel_rfl
 c53:=by kernel_rfl
 c75:=by kernel_rfl
 c76:=by kernel_rfl
 c80:=by kernel_rfl
 c85:=by kernel_rfl
 c127:=by kernel_rfl
 c143:=by kernel_rfl
 c145:=by kernel_rfl
 c167:=by kernel_rfl
 c168:=by kernel_rfl
 c171:=by kernel_rfl
 c173:=by kernel_rfl
 c175:=by kernel_rfl
 c210:=by kernel_rfl
 c212:=by kernel_rfl
 c213:=by kernel_rfl
 c232:=by kernel_rfl
 c233:=by kernel_rfl }
theorem Tryz.strconv_Atoi_ok (s:ByteArray) (hmax:s.size≤9223372036854775806) (v:Int) (h:Lib.atoiAll s.data.toList=.ok v) (w:World) :
  Calls Tryz.prog 252 #[.string s] w fun e w'=>e=.returned (.tuple #[.int .i64 v,.nilIface])∧(w'=w∨∃ t,w'=Lib.bytesWorld w 5 t):=Any.strconv_Atoi_ok Tryz.laysC172 s hmax v h w
theorem Tryz.strconv_Atoi_syntax (s:ByteArray) (hlim:s.size≤281474976710656) (h:Lib.atoiAll s.data.toList=Lib.atoiAll []) (ev:Value) (w:World) (hv:w.cell? ⟨1,0,none⟩=some ev) (hev:ev=.nilIface∨∃ te pe,ev=.iface te pe) :
  Calls Tryz.prog 252 #[.string s] w fun e w'=>∃ N,e=.returned (.tuple #[.int .i64 (0),.iface 326 (.pointer (some ⟨N,0,none⟩))])∧w.heap.size≤N∧w'.heap[N]?=some (.cells #[.string ⟨#[65,116,111,105]⟩,.string s,ev] 355 (0,0))∧Below w.heap.size w w':=Any.strconv_Atoi_syntax Tryz.laysC172 s hlim h ev w hv hev
theorem Tryz.strconv_Atoi_range (s:ByteArray) (hlim:s.size≤281474976710656) (h:Lib.atoiAll s.data.toList=.range) (ev:Value) (w:World) (hv:w.cell? ⟨2,0,none⟩=some ev) (hev:ev=.nilIface∨∃ te pe,ev=.iface te pe) :
  Calls Tryz.prog 252 #[.string s] w fun e w'=>∃ N,e=.returned (.tuple #[.int .i64 (Lib.atoiSat s.data.toList),.iface 326 (.pointer (some ⟨N,0,none⟩))])∧w.heap.size≤N∧w'.heap[N]?=some (.cells #[.string ⟨#[65,116,111,105]⟩,.string s,ev] 355 (0,0))∧Below w.heap.size w w':=Any.strconv_Atoi_range Tryz.laysC172 s hlim h ev w hv hev
def Tryz.lays219_ren:Go.Shelf.Ren:=⟨fun | 219=>348 | 217=>366 | 225=>376 | 224=>377 | 267=>378 | 266=>390 | 314=>395 | n=>n,fun | 9=>9 | 3=>3 | 4=>4 | 5=>5 | 46=>277 | 146=>377 | 51=>314 | n=>n,fun | 1=>0 | n=>n⟩
theorem Tryz.lays219:Go.Proofs.Lays.n219 Tryz.prog Tryz.lays219_ren:={
 mixed:=by kernel_rfl
 f217:=Tryz.func366.trans (congrArg some (by kernel_rfl))
 f219:=Tryz.func348.trans (congrArg some (by kernel_rfl))
 f224:=Tryz.func377.trans (congrArg some (by kernel_rfl))
 f225:=Tryz.func376.trans (congrArg some (by kernel_rfl))
 f266:=Tryz.func390.trans (congrArg some (by kernel_rfl))
 f267:=Tryz.func378.trans (congrArg some (by kernel_rfl))
 f314:=Tryz.func395.trans (congrArg some (by kernel_rfl))
 t3:=Tryz.underlying3
 a3:=Tryz.isAgg3
 z3:=Tryz.sizeOf3
 v3:=Tryz.zeroValue3
 t4:=Tryz.underlying4
 a4:=Tryz.isAgg4
 z4:=Tryz.sizeOf4
 v4:=Tryz.zeroValue4
 t5:=Tryz.underlying5
 a5:=Tryz.isAgg5
 z5:=Tryz.sizeOf5
 v5:=Tryz.zeroValue5
 t9:=Tryz.underlying9
 a9:=Tryz.isAgg9
 z9:=Tryz.sizeOf9
 v9:=Tryz.zeroValue9
 t46:=Tryz.underlying277
 a46:=Tryz.isAgg277
 z46:=Tryz.sizeOf277
 v46:=Tryz.zeroValue277
 t51:=Tryz.underlying314
 a51:=Tryz.isAgg314
 z51:=Tryz.sizeOf314
 v51:=Tryz.zeroValue314
 t146:=Tryz.underlying377
 a146:=Tryz.isAgg377
 z146:=Tryz.sizeOf377
 v146:=Tryz.zeroValue377
 g1:=by kernel_rfl }
theorem Tryz.stringslite_Index_one (s:ByteArray) (c:UInt8) (w:World) :
  Calls Tryz.prog 348 #[.string s,.string ⟨#[c]⟩] w fun e w'=>e=.returned (.int .i64 (Lib.indexByte s.data.toList c))∧w'=w:=Any.stringslite_Index_one Tryz.lays219 s c w
def Tryz.lays143_ren:Go.Shelf.Ren:=⟨fun | 143=>309 | 219=>348 | 217=>366 | 225=>376 | 224=>377 | 267=>378 | 266=>390 | 314=>395 | n=>n,fun | 9=>9 | 3=>3 | 4=>4 | 5=>5 | 46=>277 | 146=>377 | 51=>314 | n=>n,fun | 1=>0 | n=>n⟩
theorem Tryz.lays143:Go.Proofs.Lays.n143 Tryz.prog Tryz.lays143_ren:={
 mixed:=by kernel_rfl
 f143:=Tryz.func309.trans (congrArg some (by kernel_rfl))
 f217:=Tryz.func366.trans (congrArg some (by kernel_rfl))
 f219:=Tryz.func348.trans (congrArg some (by kernel_rfl))
 f224:=Tryz.func377.trans (congrArg some (by kernel_rfl))
 f225:=Tryz.func376.trans (congrArg some (by kernel_rfl))
 f266:=Tryz.func390.trans (congrArg some (by kernel_rfl))
 f267:=Tryz.func378.trans (congrArg some (by kernel_rfl))
 f314:=Tryz.func395.trans (congrArg some (by kernel_rfl))
 t3:=Tryz.underlying3
 a3:=Tryz.isAgg3
 z3:=Tryz.sizeOf3
 v3:=Tryz.zeroValue3
 t4:=Tryz.underlying4
 a4:=Tryz.isAgg4
 z4:=Tryz.sizeOf4
 v4:=Tryz.zeroValue4
 t5:=Tryz.underlying5
 a5:=Tryz.isAgg5
 z5:=Tryz.sizeOf5
 v5:=Tryz.zeroValue5
 t9:=Tryz.underlying9
 a9:=Tryz.isAgg9
 z9:=Tryz.sizeOf9
 v9:=Tryz.zeroValue9
 t46:=Tryz.underlying277
 a46:=Tryz.isAgg277
 z46:=Tryz.sizeOf277
 v46:=Tryz.zeroValue277
 t51:=Tryz.underlying314
 a51:=Tryz.isAgg314
 z51:=Tryz.sizeOf314
 v51:=Tryz.zeroValue314
 t146:=Tryz.underlying377
 a146:=Tryz.isAgg377
 z146:=Tryz.sizeOf377
 v146:=Tryz.zeroValue377
 g1:=by kernel_rfl }
theorem Tryz.strings_Index_one (s:ByteArray) (c:UInt8) (w:World) :
  Calls Tryz.prog 309 #[.string s,.string ⟨#[c]⟩] w fun e w'=>e=.returned (.int .i64 (Lib.indexByte s.data.toList c))∧w'=w:=Any.strings_Index_one Tryz.lays143 s c w
def Tryz.lays138_ren:Go.Shelf.Ren:=⟨fun | 138=>308 | 195=>345 | 218=>347 | 143=>309 | 219=>348 | 217=>366 | 225=>376 | 224=>377 | 267=>378 | 266=>390 | 314=>395 | n=>n,fun | 9=>9 | 3=>3 | 4=>4 | 5=>5 | 0=>0 | 46=>277 | 146=>377 | 51=>314 | n=>n,fun | 1=>0 | n=>n⟩
theorem Tryz.lays138:Go.Proofs.Lays.n138 Tryz.prog Tryz.lays138_ren:={
 mixed:=by kernel_rfl
 f138:=Tryz.func308.trans (congrArg some (by kernel_rfl))
 f143:=Tryz.func309.trans (congrArg some (by kernel_rfl))
 f195:=Tryz.func345.trans (congrArg some (by kernel_rfl))
 f217:=Tryz.func366.trans (congrArg some (by kernel_rfl))
 f218:=Tryz.func347.trans (congrArg some (by kernel_rfl))
 f219:=Tryz.func348.trans (congrArg some (by kernel_rfl))
 f224:=Tryz.func377.trans (congrArg some (by kernel_rfl))
 f225:=Tryz.func376.trans (congrArg some (by kernel_rfl))
 f266:=Tryz.func390.trans (congrArg some (by kernel_rfl))
 f267:=Tryz.func378.trans (congrArg some (by kernel_rfl))
 f314:=Tryz.func395.trans (congrArg some (by kernel_rfl))
 t0:=Tryz.underlying0
 a0:=Tryz.isAgg0
 z0:=Tryz.sizeOf0
 v0:=Tryz.zeroValue0
 t3:=Tryz.underlying3
 a3:=Tryz.isAgg3
 z3:=Tryz.sizeOf3
 v3:=Tryz.zeroValue3
 t4:=Tryz.underlying4
 a4:=Tryz.isAgg4
 z4:=Tryz.sizeOf4
 v4:=Tryz.zeroValue4
 t5:=Tryz.underlying5
 a5:=Tryz.isAgg5
 z5:=Tryz.sizeOf5
 v5:=Tryz.zeroValue5
 t9:=Tryz.underlying9
 a9:=Tryz.isAgg9
 z9:=Tryz.sizeOf9
 v9:=Tryz.zeroValue9
 t46:=Tryz.underlying277
 a46:=Tryz.isAgg277
 z46:=Tryz.sizeOf277
 v46:=Tryz.zeroValue277
 t51:=Tryz.underlying314
 a51:=Tryz.isAgg314
 z51:=Tryz.sizeOf314
 v51:=Tryz.zeroValue314
 t146:=Tryz.underlying377
 a146:=Tryz.isAgg377
 z146:=Tryz.sizeOf377
 v146:=Tryz.zeroValue377
 g1:=by kernel_rfl }
theorem Tryz.strings_Count_one (s:ByteArray) (c:UInt8) (w:World) :
  Calls Tryz.prog 308 #[.string s,.string ⟨#[c]⟩] w fun e w'=>e=.returned (.int .i64 (Lib.countByte s.data.toList c))∧w'=w:=Any.strings_Count_one Tryz.lays138 s c w
end Go.Proofs
end
section
namespace Go.Av.F
open Go Go.Av Go.Proofs Go.Proofs.Tryz Go.RowKit
theorem qdR {w:World} {Z:Addr→Prop} {γ:Gm} {s:List UInt8} {x:Value} (h:AVRel w Z γ (.str s) x):x=.string ⟨s.toArray⟩:=by cases h;rfl
theorem qmN {w:World} {Z:Addr→Prop} {γ:Gm} {k:IntKind} {n:Int} {x:Value} (h:AVRel w Z γ (.int k n) x):x=.int k n:=by cases h;rfl
theorem qoh (c:UInt8):∀ (s:List UInt8),-1≤Lib.indexByte s c
 | []=>by simp[Lib.indexByte]
 | x::r=>by
  have:=qoh c r;simp only[Lib.indexByte]
  repeat' split
  all_goals omega
theorem qd6 (c:UInt8):∀ (s:List UInt8) (i:Int),qa2 c s i=if Lib.indexByte s c=-1 then -1 else i+Lib.indexByte s c
 | [],i=>by simp[qa2,Lib.indexByte]
 | x::r,i=>by
  have h1:=qd6 c r (i+1);have h2:=qoh c r;simp only[qa2,Lib.indexByte];by_cases hx:x=c
  ·simp[hx]
  ·have:(x == c)=false:=by simpa using hx
   simp only[hx,this,if_false,h1,beq_iff_eq,qEl];split
   ·simp
   ·rw[if_neg (by omega)];omega
theorem qiG (c:UInt8) (s:List UInt8):Lib.indexByte s c=qa2 c s 0:=by
 have:=qd6 c s 0;rw[this];split <;> omega
theorem qoj (s:List UInt8) (c:UInt8):CV prog 329 [.str s,.int .u8 (c.toNat:Int)] (.int .i64 (qa2 c s 0)):=by
 refine qci fun w Z vs hv hg hz=>?_;obtain⟨x,y,rfl,h1,h2⟩:=qrY hv;rw[qdR h1,qmN h2];refine(Tryz.strings_IndexByte _ _ w).mono ?_;rintro e w' ⟨rfl,rfl⟩;have e1:((c.toNat:Int).toNat).toUInt8=c:=by simp
 exact⟨_,rfl,by rw[e1,← qiG];exact .int _ _ _,.refl _ _⟩
theorem qwS (s:List UInt8) (c:UInt8):CV prog 309 [.str s,.str [c]] (.int .i64 (qa2 c s 0)):=by
 refine qci fun w Z vs hv hg hz=>?_;obtain⟨x,y,rfl,h1,h2⟩:=qrY hv;rw[qdR h1,qdR h2];refine(Tryz.strings_Index_one _ c w).mono ?_;rintro e w' ⟨rfl,rfl⟩;exact⟨_,rfl,by rw[← qiG];exact .int _ _ _,.refl _ _⟩
theorem qz5 (s:List UInt8) (c:UInt8):CV prog 348 [.str s,.str [c]] (.int .i64 (qa2 c s 0)):=by
 refine qci fun w Z vs hv hg hz=>?_;obtain⟨x,y,rfl,h1,h2⟩:=qrY hv;rw[qdR h1,qdR h2];refine(Tryz.stringslite_Index_one _ c w).mono ?_;rintro e w' ⟨rfl,rfl⟩;exact⟨_,rfl,by rw[← qiG];exact .int _ _ _,.refl _ _⟩
theorem qDX (s:List UInt8) (c:UInt8):CV prog 308 [.str s,.str [c]] (.int .i64 (s.count c:Nat)):=by
 refine qci fun w Z vs hv hg hz=>?_;obtain⟨x,y,rfl,h1,h2⟩:=qrY hv;rw[qdR h1,qdR h2];refine(Tryz.strings_Count_one _ c w).mono ?_;rintro e w' ⟨rfl,rfl⟩;exact⟨_,rfl,.int _ _ _,.refl _ _⟩
theorem qpr (w:World) (k:Nat) (os:Array Obj):Below w.heap.size w (Go.Sort.grow (w.drewN k) os) :=
 ⟨rfl,rfl,rfl,by simp[Go.Sort.grow,World.drewN],fun i hi=>by
  show((w.drewN k).heap++os)[i]?=_;rw[qFC (by simpa [World.drewN]using hi)];rfl⟩
theorem qwM (n:Int) (h0:-9223372036854775808≤n) (h1:n≤9223372036854775807):CV prog 261 [.int .i64 n] (.str (Lib.itoa n)):=by
 refine qci fun w Z vs hv hg hz=>?_;obtain⟨x,rfl,hx⟩:=qxy hv;rw[qmN hx];have htab:Lib.TabIs prog w "internal/strconv.uint64pow10" .u64 Lib.pow10Tab:=by
  have hgn:prog.globalNamed "internal/strconv.uint64pow10"=some 5:=by kernel_rfl
  obtain⟨ty,fz,hh⟩:=qAj hg (g:=5) (cs:=Lib.pow10Tab.map (AV.int .u64)) (by unfold gtab;rfl) (Lib.pow10Tab.map fun z=>Value.int .u64 z) (by simp) (fun x j hj hr=>by
   simp only[qEM,qEU]at hr ⊢;simp only[qFs]at hj;rw[qEq hj]at hr ⊢;exact qmN hr) (by simp[Lib.pow10Tab])
  unfold Lib.TabIs World.var?;rw[hgn];simp only[qFS,hh]
 refine(Tryz.strconv_Itoa n h0 h1 w htab).mono ?_;rintro e w' ⟨rfl,k,os,rfl⟩;exact⟨_,rfl,.str _ _,qpr _ _ _⟩
def qaE (s:List UInt8):Int:=match Lib.atoiAll s with
 | .ok v=>v
 | .range=>Lib.atoiSat s
 | _=>0
def qbA (s:List UInt8):Bool:=match Lib.atoiAll s with
 | .ok _=>true
 | _=>false
def qhO (b:Bool):AV:=if b then .nili else .ifc
theorem quE {w:World} {Z:Addr→Prop} (h:GlR w Z) {g:Nat} (hg:gtab g=some [.ifc]):∃ t v,w.cell? ⟨g,0,none⟩=some (.iface t v):=by
 obtain⟨h1,_,_⟩:=h g _ hg;generalize hp:(Value.pointer (some ⟨g,0,none⟩))=u at h1;cases h1 with
 | elm _ _ A vf hA hz hc hr =>
  injection hp with hp;injection hp with hp;subst hp;have c0:=hc 0 (by simp);have r0:=hr 0 (by simp);simp only[qEZ]at r0;generalize vf 0=x at c0 r0;cases r0 with
  | ifc _ t v=>exact⟨t,v,by simpa [Addr.at]using c0⟩
theorem qmi (s:List UInt8) (hl:s.length≤281474976710656):CV prog 252 [.str s] (.tup [.int .i64 (qaE s),qhO (qbA s)]):=by
 refine qci (fun w Z vs hv hg hz=>?_) (hcv:=by unfold qhO;split <;> simp[clA]);obtain⟨x,rfl,hx⟩:=qxy hv;rw[qdR hx];have tup:∀ {w:World} {a b:AV} {p q:Value},AVRel w Z noG a p→AVRel w Z noG b q→AVRel w Z noG (.tup [a,b]) (.tuple #[p,q]):=fun h1 h2=>.tup _ _ _ rfl fun j hj=>by
  match j,hj with
  | 0,_=>exact h1
  | 1,_=>exact h2
 have hsz:(⟨s.toArray⟩:ByteArray).size=s.length:=by simp[ByteArray.size]
 unfold qaE qbA;rcases hA:Lib.atoiAll s with v | _ | _
 ·refine(Tryz.strconv_Atoi_ok ⟨s.toArray⟩ (by rw[hsz];omega) v (by simpa using hA) w).mono ?_;rintro e w' ⟨rfl,hw⟩;refine⟨_,rfl,tup (.int _ _ _) (.nili _),?_⟩;rcases hw with rfl | ⟨t,rfl⟩
  ·exact .refl _ _
  ·unfold Lib.bytesWorld;refine⟨rfl,rfl,rfl,?_,fun k hk=>?_⟩
   ·show w.heap.size≤(Array.modify _ _ _).size;rw[Array.size_modify];refine qGi ?_;show w.heap.size<(w.drew.heap.push _).size;rw[Array.size_push];exact Nat.lt_succ_self _
   ·show(Array.modify _ w.heap.size _)[k]?=_;rw[qFb,if_neg (by omega)];exact Below.heap_alloc w.drew _ k hk
 ·obtain⟨te,pe,hc⟩:=quE hg (g:=1) (by unfold gtab;rfl);refine(Tryz.strconv_Atoi_syntax ⟨s.toArray⟩ (by rw[hsz];omega) hA _ w hc (.inr ⟨te,pe,rfl⟩)).mono ?_;rintro e w' ⟨N,rfl,_,_,hb⟩;exact⟨_,rfl,tup (.int _ _ _) (.ifc _ _ _),hb⟩
 ·obtain⟨te,pe,hc⟩:=quE hg (g:=2) (by unfold gtab;rfl);refine(Tryz.strconv_Atoi_range ⟨s.toArray⟩ (by rw[hsz];omega) (by simpa using hA) _ w hc (.inr ⟨te,pe,rfl⟩)).mono ?_;rintro e w' ⟨N,rfl,_,_,hb⟩;exact⟨_,rfl,tup (.int _ _ _) (.ifc _ _ _),hb⟩
end Go.Av.F
end
section
namespace Go.Av.F
open Go Go.Av Go.Proofs Go.Proofs.Tryz
def qeY (c:UInt8) (s:List UInt8):List UInt8×List UInt8×Bool:=if qa2 c s 0<0 then (s,[],false) else (s.take (qa2 c s 0).toNat,s.drop ((qa2 c s 0).toNat+1),true)
theorem qyQ (s:List UInt8) (c:UInt8) (hs:s.length≤1048576):CV prog 328 [.str s,.str [c]] (.tup [.str (qeY c s).1,.str (qeY c s).2.1,.bool (qeY c s).2.2]):=by
 obtain⟨R,hR⟩:∃ R,qeY c s=R:=⟨_,rfl⟩;rw[hR];unfold qeY at hR;have hlt:=qga c s 0 (by omega);have hge:=qgb c s 0 (by omega);have fc:=qz5 s c;generalize qa2 c s 0=k at *
 refine cvx func328 [] ntmps328 rfl rfl rfl ?_;simp;refine fc.call ?_;by_cases h:k<0
 ·rw[if_pos h]at hR;have h':¬ 0≤k:=by omega
  simp[h',← hR]
 ·rw[if_neg h]at hR;have h':0≤k:=by omega
  have e1:=qao (k+1) (by omega) (by omega);have d1:(k+1).toNat=k.toNat+1:=by omega
  have d2:List.take (s.length-(k.toNat+1)) (List.drop (k.toNat+1) s)=List.drop (k.toNat+1) s:=qEF (by simp);simp[h',e1,d1,d2,← hR]
  repeat' first | with_reducible refine And.intro ?_ ?_ | omega
theorem qDw (s:List UInt8) (c:UInt8) (hs:s.length≤1048576):CV prog 278 [.str s,.str [c]] (.tup [.str (qeY c s).1,.str (qeY c s).2.1,.bool (qeY c s).2.2]):=by
 refine cvx func278 [] ntmps278 rfl rfl rfl ?_;simp;refine(qyQ s c hs).call ?_;simp
theorem ql9 (c:UInt8):∀ (s cur:List UInt8),qaF c s cur=if qa2 c s 0<0 then [cur++s] else (cur++s.take (qa2 c s 0).toNat)::qaF c (s.drop ((qa2 c s 0).toNat+1)) []
 | [],cur=>by simp[qaF,qa2]
 | x::r,cur=>by
  have ih:=ql9 c r (cur++[x]);have h1:=qd6 c r (0+1);have h2:=qd6 c r 0;have h3:=qoh c r;simp only[qaF,qa2];by_cases hx:x=c
  ·simp[hx]
  ·simp only[hx,if_false];rw[ih,h1,h2];by_cases h:Lib.indexByte r c=-1
   ·simp[h]
   ·have e:(0+1+Lib.indexByte r c).toNat=(0+Lib.indexByte r c).toNat+1:=by omega
    rw[if_neg h,if_neg h,e,if_neg (by omega),if_neg (by omega)];simp
theorem qjG (c:UInt8):∀ (s:List UInt8),s.count c=if qa2 c s 0<0 then 0 else (s.drop ((qa2 c s 0).toNat+1)).count c+1
 | []=>by simp[qa2]
 | x::r=>by
  have ih:=qjG c r;have h1:=qd6 c r (0+1);have h2:=qd6 c r 0;have h3:=qoh c r;simp only[qa2];by_cases hx:x=c
  ·simp[hx]
  ·have hc:List.count c (x::r)=List.count c r:=List.count_cons_of_ne (fun h=>hx h);simp only[hx,if_false];rw[hc,ih,h1,h2];by_cases h:Lib.indexByte r c=-1
   ·simp[h]
   ·have e:(0+1+Lib.indexByte r c).toNat=(0+Lib.indexByte r c).toNat+1:=by omega
    rw[if_neg h,if_neg h,e,if_neg (by omega),if_neg (by omega)];simp
theorem qr0 (c:UInt8) (s:List UInt8):s.count c≤s.length:=List.count_le_length
theorem qxa (s:List UInt8) (c:UInt8) (hs:s.length≤1048576):ACall prog 255 [.str s,.str [c],.int .i64 0,.int .i64 (-1)] [] (fun r L'=>r=.sl 900 0 (qaF c s []).length∧L'=[(900,⟨1,(qaF c s []).map qcr⟩)]):=by
 obtain⟨R,hR⟩:∃ R,qaF c s []=R:=⟨_,rfl⟩;rw[hR];obtain⟨N,hN⟩:∃ N,s.count c=N:=⟨_,rfl⟩;have hNl:=qr0 c s;have cc:=qDX s c;rw[hN]at cc hNl;have e1:=qao ((N:Int)+1) (by omega) (by omega);have e2:=qao ((s.length:Int)+1) (by omega) (by omega);have e3:¬ (s.length:Int)+1<(N:Int)+1:=by omega
 refine acx func255 [] ntmps255 rfl rfl rfl ?_;simp;refine cc.call ?_;have e4:((N:Int)+1).toNat=N+1:=by omega
 have e5:(N:Int)+1-1=N:=by omega
 have e6:=qao (N:Int) (by omega) (by omega);simp[e1,e2,e3,e4,e5,e6];refine⟨⟨by omega,by omega⟩,?_⟩;refine qbj (X:=Nat×List UInt8×List (List UInt8)) [0,1,2,3,9,10] [(31,900)] (fun x=>[(0,.str x.2.1),(9,.sl 900 0 (N+1)),(10,.int .i64 x.1)]) (fun x=>[(900,⟨1,x.2.2.map qcr⟩)]) (fun x=>N-x.1)
  (fun x=>x.1≤N∧x.2.2.length=N+1∧x.2.1.count c+x.1=N∧x.2.1.length≤s.length∧x.2.2.take x.1++qaF c x.2.1 []=R) (0,s,List.replicate (N+1) []) ⟨by simp,by simp,by simp[hN],by simp,by simpa using hR⟩ ?_ (he:=by simp[qag,qcr])
 rintro⟨i,t,ps⟩ ⟨hi,hpl,hct,htl,hd⟩;simp only at hi hpl hct htl hd;have hcf:=qjG c t;have hcr:=ql9 c t [];have fc:=qwS t c;have hlt:=qga c t 0 (by omega);have hge:=qgb c t 0 (by omega);by_cases h1:i<N
 ·have h1':(i:Int)<N:=by omega
  generalize qa2 c t 0=k at *
  have hk:¬ k<0:=by
   intro hk;rw[if_pos hk]at hcf;omega
  rw[if_neg hk]at hcf hcr;have w1:=qao k (by omega) (by omega);have w2:=qao (k+1) (by omega) (by omega);have w3:=qao ((i:Int)+1) (by omega) (by omega);have d1:(k+1).toNat=k.toNat+1:=by omega
  have d2:List.take (t.length-(k.toNat+1)) (List.drop (k.toNat+1) t)=List.drop (k.toNat+1) t:=qEF (by simp);simp[h1'];refine fc.call ?_;simp[h1',hk,w1,w2,w3,d1,d2,hpl];refine⟨⟨by omega,by omega⟩,by omega,by omega,⟨by omega,by omega⟩,?_⟩;refine nx (i+1,t.drop (k.toNat+1),ps.set i (t.take k.toNat)) [(900,900)] ⟨by simp only;omega,by simp only[qFd];omega,by simp only;omega,by simp only[qEh];omega,?_⟩ (by simp only;omega) (h4:=?_)
  ·show List.take (i+1) (ps.set i (List.take k.toNat t))++qaF c (List.drop (k.toNat+1) t) []=R;rw[qgs (x:=t.take k.toNat) (by rw[qF8 (by omega)]),List.take_set,qG4 (by simp;omega),List.append_assoc];rw[hcr]at hd;simpa using hd
  ·obtain⟨q,hq⟩:∃ q,ps[i]?=some q:=⟨_,qEq (by omega)⟩;simp[qag,w3,qGv,qcr,qfS,hq]
 ·have:i=N:=by omega
  subst this;have h1':¬ (i:Int)<i:=by omega
  simp[hpl];have hk:qa2 c t 0<0:=by
   rcases hge with h | h
   ·omega
   ·rw[if_neg (by omega)]at hcf;omega
  rw[if_pos hk]at hcr;rw[hcr]at hd;have hps:ps.set i t=R:=by
   rw[← hd];have h2:ps.set i t=(ps.set i t).take (i+1):=(qEF (by simp[hpl])).symm;rw[h2,qgs (x:=t) (by simp[hpl]),List.take_set,qG4 (by simp;omega)];simp
  refine⟨by omega,⟨by omega,by omega⟩,?_,?_⟩
  ·rw[← hps,qGv];simp[qcr]
  ·rw[e1,← hps];simp[hpl]
theorem qxb (s:List UInt8) (c:UInt8) (hs:s.length≤1048576):CV prog 255 [.str s,.str [c],.int .i64 0,.int .i64 (-1)] (.lst 1 ((qaF c s []).map qcr)):=by
 refine CV.of_frz (qxa s c hs) (fun r L' hR=>?_);obtain⟨rfl,rfl⟩:=hR;refine⟨by simp,by simp,?_,?_⟩
 ·simp[clR,qcr,clL,clA]
 ·simp[qbe,qEF];exact qa1 _
theorem qh7 (s:List UInt8) (c:UInt8) (hs:s.length≤1048576):CV prog 179 [.str s,.str [c]] (.lst 1 ((qaF c s []).map qcr)):=by
 refine cvx func179 [] ntmps179 rfl rfl rfl ?_;simp;refine(qxb s c hs).call ?_;simp
theorem qhQ:∀ (k:Nat) (out:List UInt8),qm9 k out=Lib.decDigits k++out:=by
 intro k
 induction k using Nat.strongRecOn with
 | ind k ih =>
  intro out;rw[qm9,Lib.decDigits];by_cases h:k<10
  ·rw[dif_pos (by omega),dif_pos h];rfl
  ·rw[dif_neg (by omega),dif_neg h,ih _ (by omega)];simp
theorem qkl (k:Nat):Lib.itoa (k:Int)=qm9 k []:=by
 unfold Lib.itoa;rw[if_neg (by omega),qhQ];simp
theorem qoe (s:List UInt8) (hs:s.length≤maxLen):CV prog 298 [.str s] (.str (qdS s)):=by
 obtain⟨R,hR⟩:∃ R,qdS s=R:=⟨_,rfl⟩;rw[hR];have hml:maxLen=9223372036854775807:=rfl;have hlt:=qh4 s (1+s.length % 997) (by omega);have sc:=qs3 s hs;refine cvx func298 [] ntmps298 rfl rfl rfl ?_;unfold qdS at hR;by_cases h:400<s.length
 ·rw[if_pos h]at hR;have h':(400:Int)<s.length:=by omega
  simp[h',← hR]
 ·rw[if_neg h]at hR;have h':¬ (400:Int)<s.length:=by omega
  simp[h'];refine sc.call ?_;generalize qjh s (1+s.length % 997)=n at *
  have hl:=qkH n [];simp only[qFE]at hl;simp;refine(qwM (n:Int) (by omega) (by omega)).call ?_;rw[qkl];simp[← hR];omega
theorem qrW (s:List UInt8):qbb s=if (qeY 58 s).2.2=true∧qdS (qeY 58 s).2.1=s then ((qeY 58 s).2.1,true) else ([],false):=by
 unfold qbb qeY;by_cases h:qa2 58 s 0<0
 ·simp[h]
 ·simp[h]
theorem qoA (c:UInt8) (s:List UInt8):(qeY c s).1.length≤s.length∧(qeY c s).2.1.length≤s.length:=by
 unfold qeY;split <;> simp;omega
theorem quz (s:List UInt8) (hs:s.length≤1048576):CV prog 251 [.str s] (.tup [.str (qbb s).1,.bool (qbb s).2]):=by
 obtain⟨R,hR⟩:∃ R,qbb s=R:=⟨_,rfl⟩;rw[hR];have hml:maxLen=9223372036854775807:=rfl;rw[qrW]at hR;have cc:=qDw s 58 hs;have cl:=qoA 58 s;generalize qeY 58 s=k at *
 obtain⟨k1,k2,k3⟩:=k;simp only at cc cl hR;refine cvx func251 [] ntmps251 rfl rfl rfl ?_;simp;refine cc.call ?_;cases k3 with
 | false=>simp[← hR]
 | true =>
  simp;refine(qoe k2 (by omega)).call ?_;by_cases h2:qdS k2=s
  ·simp[h2,← hR]
  ·simp[h2,← hR]
theorem qmH:∀ (l:List UInt8) (n m:Nat),qe8 n l=some m→n * 10 ^ l.length≤m
 | [],n,m,h=>by
  simp only[qe8,qEd]at h;simp[h]
 | x::r,n,m,h=>by
  unfold qe8 at h;split at h
  ·cases h
  ·have:=qmH r _ m h;refine qEa ?_ this;rw[qEI,qG3,qFg (10 ^ r.length),← qFy];exact qEn _ (by omega)
theorem qn4:∀ (a b:List UInt8) (n:Nat),qe8 n (a++b)=(qe8 n a).bind fun m=>qe8 m b
 | [],b,n=>rfl
 | x::r,b,n=>by
  simp only[qGh,qe8];split
  ·rfl
  ·exact qn4 r b _
theorem qjc {d:Nat} (h:d<10):(UInt8.ofNat (48+d)).toNat=48+d:=by
 simp only[qGY];exact qFh (by omega)
theorem quO {x:UInt8} (h1:48≤x.toNat):UInt8.ofNat (48+(x.toNat-48))=x:=by
 rw[show 48+(x.toNat-48)=x.toNat by omega];simp
theorem qn3 {n d:Nat} (h:d<10):qe8 n [UInt8.ofNat (48+d)]=some (n * 10+d):=by
 unfold qe8;rw[qjc h,if_neg (by omega)];simp[qe8]
theorem qkf:∀ n,qe8 0 (Lib.decDigits n)=some n:=by
 intro n
 induction n using Nat.strongRecOn with
 | ind n ih =>
  rw[Lib.decDigits];by_cases h:n<10
  ·rw[dif_pos h,qn3 h];simp
  ·rw[dif_neg h,qn4,ih _ (by omega)];simp only[qFS];rw[qn3 (by omega)]
   congr 1
   omega
theorem qxq {n d:Nat} (hn:1≤n) (hd:d<10):Lib.decDigits (n * 10+d)=Lib.decDigits n++[UInt8.ofNat (48+d)]:=by
 rw[Lib.decDigits,dif_neg (by omega),show(n * 10+d) / 10=n by omega,show(n * 10+d) % 10=d by omega]
theorem qow:∀ (l:List UInt8) (n m:Nat),1≤n→qe8 n l=some m→Lib.decDigits m=Lib.decDigits n++l
 | [],n,m,hn,h=>by
  simp only[qe8,qEd]at h;simp[h]
 | x::r,n,m,hn,h=>by
  unfold qe8 at h;split at h
  ·cases h
  ·rename_i hx;rw[qow r _ m (by omega) h,qxq hn (by omega),quO (by omega)];simp
theorem qm7 {t:List UInt8} {m:Nat} (h0:t≠[]) (hz:t.head?=some 48→t.length≤1) (h:qe8 0 t=some m):Lib.decDigits m=t:=by
 cases t with
 | nil=>exact absurd rfl h0
 | cons x r =>
  unfold qe8 at h;split at h
  ·cases h
  ·rename_i hx;have hxd:=quO (x:=x) (by omega);by_cases hx0:x=48
   ·have:=hz (by simp[hx0]);have hr:r=[]:=qGa (by simpa using this);subst hr;simp only[qe8,qEd]at h;rw[← h,Lib.decDigits,dif_pos (by omega)];simpa using hxd
   ·have hx1:x.toNat≠48:=fun h=>hx0 (qGB.1 h);rw[qow r _ m (by omega) h];have:Lib.decDigits (0 * 10+(x.toNat-48))=[x]:=by
     rw[Lib.decDigits,dif_pos (by omega)];simpa using hxd
    rw[this];rfl
theorem qla {t:List UInt8} {n:Int} (h:qax t=(n,true)):Lib.itoa n=t∧n.natAbs<10 ^ 17:=by
 have lt17:∀ (l:List UInt8) (k m:Nat),qe8 k l=some m→m<(k+1) * 10 ^ l.length:=by
  intro l
  induction l with
  | nil=>intro k m h;simp only[qe8,qEd]at h;simp;omega
  | cons x r ih =>
   intro k m h;unfold qe8 at h;split at h
   ·cases h
   ·have:=ih _ _ h;refine qEb this ?_;rw[qEI,qG3,qFg (10 ^ r.length),← qFy];exact qEn _ (by omega)
 have key:∀ (neg:Bool) (s:List UInt8),qsY neg s=(n,true)→∃ m,Lib.decDigits m=s∧n=(if neg=true then -(m:Int) else m)∧m<10 ^ 17∧(neg=true→1≤m):=by
  intro neg s hs;unfold qsY at hs;split at hs
  ·cases hs
  ·rename_i hc;simp only[not_or,not_and]at hc;split at hs
   ·cases hs
   ·rename_i m hm;injection hs with h1 _;have hz:s.head?=some 48→s.length≤1:=fun hh=>by have:=(hc.2.2 hh).1;omega
    refine⟨m,qm7 (by intro h;simp[h]at hc) hz hm,h1.symm,?_,fun hn=>?_⟩
    ·have:=lt17 s 0 m hm;have h2:(10:Nat) ^ s.length≤10 ^ 17:=qG2 (by omega) (by omega);omega
    ·cases s with
     | nil=>simp at hc
     | cons x r =>
      have hx:x≠48:=fun h=>by have:=(hc.2.2 (by simp[h])).2;exact this hn
      have hx1:x.toNat≠48:=fun h=>hx (qGB.1 h);unfold qe8 at hm;split at hm
      ·cases hm
      ·have:=qmH r _ m hm;have:1 * 1≤(0 * 10+(x.toNat-48)) * 10 ^ r.length:=Nat.mul_le_mul (by omega) (Nat.pow_pos (by omega));omega
 unfold qax at h;split at h
 ·rename_i hh;obtain⟨m,h1,h2,h3,h4⟩:=key true _ h;have h4:=h4 rfl;simp only[if_true]at h2;subst h2;cases t with
  | nil=>simp at hh
  | cons x r =>
   simp only[qG0,qEd]at hh;subst hh;refine⟨?_,by omega⟩;unfold Lib.itoa;rw[if_pos (by omega),show(-(m:Int)).natAbs=m by omega,h1];rfl
 ·obtain⟨m,h1,h2,h3,_⟩:=key false _ h;simp only[qEl,if_false]at h2;subst h2;refine⟨?_,by omega⟩;unfold Lib.itoa;rw[if_neg (by omega)];simpa using h1
theorem quQ (n:Nat):Lib.decDigits n≠[]:=by
 rw[Lib.decDigits];split <;> simp
theorem qkF (n:Nat):∃ x r,Lib.decDigits n=x::r∧48≤x.toNat∧x.toNat≤57:=by
 induction n using Nat.strongRecOn with
 | ind n ih =>
  rw[Lib.decDigits];by_cases h:n<10
  ·rw[dif_pos h];exact⟨_,_,rfl,by rw[qjc h];omega,by rw[qjc h];omega⟩
  ·rw[dif_neg h];obtain⟨x,r,h1,h2,h3⟩:=ih (n / 10) (by omega);exact⟨x,r++[UInt8.ofNat (48+n % 10)],by rw[h1];rfl,h2,h3⟩
theorem qtx (n:Nat) (h:(Lib.decDigits n).head?=some 48):n=0:=by
 induction n using Nat.strongRecOn with
 | ind n ih =>
  rw[Lib.decDigits]at h;by_cases h9:n<10
  ·rw[dif_pos h9]at h;simp only[qG0,qEd]at h;have h2:=qjc h9;rw[h]at h2;simp at h2;omega
  ·rw[dif_neg h9]at h;obtain⟨x,r,h1,_,_⟩:=qkF (n / 10);have:=ih (n / 10) (by omega) (by rw[h1]at h ⊢;simpa using h);omega
theorem qkE (n:Nat):∀ k,n<10 ^ k→1≤k→(Lib.decDigits n).length≤k:=by
 induction n using Nat.strongRecOn with
 | ind n ih =>
  intro k hk h1;rw[Lib.decDigits];by_cases h:n<10
  ·rw[dif_pos h];simpa using h1
  ·rw[dif_neg h];obtain⟨j,rfl⟩:∃ j,k=j+1:=⟨k-1,by omega⟩;rw[qG3]at hk;have hj:1≤j:=by
    rcases qFu j with h0 | h0
    ·subst h0;simp at hk;omega
    ·exact h0
   have:=ih (n / 10) (by omega) j (by omega) hj;simp;omega
theorem qqb {n:Int} (h:n.natAbs<10 ^ 17):qax (Lib.itoa n)=(n,true):=by
 have key:∀ (m:Nat) (neg:Bool),m<10 ^ 17→(neg=true→1≤m)→qsY neg (Lib.decDigits m)=(if neg=true then -(m:Int) else m,true):=fun m neg hm hn=>by
  unfold qsY;have h1:=qkE m 17 hm (by omega);have h2:=qEm.2 (quQ m);rw[if_neg,qkf];rintro(h | h | ⟨h,h'⟩)
  ·omega
  ·omega
  ·have h0:=qtx m h;subst h0;rcases h' with h' | h'
   ·rw[Lib.decDigits]at h';simp at h'
   ·have:=hn h';omega
 unfold Lib.itoa qax;by_cases h0:n<0
 ·rw[if_pos h0];simp only[qG0,if_true,qG1];rw[key _ true h (fun _=>by omega)];simp;omega
 ·rw[if_neg h0];obtain⟨x,r,h1,h2,h3⟩:=qkF n.toNat;have hx:¬ (Lib.decDigits n.toNat).head?=some 45:=by
   rw[h1];intro h;simp only[qG0,qEd]at h;subst h;simp at h2
  rw[if_neg hx,key _ false (by omega) (by simp)];simp;omega
theorem qgC:∀ (l:List UInt8) (acc m:Nat),qe8 acc l=some m→m<18446744073709551616→Lib.parseUint10 acc l=.ok m
 | [],acc,m,h,hm=>by
  simp only[qe8,qEd]at h;simp[Lib.parseUint10,h]
 | x::r,acc,m,h,hm=>by
  unfold qe8 at h;split at h
  ·cases h
  ·rename_i hx;have h1:=qmH r _ m h;have h2:(acc * 10+(x.toNat-48)) * 1≤(acc * 10+(x.toNat-48)) * 10 ^ r.length:=Nat.mul_le_mul_left _ (Nat.pow_pos (by omega));have h3:=qgC r _ m h hm;simp only[Lib.parseUint10];rw[if_pos (by omega),if_neg (by omega),if_neg (by omega),h3]
theorem qr5 (n:Int) (h0:-9223372036854775808≤n) (h1:n≤9223372036854775807):Lib.atoiAll (Lib.itoa n)=.ok n:=by
 unfold Lib.itoa;by_cases h:n<0
 ·rw[if_pos h];simp only[Lib.atoiAll,Lib.parseMag];have h45:(45:UInt8).toNat=45:=rfl;simp only[h45,or_true,if_true,quQ,if_false];rw[qgC _ _ _ (qkf _) (by omega)];simp;rw[if_neg (by omega)]
  congr 1
  omega
 ·rw[if_neg h];obtain⟨x,r,e1,h2,h3⟩:=qkF n.toNat;have e2:=qgC _ _ _ (qkf n.toNat) (by omega);rw[e1]at e2 ⊢;have n1:¬ (x.toNat=43∨x.toNat=45):=by omega
  have n2:¬ x.toNat=45:=by omega
  have n3:¬ x.toNat=43:=by omega
  have n4:¬ 9223372036854775808≤n.toNat:=by omega
  simp[Lib.atoiAll,Lib.parseMag,n1,n2,n3,n4,e2];omega
def qdB (t:List UInt8):Bool:=qbA t && decide (Lib.itoa (qaE t)=t)
theorem qjK {n:Int} (h0:-9223372036854775808≤n) (h1:n≤9223372036854775807):qdB (Lib.itoa n)=true∧qaE (Lib.itoa n)=n:=by
 have a:=qr5 n h0 h1;unfold qdB qbA qaE;rw[a];simp
theorem qfb (t:List UInt8):(qdB t=true∧(qaE t).natAbs<10 ^ 17)↔(qax t).2=true:=by
 constructor
 ·rintro⟨h1,h2⟩;simp only[qdB,Bool.and_eq_true,decide_eq_true_eq]at h1;have:=qqb h2;rw[h1.2]at this;rw[this]
 ·intro h;have h2:qax t=((qax t).1,true):=by rw[← h]
  obtain⟨h3,h4⟩:=qla h2;obtain⟨h5,h6⟩:=qjK (n:=(qax t).1) (by omega) (by omega);rw[h3]at h5 h6;exact⟨h5,by rw[h6];exact h4⟩
theorem qg5 {t:List UInt8} (h:(qax t).2=true):qaE t=(qax t).1:=by
 have h2:qax t=((qax t).1,true):=by rw[← h]
 obtain⟨h3,h4⟩:=qla h2;obtain⟨_,h6⟩:=qjK (n:=(qax t).1) (by omega) (by omega);rw[h3]at h6;exact h6
theorem qCC (s:List UInt8) (hs:s.length≤1048576):CV prog 279 [.str s] (.tup [.str (qff s []).1,.bool (qff s []).2]):=by
 obtain⟨R,hR⟩:∃ R,qff s []=R:=⟨_,rfl⟩;rw[hR];have hml:maxLen=9223372036854775807:=rfl;have t1:(s.length:Int).tmod 2=(s.length:Int) % 2:=qGV (by omega);refine cvx func279 [(7,[zI 0,zI 1,zI 2,zI 4,zI 5,zI 6,zI 7,zI 3,zI 8,zI 9,zI 10])] ntmps279 rfl rfl rfl ?_;by_cases hodd:s.length % 2=0
 ·have h1:(s.length:Int) % 2=0:=by omega
  simp[t1,h1];refine qeW (qjT 4 1 (by simp) (by simp)) ?_;refine qbj (X:=Nat×List UInt8) [0,4,5] [(4,900)] (fun x=>[(5,.int .i64 x.1),(4,.sl 900 0 x.2.length)]) (fun x=>[(900,⟨1,x.2.map qgr⟩)]) (fun x=>s.length-x.1) (fun x=>x.1≤s.length∧x.1 % 2=0∧x.2.length≤x.1∧qff (s.drop x.1) x.2=R) (0,[]) (by simp[hR]) ?_ (he:=by simp[qag]);rintro⟨i,out⟩ ⟨hi,hev,hol,hd⟩;simp only at hi hev hol hd;by_cases h2:i<s.length
  ·obtain⟨a,f1⟩:∃ a,s[i]?=some a:=⟨_,qEq (by omega)⟩;obtain⟨b,f2⟩:∃ b,s[i+1]?=some b:=⟨_,qEq (by omega)⟩;rw[qdO f1,qdO f2,qff]at hd;have h3:i+1<s.length:=by omega
   have g1:s[i]=a:=(qEW.1 f1).2;have g2:s[i+1]=b:=(qEW.1 f2).2;have c1:=qoj hexL a;have c2:=qoj hexL b;have b1:=qtg a;have b2:=qtg b;obtain⟨p,hp⟩:∃ p,qa2 a hexL 0=p:=⟨_,rfl⟩;obtain⟨q,hq⟩:∃ q,qa2 b hexL 0=q:=⟨_,rfl⟩;rw[hp]at c1 b1 hd;rw[hq]at c2 b2 hd;simp only[hexL]at c1 c2;have e1:=qao ((i:Int)+1) (by omega) (by omega);have e2:=qao ((i:Int)+2) (by omega) (by omega);have e3:((i:Int)+1).toNat=i+1:=by omega
   simp[h2,h3,f1,g1,f2,g2,e1,e3];refine⟨by omega,?_⟩;refine c1.call ?_;simp[h2,h3,f1,g1,f2,g2,e1,e3];refine c2.call ?_;by_cases hpn:p<0
   ·rw[if_pos (.inl hpn)]at hd;simp[hpn,← hd]
   ·by_cases hqn:q<0
    ·rw[if_pos (.inr hqn)]at hd;simp[hpn,hqn,← hd]
    ·rw[if_neg (by omega)]at hd;have w1:=qao (16 * p) (by omega) (by omega);have w2:=qao (16 * p+q) (by omega) (by omega);have w3:IntKind.u8.wrap (16 * p+q)=16 * p+q:=by
      show(16 * p+q) % 256=_;omega
     simp[hpn,hqn,w1,w2,w3];refine⟨by omega,?_⟩;have hu:qgr (UInt8.ofNat (p * 16+q).toNat)=[.int .u8 (16 * p+q)]:=by
      show [AV.int .u8 (((UInt8.ofNat (p * 16+q).toNat).toNat:Nat):Int)]=_;simp only[qGY];have:(p * 16+q).toNat % 2 ^ 8=(p * 16+q).toNat:=qFh (by omega);rw[this];have:(((p * 16+q).toNat:Nat):Int)=16 * p+q:=by omega
      rw[this]
     refine nx (i+2,out++[UInt8.ofNat (p * 16+q).toNat]) [(40,900)] ⟨by simp only;omega,by simp only;omega,by simp;omega,hd⟩ (by simp only;omega) (h4:=?_);simp[qag,e2,hu,qEF,qhC]
  ·have:i=s.length:=by omega
   subst this;rw[qF9 (by omega),qff]at hd;simp[qgk,qEF];exact⟨fun _ _=>rfl,by rw[← hd],by rw[← hd]⟩
 ·have h1:(s.length:Int) % 2=1:=by omega
  have ho:∀ (n:Nat) (l o:List UInt8),l.length=2 * n+1→qff l o=([],false):=by
   intro n
   induction n with
   | zero =>
    intro l o hl
    match l,hl with
    | [x],_=>rfl
   | succ n ih =>
    intro l o hl
    match l,hl with
    | a::b::r,hl =>
     unfold qff;split
     ·rfl
     ·exact ih r _ (by simp at hl;omega)
  have:=ho (s.length / 2) s [] (by omega);rw[this]at hR;simp[t1,h1,← hR]
def qpD (n:Nat):UInt8:=hexL.getD n 0
theorem qyT (n:Nat) (h:n<16):CV prog 389 [.int .i64 n] (.int .u8 (qpD n).toNat):=by
 refine cvx func389 [] ntmps389 rfl rfl rfl ?_;have hn:(n:Int)<16:=by omega
 have h0:n<hexL.length:=by simpa [hexL]using h
 have e:hexL[n]'h0=qpD n:=by simp[qpD,List.getD,h0]
 simp only[hexL]at h0 e;simp[hn,h0,h,e]
 try omega
def qey:List UInt8→List UInt8
 | []=>[]
 | c::r=>qpD (c.toNat / 16)::qpD (c.toNat % 16)::qey r
theorem qf8:∀ s,(qey s).length=2 * s.length
 | []=>rfl
 | c::r=>by simp[qey,qf8 r];omega
theorem qB7 (s:List UInt8) (hs:s.length≤1048576):CV prog 365 [.str s] (.str (qey s)):=by
 obtain⟨R,hR⟩:∃ R,qey s=R:=⟨_,rfl⟩;rw[hR];refine cvx func365 [(5,[zI 0,zI 1,zI 2,zI 3,zI 4,zI 5,zI 7,zI 8,zI 9,zI 10,zI 11,zI 6,zI 12,zI 13,zI 14,zI 15])] ntmps365 rfl rfl rfl ?_;simp;refine qbj (X:=Nat×List UInt8) [0,3,4] [(5,900)] (fun x=>[(4,.int .i64 x.1),(3,.sl 900 0 x.2.length)]) (fun x=>[(900,⟨1,x.2.map qgr⟩)]) (fun x=>s.length-x.1) (fun x=>x.1≤s.length∧x.2.length=2 * x.1∧x.2++qey (s.drop x.1)=R) (0,[]) (by simp[hR]) ?_ (he:=by simp[qag]);rintro⟨i,out⟩ ⟨hi,hol,hd⟩;simp only at hi hol hd;cases hr:s.drop i with
 | nil =>
  have:=qaY hr;rw[hr,qey]at hd;have hie:i=s.length:=by omega
  subst hie;simp only[qGw]at hd;simp[qgk,qEF,hd];exact fun x _=>rfl
 | cons x r =>
  obtain⟨h1,e0,e1,h3⟩:=qaZ hr;rw[hr,qey]at hd;have e2:=qao ((i:Int)+1) (by omega) (by omega);have hx:=x.toNat_lt;have w1:=qao (x.toNat:Int) (by omega) (by omega);have q1:((x.toNat:Int)).tdiv 16=(x.toNat:Int) / 16:=qGW (by omega);have q2:((x.toNat:Int)).tmod 16=(x.toNat:Int) % 16:=qGV (by omega);have w2:=qao ((x.toNat:Int) / 16) (by omega) (by omega);have c1:=qyT (x.toNat / 16) (by omega);have c2:=qyT (x.toNat % 16) (by omega);rw[show((x.toNat / 16:Nat):Int)=(x.toNat:Int) / 16 by omega]at c1;rw[show((x.toNat % 16:Nat):Int)=(x.toNat:Int) % 16 by omega]at c2;simp[h1,e0,e1,w1,q1,q2,w2];refine c1.call ?_;simp[h1,e0,e1,w1,q1,q2,w2];refine c2.call ?_;simp;refine⟨by omega,?_⟩;refine nx (i+1,out++[qpD (x.toNat / 16),qpD (x.toNat % 16)]) [(26,900)] ⟨by simp only;omega,by simp;omega,by simp only[h3];simpa using hd⟩ (by simp only;omega) (h4:=?_);simp[qag,e2,qEF,qhC,qgr]
  try trace_state
theorem qqf (s:List UInt8):(qdS s).length≤70000:=by
 unfold qdS;split
 ·simp
 ·have h1:=qkH (qjh s (1+s.length % 997)) [];have h2:=qh4 s (1+s.length % 997) (by omega);simp at h1 ⊢;omega
structure LT where
 ls:Int
 la:Int
 lx:List UInt8
deriving DecidableEq,Inhabited
def LT.row (w:LT):List AV:=[.int .i64 w.ls,.int .i64 w.la,.str w.lx]
structure DK where
 s0:List (List UInt8)
 s1:List (List UInt8)
 late:List LT
deriving DecidableEq,Inhabited
def DK.row (d:DK):List AV:=[.lst 1 (d.s0.map qae),.lst 1 (d.s1.map qae),.lst 3 (d.late.map LT.row)]
def qbU (l:List LT):Ob:=⟨3,l.map LT.row⟩
structure DkT (d:DK):Prop where
 l0:d.s0.length≤1048576
 l1:d.s1.length≤1048576
 l2:d.late.length≤1048576
 t0:∀ x∈d.s0,x.length≤1048576
 t1:∀ x∈d.s1,x.length≤1048576
 t2:∀ w∈d.late,w.lx.length≤1048576
def qa4 (d:DK) (side at':Int) (text:List UInt8):Bool:=decide (0≤side) && decide (side≤1) && decide (0≤at') && decide (at'<d.s0.length) && decide (text.length≤420)
theorem qmA (d:DK) (h:DkT d) (side at':Int) (text:List UInt8) (ht:text.length≤1048576):CV prog 153 [.agg d.row,.int .i64 side,.int .i64 at',.str text] (.bool (qa4 d side at' text)):=by
 have:=h.l0;refine cvx func153 [] ntmps153 rfl rfl rfl ?_ (hca:=by simp[DK.row]);simp[DK.row,qa4];grind
def qbw (d:DK):Bool:=decide (1≤d.s0.length) && decide (d.s0.length≤120) && decide (d.s1.length=d.s0.length) && decide (d.late.length≤600) &&
 d.s0.all (fun x=>decide (x.length≤420)) && d.s1.all (fun x=>decide (x.length≤420)) && d.late.all (fun w=>qa4 d w.ls w.la w.lx)
theorem qee (d:DK) (h:DkT d):CV prog 74 [.agg d.row] (.bool (qbw d)):=by
 obtain⟨R,hR⟩:∃ R,qbw d=R:=⟨_,rfl⟩;rw[hR];have h0:=h.l0;have h1:=h.l1;have h2:=h.l2;refine cvx func74 [(12,[zJ 0 [1] [],zJ 1 [] [1],zJ 2 [1] [1],zJ 3 [] [1],zJ 4 [] [1],zJ 5 [] [1],zJ 6 [] [1],zJ 7 [] [1],zJ 8 [1] [1],zJ 9 [] [1],zJ 10 [] [1],zJ 11 [] [1],zJ 12 [] [1],zJ 13 [] [1],zJ 14 [1] [1],zJ 15 [] [1],zJ 16 [] [1],zJ 17 [] [1],zJ 18 [] [1],zI 19,zI 20])] ntmps74 rfl rfl rfl ?_ (hca:=by simp[DK.row]);by_cases g:1≤d.s0.length∧d.s0.length≤120∧d.s1.length=d.s0.length∧d.late.length≤600;rotate_left
 ·have:R=false:=by rw[← hR];unfold qbw;grind
  subst this;simp[DK.row];grind
 obtain⟨g1,g2,g3,g4⟩:=g;have g1':¬ (d.s0.length:Int)<1:=by omega
 have g2':¬ 120<(d.s0.length:Int):=by omega
 have g4':¬ 600<(d.late.length:Int):=by omega
 simp[DK.row,g1',g2',g3,g4'];refine qaS (X:=Nat) [1,2,3,4] [(1,1)] (fun i=>[(4,.int .i64 i)]) (fun _=>[]) (fun i=>d.s0.length-i) (fun i=>i≤d.s0.length∧((d.s0.drop i).all (fun x=>decide (x.length≤420)) && (d.s1.drop i).all (fun x=>decide (x.length≤420)) && d.late.all (fun w=>qa4 d w.ls w.la w.lx))=R) 0 (by simp[← hR,qbw,g1,g2,g3,g4]) ?_ (he:=by simp[qag]);rintro i ⟨hi,hd⟩;by_cases hlt:i<d.s0.length
 ·have hlt1:i<d.s1.length:=by omega
  have k0:=qEv hlt;have k1:=qEv hlt1;generalize ex:d.s0[i]=x at *
  generalize ey:d.s1[i]=y at *
  have hx:=qEW.2 ⟨hlt,ex⟩;have hy:=qEW.2 ⟨hlt1,ey⟩;rw[k0,k1]at hd;simp only[qGf]at hd;have hli:(i:Int)<d.s0.length:=by omega
  have e2:=qao ((i:Int)+1) (by omega) (by omega);simp[qag,qae,hlt,hlt1,ex,ey,hx,hy,hli,e2,g3]
  repeat' first
   | with_reducible refine And.intro ?_ ?_
   | with_reducible intro _
  all_goals first
   | exact nx (i+1) [(1,1)] (by grind) (h4:=by simp[qag])
   | grind
 ·have hie:i=d.s0.length:=by omega
  subst hie;rw[qEz (qD9 _),qEz (by omega)]at hd;simp only[List.all_nil,qGE]at hd;simp[qag];refine qaS (X:=Nat) [1,2,3,5] [(1,1)] (fun i=>[(5,.int .i64 i)]) (fun _=>[]) (fun i=>d.late.length-i) (fun i=>i≤d.late.length∧((d.late.drop i).all (fun w=>qa4 d w.ls w.la w.lx))=R) 0 (by simp[hd]) ?_ (he:=by simp[qag]);rintro i ⟨hi,hd⟩;cases hr:d.late.drop i with
  | nil =>
   have:=qaY hr;rw[hr]at hd;have hie:i=d.late.length:=by omega
   subst hie;simp[qag];simpa using hd
  | cons w q =>
   obtain⟨k1,e0,e1,k3⟩:=qaZ hr;rw[hr]at hd;simp only[qGf]at hd;have hli:(i:Int)<d.late.length:=by omega
   have e2:=qao ((i:Int)+1) (by omega) (by omega);have hw:=h.t2 w (qGj e1);have c:=qmA d h w.ls w.la w.lx hw;simp only[DK.row]at c;simp[qag,LT.row,k1,e0,e1,hli,e2];refine c.call ?_;simp[e2]
   repeat' first
    | with_reducible refine And.intro ?_ ?_
    | with_reducible intro _
   all_goals first
    | exact nx (i+1) [(1,1)] (by grind) (h4:=by simp[qag,e2])
    | grind
def qc8 (side at':Int) (w:LT):Bool:=decide (w.ls=side) && decide (w.la=at')
def qoN (d:DK) (side:Int):List (List UInt8):=if side=0 then d.s0 else d.s1
def qdV (d:DK) (side at':Int):List UInt8:=match d.late.reverse.find? (qc8 side at')with
 | some w=>w.lx
 | none=>(qoN d side)[at'.toNat]?.getD []
theorem qon {α:Type} (p:α→Bool) {l:List α} {i:Nat} {x:α} (h:l[i]?=some x) (ha:(l.drop (i+1)).all (fun y=>!p y)=true):(if p x=true then l.reverse.find? p=some x else l.reverse.find? p=(l.take i).reverse.find? p):=by
 have e:l=l.take i++x::l.drop (i+1):=by
  obtain⟨h1,rfl⟩:=qEW.1 h;rw[← qEv h1,qEu]
 have e2:l.reverse=(l.drop (i+1)).reverse++x::(l.take i).reverse:=by
  conv=>lhs;rw[e]
  simp
 have e3:(l.drop (i+1)).reverse.find? p=none:=by
  rw[qG5];intro y hy;rw[qG6]at hy;simpa using qED.1 ha y hy
 rw[e2,List.find?_append,e3,Option.none_or,List.find?_cons];cases p x <;> simp
theorem qqj (d:DK) (h:DkT d) (side at':Int) (hs:side=0∨side=1) (ha:0≤at'∧at'<d.s0.length) (h1:d.s1.length=d.s0.length):CV prog 82 [.agg d.row,.int .i64 side,.int .i64 at'] (.str (qdV d side at')):=by
 obtain⟨R,hR⟩:∃ R,qdV d side at'=R:=⟨_,rfl⟩;rw[hR];have h0:=h.l0;have h2:=h.l2;refine cvx func82 [] ntmps82 rfl rfl rfl ?_ (hca:=by simp[DK.row]);have e0:=qao ((d.late.length:Int)-1) (by omega) (by omega);simp[DK.row,e0];refine qaS (X:=Nat) [1,2,3,7] [(3,3)] (fun i=>[(7,.int .i64 ((i:Int)-1))]) (fun _=>[]) (fun i=>i) (fun i=>i≤d.late.length∧(d.late.drop i).all (fun w=>!qc8 side at' w)=true) d.late.length (by simp) ?_ (he:=by simp[qag]);rintro i ⟨hi,hd⟩;cases i with
 | zero =>
  have hf:d.late.reverse.find? (qc8 side at')=none:=by
   rw[qG5];intro y hy;rw[qG6]at hy;simpa using qED.1 hd y hy
  unfold qdV at hR;rw[hf]at hR;have ha0:at'.toNat<d.s0.length:=by omega
  have ha1:at'.toNat<d.s1.length:=by omega
  have ha1':at'<d.s1.length:=by omega
  rcases hs with rfl | rfl
  ·have hx:d.s0[at'.toNat]?=some R:=by
    rw[qEq ha0];simpa [qoN,qEq ha0]using hR
   have hx0:=(qEW.1 hx).2;simp[qag,ha.1,ha.2,ha0,hx,hx0,qae]
  ·have hx:d.s1[at'.toNat]?=some R:=by
    rw[qEq ha1];simpa [qoN,qEq ha1]using hR
   have hx0:=(qEW.1 hx).2;simp[qag,ha.1,ha1',ha1,hx,hx0,qae]
 | succ k =>
  have hk:k<d.late.length:=by omega
  obtain⟨w,hw⟩:∃ w,d.late[k]?=some w:=⟨_,qEq hk⟩;have hw0:=(qEW.1 hw).2;have e1:((k+1:Nat):Int)-1=k:=by omega
  have e2:(0:Int)≤k:=by omega
  have e3:(k:Int)<d.late.length:=by omega
  have e4:=qao ((k:Int)-1) (by omega) (by omega);have hf:=qon (qc8 side at') hw hd;have hdk:(d.late.drop k).all (fun w=>!qc8 side at' w)=(!qc8 side at' w && (d.late.drop (k+1)).all (fun w=>!qc8 side at' w)):=by
   rw[qEv hk,hw0,qGf]
  have hnx:qc8 side at' w=false→∀ x∈d.late.drop k,qc8 side at' x=false:=fun hl x hx=>by
   rw[hl,hd]at hdk;simpa using qED.1 hdk x hx
  have hlx:qc8 side at' w=true→w.lx=R:=fun hl=>by
   rw[if_pos hl]at hf;unfold qdV at hR;rw[hf]at hR;exact hR
  simp only[e1];simp[qag,LT.row,hk,hw,hw0,e2,e3,e4];refine⟨fun q1=>⟨fun q2=>hlx (by simp[qc8,q1,q2]),fun q2=>nx k [(3,3)] ⟨by omega,hnx (by simp[qc8,q2])⟩ (h4:=by simp[qag,e4])⟩,fun q1=>nx k [(3,3)] ⟨by omega,hnx (by simp[qc8,q1])⟩ (h4:=by simp[qag,e4])⟩
theorem qbs {d:DK} (h:qbw d=true):1≤d.s0.length∧d.s0.length≤120∧d.s1.length=d.s0.length∧d.late.length≤600∧(∀ x∈d.s0,x.length≤420)∧(∀ x∈d.s1,x.length≤420)∧∀ w∈d.late,qa4 d w.ls w.la w.lx=true:=by
 simp only[qbw,Bool.and_eq_true,decide_eq_true_eq,qED]at h;obtain⟨⟨⟨⟨⟨⟨g1,g2⟩,g3⟩,g4⟩,g5⟩,g6⟩,g7⟩:=h;exact⟨g1,g2,g3,g4,g5,g6,g7⟩
theorem thereB_iff {d:DK} {side at':Int} {t:List UInt8}:qa4 d side at' t=true↔(side=0∨side=1)∧(0≤at'∧at'<d.s0.length)∧t.length≤420:=by
 simp only[qa4,Bool.and_eq_true,decide_eq_true_eq];omega
theorem qdE {d:DK} (h:qbw d=true):DkT d:=by
 obtain⟨g1,g2,g3,g4,g5,g6,g7⟩:=qbs h;refine⟨by omega,by omega,by omega,fun x hx=>by have:=g5 x hx;omega,fun x hx=>by have:=g6 x hx;omega,fun w hw=>?_⟩;have:=(thereB_iff.1 (g7 w hw)).2.2;omega
theorem qeK {d:DK} (h:qbw d=true) (side at':Int):(qdV d side at').length≤420:=by
 obtain⟨g1,g2,g3,g4,g5,g6,g7⟩:=qbs h;unfold qdV;split
 ·rename_i w hw;have:=List.mem_of_find?_eq_some hw;rw[qG6]at this;exact(thereB_iff.1 (g7 w this)).2.2
 ·unfold qoN;split
  ·cases e:d.s0[at'.toNat]? with
   | none=>simp
   | some x=>simpa using g5 x (qGj e)
  ·cases e:d.s1[at'.toNat]? with
   | none=>simp
   | some x=>simpa using g6 x (qGj e)
def qbF (d:DK) (side at':Int):List UInt8×Bool:=if qbw d && qa4 d side at' [] then (qdV d side at',true) else ([],false)
theorem qnD (d:DK) (h:DkT d) (side at':Int):CV prog 72 [.agg d.row,.int .i64 side,.int .i64 at'] (.tup [.str (qbF d side at').1,.bool (qbF d side at').2]):=by
 have c1:=qee d h;have c2:=qmA d h side at' [] (by simp);unfold qbF;refine cvx func72 [] ntmps72 rfl rfl rfl ?_ (hca:=by simp[DK.row]);cases g1:qbw d with
 | false =>
  rw[g1]at c1;simp only[DK.row]at c1;simp[DK.row];refine c1.call ?_;simp
 | true =>
  rw[g1]at c1;cases g2:qa4 d side at' []with
  | false =>
   rw[g2]at c2;simp only[DK.row]at c1 c2;simp[DK.row];refine c1.call ?_;simp;refine c2.call ?_;simp
  | true =>
   rw[g2]at c2;obtain⟨k1,k2,k3⟩:=thereB_iff.1 g2;have c3:=qqj d h side at' k1 k2 (qbs g1).2.2.1;simp only[DK.row]at c1 c2 c3;simp[DK.row];refine c1.call ?_;simp;refine c2.call ?_;simp;refine c3.call ?_;simp
def smB (s:List UInt8):Nat:=qjh s (1+s.length % 997)
theorem qug (s:List UInt8):smB s<65521:=qh4 s _ (by omega)
theorem qvX (s:List UInt8) (hs:s.length≤maxLen):CV prog 170 [.str s] (.int .i64 (smB s:Nat)):=qyO s hs
theorem qpn (d:DK) (side at':Int):(qbF d side at').1.length≤420:=by
 unfold qbF;split
 ·rename_i h;simp only[Bool.and_eq_true]at h;exact qeK h.1 side at'
 ·simp
def qaN (d:DK) (p:PT) (side:Int):Bool:=(qbF d side p.pa).2 && qaI p && decide (0<p.pa) && decide ((smB (qbF d side p.pa).1:Int)=p.ps)
theorem qyX (d:DK) (h:DkT d) (p:PT) (side:Int):CV prog 81 [.agg d.row,.agg p.row,.int .i64 side] (.bool (qaN d p side)):=by
 have c1:=qnD d h side p.pa;have c2:=qdT p;have c3:=qvX (qbF d side p.pa).1 (by have:=qpn d side p.pa;simp[maxLen];omega);unfold qaN;generalize qbF d side p.pa=x at *
 obtain⟨t,ok⟩:=x;simp only[DK.row,PT.row]at c1 c2 c3;refine cvx func81 [(2,[zI 0,zI 1,zJ 2 [4] [],zI 3,zI 4,zI 5,zI 6,zJ 7 [4] [],zI 8,zI 9,zI 10,zI 11,zI 13,zJ 14 [4] [],zJ 12 [] [4],zI 15,zI 16,zI 17])] ntmps81 rfl rfl rfl ?_ (hca:=by simp[DK.row,PT.row]);simp[DK.row,PT.row];refine c1.call ?_;cases ok with
 | false=>simp
 | true =>
  simp;refine c2.call ?_;cases qaI p with
  | false=>simp
  | true =>
   simp;refine⟨fun hp=>?_,fun hp=>by omega⟩;refine c3.call ?_;simp[hp]
   first | rfl | simp[qGK]
def qaj (d:DK) (p:PT):List UInt8×Int :=
 if (qaI p && decide (p.pa=0))=true then ([],1) else if qaN d p 0=true then (qdV d 0 p.pa,0) else if qaN d p 1=true then (qdV d 1 p.pa,0) else ([],2)
theorem qdl {d:DK} {p:PT} {side:Int} (h:qaN d p side=true):qbw d=true∧qaI p=true∧0<p.pa∧qa4 d side p.pa []=true∧(smB (qdV d side p.pa):Int)=p.ps:=by
 simp only[qaN,Bool.and_eq_true,decide_eq_true_eq]at h;obtain⟨⟨⟨h1,h2⟩,h3⟩,h4⟩:=h;unfold qbF at h1 h4;split at h1
 ·rename_i g;rw[if_pos g]at h4;simp only[Bool.and_eq_true]at g;exact⟨g.1,h2,h3,g.2,h4⟩
 ·cases h1
theorem qfR (d:DK) (h:DkT d) (p:PT):CV prog 33 [.agg d.row,.agg p.row] (.tup [.str (qaj d p).1,.int .i64 (qaj d p).2]):=by
 obtain⟨R,hR⟩:∃ R,qaj d p=R:=⟨_,rfl⟩;rw[hR];unfold qaj at hR;have c2:=qdT p;simp only[PT.row]at c2;refine cvx func33 [] ntmps33 rfl rfl rfl ?_ (hca:=by simp[DK.row,PT.row]);simp[DK.row,PT.row];refine c2.call ?_;by_cases hz:(qaI p && decide (p.pa=0))=true
 ·rw[if_pos hz]at hR;simp only[Bool.and_eq_true,decide_eq_true_eq]at hz;simp[hz.1,hz.2,← hR]
 rw[if_neg hz]at hR;have hz':¬ (qaI p=true∧p.pa=0):=by simpa using hz
 have key:∀ j:Nat,j<2→qaN d p j=true→(∀ k:Nat,k<j→qaN d p k=false)→R=(qdV d j p.pa,0):=fun j hj h1 h2=>by
  rw[← hR];rcases(show j=0∨j=1 by omega)with rfl | rfl
  ·have h1':qaN d p 0=true:=h1;simp[h1']
  ·have h2':qaN d p 0=false:=h2 0 (by omega);have h1':qaN d p 1=true:=h1;simp[h1',h2']
 have key2:qaN d p 0=false→qaN d p 1=false→R=([],2):=fun h1 h2=>by rw[← hR,h1,h2];simp
 have hcase:qaI p=false∨(qaI p=true∧¬ p.pa=0):=by
  cases g:qaI p with
  | false=>exact .inl rfl
  | true=>exact .inr ⟨rfl,fun e=>hz' ⟨g,e⟩⟩
 rcases hcase with hp | ⟨hp,hpa⟩;rotate_left;simp[hp,hpa];rotate_left;simp[hp]
 all_goals
  refine qaS (X:=Nat) [2,3,4,5,6] [(2,2),(3,3)] (fun i=>[(6,.int .i64 i)]) (fun _=>[]) (fun i=>2-i) (fun i=>i≤2∧∀ k:Nat,k<i→qaN d p k=false) 0 (by simp) ?_ (he:=by simp[qag]);rintro i ⟨hi,hf⟩;by_cases h2:i=2
  ·subst h2;have:=key2 (hf 0 (by omega)) (hf 1 (by omega));simp[qag,this]
  ·have h2':i<2:=by omega
   have h2i:(i:Int)<2:=by omega
   have e2:=qao ((i:Int)+1) (by omega) (by omega);have c4:=qyX d h p i;simp only[DK.row,PT.row]at c4;simp[qag,h2i];refine c4.call ?_;cases hb:qaN d p i with
   | true =>
    have hk:=key i h2' hb hf;obtain⟨m1,m2,m3,m4,m5⟩:=qdl hb;obtain⟨n1,n2,n3⟩:=thereB_iff.1 m4;have c5:=qqj d h i p.pa n1 n2 (qbs m1).2.2.1;simp only[DK.row]at c5;simp;refine c5.call ?_;simp[hk]
   | false =>
    simp;exact nx (i+1) [(2,2),(3,3)] ⟨by omega,fun k hk=>by
     rcases(show k<i∨k=i by omega)with h | rfl
     ·exact hf k h
     ·exact hb⟩ (h4:=by simp[qag,e2])
theorem qnF (d:DK) (h:DkT d):ACall prog 43 [.agg d.row] [] (fun r L'=>r=.agg [.sl 7 0 d.s0.length,.sl 12 0 d.s1.length,.sl 17 0 d.late.length]∧L'=[(7,qai d.s0),(12,qai d.s1),(17,qbU d.late)]):=by
 have h0:=h.l0;have h1:=h.l1;have h2:=h.l2;refine acx func43 [(1,[zI 1,zI 2,zJ 3 [1] [],zJ 6 [] [1],zJ 7 [] [1],zJ 8 [1] [1],zJ 12 [] [1],zJ 13 [1] [1],zJ 0 [] [1],zJ 4 [0,3] [1],zJ 5 [] [1],zJ 9 [0,8] [1],zJ 10 [] [1],zJ 11 [] [1],zJ 14 [0,14] [],zI 15,zI 16])] ntmps43 rfl rfl rfl ?_;simp[DK.row,qai,qbU];refine⟨⟨by omega,fun x _ y hy=>?_⟩,⟨by omega,fun x _ y hy=>?_⟩,by omega,fun x _ y hy=>?_⟩
 ·simp only[qae,qFO,qFX,or_false]at hy;subst hy;rfl
 ·simp only[qae,qFO,qFX,or_false]at hy;subst hy;rfl
 ·simp only[LT.row,qFO,qFX,or_false]at hy;rcases hy with rfl | rfl | rfl <;> rfl
theorem qqu (d:DK) (h:DkT d):CV prog 43 [.agg d.row] (.agg d.row):=by
 refine CV.of_frz (qnF d h) ?_ (hca:=by simp[DK.row]) (hcv:=by simp[DK.row]);rintro r L' ⟨rfl,rfl⟩;refine⟨by simp,by simp,by simp[clR,qai,qbU,qae,LT.row],?_⟩;simp[qbe,DK.row,qai,qbU,qEF];exact qa1 _
def qbI (at':Int) (text:List UInt8) (birth:Int):PT:=if at'<1∨qaI ⟨at',smB text,birth⟩=false then ⟨0,0,0⟩ else ⟨at',smB text,birth⟩
theorem qqv (at':Int) (text:List UInt8) (birth:Int) (ht:text.length≤maxLen):CV prog 208 [.int .i64 at',.str text,.int .i64 birth] (.agg (qbI at' text birth).row):=by
 have c1:=qvX text ht;have c2:=qdT ⟨at',smB text,birth⟩;unfold qbI;simp only[PT.row]at c2;refine cvx func208 [] ntmps208 rfl rfl rfl ?_ (hcv:=by simp[PT.row]);simp;refine c1.call ?_;simp;by_cases h1:at'<1
 ·simp[h1,PT.row];intro h;omega
 ·simp[h1];intro _;refine c2.call ?_;cases qaI ⟨at',smB text,birth⟩with
  | true=>simp[h1,PT.row]
  | false=>simp[h1,PT.row]
theorem CV.of_imp {P:Program} {f:Nat} {args:List AV} {v:AV} (h:ACall P f args [] (fun r L'=>qi1 r v∧L'=[])) (he:qb8 P f=true:=by kernel_rfl) (hca:clL args=true:=by simp) (hcv:clA v=true:=by simp):CV P f args v :=
 ⟨he,hca,hcv,h.imp fun r L' ⟨h1,h2⟩=>⟨v,h1,rfl,h2⟩⟩
@[simp] theorem qBq (r:AV):qi1 r r=True:=eq_true (qa1 r)
def zDK:DK:=⟨[],[],[]⟩
theorem qfE:qi1 (.agg [.nils,.nils,.nils]) (.agg zDK.row):=qkm (.cons (qbT 1) (.cons (qbT 1) (.cons (qbT 3) .nil)))
theorem qal {α β:Type} (f:α→β) (l:List α):List.take l.length (List.map f l)=List.map f l:=qEF (by simp)
@[simp] theorem qwj (ρ:Nat→Option Plc):qb3 ρ ∘ qae=qae:=by funext x;simp[qae]
@[simp] theorem qya (ρ:Nat→Option Plc):qb3 ρ ∘ LT.row=LT.row:=by funext x;simp[LT.row]
@[simp] theorem qwi (ρ:Nat→Option Plc) (l:List (List UInt8)):qbm ρ (qai l)=qai l:=by simp[qai,qbm]
@[simp] theorem qx7 (ρ:Nat→Option Plc) (l:List LT):qbm ρ (qbU l)=qbU l:=by simp[qbU,qbm]
def qaP (d:DK) (side at':Int) (text:List UInt8):DK×Bool :=
 if qbw d=false then (zDK,false) else if qa4 d side at' text=false∨d.late.length=600 then (d,false) else (⟨d.s0,d.s1,d.late++[⟨side,at',text⟩]⟩,true)
theorem qqg (d:DK) (h:DkT d) (side at':Int) (text:List UInt8) (ht:text.length≤1048576):CV prog 327 [.agg d.row,.int .i64 side,.int .i64 at',.str text] (.tup [.agg (qaP d side at' text).1.row,.bool (qaP d side at' text).2]):=by
 obtain⟨R,hR⟩:∃ R,qaP d side at' text=R:=⟨_,rfl⟩;rw[hR];unfold qaP at hR;have h2:=h.l2;have c1:=qee d h;have c2:=qmA d h side at' text ht;have co:=qnF d h;simp only[DK.row]at c1 c2 co;have key:ACall prog 327 [.agg d.row,.int .i64 side,.int .i64 at',.str text] [] (fun r L'=>(R=(zDK,false)∧r=.tup [.agg [.nils,.nils,.nils],.bool false]∧L'=[]) ∨
   (∃ id,(id=17∨id=37)∧r=.tup [.agg [.sl 7 0 R.1.s0.length,.sl 12 0 R.1.s1.length,.sl id 0 R.1.late.length],.bool R.2]∧L'=[(7,qai R.1.s0),(12,qai R.1.s1),(id,qbU R.1.late)])):=by
  refine acx func327 [] ntmps327 rfl rfl rfl ?_;simp[DK.row];refine c1.call ?_;cases hok:qbw d with
  | false =>
   rw[if_pos hok]at hR;simp[← hR]
  | true =>
   rw[if_neg (by simp[hok])]at hR;simp;refine qad [] (by kernel_rfl) co (by simp) (by simp) trivial (by simp) (by simp) ?_;rintro r L' ⟨rfl,rfl⟩;refine⟨[(7,7),(12,12),(17,17)],⟨by simp,by simp,by simp,by simp,by simp⟩,?_⟩;simp only[qaf];simp;refine c2.call ?_;cases hth:qa4 d side at' text with
   | false =>
    rw[if_pos (.inl hth)]at hR;simp[← hR]
   | true =>
    by_cases h6:d.late.length=600
    ·rw[if_pos (.inr h6)]at hR;have h6':(d.late.length:Int)=600:=by omega
     simp[← hR,h6']
    ·rw[if_neg (by simp[hth,h6])]at hR;have h6':¬ (d.late.length:Int)=600:=by omega
     simp[← hR,h6',qbU,qal,LT.row];omega
 refine CV.of_frz key ?_ (hca:=by simp[DK.row]) (hcv:=by simp[DK.row]);rintro r L' (⟨rfl,rfl,rfl⟩ | ⟨id,hid,rfl,rfl⟩)
 ·refine⟨by simp,by simp,by simp,?_⟩;simp only[qbe];exact qgH (.cons qfE (.cons (qa1 _) .nil))
 ·rcases hid with rfl | rfl
  all_goals
   refine⟨by simp,by simp,by simp[clR,qai,qbU,qae,LT.row],?_⟩;simp[qbe,DK.row,qai,qbU,qal]
def qeh (p:List (List UInt8)×List (List UInt8)) (w:LT):List (List UInt8)×List (List UInt8):=if w.ls=0 then (p.1.set w.la.toNat w.lx,p.2) else (p.1,p.2.set w.la.toNat w.lx)
def qbt (d:DK):DK:=if qbw d=true then ⟨(d.late.foldl qeh (d.s0,d.s1)).1,(d.late.foldl qeh (d.s0,d.s1)).2,[]⟩ else zDK
theorem qhE (p:List (List UInt8)×List (List UInt8)) (w:LT):(qeh p w).1.length=p.1.length∧(qeh p w).2.length=p.2.length:=by
 unfold qeh;split <;> simp
theorem qv6 (d:DK) (h:DkT d):CV prog 212 [.agg d.row] (.agg (qbt d).row):=by
 obtain⟨R,hR⟩:∃ R,qbt d=R:=⟨_,rfl⟩;rw[hR];unfold qbt at hR;have h0:=h.l0;have h1:=h.l1;have h2:=h.l2;have c1:=qee d h;have co:=qnF d h;simp only[DK.row]at c1 co;have key:ACall prog 212 [.agg d.row] [] (fun r L'=>(R=zDK∧r=.agg [.nils,.nils,.nils]∧L'=[]) ∨
   (r=.agg [.sl 7 0 R.s0.length,.sl 12 0 R.s1.length,.nils]∧R.late=[]∧L'=[(7,qai R.s0),(12,qai R.s1)])):=by
  refine acx func212 [(7,[zI 0,zJ 1 [1] [],zJ 2 [] [1],zI 3,zI 4,zI 5,zJ 6 [] [1],zI 7,zJ 8 [3] [],zJ 9 [] [1,3],zJ 10 [1] [1,3],zJ 11 [] [1,3],zJ 12 [] [1,3],zJ 13 [] [1,3],zJ 14 [] [1,3],zJ 15 [] [1,3],zJ 16 [1] [1,3],zJ 17 [] [1,3],zJ 18 [] [1,3],zJ 19 [] [1,3],zJ 20 [] [1,3],zJ 21 [7,12] [],zI 22])] ntmps212 rfl rfl rfl ?_;simp[DK.row];refine c1.call ?_;cases hok:qbw d with
  | false =>
   rw[if_neg (by simp[hok])]at hR;simp[← hR]
  | true =>
   rw[if_pos hok]at hR;obtain⟨g1,g2,g3,g4,g5,g6,g7⟩:=qbs hok;simp;refine qad [] (by kernel_rfl) co (by simp) (by simp) trivial (by simp) (by simp) ?_;rintro r L' ⟨rfl,rfl⟩;refine⟨[(7,7),(12,12),(17,17)],⟨by simp,by simp,by simp,by simp,by simp⟩,?_⟩;simp only[qaf];simp;refine qaS (X:=Nat×(List (List UInt8)×List (List UInt8))) [1,2,3,4] [(1,1),(2,2),(3,3),(7,7),(12,12),(17,17)] (fun x=>[(4,.int .i64 x.1)]) (fun x=>[(7,qai x.2.1),(12,qai x.2.2)]) (fun x=>d.late.length-x.1)
    (fun x=>x.1≤d.late.length∧x.2.1.length=d.s0.length∧x.2.2.length=d.s0.length∧(⟨((d.late.drop x.1).foldl qeh x.2).1,((d.late.drop x.1).foldl qeh x.2).2,[]⟩:DK)=R) (0,(d.s0,d.s1)) (by simp[hR,g3]) ?_ (he:=by simp[qag])
   rintro⟨i,a,b⟩ ⟨hi,ha,hb,hd⟩;simp only at hi ha hb hd;cases hr:d.late.drop i with
   | nil =>
    have:=qaY hr;rw[hr,List.foldl_nil]at hd;have hie:i=d.late.length:=by omega
    subst hie;simp[qag,← hd,ha,hb];exact g3
   | cons w q =>
    obtain⟨k1,e0,e1,k3⟩:=qaZ hr;rw[hr,qEH]at hd;have hw:=thereB_iff.1 (g7 w (qGj e1));obtain⟨w1,w2,w3⟩:=hw;have hli:(i:Int)<d.late.length:=by omega
    have e2:=qao ((i:Int)+1) (by omega) (by omega);have hl:(qeh (a,b) w).1.length=a.length∧(qeh (a,b) w).2.length=b.length:=qhE (a,b) w;rcases w1 with w1 | w1
    ·simp[qag,LT.row,k1,e0,e1,hli,e2,w1,w2.1,w2.2,qai];refine⟨by omega,nx (i+1,qeh (a,b) w) [(1,1),(2,2),(3,3),(7,7),(12,12),(17,17)] ⟨by simp only;omega,by simp only;omega,by simp only;omega,by simp only[k3];exact hd⟩ (by simp only;omega) (h4:=?_)⟩;have hla:w.la.toNat<a.length:=by omega
     simp[qag,e2,qeh,w1,qai,qae,hla]
    ·simp[qag,LT.row,k1,e0,e1,hli,e2,w1,w2.1,w2.2,qai];refine⟨by omega,by omega,nx (i+1,qeh (a,b) w) [(1,1),(2,2),(3,3),(7,7),(12,12),(17,17)] ⟨by simp only;omega,by simp only;omega,by simp only;omega,by simp only[k3];exact hd⟩ (by simp only;omega) (h4:=?_)⟩;have hla:w.la.toNat<b.length:=by omega
     simp[qag,e2,qeh,w1,qai,qae,hla]
 refine CV.of_frz key ?_ (hca:=by simp[DK.row]) (hcv:=by simp[DK.row]);rintro r L' (⟨rfl,rfl,rfl⟩ | ⟨rfl,hl,rfl⟩)
 ·refine⟨by simp,by simp,by simp,?_⟩;simp only[qbe];exact qfE
 ·refine⟨by simp,by simp,by simp[clR,qai,qbU,qae,LT.row],?_⟩;simp[qbe,DK.row,qai,qbU,qal,hl];exact qkm (.cons (qa1 _) (.cons (qa1 _) (.cons (qbT 3) .nil)))
theorem qtz {d:DK} (h:DkT d) {side at':Int} {text:List UInt8} (ht:text.length≤1048576) (hl:d.late.length≤1048575):DkT (qaP d side at' text).1:=by
 unfold qaP;split
 ·exact⟨by simp[zDK],by simp[zDK],by simp[zDK],by simp[zDK],by simp[zDK],by simp[zDK]⟩
 ·split
  ·exact h
  ·refine⟨h.l0,h.l1,by simp;omega,h.t0,h.t1,fun w hw=>?_⟩;rcases qFQ.1 hw with hw | hw
   ·exact h.t2 w hw
   ·simp only[qFO,qFX,or_false]at hw;subst hw;exact ht
def qat (d:DK) (at':Int) (text:List UInt8):DK×Bool :=
 if qbw d=false then (zDK,false) else if 598<d.late.length then (d,false) else
 if (qaP d 0 at' text).2=false then ((qaP d 0 at' text).1,false) else qaP (qaP d 0 at' text).1 1 at' text
theorem qgw (d:DK) (h:DkT d) (at':Int) (text:List UInt8) (ht:text.length≤1048576):CV prog 274 [.agg d.row,.int .i64 at',.str text] (.tup [.agg (qat d at' text).1.row,.bool (qat d at' text).2]):=by
 obtain⟨R,hR⟩:∃ R,qat d at' text=R:=⟨_,rfl⟩;rw[hR];unfold qat at hR;have c1:=qee d h;have c2:=qqu d h;have c3:=qqg d h 0 at' text ht;simp only[DK.row]at c1;have h2:=h.l2;refine CV.of_imp ?_ (hca:=by simp[DK.row]) (hcv:=by simp[DK.row]);refine acx func274 [] ntmps274 rfl rfl rfl ?_;simp[DK.row];refine c1.call ?_;cases hok:qbw d with
 | false =>
  rw[if_pos hok]at hR;simp[← hR];exact qgH (.cons qfE (.cons (qa1 _) .nil))
 | true =>
  rw[if_neg (by simp[hok])]at hR;by_cases hl:598<d.late.length
  ·rw[if_pos hl]at hR;have hl':(598:Int)<d.late.length:=by omega
   simp only[DK.row]at c2;simp[hl'];refine c2.call ?_;simp[← hR]
  ·rw[if_neg hl]at hR;have hl':¬ (598:Int)<d.late.length:=by omega
   have hT:=qtz (side:=0) (at':=at') (text:=text) h ht (by omega);have c4:=qqg (qaP d 0 at' text).1 hT 1 at' text ht;generalize qaP d 0 at' text=x at *
   obtain⟨x,ok⟩:=x;simp only[DK.row]at c3 c4 hR;simp[hl'];refine c3.call ?_;cases ok with
   | false =>
    rw[if_pos rfl]at hR;simp[← hR]
   | true =>
    rw[if_neg (by simp)]at hR;simp;refine c4.call ?_;simp[← hR]
def qaR (l:List DE):Ob:=⟨3,l.map DE.row⟩
@[simp] theorem qyc (ρ:Nat→Option Plc):qb3 ρ ∘ DE.row=DE.row:=by funext x;simp[DE.row]
@[simp] theorem qx8 (ρ:Nat→Option Plc) (l:List DE):qbm ρ (qaR l)=qaR l:=by simp[qaR,qbm]
theorem qAu (e:DE):∀ x∈e.row,qda x=true:=qqV e
theorem qzH (l:List DE):∀ x∈l.map DE.row,noL x=true:=fun x hx=>by
 obtain⟨e,_,rfl⟩:=qER.1 hx;simp[DE.row]
theorem qtJ (l:List DE):∀ x∈l.map DE.row,clL x=true:=fun x hx=>by
 obtain⟨e,_,rfl⟩:=qER.1 hx;simp[DE.row]
theorem qus (l:List DE):∀ x∈l.map DE.row,∀ y∈x,qda y=true:=fun x hx y hy=>by
 obtain⟨e,_,rfl⟩:=qER.1 hx;exact qAu e y hy
theorem qsq {α β:Type} (f:α→β) (l:List α) (k:Nat):(l.map f).take k=(l.take k).map f:=(qGr).symm
theorem qtv {α β:Type} (f:α→β) (l:List α) (k:Nat):((l.map f).drop k).take (l.length-k)=(l.drop k).map f:=by
 rw[qEF (by simp),qGq]
theorem qbZ (l:List DE):clR (qaR l).els=true:=by simp[clR,qaR,DE.row]
theorem qic (l:List DE) (hl:l.length≤1048576):ACall prog 227 [.lst 3 (l.map DE.row)] [] (fun r L'=>r=.sl 5 0 l.length∧L'=[(5,qaR l)]):=by
 refine acx func227 [] ntmps227 rfl rfl rfl ?_;simp[qaR]
 try omega
def qbY (l:List DE) (sum at':Int):List DE×Bool :=
 if qak l=false then ([],false) else if qca ⟨sum,at',1⟩=false then (l,false) else
 if ddT l at'=true then match l[ddP l at']? with
  | some e=>if e.es≠sum∨e.ec=1000 then (l,false) else (l.set (ddP l at') ⟨e.es,e.ea,e.ec+1⟩,true)
  | none=>(l,false)
 else if l.length=48 then (l,false) else (l.take (ddP l at')++⟨sum,at',1⟩::l.drop (ddP l at'),true)
theorem ql7 (l:List DE) (a:Int):ddP l a≤l.length:=qng _ l
theorem qCd (l:List DE) (sum at':Int) (hl:l.length≤1048576):CV prog 275 [.lst 3 (l.map DE.row),.int .i64 sum,.int .i64 at'] (.tup [.lst 3 ((qbY l sum at').1.map DE.row),.bool (qbY l sum at').2]):=by
 obtain⟨R,hR⟩:∃ R,qbY l sum at'=R:=⟨_,rfl⟩;rw[hR];unfold qbY at hR;have c1:=qfz l hl;have co:=qic l hl;have c2:=qs2 l at' hl;have c3:=qqr ⟨sum,at',1⟩;simp only[DE.row]at c3;have hk:=ql7 l at';have key:ACall prog 275 [.lst 3 (l.map DE.row),.int .i64 sum,.int .i64 at'] [] (fun r L'=>(R=([],false)∧r=.tup [.nils,.bool false]∧L'=[]) ∨
   (∃ id,(id=5∨id=77)∧r=.tup [.sl id 0 R.1.length,.bool R.2]∧L'=[(id,qaR R.1)])):=by
  refine acx func275 [] ntmps275 rfl rfl rfl ?_;simp;refine c1.call ?_;cases hok:qak l with
  | false =>
   rw[if_pos hok]at hR;simp[← hR]
  | true =>
   rw[if_neg (by simp[hok])]at hR;simp;refine qad [] (by kernel_rfl) co (by simp) (by simp) trivial (by simp) (by simp) ?_;rintro r L' ⟨rfl,rfl⟩;refine⟨[(5,5)],⟨by simp,by simp,by simp,by simp,by simp⟩,?_⟩;simp only[qaf];simp;refine c2.view (by simp[qbW,mtA,qaR,qal]) ?_;simp;refine c3.call ?_;cases hde:qca ⟨sum,at',1⟩with
   | false =>
    rw[if_pos hde]at hR;simp[← hR]
   | true =>
    rw[if_neg (by simp[hde])]at hR;simp;cases hT:ddT l at' with
    | true =>
     rw[if_pos hT]at hR;obtain⟨e,he,hea⟩:=qcI hT;have hkl:=(qEW.1 he).1;have hk0:=(qEW.1 he).2;rw[he]at hR;have hc:=(qiN hok).2 e (qGj he);have e2:=qao (e.ec+1) (by omega) (by omega);simp only at hR;simp[qaR,hkl,hk0,he,DE.row,e2];refine⟨fun q1=>⟨fun q2=>?_,fun q2=>?_⟩,fun q1=>?_⟩
     ·rw[if_pos (.inr q2)]at hR;subst hR;exact⟨rfl,rfl,rfl⟩
     ·rw[if_neg (fun h=>h.elim (fun h=>h q1) q2)]at hR;subst hR;simp[DE.row,qGv]
     ·rw[if_pos (.inl q1)]at hR;subst hR;exact⟨rfl,rfl,rfl⟩
    | false =>
     rw[if_neg (by simp[hT])]at hR;by_cases h48:l.length=48
     ·rw[if_pos h48]at hR;have h48':(l.length:Int)=48:=by omega
      simp[← hR,h48']
     ·rw[if_neg h48]at hR;have h48':¬ (l.length:Int)=48:=by omega
      have cd:=qic (l.drop (ddP l at')) (by simp;omega);simp[h48'];refine⟨⟨hk,rfl⟩,?_⟩;refine qaJ [] (by kernel_rfl) cd (by simp[qbW,mtA,qaR,hk];exact⟨qEF (by simp),fun x hx=>qtJ l x (qGH hx)⟩) (by simp) trivial (by simp) (by simp) ?_;rintro r L' ⟨rfl,rfl⟩;refine⟨by simp,by simpa [qaR]using qzH (l.drop (ddP l at')),[(5,67)],⟨by simp,by simp,by simp,by simp,by simp⟩,?_⟩;simp only[qaf];simp[qaR];rw[qtv,qsq];subst hR;have e1:List.take (ddP l at'+1) (List.map DE.row (List.take (ddP l at') l)++[[AV.int IntKind.i64 sum,AV.int IntKind.i64 at',AV.int IntKind.i64 1]])=List.map DE.row (List.take (ddP l at') l)++[[AV.int IntKind.i64 sum,AV.int IntKind.i64 at',AV.int IntKind.i64 1]]:=qEF (by simp;omega);rw[e1];refine⟨hk,⟨hk,by omega⟩,⟨by omega,by omega,qus _⟩,by simp[DE.row],by simp;omega,rfl⟩
 refine CV.of_frz key ?_ (hca:=by simp[DE.row]) (hcv:=by simp[DE.row]);rintro r L' (⟨rfl,rfl,rfl⟩ | ⟨id,hid,rfl,rfl⟩)
 ·refine⟨by simp,by simp,by simp,?_⟩;simp only[qbe];exact qgH (.cons (qbT 3) (.cons (qa1 _) .nil))
 ·rcases hid with rfl | rfl
  all_goals
   refine⟨by simp,by simp,by simpa using qbZ _,?_⟩;simp[qbe,qaR,qal]
def qbk (l:List DE) (at':Int):List DE×Bool :=
 if qak l=false then ([],false) else if ddT l at'=false then (l,false) else
 match l[ddP l at']? with
 | some e=>if e.ec=1 then (l.take (ddP l at')++l.drop (ddP l at'+1),true) else (l.set (ddP l at') ⟨e.es,e.ea,e.ec-1⟩,true)
 | none=>(l,false)
theorem qy7 (l:List DE) (at':Int) (hl:l.length≤1048576):CV prog 276 [.lst 3 (l.map DE.row),.int .i64 at'] (.tup [.lst 3 ((qbk l at').1.map DE.row),.bool (qbk l at').2]):=by
 obtain⟨R,hR⟩:∃ R,qbk l at'=R:=⟨_,rfl⟩;rw[hR];unfold qbk at hR;have c1:=qfz l hl;have co:=qic l hl;have c2:=qs2 l at' hl;have hk:=ql7 l at';have key:ACall prog 276 [.lst 3 (l.map DE.row),.int .i64 at'] [] (fun r L'=>(R=([],false)∧r=.tup [.nils,.bool false]∧L'=[]) ∨
   (∃ id,(id=5∨id=47)∧r=.tup [.sl id 0 R.1.length,.bool R.2]∧L'=[(id,qaR R.1)])):=by
  refine acx func276 [(9,[zI 0,zI 1,zI 2,zI 4,zI 5,zI 6,zI 7,zI 3,zI 8,zI 9])] ntmps276 rfl rfl rfl ?_;simp;refine c1.call ?_;cases hok:qak l with
  | false =>
   rw[if_pos hok]at hR;simp[← hR]
  | true =>
   rw[if_neg (by simp[hok])]at hR;simp;refine qad [] (by kernel_rfl) co (by simp) (by simp) trivial (by simp) (by simp) ?_;rintro r L' ⟨rfl,rfl⟩;refine⟨[(5,5)],⟨by simp,by simp,by simp,by simp,by simp⟩,?_⟩;simp only[qaf];simp;refine c2.view (by simp[qbW,mtA,qaR,qal]) ?_;cases hT:ddT l at' with
   | false =>
    rw[if_pos hT]at hR;simp[← hR]
   | true =>
    rw[if_neg (by simp[hT])]at hR;obtain⟨e,he,hea⟩:=qcI hT;have hkl:=(qEW.1 he).1;have hk0:=(qEW.1 he).2;rw[he]at hR;simp only at hR;have hc:=(qiN hok).2 e (qGj he);have e2:=qao (e.ec-1) (by omega) (by omega);have e3:=qao ((ddP l at':Int)+1) (by omega) (by omega);have cd:=qic (l.take (ddP l at')) (by simp;omega);rw[← qsq]at cd;simp[qaR,hkl,hk0,he,DE.row,e2,e3];refine⟨fun q1=>⟨hk,⟨by omega,by omega⟩,?_⟩,fun q1=>?_⟩
    ·rw[if_pos (by omega)]at hR;refine qad [] (by kernel_rfl) cd (by simp) (by simpa using fun x hx=>qtJ l x (qGe hx)) trivial (by simp) (by simp) ?_;rintro r L' ⟨rfl,rfl⟩;refine⟨[(5,42)],⟨by simp,by simp,by simp,by simp,by simp⟩,?_⟩;simp only[qaf];simp[qaR];subst hR;rw[qtv,qsq];have e4:min (ddP l at') l.length=ddP l at':=by omega
     rw[e4,qEF (by simp;omega)];exact⟨⟨by omega,qus _⟩,by simp,by simp;omega,rfl⟩
    ·rw[if_neg (by omega)]at hR;subst hR;simp[DE.row,qGv]
 refine CV.of_frz key ?_ (hca:=by simp[DE.row]) (hcv:=by simp[DE.row]);rintro r L' (⟨rfl,rfl,rfl⟩ | ⟨id,hid,rfl,rfl⟩)
 ·refine⟨by simp,by simp,by simp,?_⟩;simp only[qbe];exact qgH (.cons (qbT 3) (.cons (qa1 _) .nil))
 ·rcases hid with rfl | rfl
  all_goals
   refine⟨by simp,by simp,by simpa using qbZ _,?_⟩;simp[qbe,qaR,qal]
def dec (n:Int):List UInt8:=qm9 n.toNat []
theorem qav (n:Int) (h:n<1000000000):(dec n).length≤9:=by
 unfold dec;rw[qhQ];have:=qkE n.toNat 9 (by omega) (by omega);simpa using this
theorem qib (n:Int) (h0:0≤n) (h:n<1000000000):CV prog 244 [.int .i64 n] (.str (dec n)):=by
 have:=qyU n.toNat (by omega);have e:((n.toNat:Nat):Int)=n:=by omega
 rw[e]at this;exact this
theorem qjs {p:PT} (h:qaI p=true):0≤p.pa∧p.pa<120∧0≤p.ps∧p.ps<65521∧0≤p.pb∧p.pb≤1000000:=by
 unfold qaI at h;split at h
 ·simp only[Bool.and_eq_true,decide_eq_true_eq]at h;omega
 ·simp only[Bool.and_eq_true,decide_eq_true_eq]at h;omega
def qaL (p:PT):List UInt8:=if qaI p=false then [] else if p.pa=0 then [45] else dec p.pa++(46::(dec p.ps++(46::dec p.pb)))
theorem qbn (p:PT):(qaL p).length≤29:=by
 unfold qaL;split
 ·simp
 ·rename_i h;have hb:=qjs (p:=p) (by simpa using h);split
  ·simp
  ·have h1:=qav p.pa (by omega);have h2:=qav p.ps (by omega);have h3:=qav p.pb (by omega);simp;omega
theorem qeI (p:PT):CV prog 243 [.agg p.row] (.str (qaL p)):=by
 obtain⟨R,hR⟩:∃ R,qaL p=R:=⟨_,rfl⟩;rw[hR];have c1:=qdT p;simp only[PT.row]at c1;unfold qaL at hR;refine cvx func243 [(5,[zI 0,zJ 1 [1] [],zJ 4 [] [1],zJ 5 [1] [1],zJ 9 [] [1],zJ 10 [1] [1],zJ 2 [] [1],zJ 3 [] [1],zJ 6 [] [1],zJ 7 [] [1],zJ 8 [] [1],zI 11,zI 12,zI 13])] ntmps243 rfl rfl rfl ?_ (hca:=by simp[PT.row]);simp[PT.row];refine c1.call ?_;cases hok:qaI p with
 | false =>
  rw[if_pos hok]at hR;simp[← hR]
 | true =>
  rw[if_neg (by simp[hok])]at hR;have hb:=qjs hok;by_cases h0:p.pa=0
  ·rw[if_pos h0]at hR;simp[h0,← hR]
  ·rw[if_neg h0]at hR;have d1:=qib p.pa (by omega) (by omega);have d2:=qib p.ps (by omega) (by omega);have d3:=qib p.pb (by omega) (by omega);have l1:=qav p.pa (by omega);have l2:=qav p.ps (by omega);have l3:=qav p.pb (by omega);simp[h0];refine d1.call ?_;simp;refine⟨by omega,?_⟩;refine d2.call ?_;simp;refine⟨by omega,by omega,?_⟩;refine d3.call ?_;simp[← hR];omega
def qct:List PT→Bool→Option (List UInt8)
 | [],_=>some []
 | p::r,first=>if qaI p=false then none else (qct r false).map fun t=>(if first=true then [] else [32])++(qaL p++t)
def qbc (m:List PT):List UInt8:=(qct m true).getD []
theorem qle (m:List PT) (h8:m.length=8):CV prog 248 [.agg (m.flatMap PT.row)] (.str (qbc m)):=by
 obtain⟨R,hR⟩:∃ R,qbc m=R:=⟨_,rfl⟩;rw[hR];refine cvx func248 [] ntmps248 rfl rfl rfl ?_ (hca:=by simp[qe1]);simp[qp1 h8];refine qaS (X:=Nat×List UInt8) [1,2,3,4] [(1,1)] (fun x=>[(3,.str x.2),(4,.int .i64 x.1)]) (fun _=>[]) (fun x=>8-x.1) (fun x=>x.1≤8∧x.2.length≤30 * x.1∧((qct (m.drop x.1) (decide (x.1=0))).map (x.2++·)).getD []=R) (0,[]) (by simp[← hR,qbc]) ?_ (he:=by simp[qag]);rintro⟨i,t⟩ ⟨hi,hl,hd⟩;simp only at hi hl hd;cases hr:m.drop i with
 | nil =>
  have:=qaY hr;rw[hr]at hd;have hie:i=8:=by omega
  subst hie;simp only[qct,qEk,qGw,qFi]at hd;simp[hd]
 | cons p q =>
  obtain⟨k1,e0,e1,k3⟩:=qaZ hr;rw[hr]at hd;simp only[qct]at hd;have hli:(i:Int)<8:=by omega
  have hi8:i<8:=by omega
  have e2:=qao ((i:Int)+1) (by omega) (by omega);have c1:=qdT p;have c2:=qeI p;have hpl:=qbn p;have hf:=qiF e1;simp only[PT.row]at c1 c2;simp[qag,hli,hi8,hf];refine⟨by omega,?_⟩;refine c1.call ?_;cases hok:qaI p with
  | false =>
   rw[if_pos hok]at hd;simp only[qG7,qG8]at hd;simp[← hd]
  | true =>
   rw[if_neg (by simp[hok])]at hd;by_cases h0:i=0
   ·subst h0;have hf0:List.take 3 (List.flatMap PT.row m)=p.row:=by simpa using hf
    simp only[PT.row]at hf0;simp[qag,hf0,PT.row];refine c2.call ?_;simp[e2];refine⟨by omega,nx (1,t++qaL p) [(1,1)] ⟨by simp only;omega,by simp;omega,by simp only[k3];simpa [qG9,qGg]using hd⟩ (by simp only;omega) (h4:=by simp[qag,e2])⟩
   ·have h0':(0:Int)<i:=by omega
    simp[qag,hf,h0',h0];intro _;refine⟨by omega,hli,by omega,?_⟩;refine c2.call ?_;simp[e2];have hd':decide (i=0)=false:=by simpa using h0
    rw[hd']at hd;refine⟨by omega,nx (i+1,t++(32::qaL p)) [(1,1)] ⟨by simp only;omega,by simp;omega,by simp only[k3];simpa [qG9,qGg]using hd⟩ (by simp only;omega) (h4:=by simp[qag,e2])⟩
def qel (s:List UInt8):List UInt8:=if s=[] then [45] else s
theorem qy5 (s:List UInt8):CV prog 245 [.str s] (.str (qel s)):=by
 unfold qel;refine cvx func245 [] ntmps245 rfl rfl rfl ?_;by_cases h:s=[]
 ·simp[h]
 ·simp[h]
def qdU (s:CS):List UInt8:=10::(s.name++(32::(dec s.kind++(32::(qel s.frm++(32::qaL s.home))))))
def qbC:List CS→Option (List UInt8)
 | []=>some []
 | s::r=>if qbl s=false then none else (qbC r).map (qdU s++·)
def qa0:List PT→Option (List UInt8)
 | []=>some []
 | p::r=>if qan p=false then none else (qa0 r).map ((10::46::32::qaL p)++·)
def qay (c:CO):List UInt8:=((qbC c.sets).bind fun t=>(qa0 c.parts).map fun u=>[114,111,111,116]++(t++u)).getD []
theorem qne {s:CS} (h:qbl s=true):1≤s.kind∧s.kind≤2:=by
 simp only[qbl,Bool.and_eq_true,decide_eq_true_eq]at h;exact h.1.1.2
theorem qg2 (s:CS):∀ x∈s.row,qda x=true:=fun x hx=>by
 simp only[CS.row,qFO,qFQ,qGN,PT.row,qFX,or_false]at hx;rcases hx with rfl | rfl | rfl | ⟨p,_,hp⟩ | h | rfl
 ·rfl
 ·rfl
 ·rfl
 ·rcases hp with rfl | rfl | rfl <;> rfl
 ·rcases h with rfl | rfl | rfl <;> rfl
 ·rfl
theorem qiD (s:List UInt8):(qel s).length≤s.length+1:=by unfold qel;split <;> simp
theorem qfA {s:CS} (h:qbl s=true):(qdU s).length≤64:=by
 have h1:=qiP h;have h2:=qne h;have h3:=qav s.kind (by omega);have h4:=qiD s.frm;have h5:=qbn s.home;simp[qdU];omega
theorem qqh (c:CO) (h:CoT c):CV prog 160 [.agg c.row] (.str (qay c)):=by
 obtain⟨R,hR⟩:∃ R,qay c=R:=⟨_,rfl⟩;rw[hR];have hs:=h.sets;have hp:=h.parts;refine cvx func160 [(8,[zI 0,zI 1,zI 2,zJ 3 [5] [],zI 4,zI 5,zJ 6 [] [5],zJ 7 [5] [5],zJ 11 [] [5],zJ 12 [5] [5],zJ 16 [] [5],zJ 17 [5] [5],zJ 8 [] [5],zJ 9 [] [5],zJ 10 [] [5],zJ 13 [] [5],zJ 14 [] [5],zJ 15 [] [5],zJ 18 [] [5],zI 19,zI 20])] ntmps160 rfl rfl rfl ?_ (hca:=by simp[CO.row,PT.row,DE.row,qbO,qac]);simp[CO.row];refine qaS (X:=Nat×List UInt8) [1,2,3,4] [(1,1)] (fun x=>[(3,.str x.2),(4,.int .i64 x.1)]) (fun _=>[]) (fun x=>c.sets.length-x.1) (fun x=>x.1≤c.sets.length∧x.2.length≤4+64 * x.1∧((qbC (c.sets.drop x.1)).bind fun t=>(qa0 c.parts).map fun u=>x.2++(t++u)).getD []=R) (0,[114,111,111,116]) (by simp[← hR,qay]) ?_ (he:=by simp[qag]);rintro⟨i,t⟩ ⟨hi,hl,hd⟩;simp only at hi hl hd;cases hr:c.sets.drop i with
 | nil =>
  have:=qaY hr;rw[hr]at hd;have hie:i=c.sets.length:=by omega
  subst hie;simp only[qbC,qFS,qE0]at hd;simp[qag];refine qaS (X:=Nat×List UInt8) [1,2,3,6] [(1,1)] (fun x=>[(3,.str x.2),(6,.int .i64 x.1)]) (fun _=>[]) (fun x=>c.parts.length-x.1) (fun x=>x.1≤c.parts.length∧x.2.length≤4+64 * c.sets.length+64 * x.1∧((qa0 (c.parts.drop x.1)).map fun u=>x.2++u).getD []=R) (0,t) (by simp[hd];omega) ?_ (he:=by simp[qag]);rintro⟨i,t⟩ ⟨hi,hl,hd⟩;simp only at hi hl hd;cases hr:c.parts.drop i with
  | nil =>
   have:=qaY hr;rw[hr]at hd;have hie:i=c.parts.length:=by omega
   subst hie;simp only[qa0,qEk,qGw,qFi]at hd;simp[qag,hd]
  | cons p q =>
   obtain⟨k1,e0,e1,k3⟩:=qaZ hr;rw[hr]at hd;simp only[qa0]at hd;have hli:(i:Int)<c.parts.length:=by omega
   have e2:=qao ((i:Int)+1) (by omega) (by omega);have c1:=qdT p;have c2:=qeI p;have hpl:=qbn p;simp only[PT.row]at c1 c2;simp[qag,k1,e0,e1,hli,PT.row];refine c1.call ?_;cases hok:qaI p with
   | false =>
    rw[if_pos (show qan p=false by simp[qan,hok])]at hd;simp only[qG7,qG8]at hd;simp[← hd]
   | true =>
    by_cases h0:p.pa=0
    ·rw[if_pos (show qan p=false by simp[qan,hok,h0])]at hd;simp only[qG7,qG8]at hd;simp[← hd,h0,qag,k1,e0,e1,hli,PT.row]
    ·rw[if_neg (show ¬ qan p=false by simp[qan,hok,h0])]at hd;simp[h0,qag,k1,e0,e1,hli,PT.row];refine⟨by omega,?_⟩;refine c2.call ?_;simp[e2];refine⟨by omega,nx (i+1,t++(10::46::32::qaL p)) [(1,1)] ⟨by simp only;omega,by simp;omega,by simp only[k3];simpa [qG9,qGg]using hd⟩ (by simp only;omega) (h4:=by simp[qag,e2])⟩
 | cons s q =>
  obtain⟨k1,e0,e1,k3⟩:=qaZ hr;rw[hr]at hd;simp only[qbC]at hd;have hsm:=qGj e1;have hli:(i:Int)<c.sets.length:=by omega
  have e2:=qao ((i:Int)+1) (by omega) (by omega);have h8:=h.m8 s hsm;have c1:=qyY s h8 (h.nm s hsm).1 (h.nm s hsm).2;simp[qag,k1,e0,e1,hli,qaV s h8,qer s h8];refine⟨qg2 s,?_⟩;refine c1.call ?_;cases hok:qbl s with
  | false =>
   rw[if_pos hok]at hd;simp only[Option.bind_none,qG8]at hd;simp[← hd]
  | true =>
   rw[if_neg (by simp[hok])]at hd;have hk:=qne hok;have c2:=qib s.kind (by omega) (by omega);have c3:=qy5 s.frm;have c4:=qeI s.home;have hrl:=qfA hok;have hn:=qiP hok;have hdl:=qav s.kind (by omega);have hfl:=qiD s.frm;have hpl:=qbn s.home;simp[qdz s h8];refine⟨by omega,by omega,by omega,?_⟩;refine c2.call ?_;simp;refine⟨by omega,by omega,?_⟩;refine c3.call ?_;simp[qdz s h8];refine⟨by omega,by omega,?_⟩;refine c4.call ?_;simp[e2];refine⟨by omega,nx (i+1,t++qdU s) [(1,1)] ⟨by simp only;omega,by simp only[qFD];omega,by simp only[k3];simpa [qG9,qHa,qGg]using hd⟩ (by simp only;omega) (h4:=by simp[qag,e2,qdU])⟩
def qa3 (txg:Int) (p:PT):List UInt8:=if txg<1∨1000000<txg∨qan p=false then [] else qdS (dec txg++(32::(qaL p++(32::dec txg))))
theorem quh (txg:Int) (p:PT):CV prog 158 [.int .i64 txg,.agg p.row] (.str (qa3 txg p)):=by
 obtain⟨R,hR⟩:∃ R,qa3 txg p=R:=⟨_,rfl⟩;rw[hR];unfold qa3 at hR;have c1:=qdT p;have c2:=qeI p;have hpl:=qbn p;simp only[PT.row]at c1 c2;refine cvx func158 [(3,[zI 0,zJ 3 [3] [],zJ 7 [] [3],zJ 1 [] [3],zJ 2 [] [3],zI 4,zI 5,zI 6,zI 8,zI 9,zI 10,zI 11])] ntmps158 rfl rfl rfl ?_ (hca:=by simp[PT.row]);by_cases h1:txg<1
 ·rw[if_pos (.inl h1)]at hR;simp[PT.row,h1,← hR]
 by_cases h2:1000000<txg
 ·rw[if_pos (.inr (.inl h2))]at hR;simp[PT.row,h1,h2,← hR]
 simp[PT.row,h1,h2];refine c1.call ?_;cases hok:qaI p with
 | false =>
  rw[if_pos (.inr (.inr (by simp[qan,hok])))]at hR;simp[← hR]
 | true =>
  by_cases h0:p.pa=0
  ·rw[if_pos (.inr (.inr (by simp[qan,hok,h0])))]at hR;simp[← hR,h0,PT.row]
  ·rw[if_neg (fun h=>h.elim h1 fun h=>h.elim h2 fun h=>by simp[qan,hok,h0]at h)]at hR;have d1:=qib txg (by omega) (by omega);have l1:=qav txg (by omega);have c3:=qnx (dec txg++(32::(qaL p++(32::dec txg)))) (by simp[maxLen];omega);simp[h0,PT.row];refine d1.call ?_;simp[PT.row];refine⟨by omega,?_⟩;refine c2.call ?_;simp;refine⟨by omega,by omega,?_⟩;refine d1.call ?_;simp;refine⟨by omega,?_⟩;refine c3.call ?_;simp[hR]
structure LR where
 txg:Int
 seq:Int
 op:BO
deriving DecidableEq,Inhabited
def LR.row (r:LR):List AV:=.int .i64 r.txg::.int .i64 r.seq::r.op.row
def qdc (r:LR):Bool:=decide (1≤r.txg) && decide (r.txg≤1000000) && decide (0≤r.seq) && decide (r.seq<8) && decide (r.op.kind=3) && qbN r.op.a && decide (r.op.b=[]) && decide (0≤r.op.i) && decide (r.op.i<8) && decide (r.op.text.length≤24)
def qhK (s:List UInt8):List UInt8:=if qey s=[] then [45] else qey s
def qbS (r:LR):List UInt8:=if qdc r=false then [] else
 qdS (dec r.txg++(46::(dec r.seq++(32::(r.op.a++(32::(dec r.op.i++(32::(qhK r.op.text++(32::(dec r.txg++(46::dec r.seq))))))))))))
theorem qqn (r:LR) (ha:r.op.a.length≤1048576) (ht:r.op.text.length≤1048576):CV prog 326 [.agg r.row] (.str (qbS r)):=by
 obtain⟨R,hR⟩:∃ R,qbS r=R:=⟨_,rfl⟩;rw[hR];have hno:qdc r=false→R=[]:=fun h=>by rw[← hR];unfold qbS;rw[if_pos h]
 have hbad:∀ b:Prop,[Decidable b]→¬ b→(qdc r=true→b)→R=[]:=fun b _ hb h=>hno (by
  cases e:qdc r with
  | false=>rfl
  | true=>exact absurd (h e) hb)
 have hsp:qdc r=true↔(1≤r.txg∧r.txg≤1000000)∧(0≤r.seq∧r.seq<8)∧r.op.kind=3∧qbN r.op.a=true∧r.op.b=[]∧(0≤r.op.i∧r.op.i<8)∧r.op.text.length≤24:=by
  simp only[qdc,Bool.and_eq_true,decide_eq_true_eq];grind
 have c1:=qv3 r.op.a ha;have c2:=qB7 r.op.text ht;have hxl:=qf8 r.op.text;have hyes:qdc r=true→R=qdS (dec r.txg++(46::(dec r.seq++(32::(r.op.a++(32::(dec r.op.i++(32::(qhK r.op.text++(32::(dec r.txg++(46::dec r.seq)))))))))))):=fun h=>by
  rw[← hR];unfold qbS;rw[if_neg (by simp[h])]
 refine cvx func326 [(7,[zI 0,zJ 1 [1] [],zJ 4 [] [1],zJ 5 [1] [1],zJ 2 [] [1],zJ 3 [] [1],zI 6,zI 7,zI 8]),(8,[zI 0,zI 1,zI 2,zJ 3 [3] [],zI 4,zI 5,zJ 6 [] [3],zJ 7 [3] [3],zJ 11 [] [3],zJ 14 [] [3],zJ 8 [] [3],zI 9,zI 10,zI 12,zI 13,zI 15,zI 16,zI 17])] ntmps326 rfl rfl rfl ?_ (hca:=by simp[LR.row,BO.row]);simp[LR.row,BO.row];refine⟨fun q1=>⟨fun q2=>⟨fun q3=>⟨fun q4=>⟨fun q5=>?_,fun q=>hbad _ q fun h=>(hsp.1 h).2.2.1⟩,fun q=>hbad _ (Int.not_lt.2 q) fun h=>(hsp.1 h).2.1.2⟩,fun q=>hbad _ (qHb.2 q) fun h=>(hsp.1 h).2.1.1⟩,fun q=>hbad _ (qHb.2 q) fun h=>(hsp.1 h).1.2⟩,fun q=>hbad _ (qHb.2 q) fun h=>(hsp.1 h).1.1⟩;refine c1.call ?_;cases hn:qbN r.op.a with
 | false =>
  have:=hno (by cases e:qdc r with
   | false=>rfl
   | true=>exact absurd (hsp.1 e).2.2.2.1 (by simp[hn]))
  simp[this]
 | true =>
  simp[LR.row,BO.row];refine⟨fun q6=>⟨fun q7=>⟨fun q8=>⟨fun q=>hbad (r.op.text.length≤24) (by omega) fun h=>(hsp.1 h).2.2.2.2.2.2,fun q9=>?_⟩,fun q=>hbad _ (Int.not_lt.2 q) fun h=>(hsp.1 h).2.2.2.2.2.1.2⟩,fun q=>hbad _ (qHb.2 q) fun h=>(hsp.1 h).2.2.2.2.2.1.1⟩,fun q=>hbad _ q fun h=>(hsp.1 h).2.2.2.2.1⟩;have hy:=hyes (hsp.2 ⟨⟨q1,q2⟩,⟨q3,q4⟩,q5,hn,q6,⟨q7,q8⟩,by omega⟩);have d1:=qib r.txg (by omega) (by omega);have d2:=qib r.seq (by omega) (by omega);have d3:=qib r.op.i (by omega) (by omega);have l1:=qav r.txg (by omega);have l2:=qav r.seq (by omega);have l3:=qav r.op.i (by omega);have hna:r.op.a.length≤6:=by
   simp only[qbN,Bool.and_eq_true,decide_eq_true_eq]at hn;exact hn.2
  refine c2.call ?_;have hxT:qey r.op.text=[]∨qey r.op.text≠[]:=by cases qey r.op.text <;> simp
  rcases hxT with hx | hx
  ·have he:qhK r.op.text=[45]:=by simp[qhK,hx]
   rw[he]at hy;have c3:=qnx (dec r.txg++(46::(dec r.seq++(32::(r.op.a++(32::(dec r.op.i++(32::([45]++(32::(dec r.txg++(46::dec r.seq)))))))))))) (by simp[maxLen];omega);rw[← hy]at c3;simp[hx,LR.row,BO.row];refine d1.call ?_;simp[LR.row,BO.row];refine⟨by omega,?_⟩;refine d2.call ?_;simp[LR.row,BO.row];refine⟨by omega,by omega,by omega,by omega,?_⟩;refine d3.call ?_;simp[LR.row,BO.row];refine⟨by omega,by omega,by omega,by omega,by omega,?_⟩
   first
    | (refine c3.call ?_;simp)
    | (simp only[qGh,qE0,List.append_assoc]at c3;refine c3.call ?_;simp)
  ·have he:qhK r.op.text=qey r.op.text:=by simp[qhK,hx]
   rw[he]at hy;have c3:=qnx (dec r.txg++(46::(dec r.seq++(32::(r.op.a++(32::(dec r.op.i++(32::(qey r.op.text++(32::(dec r.txg++(46::dec r.seq)))))))))))) (by simp[maxLen];omega);rw[← hy]at c3;simp[hx,LR.row,BO.row];refine d1.call ?_;simp[LR.row,BO.row];refine⟨by omega,?_⟩;refine d2.call ?_;simp[LR.row,BO.row];refine⟨by omega,by omega,by omega,by omega,?_⟩;refine d3.call ?_;simp[LR.row,BO.row];refine⟨by omega,by omega,by omega,by omega,by omega,?_⟩
   first
    | (refine c3.call ?_;simp)
    | (simp only[qGh,qE0,List.append_assoc]at c3;refine c3.call ?_;simp)
def kcs (l:List CS):Ob:=⟨31,l.map CS.row⟩
def kpt (l:List PT):Ob:=⟨3,l.map PT.row⟩
def kin (l:List Int):Ob:=⟨1,l.map qac⟩
@[simp] theorem qyd (ρ:Nat→Option Plc):qb3 ρ ∘ CS.row=CS.row:=by funext x;exact renL_closed.renL_closedL ρ _ (qbO x)
@[simp] theorem qx9 (ρ:Nat→Option Plc):qb3 ρ ∘ PT.row=PT.row:=by funext x;simp[PT.row]
@[simp] theorem qyb (ρ:Nat→Option Plc):qb3 ρ ∘ qac=qac:=by funext x;simp[qac]
@[simp] theorem qzo (ρ:Nat→Option Plc) (l:List CS):qbm ρ (kcs l)=kcs l:=by simp[kcs,qbm]
@[simp] theorem qzm (ρ:Nat→Option Plc) (l:List PT):qbm ρ (kpt l)=kpt l:=by simp[kpt,qbm]
@[simp] theorem qzn (ρ:Nat→Option Plc) (l:List Int):qbm ρ (kin l)=kin l:=by simp[kin,qbm]
theorem qbd (l:List CS):clR (kcs l).els=true:=by simp[clR,kcs,qbO]
theorem qbL (l:List PT):clR (kpt l).els=true:=by simp[clR,kpt,PT.row]
theorem qaU (l:List Int):clR (kin l).els=true:=by simp[clR,kin,qac]
def qe0 (c:CO) (a b e f:Nat):AV:=.agg [.int .i64 c.txg,.sl a 0 c.sets.length,.sl b 0 c.ddt.length,.sl e 0 c.parts.length,.bool c.dirty,.sl f 0 c.safe.length,.int .i64 c.logn]
theorem qqp (c:CO) (h:CoT c):ACall prog 117 [.agg c.row] [] (fun r L'=>r=qe0 c 8 12 17 22∧L'=[(8,kcs c.sets),(12,qaR c.ddt),(17,kpt c.parts),(22,kin c.safe)]):=by
 have h1:=h.sets;have h2:=h.ddt;have h3:=h.parts;have h4:=h.safe;have co:=qic c.ddt h2;refine acx func117 [] ntmps117 rfl rfl rfl ?_;simp[CO.row];refine⟨⟨by omega,fun x _=>qg2 x⟩,?_⟩;refine qad [] (by kernel_rfl) co (by simp) (by simpa using fun x hx=>qtJ c.ddt x hx) trivial (by simp) (by simp) ?_;rintro r L' ⟨rfl,rfl⟩;refine⟨[(5,12)],⟨by simp,by simp,by simp,by simp,by simp⟩,?_⟩;simp only[qaf];simp[qe0,kcs,kpt,kin];exact⟨by omega,by omega⟩
theorem qy4 (l:List Int) (a:Int) (hl:l.length≤1048576):CV prog 140 [.lst 1 (l.map qac),.int .i64 a] (.bool (l.contains a)):=by
 obtain⟨R,hR⟩:∃ R,l.contains a=R:=⟨_,rfl⟩;rw[hR];refine cvx func140 [] ntmps140 rfl rfl rfl ?_ (hca:=by simp[qac]);simp;refine qaS (X:=Nat) [0,1,4,5] [] (fun i=>[(5,.int .i64 i)]) (fun _=>[]) (fun i=>l.length-i) (fun i=>i≤l.length∧(l.drop i).contains a=R) 0 (by simp[← hR]) ?_;rintro i ⟨hi,hd⟩;cases hr:l.drop i with
 | nil =>
  have:=qaY hr;rw[hr]at hd;have hie:i=l.length:=by omega
  subst hie;simp;simpa using hd
 | cons x q =>
  obtain⟨k1,e0,e1,k3⟩:=qaZ hr;rw[hr]at hd;have hli:(i:Int)<l.length:=by omega
  have e2:=qao ((i:Int)+1) (by omega) (by omega);simp[k1,e0,e1,hli,e2,qac];refine⟨fun q1=>?_,fun q1=>nx (i+1) [] ⟨by omega,?_⟩ (h4:=by simp[e2])⟩
  ·rw[← hd];simp[q1]
  ·rw[k3,← hd];have:¬ a=x:=fun e=>q1 e.symm;simp[this]
def qfo (c:CO) (a:Int):Bool:=!ddT c.ddt a && !c.safe.contains a
def qf9 (c:CO):Nat→Int→List Int
 | 0,_=>[]
 | k+1,a=>(if qfo c a=true then [a] else [])++qf9 c k (a+1)
def qaT (c:CO) (n:Int):List Int:=qf9 c (n-13).toNat 13
theorem qqq (c:CO) (h:CoT c) (n:Int) (hn:n≤1048576):ACall prog 61 [.agg c.row,.int .i64 n] [] (fun r L'=>r=.sl 900 0 (qaT c n).length∧L'=[(900,kin (qaT c n))]):=by
 obtain⟨R,hR⟩:∃ R,qaT c n=R:=⟨_,rfl⟩;rw[hR];have h2:=h.ddt;have h4:=h.safe;refine acx func61 [] ntmps61 rfl rfl rfl ?_;simp[CO.row];refine qbj (X:=Int×List Int) [1,2,5,6] [(2,2),(9,900)] (fun x=>[(5,.sl 900 0 x.2.length),(6,.int .i64 x.1)]) (fun x=>[(2,⟨7,[c.row]⟩),(900,kin x.2)]) (fun x=>(n-x.1).toNat) (fun x=>13≤x.1∧x.1≤1048577∧x.2.length≤x.1∧x.2++qf9 c (n-x.1).toNat x.1=R) (13,[]) (by simp[← hR,qaT]) ?_ (he:=by simp[qag,kin,CO.row]);rintro⟨a,out⟩ ⟨ha,ha2,hl,hd⟩;simp only at ha ha2 hl hd;by_cases hlt:a<n
 ·obtain⟨k,hk⟩:∃ k,(n-a).toNat=k+1:=⟨(n-a).toNat-1,by omega⟩;have hk2:(n-(a+1)).toNat=k:=by omega
  rw[hk]at hd;simp only[qf9]at hd;have c1:=qs2 c.ddt a h2;have c2:=qy4 c.safe a h4;have e2:=qao (a+1) (by omega) (by omega);simp[qag,hlt,CO.row];refine c1.call ?_;cases ht:ddT c.ddt a with
  | true =>
   have hf:¬ qfo c a=true:=by simp[qfo,ht]
   rw[if_neg hf,qE0]at hd;simp[e2];exact nx (a+1,out) [(2,2),(900,900)] ⟨by simp only;omega,by simp only;omega,by simp only;omega,by simp only[hk2];exact hd⟩ (by simp only;omega) (h4:=by simp[qag,e2,CO.row,kin])
  | false =>
   simp[CO.row];refine c2.call ?_;cases hs:c.safe.contains a with
   | true =>
    have hf:¬ qfo c a=true:=by simp only[qfo,ht,hs];simp
    rw[if_neg hf,qE0]at hd;simp[e2];exact nx (a+1,out) [(2,2),(900,900)] ⟨by simp only;omega,by simp only;omega,by simp only;omega,by simp only[hk2];exact hd⟩ (by simp only;omega) (h4:=by simp[qag,e2,CO.row,kin])
   | false =>
    have hf:qfo c a=true:=by simp only[qfo,ht,hs];rfl
    rw[if_pos hf]at hd;simp[e2,kin];refine⟨by omega,nx (a+1,out++[a]) [(2,2),(34,900)] ⟨by simp only;omega,by simp only;omega,by simp;omega,by simp only[hk2];simpa using hd⟩ (by simp only;omega) (h4:=by simp[qag,e2,CO.row,kin,qac,qal])⟩
 ·have hk:(n-a).toNat=0:=by omega
  rw[hk]at hd;simp only[qf9,qGw]at hd;simp[hlt,← hd]
theorem qui (c:CO) (h:CoT c) (n:Int) (hn:n≤1048576):CV prog 61 [.agg c.row,.int .i64 n] (.lst 1 ((qaT c n).map qac)):=by
 refine CV.of_frz (qqq c h n hn) ?_ (hca:=by simp[qeB]) (hcv:=by simp[qac]);rintro r L' ⟨rfl,rfl⟩;refine⟨by simp,by simp,fun x hx=>by
  simp only[qFO,qFX,or_false]at hx;rcases hx with rfl;exact qaU _,?_⟩
 simp[qbe,kin,qal]
theorem qlT (c:CO):∀ (k:Nat) (a:Int),(qf9 c k a).length≤k
 | 0,_=>by simp[qf9]
 | k+1,a=>by
  have:=qlT c k (a+1);simp only[qf9,qFD];split <;> simp <;> omega
theorem qlU (c:CO) (n:Int):((qaT c n).length:Int)≤n∨(qaT c n).length=0:=by
 have:=qlT c (n-13).toNat 13;unfold qaT;omega
def qo2 (c:CO) (n:Int):Bool:=decide (16<(qaT c n).length) && decide (32≤n-13-c.ddt.length-1) && decide (c.ddt.length<48)
theorem qCa (c:CO) (h:CoT c) (n:Int) (hn:n≤1048576) (hn0:0≤n):CV prog 273 [.agg c.row,.int .i64 n] (.bool (qo2 c n)):=by
 obtain⟨R,hR⟩:∃ R,qo2 c n=R:=⟨_,rfl⟩;rw[hR];unfold qo2 at hR;have h2:=h.ddt;have c1:=qui c h n hn;generalize qaT c n=l at *
 simp only[CO.row]at c1;have e1:=qao (n-13) (by omega) (by omega);have e2:=qao (n-13-(c.ddt.length:Int)) (by omega) (by omega);have e3:=qao (n-13-(c.ddt.length:Int)-1) (by omega) (by omega);refine cvx func273 [] ntmps273 rfl rfl rfl ?_ (hca:=by simp[qeB]);simp[CO.row];refine c1.call ?_;simp[CO.row,e1,e2,e3];subst hR;refine⟨fun q1=>⟨fun q2=>?_,fun q2=>?_⟩,fun q1=>?_⟩
 ·have q1':16<l.length:=by omega
  simp only[q1',q2,decide_true,qGE];rw[decide_eq_decide];omega
 ·have q2':¬ 32≤n-13-(c.ddt.length:Int)-1:=by omega
  simp[q2']
 ·have q1':¬ 16<l.length:=by omega
  simp[q1']
def plP (l:List Int) (a:Int):Nat:=(l.takeWhile fun x=>decide (x<a)).length
def qiZ (l:List Int) (a:Int):List Int:=if a<13∨l.contains a=true then l else l.take (plP l a)++a::l.drop (plP l a)
theorem qup (l:List Int) (a:Int):plP l a≤l.length:=(qGR _).length_le
theorem qvZ (l:List Int) (a:Int) (hl:l.length≤1000000):ACall prog 169 [.sl 1000 0 l.length,.int .i64 a] [(1000,kin l)] (fun r L'=>∃ id,(id=1000∨id=41)∧r=.sl id 0 (qiZ l a).length∧L'=[(id,kin (qiZ l a))]):=by
 obtain⟨R,hR⟩:∃ R,qiZ l a=R:=⟨_,rfl⟩;rw[hR];unfold qiZ at hR;have c1:=qy4 l a (by omega);have hk:=qup l a;refine acx func169 [] ntmps169 rfl rfl rfl ?_;by_cases h1:a<13
 ·rw[if_pos (.inl h1)]at hR;simp[h1,← hR]
 simp[h1];refine c1.view (by simp[qbW,mtA,kin,qal]) ?_;cases hc:l.contains a with
 | true =>
  rw[if_pos (.inr hc)]at hR;simp[← hR]
 | false =>
  rw[if_neg (by simp only[hc,h1];simp)]at hR;simp;refine qaS (X:=Nat) [0,1,4,5] [(1000,1000)] (fun i=>[(5,.int .i64 i)]) (fun _=>[]) (fun i=>l.length-i) (fun i=>i≤l.length∧i+plP (l.drop i) a=plP l a) 0 (by simp) ?_ (he:=by simp[qag]);rintro i ⟨hi,hd⟩;have fin:i=plP l a→List.take i l++a::List.drop i l=R:=fun e=>by rw[e];exact hR
  cases hr:l.drop i with
  | nil =>
   have:=qaY hr;rw[hr]at hd;have hie:i=l.length:=by omega
   have hf:=fin (by simpa [plP]using hd);subst hie;simp[qag,kin];subst hf;refine⟨by omega,?_,by simp⟩;rw[qal,qEF (by simp)];simp[qac,qEF]
  | cons x q =>
   obtain⟨k1,e0,e1,k3⟩:=qaZ hr;rw[hr]at hd;have hli:(i:Int)<l.length:=by omega
   have e2:=qao ((i:Int)+1) (by omega) (by omega);by_cases hx:x<a
   ·have hp:plP (x::q) a=plP q a+1:=by simp[plP,qGQ,hx]
    simp[qag,kin,k1,e0,e1,hli,e2,hx,qac];exact nx (i+1) [(1000,1000)] ⟨by omega,by rw[k3];omega⟩ (h4:=by simp[qag,e2,kin])
   ·have hp:plP (x::q) a=0:=by simp[plP,qGQ,hx]
    have hf:=fin (by omega);simp[qag,kin,k1,e0,e1,hli,e2,hx,qac];rw[qtv];have et:List.take (l.length-i) ((l.drop i).map qac)=(l.drop i).map qac:=qEF (by simp);have e5:List.take (i+1) (List.take i (List.map qac l)++[[AV.int IntKind.i64 a]])=List.map qac (List.take i l++[a]):=by
     rw[qEF (by simp;omega)];simp[qac]
    rw[et,e5];have ho:∀ x∈(l.drop i).map qac,∀ y∈x,qda y=true:=fun x hx y hy=>by
     obtain⟨e,_,rfl⟩:=qER.1 hx;simp only[qac,qFO,qFX,or_false]at hy;subst hy;rfl
    subst hf;refine⟨by omega,⟨by omega,by omega,ho⟩,by omega,⟨by omega,by omega⟩,⟨by omega,by omega,ho⟩,by simp,by simp;omega⟩
theorem qfd (l:List Int) (a:Int):(qiZ l a).length≤l.length+1:=by
 unfold qiZ;split
 ·omega
 ·have:=qup l a;simp;omega
def qdg (l:List Int) (bs:List Int):List Int:=bs.foldl qiZ l
theorem qgm:∀ (bs:List Int) (l:List Int),(qdg l bs).length≤l.length+bs.length
 | [],l=>by simp[qdg]
 | a::r,l=>by
  have h1:=qfd l a;have h2:=qgm r (qiZ l a);simp only[qdg,qEH,qEI]at *
  omega
def qcM (c:CO) (root:Int):List Int:=qdg (qdg (qdg (qiZ [] root) (c.ddt.map DE.ea)) (c.sets.map fun s=>s.home.pa)) (c.parts.map PT.pa)
structure CoM (c:CO):Prop where
 sets:c.sets.length≤1000
 ddt:c.ddt.length≤1000
 parts:c.parts.length≤1000
theorem qfc (l:List Int) (a:Int) (r:List Int):qdg l (a::r)=qdg (qiZ l a) r:=rfl
theorem qiY (l:List Int):qdg l []=l:=rfl
theorem quU (s:CS) (h8:s.map.length=8):s.row[27]?=some (.int .i64 s.home.pa):=by
 have h:=qdz s h8;have h2:=congrArg (fun l:List AV=>l[0]?) h;simp only[qEi,qEP]at h2;simpa [PT.row]using h2
theorem qj4 (l:List Int) (a:Int) (hl:l.length≤1000000):ACall prog 169 [.sl 1000 0 l.length,.int .i64 a] [(1000,kin l)] (fun r L'=>r=.sl 902 0 (qiZ l a).length∧L'=[(902,kin (qiZ l a))]):=by
 refine(qvZ l a hl).can ?_;rintro r L' ⟨id,rfl | rfl,rfl,rfl⟩
 ·exact⟨[(1000,902)],by simp,by simp,by simp,by simp,by simp,by simp[qag]⟩
 ·exact⟨[(41,902)],by simp,by simp,by simp,by simp,by simp,by simp[qag]⟩
theorem qvY (c:CO) (h:CoT c) (hm:CoM c) (root:Int):ACall prog 79 [.agg c.row,.int .i64 root] [] (fun r L'=>r=.sl 900 0 (qcM c root).length∧L'=[(900,kin (qcM c root))]):=by
 obtain⟨R,hR⟩:∃ R,qcM c root=R:=⟨_,rfl⟩;rw[hR];unfold qcM at hR;have h1:=hm.sets;have h2:=hm.ddt;have h3:=hm.parts;refine acx func79 [] ntmps79 rfl rfl rfl ?_;simp[CO.row];refine qad [(1000,.whole 9)] (by kernel_rfl) (qj4 [] root (by simp)) (by simp) (by simp) (by simp[kin];exact qaa rfl (by simp[clR])) (by simp) (by simp) ?_;rintro r L' ⟨rfl,rfl⟩;have hl0:=qfd [] root;simp only[qFE]at hl0;refine⟨[(902,902)],⟨by simp,by simp,by simp,by simp,by simp⟩,?_⟩;simp only[qaf];simp[CO.row];refine qbj (X:=Nat×List Int) [2,5,6] [(2,2),(902,900)] (fun x=>[(5,.sl 900 0 x.2.length),(6,.int .i64 x.1)]) (fun x=>[(2,⟨7,[c.row]⟩),(900,kin x.2)]) (fun x=>c.ddt.length-x.1) (fun x=>x.1≤c.ddt.length∧x.2.length≤1+x.1∧qdg (qdg (qdg x.2 ((c.ddt.drop x.1).map DE.ea)) (c.sets.map fun s=>s.home.pa)) (c.parts.map PT.pa)=R) (0,(qiZ [] root)) ⟨by simp,by simp only;omega,by simpa using hR⟩ ?_ (he:=by simp[qag,kin,CO.row]);rintro⟨i,l⟩ ⟨hi,hl,hd⟩;simp only at hi hl hd;cases hr:c.ddt.drop i with
 | nil =>
  have:=qaY hr;rw[hr]at hd;have hie:i=c.ddt.length:=by omega
  subst hie;simp only[qF3,qiY]at hd;simp[qag,CO.row];refine qbj (X:=Nat×List Int) [2,5,7] [(2,2),(900,900)] (fun x=>[(5,.sl 900 0 x.2.length),(7,.int .i64 x.1)]) (fun x=>[(2,⟨7,[c.row]⟩),(900,kin x.2)]) (fun x=>c.sets.length-x.1) (fun x=>x.1≤c.sets.length∧x.2.length≤1001+x.1∧qdg (qdg x.2 ((c.sets.drop x.1).map (fun s:CS=>s.home.pa))) (c.parts.map PT.pa)=R) (0,l) ⟨by simp,by simp only;omega,by simpa using hd⟩ ?_ (he:=by simp[qag,kin,CO.row]);rintro⟨i,l⟩ ⟨hi,hl,hd⟩;simp only at hi hl hd;cases hr:c.sets.drop i with
  | nil =>
   have:=qaY hr;rw[hr]at hd;have hie:i=c.sets.length:=by omega
   subst hie;simp only[qF3,qiY]at hd;simp[qag,CO.row];refine qbj (X:=Nat×List Int) [2,5,8] [(2,2),(900,900)] (fun x=>[(5,.sl 900 0 x.2.length),(8,.int .i64 x.1)]) (fun x=>[(2,⟨7,[c.row]⟩),(900,kin x.2)]) (fun x=>c.parts.length-x.1) (fun x=>x.1≤c.parts.length∧x.2.length≤2001+x.1∧(qdg x.2 ((c.parts.drop x.1).map PT.pa))=R) (0,l) ⟨by simp,by simp only;omega,by simpa using hd⟩ ?_ (he:=by simp[qag,kin,CO.row]);rintro⟨i,l⟩ ⟨hi,hl,hd⟩;simp only at hi hl hd;cases hr:c.parts.drop i with
   | nil =>
    have:=qaY hr;rw[hr]at hd;have hie:i=c.parts.length:=by omega
    subst hie;simp only[qF3,qiY]at hd;simp[qag,← hd]
   | cons x q =>
    obtain⟨k1,e0,e1,k3⟩:=qaZ hr;rw[hr,qEQ,qfc]at hd;have hli:(i:Int)<c.parts.length:=by omega
    have e2:=qao ((i:Int)+1) (by omega) (by omega);simp[qag,k1,e0,e1,hli,CO.row,PT.row];refine qad [(1000,.whole 900)] (by kernel_rfl) (qj4 l x.pa (by omega)) (by simp) (by simp) (by simp[kin];exact qaa rfl (qaU l)) (by simp) (by simp) ?_;have hal:=qfd l x.pa;rintro r L' ⟨rfl,rfl⟩;refine⟨[(902,902)],⟨by simp,by simp,by simp,by simp,by simp⟩,?_⟩;simp only[qaf];simp[e2,CO.row];exact nx (i+1,qiZ l x.pa) [(2,2),(902,900)] ⟨by simp only;omega,by simp only;omega,by simp only[← qGq,k3];exact hd⟩ (by simp only;omega) (h4:=by simp[qag,e2,CO.row,kin])
  | cons x q =>
   obtain⟨k1,e0,e1,k3⟩:=qaZ hr;rw[hr,qEQ,qfc]at hd;have hli:(i:Int)<c.sets.length:=by omega
   have e2:=qao ((i:Int)+1) (by omega) (by omega);have h8:=h.m8 x (qGj e1);have hx27:x.row[27]?=some (.int .i64 x.home.pa):=quU x h8;have hx27':=(qEW.1 hx27).2;simp[qag,k1,e0,e1,hli,CO.row,qaV x h8,hx27,hx27'];refine qad [(1000,.whole 900)] (by kernel_rfl) (qj4 l x.home.pa (by omega)) (by simp) (by simp) (by simp[kin];exact qaa rfl (qaU l)) (by simp) (by simp) ?_;have hal:=qfd l x.home.pa;rintro r L' ⟨rfl,rfl⟩;refine⟨[(902,902)],⟨by simp,by simp,by simp,by simp,by simp⟩,?_⟩;simp only[qaf];simp[e2,CO.row];exact nx (i+1,qiZ l x.home.pa) [(2,2),(902,900)] ⟨by simp only;omega,by simp only;omega,by simp only[← qGq,k3];exact hd⟩ (by simp only;omega) (h4:=by simp[qag,e2,CO.row,kin])
 | cons x q =>
  obtain⟨k1,e0,e1,k3⟩:=qaZ hr;rw[hr,qEQ,qfc]at hd;have hli:(i:Int)<c.ddt.length:=by omega
  have e2:=qao ((i:Int)+1) (by omega) (by omega);simp[qag,k1,e0,e1,hli,CO.row,DE.row];refine qad [(1000,.whole 900)] (by kernel_rfl) (qj4 l x.ea (by omega)) (by simp) (by simp) (by simp[kin];exact qaa rfl (qaU l)) (by simp) (by simp) ?_;have hal:=qfd l x.ea;rintro r L' ⟨rfl,rfl⟩;refine⟨[(902,902)],⟨by simp,by simp,by simp,by simp,by simp⟩,?_⟩;simp only[qaf];simp[e2,CO.row];exact nx (i+1,qiZ l x.ea) [(2,2),(902,900)] ⟨by simp only;omega,by simp only;omega,by simp only[← qGq,k3];exact hd⟩ (by simp only;omega) (h4:=by simp[qag,e2,CO.row,kin])
end Go.Av.F
end
