/- Lemmas for the proof, no statement of the seat; no conditions. -/
import Derived.Test.YthiidgicibfbjaaGreatDoorLayAQ
import Derived.Shelf.Strings.Builder1
import Derived.Shelf.Small.Strs
import Derived.Shelf.Strconv.Atoi
import Derived.Shelf.Strconv.Itoa0
import Derived.Shelf.Strconv.Itoa1
import Derived.Shelf.LaysM
import Derived.Shelf.Strconv.Itoa2
import Derived.Shelf.Strconv.Itoa3
import Derived.Shelf.Strconv.AtoiErrFast
import Derived.Shelf.Strconv.ParseIntEmpty
import Derived.Shelf.Strconv.AtoiFail
import Derived.Shelf.Strconv.Clone
import Derived.Shelf.Strconv.SyntaxError
import Derived.Shelf.LaysC
import Derived.Shelf.Strconv.ToError
import Derived.Shelf.Strconv.Lower
import Derived.Shelf.Strconv.ParseUint10
import Derived.Shelf.Strconv.ParseUint10Empty
import Derived.Shelf.Strconv.ParseUint10Any
import Derived.Shelf.Strconv.ParseInt10
import Derived.Shelf.Strconv.AtoiLong
import Derived.Shelf.Strconv.AtoiInnerAll
import Derived.Shelf.Strconv.RangeError
import Derived.Shelf.Strconv.ToErrorRange
import Derived.Shelf.Strconv.AtoiAll
import Derived.Shelf.Strings.Search1
import Derived.Shelf.Strings.Search2
import Derived.Shelf.Strings.Search3
import Derived.Shelf.Strings.Count
import Derived.Shelf.Sort.Plain
import Derived.Test.YthiidgicibfbjaaGreatDoorProg
set_option linter.unusedSimpArgs false
set_option linter.unusedVariables false
set_option linter.unnecessarySimpa false
set_option maxRecDepth 100000
set_option maxHeartbeats 400000
section
namespace Go.Proofs
open Go.Shelf Go.RowKit Go.Sort Go.Lib
def Tryz.lays137_ren:Go.Shelf.Ren:=⟨fun | 137=>329 | 217=>366 | 266=>390 | n=>n,fun | 9=>9 | 5=>5 | 3=>3 | n=>n,fun | n=>n⟩
theorem Tryz.lays137:Go.Proofs.Lays.n137 Tryz.prog Tryz.lays137_ren:={
 mixed:=by kernel_rfl
 f137:=Tryz.func329.trans (congrArg some (by kernel_rfl))
 f217:=Tryz.func366.trans (congrArg some (by kernel_rfl))
 f266:=Tryz.func390.trans (congrArg some (by kernel_rfl))
 t3:=Tryz.underlying3
 a3:=Tryz.isAgg3
 z3:=Tryz.sizeOf3
 v3:=Tryz.zeroValue3
 t5:=Tryz.underlying5
 a5:=Tryz.isAgg5
 z5:=Tryz.sizeOf5
 v5:=Tryz.zeroValue5
 t9:=Tryz.underlying9
 a9:=Tryz.isAgg9
 z9:=Tryz.sizeOf9
 v9:=Tryz.zeroValue9 }
theorem Tryz.strings_IndexByte (s:ByteArray) (c:Int) (w:World) :
  Calls Tryz.prog 329 #[.string s,.int .u8 c] w fun e w'=>e=.returned (.int .i64 (Lib.indexByte s.data.toList c.toNat.toUInt8))∧w'=w:=Any.strings_IndexByte Tryz.lays137 s c w
def Tryz.laysM171_ren:Go.Shelf.Ren:=⟨fun | 171=>261 | 243=>313 | 246=>356 | 283=>382 | 284=>383 | 285=>384 | 286=>385 | 129=>324 | 317=>398 | 318=>399 | 319=>400 | 320=>401 | 337=>407 | 338=>408 | n=>n,fun | 3=>3 | 9=>9 | 2=>2 | 4=>4 | 171=>360 | 0=>0 | 53=>316 | 37=>237 | 5=>5 | 173=>362 | 212=>381 | 51=>314 | 20=>20 | 213=>382 | 46=>277 | 232=>389 | 233=>390 | n=>n,fun | 17=>5 | 18=>6 | 19=>7 | n=>n⟩
theorem Tryz.laysM171:Go.Proofs.LaysM.n171 Tryz.prog Tryz.laysM171_ren:={
 mixed:=by kernel_rfl
 f129:=Tryz.func324.trans (congrArg some (by kernel_rfl))
 f171:=Tryz.func261.trans (congrArg some (by kernel_rfl))
 f243:=Tryz.func313.trans (congrArg some (by kernel_rfl))
 f246:=Tryz.func356.trans (congrArg some (by kernel_rfl))
 f283:=Tryz.func382.trans (congrArg some (by kernel_rfl))
 f284:=Tryz.func383.trans (congrArg some (by kernel_rfl))
 f285:=Tryz.func384.trans (congrArg some (by kernel_rfl))
 f286:=Tryz.func385.trans (congrArg some (by kernel_rfl))
 f317:=Tryz.func398.trans (congrArg some (by kernel_rfl))
 f318:=Tryz.func399.trans (congrArg some (by kernel_rfl))
 f319:=Tryz.func400.trans (congrArg some (by kernel_rfl))
 f320:=Tryz.func401.trans (congrArg some (by kernel_rfl))
 f337:=Tryz.func407.trans (congrArg some (by kernel_rfl))
 f338:=Tryz.func408.trans (congrArg some (by kernel_rfl))
 t0:=Tryz.underlying0
 a0:=Tryz.isAgg0
 z0:=Tryz.sizeOf0
 v0:=Tryz.zeroValue0
 t2:=Tryz.underlying2
 a2:=Tryz.isAgg2
 z2:=Tryz.sizeOf2
 v2:=Tryz.zeroValue2
 t3:=Tryz.underlying3
 a3:=Tryz.isAgg3
 z3:=Tryz.sizeOf3
 v3:=Tryz.zeroValue3
 t4:=Tryz.underlying4
 a4:=Tryz.isAgg4
 z4:=Tryz.sizeOf4
 v4:=Tryz.zeroValue4
 t5:=Tryz.underlying5
 a5:=Tryz.isAgg5
 z5:=Tryz.sizeOf5
 v5:=Tryz.zeroValue5
 t9:=Tryz.underlying9
 a9:=Tryz.isAgg9
 z9:=Tryz.sizeOf9
 v9:=Tryz.zeroValue9
 t20:=Tryz.underlying20
 a20:=Tryz.isAgg20
 z20:=Tryz.sizeOf20
 v20:=Tryz.zeroValue20
 t37:=Tryz.underlying237
 a37:=Tryz.isAgg237
 z37:=Tryz.sizeOf237
 v37:=Tryz.zeroValue237
 t46:=Tryz.underlying277
 a46:=Tryz.isAgg277
 z46:=Tryz.sizeOf277
 v46:=Tryz.zeroValue277
 t51:=Tryz.underlying314
 a51:=Tryz.isAgg314
 z51:=Tryz.sizeOf314
 v51:=Tryz.zeroValue314
 t53:=Tryz.underlying316
 a53:=Tryz.isAgg316
 z53:=Tryz.sizeOf316
 v53:=Tryz.zeroValue316
 t171:=Tryz.underlying360
 a171:=Tryz.isAgg360
 z171:=Tryz.sizeOf360
 v171:=Tryz.zeroValue360
 t173:=Tryz.underlying362
 a173:=Tryz.isAgg362
 z173:=Tryz.sizeOf362
 v173:=Tryz.zeroValue362
 t212:=Tryz.underlying381
 a212:=Tryz.isAgg381
 z212:=Tryz.sizeOf381
 v212:=Tryz.zeroValue381
 t213:=Tryz.underlying382
 a213:=Tryz.isAgg382
 z213:=Tryz.sizeOf382
 t232:=Tryz.underlying389
 a232:=Tryz.isAgg389
 z232:=Tryz.sizeOf389
 v232:=Tryz.zeroValue389
 t233:=Tryz.underlying390
 a233:=Tryz.isAgg390
 z233:=Tryz.sizeOf390
 v233:=Tryz.zeroValue390
 g17:=by kernel_rfl
 g18:=by kernel_rfl
 g19:=by kernel_rfl
 i0:=by kernel_rfl
 i2:=by kernel_rfl
 i3:=by kernel_rfl
 i4:=by kernel_rfl
 i5:=by kernel_rfl
 i9:=by kernel_rfl
 i20:=by kernel_rfl
 i37:=by kernel_rfl
 i46:=by kernel_rfl
 i51:=by kernel_rfl
 i53:=by kernel_rfl
 i171:=by kernel_rfl
 i173:=by kernel_rfl
 i212:=by kernel_rfl
 i232:=by kernel_rfl
 i233:=by kernel_rfl
 m17:=by kernel_rfl
 m18:=by kernel_rfl
 m19:=by kernel_rfl }
theorem Tryz.strconv_Itoa (n:Int) (h0:-9223372036854775808≤n) (h1:n≤9223372036854775807) (w:World) (htab:Lib.TabIs Tryz.prog w "internal/strconv.uint64pow10" .u64 Lib.pow10Tab) :
  Calls Tryz.prog 261 #[.int .i64 n] w fun e w'=>e=.returned (.string ⟨(Lib.itoa n).toArray⟩)∧∃ k os,w'=grow (w.drewN k) os:=Any.strconv_Itoa Tryz.laysM171 n h0 h1 w htab
def Tryz.laysC172_ren:Go.Shelf.Ren:=⟨fun | 172=>252 | 244=>305 | 245=>306 | 247=>340 | 279=>341 | 280=>342 | 281=>343 | 282=>344 | 287=>372 | 316=>373 | 171=>261 | 205=>374 | 321=>393 | 322=>394 | 243=>313 | 246=>356 | 283=>382 | 284=>383 | 285=>384 | 286=>385 | 129=>324 | 317=>398 | 318=>399 | 319=>400 | 320=>401 | 337=>407 | 338=>408 | n=>n,fun | 9=>9 | 3=>3 | 75=>262 | 76=>263 | 4=>4 | 5=>5 | 167=>323 | 37=>237 | 0=>0 | 85=>324 | 2=>2 | 168=>326 | 53=>316 | 175=>352 | 46=>277 | 210=>355 | 127=>364 | 145=>372 | 143=>370 | 21=>21 | 171=>360 | 173=>362 | 212=>381 | 51=>314 | 20=>20 | 213=>382 | 232=>389 | 233=>390 | 80=>343 | n=>n,fun | 15=>1 | 16=>2 | 17=>5 | 18=>6 | 19=>7 | n=>n⟩
theorem Tryz.laysC172:Go.Proofs.LaysC.n172 Tryz.prog Tryz.laysC172_ren:={
 mixed:=by kernel_rfl
 f129:=Tryz.func324.trans (congrArg some (by kernel_rfl))
 f171:=Tryz.func261.trans (congrArg some (by kernel_rfl))
 f172:=Tryz.func252.trans (congrArg some (by kernel_rfl))
 f205:=Tryz.func374.trans (congrArg some (by kernel_rfl))
 f243:=Tryz.func313.trans (congrArg some (by kernel_rfl))
 f244:=Tryz.func305.trans (congrArg some (by kernel_rfl))
 f245:=Tryz.func306.trans (congrArg some (by kernel_rfl))
 f246:=Tryz.func356.trans (congrArg some (by kernel_rfl))
 f247:=Tryz.func340.trans (congrArg some (by kernel_rfl))
 f279:=Tryz.func341.trans (congrArg some (by kernel_rfl))
 f280:=Tryz.func342.trans (congrArg some (by kernel_rfl))
 f281:=Tryz.func343.trans (congrArg some (by kernel_rfl))
 f282:=Tryz.func344.trans (congrArg some (by kernel_rfl))
 f283:=Tryz.func382.trans (congrArg some (by kernel_rfl))
 f284:=Tryz.func383.trans (congrArg some (by kernel_rfl))
 f285:=Tryz.func384.trans (congrArg some (by kernel_rfl))
 f286:=Tryz.func385.trans (congrArg some (by kernel_rfl))
 f287:=Tryz.func372.trans (congrArg some (by kernel_rfl))
 f316:=Tryz.func373.trans (congrArg some (by kernel_rfl))
 f317:=Tryz.func398.trans (congrArg some (by kernel_rfl))
 f318:=Tryz.func399.trans (congrArg some (by kernel_rfl))
 f319:=Tryz.func400.trans (congrArg some (by kernel_rfl))
 f320:=Tryz.func401.trans (congrArg some (by kernel_rfl))
 f321:=Tryz.func393.trans (congrArg some (by kernel_rfl))
 f322:=Tryz.func394.trans (congrArg some (by kernel_rfl))
 f337:=Tryz.func407.trans (congrArg some (by kernel_rfl))
 f338:=Tryz.func408.trans (congrArg some (by kernel_rfl))
 t0:=Tryz.underlying0
 a0:=Tryz.isAgg0
 z0:=Tryz.sizeOf0
 v0:=Tryz.zeroValue0
 t2:=Tryz.underlying2
 a2:=Tryz.isAgg2
 z2:=Tryz.sizeOf2
 v2:=Tryz.zeroValue2
 t3:=Tryz.underlying3
 a3:=Tryz.isAgg3
 z3:=Tryz.sizeOf3
 v3:=Tryz.zeroValue3
 t4:=Tryz.underlying4
 a4:=Tryz.isAgg4
 z4:=Tryz.sizeOf4
 v4:=Tryz.zeroValue4
 t5:=Tryz.underlying5
 a5:=Tryz.isAgg5
 z5:=Tryz.sizeOf5
 v5:=Tryz.zeroValue5
 t9:=Tryz.underlying9
 a9:=Tryz.isAgg9
 z9:=Tryz.sizeOf9
 v9:=Tryz.zeroValue9
 t20:=Tryz.underlying20
 a20:=Tryz.isAgg20
 z20:=Tryz.sizeOf20
 v20:=Tryz.zeroValue20
 t21:=Tryz.underlying21
 a21:=Tryz.isAgg21
 z21:=Tryz.sizeOf21
 v21:=Tryz.zeroValue21
 t37:=Tryz.underlying237
 a37:=Tryz.isAgg237
 z37:=Tryz.sizeOf237
 v37:=Tryz.zeroValue237
 t46:=Tryz.underlying277
 a46:=Tryz.isAgg277
 z46:=Tryz.sizeOf277
 v46:=Tryz.zeroValue277
 t51:=Tryz.underlying314
 a51:=Tryz.isAgg314
 z51:=Tryz.sizeOf314
 v51:=Tryz.zeroValue314
 t53:=Tryz.underlying316
 a53:=Tryz.isAgg316
 z53:=Tryz.sizeOf316
 v53:=Tryz.zeroValue316
 t75:=Tryz.underlying262
 a75:=Tryz.isAgg262
 z75:=Tryz.sizeOf262
 v75:=Tryz.zeroValue262
 t76:=Tryz.underlying263
 a76:=Tryz.isAgg263
 z76:=Tryz.sizeOf263
 v76:=Tryz.zeroValue263
 t85:=Tryz.underlying324
 a85:=Tryz.isAgg324
 z85:=Tryz.sizeOf324
 v85:=Tryz.zeroValue324
 t127:=Tryz.underlying364
 a127:=Tryz.isAgg364
 z127:=Tryz.sizeOf364
 v127:=Tryz.zeroValue364
 t143:=Tryz.underlying370
 a143:=Tryz.isAgg370
 z143:=Tryz.sizeOf370
 v143:=Tryz.zeroValue370
 t145:=Tryz.underlying372
 a145:=Tryz.isAgg372
 z145:=Tryz.sizeOf372
 v145:=Tryz.zeroValue372
 t167:=Tryz.underlying323
 a167:=Tryz.isAgg323
 z167:=Tryz.sizeOf323
 v167:=Tryz.zeroValue323
 t168:=Tryz.underlying326
 a168:=Tryz.isAgg326
 z168:=Tryz.sizeOf326
 v168:=Tryz.zeroValue326
 t171:=Tryz.underlying360
 a171:=Tryz.isAgg360
 z171:=Tryz.sizeOf360
 v171:=Tryz.zeroValue360
 t173:=Tryz.underlying362
 a173:=Tryz.isAgg362
 z173:=Tryz.sizeOf362
 v173:=Tryz.zeroValue362
 t175:=Tryz.underlying352
 a175:=Tryz.isAgg352
 z175:=Tryz.sizeOf352
 v175:=Tryz.zeroValue352
 t210:=Tryz.underlying355
 a210:=Tryz.isAgg355
 z210:=Tryz.sizeOf355
 v210:=Tryz.zeroValue355
 t212:=Tryz.underlying381
 a212:=Tryz.isAgg381
 z212:=Tryz.sizeOf381
 v212:=Tryz.zeroValue381
 t213:=Tryz.underlying382
 a213:=Tryz.isAgg382
 z213:=Tryz.sizeOf382
 t232:=Tryz.underlying389
 a232:=Tryz.isAgg389
 z232:=Tryz.sizeOf389
 v232:=Tryz.zeroValue389
 t233:=Tryz.underlying390
 a233:=Tryz.isAgg390
 z233:=Tryz.sizeOf390
 v233:=Tryz.zeroValue390
 g15:=by kernel_rfl
 g16:=by kernel_rfl
 g17:=by kernel_rfl
 g18:=by kernel_rfl
 g19:=by kernel_rfl
 t80:=Tryz.underlying343
 a80:=Tryz.isAgg343
 z80:=Tryz.sizeOf343
 v80:=Tryz.zeroValue343
 i0:=by kernel_rfl
 i2:=by kernel_rfl
 i3:=by kernel_rfl
 i4:=by kernel_rfl
 i5:=by kernel_rfl
 i9:=by kernel_rfl
 i20:=by kernel_rfl
 i21:=by kernel_rfl
 i37:=by kernel_rfl
 i46:=by kernel_rfl
 i51:=by kernel_rfl
 i53:=by kernel_rfl
 i75:=by kernel_rfl
 i76:=by kernel_rfl
 i80:=by kernel_rfl
 i85:=by kernel_rfl
 i127:=by kernel_rfl
 i143:=by kernel_rfl
 i145:=by kernel_rfl
 i167:=by kernel_rfl
 i168:=by kernel_rfl
 i171:=by kernel_rfl
 i173:=by kernel_rfl
 i175:=by kernel_rfl
 i210:=by kernel_rfl
 i212:=by kernel_rfl
 i232:=by kernel_rfl
 i233:=by kernel_rfl
 m15:=by kernel_rfl
 m16:=by kernel_rfl
 m17:=by kernel_rfl
 m18:=by kernel_rfl
 m19:=by kernel_rfl
 c0:=by kernel_rfl
 c2:=by kernel_rfl
 c3:=by kernel_rfl
 c4:=by kernel_rfl
 c5:=by kernel_rfl
 c9:=by kernel_rfl
 c20:=by kernel_rfl
 c21:=by kernel_rfl
 c37:=by kernel_rfl
 c46:=by kernel_rfl
 c51:=by kernel_rfl
 c53:=by kernel_rfl
 c75:=by kernel_rfl
 c76:=by kernel_rfl
 c80:=by kernel_rfl
 c85:=by kernel_rfl
 c127:=by kernel_rfl
 c143:=by kernel_rfl
 c145:=by kernel_rfl
 c167:=by kernel_rfl
 c168:=by kernel_rfl
 c171:=by kernel_rfl
 c173:=by kernel_rfl
 c175:=by kernel_rfl
 c210:=by kernel_rfl
 c212:=by kernel_rfl
 c213:=by kernel_rfl
 c232:=by kernel_rfl
 c233:=by kernel_rfl }
theorem Tryz.strconv_Atoi_ok (s:ByteArray) (hmax:s.size≤9223372036854775806) (v:Int) (h:Lib.atoiAll s.data.toList=.ok v) (w:World) :
  Calls Tryz.prog 252 #[.string s] w fun e w'=>e=.returned (.tuple #[.int .i64 v,.nilIface])∧(w'=w∨∃ t,w'=Lib.bytesWorld w 5 t):=Any.strconv_Atoi_ok Tryz.laysC172 s hmax v h w
theorem Tryz.strconv_Atoi_syntax (s:ByteArray) (hlim:s.size≤281474976710656) (h:Lib.atoiAll s.data.toList=Lib.atoiAll []) (ev:Value) (w:World) (hv:w.cell? ⟨1,0,none⟩=some ev) (hev:ev=.nilIface∨∃ te pe,ev=.iface te pe) :
  Calls Tryz.prog 252 #[.string s] w fun e w'=>∃ N,e=.returned (.tuple #[.int .i64 (0),.iface 326 (.pointer (some ⟨N,0,none⟩))])∧w.heap.size≤N∧w'.heap[N]?=some (.cells #[.string ⟨#[65,116,111,105]⟩,.string s,ev] 355 (0,0))∧Below w.heap.size w w':=Any.strconv_Atoi_syntax Tryz.laysC172 s hlim h ev w hv hev
theorem Tryz.strconv_Atoi_range (s:ByteArray) (hlim:s.size≤281474976710656) (h:Lib.atoiAll s.data.toList=.range) (ev:Value) (w:World) (hv:w.cell? ⟨2,0,none⟩=some ev) (hev:ev=.nilIface∨∃ te pe,ev=.iface te pe) :
  Calls Tryz.prog 252 #[.string s] w fun e w'=>∃ N,e=.returned (.tuple #[.int .i64 (Lib.atoiSat s.data.toList),.iface 326 (.pointer (some ⟨N,0,none⟩))])∧w.heap.size≤N∧w'.heap[N]?=some (.cells #[.string ⟨#[65,116,111,105]⟩,.string s,ev] 355 (0,0))∧Below w.heap.size w w':=Any.strconv_Atoi_range Tryz.laysC172 s hlim h ev w hv hev
def Tryz.lays219_ren:Go.Shelf.Ren:=⟨fun | 219=>348 | 217=>366 | 225=>376 | 224=>377 | 267=>378 | 266=>390 | 314=>395 | n=>n,fun | 9=>9 | 3=>3 | 4=>4 | 5=>5 | 46=>277 | 146=>377 | 51=>314 | n=>n,fun | 1=>0 | n=>n⟩
theorem Tryz.lays219:Go.Proofs.Lays.n219 Tryz.prog Tryz.lays219_ren:={
 mixed:=by kernel_rfl
 f217:=Tryz.func366.trans (congrArg some (by kernel_rfl))
 f219:=Tryz.func348.trans (congrArg some (by kernel_rfl))
 f224:=Tryz.func377.trans (congrArg some (by kernel_rfl))
 f225:=Tryz.func376.trans (congrArg some (by kernel_rfl))
 f266:=Tryz.func390.trans (congrArg some (by kernel_rfl))
 f267:=Tryz.func378.trans (congrArg some (by kernel_rfl))
 f314:=Tryz.func395.trans (congrArg some (by kernel_rfl))
 t3:=Tryz.underlying3
 a3:=Tryz.isAgg3
 z3:=Tryz.sizeOf3
 v3:=Tryz.zeroValue3
 t4:=Tryz.underlying4
 a4:=Tryz.isAgg4
 z4:=Tryz.sizeOf4
 v4:=Tryz.zeroValue4
 t5:=Tryz.underlying5
 a5:=Tryz.isAgg5
 z5:=Tryz.sizeOf5
 v5:=Tryz.zeroValue5
 t9:=Tryz.underlying9
 a9:=Tryz.isAgg9
 z9:=Tryz.sizeOf9
 v9:=Tryz.zeroValue9
 t46:=Tryz.underlying277
 a46:=Tryz.isAgg277
 z46:=Tryz.sizeOf277
 v46:=Tryz.zeroValue277
 t51:=Tryz.underlying314
 a51:=Tryz.isAgg314
 z51:=Tryz.sizeOf314
 v51:=Tryz.zeroValue314
 t146:=Tryz.underlying377
 a146:=Tryz.isAgg377
 z146:=Tryz.sizeOf377
 v146:=Tryz.zeroValue377
 g1:=by kernel_rfl }
theorem Tryz.stringslite_Index_one (s:ByteArray) (c:UInt8) (w:World) :
  Calls Tryz.prog 348 #[.string s,.string ⟨#[c]⟩] w fun e w'=>e=.returned (.int .i64 (Lib.indexByte s.data.toList c))∧w'=w:=Any.stringslite_Index_one Tryz.lays219 s c w
def Tryz.lays143_ren:Go.Shelf.Ren:=⟨fun | 143=>309 | 219=>348 | 217=>366 | 225=>376 | 224=>377 | 267=>378 | 266=>390 | 314=>395 | n=>n,fun | 9=>9 | 3=>3 | 4=>4 | 5=>5 | 46=>277 | 146=>377 | 51=>314 | n=>n,fun | 1=>0 | n=>n⟩
theorem Tryz.lays143:Go.Proofs.Lays.n143 Tryz.prog Tryz.lays143_ren:={
 mixed:=by kernel_rfl
 f143:=Tryz.func309.trans (congrArg some (by kernel_rfl))
 f217:=Tryz.func366.trans (congrArg some (by kernel_rfl))
 f219:=Tryz.func348.trans (congrArg some (by kernel_rfl))
 f224:=Tryz.func377.trans (congrArg some (by kernel_rfl))
 f225:=Tryz.func376.trans (congrArg some (by kernel_rfl))
 f266:=Tryz.func390.trans (congrArg some (by kernel_rfl))
 f267:=Tryz.func378.trans (congrArg some (by kernel_rfl))
 f314:=Tryz.func395.trans (congrArg some (by kernel_rfl))
 t3:=Tryz.underlying3
 a3:=Tryz.isAgg3
 z3:=Tryz.sizeOf3
 v3:=Tryz.zeroValue3
 t4:=Tryz.underlying4
 a4:=Tryz.isAgg4
 z4:=Tryz.sizeOf4
 v4:=Tryz.zeroValue4
 t5:=Tryz.underlying5
 a5:=Tryz.isAgg5
 z5:=Tryz.sizeOf5
 v5:=Tryz.zeroValue5
 t9:=Tryz.underlying9
 a9:=Tryz.isAgg9
 z9:=Tryz.sizeOf9
 v9:=Tryz.zeroValue9
 t46:=Tryz.underlying277
 a46:=Tryz.isAgg277
 z46:=Tryz.sizeOf277
 v46:=Tryz.zeroValue277
 t51:=Tryz.underlying314
 a51:=Tryz.isAgg314
 z51:=Tryz.sizeOf314
 v51:=Tryz.zeroValue314
 t146:=Tryz.underlying377
 a146:=Tryz.isAgg377
 z146:=Tryz.sizeOf377
 v146:=Tryz.zeroValue377
 g1:=by kernel_rfl }
theorem Tryz.strings_Index_one (s:ByteArray) (c:UInt8) (w:World) :
  Calls Tryz.prog 309 #[.string s,.string ⟨#[c]⟩] w fun e w'=>e=.returned (.int .i64 (Lib.indexByte s.data.toList c))∧w'=w:=Any.strings_Index_one Tryz.lays143 s c w
def Tryz.lays138_ren:Go.Shelf.Ren:=⟨fun | 138=>308 | 195=>345 | 218=>347 | 143=>309 | 219=>348 | 217=>366 | 225=>376 | 224=>377 | 267=>378 | 266=>390 | 314=>395 | n=>n,fun | 9=>9 | 3=>3 | 4=>4 | 5=>5 | 0=>0 | 46=>277 | 146=>377 | 51=>314 | n=>n,fun | 1=>0 | n=>n⟩
theorem Tryz.lays138:Go.Proofs.Lays.n138 Tryz.prog Tryz.lays138_ren:={
 mixed:=by kernel_rfl
 f138:=Tryz.func308.trans (congrArg some (by kernel_rfl))
 f143:=Tryz.func309.trans (congrArg some (by kernel_rfl))
 f195:=Tryz.func345.trans (congrArg some (by kernel_rfl))
 f217:=Tryz.func366.trans (congrArg some (by kernel_rfl))
 f218:=Tryz.func347.trans (congrArg some (by kernel_rfl))
 f219:=Tryz.func348.trans (congrArg some (by kernel_rfl))
 f224:=Tryz.func377.trans (congrArg some (by kernel_rfl))
 f225:=Tryz.func376.trans (congrArg some (by kernel_rfl))
 f266:=Tryz.func390.trans (congrArg some (by kernel_rfl))
 f267:=Tryz.func378.trans (congrArg some (by kernel_rfl))
 f314:=Tryz.func395.trans (congrArg some (by kernel_rfl))
 t0:=Tryz.underlying0
 a0:=Tryz.isAgg0
 z0:=Tryz.sizeOf0
 v0:=Tryz.zeroValue0
 t3:=Tryz.underlying3
 a3:=Tryz.isAgg3
 z3:=Tryz.sizeOf3
 v3:=Tryz.zeroValue3
 t4:=Tryz.underlying4
 a4:=Tryz.isAgg4
 z4:=Tryz.sizeOf4
 v4:=Tryz.zeroValue4
 t5:=Tryz.underlying5
 a5:=Tryz.isAgg5
 z5:=Tryz.sizeOf5
 v5:=Tryz.zeroValue5
 t9:=Tryz.underlying9
 a9:=Tryz.isAgg9
 z9:=Tryz.sizeOf9
 v9:=Tryz.zeroValue9
 t46:=Tryz.underlying277
 a46:=Tryz.isAgg277
 z46:=Tryz.sizeOf277
 v46:=Tryz.zeroValue277
 t51:=Tryz.underlying314
 a51:=Tryz.isAgg314
 z51:=Tryz.sizeOf314
 v51:=Tryz.zeroValue314
 t146:=Tryz.underlying377
 a146:=Tryz.isAgg377
 z146:=Tryz.sizeOf377
 v146:=Tryz.zeroValue377
 g1:=by kernel_rfl }
theorem Tryz.strings_Count_one (s:ByteArray) (c:UInt8) (w:World) :
  Calls Tryz.prog 308 #[.string s,.string ⟨#[c]⟩] w fun e w'=>e=.returned (.int .i64 (Lib.countByte s.data.toList c))∧w'=w:=Any.strings_Count_one Tryz.lays138 s c w
end Go.Proofs
end
section
namespace Go.Av.F
open Go Go.Av Go.Proofs Go.Proofs.Tryz Go.RowKit
theorem qdO {w:World} {Z:Addr→Prop} {γ:Gm} {s:List UInt8} {x:Value} (h:AVRel w Z γ (.str s) x):x=.string ⟨s.toArray⟩:=by cases h;rfl
theorem qmE {w:World} {Z:Addr→Prop} {γ:Gm} {k:IntKind} {n:Int} {x:Value} (h:AVRel w Z γ (.int k n) x):x=.int k n:=by cases h;rfl
theorem qn4 (c:UInt8):∀ (s:List UInt8),-1≤Lib.indexByte s c
 | []=>by simp[Lib.indexByte]
 | x::r=>by
  have:=qn4 c r;simp only[Lib.indexByte]
  repeat' split
  all_goals omega
theorem qd6 (c:UInt8):∀ (s:List UInt8) (i:Int),qa1 c s i=if Lib.indexByte s c=-1 then -1 else i+Lib.indexByte s c
 | [],i=>by simp[qa1,Lib.indexByte]
 | x::r,i=>by
  have h1:=qd6 c r (i+1);have h2:=qn4 c r;simp only[qa1,Lib.indexByte];by_cases hx:x=c
  ·simp[hx]
  ·have:(x == c)=false:=by simpa using hx
   simp only[hx,this,if_false,h1,beq_iff_eq,qDA];split
   ·simp
   ·rw[if_neg (by omega)];omega
theorem qix (c:UInt8) (s:List UInt8):Lib.indexByte s c=qa1 c s 0:=by
 have:=qd6 c s 0;rw[this];split <;> omega
theorem qn6 (s:List UInt8) (c:UInt8):CV prog 329 [.str s,.int .u8 (c.toNat:Int)] (.int .i64 (qa1 c s 0)):=by
 refine qcg fun w Z vs hv hg hz=>?_;obtain⟨x,y,rfl,h1,h2⟩:=qrB hv;rw[qdO h1,qmE h2];refine(Tryz.strings_IndexByte _ _ w).mono ?_;rintro e w' ⟨rfl,rfl⟩;have e1:((c.toNat:Int).toNat).toUInt8=c:=by simp
 exact⟨_,rfl,by rw[e1,← qix];exact .int _ _ _,.refl _ _⟩
theorem qwn (s:List UInt8) (c:UInt8):CV prog 309 [.str s,.str [c]] (.int .i64 (qa1 c s 0)):=by
 refine qcg fun w Z vs hv hg hz=>?_;obtain⟨x,y,rfl,h1,h2⟩:=qrB hv;rw[qdO h1,qdO h2];refine(Tryz.strings_Index_one _ c w).mono ?_;rintro e w' ⟨rfl,rfl⟩;exact⟨_,rfl,by rw[← qix];exact .int _ _ _,.refl _ _⟩
theorem qzn (s:List UInt8) (c:UInt8):CV prog 348 [.str s,.str [c]] (.int .i64 (qa1 c s 0)):=by
 refine qcg fun w Z vs hv hg hz=>?_;obtain⟨x,y,rfl,h1,h2⟩:=qrB hv;rw[qdO h1,qdO h2];refine(Tryz.stringslite_Index_one _ c w).mono ?_;rintro e w' ⟨rfl,rfl⟩;exact⟨_,rfl,by rw[← qix];exact .int _ _ _,.refl _ _⟩
theorem qDc (s:List UInt8) (c:UInt8):CV prog 308 [.str s,.str [c]] (.int .i64 (s.count c:Nat)):=by
 refine qcg fun w Z vs hv hg hz=>?_;obtain⟨x,y,rfl,h1,h2⟩:=qrB hv;rw[qdO h1,qdO h2];refine(Tryz.strings_Count_one _ c w).mono ?_;rintro e w' ⟨rfl,rfl⟩;exact⟨_,rfl,.int _ _ _,.refl _ _⟩
theorem qo9 (w:World) (k:Nat) (os:Array Obj):Below w.heap.size w (Go.Sort.grow (w.drewN k) os) :=
 ⟨rfl,rfl,rfl,by simp[Go.Sort.grow,World.drewN],fun i hi=>by
  show((w.drewN k).heap++os)[i]?=_;rw[qER (by simpa [World.drewN]using hi)];rfl⟩
theorem qwi (n:Int) (h0:-9223372036854775808≤n) (h1:n≤9223372036854775807):CV prog 261 [.int .i64 n] (.str (Lib.itoa n)):=by
 refine qcg fun w Z vs hv hg hz=>?_;obtain⟨x,rfl,hx⟩:=qwX hv;rw[qmE hx];have htab:Lib.TabIs prog w "internal/strconv.uint64pow10" .u64 Lib.pow10Tab:=by
  have hgn:prog.globalNamed "internal/strconv.uint64pow10"=some 5:=by kernel_rfl
  obtain⟨ty,fz,hh⟩:=qzA hg (g:=5) (cs:=Lib.pow10Tab.map (AV.int .u64)) (by unfold gtab;rfl) (Lib.pow10Tab.map fun z=>Value.int .u64 z) (by simp) (fun x j hj hr=>by
   simp only[qD1,qD9]at hr ⊢;simp only[qEH]at hj;rw[qDF hj]at hr ⊢;exact qmE hr) (by simp[Lib.pow10Tab])
  unfold Lib.TabIs World.var?;rw[hgn];simp only[qE7,hh]
 refine(Tryz.strconv_Itoa n h0 h1 w htab).mono ?_;rintro e w' ⟨rfl,k,os,rfl⟩;exact⟨_,rfl,.str _ _,qo9 _ _ _⟩
def qaE (s:List UInt8):Int:=match Lib.atoiAll s with
 | .ok v=>v
 | .range=>Lib.atoiSat s
 | _=>0
def qbA (s:List UInt8):Bool:=match Lib.atoiAll s with
 | .ok _=>true
 | _=>false
def qhF (b:Bool):AV:=if b then .nili else .ifc
theorem quc {w:World} {Z:Addr→Prop} (h:GlR w Z) {g:Nat} (hg:gtab g=some [.ifc]):∃ t v,w.cell? ⟨g,0,none⟩=some (.iface t v):=by
 obtain⟨h1,_,_⟩:=h g _ hg;generalize hp:(Value.pointer (some ⟨g,0,none⟩))=u at h1;cases h1 with
 | elm _ _ A vf hA hz hc hr =>
  injection hp with hp;injection hp with hp;subst hp;have c0:=hc 0 (by simp);have r0:=hr 0 (by simp);simp only[qEe]at r0;generalize vf 0=x at c0 r0;cases r0 with
  | ifc _ t v=>exact⟨t,v,by simpa [Addr.at]using c0⟩
theorem ql9 (s:List UInt8) (hl:s.length≤281474976710656):CV prog 252 [.str s] (.tup [.int .i64 (qaE s),qhF (qbA s)]):=by
 refine qcg (fun w Z vs hv hg hz=>?_) (hcv:=by unfold qhF;split <;> simp[clA]);obtain⟨x,rfl,hx⟩:=qwX hv;rw[qdO hx];have tup:∀ {w:World} {a b:AV} {p q:Value},AVRel w Z noG a p→AVRel w Z noG b q→AVRel w Z noG (.tup [a,b]) (.tuple #[p,q]):=fun h1 h2=>.tup _ _ _ rfl fun j hj=>by
  match j,hj with
  | 0,_=>exact h1
  | 1,_=>exact h2
 have hsz:(⟨s.toArray⟩:ByteArray).size=s.length:=by simp[ByteArray.size]
 unfold qaE qbA;rcases hA:Lib.atoiAll s with v | _ | _
 ·refine(Tryz.strconv_Atoi_ok ⟨s.toArray⟩ (by rw[hsz];omega) v (by simpa using hA) w).mono ?_;rintro e w' ⟨rfl,hw⟩;refine⟨_,rfl,tup (.int _ _ _) (.nili _),?_⟩;rcases hw with rfl | ⟨t,rfl⟩
  ·exact .refl _ _
  ·unfold Lib.bytesWorld;refine⟨rfl,rfl,rfl,?_,fun k hk=>?_⟩
   ·show w.heap.size≤(Array.modify _ _ _).size;rw[Array.size_modify];refine qFs ?_;show w.heap.size<(w.drew.heap.push _).size;rw[Array.size_push];exact Nat.lt_succ_self _
   ·show(Array.modify _ w.heap.size _)[k]?=_;rw[qEq,if_neg (by omega)];exact Below.heap_alloc w.drew _ k hk
 ·obtain⟨te,pe,hc⟩:=quc hg (g:=1) (by unfold gtab;rfl);refine(Tryz.strconv_Atoi_syntax ⟨s.toArray⟩ (by rw[hsz];omega) hA _ w hc (.inr ⟨te,pe,rfl⟩)).mono ?_;rintro e w' ⟨N,rfl,_,_,hb⟩;exact⟨_,rfl,tup (.int _ _ _) (.ifc _ _ _),hb⟩
 ·obtain⟨te,pe,hc⟩:=quc hg (g:=2) (by unfold gtab;rfl);refine(Tryz.strconv_Atoi_range ⟨s.toArray⟩ (by rw[hsz];omega) (by simpa using hA) _ w hc (.inr ⟨te,pe,rfl⟩)).mono ?_;rintro e w' ⟨N,rfl,_,_,hb⟩;exact⟨_,rfl,tup (.int _ _ _) (.ifc _ _ _),hb⟩
end Go.Av.F
end
section
namespace Go.Av.F
open Go Go.Av Go.Proofs Go.Proofs.Tryz
def qeX (c:UInt8) (s:List UInt8):List UInt8×List UInt8×Bool:=if qa1 c s 0<0 then (s,[],false) else (s.take (qa1 c s 0).toNat,s.drop ((qa1 c s 0).toNat+1),true)
theorem qya (s:List UInt8) (c:UInt8) (hs:s.length≤1048576):CV prog 328 [.str s,.str [c]] (.tup [.str (qeX c s).1,.str (qeX c s).2.1,.bool (qeX c s).2.2]):=by
 obtain⟨R,hR⟩:∃ R,qeX c s=R:=⟨_,rfl⟩;rw[hR];unfold qeX at hR;have hlt:=qf3 c s 0 (by omega);have hge:=qf4 c s 0 (by omega);have fc:=qzn s c;generalize qa1 c s 0=k at *
 refine cvx func328 [] ntmps328 rfl rfl rfl ?_;simp;refine fc.call ?_;by_cases h:k<0
 ·rw[if_pos h]at hR;have h':¬ 0≤k:=by omega
  simp[h',← hR]
 ·rw[if_neg h]at hR;have h':0≤k:=by omega
  have e1:=qaq (k+1) (by omega) (by omega);have d1:(k+1).toNat=k.toNat+1:=by omega
  have d2:List.take (s.length-(k.toNat+1)) (List.drop (k.toNat+1) s)=List.drop (k.toNat+1) s:=qDU (by simp);simp[h',e1,d1,d2,← hR]
  repeat' first | with_reducible refine And.intro ?_ ?_ | omega
theorem qCK (s:List UInt8) (c:UInt8) (hs:s.length≤1048576):CV prog 278 [.str s,.str [c]] (.tup [.str (qeX c s).1,.str (qeX c s).2.1,.bool (qeX c s).2.2]):=by
 refine cvx func278 [] ntmps278 rfl rfl rfl ?_;simp;refine(qya s c hs).call ?_;simp
theorem ql0 (c:UInt8):∀ (s cur:List UInt8),qaF c s cur=if qa1 c s 0<0 then [cur++s] else (cur++s.take (qa1 c s 0).toNat)::qaF c (s.drop ((qa1 c s 0).toNat+1)) []
 | [],cur=>by simp[qaF,qa1]
 | x::r,cur=>by
  have ih:=ql0 c r (cur++[x]);have h1:=qd6 c r (0+1);have h2:=qd6 c r 0;have h3:=qn4 c r;simp only[qaF,qa1];by_cases hx:x=c
  ·simp[hx]
  ·simp only[hx,if_false];rw[ih,h1,h2];by_cases h:Lib.indexByte r c=-1
   ·simp[h]
   ·have e:(0+1+Lib.indexByte r c).toNat=(0+Lib.indexByte r c).toNat+1:=by omega
    rw[if_neg h,if_neg h,e,if_neg (by omega),if_neg (by omega)];simp
theorem qjy (c:UInt8):∀ (s:List UInt8),s.count c=if qa1 c s 0<0 then 0 else (s.drop ((qa1 c s 0).toNat+1)).count c+1
 | []=>by simp[qa1]
 | x::r=>by
  have ih:=qjy c r;have h1:=qd6 c r (0+1);have h2:=qd6 c r 0;have h3:=qn4 c r;simp only[qa1];by_cases hx:x=c
  ·simp[hx]
  ·have hc:List.count c (x::r)=List.count c r:=List.count_cons_of_ne (fun h=>hx h);simp only[hx,if_false];rw[hc,ih,h1,h2];by_cases h:Lib.indexByte r c=-1
   ·simp[h]
   ·have e:(0+1+Lib.indexByte r c).toNat=(0+Lib.indexByte r c).toNat+1:=by omega
    rw[if_neg h,if_neg h,e,if_neg (by omega),if_neg (by omega)];simp
theorem qrD (c:UInt8) (s:List UInt8):s.count c≤s.length:=List.count_le_length
theorem qwD (s:List UInt8) (c:UInt8) (hs:s.length≤1048576):ACall prog 255 [.str s,.str [c],.int .i64 0,.int .i64 (-1)] [] (fun r L'=>r=.sl 900 0 (qaF c s []).length∧L'=[(900,⟨1,(qaF c s []).map qcr⟩)]):=by
 obtain⟨R,hR⟩:∃ R,qaF c s []=R:=⟨_,rfl⟩;rw[hR];obtain⟨N,hN⟩:∃ N,s.count c=N:=⟨_,rfl⟩;have hNl:=qrD c s;have cc:=qDc s c;rw[hN]at cc hNl;have e1:=qaq ((N:Int)+1) (by omega) (by omega);have e2:=qaq ((s.length:Int)+1) (by omega) (by omega);have e3:¬ (s.length:Int)+1<(N:Int)+1:=by omega
 refine acx func255 [] ntmps255 rfl rfl rfl ?_;simp;refine cc.call ?_;have e4:((N:Int)+1).toNat=N+1:=by omega
 have e5:(N:Int)+1-1=N:=by omega
 have e6:=qaq (N:Int) (by omega) (by omega);simp[e1,e2,e3,e4,e5,e6];refine⟨⟨by omega,by omega⟩,?_⟩;refine qa9 (X:=Nat×List UInt8×List (List UInt8)) [0,1,2,3,9,10] [(31,900)] (fun x=>[(0,.str x.2.1),(9,.sl 900 0 (N+1)),(10,.int .i64 x.1)]) (fun x=>[(900,⟨1,x.2.2.map qcr⟩)]) (fun x=>N-x.1)
  (fun x=>x.1≤N∧x.2.2.length=N+1∧x.2.1.count c+x.1=N∧x.2.1.length≤s.length∧x.2.2.take x.1++qaF c x.2.1 []=R) (0,s,List.replicate (N+1) []) ⟨by simp,by simp,by simp[hN],by simp,by simpa using hR⟩ ?_ (he:=by simp[qah,qcr])
 rintro⟨i,t,ps⟩ ⟨hi,hpl,hct,htl,hd⟩;simp only at hi hpl hct htl hd;have hcf:=qjy c t;have hcr:=ql0 c t [];have fc:=qwn t c;have hlt:=qf3 c t 0 (by omega);have hge:=qf4 c t 0 (by omega);by_cases h1:i<N
 ·have h1':(i:Int)<N:=by omega
  generalize qa1 c t 0=k at *
  have hk:¬ k<0:=by
   intro hk;rw[if_pos hk]at hcf;omega
  rw[if_neg hk]at hcf hcr;have w1:=qaq k (by omega) (by omega);have w2:=qaq (k+1) (by omega) (by omega);have w3:=qaq ((i:Int)+1) (by omega) (by omega);have d1:(k+1).toNat=k.toNat+1:=by omega
  have d2:List.take (t.length-(k.toNat+1)) (List.drop (k.toNat+1) t)=List.drop (k.toNat+1) t:=qDU (by simp);simp[h1'];refine fc.call ?_;simp[h1',hk,w1,w2,w3,d1,d2,hpl];refine⟨⟨by omega,by omega⟩,by omega,by omega,⟨by omega,by omega⟩,?_⟩;refine nx (i+1,t.drop (k.toNat+1),ps.set i (t.take k.toNat)) [(900,900)] ⟨by simp only;omega,by simp only[qEs];omega,by simp only;omega,by simp only[qDw];omega,?_⟩ (by simp only;omega) (h4:=?_)
  ·show List.take (i+1) (ps.set i (List.take k.toNat t))++qaF c (List.drop (k.toNat+1) t) []=R;rw[qgj (x:=t.take k.toNat) (by rw[qFm (by omega)]),List.take_set,qGh (by simp;omega),List.append_assoc];rw[hcr]at hd;simpa using hd
  ·obtain⟨q,hq⟩:∃ q,ps[i]?=some q:=⟨_,qDF (by omega)⟩;simp[qah,w3,qFG,qcr,qfP,hq]
 ·have:i=N:=by omega
  subst this;have h1':¬ (i:Int)<i:=by omega
  simp[hpl];have hk:qa1 c t 0<0:=by
   rcases hge with h | h
   ·omega
   ·rw[if_neg (by omega)]at hcf;omega
  rw[if_pos hk]at hcr;rw[hcr]at hd;have hps:ps.set i t=R:=by
   rw[← hd];have h2:ps.set i t=(ps.set i t).take (i+1):=(qDU (by simp[hpl])).symm;rw[h2,qgj (x:=t) (by simp[hpl]),List.take_set,qGh (by simp;omega)];simp
  refine⟨by omega,⟨by omega,by omega⟩,?_,?_⟩
  ·rw[← hps,qFG];simp[qcr]
  ·rw[e1,← hps];simp[hpl]
theorem qwE (s:List UInt8) (c:UInt8) (hs:s.length≤1048576):CV prog 255 [.str s,.str [c],.int .i64 0,.int .i64 (-1)] (.lst 1 ((qaF c s []).map qcr)):=by
 refine CV.of_frz (qwD s c hs) (fun r L' hR=>?_);obtain⟨rfl,rfl⟩:=hR;refine⟨by simp,by simp,?_,?_⟩
 ·simp[clR,qcr,clL,clA]
 ·simp[qbe,qDU];exact qaD _
theorem qhY (s:List UInt8) (c:UInt8) (hs:s.length≤1048576):CV prog 179 [.str s,.str [c]] (.lst 1 ((qaF c s []).map qcr)):=by
 refine cvx func179 [] ntmps179 rfl rfl rfl ?_;simp;refine(qwE s c hs).call ?_;simp
theorem qhH:∀ (k:Nat) (out:List UInt8),qmZ k out=Lib.decDigits k++out:=by
 intro k
 induction k using Nat.strongRecOn with
 | ind k ih =>
  intro out;rw[qmZ,Lib.decDigits];by_cases h:k<10
  ·rw[dif_pos (by omega),dif_pos h];rfl
  ·rw[dif_neg (by omega),dif_neg h,ih _ (by omega)];simp
theorem qkb (k:Nat):Lib.itoa (k:Int)=qmZ k []:=by
 unfold Lib.itoa;rw[if_neg (by omega),qhH];simp
theorem qn1 (s:List UInt8) (hs:s.length≤maxLen):CV prog 298 [.str s] (.str (qdP s)):=by
 obtain⟨R,hR⟩:∃ R,qdP s=R:=⟨_,rfl⟩;rw[hR];have hml:maxLen=9223372036854775807:=rfl;have hlt:=qhV s (1+s.length % 997) (by omega);have sc:=qsG s hs;refine cvx func298 [] ntmps298 rfl rfl rfl ?_;unfold qdP at hR;by_cases h:400<s.length
 ·rw[if_pos h]at hR;have h':(400:Int)<s.length:=by omega
  simp[h',← hR]
 ·rw[if_neg h]at hR;have h':¬ (400:Int)<s.length:=by omega
  simp[h'];refine sc.call ?_;generalize qi6 s (1+s.length % 997)=n at *
  have hl:=qkA n [];simp only[qET]at hl;simp;refine(qwi (n:Int) (by omega) (by omega)).call ?_;rw[qkb];simp[← hR];omega
theorem qrz (s:List UInt8):qbf s=if (qeX 58 s).2.2=true∧qdP (qeX 58 s).2.1=s then ((qeX 58 s).2.1,true) else ([],false):=by
 unfold qbf qeX;by_cases h:qa1 58 s 0<0
 ·simp[h]
 ·simp[h]
theorem qoj (c:UInt8) (s:List UInt8):(qeX c s).1.length≤s.length∧(qeX c s).2.1.length≤s.length:=by
 unfold qeX;split <;> simp;omega
theorem qt7 (s:List UInt8) (hs:s.length≤1048576):CV prog 251 [.str s] (.tup [.str (qbf s).1,.bool (qbf s).2]):=by
 obtain⟨R,hR⟩:∃ R,qbf s=R:=⟨_,rfl⟩;rw[hR];have hml:maxLen=9223372036854775807:=rfl;rw[qrz]at hR;have cc:=qCK s 58 hs;have cl:=qoj 58 s;generalize qeX 58 s=k at *
 obtain⟨k1,k2,k3⟩:=k;simp only at cc cl hR;refine cvx func251 [] ntmps251 rfl rfl rfl ?_;simp;refine cc.call ?_;cases k3 with
 | false=>simp[← hR]
 | true =>
  simp;refine(qn1 k2 (by omega)).call ?_;by_cases h2:qdP k2=s
  ·simp[h2,← hR]
  ·simp[h2,← hR]
theorem qmz:∀ (l:List UInt8) (n m:Nat),qe8 n l=some m→n * 10 ^ l.length≤m
 | [],n,m,h=>by
  simp only[qe8,qDs]at h;simp[h]
 | x::r,n,m,h=>by
  unfold qe8 at h;split at h
  ·cases h
  ·have:=qmz r _ m h;refine qDp ?_ this;rw[qDX,qGg,qEv (10 ^ r.length),← qEN];exact qDC _ (by omega)
theorem qnS:∀ (a b:List UInt8) (n:Nat),qe8 n (a++b)=(qe8 n a).bind fun m=>qe8 m b
 | [],b,n=>rfl
 | x::r,b,n=>by
  simp only[qFt,qe8];split
  ·rfl
  ·exact qnS r b _
theorem qi1 {d:Nat} (h:d<10):(UInt8.ofNat (48+d)).toNat=48+d:=by
 simp only[qGb];exact qEw (by omega)
theorem qum {x:UInt8} (h1:48≤x.toNat):UInt8.ofNat (48+(x.toNat-48))=x:=by
 rw[show 48+(x.toNat-48)=x.toNat by omega];simp
theorem qnR {n d:Nat} (h:d<10):qe8 n [UInt8.ofNat (48+d)]=some (n * 10+d):=by
 unfold qe8;rw[qi1 h,if_neg (by omega)];simp[qe8]
theorem qj6:∀ n,qe8 0 (Lib.decDigits n)=some n:=by
 intro n
 induction n using Nat.strongRecOn with
 | ind n ih =>
  rw[Lib.decDigits];by_cases h:n<10
  ·rw[dif_pos h,qnR h];simp
  ·rw[dif_neg h,qnS,ih _ (by omega)];simp only[qE7];rw[qnR (by omega)]
   congr 1
   omega
theorem qwQ {n d:Nat} (hn:1≤n) (hd:d<10):Lib.decDigits (n * 10+d)=Lib.decDigits n++[UInt8.ofNat (48+d)]:=by
 rw[Lib.decDigits,dif_neg (by omega),show(n * 10+d) / 10=n by omega,show(n * 10+d) % 10=d by omega]
theorem qof:∀ (l:List UInt8) (n m:Nat),1≤n→qe8 n l=some m→Lib.decDigits m=Lib.decDigits n++l
 | [],n,m,hn,h=>by
  simp only[qe8,qDs]at h;simp[h]
 | x::r,n,m,hn,h=>by
  unfold qe8 at h;split at h
  ·cases h
  ·rename_i hx;rw[qof r _ m (by omega) h,qwQ hn (by omega),qum (by omega)];simp
theorem qmX {t:List UInt8} {m:Nat} (h0:t≠[]) (hz:t.head?=some 48→t.length≤1) (h:qe8 0 t=some m):Lib.decDigits m=t:=by
 cases t with
 | nil=>exact absurd rfl h0
 | cons x r =>
  unfold qe8 at h;split at h
  ·cases h
  ·rename_i hx;have hxd:=qum (x:=x) (by omega);by_cases hx0:x=48
   ·have:=hz (by simp[hx0]);have hr:r=[]:=qFo (by simpa using this);subst hr;simp only[qe8,qDs]at h;rw[← h,Lib.decDigits,dif_pos (by omega)];simpa using hxd
   ·have hx1:x.toNat≠48:=fun h=>hx0 (qFM.1 h);rw[qof r _ m (by omega) h];have:Lib.decDigits (0 * 10+(x.toNat-48))=[x]:=by
     rw[Lib.decDigits,dif_pos (by omega)];simpa using hxd
    rw[this];rfl
theorem qk3 {t:List UInt8} {n:Int} (h:qaw t=(n,true)):Lib.itoa n=t∧n.natAbs<10 ^ 17:=by
 have lt17:∀ (l:List UInt8) (k m:Nat),qe8 k l=some m→m<(k+1) * 10 ^ l.length:=by
  intro l
  induction l with
  | nil=>intro k m h;simp only[qe8,qDs]at h;simp;omega
  | cons x r ih =>
   intro k m h;unfold qe8 at h;split at h
   ·cases h
   ·have:=ih _ _ h;refine qDq this ?_;rw[qDX,qGg,qEv (10 ^ r.length),← qEN];exact qDC _ (by omega)
 have key:∀ (neg:Bool) (s:List UInt8),qsC neg s=(n,true)→∃ m,Lib.decDigits m=s∧n=(if neg=true then -(m:Int) else m)∧m<10 ^ 17∧(neg=true→1≤m):=by
  intro neg s hs;unfold qsC at hs;split at hs
  ·cases hs
  ·rename_i hc;simp only[not_or,not_and]at hc;split at hs
   ·cases hs
   ·rename_i m hm;injection hs with h1 _;have hz:s.head?=some 48→s.length≤1:=fun hh=>by have:=(hc.2.2 hh).1;omega
    refine⟨m,qmX (by intro h;simp[h]at hc) hz hm,h1.symm,?_,fun hn=>?_⟩
    ·have:=lt17 s 0 m hm;have h2:(10:Nat) ^ s.length≤10 ^ 17:=qGf (by omega) (by omega);omega
    ·cases s with
     | nil=>simp at hc
     | cons x r =>
      have hx:x≠48:=fun h=>by have:=(hc.2.2 (by simp[h])).2;exact this hn
      have hx1:x.toNat≠48:=fun h=>hx (qFM.1 h);unfold qe8 at hm;split at hm
      ·cases hm
      ·have:=qmz r _ m hm;have:1 * 1≤(0 * 10+(x.toNat-48)) * 10 ^ r.length:=Nat.mul_le_mul (by omega) (Nat.pow_pos (by omega));omega
 unfold qaw at h;split at h
 ·rename_i hh;obtain⟨m,h1,h2,h3,h4⟩:=key true _ h;have h4:=h4 rfl;simp only[if_true]at h2;subst h2;cases t with
  | nil=>simp at hh
  | cons x r =>
   simp only[qGd,qDs]at hh;subst hh;refine⟨?_,by omega⟩;unfold Lib.itoa;rw[if_pos (by omega),show(-(m:Int)).natAbs=m by omega,h1];rfl
 ·obtain⟨m,h1,h2,h3,_⟩:=key false _ h;simp only[qDA,if_false]at h2;subst h2;refine⟨?_,by omega⟩;unfold Lib.itoa;rw[if_neg (by omega)];simpa using h1
theorem qup (n:Nat):Lib.decDigits n≠[]:=by
 rw[Lib.decDigits];split <;> simp
theorem qky (n:Nat):∃ x r,Lib.decDigits n=x::r∧48≤x.toNat∧x.toNat≤57:=by
 induction n using Nat.strongRecOn with
 | ind n ih =>
  rw[Lib.decDigits];by_cases h:n<10
  ·rw[dif_pos h];exact⟨_,_,rfl,by rw[qi1 h];omega,by rw[qi1 h];omega⟩
  ·rw[dif_neg h];obtain⟨x,r,h1,h2,h3⟩:=ih (n / 10) (by omega);exact⟨x,r++[UInt8.ofNat (48+n % 10)],by rw[h1];rfl,h2,h3⟩
theorem qs9 (n:Nat) (h:(Lib.decDigits n).head?=some 48):n=0:=by
 induction n using Nat.strongRecOn with
 | ind n ih =>
  rw[Lib.decDigits]at h;by_cases h9:n<10
  ·rw[dif_pos h9]at h;simp only[qGd,qDs]at h;have h2:=qi1 h9;rw[h]at h2;simp at h2;omega
  ·rw[dif_neg h9]at h;obtain⟨x,r,h1,_,_⟩:=qky (n / 10);have:=ih (n / 10) (by omega) (by rw[h1]at h ⊢;simpa using h);omega
theorem qkx (n:Nat):∀ k,n<10 ^ k→1≤k→(Lib.decDigits n).length≤k:=by
 induction n using Nat.strongRecOn with
 | ind n ih =>
  intro k hk h1;rw[Lib.decDigits];by_cases h:n<10
  ·rw[dif_pos h];simpa using h1
  ·rw[dif_neg h];obtain⟨j,rfl⟩:∃ j,k=j+1:=⟨k-1,by omega⟩;rw[qGg]at hk;have hj:1≤j:=by
    rcases qEJ j with h0 | h0
    ·subst h0;simp at hk;omega
    ·exact h0
   have:=ih (n / 10) (by omega) j (by omega) hj;simp;omega
theorem qpS {n:Int} (h:n.natAbs<10 ^ 17):qaw (Lib.itoa n)=(n,true):=by
 have key:∀ (m:Nat) (neg:Bool),m<10 ^ 17→(neg=true→1≤m)→qsC neg (Lib.decDigits m)=(if neg=true then -(m:Int) else m,true):=fun m neg hm hn=>by
  unfold qsC;have h1:=qkx m 17 hm (by omega);have h2:=qDB.2 (qup m);rw[if_neg,qj6];rintro(h | h | ⟨h,h'⟩)
  ·omega
  ·omega
  ·have h0:=qs9 m h;subst h0;rcases h' with h' | h'
   ·rw[Lib.decDigits]at h';simp at h'
   ·have:=hn h';omega
 unfold Lib.itoa qaw;by_cases h0:n<0
 ·rw[if_pos h0];simp only[qGd,if_true,qGe];rw[key _ true h (fun _=>by omega)];simp;omega
 ·rw[if_neg h0];obtain⟨x,r,h1,h2,h3⟩:=qky n.toNat;have hx:¬ (Lib.decDigits n.toNat).head?=some 45:=by
   rw[h1];intro h;simp only[qGd,qDs]at h;subst h;simp at h2
  rw[if_neg hx,key _ false (by omega) (by simp)];simp;omega
theorem qgu:∀ (l:List UInt8) (acc m:Nat),qe8 acc l=some m→m<18446744073709551616→Lib.parseUint10 acc l=.ok m
 | [],acc,m,h,hm=>by
  simp only[qe8,qDs]at h;simp[Lib.parseUint10,h]
 | x::r,acc,m,h,hm=>by
  unfold qe8 at h;split at h
  ·cases h
  ·rename_i hx;have h1:=qmz r _ m h;have h2:(acc * 10+(x.toNat-48)) * 1≤(acc * 10+(x.toNat-48)) * 10 ^ r.length:=Nat.mul_le_mul_left _ (Nat.pow_pos (by omega));have h3:=qgu r _ m h hm;simp only[Lib.parseUint10];rw[if_pos (by omega),if_neg (by omega),if_neg (by omega),h3]
theorem qrI (n:Int) (h0:-9223372036854775808≤n) (h1:n≤9223372036854775807):Lib.atoiAll (Lib.itoa n)=.ok n:=by
 unfold Lib.itoa;by_cases h:n<0
 ·rw[if_pos h];simp only[Lib.atoiAll,Lib.parseMag];have h45:(45:UInt8).toNat=45:=rfl;simp only[h45,or_true,if_true,qup,if_false];rw[qgu _ _ _ (qj6 _) (by omega)];simp;rw[if_neg (by omega)]
  congr 1
  omega
 ·rw[if_neg h];obtain⟨x,r,e1,h2,h3⟩:=qky n.toNat;have e2:=qgu _ _ _ (qj6 n.toNat) (by omega);rw[e1]at e2 ⊢;have n1:¬ (x.toNat=43∨x.toNat=45):=by omega
  have n2:¬ x.toNat=45:=by omega
  have n3:¬ x.toNat=43:=by omega
  have n4:¬ 9223372036854775808≤n.toNat:=by omega
  simp[Lib.atoiAll,Lib.parseMag,n1,n2,n3,n4,e2];omega
def qdE (t:List UInt8):Bool:=qbA t && decide (Lib.itoa (qaE t)=t)
theorem qjD {n:Int} (h0:-9223372036854775808≤n) (h1:n≤9223372036854775807):qdE (Lib.itoa n)=true∧qaE (Lib.itoa n)=n:=by
 have a:=qrI n h0 h1;unfold qdE qbA qaE;rw[a];simp
theorem qfb (t:List UInt8):(qdE t=true∧(qaE t).natAbs<10 ^ 17)↔(qaw t).2=true:=by
 constructor
 ·rintro⟨h1,h2⟩;simp only[qdE,Bool.and_eq_true,decide_eq_true_eq]at h1;have:=qpS h2;rw[h1.2]at this;rw[this]
 ·intro h;have h2:qaw t=((qaw t).1,true):=by rw[← h]
  obtain⟨h3,h4⟩:=qk3 h2;obtain⟨h5,h6⟩:=qjD (n:=(qaw t).1) (by omega) (by omega);rw[h3]at h5 h6;exact⟨h5,by rw[h6];exact h4⟩
theorem qgV {t:List UInt8} (h:(qaw t).2=true):qaE t=(qaw t).1:=by
 have h2:qaw t=((qaw t).1,true):=by rw[← h]
 obtain⟨h3,h4⟩:=qk3 h2;obtain⟨_,h6⟩:=qjD (n:=(qaw t).1) (by omega) (by omega);rw[h3]at h6;exact h6
theorem qBQ (s:List UInt8) (hs:s.length≤1048576):CV prog 279 [.str s] (.tup [.str (qfe s []).1,.bool (qfe s []).2]):=by
 obtain⟨R,hR⟩:∃ R,qfe s []=R:=⟨_,rfl⟩;rw[hR];have hml:maxLen=9223372036854775807:=rfl;have t1:(s.length:Int).tmod 2=(s.length:Int) % 2:=qF9 (by omega);refine cvx func279 [(7,[zI 0,zI 1,zI 2,zI 4,zI 5,zI 6,zI 7,zI 3,zI 8,zI 9,zI 10])] ntmps279 rfl rfl rfl ?_;by_cases hodd:s.length % 2=0
 ·have h1:(s.length:Int) % 2=0:=by omega
  simp[t1,h1];refine qeV (qjM 4 1 (by simp) (by simp)) ?_;refine qa9 (X:=Nat×List UInt8) [0,4,5] [(4,900)] (fun x=>[(5,.int .i64 x.1),(4,.sl 900 0 x.2.length)]) (fun x=>[(900,⟨1,x.2.map qgi⟩)]) (fun x=>s.length-x.1) (fun x=>x.1≤s.length∧x.1 % 2=0∧x.2.length≤x.1∧qfe (s.drop x.1) x.2=R) (0,[]) (by simp[hR]) ?_ (he:=by simp[qah]);rintro⟨i,out⟩ ⟨hi,hev,hol,hd⟩;simp only at hi hev hol hd;by_cases h2:i<s.length
  ·obtain⟨a,f1⟩:∃ a,s[i]?=some a:=⟨_,qDF (by omega)⟩;obtain⟨b,f2⟩:∃ b,s[i+1]?=some b:=⟨_,qDF (by omega)⟩;rw[qfq f1,qfq f2,qfe]at hd;have h3:i+1<s.length:=by omega
   have g1:s[i]=a:=(qEb.1 f1).2;have g2:s[i+1]=b:=(qEb.1 f2).2;have c1:=qn6 hexL a;have c2:=qn6 hexL b;have b1:=qsW a;have b2:=qsW b;obtain⟨p,hp⟩:∃ p,qa1 a hexL 0=p:=⟨_,rfl⟩;obtain⟨q,hq⟩:∃ q,qa1 b hexL 0=q:=⟨_,rfl⟩;rw[hp]at c1 b1 hd;rw[hq]at c2 b2 hd;simp only[hexL]at c1 c2;have e1:=qaq ((i:Int)+1) (by omega) (by omega);have e2:=qaq ((i:Int)+2) (by omega) (by omega);have e3:((i:Int)+1).toNat=i+1:=by omega
   simp[h2,h3,f1,g1,f2,g2,e1,e3];refine⟨by omega,?_⟩;refine c1.call ?_;simp[h2,h3,f1,g1,f2,g2,e1,e3];refine c2.call ?_;by_cases hpn:p<0
   ·rw[if_pos (.inl hpn)]at hd;simp[hpn,← hd]
   ·by_cases hqn:q<0
    ·rw[if_pos (.inr hqn)]at hd;simp[hpn,hqn,← hd]
    ·rw[if_neg (by omega)]at hd;have w1:=qaq (16 * p) (by omega) (by omega);have w2:=qaq (16 * p+q) (by omega) (by omega);have w3:IntKind.u8.wrap (16 * p+q)=16 * p+q:=by
      show(16 * p+q) % 256=_;omega
     simp[hpn,hqn,w1,w2,w3];refine⟨by omega,?_⟩;have hu:qgi (UInt8.ofNat (p * 16+q).toNat)=[.int .u8 (16 * p+q)]:=by
      show [AV.int .u8 (((UInt8.ofNat (p * 16+q).toNat).toNat:Nat):Int)]=_;simp only[qGb];have:(p * 16+q).toNat % 2 ^ 8=(p * 16+q).toNat:=qEw (by omega);rw[this];have:(((p * 16+q).toNat:Nat):Int)=16 * p+q:=by omega
      rw[this]
     refine nx (i+2,out++[UInt8.ofNat (p * 16+q).toNat]) [(40,900)] ⟨by simp only;omega,by simp only;omega,by simp;omega,hd⟩ (by simp only;omega) (h4:=?_);simp[qah,e2,hu,qDU,qhu]
  ·have:i=s.length:=by omega
   subst this;rw[qFn (by omega),qfe]at hd;simp[qgc,qDU];exact⟨fun _ _=>rfl,by rw[← hd],by rw[← hd]⟩
 ·have h1:(s.length:Int) % 2=1:=by omega
  have ho:∀ (n:Nat) (l o:List UInt8),l.length=2 * n+1→qfe l o=([],false):=by
   intro n
   induction n with
   | zero =>
    intro l o hl
    match l,hl with
    | [x],_=>rfl
   | succ n ih =>
    intro l o hl
    match l,hl with
    | a::b::r,hl =>
     unfold qfe;split
     ·rfl
     ·exact ih r _ (by simp at hl;omega)
  have:=ho (s.length / 2) s [] (by omega);rw[this]at hR;simp[t1,h1,← hR]
def qpm (n:Nat):UInt8:=hexL.getD n 0
theorem qyd (n:Nat) (h:n<16):CV prog 389 [.int .i64 n] (.int .u8 (qpm n).toNat):=by
 refine cvx func389 [] ntmps389 rfl rfl rfl ?_;have hn:(n:Int)<16:=by omega
 have h0:n<hexL.length:=by simpa [hexL]using h
 have e:hexL[n]'h0=qpm n:=by simp[qpm,List.getD,h0]
 simp only[hexL]at h0 e;simp[hn,h0,h,e]
 try omega
def qev:List UInt8→List UInt8
 | []=>[]
 | c::r=>qpm (c.toNat / 16)::qpm (c.toNat % 16)::qev r
theorem qf0:∀ s,(qev s).length=2 * s.length
 | []=>rfl
 | c::r=>by simp[qev,qf0 r];omega
theorem qBl (s:List UInt8) (hs:s.length≤1048576):CV prog 365 [.str s] (.str (qev s)):=by
 obtain⟨R,hR⟩:∃ R,qev s=R:=⟨_,rfl⟩;rw[hR];refine cvx func365 [(5,[zI 0,zI 1,zI 2,zI 3,zI 4,zI 5,zI 7,zI 8,zI 9,zI 10,zI 11,zI 6,zI 12,zI 13,zI 14,zI 15])] ntmps365 rfl rfl rfl ?_;simp;refine qa9 (X:=Nat×List UInt8) [0,3,4] [(5,900)] (fun x=>[(4,.int .i64 x.1),(3,.sl 900 0 x.2.length)]) (fun x=>[(900,⟨1,x.2.map qgi⟩)]) (fun x=>s.length-x.1) (fun x=>x.1≤s.length∧x.2.length=2 * x.1∧x.2++qev (s.drop x.1)=R) (0,[]) (by simp[hR]) ?_ (he:=by simp[qah]);rintro⟨i,out⟩ ⟨hi,hol,hd⟩;simp only at hi hol hd;cases hr:s.drop i with
 | nil =>
  have:=qaU hr;rw[hr,qev]at hd;have hie:i=s.length:=by omega
  subst hie;simp only[qFH]at hd;simp[qgc,qDU,hd];exact fun x _=>rfl
 | cons x r =>
  obtain⟨h1,e0,e1,h3⟩:=qaV hr;rw[hr,qev]at hd;have e2:=qaq ((i:Int)+1) (by omega) (by omega);have hx:=x.toNat_lt;have w1:=qaq (x.toNat:Int) (by omega) (by omega);have q1:((x.toNat:Int)).tdiv 16=(x.toNat:Int) / 16:=qGa (by omega);have q2:((x.toNat:Int)).tmod 16=(x.toNat:Int) % 16:=qF9 (by omega);have w2:=qaq ((x.toNat:Int) / 16) (by omega) (by omega);have c1:=qyd (x.toNat / 16) (by omega);have c2:=qyd (x.toNat % 16) (by omega);rw[show((x.toNat / 16:Nat):Int)=(x.toNat:Int) / 16 by omega]at c1;rw[show((x.toNat % 16:Nat):Int)=(x.toNat:Int) % 16 by omega]at c2;simp[h1,e0,e1,w1,q1,q2,w2];refine c1.call ?_;simp[h1,e0,e1,w1,q1,q2,w2];refine c2.call ?_;simp;refine⟨by omega,?_⟩;refine nx (i+1,out++[qpm (x.toNat / 16),qpm (x.toNat % 16)]) [(26,900)] ⟨by simp only;omega,by simp;omega,by simp only[h3];simpa using hd⟩ (by simp only;omega) (h4:=?_);simp[qah,e2,qDU,qhu,qgi]
  try trace_state
theorem qpW (s:List UInt8):(qdP s).length≤70000:=by
 unfold qdP;split
 ·simp
 ·have h1:=qkA (qi6 s (1+s.length % 997)) [];have h2:=qhV s (1+s.length % 997) (by omega);simp at h1 ⊢;omega
structure LT where
 ls:Int
 la:Int
 lx:List UInt8
deriving DecidableEq,Inhabited
def LT.row (w:LT):List AV:=[.int .i64 w.ls,.int .i64 w.la,.str w.lx]
structure DK where
 s0:List (List UInt8)
 s1:List (List UInt8)
 late:List LT
deriving DecidableEq,Inhabited
def DK.row (d:DK):List AV:=[.lst 1 (d.s0.map qaf),.lst 1 (d.s1.map qaf),.lst 3 (d.late.map LT.row)]
def qcz (l:List LT):Ob:=⟨3,l.map LT.row⟩
structure DkT (d:DK):Prop where
 l0:d.s0.length≤1048576
 l1:d.s1.length≤1048576
 l2:d.late.length≤1048576
 t0:∀ x∈d.s0,x.length≤1048576
 t1:∀ x∈d.s1,x.length≤1048576
 t2:∀ w∈d.late,w.lx.length≤1048576
def qa3 (d:DK) (side at':Int) (text:List UInt8):Bool:=decide (0≤side) && decide (side≤1) && decide (0≤at') && decide (at'<d.s0.length) && decide (text.length≤420)
theorem qmq (d:DK) (h:DkT d) (side at':Int) (text:List UInt8) (ht:text.length≤1048576):CV prog 153 [.agg d.row,.int .i64 side,.int .i64 at',.str text] (.bool (qa3 d side at' text)):=by
 have:=h.l0;refine cvx func153 [] ntmps153 rfl rfl rfl ?_ (hca:=by simp[DK.row]);simp[DK.row,qa3];grind
def qbr (d:DK):Bool:=decide (1≤d.s0.length) && decide (d.s0.length≤120) && decide (d.s1.length=d.s0.length) && decide (d.late.length≤600) &&
 d.s0.all (fun x=>decide (x.length≤420)) && d.s1.all (fun x=>decide (x.length≤420)) && d.late.all (fun w=>qa3 d w.ls w.la w.lx)
theorem qe3 (d:DK) (h:DkT d):CV prog 74 [.agg d.row] (.bool (qbr d)):=by
 obtain⟨R,hR⟩:∃ R,qbr d=R:=⟨_,rfl⟩;rw[hR];have h0:=h.l0;have h1:=h.l1;have h2:=h.l2;refine cvx func74 [(12,[zJ 0 [1] [],zJ 1 [] [1],zJ 2 [1] [1],zJ 3 [] [1],zJ 4 [] [1],zJ 5 [] [1],zJ 6 [] [1],zJ 7 [] [1],zJ 8 [1] [1],zJ 9 [] [1],zJ 10 [] [1],zJ 11 [] [1],zJ 12 [] [1],zJ 13 [] [1],zJ 14 [1] [1],zJ 15 [] [1],zJ 16 [] [1],zJ 17 [] [1],zJ 18 [] [1],zI 19,zI 20])] ntmps74 rfl rfl rfl ?_ (hca:=by simp[DK.row]);by_cases g:1≤d.s0.length∧d.s0.length≤120∧d.s1.length=d.s0.length∧d.late.length≤600;rotate_left
 ·have:R=false:=by rw[← hR];unfold qbr;grind
  subst this;simp[DK.row];grind
 obtain⟨g1,g2,g3,g4⟩:=g;have g1':¬ (d.s0.length:Int)<1:=by omega
 have g2':¬ 120<(d.s0.length:Int):=by omega
 have g4':¬ 600<(d.late.length:Int):=by omega
 simp[DK.row,g1',g2',g3,g4'];refine qa7 (X:=Nat) [1,2,3,4] [(1,1)] (fun i=>[(4,.int .i64 i)]) (fun _=>[]) (fun i=>d.s0.length-i) (fun i=>i≤d.s0.length∧((d.s0.drop i).all (fun x=>decide (x.length≤420)) && (d.s1.drop i).all (fun x=>decide (x.length≤420)) && d.late.all (fun w=>qa3 d w.ls w.la w.lx))=R) 0 (by simp[← hR,qbr,g1,g2,g3,g4]) ?_ (he:=by simp[qah]);rintro i ⟨hi,hd⟩;by_cases hlt:i<d.s0.length
 ·have hlt1:i<d.s1.length:=by omega
  have k0:=qDK hlt;have k1:=qDK hlt1;generalize ex:d.s0[i]=x at *
  generalize ey:d.s1[i]=y at *
  have hx:=qEb.2 ⟨hlt,ex⟩;have hy:=qEb.2 ⟨hlt1,ey⟩;rw[k0,k1]at hd;simp only[qFR]at hd;have hli:(i:Int)<d.s0.length:=by omega
  have e2:=qaq ((i:Int)+1) (by omega) (by omega);simp[qah,qaf,hlt,hlt1,ex,ey,hx,hy,hli,e2,g3]
  repeat' first
   | with_reducible refine And.intro ?_ ?_
   | with_reducible intro _
  all_goals first
   | exact nx (i+1) [(1,1)] (by grind) (h4:=by simp[qah])
   | grind
 ·have hie:i=d.s0.length:=by omega
  subst hie;rw[qDO (qDo _),qDO (by omega)]at hd;simp only[qGi,qFP]at hd;simp[qah];refine qa7 (X:=Nat) [1,2,3,5] [(1,1)] (fun i=>[(5,.int .i64 i)]) (fun _=>[]) (fun i=>d.late.length-i) (fun i=>i≤d.late.length∧((d.late.drop i).all (fun w=>qa3 d w.ls w.la w.lx))=R) 0 (by simp[hd]) ?_ (he:=by simp[qah]);rintro i ⟨hi,hd⟩;cases hr:d.late.drop i with
  | nil =>
   have:=qaU hr;rw[hr]at hd;have hie:i=d.late.length:=by omega
   subst hie;simp[qah];simpa using hd
  | cons w q =>
   obtain⟨k1,e0,e1,k3⟩:=qaV hr;rw[hr]at hd;simp only[qFR]at hd;have hli:(i:Int)<d.late.length:=by omega
   have e2:=qaq ((i:Int)+1) (by omega) (by omega);have hw:=h.t2 w (qFu e1);have c:=qmq d h w.ls w.la w.lx hw;simp only[DK.row]at c;simp[qah,LT.row,k1,e0,e1,hli,e2];refine c.call ?_;simp[e2]
   repeat' first
    | with_reducible refine And.intro ?_ ?_
    | with_reducible intro _
   all_goals first
    | exact nx (i+1) [(1,1)] (by grind) (h4:=by simp[qah,e2])
    | grind
def qdc (side at':Int) (w:LT):Bool:=decide (w.ls=side) && decide (w.la=at')
def qoy (d:DK) (side:Int):List (List UInt8):=if side=0 then d.s0 else d.s1
def qdS (d:DK) (side at':Int):List UInt8:=match d.late.reverse.find? (qdc side at')with
 | some w=>w.lx
 | none=>(qoy d side)[at'.toNat]?.getD []
theorem qn7 {α:Type} (p:α→Bool) {l:List α} {i:Nat} {x:α} (h:l[i]?=some x) (ha:(l.drop (i+1)).all (fun y=>!p y)=true):(if p x=true then l.reverse.find? p=some x else l.reverse.find? p=(l.take i).reverse.find? p):=by
 have e:l=l.take i++x::l.drop (i+1):=by
  obtain⟨h1,rfl⟩:=qEb.1 h;rw[← qDK h1,qDJ]
 have e2:l.reverse=(l.drop (i+1)).reverse++x::(l.take i).reverse:=by
  conv=>lhs;rw[e]
  simp
 have e3:(l.drop (i+1)).reverse.find? p=none:=by
  rw[qGj];intro y hy;rw[qGk]at hy;simpa using qDS.1 ha y hy
 rw[e2,List.find?_append,e3,Option.none_or,List.find?_cons];cases p x <;> simp
theorem qp0 (d:DK) (h:DkT d) (side at':Int) (hs:side=0∨side=1) (ha:0≤at'∧at'<d.s0.length) (h1:d.s1.length=d.s0.length):CV prog 82 [.agg d.row,.int .i64 side,.int .i64 at'] (.str (qdS d side at')):=by
 obtain⟨R,hR⟩:∃ R,qdS d side at'=R:=⟨_,rfl⟩;rw[hR];have h0:=h.l0;have h2:=h.l2;refine cvx func82 [] ntmps82 rfl rfl rfl ?_ (hca:=by simp[DK.row]);have e0:=qaq ((d.late.length:Int)-1) (by omega) (by omega);simp[DK.row,e0];refine qa7 (X:=Nat) [1,2,3,7] [(3,3)] (fun i=>[(7,.int .i64 ((i:Int)-1))]) (fun _=>[]) (fun i=>i) (fun i=>i≤d.late.length∧(d.late.drop i).all (fun w=>!qdc side at' w)=true) d.late.length (by simp) ?_ (he:=by simp[qah]);rintro i ⟨hi,hd⟩;cases i with
 | zero =>
  have hf:d.late.reverse.find? (qdc side at')=none:=by
   rw[qGj];intro y hy;rw[qGk]at hy;simpa using qDS.1 hd y hy
  unfold qdS at hR;rw[hf]at hR;have ha0:at'.toNat<d.s0.length:=by omega
  have ha1:at'.toNat<d.s1.length:=by omega
  have ha1':at'<d.s1.length:=by omega
  rcases hs with rfl | rfl
  ·have hx:d.s0[at'.toNat]?=some R:=by
    rw[qDF ha0];simpa [qoy,qDF ha0]using hR
   have hx0:=(qEb.1 hx).2;simp[qah,ha.1,ha.2,ha0,hx,hx0,qaf]
  ·have hx:d.s1[at'.toNat]?=some R:=by
    rw[qDF ha1];simpa [qoy,qDF ha1]using hR
   have hx0:=(qEb.1 hx).2;simp[qah,ha.1,ha1',ha1,hx,hx0,qaf]
 | succ k =>
  have hk:k<d.late.length:=by omega
  obtain⟨w,hw⟩:∃ w,d.late[k]?=some w:=⟨_,qDF hk⟩;have hw0:=(qEb.1 hw).2;have e1:((k+1:Nat):Int)-1=k:=by omega
  have e2:(0:Int)≤k:=by omega
  have e3:(k:Int)<d.late.length:=by omega
  have e4:=qaq ((k:Int)-1) (by omega) (by omega);have hf:=qn7 (qdc side at') hw hd;have hdk:(d.late.drop k).all (fun w=>!qdc side at' w)=(!qdc side at' w && (d.late.drop (k+1)).all (fun w=>!qdc side at' w)):=by
   rw[qDK hk,hw0,qFR]
  have hnx:qdc side at' w=false→∀ x∈d.late.drop k,qdc side at' x=false:=fun hl x hx=>by
   rw[hl,hd]at hdk;simpa using qDS.1 hdk x hx
  have hlx:qdc side at' w=true→w.lx=R:=fun hl=>by
   rw[if_pos hl]at hf;unfold qdS at hR;rw[hf]at hR;exact hR
  simp only[e1];simp[qah,LT.row,hk,hw,hw0,e2,e3,e4];refine⟨fun q1=>⟨fun q2=>hlx (by simp[qdc,q1,q2]),fun q2=>nx k [(3,3)] ⟨by omega,hnx (by simp[qdc,q2])⟩ (h4:=by simp[qah,e4])⟩,fun q1=>nx k [(3,3)] ⟨by omega,hnx (by simp[qdc,q1])⟩ (h4:=by simp[qah,e4])⟩
theorem qbP {d:DK} (h:qbr d=true):1≤d.s0.length∧d.s0.length≤120∧d.s1.length=d.s0.length∧d.late.length≤600∧(∀ x∈d.s0,x.length≤420)∧(∀ x∈d.s1,x.length≤420)∧∀ w∈d.late,qa3 d w.ls w.la w.lx=true:=by
 simp only[qbr,Bool.and_eq_true,decide_eq_true_eq,qDS]at h;obtain⟨⟨⟨⟨⟨⟨g1,g2⟩,g3⟩,g4⟩,g5⟩,g6⟩,g7⟩:=h;exact⟨g1,g2,g3,g4,g5,g6,g7⟩
theorem thereB_iff {d:DK} {side at':Int} {t:List UInt8}:qa3 d side at' t=true↔(side=0∨side=1)∧(0≤at'∧at'<d.s0.length)∧t.length≤420:=by
 simp only[qa3,Bool.and_eq_true,decide_eq_true_eq];omega
theorem qeo {d:DK} (h:qbr d=true):DkT d:=by
 obtain⟨g1,g2,g3,g4,g5,g6,g7⟩:=qbP h;refine⟨by omega,by omega,by omega,fun x hx=>by have:=g5 x hx;omega,fun x hx=>by have:=g6 x hx;omega,fun w hw=>?_⟩;have:=(thereB_iff.1 (g7 w hw)).2.2;omega
theorem qeH {d:DK} (h:qbr d=true) (side at':Int):(qdS d side at').length≤420:=by
 obtain⟨g1,g2,g3,g4,g5,g6,g7⟩:=qbP h;unfold qdS;split
 ·rename_i w hw;have:=List.mem_of_find?_eq_some hw;rw[qGk]at this;exact(thereB_iff.1 (g7 w this)).2.2
 ·unfold qoy;split
  ·cases e:d.s0[at'.toNat]? with
   | none=>simp
   | some x=>simpa using g5 x (qFu e)
  ·cases e:d.s1[at'.toNat]? with
   | none=>simp
   | some x=>simpa using g6 x (qFu e)
def qbH (d:DK) (side at':Int):List UInt8×Bool:=if qbr d && qa3 d side at' [] then (qdS d side at',true) else ([],false)
theorem qns (d:DK) (h:DkT d) (side at':Int):CV prog 72 [.agg d.row,.int .i64 side,.int .i64 at'] (.tup [.str (qbH d side at').1,.bool (qbH d side at').2]):=by
 have c1:=qe3 d h;have c2:=qmq d h side at' [] (by simp);unfold qbH;refine cvx func72 [] ntmps72 rfl rfl rfl ?_ (hca:=by simp[DK.row]);cases g1:qbr d with
 | false =>
  rw[g1]at c1;simp only[DK.row]at c1;simp[DK.row];refine c1.call ?_;simp
 | true =>
  rw[g1]at c1;cases g2:qa3 d side at' []with
  | false =>
   rw[g2]at c2;simp only[DK.row]at c1 c2;simp[DK.row];refine c1.call ?_;simp;refine c2.call ?_;simp
  | true =>
   rw[g2]at c2;obtain⟨k1,k2,k3⟩:=thereB_iff.1 g2;have c3:=qp0 d h side at' k1 k2 (qbP g1).2.2.1;simp only[DK.row]at c1 c2 c3;simp[DK.row];refine c1.call ?_;simp;refine c2.call ?_;simp;refine c3.call ?_;simp
def smB (s:List UInt8):Nat:=qi6 s (1+s.length % 997)
theorem qtR (s:List UInt8):smB s<65521:=qhV s _ (by omega)
theorem qvy (s:List UInt8) (hs:s.length≤maxLen):CV prog 170 [.str s] (.int .i64 (smB s:Nat)):=qx8 s hs
theorem qo5 (d:DK) (side at':Int):(qbH d side at').1.length≤420:=by
 unfold qbH;split
 ·rename_i h;simp only[Bool.and_eq_true]at h;exact qeH h.1 side at'
 ·simp
def qaN (d:DK) (p:PT) (side:Int):Bool:=(qbH d side p.pa).2 && qaH p && decide (0<p.pa) && decide ((smB (qbH d side p.pa).1:Int)=p.ps)
theorem qyh (d:DK) (h:DkT d) (p:PT) (side:Int):CV prog 81 [.agg d.row,.agg p.row,.int .i64 side] (.bool (qaN d p side)):=by
 have c1:=qns d h side p.pa;have c2:=qdQ p;have c3:=qvy (qbH d side p.pa).1 (by have:=qo5 d side p.pa;simp[maxLen];omega);unfold qaN;generalize qbH d side p.pa=x at *
 obtain⟨t,ok⟩:=x;simp only[DK.row,PT.row]at c1 c2 c3;refine cvx func81 [(2,[zI 0,zI 1,zJ 2 [4] [],zI 3,zI 4,zI 5,zI 6,zJ 7 [4] [],zI 8,zI 9,zI 10,zI 11,zI 13,zJ 14 [4] [],zJ 12 [] [4],zI 15,zI 16,zI 17])] ntmps81 rfl rfl rfl ?_ (hca:=by simp[DK.row,PT.row]);simp[DK.row,PT.row];refine c1.call ?_;cases ok with
 | false=>simp
 | true =>
  simp;refine c2.call ?_;cases qaH p with
  | false=>simp
  | true =>
   simp;refine⟨fun hp=>?_,fun hp=>by omega⟩;refine c3.call ?_;simp[hp]
   first | rfl | simp[qFX]
def qag (d:DK) (p:PT):List UInt8×Int :=
 if (qaH p && decide (p.pa=0))=true then ([],1) else if qaN d p 0=true then (qdS d 0 p.pa,0) else if qaN d p 1=true then (qdS d 1 p.pa,0) else ([],2)
theorem qdp {d:DK} {p:PT} {side:Int} (h:qaN d p side=true):qbr d=true∧qaH p=true∧0<p.pa∧qa3 d side p.pa []=true∧(smB (qdS d side p.pa):Int)=p.ps:=by
 simp only[qaN,Bool.and_eq_true,decide_eq_true_eq]at h;obtain⟨⟨⟨h1,h2⟩,h3⟩,h4⟩:=h;unfold qbH at h1 h4;split at h1
 ·rename_i g;rw[if_pos g]at h4;simp only[Bool.and_eq_true]at g;exact⟨g.1,h2,h3,g.2,h4⟩
 ·cases h1
theorem qeF (d:DK) (h:DkT d) (p:PT):CV prog 33 [.agg d.row,.agg p.row] (.tup [.str (qag d p).1,.int .i64 (qag d p).2]):=by
 obtain⟨R,hR⟩:∃ R,qag d p=R:=⟨_,rfl⟩;rw[hR];unfold qag at hR;have c2:=qdQ p;simp only[PT.row]at c2;refine cvx func33 [] ntmps33 rfl rfl rfl ?_ (hca:=by simp[DK.row,PT.row]);simp[DK.row,PT.row];refine c2.call ?_;by_cases hz:(qaH p && decide (p.pa=0))=true
 ·rw[if_pos hz]at hR;simp only[Bool.and_eq_true,decide_eq_true_eq]at hz;simp[hz.1,hz.2,← hR]
 rw[if_neg hz]at hR;have hz':¬ (qaH p=true∧p.pa=0):=by simpa using hz
 have key:∀ j:Nat,j<2→qaN d p j=true→(∀ k:Nat,k<j→qaN d p k=false)→R=(qdS d j p.pa,0):=fun j hj h1 h2=>by
  rw[← hR];rcases(show j=0∨j=1 by omega)with rfl | rfl
  ·have h1':qaN d p 0=true:=h1;simp[h1']
  ·have h2':qaN d p 0=false:=h2 0 (by omega);have h1':qaN d p 1=true:=h1;simp[h1',h2']
 have key2:qaN d p 0=false→qaN d p 1=false→R=([],2):=fun h1 h2=>by rw[← hR,h1,h2];simp
 have hcase:qaH p=false∨(qaH p=true∧¬ p.pa=0):=by
  cases g:qaH p with
  | false=>exact .inl rfl
  | true=>exact .inr ⟨rfl,fun e=>hz' ⟨g,e⟩⟩
 rcases hcase with hp | ⟨hp,hpa⟩;rotate_left;simp[hp,hpa];rotate_left;simp[hp]
 all_goals
  refine qa7 (X:=Nat) [2,3,4,5,6] [(2,2),(3,3)] (fun i=>[(6,.int .i64 i)]) (fun _=>[]) (fun i=>2-i) (fun i=>i≤2∧∀ k:Nat,k<i→qaN d p k=false) 0 (by simp) ?_ (he:=by simp[qah]);rintro i ⟨hi,hf⟩;by_cases h2:i=2
  ·subst h2;have:=key2 (hf 0 (by omega)) (hf 1 (by omega));simp[qah,this]
  ·have h2':i<2:=by omega
   have h2i:(i:Int)<2:=by omega
   have e2:=qaq ((i:Int)+1) (by omega) (by omega);have c4:=qyh d h p i;simp only[DK.row,PT.row]at c4;simp[qah,h2i];refine c4.call ?_;cases hb:qaN d p i with
   | true =>
    have hk:=key i h2' hb hf;obtain⟨m1,m2,m3,m4,m5⟩:=qdp hb;obtain⟨n1,n2,n3⟩:=thereB_iff.1 m4;have c5:=qp0 d h i p.pa n1 n2 (qbP m1).2.2.1;simp only[DK.row]at c5;simp;refine c5.call ?_;simp[hk]
   | false =>
    simp;exact nx (i+1) [(2,2),(3,3)] ⟨by omega,fun k hk=>by
     rcases(show k<i∨k=i by omega)with h | rfl
     ·exact hf k h
     ·exact hb⟩ (h4:=by simp[qah,e2])
theorem qqc (d:DK) (h:DkT d):ACall prog 43 [.agg d.row] [] (fun r L'=>r=.agg [.sl 7 0 d.s0.length,.sl 12 0 d.s1.length,.sl 17 0 d.late.length]∧L'=[(7,qap d.s0),(12,qap d.s1),(17,qcz d.late)]):=by
 have h0:=h.l0;have h1:=h.l1;have h2:=h.l2;refine acx func43 [(1,[zI 1,zI 2,zJ 3 [1] [],zJ 6 [] [1],zJ 7 [] [1],zJ 8 [1] [1],zJ 12 [] [1],zJ 13 [1] [1],zJ 0 [] [1],zJ 4 [0,3] [1],zJ 5 [] [1],zJ 9 [0,8] [1],zJ 10 [] [1],zJ 11 [] [1],zJ 14 [0,14] [],zI 15,zI 16])] ntmps43 rfl rfl rfl ?_;simp[DK.row,qap,qcz];refine⟨⟨by omega,fun x _ y hy=>?_⟩,⟨by omega,fun x _ y hy=>?_⟩,by omega,fun x _ y hy=>?_⟩
 ·simp only[qaf,qE3,qFc,or_false]at hy;subst hy;rfl
 ·simp only[qaf,qE3,qFc,or_false]at hy;subst hy;rfl
 ·simp only[LT.row,qE3,qFc,or_false]at hy;rcases hy with rfl | rfl | rfl <;> rfl
theorem qqd (d:DK) (h:DkT d):CV prog 43 [.agg d.row] (.agg d.row):=by
 refine CV.of_frz (qqc d h) ?_ (hca:=by simp[DK.row]) (hcv:=by simp[DK.row]);rintro r L' ⟨rfl,rfl⟩;refine⟨by simp,by simp,by simp[clR,qap,qcz,qaf,LT.row],?_⟩;simp[qbe,DK.row,qap,qcz,qDU];exact qaD _
def qbM (at':Int) (text:List UInt8) (birth:Int):PT:=if at'<1∨qaH ⟨at',smB text,birth⟩=false then ⟨0,0,0⟩ else ⟨at',smB text,birth⟩
theorem qqe (at':Int) (text:List UInt8) (birth:Int) (ht:text.length≤maxLen):CV prog 208 [.int .i64 at',.str text,.int .i64 birth] (.agg (qbM at' text birth).row):=by
 have c1:=qvy text ht;have c2:=qdQ ⟨at',smB text,birth⟩;unfold qbM;simp only[PT.row]at c2;refine cvx func208 [] ntmps208 rfl rfl rfl ?_ (hcv:=by simp[PT.row]);simp;refine c1.call ?_;simp;by_cases h1:at'<1
 ·simp[h1,PT.row];intro h;omega
 ·simp[h1];intro _;refine c2.call ?_;cases qaH ⟨at',smB text,birth⟩with
  | true=>simp[h1,PT.row]
  | false=>simp[h1,PT.row]
theorem CV.of_imp {P:Program} {f:Nat} {args:List AV} {v:AV} (h:ACall P f args [] (fun r L'=>qin r v∧L'=[])) (he:qb0 P f=true:=by kernel_rfl) (hca:clL args=true:=by simp) (hcv:clA v=true:=by simp):CV P f args v :=
 ⟨he,hca,hcv,h.imp fun r L' ⟨h1,h2⟩=>⟨v,h1,rfl,h2⟩⟩
@[simp] theorem qAF (r:AV):qin r r=True:=eq_true (qaD r)
def zDK:DK:=⟨[],[],[]⟩
theorem qkd:qin (.agg [.nils,.nils,.nils]) (.agg zDK.row):=qke (.cons (qa6 1) (.cons (qa6 1) (.cons (qa6 3) .nil)))
theorem qak {α β:Type} (f:α→β) (l:List α):List.take l.length (List.map f l)=List.map f l:=qDU (by simp)
@[simp] theorem qvV (ρ:Nat→Option Plc):qch ρ ∘ qaf=qaf:=by funext x;simp[qaf]
@[simp] theorem qxx (ρ:Nat→Option Plc):qch ρ ∘ LT.row=LT.row:=by funext x;simp[LT.row]
@[simp] theorem qvU (ρ:Nat→Option Plc) (l:List (List UInt8)):qbF ρ (qap l)=qap l:=by simp[qap,qbF]
@[simp] theorem qxu (ρ:Nat→Option Plc) (l:List LT):qbF ρ (qcz l)=qcz l:=by simp[qcz,qbF]
def qaP (d:DK) (side at':Int) (text:List UInt8):DK×Bool :=
 if qbr d=false then (zDK,false) else if qa3 d side at' text=false∨d.late.length=600 then (d,false) else (⟨d.s0,d.s1,d.late++[⟨side,at',text⟩]⟩,true)
theorem qpX (d:DK) (h:DkT d) (side at':Int) (text:List UInt8) (ht:text.length≤1048576):CV prog 327 [.agg d.row,.int .i64 side,.int .i64 at',.str text] (.tup [.agg (qaP d side at' text).1.row,.bool (qaP d side at' text).2]):=by
 obtain⟨R,hR⟩:∃ R,qaP d side at' text=R:=⟨_,rfl⟩;rw[hR];unfold qaP at hR;have h2:=h.l2;have c1:=qe3 d h;have c2:=qmq d h side at' text ht;have co:=qqc d h;simp only[DK.row]at c1 c2 co;have key:ACall prog 327 [.agg d.row,.int .i64 side,.int .i64 at',.str text] [] (fun r L'=>(R=(zDK,false)∧r=.tup [.agg [.nils,.nils,.nils],.bool false]∧L'=[]) ∨
   (∃ id,(id=17∨id=37)∧r=.tup [.agg [.sl 7 0 R.1.s0.length,.sl 12 0 R.1.s1.length,.sl id 0 R.1.late.length],.bool R.2]∧L'=[(7,qap R.1.s0),(12,qap R.1.s1),(id,qcz R.1.late)])):=by
  refine acx func327 [] ntmps327 rfl rfl rfl ?_;simp[DK.row];refine c1.call ?_;cases hok:qbr d with
  | false =>
   rw[if_pos hok]at hR;simp[← hR]
  | true =>
   rw[if_neg (by simp[hok])]at hR;simp;refine qac [] (by kernel_rfl) co (by simp) (by simp) trivial (by simp) (by simp) ?_;rintro r L' ⟨rfl,rfl⟩;refine⟨[(7,7),(12,12),(17,17)],⟨by simp,by simp,by simp,by simp,by simp⟩,?_⟩;simp only[qad];simp;refine c2.call ?_;cases hth:qa3 d side at' text with
   | false =>
    rw[if_pos (.inl hth)]at hR;simp[← hR]
   | true =>
    by_cases h6:d.late.length=600
    ·rw[if_pos (.inr h6)]at hR;have h6':(d.late.length:Int)=600:=by omega
     simp[← hR,h6']
    ·rw[if_neg (by simp[hth,h6])]at hR;have h6':¬ (d.late.length:Int)=600:=by omega
     simp[← hR,h6',qcz,qak,LT.row];omega
 refine CV.of_frz key ?_ (hca:=by simp[DK.row]) (hcv:=by simp[DK.row]);rintro r L' (⟨rfl,rfl,rfl⟩ | ⟨id,hid,rfl,rfl⟩)
 ·refine⟨by simp,by simp,by simp,?_⟩;simp only[qbe];exact qdx (.cons qkd (.cons (qaD _) .nil))
 ·rcases hid with rfl | rfl
  all_goals
   refine⟨by simp,by simp,by simp[clR,qap,qcz,qaf,LT.row],?_⟩;simp[qbe,DK.row,qap,qcz,qak]
def qhw (p:List (List UInt8)×List (List UInt8)) (w:LT):List (List UInt8)×List (List UInt8):=if w.ls=0 then (p.1.set w.la.toNat w.lx,p.2) else (p.1,p.2.set w.la.toNat w.lx)
def qbx (d:DK):DK:=if qbr d=true then ⟨(d.late.foldl qhw (d.s0,d.s1)).1,(d.late.foldl qhw (d.s0,d.s1)).2,[]⟩ else zDK
theorem qnE (p:List (List UInt8)×List (List UInt8)) (w:LT):(qhw p w).1.length=p.1.length∧(qhw p w).2.length=p.2.length:=by
 unfold qhw;split <;> simp
theorem qp8 (d:DK) (h:DkT d):CV prog 212 [.agg d.row] (.agg (qbx d).row):=by
 obtain⟨R,hR⟩:∃ R,qbx d=R:=⟨_,rfl⟩;rw[hR];unfold qbx at hR;have h0:=h.l0;have h1:=h.l1;have h2:=h.l2;have c1:=qe3 d h;have co:=qqc d h;simp only[DK.row]at c1 co;have key:ACall prog 212 [.agg d.row] [] (fun r L'=>(R=zDK∧r=.agg [.nils,.nils,.nils]∧L'=[]) ∨
   (r=.agg [.sl 7 0 R.s0.length,.sl 12 0 R.s1.length,.nils]∧R.late=[]∧L'=[(7,qap R.s0),(12,qap R.s1)])):=by
  refine acx func212 [(7,[zI 0,zJ 1 [1] [],zJ 2 [] [1],zI 3,zI 4,zI 5,zJ 6 [] [1],zI 7,zJ 8 [3] [],zJ 9 [] [1,3],zJ 10 [1] [1,3],zJ 11 [] [1,3],zJ 12 [] [1,3],zJ 13 [] [1,3],zJ 14 [] [1,3],zJ 15 [] [1,3],zJ 16 [1] [1,3],zJ 17 [] [1,3],zJ 18 [] [1,3],zJ 19 [] [1,3],zJ 20 [] [1,3],zJ 21 [7,12] [],zI 22])] ntmps212 rfl rfl rfl ?_;simp[DK.row];refine c1.call ?_;cases hok:qbr d with
  | false =>
   rw[if_neg (by simp[hok])]at hR;simp[← hR]
  | true =>
   rw[if_pos hok]at hR;obtain⟨g1,g2,g3,g4,g5,g6,g7⟩:=qbP hok;simp;refine qac [] (by kernel_rfl) co (by simp) (by simp) trivial (by simp) (by simp) ?_;rintro r L' ⟨rfl,rfl⟩;refine⟨[(7,7),(12,12),(17,17)],⟨by simp,by simp,by simp,by simp,by simp⟩,?_⟩;simp only[qad];simp;refine qa7 (X:=Nat×(List (List UInt8)×List (List UInt8))) [1,2,3,4] [(1,1),(2,2),(3,3),(7,7),(12,12),(17,17)] (fun x=>[(4,.int .i64 x.1)]) (fun x=>[(7,qap x.2.1),(12,qap x.2.2)]) (fun x=>d.late.length-x.1)
    (fun x=>x.1≤d.late.length∧x.2.1.length=d.s0.length∧x.2.2.length=d.s0.length∧(⟨((d.late.drop x.1).foldl qhw x.2).1,((d.late.drop x.1).foldl qhw x.2).2,[]⟩:DK)=R) (0,(d.s0,d.s1)) (by simp[hR,g3]) ?_ (he:=by simp[qah])
   rintro⟨i,a,b⟩ ⟨hi,ha,hb,hd⟩;simp only at hi ha hb hd;cases hr:d.late.drop i with
   | nil =>
    have:=qaU hr;rw[hr,List.foldl_nil]at hd;have hie:i=d.late.length:=by omega
    subst hie;simp[qah,← hd,ha,hb];exact g3
   | cons w q =>
    obtain⟨k1,e0,e1,k3⟩:=qaV hr;rw[hr,qDW]at hd;have hw:=thereB_iff.1 (g7 w (qFu e1));obtain⟨w1,w2,w3⟩:=hw;have hli:(i:Int)<d.late.length:=by omega
    have e2:=qaq ((i:Int)+1) (by omega) (by omega);have hl:(qhw (a,b) w).1.length=a.length∧(qhw (a,b) w).2.length=b.length:=qnE (a,b) w;rcases w1 with w1 | w1
    ·simp[qah,LT.row,k1,e0,e1,hli,e2,w1,w2.1,w2.2,qap];refine⟨by omega,nx (i+1,qhw (a,b) w) [(1,1),(2,2),(3,3),(7,7),(12,12),(17,17)] ⟨by simp only;omega,by simp only;omega,by simp only;omega,by simp only[k3];exact hd⟩ (by simp only;omega) (h4:=?_)⟩;have hla:w.la.toNat<a.length:=by omega
     simp[qah,e2,qhw,w1,qap,qaf,hla]
    ·simp[qah,LT.row,k1,e0,e1,hli,e2,w1,w2.1,w2.2,qap];refine⟨by omega,by omega,nx (i+1,qhw (a,b) w) [(1,1),(2,2),(3,3),(7,7),(12,12),(17,17)] ⟨by simp only;omega,by simp only;omega,by simp only;omega,by simp only[k3];exact hd⟩ (by simp only;omega) (h4:=?_)⟩;have hla:w.la.toNat<b.length:=by omega
     simp[qah,e2,qhw,w1,qap,qaf,hla]
 refine CV.of_frz key ?_ (hca:=by simp[DK.row]) (hcv:=by simp[DK.row]);rintro r L' (⟨rfl,rfl,rfl⟩ | ⟨rfl,hl,rfl⟩)
 ·refine⟨by simp,by simp,by simp,?_⟩;simp only[qbe];exact qkd
 ·refine⟨by simp,by simp,by simp[clR,qap,qcz,qaf,LT.row],?_⟩;simp[qbe,DK.row,qap,qcz,qak,hl];exact qke (.cons (qaD _) (.cons (qaD _) (.cons (qa6 3) .nil)))
theorem qtb {d:DK} (h:DkT d) {side at':Int} {text:List UInt8} (ht:text.length≤1048576) (hl:d.late.length≤1048575):DkT (qaP d side at' text).1:=by
 unfold qaP;split
 ·exact⟨by simp[zDK],by simp[zDK],by simp[zDK],by simp[zDK],by simp[zDK],by simp[zDK]⟩
 ·split
  ·exact h
  ·refine⟨h.l0,h.l1,by simp;omega,h.t0,h.t1,fun w hw=>?_⟩;rcases qE5.1 hw with hw | hw
   ·exact h.t2 w hw
   ·simp only[qE3,qFc,or_false]at hw;subst hw;exact ht
def qat (d:DK) (at':Int) (text:List UInt8):DK×Bool :=
 if qbr d=false then (zDK,false) else if 598<d.late.length then (d,false) else
 if (qaP d 0 at' text).2=false then ((qaP d 0 at' text).1,false) else qaP (qaP d 0 at' text).1 1 at' text
theorem qgn (d:DK) (h:DkT d) (at':Int) (text:List UInt8) (ht:text.length≤1048576):CV prog 274 [.agg d.row,.int .i64 at',.str text] (.tup [.agg (qat d at' text).1.row,.bool (qat d at' text).2]):=by
 obtain⟨R,hR⟩:∃ R,qat d at' text=R:=⟨_,rfl⟩;rw[hR];unfold qat at hR;have c1:=qe3 d h;have c2:=qqd d h;have c3:=qpX d h 0 at' text ht;simp only[DK.row]at c1;have h2:=h.l2;refine CV.of_imp ?_ (hca:=by simp[DK.row]) (hcv:=by simp[DK.row]);refine acx func274 [] ntmps274 rfl rfl rfl ?_;simp[DK.row];refine c1.call ?_;cases hok:qbr d with
 | false =>
  rw[if_pos hok]at hR;simp[← hR];exact qdx (.cons qkd (.cons (qaD _) .nil))
 | true =>
  rw[if_neg (by simp[hok])]at hR;by_cases hl:598<d.late.length
  ·rw[if_pos hl]at hR;have hl':(598:Int)<d.late.length:=by omega
   simp only[DK.row]at c2;simp[hl'];refine c2.call ?_;simp[← hR]
  ·rw[if_neg hl]at hR;have hl':¬ (598:Int)<d.late.length:=by omega
   have hT:=qtb (side:=0) (at':=at') (text:=text) h ht (by omega);have c4:=qpX (qaP d 0 at' text).1 hT 1 at' text ht;generalize qaP d 0 at' text=x at *
   obtain⟨x,ok⟩:=x;simp only[DK.row]at c3 c4 hR;simp[hl'];refine c3.call ?_;cases ok with
   | false =>
    rw[if_pos rfl]at hR;simp[← hR]
   | true =>
    rw[if_neg (by simp)]at hR;simp;refine c4.call ?_;simp[← hR]
def qaJ (l:List DE):Ob:=⟨3,l.map DE.row⟩
@[simp] theorem qxz (ρ:Nat→Option Plc):qch ρ ∘ DE.row=DE.row:=by funext x;simp[DE.row]
@[simp] theorem qxv (ρ:Nat→Option Plc) (l:List DE):qbF ρ (qaJ l)=qaJ l:=by simp[qaJ,qbF]
theorem qzL (e:DE):∀ x∈e.row,qde x=true:=qqF e
theorem qy0 (l:List DE):∀ x∈l.map DE.row,noL x=true:=fun x hx=>by
 obtain⟨e,_,rfl⟩:=qD6.1 hx;simp[DE.row]
theorem qtl (l:List DE):∀ x∈l.map DE.row,clL x=true:=fun x hx=>by
 obtain⟨e,_,rfl⟩:=qD6.1 hx;simp[DE.row]
theorem qt2 (l:List DE):∀ x∈l.map DE.row,∀ y∈x,qde y=true:=fun x hx y hy=>by
 obtain⟨e,_,rfl⟩:=qD6.1 hx;exact qzL e y hy
theorem qr2 {α β:Type} (f:α→β) (l:List α) (k:Nat):(l.map f).take k=(l.take k).map f:=(qFC).symm
theorem qs7 {α β:Type} (f:α→β) (l:List α) (k:Nat):((l.map f).drop k).take (l.length-k)=(l.drop k).map f:=by
 rw[qDU (by simp),qFB]
theorem qbL (l:List DE):clR (qaJ l).els=true:=by simp[clR,qaJ,DE.row]
theorem qh2 (l:List DE) (hl:l.length≤1048576):ACall prog 227 [.lst 3 (l.map DE.row)] [] (fun r L'=>r=.sl 5 0 l.length∧L'=[(5,qaJ l)]):=by
 refine acx func227 [] ntmps227 rfl rfl rfl ?_;simp[qaJ]
 try omega
def qbZ (l:List DE) (sum at':Int):List DE×Bool :=
 if qaj l=false then ([],false) else if qb7 ⟨sum,at',1⟩=false then (l,false) else
 if ddT l at'=true then match l[ddP l at']? with
  | some e=>if e.es≠sum∨e.ec=1000 then (l,false) else (l.set (ddP l at') ⟨e.es,e.ea,e.ec+1⟩,true)
  | none=>(l,false)
 else if l.length=48 then (l,false) else (l.take (ddP l at')++⟨sum,at',1⟩::l.drop (ddP l at'),true)
theorem qlY (l:List DE) (a:Int):ddP l a≤l.length:=qm5 _ l
theorem qBq (l:List DE) (sum at':Int) (hl:l.length≤1048576):CV prog 275 [.lst 3 (l.map DE.row),.int .i64 sum,.int .i64 at'] (.tup [.lst 3 ((qbZ l sum at').1.map DE.row),.bool (qbZ l sum at').2]):=by
 obtain⟨R,hR⟩:∃ R,qbZ l sum at'=R:=⟨_,rfl⟩;rw[hR];unfold qbZ at hR;have c1:=qfx l hl;have co:=qh2 l hl;have c2:=qsF l at' hl;have c3:=qp9 ⟨sum,at',1⟩;simp only[DE.row]at c3;have hk:=qlY l at';have key:ACall prog 275 [.lst 3 (l.map DE.row),.int .i64 sum,.int .i64 at'] [] (fun r L'=>(R=([],false)∧r=.tup [.nils,.bool false]∧L'=[]) ∨
   (∃ id,(id=5∨id=77)∧r=.tup [.sl id 0 R.1.length,.bool R.2]∧L'=[(id,qaJ R.1)])):=by
  refine acx func275 [] ntmps275 rfl rfl rfl ?_;simp;refine c1.call ?_;cases hok:qaj l with
  | false =>
   rw[if_pos hok]at hR;simp[← hR]
  | true =>
   rw[if_neg (by simp[hok])]at hR;simp;refine qac [] (by kernel_rfl) co (by simp) (by simp) trivial (by simp) (by simp) ?_;rintro r L' ⟨rfl,rfl⟩;refine⟨[(5,5)],⟨by simp,by simp,by simp,by simp,by simp⟩,?_⟩;simp only[qad];simp;refine c2.view (by simp[qb5,mtA,qaJ,qak]) ?_;simp;refine c3.call ?_;cases hde:qb7 ⟨sum,at',1⟩with
   | false =>
    rw[if_pos hde]at hR;simp[← hR]
   | true =>
    rw[if_neg (by simp[hde])]at hR;simp;cases hT:ddT l at' with
    | true =>
     rw[if_pos hT]at hR;obtain⟨e,he,hea⟩:=qcH hT;have hkl:=(qEb.1 he).1;have hk0:=(qEb.1 he).2;rw[he]at hR;have hc:=(qiD hok).2 e (qFu he);have e2:=qaq (e.ec+1) (by omega) (by omega);simp only at hR;simp[qaJ,hkl,hk0,he,DE.row,e2];refine⟨fun q1=>⟨fun q2=>?_,fun q2=>?_⟩,fun q1=>?_⟩
     ·rw[if_pos (.inr q2)]at hR;subst hR;exact⟨rfl,rfl,rfl⟩
     ·rw[if_neg (fun h=>h.elim (fun h=>h q1) q2)]at hR;subst hR;simp[DE.row,qFG]
     ·rw[if_pos (.inl q1)]at hR;subst hR;exact⟨rfl,rfl,rfl⟩
    | false =>
     rw[if_neg (by simp[hT])]at hR;by_cases h48:l.length=48
     ·rw[if_pos h48]at hR;have h48':(l.length:Int)=48:=by omega
      simp[← hR,h48']
     ·rw[if_neg h48]at hR;have h48':¬ (l.length:Int)=48:=by omega
      have cd:=qh2 (l.drop (ddP l at')) (by simp;omega);simp[h48'];refine⟨⟨hk,rfl⟩,?_⟩;refine qaK [] (by kernel_rfl) cd (by simp[qb5,mtA,qaJ,hk];exact⟨qDU (by simp),fun x hx=>qtl l x (qFU hx)⟩) (by simp) trivial (by simp) (by simp) ?_;rintro r L' ⟨rfl,rfl⟩;refine⟨by simp,by simpa [qaJ]using qy0 (l.drop (ddP l at')),[(5,67)],⟨by simp,by simp,by simp,by simp,by simp⟩,?_⟩;simp only[qad];simp[qaJ];rw[qs7,qr2];subst hR;have e1:List.take (ddP l at'+1) (List.map DE.row (List.take (ddP l at') l)++[[AV.int IntKind.i64 sum,AV.int IntKind.i64 at',AV.int IntKind.i64 1]])=List.map DE.row (List.take (ddP l at') l)++[[AV.int IntKind.i64 sum,AV.int IntKind.i64 at',AV.int IntKind.i64 1]]:=qDU (by simp;omega);rw[e1];refine⟨hk,⟨hk,by omega⟩,⟨by omega,by omega,qt2 _⟩,by simp[DE.row],by simp;omega,rfl⟩
 refine CV.of_frz key ?_ (hca:=by simp[DE.row]) (hcv:=by simp[DE.row]);rintro r L' (⟨rfl,rfl,rfl⟩ | ⟨id,hid,rfl,rfl⟩)
 ·refine⟨by simp,by simp,by simp,?_⟩;simp only[qbe];exact qdx (.cons (qa6 3) (.cons (qaD _) .nil))
 ·rcases hid with rfl | rfl
  all_goals
   refine⟨by simp,by simp,by simpa using qbL _,?_⟩;simp[qbe,qaJ,qak]
def qbi (l:List DE) (at':Int):List DE×Bool :=
 if qaj l=false then ([],false) else if ddT l at'=false then (l,false) else
 match l[ddP l at']? with
 | some e=>if e.ec=1 then (l.take (ddP l at')++l.drop (ddP l at'+1),true) else (l.set (ddP l at') ⟨e.es,e.ea,e.ec-1⟩,true)
 | none=>(l,false)
theorem qyr (l:List DE) (at':Int) (hl:l.length≤1048576):CV prog 276 [.lst 3 (l.map DE.row),.int .i64 at'] (.tup [.lst 3 ((qbi l at').1.map DE.row),.bool (qbi l at').2]):=by
 obtain⟨R,hR⟩:∃ R,qbi l at'=R:=⟨_,rfl⟩;rw[hR];unfold qbi at hR;have c1:=qfx l hl;have co:=qh2 l hl;have c2:=qsF l at' hl;have hk:=qlY l at';have key:ACall prog 276 [.lst 3 (l.map DE.row),.int .i64 at'] [] (fun r L'=>(R=([],false)∧r=.tup [.nils,.bool false]∧L'=[]) ∨
   (∃ id,(id=5∨id=47)∧r=.tup [.sl id 0 R.1.length,.bool R.2]∧L'=[(id,qaJ R.1)])):=by
  refine acx func276 [(9,[zI 0,zI 1,zI 2,zI 4,zI 5,zI 6,zI 7,zI 3,zI 8,zI 9])] ntmps276 rfl rfl rfl ?_;simp;refine c1.call ?_;cases hok:qaj l with
  | false =>
   rw[if_pos hok]at hR;simp[← hR]
  | true =>
   rw[if_neg (by simp[hok])]at hR;simp;refine qac [] (by kernel_rfl) co (by simp) (by simp) trivial (by simp) (by simp) ?_;rintro r L' ⟨rfl,rfl⟩;refine⟨[(5,5)],⟨by simp,by simp,by simp,by simp,by simp⟩,?_⟩;simp only[qad];simp;refine c2.view (by simp[qb5,mtA,qaJ,qak]) ?_;cases hT:ddT l at' with
   | false =>
    rw[if_pos hT]at hR;simp[← hR]
   | true =>
    rw[if_neg (by simp[hT])]at hR;obtain⟨e,he,hea⟩:=qcH hT;have hkl:=(qEb.1 he).1;have hk0:=(qEb.1 he).2;rw[he]at hR;simp only at hR;have hc:=(qiD hok).2 e (qFu he);have e2:=qaq (e.ec-1) (by omega) (by omega);have e3:=qaq ((ddP l at':Int)+1) (by omega) (by omega);have cd:=qh2 (l.take (ddP l at')) (by simp;omega);rw[← qr2]at cd;simp[qaJ,hkl,hk0,he,DE.row,e2,e3];refine⟨fun q1=>⟨hk,⟨by omega,by omega⟩,?_⟩,fun q1=>?_⟩
    ·rw[if_pos (by omega)]at hR;refine qac [] (by kernel_rfl) cd (by simp) (by simpa using fun x hx=>qtl l x (qF7 hx)) trivial (by simp) (by simp) ?_;rintro r L' ⟨rfl,rfl⟩;refine⟨[(5,42)],⟨by simp,by simp,by simp,by simp,by simp⟩,?_⟩;simp only[qad];simp[qaJ];subst hR;rw[qs7,qr2];have e4:min (ddP l at') l.length=ddP l at':=by omega
     rw[e4,qDU (by simp;omega)];exact⟨⟨by omega,qt2 _⟩,by simp,by simp;omega,rfl⟩
    ·rw[if_neg (by omega)]at hR;subst hR;simp[DE.row,qFG]
 refine CV.of_frz key ?_ (hca:=by simp[DE.row]) (hcv:=by simp[DE.row]);rintro r L' (⟨rfl,rfl,rfl⟩ | ⟨id,hid,rfl,rfl⟩)
 ·refine⟨by simp,by simp,by simp,?_⟩;simp only[qbe];exact qdx (.cons (qa6 3) (.cons (qaD _) .nil))
 ·rcases hid with rfl | rfl
  all_goals
   refine⟨by simp,by simp,by simpa using qbL _,?_⟩;simp[qbe,qaJ,qak]
def dec (n:Int):List UInt8:=qmZ n.toNat []
theorem qav (n:Int) (h:n<1000000000):(dec n).length≤9:=by
 unfold dec;rw[qhH];have:=qkx n.toNat 9 (by omega) (by omega);simpa using this
theorem qh1 (n:Int) (h0:0≤n) (h:n<1000000000):CV prog 244 [.int .i64 n] (.str (dec n)):=by
 have:=qye n.toNat (by omega);have e:((n.toNat:Nat):Int)=n:=by omega
 rw[e]at this;exact this
theorem qji {p:PT} (h:qaH p=true):0≤p.pa∧p.pa<120∧0≤p.ps∧p.ps<65521∧0≤p.pb∧p.pb≤1000000:=by
 unfold qaH at h;split at h
 ·simp only[Bool.and_eq_true,decide_eq_true_eq]at h;omega
 ·simp only[Bool.and_eq_true,decide_eq_true_eq]at h;omega
def qaL (p:PT):List UInt8:=if qaH p=false then [] else if p.pa=0 then [45] else dec p.pa++(46::(dec p.ps++(46::dec p.pb)))
theorem qbl (p:PT):(qaL p).length≤29:=by
 unfold qaL;split
 ·simp
 ·rename_i h;have hb:=qji (p:=p) (by simpa using h);split
  ·simp
  ·have h1:=qav p.pa (by omega);have h2:=qav p.ps (by omega);have h3:=qav p.pb (by omega);simp;omega
theorem qeE (p:PT):CV prog 243 [.agg p.row] (.str (qaL p)):=by
 obtain⟨R,hR⟩:∃ R,qaL p=R:=⟨_,rfl⟩;rw[hR];have c1:=qdQ p;simp only[PT.row]at c1;unfold qaL at hR;refine cvx func243 [(5,[zI 0,zJ 1 [1] [],zJ 4 [] [1],zJ 5 [1] [1],zJ 9 [] [1],zJ 10 [1] [1],zJ 2 [] [1],zJ 3 [] [1],zJ 6 [] [1],zJ 7 [] [1],zJ 8 [] [1],zI 11,zI 12,zI 13])] ntmps243 rfl rfl rfl ?_ (hca:=by simp[PT.row]);simp[PT.row];refine c1.call ?_;cases hok:qaH p with
 | false =>
  rw[if_pos hok]at hR;simp[← hR]
 | true =>
  rw[if_neg (by simp[hok])]at hR;have hb:=qji hok;by_cases h0:p.pa=0
  ·rw[if_pos h0]at hR;simp[h0,← hR]
  ·rw[if_neg h0]at hR;have d1:=qh1 p.pa (by omega) (by omega);have d2:=qh1 p.ps (by omega) (by omega);have d3:=qh1 p.pb (by omega) (by omega);have l1:=qav p.pa (by omega);have l2:=qav p.ps (by omega);have l3:=qav p.pb (by omega);simp[h0];refine d1.call ?_;simp;refine⟨by omega,?_⟩;refine d2.call ?_;simp;refine⟨by omega,by omega,?_⟩;refine d3.call ?_;simp[← hR];omega
def qct:List PT→Bool→Option (List UInt8)
 | [],_=>some []
 | p::r,first=>if qaH p=false then none else (qct r false).map fun t=>(if first=true then [] else [32])++(qaL p++t)
def qbg (m:List PT):List UInt8:=(qct m true).getD []
theorem qk7 (m:List PT) (h8:m.length=8):CV prog 248 [.agg (m.flatMap PT.row)] (.str (qbg m)):=by
 obtain⟨R,hR⟩:∃ R,qbg m=R:=⟨_,rfl⟩;rw[hR];refine cvx func248 [] ntmps248 rfl rfl rfl ?_ (hca:=by simp[qeZ]);simp[qpJ h8];refine qa7 (X:=Nat×List UInt8) [1,2,3,4] [(1,1)] (fun x=>[(3,.str x.2),(4,.int .i64 x.1)]) (fun _=>[]) (fun x=>8-x.1) (fun x=>x.1≤8∧x.2.length≤30 * x.1∧((qct (m.drop x.1) (decide (x.1=0))).map (x.2++·)).getD []=R) (0,[]) (by simp[← hR,qbg]) ?_ (he:=by simp[qah]);rintro⟨i,t⟩ ⟨hi,hl,hd⟩;simp only at hi hl hd;cases hr:m.drop i with
 | nil =>
  have:=qaU hr;rw[hr]at hd;have hie:i=8:=by omega
  subst hie;simp only[qct,qDz,qFH,qEx]at hd;simp[hd]
 | cons p q =>
  obtain⟨k1,e0,e1,k3⟩:=qaV hr;rw[hr]at hd;simp only[qct]at hd;have hli:(i:Int)<8:=by omega
  have hi8:i<8:=by omega
  have e2:=qaq ((i:Int)+1) (by omega) (by omega);have c1:=qdQ p;have c2:=qeE p;have hpl:=qbl p;have hf:=qiw e1;simp only[PT.row]at c1 c2;simp[qah,hli,hi8,hf];refine⟨by omega,?_⟩;refine c1.call ?_;cases hok:qaH p with
  | false =>
   rw[if_pos hok]at hd;simp only[qGl,qGm]at hd;simp[← hd]
  | true =>
   rw[if_neg (by simp[hok])]at hd;by_cases h0:i=0
   ·subst h0;have hf0:List.take 3 (List.flatMap PT.row m)=p.row:=by simpa using hf
    simp only[PT.row]at hf0;simp[qah,hf0,PT.row];refine c2.call ?_;simp[e2];refine⟨by omega,nx (1,t++qaL p) [(1,1)] ⟨by simp only;omega,by simp;omega,by simp only[k3];simpa [qGn,qFr]using hd⟩ (by simp only;omega) (h4:=by simp[qah,e2])⟩
   ·have h0':(0:Int)<i:=by omega
    simp[qah,hf,h0',h0];intro _;refine⟨by omega,hli,by omega,?_⟩;refine c2.call ?_;simp[e2];have hd':decide (i=0)=false:=by simpa using h0
    rw[hd']at hd;refine⟨by omega,nx (i+1,t++(32::qaL p)) [(1,1)] ⟨by simp only;omega,by simp;omega,by simp only[k3];simpa [qGn,qFr]using hd⟩ (by simp only;omega) (h4:=by simp[qah,e2])⟩
def qej (s:List UInt8):List UInt8:=if s=[] then [45] else s
theorem qyp (s:List UInt8):CV prog 245 [.str s] (.str (qej s)):=by
 unfold qej;refine cvx func245 [] ntmps245 rfl rfl rfl ?_;by_cases h:s=[]
 ·simp[h]
 ·simp[h]
def qdR (s:CS):List UInt8:=10::(s.name++(32::(dec s.kind++(32::(qej s.frm++(32::qaL s.home))))))
def qbC:List CS→Option (List UInt8)
 | []=>some []
 | s::r=>if qbj s=false then none else (qbC r).map (qdR s++·)
def qaZ:List PT→Option (List UInt8)
 | []=>some []
 | p::r=>if qao p=false then none else (qaZ r).map ((10::46::32::qaL p)++·)
def qay (c:CO):List UInt8:=((qbC c.sets).bind fun t=>(qaZ c.parts).map fun u=>[114,111,111,116]++(t++u)).getD []
theorem qm3 {s:CS} (h:qbj s=true):1≤s.kind∧s.kind≤2:=by
 simp only[qbj,Bool.and_eq_true,decide_eq_true_eq]at h;exact h.1.1.2
theorem qgS (s:CS):∀ x∈s.row,qde x=true:=fun x hx=>by
 simp only[CS.row,qE3,qE5,qF0,PT.row,qFc,or_false]at hx;rcases hx with rfl | rfl | rfl | ⟨p,_,hp⟩ | h | rfl
 ·rfl
 ·rfl
 ·rfl
 ·rcases hp with rfl | rfl | rfl <;> rfl
 ·rcases h with rfl | rfl | rfl <;> rfl
 ·rfl
theorem qiu (s:List UInt8):(qej s).length≤s.length+1:=by unfold qej;split <;> simp
theorem qfy {s:CS} (h:qbj s=true):(qdR s).length≤64:=by
 have h1:=qiG h;have h2:=qm3 h;have h3:=qav s.kind (by omega);have h4:=qiu s.frm;have h5:=qbl s.home;simp[qdR];omega
theorem qpZ (c:CO) (h:CoT c):CV prog 160 [.agg c.row] (.str (qay c)):=by
 obtain⟨R,hR⟩:∃ R,qay c=R:=⟨_,rfl⟩;rw[hR];have hs:=h.sets;have hp:=h.parts;refine cvx func160 [(8,[zI 0,zI 1,zI 2,zJ 3 [5] [],zI 4,zI 5,zJ 6 [] [5],zJ 7 [5] [5],zJ 11 [] [5],zJ 12 [5] [5],zJ 16 [] [5],zJ 17 [5] [5],zJ 8 [] [5],zJ 9 [] [5],zJ 10 [] [5],zJ 13 [] [5],zJ 14 [] [5],zJ 15 [] [5],zJ 18 [] [5],zI 19,zI 20])] ntmps160 rfl rfl rfl ?_ (hca:=by simp[CO.row,PT.row,DE.row,qbv,qae]);simp[CO.row];refine qa7 (X:=Nat×List UInt8) [1,2,3,4] [(1,1)] (fun x=>[(3,.str x.2),(4,.int .i64 x.1)]) (fun _=>[]) (fun x=>c.sets.length-x.1) (fun x=>x.1≤c.sets.length∧x.2.length≤4+64 * x.1∧((qbC (c.sets.drop x.1)).bind fun t=>(qaZ c.parts).map fun u=>x.2++(t++u)).getD []=R) (0,[114,111,111,116]) (by simp[← hR,qay]) ?_ (he:=by simp[qah]);rintro⟨i,t⟩ ⟨hi,hl,hd⟩;simp only at hi hl hd;cases hr:c.sets.drop i with
 | nil =>
  have:=qaU hr;rw[hr]at hd;have hie:i=c.sets.length:=by omega
  subst hie;simp only[qbC,qE7,qEf]at hd;simp[qah];refine qa7 (X:=Nat×List UInt8) [1,2,3,6] [(1,1)] (fun x=>[(3,.str x.2),(6,.int .i64 x.1)]) (fun _=>[]) (fun x=>c.parts.length-x.1) (fun x=>x.1≤c.parts.length∧x.2.length≤4+64 * c.sets.length+64 * x.1∧((qaZ (c.parts.drop x.1)).map fun u=>x.2++u).getD []=R) (0,t) (by simp[hd];omega) ?_ (he:=by simp[qah]);rintro⟨i,t⟩ ⟨hi,hl,hd⟩;simp only at hi hl hd;cases hr:c.parts.drop i with
  | nil =>
   have:=qaU hr;rw[hr]at hd;have hie:i=c.parts.length:=by omega
   subst hie;simp only[qaZ,qDz,qFH,qEx]at hd;simp[qah,hd]
  | cons p q =>
   obtain⟨k1,e0,e1,k3⟩:=qaV hr;rw[hr]at hd;simp only[qaZ]at hd;have hli:(i:Int)<c.parts.length:=by omega
   have e2:=qaq ((i:Int)+1) (by omega) (by omega);have c1:=qdQ p;have c2:=qeE p;have hpl:=qbl p;simp only[PT.row]at c1 c2;simp[qah,k1,e0,e1,hli,PT.row];refine c1.call ?_;cases hok:qaH p with
   | false =>
    rw[if_pos (show qao p=false by simp[qao,hok])]at hd;simp only[qGl,qGm]at hd;simp[← hd]
   | true =>
    by_cases h0:p.pa=0
    ·rw[if_pos (show qao p=false by simp[qao,hok,h0])]at hd;simp only[qGl,qGm]at hd;simp[← hd,h0,qah,k1,e0,e1,hli,PT.row]
    ·rw[if_neg (show ¬ qao p=false by simp[qao,hok,h0])]at hd;simp[h0,qah,k1,e0,e1,hli,PT.row];refine⟨by omega,?_⟩;refine c2.call ?_;simp[e2];refine⟨by omega,nx (i+1,t++(10::46::32::qaL p)) [(1,1)] ⟨by simp only;omega,by simp;omega,by simp only[k3];simpa [qGn,qFr]using hd⟩ (by simp only;omega) (h4:=by simp[qah,e2])⟩
 | cons s q =>
  obtain⟨k1,e0,e1,k3⟩:=qaV hr;rw[hr]at hd;simp only[qbC]at hd;have hsm:=qFu e1;have hli:(i:Int)<c.sets.length:=by omega
  have e2:=qaq ((i:Int)+1) (by omega) (by omega);have h8:=h.m8 s hsm;have c1:=qyi s h8 (h.nm s hsm).1 (h.nm s hsm).2;simp[qah,k1,e0,e1,hli,qaX s h8,qdC s h8];refine⟨qgS s,?_⟩;refine c1.call ?_;cases hok:qbj s with
  | false =>
   rw[if_pos hok]at hd;simp only[Option.bind_none,qGm]at hd;simp[← hd]
  | true =>
   rw[if_neg (by simp[hok])]at hd;have hk:=qm3 hok;have c2:=qh1 s.kind (by omega) (by omega);have c3:=qyp s.frm;have c4:=qeE s.home;have hrl:=qfy hok;have hn:=qiG hok;have hdl:=qav s.kind (by omega);have hfl:=qiu s.frm;have hpl:=qbl s.home;simp[qcU s h8];refine⟨by omega,by omega,by omega,?_⟩;refine c2.call ?_;simp;refine⟨by omega,by omega,?_⟩;refine c3.call ?_;simp[qcU s h8];refine⟨by omega,by omega,?_⟩;refine c4.call ?_;simp[e2];refine⟨by omega,nx (i+1,t++qdR s) [(1,1)] ⟨by simp only;omega,by simp only[qES];omega,by simp only[k3];simpa [qGn,qGo,qFr]using hd⟩ (by simp only;omega) (h4:=by simp[qah,e2,qdR])⟩
def qa0 (txg:Int) (p:PT):List UInt8:=if txg<1∨1000000<txg∨qao p=false then [] else qdP (dec txg++(32::(qaL p++(32::dec txg))))
theorem qtS (txg:Int) (p:PT):CV prog 158 [.int .i64 txg,.agg p.row] (.str (qa0 txg p)):=by
 obtain⟨R,hR⟩:∃ R,qa0 txg p=R:=⟨_,rfl⟩;rw[hR];unfold qa0 at hR;have c1:=qdQ p;have c2:=qeE p;have hpl:=qbl p;simp only[PT.row]at c1 c2;refine cvx func158 [(3,[zI 0,zJ 3 [3] [],zJ 7 [] [3],zJ 1 [] [3],zJ 2 [] [3],zI 4,zI 5,zI 6,zI 8,zI 9,zI 10,zI 11])] ntmps158 rfl rfl rfl ?_ (hca:=by simp[PT.row]);by_cases h1:txg<1
 ·rw[if_pos (.inl h1)]at hR;simp[PT.row,h1,← hR]
 by_cases h2:1000000<txg
 ·rw[if_pos (.inr (.inl h2))]at hR;simp[PT.row,h1,h2,← hR]
 simp[PT.row,h1,h2];refine c1.call ?_;cases hok:qaH p with
 | false =>
  rw[if_pos (.inr (.inr (by simp[qao,hok])))]at hR;simp[← hR]
 | true =>
  by_cases h0:p.pa=0
  ·rw[if_pos (.inr (.inr (by simp[qao,hok,h0])))]at hR;simp[← hR,h0,PT.row]
  ·rw[if_neg (fun h=>h.elim h1 fun h=>h.elim h2 fun h=>by simp[qao,hok,h0]at h)]at hR;have d1:=qh1 txg (by omega) (by omega);have l1:=qav txg (by omega);have c3:=qnm (dec txg++(32::(qaL p++(32::dec txg)))) (by simp[maxLen];omega);simp[h0,PT.row];refine d1.call ?_;simp[PT.row];refine⟨by omega,?_⟩;refine c2.call ?_;simp;refine⟨by omega,by omega,?_⟩;refine d1.call ?_;simp;refine⟨by omega,?_⟩;refine c3.call ?_;simp[hR]
structure LR where
 txg:Int
 seq:Int
 op:BO
deriving DecidableEq,Inhabited
def LR.row (r:LR):List AV:=.int .i64 r.txg::.int .i64 r.seq::r.op.row
def qdh (r:LR):Bool:=decide (1≤r.txg) && decide (r.txg≤1000000) && decide (0≤r.seq) && decide (r.seq<8) && decide (r.op.kind=3) && qbS r.op.a && decide (r.op.b=[]) && decide (0≤r.op.i) && decide (r.op.i<8) && decide (r.op.text.length≤24)
def qhC (s:List UInt8):List UInt8:=if qev s=[] then [45] else qev s
def qbW (r:LR):List UInt8:=if qdh r=false then [] else
 qdP (dec r.txg++(46::(dec r.seq++(32::(r.op.a++(32::(dec r.op.i++(32::(qhC r.op.text++(32::(dec r.txg++(46::dec r.seq))))))))))))
theorem qp5 (r:LR) (ha:r.op.a.length≤1048576) (ht:r.op.text.length≤1048576):CV prog 326 [.agg r.row] (.str (qbW r)):=by
 obtain⟨R,hR⟩:∃ R,qbW r=R:=⟨_,rfl⟩;rw[hR];have hno:qdh r=false→R=[]:=fun h=>by rw[← hR];unfold qbW;rw[if_pos h]
 have hbad:∀ b:Prop,[Decidable b]→¬ b→(qdh r=true→b)→R=[]:=fun b _ hb h=>hno (by
  cases e:qdh r with
  | false=>rfl
  | true=>exact absurd (h e) hb)
 have hsp:qdh r=true↔(1≤r.txg∧r.txg≤1000000)∧(0≤r.seq∧r.seq<8)∧r.op.kind=3∧qbS r.op.a=true∧r.op.b=[]∧(0≤r.op.i∧r.op.i<8)∧r.op.text.length≤24:=by
  simp only[qdh,Bool.and_eq_true,decide_eq_true_eq];grind
 have c1:=qvE r.op.a ha;have c2:=qBl r.op.text ht;have hxl:=qf0 r.op.text;have hyes:qdh r=true→R=qdP (dec r.txg++(46::(dec r.seq++(32::(r.op.a++(32::(dec r.op.i++(32::(qhC r.op.text++(32::(dec r.txg++(46::dec r.seq)))))))))))):=fun h=>by
  rw[← hR];unfold qbW;rw[if_neg (by simp[h])]
 refine cvx func326 [(7,[zI 0,zJ 1 [1] [],zJ 4 [] [1],zJ 5 [1] [1],zJ 2 [] [1],zJ 3 [] [1],zI 6,zI 7,zI 8]),(8,[zI 0,zI 1,zI 2,zJ 3 [3] [],zI 4,zI 5,zJ 6 [] [3],zJ 7 [3] [3],zJ 11 [] [3],zJ 14 [] [3],zJ 8 [] [3],zI 9,zI 10,zI 12,zI 13,zI 15,zI 16,zI 17])] ntmps326 rfl rfl rfl ?_ (hca:=by simp[LR.row,BO.row]);simp[LR.row,BO.row];refine⟨fun q1=>⟨fun q2=>⟨fun q3=>⟨fun q4=>⟨fun q5=>?_,fun q=>hbad _ q fun h=>(hsp.1 h).2.2.1⟩,fun q=>hbad _ (Int.not_lt.2 q) fun h=>(hsp.1 h).2.1.2⟩,fun q=>hbad _ (qGp.2 q) fun h=>(hsp.1 h).2.1.1⟩,fun q=>hbad _ (qGp.2 q) fun h=>(hsp.1 h).1.2⟩,fun q=>hbad _ (qGp.2 q) fun h=>(hsp.1 h).1.1⟩;refine c1.call ?_;cases hn:qbS r.op.a with
 | false =>
  have:=hno (by cases e:qdh r with
   | false=>rfl
   | true=>exact absurd (hsp.1 e).2.2.2.1 (by simp[hn]))
  simp[this]
 | true =>
  simp[LR.row,BO.row];refine⟨fun q6=>⟨fun q7=>⟨fun q8=>⟨fun q=>hbad (r.op.text.length≤24) (by omega) fun h=>(hsp.1 h).2.2.2.2.2.2,fun q9=>?_⟩,fun q=>hbad _ (Int.not_lt.2 q) fun h=>(hsp.1 h).2.2.2.2.2.1.2⟩,fun q=>hbad _ (qGp.2 q) fun h=>(hsp.1 h).2.2.2.2.2.1.1⟩,fun q=>hbad _ q fun h=>(hsp.1 h).2.2.2.2.1⟩;have hy:=hyes (hsp.2 ⟨⟨q1,q2⟩,⟨q3,q4⟩,q5,hn,q6,⟨q7,q8⟩,by omega⟩);have d1:=qh1 r.txg (by omega) (by omega);have d2:=qh1 r.seq (by omega) (by omega);have d3:=qh1 r.op.i (by omega) (by omega);have l1:=qav r.txg (by omega);have l2:=qav r.seq (by omega);have l3:=qav r.op.i (by omega);have hna:r.op.a.length≤6:=by
   simp only[qbS,Bool.and_eq_true,decide_eq_true_eq]at hn;exact hn.2
  refine c2.call ?_;have hxT:qev r.op.text=[]∨qev r.op.text≠[]:=by cases qev r.op.text <;> simp
  rcases hxT with hx | hx
  ·have he:qhC r.op.text=[45]:=by simp[qhC,hx]
   rw[he]at hy;have c3:=qnm (dec r.txg++(46::(dec r.seq++(32::(r.op.a++(32::(dec r.op.i++(32::([45]++(32::(dec r.txg++(46::dec r.seq)))))))))))) (by simp[maxLen];omega);rw[← hy]at c3;simp[hx,LR.row,BO.row];refine d1.call ?_;simp[LR.row,BO.row];refine⟨by omega,?_⟩;refine d2.call ?_;simp[LR.row,BO.row];refine⟨by omega,by omega,by omega,by omega,?_⟩;refine d3.call ?_;simp[LR.row,BO.row];refine⟨by omega,by omega,by omega,by omega,by omega,?_⟩
   first
    | (refine c3.call ?_;simp)
    | (simp only[qFt,qEf,List.append_assoc]at c3;refine c3.call ?_;simp)
  ·have he:qhC r.op.text=qev r.op.text:=by simp[qhC,hx]
   rw[he]at hy;have c3:=qnm (dec r.txg++(46::(dec r.seq++(32::(r.op.a++(32::(dec r.op.i++(32::(qev r.op.text++(32::(dec r.txg++(46::dec r.seq)))))))))))) (by simp[maxLen];omega);rw[← hy]at c3;simp[hx,LR.row,BO.row];refine d1.call ?_;simp[LR.row,BO.row];refine⟨by omega,?_⟩;refine d2.call ?_;simp[LR.row,BO.row];refine⟨by omega,by omega,by omega,by omega,?_⟩;refine d3.call ?_;simp[LR.row,BO.row];refine⟨by omega,by omega,by omega,by omega,by omega,?_⟩
   first
    | (refine c3.call ?_;simp)
    | (simp only[qFt,qEf,List.append_assoc]at c3;refine c3.call ?_;simp)
def kcs (l:List CS):Ob:=⟨31,l.map CS.row⟩
def kpt (l:List PT):Ob:=⟨3,l.map PT.row⟩
def kin (l:List Int):Ob:=⟨1,l.map qae⟩
@[simp] theorem qxA (ρ:Nat→Option Plc):qch ρ ∘ CS.row=CS.row:=by funext x;exact renL_closed.renL_closedL ρ _ (qbv x)
@[simp] theorem qxw (ρ:Nat→Option Plc):qch ρ ∘ PT.row=PT.row:=by funext x;simp[PT.row]
@[simp] theorem qxy (ρ:Nat→Option Plc):qch ρ ∘ qae=qae:=by funext x;simp[qae]
@[simp] theorem qyH (ρ:Nat→Option Plc) (l:List CS):qbF ρ (kcs l)=kcs l:=by simp[kcs,qbF]
@[simp] theorem qyF (ρ:Nat→Option Plc) (l:List PT):qbF ρ (kpt l)=kpt l:=by simp[kpt,qbF]
@[simp] theorem qyG (ρ:Nat→Option Plc) (l:List Int):qbF ρ (kin l)=kin l:=by simp[kin,qbF]
theorem qa2 (l:List CS):clR (kcs l).els=true:=by simp[clR,kcs,qbv]
theorem qbo (l:List PT):clR (kpt l).els=true:=by simp[clR,kpt,PT.row]
theorem qaQ (l:List Int):clR (kin l).els=true:=by simp[clR,kin,qae]
def qcM (c:CO) (a b e f:Nat):AV:=.agg [.int .i64 c.txg,.sl a 0 c.sets.length,.sl b 0 c.ddt.length,.sl e 0 c.parts.length,.bool c.dirty,.sl f 0 c.safe.length,.int .i64 c.logn]
theorem qms (c:CO) (h:CoT c):ACall prog 117 [.agg c.row] [] (fun r L'=>r=qcM c 8 12 17 22∧L'=[(8,kcs c.sets),(12,qaJ c.ddt),(17,kpt c.parts),(22,kin c.safe)]):=by
 have h1:=h.sets;have h2:=h.ddt;have h3:=h.parts;have h4:=h.safe;have co:=qh2 c.ddt h2;refine acx func117 [] ntmps117 rfl rfl rfl ?_;simp[CO.row];refine⟨⟨by omega,fun x _=>qgS x⟩,?_⟩;refine qac [] (by kernel_rfl) co (by simp) (by simpa using fun x hx=>qtl c.ddt x hx) trivial (by simp) (by simp) ?_;rintro r L' ⟨rfl,rfl⟩;refine⟨[(5,12)],⟨by simp,by simp,by simp,by simp,by simp⟩,?_⟩;simp only[qad];simp[qcM,kcs,kpt,kin];exact⟨by omega,by omega⟩
theorem qvH (c:CO) (h:CoT c):CV prog 117 [.agg c.row] (.agg c.row):=by
 refine CV.of_frz (qms c h) ?_ (hca:=by simp[qda]) (hcv:=by simp[qda]);rintro r L' ⟨rfl,rfl⟩;refine⟨by simp,by simp,fun x hx=>by
  simp only[qE3,qFc,or_false]at hx;rcases hx with rfl | rfl | rfl | rfl
  ·exact qa2 _
  ·exact qbL _
  ·exact qbo _
  ·exact qaQ _,?_⟩
 simp[qbe,CO.row,qcM,kcs,kpt,kin,qaJ,qak]
theorem qyo (l:List Int) (a:Int) (hl:l.length≤1048576):CV prog 140 [.lst 1 (l.map qae),.int .i64 a] (.bool (l.contains a)):=by
 obtain⟨R,hR⟩:∃ R,l.contains a=R:=⟨_,rfl⟩;rw[hR];refine cvx func140 [] ntmps140 rfl rfl rfl ?_ (hca:=by simp[qae]);simp;refine qa7 (X:=Nat) [0,1,4,5] [] (fun i=>[(5,.int .i64 i)]) (fun _=>[]) (fun i=>l.length-i) (fun i=>i≤l.length∧(l.drop i).contains a=R) 0 (by simp[← hR]) ?_;rintro i ⟨hi,hd⟩;cases hr:l.drop i with
 | nil =>
  have:=qaU hr;rw[hr]at hd;have hie:i=l.length:=by omega
  subst hie;simp;simpa using hd
 | cons x q =>
  obtain⟨k1,e0,e1,k3⟩:=qaV hr;rw[hr]at hd;have hli:(i:Int)<l.length:=by omega
  have e2:=qaq ((i:Int)+1) (by omega) (by omega);simp[k1,e0,e1,hli,e2,qae];refine⟨fun q1=>?_,fun q1=>nx (i+1) [] ⟨by omega,?_⟩ (h4:=by simp[e2])⟩
  ·rw[← hd];simp[q1]
  ·rw[k3,← hd];have:¬ a=x:=fun e=>q1 e.symm;simp[this]
def qfl (c:CO) (a:Int):Bool:=!ddT c.ddt a && !c.safe.contains a
def qf1 (c:CO):Nat→Int→List Int
 | 0,_=>[]
 | k+1,a=>(if qfl c a=true then [a] else [])++qf1 c k (a+1)
def qaS (c:CO) (n:Int):List Int:=qf1 c (n-13).toNat 13
theorem qp7 (c:CO) (h:CoT c) (n:Int) (hn:n≤1048576):ACall prog 61 [.agg c.row,.int .i64 n] [] (fun r L'=>r=.sl 900 0 (qaS c n).length∧L'=[(900,kin (qaS c n))]):=by
 obtain⟨R,hR⟩:∃ R,qaS c n=R:=⟨_,rfl⟩;rw[hR];have h2:=h.ddt;have h4:=h.safe;refine acx func61 [] ntmps61 rfl rfl rfl ?_;simp[CO.row];refine qa9 (X:=Int×List Int) [1,2,5,6] [(2,2),(9,900)] (fun x=>[(5,.sl 900 0 x.2.length),(6,.int .i64 x.1)]) (fun x=>[(2,⟨7,[c.row]⟩),(900,kin x.2)]) (fun x=>(n-x.1).toNat) (fun x=>13≤x.1∧x.1≤1048577∧x.2.length≤x.1∧x.2++qf1 c (n-x.1).toNat x.1=R) (13,[]) (by simp[← hR,qaS]) ?_ (he:=by simp[qah,kin,CO.row]);rintro⟨a,out⟩ ⟨ha,ha2,hl,hd⟩;simp only at ha ha2 hl hd;by_cases hlt:a<n
 ·obtain⟨k,hk⟩:∃ k,(n-a).toNat=k+1:=⟨(n-a).toNat-1,by omega⟩;have hk2:(n-(a+1)).toNat=k:=by omega
  rw[hk]at hd;simp only[qf1]at hd;have c1:=qsF c.ddt a h2;have c2:=qyo c.safe a h4;have e2:=qaq (a+1) (by omega) (by omega);simp[qah,hlt,CO.row];refine c1.call ?_;cases ht:ddT c.ddt a with
  | true =>
   have hf:¬ qfl c a=true:=by simp[qfl,ht]
   rw[if_neg hf,qEf]at hd;simp[e2];exact nx (a+1,out) [(2,2),(900,900)] ⟨by simp only;omega,by simp only;omega,by simp only;omega,by simp only[hk2];exact hd⟩ (by simp only;omega) (h4:=by simp[qah,e2,CO.row,kin])
  | false =>
   simp[CO.row];refine c2.call ?_;cases hs:c.safe.contains a with
   | true =>
    have hf:¬ qfl c a=true:=by simp only[qfl,ht,hs];simp
    rw[if_neg hf,qEf]at hd;simp[e2];exact nx (a+1,out) [(2,2),(900,900)] ⟨by simp only;omega,by simp only;omega,by simp only;omega,by simp only[hk2];exact hd⟩ (by simp only;omega) (h4:=by simp[qah,e2,CO.row,kin])
   | false =>
    have hf:qfl c a=true:=by simp only[qfl,ht,hs];rfl
    rw[if_pos hf]at hd;simp[e2,kin];refine⟨by omega,nx (a+1,out++[a]) [(2,2),(34,900)] ⟨by simp only;omega,by simp only;omega,by simp;omega,by simp only[hk2];simpa using hd⟩ (by simp only;omega) (h4:=by simp[qah,e2,CO.row,kin,qae,qak])⟩
 ·have hk:(n-a).toNat=0:=by omega
  rw[hk]at hd;simp only[qf1,qFH]at hd;simp[hlt,← hd]
theorem qtT (c:CO) (h:CoT c) (n:Int) (hn:n≤1048576):CV prog 61 [.agg c.row,.int .i64 n] (.lst 1 ((qaS c n).map qae)):=by
 refine CV.of_frz (qp7 c h n hn) ?_ (hca:=by simp[qda]) (hcv:=by simp[qae]);rintro r L' ⟨rfl,rfl⟩;refine⟨by simp,by simp,fun x hx=>by
  simp only[qE3,qFc,or_false]at hx;rcases hx with rfl;exact qaQ _,?_⟩
 simp[qbe,kin,qak]
theorem qlK (c:CO):∀ (k:Nat) (a:Int),(qf1 c k a).length≤k
 | 0,_=>by simp[qf1]
 | k+1,a=>by
  have:=qlK c k (a+1);simp only[qf1,qES];split <;> simp <;> omega
theorem qlL (c:CO) (n:Int):((qaS c n).length:Int)≤n∨(qaS c n).length=0:=by
 have:=qlK c (n-13).toNat 13;unfold qaS;omega
def qoL (c:CO) (n:Int):Bool:=decide (16<(qaS c n).length) && decide (32≤n-13-c.ddt.length-1) && decide (c.ddt.length<48)
theorem qBo (c:CO) (h:CoT c) (n:Int) (hn:n≤1048576) (hn0:0≤n):CV prog 273 [.agg c.row,.int .i64 n] (.bool (qoL c n)):=by
 obtain⟨R,hR⟩:∃ R,qoL c n=R:=⟨_,rfl⟩;rw[hR];unfold qoL at hR;have h2:=h.ddt;have c1:=qtT c h n hn;generalize qaS c n=l at *
 simp only[CO.row]at c1;have e1:=qaq (n-13) (by omega) (by omega);have e2:=qaq (n-13-(c.ddt.length:Int)) (by omega) (by omega);have e3:=qaq (n-13-(c.ddt.length:Int)-1) (by omega) (by omega);refine cvx func273 [] ntmps273 rfl rfl rfl ?_ (hca:=by simp[qda]);simp[CO.row];refine c1.call ?_;simp[CO.row,e1,e2,e3];subst hR;refine⟨fun q1=>⟨fun q2=>?_,fun q2=>?_⟩,fun q1=>?_⟩
 ·have q1':16<l.length:=by omega
  simp only[q1',q2,decide_true,qFP];rw[decide_eq_decide];omega
 ·have q2':¬ 32≤n-13-(c.ddt.length:Int)-1:=by omega
  simp[q2']
 ·have q1':¬ 16<l.length:=by omega
  simp[q1']
def plP (l:List Int) (a:Int):Nat:=(l.takeWhile fun x=>decide (x<a)).length
def qfI (l:List Int) (a:Int):List Int:=if a<13∨l.contains a=true then l else l.take (plP l a)++a::l.drop (plP l a)
theorem qt0 (l:List Int) (a:Int):plP l a≤l.length:=(qF2 _).length_le
theorem qvA (l:List Int) (a:Int) (hl:l.length≤1000000):ACall prog 169 [.sl 1000 0 l.length,.int .i64 a] [(1000,kin l)] (fun r L'=>∃ id,(id=1000∨id=41)∧r=.sl id 0 (qfI l a).length∧L'=[(id,kin (qfI l a))]):=by
 obtain⟨R,hR⟩:∃ R,qfI l a=R:=⟨_,rfl⟩;rw[hR];unfold qfI at hR;have c1:=qyo l a (by omega);have hk:=qt0 l a;refine acx func169 [] ntmps169 rfl rfl rfl ?_;by_cases h1:a<13
 ·rw[if_pos (.inl h1)]at hR;simp[h1,← hR]
 simp[h1];refine c1.view (by simp[qb5,mtA,kin,qak]) ?_;cases hc:l.contains a with
 | true =>
  rw[if_pos (.inr hc)]at hR;simp[← hR]
 | false =>
  rw[if_neg (by simp only[hc,h1];simp)]at hR;simp;refine qa7 (X:=Nat) [0,1,4,5] [(1000,1000)] (fun i=>[(5,.int .i64 i)]) (fun _=>[]) (fun i=>l.length-i) (fun i=>i≤l.length∧i+plP (l.drop i) a=plP l a) 0 (by simp) ?_ (he:=by simp[qah]);rintro i ⟨hi,hd⟩;have fin:i=plP l a→List.take i l++a::List.drop i l=R:=fun e=>by rw[e];exact hR
  cases hr:l.drop i with
  | nil =>
   have:=qaU hr;rw[hr]at hd;have hie:i=l.length:=by omega
   have hf:=fin (by simpa [plP]using hd);subst hie;simp[qah,kin];subst hf;refine⟨by omega,?_,by simp⟩;rw[qak,qDU (by simp)];simp[qae,qDU]
  | cons x q =>
   obtain⟨k1,e0,e1,k3⟩:=qaV hr;rw[hr]at hd;have hli:(i:Int)<l.length:=by omega
   have e2:=qaq ((i:Int)+1) (by omega) (by omega);by_cases hx:x<a
   ·have hp:plP (x::q) a=plP q a+1:=by simp[plP,qF1,hx]
    simp[qah,kin,k1,e0,e1,hli,e2,hx,qae];exact nx (i+1) [(1000,1000)] ⟨by omega,by rw[k3];omega⟩ (h4:=by simp[qah,e2,kin])
   ·have hp:plP (x::q) a=0:=by simp[plP,qF1,hx]
    have hf:=fin (by omega);simp[qah,kin,k1,e0,e1,hli,e2,hx,qae];rw[qs7];have et:List.take (l.length-i) ((l.drop i).map qae)=(l.drop i).map qae:=qDU (by simp);have e5:List.take (i+1) (List.take i (List.map qae l)++[[AV.int IntKind.i64 a]])=List.map qae (List.take i l++[a]):=by
     rw[qDU (by simp;omega)];simp[qae]
    rw[et,e5];have ho:∀ x∈(l.drop i).map qae,∀ y∈x,qde y=true:=fun x hx y hy=>by
     obtain⟨e,_,rfl⟩:=qD6.1 hx;simp only[qae,qE3,qFc,or_false]at hy;subst hy;rfl
    subst hf;refine⟨by omega,⟨by omega,by omega,ho⟩,by omega,⟨by omega,by omega⟩,⟨by omega,by omega,ho⟩,by simp,by simp;omega⟩
theorem qfc (l:List Int) (a:Int):(qfI l a).length≤l.length+1:=by
 unfold qfI;split
 ·omega
 ·have:=qt0 l a;simp;omega
def qcK (l:List Int) (bs:List Int):List Int:=bs.foldl qfI l
theorem qge:∀ (bs:List Int) (l:List Int),(qcK l bs).length≤l.length+bs.length
 | [],l=>by simp[qcK]
 | a::r,l=>by
  have h1:=qfc l a;have h2:=qge r (qfI l a);simp only[qcK,qDW,qDX]at *
  omega
def qcb (c:CO) (root:Int):List Int:=qcK (qcK (qcK (qfI [] root) (c.ddt.map DE.ea)) (c.sets.map fun s=>s.home.pa)) (c.parts.map PT.pa)
structure CoM (c:CO):Prop where
 sets:c.sets.length≤1000
 ddt:c.ddt.length≤1000
 parts:c.parts.length≤1000
theorem qd9 (l:List Int) (a:Int) (r:List Int):qcK l (a::r)=qcK (qfI l a) r:=rfl
theorem qiO (l:List Int):qcK l []=l:=rfl
theorem quu (s:CS) (h8:s.map.length=8):s.row[27]?=some (.int .i64 s.home.pa):=by
 have h:=qcU s h8;have h2:=congrArg (fun l:List AV=>l[0]?) h;simp only[qDx,qD4]at h2;simpa [PT.row]using h2
theorem qjW (l:List Int) (a:Int) (hl:l.length≤1000000):ACall prog 169 [.sl 1000 0 l.length,.int .i64 a] [(1000,kin l)] (fun r L'=>r=.sl 902 0 (qfI l a).length∧L'=[(902,kin (qfI l a))]):=by
 refine(qvA l a hl).can ?_;rintro r L' ⟨id,rfl | rfl,rfl,rfl⟩
 ·exact⟨[(1000,902)],by simp,by simp,by simp,by simp,by simp,by simp[qah]⟩
 ·exact⟨[(41,902)],by simp,by simp,by simp,by simp,by simp,by simp[qah]⟩
theorem qp1 (c:CO) (h:CoT c) (hm:CoM c) (root:Int):ACall prog 79 [.agg c.row,.int .i64 root] [] (fun r L'=>r=.sl 900 0 (qcb c root).length∧L'=[(900,kin (qcb c root))]):=by
 obtain⟨R,hR⟩:∃ R,qcb c root=R:=⟨_,rfl⟩;rw[hR];unfold qcb at hR;have h1:=hm.sets;have h2:=hm.ddt;have h3:=hm.parts;refine acx func79 [] ntmps79 rfl rfl rfl ?_;simp[CO.row];refine qac [(1000,.whole 9)] (by kernel_rfl) (qjW [] root (by simp)) (by simp) (by simp) (by simp[kin];exact qaa rfl (by simp[clR])) (by simp) (by simp) ?_;rintro r L' ⟨rfl,rfl⟩;have hl0:=qfc [] root;simp only[qET]at hl0;refine⟨[(902,902)],⟨by simp,by simp,by simp,by simp,by simp⟩,?_⟩;simp only[qad];simp[CO.row];refine qa9 (X:=Nat×List Int) [2,5,6] [(2,2),(902,900)] (fun x=>[(5,.sl 900 0 x.2.length),(6,.int .i64 x.1)]) (fun x=>[(2,⟨7,[c.row]⟩),(900,kin x.2)]) (fun x=>c.ddt.length-x.1) (fun x=>x.1≤c.ddt.length∧x.2.length≤1+x.1∧qcK (qcK (qcK x.2 ((c.ddt.drop x.1).map DE.ea)) (c.sets.map fun s=>s.home.pa)) (c.parts.map PT.pa)=R) (0,(qfI [] root)) ⟨by simp,by simp only;omega,by simpa using hR⟩ ?_ (he:=by simp[qah,kin,CO.row]);rintro⟨i,l⟩ ⟨hi,hl,hd⟩;simp only at hi hl hd;cases hr:c.ddt.drop i with
 | nil =>
  have:=qaU hr;rw[hr]at hd;have hie:i=c.ddt.length:=by omega
  subst hie;simp only[qFi,qiO]at hd;simp[qah,CO.row];refine qa9 (X:=Nat×List Int) [2,5,7] [(2,2),(900,900)] (fun x=>[(5,.sl 900 0 x.2.length),(7,.int .i64 x.1)]) (fun x=>[(2,⟨7,[c.row]⟩),(900,kin x.2)]) (fun x=>c.sets.length-x.1) (fun x=>x.1≤c.sets.length∧x.2.length≤1001+x.1∧qcK (qcK x.2 ((c.sets.drop x.1).map (fun s:CS=>s.home.pa))) (c.parts.map PT.pa)=R) (0,l) ⟨by simp,by simp only;omega,by simpa using hd⟩ ?_ (he:=by simp[qah,kin,CO.row]);rintro⟨i,l⟩ ⟨hi,hl,hd⟩;simp only at hi hl hd;cases hr:c.sets.drop i with
  | nil =>
   have:=qaU hr;rw[hr]at hd;have hie:i=c.sets.length:=by omega
   subst hie;simp only[qFi,qiO]at hd;simp[qah,CO.row];refine qa9 (X:=Nat×List Int) [2,5,8] [(2,2),(900,900)] (fun x=>[(5,.sl 900 0 x.2.length),(8,.int .i64 x.1)]) (fun x=>[(2,⟨7,[c.row]⟩),(900,kin x.2)]) (fun x=>c.parts.length-x.1) (fun x=>x.1≤c.parts.length∧x.2.length≤2001+x.1∧(qcK x.2 ((c.parts.drop x.1).map PT.pa))=R) (0,l) ⟨by simp,by simp only;omega,by simpa using hd⟩ ?_ (he:=by simp[qah,kin,CO.row]);rintro⟨i,l⟩ ⟨hi,hl,hd⟩;simp only at hi hl hd;cases hr:c.parts.drop i with
   | nil =>
    have:=qaU hr;rw[hr]at hd;have hie:i=c.parts.length:=by omega
    subst hie;simp only[qFi,qiO]at hd;simp[qah,← hd]
   | cons x q =>
    obtain⟨k1,e0,e1,k3⟩:=qaV hr;rw[hr,qD5,qd9]at hd;have hli:(i:Int)<c.parts.length:=by omega
    have e2:=qaq ((i:Int)+1) (by omega) (by omega);simp[qah,k1,e0,e1,hli,CO.row,PT.row];refine qac [(1000,.whole 900)] (by kernel_rfl) (qjW l x.pa (by omega)) (by simp) (by simp) (by simp[kin];exact qaa rfl (qaQ l)) (by simp) (by simp) ?_;have hal:=qfc l x.pa;rintro r L' ⟨rfl,rfl⟩;refine⟨[(902,902)],⟨by simp,by simp,by simp,by simp,by simp⟩,?_⟩;simp only[qad];simp[e2,CO.row];exact nx (i+1,qfI l x.pa) [(2,2),(902,900)] ⟨by simp only;omega,by simp only;omega,by simp only[← qFB,k3];exact hd⟩ (by simp only;omega) (h4:=by simp[qah,e2,CO.row,kin])
  | cons x q =>
   obtain⟨k1,e0,e1,k3⟩:=qaV hr;rw[hr,qD5,qd9]at hd;have hli:(i:Int)<c.sets.length:=by omega
   have e2:=qaq ((i:Int)+1) (by omega) (by omega);have h8:=h.m8 x (qFu e1);have hx27:x.row[27]?=some (.int .i64 x.home.pa):=quu x h8;have hx27':=(qEb.1 hx27).2;simp[qah,k1,e0,e1,hli,CO.row,qaX x h8,hx27,hx27'];refine qac [(1000,.whole 900)] (by kernel_rfl) (qjW l x.home.pa (by omega)) (by simp) (by simp) (by simp[kin];exact qaa rfl (qaQ l)) (by simp) (by simp) ?_;have hal:=qfc l x.home.pa;rintro r L' ⟨rfl,rfl⟩;refine⟨[(902,902)],⟨by simp,by simp,by simp,by simp,by simp⟩,?_⟩;simp only[qad];simp[e2,CO.row];exact nx (i+1,qfI l x.home.pa) [(2,2),(902,900)] ⟨by simp only;omega,by simp only;omega,by simp only[← qFB,k3];exact hd⟩ (by simp only;omega) (h4:=by simp[qah,e2,CO.row,kin])
 | cons x q =>
  obtain⟨k1,e0,e1,k3⟩:=qaV hr;rw[hr,qD5,qd9]at hd;have hli:(i:Int)<c.ddt.length:=by omega
  have e2:=qaq ((i:Int)+1) (by omega) (by omega);simp[qah,k1,e0,e1,hli,CO.row,DE.row];refine qac [(1000,.whole 900)] (by kernel_rfl) (qjW l x.ea (by omega)) (by simp) (by simp) (by simp[kin];exact qaa rfl (qaQ l)) (by simp) (by simp) ?_;have hal:=qfc l x.ea;rintro r L' ⟨rfl,rfl⟩;refine⟨[(902,902)],⟨by simp,by simp,by simp,by simp,by simp⟩,?_⟩;simp only[qad];simp[e2,CO.row];exact nx (i+1,qfI l x.ea) [(2,2),(902,900)] ⟨by simp only;omega,by simp only;omega,by simp only[← qFB,k3];exact hd⟩ (by simp only;omega) (h4:=by simp[qah,e2,CO.row,kin])
theorem qvz (c:CO) (h:CoT c) (hm:CoM c) (root:Int):CV prog 79 [.agg c.row,.int .i64 root] (.lst 1 ((qcb c root).map qae)):=by
 refine CV.of_frz (qp1 c h hm root) ?_ (hca:=by simp[qda]) (hcv:=by simp[qae]);rintro r L' ⟨rfl,rfl⟩;refine⟨by simp,by simp,fun x hx=>by
  simp only[qE3,qFc,or_false]at hx;rcases hx with rfl;exact qaQ _,?_⟩
 simp[qbe,kin,qak]
end Go.Av.F
end
