/- Lemmas for the proof, no statement of the seat; no conditions. -/
import Derived.Test.YthiidgicibfbjaaGreatDoorLayAQ
import Derived.Shelf.Strings.Builder1
import Derived.Shelf.Small.Strs
import Derived.Shelf.Strconv.Atoi
import Derived.Shelf.Strconv.Itoa0
import Derived.Shelf.Strconv.Itoa1
import Derived.Shelf.LaysM
import Derived.Shelf.Strconv.Itoa2
import Derived.Shelf.Strconv.Itoa3
import Derived.Shelf.Strconv.AtoiErrFast
import Derived.Shelf.Strconv.ParseIntEmpty
import Derived.Shelf.Strconv.AtoiFail
import Derived.Shelf.Strconv.Clone
import Derived.Shelf.Strconv.SyntaxError
import Derived.Shelf.LaysC
import Derived.Shelf.Strconv.ToError
import Derived.Shelf.Strconv.Lower
import Derived.Shelf.Strconv.ParseUint10
import Derived.Shelf.Strconv.ParseUint10Empty
import Derived.Shelf.Strconv.ParseUint10Any
import Derived.Shelf.Strconv.ParseInt10
import Derived.Shelf.Strconv.AtoiLong
import Derived.Shelf.Strconv.AtoiInnerAll
import Derived.Shelf.Strconv.RangeError
import Derived.Shelf.Strconv.ToErrorRange
import Derived.Shelf.Strconv.AtoiAll
import Derived.Shelf.Strings.Search1
import Derived.Shelf.Strings.Search2
import Derived.Shelf.Strings.Search3
import Derived.Shelf.Strings.Count
import Derived.Shelf.Sort.Plain
import Derived.Test.YthiidgicibfbjaaGreatDoorProg
set_option linter.unusedSimpArgs false
set_option linter.unusedVariables false
set_option linter.unnecessarySimpa false
set_option maxRecDepth 100000
set_option maxHeartbeats 400000
section
namespace Go.Proofs
open Go.Shelf Go.RowKit Go.Sort Go.Lib
def Tryz.lays137_ren:Go.Shelf.Ren:=⟨fun | 137=>329 | 217=>366 | 266=>390 | n=>n,fun | 9=>9 | 5=>5 | 3=>3 | n=>n,fun | n=>n⟩
theorem Tryz.lays137:Go.Proofs.Lays.n137 Tryz.prog Tryz.lays137_ren:={
 mixed:=by kernel_rfl
 f137:=Tryz.func329.trans (congrArg some (by kernel_rfl))
 f217:=Tryz.func366.trans (congrArg some (by kernel_rfl))
 f266:=Tryz.func390.trans (congrArg some (by kernel_rfl))
 t3:=Tryz.underlying3
 a3:=Tryz.isAgg3
 z3:=Tryz.sizeOf3
 v3:=Tryz.zeroValue3
 t5:=Tryz.underlying5
 a5:=Tryz.isAgg5
 z5:=Tryz.sizeOf5
 v5:=Tryz.zeroValue5
 t9:=Tryz.underlying9
 a9:=Tryz.isAgg9
 z9:=Tryz.sizeOf9
 v9:=Tryz.zeroValue9 }
theorem Tryz.strings_IndexByte (s:ByteArray) (c:Int) (w:World) :
  Calls Tryz.prog 329 #[.string s,.int .u8 c] w fun e w'=>e=.returned (.int .i64 (Lib.indexByte s.data.toList c.toNat.toUInt8))∧w'=w:=Any.strings_IndexByte Tryz.lays137 s c w
def Tryz.laysM171_ren:Go.Shelf.Ren:=⟨fun | 171=>261 | 243=>313 | 246=>356 | 283=>382 | 284=>383 | 285=>384 | 286=>385 | 129=>324 | 317=>398 | 318=>399 | 319=>400 | 320=>401 | 337=>407 | 338=>408 | n=>n,fun | 3=>3 | 9=>9 | 2=>2 | 4=>4 | 171=>360 | 0=>0 | 53=>316 | 37=>237 | 5=>5 | 173=>362 | 212=>381 | 51=>314 | 20=>20 | 213=>382 | 46=>277 | 232=>389 | 233=>390 | n=>n,fun | 17=>5 | 18=>6 | 19=>7 | n=>n⟩
theorem Tryz.laysM171:Go.Proofs.LaysM.n171 Tryz.prog Tryz.laysM171_ren:={
 mixed:=by kernel_rfl
 f129:=Tryz.func324.trans (congrArg some (by kernel_rfl))
 f171:=Tryz.func261.trans (congrArg some (by kernel_rfl))
 f243:=Tryz.func313.trans (congrArg some (by kernel_rfl))
 f246:=Tryz.func356.trans (congrArg some (by kernel_rfl))
 f283:=Tryz.func382.trans (congrArg some (by kernel_rfl))
 f284:=Tryz.func383.trans (congrArg some (by kernel_rfl))
 f285:=Tryz.func384.trans (congrArg some (by kernel_rfl))
 f286:=Tryz.func385.trans (congrArg some (by kernel_rfl))
 f317:=Tryz.func398.trans (congrArg some (by kernel_rfl))
 f318:=Tryz.func399.trans (congrArg some (by kernel_rfl))
 f319:=Tryz.func400.trans (congrArg some (by kernel_rfl))
 f320:=Tryz.func401.trans (congrArg some (by kernel_rfl))
 f337:=Tryz.func407.trans (congrArg some (by kernel_rfl))
 f338:=Tryz.func408.trans (congrArg some (by kernel_rfl))
 t0:=Tryz.underlying0
 a0:=Tryz.isAgg0
 z0:=Tryz.sizeOf0
 v0:=Tryz.zeroValue0
 t2:=Tryz.underlying2
 a2:=Tryz.isAgg2
 z2:=Tryz.sizeOf2
 v2:=Tryz.zeroValue2
 t3:=Tryz.underlying3
 a3:=Tryz.isAgg3
 z3:=Tryz.sizeOf3
 v3:=Tryz.zeroValue3
 t4:=Tryz.underlying4
 a4:=Tryz.isAgg4
 z4:=Tryz.sizeOf4
 v4:=Tryz.zeroValue4
 t5:=Tryz.underlying5
 a5:=Tryz.isAgg5
 z5:=Tryz.sizeOf5
 v5:=Tryz.zeroValue5
 t9:=Tryz.underlying9
 a9:=Tryz.isAgg9
 z9:=Tryz.sizeOf9
 v9:=Tryz.zeroValue9
 t20:=Tryz.underlying20
 a20:=Tryz.isAgg20
 z20:=Tryz.sizeOf20
 v20:=Tryz.zeroValue20
 t37:=Tryz.underlying237
 a37:=Tryz.isAgg237
 z37:=Tryz.sizeOf237
 v37:=Tryz.zeroValue237
 t46:=Tryz.underlying277
 a46:=Tryz.isAgg277
 z46:=Tryz.sizeOf277
 v46:=Tryz.zeroValue277
 t51:=Tryz.underlying314
 a51:=Tryz.isAgg314
 z51:=Tryz.sizeOf314
 v51:=Tryz.zeroValue314
 t53:=Tryz.underlying316
 a53:=Tryz.isAgg316
 z53:=Tryz.sizeOf316
 v53:=Tryz.zeroValue316
 t171:=Tryz.underlying360
 a171:=Tryz.isAgg360
 z171:=Tryz.sizeOf360
 v171:=Tryz.zeroValue360
 t173:=Tryz.underlying362
 a173:=Tryz.isAgg362
 z173:=Tryz.sizeOf362
 v173:=Tryz.zeroValue362
 t212:=Tryz.underlying381
 a212:=Tryz.isAgg381
 z212:=Tryz.sizeOf381
 v212:=Tryz.zeroValue381
 t213:=Tryz.underlying382
 a213:=Tryz.isAgg382
 z213:=Tryz.sizeOf382
 t232:=Tryz.underlying389
 a232:=Tryz.isAgg389
 z232:=Tryz.sizeOf389
 v232:=Tryz.zeroValue389
 t233:=Tryz.underlying390
 a233:=Tryz.isAgg390
 z233:=Tryz.sizeOf390
 v233:=Tryz.zeroValue390
 g17:=by kernel_rfl
 g18:=by kernel_rfl
 g19:=by kernel_rfl
 i0:=by kernel_rfl
 i2:=by kernel_rfl
 i3:=by kernel_rfl
 i4:=by kernel_rfl
 i5:=by kernel_rfl
 i9:=by kernel_rfl
 i20:=by kernel_rfl
 i37:=by kernel_rfl
 i46:=by kernel_rfl
 i51:=by kernel_rfl
 i53:=by kernel_rfl
 i171:=by kernel_rfl
 i173:=by kernel_rfl
 i212:=by kernel_rfl
 i232:=by kernel_rfl
 i233:=by kernel_rfl
 m17:=by kernel_rfl
 m18:=by kernel_rfl
 m19:=by kernel_rfl }
theorem Tryz.strconv_Itoa (n:Int) (h0:-9223372036854775808≤n) (h1:n≤9223372036854775807) (w:World) (htab:Lib.TabIs Tryz.prog w "internal/strconv.uint64pow10" .u64 Lib.pow10Tab) :
  Calls Tryz.prog 261 #[.int .i64 n] w fun e w'=>e=.returned (.string ⟨(Lib.itoa n).toArray⟩)∧∃ k os,w'=grow (w.drewN k) os:=Any.strconv_Itoa Tryz.laysM171 n h0 h1 w htab
def Tryz.laysC172_ren:Go.Shelf.Ren:=⟨fun | 172=>252 | 244=>305 | 245=>306 | 247=>340 | 279=>341 | 280=>342 | 281=>343 | 282=>344 | 287=>372 | 316=>373 | 171=>261 | 205=>374 | 321=>393 | 322=>394 | 243=>313 | 246=>356 | 283=>382 | 284=>383 | 285=>384 | 286=>385 | 129=>324 | 317=>398 | 318=>399 | 319=>400 | 320=>401 | 337=>407 | 338=>408 | n=>n,fun | 9=>9 | 3=>3 | 75=>262 | 76=>263 | 4=>4 | 5=>5 | 167=>323 | 37=>237 | 0=>0 | 85=>324 | 2=>2 | 168=>326 | 53=>316 | 175=>352 | 46=>277 | 210=>355 | 127=>364 | 145=>372 | 143=>370 | 21=>21 | 171=>360 | 173=>362 | 212=>381 | 51=>314 | 20=>20 | 213=>382 | 232=>389 | 233=>390 | 80=>343 | n=>n,fun | 15=>1 | 16=>2 | 17=>5 | 18=>6 | 19=>7 | n=>n⟩
theorem Tryz.laysC172:Go.Proofs.LaysC.n172 Tryz.prog Tryz.laysC172_ren:={
 mixed:=by kernel_rfl
 f129:=Tryz.func324.trans (congrArg some (by kernel_rfl))
 f171:=Tryz.func261.trans (congrArg some (by kernel_rfl))
 f172:=Tryz.func252.trans (congrArg some (by kernel_rfl))
 f205:=Tryz.func374.trans (congrArg some (by kernel_rfl))
 f243:=Tryz.func313.trans (congrArg some (by kernel_rfl))
 f244:=Tryz.func305.trans (congrArg some (by kernel_rfl))
 f245:=Tryz.func306.trans (congrArg some (by kernel_rfl))
 f246:=Tryz.func356.trans (congrArg some (by kernel_rfl))
 f247:=Tryz.func340.trans (congrArg some (by kernel_rfl))
 f279:=Tryz.func341.trans (congrArg some (by kernel_rfl))
 f280:=Tryz.func342.trans (congrArg some (by kernel_rfl))
 f281:=Tryz.func343.trans (congrArg some (by kernel_rfl))
 f282:=Tryz.func344.trans (congrArg some (by kernel_rfl))
 f283:=Tryz.func382.trans (congrArg some (by kernel_rfl))
 f284:=Tryz.func383.trans (congrArg some (by kernel_rfl))
 f285:=Tryz.func384.trans (congrArg some (by kernel_rfl))
 f286:=Tryz.func385.trans (congrArg some (by kernel_rfl))
 f287:=Tryz.func372.trans (congrArg some (by kernel_rfl))
 f316:=Tryz.func373.trans (congrArg some (by kernel_rfl))
 f317:=Tryz.func398.trans (congrArg some (by kernel_rfl))
 f318:=Tryz.func399.trans (congrArg some (by kernel_rfl))
 f319:=Tryz.func400.trans (congrArg some (by kernel_rfl))
 f320:=Tryz.func401.trans (congrArg some (by kernel_rfl))
 f321:=Tryz.func393.trans (congrArg some (by kernel_rfl))
 f322:=Tryz.func394.trans (congrArg some (by kernel_rfl))
 f337:=Tryz.func407.trans (congrArg some (by kernel_rfl))
 f338:=Tryz.func408.trans (congrArg some (by kernel_rfl))
 t0:=Tryz.underlying0
 a0:=Tryz.isAgg0
 z0:=Tryz.sizeOf0
 v0:=Tryz.zeroValue0
 t2:=Tryz.underlying2
 a2:=Tryz.isAgg2
 z2:=Tryz.sizeOf2
 v2:=Tryz.zeroValue2
 t3:=Tryz.underlying3
 a3:=Tryz.isAgg3
 z3:=Tryz.sizeOf3
 v3:=Tryz.zeroValue3
 t4:=Tryz.underlying4
 a4:=Tryz.isAgg4
 z4:=Tryz.sizeOf4
 v4:=Tryz.zeroValue4
 t5:=Tryz.underlying5
 a5:=Tryz.isAgg5
 z5:=Tryz.sizeOf5
 v5:=Tryz.zeroValue5
 t9:=Tryz.underlying9
 a9:=Tryz.isAgg9
 z9:=Tryz.sizeOf9
 v9:=Tryz.zeroValue9
 t20:=Tryz.underlying20
 a20:=Tryz.isAgg20
 z20:=Tryz.sizeOf20
 v20:=Tryz.zeroValue20
 t21:=Tryz.underlying21
 a21:=Tryz.isAgg21
 z21:=Tryz.sizeOf21
 v21:=Tryz.zeroValue21
 t37:=Tryz.underlying237
 a37:=Tryz.isAgg237
 z37:=Tryz.sizeOf237
 v37:=Tryz.zeroValue237
 t46:=Tryz.underlying277
 a46:=Tryz.isAgg277
 z46:=Tryz.sizeOf277
 v46:=Tryz.zeroValue277
 t51:=Tryz.underlying314
 a51:=Tryz.isAgg314
 z51:=Tryz.sizeOf314
 v51:=Tryz.zeroValue314
 t53:=Tryz.underlying316
 a53:=Tryz.isAgg316
 z53:=Tryz.sizeOf316
 v53:=Tryz.zeroValue316
 t75:=Tryz.underlying262
 a75:=Tryz.isAgg262
 z75:=Tryz.sizeOf262
 v75:=Tryz.zeroValue262
 t76:=Tryz.underlying263
 a76:=Tryz.isAgg263
 z76:=Tryz.sizeOf263
 v76:=Tryz.zeroValue263
 t85:=Tryz.underlying324
 a85:=Tryz.isAgg324
 z85:=Tryz.sizeOf324
 v85:=Tryz.zeroValue324
 t127:=Tryz.underlying364
 a127:=Tryz.isAgg364
 z127:=Tryz.sizeOf364
 v127:=Tryz.zeroValue364
 t143:=Tryz.underlying370
 a143:=Tryz.isAgg370
 z143:=Tryz.sizeOf370
 v143:=Tryz.zeroValue370
 t145:=Tryz.underlying372
 a145:=Tryz.isAgg372
 z145:=Tryz.sizeOf372
 v145:=Tryz.zeroValue372
 t167:=Tryz.underlying323
 a167:=Tryz.isAgg323
 z167:=Tryz.sizeOf323
 v167:=Tryz.zeroValue323
 t168:=Tryz.underlying326
 a168:=Tryz.isAgg326
 z168:=Tryz.sizeOf326
 v168:=Tryz.zeroValue326
 t171:=Tryz.underlying360
 a171:=Tryz.isAgg360
 z171:=Tryz.sizeOf360
 v171:=Tryz.zeroValue360
 t173:=Tryz.underlying362
 a173:=Tryz.isAgg362
 z173:=Tryz.sizeOf362
 v173:=Tryz.zeroValue362
 t175:=Tryz.underlying352
 a175:=Tryz.isAgg352
 z175:=Tryz.sizeOf352
 v175:=Tryz.zeroValue352
 t210:=Tryz.underlying355
 a210:=Tryz.isAgg355
 z210:=Tryz.sizeOf355
 v210:=Tryz.zeroValue355
 t212:=Tryz.underlying381
 a212:=Tryz.isAgg381
 z212:=Tryz.sizeOf381
 v212:=Tryz.zeroValue381
 t213:=Tryz.underlying382
 a213:=Tryz.isAgg382
 z213:=Tryz.sizeOf382
 t232:=Tryz.underlying389
 a232:=Tryz.isAgg389
 z232:=Tryz.sizeOf389
 v232:=Tryz.zeroValue389
 t233:=Tryz.underlying390
 a233:=Tryz.isAgg390
 z233:=Tryz.sizeOf390
 v233:=Tryz.zeroValue390
 g15:=by kernel_rfl
 g16:=by kernel_rfl
 g17:=by kernel_rfl
 g18:=by kernel_rfl
 g19:=by kernel_rfl
 t80:=Tryz.underlying343
 a80:=Tryz.isAgg343
 z80:=Tryz.sizeOf343
 v80:=Tryz.zeroValue343
 i0:=by kernel_rfl
 i2:=by kernel_rfl
 i3:=by kernel_rfl
 i4:=by kernel_rfl
 i5:=by kernel_rfl
 i9:=by kernel_rfl
 i20:=by kernel_rfl
 i21:=by kernel_rfl
 i37:=by kernel_rfl
 i46:=by kernel_rfl
 i51:=by kernel_rfl
 i53:=by kernel_rfl
 i75:=by kernel_rfl
 i76:=by kernel_rfl
 i80:=by kernel_rfl
 i85:=by kernel_rfl
 i127:=by kernel_rfl
 i143:=by kernel_rfl
 i145:=by kernel_rfl
 i167:=by kernel_rfl
 i168:=by kernel_rfl
 i171:=by kernel_rfl
 i173:=by kernel_rfl
 i175:=by kernel_rfl
 i210:=by kernel_rfl
 i212:=by kernel_rfl
 i232:=by kernel_rfl
 i233:=by kernel_rfl
 m15:=by kernel_rfl
 m16:=by kernel_rfl
 m17:=by kernel_rfl
 m18:=by kernel_rfl
 m19:=by kernel_rfl
 c0:=by kernel_rfl
 c2:=by kernel_rfl
 c3:=by kernel_rfl
 c4:=by kernel_rfl
 c5:=by kernel_rfl
 c9:=by kernel_rfl
 c20:=by kernel_rfl
 c21:=by kernel_rfl
 c37:=by kernel_rfl
 c46:=by kernel_rfl
 c51:=by kernel_rfl
 c53:=by kernel_rfl
 c75:=by kernel_rfl
 c76:=by kernel_rfl
 c80:=by kernel_rfl
 c85:=by kernel_rfl
 c127:=by kernel_rfl
 c143:=by kernel_rfl
 c145:=by kernel_rfl
 c167:=by kernel_rfl
 c168:=by kernel_rfl
 c171:=by kernel_rfl
 c173:=by kernel_rfl
 c175:=by kernel_rfl
 c210:=by kernel_rfl
 c212:=by kernel_rfl
 c213:=by kernel_rfl
 c232:=by kernel_rfl
 c233:=by kernel_rfl }
theorem Tryz.strconv_Atoi_ok (s:ByteArray) (hmax:s.size≤9223372036854775806) (v:Int) (h:Lib.atoiAll s.data.toList=.ok v) (w:World) :
  Calls Tryz.prog 252 #[.string s] w fun e w'=>e=.returned (.tuple #[.int .i64 v,.nilIface])∧(w'=w∨∃ t,w'=Lib.bytesWorld w 5 t):=Any.strconv_Atoi_ok Tryz.laysC172 s hmax v h w
theorem Tryz.strconv_Atoi_syntax (s:ByteArray) (hlim:s.size≤281474976710656) (h:Lib.atoiAll s.data.toList=Lib.atoiAll []) (ev:Value) (w:World) (hv:w.cell? ⟨1,0,none⟩=some ev) (hev:ev=.nilIface∨∃ te pe,ev=.iface te pe) :
  Calls Tryz.prog 252 #[.string s] w fun e w'=>∃ N,e=.returned (.tuple #[.int .i64 (0),.iface 326 (.pointer (some ⟨N,0,none⟩))])∧w.heap.size≤N∧w'.heap[N]?=some (.cells #[.string ⟨#[65,116,111,105]⟩,.string s,ev] 355 (0,0))∧Below w.heap.size w w':=Any.strconv_Atoi_syntax Tryz.laysC172 s hlim h ev w hv hev
theorem Tryz.strconv_Atoi_range (s:ByteArray) (hlim:s.size≤281474976710656) (h:Lib.atoiAll s.data.toList=.range) (ev:Value) (w:World) (hv:w.cell? ⟨2,0,none⟩=some ev) (hev:ev=.nilIface∨∃ te pe,ev=.iface te pe) :
  Calls Tryz.prog 252 #[.string s] w fun e w'=>∃ N,e=.returned (.tuple #[.int .i64 (Lib.atoiSat s.data.toList),.iface 326 (.pointer (some ⟨N,0,none⟩))])∧w.heap.size≤N∧w'.heap[N]?=some (.cells #[.string ⟨#[65,116,111,105]⟩,.string s,ev] 355 (0,0))∧Below w.heap.size w w':=Any.strconv_Atoi_range Tryz.laysC172 s hlim h ev w hv hev
def Tryz.lays219_ren:Go.Shelf.Ren:=⟨fun | 219=>348 | 217=>366 | 225=>376 | 224=>377 | 267=>378 | 266=>390 | 314=>395 | n=>n,fun | 9=>9 | 3=>3 | 4=>4 | 5=>5 | 46=>277 | 146=>377 | 51=>314 | n=>n,fun | 1=>0 | n=>n⟩
theorem Tryz.lays219:Go.Proofs.Lays.n219 Tryz.prog Tryz.lays219_ren:={
 mixed:=by kernel_rfl
 f217:=Tryz.func366.trans (congrArg some (by kernel_rfl))
 f219:=Tryz.func348.trans (congrArg some (by kernel_rfl))
 f224:=Tryz.func377.trans (congrArg some (by kernel_rfl))
 f225:=Tryz.func376.trans (congrArg some (by kernel_rfl))
 f266:=Tryz.func390.trans (congrArg some (by kernel_rfl))
 f267:=Tryz.func378.trans (congrArg some (by kernel_rfl))
 f314:=Tryz.func395.trans (congrArg some (by kernel_rfl))
 t3:=Tryz.underlying3
 a3:=Tryz.isAgg3
 z3:=Tryz.sizeOf3
 v3:=Tryz.zeroValue3
 t4:=Tryz.underlying4
 a4:=Tryz.isAgg4
 z4:=Tryz.sizeOf4
 v4:=Tryz.zeroValue4
 t5:=Tryz.underlying5
 a5:=Tryz.isAgg5
 z5:=Tryz.sizeOf5
 v5:=Tryz.zeroValue5
 t9:=Tryz.underlying9
 a9:=Tryz.isAgg9
 z9:=Tryz.sizeOf9
 v9:=Tryz.zeroValue9
 t46:=Tryz.underlying277
 a46:=Tryz.isAgg277
 z46:=Tryz.sizeOf277
 v46:=Tryz.zeroValue277
 t51:=Tryz.underlying314
 a51:=Tryz.isAgg314
 z51:=Tryz.sizeOf314
 v51:=Tryz.zeroValue314
 t146:=Tryz.underlying377
 a146:=Tryz.isAgg377
 z146:=Tryz.sizeOf377
 v146:=Tryz.zeroValue377
 g1:=by kernel_rfl }
theorem Tryz.stringslite_Index_one (s:ByteArray) (c:UInt8) (w:World) :
  Calls Tryz.prog 348 #[.string s,.string ⟨#[c]⟩] w fun e w'=>e=.returned (.int .i64 (Lib.indexByte s.data.toList c))∧w'=w:=Any.stringslite_Index_one Tryz.lays219 s c w
def Tryz.lays143_ren:Go.Shelf.Ren:=⟨fun | 143=>309 | 219=>348 | 217=>366 | 225=>376 | 224=>377 | 267=>378 | 266=>390 | 314=>395 | n=>n,fun | 9=>9 | 3=>3 | 4=>4 | 5=>5 | 46=>277 | 146=>377 | 51=>314 | n=>n,fun | 1=>0 | n=>n⟩
theorem Tryz.lays143:Go.Proofs.Lays.n143 Tryz.prog Tryz.lays143_ren:={
 mixed:=by kernel_rfl
 f143:=Tryz.func309.trans (congrArg some (by kernel_rfl))
 f217:=Tryz.func366.trans (congrArg some (by kernel_rfl))
 f219:=Tryz.func348.trans (congrArg some (by kernel_rfl))
 f224:=Tryz.func377.trans (congrArg some (by kernel_rfl))
 f225:=Tryz.func376.trans (congrArg some (by kernel_rfl))
 f266:=Tryz.func390.trans (congrArg some (by kernel_rfl))
 f267:=Tryz.func378.trans (congrArg some (by kernel_rfl))
 f314:=Tryz.func395.trans (congrArg some (by kernel_rfl))
 t3:=Tryz.underlying3
 a3:=Tryz.isAgg3
 z3:=Tryz.sizeOf3
 v3:=Tryz.zeroValue3
 t4:=Tryz.underlying4
 a4:=Tryz.isAgg4
 z4:=Tryz.sizeOf4
 v4:=Tryz.zeroValue4
 t5:=Tryz.underlying5
 a5:=Tryz.isAgg5
 z5:=Tryz.sizeOf5
 v5:=Tryz.zeroValue5
 t9:=Tryz.underlying9
 a9:=Tryz.isAgg9
 z9:=Tryz.sizeOf9
 v9:=Tryz.zeroValue9
 t46:=Tryz.underlying277
 a46:=Tryz.isAgg277
 z46:=Tryz.sizeOf277
 v46:=Tryz.zeroValue277
 t51:=Tryz.underlying314
 a51:=Tryz.isAgg314
 z51:=Tryz.sizeOf314
 v51:=Tryz.zeroValue314
 t146:=Tryz.underlying377
 a146:=Tryz.isAgg377
 z146:=Tryz.sizeOf377
 v146:=Tryz.zeroValue377
 g1:=by kernel_rfl }
theorem Tryz.strings_Index_one (s:ByteArray) (c:UInt8) (w:World) :
  Calls Tryz.prog 309 #[.string s,.string ⟨#[c]⟩] w fun e w'=>e=.returned (.int .i64 (Lib.indexByte s.data.toList c))∧w'=w:=Any.strings_Index_one Tryz.lays143 s c w
def Tryz.lays138_ren:Go.Shelf.Ren:=⟨fun | 138=>308 | 195=>345 | 218=>347 | 143=>309 | 219=>348 | 217=>366 | 225=>376 | 224=>377 | 267=>378 | 266=>390 | 314=>395 | n=>n,fun | 9=>9 | 3=>3 | 4=>4 | 5=>5 | 0=>0 | 46=>277 | 146=>377 | 51=>314 | n=>n,fun | 1=>0 | n=>n⟩
theorem Tryz.lays138:Go.Proofs.Lays.n138 Tryz.prog Tryz.lays138_ren:={
 mixed:=by kernel_rfl
 f138:=Tryz.func308.trans (congrArg some (by kernel_rfl))
 f143:=Tryz.func309.trans (congrArg some (by kernel_rfl))
 f195:=Tryz.func345.trans (congrArg some (by kernel_rfl))
 f217:=Tryz.func366.trans (congrArg some (by kernel_rfl))
 f218:=Tryz.func347.trans (congrArg some (by kernel_rfl))
 f219:=Tryz.func348.trans (congrArg some (by kernel_rfl))
 f224:=Tryz.func377.trans (congrArg some (by kernel_rfl))
 f225:=Tryz.func376.trans (congrArg some (by kernel_rfl))
 f266:=Tryz.func390.trans (congrArg some (by kernel_rfl))
 f267:=Tryz.func378.trans (congrArg some (by kernel_rfl))
 f314:=Tryz.func395.trans (congrArg some (by kernel_rfl))
 t0:=Tryz.underlying0
 a0:=Tryz.isAgg0
 z0:=Tryz.sizeOf0
 v0:=Tryz.zeroValue0
 t3:=Tryz.underlying3
 a3:=Tryz.isAgg3
 z3:=Tryz.sizeOf3
 v3:=Tryz.zeroValue3
 t4:=Tryz.underlying4
 a4:=Tryz.isAgg4
 z4:=Tryz.sizeOf4
 v4:=Tryz.zeroValue4
 t5:=Tryz.underlying5
 a5:=Tryz.isAgg5
 z5:=Tryz.sizeOf5
 v5:=Tryz.zeroValue5
 t9:=Tryz.underlying9
 a9:=Tryz.isAgg9
 z9:=Tryz.sizeOf9
 v9:=Tryz.zeroValue9
 t46:=Tryz.underlying277
 a46:=Tryz.isAgg277
 z46:=Tryz.sizeOf277
 v46:=Tryz.zeroValue277
 t51:=Tryz.underlying314
 a51:=Tryz.isAgg314
 z51:=Tryz.sizeOf314
 v51:=Tryz.zeroValue314
 t146:=Tryz.underlying377
 a146:=Tryz.isAgg377
 z146:=Tryz.sizeOf377
 v146:=Tryz.zeroValue377
 g1:=by kernel_rfl }
theorem Tryz.strings_Count_one (s:ByteArray) (c:UInt8) (w:World) :
  Calls Tryz.prog 308 #[.string s,.string ⟨#[c]⟩] w fun e w'=>e=.returned (.int .i64 (Lib.countByte s.data.toList c))∧w'=w:=Any.strings_Count_one Tryz.lays138 s c w
end Go.Proofs
end
section
namespace Go.Av.F
open Go Go.Av Go.Proofs Go.Proofs.Tryz Go.RowKit
theorem qdV {w:World} {Z:Addr→Prop} {γ:Gm} {s:List UInt8} {x:Value} (h:AVRel w Z γ (.str s) x):x=.string ⟨s.toArray⟩:=by cases h;rfl
theorem qnk {w:World} {Z:Addr→Prop} {γ:Gm} {k:IntKind} {n:Int} {x:Value} (h:AVRel w Z γ (.int k n) x):x=.int k n:=by cases h;rfl
theorem qoP (c:UInt8):∀ (s:List UInt8),-1≤Lib.indexByte s c
 | []=>by simp[Lib.indexByte]
 | x::r=>by
  have:=qoP c r;simp only[Lib.indexByte]
  repeat' split
  all_goals omega
theorem qeg (c:UInt8):∀ (s:List UInt8) (i:Int),qa8 c s i=if Lib.indexByte s c=-1 then -1 else i+Lib.indexByte s c
 | [],i=>by simp[qa8,Lib.indexByte]
 | x::r,i=>by
  have h1:=qeg c r (i+1);have h2:=qoP c r;simp only[qa8,Lib.indexByte];by_cases hx:x=c
  ·simp[hx]
  ·have:(x == c)=false:=by simpa using hx
   simp only[hx,this,if_false,h1,beq_iff_eq,qFY];split
   ·simp
   ·rw[if_neg (by omega)];omega
theorem qi3 (c:UInt8) (s:List UInt8):Lib.indexByte s c=qa8 c s 0:=by
 have:=qeg c s 0;rw[this];split <;> omega
theorem qoR (s:List UInt8) (c:UInt8):CV prog 329 [.str s,.int .u8 (c.toNat:Int)] (.int .i64 (qa8 c s 0)):=by
 refine qcl fun w Z vs hv hg hz=>?_;obtain⟨x,y,rfl,h1,h2⟩:=qsF hv;rw[qdV h1,qnk h2];refine(Tryz.strings_IndexByte _ _ w).mono ?_;rintro e w' ⟨rfl,rfl⟩;have e1:((c.toNat:Int).toNat).toUInt8=c:=by simp
 exact⟨_,rfl,by rw[e1,← qi3];exact .int _ _ _,.refl _ _⟩
theorem qxN (s:List UInt8) (c:UInt8):CV prog 309 [.str s,.str [c]] (.int .i64 (qa8 c s 0)):=by
 refine qcl fun w Z vs hv hg hz=>?_;obtain⟨x,y,rfl,h1,h2⟩:=qsF hv;rw[qdV h1,qdV h2];refine(Tryz.strings_Index_one _ c w).mono ?_;rintro e w' ⟨rfl,rfl⟩;exact⟨_,rfl,by rw[← qi3];exact .int _ _ _,.refl _ _⟩
theorem qBb (s:List UInt8) (c:UInt8):CV prog 348 [.str s,.str [c]] (.int .i64 (qa8 c s 0)):=by
 refine qcl fun w Z vs hv hg hz=>?_;obtain⟨x,y,rfl,h1,h2⟩:=qsF hv;rw[qdV h1,qdV h2];refine(Tryz.stringslite_Index_one _ c w).mono ?_;rintro e w' ⟨rfl,rfl⟩;exact⟨_,rfl,by rw[← qi3];exact .int _ _ _,.refl _ _⟩
theorem qFA (s:List UInt8) (c:UInt8):CV prog 308 [.str s,.str [c]] (.int .i64 (s.count c:Nat)):=by
 refine qcl fun w Z vs hv hg hz=>?_;obtain⟨x,y,rfl,h1,h2⟩:=qsF hv;rw[qdV h1,qdV h2];refine(Tryz.strings_Count_one _ c w).mono ?_;rintro e w' ⟨rfl,rfl⟩;exact⟨_,rfl,.int _ _ _,.refl _ _⟩
theorem qp4 (w:World) (k:Nat) (os:Array Obj):Below w.heap.size w (Go.Sort.grow (w.drewN k) os) :=
 ⟨rfl,rfl,rfl,by simp[Go.Sort.grow,World.drewN],fun i hi=>by
  show((w.drewN k).heap++os)[i]?=_;rw[qHd (by simpa [World.drewN]using hi)];rfl⟩
theorem qxI (n:Int) (h0:-9223372036854775808≤n) (h1:n≤9223372036854775807):CV prog 261 [.int .i64 n] (.str (Lib.itoa n)):=by
 refine qcl fun w Z vs hv hg hz=>?_;obtain⟨x,rfl,hx⟩:=qyp hv;rw[qnk hx];have htab:Lib.TabIs prog w "internal/strconv.uint64pow10" .u64 Lib.pow10Tab:=by
  have hgn:prog.globalNamed "internal/strconv.uint64pow10"=some 5:=by kernel_rfl
  obtain⟨ty,fz,hh⟩:=qBt hg (g:=5) (cs:=Lib.pow10Tab.map (AV.int .u64)) (by unfold gtab;rfl) (Lib.pow10Tab.map fun z=>Value.int .u64 z) (by simp) (fun x j hj hr=>by
   simp only[qGo,qGw]at hr ⊢;simp only[qG4]at hj;rw[qF3 hj]at hr ⊢;exact qnk hr) (by simp[Lib.pow10Tab])
  unfold Lib.TabIs World.var?;rw[hgn];simp only[qHu,hh]
 refine(Tryz.strconv_Itoa n h0 h1 w htab).mono ?_;rintro e w' ⟨rfl,k,os,rfl⟩;exact⟨_,rfl,.str _ _,qp4 _ _ _⟩
def qaI (s:List UInt8):Int:=match Lib.atoiAll s with
 | .ok v=>v
 | .range=>Lib.atoiSat s
 | _=>0
def qbD (s:List UInt8):Bool:=match Lib.atoiAll s with
 | .ok _=>true
 | _=>false
def qia (b:Bool):AV:=if b then .nili else .ifc
theorem qvx {w:World} {Z:Addr→Prop} (h:GlR w Z) {g:Nat} (hg:gtab g=some [.ifc]):∃ t v,w.cell? ⟨g,0,none⟩=some (.iface t v):=by
 obtain⟨h1,_,_⟩:=h g _ hg;generalize hp:(Value.pointer (some ⟨g,0,none⟩))=u at h1;cases h1 with
 | elm _ _ A vf hA hz hc hr =>
  injection hp with hp;injection hp with hp;subst hp;have c0:=hc 0 (by simp);have r0:=hr 0 (by simp);simp only[qGB]at r0;generalize vf 0=x at c0 r0;cases r0 with
  | ifc _ t v=>exact⟨t,v,by simpa [Addr.at]using c0⟩
theorem qmP (s:List UInt8) (hl:s.length≤281474976710656):CV prog 252 [.str s] (.tup [.int .i64 (qaI s),qia (qbD s)]):=by
 refine qcl (fun w Z vs hv hg hz=>?_) (hcv:=by unfold qia;split <;> simp[clA]);obtain⟨x,rfl,hx⟩:=qyp hv;rw[qdV hx];have tup:∀ {w:World} {a b:AV} {p q:Value},AVRel w Z noG a p→AVRel w Z noG b q→AVRel w Z noG (.tup [a,b]) (.tuple #[p,q]):=fun h1 h2=>.tup _ _ _ rfl fun j hj=>by
  match j,hj with
  | 0,_=>exact h1
  | 1,_=>exact h2
 have hsz:(⟨s.toArray⟩:ByteArray).size=s.length:=by simp[ByteArray.size]
 unfold qaI qbD;rcases hA:Lib.atoiAll s with v | _ | _
 ·refine(Tryz.strconv_Atoi_ok ⟨s.toArray⟩ (by rw[hsz];omega) v (by simpa using hA) w).mono ?_;rintro e w' ⟨rfl,hw⟩;refine⟨_,rfl,tup (.int _ _ _) (.nili _),?_⟩;rcases hw with rfl | ⟨t,rfl⟩
  ·exact .refl _ _
  ·unfold Lib.bytesWorld;refine⟨rfl,rfl,rfl,?_,fun k hk=>?_⟩
   ·show w.heap.size≤(Array.modify _ _ _).size;rw[Array.size_modify];refine qHR ?_;show w.heap.size<(w.drew.heap.push _).size;rw[Array.size_push];exact Nat.lt_succ_self _
   ·show(Array.modify _ w.heap.size _)[k]?=_;rw[qGN,if_neg (by omega)];exact Below.heap_alloc w.drew _ k hk
 ·obtain⟨te,pe,hc⟩:=qvx hg (g:=1) (by unfold gtab;rfl);refine(Tryz.strconv_Atoi_syntax ⟨s.toArray⟩ (by rw[hsz];omega) hA _ w hc (.inr ⟨te,pe,rfl⟩)).mono ?_;rintro e w' ⟨N,rfl,_,_,hb⟩;exact⟨_,rfl,tup (.int _ _ _) (.ifc _ _ _),hb⟩
 ·obtain⟨te,pe,hc⟩:=qvx hg (g:=2) (by unfold gtab;rfl);refine(Tryz.strconv_Atoi_range ⟨s.toArray⟩ (by rw[hsz];omega) (by simpa using hA) _ w hc (.inr ⟨te,pe,rfl⟩)).mono ?_;rintro e w' ⟨N,rfl,_,_,hb⟩;exact⟨_,rfl,tup (.int _ _ _) (.ifc _ _ _),hb⟩
end Go.Av.F
end
section
namespace Go.Av.F
open Go Go.Av Go.Proofs Go.Proofs.Tryz
def qfa (c:UInt8) (s:List UInt8):List UInt8×List UInt8×Bool:=if qa8 c s 0<0 then (s,[],false) else (s.take (qa8 c s 0).toNat,s.drop ((qa8 c s 0).toNat+1),true)
theorem qzU (s:List UInt8) (c:UInt8) (hs:s.length≤1048576):CV prog 328 [.str s,.str [c]] (.tup [.str (qfa c s).1,.str (qfa c s).2.1,.bool (qfa c s).2.2]):=by
 obtain⟨R,hR⟩:∃ R,qfa c s=R:=⟨_,rfl⟩;rw[hR];unfold qfa at hR;have hlt:=qgo c s 0 (by omega);have hge:=qgp c s 0 (by omega);have fc:=qBb s c;generalize qa8 c s 0=k at *
 refine cvx func328 [] ntmps328 rfl rfl rfl ?_;simp;refine fc.call ?_;by_cases h:k<0
 ·rw[if_pos h]at hR;have h':¬ 0≤k:=by omega
  simp[h',← hR]
 ·rw[if_neg h]at hR;have h':0≤k:=by omega
  have e1:=qap (k+1) (by omega) (by omega);have d1:(k+1).toNat=k.toNat+1:=by omega
  have d2:List.take (s.length-(k.toNat+1)) (List.drop (k.toNat+1) s)=List.drop (k.toNat+1) s:=qGh (by simp);simp[h',e1,d1,d2,← hR]
  repeat' first | with_reducible refine And.intro ?_ ?_ | omega
theorem qE8 (s:List UInt8) (c:UInt8) (hs:s.length≤1048576):CV prog 278 [.str s,.str [c]] (.tup [.str (qfa c s).1,.str (qfa c s).2.1,.bool (qfa c s).2.2]):=by
 refine cvx func278 [] ntmps278 rfl rfl rfl ?_;simp;refine(qzU s c hs).call ?_;simp
theorem qmF (c:UInt8):∀ (s cur:List UInt8),qaJ c s cur=if qa8 c s 0<0 then [cur++s] else (cur++s.take (qa8 c s 0).toNat)::qaJ c (s.drop ((qa8 c s 0).toNat+1)) []
 | [],cur=>by simp[qaJ,qa8]
 | x::r,cur=>by
  have ih:=qmF c r (cur++[x]);have h1:=qeg c r (0+1);have h2:=qeg c r 0;have h3:=qoP c r;simp only[qaJ,qa8];by_cases hx:x=c
  ·simp[hx]
  ·simp only[hx,if_false];rw[ih,h1,h2];by_cases h:Lib.indexByte r c=-1
   ·simp[h]
   ·have e:(0+1+Lib.indexByte r c).toNat=(0+Lib.indexByte r c).toNat+1:=by omega
    rw[if_neg h,if_neg h,e,if_neg (by omega),if_neg (by omega)];simp
theorem qj1 (c:UInt8):∀ (s:List UInt8),s.count c=if qa8 c s 0<0 then 0 else (s.drop ((qa8 c s 0).toNat+1)).count c+1
 | []=>by simp[qa8]
 | x::r=>by
  have ih:=qj1 c r;have h1:=qeg c r (0+1);have h2:=qeg c r 0;have h3:=qoP c r;simp only[qa8];by_cases hx:x=c
  ·simp[hx]
  ·have hc:List.count c (x::r)=List.count c r:=List.count_cons_of_ne (fun h=>hx h);simp only[hx,if_false];rw[hc,ih,h1,h2];by_cases h:Lib.indexByte r c=-1
   ·simp[h]
   ·have e:(0+1+Lib.indexByte r c).toNat=(0+Lib.indexByte r c).toNat+1:=by omega
    rw[if_neg h,if_neg h,e,if_neg (by omega),if_neg (by omega)];simp
theorem qsH (c:UInt8) (s:List UInt8):s.count c≤s.length:=List.count_le_length
theorem qx3 (s:List UInt8) (c:UInt8) (hs:s.length≤1048576):ACall prog 255 [.str s,.str [c],.int .i64 0,.int .i64 (-1)] [] (fun r L'=>r=.sl 900 0 (qaJ c s []).length∧L'=[(900,⟨1,(qaJ c s []).map qcx⟩)]):=by
 obtain⟨R,hR⟩:∃ R,qaJ c s []=R:=⟨_,rfl⟩;rw[hR];obtain⟨N,hN⟩:∃ N,s.count c=N:=⟨_,rfl⟩;have hNl:=qsH c s;have cc:=qFA s c;rw[hN]at cc hNl;have e1:=qap ((N:Int)+1) (by omega) (by omega);have e2:=qap ((s.length:Int)+1) (by omega) (by omega);have e3:¬ (s.length:Int)+1<(N:Int)+1:=by omega
 refine acx func255 [] ntmps255 rfl rfl rfl ?_;simp;refine cc.call ?_;have e4:((N:Int)+1).toNat=N+1:=by omega
 have e5:(N:Int)+1-1=N:=by omega
 have e6:=qap (N:Int) (by omega) (by omega);simp[e1,e2,e3,e4,e5,e6];refine⟨⟨by omega,by omega⟩,?_⟩;refine qaM (X:=Nat×List UInt8×List (List UInt8)) [0,1,2,3,9,10] [(31,900)] (fun x=>[(0,.str x.2.1),(9,.sl 900 0 (N+1)),(10,.int .i64 x.1)]) (fun x=>[(900,⟨1,x.2.2.map qcx⟩)]) (fun x=>N-x.1)
  (fun x=>x.1≤N∧x.2.2.length=N+1∧x.2.1.count c+x.1=N∧x.2.1.length≤s.length∧x.2.2.take x.1++qaJ c x.2.1 []=R) (0,s,List.replicate (N+1) []) ⟨by simp,by simp,by simp[hN],by simp,by simpa using hR⟩ ?_ (he:=by simp[qah,qcx])
 rintro⟨i,t,ps⟩ ⟨hi,hpl,hct,htl,hd⟩;simp only at hi hpl hct htl hd;have hcf:=qj1 c t;have hcr:=qmF c t [];have fc:=qxN t c;have hlt:=qgo c t 0 (by omega);have hge:=qgp c t 0 (by omega);by_cases h1:i<N
 ·have h1':(i:Int)<N:=by omega
  generalize qa8 c t 0=k at *
  have hk:¬ k<0:=by
   intro hk;rw[if_pos hk]at hcf;omega
  rw[if_neg hk]at hcf hcr;have w1:=qap k (by omega) (by omega);have w2:=qap (k+1) (by omega) (by omega);have w3:=qap ((i:Int)+1) (by omega) (by omega);have d1:(k+1).toNat=k.toNat+1:=by omega
  have d2:List.take (t.length-(k.toNat+1)) (List.drop (k.toNat+1) t)=List.drop (k.toNat+1) t:=qGh (by simp);simp[h1'];refine fc.call ?_;simp[h1',hk,w1,w2,w3,d1,d2,hpl];refine⟨⟨by omega,by omega⟩,by omega,by omega,⟨by omega,by omega⟩,?_⟩;refine nx (i+1,t.drop (k.toNat+1),ps.set i (t.take k.toNat)) [(900,900)] ⟨by simp only;omega,by simp only[qGP];omega,by simp only;omega,by simp only[qFU];omega,?_⟩ (by simp only;omega) (h4:=?_)
  ·show List.take (i+1) (ps.set i (List.take k.toNat t))++qaJ c (List.drop (k.toNat+1) t) []=R;rw[qgH (x:=t.take k.toNat) (by rw[qHK (by omega)]),List.take_set,qIG (by simp;omega),List.append_assoc];rw[hcr]at hd;simpa using hd
  ·obtain⟨q,hq⟩:∃ q,ps[i]?=some q:=⟨_,qF3 (by omega)⟩;simp[qah,w3,qH5,qcx,qf9,hq]
 ·have:i=N:=by omega
  subst this;have h1':¬ (i:Int)<i:=by omega
  simp[hpl];have hk:qa8 c t 0<0:=by
   rcases hge with h | h
   ·omega
   ·rw[if_neg (by omega)]at hcf;omega
  rw[if_pos hk]at hcr;rw[hcr]at hd;have hps:ps.set i t=R:=by
   rw[← hd];have h2:ps.set i t=(ps.set i t).take (i+1):=(qGh (by simp[hpl])).symm;rw[h2,qgH (x:=t) (by simp[hpl]),List.take_set,qIG (by simp;omega)];simp
  refine⟨by omega,⟨by omega,by omega⟩,?_,?_⟩
  ·rw[← hps,qH5];simp[qcx]
  ·rw[e1,← hps];simp[hpl]
theorem qx4 (s:List UInt8) (c:UInt8) (hs:s.length≤1048576):CV prog 255 [.str s,.str [c],.int .i64 0,.int .i64 (-1)] (.lst 1 ((qaJ c s []).map qcx)):=by
 refine CV.of_frz (qx3 s c hs) (fun r L' hR=>?_);obtain⟨rfl,rfl⟩:=hR;refine⟨by simp,by simp,?_,?_⟩
 ·simp[clR,qcx,clL,clA]
 ·simp[qa7,qGh];exact qaE _
theorem qit (s:List UInt8) (c:UInt8) (hs:s.length≤1048576):CV prog 179 [.str s,.str [c]] (.lst 1 ((qaJ c s []).map qcx)):=by
 refine cvx func179 [] ntmps179 rfl rfl rfl ?_;simp;refine(qx4 s c hs).call ?_;simp
theorem qic:∀ (k:Nat) (out:List UInt8),qnF k out=Lib.decDigits k++out:=by
 intro k
 induction k using Nat.strongRecOn with
 | ind k ih =>
  intro out;rw[qnF,Lib.decDigits];by_cases h:k<10
  ·rw[dif_pos (by omega),dif_pos h];rfl
  ·rw[dif_neg (by omega),dif_neg h,ih _ (by omega)];simp
theorem qkL (k:Nat):Lib.itoa (k:Int)=qnF k []:=by
 unfold Lib.itoa;rw[if_neg (by omega),qic];simp
theorem qoM (s:List UInt8) (hs:s.length≤maxLen):CV prog 298 [.str s] (.str (qdW s)):=by
 obtain⟨R,hR⟩:∃ R,qdW s=R:=⟨_,rfl⟩;rw[hR];have hml:maxLen=9223372036854775807:=rfl;have hlt:=qiq s (1+s.length % 997) (by omega);have sc:=qtV s hs;refine cvx func298 [] ntmps298 rfl rfl rfl ?_;unfold qdW at hR;by_cases h:400<s.length
 ·rw[if_pos h]at hR;have h':(400:Int)<s.length:=by omega
  simp[h',← hR]
 ·rw[if_neg h]at hR;have h':¬ (400:Int)<s.length:=by omega
  simp[h'];refine sc.call ?_;generalize qjB s (1+s.length % 997)=n at *
  have hl:=qk9 n [];simp only[qHf]at hl;simp;refine(qxI (n:Int) (by omega) (by omega)).call ?_;rw[qkL];simp[← hR];omega
theorem qsD (s:List UInt8):qbj s=if (qfa 58 s).2.2=true∧qdW (qfa 58 s).2.1=s then ((qfa 58 s).2.1,true) else ([],false):=by
 unfold qbj qfa;by_cases h:qa8 58 s 0<0
 ·simp[h]
 ·simp[h]
theorem qo8 (c:UInt8) (s:List UInt8):(qfa c s).1.length≤s.length∧(qfa c s).2.1.length≤s.length:=by
 unfold qfa;split <;> simp;omega
theorem qvq (s:List UInt8) (hs:s.length≤1048576):CV prog 251 [.str s] (.tup [.str (qbj s).1,.bool (qbj s).2]):=by
 obtain⟨R,hR⟩:∃ R,qbj s=R:=⟨_,rfl⟩;rw[hR];have hml:maxLen=9223372036854775807:=rfl;rw[qsD]at hR;have cc:=qE8 s 58 hs;have cl:=qo8 58 s;generalize qfa 58 s=k at *
 obtain⟨k1,k2,k3⟩:=k;simp only at cc cl hR;refine cvx func251 [] ntmps251 rfl rfl rfl ?_;simp;refine cc.call ?_;cases k3 with
 | false=>simp[← hR]
 | true =>
  simp;refine(qoM k2 (by omega)).call ?_;by_cases h2:qdW k2=s
  ·simp[h2,← hR]
  ·simp[h2,← hR]
theorem qne:∀ (l:List UInt8) (n m:Nat),qfn n l=some m→n * 10 ^ l.length≤m
 | [],n,m,h=>by
  simp only[qfn,qFQ]at h;simp[h]
 | x::r,n,m,h=>by
  unfold qfn at h;split at h
  ·cases h
  ·have:=qne r _ m h;refine qFN ?_ this;rw[qGk,qIF,qGS (10 ^ r.length),← Nat.mul_assoc];exact qF0 _ (by omega)
theorem qoA:∀ (a b:List UInt8) (n:Nat),qfn n (a++b)=(qfn n a).bind fun m=>qfn m b
 | [],b,n=>rfl
 | x::r,b,n=>by
  simp only[qHS,qfn];split
  ·rfl
  ·exact qoA r b _
theorem qjw {d:Nat} (h:d<10):(UInt8.ofNat (48+d)).toNat=48+d:=by
 simp only[qIA];exact qGT (by omega)
theorem qvG {x:UInt8} (h1:48≤x.toNat):UInt8.ofNat (48+(x.toNat-48))=x:=by
 rw[show 48+(x.toNat-48)=x.toNat by omega];simp
theorem qoz {n d:Nat} (h:d<10):qfn n [UInt8.ofNat (48+d)]=some (n * 10+d):=by
 unfold qfn;rw[qjw h,if_neg (by omega)];simp[qfn]
theorem qkE:∀ n,qfn 0 (Lib.decDigits n)=some n:=by
 intro n
 induction n using Nat.strongRecOn with
 | ind n ih =>
  rw[Lib.decDigits];by_cases h:n<10
  ·rw[dif_pos h,qoz h];simp
  ·rw[dif_neg h,qoA,ih _ (by omega)];simp only[qHu];rw[qoz (by omega)]
   congr 1
   omega
theorem qyi {n d:Nat} (hn:1≤n) (hd:d<10):Lib.decDigits (n * 10+d)=Lib.decDigits n++[UInt8.ofNat (48+d)]:=by
 rw[Lib.decDigits,dif_neg (by omega),show(n * 10+d) / 10=n by omega,show(n * 10+d) % 10=d by omega]
theorem qo4:∀ (l:List UInt8) (n m:Nat),1≤n→qfn n l=some m→Lib.decDigits m=Lib.decDigits n++l
 | [],n,m,hn,h=>by
  simp only[qfn,qFQ]at h;simp[h]
 | x::r,n,m,hn,h=>by
  unfold qfn at h;split at h
  ·cases h
  ·rename_i hx;rw[qo4 r _ m (by omega) h,qyi hn (by omega),qvG (by omega)];simp
theorem qnD {t:List UInt8} {m:Nat} (h0:t≠[]) (hz:t.head?=some 48→t.length≤1) (h:qfn 0 t=some m):Lib.decDigits m=t:=by
 cases t with
 | nil=>exact absurd rfl h0
 | cons x r =>
  unfold qfn at h;split at h
  ·cases h
  ·rename_i hx;have hxd:=qvG (x:=x) (by omega);by_cases hx0:x=48
   ·have:=hz (by simp[hx0]);have hr:r=[]:=qHM (by simpa using this);subst hr;simp only[qfn,qFQ]at h;rw[← h,Lib.decDigits,dif_pos (by omega)];simpa using hxd
   ·have hx1:x.toNat≠48:=fun h=>hx0 (qIb.1 h);rw[qo4 r _ m (by omega) h];have:Lib.decDigits (0 * 10+(x.toNat-48))=[x]:=by
     rw[Lib.decDigits,dif_pos (by omega)];simpa using hxd
    rw[this];rfl
theorem qlF {t:List UInt8} {n:Int} (h:qaB t=(n,true)):Lib.itoa n=t∧n.natAbs<10 ^ 17:=by
 have lt17:∀ (l:List UInt8) (k m:Nat),qfn k l=some m→m<(k+1) * 10 ^ l.length:=by
  intro l
  induction l with
  | nil=>intro k m h;simp only[qfn,qFQ]at h;simp;omega
  | cons x r ih =>
   intro k m h;unfold qfn at h;split at h
   ·cases h
   ·have:=ih _ _ h;refine qFO this ?_;rw[qGk,qIF,qGS (10 ^ r.length),← Nat.mul_assoc];exact qF0 _ (by omega)
 have key:∀ (neg:Bool) (s:List UInt8),qtP neg s=(n,true)→∃ m,Lib.decDigits m=s∧n=(if neg=true then -(m:Int) else m)∧m<10 ^ 17∧(neg=true→1≤m):=by
  intro neg s hs;unfold qtP at hs;split at hs
  ·cases hs
  ·rename_i hc;simp only[not_or,not_and]at hc;split at hs
   ·cases hs
   ·rename_i m hm;injection hs with h1 _;have hz:s.head?=some 48→s.length≤1:=fun hh=>by have:=(hc.2.2 hh).1;omega
    refine⟨m,qnD (by intro h;simp[h]at hc) hz hm,h1.symm,?_,fun hn=>?_⟩
    ·have:=lt17 s 0 m hm;have h2:(10:Nat) ^ s.length≤10 ^ 17:=qIE (by omega) (by omega);omega
    ·cases s with
     | nil=>simp at hc
     | cons x r =>
      have hx:x≠48:=fun h=>by have:=(hc.2.2 (by simp[h])).2;exact this hn
      have hx1:x.toNat≠48:=fun h=>hx (qIb.1 h);unfold qfn at hm;split at hm
      ·cases hm
      ·have:=qne r _ m hm;have:1 * 1≤(0 * 10+(x.toNat-48)) * 10 ^ r.length:=Nat.mul_le_mul (by omega) (Nat.pow_pos (by omega));omega
 unfold qaB at h;split at h
 ·rename_i hh;obtain⟨m,h1,h2,h3,h4⟩:=key true _ h;have h4:=h4 rfl;simp only[if_true]at h2;subst h2;cases t with
  | nil=>simp at hh
  | cons x r =>
   simp only[qIC,qFQ]at hh;subst hh;refine⟨?_,by omega⟩;unfold Lib.itoa;rw[if_pos (by omega),show(-(m:Int)).natAbs=m by omega,h1];rfl
 ·obtain⟨m,h1,h2,h3,_⟩:=key false _ h;simp only[qFY,if_false]at h2;subst h2;refine⟨?_,by omega⟩;unfold Lib.itoa;rw[if_neg (by omega)];simpa using h1
theorem qvI (n:Nat):Lib.decDigits n≠[]:=by
 rw[Lib.decDigits];split <;> simp
theorem qk7 (n:Nat):∃ x r,Lib.decDigits n=x::r∧48≤x.toNat∧x.toNat≤57:=by
 induction n using Nat.strongRecOn with
 | ind n ih =>
  rw[Lib.decDigits];by_cases h:n<10
  ·rw[dif_pos h];exact⟨_,_,rfl,by rw[qjw h];omega,by rw[qjw h];omega⟩
  ·rw[dif_neg h];obtain⟨x,r,h1,h2,h3⟩:=ih (n / 10) (by omega);exact⟨x,r++[UInt8.ofNat (48+n % 10)],by rw[h1];rfl,h2,h3⟩
theorem quq (n:Nat) (h:(Lib.decDigits n).head?=some 48):n=0:=by
 induction n using Nat.strongRecOn with
 | ind n ih =>
  rw[Lib.decDigits]at h;by_cases h9:n<10
  ·rw[dif_pos h9]at h;simp only[qIC,qFQ]at h;have h2:=qjw h9;rw[h]at h2;simp at h2;omega
  ·rw[dif_neg h9]at h;obtain⟨x,r,h1,_,_⟩:=qk7 (n / 10);have:=ih (n / 10) (by omega) (by rw[h1]at h ⊢;simpa using h);omega
theorem qk6 (n:Nat):∀ k,n<10 ^ k→1≤k→(Lib.decDigits n).length≤k:=by
 induction n using Nat.strongRecOn with
 | ind n ih =>
  intro k hk h1;rw[Lib.decDigits];by_cases h:n<10
  ·rw[dif_pos h];simpa using h1
  ·rw[dif_neg h];obtain⟨j,rfl⟩:∃ j,k=j+1:=⟨k-1,by omega⟩;rw[qIF]at hk;have hj:1≤j:=by
    rcases qG6 j with h0 | h0
    ·subst h0;simp at hk;omega
    ·exact h0
   have:=ih (n / 10) (by omega) j (by omega) hj;simp;omega
theorem qqT {n:Int} (h:n.natAbs<10 ^ 17):qaB (Lib.itoa n)=(n,true):=by
 have key:∀ (m:Nat) (neg:Bool),m<10 ^ 17→(neg=true→1≤m)→qtP neg (Lib.decDigits m)=(if neg=true then -(m:Int) else m,true):=fun m neg hm hn=>by
  unfold qtP;have h1:=qk6 m 17 hm (by omega);have h2:=qFZ.2 (qvI m);rw[if_neg,qkE];rintro(h | h | ⟨h,h'⟩)
  ·omega
  ·omega
  ·have h0:=quq m h;subst h0;rcases h' with h' | h'
   ·rw[Lib.decDigits]at h';simp at h'
   ·have:=hn h';omega
 unfold Lib.itoa qaB;by_cases h0:n<0
 ·rw[if_pos h0];simp only[qIC,if_true,qID];rw[key _ true h (fun _=>by omega)];simp;omega
 ·rw[if_neg h0];obtain⟨x,r,h1,h2,h3⟩:=qk7 n.toNat;have hx:¬ (Lib.decDigits n.toNat).head?=some 45:=by
   rw[h1];intro h;simp only[qIC,qFQ]at h;subst h;simp at h2
  rw[if_neg hx,key _ false (by omega) (by simp)];simp;omega
theorem qgU:∀ (l:List UInt8) (acc m:Nat),qfn acc l=some m→m<18446744073709551616→Lib.parseUint10 acc l=.ok m
 | [],acc,m,h,hm=>by
  simp only[qfn,qFQ]at h;simp[Lib.parseUint10,h]
 | x::r,acc,m,h,hm=>by
  unfold qfn at h;split at h
  ·cases h
  ·rename_i hx;have h1:=qne r _ m h;have h2:(acc * 10+(x.toNat-48)) * 1≤(acc * 10+(x.toNat-48)) * 10 ^ r.length:=Nat.mul_le_mul_left _ (Nat.pow_pos (by omega));have h3:=qgU r _ m h hm;simp only[Lib.parseUint10];rw[if_pos (by omega),if_neg (by omega),if_neg (by omega),h3]
theorem qsQ (n:Int) (h0:-9223372036854775808≤n) (h1:n≤9223372036854775807):Lib.atoiAll (Lib.itoa n)=.ok n:=by
 unfold Lib.itoa;by_cases h:n<0
 ·rw[if_pos h];simp only[Lib.atoiAll,Lib.parseMag];have h45:(45:UInt8).toNat=45:=rfl;simp only[h45,or_true,if_true,qvI,if_false];rw[qgU _ _ _ (qkE _) (by omega)];simp;rw[if_neg (by omega)]
  congr 1
  omega
 ·rw[if_neg h];obtain⟨x,r,e1,h2,h3⟩:=qk7 n.toNat;have e2:=qgU _ _ _ (qkE n.toNat) (by omega);rw[e1]at e2 ⊢;have n1:¬ (x.toNat=43∨x.toNat=45):=by omega
  have n2:¬ x.toNat=45:=by omega
  have n3:¬ x.toNat=43:=by omega
  have n4:¬ 9223372036854775808≤n.toNat:=by omega
  simp[Lib.atoiAll,Lib.parseMag,n1,n2,n3,n4,e2];omega
def qdK (t:List UInt8):Bool:=qbD t && decide (Lib.itoa (qaI t)=t)
theorem qj6 {n:Int} (h0:-9223372036854775808≤n) (h1:n≤9223372036854775807):qdK (Lib.itoa n)=true∧qaI (Lib.itoa n)=n:=by
 have a:=qsQ n h0 h1;unfold qdK qbD qaI;rw[a];simp
theorem qfr (t:List UInt8):(qdK t=true∧(qaI t).natAbs<10 ^ 17)↔(qaB t).2=true:=by
 constructor
 ·rintro⟨h1,h2⟩;simp only[qdK,Bool.and_eq_true,decide_eq_true_eq]at h1;have:=qqT h2;rw[h1.2]at this;rw[this]
 ·intro h;have h2:qaB t=((qaB t).1,true):=by rw[← h]
  obtain⟨h3,h4⟩:=qlF h2;obtain⟨h5,h6⟩:=qj6 (n:=(qaB t).1) (by omega) (by omega);rw[h3]at h5 h6;exact⟨h5,by rw[h6];exact h4⟩
theorem qho {t:List UInt8} (h:(qaB t).2=true):qaI t=(qaB t).1:=by
 have h2:qaB t=((qaB t).1,true):=by rw[← h]
 obtain⟨h3,h4⟩:=qlF h2;obtain⟨_,h6⟩:=qj6 (n:=(qaB t).1) (by omega) (by omega);rw[h3]at h6;exact h6
theorem qD1 (s:List UInt8) (hs:s.length≤1048576):CV prog 279 [.str s] (.tup [.str (qfu s []).1,.bool (qfu s []).2]):=by
 obtain⟨R,hR⟩:∃ R,qfu s []=R:=⟨_,rfl⟩;rw[hR];have hml:maxLen=9223372036854775807:=rfl;have t1:(s.length:Int).tmod 2=(s.length:Int) % 2:=qIy (by omega);refine cvx func279 [(7,[zI 0,zI 1,zI 2,zI 4,zI 5,zI 6,zI 7,zI 3,zI 8,zI 9,zI 10])] ntmps279 rfl rfl rfl ?_;by_cases hodd:s.length % 2=0
 ·have h1:(s.length:Int) % 2=0:=by omega
  simp[t1,h1];refine qe8 (qkf 4 1 (by simp) (by simp)) ?_;refine qaM (X:=Nat×List UInt8) [0,4,5] [(4,900)] (fun x=>[(5,.int .i64 x.1),(4,.sl 900 0 x.2.length)]) (fun x=>[(900,⟨1,x.2.map qgG⟩)]) (fun x=>s.length-x.1) (fun x=>x.1≤s.length∧x.1 % 2=0∧x.2.length≤x.1∧qfu (s.drop x.1) x.2=R) (0,[]) (by simp[hR]) ?_ (he:=by simp[qah]);rintro⟨i,out⟩ ⟨hi,hev,hol,hd⟩;simp only at hi hev hol hd;by_cases h2:i<s.length
  ·obtain⟨a,f1⟩:∃ a,s[i]?=some a:=⟨_,qF3 (by omega)⟩;obtain⟨b,f2⟩:∃ b,s[i+1]?=some b:=⟨_,qF3 (by omega)⟩;rw[qfI f1,qfI f2,qfu]at hd;have h3:i+1<s.length:=by omega
   have g1:s[i]=a:=(qGy.1 f1).2;have g2:s[i+1]=b:=(qGy.1 f2).2;have c1:=qoR hexL a;have c2:=qoR hexL b;have b1:=quc a;have b2:=quc b;obtain⟨p,hp⟩:∃ p,qa8 a hexL 0=p:=⟨_,rfl⟩;obtain⟨q,hq⟩:∃ q,qa8 b hexL 0=q:=⟨_,rfl⟩;rw[hp]at c1 b1 hd;rw[hq]at c2 b2 hd;simp only[hexL]at c1 c2;have e1:=qap ((i:Int)+1) (by omega) (by omega);have e2:=qap ((i:Int)+2) (by omega) (by omega);have e3:((i:Int)+1).toNat=i+1:=by omega
   simp[h2,h3,f1,g1,f2,g2,e1,e3];refine⟨by omega,?_⟩;refine c1.call ?_;simp[h2,h3,f1,g1,f2,g2,e1,e3];refine c2.call ?_;by_cases hpn:p<0
   ·rw[if_pos (.inl hpn)]at hd;simp[hpn,← hd]
   ·by_cases hqn:q<0
    ·rw[if_pos (.inr hqn)]at hd;simp[hpn,hqn,← hd]
    ·rw[if_neg (by omega)]at hd;have w1:=qap (16 * p) (by omega) (by omega);have w2:=qap (16 * p+q) (by omega) (by omega);have w3:IntKind.u8.wrap (16 * p+q)=16 * p+q:=by
      show(16 * p+q) % 256=_;omega
     simp[hpn,hqn,w1,w2,w3];refine⟨by omega,?_⟩;have hu:qgG (UInt8.ofNat (p * 16+q).toNat)=[.int .u8 (16 * p+q)]:=by
      show [AV.int .u8 (((UInt8.ofNat (p * 16+q).toNat).toNat:Nat):Int)]=_;simp only[qIA];have:(p * 16+q).toNat % 2 ^ 8=(p * 16+q).toNat:=qGT (by omega);rw[this];have:(((p * 16+q).toNat:Nat):Int)=16 * p+q:=by omega
      rw[this]
     refine nx (i+2,out++[UInt8.ofNat (p * 16+q).toNat]) [(40,900)] ⟨by simp only;omega,by simp only;omega,by simp;omega,hd⟩ (by simp only;omega) (h4:=?_);simp[qah,e2,hu,qGh,qhX]
  ·have:i=s.length:=by omega
   subst this;rw[qHL (by omega),qfu]at hd;simp[qgz,qGh];exact⟨fun _ _=>rfl,by rw[← hd],by rw[← hd]⟩
 ·have h1:(s.length:Int) % 2=1:=by omega
  have ho:∀ (n:Nat) (l o:List UInt8),l.length=2 * n+1→qfu l o=([],false):=by
   intro n
   induction n with
   | zero =>
    intro l o hl
    match l,hl with
    | [x],_=>rfl
   | succ n ih =>
    intro l o hl
    match l,hl with
    | a::b::r,hl =>
     unfold qfu;split
     ·rfl
     ·exact ih r _ (by simp at hl;omega)
  have:=ho (s.length / 2) s [] (by omega);rw[this]at hR;simp[t1,h1,← hR]
def qqi (n:Nat):UInt8:=hexL.getD n 0
theorem qzX (n:Nat) (h:n<16):CV prog 389 [.int .i64 n] (.int .u8 (qqi n).toNat):=by
 refine cvx func389 [] ntmps389 rfl rfl rfl ?_;have hn:(n:Int)<16:=by omega
 have h0:n<hexL.length:=by simpa [hexL]using h
 have e:hexL[n]'h0=qqi n:=by simp[qqi,List.getD,h0]
 simp only[hexL]at h0 e;simp[hn,h0,h,e]
 try omega
def qeI:List UInt8→List UInt8
 | []=>[]
 | c::r=>qqi (c.toNat / 16)::qqi (c.toNat % 16)::qeI r
theorem qgl:∀ s,(qeI s).length=2 * s.length
 | []=>rfl
 | c::r=>by simp[qeI,qgl r];omega
theorem qDt (s:List UInt8) (hs:s.length≤1048576):CV prog 365 [.str s] (.str (qeI s)):=by
 obtain⟨R,hR⟩:∃ R,qeI s=R:=⟨_,rfl⟩;rw[hR];refine cvx func365 [(5,[zI 0,zI 1,zI 2,zI 3,zI 4,zI 5,zI 7,zI 8,zI 9,zI 10,zI 11,zI 6,zI 12,zI 13,zI 14,zI 15])] ntmps365 rfl rfl rfl ?_;simp;refine qaM (X:=Nat×List UInt8) [0,3,4] [(5,900)] (fun x=>[(4,.int .i64 x.1),(3,.sl 900 0 x.2.length)]) (fun x=>[(900,⟨1,x.2.map qgG⟩)]) (fun x=>s.length-x.1) (fun x=>x.1≤s.length∧x.2.length=2 * x.1∧x.2++qeI (s.drop x.1)=R) (0,[]) (by simp[hR]) ?_ (he:=by simp[qah]);rintro⟨i,out⟩ ⟨hi,hol,hd⟩;simp only at hi hol hd;cases hr:s.drop i with
 | nil =>
  have:=qaY hr;rw[hr,qeI]at hd;have hie:i=s.length:=by omega
  subst hie;simp only[qH6]at hd;simp[qgz,qGh,hd];exact fun x _=>rfl
 | cons x r =>
  obtain⟨h1,e0,e1,h3⟩:=qaZ hr;rw[hr,qeI]at hd;have e2:=qap ((i:Int)+1) (by omega) (by omega);have hx:=x.toNat_lt;have w1:=qap (x.toNat:Int) (by omega) (by omega);have q1:((x.toNat:Int)).tdiv 16=(x.toNat:Int) / 16:=qIz (by omega);have q2:((x.toNat:Int)).tmod 16=(x.toNat:Int) % 16:=qIy (by omega);have w2:=qap ((x.toNat:Int) / 16) (by omega) (by omega);have c1:=qzX (x.toNat / 16) (by omega);have c2:=qzX (x.toNat % 16) (by omega);rw[show((x.toNat / 16:Nat):Int)=(x.toNat:Int) / 16 by omega]at c1;rw[show((x.toNat % 16:Nat):Int)=(x.toNat:Int) % 16 by omega]at c2;simp[h1,e0,e1,w1,q1,q2,w2];refine c1.call ?_;simp[h1,e0,e1,w1,q1,q2,w2];refine c2.call ?_;simp;refine⟨by omega,?_⟩;refine nx (i+1,out++[qqi (x.toNat / 16),qqi (x.toNat % 16)]) [(26,900)] ⟨by simp only;omega,by simp;omega,by simp only[h3];simpa using hd⟩ (by simp only;omega) (h4:=?_);simp[qah,e2,qGh,qhX,qgG]
  try trace_state
theorem qqV (s:List UInt8):(qdW s).length≤70000:=by
 unfold qdW;split
 ·simp
 ·have h1:=qk9 (qjB s (1+s.length % 997)) [];have h2:=qiq s (1+s.length % 997) (by omega);simp at h1 ⊢;omega
structure LT where
 ls:Int
 la:Int
 lx:List UInt8
deriving DecidableEq,Inhabited
def LT.row (w:LT):List AV:=[.int .i64 w.ls,.int .i64 w.la,.str w.lx]
structure DK where
 s0:List (List UInt8)
 s1:List (List UInt8)
 late:List LT
deriving DecidableEq,Inhabited
def DK.row (d:DK):List AV:=[.lst 1 (d.s0.map qai),.lst 1 (d.s1.map qai),.lst 3 (d.late.map LT.row)]
def qcE (l:List LT):Ob:=⟨3,l.map LT.row⟩
structure DkT (d:DK):Prop where
 l0:d.s0.length≤1048576
 l1:d.s1.length≤1048576
 l2:d.late.length≤1048576
 t0:∀ x∈d.s0,x.length≤1048576
 t1:∀ x∈d.s1,x.length≤1048576
 t2:∀ w∈d.late,w.lx.length≤1048576
def qbb (d:DK) (side at':Int) (text:List UInt8):Bool:=decide (0≤side) && decide (side≤1) && decide (0≤at') && decide (at'<d.s0.length) && decide (text.length≤420)
theorem qm8 (d:DK) (h:DkT d) (side at':Int) (text:List UInt8) (ht:text.length≤1048576):CV prog 153 [.agg d.row,.int .i64 side,.int .i64 at',.str text] (.bool (qbb d side at' text)):=by
 have:=h.l0;refine cvx func153 [] ntmps153 rfl rfl rfl ?_ (hca:=by simp[DK.row]);simp[DK.row,qbb];grind
def qbr (d:DK):Bool:=decide (1≤d.s0.length) && decide (d.s0.length≤120) && decide (d.s1.length=d.s0.length) && decide (d.late.length≤600) &&
 d.s0.all (fun x=>decide (x.length≤420)) && d.s1.all (fun x=>decide (x.length≤420)) && d.late.all (fun w=>qbb d w.ls w.la w.lx)
theorem qdN (d:DK) (h:DkT d):CV prog 74 [.agg d.row] (.bool (qbr d)):=by
 obtain⟨R,hR⟩:∃ R,qbr d=R:=⟨_,rfl⟩;rw[hR];have h0:=h.l0;have h1:=h.l1;have h2:=h.l2;refine cvx func74 [(12,[zJ 0 [1] [],zJ 1 [] [1],zJ 2 [1] [1],zJ 3 [] [1],zJ 4 [] [1],zJ 5 [] [1],zJ 6 [] [1],zJ 7 [] [1],zJ 8 [1] [1],zJ 9 [] [1],zJ 10 [] [1],zJ 11 [] [1],zJ 12 [] [1],zJ 13 [] [1],zJ 14 [1] [1],zJ 15 [] [1],zJ 16 [] [1],zJ 17 [] [1],zJ 18 [] [1],zI 19,zI 20])] ntmps74 rfl rfl rfl ?_ (hca:=by simp[DK.row]);by_cases g:1≤d.s0.length∧d.s0.length≤120∧d.s1.length=d.s0.length∧d.late.length≤600;rotate_left
 ·have:R=false:=by rw[← hR];unfold qbr;grind
  subst this;simp[DK.row];grind
 obtain⟨g1,g2,g3,g4⟩:=g;have g1':¬ (d.s0.length:Int)<1:=by omega
 have g2':¬ 120<(d.s0.length:Int):=by omega
 have g4':¬ 600<(d.late.length:Int):=by omega
 simp[DK.row,g1',g2',g3,g4'];refine qbe (X:=Nat) [1,2,3,4] [(1,1)] (fun i=>[(4,.int .i64 i)]) (fun _=>[]) (fun i=>d.s0.length-i) (fun i=>i≤d.s0.length∧((d.s0.drop i).all (fun x=>decide (x.length≤420)) && (d.s1.drop i).all (fun x=>decide (x.length≤420)) && d.late.all (fun w=>qbb d w.ls w.la w.lx))=R) 0 (by simp[← hR,qbr,g1,g2,g3,g4]) ?_ (he:=by simp[qah]);rintro i ⟨hi,hd⟩;by_cases hlt:i<d.s0.length
 ·have hlt1:i<d.s1.length:=by omega
  have k0:=qF7 hlt;have k1:=qF7 hlt1;generalize ex:d.s0[i]=x at *
  generalize ey:d.s1[i]=y at *
  have hx:=qGy.2 ⟨hlt,ex⟩;have hy:=qGy.2 ⟨hlt1,ey⟩;rw[k0,k1]at hd;simp only[qHm]at hd;have hli:(i:Int)<d.s0.length:=by omega
  have e2:=qap ((i:Int)+1) (by omega) (by omega);simp[qah,qai,hlt,hlt1,ex,ey,hx,hy,hli,e2,g3]
  repeat' first
   | with_reducible refine And.intro ?_ ?_
   | with_reducible intro _
  all_goals first
   | exact nx (i+1) [(1,1)] (by grind) (h4:=by simp[qah])
   | grind
 ·have hie:i=d.s0.length:=by omega
  subst hie;rw[qGb (qFM _),qGb (by omega)]at hd;simp only[qIH,qIe]at hd;simp[qah];refine qbe (X:=Nat) [1,2,3,5] [(1,1)] (fun i=>[(5,.int .i64 i)]) (fun _=>[]) (fun i=>d.late.length-i) (fun i=>i≤d.late.length∧((d.late.drop i).all (fun w=>qbb d w.ls w.la w.lx))=R) 0 (by simp[hd]) ?_ (he:=by simp[qah]);rintro i ⟨hi,hd⟩;cases hr:d.late.drop i with
  | nil =>
   have:=qaY hr;rw[hr]at hd;have hie:i=d.late.length:=by omega
   subst hie;simp[qah];simpa using hd
  | cons w q =>
   obtain⟨k1,e0,e1,k3⟩:=qaZ hr;rw[hr]at hd;simp only[qHm]at hd;have hli:(i:Int)<d.late.length:=by omega
   have e2:=qap ((i:Int)+1) (by omega) (by omega);have hw:=h.t2 w (qHT e1);have c:=qm8 d h w.ls w.la w.lx hw;simp only[DK.row]at c;simp[qah,LT.row,k1,e0,e1,hli,e2];refine c.call ?_;simp[e2]
   repeat' first
    | with_reducible refine And.intro ?_ ?_
    | with_reducible intro _
   all_goals first
    | exact nx (i+1) [(1,1)] (by grind) (h4:=by simp[qah,e2])
    | grind
def qdk (side at':Int) (w:LT):Bool:=decide (w.ls=side) && decide (w.la=at')
def qpu (d:DK) (side:Int):List (List UInt8):=if side=0 then d.s0 else d.s1
def qdZ (d:DK) (side at':Int):List UInt8:=match d.late.reverse.find? (qdk side at')with
 | some w=>w.lx
 | none=>(qpu d side)[at'.toNat]?.getD []
theorem qoV {α:Type} (p:α→Bool) {l:List α} {i:Nat} {x:α} (h:l[i]?=some x) (ha:(l.drop (i+1)).all (fun y=>!p y)=true):(if p x=true then l.reverse.find? p=some x else l.reverse.find? p=(l.take i).reverse.find? p):=by
 have e:l=l.take i++x::l.drop (i+1):=by
  obtain⟨h1,rfl⟩:=qGy.1 h;rw[← List.drop_eq_getElem_cons h1,qHX]
 have e2:l.reverse=(l.drop (i+1)).reverse++x::(l.take i).reverse:=by
  conv=>lhs;rw[e]
  simp
 have e3:(l.drop (i+1)).reverse.find? p=none:=by
  rw[qIw];intro y hy;rw[qII]at hy;simpa using qGf.1 ha y hy
 rw[e2,List.find?_append,e3,Option.none_or,List.find?_cons];cases p x <;> simp
theorem qq0 (d:DK) (h:DkT d) (side at':Int) (hs:side=0∨side=1) (ha:0≤at'∧at'<d.s0.length) (h1:d.s1.length=d.s0.length):CV prog 82 [.agg d.row,.int .i64 side,.int .i64 at'] (.str (qdZ d side at')):=by
 obtain⟨R,hR⟩:∃ R,qdZ d side at'=R:=⟨_,rfl⟩;rw[hR];have h0:=h.l0;have h2:=h.l2;refine cvx func82 [] ntmps82 rfl rfl rfl ?_ (hca:=by simp[DK.row]);have e0:=qap ((d.late.length:Int)-1) (by omega) (by omega);simp[DK.row,e0];refine qbe (X:=Nat) [1,2,3,7] [(3,3)] (fun i=>[(7,.int .i64 ((i:Int)-1))]) (fun _=>[]) (fun i=>i) (fun i=>i≤d.late.length∧(d.late.drop i).all (fun w=>!qdk side at' w)=true) d.late.length (by simp) ?_ (he:=by simp[qah]);rintro i ⟨hi,hd⟩;cases i with
 | zero =>
  have hf:d.late.reverse.find? (qdk side at')=none:=by
   rw[qIw];intro y hy;rw[qII]at hy;simpa using qGf.1 hd y hy
  unfold qdZ at hR;rw[hf]at hR;have ha0:at'.toNat<d.s0.length:=by omega
  have ha1:at'.toNat<d.s1.length:=by omega
  have ha1':at'<d.s1.length:=by omega
  rcases hs with rfl | rfl
  ·have hx:d.s0[at'.toNat]?=some R:=by
    rw[qF3 ha0];simpa [qpu,qF3 ha0]using hR
   have hx0:=(qGy.1 hx).2;simp[qah,ha.1,ha.2,ha0,hx,hx0,qai]
  ·have hx:d.s1[at'.toNat]?=some R:=by
    rw[qF3 ha1];simpa [qpu,qF3 ha1]using hR
   have hx0:=(qGy.1 hx).2;simp[qah,ha.1,ha1',ha1,hx,hx0,qai]
 | succ k =>
  have hk:k<d.late.length:=by omega
  obtain⟨w,hw⟩:∃ w,d.late[k]?=some w:=⟨_,qF3 hk⟩;have hw0:=(qGy.1 hw).2;have e1:((k+1:Nat):Int)-1=k:=by omega
  have e2:(0:Int)≤k:=by omega
  have e3:(k:Int)<d.late.length:=by omega
  have e4:=qap ((k:Int)-1) (by omega) (by omega);have hf:=qoV (qdk side at') hw hd;have hdk:(d.late.drop k).all (fun w=>!qdk side at' w)=(!qdk side at' w && (d.late.drop (k+1)).all (fun w=>!qdk side at' w)):=by
   rw[qF7 hk,hw0,qHm]
  have hnx:qdk side at' w=false→∀ x∈d.late.drop k,qdk side at' x=false:=fun hl x hx=>by
   rw[hl,hd]at hdk;simpa using qGf.1 hdk x hx
  have hlx:qdk side at' w=true→w.lx=R:=fun hl=>by
   rw[if_pos hl]at hf;unfold qdZ at hR;rw[hf]at hR;exact hR
  simp only[e1];simp[qah,LT.row,hk,hw,hw0,e2,e3,e4];refine⟨fun q1=>⟨fun q2=>hlx (by simp[qdk,q1,q2]),fun q2=>nx k [(3,3)] ⟨by omega,hnx (by simp[qdk,q2])⟩ (h4:=by simp[qah,e4])⟩,fun q1=>nx k [(3,3)] ⟨by omega,hnx (by simp[qdk,q1])⟩ (h4:=by simp[qah,e4])⟩
theorem qbM {d:DK} (h:qbr d=true):1≤d.s0.length∧d.s0.length≤120∧d.s1.length=d.s0.length∧d.late.length≤600∧(∀ x∈d.s0,x.length≤420)∧(∀ x∈d.s1,x.length≤420)∧∀ w∈d.late,qbb d w.ls w.la w.lx=true:=by
 simp only[qbr,Bool.and_eq_true,decide_eq_true_eq,qGf]at h;obtain⟨⟨⟨⟨⟨⟨g1,g2⟩,g3⟩,g4⟩,g5⟩,g6⟩,g7⟩:=h;exact⟨g1,g2,g3,g4,g5,g6,g7⟩
theorem thereB_iff {d:DK} {side at':Int} {t:List UInt8}:qbb d side at' t=true↔(side=0∨side=1)∧(0≤at'∧at'<d.s0.length)∧t.length≤420:=by
 simp only[qbb,Bool.and_eq_true,decide_eq_true_eq];omega
theorem qeA {d:DK} (h:qbr d=true):DkT d:=by
 obtain⟨g1,g2,g3,g4,g5,g6,g7⟩:=qbM h;refine⟨by omega,by omega,by omega,fun x hx=>by have:=g5 x hx;omega,fun x hx=>by have:=g6 x hx;omega,fun w hw=>?_⟩;have:=(thereB_iff.1 (g7 w hw)).2.2;omega
theorem qeT {d:DK} (h:qbr d=true) (side at':Int):(qdZ d side at').length≤420:=by
 obtain⟨g1,g2,g3,g4,g5,g6,g7⟩:=qbM h;unfold qdZ;split
 ·rename_i w hw;have:=qIJ hw;rw[qII]at this;exact(thereB_iff.1 (g7 w this)).2.2
 ·unfold qpu;split
  ·cases e:d.s0[at'.toNat]? with
   | none=>simp
   | some x=>simpa using g5 x (qHT e)
  ·cases e:d.s1[at'.toNat]? with
   | none=>simp
   | some x=>simpa using g6 x (qHT e)
def qbJ (d:DK) (side at':Int):List UInt8×Bool:=if qbr d && qbb d side at' [] then (qdZ d side at',true) else ([],false)
theorem qn9 (d:DK) (h:DkT d) (side at':Int):CV prog 72 [.agg d.row,.int .i64 side,.int .i64 at'] (.tup [.str (qbJ d side at').1,.bool (qbJ d side at').2]):=by
 have c1:=qdN d h;have c2:=qm8 d h side at' [] (by simp);unfold qbJ;refine cvx func72 [] ntmps72 rfl rfl rfl ?_ (hca:=by simp[DK.row]);cases g1:qbr d with
 | false =>
  rw[g1]at c1;simp only[DK.row]at c1;simp[DK.row];refine c1.call ?_;simp
 | true =>
  rw[g1]at c1;cases g2:qbb d side at' []with
  | false =>
   rw[g2]at c2;simp only[DK.row]at c1 c2;simp[DK.row];refine c1.call ?_;simp;refine c2.call ?_;simp
  | true =>
   rw[g2]at c2;obtain⟨k1,k2,k3⟩:=thereB_iff.1 g2;have c3:=qq0 d h side at' k1 k2 (qbM g1).2.2.1;simp only[DK.row]at c1 c2 c3;simp[DK.row];refine c1.call ?_;simp;refine c2.call ?_;simp;refine c3.call ?_;simp
def smB (s:List UInt8):Nat:=qjB s (1+s.length % 997)
theorem qu9 (s:List UInt8):smB s<65521:=qiq s _ (by omega)
theorem qwW (s:List UInt8) (hs:s.length≤maxLen):CV prog 170 [.str s] (.int .i64 (smB s:Nat)):=qzS s hs
theorem qp0 (d:DK) (side at':Int):(qbJ d side at').1.length≤420:=by
 unfold qbJ;split
 ·rename_i h;simp only[Bool.and_eq_true]at h;exact qeT h.1 side at'
 ·simp
def qaW (d:DK) (p:PT) (side:Int):Bool:=(qbJ d side p.pa).2 && qaL p && decide (0<p.pa) && decide ((smB (qbJ d side p.pa).1:Int)=p.ps)
theorem qz1 (d:DK) (h:DkT d) (p:PT) (side:Int):CV prog 81 [.agg d.row,.agg p.row,.int .i64 side] (.bool (qaW d p side)):=by
 have c1:=qn9 d h side p.pa;have c2:=qdX p;have c3:=qwW (qbJ d side p.pa).1 (by have:=qp0 d side p.pa;simp[maxLen];omega);unfold qaW;generalize qbJ d side p.pa=x at *
 obtain⟨t,ok⟩:=x;simp only[DK.row,PT.row]at c1 c2 c3;refine cvx func81 [(2,[zI 0,zI 1,zJ 2 [4] [],zI 3,zI 4,zI 5,zI 6,zJ 7 [4] [],zI 8,zI 9,zI 10,zI 11,zI 13,zJ 14 [4] [],zJ 12 [] [4],zI 15,zI 16,zI 17])] ntmps81 rfl rfl rfl ?_ (hca:=by simp[DK.row,PT.row]);simp[DK.row,PT.row];refine c1.call ?_;cases ok with
 | false=>simp
 | true =>
  simp;refine c2.call ?_;cases qaL p with
  | false=>simp
  | true =>
   simp;refine⟨fun hp=>?_,fun hp=>by omega⟩;refine c3.call ?_;simp[hp]
   first | rfl | simp[qIj]
def qag (d:DK) (p:PT):List UInt8×Int :=
 if (qaL p && decide (p.pa=0))=true then ([],1) else if qaW d p 0=true then (qdZ d 0 p.pa,0) else if qaW d p 1=true then (qdZ d 1 p.pa,0) else ([],2)
theorem qdx {d:DK} {p:PT} {side:Int} (h:qaW d p side=true):qbr d=true∧qaL p=true∧0<p.pa∧qbb d side p.pa []=true∧(smB (qdZ d side p.pa):Int)=p.ps:=by
 simp only[qaW,Bool.and_eq_true,decide_eq_true_eq]at h;obtain⟨⟨⟨h1,h2⟩,h3⟩,h4⟩:=h;unfold qbJ at h1 h4;split at h1
 ·rename_i g;rw[if_pos g]at h4;simp only[Bool.and_eq_true]at g;exact⟨g.1,h2,h3,g.2,h4⟩
 ·cases h1
theorem qd9 (d:DK) (h:DkT d) (p:PT):CV prog 33 [.agg d.row,.agg p.row] (.tup [.str (qag d p).1,.int .i64 (qag d p).2]):=by
 obtain⟨R,hR⟩:∃ R,qag d p=R:=⟨_,rfl⟩;rw[hR];unfold qag at hR;have c2:=qdX p;simp only[PT.row]at c2;refine cvx func33 [] ntmps33 rfl rfl rfl ?_ (hca:=by simp[DK.row,PT.row]);simp[DK.row,PT.row];refine c2.call ?_;by_cases hz:(qaL p && decide (p.pa=0))=true
 ·rw[if_pos hz]at hR;simp only[Bool.and_eq_true,decide_eq_true_eq]at hz;simp[hz.1,hz.2,← hR]
 rw[if_neg hz]at hR;have hz':¬ (qaL p=true∧p.pa=0):=by simpa using hz
 have key:∀ j:Nat,j<2→qaW d p j=true→(∀ k:Nat,k<j→qaW d p k=false)→R=(qdZ d j p.pa,0):=fun j hj h1 h2=>by
  rw[← hR];rcases(show j=0∨j=1 by omega)with rfl | rfl
  ·have h1':qaW d p 0=true:=h1;simp[h1']
  ·have h2':qaW d p 0=false:=h2 0 (by omega);have h1':qaW d p 1=true:=h1;simp[h1',h2']
 have key2:qaW d p 0=false→qaW d p 1=false→R=([],2):=fun h1 h2=>by rw[← hR,h1,h2];simp
 have hcase:qaL p=false∨(qaL p=true∧¬ p.pa=0):=by
  cases g:qaL p with
  | false=>exact .inl rfl
  | true=>exact .inr ⟨rfl,fun e=>hz' ⟨g,e⟩⟩
 rcases hcase with hp | ⟨hp,hpa⟩;rotate_left;simp[hp,hpa];rotate_left;simp[hp]
 all_goals
  refine qbe (X:=Nat) [2,3,4,5,6] [(2,2),(3,3)] (fun i=>[(6,.int .i64 i)]) (fun _=>[]) (fun i=>2-i) (fun i=>i≤2∧∀ k:Nat,k<i→qaW d p k=false) 0 (by simp) ?_ (he:=by simp[qah]);rintro i ⟨hi,hf⟩;by_cases h2:i=2
  ·subst h2;have:=key2 (hf 0 (by omega)) (hf 1 (by omega));simp[qah,this]
  ·have h2':i<2:=by omega
   have h2i:(i:Int)<2:=by omega
   have e2:=qap ((i:Int)+1) (by omega) (by omega);have c4:=qz1 d h p i;simp only[DK.row,PT.row]at c4;simp[qah,h2i];refine c4.call ?_;cases hb:qaW d p i with
   | true =>
    have hk:=key i h2' hb hf;obtain⟨m1,m2,m3,m4,m5⟩:=qdx hb;obtain⟨n1,n2,n3⟩:=thereB_iff.1 m4;have c5:=qq0 d h i p.pa n1 n2 (qbM m1).2.2.1;simp only[DK.row]at c5;simp;refine c5.call ?_;simp[hk]
   | false =>
    simp;exact nx (i+1) [(2,2),(3,3)] ⟨by omega,fun k hk=>by
     rcases(show k<i∨k=i by omega)with h | rfl
     ·exact hf k h
     ·exact hb⟩ (h4:=by simp[qah,e2])
theorem qrb (d:DK) (h:DkT d):ACall prog 43 [.agg d.row] [] (fun r L'=>r=.agg [.sl 7 0 d.s0.length,.sl 12 0 d.s1.length,.sl 17 0 d.late.length]∧L'=[(7,qas d.s0),(12,qas d.s1),(17,qcE d.late)]):=by
 have h0:=h.l0;have h1:=h.l1;have h2:=h.l2;refine acx func43 [(1,[zI 1,zI 2,zJ 3 [1] [],zJ 6 [] [1],zJ 7 [] [1],zJ 8 [1] [1],zJ 12 [] [1],zJ 13 [1] [1],zJ 0 [] [1],zJ 4 [0,3] [1],zJ 5 [] [1],zJ 9 [0,8] [1],zJ 10 [] [1],zJ 11 [] [1],zJ 14 [0,14] [],zI 15,zI 16])] ntmps43 rfl rfl rfl ?_;simp[DK.row,qas,qcE];refine⟨⟨by omega,fun x _ y hy=>?_⟩,⟨by omega,fun x _ y hy=>?_⟩,by omega,fun x _ y hy=>?_⟩
 ·simp only[qai,qHq,qHz,or_false]at hy;subst hy;rfl
 ·simp only[qai,qHq,qHz,or_false]at hy;subst hy;rfl
 ·simp only[LT.row,qHq,qHz,or_false]at hy;rcases hy with rfl | rfl | rfl <;> rfl
theorem qrc (d:DK) (h:DkT d):CV prog 43 [.agg d.row] (.agg d.row):=by
 refine CV.of_frz (qrb d h) ?_ (hca:=by simp[DK.row]) (hcv:=by simp[DK.row]);rintro r L' ⟨rfl,rfl⟩;refine⟨by simp,by simp,by simp[clR,qas,qcE,qai,LT.row],?_⟩;simp[qa7,DK.row,qas,qcE,qGh];exact qaE _
def qbP (at':Int) (text:List UInt8) (birth:Int):PT:=if at'<1∨qaL ⟨at',smB text,birth⟩=false then ⟨0,0,0⟩ else ⟨at',smB text,birth⟩
theorem qrd (at':Int) (text:List UInt8) (birth:Int) (ht:text.length≤maxLen):CV prog 208 [.int .i64 at',.str text,.int .i64 birth] (.agg (qbP at' text birth).row):=by
 have c1:=qwW text ht;have c2:=qdX ⟨at',smB text,birth⟩;unfold qbP;simp only[PT.row]at c2;refine cvx func208 [] ntmps208 rfl rfl rfl ?_ (hcv:=by simp[PT.row]);simp;refine c1.call ?_;simp;by_cases h1:at'<1
 ·simp[h1,PT.row];intro h;omega
 ·simp[h1];intro _;refine c2.call ?_;cases qaL ⟨at',smB text,birth⟩with
  | true=>simp[h1,PT.row]
  | false=>simp[h1,PT.row]
theorem CV.of_imp {P:Program} {f:Nat} {args:List AV} {v:AV} (h:ACall P f args [] (fun r L'=>qgF r v∧L'=[])) (he:qb1 P f=true:=by kernel_rfl) (hca:clL args=true:=by simp) (hcv:clA v=true:=by simp):CV P f args v :=
 ⟨he,hca,hcv,h.imp fun r L' ⟨h1,h2⟩=>⟨v,h1,rfl,h2⟩⟩
@[simp] theorem qCI (r:AV):qgF r r=True:=eq_true (qaE r)
def zDK:DK:=⟨[],[],[]⟩
theorem qkN:qgF (.agg [.nils,.nils,.nils]) (.agg zDK.row):=qiU (.cons (qa2 1) (.cons (qa2 1) (.cons (qa2 3) .nil)))
theorem qal {α β:Type} (f:α→β) (l:List α):List.take l.length (List.map f l)=List.map f l:=qGh (by simp)
@[simp] theorem qxk (ρ:Nat→Option Plc):qb6 ρ ∘ qai=qai:=by funext x;simp[qai]
@[simp] theorem qy4 (ρ:Nat→Option Plc):qb6 ρ ∘ LT.row=LT.row:=by funext x;simp[LT.row]
@[simp] theorem qxj (ρ:Nat→Option Plc) (l:List (List UInt8)):qbH ρ (qas l)=qas l:=by simp[qas,qbH]
@[simp] theorem qy1 (ρ:Nat→Option Plc) (l:List LT):qbH ρ (qcE l)=qcE l:=by simp[qcE,qbH]
def qa0 (d:DK) (side at':Int) (text:List UInt8):DK×Bool :=
 if qbr d=false then (zDK,false) else if qbb d side at' text=false∨d.late.length=600 then (d,false) else (⟨d.s0,d.s1,d.late++[⟨side,at',text⟩]⟩,true)
theorem qqW (d:DK) (h:DkT d) (side at':Int) (text:List UInt8) (ht:text.length≤1048576):CV prog 327 [.agg d.row,.int .i64 side,.int .i64 at',.str text] (.tup [.agg (qa0 d side at' text).1.row,.bool (qa0 d side at' text).2]):=by
 obtain⟨R,hR⟩:∃ R,qa0 d side at' text=R:=⟨_,rfl⟩;rw[hR];unfold qa0 at hR;have h2:=h.l2;have c1:=qdN d h;have c2:=qm8 d h side at' text ht;have co:=qrb d h;simp only[DK.row]at c1 c2 co;have key:ACall prog 327 [.agg d.row,.int .i64 side,.int .i64 at',.str text] [] (fun r L'=>(R=(zDK,false)∧r=.tup [.agg [.nils,.nils,.nils],.bool false]∧L'=[]) ∨
   (∃ id,(id=17∨id=37)∧r=.tup [.agg [.sl 7 0 R.1.s0.length,.sl 12 0 R.1.s1.length,.sl id 0 R.1.late.length],.bool R.2]∧L'=[(7,qas R.1.s0),(12,qas R.1.s1),(id,qcE R.1.late)])):=by
  refine acx func327 [] ntmps327 rfl rfl rfl ?_;simp[DK.row];refine c1.call ?_;cases hok:qbr d with
  | false =>
   rw[if_pos hok]at hR;simp[← hR]
  | true =>
   rw[if_neg (by simp[hok])]at hR;simp;refine qac [] (by kernel_rfl) co (by simp) (by simp) trivial (by simp) (by simp) ?_;rintro r L' ⟨rfl,rfl⟩;refine⟨[(7,7),(12,12),(17,17)],⟨by simp,by simp,by simp,by simp,by simp⟩,?_⟩;simp only[qaf];simp;refine c2.call ?_;cases hth:qbb d side at' text with
   | false =>
    rw[if_pos (.inl hth)]at hR;simp[← hR]
   | true =>
    by_cases h6:d.late.length=600
    ·rw[if_pos (.inr h6)]at hR;have h6':(d.late.length:Int)=600:=by omega
     simp[← hR,h6']
    ·rw[if_neg (by simp[hth,h6])]at hR;have h6':¬ (d.late.length:Int)=600:=by omega
     simp[← hR,h6',qcE,qal,LT.row];omega
 refine CV.of_frz key ?_ (hca:=by simp[DK.row]) (hcv:=by simp[DK.row]);rintro r L' (⟨rfl,rfl,rfl⟩ | ⟨id,hid,rfl,rfl⟩)
 ·refine⟨by simp,by simp,by simp,?_⟩;simp only[qa7];exact qdl (.cons qkN (.cons (qaE _) .nil))
 ·rcases hid with rfl | rfl
  all_goals
   refine⟨by simp,by simp,by simp[clR,qas,qcE,qai,LT.row],?_⟩;simp[qa7,DK.row,qas,qcE,qal]
def qhY (p:List (List UInt8)×List (List UInt8)) (w:LT):List (List UInt8)×List (List UInt8):=if w.ls=0 then (p.1.set w.la.toNat w.lx,p.2) else (p.1,p.2.set w.la.toNat w.lx)
def qbB (d:DK):DK:=if qbr d=true then ⟨(d.late.foldl qhY (d.s0,d.s1)).1,(d.late.foldl qhY (d.s0,d.s1)).2,[]⟩ else zDK
theorem qom (p:List (List UInt8)×List (List UInt8)) (w:LT):(qhY p w).1.length=p.1.length∧(qhY p w).2.length=p.2.length:=by
 unfold qhY;split <;> simp
theorem qq8 (d:DK) (h:DkT d):CV prog 212 [.agg d.row] (.agg (qbB d).row):=by
 obtain⟨R,hR⟩:∃ R,qbB d=R:=⟨_,rfl⟩;rw[hR];unfold qbB at hR;have h0:=h.l0;have h1:=h.l1;have h2:=h.l2;have c1:=qdN d h;have co:=qrb d h;simp only[DK.row]at c1 co;have key:ACall prog 212 [.agg d.row] [] (fun r L'=>(R=zDK∧r=.agg [.nils,.nils,.nils]∧L'=[]) ∨
   (r=.agg [.sl 7 0 R.s0.length,.sl 12 0 R.s1.length,.nils]∧R.late=[]∧L'=[(7,qas R.s0),(12,qas R.s1)])):=by
  refine acx func212 [(7,[zI 0,zJ 1 [1] [],zJ 2 [] [1],zI 3,zI 4,zI 5,zJ 6 [] [1],zI 7,zJ 8 [3] [],zJ 9 [] [1,3],zJ 10 [1] [1,3],zJ 11 [] [1,3],zJ 12 [] [1,3],zJ 13 [] [1,3],zJ 14 [] [1,3],zJ 15 [] [1,3],zJ 16 [1] [1,3],zJ 17 [] [1,3],zJ 18 [] [1,3],zJ 19 [] [1,3],zJ 20 [] [1,3],zJ 21 [7,12] [],zI 22])] ntmps212 rfl rfl rfl ?_;simp[DK.row];refine c1.call ?_;cases hok:qbr d with
  | false =>
   rw[if_neg (by simp[hok])]at hR;simp[← hR]
  | true =>
   rw[if_pos hok]at hR;obtain⟨g1,g2,g3,g4,g5,g6,g7⟩:=qbM hok;simp;refine qac [] (by kernel_rfl) co (by simp) (by simp) trivial (by simp) (by simp) ?_;rintro r L' ⟨rfl,rfl⟩;refine⟨[(7,7),(12,12),(17,17)],⟨by simp,by simp,by simp,by simp,by simp⟩,?_⟩;simp only[qaf];simp;refine qbe (X:=Nat×(List (List UInt8)×List (List UInt8))) [1,2,3,4] [(1,1),(2,2),(3,3),(7,7),(12,12),(17,17)] (fun x=>[(4,.int .i64 x.1)]) (fun x=>[(7,qas x.2.1),(12,qas x.2.2)]) (fun x=>d.late.length-x.1)
    (fun x=>x.1≤d.late.length∧x.2.1.length=d.s0.length∧x.2.2.length=d.s0.length∧(⟨((d.late.drop x.1).foldl qhY x.2).1,((d.late.drop x.1).foldl qhY x.2).2,[]⟩:DK)=R) (0,(d.s0,d.s1)) (by simp[hR,g3]) ?_ (he:=by simp[qah])
   rintro⟨i,a,b⟩ ⟨hi,ha,hb,hd⟩;simp only at hi ha hb hd;cases hr:d.late.drop i with
   | nil =>
    have:=qaY hr;rw[hr,List.foldl_nil]at hd;have hie:i=d.late.length:=by omega
    subst hie;simp[qah,← hd,ha,hb];exact g3
   | cons w q =>
    obtain⟨k1,e0,e1,k3⟩:=qaZ hr;rw[hr,qGj]at hd;have hw:=thereB_iff.1 (g7 w (qHT e1));obtain⟨w1,w2,w3⟩:=hw;have hli:(i:Int)<d.late.length:=by omega
    have e2:=qap ((i:Int)+1) (by omega) (by omega);have hl:(qhY (a,b) w).1.length=a.length∧(qhY (a,b) w).2.length=b.length:=qom (a,b) w;rcases w1 with w1 | w1
    ·simp[qah,LT.row,k1,e0,e1,hli,e2,w1,w2.1,w2.2,qas];refine⟨by omega,nx (i+1,qhY (a,b) w) [(1,1),(2,2),(3,3),(7,7),(12,12),(17,17)] ⟨by simp only;omega,by simp only;omega,by simp only;omega,by simp only[k3];exact hd⟩ (by simp only;omega) (h4:=?_)⟩;have hla:w.la.toNat<a.length:=by omega
     simp[qah,e2,qhY,w1,qas,qai,hla]
    ·simp[qah,LT.row,k1,e0,e1,hli,e2,w1,w2.1,w2.2,qas];refine⟨by omega,by omega,nx (i+1,qhY (a,b) w) [(1,1),(2,2),(3,3),(7,7),(12,12),(17,17)] ⟨by simp only;omega,by simp only;omega,by simp only;omega,by simp only[k3];exact hd⟩ (by simp only;omega) (h4:=?_)⟩;have hla:w.la.toNat<b.length:=by omega
     simp[qah,e2,qhY,w1,qas,qai,hla]
 refine CV.of_frz key ?_ (hca:=by simp[DK.row]) (hcv:=by simp[DK.row]);rintro r L' (⟨rfl,rfl,rfl⟩ | ⟨rfl,hl,rfl⟩)
 ·refine⟨by simp,by simp,by simp,?_⟩;simp only[qa7];exact qkN
 ·refine⟨by simp,by simp,by simp[clR,qas,qcE,qai,LT.row],?_⟩;simp[qa7,DK.row,qas,qcE,qal,hl];exact qiU (.cons (qaE _) (.cons (qaE _) (.cons (qa2 3) .nil)))
theorem qus {d:DK} (h:DkT d) {side at':Int} {text:List UInt8} (ht:text.length≤1048576) (hl:d.late.length≤1048575):DkT (qa0 d side at' text).1:=by
 unfold qa0;split
 ·exact⟨by simp[zDK],by simp[zDK],by simp[zDK],by simp[zDK],by simp[zDK],by simp[zDK]⟩
 ·split
  ·exact h
  ·refine⟨h.l0,h.l1,by simp;omega,h.t0,h.t1,fun w hw=>?_⟩;rcases qHs.1 hw with hw | hw
   ·exact h.t2 w hw
   ·simp only[qHq,qHz,or_false]at hw;subst hw;exact ht
def qaw (d:DK) (at':Int) (text:List UInt8):DK×Bool :=
 if qbr d=false then (zDK,false) else if 598<d.late.length then (d,false) else
 if (qa0 d 0 at' text).2=false then ((qa0 d 0 at' text).1,false) else qa0 (qa0 d 0 at' text).1 1 at' text
theorem qgM (d:DK) (h:DkT d) (at':Int) (text:List UInt8) (ht:text.length≤1048576):CV prog 274 [.agg d.row,.int .i64 at',.str text] (.tup [.agg (qaw d at' text).1.row,.bool (qaw d at' text).2]):=by
 obtain⟨R,hR⟩:∃ R,qaw d at' text=R:=⟨_,rfl⟩;rw[hR];unfold qaw at hR;have c1:=qdN d h;have c2:=qrc d h;have c3:=qqW d h 0 at' text ht;simp only[DK.row]at c1;have h2:=h.l2;refine CV.of_imp ?_ (hca:=by simp[DK.row]) (hcv:=by simp[DK.row]);refine acx func274 [] ntmps274 rfl rfl rfl ?_;simp[DK.row];refine c1.call ?_;cases hok:qbr d with
 | false =>
  rw[if_pos hok]at hR;simp[← hR];exact qdl (.cons qkN (.cons (qaE _) .nil))
 | true =>
  rw[if_neg (by simp[hok])]at hR;by_cases hl:598<d.late.length
  ·rw[if_pos hl]at hR;have hl':(598:Int)<d.late.length:=by omega
   simp only[DK.row]at c2;simp[hl'];refine c2.call ?_;simp[← hR]
  ·rw[if_neg hl]at hR;have hl':¬ (598:Int)<d.late.length:=by omega
   have hT:=qus (side:=0) (at':=at') (text:=text) h ht (by omega);have c4:=qqW (qa0 d 0 at' text).1 hT 1 at' text ht;generalize qa0 d 0 at' text=x at *
   obtain⟨x,ok⟩:=x;simp only[DK.row]at c3 c4 hR;simp[hl'];refine c3.call ?_;cases ok with
   | false =>
    rw[if_pos rfl]at hR;simp[← hR]
   | true =>
    rw[if_neg (by simp)]at hR;simp;refine c4.call ?_;simp[← hR]
def qaN (l:List DE):Ob:=⟨3,l.map DE.row⟩
@[simp] theorem qy6 (ρ:Nat→Option Plc):qb6 ρ ∘ DE.row=DE.row:=by funext x;simp[DE.row]
@[simp] theorem qy2 (ρ:Nat→Option Plc) (l:List DE):qbH ρ (qaN l)=qaN l:=by simp[qaN,qbH]
theorem qBM (e:DE):∀ x∈e.row,qdn x=true:=qrF e
theorem qAM (l:List DE):∀ x∈l.map DE.row,noL x=true:=fun x hx=>by
 obtain⟨e,_,rfl⟩:=qGt.1 hx;simp[DE.row]
theorem quC (l:List DE):∀ x∈l.map DE.row,clL x=true:=fun x hx=>by
 obtain⟨e,_,rfl⟩:=qGt.1 hx;simp[DE.row]
theorem qvl (l:List DE):∀ x∈l.map DE.row,∀ y∈x,qdn y=true:=fun x hx y hy=>by
 obtain⟨e,_,rfl⟩:=qGt.1 hx;exact qBM e y hy
theorem qtc {α β:Type} (f:α→β) (l:List α) (k:Nat):(l.map f).take k=(l.take k).map f:=(qH1).symm
theorem qun {α β:Type} (f:α→β) (l:List α) (k:Nat):((l.map f).drop k).take (l.length-k)=(l.drop k).map f:=by
 rw[qGh (by simp),List.map_drop]
theorem qbK (l:List DE):clR (qaN l).els=true:=by simp[clR,qaN,DE.row]
theorem qiy (l:List DE) (hl:l.length≤1048576):ACall prog 227 [.lst 3 (l.map DE.row)] [] (fun r L'=>r=.sl 5 0 l.length∧L'=[(5,qaN l)]):=by
 refine acx func227 [] ntmps227 rfl rfl rfl ?_;simp[qaN]
 try omega
def qb2 (l:List DE) (sum at':Int):List DE×Bool :=
 if qam l=false then ([],false) else if qcb ⟨sum,at',1⟩=false then (l,false) else
 if ddT l at'=true then match l[ddP l at']? with
  | some e=>if e.es≠sum∨e.ec=1000 then (l,false) else (l.set (ddP l at') ⟨e.es,e.ea,e.ec+1⟩,true)
  | none=>(l,false)
 else if l.length=48 then (l,false) else (l.take (ddP l at')++⟨sum,at',1⟩::l.drop (ddP l at'),true)
theorem qmD (l:List DE) (a:Int):ddP l a≤l.length:=qnL _ l
theorem qDz (l:List DE) (sum at':Int) (hl:l.length≤1048576):CV prog 275 [.lst 3 (l.map DE.row),.int .i64 sum,.int .i64 at'] (.tup [.lst 3 ((qb2 l sum at').1.map DE.row),.bool (qb2 l sum at').2]):=by
 obtain⟨R,hR⟩:∃ R,qb2 l sum at'=R:=⟨_,rfl⟩;rw[hR];unfold qb2 at hR;have c1:=qfQ l hl;have co:=qiy l hl;have c2:=qtU l at' hl;have c3:=qq9 ⟨sum,at',1⟩;simp only[DE.row]at c3;have hk:=qmD l at';have key:ACall prog 275 [.lst 3 (l.map DE.row),.int .i64 sum,.int .i64 at'] [] (fun r L'=>(R=([],false)∧r=.tup [.nils,.bool false]∧L'=[]) ∨
   (∃ id,(id=5∨id=77)∧r=.tup [.sl id 0 R.1.length,.bool R.2]∧L'=[(id,qaN R.1)])):=by
  refine acx func275 [] ntmps275 rfl rfl rfl ?_;simp;refine c1.call ?_;cases hok:qam l with
  | false =>
   rw[if_pos hok]at hR;simp[← hR]
  | true =>
   rw[if_neg (by simp[hok])]at hR;simp;refine qac [] (by kernel_rfl) co (by simp) (by simp) trivial (by simp) (by simp) ?_;rintro r L' ⟨rfl,rfl⟩;refine⟨[(5,5)],⟨by simp,by simp,by simp,by simp,by simp⟩,?_⟩;simp only[qaf];simp;refine c2.view (by simp[qb5,mtA,qaN,qal]) ?_;simp;refine c3.call ?_;cases hde:qcb ⟨sum,at',1⟩with
   | false =>
    rw[if_pos hde]at hR;simp[← hR]
   | true =>
    rw[if_neg (by simp[hde])]at hR;simp;cases hT:ddT l at' with
    | true =>
     rw[if_pos hT]at hR;obtain⟨e,he,hea⟩:=qcN hT;have hkl:=(qGy.1 he).1;have hk0:=(qGy.1 he).2;rw[he]at hR;have hc:=(qja hok).2 e (qHT he);have e2:=qap (e.ec+1) (by omega) (by omega);simp only at hR;simp[qaN,hkl,hk0,he,DE.row,e2];refine⟨fun q1=>⟨fun q2=>?_,fun q2=>?_⟩,fun q1=>?_⟩
     ·rw[if_pos (.inr q2)]at hR;subst hR;exact⟨rfl,rfl,rfl⟩
     ·rw[if_neg (fun h=>h.elim (fun h=>h q1) q2)]at hR;subst hR;simp[DE.row,qH5]
     ·rw[if_pos (.inl q1)]at hR;subst hR;exact⟨rfl,rfl,rfl⟩
    | false =>
     rw[if_neg (by simp[hT])]at hR;by_cases h48:l.length=48
     ·rw[if_pos h48]at hR;have h48':(l.length:Int)=48:=by omega
      simp[← hR,h48']
     ·rw[if_neg h48]at hR;have h48':¬ (l.length:Int)=48:=by omega
      have cd:=qiy (l.drop (ddP l at')) (by simp;omega);simp[h48'];refine⟨⟨hk,rfl⟩,?_⟩;refine qaS [] (by kernel_rfl) cd (by simp[qb5,mtA,qaN,hk];exact⟨qGh (by simp),fun x hx=>quC l x (qIh hx)⟩) (by simp) trivial (by simp) (by simp) ?_;rintro r L' ⟨rfl,rfl⟩;refine⟨by simp,by simpa [qaN]using qAM (l.drop (ddP l at')),[(5,67)],⟨by simp,by simp,by simp,by simp,by simp⟩,?_⟩;simp only[qaf];simp[qaN];rw[qun,qtc];subst hR;have e1:List.take (ddP l at'+1) (List.map DE.row (List.take (ddP l at') l)++[[AV.int IntKind.i64 sum,AV.int IntKind.i64 at',AV.int IntKind.i64 1]])=List.map DE.row (List.take (ddP l at') l)++[[AV.int IntKind.i64 sum,AV.int IntKind.i64 at',AV.int IntKind.i64 1]]:=qGh (by simp;omega);rw[e1];refine⟨hk,⟨hk,by omega⟩,⟨by omega,by omega,qvl _⟩,by simp[DE.row],by simp;omega,rfl⟩
 refine CV.of_frz key ?_ (hca:=by simp[DE.row]) (hcv:=by simp[DE.row]);rintro r L' (⟨rfl,rfl,rfl⟩ | ⟨id,hid,rfl,rfl⟩)
 ·refine⟨by simp,by simp,by simp,?_⟩;simp only[qa7];exact qdl (.cons (qa2 3) (.cons (qaE _) .nil))
 ·rcases hid with rfl | rfl
  all_goals
   refine⟨by simp,by simp,by simpa using qbK _,?_⟩;simp[qa7,qaN,qal]
def qbo (l:List DE) (at':Int):List DE×Bool :=
 if qam l=false then ([],false) else if ddT l at'=false then (l,false) else
 match l[ddP l at']? with
 | some e=>if e.ec=1 then (l.take (ddP l at')++l.drop (ddP l at'+1),true) else (l.set (ddP l at') ⟨e.es,e.ea,e.ec-1⟩,true)
 | none=>(l,false)
theorem qAc (l:List DE) (at':Int) (hl:l.length≤1048576):CV prog 276 [.lst 3 (l.map DE.row),.int .i64 at'] (.tup [.lst 3 ((qbo l at').1.map DE.row),.bool (qbo l at').2]):=by
 obtain⟨R,hR⟩:∃ R,qbo l at'=R:=⟨_,rfl⟩;rw[hR];unfold qbo at hR;have c1:=qfQ l hl;have co:=qiy l hl;have c2:=qtU l at' hl;have hk:=qmD l at';have key:ACall prog 276 [.lst 3 (l.map DE.row),.int .i64 at'] [] (fun r L'=>(R=([],false)∧r=.tup [.nils,.bool false]∧L'=[]) ∨
   (∃ id,(id=5∨id=47)∧r=.tup [.sl id 0 R.1.length,.bool R.2]∧L'=[(id,qaN R.1)])):=by
  refine acx func276 [(9,[zI 0,zI 1,zI 2,zI 4,zI 5,zI 6,zI 7,zI 3,zI 8,zI 9])] ntmps276 rfl rfl rfl ?_;simp;refine c1.call ?_;cases hok:qam l with
  | false =>
   rw[if_pos hok]at hR;simp[← hR]
  | true =>
   rw[if_neg (by simp[hok])]at hR;simp;refine qac [] (by kernel_rfl) co (by simp) (by simp) trivial (by simp) (by simp) ?_;rintro r L' ⟨rfl,rfl⟩;refine⟨[(5,5)],⟨by simp,by simp,by simp,by simp,by simp⟩,?_⟩;simp only[qaf];simp;refine c2.view (by simp[qb5,mtA,qaN,qal]) ?_;cases hT:ddT l at' with
   | false =>
    rw[if_pos hT]at hR;simp[← hR]
   | true =>
    rw[if_neg (by simp[hT])]at hR;obtain⟨e,he,hea⟩:=qcN hT;have hkl:=(qGy.1 he).1;have hk0:=(qGy.1 he).2;rw[he]at hR;simp only at hR;have hc:=(qja hok).2 e (qHT he);have e2:=qap (e.ec-1) (by omega) (by omega);have e3:=qap ((ddP l at':Int)+1) (by omega) (by omega);have cd:=qiy (l.take (ddP l at')) (by simp;omega);rw[← qtc]at cd;simp[qaN,hkl,hk0,he,DE.row,e2,e3];refine⟨fun q1=>⟨hk,⟨by omega,by omega⟩,?_⟩,fun q1=>?_⟩
    ·rw[if_pos (by omega)]at hR;refine qac [] (by kernel_rfl) cd (by simp) (by simpa using fun x hx=>quC l x (qHP hx)) trivial (by simp) (by simp) ?_;rintro r L' ⟨rfl,rfl⟩;refine⟨[(5,42)],⟨by simp,by simp,by simp,by simp,by simp⟩,?_⟩;simp only[qaf];simp[qaN];subst hR;rw[qun,qtc];have e4:min (ddP l at') l.length=ddP l at':=by omega
     rw[e4,qGh (by simp;omega)];exact⟨⟨by omega,qvl _⟩,by simp,by simp;omega,rfl⟩
    ·rw[if_neg (by omega)]at hR;subst hR;simp[DE.row,qH5]
 refine CV.of_frz key ?_ (hca:=by simp[DE.row]) (hcv:=by simp[DE.row]);rintro r L' (⟨rfl,rfl,rfl⟩ | ⟨id,hid,rfl,rfl⟩)
 ·refine⟨by simp,by simp,by simp,?_⟩;simp only[qa7];exact qdl (.cons (qa2 3) (.cons (qaE _) .nil))
 ·rcases hid with rfl | rfl
  all_goals
   refine⟨by simp,by simp,by simpa using qbK _,?_⟩;simp[qa7,qaN,qal]
def dec (n:Int):List UInt8:=qnF n.toNat []
theorem qaz (n:Int) (h:n<1000000000):(dec n).length≤9:=by
 unfold dec;rw[qic];have:=qk6 n.toNat 9 (by omega) (by omega);simpa using this
theorem qix (n:Int) (h0:0≤n) (h:n<1000000000):CV prog 244 [.int .i64 n] (.str (dec n)):=by
 have:=qzY n.toNat (by omega);have e:((n.toNat:Nat):Int)=n:=by omega
 rw[e]at this;exact this
theorem qjL {p:PT} (h:qaL p=true):0≤p.pa∧p.pa<120∧0≤p.ps∧p.ps<65521∧0≤p.pb∧p.pb≤1000000:=by
 unfold qaL at h;split at h
 ·simp only[Bool.and_eq_true,decide_eq_true_eq]at h;omega
 ·simp only[Bool.and_eq_true,decide_eq_true_eq]at h;omega
def qaT (p:PT):List UInt8:=if qaL p=false then [] else if p.pa=0 then [45] else dec p.pa++(46::(dec p.ps++(46::dec p.pb)))
theorem qbt (p:PT):(qaT p).length≤29:=by
 unfold qaT;split
 ·simp
 ·rename_i h;have hb:=qjL (p:=p) (by simpa using h);split
  ·simp
  ·have h1:=qaz p.pa (by omega);have h2:=qaz p.ps (by omega);have h3:=qaz p.pb (by omega);simp;omega
theorem qeS (p:PT):CV prog 243 [.agg p.row] (.str (qaT p)):=by
 obtain⟨R,hR⟩:∃ R,qaT p=R:=⟨_,rfl⟩;rw[hR];have c1:=qdX p;simp only[PT.row]at c1;unfold qaT at hR;refine cvx func243 [(5,[zI 0,zJ 1 [1] [],zJ 4 [] [1],zJ 5 [1] [1],zJ 9 [] [1],zJ 10 [1] [1],zJ 2 [] [1],zJ 3 [] [1],zJ 6 [] [1],zJ 7 [] [1],zJ 8 [] [1],zI 11,zI 12,zI 13])] ntmps243 rfl rfl rfl ?_ (hca:=by simp[PT.row]);simp[PT.row];refine c1.call ?_;cases hok:qaL p with
 | false =>
  rw[if_pos hok]at hR;simp[← hR]
 | true =>
  rw[if_neg (by simp[hok])]at hR;have hb:=qjL hok;by_cases h0:p.pa=0
  ·rw[if_pos h0]at hR;simp[h0,← hR]
  ·rw[if_neg h0]at hR;have d1:=qix p.pa (by omega) (by omega);have d2:=qix p.ps (by omega) (by omega);have d3:=qix p.pb (by omega) (by omega);have l1:=qaz p.pa (by omega);have l2:=qaz p.ps (by omega);have l3:=qaz p.pb (by omega);simp[h0];refine d1.call ?_;simp;refine⟨by omega,?_⟩;refine d2.call ?_;simp;refine⟨by omega,by omega,?_⟩;refine d3.call ?_;simp[← hR];omega
def qcy:List PT→Bool→Option (List UInt8)
 | [],_=>some []
 | p::r,first=>if qaL p=false then none else (qcy r false).map fun t=>(if first=true then [] else [32])++(qaT p++t)
def qbk (m:List PT):List UInt8:=(qcy m true).getD []
theorem qlK (m:List PT) (h8:m.length=8):CV prog 248 [.agg (m.flatMap PT.row)] (.str (qbk m)):=by
 obtain⟨R,hR⟩:∃ R,qbk m=R:=⟨_,rfl⟩;rw[hR];refine cvx func248 [] ntmps248 rfl rfl rfl ?_ (hca:=by simp[qfc]);simp[qqK h8];refine qbe (X:=Nat×List UInt8) [1,2,3,4] [(1,1)] (fun x=>[(3,.str x.2),(4,.int .i64 x.1)]) (fun _=>[]) (fun x=>8-x.1) (fun x=>x.1≤8∧x.2.length≤30 * x.1∧((qcy (m.drop x.1) (decide (x.1=0))).map (x.2++·)).getD []=R) (0,[]) (by simp[← hR,qbk]) ?_ (he:=by simp[qah]);rintro⟨i,t⟩ ⟨hi,hl,hd⟩;simp only at hi hl hd;cases hr:m.drop i with
 | nil =>
  have:=qaY hr;rw[hr]at hd;have hie:i=8:=by omega
  subst hie;simp only[qcy,qFX,qH6,qGU]at hd;simp[hd]
 | cons p q =>
  obtain⟨k1,e0,e1,k3⟩:=qaZ hr;rw[hr]at hd;simp only[qcy]at hd;have hli:(i:Int)<8:=by omega
  have hi8:i<8:=by omega
  have e2:=qap ((i:Int)+1) (by omega) (by omega);have c1:=qdX p;have c2:=qeS p;have hpl:=qbt p;have hf:=qhb e1;simp only[PT.row]at c1 c2;simp[qah,hli,hi8,hf];refine⟨by omega,?_⟩;refine c1.call ?_;cases hok:qaL p with
  | false =>
   rw[if_pos hok]at hd;simp only[qIK,qIL]at hd;simp[← hd]
  | true =>
   rw[if_neg (by simp[hok])]at hd;by_cases h0:i=0
   ·subst h0;have hf0:List.take 3 (List.flatMap PT.row m)=p.row:=by simpa using hf
    simp only[PT.row]at hf0;simp[qah,hf0,PT.row];refine c2.call ?_;simp[e2];refine⟨by omega,nx (1,t++qaT p) [(1,1)] ⟨by simp only;omega,by simp;omega,by simp only[k3];simpa [qIM,qHQ]using hd⟩ (by simp only;omega) (h4:=by simp[qah,e2])⟩
   ·have h0':(0:Int)<i:=by omega
    simp[qah,hf,h0',h0];intro _;refine⟨by omega,hli,by omega,?_⟩;refine c2.call ?_;simp[e2];have hd':decide (i=0)=false:=by simpa using h0
    rw[hd']at hd;refine⟨by omega,nx (i+1,t++(32::qaT p)) [(1,1)] ⟨by simp only;omega,by simp;omega,by simp only[k3];simpa [qIM,qHQ]using hd⟩ (by simp only;omega) (h4:=by simp[qah,e2])⟩
def qev (s:List UInt8):List UInt8:=if s=[] then [45] else s
theorem qAa (s:List UInt8):CV prog 245 [.str s] (.str (qev s)):=by
 unfold qev;refine cvx func245 [] ntmps245 rfl rfl rfl ?_;by_cases h:s=[]
 ·simp[h]
 ·simp[h]
def qdY (s:CS):List UInt8:=10::(s.name++(32::(dec s.kind++(32::(qev s.frm++(32::qaT s.home))))))
def qbF:List CS→Option (List UInt8)
 | []=>some []
 | s::r=>if qbp s=false then none else (qbF r).map (qdY s++·)
def qa6:List PT→Option (List UInt8)
 | []=>some []
 | p::r=>if qar p=false then none else (qa6 r).map ((10::46::32::qaT p)++·)
def qaD (c:CO):List UInt8:=((qbF c.sets).bind fun t=>(qa6 c.parts).map fun u=>[114,111,111,116]++(t++u)).getD []
theorem qnJ {s:CS} (h:qbp s=true):1≤s.kind∧s.kind≤2:=by
 simp only[qbp,Bool.and_eq_true,decide_eq_true_eq]at h;exact h.1.1.2
theorem qeB (s:CS):∀ x∈s.row,qdn x=true:=fun x hx=>by
 simp only[CS.row,qHq,qHs,qIo,PT.row,qHz,or_false]at hx;rcases hx with rfl | rfl | rfl | ⟨p,_,hp⟩ | h | rfl
 ·rfl
 ·rfl
 ·rfl
 ·rcases hp with rfl | rfl | rfl <;> rfl
 ·rcases h with rfl | rfl | rfl <;> rfl
 ·rfl
theorem qi1 (s:List UInt8):(qev s).length≤s.length+1:=by unfold qev;split <;> simp
theorem qfS {s:CS} (h:qbp s=true):(qdY s).length≤64:=by
 have h1:=qhl h;have h2:=qnJ h;have h3:=qaz s.kind (by omega);have h4:=qi1 s.frm;have h5:=qbt s.home;simp[qdY];omega
theorem qqZ (c:CO) (h:CoT c):CV prog 160 [.agg c.row] (.str (qaD c)):=by
 obtain⟨R,hR⟩:∃ R,qaD c=R:=⟨_,rfl⟩;rw[hR];have hs:=h.sets;have hp:=h.parts;refine cvx func160 [(8,[zI 0,zI 1,zI 2,zJ 3 [5] [],zI 4,zI 5,zJ 6 [] [5],zJ 7 [5] [5],zJ 11 [] [5],zJ 12 [5] [5],zJ 16 [] [5],zJ 17 [5] [5],zJ 8 [] [5],zJ 9 [] [5],zJ 10 [] [5],zJ 13 [] [5],zJ 14 [] [5],zJ 15 [] [5],zJ 18 [] [5],zI 19,zI 20])] ntmps160 rfl rfl rfl ?_ (hca:=by simp[CO.row,PT.row,DE.row,qa1,qad]);simp[CO.row];refine qbe (X:=Nat×List UInt8) [1,2,3,4] [(1,1)] (fun x=>[(3,.str x.2),(4,.int .i64 x.1)]) (fun _=>[]) (fun x=>c.sets.length-x.1) (fun x=>x.1≤c.sets.length∧x.2.length≤4+64 * x.1∧((qbF (c.sets.drop x.1)).bind fun t=>(qa6 c.parts).map fun u=>x.2++(t++u)).getD []=R) (0,[114,111,111,116]) (by simp[← hR,qaD]) ?_ (he:=by simp[qah]);rintro⟨i,t⟩ ⟨hi,hl,hd⟩;simp only at hi hl hd;cases hr:c.sets.drop i with
 | nil =>
  have:=qaY hr;rw[hr]at hd;have hie:i=c.sets.length:=by omega
  subst hie;simp only[qbF,qHu,qGC]at hd;simp[qah];refine qbe (X:=Nat×List UInt8) [1,2,3,6] [(1,1)] (fun x=>[(3,.str x.2),(6,.int .i64 x.1)]) (fun _=>[]) (fun x=>c.parts.length-x.1) (fun x=>x.1≤c.parts.length∧x.2.length≤4+64 * c.sets.length+64 * x.1∧((qa6 (c.parts.drop x.1)).map fun u=>x.2++u).getD []=R) (0,t) (by simp[hd];omega) ?_ (he:=by simp[qah]);rintro⟨i,t⟩ ⟨hi,hl,hd⟩;simp only at hi hl hd;cases hr:c.parts.drop i with
  | nil =>
   have:=qaY hr;rw[hr]at hd;have hie:i=c.parts.length:=by omega
   subst hie;simp only[qa6,qFX,qH6,qGU]at hd;simp[qah,hd]
  | cons p q =>
   obtain⟨k1,e0,e1,k3⟩:=qaZ hr;rw[hr]at hd;simp only[qa6]at hd;have hli:(i:Int)<c.parts.length:=by omega
   have e2:=qap ((i:Int)+1) (by omega) (by omega);have c1:=qdX p;have c2:=qeS p;have hpl:=qbt p;simp only[PT.row]at c1 c2;simp[qah,k1,e0,e1,hli,PT.row];refine c1.call ?_;cases hok:qaL p with
   | false =>
    rw[if_pos (show qar p=false by simp[qar,hok])]at hd;simp only[qIK,qIL]at hd;simp[← hd]
   | true =>
    by_cases h0:p.pa=0
    ·rw[if_pos (show qar p=false by simp[qar,hok,h0])]at hd;simp only[qIK,qIL]at hd;simp[← hd,h0,qah,k1,e0,e1,hli,PT.row]
    ·rw[if_neg (show ¬ qar p=false by simp[qar,hok,h0])]at hd;simp[h0,qah,k1,e0,e1,hli,PT.row];refine⟨by omega,?_⟩;refine c2.call ?_;simp[e2];refine⟨by omega,nx (i+1,t++(10::46::32::qaT p)) [(1,1)] ⟨by simp only;omega,by simp;omega,by simp only[k3];simpa [qIM,qHQ]using hd⟩ (by simp only;omega) (h4:=by simp[qah,e2])⟩
 | cons s q =>
  obtain⟨k1,e0,e1,k3⟩:=qaZ hr;rw[hr]at hd;simp only[qbF]at hd;have hsm:=qHT e1;have hli:(i:Int)<c.sets.length:=by omega
  have e2:=qap ((i:Int)+1) (by omega) (by omega);have h8:=h.m8 s hsm;have c1:=qz2 s h8 (h.nm s hsm).1 (h.nm s hsm).2;simp[qah,k1,e0,e1,hli,qaC s h8,qbl s h8];refine⟨qeB s,?_⟩;refine c1.call ?_;cases hok:qbp s with
  | false =>
   rw[if_pos hok]at hd;simp only[Option.bind_none,qIL]at hd;simp[← hd]
  | true =>
   rw[if_neg (by simp[hok])]at hd;have hk:=qnJ hok;have c2:=qix s.kind (by omega) (by omega);have c3:=qAa s.frm;have c4:=qeS s.home;have hrl:=qfS hok;have hn:=qhl hok;have hdl:=qaz s.kind (by omega);have hfl:=qi1 s.frm;have hpl:=qbt s.home;simp[qc2 s h8];refine⟨by omega,by omega,by omega,?_⟩;refine c2.call ?_;simp;refine⟨by omega,by omega,?_⟩;refine c3.call ?_;simp[qc2 s h8];refine⟨by omega,by omega,?_⟩;refine c4.call ?_;simp[e2];refine⟨by omega,nx (i+1,t++qdY s) [(1,1)] ⟨by simp only;omega,by simp only[qHe];omega,by simp only[k3];simpa [qIM,qIN,qHQ]using hd⟩ (by simp only;omega) (h4:=by simp[qah,e2,qdY])⟩
def qa9 (txg:Int) (p:PT):List UInt8:=if txg<1∨1000000<txg∨qar p=false then [] else qdW (dec txg++(32::(qaT p++(32::dec txg))))
theorem qva (txg:Int) (p:PT):CV prog 158 [.int .i64 txg,.agg p.row] (.str (qa9 txg p)):=by
 obtain⟨R,hR⟩:∃ R,qa9 txg p=R:=⟨_,rfl⟩;rw[hR];unfold qa9 at hR;have c1:=qdX p;have c2:=qeS p;have hpl:=qbt p;simp only[PT.row]at c1 c2;refine cvx func158 [(3,[zI 0,zJ 3 [3] [],zJ 7 [] [3],zJ 1 [] [3],zJ 2 [] [3],zI 4,zI 5,zI 6,zI 8,zI 9,zI 10,zI 11])] ntmps158 rfl rfl rfl ?_ (hca:=by simp[PT.row]);by_cases h1:txg<1
 ·rw[if_pos (.inl h1)]at hR;simp[PT.row,h1,← hR]
 by_cases h2:1000000<txg
 ·rw[if_pos (.inr (.inl h2))]at hR;simp[PT.row,h1,h2,← hR]
 simp[PT.row,h1,h2];refine c1.call ?_;cases hok:qaL p with
 | false =>
  rw[if_pos (.inr (.inr (by simp[qar,hok])))]at hR;simp[← hR]
 | true =>
  by_cases h0:p.pa=0
  ·rw[if_pos (.inr (.inr (by simp[qar,hok,h0])))]at hR;simp[← hR,h0,PT.row]
  ·rw[if_neg (fun h=>h.elim h1 fun h=>h.elim h2 fun h=>by simp[qar,hok,h0]at h)]at hR;have d1:=qix txg (by omega) (by omega);have l1:=qaz txg (by omega);have c3:=qn3 (dec txg++(32::(qaT p++(32::dec txg)))) (by simp[maxLen];omega);simp[h0,PT.row];refine d1.call ?_;simp[PT.row];refine⟨by omega,?_⟩;refine c2.call ?_;simp;refine⟨by omega,by omega,?_⟩;refine d1.call ?_;simp;refine⟨by omega,?_⟩;refine c3.call ?_;simp[hR]
structure LR where
 txg:Int
 seq:Int
 op:BO
deriving DecidableEq,Inhabited
def LR.row (r:LR):List AV:=.int .i64 r.txg::.int .i64 r.seq::r.op.row
def qdj (r:LR):Bool:=decide (1≤r.txg) && decide (r.txg≤1000000) && decide (0≤r.seq) && decide (r.seq<8) && decide (r.op.kind=3) && qbR r.op.a && decide (r.op.b=[]) && decide (0≤r.op.i) && decide (r.op.i<8) && decide (r.op.text.length≤24)
def qh3 (s:List UInt8):List UInt8:=if qeI s=[] then [45] else qeI s
def qbS (r:LR):List UInt8:=if qdj r=false then [] else
 qdW (dec r.txg++(46::(dec r.seq++(32::(r.op.a++(32::(dec r.op.i++(32::(qh3 r.op.text++(32::(dec r.txg++(46::dec r.seq))))))))))))
theorem qq5 (r:LR) (ha:r.op.a.length≤1048576) (ht:r.op.text.length≤1048576):CV prog 326 [.agg r.row] (.str (qbS r)):=by
 obtain⟨R,hR⟩:∃ R,qbS r=R:=⟨_,rfl⟩;rw[hR];have hno:qdj r=false→R=[]:=fun h=>by rw[← hR];unfold qbS;rw[if_pos h]
 have hbad:∀ b:Prop,[Decidable b]→¬ b→(qdj r=true→b)→R=[]:=fun b _ hb h=>hno (by
  cases e:qdj r with
  | false=>rfl
  | true=>exact absurd (h e) hb)
 have hsp:qdj r=true↔(1≤r.txg∧r.txg≤1000000)∧(0≤r.seq∧r.seq<8)∧r.op.kind=3∧qbR r.op.a=true∧r.op.b=[]∧(0≤r.op.i∧r.op.i<8)∧r.op.text.length≤24:=by
  simp only[qdj,Bool.and_eq_true,decide_eq_true_eq];grind
 have c1:=qw1 r.op.a ha;have c2:=qDt r.op.text ht;have hxl:=qgl r.op.text;have hyes:qdj r=true→R=qdW (dec r.txg++(46::(dec r.seq++(32::(r.op.a++(32::(dec r.op.i++(32::(qh3 r.op.text++(32::(dec r.txg++(46::dec r.seq)))))))))))):=fun h=>by
  rw[← hR];unfold qbS;rw[if_neg (by simp[h])]
 refine cvx func326 [(7,[zI 0,zJ 1 [1] [],zJ 4 [] [1],zJ 5 [1] [1],zJ 2 [] [1],zJ 3 [] [1],zI 6,zI 7,zI 8]),(8,[zI 0,zI 1,zI 2,zJ 3 [3] [],zI 4,zI 5,zJ 6 [] [3],zJ 7 [3] [3],zJ 11 [] [3],zJ 14 [] [3],zJ 8 [] [3],zI 9,zI 10,zI 12,zI 13,zI 15,zI 16,zI 17])] ntmps326 rfl rfl rfl ?_ (hca:=by simp[LR.row,BO.row]);simp[LR.row,BO.row];refine⟨fun q1=>⟨fun q2=>⟨fun q3=>⟨fun q4=>⟨fun q5=>?_,fun q=>hbad _ q fun h=>(hsp.1 h).2.2.1⟩,fun q=>hbad _ (Int.not_lt.2 q) fun h=>(hsp.1 h).2.1.2⟩,fun q=>hbad _ (qIO.2 q) fun h=>(hsp.1 h).2.1.1⟩,fun q=>hbad _ (qIO.2 q) fun h=>(hsp.1 h).1.2⟩,fun q=>hbad _ (qIO.2 q) fun h=>(hsp.1 h).1.1⟩;refine c1.call ?_;cases hn:qbR r.op.a with
 | false =>
  have:=hno (by cases e:qdj r with
   | false=>rfl
   | true=>exact absurd (hsp.1 e).2.2.2.1 (by simp[hn]))
  simp[this]
 | true =>
  simp[LR.row,BO.row];refine⟨fun q6=>⟨fun q7=>⟨fun q8=>⟨fun q=>hbad (r.op.text.length≤24) (by omega) fun h=>(hsp.1 h).2.2.2.2.2.2,fun q9=>?_⟩,fun q=>hbad _ (Int.not_lt.2 q) fun h=>(hsp.1 h).2.2.2.2.2.1.2⟩,fun q=>hbad _ (qIO.2 q) fun h=>(hsp.1 h).2.2.2.2.2.1.1⟩,fun q=>hbad _ q fun h=>(hsp.1 h).2.2.2.2.1⟩;have hy:=hyes (hsp.2 ⟨⟨q1,q2⟩,⟨q3,q4⟩,q5,hn,q6,⟨q7,q8⟩,by omega⟩);have d1:=qix r.txg (by omega) (by omega);have d2:=qix r.seq (by omega) (by omega);have d3:=qix r.op.i (by omega) (by omega);have l1:=qaz r.txg (by omega);have l2:=qaz r.seq (by omega);have l3:=qaz r.op.i (by omega);have hna:r.op.a.length≤6:=by
   simp only[qbR,Bool.and_eq_true,decide_eq_true_eq]at hn;exact hn.2
  refine c2.call ?_;have hxT:qeI r.op.text=[]∨qeI r.op.text≠[]:=by cases qeI r.op.text <;> simp
  rcases hxT with hx | hx
  ·have he:qh3 r.op.text=[45]:=by simp[qh3,hx]
   rw[he]at hy;have c3:=qn3 (dec r.txg++(46::(dec r.seq++(32::(r.op.a++(32::(dec r.op.i++(32::([45]++(32::(dec r.txg++(46::dec r.seq)))))))))))) (by simp[maxLen];omega);rw[← hy]at c3;simp[hx,LR.row,BO.row];refine d1.call ?_;simp[LR.row,BO.row];refine⟨by omega,?_⟩;refine d2.call ?_;simp[LR.row,BO.row];refine⟨by omega,by omega,by omega,by omega,?_⟩;refine d3.call ?_;simp[LR.row,BO.row];refine⟨by omega,by omega,by omega,by omega,by omega,?_⟩
   first
    | (refine c3.call ?_;simp)
    | (simp only[qHS,qGC,List.append_assoc]at c3;refine c3.call ?_;simp)
  ·have he:qh3 r.op.text=qeI r.op.text:=by simp[qh3,hx]
   rw[he]at hy;have c3:=qn3 (dec r.txg++(46::(dec r.seq++(32::(r.op.a++(32::(dec r.op.i++(32::(qeI r.op.text++(32::(dec r.txg++(46::dec r.seq)))))))))))) (by simp[maxLen];omega);rw[← hy]at c3;simp[hx,LR.row,BO.row];refine d1.call ?_;simp[LR.row,BO.row];refine⟨by omega,?_⟩;refine d2.call ?_;simp[LR.row,BO.row];refine⟨by omega,by omega,by omega,by omega,?_⟩;refine d3.call ?_;simp[LR.row,BO.row];refine⟨by omega,by omega,by omega,by omega,by omega,?_⟩
   first
    | (refine c3.call ?_;simp)
    | (simp only[qHS,qGC,List.append_assoc]at c3;refine c3.call ?_;simp)
def kcs (l:List CS):Ob:=⟨31,l.map CS.row⟩
def kpt (l:List PT):Ob:=⟨3,l.map PT.row⟩
def kin (l:List Int):Ob:=⟨1,l.map qad⟩
@[simp] theorem qy7 (ρ:Nat→Option Plc):qb6 ρ ∘ CS.row=CS.row:=by funext x;exact renL_closed.renL_closedL ρ _ (qa1 x)
@[simp] theorem qy3 (ρ:Nat→Option Plc):qb6 ρ ∘ PT.row=PT.row:=by funext x;simp[PT.row]
@[simp] theorem qy5 (ρ:Nat→Option Plc):qb6 ρ ∘ qad=qad:=by funext x;simp[qad]
@[simp] theorem qAt (ρ:Nat→Option Plc) (l:List CS):qbH ρ (kcs l)=kcs l:=by simp[kcs,qbH]
@[simp] theorem qAr (ρ:Nat→Option Plc) (l:List PT):qbH ρ (kpt l)=kpt l:=by simp[kpt,qbH]
@[simp] theorem qAs (ρ:Nat→Option Plc) (l:List Int):qbH ρ (kin l)=kin l:=by simp[kin,qbH]
theorem qa5 (l:List CS):clR (kcs l).els=true:=by simp[clR,kcs,qa1]
theorem qbq (l:List PT):clR (kpt l).els=true:=by simp[clR,kpt,PT.row]
theorem qaP (l:List Int):clR (kin l).els=true:=by simp[clR,kin,qad]
def qcA (c:CO) (a b e f:Nat):AV:=.agg [.int .i64 c.txg,.sl a 0 c.sets.length,.sl b 0 c.ddt.length,.sl e 0 c.parts.length,.bool c.dirty,.sl f 0 c.safe.length,.int .i64 c.logn]
theorem qna (c:CO) (h:CoT c):ACall prog 117 [.agg c.row] [] (fun r L'=>r=qcA c 8 12 17 22∧L'=[(8,kcs c.sets),(12,qaN c.ddt),(17,kpt c.parts),(22,kin c.safe)]):=by
 have h1:=h.sets;have h2:=h.ddt;have h3:=h.parts;have h4:=h.safe;have co:=qiy c.ddt h2;refine acx func117 [] ntmps117 rfl rfl rfl ?_;simp[CO.row];refine⟨⟨by omega,fun x _=>qeB x⟩,?_⟩;refine qac [] (by kernel_rfl) co (by simp) (by simpa using fun x hx=>quC c.ddt x hx) trivial (by simp) (by simp) ?_;rintro r L' ⟨rfl,rfl⟩;refine⟨[(5,12)],⟨by simp,by simp,by simp,by simp,by simp⟩,?_⟩;simp only[qaf];simp[qcA,kcs,kpt,kin];exact⟨by omega,by omega⟩
theorem qw4 (c:CO) (h:CoT c):CV prog 117 [.agg c.row] (.agg c.row):=by
 refine CV.of_frz (qna c h) ?_ (hca:=by simp[qb3]) (hcv:=by simp[qb3]);rintro r L' ⟨rfl,rfl⟩;refine⟨by simp,by simp,fun x hx=>by
  simp only[qHq,qHz,or_false]at hx;rcases hx with rfl | rfl | rfl | rfl
  ·exact qa5 _
  ·exact qbK _
  ·exact qbq _
  ·exact qaP _,?_⟩
 simp[qa7,CO.row,qcA,kcs,kpt,kin,qaN,qal]
theorem qz9 (l:List Int) (a:Int) (hl:l.length≤1048576):CV prog 140 [.lst 1 (l.map qad),.int .i64 a] (.bool (l.contains a)):=by
 obtain⟨R,hR⟩:∃ R,l.contains a=R:=⟨_,rfl⟩;rw[hR];refine cvx func140 [] ntmps140 rfl rfl rfl ?_ (hca:=by simp[qad]);simp;refine qbe (X:=Nat) [0,1,4,5] [] (fun i=>[(5,.int .i64 i)]) (fun _=>[]) (fun i=>l.length-i) (fun i=>i≤l.length∧(l.drop i).contains a=R) 0 (by simp[← hR]) ?_;rintro i ⟨hi,hd⟩;cases hr:l.drop i with
 | nil =>
  have:=qaY hr;rw[hr]at hd;have hie:i=l.length:=by omega
  subst hie;simp;simpa using hd
 | cons x q =>
  obtain⟨k1,e0,e1,k3⟩:=qaZ hr;rw[hr]at hd;have hli:(i:Int)<l.length:=by omega
  have e2:=qap ((i:Int)+1) (by omega) (by omega);simp[k1,e0,e1,hli,e2,qad];refine⟨fun q1=>?_,fun q1=>nx (i+1) [] ⟨by omega,?_⟩ (h4:=by simp[e2])⟩
  ·rw[← hd];simp[q1]
  ·rw[k3,← hd];have:¬ a=x:=fun e=>q1 e.symm;simp[this]
def qfC (c:CO) (a:Int):Bool:=!ddT c.ddt a && !c.safe.contains a
def qgm (c:CO):Nat→Int→List Int
 | 0,_=>[]
 | k+1,a=>(if qfC c a=true then [a] else [])++qgm c k (a+1)
def qaV (c:CO) (n:Int):List Int:=qgm c (n-13).toNat 13
theorem qq6 (c:CO) (h:CoT c) (n:Int) (hn:n≤1048576):ACall prog 61 [.agg c.row,.int .i64 n] [] (fun r L'=>r=.sl 900 0 (qaV c n).length∧L'=[(900,kin (qaV c n))]):=by
 obtain⟨R,hR⟩:∃ R,qaV c n=R:=⟨_,rfl⟩;rw[hR];have h2:=h.ddt;have h4:=h.safe;refine acx func61 [] ntmps61 rfl rfl rfl ?_;simp[CO.row];refine qaM (X:=Int×List Int) [1,2,5,6] [(2,2),(9,900)] (fun x=>[(5,.sl 900 0 x.2.length),(6,.int .i64 x.1)]) (fun x=>[(2,⟨7,[c.row]⟩),(900,kin x.2)]) (fun x=>(n-x.1).toNat) (fun x=>13≤x.1∧x.1≤1048577∧x.2.length≤x.1∧x.2++qgm c (n-x.1).toNat x.1=R) (13,[]) (by simp[← hR,qaV]) ?_ (he:=by simp[qah,kin,CO.row]);rintro⟨a,out⟩ ⟨ha,ha2,hl,hd⟩;simp only at ha ha2 hl hd;by_cases hlt:a<n
 ·obtain⟨k,hk⟩:∃ k,(n-a).toNat=k+1:=⟨(n-a).toNat-1,by omega⟩;have hk2:(n-(a+1)).toNat=k:=by omega
  rw[hk]at hd;simp only[qgm]at hd;have c1:=qtU c.ddt a h2;have c2:=qz9 c.safe a h4;have e2:=qap (a+1) (by omega) (by omega);simp[qah,hlt,CO.row];refine c1.call ?_;cases ht:ddT c.ddt a with
  | true =>
   have hf:¬ qfC c a=true:=by simp[qfC,ht]
   rw[if_neg hf,qGC]at hd;simp[e2];exact nx (a+1,out) [(2,2),(900,900)] ⟨by simp only;omega,by simp only;omega,by simp only;omega,by simp only[hk2];exact hd⟩ (by simp only;omega) (h4:=by simp[qah,e2,CO.row,kin])
  | false =>
   simp[CO.row];refine c2.call ?_;cases hs:c.safe.contains a with
   | true =>
    have hf:¬ qfC c a=true:=by simp only[qfC,ht,hs];simp
    rw[if_neg hf,qGC]at hd;simp[e2];exact nx (a+1,out) [(2,2),(900,900)] ⟨by simp only;omega,by simp only;omega,by simp only;omega,by simp only[hk2];exact hd⟩ (by simp only;omega) (h4:=by simp[qah,e2,CO.row,kin])
   | false =>
    have hf:qfC c a=true:=by simp only[qfC,ht,hs];rfl
    rw[if_pos hf]at hd;simp[e2,kin];refine⟨by omega,nx (a+1,out++[a]) [(2,2),(34,900)] ⟨by simp only;omega,by simp only;omega,by simp;omega,by simp only[hk2];simpa using hd⟩ (by simp only;omega) (h4:=by simp[qah,e2,CO.row,kin,qad,qal])⟩
 ·have hk:(n-a).toNat=0:=by omega
  rw[hk]at hd;simp only[qgm,qH6]at hd;simp[hlt,← hd]
theorem qq7 (c:CO) (h:CoT c) (n:Int) (hn:n≤1048576):CV prog 61 [.agg c.row,.int .i64 n] (.lst 1 ((qaV c n).map qad)):=by
 refine CV.of_frz (qq6 c h n hn) ?_ (hca:=by simp[qb3]) (hcv:=by simp[qad]);rintro r L' ⟨rfl,rfl⟩;refine⟨by simp,by simp,fun x hx=>by
  simp only[qHq,qHz,or_false]at hx;rcases hx with rfl;exact qaP _,?_⟩
 simp[qa7,kin,qal]
theorem qmp (c:CO):∀ (k:Nat) (a:Int),(qgm c k a).length≤k
 | 0,_=>by simp[qgm]
 | k+1,a=>by
  have:=qmp c k (a+1);simp only[qgm,qHe];split <;> simp <;> omega
theorem qmq (c:CO) (n:Int):((qaV c n).length:Int)≤n∨(qaV c n).length=0:=by
 have:=qmp c (n-13).toNat 13;unfold qaV;omega
def qpH (c:CO) (n:Int):Bool:=decide (16<(qaV c n).length) && decide (32≤n-13-c.ddt.length-1) && decide (c.ddt.length<48)
theorem qDx (c:CO) (h:CoT c) (n:Int) (hn:n≤1048576) (hn0:0≤n):CV prog 273 [.agg c.row,.int .i64 n] (.bool (qpH c n)):=by
 obtain⟨R,hR⟩:∃ R,qpH c n=R:=⟨_,rfl⟩;rw[hR];unfold qpH at hR;have h2:=h.ddt;have c1:=qq7 c h n hn;generalize qaV c n=l at *
 simp only[CO.row]at c1;have e1:=qap (n-13) (by omega) (by omega);have e2:=qap (n-13-(c.ddt.length:Int)) (by omega) (by omega);have e3:=qap (n-13-(c.ddt.length:Int)-1) (by omega) (by omega);refine cvx func273 [] ntmps273 rfl rfl rfl ?_ (hca:=by simp[qb3]);simp[CO.row];refine c1.call ?_;simp[CO.row,e1,e2,e3];subst hR;refine⟨fun q1=>⟨fun q2=>?_,fun q2=>?_⟩,fun q1=>?_⟩
 ·have q1':16<l.length:=by omega
  simp only[q1',q2,decide_true,qIe];rw[decide_eq_decide];omega
 ·have q2':¬ 32≤n-13-(c.ddt.length:Int)-1:=by omega
  simp[q2']
 ·have q1':¬ 16<l.length:=by omega
  simp[q1']
def plP (l:List Int) (a:Int):Nat:=(l.takeWhile fun x=>decide (x<a)).length
def qf2 (l:List Int) (a:Int):List Int:=if a<13∨l.contains a=true then l else l.take (plP l a)++a::l.drop (plP l a)
theorem qvj (l:List Int) (a:Int):plP l a≤l.length:=(qIs _).length_le
theorem qwY (l:List Int) (a:Int) (hl:l.length≤1000000):ACall prog 169 [.sl 1000 0 l.length,.int .i64 a] [(1000,kin l)] (fun r L'=>∃ id,(id=1000∨id=41)∧r=.sl id 0 (qf2 l a).length∧L'=[(id,kin (qf2 l a))]):=by
 obtain⟨R,hR⟩:∃ R,qf2 l a=R:=⟨_,rfl⟩;rw[hR];unfold qf2 at hR;have c1:=qz9 l a (by omega);have hk:=qvj l a;refine acx func169 [] ntmps169 rfl rfl rfl ?_;by_cases h1:a<13
 ·rw[if_pos (.inl h1)]at hR;simp[h1,← hR]
 simp[h1];refine c1.view (by simp[qb5,mtA,kin,qal]) ?_;cases hc:l.contains a with
 | true =>
  rw[if_pos (.inr hc)]at hR;simp[← hR]
 | false =>
  rw[if_neg (by simp only[hc,h1];simp)]at hR;simp;refine qbe (X:=Nat) [0,1,4,5] [(1000,1000)] (fun i=>[(5,.int .i64 i)]) (fun _=>[]) (fun i=>l.length-i) (fun i=>i≤l.length∧i+plP (l.drop i) a=plP l a) 0 (by simp) ?_ (he:=by simp[qah]);rintro i ⟨hi,hd⟩;have fin:i=plP l a→List.take i l++a::List.drop i l=R:=fun e=>by rw[e];exact hR
  cases hr:l.drop i with
  | nil =>
   have:=qaY hr;rw[hr]at hd;have hie:i=l.length:=by omega
   have hf:=fin (by simpa [plP]using hd);subst hie;simp[qah,kin];subst hf;refine⟨by omega,?_,by simp⟩;rw[qal,qGh (by simp)];simp[qad,qGh]
  | cons x q =>
   obtain⟨k1,e0,e1,k3⟩:=qaZ hr;rw[hr]at hd;have hli:(i:Int)<l.length:=by omega
   have e2:=qap ((i:Int)+1) (by omega) (by omega);by_cases hx:x<a
   ·have hp:plP (x::q) a=plP q a+1:=by simp[plP,qIr,hx]
    simp[qah,kin,k1,e0,e1,hli,e2,hx,qad];exact nx (i+1) [(1000,1000)] ⟨by omega,by rw[k3];omega⟩ (h4:=by simp[qah,e2,kin])
   ·have hp:plP (x::q) a=0:=by simp[plP,qIr,hx]
    have hf:=fin (by omega);simp[qah,kin,k1,e0,e1,hli,e2,hx,qad];rw[qun];have et:List.take (l.length-i) ((l.drop i).map qad)=(l.drop i).map qad:=qGh (by simp);have e5:List.take (i+1) (List.take i (List.map qad l)++[[AV.int IntKind.i64 a]])=List.map qad (List.take i l++[a]):=by
     rw[qGh (by simp;omega)];simp[qad]
    rw[et,e5];have ho:∀ x∈(l.drop i).map qad,∀ y∈x,qdn y=true:=fun x hx y hy=>by
     obtain⟨e,_,rfl⟩:=qGt.1 hx;simp only[qad,qHq,qHz,or_false]at hy;subst hy;rfl
    subst hf;refine⟨by omega,⟨by omega,by omega,ho⟩,by omega,⟨by omega,by omega⟩,⟨by omega,by omega,ho⟩,by simp,by simp;omega⟩
theorem qfs (l:List Int) (a:Int):(qf2 l a).length≤l.length+1:=by
 unfold qf2;split
 ·omega
 ·have:=qvj l a;simp;omega
def qcQ (l:List Int) (bs:List Int):List Int:=bs.foldl qf2 l
theorem qgB:∀ (bs:List Int) (l:List Int),(qcQ l bs).length≤l.length+bs.length
 | [],l=>by simp[qcQ]
 | a::r,l=>by
  have h1:=qfs l a;have h2:=qgB r (qf2 l a);simp only[qcQ,qGj,qGk]at *
  omega
def qcf (c:CO) (root:Int):List Int:=qcQ (qcQ (qcQ (qf2 [] root) (c.ddt.map DE.ea)) (c.sets.map fun s=>s.home.pa)) (c.parts.map PT.pa)
structure CoM (c:CO):Prop where
 sets:c.sets.length≤1000
 ddt:c.ddt.length≤1000
 parts:c.parts.length≤1000
theorem qej (l:List Int) (a:Int) (r:List Int):qcQ l (a::r)=qcQ (qf2 l a) r:=rfl
theorem qjj (l:List Int):qcQ l []=l:=rfl
theorem qvN (s:CS) (h8:s.map.length=8):s.row[27]?=some (.int .i64 s.home.pa):=by
 have h:=qc2 s h8;have h2:=congrArg (fun l:List AV=>l[0]?) h;simp only[qFV,qGr]at h2;simpa [PT.row]using h2
theorem qkq (l:List Int) (a:Int) (hl:l.length≤1000000):ACall prog 169 [.sl 1000 0 l.length,.int .i64 a] [(1000,kin l)] (fun r L'=>r=.sl 902 0 (qf2 l a).length∧L'=[(902,kin (qf2 l a))]):=by
 refine(qwY l a hl).can ?_;rintro r L' ⟨id,rfl | rfl,rfl,rfl⟩
 ·exact⟨[(1000,902)],by simp,by simp,by simp,by simp,by simp,by simp[qah]⟩
 ·exact⟨[(41,902)],by simp,by simp,by simp,by simp,by simp,by simp[qah]⟩
theorem qq1 (c:CO) (h:CoT c) (hm:CoM c) (root:Int):ACall prog 79 [.agg c.row,.int .i64 root] [] (fun r L'=>r=.sl 900 0 (qcf c root).length∧L'=[(900,kin (qcf c root))]):=by
 obtain⟨R,hR⟩:∃ R,qcf c root=R:=⟨_,rfl⟩;rw[hR];unfold qcf at hR;have h1:=hm.sets;have h2:=hm.ddt;have h3:=hm.parts;refine acx func79 [] ntmps79 rfl rfl rfl ?_;simp[CO.row];refine qac [(1000,.whole 9)] (by kernel_rfl) (qkq [] root (by simp)) (by simp) (by simp) (by simp[kin];exact qaa rfl (by simp[clR])) (by simp) (by simp) ?_;rintro r L' ⟨rfl,rfl⟩;have hl0:=qfs [] root;simp only[qHf]at hl0;refine⟨[(902,902)],⟨by simp,by simp,by simp,by simp,by simp⟩,?_⟩;simp only[qaf];simp[CO.row];refine qaM (X:=Nat×List Int) [2,5,6] [(2,2),(902,900)] (fun x=>[(5,.sl 900 0 x.2.length),(6,.int .i64 x.1)]) (fun x=>[(2,⟨7,[c.row]⟩),(900,kin x.2)]) (fun x=>c.ddt.length-x.1) (fun x=>x.1≤c.ddt.length∧x.2.length≤1+x.1∧qcQ (qcQ (qcQ x.2 ((c.ddt.drop x.1).map DE.ea)) (c.sets.map fun s=>s.home.pa)) (c.parts.map PT.pa)=R) (0,(qf2 [] root)) ⟨by simp,by simp only;omega,by simpa using hR⟩ ?_ (he:=by simp[qah,kin,CO.row]);rintro⟨i,l⟩ ⟨hi,hl,hd⟩;simp only at hi hl hd;cases hr:c.ddt.drop i with
 | nil =>
  have:=qaY hr;rw[hr]at hd;have hie:i=c.ddt.length:=by omega
  subst hie;simp only[qHF,qjj]at hd;simp[qah,CO.row];refine qaM (X:=Nat×List Int) [2,5,7] [(2,2),(900,900)] (fun x=>[(5,.sl 900 0 x.2.length),(7,.int .i64 x.1)]) (fun x=>[(2,⟨7,[c.row]⟩),(900,kin x.2)]) (fun x=>c.sets.length-x.1) (fun x=>x.1≤c.sets.length∧x.2.length≤1001+x.1∧qcQ (qcQ x.2 ((c.sets.drop x.1).map (fun s:CS=>s.home.pa))) (c.parts.map PT.pa)=R) (0,l) ⟨by simp,by simp only;omega,by simpa using hd⟩ ?_ (he:=by simp[qah,kin,CO.row]);rintro⟨i,l⟩ ⟨hi,hl,hd⟩;simp only at hi hl hd;cases hr:c.sets.drop i with
  | nil =>
   have:=qaY hr;rw[hr]at hd;have hie:i=c.sets.length:=by omega
   subst hie;simp only[qHF,qjj]at hd;simp[qah,CO.row];refine qaM (X:=Nat×List Int) [2,5,8] [(2,2),(900,900)] (fun x=>[(5,.sl 900 0 x.2.length),(8,.int .i64 x.1)]) (fun x=>[(2,⟨7,[c.row]⟩),(900,kin x.2)]) (fun x=>c.parts.length-x.1) (fun x=>x.1≤c.parts.length∧x.2.length≤2001+x.1∧(qcQ x.2 ((c.parts.drop x.1).map PT.pa))=R) (0,l) ⟨by simp,by simp only;omega,by simpa using hd⟩ ?_ (he:=by simp[qah,kin,CO.row]);rintro⟨i,l⟩ ⟨hi,hl,hd⟩;simp only at hi hl hd;cases hr:c.parts.drop i with
   | nil =>
    have:=qaY hr;rw[hr]at hd;have hie:i=c.parts.length:=by omega
    subst hie;simp only[qHF,qjj]at hd;simp[qah,← hd]
   | cons x q =>
    obtain⟨k1,e0,e1,k3⟩:=qaZ hr;rw[hr,qGs,qej]at hd;have hli:(i:Int)<c.parts.length:=by omega
    have e2:=qap ((i:Int)+1) (by omega) (by omega);simp[qah,k1,e0,e1,hli,CO.row,PT.row];refine qac [(1000,.whole 900)] (by kernel_rfl) (qkq l x.pa (by omega)) (by simp) (by simp) (by simp[kin];exact qaa rfl (qaP l)) (by simp) (by simp) ?_;have hal:=qfs l x.pa;rintro r L' ⟨rfl,rfl⟩;refine⟨[(902,902)],⟨by simp,by simp,by simp,by simp,by simp⟩,?_⟩;simp only[qaf];simp[e2,CO.row];exact nx (i+1,qf2 l x.pa) [(2,2),(902,900)] ⟨by simp only;omega,by simp only;omega,by simp only[← List.map_drop,k3];exact hd⟩ (by simp only;omega) (h4:=by simp[qah,e2,CO.row,kin])
  | cons x q =>
   obtain⟨k1,e0,e1,k3⟩:=qaZ hr;rw[hr,qGs,qej]at hd;have hli:(i:Int)<c.sets.length:=by omega
   have e2:=qap ((i:Int)+1) (by omega) (by omega);have h8:=h.m8 x (qHT e1);have hx27:x.row[27]?=some (.int .i64 x.home.pa):=qvN x h8;have hx27':=(qGy.1 hx27).2;simp[qah,k1,e0,e1,hli,CO.row,qaC x h8,hx27,hx27'];refine qac [(1000,.whole 900)] (by kernel_rfl) (qkq l x.home.pa (by omega)) (by simp) (by simp) (by simp[kin];exact qaa rfl (qaP l)) (by simp) (by simp) ?_;have hal:=qfs l x.home.pa;rintro r L' ⟨rfl,rfl⟩;refine⟨[(902,902)],⟨by simp,by simp,by simp,by simp,by simp⟩,?_⟩;simp only[qaf];simp[e2,CO.row];exact nx (i+1,qf2 l x.home.pa) [(2,2),(902,900)] ⟨by simp only;omega,by simp only;omega,by simp only[← List.map_drop,k3];exact hd⟩ (by simp only;omega) (h4:=by simp[qah,e2,CO.row,kin])
 | cons x q =>
  obtain⟨k1,e0,e1,k3⟩:=qaZ hr;rw[hr,qGs,qej]at hd;have hli:(i:Int)<c.ddt.length:=by omega
  have e2:=qap ((i:Int)+1) (by omega) (by omega);simp[qah,k1,e0,e1,hli,CO.row,DE.row];refine qac [(1000,.whole 900)] (by kernel_rfl) (qkq l x.ea (by omega)) (by simp) (by simp) (by simp[kin];exact qaa rfl (qaP l)) (by simp) (by simp) ?_;have hal:=qfs l x.ea;rintro r L' ⟨rfl,rfl⟩;refine⟨[(902,902)],⟨by simp,by simp,by simp,by simp,by simp⟩,?_⟩;simp only[qaf];simp[e2,CO.row];exact nx (i+1,qf2 l x.ea) [(2,2),(902,900)] ⟨by simp only;omega,by simp only;omega,by simp only[← List.map_drop,k3];exact hd⟩ (by simp only;omega) (h4:=by simp[qah,e2,CO.row,kin])
theorem qwX (c:CO) (h:CoT c) (hm:CoM c) (root:Int):CV prog 79 [.agg c.row,.int .i64 root] (.lst 1 ((qcf c root).map qad)):=by
 refine CV.of_frz (qq1 c h hm root) ?_ (hca:=by simp[qb3]) (hcv:=by simp[qad]);rintro r L' ⟨rfl,rfl⟩;refine⟨by simp,by simp,fun x hx=>by
  simp only[qHq,qHz,or_false]at hx;rcases hx with rfl;exact qaP _,?_⟩
 simp[qa7,kin,qal]
end Go.Av.F
end
