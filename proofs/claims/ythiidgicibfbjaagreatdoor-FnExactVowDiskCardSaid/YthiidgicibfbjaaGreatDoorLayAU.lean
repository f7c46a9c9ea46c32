/- Lemmas for the proof, no statement of the seat; no conditions. -/
import Derived.Test.YthiidgicibfbjaaGreatDoorLayAT
import Derived.Shelf.Strings.OnBuilder
import Derived.Shelf.LaysM
import Derived.Shelf.LaysC
import Derived.Shelf.Sort.Plain
import Derived.Test.YthiidgicibfbjaaGreatDoorProg
import Derived.Lib.SlicesCompact
set_option linter.unusedSimpArgs false
set_option linter.unusedVariables false
set_option linter.unnecessarySimpa false
set_option maxRecDepth 100000
set_option maxHeartbeats 400000
section
namespace Go.Proofs
open Go.Shelf Go.RowKit Go.Sort Go.Lib
def Tryz.lays156_ren:Go.Shelf.Ren:=⟨fun | 156=>314 | 165=>357 | 166=>358 | 169=>359 | 240=>386 | 241=>387 | 276=>402 | 277=>403 | n=>n,fun | 31=>22 | 9=>9 | 3=>3 | 4=>4 | 0=>0 | 20=>20 | 72=>341 | 76=>263 | 70=>339 | 37=>237 | 75=>262 | 127=>364 | 164=>383 | 5=>5 | 80=>343 | n=>n,fun | n=>n⟩
theorem Tryz.lays156:Go.Proofs.Lays.n156 Tryz.prog Tryz.lays156_ren:={
 mixed:=by kernel_rfl
 f156:=Tryz.func314.trans (congrArg some (by kernel_rfl))
 f165:=Tryz.func357.trans (congrArg some (by kernel_rfl))
 f166:=Tryz.func358.trans (congrArg some (by kernel_rfl))
 f169:=Tryz.func359.trans (congrArg some (by kernel_rfl))
 f240:=Tryz.func386.trans (congrArg some (by kernel_rfl))
 f241:=Tryz.func387.trans (congrArg some (by kernel_rfl))
 f276:=Tryz.func402.trans (congrArg some (by kernel_rfl))
 f277:=Tryz.func403.trans (congrArg some (by kernel_rfl))
 t0:=Tryz.underlying0
 a0:=Tryz.isAgg0
 z0:=Tryz.sizeOf0
 v0:=Tryz.zeroValue0
 t3:=Tryz.underlying3
 a3:=Tryz.isAgg3
 z3:=Tryz.sizeOf3
 v3:=Tryz.zeroValue3
 t4:=Tryz.underlying4
 a4:=Tryz.isAgg4
 z4:=Tryz.sizeOf4
 v4:=Tryz.zeroValue4
 t9:=Tryz.underlying9
 a9:=Tryz.isAgg9
 z9:=Tryz.sizeOf9
 v9:=Tryz.zeroValue9
 t20:=Tryz.underlying20
 a20:=Tryz.isAgg20
 z20:=Tryz.sizeOf20
 v20:=Tryz.zeroValue20
 t31:=Tryz.underlying22
 a31:=Tryz.isAgg22
 z31:=Tryz.sizeOf22
 v31:=Tryz.zeroValue22
 t37:=Tryz.underlying237
 a37:=Tryz.isAgg237
 z37:=Tryz.sizeOf237
 v37:=Tryz.zeroValue237
 t70:=Tryz.underlying339
 a70:=Tryz.isAgg339
 z70:=Tryz.sizeOf339
 v70:=Tryz.zeroValue339
 t72:=Tryz.underlying341
 a72:=Tryz.isAgg341
 z72:=Tryz.sizeOf341
 v72:=Tryz.zeroValue341
 t75:=Tryz.underlying262
 a75:=Tryz.isAgg262
 z75:=Tryz.sizeOf262
 v75:=Tryz.zeroValue262
 t76:=Tryz.underlying263
 a76:=Tryz.isAgg263
 z76:=Tryz.sizeOf263
 v76:=Tryz.zeroValue263
 t127:=Tryz.underlying364
 a127:=Tryz.isAgg364
 z127:=Tryz.sizeOf364
 v127:=Tryz.zeroValue364
 t164:=Tryz.underlying383
 a164:=Tryz.isAgg383
 z164:=Tryz.sizeOf383
 v164:=Tryz.zeroValue383 }
theorem Tryz.Builder_Extra_156:Builder.Extra Tryz.prog Tryz.lays156_ren:={
 sizeBuilder:=by kernel_rfl
 liesBuilder:=by kernel_rfl
 t5:=Tryz.underlying5
 a5:=Tryz.isAgg5
 z5:=Tryz.sizeOf5
 v5:=Tryz.zeroValue5
 infoByte:=by kernel_rfl
 cellsByte:=by kernel_rfl
 sizeByte:=by kernel_rfl
 neB5:=by decide }
theorem Tryz.strings_Join_none (a:Option Addr) (c:Nat) (sep:ByteArray) (w:World) :
  Calls Tryz.prog 314 #[.slice a 0 c,.string sep] w fun e w'=>e=.returned (.string ⟨#[]⟩)∧w'=w:=Any.strings_Join_none Tryz.lays156 Tryz.Builder_Extra_156 a c sep w
theorem Tryz.strings_Join (bk o c:Nat) (xs:List ByteArray) (sep:ByteArray) (w:World) (hcells:∀ (j:Nat) x,xs[j]?=some x→w.cell? ⟨bk,o+j,none⟩=some (.string x)) (hbk:bk<w.heap.size) (hN:xs.length≤140737488355328) (hcap:xs.length≤c) (hlen:(Lib.join (xs.map (·.data.toList)) sep.data.toList).length≤140737488355328) :
  Calls Tryz.prog 314 #[.slice (some ⟨bk,o,none⟩) xs.length c,.string sep] w fun e w'=>e=.returned (.string ⟨(Lib.join (xs.map (·.data.toList)) sep.data.toList).toArray⟩)∧Below w.heap.size w w':=Any.strings_Join Tryz.lays156 Tryz.Builder_Extra_156 bk o c xs sep w hcells hbk hN hcap hlen
def Tryz.lays189_ren:Go.Shelf.Ren:=⟨fun | 189=>194 | 125=>270 | 257=>269 | 128=>323 | 129=>324 | 294=>315 | 295=>316 | 296=>317 | 297=>318 | 298=>319 | 299=>320 | 216=>303 | 300=>321 | 301=>322 | 328=>360 | 329=>361 | 330=>362 | 331=>363 | 332=>364 | 215=>339 | 343=>388 | n=>n,fun | 28=>35 | 3=>3 | 46=>277 | 0=>0 | 51=>314 | 53=>316 | 4=>4 | 183=>308 | 182=>307 | 131=>137 | 5=>5 | 9=>9 | 218=>344 | 222=>348 | 228=>365 | 229=>366 | n=>n,fun | n=>n⟩
theorem Tryz.lays189:Go.Proofs.Lays.n189 Tryz.prog Tryz.lays189_ren:={
 mixed:=by kernel_rfl
 f125:=Tryz.func270.trans (congrArg some (by kernel_rfl))
 f128:=Tryz.func323.trans (congrArg some (by kernel_rfl))
 f129:=Tryz.func324.trans (congrArg some (by kernel_rfl))
 f189:=Tryz.func194.trans (congrArg some (by kernel_rfl))
 f215:=Tryz.func339.trans (congrArg some (by kernel_rfl))
 f216:=Tryz.func303.trans (congrArg some (by kernel_rfl))
 f257:=Tryz.func269.trans (congrArg some (by kernel_rfl))
 f294:=Tryz.func315.trans (congrArg some (by kernel_rfl))
 f295:=Tryz.func316.trans (congrArg some (by kernel_rfl))
 f296:=Tryz.func317.trans (congrArg some (by kernel_rfl))
 f297:=Tryz.func318.trans (congrArg some (by kernel_rfl))
 f298:=Tryz.func319.trans (congrArg some (by kernel_rfl))
 f299:=Tryz.func320.trans (congrArg some (by kernel_rfl))
 f300:=Tryz.func321.trans (congrArg some (by kernel_rfl))
 f301:=Tryz.func322.trans (congrArg some (by kernel_rfl))
 f328:=Tryz.func360.trans (congrArg some (by kernel_rfl))
 f329:=Tryz.func361.trans (congrArg some (by kernel_rfl))
 f330:=Tryz.func362.trans (congrArg some (by kernel_rfl))
 f331:=Tryz.func363.trans (congrArg some (by kernel_rfl))
 f332:=Tryz.func364.trans (congrArg some (by kernel_rfl))
 f343:=Tryz.func388.trans (congrArg some (by kernel_rfl))
 t0:=Tryz.underlying0
 a0:=Tryz.isAgg0
 z0:=Tryz.sizeOf0
 v0:=Tryz.zeroValue0
 t3:=Tryz.underlying3
 a3:=Tryz.isAgg3
 z3:=Tryz.sizeOf3
 v3:=Tryz.zeroValue3
 t4:=Tryz.underlying4
 a4:=Tryz.isAgg4
 z4:=Tryz.sizeOf4
 v4:=Tryz.zeroValue4
 t5:=Tryz.underlying5
 a5:=Tryz.isAgg5
 z5:=Tryz.sizeOf5
 v5:=Tryz.zeroValue5
 t9:=Tryz.underlying9
 a9:=Tryz.isAgg9
 z9:=Tryz.sizeOf9
 v9:=Tryz.zeroValue9
 t28:=Tryz.underlying35
 a28:=Tryz.isAgg35
 z28:=Tryz.sizeOf35
 v28:=Tryz.zeroValue35
 t46:=Tryz.underlying277
 a46:=Tryz.isAgg277
 z46:=Tryz.sizeOf277
 v46:=Tryz.zeroValue277
 t51:=Tryz.underlying314
 a51:=Tryz.isAgg314
 z51:=Tryz.sizeOf314
 v51:=Tryz.zeroValue314
 t53:=Tryz.underlying316
 a53:=Tryz.isAgg316
 z53:=Tryz.sizeOf316
 v53:=Tryz.zeroValue316
 t131:=Tryz.underlying137
 a131:=Tryz.isAgg137
 z131:=Tryz.sizeOf137
 v131:=Tryz.zeroValue137
 t182:=Tryz.underlying307
 a182:=Tryz.isAgg307
 z182:=Tryz.sizeOf307
 v182:=Tryz.zeroValue307
 t183:=Tryz.underlying308
 a183:=Tryz.isAgg308
 z183:=Tryz.sizeOf308
 v183:=Tryz.zeroValue308
 t218:=Tryz.underlying344
 a218:=Tryz.isAgg344
 z218:=Tryz.sizeOf344
 v218:=Tryz.zeroValue344
 t222:=Tryz.underlying348
 a222:=Tryz.isAgg348
 z222:=Tryz.sizeOf348
 v222:=Tryz.zeroValue348
 t228:=Tryz.underlying365
 a228:=Tryz.isAgg365
 z228:=Tryz.sizeOf365
 v228:=Tryz.zeroValue365
 t229:=Tryz.underlying366
 a229:=Tryz.isAgg366
 z229:=Tryz.sizeOf366
 v229:=Tryz.zeroValue366 }
theorem Tryz.slices_Sort_int (blk off cap:Nat) (zs:List Int) (w:World) (hH:Holds (Value.int .i64) w blk off zs.toArray) (hblk:blk<w.heap.size) (hsz:zs.length<4611686018427387904) :
  Calls Tryz.prog 194 #[.slice (some ⟨blk,off,none⟩) zs.length cap] w fun e w' =>
   e=.returned (.tuple #[])∧∃ n os,w'=grow (putRow (Value.int .i64) (Sort.ahead w n) blk off (zs.mergeSort fun x y=>decide (x≤y)).toArray) os:=Any.slices_Sort_int Tryz.lays189 blk off cap zs w hH hblk hsz
end Go.Proofs
end
section
namespace Go.Av.F
open Go Go.Av Go.Proofs Go.Proofs.Tryz Go.RowKit
theorem qjs (l:List (List UInt8)) (sep:List UInt8) (hl:l.length≤1048576) (hj:(Lib.join l sep).length≤1048576):CV prog 314 [.lst 1 (l.map qaf),.str sep] (.str (Lib.join l sep)):=by
 refine qcg (fun w Z vs hv hg hz=>?_) (hca:=by simp[qaf]);obtain⟨x,y,rfl,h1,h2⟩:=qrB hv;rw[qdO h2];have hmap:(l.map fun s:List UInt8=>(⟨s.toArray⟩:ByteArray)).map (·.data.toList)=l:=by
  rw[qEd];exact List.map_id'' (fun s=>rfl) l
 generalize hlen:l.map qaf=els at h1;cases h1 with
 | lst _ _ _ a cap vf hlc hc hs hr =>
  have hel:els.length=l.length:=by rw[← hlen];simp
  by_cases h0:l=[]
  ·subst h0;simp only[qFi]at hlen;subst hlen;refine(Tryz.strings_Join_none a cap ⟨sep.toArray⟩ w).mono ?_;rintro e w' ⟨rfl,rfl⟩;exact⟨_,rfl,by rw[Lib.join_nil];exact .str _ _,.refl _ _⟩
  ·have hne:els≠[]:=by rw[← hlen];simpa using h0
   obtain⟨A,rfl,hZ,hsp,hcell⟩:=hc hne;obtain⟨b1,b2,b3⟩:=A;simp only at hsp;subst hsp;have hpos:0<l.length:=qDB.2 h0;have hvf:∀ i,i<l.length→∀ s,l[i]?=some s→vf i 0=.string ⟨s.toArray⟩:=fun i hi s hs2=>by
    have h3:=hr i 0 (by omega) (by omega);rw[← hlen]at h3;have e:((l.map qaf).getD i []).getD 0 .top=.str s:=by simp[List.getD,hs2,qaf]
    rw[e]at h3;exact qdO h3
   have hbk:b1<w.heap.size:=by
    have:=hcell 0 0 (by omega) (by omega);exact World.block_lt_of_cell? w _ this
   have hj2:(Lib.join ((l.map fun s:List UInt8=>(⟨s.toArray⟩:ByteArray)).map (·.data.toList)) sep).length≤140737488355328:=by rw[hmap];omega
   have:=Tryz.strings_Join b1 b2 cap (l.map fun s:List UInt8=>(⟨s.toArray⟩:ByteArray)) ⟨sep.toArray⟩ w (fun j x hx=>by
    simp only[qD9,qFh]at hx;obtain⟨s,hs2,rfl⟩:=hx;have hjl:=(qEb.1 hs2).1;have:=hcell j 0 (by omega) (by omega);rw[hvf j hjl s hs2]at this;simpa [Addr.at]using this) hbk (by simp;omega) (by simp;omega) hj2
   rw[hel];simp only[qEH]at this;refine this.mono ?_;rintro e w' ⟨rfl,hB⟩;refine⟨_,rfl,?_,hB⟩;rw[hmap];exact .str _ _
@[simp] theorem qtW {α:Type} (ρ:Nat→Option Plc) (f:α→List UInt8):qch ρ ∘ qaf ∘ f=qaf ∘ f:=by funext x;simp[qaf]
theorem qg6 (sep:List UInt8) (k:Nat):∀ (r:List (List UInt8)),(∀ x∈r,x.length≤k)→(Lib.joinTail sep r).length≤r.length * (k+sep.length)
 | [],_=>by simp[Lib.joinTail]
 | x::r,h=>by
  have ih:=qg6 sep k r fun y hy=>h y (qEZ _ hy);have hx:=h x (by simp);simp only[Lib.joinTail,qD5,List.flatten_cons,qES,qDX]at ih ⊢;rw[qDy];omega
theorem qfY (sep:List UInt8) (k:Nat) (l:List (List UInt8)) (h:∀ x∈l,x.length≤k):(Lib.join l sep).length≤l.length * (k+sep.length):=by
 cases l with
 | nil=>simp[Lib.join_nil]
 | cons x r =>
  rw[Lib.join_cons,qES,qDX,qDy];have:=qg6 sep k r fun y hy=>h y (qEZ _ hy);have:=h x (by simp);omega
theorem qAG (n:Int) (h0:0≤n) (h:n<1000000000):CV prog 261 [.int .i64 n] (.str (dec n)):=by
 have:=qwi n (by omega) (by omega);have e:n=((n.toNat:Nat):Int):=by omega
 rw[e,qkb,← e]at this;exact this
theorem qkh (l:List Int) (hl:l.length≤10) (h:∀ x∈l,0≤x∧x<1000000000):CV prog 263 [.lst 1 (l.map qae)] (.str (Lib.join (l.map dec) [46])):=by
 have hj:=qfY [46] 9 (l.map dec) (fun x hx=>by
  obtain⟨n,hn,rfl⟩:=qD6.1 hx;exact qav n (h n hn).2)
 simp only[qEH]at hj;have cj:=qjs (l.map dec) [46] (by simp;omega) (by simp at hj;omega);refine cvx func263 [] ntmps263 rfl rfl rfl ?_ (hca:=by simp[qae]);simp;refine qeV (qjM 3 1 (by simp) (by simp)) ?_;refine qa9 (X:=Nat) [2,3,6,7,8] [(3,900)] (fun i=>[(3,.sl 900 0 i),(8,.int .i64 i)]) (fun i=>[(900,qap ((l.take i).map dec))]) (fun i=>l.length-i) (fun i=>i≤l.length) 0 (by simp) ?_ (he:=by simp[qah,qap]);intro i hi;cases hr:l.drop i with
 | nil =>
  have:=qaU hr;have hie:i=l.length:=by omega
  subst hie;rw[qFx];simp;refine cj.view (by simp[qb5,mtA,qap,qaf,qDU]) ?_;simp
 | cons x r =>
  obtain⟨g1,e0,e1,g3⟩:=qaV hr;have hx:=h x (qFu e1);have cd:=qAG x hx.1 hx.2;have e2:=qaq ((i:Int)+1) (by omega) (by omega);simp[g1,e0,e1,qae];refine cd.call ?_;simp[qap];have hmin:min i l.length=i:=by omega
  exact⟨by omega,nx (i+1) [(16,900)] (by omega) (h4:=by
   have ht:=tk1 (qaf ∘ dec) e1;simp[qap,ht,qDU,hmin,e2];simp[qaf])⟩
theorem qfZ (p:PT):CV prog 262 [.agg p.row] (.str (qaL p)):=by
 obtain⟨R,hR⟩:∃ R,qaL p=R:=⟨_,rfl⟩;rw[hR];have c1:=qip p;simp only[PT.row]at c1;unfold qaL at hR;refine cvx func262 [] ntmps262 rfl rfl rfl ?_ (hca:=by simp[PT.row]);simp[PT.row];refine c1.call ?_;cases hok:qaH p with
 | false =>
  rw[if_pos hok]at hR;simp[← hR]
 | true =>
  rw[if_neg (by simp[hok])]at hR;have hb:=qji hok;by_cases h0:p.pa=0
  ·rw[if_pos h0]at hR;simp[h0,← hR]
  ·rw[if_neg h0]at hR;have c2:=qkh [p.pa,p.ps,p.pb] (by simp) (fun x hx=>by
    simp only[qE3,qFc,or_false]at hx;omega)
   have e:Lib.join ([p.pa,p.ps,p.pb].map dec) [46]=R:=by rw[← hR];simp[Lib.join_cons,Lib.joinTail]
   rw[e]at c2;simp[h0];refine c2.view (by simp[qb5,mtA,qae]) ?_;simp
theorem qeJ:∀ (l:List PT),(l.all qaH=true→qct l false=some (Lib.joinTail [32] (l.map qaL)))∧(∀ b,l.all qaH=false→qct l b=none)
 | []=>⟨fun _=>rfl,fun b h=>by simp at h⟩
 | p::r=>by
  obtain⟨h1,h2⟩:=qeJ r;refine⟨fun h=>?_,fun b h=>?_⟩
  ·simp only[qFR,Bool.and_eq_true]at h;simp only[qct];rw[if_neg (by simp[h.1]),h1 h.2];simp[Lib.joinTail]
  ·simp only[qct];cases hp:qaH p with
   | false=>simp
   | true =>
    simp only[qFR,hp,qFP]at h;rw[if_neg (by simp),h2 false h];rfl
theorem qeL (m:List PT):qbg m=if m.all qaH=true then Lib.join (m.map qaL) [32] else []:=by
 unfold qbg;split
 ·rename_i h;cases m with
  | nil=>rfl
  | cons p r =>
   simp only[qFR,Bool.and_eq_true]at h;simp only[qct];rw[if_neg (by simp[h.1]),(qeJ r).1 h.2,qD5,Lib.join_cons];simp
 ·rename_i h;rw[(qeJ m).2 true (by simpa using h)];rfl
theorem qrf (m:List PT) (h8:m.length=8):CV prog 295 [.agg (m.flatMap PT.row)] (.str (qbg m)):=by
 obtain⟨R,hR⟩:∃ R,qbg m=R:=⟨_,rfl⟩;rw[hR];rw[qeL]at hR;have hj:=qfY [32] 29 (m.map qaL) (fun x hx=>by
  obtain⟨n,hn,rfl⟩:=qD6.1 hx;exact qbl n)
 simp only[qEH]at hj;have cj:=qjs (m.map qaL) [32] (by simp;omega) (by simp at hj;omega);have h24:List.take 24 (m.flatMap PT.row)=m.flatMap PT.row:=qDU (by rw[qGq];exact qDV (qpJ h8));have hrn:∀ ρ,qch ρ (m.flatMap PT.row)=m.flatMap PT.row:=fun ρ=>renL_closed.renL_closedL ρ _ (qeZ m);refine cvx func295 [] ntmps295 rfl rfl rfl ?_ (hca:=by simp[qeZ]);simp[qpJ h8,h24];refine qeV (qjM 3 1 (by simp) (by simp)) ?_;refine qa9 (X:=Nat) [1,2,3,6,7] [(1,1),(3,900)] (fun i=>[(3,.sl 900 0 i),(7,.int .i64 i)]) (fun i=>[(1,⟨24,[m.flatMap PT.row]⟩),(900,qap ((m.take i).map qaL))]) (fun i=>8-i) (fun i=>i≤8∧(m.take i).all qaH=true) 0 (by simp) ?_ (he:=by simp[qah,qap,hrn]);rintro i ⟨hi,ha⟩;cases hr:m.drop i with
 | nil =>
  have:=qaU hr;have hie:i=8:=by omega
  subst hie;have ht:m.take 8=m:=qDU (by omega);rw[ht]at ha ⊢;rw[if_pos ha]at hR;simp;rw[hR]at cj;refine cj.view (by simp[qb5,mtA,qap,qaf,qDU,h8]) ?_;simp
 | cons p q =>
  obtain⟨k1,e0,e1,k3⟩:=qaV hr;have hli:(i:Int)<8:=by omega
  have hi8:i<8:=by omega
  have e2:=qaq ((i:Int)+1) (by omega) (by omega);have c1:=qip p;have c2:=qfZ p;have hf:=qiw e1;simp only[PT.row]at c1 c2;have hs1:(m.take (i+1)).all qaH=((m.take i).all qaH && qaH p):=by rw[qgj e1];simp
  simp[qah,hli,hi8,hf,PT.row,qpJ h8];refine⟨by omega,?_⟩;refine c1.call ?_;cases hok:qaH p with
  | false =>
   have:¬ m.all qaH=true:=fun h=>by
    have:=qDS.1 h p (qFu e1);rw[hok]at this;cases this
   rw[if_neg this]at hR;simp[← hR]
  | true =>
   simp[PT.row,qap];refine c2.call ?_;simp;have hmin:min i m.length=i:=by omega
   refine⟨by omega,nx (i+1) [(1,1),(17,900)] ⟨by omega,by
    have h:(m.take (i+1)).all qaH=true:=by rw[hs1,ha,hok];rfl
    first | exact h | simpa using h⟩ (h4:=?_)⟩
   have ht:=tk1 (qaf ∘ qaL) e1;simp[qah,qap,ht,qDU,hmin,e2,hrn];simp[qaf]
theorem qdM:∀ (l:List DE),qcT l false=Lib.joinTail [32] (l.map qcj)∧qcT l true=Lib.join (l.map qcj) [32]
 | []=>⟨rfl,rfl⟩
 | e::r=>by
  obtain⟨h1,_⟩:=qdM r;refine⟨?_,?_⟩
  ·simp only[qcT,h1];simp[Lib.joinTail]
  ·simp only[qcT,h1,qD5,Lib.join_cons];simp
theorem qrc (l:List DE) (hl:l.length≤1048576):CV prog 297 [.lst 3 (l.map DE.row)] (.str (qck l)):=by
 obtain⟨R,hR⟩:∃ R,qck l=R:=⟨_,rfl⟩;rw[hR];unfold qck at hR;rw[(qdM l).2]at hR;have c1:=qki l hl;refine cvx func297 [] ntmps297 rfl rfl rfl ?_ (hca:=by simp[DE.row]);simp;refine c1.call ?_;cases hok:qaj l with
 | false =>
  rw[if_neg (by simp[hok])]at hR;simp[← hR]
 | true =>
  rw[if_pos hok]at hR;have hl48:l.length≤48:=by
   simp only[qaj,Bool.and_eq_true,decide_eq_true_eq]at hok;exact hok.1
  have hj:=qfY [32] 29 (l.map qcj) (fun x hx=>by
   obtain⟨e,he,rfl⟩:=qD6.1 hx;exact qgP (qhb hok e he))
  simp only[qEH]at hj;have cj:=qjs (l.map qcj) [32] (by simp;omega) (by simp at hj;omega);rw[hR]at cj;simp;refine qeV (qjM 3 1 (by simp) (by simp)) ?_;refine qa9 (X:=Nat) [2,3,9,10,11] [(3,900)] (fun i=>[(3,.sl 900 0 i),(11,.int .i64 i)]) (fun i=>[(900,qap ((l.take i).map qcj))]) (fun i=>l.length-i) (fun i=>i≤l.length) 0 (by simp) ?_ (he:=by simp[qah,qap]);intro i hi;cases hr:l.drop i with
  | nil =>
   have:=qaU hr;have hie:i=l.length:=by omega
   subst hie;rw[qFx];simp;refine cj.view (by simp[qb5,mtA,qap,qaf,qDU]) ?_;simp
  | cons e r =>
   obtain⟨g1,e0,e1,g3⟩:=qaV hr;have eb:=qmY hok e (qFu e1);have e2:=qaq ((i:Int)+1) (by omega) (by omega);have c2:=qkh [e.es,e.ea,e.ec] (by simp) (fun x hx=>by
    simp only[qE3,qFc,or_false]at hx;omega)
   have e4:Lib.join ([e.es,e.ea,e.ec].map dec) [46]=qcj e:=by simp[Lib.join_cons,Lib.joinTail,qcj]
   rw[e4]at c2;have hmin:min i l.length=i:=by omega
   simp[g1,e0,e1,DE.row];refine c2.view (by simp[qb5,mtA,qae]) ?_;simp[qap];refine⟨by omega,nx (i+1) [(25,900)] (by omega) (h4:=?_)⟩;have ht:=tk1 (qaf ∘ qcj) e1;simp[qap,ht,qDU,hmin,e2];simp[qaf]
theorem qt8 (txg:Int) (p:PT):CV prog 226 [.int .i64 txg,.agg p.row] (.str (qa0 txg p)):=by
 obtain⟨R,hR⟩:∃ R,qa0 txg p=R:=⟨_,rfl⟩;rw[hR];unfold qa0 at hR;have c1:=qcC txg 1 1000000;have c2:=qoF p;have c3:=qfZ p;have hpl:=qbl p;simp only[PT.row]at c2 c3;refine cvx func226 [] ntmps226 rfl rfl rfl ?_ (hca:=by simp[PT.row]);simp[PT.row];refine c1.call ?_;by_cases hw:1≤txg∧txg≤1000000
 ·have hwi:wiB txg 1 1000000=true:=by simp[wiB,hw]
  have d1:=qAG txg (by omega) (by omega);have dl:=qav txg (by omega);rw[hwi];simp;refine c2.call ?_;cases hre:qao p with
  | false =>
   rw[if_pos (.inr (.inr hre))]at hR;simp[← hR]
  | true =>
   rw[if_neg (by simp[hre];omega)]at hR;have c4:=qn1 (dec txg++(32::(qaL p++(32::dec txg)))) (by simp[maxLen];omega);rw[hR]at c4;simp;refine d1.call ?_;simp[PT.row];refine⟨by omega,?_⟩;refine c3.call ?_;simp;refine⟨by omega,by omega,by omega,?_⟩;refine c4.call ?_;simp
 ·have hwi:wiB txg 1 1000000=false:=by
   simp only[wiB,qEp,decide_eq_false_iff_not];omega
  rw[if_pos (by omega)]at hR;rw[hwi];simp[← hR]
theorem qq2 (c:CO) (h:CoT c):CV prog 182 [.agg c.row] (.str (qay c)):=by
 obtain⟨R,hR⟩:∃ R,qay c=R:=⟨_,rfl⟩;rw[hR];have hs:=h.sets;have hp:=h.parts;refine cvx func182 [(10,[zI 0,zI 1,zJ 2 [5] [],zI 3,zI 4,zJ 5 [] [5],zJ 6 [5] [5],zJ 10 [] [5],zJ 13 [] [5],zJ 14 [5] [5],zJ 7 [] [5],zJ 8 [] [5],zJ 9 [] [5],zJ 11 [] [5],zJ 12 [] [5],zJ 15 [] [5],zI 16,zI 17,zI 18])] ntmps182 rfl rfl rfl ?_ (hca:=by simp[CO.row,PT.row,DE.row,qbv,qae]);simp[CO.row];refine qa7 (X:=Nat×List UInt8) [1,2,3,10,11,12] [(1,1)] (fun x=>[(3,.str x.2),(12,.int .i64 x.1)]) (fun _=>[]) (fun x=>c.sets.length-x.1) (fun x=>x.1≤c.sets.length∧x.2.length≤4+64 * x.1∧((qbC (c.sets.drop x.1)).bind fun t=>(qaZ c.parts).map fun u=>x.2++(t++u)).getD []=R) (0,[114,111,111,116]) (by simp[← hR,qay]) ?_ (he:=by simp[qah]);rintro⟨i,t⟩ ⟨hi,hl,hd⟩;simp only at hi hl hd;cases hr:c.sets.drop i with
 | nil =>
  have:=qaU hr;rw[hr]at hd;have hie:i=c.sets.length:=by omega
  subst hie;simp only[qbC,qE7,qEf]at hd;simp[qah];refine qa7 (X:=Nat×List UInt8) [1,2,3,43,44,45] [(1,1)] (fun x=>[(3,.str x.2),(45,.int .i64 x.1)]) (fun _=>[]) (fun x=>c.parts.length-x.1) (fun x=>x.1≤c.parts.length∧x.2.length≤4+64 * c.sets.length+64 * x.1∧((qaZ (c.parts.drop x.1)).map fun u=>x.2++u).getD []=R) (0,t) (by simp[hd];omega) ?_ (he:=by simp[qah]);rintro⟨i,t⟩ ⟨hi,hl,hd⟩;simp only at hi hl hd;cases hr:c.parts.drop i with
  | nil =>
   have:=qaU hr;rw[hr]at hd;have hie:i=c.parts.length:=by omega
   subst hie;simp only[qaZ,qDz,qFH,qEx]at hd;simp[qah,hd]
  | cons p q =>
   obtain⟨k1,e0,e1,k3⟩:=qaV hr;rw[hr]at hd;simp only[qaZ]at hd;have hli:(i:Int)<c.parts.length:=by omega
   have e2:=qaq ((i:Int)+1) (by omega) (by omega);have c1:=qoF p;have c2:=qfZ p;have hpl:=qbl p;simp only[PT.row]at c1 c2;simp[qah,k1,e0,e1,hli,PT.row];refine c1.call ?_;cases hok:qao p with
   | false =>
    rw[if_pos hok]at hd;simp only[qGl,qGm]at hd;simp[← hd]
   | true =>
    rw[if_neg (by simp[hok])]at hd;simp[qah,k1,e0,e1,hli,PT.row];refine c2.call ?_;simp[e2];exact⟨by omega,by omega,nx (i+1,t++(10::46::32::qaL p)) [(1,1)] ⟨by simp only;omega,by simp;omega,by simp only[k3];simpa [qGn,qFr]using hd⟩ (by simp only;omega) (h4:=by simp[qah,e2])⟩
 | cons s q =>
  obtain⟨k1,e0,e1,k3⟩:=qaV hr;rw[hr]at hd;simp only[qbC]at hd;have hsm:=qFu e1;have hli:(i:Int)<c.sets.length:=by omega
  have e2:=qaq ((i:Int)+1) (by omega) (by omega);have h8:=h.m8 s hsm;have c1:=qzq s h8 (h.nm s hsm).1 (h.nm s hsm).2;simp[qah,k1,e0,e1,hli,qaX s h8,qdC s h8];refine⟨qgS s,?_⟩;refine c1.call ?_;cases hok:qbj s with
  | false =>
   rw[if_pos hok]at hd;simp only[Option.bind_none,qGm]at hd;simp[← hd]
  | true =>
   rw[if_neg (by simp[hok])]at hd;have hk:=qm3 hok;have c2:=qAG s.kind (by omega) (by omega);have c4:=qfZ s.home;have hrl:=qfy hok;have hn:=qiG hok;have hdl:=qav s.kind (by omega);have hfl:=qiu s.frm;have hpl:=qbl s.home;have hs0:s.row[0]?=some (.str s.name):=rfl;have hs1:s.row[1]?=some (.int .i64 s.kind):=rfl;have hs2:s.row[2]?=some (.str s.frm):=rfl;by_cases hf:s.frm=[]
   ·have hfe:qej s.frm=[45]:=by simp[qej,hf]
    simp[qcU s h8,qaX s h8,hf];refine⟨by omega,by omega,?_⟩;refine c2.call ?_;simp[qcU s h8,qaX s h8,hf];refine⟨by omega,by omega,by omega,by omega,?_⟩;refine c4.call ?_;simp[e2];refine⟨by omega,by omega,nx (i+1,t++qdR s) [(1,1)] ⟨by simp only;omega,by simp only[qES];omega,by simp only[k3];simpa [qGn,qGo,qFr]using hd⟩ (by simp only;omega) (h4:=by simp[qah,e2,qdR,hfe])⟩
   ·have hfe:qej s.frm=s.frm:=by simp[qej,hf]
    simp[qcU s h8,qaX s h8,hf];refine⟨by omega,by omega,?_⟩;refine c2.call ?_;simp[qcU s h8,qaX s h8,hf];refine⟨by omega,by omega,by omega,by omega,?_⟩;refine c4.call ?_;simp[e2];refine⟨by omega,by omega,nx (i+1,t++qdR s) [(1,1)] ⟨by simp only;omega,by simp only[qES];omega,by simp only[k3];simpa [qGn,qGo,qFr]using hd⟩ (by simp only;omega) (h4:=by simp[qah,e2,qdR,hfe])⟩
theorem qrt (k:Nat) (h:k<16):([48,49,50,51,52,53,54,55,56,57,97,98,99,100,101,102]:List UInt8)[k]?=some (qpm k):=by
 rcases(show k=0∨k=1∨k=2∨k=3∨k=4∨k=5∨k=6∨k=7∨k=8∨k=9∨k=10∨k=11∨k=12∨k=13∨k=14∨k=15 by omega)with rfl | rfl | rfl | rfl | rfl | rfl | rfl | rfl | rfl | rfl | rfl | rfl | rfl | rfl | rfl | rfl <;> rfl
theorem qCs (n:Nat) (h:n<256):qz3 BinOp.and IntKind.u8 (n:Int) 15=((n % 16:Nat):Int):=by
 have:∀ m:Fin 256,qz3 BinOp.and IntKind.u8 ((m.val:Nat):Int) 15=((m.val % 16:Nat):Int):=by decide
 exact this ⟨n,h⟩
theorem qCV (n:Nat):((n:Nat):Int).fdiv (2 ^ min 4 IntKind.u8.bits)=((n / 16:Nat):Int):=by
 rw[show(2:Int) ^ min 4 IntKind.u8.bits=16 from rfl,qFJ _ (by omega)];omega
theorem qBR (s:List UInt8) (hs:s.length≤1048576):CV prog 330 [.str s] (.str (qev s)):=by
 obtain⟨R,hR⟩:∃ R,qev s=R:=⟨_,rfl⟩;rw[hR];refine cvx func330 [] ntmps330 rfl rfl rfl ?_;simp;refine qeV (qjM 3 1 (by simp) (by simp)) ?_;refine qa9 (X:=Nat×List UInt8) [0,2,3,6,7] [(3,900)] (fun x=>[(7,.int .i64 x.1),(3,.sl 900 0 x.2.length)]) (fun x=>[(900,⟨1,x.2.map qgi⟩)]) (fun x=>s.length-x.1) (fun x=>x.1≤s.length∧x.2.length=2 * x.1∧x.2++qev (s.drop x.1)=R) (0,[]) (by simp[hR]) ?_ (he:=by simp[qah]);rintro⟨i,out⟩ ⟨hi,hol,hd⟩;simp only at hi hol hd;cases hr:s.drop i with
 | nil =>
  have:=qaU hr;rw[hr,qev]at hd;have hie:i=s.length:=by omega
  subst hie;simp only[qFH]at hd;simp[qgc,qDU,hd]
  try exact fun x _=>rfl
 | cons x r =>
  obtain⟨h1,e0,e1,h3⟩:=qaV hr;rw[hr,qev]at hd;have e2:=qaq ((i:Int)+1) (by omega) (by omega);have hx:=x.toNat_lt;have hli:(i:Int)<s.length:=by omega
  simp[h1,e0,e1,hli];rw[qCs _ hx,qCV];have g1:x.toNat / 16<16:=by omega
  have g2:x.toNat % 16<16:=by omega
  refine⟨⟨by omega,by omega⟩,⟨by omega,by omega⟩,by omega,nx (i+1,out++[qpm (x.toNat / 16),qpm (x.toNat % 16)]) [(22,900)] ⟨by simp only;omega,by simp;omega,by simp only[h3];simpa using hd⟩ (by simp only;omega) (h4:=?_)⟩;have t1:=qrt _ g1;have t2:=qrt _ g2;have q1:((x.toNat:Int) / 16).toNat=x.toNat / 16:=by omega
  have q2:((x.toNat:Int) % 16).toNat=x.toNat % 16:=by omega
  simp[e2,qDU,qhu,qgi,t1,t2,q1,q2]
theorem qqX (r:LR) (ha:r.op.a.length≤1048576) (ht:r.op.text.length≤1048576):CV prog 280 [.agg r.row] (.str (qbW r)):=by
 obtain⟨R,hR⟩:∃ R,qbW r=R:=⟨_,rfl⟩;rw[hR];have hno:qdh r=false→R=[]:=fun h=>by rw[← hR];unfold qbW;rw[if_pos h]
 have hbad:∀ b:Prop,[Decidable b]→¬ b→(qdh r=true→b)→R=[]:=fun b _ hb h=>hno (by
  cases e:qdh r with
  | false=>rfl
  | true=>exact absurd (h e) hb)
 have hsp:qdh r=true↔(1≤r.txg∧r.txg≤1000000)∧(0≤r.seq∧r.seq<8)∧r.op.kind=3∧qbS r.op.a=true∧r.op.b=[]∧(0≤r.op.i∧r.op.i<8)∧r.op.text.length≤24:=by
  simp only[qdh,Bool.and_eq_true,decide_eq_true_eq];grind
 have c1:=qwt r.op.a ha;have c2:=qBR r.op.text ht;have hxl:=qf0 r.op.text;have w1:=qcC r.txg 1 1000000;have w2:=qcC r.seq 0 7;have w3:=qiF (qn2 r.op.i);have hyes:qdh r=true→R=qdP (dec r.txg++(46::(dec r.seq++(32::(r.op.a++(32::(dec r.op.i++(32::(qhC r.op.text++(32::(dec r.txg++(46::dec r.seq)))))))))))):=fun h=>by
  rw[← hR];unfold qbW;rw[if_neg (by simp[h])]
 refine cvx func280 [(8,[zI 0,zI 1,zJ 2 [3] [],zJ 3 [] [3],zJ 4 [3] [3],zJ 6 [] [3],zJ 7 [] [3],zJ 5 [] [3],zI 8,zI 9,zI 10,zI 11])] ntmps280 rfl rfl rfl ?_ (hca:=by simp[LR.row,BO.row]);simp[LR.row,BO.row];refine w1.call ?_;by_cases q1:1≤r.txg∧r.txg≤1000000;rotate_left
 ·rw[show wiB r.txg 1 1000000=false by simp only[wiB,qEp,decide_eq_false_iff_not];omega,hbad _ q1 fun h=>(hsp.1 h).1];simp
 rw[show wiB r.txg 1 1000000=true by simp[wiB,q1]];simp;refine w2.call ?_;by_cases q2:0≤r.seq∧r.seq<8;rotate_left
 ·rw[show wiB r.seq 0 7=false by simp only[wiB,qEp,decide_eq_false_iff_not];omega,hbad _ q2 fun h=>(hsp.1 h).2.1];simp
 rw[show wiB r.seq 0 7=true by simp only[wiB,Bool.and_eq_true,decide_eq_true_eq];omega];by_cases q3:r.op.kind=3;rotate_left
 ·rw[hbad _ q3 fun h=>(hsp.1 h).2.2.1];simp[q3]
 simp[q3];refine c1.call ?_;cases q4:qbS r.op.a with
 | false =>
  rw[hno (by cases e:qdh r with
   | false=>rfl
   | true=>exact absurd (hsp.1 e).2.2.2.1 (by simp[q4]))]
  simp
 | true =>
  by_cases q5:r.op.b=[];rotate_left
  ·rw[hbad _ q5 fun h=>(hsp.1 h).2.2.2.2.1];simp[q5]
  simp[q5];refine w3.call ?_;by_cases q6:0≤r.op.i∧r.op.i<8;rotate_left
  ·rw[show(decide (0≤r.op.i) && decide (r.op.i≤7))=false by simp only[qEp,decide_eq_false_iff_not];omega,hbad _ q6 fun h=>(hsp.1 h).2.2.2.2.2.1];simp
  rw[show(decide (0≤r.op.i) && decide (r.op.i≤7))=true by simp only[Bool.and_eq_true,decide_eq_true_eq];omega];by_cases q7:r.op.text.length≤24;rotate_left
  ·rw[hbad _ q7 fun h=>(hsp.1 h).2.2.2.2.2.2];simp[show(24:Int)<r.op.text.length by omega]
  have hy:=hyes (hsp.2 ⟨q1,q2,q3,q4,q5,q6,q7⟩);have d1:=qkh [r.txg,r.seq] (by simp) (fun x hx=>by
   simp only[qE3,qFc,or_false]at hx;omega)
  have e0:Lib.join ([r.txg,r.seq].map dec) [46]=dec r.txg++(46::dec r.seq):=by simp[Lib.join_cons,Lib.joinTail]
  rw[e0]at d1;have d3:=qAG r.op.i (by omega) (by omega);have l1:=qav r.txg (by omega);have l2:=qav r.seq (by omega);have l3:=qav r.op.i (by omega);have hna:r.op.a.length≤6:=by
   simp only[qbS,Bool.and_eq_true,decide_eq_true_eq]at q4;exact q4.2
  simp[show ¬ (24:Int)<r.op.text.length by omega,LR.row,BO.row];refine d1.view (by simp[qb5,mtA,qae]) ?_;simp[LR.row,BO.row];refine c2.call ?_;have hxT:qev r.op.text=[]∨qev r.op.text≠[]:=by cases qev r.op.text <;> simp
  rcases hxT with hx | hx
  ·skip
   have hxT:qhC r.op.text=[45]:=by simp[qhC,hx]
   rw[hxT]at hy;have e1:Lib.join [dec r.txg++(46::dec r.seq),r.op.a,dec r.op.i,[45],dec r.txg++(46::dec r.seq)] [32]=(dec r.txg++(46::(dec r.seq++(32::(r.op.a++(32::(dec r.op.i++(32::([45]++(32::(dec r.txg++(46::dec r.seq)))))))))))):=by simp[Lib.join_cons,Lib.joinTail]
   have cj:=qjs [dec r.txg++(46::dec r.seq),r.op.a,dec r.op.i,[45],dec r.txg++(46::dec r.seq)] [32] (by simp) (by rw[e1];simp;omega);have c3:=qn1 (dec r.txg++(46::(dec r.seq++(32::(r.op.a++(32::(dec r.op.i++(32::([45]++(32::(dec r.txg++(46::dec r.seq)))))))))))) (by simp[maxLen];omega);rw[e1]at cj;rw[← hy]at c3;generalize (dec r.txg++(46::(dec r.seq++(32::(r.op.a++(32::(dec r.op.i++(32::([45]++(32::(dec r.txg++(46::dec r.seq))))))))))))=J at *
   simp[hx,LR.row,BO.row];refine d3.call ?_;simp;refine cj.view (by simp[qb5,mtA,qaf]) ?_;simp;refine c3.call ?_;simp
  ·skip
   have hxT:qhC r.op.text=qev r.op.text:=by simp[qhC,hx]
   rw[hxT]at hy;have e1:Lib.join [dec r.txg++(46::dec r.seq),r.op.a,dec r.op.i,qev r.op.text,dec r.txg++(46::dec r.seq)] [32]=(dec r.txg++(46::(dec r.seq++(32::(r.op.a++(32::(dec r.op.i++(32::(qev r.op.text++(32::(dec r.txg++(46::dec r.seq)))))))))))):=by simp[Lib.join_cons,Lib.joinTail]
   have cj:=qjs [dec r.txg++(46::dec r.seq),r.op.a,dec r.op.i,qev r.op.text,dec r.txg++(46::dec r.seq)] [32] (by simp) (by rw[e1];simp;omega);have c3:=qn1 (dec r.txg++(46::(dec r.seq++(32::(r.op.a++(32::(dec r.op.i++(32::(qev r.op.text++(32::(dec r.txg++(46::dec r.seq)))))))))))) (by simp[maxLen];omega);rw[e1]at cj;rw[← hy]at c3;generalize (dec r.txg++(46::(dec r.seq++(32::(r.op.a++(32::(dec r.op.i++(32::(qev r.op.text++(32::(dec r.txg++(46::dec r.seq))))))))))))=J at *
   simp[hx,LR.row,BO.row];refine d3.call ?_;simp;refine cj.view (by simp[qb5,mtA,qaf]) ?_;simp;refine c3.call ?_;simp
theorem qq5 (x:Int):CV prog 193 [.int .i64 x] (.bool (decide (x<13))):=by
 refine cvx func193 [] ntmps193 rfl rfl rfl ?_;simp
def loB (x:Int):Bool:=decide (x<13)
theorem qC6 (l:List Int) (hl:l.length≤1048576):CV prog 268 [.lst 1 (l.map qae),.fn 193 []] (.int .i64 (ixR loB 0 l)):=by
 obtain⟨R,hR⟩:∃ R,ixR loB 0 l=R:=⟨_,rfl⟩;rw[hR];refine cvx func268 [] ntmps268 rfl rfl rfl ?_ (hca:=by simp[qae]);simp;refine qa7 (X:=Nat) [0,1,7,8] [] (fun i=>[(8,.int .i64 i)]) (fun _=>[]) (fun i=>l.length-i) (fun i=>i≤l.length∧ixR loB i (l.drop i)=R) 0 (by simp[hR]) ?_;rintro i ⟨hi,hd⟩;cases hr:l.drop i with
 | nil =>
  have:=qaU hr;rw[hr]at hd;have hie:i=l.length:=by omega
  simp[hie];grind[ixR]
 | cons x r =>
  obtain⟨h1,e0,e1,h3⟩:=qaV hr;rw[hr]at hd;have e2:=qaq ((i:Int)+1) (by omega) (by omega);simp[h1,e0,e1,qae];refine(qq5 x).call ?_;simp[e2];exact⟨fun hp=>by grind[ixR,loB],fun hp=>nx (i+1) [] (by grind[ixR,loB])⟩
theorem qnZ (p:Int→Bool):∀ (l:List Int) (i:Nat),(ixR p i l=-1∧l.any p=false)∨∃ k,k<l.length∧ixR p i l=((i+k:Nat):Int)∧(l.take k).any p=false∧(∃ x,l[k]?=some x∧p x=true)
 | [],i=>.inl ⟨rfl,rfl⟩
 | x::r,i=>by
  simp only[ixR];cases h:p x with
  | true=>exact .inr ⟨0,by simp,by simp,by simp,x,by simp,h⟩
  | false =>
   rcases qnZ p r (i+1)with⟨h1,h2⟩ | ⟨k,h1,h2,h3,h4⟩
   ·exact .inl ⟨by simpa using h1,by simp[h,h2]⟩
   ·refine .inr ⟨k+1,by simp;omega,by simp[h2];omega,by simp[h,h3],by simpa using h4⟩
def hiL (l:List Int):List Int:=l.filter fun x=>!loB x
theorem qub (l:List Int):(hiL l).length≤l.length:=List.length_filter_le _ _
theorem qB1 (l:List Int) (hl:l.length≤1048576):ACall prog 192 [.sl 1000 0 l.length,.fn 193 []] [(1000,kin l)] (fun r L'=>r=.sl 1000 0 (hiL l).length∧L'=[(1000,kin (hiL l))]):=by
 refine ACall.weak (R:=fun r L'=>∃ L2,wkL L' L2∧unc r=.sl 1000 0 (hiL l).length∧L2=[(1000,kin (hiL l))]) ?_ (fun r L' h=>h);refine acx func192 [] ntmps192 rfl rfl rfl ?_;simp;refine(qC6 l hl).view (by simp[qb5,mtA,kin,qae,qDU]) ?_;rcases qnZ loB l 0 with⟨h1,h2⟩ | ⟨k,h1,h2,h3,y,hx,hp⟩
 ·have hh:hiL l=l:=qGA.2 fun x hx=>by
   have:=qFN.1 h2 x hx;simpa using this
  rw[hh,h1];simp;exact⟨[(1000,kin l)],by simp,by simpa [kin,qDU]using wkL.cons 1000 (kin l) l.length .nil⟩
 ·obtain⟨R,hR⟩:∃ R,hiL l=R:=⟨_,rfl⟩;rw[hR];have hRl:R.length≤l.length:=hR ▸ qub l;rw[h2];have e2:=qaq ((k:Int)+1) (by omega) (by omega);simp[e2];have ht:(l.take k).filter (fun x=>!loB x)=l.take k:=qGA.2 fun x hx=>by
   have:=qFN.1 h3 x hx;simpa using this
  refine qa9 (X:=Nat×List Int×List Int) [0,1,5,6] [(1000,1000)] (fun x=>[(5,.int .i64 (x.2.1.length:Int)),(6,.int .i64 x.1)]) (fun x=>[(1000,kin x.2.2)]) (fun x=>l.length-x.1) (fun x=>x.1≤l.length∧x.2.1.length<x.1∧x.2.1++hiL (l.drop x.1)=R∧x.2.2.length=l.length∧x.2.2.take x.2.1.length=x.2.1∧x.2.2.drop x.1=l.drop x.1) (k+1,l.take k,l) ⟨by simp only;omega,by simp;omega,?_,rfl,by simp[qEW (qFs h1)],rfl⟩ ?_ (he:=by simp[qah,kin,qEW (qFs h1)])
  ·have hs:l=l.take k++y::l.drop (k+1):=by
    conv=>lhs;rw[← qDJ k l,qGB,hx]
    rfl
   rw[← hR]
   conv=>rhs;rw[hs]
   simp only[hiL,List.filter_append,ht];rw[List.filter_cons_of_neg (by simp[hp])]
  rintro⟨j,F,L⟩ ⟨hj,hF,hd,hL,hLt,hLd⟩;simp only at hj hF hd hL hLt hLd;cases hr:l.drop j with
  | nil =>
   have:=qaU hr;have hie:j=l.length:=by omega
   subst hie;rw[hr]at hd;simp[qah,hL,kin];have hFR:F=R:=by simpa [hiL]using hd
   subst hFR;have e:=qe1 (L.map qae) F.length (List.replicate (l.length-F.length) [.int .i64 0]) (by simp;omega);refine⟨by omega,by omega,by omega,[(1000,⟨1,spl (L.map qae) F.length (List.replicate (l.length-F.length) [.int .i64 0])⟩)],by simp[qae],?_,rfl⟩;have h:=wkL.cons 1000 ⟨1,spl (L.map qae) F.length (List.replicate (l.length-F.length) [.int .i64 0])⟩ F.length .nil;have e2:(spl (L.map qae) F.length (List.replicate (l.length-F.length) [.int .i64 0])).take F.length=F.map qae:=by
    simp only[spl];rw[qFQ (by simp;omega),qEX,qFS,← qFC,hLt]
   simp only[e2]at h;exact h
  | cons x r =>
   obtain⟨g1,e0,e1,g3⟩:=qaV hr;have e3:=qaq ((j:Int)+1) (by omega) (by omega);have e4:=qaq ((F.length:Int)+1) (by omega) (by omega);have hx:L[j]?=some x:=by
    have:=congrArg (fun l:List Int=>l[0]?) hLd;simp only[qD4,qEB]at this;rw[this];exact e1
   have hx':=(qEb.1 hx).2;simp[qah,hL,g1,hx,hx',kin,qae];refine(qq5 x).call ?_;simp[e3,e4];have hd2:(l.drop j).filter (fun x=>!loB x)=if loB x=true then (l.drop (j+1)).filter (fun x=>!loB x) else x::(l.drop (j+1)).filter (fun x=>!loB x):=by
    rw[hr,g3];cases hq:loB x <;> simp[List.filter_cons,hq]
   simp only[hiL]at hd;refine⟨fun q=>⟨by omega,by omega,nx (j+1,F++[x],L.set F.length x) [(1000,1000)] ⟨by simp only;omega,by simp;omega,?_,by simp[hL],?_,?_⟩ (by simp only;omega) (h4:=?_)⟩,fun q=>nx (j+1,F,L) [(1000,1000)] ⟨by simp only;omega,by simp only;omega,?_,hL,hLt,?_⟩ (by simp only;omega) (h4:=by simp[qah,e3,kin])⟩
   ·rw[hd2,if_neg (by simp[loB];omega)]at hd;simpa [hiL]using hd
   ·simp only[qES,qDX,qET];rw[qFq,qFm (by omega),qGt (by omega),hLt];rfl
   ·simp only;rw[qGv (by omega),← qDP,← qDP,hLd]
   ·obtain⟨z,hz⟩:∃ z,L[F.length]?=some z:=⟨_,qDF (by omega)⟩;simp[qah,e3,e4,kin,hz,qae]
   ·rw[hd2,if_pos (by simp[loB];omega)]at hd;simpa [hiL]using hd
   ·simp only;rw[← qDP,← qDP,hLd]
def dsT (p:Int):List Int→List Int
 | []=>[]
 | x::r=>if x=p then dsT x r else x::dsT x r
def dsL:List Int→List Int
 | []=>[]
 | x::r=>x::dsT x r
theorem qrs (r:List Int) (x p:Int):∀ (q:Int) (l:List Int),dsT q (l++[p]++x::r)=dsT q (l++[p])++dsT p (x::r)
 | q,[]=>by
  simp only[qEf,qFt,dsT];split <;> split <;> simp[dsT, *]
 | q,a::l=>by
  have:=qrs r x p a l;simp only[qFt,List.append_assoc,qEf,dsT]at this ⊢;split <;> simp[this]
theorem qoa {l:List Int} {m:Nat} {p x:Int} (h1:l[m]?=some p) (h2:l[m+1]?=some x):dsL (l.take (m+2))=if x=p then dsL (l.take (m+1)) else dsL (l.take (m+1))++[x]:=by
 have e1:l.take (m+2)=l.take m++[p]++[x]:=by rw[qgj h2,qgj h1]
 have e2:l.take (m+1)=l.take m++[p]:=qgj h1;rw[e1,e2];cases l.take m with
 | nil=>simp only[qEf,qFt,dsL,dsT];split <;> simp
 | cons a q =>
  have:=qrs [] x p a q;simp only[qFt,List.append_assoc,qEf,dsL]at this ⊢;rw[this];simp only[dsT];split <;> simp
theorem qzy (l:List Int) (hl:l.length≤1048576):ACall prog 195 [.sl 1000 0 l.length] [(1000,kin l)] (fun r L'=>r=.sl 1000 0 (dsL l).length∧L'=[(1000,kin (dsL l))]):=by
 refine ACall.weak (R:=fun r L'=>∃ L2,wkL L' L2∧unc r=.sl 1000 0 (dsL l).length∧L2=[(1000,kin (dsL l))]) ?_ (fun r L' h=>h);refine acx func195 [(6,[zI 0,zI 1,zJ 2 [1000] [],zJ 3 [1000] [],zJ 4 [] [1000],zJ 5 [] [1000],zJ 6 [] [1000],zJ 7 [1000] [1000],zJ 8 [1000] [1000],zI 9]),(11,[zI 0,zI 1,zJ 2 [1000] [],zJ 3 [1000] [],zJ 4 [] [1000],zJ 5 [] [1000],zJ 6 [] [1000],zJ 7 [1000] [1000],zJ 8 [1000] [1000],zI 9])] ntmps195 rfl rfl rfl ?_;by_cases h0:l.length<2
 ·have hd:dsL l=l:=by
   match l with
   | []=>rfl
   | [_]=>rfl
   | _::_::_=>simp at h0;omega
  rw[hd];simp[show(l.length:Int)<2 by omega];exact⟨[(1000,kin l)],by simp,by simpa [kin,qDU]using wkL.cons 1000 (kin l) l.length .nil⟩
 ·simp[show ¬ (l.length:Int)<2 by omega];refine qa9 (X:=Nat) [0,3] [(1000,1000)] (fun k=>[(3,.int .i64 k)]) (fun x=>[(1000,kin l)]) (fun k=>l.length-k) (fun k=>1≤k∧k≤l.length∧dsL (l.take k)=l.take k) 1 ⟨by omega,by omega,?_⟩ ?_ (he:=by simp[qah,kin])
  ·match l with
   | []=>rfl
   | _::_=>rfl
  rintro k ⟨hk1,hk,hd⟩;have e1:=qaq ((k:Int)-1) (by omega) (by omega);have e2:=qaq ((k:Int)+1) (by omega) (by omega);by_cases hlt:k<l.length
  ·obtain⟨m,hm⟩:∃ m,k=m+1:=⟨k-1,by omega⟩;obtain⟨p,hp⟩:∃ z,l[m]?=some z:=⟨_,qDF (by omega)⟩;obtain⟨x,hx⟩:∃ z,l[k]?=some z:=⟨_,qDF (by omega)⟩;have hp':=(qEb.1 hp).2;have hx':=(qEb.1 hx).2;have hml:m<l.length:=by omega
   have e1:IntKind.i64.wrap ((k:Int)-1)=(m:Int):=by rw[qaq _ (by omega) (by omega)];omega
   have hst:=qoa hp (hm ▸ hx);rw[← hm,show m+2=k+1 by omega]at hst;by_cases hxp:x=p
   ·simp[qah,hlt,hml,show(k:Int)<l.length by omega,e1,kin,qae,hp,hx,hp',hx',hxp];rw[if_pos hxp,hd]at hst;refine⟨hk,?_⟩;have hlt2:(l.take k).length=k:=by simp;omega
    refine qa9 (X:=Nat×List Int×List Int) [0,3,4,5] [(1000,1000)] (fun y=>[(3,.int .i64 (y.2.1.length:Int)),(4,.sl 1000 k (l.length-k)),(5,.int .i64 y.1)]) (fun y=>[(1000,kin y.2.2)]) (fun y=>l.length-k-y.1) (fun y=>1≤y.1∧k+y.1≤l.length∧y.2.1.length<k+y.1∧dsL (l.take (k+y.1))=y.2.1∧y.2.2.length=l.length∧y.2.2.take y.2.1.length=y.2.1∧y.2.2.drop (k+y.1-1)=l.drop (k+y.1-1)) (1,l.take k,l) ⟨by simp,by simp only;omega,by simp only;omega,hst,rfl,by rw[hlt2],rfl⟩ ?_ (he:=by simp only[hlt2];simp[qah,kin]);rintro⟨j,F,L⟩ ⟨hj1,hj,hF,hd,hL,hLt,hLd⟩;simp only at hj1 hj hF hd hL hLt hLd;clear hp hx hp' hx' hxp hst hm hml e1;have e2:=qaq ((j:Int)+1) (by omega) (by omega);have e3:=qaq ((F.length:Int)+1) (by omega) (by omega);by_cases hlt:j<l.length-k
    ·obtain⟨m,hm⟩:∃ m,j=m+1:=⟨j-1,by omega⟩;obtain⟨p,hp⟩:∃ z,l[k+m]?=some z:=⟨_,qDF (by omega)⟩;obtain⟨x,hx⟩:∃ z,l[k+j]?=some z:=⟨_,qDF (by omega)⟩;have hst:=qoa hp (by rw[show k+m+1=k+j by omega];exact hx);rw[show k+m+2=k+(j+1) by omega,show k+m+1=k+j by omega,hd]at hst;have hLat:∀ i,k+m≤i→L[i]?=l[i]?:=fun i hi=>by
      have:=congrArg (fun l:List Int=>l[i-(k+m)]?) hLd;simp only[qD4]at this;rw[show k+j-1+(i-(k+m))=i by omega]at this;exact this
     have hp2:=hLat (k+m) (by omega);have hx2:=hLat (k+j) (by omega);rw[hp]at hp2;rw[hx]at hx2;have hp':=(qEb.1 hp2).2;have hx':=(qEb.1 hx2).2;have hml:m<l.length-k:=by omega
     have h5:k+m<l.length:=by omega
     have h6:k+j<l.length:=by omega
     have e1:IntKind.i64.wrap ((j:Int)-1)=(m:Int):=by rw[qaq _ (by omega) (by omega)];omega
     have hnd:L.drop (k+(j+1)-1)=l.drop (k+(j+1)-1):=by
      rw[show k+(j+1)-1=(k+j-1)+1 by omega,← qDP,← qDP,hLd]
     by_cases hxp:x=p
     ·simp[qah,hlt,hml,h5,h6,hL,show(j:Int)<((l.length-k:Nat):Int) by omega,e1,kin,qae,hp2,hx2,hp',hx',hxp,e2];rw[if_pos hxp]at hst;exact nx (j+1,F,L) [(1000,1000)] ⟨by simp,by simp only;omega,by simp only;omega,hst,hL,hLt,hnd⟩ (by simp only;omega) (h4:=by simp[qah,e2,kin])
     ·rw[if_neg hxp]at hst;obtain⟨z,hz⟩:∃ z,L[F.length]?=some z:=⟨_,qDF (by omega)⟩;simp[qah,hlt,hml,h5,h6,hL,show(j:Int)<((l.length-k:Nat):Int) by omega,e1,kin,qae,hp2,hx2,hp',hx',hxp,e2,e3];refine⟨by omega,nx (j+1,F++[x],L.set F.length x) [(1000,1000)] ⟨by simp,by simp only;omega,by simp;omega,hst,by simp[hL],?_,?_⟩ (by simp only;omega) (h4:=by simp[qah,e2,e3,kin,hz,qae])⟩
      ·simp only[qES,qDX,qET];rw[qFq,qFm (by omega),qGt (by omega),hLt];rfl
      ·simp only;rw[qGv (by omega),hnd]
    ·have hje:k+j=l.length:=by omega
     rw[hje,qFx]at hd;subst hd;generalize hF2:dsL l=F at *
     simp[qah,hL,kin,show ¬ (j:Int)<((l.length-k:Nat):Int) by omega];have e:=qe1 (L.map qae) F.length (List.replicate (l.length-F.length) [.int .i64 0]) (by simp;omega);refine⟨by omega,by omega,by omega,[(1000,⟨1,spl (L.map qae) F.length (List.replicate (l.length-F.length) [.int .i64 0])⟩)],by simp[qae],?_⟩;have h:=wkL.cons 1000 ⟨1,spl (L.map qae) F.length (List.replicate (l.length-F.length) [.int .i64 0])⟩ F.length .nil;have e2:(spl (L.map qae) F.length (List.replicate (l.length-F.length) [.int .i64 0])).take F.length=F.map qae:=by
      simp only[spl];rw[qFQ (by simp;omega),qEX,qFS,← qFC,hLt]
     simp only[e2]at h;exact h
   ·simp[qah,hlt,hml,show(k:Int)<l.length by omega,e1,kin,qae,hp,hx,hp',hx',hxp,e2];rw[if_neg hxp,hd]at hst;exact nx (k+1) [(1000,1000)] ⟨by omega,by omega,by rw[hst,qgj hx]⟩ (by omega) (h4:=by simp[qah,e2,kin])
  ·have hie:k=l.length:=by omega
   subst hie;rw[qFx]at hd;rw[hd];simp[qah];exact⟨[(1000,kin l)],by simp,by simpa [kin,qDU]using wkL.cons 1000 (kin l) l.length .nil⟩
def srt (l:List Int):List Int:=l.mergeSort fun x y=>decide (x≤y)
theorem qeD (l:List Int):(srt l).length=l.length:=by simp[srt,List.length_mergeSort]
theorem qsI {w:World} {Z:Addr→Prop} {γ:Gm} {k:IntKind} {n:Int} {v:Value} (h:AVRel w Z γ (.int k n) v):v=.int k n:=by cases h;rfl
theorem len64z:CV prog 324 [.int .u64 0] (.int .i64 0):=by
 refine cvx func324 [] ntmps324 rfl rfl rfl ?_;simp;decide
theorem lenz:CV prog 270 [.int .u64 0] (.int .i64 0):=by
 refine cvx func270 [] ntmps270 rfl rfl rfl ?_;simp;refine len64z.call ?_;simp
theorem qzm:ACall prog 315 [.sl 1000 0 0,.int .i64 0,.int .i64 0] [(1000,kin [])] (fun r L'=>r=.tup []∧L'=[(1000,kin [])]):=by
 refine acx func315 [] ntmps315 rfl rfl rfl ?_;simp;refine qa9 (X:=Unit) [0,1,2,6] [(1000,1000)] (fun _=>[(0,.sl 1000 0 0),(1,.int .i64 0),(2,.int .i64 0),(6,.int .i64 1)]) (fun _=>[(1000,kin [])]) (fun _=>0) (fun _=>True) () trivial ?_ (he:=by simp[qah]);rintro⟨⟩ -
 simp
theorem qyO:ACall prog 269 [.sl 1000 0 0,.int .i64 0,.int .i64 0,.int .i64 0] [(1000,kin [])] (fun r L'=>r=.tup []∧L'=[(1000,kin [])]):=by
 refine acx func269 [] ntmps269 rfl rfl rfl ?_;simp;refine qa9 (X:=Unit) [0,1,2,3] [(1000,1000)] (fun _=>[(0,.sl 1000 0 0),(1,.int .i64 0),(2,.int .i64 0),(3,.int .i64 0)]) (fun _=>[(1000,kin [])]) (fun _=>0) (fun _=>True) () trivial ?_ (he:=by simp[qah]);rintro⟨⟩ -
 simp;refine qac [(1000,.whole 1000)] (by kernel_rfl) qzm (by simp) (by simp) (by simp;exact qaa rfl (qaQ _)) (by simp) (by simp) ?_;rintro r L' ⟨rfl,rfl⟩;refine⟨[],⟨by simp,by simp,by simp,by simp,by simp⟩,?_⟩;simp only[qad];simp
theorem qvr:ACall prog 194 [.sl 1000 0 0] [(1000,kin [])] (fun r L'=>r=.tup []∧L'=[(1000,kin [])]):=by
 refine acx func194 [] ntmps194 rfl rfl rfl ?_;simp;refine lenz.call ?_;simp;refine qac [(1000,.whole 1000)] (by kernel_rfl) qyO (by simp) (by simp) (by simp;exact qaa rfl (qaQ _)) (by simp) (by simp) ?_;rintro r L' ⟨rfl,rfl⟩;refine⟨[],⟨by simp,by simp,by simp,by simp,by simp⟩,?_⟩;simp only[qad];simp
theorem qzp (l:List Int) (hne:l≠[]) (hl:l.length≤1048576):ACall prog 194 [.sl 1000 0 l.length] [(1000,kin l)] (fun r L'=>r=.tup []∧L'=[(1000,kin (srt l))]):=by
 intro w Z γ vs hv hh hg;obtain⟨x,rfl,h1⟩:=qwX hv;have hpos:0<l.length:=qDB.2 hne;generalize hn:l.length=n at h1;have key:∃ (r:Rg) (cap:Nat),γ 1000=some r∧x=.slice (some (r.A.at 0)) l.length cap∧l.length≤cap:=by
  cases h1 with
  | sl _ id e len cap r hg2 hl2 hc=>exact⟨r,cap,hg2,by rw[hn];simp,by omega⟩
  | sl0=>omega
 obtain⟨r,cap,hr,rfl,hcap⟩:=key;obtain⟨r',hr',hor⟩:=hh.obj 1000 (kin l) (by simp);rw[hr]at hr';injection hr' with hr';subst hr';have hfit:=hor.fit;simp only[kin,qEH,Nat.mul_one]at hfit;have hcell:∀ j,j<l.length→w.cell? (r.A.at j)=some (.int .i64 (l.toArray[j]!))∧w.frozen? (r.A.at j)=false:=fun j hj=>by
  obtain⟨v,hv,hrel⟩:=hor.cell j 0 (by simpa [kin]using hj) (by simp[kin]);have e:(((kin l).els.getD j []).getD 0 .top)=.int .i64 (l.toArray[j]!):=by
   simp[kin,List.getD,hj,qae]
  rw[e]at hrel;have:=qsI hrel;subst this;refine⟨by simpa [kin]using hv,(hor.live j (by omega)).2⟩
 have hH:Sort.Holds (Value.int .i64) w r.A.block r.A.off l.toArray:=fun j hj=>hcell j (by simpa using hj);have hbk:r.A.block<w.heap.size:=World.block_lt_of_cell? w (r.A.at 0) (hcell 0 hpos).1;refine .inl ⟨by kernel_rfl,?_⟩;have hcall:=Tryz.slices_Sort_int r.A.block r.A.off cap l w hH hbk (by omega);refine hcall.mono ?_;rintro e w' ⟨rfl,k,os,rfl⟩;have hHa:Sort.Holds (Value.int .i64) (Sort.ahead w k) r.A.block r.A.off l.toArray:=hH;have hput:Sort.putRow (Value.int .i64) (Sort.ahead w k) r.A.block r.A.off (srt l).toArray=(Sort.ahead w k).setCells r.A.block (r.A.off+0) ((srt l).map (Value.int .i64)):=by
  have h2:=Lib.putRow_setCells (Value.int .i64) (Sort.ahead w k) r.A.block r.A.off (srt l) l.toArray 0 (by simp[qeD]);rw[Sort.putRow_self _ _ _ _ _ hHa]at h2;rw[h2]
  congr 1
  apply qDr;intro j;rw[Lib.lay_get? _ _ _ _ (by simp[qeD])];simp only[qDR,true_and,qEQ,Nat.sub_zero,qeD,qDG];split
  ·rfl
  ·rw[qFa (by rw[qeD];omega),qFa (by omega)]
 rw[show(l.mergeSort fun x y=>decide (x≤y))=srt l from rfl,hput];have ha:HRel (Sort.ahead w k) Z γ (qaW [(1000,kin l)]):=hh.same (fun p _=>⟨rfl,rfl⟩) (qDo _);have hu:upd (qaW [(1000,kin l)]) 1000 (some (kin (srt l)))=qaW [(1000,kin (srt l))]:=by
  funext i
  by_cases h:i=1000
  ·subst h;simp[upd]
  ·rw[qau _ _ h];simp[h]
 obtain⟨hw1,hw2⟩:=ha.write (id:=1000) (o:=kin l) (o':=kin (srt l)) (r:=r) (by simp) hr 0 ((srt l).map (Value.int .i64)) (by simp[qeD];omega) rfl (by simp[kin,qeD];omega) (fun e he=>by
  simp only[kin,qEH]at he;simp[kin,List.getD,he,qae]) (fun e j he hj=>by
   simp only[kin,qEH]at he hj;have hj0:j=0:=by omega
   subst hj0;refine⟨.int .i64 (srt l)[e],?_,.inl ⟨by simp,by simp[kin];omega,by simp[kin,he]⟩⟩;have e2:((kin (srt l)).els.getD e []).getD 0 .top=.int .i64 (srt l)[e]:=by simp[kin,List.getD,he,qae]
   rw[e2];exact .int _ _ _)
 rw[hu]at hw1;have hsz:=qec r.A.block ((srt l).map (Value.int .i64)) (r.A.off+0) (Sort.ahead w k);generalize hW:(Sort.ahead w k).setCells r.A.block (r.A.off+0) ((srt l).map (Value.int .i64))=W at *
 have hsz':W.heap.size=w.heap.size:=hsz;have hF1:Fr (fun p=>p.block=r.A.block∧r.A.off+0≤p.off∧p.off<r.A.off+0+((srt l).map (Value.int .i64)).length) (Sort.ahead w k) W:=hW ▸ Fr.setCells r.A.block ((srt l).map (Value.int .i64)) (r.A.off+0) (Sort.ahead w k);have hF0:Fr (fun p=>p.block=r.A.block∧r.A.off+0≤p.off∧p.off<r.A.off+0+((srt l).map (Value.int .i64)).length) w W:=⟨hF1.os,hF1.tape,hF1.output,hF1.size,hF1.blk⟩;refine⟨.tuple #[],.tup [],[(1000,kin (srt l))],Z,γ,rfl,⟨rfl,rfl⟩,.tup _ _ _ rfl (fun j hj=>by simp at hj),?_,?_,fun _ h=>h,fun p h=>.inl h,?_,fun _ _ _=>rfl⟩
 ·exact hw1.same (fun p hp=>⟨Sort.cell?_grow _ _ _ hp,Sort.frozen?_grow _ _ _ hp⟩) (by simp[Sort.grow])
 ·refine hF0.trans (G:=fun _=>False) ⟨rfl,rfl,rfl,by simp[Sort.grow],fun b hb=>.inl (Sort.heap_grow_old _ _ hb)⟩ (fun i o hp=>?_) (fun _ _ _ h=>h.elim);refine⟨1000,kin l,r,by simp,hr,?_⟩;simp only[qEH,qeD]at hp;exact⟨hp.1,by have:=hp.2.1;simp only at this ⊢;omega,by have:=hp.2.2;simp only at this ⊢;omega,rfl⟩
 ·intro id o rg h1 h2 p hp;by_cases h:id=1000
  ·subst h;exact .inr ⟨1000,kin l,rg,by simp,h2,hp⟩
  ·simp[h]at h1
theorem qzo (l:List Int) (hl:l.length≤1048576):ACall prog 194 [.sl 1000 0 l.length] [(1000,kin l)] (fun r L'=>r=.tup []∧L'=[(1000,kin (srt l))]):=by
 cases l with
 | nil=>simpa [srt]using qvr
 | cons a r=>exact qzp (a::r) (by simp) hl
theorem qtC:∀ {a b:List Int},a.Pairwise (· < ·)→b.Pairwise (· < ·)→(∀ x,x∈a↔x∈b)→a=b
 | [],[],_,_,_=>rfl
 | [],y::b,_,_,h=>absurd ((h y).2 (by simp)) (by simp)
 | x::a,[],_,_,h=>absurd ((h x).1 (by simp)) (by simp)
 | x::a,y::b,h1,h2,h=>by
  rw[qGC]at h1 h2;have hxy:x=y:=by
   rcases qE3.1 ((h x).1 (by simp))with e | e
   ·exact e
   ·rcases qE3.1 ((h y).2 (by simp))with e2 | e2
    ·exact e2.symm
    ·have:=h1.1 y e2;have:=h2.1 x e;omega
  subst hxy;rw[qtC h1.2 h2.2 fun z=>⟨fun hz=>?_,fun hz=>?_⟩]
  ·rcases qE3.1 ((h z).1 (qEZ _ hz))with e | e
   ·have:=h1.1 z hz;omega
   ·exact e
  ·rcases qE3.1 ((h z).2 (qEZ _ hz))with e | e
   ·have:=h2.1 z hz;omega
   ·exact e
theorem qlo:∀ (l:List Int) (a:Int),(∀ x∈l.take (plP l a),x<a)∧(l.Pairwise (· < ·)→¬ a∈l→∀ x∈l.drop (plP l a),a<x)
 | [],a=>by simp[plP]
 | y::r,a=>by
  obtain⟨h1,h2⟩:=qlo r a;by_cases h:y<a
  ·have e:plP (y::r) a=plP r a+1:=by simp[plP,h]
   rw[e];refine⟨fun x hx=>?_,fun hp hn=>?_⟩
   ·simp only[qDL,qE3]at hx;rcases hx with rfl | hx
    ·exact h
    ·exact h1 x hx
   ·rw[qGC]at hp;simpa using h2 hp.2 (fun hm=>hn (qEZ _ hm))
  ·have e:plP (y::r) a=0:=by simp[plP,h]
   rw[e];refine⟨by simp,fun hp hn x hx=>?_⟩;rw[qGC]at hp;have hy:y≠a:=fun e=>hn (by simp[e]);simp only[List.drop_zero,qE3]at hx;rcases hx with rfl | hx
   ·omega
   ·have:=hp.1 x hx;omega
theorem qnb {l:List Int} (h:l.Pairwise (· < ·)) (a:Int):(qfI l a).Pairwise (· < ·)∧∀ x,x∈qfI l a↔x∈l∨(x=a∧13≤a):=by
 unfold qfI;split
 ·rename_i hc;refine⟨h,fun x=>⟨.inl,fun hx=>?_⟩⟩;rcases hx with hx | ⟨rfl,h13⟩
  ·exact hx
  ·rcases hc with hc | hc
   ·omega
   ·simpa using hc
 ·rename_i hc;have hn:¬ a∈l:=fun hm=>hc (.inr (by simpa using hm));have h13:13≤a:=by
   have:¬ a<13:=fun h=>hc (.inl h);omega
  obtain⟨h1,h2⟩:=qlo l a;have h2:=h2 h hn;have hs:=qDJ (plP l a) l;have hp:(l.take (plP l a)++l.drop (plP l a)).Pairwise (· < ·):=by rw[hs];exact h
  rw[qGD]at hp;refine⟨?_,fun x=>?_⟩
  ·rw[qGD,qGC];refine⟨hp.1,⟨h2,hp.2.1⟩,fun x hx y hy=>?_⟩;rcases qE3.1 hy with rfl | hy
   ·exact h1 x hx
   ·exact hp.2.2 x hx y hy
  ·have:x∈l↔x∈l.take (plP l a)∨x∈l.drop (plP l a):=by rw[← qE5,hs]
   rw[this];simp only[qE5,qE3];constructor
   ·rintro(h | rfl | h)
    ·exact .inl (.inl h)
    ·exact .inr ⟨rfl,h13⟩
    ·exact .inl (.inr h)
   ·rintro((h | h) | ⟨rfl,_⟩)
    ·exact .inl h
    ·exact .inr (.inr h)
    ·exact .inr (.inl rfl)
theorem qet:∀ (bs:List Int) {l:List Int},l.Pairwise (· < ·)→(qcK l bs).Pairwise (· < ·)∧∀ x,x∈qcK l bs↔x∈l∨(x∈bs∧13≤x)
 | [],l,h=>⟨h,fun x=>by simp[qcK]⟩
 | a::r,l,h=>by
  obtain⟨h1,h2⟩:=qnb h a;obtain⟨h3,h4⟩:=qet r h1;rw[qd9];refine⟨h3,fun x=>?_⟩;rw[h4,h2];simp only[qE3];constructor
  ·rintro((h | ⟨rfl,h⟩) | ⟨h,h'⟩)
   ·exact .inl h
   ·exact .inr ⟨.inl rfl,h⟩
   ·exact .inr ⟨.inr h,h'⟩
  ·rintro(h | ⟨rfl | h,h'⟩)
   ·exact .inl (.inl h)
   ·exact .inl (.inr ⟨rfl,h'⟩)
   ·exact .inr ⟨h,h'⟩
theorem qul:∀ (l:List Int) (p:Int),(p::l).Pairwise (·≤·)→(p::dsT p l).Pairwise (· < ·)∧∀ x,x∈p::dsT p l↔x∈p::l
 | [],p,_=>by simp[dsT]
 | a::r,p,h=>by
  rw[qGC]at h;obtain⟨h1,h2⟩:=qul r a h.2;simp only[dsT];split
  ·rename_i e;subst e;refine⟨h1,fun x=>?_⟩;rw[h2];simp
  ·rename_i e;have hpa:=h.1 a (by simp);refine⟨?_,fun x=>?_⟩
   ·rw[qGC];refine⟨fun y hy=>?_,h1⟩;have hy2:=(h2 y).1 hy;rcases qE3.1 hy2 with rfl | hy2
    ·omega
    ·rw[qGC]at h;have:=h.2.1 y hy2;omega
   ·have:=h2 x;simp only[qE3]at this ⊢;rw[this]
theorem qzI {l:List Int} (h:l.Pairwise (·≤·)):(dsL l).Pairwise (· < ·)∧∀ x,x∈dsL l↔x∈l:=by
 cases l with
 | nil=>simp[dsL]
 | cons a r=>exact qul r a h
def qrS (c:CO) (root:Int):List Int:=root::(c.ddt.map DE.ea++(c.sets.map (fun s=>s.home.pa)++c.parts.map PT.pa))
theorem qqr (c:CO) (root:Int):dsL (srt (hiL (qrS c root)))=qcb c root:=by
 have hs:(srt (hiL (qrS c root))).Pairwise (·≤·):=by
  have:=List.pairwise_mergeSort (le:=fun x y:Int=>decide (x≤y)) (fun a b c h1 h2=>by simp at *;omega) (fun a b=>by simp;omega) (hiL (qrS c root));simpa [srt]using this
 obtain⟨h1,h2⟩:=qzI hs;have h0:([]:List Int).Pairwise (· < ·):=.nil;obtain⟨a1,a2⟩:=qnb h0 root;obtain⟨b1,b2⟩:=qet (c.ddt.map DE.ea) a1;obtain⟨c1,c2⟩:=qet (c.sets.map fun s=>s.home.pa) b1;obtain⟨d1,d2⟩:=qet (c.parts.map PT.pa) c1;refine qtC h1 d1 fun x=>?_;rw[h2];show _↔x∈qcK (qcK (qcK (qfI [] root) (c.ddt.map DE.ea)) (c.sets.map fun s=>s.home.pa)) (c.parts.map PT.pa);rw[d2,c2,b2,a2];have:x∈srt (hiL (qrS c root))↔x∈qrS c root∧13≤x:=by
  rw[srt,List.mem_mergeSort,hiL,List.mem_filter];simp[loB]
 rw[this];simp only[qrS,qE3,qE5,qFc,false_or];grind
@[simp] theorem qtX {α:Type} (ρ:Nat→Option Plc) (f:α→Int):qch ρ ∘ qae ∘ f=qae ∘ f:=by funext x;simp[qae]
theorem qq4 (c:CO) (h:CoT c) (hc:qal c=true) (root:Int):ACall prog 91 [.agg c.row,.int .i64 root] [] (fun r L'=>r=.sl 900 0 (qcb c root).length∧L'=[(900,kin (qcb c root))]):=by
 obtain⟨hm,k1,k2,k3,k4,k5,k6,k7⟩:=qbs hc;rw[← qqr];have c0:=qir c h;rw[hc]at c0;simp only[CO.row]at c0;refine acx func91 [] ntmps91 rfl rfl rfl ?_;simp[CO.row];refine c0.call ?_;simp[CO.row];refine qa9 (X:=Nat) [2,5,18,19,20] [(2,2),(16,900)] (fun i=>[(5,.sl 900 0 (1+i)),(20,.int .i64 i)]) (fun i=>[(2,⟨7,[c.row]⟩),(900,kin (root::(c.ddt.take i).map DE.ea))]) (fun i=>c.ddt.length-i) (fun i=>i≤c.ddt.length) 0 (by simp) ?_ (he:=by simp[qah,kin,CO.row,qae]);intro i hi;cases hr:c.ddt.drop i with
 | nil =>
  have:=qaU hr;have hie:i=c.ddt.length:=by omega
  subst hie;rw[qFx];simp[qah,CO.row];refine qa9 (X:=Nat) [2,5,31,32,33] [(2,2),(900,900)] (fun i=>[(5,.sl 900 0 (1+c.ddt.length+i)),(33,.int .i64 i)]) (fun i=>[(2,⟨7,[c.row]⟩),(900,kin (root::(c.ddt.map DE.ea++(c.sets.take i).map (fun s=>s.home.pa))))]) (fun i=>c.sets.length-i) (fun i=>i≤c.sets.length) 0 (by simp) ?_ (he:=by simp[qah,kin,CO.row,qae]);intro i hi;cases hr:c.sets.drop i with
  | nil =>
   have:=qaU hr;have hie:i=c.sets.length:=by omega
   subst hie;rw[qFx];simp[qah,CO.row];refine qa9 (X:=Nat) [2,5,45,46,47] [(2,2),(900,900)] (fun i=>[(5,.sl 900 0 (1+c.ddt.length+c.sets.length+i)),(47,.int .i64 i)]) (fun i=>[(2,⟨7,[c.row]⟩),(900,kin (root::(c.ddt.map DE.ea++(c.sets.map (fun s=>s.home.pa)++(c.parts.take i).map PT.pa))))]) (fun i=>c.parts.length-i) (fun i=>i≤c.parts.length) 0 (by simp) ?_ (he:=by simp[qah,kin,CO.row,qae]);intro i hi;cases hr:c.parts.drop i with
   | nil =>
    have:=qaU hr;have hie:i=c.parts.length:=by omega
    subst hie;rw[qFx];have hraw:(root::(c.ddt.map DE.ea++(c.sets.map (fun s=>s.home.pa)++c.parts.map PT.pa)))=qrS c root:=rfl;rw[hraw];have hlen:(qrS c root).length=1+c.ddt.length+c.sets.length+c.parts.length:=by simp[qrS];omega
    generalize qrS c root=raw at *
    simp[qah,CO.row];rw[← hlen];have h1:=qub raw;refine qac [(1000,.whole 900)] (by kernel_rfl) (qB1 raw (by omega)) (by simp) (by simp) (by simp[kin];exact qaa rfl (by simp[clR,qae])) (by simp) (by simp) ?_;rintro r L' ⟨rfl,rfl⟩;refine⟨[],⟨by simp,by simp,by simp,by simp,by simp⟩,?_⟩;simp only[qad];simp;refine qac [(1000,.whole 900)] (by kernel_rfl) (qzo (hiL raw) (by omega)) (by simp) (by simp) (by simp[kin];exact qaa rfl (by simp[clR,qae])) (by simp) (by simp) ?_;rintro r L' ⟨rfl,rfl⟩;refine⟨[],⟨by simp,by simp,by simp,by simp,by simp⟩,?_⟩;simp only[qad];simp;have h2:=qeD (hiL raw);rw[← h2];refine qac [(1000,.whole 900)] (by kernel_rfl) (qzy (srt (hiL raw)) (by omega)) (by simp) (by simp) (by simp[kin];exact qaa rfl (by simp[clR,qae])) (by simp) (by simp) ?_;rintro r L' ⟨rfl,rfl⟩;refine⟨[],⟨by simp,by simp,by simp,by simp,by simp⟩,?_⟩;simp only[qad];simp
   | cons e r =>
    obtain⟨g1,e0,e1,g3⟩:=qaV hr;have e2:=qaq ((i:Int)+1) (by omega) (by omega);simp[qah,g1,e0,e1,PT.row,CO.row,kin];have ht:=tk1 (qae ∘ PT.pa) e1;have hl:List.take (1+c.ddt.length+c.sets.length+i) ([AV.int IntKind.i64 root]::(List.map (qae ∘ DE.ea) c.ddt++(List.map (qae ∘ fun s=>s.home.pa) c.sets++List.take i (List.map (qae ∘ PT.pa) c.parts))))=[AV.int IntKind.i64 root]::(List.map (qae ∘ DE.ea) c.ddt++(List.map (qae ∘ fun s=>s.home.pa) c.sets++List.take i (List.map (qae ∘ PT.pa) c.parts))):=qDU (by simp;omega);refine⟨by omega,nx (i+1) [(2,2),(55,900)] (by omega) (h4:=?_)⟩;simp[qah,ht,hl,e2,CO.row,kin,← Nat.add_assoc]
    all_goals simp[qae]
  | cons e r =>
   obtain⟨g1,e0,e1,g3⟩:=qaV hr;have h8:=h.m8 e (qFu e1);have e2:=qaq ((i:Int)+1) (by omega) (by omega);have hpa:=quu e h8;have hpa':=(qEb.1 hpa).2;simp[qah,g1,e0,e1,CO.row,qaX e h8,qdC e h8,hpa,hpa',kin];have ht:=tk1 (qae ∘ fun s:CS=>s.home.pa) e1;have hl:List.take (1+c.ddt.length+i) ([AV.int IntKind.i64 root]::(List.map (qae ∘ DE.ea) c.ddt++List.take i (List.map (qae ∘ fun s=>s.home.pa) c.sets)))=[AV.int IntKind.i64 root]::(List.map (qae ∘ DE.ea) c.ddt++List.take i (List.map (qae ∘ fun s=>s.home.pa) c.sets)):=qDU (by simp;omega);refine⟨qgS e,by omega,nx (i+1) [(2,2),(42,900)] (by omega) (h4:=?_)⟩;simp[qah,ht,hl,e2,CO.row,kin,← Nat.add_assoc]
   all_goals simp[qae]
 | cons e r =>
  obtain⟨g1,e0,e1,g3⟩:=qaV hr;have e2:=qaq ((i:Int)+1) (by omega) (by omega);simp[qah,g1,e0,e1,DE.row,CO.row,kin];have ht:=tk1 (qae ∘ DE.ea) e1;have hl:List.take (1+i) ([AV.int IntKind.i64 root]::List.take i (List.map (qae ∘ DE.ea) c.ddt))=[AV.int IntKind.i64 root]::List.take i (List.map (qae ∘ DE.ea) c.ddt):=qDU (by simp;omega);refine⟨by omega,nx (i+1) [(2,2),(28,900)] (by omega) (h4:=?_)⟩;simp[qah,ht,hl,e2,CO.row,kin,← Nat.add_assoc]
  all_goals simp[qae]
end Go.Av.F
end
section
namespace Go.Av.F
open Go Go.Av Go.Proofs Go.Proofs.Tryz
def cmR (d:DK) (c:CO) (n j i3 i6:Nat):List AV:=[.sl 1001 0 d.s0.length,.sl 1002 0 d.s1.length,.sl i3 0 d.late.length,.int .i64 c.txg,.sl 1004 0 c.sets.length,.sl 1005 0 c.ddt.length,.sl i6 0 c.parts.length,.bool c.dirty,.sl 1007 0 c.safe.length,.int .i64 c.logn,.sl 1008 j (n-j),.nils,.nils,.nils,.nils,.nils,.nils]
def cmL (d:DK) (c:CO) (fr:List Int) (j i3 i6:Nat):List (Nat×Ob) :=
 [(1000,⟨17,[cmR d c fr.length j i3 i6]⟩),(1001,qap d.s0),(1002,qap d.s1),(i3,qcz d.late),(1004,kcs c.sets),(1005,qaJ c.ddt),(i6,kpt c.parts),(1007,kin c.safe),(1008,kin fr)]
def qC0 (xs:List Nat) (D:DK) (c:CO) (fr:List Int) (j:Nat) (p:PT) (b:Bool) (r:AV) (L':List (Nat×Ob)):Prop:=∃ id,id∈xs∧r=.tup [.agg p.row,.bool b]∧L'=cmL D c fr j id 1006
theorem qsP (d:DK) (hd:qbr d=true) (c:CO) (fr:List Int) (j:Nat) (a:Int) (hj:fr[j]?=some a) (hfl:fr.length≤1048576) (text:List UInt8) (ht:text.length≤1000000) (htx:0≤c.txg∧c.txg<10000000) :
  ACall prog 294 [.ptr 1000 0 0,.str text] (cmL d c fr j 1003 1006)
   (fun r L'=>r=.tup [.agg (if (qat d a text).2=true then qbM a text (c.txg+1) else ⟨0,0,0⟩:PT).row,.bool (qat d a text).2]∧L'=cmL (qat d a text).1 c fr (if (qat d a text).2=true then j+1 else j) 903 1006):=by
 have c1:=qrg d hd a text (by omega);have c2:=qmG a text (c.txg+1) (by simp[maxLen];omega);obtain⟨R,hR⟩:∃ R,qat d a text=R:=⟨_,rfl⟩;rw[hR]at c1 ⊢;obtain⟨D,b⟩:=R;have hjl:=(qEb.1 hj).1;have hj':=(qEb.1 hj).2;have e1:=qaq (c.txg+1) (by omega) (by omega);have key:ACall prog 294 [.ptr 1000 0 0,.str text] (cmL d c fr j 1003 1006)
   (qC0 [18] D c fr (if b=true then j+1 else j) (if b=true then qbM a text (c.txg+1) else ⟨0,0,0⟩) b):=by
  refine acx func294 [] ntmps294 rfl rfl rfl ?_ (hL:=by simp[cmL]);simp[cmL,cmR,kin,hj,hj',hjl,qae];refine⟨by omega,?_⟩;refine qac [(1000,.sub 1000 0 0 3),(1001,.whole 1001),(1002,.whole 1002),(1003,.whole 1003)] (by kernel_rfl) c1 (by simp) (by simp) (by simp[qb4,qcA];exact⟨⟨_,_,rfl,rfl,by simp,by simp,rfl,rfl,by simp⟩,qaa rfl (qaI _),qaa rfl (qaI _),qaa rfl (qcO _)⟩) (by simp[qb4]) (by simp) ?_;rintro r L' ⟨rfl,rfl⟩;refine⟨[(903,18)],⟨by simp[qb4],by simp,by simp,by simp[qb4],by simp[qb4,qcA]⟩,?_⟩;simp only[qad];simp[qb4,qcA];cases b with
  | false =>
   simp;exact⟨cmL D c fr j 18 1006,by simp[cmL,cmR,kin],18,by simp,rfl,rfl⟩
  | true =>
   simp;refine⟨by omega,?_⟩;rw[e1];refine c2.call ?_;simp;exact⟨cmL D c fr (j+1) 18 1006,by simp[cmL,cmR,kin,Nat.sub_sub],18,by simp,rfl,rfl⟩
 refine key.can ?_;rintro r L' ⟨id,hid,rfl,rfl⟩;refine⟨[(1000,1000),(1001,1001),(1002,1002),(id,903),(1004,1004),(1005,1005),(1006,1006),(1007,1007),(1008,1008)],?_,?_,?_,?_,?_⟩
 all_goals
  simp only[qE3,qFc,or_false]at hid;subst hid
 all_goals simp[cmL,cmR,qah]
theorem qwu (l:List DE):ACall prog 296 [.sl 1000 0 l.length,.int .i64 6] [(1000,qaJ l)]
  (fun r L'=>r=.fn 338 [.ptr 2 0 0,.ptr 3 0 0]∧L'=[(2,⟨1,[[.sl 1000 0 l.length]]⟩),(3,⟨1,[[.int .i64 6]]⟩),(1000,qaJ l)]):=by
 refine acx func296 [] ntmps296 rfl rfl rfl ?_;simp
theorem qxb {d:DK} (h:qbr d=true) {a:Int} {t:List UInt8} (hf:(qat d a t).2=false):(qat d a t).1=d:=by
 have k1:=qiE h 0 a t;unfold qat at hf ⊢;rw[if_neg (by simp[h])]at hf ⊢;split
 ·rfl
 ·rename_i hn;rw[if_neg hn]at hf;split
  ·rename_i h2;exact k1.2.2 h2
  ·rename_i h2;rw[if_neg h2]at hf;exfalso;have hth:qa3 d 0 a t=true:=by
    cases e:qa3 d 0 a t with
    | true=>rfl
    | false=>exact absurd (by unfold qaP;rw[if_neg (by simp[h]),if_pos (.inl e)]) h2
   obtain⟨_,q2,q3⟩:=thereB_iff.1 hth;have hX:(qaP d 0 a t).1=⟨d.s0,d.s1,d.late++[⟨0,a,t⟩]⟩:=by
    unfold qaP;rw[if_neg (by simp[h]),if_neg (by simp[hth];omega)]
   rw[hX]at k1 hf;unfold qaP at hf;rw[if_neg (by simp[k1.1]),if_neg (by
    rintro(e | e)
    ·rw[show qa3 ⟨d.s0,d.s1,d.late++[⟨0,a,t⟩]⟩ 1 a t=true from thereB_iff.2 ⟨.inr rfl,q2,q3⟩]at e;cases e
    ·simp at e;omega)]at hf
   cases hf
theorem qm7 {d:DK} (h:qbr d=true) {a:Int} {t:List UInt8} (ha:0≤a∧a<d.s0.length) (ht:t.length≤420) (hf:(qat d a t).2=false):598<d.late.length:=by
 rcases qEr 598 d.late.length with hn | hn
 ·exact hn
 exfalso;have hth:qa3 d 0 a t=true:=thereB_iff.2 ⟨.inl rfl,ha,ht⟩;have hX:qaP d 0 a t=(⟨d.s0,d.s1,d.late++[⟨0,a,t⟩]⟩,true):=by
  unfold qaP;rw[if_neg (by simp[h]),if_neg (by simp[hth];omega)]
 have k1:=qiE h 0 a t;unfold qat at hf;rw[if_neg (by simp[h]),if_neg (by omega),hX]at hf;rw[hX]at k1;rw[if_neg (by simp)]at hf;unfold qaP at hf;rw[if_neg (by simp[k1.1]),if_neg (by
  rintro(e | e)
  ·rw[show qa3 ⟨d.s0,d.s1,d.late++[⟨0,a,t⟩]⟩ 1 a t=true from thereB_iff.2 ⟨.inr rfl,ha,ht⟩]at e;cases e
  ·simp at e;omega)]at hf
 cases hf
theorem qgd {d:DK} (h:qbr d=true) (hn:598<d.late.length) (a:Int) (t:List UInt8):qat d a t=(d,false):=by
 unfold qat;rw[if_neg (by simp[h]),if_pos hn]
theorem qfw {txg:Int} {d:DK} (h:qbr d=true) (hn:598<d.late.length):∀ (l:List CS) (fr:List Int),(qbX txg l ⟨d,fr,false⟩).2.d=d∧(qbX txg l ⟨d,fr,false⟩).2.ok=false
 | [],fr=>⟨rfl,rfl⟩
 | s::q,fr=>by
  simp only[qbX];split
  ·simp only[qbY,qgd h hn,qGE];exact qfw h hn q _
  ·exact qfw h hn q fr
theorem qe5 {txg:Int} {d:DK} (h:qbr d=true) (hn:598<d.late.length):∀ (l:List (List UInt8)) (fr:List Int),(qcR txg l ⟨d,fr,false⟩).2.d=d∧(qcR txg l ⟨d,fr,false⟩).2.ok=false
 | [],fr=>⟨rfl,rfl⟩
 | s::q,fr=>by
  simp only[qcR,qbY,qgd h hn,qGE];exact qe5 h hn q _
theorem qlJ {c:CO}:∀ (k:Nat) (q:Int),∀ a∈qf1 c k q,q≤a∧a<q+k
 | 0,q,a,h=>by simp[qf1]at h
 | k+1,q,a,h=>by
  simp only[qf1,qE5]at h;rcases h with h | h
  ·split at h
   ·simp only[qE3,qFc,or_false]at h;omega
   ·simp at h
  ·have:=qlJ k (q+1) a h;omega
theorem qiv {c:CO} {n:Int} {a:Int} (h:a∈qaS c n):13≤a∧a<n:=by
 have:=qlJ _ _ a h;omega
theorem qop {a b:Int} (t:List UInt8) (ha:13≤a∧a<120) (hb:0≤b∧b≤1000000):qao (qbM a t b)=true∧(qbM a t b).pa=a:=by
 have hs:=qtR t;have h1:qaH ⟨a,smB t,b⟩=true:=by
  unfold qaH;rw[if_neg (by simp only;omega)];simp only[Bool.and_eq_true,decide_eq_true_eq];omega
 unfold qbM;rw[if_neg (by simp[h1];omega)];refine⟨?_,rfl⟩;simp only[qao,h1,qFP];simp;omega
theorem quE (a:Int) (t:List UInt8) (b:Int):qaH (qbM a t b)=true:=by
 unfold qbM;split
 ·rfl
 ·rename_i h;cases e:qaH ⟨a,smB t,b⟩with
  | true=>rfl
  | false=>exact absurd (.inr e) h
theorem qgm (txg:Int):∀ (l:List CS) (r:RS),(qbX txg l r).1.map CS.map=l.map CS.map∧(qbX txg l r).1.map csB=l.map csB∧(l.all qbj=true→(qbX txg l r).1.all qbj=true)
 | [],r=>⟨rfl,rfl,fun _=>rfl⟩
 | s::q,r=>by
  simp only[qbX];split
  ·obtain⟨h1,h2,h3⟩:=qgm txg q (qbY txg r (qbg s.map)).2;refine⟨by simp[h1],by simp[h2];rfl,fun h=>?_⟩;simp only[qFR,Bool.and_eq_true]at h ⊢;refine⟨?_,h3 h.2⟩;have h4:=h.1;simp only[qbj,Bool.and_eq_true]at h4 ⊢;exact⟨⟨h4.1.1,quE _ _ _⟩,h4.2⟩
  ·obtain⟨h1,h2,h3⟩:=qgm txg q r;refine⟨by simp[h1],by simp[h2],fun h=>?_⟩;simp only[qFR,Bool.and_eq_true]at h ⊢;exact⟨h.1,h3 h.2⟩
theorem qjR (txg:Int):∀ (l:List CS) (r:RS),(qbX txg l r).2.fr=r.fr.drop (qb2 l)
 | [],r=>by simp[qbX,qb2]
 | s::q,r=>by
  simp only[qbX,qb2,qFV];split
  ·rename_i h;rw[qjR txg q];simp only[qbY,if_pos h,qb2];rw[← qGF,qDP,qE1]
  ·rename_i h;rw[qjR txg q];simp only[if_neg h,qb2];rfl
theorem qlj (txg:Int) (hb:0≤txg∧txg≤1000000):∀ (l:List (List UInt8)) (r:RS),(∀ a∈r.fr,13≤a∧a<120)→l.length≤r.fr.length→(qcR txg l r).1.all qao=true∧(qcR txg l r).1.length=l.length
 | [],r,_,_=>⟨rfl,rfl⟩
 | t::q,r,hr,hl=>by
  simp only[qcR];obtain⟨a,fr,hf⟩:∃ a fr,r.fr=a::fr:=by
   cases h:r.fr with
   | nil=>rw[h]at hl;simp at hl
   | cons a fr=>exact⟨a,fr,rfl⟩
  have ih:=qlj txg hb q (qbY txg r t).2 (by simp only[qbY,hf,qGe];exact fun x hx=>hr x (by rw[hf];simp[hx])) (by simp only[qbY,hf,qGe];rw[hf]at hl;simpa using hl);refine⟨?_,by simp[ih.2]⟩;rw[qFR,ih.1,qDN];simp only[qbY,hf,qGu];exact(qop t (hr a (by rw[hf];simp)) hb).1
theorem qw7 {d:DK} {c:CO} (hd:qbr d=true) (h:CoT c) (hc:qal c=true) (hf:qcy c≤(qaS c d.s0.length).length) (ht:c.txg<1000000):CoT (qam d c).2.1∧qal (qam d c).2.1=true∧13≤(qam d c).2.2.pa:=by
 obtain⟨hm,k1,k2,k3,k4,k5,k6,k7⟩:=qbs hc;obtain⟨g1,g2,g3,g4,_⟩:=qbP hd;have hfm:∀ a∈qaS c d.s0.length,13≤a∧a<120:=fun a ha=>by
  have:=qiv ha;omega
 have hS:=qgm (c.txg+1) c.sets ⟨d,qaS c d.s0.length,true⟩;have hSf:=qjR (c.txg+1) c.sets ⟨d,qaS c d.s0.length,true⟩;have hSl:=qfN (c.txg+1) c.sets ⟨d,qaS c d.s0.length,true⟩;have hSm:=qd0 (c.txg+1) c.sets ⟨d,qaS c d.s0.length,true⟩;have hP8:=qlp c.ddt.length c.ddt (qDo _);unfold qam;generalize qbX (c.txg+1) c.sets ⟨d,qaS c d.s0.length,true⟩=X at *
 obtain⟨cur,rs⟩:=X;simp only at hS hSf hSl hSm ⊢;have hrf:∀ a∈rs.fr,13≤a∧a<120:=fun a ha=>hfm a (by rw[hSf]at ha;exact qFU ha);have hrl:rs.fr.length=(qaS c d.s0.length).length-qb2 c.sets:=by rw[hSf];simp
 obtain⟨Y,hY⟩:∃ Y,(if c.dirty=true then qcR (c.txg+1) (qbR c.ddt) rs else (c.parts,rs))=Y:=⟨_,rfl⟩
 have hpr:∀ p∈c.parts,qao p=true:=by
  simp only[qal,Bool.and_eq_true,qDS]at hc;exact hc.1.1.1.2
 unfold qcy at hf;have hYp:Y.1.all qao=true∧Y.1.length≤8:=by
  subst hY;split
  ·rename_i hdt;rw[if_pos hdt]at hf;have:=qlj (c.txg+1) (by omega) (qbR c.ddt) rs hrf (by omega);refine⟨this.1,?_⟩;rw[this.2];unfold qbR;omega
  ·exact⟨qDS.2 hpr,k3⟩
 have hYf:∃ a∈Y.2.fr.head?,13≤a∧a<120:=by
  have key:∀ (l:List (List UInt8)) (r:RS),(qcR (c.txg+1) l r).2.fr=r.fr.drop l.length:=fun l=>by
   induction l with
   | nil=>intro r;simp[qcR]
   | cons t q ih =>
    intro r;simp only[qcR,ih,qbY,qDX];rw[← qGF,qDP,qE1]
  have:∃ k,Y.2.fr=rs.fr.drop k∧k<rs.fr.length:=by
   subst hY;split
   ·rename_i hdt;rw[if_pos hdt]at hf;exact⟨_,key _ _,by omega⟩
   ·rename_i hdt;rw[if_neg hdt]at hf;exact⟨0,by simp,by omega⟩
  obtain⟨k,e,hk⟩:=this;refine⟨rs.fr[k],by rw[e];simp[List.head?_drop,hk],hrf _ (qEc hk)⟩
 rw[hY];obtain⟨ps,rs'⟩:=Y;simp only at hYp hYf ⊢;have hb:=qal c;refine⟨⟨by simp only;have:=h.sets;omega,h.ddt,by simp only;omega,h.safe,fun s hs=>?_,fun s hs=>?_⟩,?_,?_⟩
 ·obtain⟨t,ht,e1,e2,e3,_⟩:=hSm s hs;rw[e1];exact h.m8 t ht
 ·obtain⟨t,ht,e1,e2,e3,_⟩:=hSm s hs;rw[e2,e3];exact h.nm t ht
 ·have e1:qaA cur=qaA c.sets:=by
   unfold qaA;rw[List.flatMap_def,List.flatMap_def,hS.1]
  simp only[qal,Bool.and_eq_true]at hc ⊢;obtain⟨⟨⟨⟨⟨⟨⟨⟨⟨⟨⟨q1,q2⟩,q3⟩,q4⟩,q5⟩,q6⟩,q7⟩,q8⟩,q9⟩,q10⟩,q11⟩,q12⟩:=hc;refine⟨⟨⟨⟨⟨⟨⟨⟨⟨⟨⟨q1,q2⟩,q3⟩,by simpa using hYp.2⟩,q5⟩,q6⟩,q7⟩,hS.2.2 q8⟩,hYp.1⟩,by rw[hS.2.1];exact q10⟩,?_⟩,?_⟩
  ·simp only[qcI,qex,nnS,e1]at q11 ⊢;exact q11
  ·simp only[qco]at q12 ⊢;rw[e1];exact q12
 ·obtain⟨a,ha,h1⟩:=hYf;simp only[Option.mem_def]at ha;have e:rs'.fr.headD 0=a:=by
   cases hx:rs'.fr with
   | nil=>rw[hx]at ha;simp at ha
   | cons y r=>rw[hx]at ha;simpa using ha
  simp only[qbY,e];rw[(qop _ h1 (by omega)).2];exact h1.1
theorem qnH (txg:Int) (t:List UInt8):∀ (l:List (List UInt8)) (r:RS),qcR txg (l++[t]) r=((qcR txg l r).1++[(qbY txg (qcR txg l r).2 t).1],(qbY txg (qcR txg l r).2 t).2)
 | [],r=>rfl
 | x::q,r=>by
  have:=qnH txg t q (qbY txg r x).2;simp only[qFt,qcR,this]
theorem qll (txg:Int) (q:List (List UInt8)):∀ (l:List (List UInt8)) (r:RS),qcR txg (l++q) r=((qcR txg l r).1++(qcR txg q (qcR txg l r).2).1,(qcR txg q (qcR txg l r).2).2)
 | [],r=>rfl
 | x::l,r=>by
  have:=qll txg q l (qbY txg r x).2;simp only[qFt,qcR,this]
theorem qqx (txg:Int):∀ (l:List (List UInt8)) (r:RS),(qcR txg l r).2.fr=r.fr.drop l.length
 | [],r=>by simp[qcR]
 | t::q,r=>by
  simp only[qcR,qqx txg q,qbY,qDX];rw[← qGF,qDP,qE1]
theorem qj2 (txg:Int):∀ (l:List (List UInt8)) (r:RS),(qcR txg l r).1.length=l.length
 | [],r=>rfl
 | t::q,r=>by simp[qcR,qj2 txg q]
theorem qlk (txg:Int):∀ (l:List (List UInt8)) (r:RS),qbr r.d=true→(∀ a∈r.fr,0≤a∧a<r.d.s0.length)→(∀ t∈l,t.length≤420)→r.ok=true→(qcR txg l r).2.ok=false→598<(qcR txg l r).2.d.late.length
 | [],r,_,_,_,h1,h2=>by simp only[qcR]at h2;rw[h1]at h2;cases h2
 | t::q,r,hd,hf,ht,h1,h2=>by
  obtain⟨D,fr,o⟩:=r;simp only at hd hf h1;subst h1;simp only[qcR,qbY,qFP]at h2 ⊢;have ha:0≤fr.headD 0∧fr.headD 0<D.s0.length:=by
   cases fr with
   | nil=>have:=(qbP hd).1;simp;omega
   | cons a r=>exact hf a (by simp)
  have hbo:=qb1 hd (fr.headD 0) t;have hno:=qxb hd (a:=fr.headD 0) (t:=t);have hlt:=qm7 hd ha (ht t (by simp));generalize qat D (fr.headD 0) t=W at *
  obtain⟨E,b⟩:=W;simp only at hbo hno hlt h2 ⊢;cases b with
  | false =>
   have:=hno rfl;subst this;rw[(qe5 hd (hlt rfl) q fr.tail).1];exact hlt rfl
  | true =>
   refine qlk txg q ⟨E,fr.tail,true⟩ hbo.1 (fun a h=>?_) (fun x hx=>ht x (by simp[hx])) rfl h2;simp only;rw[hbo.2];exact hf a (List.mem_of_mem_tail h)
theorem qqy (txg:Int):∀ (l:List (List UInt8)) (r:RS),qbr r.d=true→qbr (qcR txg l r).2.d=true∧(qcR txg l r).2.d.s0.length=r.d.s0.length
 | [],r,h=>⟨h,rfl⟩
 | t::q,r,h=>by
  have hbo:=qb1 h (r.fr.headD 0) t;have:=qqy txg q (qbY txg r t).2 hbo.1;simp only[qcR];exact⟨this.1,this.2.trans hbo.2⟩
theorem qjm:∀ (k:Nat) (l:List DE),l.length≤k→qdd k l=(List.range (qaG 6 l.length)).map fun i=>qck ((l.drop (6 * i)).take 6)
 | 0,l,h=>by
  have:l=[]:=qFo (by omega);subst this;rfl
 | k+1,l,h=>by
  simp only[qdd];split
  ·rename_i e;subst e;rfl
  ·rename_i e;have hp:=qDB.2 e;rw[qjm k (l.drop 6) (by simp;omega)];have:qaG 6 l.length=qaG 6 (l.drop 6).length+1:=by simp only[qaG,qDw];omega
   rw[this,List.range_succ_eq_map,qD5,qEd]
   congr 1
   refine qEg fun i _=>?_;simp only[Function.comp_apply,qDP];rw[show 6+6 * i=6 * (i+1) by omega]
def chT (l:List DE) (i:Fin (qaG 6 l.length)):List UInt8:=qck ((l.drop (6 * i)).take 6)
theorem qoH (l:List DE):qbR l=(List.finRange (qaG 6 l.length)).map (chT l):=by
 unfold qbR;rw[qjm _ l (qDo _)];apply qF5;intro i;by_cases h:i<qaG 6 l.length
 ·simp[h,chT]
 ·simp[h]
theorem qlv (m:List PT) (h8:m.length=8):(qbg m).length≤420:=by
 have hj:=qfY [32] 29 (m.map qaL) (fun x hx=>by
  obtain⟨n,hn,rfl⟩:=qD6.1 hx;exact qbl n)
 rw[qeL];simp only[qEH,h8]at hj;split
 ·simp at hj;omega
 ·simp
def qDd (B:RS×CO×PT) (fr:List Int) (r:AV) (L':List (Nat×Ob)):Prop:=∃ (i3 i6:Nat) (c':CO) (j:Nat) (p:PT),i3∈[39,77,101,903]∧i6∈[1006,906]∧r=.tup [.agg p.row,.bool B.1.ok]∧L'=cmL B.1.d c' fr j i3 i6 ∧
 (B.1.ok=true→c'=B.2.1∧p=B.2.2)
theorem qjG {txg:Int} {E:DK} (hE:qbr E=true) (hn:598<E.late.length) (c:CO) (r:RS) (h1:r.d=E) (h2:r.ok=false) (T:List (List UInt8)) (t:List UInt8) :
  (qbY txg (if c.dirty=true then qcR txg T r else (c.parts,r)).2 t).2.d=E∧(qbY txg (if c.dirty=true then qcR txg T r else (c.parts,r)).2 t).2.ok=false:=by
 obtain⟨D,fr,o⟩:=r;simp only at h1 h2;subst h1 h2;have h3:=qe5 (txg:=txg) hE hn T fr;by_cases hd:c.dirty=true
 ·rw[if_pos hd];simp only[qbY,h3.1,h3.2,qGE,qgd hE hn,and_self]
 ·rw[if_neg hd];simp only[qbY,qGE,qgd hE hn,and_self]
def chS (c:CO) (cur:List CS) (F:List Int) (D:DK) (j:Nat) (ps:List PT):S :=
 ⟨mkT [(1,.ptr 1 0 0),(2,.ptr 2 0 0),(3,.ptr 3 0 0),(71,.fn 338 [.ptr 72 0 0,.ptr 73 0 0])],
  qaW ((1,⟨1,[[.ptr 1000 0 0]]⟩)::(2,⟨3,[[.int .i64 0,.int .i64 0,.int .i64 0]]⟩)::(3,⟨1,[[.bool false]]⟩)::(72,⟨1,[[.sl 1005 0 c.ddt.length]]⟩)::(73,⟨1,[[.int .i64 6]]⟩)::cmL D ⟨c.txg,cur,c.ddt,ps,false,c.safe,c.logn⟩ F j 903 906),
  Us.of [1000,1001,1002,1003,1004,1005,1006,1007,1008,1,2,3,72,73,1000,1001,1002,903,1004,1005,906,1007,1008]⟩
def chL (c:CO) (cur:List CS) (F:List Int) (D:DK) (j:Nat) (ps:List PT) (i3 i6:Nat):List (Nat×Ob):=(1,⟨1,[[.ptr 1000 0 0]]⟩)::(2,⟨3,[[.int .i64 0,.int .i64 0,.int .i64 0]]⟩)::(3,⟨1,[[.bool false]]⟩)::cmL D ⟨c.txg,cur,c.ddt,ps,false,c.safe,c.logn⟩ F j i3 i6
def rdQ (c:CO) (cur:List CS) (F:List Int) (W:DK×Bool) (j:Nat) (ps:List PT) (p:PT) (e:Exit) (L':List (Nat×Ob)):Prop :=
 (e=.normal∧W.2=true∧L'=chL c cur F W.1 (j+1) (ps++[p]) 77 91) ∨
 (e=.ret∧W.2=false∧L'=chL c cur F W.1 j ps 77 906)
theorem qsT (d:DK) (hd:qbr d=true) (c:CO) (h:CoT c) (hc:qal c=true) (hf:qcy c≤(qaS c d.s0.length).length) (ht:c.txg<1000000) :
  ACall prog 224 [.ptr 1000 0 0] (cmL d c (qaS c d.s0.length) 0 1003 1006) (qDd (qam d c) (qaS c d.s0.length)):=by
 obtain⟨hm,k1,k2,k3,k4,k5,k6,k7⟩:=qbs hc;obtain⟨g1,g2,g3,g4,_⟩:=qbP hd;have hfl:=qlL c d.s0.length;have hfm:∀ a∈qaS c d.s0.length,13≤a∧a<d.s0.length:=fun a ha=>qiv ha;obtain⟨X,hX⟩:∃ X,qbX (c.txg+1) c.sets ⟨d,qaS c d.s0.length,true⟩=X:=⟨_,rfl⟩;obtain⟨B,hB⟩:∃ B,qam d c=B:=⟨_,rfl⟩;rw[hB];unfold qam at hB;simp only[hX]at hB;unfold qcy at hf;generalize hF:qaS c d.s0.length=F at *
 refine acx func224 [(6,[zJ 0 [1] [],zJ 1 [] [1],zJ 2 [] [1],zJ 3 [] [1],zJ 4 [1004] [1],⟨5,[],[1],[10],[]⟩,⟨6,[903,906,1000,1001,1002,1004,1005,1006,1007,1008],[],[10],[]⟩,zI 7,zI 8,zI 9,zJ 10 [] [1,1004],zI 11,zI 12]),(12,[zJ 0 [1] [],zJ 1 [1] [1],zJ 2 [] [1],zJ 3 [] [1],zJ 4 [] [1],zJ 5 [] [1],zI 6,zI 7,zI 8,zI 9]),(15,[zJ 0 [1] [],zJ 1 [] [1],⟨2,[1005],[1],[7],[]⟩,⟨3,[903,906,1000,1001,1002,1004,1005,1006,1007,1008],[],[7],[]⟩,zI 4,zI 5,zI 6,zJ 7 [] [1],zI 8,zI 9]),(18,[zJ 0 [1] [],zJ 1 [1] [1],zJ 2 [] [1],zJ 3 [] [1],zJ 4 [] [1],zJ 5 [1000] [1],zJ 6 [9] [1,1000],zJ 7 [] [1,1000],zJ 8 [] [1],zI 9,zI 10,zI 11,zI 12]),(19,[zJ 0 [1] [],zJ 1 [1] [1],zJ 2 [] [1],zJ 3 [] [1],zJ 4 [1000] [1],zJ 5 [906,1004,1005,1006,1007] [1],zJ 6 [903,906,1000,1001,1002,1004,1005,1006,1007,1008] [],zI 7,zI 8,zI 9,zI 10])] ntmps224 rfl rfl rfl ?_ (hL:=by simp[cmL]);simp[cmL,cmR];refine qa9 (X:=Nat×List CS×DK×Nat) [1,2,3,16,17] [(1,1),(2,2),(3,3),(1000,1000),(1001,1001),(1002,1002),(1003,903),(1004,1004),(1005,1005),(1006,1006),(1007,1007),(1008,1008)] (fun x=>[(17,.int .i64 x.1)])
  (fun x=>(1,⟨1,[[.ptr 1000 0 0]]⟩)::(2,⟨3,[[.int .i64 0,.int .i64 0,.int .i64 0]]⟩)::(3,⟨1,[[.bool false]]⟩)::cmL x.2.2.1 ⟨c.txg,x.2.1,c.ddt,c.parts,c.dirty,c.safe,c.logn⟩ F x.2.2.2 903 1006) (fun x=>c.sets.length-x.1)
  (fun x=>x.1≤c.sets.length∧x.2.1.length=c.sets.length∧x.2.1.drop x.1=c.sets.drop x.1∧qbr x.2.2.1=true∧x.2.2.1.s0.length=d.s0.length∧x.2.2.2+qb2 (c.sets.drop x.1)+(1+if c.dirty=true then (qbR c.ddt).length else 0)≤F.length ∧
   (x.2.1.take x.1++(qbX (c.txg+1) (c.sets.drop x.1) ⟨x.2.2.1,F.drop x.2.2.2,true⟩).1,(qbX (c.txg+1) (c.sets.drop x.1) ⟨x.2.2.1,F.drop x.2.2.2,true⟩).2)=X) (0,c.sets,d,0) ⟨by simp,rfl,rfl,hd,rfl,by simp only[List.drop_zero];omega,by simpa using hX⟩ ?_ (he:=by simp[qah,cmL,cmR])
 rintro⟨i,cur,D,j⟩ ⟨hi,hcl,hcd,hok,hDl,hfr,hX2⟩;simp only at hi hcl hcd hok hDl hfr hX2;cases hr:c.sets.drop i with
 | nil =>
  have:=qaU hr;rw[hr]at hX2 hfr;have hie:i=c.sets.length:=by omega
  subst hie;rw[qDU (by omega)]at hX2;simp only[qbX,qFH]at hX2;subst hX2;simp only at hB;have hm8:∀ s∈cur,s.map.length=8∧s.name.length≤1048576∧s.frm.length≤1048576:=fun s hs=>by
   have hq:=qd0 (c.txg+1) c.sets ⟨d,F,true⟩ s (by rw[hX];exact hs);obtain⟨t,ht,e1,e2,e3,_⟩:=hq;rw[e1,e2,e3];exact⟨h.m8 t ht,h.nm t ht⟩
  simp only[qb2,qGr]at hfr;simp[qah,cmL,cmR];refine⟨fun hdt=>?_,fun hdt=>?_⟩
  ·refine qac [(1000,.whole 1005)] (by kernel_rfl) (qwu c.ddt) (by simp) (by simp) (by simp;exact qaa rfl (qbL _)) (by simp) (by simp) ?_;rintro r L' ⟨rfl,rfl⟩;refine⟨[(2,72),(3,73)],⟨by simp,by simp,by simp,by simp,by simp⟩,?_⟩;simp only[qad];simp;simp only[hdt,if_true]at hB hfr;rw[qoH]at hB hfr;simp only[qEH,List.length_finRange]at hfr;obtain⟨Y,hY⟩:∃ Y:List (Fin (qaG 6 c.ddt.length))→List PT×RS,(fun pre=>qcR (c.txg+1) (pre.map (chT c.ddt)) ⟨D,F.drop j,true⟩)=Y:=⟨_,rfl⟩;have hYe:∀ pre,Y pre=qcR (c.txg+1) (pre.map (chT c.ddt)) ⟨D,F.drop j,true⟩:=fun pre=>by rw[← hY]
   have hYd:∀ pre,qbr (Y pre).2.d=true∧(Y pre).2.d.s0.length=D.s0.length:=fun pre=>by
    rw[hYe];exact qqy _ _ _ hok
   have hYf:∀ pre,(Y pre).2.fr=F.drop (j+pre.length):=fun pre=>by
    rw[hYe,qqx,qDP];simp
   have hYs:∀ pre i,Y (pre++[i])=((Y pre).1++[(qbY (c.txg+1) (Y pre).2 (chT c.ddt i)).1],(qbY (c.txg+1) (Y pre).2 (chT c.ddt i)).2):=fun pre i=>by
    rw[hYe,hYe,qFF];exact qnH _ _ _ _
   refine qrX (fun pre=>chS c cur F (Y pre).2.d (j+pre.length) (Y pre).1) qtp (by kernel_rfl) (by omega) (len:=c.ddt.length) (by omega) ?_ (fun pre=>by simp[chS,opd]) (k1:=72) (k2:=73) (b:=1005) (fun pre=>by simp[chS,cmL]) (fun pre=>by simp[chS,cmL]) (fun pre=>⟨_,by simp[chS,cmL];rfl,rfl⟩) ?_ ?_
   ·have hY0:Y []=([],⟨D,F.drop j,true⟩):=by rw[hYe];rfl
    rw[hY0];exact(qeC 906 3 (by simp)).trans ((qdo 1000 6 (sz:=17) (row:=[.sl 1001 0 D.s0.length,.sl 1002 0 D.s1.length,.sl 903 0 D.late.length,.int .i64 c.txg,.sl 1004 0 cur.length,.sl 1005 0 c.ddt.length,.nils,.bool false,.sl 1007 0 c.safe.length,.int .i64 c.logn,.sl 1008 j (F.length-j),.nils,.nils,.nils,.nils,.nils,.nils]) (by simp[hcl]) (by simp) (qcE 906 0)).trans
     (qi5 [1,2,3,71] [(1,1),(2,2),(3,3),(72,72),(73,73),(1000,1000),(1001,1001),(1002,1002),(903,903),(1004,1004),(1005,1005),(906,906),(1007,1007),(1008,1008)] (by simp[qai]) (by simp[qax,qah,chS,cmL,cmR,kpt,hcl])))
   ·intro pre i hpl;obtain⟨a,ha⟩:∃ a,F[j+pre.length]?=some a:=⟨_,qDF (by omega)⟩;have hfd:F.drop (j+pre.length)=a::F.drop (j+pre.length+1):=by rw[qGB,ha];rfl
    have hok':=(hYd pre).1;have hDl':=(hYd pre).2;have hstep:=hYs pre i;have hfr':=hYf pre;have hpsl:(Y pre).1.length=pre.length:=by rw[hYe,qj2];simp
    have hil:6 * i.1<c.ddt.length:=by have:=i.2;unfold qaG at this;omega
    generalize Y pre=y at *
    obtain⟨ps,⟨D',fr',ok'⟩⟩:=y;simp only at hok' hDl' hstep hfr' hpsl;subst hfr';simp only[qbY,hfd,qGu,qGe]at hstep;have hbo:=qb1 hok' a (chT c.ddt i);have hno:=qxb hok' (a:=a) (t:=chT c.ddt i);have htl:(chT c.ddt i).length≤420:=by
     have:=qgR ((c.ddt.drop (6 * i)).take 6);unfold chT;simp at this ⊢;omega
    have hlt:=qm7 hok' (a:=a) (t:=chT c.ddt i) (by have:=hfm a (qFu ha);omega) htl;have cp:=qsP D' hok' ⟨c.txg,cur,c.ddt,ps,false,c.safe,c.logn⟩ F (j+pre.length) a ha (by omega) (chT c.ddt i) (by omega) (by simp only;omega);have ct:=qrc ((c.ddt.drop (6 * i)).take 6) (by simp;omega);rw[show qck ((c.ddt.drop (6 * i)).take 6)=chT c.ddt i from rfl]at ct;refine⟨[1,2,3,8],chL c cur F D' (j+pre.length) ps 903 906,rdQ c cur F (qat D' a (chT c.ddt i)) (j+pre.length) ps (qbM a (chT c.ddt i) (c.txg+1)),by simp,by simp[chL,cmL],by simp[chL,cmL],by simp[chL,cmL],?_,?_,?_,?_⟩
    ·simp[chL,cmL,qb8,chS]
    ·simp[chL,cmL,cmR,qb8,chS];exact⟨.inr ⟨_,_,rfl,rfl,by simp⟩,qaa rfl (by simp[clR]),qaa rfl (by simp[clR]),.inr ⟨_,_,rfl,rfl,by simp⟩,qaa rfl (qaI _),qaa rfl (qaI _),qaa rfl (qcO _),qaa rfl (qa2 _),qaa rfl (qbL _),qaa rfl (qbo _),qaa rfl (qaQ _),qaa rfl (qaQ _)⟩
    ·refine qbB _ ?_;simp[chL,cmL,cmR,chS];refine ct.view ?_ ?_
     ·simp[qb5,mtA,qaJ,DE.row];refine⟨by omega,fun x hx=>?_⟩;obtain⟨e,_,rfl⟩:=qD6.1 (qFU (qF7 hx));simp[DE.row]
     ·simp;refine qac [(1000,.whole 1000),(1001,.whole 1001),(1002,.whole 1002),(1003,.whole 903),(1004,.whole 1004),(1005,.whole 1005),(1006,.whole 906),(1007,.whole 1007),(1008,.whole 1008)] (by kernel_rfl) cp (by simp) (by simp) (by simp[cmL,cmR,hcl];exact⟨.inr ⟨_,_,rfl,rfl,by simp⟩,qaa rfl (qaI _),qaa rfl (qaI _),qaa rfl (qcO _),qaa rfl (qa2 _),qaa rfl (qbL _),qaa rfl (qbo _),qaa rfl (qaQ _),qaa rfl (qaQ _)⟩) (by simp[cmL]) (by simp) ?_;rintro r L' ⟨rfl,rfl⟩;refine⟨[(903,77)],⟨by simp[cmL],by simp,by simp,by simp[cmL],by simp⟩,?_⟩;simp only[qad];generalize qat D' a (chT c.ddt i)=W at *
      obtain⟨E,b⟩:=W;cases b with
      | false =>
       simp[cmL,cmR,PT.row];exact⟨chL c cur F E (j+pre.length) ps 77 906,by simp[chL,cmL,cmR,hcl],.inr ⟨rfl,rfl,rfl⟩⟩
      | true =>
       simp[cmL,cmR,PT.row,kpt];exact⟨by omega,chL c cur F E (j+pre.length+1) (ps++[qbM a (chT c.ddt i) (c.txg+1)]) 77 91,by simp[chL,cmL,cmR,hcl,kpt,PT.row,qDU],.inl ⟨rfl,rfl,rfl⟩⟩
    ·rintro e L' (⟨rfl,hb,rfl⟩ | ⟨rfl,hb,rfl⟩)
     ·refine⟨[(77,77),(91,91)],⟨by simp[chL,cmL],by simp,by simp[chS],by simp[chL,cmL,qb8],by simp[qb8,chL,cmL]⟩,?_⟩;rw[hstep];simp only[qnv,qES,qDX,qET];generalize qat D' a (chT c.ddt i)=W at *
      exact qi5 [1,2,3,71] [(1,1),(2,2),(3,3),(72,72),(73,73),(1000,1000),(1001,1001),(1002,1002),(77,903),(1004,1004),(1005,1005),(91,906),(1007,1007),(1008,1008)] (by simp[qai,qad,chL,cmL,chS,qb8]) (by simp[qax,qah,qad,chS,chL,cmL,cmR,kpt,hcl,qb8];rfl)
     ·refine⟨[(77,77)],⟨by simp[chL,cmL],by simp,by simp[chS],by simp[chL,cmL,qb8],by simp[qb8,chL,cmL]⟩,?_⟩;rintro⟨k,hk⟩;have hD:=hno hb;have hla:=hlt hb;rw[hb,hD]at hstep;simp only[Bool.and_false]at hstep;have hBl:(qcR (c.txg+1) ((List.finRange (qaG 6 c.ddt.length)).map (chT c.ddt)) ⟨D,F.drop j,true⟩).2.d=D'∧(qcR (c.txg+1) ((List.finRange (qaG 6 c.ddt.length)).map (chT c.ddt)) ⟨D,F.drop j,true⟩).2.ok=false:=by
       have e:List.finRange (qaG 6 c.ddt.length)=(pre++[i])++(List.finRange (qaG 6 c.ddt.length)).drop k:=by rw[hk,qDJ]
       rw[e,qFF,qll,← hYe,hstep];exact qe5 hok' hla _ _
      have hBk:=qjG (txg:=c.txg+1) hok' hla ⟨c.txg,[],[],[],false,[],0⟩ _ hBl.1 hBl.2 [] (qay ⟨c.txg,cur,c.ddt,(qcR (c.txg+1) ((List.finRange (qaG 6 c.ddt.length)).map (chT c.ddt)) ⟨D,F.drop j,true⟩).1,false,c.safe,c.logn⟩);simp only[qDA,if_false]at hBk;have hBd:B.1.d=D':=by rw[← hB];exact hBk.1
      have hBo:B.1.ok=false:=by rw[← hB];exact hBk.2
      rw[hD];simp[qad,chS,chL,cmL,cmR,qb8];refine⟨cmL D' ⟨c.txg,cur,c.ddt,ps,false,c.safe,c.logn⟩ F (j+pre.length) 77 906,by simp[cmL,cmR,kcs,hcl],77,906,_,_,⟨0,0,0⟩,by simp,by simp,by rw[hBo];rfl,by rw[hBd],fun e=>by rw[hBo]at e;cases e⟩
   ·have hfl:(List.finRange (qaG 6 c.ddt.length)).length=qaG 6 c.ddt.length:=by simp
    have hYn:=hYe (List.finRange (qaG 6 c.ddt.length));rw[← hYn]at hB;have hfr':=hYf (List.finRange (qaG 6 c.ddt.length));have hok':=(hYd (List.finRange (qaG 6 c.ddt.length))).1;have hDl':=(hYd (List.finRange (qaG 6 c.ddt.length))).2;have hpsl:(Y (List.finRange (qaG 6 c.ddt.length))).1.length=qaG 6 c.ddt.length:=by rw[hYe,qj2];simp
    rw[hfl]at hfr' ⊢;generalize Y (List.finRange (qaG 6 c.ddt.length))=y at *
    obtain⟨ps,⟨D',fr',ok'⟩⟩:=y;simp only at hok' hDl' hfr' hpsl hB hYn;clear hYs hYf hYd hYe hY;clear Y;have hptl:=qlk (c.txg+1) ((List.finRange (qaG 6 c.ddt.length)).map (chT c.ddt)) ⟨D,F.drop j,true⟩ hok (fun a ha=>by have:=hfm a (qFU ha);simp only;omega) (fun t ht=>by
     obtain⟨i,_,rfl⟩:=qD6.1 ht;have:=qgR ((c.ddt.drop (6 * i)).take 6);unfold chT;simp at this ⊢;omega) rfl
    rw[← hYn]at hptl;simp only at hptl;clear hYn hfl;have hN:qaG 6 c.ddt.length≤8:=by unfold qaG;omega
    generalize qaG 6 c.ddt.length=N at *
    obtain⟨a,ha⟩:∃ a,F[j+N]?=some a:=⟨_,qDF (by omega)⟩;have hfd:F.drop (j+N)=a::F.drop (j+N+1):=by rw[qGB,ha];rfl
    obtain⟨c2,hc2⟩:∃ c2:CO,c2=⟨c.txg,cur,c.ddt,ps,false,c.safe,c.logn⟩:=⟨_,rfl⟩;have hT:CoT c2:=by
     subst hc2;exact⟨by simp only;omega,h.ddt,by simp only;omega,h.safe,fun s hs=>(hm8 s hs).1,fun s hs=>(hm8 s hs).2⟩
    have cr:=qq2 c2 hT;have hrl:(qay c2).length≤1000000:=by
     have:=qdI c2;have k1:c2.sets.length≤1000:=by subst hc2;simp only;omega
     have k2:c2.parts.length≤1000:=by subst hc2;simp only;omega
     omega
    have cp:=qsP D' hok' c2 F (j+N) a ha (by omega) (qay c2) hrl (by subst hc2;simp only;omega);subst hfr';rw[← hc2]at hB;simp only[qbY,hfd,qGu]at hB;have hBo:ok'=false→qat D' a (qay c2)=(D',false):=fun e=>qgd hok' (hptl e) _ _;have cr':=cr;simp only[CO.row]at cr';simp[qfs,chS,cmL,cmR];refine cr'.view (by simp[qb5,mtA,kcs,qaJ,kpt,kin,qak,qbv,hc2,hdt,hcl];rw[← hcl];exact qak _ _) ?_;simp;have hc2t:c2.txg=c.txg:=by rw[hc2]
    refine qac [(1000,.whole 1000),(1001,.whole 1001),(1002,.whole 1002),(1003,.whole 903),(1004,.whole 1004),(1005,.whole 1005),(1006,.whole 906),(1007,.whole 1007),(1008,.whole 1008)] (by kernel_rfl) cp (by simp) (by simp) (by simp[cmL,cmR,hc2,hdt,hcl];exact⟨.inr ⟨_,_,rfl,rfl,by simp⟩,qaa rfl (qaI _),qaa rfl (qaI _),qaa rfl (qcO _),qaa rfl (qa2 _),qaa rfl (qbL _),qaa rfl (qbo _),qaa rfl (qaQ _),qaa rfl (qaQ _)⟩) (by simp[cmL]) (by simp) ?_;rintro r L' ⟨rfl,rfl⟩;refine⟨[(903,101)],⟨by simp[cmL],by simp,by simp,by simp[cmL],by simp⟩,?_⟩;rw[hc2t];generalize qat D' a (qay c2)=W at *
    obtain⟨E,b⟩:=W;have hob:(ok' && b)=b:=by
     cases ok' with
     | true=>rfl
     | false=>have:=hBo rfl;injection this with _ e;subst e;rfl
    simp only[hob]at hB;simp only[qad];simp[cmL,cmR,hcl,PT.row];subst hB;refine⟨cmL E c2 F (if b=true then j+N+1 else j+N) 101 906,by simp[cmL,cmR],101,906,c2,_,_,by simp,by simp,rfl,rfl,fun e=>⟨rfl,?_⟩⟩
    simp only at e;rw[if_pos e]
  ·simp only[hdt,qDA,if_false]at hB hfr;obtain⟨a,ha⟩:∃ a,F[j]?=some a:=⟨_,qDF (by omega)⟩;have hfd:F.drop j=a::F.drop (j+1):=by rw[qGB,ha];rfl
   obtain⟨c2,hc2⟩:∃ c2:CO,c2=⟨c.txg,cur,c.ddt,c.parts,false,c.safe,c.logn⟩:=⟨_,rfl⟩;have hT:CoT c2:=by
    subst hc2;exact⟨by simp only;omega,h.ddt,h.parts,h.safe,fun s hs=>(hm8 s hs).1,fun s hs=>(hm8 s hs).2⟩
   have cr:=qq2 c2 hT;have hrl:(qay c2).length≤1000000:=by
    have:=qdI c2;have k1:c2.sets.length≤1000:=by subst hc2;simp only;omega
    have k2:c2.parts.length≤1000:=by subst hc2;simp only;omega
    omega
   have cp:=qsP D hok c2 F j a ha (by omega) (qay c2) hrl (by subst hc2;simp only;omega);rw[← hc2]at hB;simp only[qbY,hfd,qGu,qFP]at hB;have cr':=cr;simp only[CO.row]at cr';refine cr'.view (by simp[qb5,mtA,kcs,qaJ,kpt,kin,qak,qbv,hc2,hdt,hcl];rw[← hcl];exact qak _ _) ?_;simp;have hc2t:c2.txg=c.txg:=by rw[hc2]
   refine qac [(1000,.whole 1000),(1001,.whole 1001),(1002,.whole 1002),(1003,.whole 903),(1004,.whole 1004),(1005,.whole 1005),(1006,.whole 1006),(1007,.whole 1007),(1008,.whole 1008)] (by kernel_rfl) cp (by simp) (by simp) (by simp[cmL,cmR,hc2,hdt,hcl];exact⟨.inr ⟨_,_,rfl,rfl,by simp⟩,qaa rfl (qaI _),qaa rfl (qaI _),qaa rfl (qcO _),qaa rfl (qa2 _),qaa rfl (qbL _),qaa rfl (qbo _),qaa rfl (qaQ _),qaa rfl (qaQ _)⟩) (by simp[cmL]) (by simp) ?_;rintro r L' ⟨rfl,rfl⟩;refine⟨[(903,101)],⟨by simp[cmL],by simp,by simp,by simp[cmL],by simp⟩,?_⟩;rw[hc2t];generalize qat D a (qay c2)=W at *
   obtain⟨E,b⟩:=W;simp only[qad];simp[cmL,cmR,hcl,PT.row];subst hB;refine⟨cmL E c2 F (if b=true then j+1 else j) 101 1006,by simp[cmL,cmR],101,1006,c2,_,_,by simp,by simp,rfl,rfl,fun e=>⟨rfl,?_⟩⟩
   simp only at e;rw[if_pos e]
 | cons s q =>
  obtain⟨x1,e0,e1,x3⟩:=qaV hr;have hli:(i:Int)<c.sets.length:=by omega
  have e2:=qaq ((i:Int)+1) (by omega) (by omega);have hsm:=qFu e1;have h8:=h.m8 s hsm;have hcs:cur[i]?=some s:=by
   have:=congrArg (fun l:List CS=>l[0]?) hcd;simp only[qD4,qEB]at this;rw[this];exact e1
  have hcs':=(qEb.1 hcs).2;have hil:i<cur.length:=by omega
  have hcl':=hcl;have hx30:=qok s h8;have hx30':=(qEb.1 hx30).2;rw[hr]at hX2 hfr;simp[qah,cmL,cmR,kcs,hcs,hcs',hcl,hil,x1,hli,qaX s h8,hx30,hx30'];refine⟨fun q1=>?_,fun q1=>?_⟩
  ·simp only[qb2,qFV,q1,qbX]at hfr hX2;refine nx (i+1,cur,D,j) [(1,1),(2,2),(3,3),(1000,1000),(1001,1001),(1002,1002),(903,903),(1004,1004),(1005,1005),(1006,1006),(1007,1007),(1008,1008)] ⟨by simp only;omega,hcl,by simp only;rw[← qDP,← qDP,hcd],hok,hDl,by simp only[x3,qb2];simpa using hfr,?_⟩ (by simp only;omega) (h4:=by simp[qah,e2,cmL,cmR,kcs,hcl]);simp only[x3];rw[qgj hcs,List.append_assoc];exact hX2
  ·obtain⟨a,ha⟩:∃ a,F[j]?=some a:=by
    have:j<F.length:=by simp only[qb2,qFV,q1,if_true]at hfr;omega
    exact⟨_,qDF this⟩
   have c2:=qrf s.map h8;have cp:=qsP D hok ⟨c.txg,cur,c.ddt,c.parts,c.dirty,c.safe,c.logn⟩ F j a ha (by omega) (qbg s.map) (by have:=qij s.map h8;omega) (by simp only;omega);rw[qhI s h8];refine c2.call ?_;simp;refine qac [(1000,.whole 1000),(1001,.whole 1001),(1002,.whole 1002),(1003,.whole 903),(1004,.whole 1004),(1005,.whole 1005),(1006,.whole 1006),(1007,.whole 1007),(1008,.whole 1008)] (by kernel_rfl) cp (by simp) (by simp) (by simp[cmL,cmR,hcl];exact⟨.inr ⟨_,_,rfl,rfl,by simp⟩,qaa rfl (qaI _),qaa rfl (qaI _),qaa rfl (qcO _),⟨rfl,qaa rfl (qa2 _)⟩,qaa rfl (qbL _),qaa rfl (qbo _),qaa rfl (qaQ _),qaa rfl (qaQ _)⟩) (by simp[cmL]) (by simp) ?_;rintro r L' ⟨rfl,rfl⟩;refine⟨[(903,39)],⟨by simp[cmL],by simp,by simp,by simp[cmL],by simp⟩,?_⟩;simp only[qad];simp[cmL,cmR,hcl];have hbo:=qb1 hok a (qbg s.map);have hno:=qxb hok (a:=a) (t:=qbg s.map);have hlt:=qm7 hok (a:=a) (t:=qbg s.map) (by have:=hfm a (qFu ha);omega) (by have:=qlv s.map h8;omega);have hfd:F.drop j=a::F.drop (j+1):=by rw[qGB,ha];rfl
   simp only[qbX,q1,if_true,qbY,hfd,qGu,qGe]at hX2;simp only[qb2,qFV,q1,if_true]at hfr;generalize qat D a (qbg s.map)=W at *
   obtain⟨E,b⟩:=W;simp only at hbo hno hlt hX2;cases b with
   | false =>
    have hst:=qfw (txg:=c.txg+1) hok (hlt rfl) q (F.drop (j+1));have hED:=hno rfl;subst hED;simp only[Bool.and_false]at hX2;have hBk:=qjG (txg:=c.txg+1) hok (hlt rfl) c X.2 (by rw[← hX2];exact hst.1) (by rw[← hX2];exact hst.2) (qbR c.ddt) (qay ⟨c.txg,X.1,c.ddt,(if c.dirty=true then qcR (c.txg+1) (qbR c.ddt) X.2 else (c.parts,X.2)).1,false,c.safe,c.logn⟩)
    have hBd:B.1.d=E:=by rw[← hB];exact hBk.1
    have hBo:B.1.ok=false:=by rw[← hB];exact hBk.2
    simp;refine⟨cmL E ⟨c.txg,cur,c.ddt,c.parts,c.dirty,c.safe,c.logn⟩ F j 39 1006,by simp[cmL,cmR,kcs,hcl],39,1006,_,j,⟨0,0,0⟩,by simp,by simp,by rw[hBo];rfl,by rw[hBd],fun e=>by rw[hBo]at e;cases e⟩
   | true =>
    simp[PT.row,hil,qaX s h8,kcs,hcs,hcs'];refine nx (i+1,cur.set i ⟨s.name,s.kind,s.frm,s.map,qbM a (qbg s.map) (c.txg+1),false⟩,E,j+1) [(1,1),(2,2),(3,3),(1000,1000),(1001,1001),(1002,1002),(39,903),(1004,1004),(1005,1005),(1006,1006),(1007,1007),(1008,1008)]
     ⟨by simp only;omega,by simpa using hcl,by simp only;rw[qGv (by omega),← qDP,← qDP,hcd],hbo.1,by simp only;omega,by simp only[x3,qb2];omega,?_⟩ (by simp only;omega) (h4:=?_)
    ·simp only[x3];rw[qk0 hil,List.append_assoc];exact hX2
    ·simp[qah,kcs,qaX s h8,e2,cmL,cmR,hcl,hcs];rw[qut s h8,qhv]
def qDe (B:RS×CO×PT) (fr:List Int) (r:AV) (L':List (Nat×Ob)):Prop:=∃ (c':CO) (j:Nat) (p:PT),r=.tup [.agg p.row,.bool B.1.ok]∧L'=cmL B.1.d c' fr j 903 906∧(B.1.ok=true→c'=B.2.1∧p=B.2.2)
theorem qsU (d:DK) (hd:qbr d=true) (c:CO) (h:CoT c) (hc:qal c=true) (hf:qcy c≤(qaS c d.s0.length).length) (ht:c.txg<1000000) :
  ACall prog 224 [.ptr 1000 0 0] (cmL d c (qaS c d.s0.length) 0 1003 1006) (qDe (qam d c) (qaS c d.s0.length)):=by
 refine(qsT d hd c h hc hf ht).can ?_;rintro r L' ⟨i3,i6,c',j,p,h3,h6,rfl,rfl,hq⟩;refine⟨[(1000,1000),(1001,1001),(1002,1002),(i3,903),(1004,1004),(1005,1005),(i6,906),(1007,1007),(1008,1008)],?_,?_,?_,?_,c',j,p,?_,?_,hq⟩
 all_goals
  simp only[qE3,qFc,or_false]at h3 h6;rcases h3 with rfl | rfl | rfl | rfl <;> rcases h6 with rfl | rfl
 all_goals simp[cmL,cmR,qah,PT.row]
def cmT (d:DK) (c:CO) (n j i3 i7:Nat) (tl:List AV):List AV:=.sl 1001 0 d.s0.length::.sl 1002 0 d.s1.length::.sl i3 0 d.late.length::.int .i64 c.txg::.sl 1004 0 c.sets.length::.sl 1005 0 c.ddt.length::.sl 906 0 c.parts.length::.bool c.dirty::.sl i7 0 c.safe.length::.int .i64 c.logn::.sl 1008 j (n-j)::tl
def cmO (d:DK) (c:CO) (fr:List Int) (j i3 i7:Nat) (tl:List AV) (fd:DK):List (Nat×Ob) :=
 [(1000,⟨17,[cmT d c fr.length j i3 i7 tl]⟩),(1001,qap d.s0),(1002,qap d.s1),(i3,qcz d.late),(1004,kcs c.sets),(1005,qaJ c.ddt),(906,kpt c.parts),(i7,kin c.safe),(1008,kin fr),(911,qap fd.s0),(912,qap fd.s1),(913,qcz fd.late)]
def qiQ (ld:DK):List (Nat×Ob):=[(921,qap ld.s0),(922,qap ld.s1),(923,qcz ld.late)]
def ldB (d:DK) (c:CO):DK:=(qhg (qbx (qam d c).1.d) (c.txg+1) (qam d c).2.2).1
def rnQ (x3 x7:List Nat) (bd:DK) (bok:Bool) (ld:DK) (Z:DK×CO×Int) (fr:List Int) (r:AV) (L':List (Nat×Ob)):Prop :=
 (bok=false∧r=.bool false∧∃ c' j,L'=cmO bd c' fr j 903 1007 (qcA bd 911 912 913++qcA bd 911 912 913) bd) ∨
 (bok=true∧r=.bool (decide (Z.2.2=0))∧∃ D c' j i3 i7,i3∈x3∧i7∈x7∧L'=cmO D c' fr j i3 i7 (qcA bd 911 912 913++qcA ld 921 922 923) bd++qiQ ld∧(Z.2.2=0→D=Z.1∧c'=Z.2.1))
theorem qBV (d:DK) (hd:qbr d=true) (c:CO) (h:CoT c) (hc:qal c=true) (hf:qcy c≤(qaS c d.s0.length).length) (ht:c.txg<1000000) :
  ACall prog 112 [.ptr 1000 0 0] (cmL d c (qaS c d.s0.length) 0 1003 1006) (rnQ [903] [907] (qam d c).1.d (qam d c).1.ok (ldB d c) (qdW d c) (qaS c d.s0.length)):=by
 obtain⟨hm,k1,k2,k3,k4,k5,k6,k7⟩:=qbs hc;have cb:=qsU d hd c h hc hf ht;have hbo:=qiK hd c;obtain⟨hbT,hbc,hbp⟩:=qw7 hd h hc hf ht;have hbt:(qam d c).2.1.txg=c.txg:=rfl;obtain⟨Z,hZ⟩:∃ Z,qdW d c=Z:=⟨_,rfl⟩;obtain⟨ld,hld⟩:∃ ld,ldB d c=ld:=⟨_,rfl⟩;rw[hZ,hld];unfold ldB at hld;unfold qdW at hZ;have key:ACall prog 112 [.ptr 1000 0 0] (cmL d c (qaS c d.s0.length) 0 1003 1006) (rnQ [47,61] [1007,72] (qam d c).1.d (qam d c).1.ok ld Z (qaS c d.s0.length)):=by
  generalize qam d c=B at *
  obtain⟨⟨BD,bfr,bok⟩,Bc,Bp⟩:=B;simp only at hbo hbT hbc hbp hbt hld hZ ⊢;obtain⟨hb1,hb2,hb3,hb4,_⟩:=qbP hbo.1;have hbd:=qeo hbo.1;generalize qaS c d.s0.length=F at *
  have cown:=qiq BD hbd;simp only[DK.row]at cown;refine acx func112 [(8,[zI 0,zI 1,zI 2,zI 3,zI 4,zI 5,zI 6,zJ 7 [3] [],zI 8,zJ 9 [903,1000,1001,1002] [],zI 10]),(13,[zI 0,zI 1,zI 2,zI 3,zI 4,zI 5,zI 6,zJ 7 [1000] [],zJ 8 [] [1000],zJ 9 [3] [1000],zJ 10 [906,1000,1004,1005,1007] [],zI 11,zI 12,zI 13,zI 14,zI 15,zI 16,zI 17,zI 18,zI 19,zI 20,zI 21,zI 22])] ntmps112 rfl rfl rfl ?_ (hL:=by simp[cmL]);simp[cmL,cmR];refine qac [(1000,.whole 1000),(1001,.whole 1001),(1002,.whole 1002),(1003,.whole 1003),(1004,.whole 1004),(1005,.whole 1005),(1006,.whole 1006),(1007,.whole 1007),(1008,.whole 1008)] (by kernel_rfl) cb (by simp) (by simp) (by simp[cmL,cmR];exact⟨.inr ⟨_,_,rfl,rfl,by simp⟩,qaa rfl (qaI _),qaa rfl (qaI _),qaa rfl (qcO _),qaa rfl (qa2 _),qaa rfl (qbL _),qaa rfl (qbo _),qaa rfl (qaQ _),qaa rfl (qaQ _)⟩) (by simp[cmL]) (by simp) ?_;rintro r L' ⟨c',j,p,rfl,rfl,hq⟩;simp only at hq;refine⟨[(903,903),(906,906)],⟨by simp[cmL],by simp,by simp,by simp[cmL],by simp⟩,?_⟩;simp only[qad];simp[cmL,cmR,PT.row];refine qaK [] (by kernel_rfl) cown (by simp[qb5,mtA,qap,qcz,qak,qaf,LT.row]) (by simp) trivial (by simp) (by simp) ?_;rintro r L' ⟨rfl,rfl⟩;refine⟨by simp,by simp[qap,qaf,qcz,LT.row],[(6,911),(10,912),(14,913)],⟨by simp,by simp,by simp,by simp,by simp⟩,?_⟩;simp only[qad];simp;cases bok with
  | false =>
   simp;exact⟨cmO BD c' F j 903 1007 (qcA BD 911 912 913++qcA BD 911 912 913) BD,by simp[cmO,cmT,qcA],.inl ⟨rfl,rfl,c',j,rfl⟩⟩
  | true =>
   obtain⟨rfl,rfl⟩:=hq rfl;have hfo:=qf2 hbo.1;have cf:=qrb BD hbo.1;have cu:=qt8 (c'.txg+1) p;have hul:=qgY (c'.txg+1) p;have cw:=qrg (qbx BD) hfo.1 (1+(c'.txg+1) % 4) (qa0 (c'.txg+1) p) (by omega);have hro:=qb1 hfo.1 (1+(c'.txg+1) % 4) (qa0 (c'.txg+1) p);have e1:=qaq (c'.txg+1) (by omega) (by omega);have e2:=qaq ((c'.txg+1) % 4) (by omega) (by omega);have e3:=qaq (1+(c'.txg+1) % 4) (by omega) (by omega);have q2:(c'.txg+1).tmod 4=(c'.txg+1) % 4:=qF9 (by omega);rw[← hbt]at hZ hld;simp only[qhg]at hZ hld;obtain⟨W,hW⟩:∃ W,qat (qbx BD) (1+(c'.txg+1) % 4) (qa0 (c'.txg+1) p)=W:=⟨_,rfl⟩;simp only[hW]at hZ hld cw hro;clear hW;obtain⟨G,gb⟩:=W;simp only at hld;subst hld;obtain⟨FD,hFD⟩:∃ FD,qbx BD=FD:=⟨_,rfl⟩;simp only[hFD]at hfo cf cw hro;simp;refine qac [(1000,.sub 1000 0 0 3),(1001,.whole 1001),(1002,.whole 1002),(1003,.whole 903)] (by kernel_rfl) cf (by simp) (by simp) (by simp[qb4,qcA];exact⟨⟨_,_,rfl,rfl,by simp,by simp,rfl,rfl,by simp⟩,qaa rfl (qaI _),qaa rfl (qaI _),qaa rfl (qcO _)⟩) (by simp[qb4]) (by simp) ?_;rintro r L' ⟨rfl,rfl⟩;refine⟨[(903,31)],⟨by simp[qb4],by simp,by simp,by simp[qb4],by simp[qb4,qcA]⟩,?_⟩;simp only[qad];simp[qb4,qcA,e1,q2,e2,e3,PT.row];have hGT:=qeo hro.1;have cog:=qiq G hGT;simp only[DK.row]at cog;simp only[PT.row]at cu;refine cu.call ?_;simp;refine qac [(1000,.sub 1000 0 0 3),(1001,.whole 1001),(1002,.whole 1002),(1003,.whole 31)] (by kernel_rfl) cw (by simp) (by simp) (by simp[qb4,qcA];exact⟨⟨_,_,rfl,rfl,by simp,by simp,rfl,rfl,by simp⟩,qaa rfl (qaI _),qaa rfl (qaI _),qaa rfl (qcO _)⟩) (by simp[qb4]) (by simp) ?_;rintro r L' ⟨rfl,rfl⟩;refine⟨[(903,47)],⟨by simp[qb4],by simp,by simp,by simp[qb4],by simp[qb4,qcA]⟩,?_⟩;simp only[qad];simp[qb4,qcA];refine qaK [] (by kernel_rfl) cog (by simp[qb5,mtA,qap,qcz,qak,qaf,LT.row]) (by simp) trivial (by simp) (by simp) ?_;rintro r L' ⟨rfl,rfl⟩;refine⟨by simp,by simp[qap,qaf,qcz,LT.row],[(6,921),(10,922),(14,923)],⟨by simp,by simp,by simp,by simp,by simp⟩,?_⟩;simp only[qad];simp;rw[if_neg (by simp)]at hZ;cases gb with
   | false =>
    simp;rw[if_pos rfl]at hZ;subst hZ;exact⟨cmO G c' F j 47 1007 (qcA BD 911 912 913++qcA G 921 922 923) BD++qiQ G,by simp[cmO,cmT,qcA,qiQ],.inr ⟨rfl,rfl,G,c',j,47,1007,by simp,by simp,rfl,fun e=>by cases e⟩⟩
   | true =>
    rw[if_neg (by simp)]at hZ;have hGf:=qf2 hro.1;have cg:=qrb G hro.1;have crch:=qq4 c' hbT hbc p.pa;have hbT':=hbT;subst hZ;simp;refine qac [(1000,.sub 1000 0 0 3),(1001,.whole 1001),(1002,.whole 1002),(1003,.whole 47)] (by kernel_rfl) cg (by simp) (by simp) (by simp[qb4,qcA];exact⟨⟨_,_,rfl,rfl,by simp,by simp,rfl,rfl,by simp⟩,qaa rfl (qaI _),qaa rfl (qaI _),qaa rfl (qcO _)⟩) (by simp[qb4]) (by simp) ?_;rintro r L' ⟨rfl,rfl⟩;refine⟨[(903,61)],⟨by simp[qb4],by simp,by simp,by simp[qb4],by simp[qb4,qcA]⟩,?_⟩;simp only[qad];simp only[CO.row]at crch;simp[qb4,qcA];refine qaK [] (by kernel_rfl) crch (by simp[qb5,mtA,kcs,qaJ,kpt,kin,qak,qbv]) (by simp) trivial (by simp) (by simp) ?_;rintro r L' ⟨rfl,rfl⟩;refine⟨by simp,by simp[kin,qae],[(900,72)],⟨by simp,by simp,by simp,by simp,by simp⟩,?_⟩;simp only[qad];simp;exact⟨cmO (qbx G) ⟨c'.txg+1,c'.sets,c'.ddt,c'.parts,c'.dirty,qcb c' p.pa,0⟩ F j 61 72 (qcA BD 911 912 913++qcA G 921 922 923) BD++qiQ G,by simp[cmO,cmT,qcA,qiQ],.inr ⟨rfl,rfl,_,_,j,61,72,by simp,by simp,rfl,fun e=>⟨rfl,rfl⟩⟩⟩
 refine key.can ?_;rintro r L' (⟨h1,rfl,c',j,rfl⟩ | ⟨h1,rfl,D,c',j,i3,i7,h3,h7,rfl,hq⟩)
 ·refine⟨[(1000,1000),(1001,1001),(1002,1002),(903,903),(1004,1004),(1005,1005),(906,906),(1007,1007),(1008,1008),(911,911),(912,912),(913,913)],by simp[cmO],by simp,by simp[cmO],by simp,.inl ⟨h1,by simp,c',j,?_⟩⟩;simp[cmO,cmT,qcA,qah]
 ·refine⟨[(1000,1000),(1001,1001),(1002,1002),(i3,903),(1004,1004),(1005,1005),(906,906),(i7,907),(1008,1008),(911,911),(912,912),(913,913),(921,921),(922,922),(923,923)],?_,?_,?_,?_,.inr ⟨h1,by simp,D,c',j,903,907,by simp,by simp,?_,hq⟩⟩
  all_goals
   simp only[qE3,qFc,or_false]at h3 h7;rcases h3 with rfl | rfl <;> rcases h7 with rfl | rfl
  all_goals simp[cmO,cmT,qiQ,qcA,qah,cmL,cmR]
end Go.Av.F
end
