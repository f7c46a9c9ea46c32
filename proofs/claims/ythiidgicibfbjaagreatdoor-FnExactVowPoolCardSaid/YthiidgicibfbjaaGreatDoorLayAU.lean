/- Lemmas for the proof, no statement of the seat; no conditions. -/
import Derived.Test.YthiidgicibfbjaaGreatDoorLayAT
import Derived.Shelf.Strings.OnBuilder
import Derived.Shelf.LaysM
import Derived.Shelf.LaysC
import Derived.Shelf.Sort.Plain
import Derived.Test.YthiidgicibfbjaaGreatDoorProg
import Derived.Lib.SlicesCompact
set_option linter.unusedSimpArgs false
set_option linter.unusedVariables false
set_option linter.unnecessarySimpa false
set_option maxRecDepth 100000
set_option maxHeartbeats 400000
section
namespace Go.Proofs
open Go.Shelf Go.RowKit Go.Sort Go.Lib
def Tryz.lays156_ren:Go.Shelf.Ren:=⟨fun | 156=>314 | 165=>357 | 166=>358 | 169=>359 | 240=>386 | 241=>387 | 276=>402 | 277=>403 | n=>n,fun | 31=>22 | 9=>9 | 3=>3 | 4=>4 | 0=>0 | 20=>20 | 72=>341 | 76=>263 | 70=>339 | 37=>237 | 75=>262 | 127=>364 | 164=>383 | 5=>5 | 80=>343 | n=>n,fun | n=>n⟩
theorem Tryz.lays156:Go.Proofs.Lays.n156 Tryz.prog Tryz.lays156_ren:={
 mixed:=by kernel_rfl
 f156:=Tryz.func314.trans (congrArg some (by kernel_rfl))
 f165:=Tryz.func357.trans (congrArg some (by kernel_rfl))
 f166:=Tryz.func358.trans (congrArg some (by kernel_rfl))
 f169:=Tryz.func359.trans (congrArg some (by kernel_rfl))
 f240:=Tryz.func386.trans (congrArg some (by kernel_rfl))
 f241:=Tryz.func387.trans (congrArg some (by kernel_rfl))
 f276:=Tryz.func402.trans (congrArg some (by kernel_rfl))
 f277:=Tryz.func403.trans (congrArg some (by kernel_rfl))
 t0:=Tryz.underlying0
 a0:=Tryz.isAgg0
 z0:=Tryz.sizeOf0
 v0:=Tryz.zeroValue0
 t3:=Tryz.underlying3
 a3:=Tryz.isAgg3
 z3:=Tryz.sizeOf3
 v3:=Tryz.zeroValue3
 t4:=Tryz.underlying4
 a4:=Tryz.isAgg4
 z4:=Tryz.sizeOf4
 v4:=Tryz.zeroValue4
 t9:=Tryz.underlying9
 a9:=Tryz.isAgg9
 z9:=Tryz.sizeOf9
 v9:=Tryz.zeroValue9
 t20:=Tryz.underlying20
 a20:=Tryz.isAgg20
 z20:=Tryz.sizeOf20
 v20:=Tryz.zeroValue20
 t31:=Tryz.underlying22
 a31:=Tryz.isAgg22
 z31:=Tryz.sizeOf22
 v31:=Tryz.zeroValue22
 t37:=Tryz.underlying237
 a37:=Tryz.isAgg237
 z37:=Tryz.sizeOf237
 v37:=Tryz.zeroValue237
 t70:=Tryz.underlying339
 a70:=Tryz.isAgg339
 z70:=Tryz.sizeOf339
 v70:=Tryz.zeroValue339
 t72:=Tryz.underlying341
 a72:=Tryz.isAgg341
 z72:=Tryz.sizeOf341
 v72:=Tryz.zeroValue341
 t75:=Tryz.underlying262
 a75:=Tryz.isAgg262
 z75:=Tryz.sizeOf262
 v75:=Tryz.zeroValue262
 t76:=Tryz.underlying263
 a76:=Tryz.isAgg263
 z76:=Tryz.sizeOf263
 v76:=Tryz.zeroValue263
 t127:=Tryz.underlying364
 a127:=Tryz.isAgg364
 z127:=Tryz.sizeOf364
 v127:=Tryz.zeroValue364
 t164:=Tryz.underlying383
 a164:=Tryz.isAgg383
 z164:=Tryz.sizeOf383
 v164:=Tryz.zeroValue383 }
theorem Tryz.Builder_Extra_156:Builder.Extra Tryz.prog Tryz.lays156_ren:={
 sizeBuilder:=by kernel_rfl
 liesBuilder:=by kernel_rfl
 t5:=Tryz.underlying5
 a5:=Tryz.isAgg5
 z5:=Tryz.sizeOf5
 v5:=Tryz.zeroValue5
 infoByte:=by kernel_rfl
 cellsByte:=by kernel_rfl
 sizeByte:=by kernel_rfl
 neB5:=by decide }
theorem Tryz.strings_Join_none (a:Option Addr) (c:Nat) (sep:ByteArray) (w:World) :
  Calls Tryz.prog 314 #[.slice a 0 c,.string sep] w fun e w'=>e=.returned (.string ⟨#[]⟩)∧w'=w:=Any.strings_Join_none Tryz.lays156 Tryz.Builder_Extra_156 a c sep w
theorem Tryz.strings_Join (bk o c:Nat) (xs:List ByteArray) (sep:ByteArray) (w:World) (hcells:∀ (j:Nat) x,xs[j]?=some x→w.cell? ⟨bk,o+j,none⟩=some (.string x)) (hbk:bk<w.heap.size) (hN:xs.length≤140737488355328) (hcap:xs.length≤c) (hlen:(Lib.join (xs.map (·.data.toList)) sep.data.toList).length≤140737488355328) :
  Calls Tryz.prog 314 #[.slice (some ⟨bk,o,none⟩) xs.length c,.string sep] w fun e w'=>e=.returned (.string ⟨(Lib.join (xs.map (·.data.toList)) sep.data.toList).toArray⟩)∧Below w.heap.size w w':=Any.strings_Join Tryz.lays156 Tryz.Builder_Extra_156 bk o c xs sep w hcells hbk hN hcap hlen
def Tryz.lays189_ren:Go.Shelf.Ren:=⟨fun | 189=>194 | 125=>270 | 257=>269 | 128=>323 | 129=>324 | 294=>315 | 295=>316 | 296=>317 | 297=>318 | 298=>319 | 299=>320 | 216=>303 | 300=>321 | 301=>322 | 328=>360 | 329=>361 | 330=>362 | 331=>363 | 332=>364 | 215=>339 | 343=>388 | n=>n,fun | 28=>35 | 3=>3 | 46=>277 | 0=>0 | 51=>314 | 53=>316 | 4=>4 | 183=>308 | 182=>307 | 131=>137 | 5=>5 | 9=>9 | 218=>344 | 222=>348 | 228=>365 | 229=>366 | n=>n,fun | n=>n⟩
theorem Tryz.lays189:Go.Proofs.Lays.n189 Tryz.prog Tryz.lays189_ren:={
 mixed:=by kernel_rfl
 f125:=Tryz.func270.trans (congrArg some (by kernel_rfl))
 f128:=Tryz.func323.trans (congrArg some (by kernel_rfl))
 f129:=Tryz.func324.trans (congrArg some (by kernel_rfl))
 f189:=Tryz.func194.trans (congrArg some (by kernel_rfl))
 f215:=Tryz.func339.trans (congrArg some (by kernel_rfl))
 f216:=Tryz.func303.trans (congrArg some (by kernel_rfl))
 f257:=Tryz.func269.trans (congrArg some (by kernel_rfl))
 f294:=Tryz.func315.trans (congrArg some (by kernel_rfl))
 f295:=Tryz.func316.trans (congrArg some (by kernel_rfl))
 f296:=Tryz.func317.trans (congrArg some (by kernel_rfl))
 f297:=Tryz.func318.trans (congrArg some (by kernel_rfl))
 f298:=Tryz.func319.trans (congrArg some (by kernel_rfl))
 f299:=Tryz.func320.trans (congrArg some (by kernel_rfl))
 f300:=Tryz.func321.trans (congrArg some (by kernel_rfl))
 f301:=Tryz.func322.trans (congrArg some (by kernel_rfl))
 f328:=Tryz.func360.trans (congrArg some (by kernel_rfl))
 f329:=Tryz.func361.trans (congrArg some (by kernel_rfl))
 f330:=Tryz.func362.trans (congrArg some (by kernel_rfl))
 f331:=Tryz.func363.trans (congrArg some (by kernel_rfl))
 f332:=Tryz.func364.trans (congrArg some (by kernel_rfl))
 f343:=Tryz.func388.trans (congrArg some (by kernel_rfl))
 t0:=Tryz.underlying0
 a0:=Tryz.isAgg0
 z0:=Tryz.sizeOf0
 v0:=Tryz.zeroValue0
 t3:=Tryz.underlying3
 a3:=Tryz.isAgg3
 z3:=Tryz.sizeOf3
 v3:=Tryz.zeroValue3
 t4:=Tryz.underlying4
 a4:=Tryz.isAgg4
 z4:=Tryz.sizeOf4
 v4:=Tryz.zeroValue4
 t5:=Tryz.underlying5
 a5:=Tryz.isAgg5
 z5:=Tryz.sizeOf5
 v5:=Tryz.zeroValue5
 t9:=Tryz.underlying9
 a9:=Tryz.isAgg9
 z9:=Tryz.sizeOf9
 v9:=Tryz.zeroValue9
 t28:=Tryz.underlying35
 a28:=Tryz.isAgg35
 z28:=Tryz.sizeOf35
 v28:=Tryz.zeroValue35
 t46:=Tryz.underlying277
 a46:=Tryz.isAgg277
 z46:=Tryz.sizeOf277
 v46:=Tryz.zeroValue277
 t51:=Tryz.underlying314
 a51:=Tryz.isAgg314
 z51:=Tryz.sizeOf314
 v51:=Tryz.zeroValue314
 t53:=Tryz.underlying316
 a53:=Tryz.isAgg316
 z53:=Tryz.sizeOf316
 v53:=Tryz.zeroValue316
 t131:=Tryz.underlying137
 a131:=Tryz.isAgg137
 z131:=Tryz.sizeOf137
 v131:=Tryz.zeroValue137
 t182:=Tryz.underlying307
 a182:=Tryz.isAgg307
 z182:=Tryz.sizeOf307
 v182:=Tryz.zeroValue307
 t183:=Tryz.underlying308
 a183:=Tryz.isAgg308
 z183:=Tryz.sizeOf308
 v183:=Tryz.zeroValue308
 t218:=Tryz.underlying344
 a218:=Tryz.isAgg344
 z218:=Tryz.sizeOf344
 v218:=Tryz.zeroValue344
 t222:=Tryz.underlying348
 a222:=Tryz.isAgg348
 z222:=Tryz.sizeOf348
 v222:=Tryz.zeroValue348
 t228:=Tryz.underlying365
 a228:=Tryz.isAgg365
 z228:=Tryz.sizeOf365
 v228:=Tryz.zeroValue365
 t229:=Tryz.underlying366
 a229:=Tryz.isAgg366
 z229:=Tryz.sizeOf366
 v229:=Tryz.zeroValue366 }
theorem Tryz.slices_Sort_int (blk off cap:Nat) (zs:List Int) (w:World) (hH:Holds (Value.int .i64) w blk off zs.toArray) (hblk:blk<w.heap.size) (hsz:zs.length<4611686018427387904) :
  Calls Tryz.prog 194 #[.slice (some ⟨blk,off,none⟩) zs.length cap] w fun e w' =>
   e=.returned (.tuple #[])∧∃ n os,w'=grow (putRow (Value.int .i64) (Sort.ahead w n) blk off (zs.mergeSort fun x y=>decide (x≤y)).toArray) os:=Any.slices_Sort_int Tryz.lays189 blk off cap zs w hH hblk hsz
end Go.Proofs
end
section
namespace Go.Av.F
open Go Go.Av Go.Proofs Go.Proofs.Tryz Go.RowKit
theorem qjU (l:List (List UInt8)) (sep:List UInt8) (hl:l.length≤1048576) (hj:(Lib.join l sep).length≤1048576):CV prog 314 [.lst 1 (l.map qai),.str sep] (.str (Lib.join l sep)):=by
 refine qcl (fun w Z vs hv hg hz=>?_) (hca:=by simp[qai]);obtain⟨x,y,rfl,h1,h2⟩:=qsF hv;rw[qdV h2];have hmap:(l.map fun s:List UInt8=>(⟨s.toArray⟩:ByteArray)).map (·.data.toList)=l:=by
  rw[qGA];exact List.map_id'' (fun s=>rfl) l
 generalize hlen:l.map qai=els at h1;cases h1 with
 | lst _ _ _ a cap vf hlc hc hs hr =>
  have hel:els.length=l.length:=by rw[← hlen];simp
  by_cases h0:l=[]
  ·subst h0;simp only[qHF]at hlen;subst hlen;refine(Tryz.strings_Join_none a cap ⟨sep.toArray⟩ w).mono ?_;rintro e w' ⟨rfl,rfl⟩;exact⟨_,rfl,by rw[Lib.join_nil];exact .str _ _,.refl _ _⟩
  ·have hne:els≠[]:=by rw[← hlen];simpa using h0
   obtain⟨A,rfl,hZ,hsp,hcell⟩:=hc hne;obtain⟨b1,b2,b3⟩:=A;simp only at hsp;subst hsp;have hpos:0<l.length:=qFZ.2 h0;have hvf:∀ i,i<l.length→∀ s,l[i]?=some s→vf i 0=.string ⟨s.toArray⟩:=fun i hi s hs2=>by
    have h3:=hr i 0 (by omega) (by omega);rw[← hlen]at h3;have e:((l.map qai).getD i []).getD 0 .top=.str s:=by simp[List.getD,hs2,qai]
    rw[e]at h3;exact qdV h3
   have hbk:b1<w.heap.size:=by
    have:=hcell 0 0 (by omega) (by omega);exact World.block_lt_of_cell? w _ this
   have hj2:(Lib.join ((l.map fun s:List UInt8=>(⟨s.toArray⟩:ByteArray)).map (·.data.toList)) sep).length≤140737488355328:=by rw[hmap];omega
   have:=Tryz.strings_Join b1 b2 cap (l.map fun s:List UInt8=>(⟨s.toArray⟩:ByteArray)) ⟨sep.toArray⟩ w (fun j x hx=>by
    simp only[qGw,qHE]at hx;obtain⟨s,hs2,rfl⟩:=hx;have hjl:=(qGy.1 hs2).1;have:=hcell j 0 (by omega) (by omega);rw[hvf j hjl s hs2]at this;simpa [Addr.at]using this) hbk (by simp;omega) (by simp;omega) hj2
   rw[hel];simp only[qG4]at this;refine this.mono ?_;rintro e w' ⟨rfl,hB⟩;refine⟨_,rfl,?_,hB⟩;rw[hmap];exact .str _ _
@[simp] theorem qvf {α:Type} (ρ:Nat→Option Plc) (f:α→List UInt8):qb6 ρ ∘ qai ∘ f=qai ∘ f:=by funext x;simp[qai]
theorem qhA (sep:List UInt8) (k:Nat):∀ (r:List (List UInt8)),(∀ x∈r,x.length≤k)→(Lib.joinTail sep r).length≤r.length * (k+sep.length)
 | [],_=>by simp[Lib.joinTail]
 | x::r,h=>by
  have ih:=qhA sep k r fun y hy=>h y (qHl _ hy);have hx:=h x (by simp);simp only[Lib.joinTail,qGs,List.flatten_cons,qHe,qGk]at ih ⊢;rw[qFW];omega
theorem qgi (sep:List UInt8) (k:Nat) (l:List (List UInt8)) (h:∀ x∈l,x.length≤k):(Lib.join l sep).length≤l.length * (k+sep.length):=by
 cases l with
 | nil=>simp[Lib.join_nil]
 | cons x r =>
  rw[Lib.join_cons,qHe,qGk,qFW];have:=qhA sep k r fun y hy=>h y (qHl _ hy);have:=h x (by simp);omega
theorem qCJ (n:Int) (h0:0≤n) (h:n<1000000000):CV prog 261 [.int .i64 n] (.str (dec n)):=by
 have:=qxI n (by omega) (by omega);have e:n=((n.toNat:Nat):Int):=by omega
 rw[e,qkL,← e]at this;exact this
theorem qkQ (l:List Int) (hl:l.length≤10) (h:∀ x∈l,0≤x∧x<1000000000):CV prog 263 [.lst 1 (l.map qad)] (.str (Lib.join (l.map dec) [46])):=by
 have hj:=qgi [46] 9 (l.map dec) (fun x hx=>by
  obtain⟨n,hn,rfl⟩:=qGt.1 hx;exact qaz n (h n hn).2)
 simp only[qG4]at hj;have cj:=qjU (l.map dec) [46] (by simp;omega) (by simp at hj;omega);refine cvx func263 [] ntmps263 rfl rfl rfl ?_ (hca:=by simp[qad]);simp;refine qe8 (qkf 3 1 (by simp) (by simp)) ?_;refine qaM (X:=Nat) [2,3,6,7,8] [(3,900)] (fun i=>[(3,.sl 900 0 i),(8,.int .i64 i)]) (fun i=>[(900,qas ((l.take i).map dec))]) (fun i=>l.length-i) (fun i=>i≤l.length) 0 (by simp) ?_ (he:=by simp[qah,qas]);intro i hi;cases hr:l.drop i with
 | nil =>
  have:=qaY hr;have hie:i=l.length:=by omega
  subst hie;rw[qHW];simp;refine cj.view (by simp[qb5,mtA,qas,qai,qGh]) ?_;simp
 | cons x r =>
  obtain⟨g1,e0,e1,g3⟩:=qaZ hr;have hx:=h x (qHT e1);have cd:=qCJ x hx.1 hx.2;have e2:=qap ((i:Int)+1) (by omega) (by omega);simp[g1,e0,e1,qad];refine cd.call ?_;simp[qas];have hmin:min i l.length=i:=by omega
  exact⟨by omega,nx (i+1) [(16,900)] (by omega) (h4:=by
   have ht:=tk1 (qai ∘ dec) e1;simp[qas,ht,qGh,hmin,e2];simp[qai])⟩
theorem qgj (p:PT):CV prog 262 [.agg p.row] (.str (qaT p)):=by
 obtain⟨R,hR⟩:∃ R,qaT p=R:=⟨_,rfl⟩;rw[hR];have c1:=qiW p;simp only[PT.row]at c1;unfold qaT at hR;refine cvx func262 [] ntmps262 rfl rfl rfl ?_ (hca:=by simp[PT.row]);simp[PT.row];refine c1.call ?_;cases hok:qaL p with
 | false =>
  rw[if_pos hok]at hR;simp[← hR]
 | true =>
  rw[if_neg (by simp[hok])]at hR;have hb:=qjL hok;by_cases h0:p.pa=0
  ·rw[if_pos h0]at hR;simp[h0,← hR]
  ·rw[if_neg h0]at hR;have c2:=qkQ [p.pa,p.ps,p.pb] (by simp) (fun x hx=>by
    simp only[qHq,qHz,or_false]at hx;omega)
   have e:Lib.join ([p.pa,p.ps,p.pb].map dec) [46]=R:=by rw[← hR];simp[Lib.join_cons,Lib.joinTail]
   rw[e]at c2;simp[h0];refine c2.view (by simp[qb5,mtA,qad]) ?_;simp
theorem qeV:∀ (l:List PT),(l.all qaL=true→qcy l false=some (Lib.joinTail [32] (l.map qaT)))∧(∀ b,l.all qaL=false→qcy l b=none)
 | []=>⟨fun _=>rfl,fun b h=>by simp at h⟩
 | p::r=>by
  obtain⟨h1,h2⟩:=qeV r;refine⟨fun h=>?_,fun b h=>?_⟩
  ·simp only[qHm,Bool.and_eq_true]at h;simp only[qcy];rw[if_neg (by simp[h.1]),h1 h.2];simp[Lib.joinTail]
  ·simp only[qcy];cases hp:qaL p with
   | false=>simp
   | true =>
    simp only[qHm,hp,qIe]at h;rw[if_neg (by simp),h2 false h];rfl
theorem qeY (m:List PT):qbk m=if m.all qaL=true then Lib.join (m.map qaT) [32] else []:=by
 unfold qbk;split
 ·rename_i h;cases m with
  | nil=>rfl
  | cons p r =>
   simp only[qHm,Bool.and_eq_true]at h;simp only[qcy];rw[if_neg (by simp[h.1]),(qeV r).1 h.2,qGs,Lib.join_cons];simp
 ·rename_i h;rw[(qeV m).2 true (by simpa using h)];rfl
theorem qsi (m:List PT) (h8:m.length=8):CV prog 295 [.agg (m.flatMap PT.row)] (.str (qbk m)):=by
 obtain⟨R,hR⟩:∃ R,qbk m=R:=⟨_,rfl⟩;rw[hR];rw[qeY]at hR;have hj:=qgi [32] 29 (m.map qaT) (fun x hx=>by
  obtain⟨n,hn,rfl⟩:=qGt.1 hx;exact qbt n)
 simp only[qG4]at hj;have cj:=qjU (m.map qaT) [32] (by simp;omega) (by simp at hj;omega);have h24:List.take 24 (m.flatMap PT.row)=m.flatMap PT.row:=qGh (by rw[qIP];exact qGi (qqK h8));have hrn:∀ ρ,qb6 ρ (m.flatMap PT.row)=m.flatMap PT.row:=fun ρ=>renL_closed.renL_closedL ρ _ (qfc m);refine cvx func295 [] ntmps295 rfl rfl rfl ?_ (hca:=by simp[qfc]);simp[qqK h8,h24];refine qe8 (qkf 3 1 (by simp) (by simp)) ?_;refine qaM (X:=Nat) [1,2,3,6,7] [(1,1),(3,900)] (fun i=>[(3,.sl 900 0 i),(7,.int .i64 i)]) (fun i=>[(1,⟨24,[m.flatMap PT.row]⟩),(900,qas ((m.take i).map qaT))]) (fun i=>8-i) (fun i=>i≤8∧(m.take i).all qaL=true) 0 (by simp) ?_ (he:=by simp[qah,qas,hrn]);rintro i ⟨hi,ha⟩;cases hr:m.drop i with
 | nil =>
  have:=qaY hr;have hie:i=8:=by omega
  subst hie;have ht:m.take 8=m:=qGh (by omega);rw[ht]at ha ⊢;rw[if_pos ha]at hR;simp;rw[hR]at cj;refine cj.view (by simp[qb5,mtA,qas,qai,qGh,h8]) ?_;simp
 | cons p q =>
  obtain⟨k1,e0,e1,k3⟩:=qaZ hr;have hli:(i:Int)<8:=by omega
  have hi8:i<8:=by omega
  have e2:=qap ((i:Int)+1) (by omega) (by omega);have c1:=qiW p;have c2:=qgj p;have hf:=qhb e1;simp only[PT.row]at c1 c2;have hs1:(m.take (i+1)).all qaL=((m.take i).all qaL && qaL p):=by rw[qgH e1];simp
  simp[qah,hli,hi8,hf,PT.row,qqK h8];refine⟨by omega,?_⟩;refine c1.call ?_;cases hok:qaL p with
  | false =>
   have:¬ m.all qaL=true:=fun h=>by
    have:=qGf.1 h p (qHT e1);rw[hok]at this;cases this
   rw[if_neg this]at hR;simp[← hR]
  | true =>
   simp[PT.row,qas];refine c2.call ?_;simp;have hmin:min i m.length=i:=by omega
   refine⟨by omega,nx (i+1) [(1,1),(17,900)] ⟨by omega,by
    have h:(m.take (i+1)).all qaL=true:=by rw[hs1,ha,hok];rfl
    first | exact h | simpa using h⟩ (h4:=?_)⟩
   have ht:=tk1 (qai ∘ qaT) e1;simp[qah,qas,ht,qGh,hmin,e2,hrn];simp[qai]
theorem qdT:∀ (l:List DE),qc1 l false=Lib.joinTail [32] (l.map qcn)∧qc1 l true=Lib.join (l.map qcn) [32]
 | []=>⟨rfl,rfl⟩
 | e::r=>by
  obtain⟨h1,_⟩:=qdT r;refine⟨?_,?_⟩
  ·simp only[qc1,h1];simp[Lib.joinTail]
  ·simp only[qc1,h1,qGs,Lib.join_cons];simp
theorem qsf (l:List DE) (hl:l.length≤1048576):CV prog 297 [.lst 3 (l.map DE.row)] (.str (qco l)):=by
 obtain⟨R,hR⟩:∃ R,qco l=R:=⟨_,rfl⟩;rw[hR];unfold qco at hR;rw[(qdT l).2]at hR;have c1:=qkR l hl;refine cvx func297 [] ntmps297 rfl rfl rfl ?_ (hca:=by simp[DE.row]);simp;refine c1.call ?_;cases hok:qam l with
 | false =>
  rw[if_neg (by simp[hok])]at hR;simp[← hR]
 | true =>
  rw[if_pos hok]at hR;have hl48:l.length≤48:=by
   simp only[qam,Bool.and_eq_true,decide_eq_true_eq]at hok;exact hok.1
  have hj:=qgi [32] 29 (l.map qcn) (fun x hx=>by
   obtain⟨e,he,rfl⟩:=qGt.1 hx;exact qhi (qhF hok e he))
  simp only[qG4]at hj;have cj:=qjU (l.map qcn) [32] (by simp;omega) (by simp at hj;omega);rw[hR]at cj;simp;refine qe8 (qkf 3 1 (by simp) (by simp)) ?_;refine qaM (X:=Nat) [2,3,9,10,11] [(3,900)] (fun i=>[(3,.sl 900 0 i),(11,.int .i64 i)]) (fun i=>[(900,qas ((l.take i).map qcn))]) (fun i=>l.length-i) (fun i=>i≤l.length) 0 (by simp) ?_ (he:=by simp[qah,qas]);intro i hi;cases hr:l.drop i with
  | nil =>
   have:=qaY hr;have hie:i=l.length:=by omega
   subst hie;rw[qHW];simp;refine cj.view (by simp[qb5,mtA,qas,qai,qGh]) ?_;simp
  | cons e r =>
   obtain⟨g1,e0,e1,g3⟩:=qaZ hr;have eb:=qnE hok e (qHT e1);have e2:=qap ((i:Int)+1) (by omega) (by omega);have c2:=qkQ [e.es,e.ea,e.ec] (by simp) (fun x hx=>by
    simp only[qHq,qHz,or_false]at hx;omega)
   have e4:Lib.join ([e.es,e.ea,e.ec].map dec) [46]=qcn e:=by simp[Lib.join_cons,Lib.joinTail,qcn]
   rw[e4]at c2;have hmin:min i l.length=i:=by omega
   simp[g1,e0,e1,DE.row];refine c2.view (by simp[qb5,mtA,qad]) ?_;simp[qas];refine⟨by omega,nx (i+1) [(25,900)] (by omega) (h4:=?_)⟩;have ht:=tk1 (qai ∘ qcn) e1;simp[qas,ht,qGh,hmin,e2];simp[qai]
theorem qvr (txg:Int) (p:PT):CV prog 226 [.int .i64 txg,.agg p.row] (.str (qa9 txg p)):=by
 obtain⟨R,hR⟩:∃ R,qa9 txg p=R:=⟨_,rfl⟩;rw[hR];unfold qa9 at hR;have c1:=qcI txg 1 1000000;have c2:=qpB p;have c3:=qgj p;have hpl:=qbt p;simp only[PT.row]at c2 c3;refine cvx func226 [] ntmps226 rfl rfl rfl ?_ (hca:=by simp[PT.row]);simp[PT.row];refine c1.call ?_;by_cases hw:1≤txg∧txg≤1000000
 ·have hwi:wiB txg 1 1000000=true:=by simp[wiB,hw]
  have d1:=qCJ txg (by omega) (by omega);have dl:=qaz txg (by omega);rw[hwi];simp;refine c2.call ?_;cases hre:qar p with
  | false =>
   rw[if_pos (.inr (.inr hre))]at hR;simp[← hR]
  | true =>
   rw[if_neg (by simp[hre];omega)]at hR;have c4:=qoM (dec txg++(32::(qaT p++(32::dec txg)))) (by simp[maxLen];omega);rw[hR]at c4;simp;refine d1.call ?_;simp[PT.row];refine⟨by omega,?_⟩;refine c3.call ?_;simp;refine⟨by omega,by omega,by omega,?_⟩;refine c4.call ?_;simp
 ·have hwi:wiB txg 1 1000000=false:=by
   simp only[wiB,qGM,decide_eq_false_iff_not];omega
  rw[if_pos (by omega)]at hR;rw[hwi];simp[← hR]
theorem qr6 (c:CO) (h:CoT c):CV prog 182 [.agg c.row] (.str (qaD c)):=by
 obtain⟨R,hR⟩:∃ R,qaD c=R:=⟨_,rfl⟩;rw[hR];have hs:=h.sets;have hp:=h.parts;refine cvx func182 [(10,[zI 0,zI 1,zJ 2 [5] [],zI 3,zI 4,zJ 5 [] [5],zJ 6 [5] [5],zJ 10 [] [5],zJ 13 [] [5],zJ 14 [5] [5],zJ 7 [] [5],zJ 8 [] [5],zJ 9 [] [5],zJ 11 [] [5],zJ 12 [] [5],zJ 15 [] [5],zI 16,zI 17,zI 18])] ntmps182 rfl rfl rfl ?_ (hca:=by simp[CO.row,PT.row,DE.row,qa1,qad]);simp[CO.row];refine qbe (X:=Nat×List UInt8) [1,2,3,10,11,12] [(1,1)] (fun x=>[(3,.str x.2),(12,.int .i64 x.1)]) (fun _=>[]) (fun x=>c.sets.length-x.1) (fun x=>x.1≤c.sets.length∧x.2.length≤4+64 * x.1∧((qbF (c.sets.drop x.1)).bind fun t=>(qa6 c.parts).map fun u=>x.2++(t++u)).getD []=R) (0,[114,111,111,116]) (by simp[← hR,qaD]) ?_ (he:=by simp[qah]);rintro⟨i,t⟩ ⟨hi,hl,hd⟩;simp only at hi hl hd;cases hr:c.sets.drop i with
 | nil =>
  have:=qaY hr;rw[hr]at hd;have hie:i=c.sets.length:=by omega
  subst hie;simp only[qbF,qHu,qGC]at hd;simp[qah];refine qbe (X:=Nat×List UInt8) [1,2,3,43,44,45] [(1,1)] (fun x=>[(3,.str x.2),(45,.int .i64 x.1)]) (fun _=>[]) (fun x=>c.parts.length-x.1) (fun x=>x.1≤c.parts.length∧x.2.length≤4+64 * c.sets.length+64 * x.1∧((qa6 (c.parts.drop x.1)).map fun u=>x.2++u).getD []=R) (0,t) (by simp[hd];omega) ?_ (he:=by simp[qah]);rintro⟨i,t⟩ ⟨hi,hl,hd⟩;simp only at hi hl hd;cases hr:c.parts.drop i with
  | nil =>
   have:=qaY hr;rw[hr]at hd;have hie:i=c.parts.length:=by omega
   subst hie;simp only[qa6,qFX,qH6,qGU]at hd;simp[qah,hd]
  | cons p q =>
   obtain⟨k1,e0,e1,k3⟩:=qaZ hr;rw[hr]at hd;simp only[qa6]at hd;have hli:(i:Int)<c.parts.length:=by omega
   have e2:=qap ((i:Int)+1) (by omega) (by omega);have c1:=qpB p;have c2:=qgj p;have hpl:=qbt p;simp only[PT.row]at c1 c2;simp[qah,k1,e0,e1,hli,PT.row];refine c1.call ?_;cases hok:qar p with
   | false =>
    rw[if_pos hok]at hd;simp only[qIK,qIL]at hd;simp[← hd]
   | true =>
    rw[if_neg (by simp[hok])]at hd;simp[qah,k1,e0,e1,hli,PT.row];refine c2.call ?_;simp[e2];exact⟨by omega,by omega,nx (i+1,t++(10::46::32::qaT p)) [(1,1)] ⟨by simp only;omega,by simp;omega,by simp only[k3];simpa [qIM,qHQ]using hd⟩ (by simp only;omega) (h4:=by simp[qah,e2])⟩
 | cons s q =>
  obtain⟨k1,e0,e1,k3⟩:=qaZ hr;rw[hr]at hd;simp only[qbF]at hd;have hsm:=qHT e1;have hli:(i:Int)<c.sets.length:=by omega
  have e2:=qap ((i:Int)+1) (by omega) (by omega);have h8:=h.m8 s hsm;have c1:=qBe s h8 (h.nm s hsm).1 (h.nm s hsm).2;simp[qah,k1,e0,e1,hli,qaC s h8,qbl s h8];refine⟨qeB s,?_⟩;refine c1.call ?_;cases hok:qbp s with
  | false =>
   rw[if_pos hok]at hd;simp only[Option.bind_none,qIL]at hd;simp[← hd]
  | true =>
   rw[if_neg (by simp[hok])]at hd;have hk:=qnJ hok;have c2:=qCJ s.kind (by omega) (by omega);have c4:=qgj s.home;have hrl:=qfS hok;have hn:=qhl hok;have hdl:=qaz s.kind (by omega);have hfl:=qi1 s.frm;have hpl:=qbt s.home;have hs0:s.row[0]?=some (.str s.name):=rfl;have hs1:s.row[1]?=some (.int .i64 s.kind):=rfl;have hs2:s.row[2]?=some (.str s.frm):=rfl;by_cases hf:s.frm=[]
   ·have hfe:qev s.frm=[45]:=by simp[qev,hf]
    simp[qc2 s h8,qaC s h8,hf];refine⟨by omega,by omega,?_⟩;refine c2.call ?_;simp[qc2 s h8,qaC s h8,hf];refine⟨by omega,by omega,by omega,by omega,?_⟩;refine c4.call ?_;simp[e2];refine⟨by omega,by omega,nx (i+1,t++qdY s) [(1,1)] ⟨by simp only;omega,by simp only[qHe];omega,by simp only[k3];simpa [qIM,qIN,qHQ]using hd⟩ (by simp only;omega) (h4:=by simp[qah,e2,qdY,hfe])⟩
   ·have hfe:qev s.frm=s.frm:=by simp[qev,hf]
    simp[qc2 s h8,qaC s h8,hf];refine⟨by omega,by omega,?_⟩;refine c2.call ?_;simp[qc2 s h8,qaC s h8,hf];refine⟨by omega,by omega,by omega,by omega,?_⟩;refine c4.call ?_;simp[e2];refine⟨by omega,by omega,nx (i+1,t++qdY s) [(1,1)] ⟨by simp only;omega,by simp only[qHe];omega,by simp only[k3];simpa [qIM,qIN,qHQ]using hd⟩ (by simp only;omega) (h4:=by simp[qah,e2,qdY,hfe])⟩
theorem qsx (k:Nat) (h:k<16):([48,49,50,51,52,53,54,55,56,57,97,98,99,100,101,102]:List UInt8)[k]?=some (qqi k):=by
 rcases(show k=0∨k=1∨k=2∨k=3∨k=4∨k=5∨k=6∨k=7∨k=8∨k=9∨k=10∨k=11∨k=12∨k=13∨k=14∨k=15 by omega)with rfl | rfl | rfl | rfl | rfl | rfl | rfl | rfl | rfl | rfl | rfl | rfl | rfl | rfl | rfl | rfl <;> rfl
theorem qEM (n:Nat) (h:n<256):qB6 BinOp.and IntKind.u8 (n:Int) 15=((n % 16:Nat):Int):=by
 have:∀ m:Fin 256,qB6 BinOp.and IntKind.u8 ((m.val:Nat):Int) 15=((m.val % 16:Nat):Int):=by decide
 exact this ⟨n,h⟩
theorem qFk (n:Nat):((n:Nat):Int).fdiv (2 ^ min 4 IntKind.u8.bits)=((n / 16:Nat):Int):=by
 rw[show(2:Int) ^ min 4 IntKind.u8.bits=16 from rfl,qH8 _ (by omega)];omega
theorem qD2 (s:List UInt8) (hs:s.length≤1048576):CV prog 330 [.str s] (.str (qeI s)):=by
 obtain⟨R,hR⟩:∃ R,qeI s=R:=⟨_,rfl⟩;rw[hR];refine cvx func330 [] ntmps330 rfl rfl rfl ?_;simp;refine qe8 (qkf 3 1 (by simp) (by simp)) ?_;refine qaM (X:=Nat×List UInt8) [0,2,3,6,7] [(3,900)] (fun x=>[(7,.int .i64 x.1),(3,.sl 900 0 x.2.length)]) (fun x=>[(900,⟨1,x.2.map qgG⟩)]) (fun x=>s.length-x.1) (fun x=>x.1≤s.length∧x.2.length=2 * x.1∧x.2++qeI (s.drop x.1)=R) (0,[]) (by simp[hR]) ?_ (he:=by simp[qah]);rintro⟨i,out⟩ ⟨hi,hol,hd⟩;simp only at hi hol hd;cases hr:s.drop i with
 | nil =>
  have:=qaY hr;rw[hr,qeI]at hd;have hie:i=s.length:=by omega
  subst hie;simp only[qH6]at hd;simp[qgz,qGh,hd]
  try exact fun x _=>rfl
 | cons x r =>
  obtain⟨h1,e0,e1,h3⟩:=qaZ hr;rw[hr,qeI]at hd;have e2:=qap ((i:Int)+1) (by omega) (by omega);have hx:=x.toNat_lt;have hli:(i:Int)<s.length:=by omega
  simp[h1,e0,e1,hli];rw[qEM _ hx,qFk];have g1:x.toNat / 16<16:=by omega
  have g2:x.toNat % 16<16:=by omega
  refine⟨⟨by omega,by omega⟩,⟨by omega,by omega⟩,by omega,nx (i+1,out++[qqi (x.toNat / 16),qqi (x.toNat % 16)]) [(22,900)] ⟨by simp only;omega,by simp;omega,by simp only[h3];simpa using hd⟩ (by simp only;omega) (h4:=?_)⟩;have t1:=qsx _ g1;have t2:=qsx _ g2;have q1:((x.toNat:Int) / 16).toNat=x.toNat / 16:=by omega
  have q2:((x.toNat:Int) % 16).toNat=x.toNat % 16:=by omega
  simp[e2,qGh,qhX,qgG,t1,t2,q1,q2]
theorem qr0 (r:LR) (ha:r.op.a.length≤1048576) (ht:r.op.text.length≤1048576):CV prog 280 [.agg r.row] (.str (qbS r)):=by
 obtain⟨R,hR⟩:∃ R,qbS r=R:=⟨_,rfl⟩;rw[hR];have hno:qdj r=false→R=[]:=fun h=>by rw[← hR];unfold qbS;rw[if_pos h]
 have hbad:∀ b:Prop,[Decidable b]→¬ b→(qdj r=true→b)→R=[]:=fun b _ hb h=>hno (by
  cases e:qdj r with
  | false=>rfl
  | true=>exact absurd (h e) hb)
 have hsp:qdj r=true↔(1≤r.txg∧r.txg≤1000000)∧(0≤r.seq∧r.seq<8)∧r.op.kind=3∧qbR r.op.a=true∧r.op.b=[]∧(0≤r.op.i∧r.op.i<8)∧r.op.text.length≤24:=by
  simp only[qdj,Bool.and_eq_true,decide_eq_true_eq];grind
 have c1:=qxS r.op.a ha;have c2:=qD2 r.op.text ht;have hxl:=qgl r.op.text;have w1:=qcI r.txg 1 1000000;have w2:=qcI r.seq 0 7;have w3:=qf0 (qoN r.op.i);have hyes:qdj r=true→R=qdW (dec r.txg++(46::(dec r.seq++(32::(r.op.a++(32::(dec r.op.i++(32::(qh3 r.op.text++(32::(dec r.txg++(46::dec r.seq)))))))))))):=fun h=>by
  rw[← hR];unfold qbS;rw[if_neg (by simp[h])]
 refine cvx func280 [(8,[zI 0,zI 1,zJ 2 [3] [],zJ 3 [] [3],zJ 4 [3] [3],zJ 6 [] [3],zJ 7 [] [3],zJ 5 [] [3],zI 8,zI 9,zI 10,zI 11])] ntmps280 rfl rfl rfl ?_ (hca:=by simp[LR.row,BO.row]);simp[LR.row,BO.row];refine w1.call ?_;by_cases q1:1≤r.txg∧r.txg≤1000000;rotate_left
 ·rw[show wiB r.txg 1 1000000=false by simp only[wiB,qGM,decide_eq_false_iff_not];omega,hbad _ q1 fun h=>(hsp.1 h).1];simp
 rw[show wiB r.txg 1 1000000=true by simp[wiB,q1]];simp;refine w2.call ?_;by_cases q2:0≤r.seq∧r.seq<8;rotate_left
 ·rw[show wiB r.seq 0 7=false by simp only[wiB,qGM,decide_eq_false_iff_not];omega,hbad _ q2 fun h=>(hsp.1 h).2.1];simp
 rw[show wiB r.seq 0 7=true by simp only[wiB,Bool.and_eq_true,decide_eq_true_eq];omega];by_cases q3:r.op.kind=3;rotate_left
 ·rw[hbad _ q3 fun h=>(hsp.1 h).2.2.1];simp[q3]
 simp[q3];refine c1.call ?_;cases q4:qbR r.op.a with
 | false =>
  rw[hno (by cases e:qdj r with
   | false=>rfl
   | true=>exact absurd (hsp.1 e).2.2.2.1 (by simp[q4]))]
  simp
 | true =>
  by_cases q5:r.op.b=[];rotate_left
  ·rw[hbad _ q5 fun h=>(hsp.1 h).2.2.2.2.1];simp[q5]
  simp[q5];refine w3.call ?_;by_cases q6:0≤r.op.i∧r.op.i<8;rotate_left
  ·rw[show(decide (0≤r.op.i) && decide (r.op.i≤7))=false by simp only[qGM,decide_eq_false_iff_not];omega,hbad _ q6 fun h=>(hsp.1 h).2.2.2.2.2.1];simp
  rw[show(decide (0≤r.op.i) && decide (r.op.i≤7))=true by simp only[Bool.and_eq_true,decide_eq_true_eq];omega];by_cases q7:r.op.text.length≤24;rotate_left
  ·rw[hbad _ q7 fun h=>(hsp.1 h).2.2.2.2.2.2];simp[show(24:Int)<r.op.text.length by omega]
  have hy:=hyes (hsp.2 ⟨q1,q2,q3,q4,q5,q6,q7⟩);have d1:=qkQ [r.txg,r.seq] (by simp) (fun x hx=>by
   simp only[qHq,qHz,or_false]at hx;omega)
  have e0:Lib.join ([r.txg,r.seq].map dec) [46]=dec r.txg++(46::dec r.seq):=by simp[Lib.join_cons,Lib.joinTail]
  rw[e0]at d1;have d3:=qCJ r.op.i (by omega) (by omega);have l1:=qaz r.txg (by omega);have l2:=qaz r.seq (by omega);have l3:=qaz r.op.i (by omega);have hna:r.op.a.length≤6:=by
   simp only[qbR,Bool.and_eq_true,decide_eq_true_eq]at q4;exact q4.2
  simp[show ¬ (24:Int)<r.op.text.length by omega,LR.row,BO.row];refine d1.view (by simp[qb5,mtA,qad]) ?_;simp[LR.row,BO.row];refine c2.call ?_;have hxT:qeI r.op.text=[]∨qeI r.op.text≠[]:=by cases qeI r.op.text <;> simp
  rcases hxT with hx | hx
  ·skip
   have hxT:qh3 r.op.text=[45]:=by simp[qh3,hx]
   rw[hxT]at hy;have e1:Lib.join [dec r.txg++(46::dec r.seq),r.op.a,dec r.op.i,[45],dec r.txg++(46::dec r.seq)] [32]=(dec r.txg++(46::(dec r.seq++(32::(r.op.a++(32::(dec r.op.i++(32::([45]++(32::(dec r.txg++(46::dec r.seq)))))))))))):=by simp[Lib.join_cons,Lib.joinTail]
   have cj:=qjU [dec r.txg++(46::dec r.seq),r.op.a,dec r.op.i,[45],dec r.txg++(46::dec r.seq)] [32] (by simp) (by rw[e1];simp;omega);have c3:=qoM (dec r.txg++(46::(dec r.seq++(32::(r.op.a++(32::(dec r.op.i++(32::([45]++(32::(dec r.txg++(46::dec r.seq)))))))))))) (by simp[maxLen];omega);rw[e1]at cj;rw[← hy]at c3;generalize (dec r.txg++(46::(dec r.seq++(32::(r.op.a++(32::(dec r.op.i++(32::([45]++(32::(dec r.txg++(46::dec r.seq))))))))))))=J at *
   simp[hx,LR.row,BO.row];refine d3.call ?_;simp;refine cj.view (by simp[qb5,mtA,qai]) ?_;simp;refine c3.call ?_;simp
  ·skip
   have hxT:qh3 r.op.text=qeI r.op.text:=by simp[qh3,hx]
   rw[hxT]at hy;have e1:Lib.join [dec r.txg++(46::dec r.seq),r.op.a,dec r.op.i,qeI r.op.text,dec r.txg++(46::dec r.seq)] [32]=(dec r.txg++(46::(dec r.seq++(32::(r.op.a++(32::(dec r.op.i++(32::(qeI r.op.text++(32::(dec r.txg++(46::dec r.seq)))))))))))):=by simp[Lib.join_cons,Lib.joinTail]
   have cj:=qjU [dec r.txg++(46::dec r.seq),r.op.a,dec r.op.i,qeI r.op.text,dec r.txg++(46::dec r.seq)] [32] (by simp) (by rw[e1];simp;omega);have c3:=qoM (dec r.txg++(46::(dec r.seq++(32::(r.op.a++(32::(dec r.op.i++(32::(qeI r.op.text++(32::(dec r.txg++(46::dec r.seq)))))))))))) (by simp[maxLen];omega);rw[e1]at cj;rw[← hy]at c3;generalize (dec r.txg++(46::(dec r.seq++(32::(r.op.a++(32::(dec r.op.i++(32::(qeI r.op.text++(32::(dec r.txg++(46::dec r.seq))))))))))))=J at *
   simp[hx,LR.row,BO.row];refine d3.call ?_;simp;refine cj.view (by simp[qb5,mtA,qai]) ?_;simp;refine c3.call ?_;simp
theorem qr9 (x:Int):CV prog 193 [.int .i64 x] (.bool (decide (x<13))):=by
 refine cvx func193 [] ntmps193 rfl rfl rfl ?_;simp
def loB (x:Int):Bool:=decide (x<13)
theorem qFu (l:List Int) (hl:l.length≤1048576):CV prog 268 [.lst 1 (l.map qad),.fn 193 []] (.int .i64 (ixR loB 0 l)):=by
 obtain⟨R,hR⟩:∃ R,ixR loB 0 l=R:=⟨_,rfl⟩;rw[hR];refine cvx func268 [] ntmps268 rfl rfl rfl ?_ (hca:=by simp[qad]);simp;refine qbe (X:=Nat) [0,1,7,8] [] (fun i=>[(8,.int .i64 i)]) (fun _=>[]) (fun i=>l.length-i) (fun i=>i≤l.length∧ixR loB i (l.drop i)=R) 0 (by simp[hR]) ?_;rintro i ⟨hi,hd⟩;cases hr:l.drop i with
 | nil =>
  have:=qaY hr;rw[hr]at hd;have hie:i=l.length:=by omega
  simp[hie];grind[ixR]
 | cons x r =>
  obtain⟨h1,e0,e1,h3⟩:=qaZ hr;rw[hr]at hd;have e2:=qap ((i:Int)+1) (by omega) (by omega);simp[h1,e0,e1,qad];refine(qr9 x).call ?_;simp[e2];exact⟨fun hp=>by grind[ixR,loB],fun hp=>nx (i+1) [] (by grind[ixR,loB])⟩
theorem qoJ (p:Int→Bool):∀ (l:List Int) (i:Nat),(ixR p i l=-1∧l.any p=false)∨∃ k,k<l.length∧ixR p i l=((i+k:Nat):Int)∧(l.take k).any p=false∧(∃ x,l[k]?=some x∧p x=true)
 | [],i=>.inl ⟨rfl,rfl⟩
 | x::r,i=>by
  simp only[ixR];cases h:p x with
  | true=>exact .inr ⟨0,by simp,by simp,by simp,x,by simp,h⟩
  | false =>
   rcases qoJ p r (i+1)with⟨h1,h2⟩ | ⟨k,h1,h2,h3,h4⟩
   ·exact .inl ⟨by simpa using h1,by simp[h,h2]⟩
   ·refine .inr ⟨k+1,by simp;omega,by simp[h2];omega,by simp[h,h3],by simpa using h4⟩
def hiL (l:List Int):List Int:=l.filter fun x=>!loB x
theorem qvw (l:List Int):(hiL l).length≤l.length:=List.length_filter_le _ _
theorem qEe (l:List Int) (hl:l.length≤1048576):ACall prog 192 [.sl 1000 0 l.length,.fn 193 []] [(1000,kin l)] (fun r L'=>r=.sl 1000 0 (hiL l).length∧L'=[(1000,kin (hiL l))]):=by
 refine ACall.weak (R:=fun r L'=>∃ L2,wkL L' L2∧unc r=.sl 1000 0 (hiL l).length∧L2=[(1000,kin (hiL l))]) ?_ (fun r L' h=>h);refine acx func192 [] ntmps192 rfl rfl rfl ?_;simp;refine(qFu l hl).view (by simp[qb5,mtA,kin,qad,qGh]) ?_;rcases qoJ loB l 0 with⟨h1,h2⟩ | ⟨k,h1,h2,h3,y,hx,hp⟩
 ·have hh:hiL l=l:=qIY.2 fun x hx=>by
   have:=qIc.1 h2 x hx;simpa using this
  rw[hh,h1];simp;exact⟨[(1000,kin l)],by simp,by simpa [kin,qGh]using wkL.cons 1000 (kin l) l.length .nil⟩
 ·obtain⟨R,hR⟩:∃ R,hiL l=R:=⟨_,rfl⟩;rw[hR];have hRl:R.length≤l.length:=hR ▸ qvw l;rw[h2];have e2:=qap ((k:Int)+1) (by omega) (by omega);simp[e2];have ht:(l.take k).filter (fun x=>!loB x)=l.take k:=qIY.2 fun x hx=>by
   have:=qIc.1 h3 x hx;simpa using this
  refine qaM (X:=Nat×List Int×List Int) [0,1,5,6] [(1000,1000)] (fun x=>[(5,.int .i64 (x.2.1.length:Int)),(6,.int .i64 x.1)]) (fun x=>[(1000,kin x.2.2)]) (fun x=>l.length-x.1) (fun x=>x.1≤l.length∧x.2.1.length<x.1∧x.2.1++hiL (l.drop x.1)=R∧x.2.2.length=l.length∧x.2.2.take x.2.1.length=x.2.1∧x.2.2.drop x.1=l.drop x.1) (k+1,l.take k,l) ⟨by simp only;omega,by simp;omega,?_,rfl,by simp[qHi (qHR h1)],rfl⟩ ?_ (he:=by simp[qah,kin,qHi (qHR h1)])
  ·have hs:l=l.take k++y::l.drop (k+1):=by
    conv=>lhs;rw[← List.take_append_drop k l,qIZ,hx]
    rfl
   rw[← hR]
   conv=>rhs;rw[hs]
   simp only[hiL,List.filter_append,ht];rw[List.filter_cons_of_neg (by simp[hp])]
  rintro⟨j,F,L⟩ ⟨hj,hF,hd,hL,hLt,hLd⟩;simp only at hj hF hd hL hLt hLd;cases hr:l.drop j with
  | nil =>
   have:=qaY hr;have hie:j=l.length:=by omega
   subst hie;rw[hr]at hd;simp[qah,hL,kin];have hFR:F=R:=by simpa [hiL]using hd
   subst hFR;have e:=qff (L.map qad) F.length (List.replicate (l.length-F.length) [.int .i64 0]) (by simp;omega);refine⟨by omega,by omega,by omega,[(1000,⟨1,spl (L.map qad) F.length (List.replicate (l.length-F.length) [.int .i64 0])⟩)],by simp[qad],?_,rfl⟩;have h:=wkL.cons 1000 ⟨1,spl (L.map qad) F.length (List.replicate (l.length-F.length) [.int .i64 0])⟩ F.length .nil;have e2:(spl (L.map qad) F.length (List.replicate (l.length-F.length) [.int .i64 0])).take F.length=F.map qad:=by
    simp only[spl];rw[qIf (by simp;omega),qHj,qIg,← List.map_take,hLt]
   simp only[e2]at h;exact h
  | cons x r =>
   obtain⟨g1,e0,e1,g3⟩:=qaZ hr;have e3:=qap ((j:Int)+1) (by omega) (by omega);have e4:=qap ((F.length:Int)+1) (by omega) (by omega);have hx:L[j]?=some x:=by
    have:=congrArg (fun l:List Int=>l[0]?) hLd;simp only[qGr,qGY]at this;rw[this];exact e1
   have hx':=(qGy.1 hx).2;simp[qah,hL,g1,hx,hx',kin,qad];refine(qr9 x).call ?_;simp[e3,e4];have hd2:(l.drop j).filter (fun x=>!loB x)=if loB x=true then (l.drop (j+1)).filter (fun x=>!loB x) else x::(l.drop (j+1)).filter (fun x=>!loB x):=by
    rw[hr,g3];cases hq:loB x <;> simp[List.filter_cons,hq]
   simp only[hiL]at hd;refine⟨fun q=>⟨by omega,by omega,nx (j+1,F++[x],L.set F.length x) [(1000,1000)] ⟨by simp only;omega,by simp;omega,?_,by simp[hL],?_,?_⟩ (by simp only;omega) (h4:=?_)⟩,fun q=>nx (j+1,F,L) [(1000,1000)] ⟨by simp only;omega,by simp only;omega,?_,hL,hLt,?_⟩ (by simp only;omega) (h4:=by simp[qah,e3,kin])⟩
   ·rw[hd2,if_neg (by simp[loB];omega)]at hd;simpa [hiL]using hd
   ·simp only[qHe,qGk,qHf];rw[qHN,qHK (by omega),qIS (by omega),hLt];rfl
   ·simp only;rw[qIU (by omega),← List.drop_drop,← List.drop_drop,hLd]
   ·obtain⟨z,hz⟩:∃ z,L[F.length]?=some z:=⟨_,qF3 (by omega)⟩;simp[qah,e3,e4,kin,hz,qad]
   ·rw[hd2,if_pos (by simp[loB];omega)]at hd;simpa [hiL]using hd
   ·simp only;rw[← List.drop_drop,← List.drop_drop,hLd]
def dsT (p:Int):List Int→List Int
 | []=>[]
 | x::r=>if x=p then dsT x r else x::dsT x r
def dsL:List Int→List Int
 | []=>[]
 | x::r=>x::dsT x r
theorem qsv (r:List Int) (x p:Int):∀ (q:Int) (l:List Int),dsT q (l++[p]++x::r)=dsT q (l++[p])++dsT p (x::r)
 | q,[]=>by
  simp only[qGC,qHS,dsT];split <;> split <;> simp[dsT, *]
 | q,a::l=>by
  have:=qsv r x p a l;simp only[qHS,List.append_assoc,qGC,dsT]at this ⊢;split <;> simp[this]
theorem qoZ {l:List Int} {m:Nat} {p x:Int} (h1:l[m]?=some p) (h2:l[m+1]?=some x):dsL (l.take (m+2))=if x=p then dsL (l.take (m+1)) else dsL (l.take (m+1))++[x]:=by
 have e1:l.take (m+2)=l.take m++[p]++[x]:=by rw[qgH h2,qgH h1]
 have e2:l.take (m+1)=l.take m++[p]:=qgH h1;rw[e1,e2];cases l.take m with
 | nil=>simp only[qGC,qHS,dsL,dsT];split <;> simp
 | cons a q =>
  have:=qsv [] x p a q;simp only[qHS,List.append_assoc,qGC,dsL]at this ⊢;rw[this];simp only[dsT];split <;> simp
theorem qBr (l:List Int) (hl:l.length≤1048576):ACall prog 195 [.sl 1000 0 l.length] [(1000,kin l)] (fun r L'=>r=.sl 1000 0 (dsL l).length∧L'=[(1000,kin (dsL l))]):=by
 refine ACall.weak (R:=fun r L'=>∃ L2,wkL L' L2∧unc r=.sl 1000 0 (dsL l).length∧L2=[(1000,kin (dsL l))]) ?_ (fun r L' h=>h);refine acx func195 [(6,[zI 0,zI 1,zJ 2 [1000] [],zJ 3 [1000] [],zJ 4 [] [1000],zJ 5 [] [1000],zJ 6 [] [1000],zJ 7 [1000] [1000],zJ 8 [1000] [1000],zI 9]),(11,[zI 0,zI 1,zJ 2 [1000] [],zJ 3 [1000] [],zJ 4 [] [1000],zJ 5 [] [1000],zJ 6 [] [1000],zJ 7 [1000] [1000],zJ 8 [1000] [1000],zI 9])] ntmps195 rfl rfl rfl ?_;by_cases h0:l.length<2
 ·have hd:dsL l=l:=by
   match l with
   | []=>rfl
   | [_]=>rfl
   | _::_::_=>simp at h0;omega
  rw[hd];simp[show(l.length:Int)<2 by omega];exact⟨[(1000,kin l)],by simp,by simpa [kin,qGh]using wkL.cons 1000 (kin l) l.length .nil⟩
 ·simp[show ¬ (l.length:Int)<2 by omega];refine qaM (X:=Nat) [0,3] [(1000,1000)] (fun k=>[(3,.int .i64 k)]) (fun x=>[(1000,kin l)]) (fun k=>l.length-k) (fun k=>1≤k∧k≤l.length∧dsL (l.take k)=l.take k) 1 ⟨by omega,by omega,?_⟩ ?_ (he:=by simp[qah,kin])
  ·match l with
   | []=>rfl
   | _::_=>rfl
  rintro k ⟨hk1,hk,hd⟩;have e1:=qap ((k:Int)-1) (by omega) (by omega);have e2:=qap ((k:Int)+1) (by omega) (by omega);by_cases hlt:k<l.length
  ·obtain⟨m,hm⟩:∃ m,k=m+1:=⟨k-1,by omega⟩;obtain⟨p,hp⟩:∃ z,l[m]?=some z:=⟨_,qF3 (by omega)⟩;obtain⟨x,hx⟩:∃ z,l[k]?=some z:=⟨_,qF3 (by omega)⟩;have hp':=(qGy.1 hp).2;have hx':=(qGy.1 hx).2;have hml:m<l.length:=by omega
   have e1:IntKind.i64.wrap ((k:Int)-1)=(m:Int):=by rw[qap _ (by omega) (by omega)];omega
   have hst:=qoZ hp (hm ▸ hx);rw[← hm,show m+2=k+1 by omega]at hst;by_cases hxp:x=p
   ·simp[qah,hlt,hml,show(k:Int)<l.length by omega,e1,kin,qad,hp,hx,hp',hx',hxp];rw[if_pos hxp,hd]at hst;refine⟨hk,?_⟩;have hlt2:(l.take k).length=k:=by simp;omega
    refine qaM (X:=Nat×List Int×List Int) [0,3,4,5] [(1000,1000)] (fun y=>[(3,.int .i64 (y.2.1.length:Int)),(4,.sl 1000 k (l.length-k)),(5,.int .i64 y.1)]) (fun y=>[(1000,kin y.2.2)]) (fun y=>l.length-k-y.1) (fun y=>1≤y.1∧k+y.1≤l.length∧y.2.1.length<k+y.1∧dsL (l.take (k+y.1))=y.2.1∧y.2.2.length=l.length∧y.2.2.take y.2.1.length=y.2.1∧y.2.2.drop (k+y.1-1)=l.drop (k+y.1-1)) (1,l.take k,l) ⟨by simp,by simp only;omega,by simp only;omega,hst,rfl,by rw[hlt2],rfl⟩ ?_ (he:=by simp only[hlt2];simp[qah,kin]);rintro⟨j,F,L⟩ ⟨hj1,hj,hF,hd,hL,hLt,hLd⟩;simp only at hj1 hj hF hd hL hLt hLd;clear hp hx hp' hx' hxp hst hm hml e1;have e2:=qap ((j:Int)+1) (by omega) (by omega);have e3:=qap ((F.length:Int)+1) (by omega) (by omega);by_cases hlt:j<l.length-k
    ·obtain⟨m,hm⟩:∃ m,j=m+1:=⟨j-1,by omega⟩;obtain⟨p,hp⟩:∃ z,l[k+m]?=some z:=⟨_,qF3 (by omega)⟩;obtain⟨x,hx⟩:∃ z,l[k+j]?=some z:=⟨_,qF3 (by omega)⟩;have hst:=qoZ hp (by rw[show k+m+1=k+j by omega];exact hx);rw[show k+m+2=k+(j+1) by omega,show k+m+1=k+j by omega,hd]at hst;have hLat:∀ i,k+m≤i→L[i]?=l[i]?:=fun i hi=>by
      have:=congrArg (fun l:List Int=>l[i-(k+m)]?) hLd;simp only[qGr]at this;rw[show k+j-1+(i-(k+m))=i by omega]at this;exact this
     have hp2:=hLat (k+m) (by omega);have hx2:=hLat (k+j) (by omega);rw[hp]at hp2;rw[hx]at hx2;have hp':=(qGy.1 hp2).2;have hx':=(qGy.1 hx2).2;have hml:m<l.length-k:=by omega
     have h5:k+m<l.length:=by omega
     have h6:k+j<l.length:=by omega
     have e1:IntKind.i64.wrap ((j:Int)-1)=(m:Int):=by rw[qap _ (by omega) (by omega)];omega
     have hnd:L.drop (k+(j+1)-1)=l.drop (k+(j+1)-1):=by
      rw[show k+(j+1)-1=(k+j-1)+1 by omega,← List.drop_drop,← List.drop_drop,hLd]
     by_cases hxp:x=p
     ·simp[qah,hlt,hml,h5,h6,hL,show(j:Int)<((l.length-k:Nat):Int) by omega,e1,kin,qad,hp2,hx2,hp',hx',hxp,e2];rw[if_pos hxp]at hst;exact nx (j+1,F,L) [(1000,1000)] ⟨by simp,by simp only;omega,by simp only;omega,hst,hL,hLt,hnd⟩ (by simp only;omega) (h4:=by simp[qah,e2,kin])
     ·rw[if_neg hxp]at hst;obtain⟨z,hz⟩:∃ z,L[F.length]?=some z:=⟨_,qF3 (by omega)⟩;simp[qah,hlt,hml,h5,h6,hL,show(j:Int)<((l.length-k:Nat):Int) by omega,e1,kin,qad,hp2,hx2,hp',hx',hxp,e2,e3];refine⟨by omega,nx (j+1,F++[x],L.set F.length x) [(1000,1000)] ⟨by simp,by simp only;omega,by simp;omega,hst,by simp[hL],?_,?_⟩ (by simp only;omega) (h4:=by simp[qah,e2,e3,kin,hz,qad])⟩
      ·simp only[qHe,qGk,qHf];rw[qHN,qHK (by omega),qIS (by omega),hLt];rfl
      ·simp only;rw[qIU (by omega),hnd]
    ·have hje:k+j=l.length:=by omega
     rw[hje,qHW]at hd;subst hd;generalize hF2:dsL l=F at *
     simp[qah,hL,kin,show ¬ (j:Int)<((l.length-k:Nat):Int) by omega];have e:=qff (L.map qad) F.length (List.replicate (l.length-F.length) [.int .i64 0]) (by simp;omega);refine⟨by omega,by omega,by omega,[(1000,⟨1,spl (L.map qad) F.length (List.replicate (l.length-F.length) [.int .i64 0])⟩)],by simp[qad],?_⟩;have h:=wkL.cons 1000 ⟨1,spl (L.map qad) F.length (List.replicate (l.length-F.length) [.int .i64 0])⟩ F.length .nil;have e2:(spl (L.map qad) F.length (List.replicate (l.length-F.length) [.int .i64 0])).take F.length=F.map qad:=by
      simp only[spl];rw[qIf (by simp;omega),qHj,qIg,← List.map_take,hLt]
     simp only[e2]at h;exact h
   ·simp[qah,hlt,hml,show(k:Int)<l.length by omega,e1,kin,qad,hp,hx,hp',hx',hxp,e2];rw[if_neg hxp,hd]at hst;exact nx (k+1) [(1000,1000)] ⟨by omega,by omega,by rw[hst,qgH hx]⟩ (by omega) (h4:=by simp[qah,e2,kin])
  ·have hie:k=l.length:=by omega
   subst hie;rw[qHW]at hd;rw[hd];simp[qah];exact⟨[(1000,kin l)],by simp,by simpa [kin,qGh]using wkL.cons 1000 (kin l) l.length .nil⟩
def srt (l:List Int):List Int:=l.mergeSort fun x y=>decide (x≤y)
theorem qeQ (l:List Int):(srt l).length=l.length:=by simp[srt,List.length_mergeSort]
theorem qtX {w:World} {Z:Addr→Prop} {γ:Gm} {k:IntKind} {n:Int} {v:Value} (h:AVRel w Z γ (.int k n) v):v=.int k n:=by cases h;rfl
theorem len64z:CV prog 324 [.int .u64 0] (.int .i64 0):=by
 refine cvx func324 [] ntmps324 rfl rfl rfl ?_;simp;decide
theorem lenz:CV prog 270 [.int .u64 0] (.int .i64 0):=by
 refine cvx func270 [] ntmps270 rfl rfl rfl ?_;simp;refine len64z.call ?_;simp
theorem qBa:ACall prog 315 [.sl 1000 0 0,.int .i64 0,.int .i64 0] [(1000,kin [])] (fun r L'=>r=.tup []∧L'=[(1000,kin [])]):=by
 refine acx func315 [] ntmps315 rfl rfl rfl ?_;simp;refine qaM (X:=Unit) [0,1,2,6] [(1000,1000)] (fun _=>[(0,.sl 1000 0 0),(1,.int .i64 0),(2,.int .i64 0),(6,.int .i64 1)]) (fun _=>[(1000,kin [])]) (fun _=>0) (fun _=>True) () trivial ?_ (he:=by simp[qah]);rintro⟨⟩ -
 simp
theorem qAA:ACall prog 269 [.sl 1000 0 0,.int .i64 0,.int .i64 0,.int .i64 0] [(1000,kin [])] (fun r L'=>r=.tup []∧L'=[(1000,kin [])]):=by
 refine acx func269 [] ntmps269 rfl rfl rfl ?_;simp;refine qaM (X:=Unit) [0,1,2,3] [(1000,1000)] (fun _=>[(0,.sl 1000 0 0),(1,.int .i64 0),(2,.int .i64 0),(3,.int .i64 0)]) (fun _=>[(1000,kin [])]) (fun _=>0) (fun _=>True) () trivial ?_ (he:=by simp[qah]);rintro⟨⟩ -
 simp;refine qac [(1000,.whole 1000)] (by kernel_rfl) qBa (by simp) (by simp) (by simp;exact qaa rfl (qaP _)) (by simp) (by simp) ?_;rintro r L' ⟨rfl,rfl⟩;refine⟨[],⟨by simp,by simp,by simp,by simp,by simp⟩,?_⟩;simp only[qaf];simp
theorem qwP:ACall prog 194 [.sl 1000 0 0] [(1000,kin [])] (fun r L'=>r=.tup []∧L'=[(1000,kin [])]):=by
 refine acx func194 [] ntmps194 rfl rfl rfl ?_;simp;refine lenz.call ?_;simp;refine qac [(1000,.whole 1000)] (by kernel_rfl) qAA (by simp) (by simp) (by simp;exact qaa rfl (qaP _)) (by simp) (by simp) ?_;rintro r L' ⟨rfl,rfl⟩;refine⟨[],⟨by simp,by simp,by simp,by simp,by simp⟩,?_⟩;simp only[qaf];simp
theorem qBd (l:List Int) (hne:l≠[]) (hl:l.length≤1048576):ACall prog 194 [.sl 1000 0 l.length] [(1000,kin l)] (fun r L'=>r=.tup []∧L'=[(1000,kin (srt l))]):=by
 intro w Z γ vs hv hh hg;obtain⟨x,rfl,h1⟩:=qyp hv;have hpos:0<l.length:=qFZ.2 hne;generalize hn:l.length=n at h1;have key:∃ (r:Rg) (cap:Nat),γ 1000=some r∧x=.slice (some (r.A.at 0)) l.length cap∧l.length≤cap:=by
  cases h1 with
  | sl _ id e len cap r hg2 hl2 hc=>exact⟨r,cap,hg2,by rw[hn];simp,by omega⟩
  | sl0=>omega
 obtain⟨r,cap,hr,rfl,hcap⟩:=key;obtain⟨r',hr',hor⟩:=hh.obj 1000 (kin l) (by simp);rw[hr]at hr';injection hr' with hr';subst hr';have hfit:=hor.fit;simp only[kin,qG4,Nat.mul_one]at hfit;have hcell:∀ j,j<l.length→w.cell? (r.A.at j)=some (.int .i64 (l.toArray[j]!))∧w.frozen? (r.A.at j)=false:=fun j hj=>by
  obtain⟨v,hv,hrel⟩:=hor.cell j 0 (by simpa [kin]using hj) (by simp[kin]);have e:(((kin l).els.getD j []).getD 0 .top)=.int .i64 (l.toArray[j]!):=by
   simp[kin,List.getD,hj,qad]
  rw[e]at hrel;have:=qtX hrel;subst this;refine⟨by simpa [kin]using hv,(hor.live j (by omega)).2⟩
 have hH:Sort.Holds (Value.int .i64) w r.A.block r.A.off l.toArray:=fun j hj=>hcell j (by simpa using hj);have hbk:r.A.block<w.heap.size:=World.block_lt_of_cell? w (r.A.at 0) (hcell 0 hpos).1;refine .inl ⟨by kernel_rfl,?_⟩;have hcall:=Tryz.slices_Sort_int r.A.block r.A.off cap l w hH hbk (by omega);refine hcall.mono ?_;rintro e w' ⟨rfl,k,os,rfl⟩;have hHa:Sort.Holds (Value.int .i64) (Sort.ahead w k) r.A.block r.A.off l.toArray:=hH;have hput:Sort.putRow (Value.int .i64) (Sort.ahead w k) r.A.block r.A.off (srt l).toArray=(Sort.ahead w k).setCells r.A.block (r.A.off+0) ((srt l).map (Value.int .i64)):=by
  have h2:=Lib.putRow_setCells (Value.int .i64) (Sort.ahead w k) r.A.block r.A.off (srt l) l.toArray 0 (by simp[qeQ]);rw[Sort.putRow_self _ _ _ _ _ hHa]at h2;rw[h2]
  congr 1
  apply qFP;intro j;rw[Lib.lay_get? _ _ _ _ (by simp[qeQ])];simp only[qGe,true_and,qHc,Nat.sub_zero,qeQ,qF4];split
  ·rfl
  ·rw[qHx (by rw[qeQ];omega),qHx (by omega)]
 rw[show(l.mergeSort fun x y=>decide (x≤y))=srt l from rfl,hput];have ha:HRel (Sort.ahead w k) Z γ (qaQ [(1000,kin l)]):=hh.same (fun p _=>⟨rfl,rfl⟩) (qFM _);have hu:upd (qaQ [(1000,kin l)]) 1000 (some (kin (srt l)))=qaQ [(1000,kin (srt l))]:=by
  funext i
  by_cases h:i=1000
  ·subst h;simp[upd]
  ·rw[qay _ _ h];simp[h]
 obtain⟨hw1,hw2⟩:=ha.write (id:=1000) (o:=kin l) (o':=kin (srt l)) (r:=r) (by simp) hr 0 ((srt l).map (Value.int .i64)) (by simp[qeQ];omega) rfl (by simp[kin,qeQ];omega) (fun e he=>by
  simp only[kin,qG4]at he;simp[kin,List.getD,he,qad]) (fun e j he hj=>by
   simp only[kin,qG4]at he hj;have hj0:j=0:=by omega
   subst hj0;refine⟨.int .i64 (srt l)[e],?_,.inl ⟨by simp,by simp[kin];omega,by simp[kin,he]⟩⟩;have e2:((kin (srt l)).els.getD e []).getD 0 .top=.int .i64 (srt l)[e]:=by simp[kin,List.getD,he,qad]
   rw[e2];exact .int _ _ _)
 rw[hu]at hw1;have hsz:=qem r.A.block ((srt l).map (Value.int .i64)) (r.A.off+0) (Sort.ahead w k);generalize hW:(Sort.ahead w k).setCells r.A.block (r.A.off+0) ((srt l).map (Value.int .i64))=W at *
 have hsz':W.heap.size=w.heap.size:=hsz;have hF1:Fr (fun p=>p.block=r.A.block∧r.A.off+0≤p.off∧p.off<r.A.off+0+((srt l).map (Value.int .i64)).length) (Sort.ahead w k) W:=hW ▸ Fr.setCells r.A.block ((srt l).map (Value.int .i64)) (r.A.off+0) (Sort.ahead w k);have hF0:Fr (fun p=>p.block=r.A.block∧r.A.off+0≤p.off∧p.off<r.A.off+0+((srt l).map (Value.int .i64)).length) w W:=⟨hF1.os,hF1.tape,hF1.output,hF1.size,hF1.blk⟩;refine⟨.tuple #[],.tup [],[(1000,kin (srt l))],Z,γ,rfl,⟨rfl,rfl⟩,.tup _ _ _ rfl (fun j hj=>by simp at hj),?_,?_,fun _ h=>h,fun p h=>.inl h,?_,fun _ _ _=>rfl⟩
 ·exact hw1.same (fun p hp=>⟨Sort.cell?_grow _ _ _ hp,Sort.frozen?_grow _ _ _ hp⟩) (by simp[Sort.grow])
 ·refine hF0.trans (G:=fun _=>False) ⟨rfl,rfl,rfl,by simp[Sort.grow],fun b hb=>.inl (Sort.heap_grow_old _ _ hb)⟩ (fun i o hp=>?_) (fun _ _ _ h=>h.elim);refine⟨1000,kin l,r,by simp,hr,?_⟩;simp only[qG4,qeQ]at hp;exact⟨hp.1,by have:=hp.2.1;simp only at this ⊢;omega,by have:=hp.2.2;simp only at this ⊢;omega,rfl⟩
 ·intro id o rg h1 h2 p hp;by_cases h:id=1000
  ·subst h;exact .inr ⟨1000,kin l,rg,by simp,h2,hp⟩
  ·simp[h]at h1
theorem qBc (l:List Int) (hl:l.length≤1048576):ACall prog 194 [.sl 1000 0 l.length] [(1000,kin l)] (fun r L'=>r=.tup []∧L'=[(1000,kin (srt l))]):=by
 cases l with
 | nil=>simpa [srt]using qwP
 | cons a r=>exact qBd (a::r) (by simp) hl
theorem quU:∀ {a b:List Int},a.Pairwise (· < ·)→b.Pairwise (· < ·)→(∀ x,x∈a↔x∈b)→a=b
 | [],[],_,_,_=>rfl
 | [],y::b,_,_,h=>absurd ((h y).2 (by simp)) (by simp)
 | x::a,[],_,_,h=>absurd ((h x).1 (by simp)) (by simp)
 | x::a,y::b,h1,h2,h=>by
  rw[qI0]at h1 h2;have hxy:x=y:=by
   rcases qHq.1 ((h x).1 (by simp))with e | e
   ·exact e
   ·rcases qHq.1 ((h y).2 (by simp))with e2 | e2
    ·exact e2.symm
    ·have:=h1.1 y e2;have:=h2.1 x e;omega
  subst hxy;rw[quU h1.2 h2.2 fun z=>⟨fun hz=>?_,fun hz=>?_⟩]
  ·rcases qHq.1 ((h z).1 (qHl _ hz))with e | e
   ·have:=h1.1 z hz;omega
   ·exact e
  ·rcases qHq.1 ((h z).2 (qHl _ hz))with e | e
   ·have:=h2.1 z hz;omega
   ·exact e
theorem ql1:∀ (l:List Int) (a:Int),(∀ x∈l.take (plP l a),x<a)∧(l.Pairwise (· < ·)→¬ a∈l→∀ x∈l.drop (plP l a),a<x)
 | [],a=>by simp[plP]
 | y::r,a=>by
  obtain⟨h1,h2⟩:=ql1 r a;by_cases h:y<a
  ·have e:plP (y::r) a=plP r a+1:=by simp[plP,h]
   rw[e];refine⟨fun x hx=>?_,fun hp hn=>?_⟩
   ·simp only[qF8,qHq]at hx;rcases hx with rfl | hx
    ·exact h
    ·exact h1 x hx
   ·rw[qI0]at hp;simpa using h2 hp.2 (fun hm=>hn (qHl _ hm))
  ·have e:plP (y::r) a=0:=by simp[plP,h]
   rw[e];refine⟨by simp,fun hp hn x hx=>?_⟩;rw[qI0]at hp;have hy:y≠a:=fun e=>hn (by simp[e]);simp only[List.drop_zero,qHq]at hx;rcases hx with rfl | hx
   ·omega
   ·have:=hp.1 x hx;omega
theorem qnS {l:List Int} (h:l.Pairwise (· < ·)) (a:Int):(qf2 l a).Pairwise (· < ·)∧∀ x,x∈qf2 l a↔x∈l∨(x=a∧13≤a):=by
 unfold qf2;split
 ·rename_i hc;refine⟨h,fun x=>⟨.inl,fun hx=>?_⟩⟩;rcases hx with hx | ⟨rfl,h13⟩
  ·exact hx
  ·rcases hc with hc | hc
   ·omega
   ·simpa using hc
 ·rename_i hc;have hn:¬ a∈l:=fun hm=>hc (.inr (by simpa using hm));have h13:13≤a:=by
   have:¬ a<13:=fun h=>hc (.inl h);omega
  obtain⟨h1,h2⟩:=ql1 l a;have h2:=h2 h hn;have hs:=qHX (plP l a) l;have hp:(l.take (plP l a)++l.drop (plP l a)).Pairwise (· < ·):=by rw[hs];exact h
  rw[qI1]at hp;refine⟨?_,fun x=>?_⟩
  ·rw[qI1,qI0];refine⟨hp.1,⟨h2,hp.2.1⟩,fun x hx y hy=>?_⟩;rcases qHq.1 hy with rfl | hy
   ·exact h1 x hx
   ·exact hp.2.2 x hx y hy
  ·have:x∈l↔x∈l.take (plP l a)∨x∈l.drop (plP l a):=by rw[← List.mem_append,hs]
   rw[this];simp only[qHs,qHq];constructor
   ·rintro(h | rfl | h)
    ·exact .inl (.inl h)
    ·exact .inr ⟨rfl,h13⟩
    ·exact .inl (.inr h)
   ·rintro((h | h) | ⟨rfl,_⟩)
    ·exact .inl h
    ·exact .inr (.inr h)
    ·exact .inr (.inl rfl)
theorem qeG:∀ (bs:List Int) {l:List Int},l.Pairwise (· < ·)→(qcQ l bs).Pairwise (· < ·)∧∀ x,x∈qcQ l bs↔x∈l∨(x∈bs∧13≤x)
 | [],l,h=>⟨h,fun x=>by simp[qcQ]⟩
 | a::r,l,h=>by
  obtain⟨h1,h2⟩:=qnS h a;obtain⟨h3,h4⟩:=qeG r h1;rw[qej];refine⟨h3,fun x=>?_⟩;rw[h4,h2];simp only[qHq];constructor
  ·rintro((h | ⟨rfl,h⟩) | ⟨h,h'⟩)
   ·exact .inl h
   ·exact .inr ⟨.inl rfl,h⟩
   ·exact .inr ⟨.inr h,h'⟩
  ·rintro(h | ⟨rfl | h,h'⟩)
   ·exact .inl (.inl h)
   ·exact .inl (.inr ⟨rfl,h'⟩)
   ·exact .inr ⟨h,h'⟩
theorem qvF:∀ (l:List Int) (p:Int),(p::l).Pairwise (·≤·)→(p::dsT p l).Pairwise (· < ·)∧∀ x,x∈p::dsT p l↔x∈p::l
 | [],p,_=>by simp[dsT]
 | a::r,p,h=>by
  rw[qI0]at h;obtain⟨h1,h2⟩:=qvF r a h.2;simp only[dsT];split
  ·rename_i e;subst e;refine⟨h1,fun x=>?_⟩;rw[h2];simp
  ·rename_i e;have hpa:=h.1 a (by simp);refine⟨?_,fun x=>?_⟩
   ·rw[qI0];refine⟨fun y hy=>?_,h1⟩;have hy2:=(h2 y).1 hy;rcases qHq.1 hy2 with rfl | hy2
    ·omega
    ·rw[qI0]at h;have:=h.2.1 y hy2;omega
   ·have:=h2 x;simp only[qHq]at this ⊢;rw[this]
theorem qBG {l:List Int} (h:l.Pairwise (·≤·)):(dsL l).Pairwise (· < ·)∧∀ x,x∈dsL l↔x∈l:=by
 cases l with
 | nil=>simp[dsL]
 | cons a r=>exact qvF r a h
def qs2 (c:CO) (root:Int):List Int:=root::(c.ddt.map DE.ea++(c.sets.map (fun s=>s.home.pa)++c.parts.map PT.pa))
theorem qrq (c:CO) (root:Int):dsL (srt (hiL (qs2 c root)))=qcf c root:=by
 have hs:(srt (hiL (qs2 c root))).Pairwise (·≤·):=by
  have:=List.pairwise_mergeSort (le:=fun x y:Int=>decide (x≤y)) (fun a b c h1 h2=>by simp at *;omega) (fun a b=>by simp;omega) (hiL (qs2 c root));simpa [srt]using this
 obtain⟨h1,h2⟩:=qBG hs;have h0:([]:List Int).Pairwise (· < ·):=.nil;obtain⟨a1,a2⟩:=qnS h0 root;obtain⟨b1,b2⟩:=qeG (c.ddt.map DE.ea) a1;obtain⟨c1,c2⟩:=qeG (c.sets.map fun s=>s.home.pa) b1;obtain⟨d1,d2⟩:=qeG (c.parts.map PT.pa) c1;refine quU h1 d1 fun x=>?_;rw[h2];show _↔x∈qcQ (qcQ (qcQ (qf2 [] root) (c.ddt.map DE.ea)) (c.sets.map fun s=>s.home.pa)) (c.parts.map PT.pa);rw[d2,c2,b2,a2];have:x∈srt (hiL (qs2 c root))↔x∈qs2 c root∧13≤x:=by
  rw[srt,List.mem_mergeSort,hiL,List.mem_filter];simp[loB]
 rw[this];simp only[qs2,qHq,qHs,qHz,false_or];grind
@[simp] theorem qvg {α:Type} (ρ:Nat→Option Plc) (f:α→Int):qb6 ρ ∘ qad ∘ f=qad ∘ f:=by funext x;simp[qad]
theorem qr8 (c:CO) (h:CoT c) (hc:qak c=true) (root:Int):ACall prog 91 [.agg c.row,.int .i64 root] [] (fun r L'=>r=.sl 900 0 (qcf c root).length∧L'=[(900,kin (qcf c root))]):=by
 obtain⟨hm,k1,k2,k3,k4,k5,k6,k7⟩:=qbn hc;rw[← qrq];have c0:=qgZ c h;rw[hc]at c0;simp only[CO.row]at c0;refine acx func91 [] ntmps91 rfl rfl rfl ?_;simp[CO.row];refine c0.call ?_;simp[CO.row];refine qaM (X:=Nat) [2,5,18,19,20] [(2,2),(16,900)] (fun i=>[(5,.sl 900 0 (1+i)),(20,.int .i64 i)]) (fun i=>[(2,⟨7,[c.row]⟩),(900,kin (root::(c.ddt.take i).map DE.ea))]) (fun i=>c.ddt.length-i) (fun i=>i≤c.ddt.length) 0 (by simp) ?_ (he:=by simp[qah,kin,CO.row,qad]);intro i hi;cases hr:c.ddt.drop i with
 | nil =>
  have:=qaY hr;have hie:i=c.ddt.length:=by omega
  subst hie;rw[qHW];simp[qah,CO.row];refine qaM (X:=Nat) [2,5,31,32,33] [(2,2),(900,900)] (fun i=>[(5,.sl 900 0 (1+c.ddt.length+i)),(33,.int .i64 i)]) (fun i=>[(2,⟨7,[c.row]⟩),(900,kin (root::(c.ddt.map DE.ea++(c.sets.take i).map (fun s=>s.home.pa))))]) (fun i=>c.sets.length-i) (fun i=>i≤c.sets.length) 0 (by simp) ?_ (he:=by simp[qah,kin,CO.row,qad]);intro i hi;cases hr:c.sets.drop i with
  | nil =>
   have:=qaY hr;have hie:i=c.sets.length:=by omega
   subst hie;rw[qHW];simp[qah,CO.row];refine qaM (X:=Nat) [2,5,45,46,47] [(2,2),(900,900)] (fun i=>[(5,.sl 900 0 (1+c.ddt.length+c.sets.length+i)),(47,.int .i64 i)]) (fun i=>[(2,⟨7,[c.row]⟩),(900,kin (root::(c.ddt.map DE.ea++(c.sets.map (fun s=>s.home.pa)++(c.parts.take i).map PT.pa))))]) (fun i=>c.parts.length-i) (fun i=>i≤c.parts.length) 0 (by simp) ?_ (he:=by simp[qah,kin,CO.row,qad]);intro i hi;cases hr:c.parts.drop i with
   | nil =>
    have:=qaY hr;have hie:i=c.parts.length:=by omega
    subst hie;rw[qHW];have hraw:(root::(c.ddt.map DE.ea++(c.sets.map (fun s=>s.home.pa)++c.parts.map PT.pa)))=qs2 c root:=rfl;rw[hraw];have hlen:(qs2 c root).length=1+c.ddt.length+c.sets.length+c.parts.length:=by simp[qs2];omega
    generalize qs2 c root=raw at *
    simp[qah,CO.row];rw[← hlen];have h1:=qvw raw;refine qac [(1000,.whole 900)] (by kernel_rfl) (qEe raw (by omega)) (by simp) (by simp) (by simp[kin];exact qaa rfl (by simp[clR,qad])) (by simp) (by simp) ?_;rintro r L' ⟨rfl,rfl⟩;refine⟨[],⟨by simp,by simp,by simp,by simp,by simp⟩,?_⟩;simp only[qaf];simp;refine qac [(1000,.whole 900)] (by kernel_rfl) (qBc (hiL raw) (by omega)) (by simp) (by simp) (by simp[kin];exact qaa rfl (by simp[clR,qad])) (by simp) (by simp) ?_;rintro r L' ⟨rfl,rfl⟩;refine⟨[],⟨by simp,by simp,by simp,by simp,by simp⟩,?_⟩;simp only[qaf];simp;have h2:=qeQ (hiL raw);rw[← h2];refine qac [(1000,.whole 900)] (by kernel_rfl) (qBr (srt (hiL raw)) (by omega)) (by simp) (by simp) (by simp[kin];exact qaa rfl (by simp[clR,qad])) (by simp) (by simp) ?_;rintro r L' ⟨rfl,rfl⟩;refine⟨[],⟨by simp,by simp,by simp,by simp,by simp⟩,?_⟩;simp only[qaf];simp
   | cons e r =>
    obtain⟨g1,e0,e1,g3⟩:=qaZ hr;have e2:=qap ((i:Int)+1) (by omega) (by omega);simp[qah,g1,e0,e1,PT.row,CO.row,kin];have ht:=tk1 (qad ∘ PT.pa) e1;have hl:List.take (1+c.ddt.length+c.sets.length+i) ([AV.int IntKind.i64 root]::(List.map (qad ∘ DE.ea) c.ddt++(List.map (qad ∘ fun s=>s.home.pa) c.sets++List.take i (List.map (qad ∘ PT.pa) c.parts))))=[AV.int IntKind.i64 root]::(List.map (qad ∘ DE.ea) c.ddt++(List.map (qad ∘ fun s=>s.home.pa) c.sets++List.take i (List.map (qad ∘ PT.pa) c.parts))):=qGh (by simp;omega);refine⟨by omega,nx (i+1) [(2,2),(55,900)] (by omega) (h4:=?_)⟩;simp[qah,ht,hl,e2,CO.row,kin,← Nat.add_assoc]
    all_goals simp[qad]
  | cons e r =>
   obtain⟨g1,e0,e1,g3⟩:=qaZ hr;have h8:=h.m8 e (qHT e1);have e2:=qap ((i:Int)+1) (by omega) (by omega);have hpa:=qvN e h8;have hpa':=(qGy.1 hpa).2;simp[qah,g1,e0,e1,CO.row,qaC e h8,qbl e h8,hpa,hpa',kin];have ht:=tk1 (qad ∘ fun s:CS=>s.home.pa) e1;have hl:List.take (1+c.ddt.length+i) ([AV.int IntKind.i64 root]::(List.map (qad ∘ DE.ea) c.ddt++List.take i (List.map (qad ∘ fun s=>s.home.pa) c.sets)))=[AV.int IntKind.i64 root]::(List.map (qad ∘ DE.ea) c.ddt++List.take i (List.map (qad ∘ fun s=>s.home.pa) c.sets)):=qGh (by simp;omega);refine⟨qeB e,by omega,nx (i+1) [(2,2),(42,900)] (by omega) (h4:=?_)⟩;simp[qah,ht,hl,e2,CO.row,kin,← Nat.add_assoc]
   all_goals simp[qad]
 | cons e r =>
  obtain⟨g1,e0,e1,g3⟩:=qaZ hr;have e2:=qap ((i:Int)+1) (by omega) (by omega);simp[qah,g1,e0,e1,DE.row,CO.row,kin];have ht:=tk1 (qad ∘ DE.ea) e1;have hl:List.take (1+i) ([AV.int IntKind.i64 root]::List.take i (List.map (qad ∘ DE.ea) c.ddt))=[AV.int IntKind.i64 root]::List.take i (List.map (qad ∘ DE.ea) c.ddt):=qGh (by simp;omega);refine⟨by omega,nx (i+1) [(2,2),(28,900)] (by omega) (h4:=?_)⟩;simp[qah,ht,hl,e2,CO.row,kin,← Nat.add_assoc]
  all_goals simp[qad]
end Go.Av.F
end
section
namespace Go.Av.F
open Go Go.Av Go.Proofs Go.Proofs.Tryz
def cmR (d:DK) (c:CO) (n j i3 i6:Nat):List AV:=[.sl 1001 0 d.s0.length,.sl 1002 0 d.s1.length,.sl i3 0 d.late.length,.int .i64 c.txg,.sl 1004 0 c.sets.length,.sl 1005 0 c.ddt.length,.sl i6 0 c.parts.length,.bool c.dirty,.sl 1007 0 c.safe.length,.int .i64 c.logn,.sl 1008 j (n-j),.nils,.nils,.nils,.nils,.nils,.nils]
def cmL (d:DK) (c:CO) (fr:List Int) (j i3 i6:Nat):List (Nat×Ob) :=
 [(1000,⟨17,[cmR d c fr.length j i3 i6]⟩),(1001,qas d.s0),(1002,qas d.s1),(i3,qcE d.late),(1004,kcs c.sets),(1005,qaN c.ddt),(i6,kpt c.parts),(1007,kin c.safe),(1008,kin fr)]
def qFp (xs:List Nat) (D:DK) (c:CO) (fr:List Int) (j:Nat) (p:PT) (b:Bool) (r:AV) (L':List (Nat×Ob)):Prop:=∃ id,id∈xs∧r=.tup [.agg p.row,.bool b]∧L'=cmL D c fr j id 1006
theorem qt5 (d:DK) (hd:qbr d=true) (c:CO) (fr:List Int) (j:Nat) (a:Int) (hj:fr[j]?=some a) (hfl:fr.length≤1048576) (text:List UInt8) (ht:text.length≤1000000) (htx:0≤c.txg∧c.txg<10000000) :
  ACall prog 294 [.ptr 1000 0 0,.str text] (cmL d c fr j 1003 1006)
   (fun r L'=>r=.tup [.agg (if (qaw d a text).2=true then qbP a text (c.txg+1) else ⟨0,0,0⟩:PT).row,.bool (qaw d a text).2]∧L'=cmL (qaw d a text).1 c fr (if (qaw d a text).2=true then j+1 else j) 903 1006):=by
 have c1:=qsj d hd a text (by omega);have c2:=qnm a text (c.txg+1) (by simp[maxLen];omega);obtain⟨R,hR⟩:∃ R,qaw d a text=R:=⟨_,rfl⟩;rw[hR]at c1 ⊢;obtain⟨D,b⟩:=R;have hjl:=(qGy.1 hj).1;have hj':=(qGy.1 hj).2;have e1:=qap (c.txg+1) (by omega) (by omega);have key:ACall prog 294 [.ptr 1000 0 0,.str text] (cmL d c fr j 1003 1006)
   (qFp [18] D c fr (if b=true then j+1 else j) (if b=true then qbP a text (c.txg+1) else ⟨0,0,0⟩) b):=by
  refine acx func294 [] ntmps294 rfl rfl rfl ?_ (hL:=by simp[cmL]);simp[cmL,cmR,kin,hj,hj',hjl,qad];refine⟨by omega,?_⟩;refine qac [(1000,.sub 1000 0 0 3),(1001,.whole 1001),(1002,.whole 1002),(1003,.whole 1003)] (by kernel_rfl) c1 (by simp) (by simp) (by simp[qb9,qcF];exact⟨⟨_,_,rfl,rfl,by simp,by simp,rfl,rfl,by simp⟩,qaa rfl (qaO _),qaa rfl (qaO _),qaa rfl (qcU _)⟩) (by simp[qb9]) (by simp) ?_;rintro r L' ⟨rfl,rfl⟩;refine⟨[(903,18)],⟨by simp[qb9],by simp,by simp,by simp[qb9],by simp[qb9,qcF]⟩,?_⟩;simp only[qaf];simp[qb9,qcF];cases b with
  | false =>
   simp;exact⟨cmL D c fr j 18 1006,by simp[cmL,cmR,kin],18,by simp,rfl,rfl⟩
  | true =>
   simp;refine⟨by omega,?_⟩;rw[e1];refine c2.call ?_;simp;exact⟨cmL D c fr (j+1) 18 1006,by simp[cmL,cmR,kin,Nat.sub_sub],18,by simp,rfl,rfl⟩
 refine key.can ?_;rintro r L' ⟨id,hid,rfl,rfl⟩;refine⟨[(1000,1000),(1001,1001),(1002,1002),(id,903),(1004,1004),(1005,1005),(1006,1006),(1007,1007),(1008,1008)],?_,?_,?_,?_,?_⟩
 all_goals
  simp only[qHq,qHz,or_false]at hid;subst hid
 all_goals simp[cmL,cmR,qah]
theorem qxT (l:List DE):ACall prog 296 [.sl 1000 0 l.length,.int .i64 6] [(1000,qaN l)]
  (fun r L'=>r=.fn 338 [.ptr 2 0 0,.ptr 3 0 0]∧L'=[(2,⟨1,[[.sl 1000 0 l.length]]⟩),(3,⟨1,[[.int .i64 6]]⟩),(1000,qaN l)]):=by
 refine acx func296 [] ntmps296 rfl rfl rfl ?_;simp
theorem qyJ {d:DK} (h:qbr d=true) {a:Int} {t:List UInt8} (hf:(qaw d a t).2=false):(qaw d a t).1=d:=by
 have k1:=qjb h 0 a t;unfold qaw at hf ⊢;rw[if_neg (by simp[h])]at hf ⊢;split
 ·rfl
 ·rename_i hn;rw[if_neg hn]at hf;split
  ·rename_i h2;exact k1.2.2 h2
  ·rename_i h2;rw[if_neg h2]at hf;exfalso;have hth:qbb d 0 a t=true:=by
    cases e:qbb d 0 a t with
    | true=>rfl
    | false=>exact absurd (by unfold qa0;rw[if_neg (by simp[h]),if_pos (.inl e)]) h2
   obtain⟨_,q2,q3⟩:=thereB_iff.1 hth;have hX:(qa0 d 0 a t).1=⟨d.s0,d.s1,d.late++[⟨0,a,t⟩]⟩:=by
    unfold qa0;rw[if_neg (by simp[h]),if_neg (by simp[hth];omega)]
   rw[hX]at k1 hf;unfold qa0 at hf;rw[if_neg (by simp[k1.1]),if_neg (by
    rintro(e | e)
    ·rw[show qbb ⟨d.s0,d.s1,d.late++[⟨0,a,t⟩]⟩ 1 a t=true from thereB_iff.2 ⟨.inr rfl,q2,q3⟩]at e;cases e
    ·simp at e;omega)]at hf
   cases hf
theorem qnO {d:DK} (h:qbr d=true) {a:Int} {t:List UInt8} (ha:0≤a∧a<d.s0.length) (ht:t.length≤420) (hf:(qaw d a t).2=false):598<d.late.length:=by
 rcases qGO 598 d.late.length with hn | hn
 ·exact hn
 exfalso;have hth:qbb d 0 a t=true:=thereB_iff.2 ⟨.inl rfl,ha,ht⟩;have hX:qa0 d 0 a t=(⟨d.s0,d.s1,d.late++[⟨0,a,t⟩]⟩,true):=by
  unfold qa0;rw[if_neg (by simp[h]),if_neg (by simp[hth];omega)]
 have k1:=qjb h 0 a t;unfold qaw at hf;rw[if_neg (by simp[h]),if_neg (by omega),hX]at hf;rw[hX]at k1;rw[if_neg (by simp)]at hf;unfold qa0 at hf;rw[if_neg (by simp[k1.1]),if_neg (by
  rintro(e | e)
  ·rw[show qbb ⟨d.s0,d.s1,d.late++[⟨0,a,t⟩]⟩ 1 a t=true from thereB_iff.2 ⟨.inr rfl,ha,ht⟩]at e;cases e
  ·simp at e;omega)]at hf
 cases hf
theorem qgA {d:DK} (h:qbr d=true) (hn:598<d.late.length) (a:Int) (t:List UInt8):qaw d a t=(d,false):=by
 unfold qaw;rw[if_neg (by simp[h]),if_pos hn]
theorem qfP {txg:Int} {d:DK} (h:qbr d=true) (hn:598<d.late.length):∀ (l:List CS) (fr:List Int),(qbZ txg l ⟨d,fr,false⟩).2.d=d∧(qbZ txg l ⟨d,fr,false⟩).2.ok=false
 | [],fr=>⟨rfl,rfl⟩
 | s::q,fr=>by
  simp only[qbZ];split
  ·simp only[qb0,qgA h hn,qI2];exact qfP h hn q _
  ·exact qfP h hn q fr
theorem qfk {txg:Int} {d:DK} (h:qbr d=true) (hn:598<d.late.length):∀ (l:List (List UInt8)) (fr:List Int),(qcY txg l ⟨d,fr,false⟩).2.d=d∧(qcY txg l ⟨d,fr,false⟩).2.ok=false
 | [],fr=>⟨rfl,rfl⟩
 | s::q,fr=>by
  simp only[qcY,qb0,qgA h hn,qI2];exact qfk h hn q _
theorem qmo {c:CO}:∀ (k:Nat) (q:Int),∀ a∈qgm c k q,q≤a∧a<q+k
 | 0,q,a,h=>by simp[qgm]at h
 | k+1,q,a,h=>by
  simp only[qgm,qHs]at h;rcases h with h | h
  ·split at h
   ·simp only[qHq,qHz,or_false]at h;omega
   ·simp at h
  ·have:=qmo k (q+1) a h;omega
theorem qi2 {c:CO} {n:Int} {a:Int} (h:a∈qaV c n):13≤a∧a<n:=by
 have:=qmo _ _ a h;omega
theorem qpk {a b:Int} (t:List UInt8) (ha:13≤a∧a<120) (hb:0≤b∧b≤1000000):qar (qbP a t b)=true∧(qbP a t b).pa=a:=by
 have hs:=qu9 t;have h1:qaL ⟨a,smB t,b⟩=true:=by
  unfold qaL;rw[if_neg (by simp only;omega)];simp only[Bool.and_eq_true,decide_eq_true_eq];omega
 unfold qbP;rw[if_neg (by simp[h1];omega)];refine⟨?_,rfl⟩;simp only[qar,h1,qIe];simp;omega
theorem qvX (a:Int) (t:List UInt8) (b:Int):qaL (qbP a t b)=true:=by
 unfold qbP;split
 ·rfl
 ·rename_i h;cases e:qaL ⟨a,smB t,b⟩with
  | true=>rfl
  | false=>exact absurd (.inr e) h
theorem qgK (txg:Int):∀ (l:List CS) (r:RS),(qbZ txg l r).1.map CS.map=l.map CS.map∧(qbZ txg l r).1.map csB=l.map csB∧(l.all qbp=true→(qbZ txg l r).1.all qbp=true)
 | [],r=>⟨rfl,rfl,fun _=>rfl⟩
 | s::q,r=>by
  simp only[qbZ];split
  ·obtain⟨h1,h2,h3⟩:=qgK txg q (qb0 txg r (qbk s.map)).2;refine⟨by simp[h1],by simp[h2];rfl,fun h=>?_⟩;simp only[qHm,Bool.and_eq_true]at h ⊢;refine⟨?_,h3 h.2⟩;have h4:=h.1;simp only[qbp,Bool.and_eq_true]at h4 ⊢;exact⟨⟨h4.1.1,qvX _ _ _⟩,h4.2⟩
  ·obtain⟨h1,h2,h3⟩:=qgK txg q r;refine⟨by simp[h1],by simp[h2],fun h=>?_⟩;simp only[qHm,Bool.and_eq_true]at h ⊢;exact⟨h.1,h3 h.2⟩
theorem qkl (txg:Int):∀ (l:List CS) (r:RS),(qbZ txg l r).2.fr=r.fr.drop (qb7 l)
 | [],r=>by simp[qbZ,qb7]
 | s::q,r=>by
  simp only[qbZ,qb7,qIk];split
  ·rename_i h;rw[qkl txg q];simp only[qb0,if_pos h,qb7];rw[← List.drop_one,qGc,qHo]
  ·rename_i h;rw[qkl txg q];simp only[if_neg h,qb7];rfl
theorem qlW (txg:Int) (hb:0≤txg∧txg≤1000000):∀ (l:List (List UInt8)) (r:RS),(∀ a∈r.fr,13≤a∧a<120)→l.length≤r.fr.length→(qcY txg l r).1.all qar=true∧(qcY txg l r).1.length=l.length
 | [],r,_,_=>⟨rfl,rfl⟩
 | t::q,r,hr,hl=>by
  simp only[qcY];obtain⟨a,fr,hf⟩:∃ a fr,r.fr=a::fr:=by
   cases h:r.fr with
   | nil=>rw[h]at hl;simp at hl
   | cons a fr=>exact⟨a,fr,rfl⟩
  have ih:=qlW txg hb q (qb0 txg r t).2 (by simp only[qb0,hf,qID];exact fun x hx=>hr x (by rw[hf];simp[hx])) (by simp only[qb0,hf,qID];rw[hf]at hl;simpa using hl);refine⟨?_,by simp[ih.2]⟩;rw[qHm,ih.1,qGa];simp only[qb0,hf,qIT];exact(qpk t (hr a (by rw[hf];simp)) hb).1
theorem qyE {d:DK} {c:CO} (hd:qbr d=true) (h:CoT c) (hc:qak c=true) (hf:qcu c≤(qaV c d.s0.length).length) (ht:c.txg<1000000):CoT (qaq d c).2.1∧qak (qaq d c).2.1=true∧13≤(qaq d c).2.2.pa:=by
 obtain⟨hm,k1,k2,k3,k4,k5,k6,k7⟩:=qbn hc;obtain⟨g1,g2,g3,g4,_⟩:=qbM hd;have hfm:∀ a∈qaV c d.s0.length,13≤a∧a<120:=fun a ha=>by
  have:=qi2 ha;omega
 have hS:=qgK (c.txg+1) c.sets ⟨d,qaV c d.s0.length,true⟩;have hSf:=qkl (c.txg+1) c.sets ⟨d,qaV c d.s0.length,true⟩;have hSl:=qf7 (c.txg+1) c.sets ⟨d,qaV c d.s0.length,true⟩;have hSm:=qd8 (c.txg+1) c.sets ⟨d,qaV c d.s0.length,true⟩;have hP8:=ql2 c.ddt.length c.ddt (qFM _);unfold qaq;generalize qbZ (c.txg+1) c.sets ⟨d,qaV c d.s0.length,true⟩=X at *
 obtain⟨cur,rs⟩:=X;simp only at hS hSf hSl hSm ⊢;have hrf:∀ a∈rs.fr,13≤a∧a<120:=fun a ha=>hfm a (by rw[hSf]at ha;exact qIh ha);have hrl:rs.fr.length=(qaV c d.s0.length).length-qb7 c.sets:=by rw[hSf];simp
 obtain⟨Y,hY⟩:∃ Y,(if c.dirty=true then qcY (c.txg+1) (qbV c.ddt) rs else (c.parts,rs))=Y:=⟨_,rfl⟩
 have hpr:∀ p∈c.parts,qar p=true:=by
  simp only[qak,Bool.and_eq_true,qGf]at hc;exact hc.1.1.1.2
 unfold qcu at hf;have hYp:Y.1.all qar=true∧Y.1.length≤8:=by
  subst hY;split
  ·rename_i hdt;rw[if_pos hdt]at hf;have:=qlW (c.txg+1) (by omega) (qbV c.ddt) rs hrf (by omega);refine⟨this.1,?_⟩;rw[this.2];unfold qbV;omega
  ·exact⟨qGf.2 hpr,k3⟩
 have hYf:∃ a∈Y.2.fr.head?,13≤a∧a<120:=by
  have key:∀ (l:List (List UInt8)) (r:RS),(qcY (c.txg+1) l r).2.fr=r.fr.drop l.length:=fun l=>by
   induction l with
   | nil=>intro r;simp[qcY]
   | cons t q ih =>
    intro r;simp only[qcY,ih,qb0,qGk];rw[← List.drop_one,qGc,qHo]
  have:∃ k,Y.2.fr=rs.fr.drop k∧k<rs.fr.length:=by
   subst hY;split
   ·rename_i hdt;rw[if_pos hdt]at hf;exact⟨_,key _ _,by omega⟩
   ·rename_i hdt;rw[if_neg hdt]at hf;exact⟨0,by simp,by omega⟩
  obtain⟨k,e,hk⟩:=this;refine⟨rs.fr[k],by rw[e];simp[List.head?_drop,hk],hrf _ (qGz hk)⟩
 rw[hY];obtain⟨ps,rs'⟩:=Y;simp only at hYp hYf ⊢;have hb:=qak c;refine⟨⟨by simp only;have:=h.sets;omega,h.ddt,by simp only;omega,h.safe,fun s hs=>?_,fun s hs=>?_⟩,?_,?_⟩
 ·obtain⟨t,ht,e1,e2,e3,_⟩:=hSm s hs;rw[e1];exact h.m8 t ht
 ·obtain⟨t,ht,e1,e2,e3,_⟩:=hSm s hs;rw[e2,e3];exact h.nm t ht
 ·have e1:qaF cur=qaF c.sets:=by
   unfold qaF;rw[List.flatMap_def,List.flatMap_def,hS.1]
  simp only[qak,Bool.and_eq_true]at hc ⊢;obtain⟨⟨⟨⟨⟨⟨⟨⟨⟨⟨⟨q1,q2⟩,q3⟩,q4⟩,q5⟩,q6⟩,q7⟩,q8⟩,q9⟩,q10⟩,q11⟩,q12⟩:=hc;refine⟨⟨⟨⟨⟨⟨⟨⟨⟨⟨⟨q1,q2⟩,q3⟩,by simpa using hYp.2⟩,q5⟩,q6⟩,q7⟩,hS.2.2 q8⟩,hYp.1⟩,by rw[hS.2.1];exact q10⟩,?_⟩,?_⟩
  ·simp only[qcO,qeK,nnS,e1]at q11 ⊢;exact q11
  ·simp only[qct]at q12 ⊢;rw[e1];exact q12
 ·obtain⟨a,ha,h1⟩:=hYf;simp only[Option.mem_def]at ha;have e:rs'.fr.headD 0=a:=by
   cases hx:rs'.fr with
   | nil=>rw[hx]at ha;simp at ha
   | cons y r=>rw[hx]at ha;simpa using ha
  simp only[qb0,e];rw[(qpk _ h1 (by omega)).2];exact h1.1
theorem qop (txg:Int) (t:List UInt8):∀ (l:List (List UInt8)) (r:RS),qcY txg (l++[t]) r=((qcY txg l r).1++[(qb0 txg (qcY txg l r).2 t).1],(qb0 txg (qcY txg l r).2 t).2)
 | [],r=>rfl
 | x::q,r=>by
  have:=qop txg t q (qb0 txg r x).2;simp only[qHS,qcY,this]
theorem qlY (txg:Int) (q:List (List UInt8)):∀ (l:List (List UInt8)) (r:RS),qcY txg (l++q) r=((qcY txg l r).1++(qcY txg q (qcY txg l r).2).1,(qcY txg q (qcY txg l r).2).2)
 | [],r=>rfl
 | x::l,r=>by
  have:=qlY txg q l (qb0 txg r x).2;simp only[qHS,qcY,this]
theorem qrw (txg:Int):∀ (l:List (List UInt8)) (r:RS),(qcY txg l r).2.fr=r.fr.drop l.length
 | [],r=>by simp[qcY]
 | t::q,r=>by
  simp only[qcY,qrw txg q,qb0,qGk];rw[← List.drop_one,qGc,qHo]
theorem qkA (txg:Int):∀ (l:List (List UInt8)) (r:RS),(qcY txg l r).1.length=l.length
 | [],r=>rfl
 | t::q,r=>by simp[qcY,qkA txg q]
theorem qlX (txg:Int):∀ (l:List (List UInt8)) (r:RS),qbr r.d=true→(∀ a∈r.fr,0≤a∧a<r.d.s0.length)→(∀ t∈l,t.length≤420)→r.ok=true→(qcY txg l r).2.ok=false→598<(qcY txg l r).2.d.late.length
 | [],r,_,_,_,h1,h2=>by simp only[qcY]at h2;rw[h1]at h2;cases h2
 | t::q,r,hd,hf,ht,h1,h2=>by
  obtain⟨D,fr,o⟩:=r;simp only at hd hf h1;subst h1;simp only[qcY,qb0,qIe]at h2 ⊢;have ha:0≤fr.headD 0∧fr.headD 0<D.s0.length:=by
   cases fr with
   | nil=>have:=(qbM hd).1;simp;omega
   | cons a r=>exact hf a (by simp)
  have hbo:=qb4 hd (fr.headD 0) t;have hno:=qyJ hd (a:=fr.headD 0) (t:=t);have hlt:=qnO hd ha (ht t (by simp));generalize qaw D (fr.headD 0) t=W at *
  obtain⟨E,b⟩:=W;simp only at hbo hno hlt h2 ⊢;cases b with
  | false =>
   have:=hno rfl;subst this;rw[(qfk hd (hlt rfl) q fr.tail).1];exact hlt rfl
  | true =>
   refine qlX txg q ⟨E,fr.tail,true⟩ hbo.1 (fun a h=>?_) (fun x hx=>ht x (by simp[hx])) rfl h2;simp only;rw[hbo.2];exact hf a (List.mem_of_mem_tail h)
theorem qrx (txg:Int):∀ (l:List (List UInt8)) (r:RS),qbr r.d=true→qbr (qcY txg l r).2.d=true∧(qcY txg l r).2.d.s0.length=r.d.s0.length
 | [],r,h=>⟨h,rfl⟩
 | t::q,r,h=>by
  have hbo:=qb4 h (r.fr.headD 0) t;have:=qrx txg q (qb0 txg r t).2 hbo.1;simp only[qcY];exact⟨this.1,this.2.trans hbo.2⟩
theorem qjP:∀ (k:Nat) (l:List DE),l.length≤k→qdm k l=(List.range (qaK 6 l.length)).map fun i=>qco ((l.drop (6 * i)).take 6)
 | 0,l,h=>by
  have:l=[]:=qHM (by omega);subst this;rfl
 | k+1,l,h=>by
  simp only[qdm];split
  ·rename_i e;subst e;rfl
  ·rename_i e;have hp:=qFZ.2 e;rw[qjP k (l.drop 6) (by simp;omega)];have:qaK 6 l.length=qaK 6 (l.drop 6).length+1:=by simp only[qaK,qFU];omega
   rw[this,List.range_succ_eq_map,qGs,qGA]
   congr 1
   refine qGD fun i _=>?_;simp only[Function.comp_apply,qGc];rw[show 6+6 * i=6 * (i+1) by omega]
def chT (l:List DE) (i:Fin (qaK 6 l.length)):List UInt8:=qco ((l.drop (6 * i)).take 6)
theorem qpD (l:List DE):qbV l=(List.finRange (qaK 6 l.length)).map (chT l):=by
 unfold qbV;rw[qjP _ l (qFM _)];apply qIp;intro i;by_cases h:i<qaK 6 l.length
 ·simp[h,chT]
 ·simp[h]
theorem ql8 (m:List PT) (h8:m.length=8):(qbk m).length≤420:=by
 have hj:=qgi [32] 29 (m.map qaT) (fun x hx=>by
  obtain⟨n,hn,rfl⟩:=qGt.1 hx;exact qbt n)
 rw[qeY];simp only[qG4,h8]at hj;split
 ·simp at hj;omega
 ·simp
def qFB (B:RS×CO×PT) (fr:List Int) (r:AV) (L':List (Nat×Ob)):Prop:=∃ (i3 i6:Nat) (c':CO) (j:Nat) (p:PT),i3∈[39,77,101,903]∧i6∈[1006,906]∧r=.tup [.agg p.row,.bool B.1.ok]∧L'=cmL B.1.d c' fr j i3 i6 ∧
 (B.1.ok=true→c'=B.2.1∧p=B.2.2)
theorem qj9 {txg:Int} {E:DK} (hE:qbr E=true) (hn:598<E.late.length) (c:CO) (r:RS) (h1:r.d=E) (h2:r.ok=false) (T:List (List UInt8)) (t:List UInt8) :
  (qb0 txg (if c.dirty=true then qcY txg T r else (c.parts,r)).2 t).2.d=E∧(qb0 txg (if c.dirty=true then qcY txg T r else (c.parts,r)).2 t).2.ok=false:=by
 obtain⟨D,fr,o⟩:=r;simp only at h1 h2;subst h1 h2;have h3:=qfk (txg:=txg) hE hn T fr;by_cases hd:c.dirty=true
 ·rw[if_pos hd];simp only[qb0,h3.1,h3.2,qI2,qgA hE hn,and_self]
 ·rw[if_neg hd];simp only[qb0,qI2,qgA hE hn,and_self]
def chS (c:CO) (cur:List CS) (F:List Int) (D:DK) (j:Nat) (ps:List PT):S :=
 ⟨mkT [(1,.ptr 1 0 0),(2,.ptr 2 0 0),(3,.ptr 3 0 0),(71,.fn 338 [.ptr 72 0 0,.ptr 73 0 0])],
  qaQ ((1,⟨1,[[.ptr 1000 0 0]]⟩)::(2,⟨3,[[.int .i64 0,.int .i64 0,.int .i64 0]]⟩)::(3,⟨1,[[.bool false]]⟩)::(72,⟨1,[[.sl 1005 0 c.ddt.length]]⟩)::(73,⟨1,[[.int .i64 6]]⟩)::cmL D ⟨c.txg,cur,c.ddt,ps,false,c.safe,c.logn⟩ F j 903 906),
  Us.of [1000,1001,1002,1003,1004,1005,1006,1007,1008,1,2,3,72,73,1000,1001,1002,903,1004,1005,906,1007,1008]⟩
def chL (c:CO) (cur:List CS) (F:List Int) (D:DK) (j:Nat) (ps:List PT) (i3 i6:Nat):List (Nat×Ob):=(1,⟨1,[[.ptr 1000 0 0]]⟩)::(2,⟨3,[[.int .i64 0,.int .i64 0,.int .i64 0]]⟩)::(3,⟨1,[[.bool false]]⟩)::cmL D ⟨c.txg,cur,c.ddt,ps,false,c.safe,c.logn⟩ F j i3 i6
def rdQ (c:CO) (cur:List CS) (F:List Int) (W:DK×Bool) (j:Nat) (ps:List PT) (p:PT) (e:Exit) (L':List (Nat×Ob)):Prop :=
 (e=.normal∧W.2=true∧L'=chL c cur F W.1 (j+1) (ps++[p]) 77 91) ∨
 (e=.ret∧W.2=false∧L'=chL c cur F W.1 j ps 77 906)
theorem qt9 (d:DK) (hd:qbr d=true) (c:CO) (h:CoT c) (hc:qak c=true) (hf:qcu c≤(qaV c d.s0.length).length) (ht:c.txg<1000000) :
  ACall prog 224 [.ptr 1000 0 0] (cmL d c (qaV c d.s0.length) 0 1003 1006) (qFB (qaq d c) (qaV c d.s0.length)):=by
 obtain⟨hm,k1,k2,k3,k4,k5,k6,k7⟩:=qbn hc;obtain⟨g1,g2,g3,g4,_⟩:=qbM hd;have hfl:=qmq c d.s0.length;have hfm:∀ a∈qaV c d.s0.length,13≤a∧a<d.s0.length:=fun a ha=>qi2 ha;obtain⟨X,hX⟩:∃ X,qbZ (c.txg+1) c.sets ⟨d,qaV c d.s0.length,true⟩=X:=⟨_,rfl⟩;obtain⟨B,hB⟩:∃ B,qaq d c=B:=⟨_,rfl⟩;rw[hB];unfold qaq at hB;simp only[hX]at hB;unfold qcu at hf;generalize hF:qaV c d.s0.length=F at *
 refine acx func224 [(6,[zJ 0 [1] [],zJ 1 [] [1],zJ 2 [] [1],zJ 3 [] [1],zJ 4 [1004] [1],⟨5,[],[1],[10],[]⟩,⟨6,[903,906,1000,1001,1002,1004,1005,1006,1007,1008],[],[10],[]⟩,zI 7,zI 8,zI 9,zJ 10 [] [1,1004],zI 11,zI 12]),(12,[zJ 0 [1] [],zJ 1 [1] [1],zJ 2 [] [1],zJ 3 [] [1],zJ 4 [] [1],zJ 5 [] [1],zI 6,zI 7,zI 8,zI 9]),(15,[zJ 0 [1] [],zJ 1 [] [1],⟨2,[1005],[1],[7],[]⟩,⟨3,[903,906,1000,1001,1002,1004,1005,1006,1007,1008],[],[7],[]⟩,zI 4,zI 5,zI 6,zJ 7 [] [1],zI 8,zI 9]),(18,[zJ 0 [1] [],zJ 1 [1] [1],zJ 2 [] [1],zJ 3 [] [1],zJ 4 [] [1],zJ 5 [1000] [1],zJ 6 [9] [1,1000],zJ 7 [] [1,1000],zJ 8 [] [1],zI 9,zI 10,zI 11,zI 12]),(19,[zJ 0 [1] [],zJ 1 [1] [1],zJ 2 [] [1],zJ 3 [] [1],zJ 4 [1000] [1],zJ 5 [906,1004,1005,1006,1007] [1],zJ 6 [903,906,1000,1001,1002,1004,1005,1006,1007,1008] [],zI 7,zI 8,zI 9,zI 10])] ntmps224 rfl rfl rfl ?_ (hL:=by simp[cmL]);simp[cmL,cmR];refine qaM (X:=Nat×List CS×DK×Nat) [1,2,3,16,17] [(1,1),(2,2),(3,3),(1000,1000),(1001,1001),(1002,1002),(1003,903),(1004,1004),(1005,1005),(1006,1006),(1007,1007),(1008,1008)] (fun x=>[(17,.int .i64 x.1)])
  (fun x=>(1,⟨1,[[.ptr 1000 0 0]]⟩)::(2,⟨3,[[.int .i64 0,.int .i64 0,.int .i64 0]]⟩)::(3,⟨1,[[.bool false]]⟩)::cmL x.2.2.1 ⟨c.txg,x.2.1,c.ddt,c.parts,c.dirty,c.safe,c.logn⟩ F x.2.2.2 903 1006) (fun x=>c.sets.length-x.1)
  (fun x=>x.1≤c.sets.length∧x.2.1.length=c.sets.length∧x.2.1.drop x.1=c.sets.drop x.1∧qbr x.2.2.1=true∧x.2.2.1.s0.length=d.s0.length∧x.2.2.2+qb7 (c.sets.drop x.1)+(1+if c.dirty=true then (qbV c.ddt).length else 0)≤F.length ∧
   (x.2.1.take x.1++(qbZ (c.txg+1) (c.sets.drop x.1) ⟨x.2.2.1,F.drop x.2.2.2,true⟩).1,(qbZ (c.txg+1) (c.sets.drop x.1) ⟨x.2.2.1,F.drop x.2.2.2,true⟩).2)=X) (0,c.sets,d,0) ⟨by simp,rfl,rfl,hd,rfl,by simp only[List.drop_zero];omega,by simpa using hX⟩ ?_ (he:=by simp[qah,cmL,cmR])
 rintro⟨i,cur,D,j⟩ ⟨hi,hcl,hcd,hok,hDl,hfr,hX2⟩;simp only at hi hcl hcd hok hDl hfr hX2;cases hr:c.sets.drop i with
 | nil =>
  have:=qaY hr;rw[hr]at hX2 hfr;have hie:i=c.sets.length:=by omega
  subst hie;rw[qGh (by omega)]at hX2;simp only[qbZ,qH6]at hX2;subst hX2;simp only at hB;have hm8:∀ s∈cur,s.map.length=8∧s.name.length≤1048576∧s.frm.length≤1048576:=fun s hs=>by
   have hq:=qd8 (c.txg+1) c.sets ⟨d,F,true⟩ s (by rw[hX];exact hs);obtain⟨t,ht,e1,e2,e3,_⟩:=hq;rw[e1,e2,e3];exact⟨h.m8 t ht,h.nm t ht⟩
  simp only[qb7,qIQ]at hfr;simp[qah,cmL,cmR];refine⟨fun hdt=>?_,fun hdt=>?_⟩
  ·refine qac [(1000,.whole 1005)] (by kernel_rfl) (qxT c.ddt) (by simp) (by simp) (by simp;exact qaa rfl (qbK _)) (by simp) (by simp) ?_;rintro r L' ⟨rfl,rfl⟩;refine⟨[(2,72),(3,73)],⟨by simp,by simp,by simp,by simp,by simp⟩,?_⟩;simp only[qaf];simp;simp only[hdt,if_true]at hB hfr;rw[qpD]at hB hfr;simp only[qG4,List.length_finRange]at hfr;obtain⟨Y,hY⟩:∃ Y:List (Fin (qaK 6 c.ddt.length))→List PT×RS,(fun pre=>qcY (c.txg+1) (pre.map (chT c.ddt)) ⟨D,F.drop j,true⟩)=Y:=⟨_,rfl⟩;have hYe:∀ pre,Y pre=qcY (c.txg+1) (pre.map (chT c.ddt)) ⟨D,F.drop j,true⟩:=fun pre=>by rw[← hY]
   have hYd:∀ pre,qbr (Y pre).2.d=true∧(Y pre).2.d.s0.length=D.s0.length:=fun pre=>by
    rw[hYe];exact qrx _ _ _ hok
   have hYf:∀ pre,(Y pre).2.fr=F.drop (j+pre.length):=fun pre=>by
    rw[hYe,qrw,qGc];simp
   have hYs:∀ pre i,Y (pre++[i])=((Y pre).1++[(qb0 (c.txg+1) (Y pre).2 (chT c.ddt i)).1],(qb0 (c.txg+1) (Y pre).2 (chT c.ddt i)).2):=fun pre i=>by
    rw[hYe,hYe,qH4];exact qop _ _ _ _
   refine qs7 (fun pre=>chS c cur F (Y pre).2.d (j+pre.length) (Y pre).1) quH (by kernel_rfl) (by omega) (len:=c.ddt.length) (by omega) ?_ (fun pre=>by simp[chS,opd]) (k1:=72) (k2:=73) (b:=1005) (fun pre=>by simp[chS,cmL]) (fun pre=>by simp[chS,cmL]) (fun pre=>⟨_,by simp[chS,cmL];rfl,rfl⟩) ?_ ?_
   ·have hY0:Y []=([],⟨D,F.drop j,true⟩):=by rw[hYe];rfl
    rw[hY0];exact(qeP 906 3 (by simp)).trans ((qdw 1000 6 (sz:=17) (row:=[.sl 1001 0 D.s0.length,.sl 1002 0 D.s1.length,.sl 903 0 D.late.length,.int .i64 c.txg,.sl 1004 0 cur.length,.sl 1005 0 c.ddt.length,.nils,.bool false,.sl 1007 0 c.safe.length,.int .i64 c.logn,.sl 1008 j (F.length-j),.nils,.nils,.nils,.nils,.nils,.nils]) (by simp[hcl]) (by simp) (qcK 906 0)).trans
     (qjA [1,2,3,71] [(1,1),(2,2),(3,3),(72,72),(73,73),(1000,1000),(1001,1001),(1002,1002),(903,903),(1004,1004),(1005,1005),(906,906),(1007,1007),(1008,1008)] (by simp[qae]) (by simp[qao,qah,chS,cmL,cmR,kpt,hcl])))
   ·intro pre i hpl;obtain⟨a,ha⟩:∃ a,F[j+pre.length]?=some a:=⟨_,qF3 (by omega)⟩;have hfd:F.drop (j+pre.length)=a::F.drop (j+pre.length+1):=by rw[qIZ,ha];rfl
    have hok':=(hYd pre).1;have hDl':=(hYd pre).2;have hstep:=hYs pre i;have hfr':=hYf pre;have hpsl:(Y pre).1.length=pre.length:=by rw[hYe,qkA];simp
    have hil:6 * i.1<c.ddt.length:=by have:=i.2;unfold qaK at this;omega
    generalize Y pre=y at *
    obtain⟨ps,⟨D',fr',ok'⟩⟩:=y;simp only at hok' hDl' hstep hfr' hpsl;subst hfr';simp only[qb0,hfd,qIT,qID]at hstep;have hbo:=qb4 hok' a (chT c.ddt i);have hno:=qyJ hok' (a:=a) (t:=chT c.ddt i);have htl:(chT c.ddt i).length≤420:=by
     have:=qhk ((c.ddt.drop (6 * i)).take 6);unfold chT;simp at this ⊢;omega
    have hlt:=qnO hok' (a:=a) (t:=chT c.ddt i) (by have:=hfm a (qHT ha);omega) htl;have cp:=qt5 D' hok' ⟨c.txg,cur,c.ddt,ps,false,c.safe,c.logn⟩ F (j+pre.length) a ha (by omega) (chT c.ddt i) (by omega) (by simp only;omega);have ct:=qsf ((c.ddt.drop (6 * i)).take 6) (by simp;omega);rw[show qco ((c.ddt.drop (6 * i)).take 6)=chT c.ddt i from rfl]at ct;refine⟨[1,2,3,8],chL c cur F D' (j+pre.length) ps 903 906,rdQ c cur F (qaw D' a (chT c.ddt i)) (j+pre.length) ps (qbP a (chT c.ddt i) (c.txg+1)),by simp,by simp[chL,cmL],by simp[chL,cmL],by simp[chL,cmL],?_,?_,?_,?_⟩
    ·simp[chL,cmL,qcc,chS]
    ·simp[chL,cmL,cmR,qcc,chS];exact⟨.inr ⟨_,_,rfl,rfl,by simp⟩,qaa rfl (by simp[clR]),qaa rfl (by simp[clR]),.inr ⟨_,_,rfl,rfl,by simp⟩,qaa rfl (qaO _),qaa rfl (qaO _),qaa rfl (qcU _),qaa rfl (qa5 _),qaa rfl (qbK _),qaa rfl (qbq _),qaa rfl (qaP _),qaa rfl (qaP _)⟩
    ·refine qbE _ ?_;simp[chL,cmL,cmR,chS];refine ct.view ?_ ?_
     ·simp[qb5,mtA,qaN,DE.row];refine⟨by omega,fun x hx=>?_⟩;obtain⟨e,_,rfl⟩:=qGt.1 (qIh (qHP hx));simp[DE.row]
     ·simp;refine qac [(1000,.whole 1000),(1001,.whole 1001),(1002,.whole 1002),(1003,.whole 903),(1004,.whole 1004),(1005,.whole 1005),(1006,.whole 906),(1007,.whole 1007),(1008,.whole 1008)] (by kernel_rfl) cp (by simp) (by simp) (by simp[cmL,cmR,hcl];exact⟨.inr ⟨_,_,rfl,rfl,by simp⟩,qaa rfl (qaO _),qaa rfl (qaO _),qaa rfl (qcU _),qaa rfl (qa5 _),qaa rfl (qbK _),qaa rfl (qbq _),qaa rfl (qaP _),qaa rfl (qaP _)⟩) (by simp[cmL]) (by simp) ?_;rintro r L' ⟨rfl,rfl⟩;refine⟨[(903,77)],⟨by simp[cmL],by simp,by simp,by simp[cmL],by simp⟩,?_⟩;simp only[qaf];generalize qaw D' a (chT c.ddt i)=W at *
      obtain⟨E,b⟩:=W;cases b with
      | false =>
       simp[cmL,cmR,PT.row];exact⟨chL c cur F E (j+pre.length) ps 77 906,by simp[chL,cmL,cmR,hcl],.inr ⟨rfl,rfl,rfl⟩⟩
      | true =>
       simp[cmL,cmR,PT.row,kpt];exact⟨by omega,chL c cur F E (j+pre.length+1) (ps++[qbP a (chT c.ddt i) (c.txg+1)]) 77 91,by simp[chL,cmL,cmR,hcl,kpt,PT.row,qGh],.inl ⟨rfl,rfl,rfl⟩⟩
    ·rintro e L' (⟨rfl,hb,rfl⟩ | ⟨rfl,hb,rfl⟩)
     ·refine⟨[(77,77),(91,91)],⟨by simp[chL,cmL],by simp,by simp[chS],by simp[chL,cmL,qcc],by simp[qcc,chL,cmL]⟩,?_⟩;rw[hstep];simp only[qod,qHe,qGk,qHf];generalize qaw D' a (chT c.ddt i)=W at *
      exact qjA [1,2,3,71] [(1,1),(2,2),(3,3),(72,72),(73,73),(1000,1000),(1001,1001),(1002,1002),(77,903),(1004,1004),(1005,1005),(91,906),(1007,1007),(1008,1008)] (by simp[qae,qaf,chL,cmL,chS,qcc]) (by simp[qao,qah,qaf,chS,chL,cmL,cmR,kpt,hcl,qcc];rfl)
     ·refine⟨[(77,77)],⟨by simp[chL,cmL],by simp,by simp[chS],by simp[chL,cmL,qcc],by simp[qcc,chL,cmL]⟩,?_⟩;rintro⟨k,hk⟩;have hD:=hno hb;have hla:=hlt hb;rw[hb,hD]at hstep;simp only[Bool.and_false]at hstep;have hBl:(qcY (c.txg+1) ((List.finRange (qaK 6 c.ddt.length)).map (chT c.ddt)) ⟨D,F.drop j,true⟩).2.d=D'∧(qcY (c.txg+1) ((List.finRange (qaK 6 c.ddt.length)).map (chT c.ddt)) ⟨D,F.drop j,true⟩).2.ok=false:=by
       have e:List.finRange (qaK 6 c.ddt.length)=(pre++[i])++(List.finRange (qaK 6 c.ddt.length)).drop k:=by rw[hk,qHX]
       rw[e,qH4,qlY,← hYe,hstep];exact qfk hok' hla _ _
      have hBk:=qj9 (txg:=c.txg+1) hok' hla ⟨c.txg,[],[],[],false,[],0⟩ _ hBl.1 hBl.2 [] (qaD ⟨c.txg,cur,c.ddt,(qcY (c.txg+1) ((List.finRange (qaK 6 c.ddt.length)).map (chT c.ddt)) ⟨D,F.drop j,true⟩).1,false,c.safe,c.logn⟩);simp only[qFY,if_false]at hBk;have hBd:B.1.d=D':=by rw[← hB];exact hBk.1
      have hBo:B.1.ok=false:=by rw[← hB];exact hBk.2
      rw[hD];simp[qaf,chS,chL,cmL,cmR,qcc];refine⟨cmL D' ⟨c.txg,cur,c.ddt,ps,false,c.safe,c.logn⟩ F (j+pre.length) 77 906,by simp[cmL,cmR,kcs,hcl],77,906,_,_,⟨0,0,0⟩,by simp,by simp,by rw[hBo];rfl,by rw[hBd],fun e=>by rw[hBo]at e;cases e⟩
   ·have hfl:(List.finRange (qaK 6 c.ddt.length)).length=qaK 6 c.ddt.length:=by simp
    have hYn:=hYe (List.finRange (qaK 6 c.ddt.length));rw[← hYn]at hB;have hfr':=hYf (List.finRange (qaK 6 c.ddt.length));have hok':=(hYd (List.finRange (qaK 6 c.ddt.length))).1;have hDl':=(hYd (List.finRange (qaK 6 c.ddt.length))).2;have hpsl:(Y (List.finRange (qaK 6 c.ddt.length))).1.length=qaK 6 c.ddt.length:=by rw[hYe,qkA];simp
    rw[hfl]at hfr' ⊢;generalize Y (List.finRange (qaK 6 c.ddt.length))=y at *
    obtain⟨ps,⟨D',fr',ok'⟩⟩:=y;simp only at hok' hDl' hfr' hpsl hB hYn;clear hYs hYf hYd hYe hY;clear Y;have hptl:=qlX (c.txg+1) ((List.finRange (qaK 6 c.ddt.length)).map (chT c.ddt)) ⟨D,F.drop j,true⟩ hok (fun a ha=>by have:=hfm a (qIh ha);simp only;omega) (fun t ht=>by
     obtain⟨i,_,rfl⟩:=qGt.1 ht;have:=qhk ((c.ddt.drop (6 * i)).take 6);unfold chT;simp at this ⊢;omega) rfl
    rw[← hYn]at hptl;simp only at hptl;clear hYn hfl;have hN:qaK 6 c.ddt.length≤8:=by unfold qaK;omega
    generalize qaK 6 c.ddt.length=N at *
    obtain⟨a,ha⟩:∃ a,F[j+N]?=some a:=⟨_,qF3 (by omega)⟩;have hfd:F.drop (j+N)=a::F.drop (j+N+1):=by rw[qIZ,ha];rfl
    obtain⟨c2,hc2⟩:∃ c2:CO,c2=⟨c.txg,cur,c.ddt,ps,false,c.safe,c.logn⟩:=⟨_,rfl⟩;have hT:CoT c2:=by
     subst hc2;exact⟨by simp only;omega,h.ddt,by simp only;omega,h.safe,fun s hs=>(hm8 s hs).1,fun s hs=>(hm8 s hs).2⟩
    have cr:=qr6 c2 hT;have hrl:(qaD c2).length≤1000000:=by
     have:=qdP c2;have k1:c2.sets.length≤1000:=by subst hc2;simp only;omega
     have k2:c2.parts.length≤1000:=by subst hc2;simp only;omega
     omega
    have cp:=qt5 D' hok' c2 F (j+N) a ha (by omega) (qaD c2) hrl (by subst hc2;simp only;omega);subst hfr';rw[← hc2]at hB;simp only[qb0,hfd,qIT]at hB;have hBo:ok'=false→qaw D' a (qaD c2)=(D',false):=fun e=>qgA hok' (hptl e) _ _;have cr':=cr;simp only[CO.row]at cr';simp[qfK,chS,cmL,cmR];refine cr'.view (by simp[qb5,mtA,kcs,qaN,kpt,kin,qal,qa1,hc2,hdt,hcl];rw[← hcl];exact qal _ _) ?_;simp;have hc2t:c2.txg=c.txg:=by rw[hc2]
    refine qac [(1000,.whole 1000),(1001,.whole 1001),(1002,.whole 1002),(1003,.whole 903),(1004,.whole 1004),(1005,.whole 1005),(1006,.whole 906),(1007,.whole 1007),(1008,.whole 1008)] (by kernel_rfl) cp (by simp) (by simp) (by simp[cmL,cmR,hc2,hdt,hcl];exact⟨.inr ⟨_,_,rfl,rfl,by simp⟩,qaa rfl (qaO _),qaa rfl (qaO _),qaa rfl (qcU _),qaa rfl (qa5 _),qaa rfl (qbK _),qaa rfl (qbq _),qaa rfl (qaP _),qaa rfl (qaP _)⟩) (by simp[cmL]) (by simp) ?_;rintro r L' ⟨rfl,rfl⟩;refine⟨[(903,101)],⟨by simp[cmL],by simp,by simp,by simp[cmL],by simp⟩,?_⟩;rw[hc2t];generalize qaw D' a (qaD c2)=W at *
    obtain⟨E,b⟩:=W;have hob:(ok' && b)=b:=by
     cases ok' with
     | true=>rfl
     | false=>have:=hBo rfl;injection this with _ e;subst e;rfl
    simp only[hob]at hB;simp only[qaf];simp[cmL,cmR,hcl,PT.row];subst hB;refine⟨cmL E c2 F (if b=true then j+N+1 else j+N) 101 906,by simp[cmL,cmR],101,906,c2,_,_,by simp,by simp,rfl,rfl,fun e=>⟨rfl,?_⟩⟩
    simp only at e;rw[if_pos e]
  ·simp only[hdt,qFY,if_false]at hB hfr;obtain⟨a,ha⟩:∃ a,F[j]?=some a:=⟨_,qF3 (by omega)⟩;have hfd:F.drop j=a::F.drop (j+1):=by rw[qIZ,ha];rfl
   obtain⟨c2,hc2⟩:∃ c2:CO,c2=⟨c.txg,cur,c.ddt,c.parts,false,c.safe,c.logn⟩:=⟨_,rfl⟩;have hT:CoT c2:=by
    subst hc2;exact⟨by simp only;omega,h.ddt,h.parts,h.safe,fun s hs=>(hm8 s hs).1,fun s hs=>(hm8 s hs).2⟩
   have cr:=qr6 c2 hT;have hrl:(qaD c2).length≤1000000:=by
    have:=qdP c2;have k1:c2.sets.length≤1000:=by subst hc2;simp only;omega
    have k2:c2.parts.length≤1000:=by subst hc2;simp only;omega
    omega
   have cp:=qt5 D hok c2 F j a ha (by omega) (qaD c2) hrl (by subst hc2;simp only;omega);rw[← hc2]at hB;simp only[qb0,hfd,qIT,qIe]at hB;have cr':=cr;simp only[CO.row]at cr';refine cr'.view (by simp[qb5,mtA,kcs,qaN,kpt,kin,qal,qa1,hc2,hdt,hcl];rw[← hcl];exact qal _ _) ?_;simp;have hc2t:c2.txg=c.txg:=by rw[hc2]
   refine qac [(1000,.whole 1000),(1001,.whole 1001),(1002,.whole 1002),(1003,.whole 903),(1004,.whole 1004),(1005,.whole 1005),(1006,.whole 1006),(1007,.whole 1007),(1008,.whole 1008)] (by kernel_rfl) cp (by simp) (by simp) (by simp[cmL,cmR,hc2,hdt,hcl];exact⟨.inr ⟨_,_,rfl,rfl,by simp⟩,qaa rfl (qaO _),qaa rfl (qaO _),qaa rfl (qcU _),qaa rfl (qa5 _),qaa rfl (qbK _),qaa rfl (qbq _),qaa rfl (qaP _),qaa rfl (qaP _)⟩) (by simp[cmL]) (by simp) ?_;rintro r L' ⟨rfl,rfl⟩;refine⟨[(903,101)],⟨by simp[cmL],by simp,by simp,by simp[cmL],by simp⟩,?_⟩;rw[hc2t];generalize qaw D a (qaD c2)=W at *
   obtain⟨E,b⟩:=W;simp only[qaf];simp[cmL,cmR,hcl,PT.row];subst hB;refine⟨cmL E c2 F (if b=true then j+1 else j) 101 1006,by simp[cmL,cmR],101,1006,c2,_,_,by simp,by simp,rfl,rfl,fun e=>⟨rfl,?_⟩⟩
   simp only at e;rw[if_pos e]
 | cons s q =>
  obtain⟨x1,e0,e1,x3⟩:=qaZ hr;have hli:(i:Int)<c.sets.length:=by omega
  have e2:=qap ((i:Int)+1) (by omega) (by omega);have hsm:=qHT e1;have h8:=h.m8 s hsm;have hcs:cur[i]?=some s:=by
   have:=congrArg (fun l:List CS=>l[0]?) hcd;simp only[qGr,qGY]at this;rw[this];exact e1
  have hcs':=(qGy.1 hcs).2;have hil:i<cur.length:=by omega
  have hcl':=hcl;have hx30:=qj0 s h8;have hx30':=(qGy.1 hx30).2;rw[hr]at hX2 hfr;simp[qah,cmL,cmR,kcs,hcs,hcs',hcl,hil,x1,hli,qaC s h8,hx30,hx30'];refine⟨fun q1=>?_,fun q1=>?_⟩
  ·simp only[qb7,qIk,q1,qbZ]at hfr hX2;refine nx (i+1,cur,D,j) [(1,1),(2,2),(3,3),(1000,1000),(1001,1001),(1002,1002),(903,903),(1004,1004),(1005,1005),(1006,1006),(1007,1007),(1008,1008)] ⟨by simp only;omega,hcl,by simp only;rw[← List.drop_drop,← List.drop_drop,hcd],hok,hDl,by simp only[x3,qb7];simpa using hfr,?_⟩ (by simp only;omega) (h4:=by simp[qah,e2,cmL,cmR,kcs,hcl]);simp only[x3];rw[qgH hcs,List.append_assoc];exact hX2
  ·obtain⟨a,ha⟩:∃ a,F[j]?=some a:=by
    have:j<F.length:=by simp only[qb7,qIk,q1,if_true]at hfr;omega
    exact⟨_,qF3 this⟩
   have c2:=qsi s.map h8;have cp:=qt5 D hok ⟨c.txg,cur,c.ddt,c.parts,c.dirty,c.safe,c.logn⟩ F j a ha (by omega) (qbk s.map) (by have:=qiQ s.map h8;omega) (by simp only;omega);rw[qgx s h8];refine c2.call ?_;simp;refine qac [(1000,.whole 1000),(1001,.whole 1001),(1002,.whole 1002),(1003,.whole 903),(1004,.whole 1004),(1005,.whole 1005),(1006,.whole 1006),(1007,.whole 1007),(1008,.whole 1008)] (by kernel_rfl) cp (by simp) (by simp) (by simp[cmL,cmR,hcl];exact⟨.inr ⟨_,_,rfl,rfl,by simp⟩,qaa rfl (qaO _),qaa rfl (qaO _),qaa rfl (qcU _),⟨rfl,qaa rfl (qa5 _)⟩,qaa rfl (qbK _),qaa rfl (qbq _),qaa rfl (qaP _),qaa rfl (qaP _)⟩) (by simp[cmL]) (by simp) ?_;rintro r L' ⟨rfl,rfl⟩;refine⟨[(903,39)],⟨by simp[cmL],by simp,by simp,by simp[cmL],by simp⟩,?_⟩;simp only[qaf];simp[cmL,cmR,hcl];have hbo:=qb4 hok a (qbk s.map);have hno:=qyJ hok (a:=a) (t:=qbk s.map);have hlt:=qnO hok (a:=a) (t:=qbk s.map) (by have:=hfm a (qHT ha);omega) (by have:=ql8 s.map h8;omega);have hfd:F.drop j=a::F.drop (j+1):=by rw[qIZ,ha];rfl
   simp only[qbZ,q1,if_true,qb0,hfd,qIT,qID]at hX2;simp only[qb7,qIk,q1,if_true]at hfr;generalize qaw D a (qbk s.map)=W at *
   obtain⟨E,b⟩:=W;simp only at hbo hno hlt hX2;cases b with
   | false =>
    have hst:=qfP (txg:=c.txg+1) hok (hlt rfl) q (F.drop (j+1));have hED:=hno rfl;subst hED;simp only[Bool.and_false]at hX2;have hBk:=qj9 (txg:=c.txg+1) hok (hlt rfl) c X.2 (by rw[← hX2];exact hst.1) (by rw[← hX2];exact hst.2) (qbV c.ddt) (qaD ⟨c.txg,X.1,c.ddt,(if c.dirty=true then qcY (c.txg+1) (qbV c.ddt) X.2 else (c.parts,X.2)).1,false,c.safe,c.logn⟩)
    have hBd:B.1.d=E:=by rw[← hB];exact hBk.1
    have hBo:B.1.ok=false:=by rw[← hB];exact hBk.2
    simp;refine⟨cmL E ⟨c.txg,cur,c.ddt,c.parts,c.dirty,c.safe,c.logn⟩ F j 39 1006,by simp[cmL,cmR,kcs,hcl],39,1006,_,j,⟨0,0,0⟩,by simp,by simp,by rw[hBo];rfl,by rw[hBd],fun e=>by rw[hBo]at e;cases e⟩
   | true =>
    simp[PT.row,hil,qaC s h8,kcs,hcs,hcs'];refine nx (i+1,cur.set i ⟨s.name,s.kind,s.frm,s.map,qbP a (qbk s.map) (c.txg+1),false⟩,E,j+1) [(1,1),(2,2),(3,3),(1000,1000),(1001,1001),(1002,1002),(39,903),(1004,1004),(1005,1005),(1006,1006),(1007,1007),(1008,1008)]
     ⟨by simp only;omega,by simpa using hcl,by simp only;rw[qIU (by omega),← List.drop_drop,← List.drop_drop,hcd],hbo.1,by simp only;omega,by simp only[x3,qb7];omega,?_⟩ (by simp only;omega) (h4:=?_)
    ·simp only[x3];rw[qlC hil,List.append_assoc];exact hX2
    ·simp[qah,kcs,qaC s h8,e2,cmL,cmR,hcl,hcs];rw[qvM s h8,qfj]
def qFC (B:RS×CO×PT) (fr:List Int) (r:AV) (L':List (Nat×Ob)):Prop:=∃ (c':CO) (j:Nat) (p:PT),r=.tup [.agg p.row,.bool B.1.ok]∧L'=cmL B.1.d c' fr j 903 906∧(B.1.ok=true→c'=B.2.1∧p=B.2.2)
theorem qua (d:DK) (hd:qbr d=true) (c:CO) (h:CoT c) (hc:qak c=true) (hf:qcu c≤(qaV c d.s0.length).length) (ht:c.txg<1000000) :
  ACall prog 224 [.ptr 1000 0 0] (cmL d c (qaV c d.s0.length) 0 1003 1006) (qFC (qaq d c) (qaV c d.s0.length)):=by
 refine(qt9 d hd c h hc hf ht).can ?_;rintro r L' ⟨i3,i6,c',j,p,h3,h6,rfl,rfl,hq⟩;refine⟨[(1000,1000),(1001,1001),(1002,1002),(i3,903),(1004,1004),(1005,1005),(i6,906),(1007,1007),(1008,1008)],?_,?_,?_,?_,c',j,p,?_,?_,hq⟩
 all_goals
  simp only[qHq,qHz,or_false]at h3 h6;rcases h3 with rfl | rfl | rfl | rfl <;> rcases h6 with rfl | rfl
 all_goals simp[cmL,cmR,qah,PT.row]
def cmT (d:DK) (c:CO) (n j i3 i7:Nat) (tl:List AV):List AV:=.sl 1001 0 d.s0.length::.sl 1002 0 d.s1.length::.sl i3 0 d.late.length::.int .i64 c.txg::.sl 1004 0 c.sets.length::.sl 1005 0 c.ddt.length::.sl 906 0 c.parts.length::.bool c.dirty::.sl i7 0 c.safe.length::.int .i64 c.logn::.sl 1008 j (n-j)::tl
def cmO (d:DK) (c:CO) (fr:List Int) (j i3 i7:Nat) (tl:List AV) (fd:DK):List (Nat×Ob) :=
 [(1000,⟨17,[cmT d c fr.length j i3 i7 tl]⟩),(1001,qas d.s0),(1002,qas d.s1),(i3,qcE d.late),(1004,kcs c.sets),(1005,qaN c.ddt),(906,kpt c.parts),(i7,kin c.safe),(1008,kin fr),(911,qas fd.s0),(912,qas fd.s1),(913,qcE fd.late)]
def qjl (ld:DK):List (Nat×Ob):=[(921,qas ld.s0),(922,qas ld.s1),(923,qcE ld.late)]
def ldB (d:DK) (c:CO):DK:=(qhK (qbB (qaq d c).1.d) (c.txg+1) (qaq d c).2.2).1
def rnQ (x3 x7:List Nat) (bd:DK) (bok:Bool) (ld:DK) (Z:DK×CO×Int) (fr:List Int) (r:AV) (L':List (Nat×Ob)):Prop :=
 (bok=false∧r=.bool false∧∃ c' j,L'=cmO bd c' fr j 903 1007 (qcF bd 911 912 913++qcF bd 911 912 913) bd) ∨
 (bok=true∧r=.bool (decide (Z.2.2=0))∧∃ D c' j i3 i7,i3∈x3∧i7∈x7∧L'=cmO D c' fr j i3 i7 (qcF bd 911 912 913++qcF ld 921 922 923) bd++qjl ld∧(Z.2.2=0→D=Z.1∧c'=Z.2.1))
theorem qD7 (d:DK) (hd:qbr d=true) (c:CO) (h:CoT c) (hc:qak c=true) (hf:qcu c≤(qaV c d.s0.length).length) (ht:c.txg<1000000) :
  ACall prog 112 [.ptr 1000 0 0] (cmL d c (qaV c d.s0.length) 0 1003 1006) (rnQ [903] [907] (qaq d c).1.d (qaq d c).1.ok (ldB d c) (qd3 d c) (qaV c d.s0.length)):=by
 obtain⟨hm,k1,k2,k3,k4,k5,k6,k7⟩:=qbn hc;have cb:=qua d hd c h hc hf ht;have hbo:=qjg hd c;obtain⟨hbT,hbc,hbp⟩:=qyE hd h hc hf ht;have hbt:(qaq d c).2.1.txg=c.txg:=rfl;obtain⟨Z,hZ⟩:∃ Z,qd3 d c=Z:=⟨_,rfl⟩;obtain⟨ld,hld⟩:∃ ld,ldB d c=ld:=⟨_,rfl⟩;rw[hZ,hld];unfold ldB at hld;unfold qd3 at hZ;have key:ACall prog 112 [.ptr 1000 0 0] (cmL d c (qaV c d.s0.length) 0 1003 1006) (rnQ [47,61] [1007,72] (qaq d c).1.d (qaq d c).1.ok ld Z (qaV c d.s0.length)):=by
  generalize qaq d c=B at *
  obtain⟨⟨BD,bfr,bok⟩,Bc,Bp⟩:=B;simp only at hbo hbT hbc hbp hbt hld hZ ⊢;obtain⟨hb1,hb2,hb3,hb4,_⟩:=qbM hbo.1;have hbd:=qeA hbo.1;generalize qaV c d.s0.length=F at *
  have cown:=qiX BD hbd;simp only[DK.row]at cown;refine acx func112 [(8,[zI 0,zI 1,zI 2,zI 3,zI 4,zI 5,zI 6,zJ 7 [3] [],zI 8,zJ 9 [903,1000,1001,1002] [],zI 10]),(13,[zI 0,zI 1,zI 2,zI 3,zI 4,zI 5,zI 6,zJ 7 [1000] [],zJ 8 [] [1000],zJ 9 [3] [1000],zJ 10 [906,1000,1004,1005,1007] [],zI 11,zI 12,zI 13,zI 14,zI 15,zI 16,zI 17,zI 18,zI 19,zI 20,zI 21,zI 22])] ntmps112 rfl rfl rfl ?_ (hL:=by simp[cmL]);simp[cmL,cmR];refine qac [(1000,.whole 1000),(1001,.whole 1001),(1002,.whole 1002),(1003,.whole 1003),(1004,.whole 1004),(1005,.whole 1005),(1006,.whole 1006),(1007,.whole 1007),(1008,.whole 1008)] (by kernel_rfl) cb (by simp) (by simp) (by simp[cmL,cmR];exact⟨.inr ⟨_,_,rfl,rfl,by simp⟩,qaa rfl (qaO _),qaa rfl (qaO _),qaa rfl (qcU _),qaa rfl (qa5 _),qaa rfl (qbK _),qaa rfl (qbq _),qaa rfl (qaP _),qaa rfl (qaP _)⟩) (by simp[cmL]) (by simp) ?_;rintro r L' ⟨c',j,p,rfl,rfl,hq⟩;simp only at hq;refine⟨[(903,903),(906,906)],⟨by simp[cmL],by simp,by simp,by simp[cmL],by simp⟩,?_⟩;simp only[qaf];simp[cmL,cmR,PT.row];refine qaS [] (by kernel_rfl) cown (by simp[qb5,mtA,qas,qcE,qal,qai,LT.row]) (by simp) trivial (by simp) (by simp) ?_;rintro r L' ⟨rfl,rfl⟩;refine⟨by simp,by simp[qas,qai,qcE,LT.row],[(6,911),(10,912),(14,913)],⟨by simp,by simp,by simp,by simp,by simp⟩,?_⟩;simp only[qaf];simp;cases bok with
  | false =>
   simp;exact⟨cmO BD c' F j 903 1007 (qcF BD 911 912 913++qcF BD 911 912 913) BD,by simp[cmO,cmT,qcF],.inl ⟨rfl,rfl,c',j,rfl⟩⟩
  | true =>
   obtain⟨rfl,rfl⟩:=hq rfl;have hfo:=qgn hbo.1;have cf:=qse BD hbo.1;have cu:=qvr (c'.txg+1) p;have hul:=qhr (c'.txg+1) p;have cw:=qsj (qbB BD) hfo.1 (1+(c'.txg+1) % 4) (qa9 (c'.txg+1) p) (by omega);have hro:=qb4 hfo.1 (1+(c'.txg+1) % 4) (qa9 (c'.txg+1) p);have e1:=qap (c'.txg+1) (by omega) (by omega);have e2:=qap ((c'.txg+1) % 4) (by omega) (by omega);have e3:=qap (1+(c'.txg+1) % 4) (by omega) (by omega);have q2:(c'.txg+1).tmod 4=(c'.txg+1) % 4:=qIy (by omega);rw[← hbt]at hZ hld;simp only[qhK]at hZ hld;obtain⟨W,hW⟩:∃ W,qaw (qbB BD) (1+(c'.txg+1) % 4) (qa9 (c'.txg+1) p)=W:=⟨_,rfl⟩;simp only[hW]at hZ hld cw hro;clear hW;obtain⟨G,gb⟩:=W;simp only at hld;subst hld;obtain⟨FD,hFD⟩:∃ FD,qbB BD=FD:=⟨_,rfl⟩;simp only[hFD]at hfo cf cw hro;simp;refine qac [(1000,.sub 1000 0 0 3),(1001,.whole 1001),(1002,.whole 1002),(1003,.whole 903)] (by kernel_rfl) cf (by simp) (by simp) (by simp[qb9,qcF];exact⟨⟨_,_,rfl,rfl,by simp,by simp,rfl,rfl,by simp⟩,qaa rfl (qaO _),qaa rfl (qaO _),qaa rfl (qcU _)⟩) (by simp[qb9]) (by simp) ?_;rintro r L' ⟨rfl,rfl⟩;refine⟨[(903,31)],⟨by simp[qb9],by simp,by simp,by simp[qb9],by simp[qb9,qcF]⟩,?_⟩;simp only[qaf];simp[qb9,qcF,e1,q2,e2,e3,PT.row];have hGT:=qeA hro.1;have cog:=qiX G hGT;simp only[DK.row]at cog;simp only[PT.row]at cu;refine cu.call ?_;simp;refine qac [(1000,.sub 1000 0 0 3),(1001,.whole 1001),(1002,.whole 1002),(1003,.whole 31)] (by kernel_rfl) cw (by simp) (by simp) (by simp[qb9,qcF];exact⟨⟨_,_,rfl,rfl,by simp,by simp,rfl,rfl,by simp⟩,qaa rfl (qaO _),qaa rfl (qaO _),qaa rfl (qcU _)⟩) (by simp[qb9]) (by simp) ?_;rintro r L' ⟨rfl,rfl⟩;refine⟨[(903,47)],⟨by simp[qb9],by simp,by simp,by simp[qb9],by simp[qb9,qcF]⟩,?_⟩;simp only[qaf];simp[qb9,qcF];refine qaS [] (by kernel_rfl) cog (by simp[qb5,mtA,qas,qcE,qal,qai,LT.row]) (by simp) trivial (by simp) (by simp) ?_;rintro r L' ⟨rfl,rfl⟩;refine⟨by simp,by simp[qas,qai,qcE,LT.row],[(6,921),(10,922),(14,923)],⟨by simp,by simp,by simp,by simp,by simp⟩,?_⟩;simp only[qaf];simp;rw[if_neg (by simp)]at hZ;cases gb with
   | false =>
    simp;rw[if_pos rfl]at hZ;subst hZ;exact⟨cmO G c' F j 47 1007 (qcF BD 911 912 913++qcF G 921 922 923) BD++qjl G,by simp[cmO,cmT,qcF,qjl],.inr ⟨rfl,rfl,G,c',j,47,1007,by simp,by simp,rfl,fun e=>by cases e⟩⟩
   | true =>
    rw[if_neg (by simp)]at hZ;have hGf:=qgn hro.1;have cg:=qse G hro.1;have crch:=qr8 c' hbT hbc p.pa;have hbT':=hbT;subst hZ;simp;refine qac [(1000,.sub 1000 0 0 3),(1001,.whole 1001),(1002,.whole 1002),(1003,.whole 47)] (by kernel_rfl) cg (by simp) (by simp) (by simp[qb9,qcF];exact⟨⟨_,_,rfl,rfl,by simp,by simp,rfl,rfl,by simp⟩,qaa rfl (qaO _),qaa rfl (qaO _),qaa rfl (qcU _)⟩) (by simp[qb9]) (by simp) ?_;rintro r L' ⟨rfl,rfl⟩;refine⟨[(903,61)],⟨by simp[qb9],by simp,by simp,by simp[qb9],by simp[qb9,qcF]⟩,?_⟩;simp only[qaf];simp only[CO.row]at crch;simp[qb9,qcF];refine qaS [] (by kernel_rfl) crch (by simp[qb5,mtA,kcs,qaN,kpt,kin,qal,qa1]) (by simp) trivial (by simp) (by simp) ?_;rintro r L' ⟨rfl,rfl⟩;refine⟨by simp,by simp[kin,qad],[(900,72)],⟨by simp,by simp,by simp,by simp,by simp⟩,?_⟩;simp only[qaf];simp;exact⟨cmO (qbB G) ⟨c'.txg+1,c'.sets,c'.ddt,c'.parts,c'.dirty,qcf c' p.pa,0⟩ F j 61 72 (qcF BD 911 912 913++qcF G 921 922 923) BD++qjl G,by simp[cmO,cmT,qcF,qjl],.inr ⟨rfl,rfl,_,_,j,61,72,by simp,by simp,rfl,fun e=>⟨rfl,rfl⟩⟩⟩
 refine key.can ?_;rintro r L' (⟨h1,rfl,c',j,rfl⟩ | ⟨h1,rfl,D,c',j,i3,i7,h3,h7,rfl,hq⟩)
 ·refine⟨[(1000,1000),(1001,1001),(1002,1002),(903,903),(1004,1004),(1005,1005),(906,906),(1007,1007),(1008,1008),(911,911),(912,912),(913,913)],by simp[cmO],by simp,by simp[cmO],by simp,.inl ⟨h1,by simp,c',j,?_⟩⟩;simp[cmO,cmT,qcF,qah]
 ·refine⟨[(1000,1000),(1001,1001),(1002,1002),(i3,903),(1004,1004),(1005,1005),(906,906),(i7,907),(1008,1008),(911,911),(912,912),(913,913),(921,921),(922,922),(923,923)],?_,?_,?_,?_,.inr ⟨h1,by simp,D,c',j,903,907,by simp,by simp,?_,hq⟩⟩
  all_goals
   simp only[qHq,qHz,or_false]at h3 h7;rcases h3 with rfl | rfl <;> rcases h7 with rfl | rfl
  all_goals simp[cmO,cmT,qjl,qcF,qah,cmL,cmR]
end Go.Av.F
end
