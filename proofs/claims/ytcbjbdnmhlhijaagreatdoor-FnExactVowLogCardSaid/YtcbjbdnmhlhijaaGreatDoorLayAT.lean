/- Lemmas for the proof, no statement of the seat; no conditions. -/
import Derived.Test.YtcbjbdnmhlhijaaGreatDoorLayAS
import Derived.Shelf.Strings.OnBuilder
import Derived.Shelf.LaysM
import Derived.Shelf.LaysC
import Derived.Shelf.Sort.Plain
import Derived.Test.YtcbjbdnmhlhijaaGreatDoorProg
import Derived.Lib.SlicesCompact
set_option linter.unusedSimpArgs false
set_option linter.unusedVariables false
set_option linter.unnecessarySimpa false
set_option maxRecDepth 100000
section
namespace Go.Proofs
open Go.Shelf Go.RowKit Go.Sort Go.Lib
def Tryz.lays156_ren:Go.Shelf.Ren:=⟨fun | 156=>279 | 165=>328 | 166=>329 | 169=>330 | 240=>371 | 241=>372 | 276=>395 | 277=>396 | n=>n,fun | 31=>22 | 9=>9 | 3=>3 | 4=>4 | 0=>0 | 20=>20 | 72=>326 | 76=>259 | 70=>324 | 37=>294 | 75=>258 | 127=>359 | 164=>377 | 5=>5 | 80=>328 | n=>n,fun | n=>n⟩
theorem Tryz.lays156:Go.Proofs.Lays.n156 Tryz.prog Tryz.lays156_ren:={
 mixed:=by kernel_rfl
 f156:=Tryz.func279.trans (congrArg some (by kernel_rfl))
 f165:=Tryz.func328.trans (congrArg some (by kernel_rfl))
 f166:=Tryz.func329.trans (congrArg some (by kernel_rfl))
 f169:=Tryz.func330.trans (congrArg some (by kernel_rfl))
 f240:=Tryz.func371.trans (congrArg some (by kernel_rfl))
 f241:=Tryz.func372.trans (congrArg some (by kernel_rfl))
 f276:=Tryz.func395.trans (congrArg some (by kernel_rfl))
 f277:=Tryz.func396.trans (congrArg some (by kernel_rfl))
 t0:=Tryz.underlying0
 a0:=Tryz.isAgg0
 z0:=Tryz.sizeOf0
 v0:=Tryz.zeroValue0
 t3:=Tryz.underlying3
 a3:=Tryz.isAgg3
 z3:=Tryz.sizeOf3
 v3:=Tryz.zeroValue3
 t4:=Tryz.underlying4
 a4:=Tryz.isAgg4
 z4:=Tryz.sizeOf4
 v4:=Tryz.zeroValue4
 t9:=Tryz.underlying9
 a9:=Tryz.isAgg9
 z9:=Tryz.sizeOf9
 v9:=Tryz.zeroValue9
 t20:=Tryz.underlying20
 a20:=Tryz.isAgg20
 z20:=Tryz.sizeOf20
 v20:=Tryz.zeroValue20
 t31:=Tryz.underlying22
 a31:=Tryz.isAgg22
 z31:=Tryz.sizeOf22
 v31:=Tryz.zeroValue22
 t37:=Tryz.underlying294
 a37:=Tryz.isAgg294
 z37:=Tryz.sizeOf294
 v37:=Tryz.zeroValue294
 t70:=Tryz.underlying324
 a70:=Tryz.isAgg324
 z70:=Tryz.sizeOf324
 v70:=Tryz.zeroValue324
 t72:=Tryz.underlying326
 a72:=Tryz.isAgg326
 z72:=Tryz.sizeOf326
 v72:=Tryz.zeroValue326
 t75:=Tryz.underlying258
 a75:=Tryz.isAgg258
 z75:=Tryz.sizeOf258
 v75:=Tryz.zeroValue258
 t76:=Tryz.underlying259
 a76:=Tryz.isAgg259
 z76:=Tryz.sizeOf259
 v76:=Tryz.zeroValue259
 t127:=Tryz.underlying359
 a127:=Tryz.isAgg359
 z127:=Tryz.sizeOf359
 v127:=Tryz.zeroValue359
 t164:=Tryz.underlying377
 a164:=Tryz.isAgg377
 z164:=Tryz.sizeOf377
 v164:=Tryz.zeroValue377 }
theorem Tryz.Builder_Extra_156:Builder.Extra Tryz.prog Tryz.lays156_ren:={
 sizeBuilder:=by kernel_rfl
 liesBuilder:=by kernel_rfl
 t5:=Tryz.underlying5
 a5:=Tryz.isAgg5
 z5:=Tryz.sizeOf5
 v5:=Tryz.zeroValue5
 infoByte:=by kernel_rfl
 cellsByte:=by kernel_rfl
 sizeByte:=by kernel_rfl
 neB5:=by decide }
theorem Tryz.strings_Join_none (a:Option Addr) (c:Nat) (sep:ByteArray) (w:World) :
  Calls Tryz.prog 279 #[.slice a 0 c,.string sep] w fun e w'=>e=.returned (.string ⟨#[]⟩)∧w'=w:=Any.strings_Join_none Tryz.lays156 Tryz.Builder_Extra_156 a c sep w
theorem Tryz.strings_Join (bk o c:Nat) (xs:List ByteArray) (sep:ByteArray) (w:World) (hcells:∀ (j:Nat) x,xs[j]?=some x→w.cell? ⟨bk,o+j,none⟩=some (.string x)) (hbk:bk<w.heap.size) (hN:xs.length≤140737488355328) (hcap:xs.length≤c) (hlen:(Lib.join (xs.map (·.data.toList)) sep.data.toList).length≤140737488355328) :
  Calls Tryz.prog 279 #[.slice (some ⟨bk,o,none⟩) xs.length c,.string sep] w fun e w'=>e=.returned (.string ⟨(Lib.join (xs.map (·.data.toList)) sep.data.toList).toArray⟩)∧Below w.heap.size w w':=Any.strings_Join Tryz.lays156 Tryz.Builder_Extra_156 bk o c xs sep w hcells hbk hN hcap hlen
def Tryz.lays189_ren:Go.Shelf.Ren:=⟨fun | 189=>225 | 125=>304 | 257=>303 | 128=>347 | 129=>348 | 294=>338 | 295=>339 | 296=>340 | 297=>341 | 298=>342 | 299=>343 | 216=>344 | 300=>345 | 301=>346 | 328=>377 | 329=>378 | 330=>379 | 331=>380 | 332=>381 | 215=>382 | 343=>402 | n=>n,fun | 28=>30 | 3=>3 | 46=>308 | 0=>0 | 51=>340 | 53=>342 | 4=>4 | 183=>334 | 182=>333 | 131=>117 | 5=>5 | 9=>9 | 218=>363 | 222=>367 | 228=>384 | 229=>385 | n=>n,fun | n=>n⟩
theorem Tryz.lays189:Go.Proofs.Lays.n189 Tryz.prog Tryz.lays189_ren:={
 mixed:=by kernel_rfl
 f125:=Tryz.func304.trans (congrArg some (by kernel_rfl))
 f128:=Tryz.func347.trans (congrArg some (by kernel_rfl))
 f129:=Tryz.func348.trans (congrArg some (by kernel_rfl))
 f189:=Tryz.func225.trans (congrArg some (by kernel_rfl))
 f215:=Tryz.func382.trans (congrArg some (by kernel_rfl))
 f216:=Tryz.func344.trans (congrArg some (by kernel_rfl))
 f257:=Tryz.func303.trans (congrArg some (by kernel_rfl))
 f294:=Tryz.func338.trans (congrArg some (by kernel_rfl))
 f295:=Tryz.func339.trans (congrArg some (by kernel_rfl))
 f296:=Tryz.func340.trans (congrArg some (by kernel_rfl))
 f297:=Tryz.func341.trans (congrArg some (by kernel_rfl))
 f298:=Tryz.func342.trans (congrArg some (by kernel_rfl))
 f299:=Tryz.func343.trans (congrArg some (by kernel_rfl))
 f300:=Tryz.func345.trans (congrArg some (by kernel_rfl))
 f301:=Tryz.func346.trans (congrArg some (by kernel_rfl))
 f328:=Tryz.func377.trans (congrArg some (by kernel_rfl))
 f329:=Tryz.func378.trans (congrArg some (by kernel_rfl))
 f330:=Tryz.func379.trans (congrArg some (by kernel_rfl))
 f331:=Tryz.func380.trans (congrArg some (by kernel_rfl))
 f332:=Tryz.func381.trans (congrArg some (by kernel_rfl))
 f343:=Tryz.func402.trans (congrArg some (by kernel_rfl))
 t0:=Tryz.underlying0
 a0:=Tryz.isAgg0
 z0:=Tryz.sizeOf0
 v0:=Tryz.zeroValue0
 t3:=Tryz.underlying3
 a3:=Tryz.isAgg3
 z3:=Tryz.sizeOf3
 v3:=Tryz.zeroValue3
 t4:=Tryz.underlying4
 a4:=Tryz.isAgg4
 z4:=Tryz.sizeOf4
 v4:=Tryz.zeroValue4
 t5:=Tryz.underlying5
 a5:=Tryz.isAgg5
 z5:=Tryz.sizeOf5
 v5:=Tryz.zeroValue5
 t9:=Tryz.underlying9
 a9:=Tryz.isAgg9
 z9:=Tryz.sizeOf9
 v9:=Tryz.zeroValue9
 t28:=Tryz.underlying30
 a28:=Tryz.isAgg30
 z28:=Tryz.sizeOf30
 v28:=Tryz.zeroValue30
 t46:=Tryz.underlying308
 a46:=Tryz.isAgg308
 z46:=Tryz.sizeOf308
 v46:=Tryz.zeroValue308
 t51:=Tryz.underlying340
 a51:=Tryz.isAgg340
 z51:=Tryz.sizeOf340
 v51:=Tryz.zeroValue340
 t53:=Tryz.underlying342
 a53:=Tryz.isAgg342
 z53:=Tryz.sizeOf342
 v53:=Tryz.zeroValue342
 t131:=Tryz.underlying117
 a131:=Tryz.isAgg117
 z131:=Tryz.sizeOf117
 v131:=Tryz.zeroValue117
 t182:=Tryz.underlying333
 a182:=Tryz.isAgg333
 z182:=Tryz.sizeOf333
 v182:=Tryz.zeroValue333
 t183:=Tryz.underlying334
 a183:=Tryz.isAgg334
 z183:=Tryz.sizeOf334
 v183:=Tryz.zeroValue334
 t218:=Tryz.underlying363
 a218:=Tryz.isAgg363
 z218:=Tryz.sizeOf363
 v218:=Tryz.zeroValue363
 t222:=Tryz.underlying367
 a222:=Tryz.isAgg367
 z222:=Tryz.sizeOf367
 v222:=Tryz.zeroValue367
 t228:=Tryz.underlying384
 a228:=Tryz.isAgg384
 z228:=Tryz.sizeOf384
 v228:=Tryz.zeroValue384
 t229:=Tryz.underlying385
 a229:=Tryz.isAgg385
 z229:=Tryz.sizeOf385
 v229:=Tryz.zeroValue385 }
theorem Tryz.slices_Sort_int (blk off cap:Nat) (zs:List Int) (w:World) (hH:Holds (Value.int .i64) w blk off zs.toArray) (hblk:blk<w.heap.size) (hsz:zs.length<4611686018427387904) :
  Calls Tryz.prog 225 #[.slice (some ⟨blk,off,none⟩) zs.length cap] w fun e w' =>
   e=.returned (.tuple #[])∧∃ n os,w'=grow (putRow (Value.int .i64) (Sort.ahead w n) blk off (zs.mergeSort fun x y=>decide (x≤y)).toArray) os:=Any.slices_Sort_int Tryz.lays189 blk off cap zs w hH hblk hsz
end Go.Proofs
end
section
namespace Go.Av.F
open Go Go.Av Go.Proofs Go.Proofs.Tryz Go.RowKit
theorem iJoinC (l:List (List UInt8)) (sep:List UInt8) (hl:l.length≤1048576) (hj:(Lib.join l sep).length≤1048576):CV prog 279 [.lst 1 (l.map qai),.str sep] (.str (Lib.join l sep)):=by
 refine qcg (fun w Z vs hv hg hz=>?_) (hca:=by simp[qai])
 obtain⟨x,y,rfl,h1,h2⟩:=crel2 hv
 rw[str_rel h2]
 have hmap:(l.map fun s:List UInt8=>(⟨s.toArray⟩:ByteArray)).map (·.data.toList)=l:=by
  rw[List.map_map]
  exact List.map_id'' (fun s=>rfl) l
 generalize hlen:l.map qai=els at h1
 cases h1 with
 | lst _ _ _ a cap vf hlc hc hs hr =>
  have hel:els.length=l.length:=by rw[← hlen];simp
  by_cases h0:l=[]
  ·subst h0
   simp only[List.map_nil]at hlen
   subst hlen
   refine(Tryz.strings_Join_none a cap ⟨sep.toArray⟩ w).mono ?_
   rintro e w' ⟨rfl,rfl⟩
   exact⟨_,rfl,by rw[Lib.join_nil];exact .str _ _,.refl _ _⟩
  ·have hne:els≠[]:=by rw[← hlen];simpa using h0
   obtain⟨A,rfl,hZ,hsp,hcell⟩:=hc hne
   obtain⟨b1,b2,b3⟩:=A
   simp only at hsp
   subst hsp
   have hpos:0<l.length:=List.length_pos_iff.2 h0
   have hvf:∀ i,i<l.length→∀ s,l[i]?=some s→vf i 0=.string ⟨s.toArray⟩:=fun i hi s hs2=>by
    have h3:=hr i 0 (by omega) (by omega)
    rw[← hlen]at h3
    have e:((l.map qai).getD i []).getD 0 .top=.str s:=by simp[List.getD,hs2,qai]
    rw[e]at h3
    exact str_rel h3
   have hbk:b1<w.heap.size:=by
    have:=hcell 0 0 (by omega) (by omega)
    exact World.block_lt_of_cell? w _ this
   have hj2:(Lib.join ((l.map fun s:List UInt8=>(⟨s.toArray⟩:ByteArray)).map (·.data.toList)) sep).length≤140737488355328:=by rw[hmap];omega
   have:=Tryz.strings_Join b1 b2 cap (l.map fun s:List UInt8=>(⟨s.toArray⟩:ByteArray)) ⟨sep.toArray⟩ w (fun j x hx=>by
    simp only[List.getElem?_map,Option.map_eq_some_iff]at hx
    obtain⟨s,hs2,rfl⟩:=hx
    have hjl:=(List.getElem?_eq_some_iff.1 hs2).1
    have:=hcell j 0 (by omega) (by omega)
    rw[hvf j hjl s hs2]at this
    simpa [Addr.at]using this) hbk (by simp;omega) (by simp;omega) hj2
   rw[hel]
   simp only[List.length_map]at this
   refine this.mono ?_
   rintro e w' ⟨rfl,hB⟩
   refine⟨_,rfl,?_,hB⟩
   rw[hmap]
   exact .str _ _
@[simp] theorem renL_strRow2 {α:Type} (ρ:Nat→Option Plc) (f:α→List UInt8):renL ρ ∘ qai ∘ f=qai ∘ f:=by funext x;simp[qai]
theorem joinTail_len (sep:List UInt8) (k:Nat):∀ (r:List (List UInt8)),(∀ x∈r,x.length≤k)→(Lib.joinTail sep r).length≤r.length * (k+sep.length)
 | [],_=>by simp[Lib.joinTail]
 | x::r,h=>by
  have ih:=joinTail_len sep k r fun y hy=>h y (List.mem_cons_of_mem _ hy)
  have hx:=h x (by simp)
  simp only[Lib.joinTail,List.map_cons,List.flatten_cons,List.length_append,List.length_cons]at ih ⊢
  rw[Nat.add_mul]
  omega
theorem join_len (sep:List UInt8) (k:Nat) (l:List (List UInt8)) (h:∀ x∈l,x.length≤k):(Lib.join l sep).length≤l.length * (k+sep.length):=by
 cases l with
 | nil=>simp[Lib.join_nil]
 | cons x r =>
  rw[Lib.join_cons,List.length_append,List.length_cons,Nat.add_mul]
  have:=joinTail_len sep k r fun y hy=>h y (List.mem_cons_of_mem _ hy)
  have:=h x (by simp)
  omega
theorem idec (n:Int) (h0:0≤n) (h:n<1000000000):CV prog 280 [.int .i64 n] (.str (dec n)):=by
 have:=itoaC n (by omega) (by omega)
 have e:n=((n.toNat:Nat):Int):=by omega
 rw[e,itoa_nat,← e]at this
 exact this
theorem iPointsC (l:List Int) (hl:l.length≤10) (h:∀ x∈l,0≤x∧x<1000000000):CV prog 276 [.lst 1 (l.map qac)] (.str (Lib.join (l.map dec) [46])):=by
 have hj:=join_len [46] 9 (l.map dec) (fun x hx=>by
  obtain⟨n,hn,rfl⟩:=List.mem_map.1 hx
  exact qap n (h n hn).2)
 simp only[List.length_map]at hj
 have cj:=iJoinC (l.map dec) [46] (by simp;omega) (by simp at hj;omega)
 refine cvx func276 [] ntmps276 rfl rfl rfl ?_ (hca:=by simp[qac])
 simp -implicitDefEqProofs
 refine ev_sw (sw_ph 3 1 (by simp) (by simp)) ?_
 refine ev_lo (X:=Nat) [2,3,6,7,8] [(3,900)] (fun i=>[(3,.sl 900 0 i),(8,.int .i64 i)]) (fun i=>[(900,strOb ((l.take i).map dec))]) (fun i=>l.length-i) (fun i=>i≤l.length) 0 (by simp) ?_ (he:=by simp[obOf,strOb])
 intro i hi
 cases hr:l.drop i with
 | nil =>
  have:=dropn hr
  have hie:i=l.length:=by omega
  subst hie
  rw[List.take_length]
  simp -implicitDefEqProofs
  refine cj.view (by simp[vwOk,mtA,strOb,qai,List.take_of_length_le]) ?_
  simp -implicitDefEqProofs
 | cons x r =>
  obtain⟨g1,e0,e1,g3⟩:=dropc hr
  have hx:=h x (List.mem_of_getElem? e1)
  have cd:=idec x hx.1 hx.2
  have e2:=i64w ((i:Int)+1) (by omega) (by omega)
  simp -implicitDefEqProofs [g1,e0,e1,qac]
  refine cd.call ?_
  simp -implicitDefEqProofs [strOb]
  have hmin:min i l.length=i:=by omega
  exact⟨by omega,nx (i+1) [(16,900)] (by omega) (h4:=by
   have ht:=tk1 (qai ∘ dec) e1
   simp[strOb,ht,List.take_of_length_le,hmin,e2]
   simp[qai])⟩
theorem iPtrTextC (p:PT):CV prog 296 [.agg p.row] (.str (qay p)):=by
 obtain⟨R,hR⟩:∃ R,qay p=R:=⟨_,rfl⟩
 rw[hR]
 have c1:=iPtrOkC p
 simp only[PT.row]at c1
 unfold qay at hR
 refine cvx func296 [] ntmps296 rfl rfl rfl ?_ (hca:=by simp[PT.row])
 simp -implicitDefEqProofs [PT.row]
 refine c1.call ?_
 cases hok:ptOkB p with
 | false =>
  rw[if_pos hok]at hR
  simp -implicitDefEqProofs [← hR]
 | true =>
  rw[if_neg (by simp[hok])]at hR
  have hb:=ptOk_b hok
  by_cases h0:p.pa=0
  ·rw[if_pos h0]at hR
   simp -implicitDefEqProofs [h0,← hR]
  ·rw[if_neg h0]at hR
   have c2:=iPointsC [p.pa,p.ps,p.pb] (by simp) (fun x hx=>by
    simp only[List.mem_cons,List.not_mem_nil,or_false]at hx
    omega)
   have e:Lib.join ([p.pa,p.ps,p.pb].map dec) [46]=R:=by rw[← hR];simp[Lib.join_cons,Lib.joinTail]
   rw[e]at c2
   simp -implicitDefEqProofs [h0]
   refine c2.view (by simp[vwOk,mtA,qac]) ?_
   simp -implicitDefEqProofs
theorem ptsText_tail:∀ (l:List PT),(l.all ptOkB=true→ptsText l false=some (Lib.joinTail [32] (l.map qay)))∧(∀ b,l.all ptOkB=false→ptsText l b=none)
 | []=>⟨fun _=>rfl,fun b h=>by simp at h⟩
 | p::r=>by
  obtain⟨h1,h2⟩:=ptsText_tail r
  refine⟨fun h=>?_,fun b h=>?_⟩
  ·simp only[List.all_cons,Bool.and_eq_true]at h
   simp only[ptsText]
   rw[if_neg (by simp[h.1]),h1 h.2]
   simp[Lib.joinTail]
  ·simp only[ptsText]
   cases hp:ptOkB p with
   | false=>simp
   | true =>
    simp only[List.all_cons,hp,Bool.true_and]at h
    rw[if_neg (by simp),h2 false h];rfl
theorem mapText_join (m:List PT):mapText m=if m.all ptOkB=true then Lib.join (m.map qay) [32] else []:=by
 unfold mapText
 split
 ·rename_i h
  cases m with
  | nil=>rfl
  | cons p r =>
   simp only[List.all_cons,Bool.and_eq_true]at h
   simp only[ptsText]
   rw[if_neg (by simp[h.1]),(ptsText_tail r).1 h.2,List.map_cons,Lib.join_cons]
   simp
 ·rename_i h
  rw[(ptsText_tail m).2 true (by simpa using h)];rfl
theorem desText_join:∀ (l:List DE),desText l false=Lib.joinTail [32] (l.map deText)∧desText l true=Lib.join (l.map deText) [32]
 | []=>⟨rfl,rfl⟩
 | e::r=>by
  obtain⟨h1,_⟩:=desText_join r
  refine⟨?_,?_⟩
  ·simp only[desText,h1]
   simp[Lib.joinTail]
  ·simp only[desText,h1,List.map_cons,Lib.join_cons]
   simp
theorem iUberC (txg:Int) (p:PT):CV prog 256 [.int .i64 txg,.agg p.row] (.str (qbx txg p)):=by
 obtain⟨R,hR⟩:∃ R,qbx txg p=R:=⟨_,rfl⟩
 rw[hR]
 unfold qbx at hR
 have c1:=withinC' txg 1 1000000
 have c2:=realC p
 have c3:=iPtrTextC p
 have hpl:=qbz p
 simp only[PT.row]at c2 c3
 refine cvx func256 [] ntmps256 rfl rfl rfl ?_ (hca:=by simp[PT.row])
 simp -implicitDefEqProofs [PT.row]
 refine c1.call ?_
 by_cases hw:1≤txg∧txg≤1000000
 ·have hwi:wiB txg 1 1000000=true:=by simp[wiB,hw]
  have d1:=idec txg (by omega) (by omega)
  have dl:=qap txg (by omega)
  rw[hwi]
  simp -implicitDefEqProofs
  refine c2.call ?_
  cases hre:qam p with
  | false =>
   rw[if_pos (.inr (.inr hre))]at hR
   simp -implicitDefEqProofs [← hR]
  | true =>
   rw[if_neg (by simp[hre];omega)]at hR
   have c4:=isealC (dec txg++(32::(qay p++(32::dec txg)))) (by simp[maxLen];omega)
   rw[hR]at c4
   simp -implicitDefEqProofs
   refine d1.call ?_
   simp -implicitDefEqProofs [PT.row]
   refine⟨by omega,?_⟩
   refine c3.call ?_
   simp -implicitDefEqProofs
   refine⟨by omega,by omega,by omega,?_⟩
   refine c4.call ?_
   simp -implicitDefEqProofs
 ·have hwi:wiB txg 1 1000000=false:=by
   simp only[wiB,Bool.and_eq_false_iff,decide_eq_false_iff_not];omega
  rw[if_pos (by omega)]at hR
  rw[hwi]
  simp -implicitDefEqProofs [← hR]
theorem iRootC (c:CO) (h:CoT c):CV prog 213 [.agg c.row] (.str (qch c)):=by
 obtain⟨R,hR⟩:∃ R,qch c=R:=⟨_,rfl⟩
 rw[hR]
 have hs:=h.sets
 have hp:=h.parts
 refine cvx func213 [(10,[zI 0,zI 1,zJ 2 [5] [],zI 3,zI 4,zJ 5 [] [5],zJ 6 [5] [5],zJ 10 [] [5],zJ 13 [] [5],zJ 14 [5] [5],zJ 7 [] [5],zJ 8 [] [5],zJ 9 [] [5],zJ 11 [] [5],zJ 12 [] [5],zJ 15 [] [5],zI 16,zI 17,zI 18])] ntmps213 rfl rfl rfl ?_ (hca:=by simp[CO.row,PT.row,DE.row,cs_cl,qac])
 simp -implicitDefEqProofs [CO.row]
 refine ev_lp (X:=Nat×List UInt8) [1,2,3,10,11,12] [(1,1)] (fun x=>[(3,.str x.2),(12,.int .i64 x.1)]) (fun _=>[]) (fun x=>c.sets.length-x.1) (fun x=>x.1≤c.sets.length∧x.2.length≤4+64 * x.1∧((rootSets (c.sets.drop x.1)).bind fun t=>(qbm c.parts).map fun u=>x.2++(t++u)).getD []=R) (0,[114,111,111,116]) (by simp[← hR,qch]) ?_ (he:=by simp[obOf])
 rintro⟨i,t⟩ ⟨hi,hl,hd⟩
 simp only at hi hl hd
 cases hr:c.sets.drop i with
 | nil =>
  have:=dropn hr
  rw[hr]at hd
  have hie:i=c.sets.length:=by omega
  subst hie
  simp only[rootSets,Option.bind_some,List.nil_append]at hd
  simp -implicitDefEqProofs [obOf]
  refine ev_lp (X:=Nat×List UInt8) [1,2,3,43,44,45] [(1,1)] (fun x=>[(3,.str x.2),(45,.int .i64 x.1)]) (fun _=>[]) (fun x=>c.parts.length-x.1) (fun x=>x.1≤c.parts.length∧x.2.length≤4+64 * c.sets.length+64 * x.1∧((qbm (c.parts.drop x.1)).map fun u=>x.2++u).getD []=R) (0,t) (by simp[hd];omega) ?_ (he:=by simp[obOf])
  rintro⟨i,t⟩ ⟨hi,hl,hd⟩
  simp only at hi hl hd
  cases hr:c.parts.drop i with
  | nil =>
   have:=dropn hr
   rw[hr]at hd
   have hie:i=c.parts.length:=by omega
   subst hie
   simp only[qbm,Option.map_some,List.append_nil,Option.getD_some]at hd
   simp -implicitDefEqProofs [obOf,hd]
  | cons p q =>
   obtain⟨k1,e0,e1,k3⟩:=dropc hr
   rw[hr]at hd
   simp only[qbm]at hd
   have hli:(i:Int)<c.parts.length:=by omega
   have e2:=i64w ((i:Int)+1) (by omega) (by omega)
   have c1:=realC p
   have c2:=iPtrTextC p
   have hpl:=qbz p
   simp only[PT.row]at c1 c2
   simp -implicitDefEqProofs [obOf,k1,e0,e1,hli,PT.row]
   refine c1.call ?_
   cases hok:qam p with
   | false =>
    rw[if_pos hok]at hd
    simp only[Option.map_none,Option.getD_none]at hd
    simp -implicitDefEqProofs [← hd]
   | true =>
    rw[if_neg (by simp[hok])]at hd
    simp -implicitDefEqProofs [obOf,k1,e0,e1,hli,PT.row]
    refine c2.call ?_
    simp -implicitDefEqProofs [e2]
    exact⟨by omega,by omega,nx (i+1,t++(10::46::32::qay p)) [(1,1)] ⟨by simp only;omega,by simp;omega,by simp only[k3];simpa [Option.map_map,Function.comp_def]using hd⟩ (by simp only;omega) (h4:=by simp[obOf,e2])⟩
 | cons s q =>
  obtain⟨k1,e0,e1,k3⟩:=dropc hr
  rw[hr]at hd
  simp only[rootSets]at hd
  have hsm:=List.mem_of_getElem? e1
  have hli:(i:Int)<c.sets.length:=by omega
  have e2:=i64w ((i:Int)+1) (by omega) (by omega)
  have h8:=h.m8 s hsm
  have c1:=iSetC s h8 (h.nm s hsm).1 (h.nm s hsm).2
  simp -implicitDefEqProofs [obOf,k1,e0,e1,hli,qbf s h8,cs_take s h8]
  refine⟨cs_ones s,?_⟩
  refine c1.call ?_
  cases hok:csOkB s with
  | false =>
   rw[if_pos hok]at hd
   simp only[Option.bind_none,Option.getD_none]at hd
   simp -implicitDefEqProofs [← hd]
  | true =>
   rw[if_neg (by simp[hok])]at hd
   have hk:=cs_kind hok
   have c2:=idec s.kind (by omega) (by omega)
   have c4:=iPtrTextC s.home
   have hrl:=rootSet_len hok
   have hn:=csOk_nm hok
   have hdl:=qap s.kind (by omega)
   have hfl:=fromT_len s.frm
   have hpl:=qbz s.home
   have hs0:s.row[0]?=some (.str s.name):=rfl
   have hs1:s.row[1]?=some (.int .i64 s.kind):=rfl
   have hs2:s.row[2]?=some (.str s.frm):=rfl
   by_cases hf:s.frm=[]
   ·have hfe:fromT s.frm=[45]:=by simp[fromT,hf]
    simp -implicitDefEqProofs [cs_home s h8,qbf s h8,hf]
    refine⟨by omega,by omega,?_⟩
    refine c2.call ?_
    simp -implicitDefEqProofs [cs_home s h8,qbf s h8,hf]
    refine⟨by omega,by omega,by omega,by omega,?_⟩
    refine c4.call ?_
    simp -implicitDefEqProofs [e2]
    refine⟨by omega,by omega,nx (i+1,t++rootSet s) [(1,1)] ⟨by simp only;omega,by simp only[List.length_append];omega,by simp only[k3];simpa [Option.map_map,Option.bind_map,Function.comp_def]using hd⟩ (by simp only;omega) (h4:=by simp[obOf,e2,rootSet,hfe])⟩
   ·have hfe:fromT s.frm=s.frm:=by simp[fromT,hf]
    simp -implicitDefEqProofs [cs_home s h8,qbf s h8,hf]
    refine⟨by omega,by omega,?_⟩
    refine c2.call ?_
    simp -implicitDefEqProofs [cs_home s h8,qbf s h8,hf]
    refine⟨by omega,by omega,by omega,by omega,?_⟩
    refine c4.call ?_
    simp -implicitDefEqProofs [e2]
    refine⟨by omega,by omega,nx (i+1,t++rootSet s) [(1,1)] ⟨by simp only;omega,by simp only[List.length_append];omega,by simp only[k3];simpa [Option.map_map,Option.bind_map,Function.comp_def]using hd⟩ (by simp only;omega) (h4:=by simp[obOf,e2,rootSet,hfe])⟩
theorem dig_tab (k:Nat) (h:k<16):([48,49,50,51,52,53,54,55,56,57,97,98,99,100,101,102]:List UInt8)[k]?=some (digB k):=by
 rcases(show k=0∨k=1∨k=2∨k=3∨k=4∨k=5∨k=6∨k=7∨k=8∨k=9∨k=10∨k=11∨k=12∨k=13∨k=14∨k=15 by omega)with rfl | rfl | rfl | rfl | rfl | rfl | rfl | rfl | rfl | rfl | rfl | rfl | rfl | rfl | rfl | rfl <;> rfl
theorem and15 (n:Nat) (h:n<256):bitI BinOp.and IntKind.u8 (n:Int) 15=((n % 16:Nat):Int):=by
 have:∀ m:Fin 256,bitI BinOp.and IntKind.u8 ((m.val:Nat):Int) 15=((m.val % 16:Nat):Int):=by decide
 exact this ⟨n,h⟩
theorem shr4 (n:Nat):((n:Nat):Int).fdiv (2 ^ min 4 IntKind.u8.bits)=((n / 16:Nat):Int):=by
 rw[show(2:Int) ^ min 4 IntKind.u8.bits=16 from rfl,Int.fdiv_eq_ediv_of_nonneg _ (by omega)]
 omega
theorem ihexC (s:List UInt8) (hs:s.length≤1048576):CV prog 277 [.str s] (.str (hexB s)):=by
 obtain⟨R,hR⟩:∃ R,hexB s=R:=⟨_,rfl⟩
 rw[hR]
 refine cvx func277 [] ntmps277 rfl rfl rfl ?_
 simp -implicitDefEqProofs
 refine ev_sw (sw_ph 3 1 (by simp) (by simp)) ?_
 refine ev_lo (X:=Nat×List UInt8) [0,2,3,6,7] [(3,900)] (fun x=>[(7,.int .i64 x.1),(3,.sl 900 0 x.2.length)]) (fun x=>[(900,⟨1,x.2.map u8row⟩)]) (fun x=>s.length-x.1) (fun x=>x.1≤s.length∧x.2.length=2 * x.1∧x.2++hexB (s.drop x.1)=R) (0,[]) (by simp[hR]) ?_ (he:=by simp[obOf])
 rintro⟨i,out⟩ ⟨hi,hol,hd⟩
 simp only at hi hol hd
 cases hr:s.drop i with
 | nil =>
  have:=dropn hr
  rw[hr,hexB]at hd
  have hie:i=s.length:=by omega
  subst hie
  simp only[List.append_nil]at hd
  simp -implicitDefEqProofs [byteOf_u8,List.take_of_length_le,hd]
  try exact fun x _=>rfl
 | cons x r =>
  obtain⟨h1,e0,e1,h3⟩:=dropc hr
  rw[hr,hexB]at hd
  have e2:=i64w ((i:Int)+1) (by omega) (by omega)
  have hx:=x.toNat_lt
  have hli:(i:Int)<s.length:=by omega
  simp -implicitDefEqProofs [h1,e0,e1,hli]
  rw[and15 _ hx,shr4]
  have g1:x.toNat / 16<16:=by omega
  have g2:x.toNat % 16<16:=by omega
  refine⟨⟨by omega,by omega⟩,⟨by omega,by omega⟩,by omega,nx (i+1,out++[digB (x.toNat / 16),digB (x.toNat % 16)]) [(22,900)] ⟨by simp only;omega,by simp;omega,by simp only[h3];simpa using hd⟩ (by simp only;omega) (h4:=?_)⟩
  have t1:=dig_tab _ g1
  have t2:=dig_tab _ g2
  have q1:((x.toNat:Int) / 16).toNat=x.toNat / 16:=by omega
  have q2:((x.toNat:Int) % 16).toNat=x.toNat % 16:=by omega
  simp[e2,List.take_of_length_le,renL_u8c,u8row,t1,t2,q1,q2]
theorem ilogTextC (r:LR) (ha:r.op.a.length≤1048576) (ht:r.op.text.length≤1048576):CV prog 179 [.agg r.row] (.str (qbv r)):=by
 obtain⟨R,hR⟩:∃ R,qbv r=R:=⟨_,rfl⟩
 rw[hR]
 have hno:lrOkB r=false→R=[]:=fun h=>by rw[← hR];unfold qbv;rw[if_pos h]
 have hbad:∀ b:Prop,[Decidable b]→¬ b→(lrOkB r=true→b)→R=[]:=fun b _ hb h=>hno (by
  cases e:lrOkB r with
  | false=>rfl
  | true=>exact absurd (h e) hb)
 have hsp:lrOkB r=true↔(1≤r.txg∧r.txg≤1000000)∧(0≤r.seq∧r.seq<8)∧r.op.kind=3∧nameB r.op.a=true∧r.op.b=[]∧(0≤r.op.i∧r.op.i<8)∧r.op.text.length≤24:=by
  simp only[lrOkB,Bool.and_eq_true,decide_eq_true_eq]
  grind
 have c1:=iName r.op.a ha
 have c2:=ihexC r.op.text ht
 have hxl:=hexB_len r.op.text
 have w1:=withinC' r.txg 1 1000000
 have w2:=withinC' r.seq 0 7
 have w3:=cv_of (isBlockC r.op.i)
 have hyes:lrOkB r=true→R=sealB (dec r.txg++(46::(dec r.seq++(32::(r.op.a++(32::(dec r.op.i++(32::(hexT r.op.text++(32::(dec r.txg++(46::dec r.seq)))))))))))):=fun h=>by
  rw[← hR];unfold qbv;rw[if_neg (by simp[h])]
 refine cvx func179 [(8,[zI 0,zI 1,zJ 2 [3] [],zJ 3 [] [3],zJ 4 [3] [3],zJ 6 [] [3],zJ 7 [] [3],zJ 5 [] [3],zI 8,zI 9,zI 10,zI 11])] ntmps179 rfl rfl rfl ?_ (hca:=by simp[LR.row,BO.row])
 simp -implicitDefEqProofs [LR.row,BO.row]
 refine w1.call ?_
 by_cases q1:1≤r.txg∧r.txg≤1000000
 rotate_left
 ·rw[show wiB r.txg 1 1000000=false by simp only[wiB,Bool.and_eq_false_iff,decide_eq_false_iff_not];omega,hbad _ q1 fun h=>(hsp.1 h).1]
  simp -implicitDefEqProofs
 rw[show wiB r.txg 1 1000000=true by simp[wiB,q1]]
 simp -implicitDefEqProofs
 refine w2.call ?_
 by_cases q2:0≤r.seq∧r.seq<8
 rotate_left
 ·rw[show wiB r.seq 0 7=false by simp only[wiB,Bool.and_eq_false_iff,decide_eq_false_iff_not];omega,hbad _ q2 fun h=>(hsp.1 h).2.1]
  simp -implicitDefEqProofs
 rw[show wiB r.seq 0 7=true by simp only[wiB,Bool.and_eq_true,decide_eq_true_eq];omega]
 by_cases q3:r.op.kind=3
 rotate_left
 ·rw[hbad _ q3 fun h=>(hsp.1 h).2.2.1]
  simp -implicitDefEqProofs [q3]
 simp -implicitDefEqProofs [q3]
 refine c1.call ?_
 cases q4:nameB r.op.a with
 | false =>
  rw[hno (by cases e:lrOkB r with
   | false=>rfl
   | true=>exact absurd (hsp.1 e).2.2.2.1 (by simp[q4]))]
  simp -implicitDefEqProofs
 | true =>
  by_cases q5:r.op.b=[]
  rotate_left
  ·rw[hbad _ q5 fun h=>(hsp.1 h).2.2.2.2.1]
   simp -implicitDefEqProofs [q5]
  simp -implicitDefEqProofs [q5]
  refine w3.call ?_
  by_cases q6:0≤r.op.i∧r.op.i<8
  rotate_left
  ·rw[show(decide (0≤r.op.i) && decide (r.op.i≤7))=false by simp only[Bool.and_eq_false_iff,decide_eq_false_iff_not];omega,hbad _ q6 fun h=>(hsp.1 h).2.2.2.2.2.1]
   simp -implicitDefEqProofs
  rw[show(decide (0≤r.op.i) && decide (r.op.i≤7))=true by simp only[Bool.and_eq_true,decide_eq_true_eq];omega]
  by_cases q7:r.op.text.length≤24
  rotate_left
  ·rw[hbad _ q7 fun h=>(hsp.1 h).2.2.2.2.2.2]
   simp -implicitDefEqProofs [show(24:Int)<r.op.text.length by omega]
  have hy:=hyes (hsp.2 ⟨q1,q2,q3,q4,q5,q6,q7⟩)
  have d1:=iPointsC [r.txg,r.seq] (by simp) (fun x hx=>by
   simp only[List.mem_cons,List.not_mem_nil,or_false]at hx
   omega)
  have e0:Lib.join ([r.txg,r.seq].map dec) [46]=dec r.txg++(46::dec r.seq):=by simp[Lib.join_cons,Lib.joinTail]
  rw[e0]at d1
  have d3:=idec r.op.i (by omega) (by omega)
  have l1:=qap r.txg (by omega)
  have l2:=qap r.seq (by omega)
  have l3:=qap r.op.i (by omega)
  have hna:r.op.a.length≤6:=by
   simp only[nameB,Bool.and_eq_true,decide_eq_true_eq]at q4
   exact q4.2
  simp -implicitDefEqProofs [show ¬ (24:Int)<r.op.text.length by omega,LR.row,BO.row]
  refine d1.view (by simp[vwOk,mtA,qac]) ?_
  simp -implicitDefEqProofs [LR.row,BO.row]
  refine c2.call ?_
  have hxT:hexB r.op.text=[]∨hexB r.op.text≠[]:=by cases hexB r.op.text <;> simp
  rcases hxT with hx | hx
  ·skip
   have hxT:hexT r.op.text=[45]:=by simp[hexT,hx]
   rw[hxT]at hy
   have e1:Lib.join [dec r.txg++(46::dec r.seq),r.op.a,dec r.op.i,[45],dec r.txg++(46::dec r.seq)] [32]=(dec r.txg++(46::(dec r.seq++(32::(r.op.a++(32::(dec r.op.i++(32::([45]++(32::(dec r.txg++(46::dec r.seq)))))))))))):=by simp[Lib.join_cons,Lib.joinTail]
   have cj:=iJoinC [dec r.txg++(46::dec r.seq),r.op.a,dec r.op.i,[45],dec r.txg++(46::dec r.seq)] [32] (by simp) (by rw[e1];simp;omega)
   have c3:=isealC (dec r.txg++(46::(dec r.seq++(32::(r.op.a++(32::(dec r.op.i++(32::([45]++(32::(dec r.txg++(46::dec r.seq)))))))))))) (by simp[maxLen];omega)
   rw[e1]at cj
   rw[← hy]at c3
   generalize (dec r.txg++(46::(dec r.seq++(32::(r.op.a++(32::(dec r.op.i++(32::([45]++(32::(dec r.txg++(46::dec r.seq))))))))))))=J at *
   simp -implicitDefEqProofs [hx,LR.row,BO.row]
   refine d3.call ?_
   simp -implicitDefEqProofs
   refine cj.view (by simp[vwOk,mtA,qai]) ?_
   simp -implicitDefEqProofs
   refine c3.call ?_
   simp -implicitDefEqProofs
  ·skip
   have hxT:hexT r.op.text=hexB r.op.text:=by simp[hexT,hx]
   rw[hxT]at hy
   have e1:Lib.join [dec r.txg++(46::dec r.seq),r.op.a,dec r.op.i,hexB r.op.text,dec r.txg++(46::dec r.seq)] [32]=(dec r.txg++(46::(dec r.seq++(32::(r.op.a++(32::(dec r.op.i++(32::(hexB r.op.text++(32::(dec r.txg++(46::dec r.seq)))))))))))):=by simp[Lib.join_cons,Lib.joinTail]
   have cj:=iJoinC [dec r.txg++(46::dec r.seq),r.op.a,dec r.op.i,hexB r.op.text,dec r.txg++(46::dec r.seq)] [32] (by simp) (by rw[e1];simp;omega)
   have c3:=isealC (dec r.txg++(46::(dec r.seq++(32::(r.op.a++(32::(dec r.op.i++(32::(hexB r.op.text++(32::(dec r.txg++(46::dec r.seq)))))))))))) (by simp[maxLen];omega)
   rw[e1]at cj
   rw[← hy]at c3
   generalize (dec r.txg++(46::(dec r.seq++(32::(r.op.a++(32::(dec r.op.i++(32::(hexB r.op.text++(32::(dec r.txg++(46::dec r.seq))))))))))))=J at *
   simp -implicitDefEqProofs [hx,LR.row,BO.row]
   refine d3.call ?_
   simp -implicitDefEqProofs
   refine cj.view (by simp[vwOk,mtA,qai]) ?_
   simp -implicitDefEqProofs
   refine c3.call ?_
   simp -implicitDefEqProofs
theorem iReach1 (x:Int):CV prog 224 [.int .i64 x] (.bool (decide (x<13))):=by
 refine cvx func224 [] ntmps224 rfl rfl rfl ?_
 simp -implicitDefEqProofs
def loB (x:Int):Bool:=decide (x<13)
theorem iIxC (l:List Int) (hl:l.length≤1048576):CV prog 302 [.lst 1 (l.map qac),.fn 224 []] (.int .i64 (ixR loB 0 l)):=by
 obtain⟨R,hR⟩:∃ R,ixR loB 0 l=R:=⟨_,rfl⟩
 rw[hR]
 refine cvx func302 [] ntmps302 rfl rfl rfl ?_ (hca:=by simp[qac])
 simp -implicitDefEqProofs
 refine ev_lp (X:=Nat) [0,1,7,8] [] (fun i=>[(8,.int .i64 i)]) (fun _=>[]) (fun i=>l.length-i) (fun i=>i≤l.length∧ixR loB i (l.drop i)=R) 0 (by simp[hR]) ?_
 rintro i ⟨hi,hd⟩
 cases hr:l.drop i with
 | nil =>
  have:=dropn hr
  rw[hr]at hd
  have hie:i=l.length:=by omega
  simp -implicitDefEqProofs [hie]
  grind[ixR]
 | cons x r =>
  obtain⟨h1,e0,e1,h3⟩:=dropc hr
  rw[hr]at hd
  have e2:=i64w ((i:Int)+1) (by omega) (by omega)
  simp -implicitDefEqProofs [h1,e0,e1,qac]
  refine(iReach1 x).call ?_
  simp -implicitDefEqProofs [e2]
  exact⟨fun hp=>by grind[ixR,loB],fun hp=>nx (i+1) [] (by grind[ixR,loB])⟩
theorem ixR_spec (p:Int→Bool):∀ (l:List Int) (i:Nat),(ixR p i l=-1∧l.any p=false)∨∃ k,k<l.length∧ixR p i l=((i+k:Nat):Int)∧(l.take k).any p=false∧(∃ x,l[k]?=some x∧p x=true)
 | [],i=>.inl ⟨rfl,rfl⟩
 | x::r,i=>by
  simp only[ixR]
  cases h:p x with
  | true=>exact .inr ⟨0,by simp,by simp,by simp,x,by simp,h⟩
  | false =>
   rcases ixR_spec p r (i+1)with⟨h1,h2⟩ | ⟨k,h1,h2,h3,h4⟩
   ·exact .inl ⟨by simpa using h1,by simp[h,h2]⟩
   ·refine .inr ⟨k+1,by simp;omega,by simp[h2];omega,by simp[h,h3],by simpa using h4⟩
def hiL (l:List Int):List Int:=l.filter fun x=>!loB x
theorem hiL_le (l:List Int):(hiL l).length≤l.length:=List.length_filter_le _ _
theorem iDelO (l:List Int) (hl:l.length≤1048576):ACall prog 223 [.sl 1000 0 l.length,.fn 224 []] [(1000,kin l)] (fun r L'=>r=.sl 1000 0 (hiL l).length∧L'=[(1000,kin (hiL l))]):=by
 refine ACall.weak (R:=fun r L'=>∃ L2,wkL L' L2∧unc r=.sl 1000 0 (hiL l).length∧L2=[(1000,kin (hiL l))]) ?_ (fun r L' h=>h)
 refine acx func223 [] ntmps223 rfl rfl rfl ?_
 simp -implicitDefEqProofs
 refine(iIxC l hl).view (by simp[vwOk,mtA,kin,qac,List.take_of_length_le]) ?_
 rcases ixR_spec loB l 0 with⟨h1,h2⟩ | ⟨k,h1,h2,h3,y,hx,hp⟩
 ·have hh:hiL l=l:=List.filter_eq_self.2 fun x hx=>by
   have:=List.any_eq_false.1 h2 x hx
   simpa using this
  rw[hh,h1]
  simp -implicitDefEqProofs
  exact⟨[(1000,kin l)],by simp,by simpa [kin,List.take_of_length_le]using wkL.cons 1000 (kin l) l.length .nil⟩
 ·obtain⟨R,hR⟩:∃ R,hiL l=R:=⟨_,rfl⟩
  rw[hR]
  have hRl:R.length≤l.length:=hR ▸ hiL_le l
  rw[h2]
  have e2:=i64w ((k:Int)+1) (by omega) (by omega)
  simp -implicitDefEqProofs [e2]
  have ht:(l.take k).filter (fun x=>!loB x)=l.take k:=List.filter_eq_self.2 fun x hx=>by
   have:=List.any_eq_false.1 h3 x hx
   simpa using this
  refine ev_lo (X:=Nat×List Int×List Int) [0,1,5,6] [(1000,1000)] (fun x=>[(5,.int .i64 (x.2.1.length:Int)),(6,.int .i64 x.1)]) (fun x=>[(1000,kin x.2.2)]) (fun x=>l.length-x.1) (fun x=>x.1≤l.length∧x.2.1.length<x.1∧x.2.1++hiL (l.drop x.1)=R∧x.2.2.length=l.length∧x.2.2.take x.2.1.length=x.2.1∧x.2.2.drop x.1=l.drop x.1) (k+1,l.take k,l) ⟨by simp only;omega,by simp;omega,?_,rfl,by simp[Nat.min_eq_left (Nat.le_of_lt h1)],rfl⟩ ?_ (he:=by simp[obOf,kin,Nat.min_eq_left (Nat.le_of_lt h1)])
  ·have hs:l=l.take k++y::l.drop (k+1):=by
    conv=>lhs;rw[← List.take_append_drop k l,List.drop_eq_getElem?_toList_append,hx]
    rfl
   rw[← hR]
   conv=>rhs;rw[hs]
   simp only[hiL,List.filter_append,ht]
   rw[List.filter_cons_of_neg (by simp[hp])]
  rintro⟨j,F,L⟩ ⟨hj,hF,hd,hL,hLt,hLd⟩
  simp only at hj hF hd hL hLt hLd
  cases hr:l.drop j with
  | nil =>
   have:=dropn hr
   have hie:j=l.length:=by omega
   subst hie
   rw[hr]at hd
   simp -implicitDefEqProofs [obOf,hL,kin]
   have hFR:F=R:=by simpa [hiL]using hd
   subst hFR
   have e:=spl_take (L.map qac) F.length (List.replicate (l.length-F.length) [.int .i64 0]) (by simp;omega)
   refine⟨by omega,by omega,by omega,[(1000,⟨1,spl (L.map qac) F.length (List.replicate (l.length-F.length) [.int .i64 0])⟩)],by simp[qac],?_,rfl⟩
   have h:=wkL.cons 1000 ⟨1,spl (L.map qac) F.length (List.replicate (l.length-F.length) [.int .i64 0])⟩ F.length .nil
   have e2:(spl (L.map qac) F.length (List.replicate (l.length-F.length) [.int .i64 0])).take F.length=F.map qac:=by
    simp only[spl]
    rw[List.take_append_of_le_length (by simp;omega),List.take_take,Nat.min_self,← List.map_take,hLt]
   simp only[e2]at h
   exact h
  | cons x r =>
   obtain⟨g1,e0,e1,g3⟩:=dropc hr
   have e3:=i64w ((j:Int)+1) (by omega) (by omega)
   have e4:=i64w ((F.length:Int)+1) (by omega) (by omega)
   have hx:L[j]?=some x:=by
    have:=congrArg (fun l:List Int=>l[0]?) hLd
    simp only[List.getElem?_drop,Nat.add_zero]at this
    rw[this];exact e1
   have hx':=(List.getElem?_eq_some_iff.1 hx).2
   simp -implicitDefEqProofs [obOf,hL,g1,hx,hx',kin,qac]
   refine(iReach1 x).call ?_
   simp -implicitDefEqProofs [e3,e4]
   have hd2:(l.drop j).filter (fun x=>!loB x)=if loB x=true then (l.drop (j+1)).filter (fun x=>!loB x) else x::(l.drop (j+1)).filter (fun x=>!loB x):=by
    rw[hr,g3]
    cases hq:loB x <;> simp[List.filter_cons,hq]
   simp only[hiL]at hd
   refine⟨fun q=>⟨by omega,by omega,nx (j+1,F++[x],L.set F.length x) [(1000,1000)] ⟨by simp only;omega,by simp;omega,?_,by simp[hL],?_,?_⟩ (by simp only;omega) (h4:=?_)⟩,fun q=>nx (j+1,F,L) [(1000,1000)] ⟨by simp only;omega,by simp only;omega,?_,hL,hLt,?_⟩ (by simp only;omega) (h4:=by simp[obOf,e3,kin])⟩
   ·rw[hd2,if_neg (by simp[loB];omega)]at hd
    simpa [hiL]using hd
   ·simp only[List.length_append,List.length_cons,List.length_nil]
    rw[List.take_add_one,List.getElem?_set_self (by omega),List.take_set_of_le (by omega),hLt]
    rfl
   ·simp only
    rw[List.drop_set_of_lt (by omega),← List.drop_drop,← List.drop_drop,hLd]
   ·obtain⟨z,hz⟩:∃ z,L[F.length]?=some z:=⟨_,List.getElem?_eq_getElem (by omega)⟩
    simp[obOf,e3,e4,kin,hz,qac]
   ·rw[hd2,if_pos (by simp[loB];omega)]at hd
    simpa [hiL]using hd
   ·simp only
    rw[← List.drop_drop,← List.drop_drop,hLd]
def dsT (p:Int):List Int→List Int
 | []=>[]
 | x::r=>if x=p then dsT x r else x::dsT x r
def dsL:List Int→List Int
 | []=>[]
 | x::r=>x::dsT x r
theorem dsT_app (r:List Int) (x p:Int):∀ (q:Int) (l:List Int),dsT q (l++[p]++x::r)=dsT q (l++[p])++dsT p (x::r)
 | q,[]=>by
  simp only[List.nil_append,List.cons_append,dsT]
  split <;> split <;> simp[dsT, *]
 | q,a::l=>by
  have:=dsT_app r x p a l
  simp only[List.cons_append,List.append_assoc,List.nil_append,dsT]at this ⊢
  split <;> simp[this]
theorem dsL_step {l:List Int} {m:Nat} {p x:Int} (h1:l[m]?=some p) (h2:l[m+1]?=some x):dsL (l.take (m+2))=if x=p then dsL (l.take (m+1)) else dsL (l.take (m+1))++[x]:=by
 have e1:l.take (m+2)=l.take m++[p]++[x]:=by rw[takeS h2,takeS h1]
 have e2:l.take (m+1)=l.take m++[p]:=takeS h1
 rw[e1,e2]
 cases l.take m with
 | nil=>simp only[List.nil_append,List.cons_append,dsL,dsT];split <;> simp
 | cons a q =>
  have:=dsT_app [] x p a q
  simp only[List.cons_append,List.append_assoc,List.nil_append,dsL]at this ⊢
  rw[this]
  simp only[dsT]
  split <;> simp
theorem iCompO (l:List Int) (hl:l.length≤1048576):ACall prog 226 [.sl 1000 0 l.length] [(1000,kin l)] (fun r L'=>r=.sl 1000 0 (dsL l).length∧L'=[(1000,kin (dsL l))]):=by
 refine ACall.weak (R:=fun r L'=>∃ L2,wkL L' L2∧unc r=.sl 1000 0 (dsL l).length∧L2=[(1000,kin (dsL l))]) ?_ (fun r L' h=>h)
 refine acx func226 [(6,[zI 0,zI 1,zJ 2 [1000] [],zJ 3 [1000] [],zJ 4 [] [1000],zJ 5 [] [1000],zJ 6 [] [1000],zJ 7 [1000] [1000],zJ 8 [1000] [1000],zI 9]),(11,[zI 0,zI 1,zJ 2 [1000] [],zJ 3 [1000] [],zJ 4 [] [1000],zJ 5 [] [1000],zJ 6 [] [1000],zJ 7 [1000] [1000],zJ 8 [1000] [1000],zI 9])] ntmps226 rfl rfl rfl ?_
 by_cases h0:l.length<2
 ·have hd:dsL l=l:=by
   match l with
   | []=>rfl
   | [_]=>rfl
   | _::_::_=>simp at h0;omega
  rw[hd]
  simp -implicitDefEqProofs [show(l.length:Int)<2 by omega]
  exact⟨[(1000,kin l)],by simp,by simpa [kin,List.take_of_length_le]using wkL.cons 1000 (kin l) l.length .nil⟩
 ·simp -implicitDefEqProofs [show ¬ (l.length:Int)<2 by omega]
  refine ev_lo (X:=Nat) [0,3] [(1000,1000)] (fun k=>[(3,.int .i64 k)]) (fun x=>[(1000,kin l)]) (fun k=>l.length-k) (fun k=>1≤k∧k≤l.length∧dsL (l.take k)=l.take k) 1 ⟨by omega,by omega,?_⟩ ?_ (he:=by simp[obOf,kin])
  ·match l with
   | []=>rfl
   | _::_=>rfl
  rintro k ⟨hk1,hk,hd⟩
  have e1:=i64w ((k:Int)-1) (by omega) (by omega)
  have e2:=i64w ((k:Int)+1) (by omega) (by omega)
  by_cases hlt:k<l.length
  ·obtain⟨m,hm⟩:∃ m,k=m+1:=⟨k-1,by omega⟩
   obtain⟨p,hp⟩:∃ z,l[m]?=some z:=⟨_,List.getElem?_eq_getElem (by omega)⟩
   obtain⟨x,hx⟩:∃ z,l[k]?=some z:=⟨_,List.getElem?_eq_getElem (by omega)⟩
   have hp':=(List.getElem?_eq_some_iff.1 hp).2
   have hx':=(List.getElem?_eq_some_iff.1 hx).2
   have hml:m<l.length:=by omega
   have e1:IntKind.i64.wrap ((k:Int)-1)=(m:Int):=by rw[i64w _ (by omega) (by omega)];omega
   have hst:=dsL_step hp (hm ▸ hx)
   rw[← hm,show m+2=k+1 by omega]at hst
   by_cases hxp:x=p
   ·simp -implicitDefEqProofs [obOf,hlt,hml,show(k:Int)<l.length by omega,e1,kin,qac,hp,hx,hp',hx',hxp]
    rw[if_pos hxp,hd]at hst
    refine⟨hk,?_⟩
    have hlt2:(l.take k).length=k:=by simp;omega
    refine ev_lo (X:=Nat×List Int×List Int) [0,3,4,5] [(1000,1000)] (fun y=>[(3,.int .i64 (y.2.1.length:Int)),(4,.sl 1000 k (l.length-k)),(5,.int .i64 y.1)]) (fun y=>[(1000,kin y.2.2)]) (fun y=>l.length-k-y.1) (fun y=>1≤y.1∧k+y.1≤l.length∧y.2.1.length<k+y.1∧dsL (l.take (k+y.1))=y.2.1∧y.2.2.length=l.length∧y.2.2.take y.2.1.length=y.2.1∧y.2.2.drop (k+y.1-1)=l.drop (k+y.1-1)) (1,l.take k,l) ⟨by simp,by simp only;omega,by simp only;omega,hst,rfl,by rw[hlt2],rfl⟩ ?_ (he:=by simp only[hlt2];simp[obOf,kin])
    rintro⟨j,F,L⟩ ⟨hj1,hj,hF,hd,hL,hLt,hLd⟩
    simp only at hj1 hj hF hd hL hLt hLd
    clear hp hx hp' hx' hxp hst hm hml e1
    have e2:=i64w ((j:Int)+1) (by omega) (by omega)
    have e3:=i64w ((F.length:Int)+1) (by omega) (by omega)
    by_cases hlt:j<l.length-k
    ·obtain⟨m,hm⟩:∃ m,j=m+1:=⟨j-1,by omega⟩
     obtain⟨p,hp⟩:∃ z,l[k+m]?=some z:=⟨_,List.getElem?_eq_getElem (by omega)⟩
     obtain⟨x,hx⟩:∃ z,l[k+j]?=some z:=⟨_,List.getElem?_eq_getElem (by omega)⟩
     have hst:=dsL_step hp (by rw[show k+m+1=k+j by omega];exact hx)
     rw[show k+m+2=k+(j+1) by omega,show k+m+1=k+j by omega,hd]at hst
     have hLat:∀ i,k+m≤i→L[i]?=l[i]?:=fun i hi=>by
      have:=congrArg (fun l:List Int=>l[i-(k+m)]?) hLd
      simp only[List.getElem?_drop]at this
      rw[show k+j-1+(i-(k+m))=i by omega]at this
      exact this
     have hp2:=hLat (k+m) (by omega)
     have hx2:=hLat (k+j) (by omega)
     rw[hp]at hp2
     rw[hx]at hx2
     have hp':=(List.getElem?_eq_some_iff.1 hp2).2
     have hx':=(List.getElem?_eq_some_iff.1 hx2).2
     have hml:m<l.length-k:=by omega
     have h5:k+m<l.length:=by omega
     have h6:k+j<l.length:=by omega
     have e1:IntKind.i64.wrap ((j:Int)-1)=(m:Int):=by rw[i64w _ (by omega) (by omega)];omega
     have hnd:L.drop (k+(j+1)-1)=l.drop (k+(j+1)-1):=by
      rw[show k+(j+1)-1=(k+j-1)+1 by omega,← List.drop_drop,← List.drop_drop,hLd]
     by_cases hxp:x=p
     ·simp -implicitDefEqProofs [obOf,hlt,hml,h5,h6,hL,show(j:Int)<((l.length-k:Nat):Int) by omega,e1,kin,qac,hp2,hx2,hp',hx',hxp,e2]
      rw[if_pos hxp]at hst
      exact nx (j+1,F,L) [(1000,1000)] ⟨by simp,by simp only;omega,by simp only;omega,hst,hL,hLt,hnd⟩ (by simp only;omega) (h4:=by simp[obOf,e2,kin])
     ·rw[if_neg hxp]at hst
      obtain⟨z,hz⟩:∃ z,L[F.length]?=some z:=⟨_,List.getElem?_eq_getElem (by omega)⟩
      simp -implicitDefEqProofs [obOf,hlt,hml,h5,h6,hL,show(j:Int)<((l.length-k:Nat):Int) by omega,e1,kin,qac,hp2,hx2,hp',hx',hxp,e2,e3]
      refine⟨by omega,nx (j+1,F++[x],L.set F.length x) [(1000,1000)] ⟨by simp,by simp only;omega,by simp;omega,hst,by simp[hL],?_,?_⟩ (by simp only;omega) (h4:=by simp[obOf,e2,e3,kin,hz,qac])⟩
      ·simp only[List.length_append,List.length_cons,List.length_nil]
       rw[List.take_add_one,List.getElem?_set_self (by omega),List.take_set_of_le (by omega),hLt]
       rfl
      ·simp only
       rw[List.drop_set_of_lt (by omega),hnd]
    ·have hje:k+j=l.length:=by omega
     rw[hje,List.take_length]at hd
     subst hd
     generalize hF2:dsL l=F at *
     simp -implicitDefEqProofs [obOf,hL,kin,show ¬ (j:Int)<((l.length-k:Nat):Int) by omega]
     have e:=spl_take (L.map qac) F.length (List.replicate (l.length-F.length) [.int .i64 0]) (by simp;omega)
     refine⟨by omega,by omega,by omega,[(1000,⟨1,spl (L.map qac) F.length (List.replicate (l.length-F.length) [.int .i64 0])⟩)],by simp[qac],?_⟩
     have h:=wkL.cons 1000 ⟨1,spl (L.map qac) F.length (List.replicate (l.length-F.length) [.int .i64 0])⟩ F.length .nil
     have e2:(spl (L.map qac) F.length (List.replicate (l.length-F.length) [.int .i64 0])).take F.length=F.map qac:=by
      simp only[spl]
      rw[List.take_append_of_le_length (by simp;omega),List.take_take,Nat.min_self,← List.map_take,hLt]
     simp only[e2]at h
     exact h
   ·simp -implicitDefEqProofs [obOf,hlt,hml,show(k:Int)<l.length by omega,e1,kin,qac,hp,hx,hp',hx',hxp,e2]
    rw[if_neg hxp,hd]at hst
    exact nx (k+1) [(1000,1000)] ⟨by omega,by omega,by rw[hst,takeS hx]⟩ (by omega) (h4:=by simp[obOf,e2,kin])
  ·have hie:k=l.length:=by omega
   subst hie
   rw[List.take_length]at hd
   rw[hd]
   simp -implicitDefEqProofs [obOf]
   exact⟨[(1000,kin l)],by simp,by simpa [kin,List.take_of_length_le]using wkL.cons 1000 (kin l) l.length .nil⟩
def srt (l:List Int):List Int:=l.mergeSort fun x y=>decide (x≤y)
theorem srt_len (l:List Int):(srt l).length=l.length:=by simp[srt,List.length_mergeSort]
theorem int_rel2 {w:World} {Z:Addr→Prop} {γ:Gm} {k:IntKind} {n:Int} {v:Value} (h:AVRel w Z γ (.int k n) v):v=.int k n:=by cases h;rfl
theorem len64z:CV prog 348 [.int .u64 0] (.int .i64 0):=by
 refine cvx func348 [] ntmps348 rfl rfl rfl ?_
 simp -implicitDefEqProofs
 decide
theorem lenz:CV prog 304 [.int .u64 0] (.int .i64 0):=by
 refine cvx func304 [] ntmps304 rfl rfl rfl ?_
 simp -implicitDefEqProofs
 refine len64z.call ?_
 simp -implicitDefEqProofs
theorem insNil:ACall prog 338 [.sl 1000 0 0,.int .i64 0,.int .i64 0] [(1000,kin [])] (fun r L'=>r=.tup []∧L'=[(1000,kin [])]):=by
 refine acx func338 [] ntmps338 rfl rfl rfl ?_
 simp -implicitDefEqProofs
 refine ev_lo (X:=Unit) [0,1,2,6] [(1000,1000)] (fun _=>[(0,.sl 1000 0 0),(1,.int .i64 0),(2,.int .i64 0),(6,.int .i64 1)]) (fun _=>[(1000,kin [])]) (fun _=>0) (fun _=>True) () trivial ?_ (he:=by simp[obOf])
 rintro⟨⟩ -
 simp -implicitDefEqProofs
theorem pdqNil:ACall prog 303 [.sl 1000 0 0,.int .i64 0,.int .i64 0,.int .i64 0] [(1000,kin [])] (fun r L'=>r=.tup []∧L'=[(1000,kin [])]):=by
 refine acx func303 [] ntmps303 rfl rfl rfl ?_
 simp -implicitDefEqProofs
 refine ev_lo (X:=Unit) [0,1,2,3] [(1000,1000)] (fun _=>[(0,.sl 1000 0 0),(1,.int .i64 0),(2,.int .i64 0),(3,.int .i64 0)]) (fun _=>[(1000,kin [])]) (fun _=>0) (fun _=>True) () trivial ?_ (he:=by simp[obOf])
 rintro⟨⟩ -
 simp -implicitDefEqProofs
 refine qaf [(1000,.whole 1000)] (by kernel_rfl) insNil (by simp) (by simp) (by simp;exact qah rfl (clR_kin _)) (by simp) (by simp) ?_
 rintro r L' ⟨rfl,rfl⟩
 refine⟨[],⟨by simp,by simp,by simp,by simp,by simp⟩,?_⟩
 simp only[qan]
 simp -implicitDefEqProofs
theorem sortNil:ACall prog 225 [.sl 1000 0 0] [(1000,kin [])] (fun r L'=>r=.tup []∧L'=[(1000,kin [])]):=by
 refine acx func225 [] ntmps225 rfl rfl rfl ?_
 simp -implicitDefEqProofs
 refine lenz.call ?_
 simp -implicitDefEqProofs
 refine qaf [(1000,.whole 1000)] (by kernel_rfl) pdqNil (by simp) (by simp) (by simp;exact qah rfl (clR_kin _)) (by simp) (by simp) ?_
 rintro r L' ⟨rfl,rfl⟩
 refine⟨[],⟨by simp,by simp,by simp,by simp,by simp⟩,?_⟩
 simp only[qan]
 simp -implicitDefEqProofs
theorem iSortO (l:List Int) (hne:l≠[]) (hl:l.length≤1048576):ACall prog 225 [.sl 1000 0 l.length] [(1000,kin l)] (fun r L'=>r=.tup []∧L'=[(1000,kin (srt l))]):=by
 intro w Z γ vs hv hh hg
 obtain⟨x,rfl,h1⟩:=crel1 hv
 have hpos:0<l.length:=List.length_pos_iff.2 hne
 generalize hn:l.length=n at h1
 have key:∃ (r:Rg) (cap:Nat),γ 1000=some r∧x=.slice (some (r.A.at 0)) l.length cap∧l.length≤cap:=by
  cases h1 with
  | sl _ id e len cap r hg2 hl2 hc=>exact⟨r,cap,hg2,by rw[hn];simp,by omega⟩
  | sl0=>omega
 obtain⟨r,cap,hr,rfl,hcap⟩:=key
 obtain⟨r',hr',hor⟩:=hh.obj 1000 (kin l) (by simp)
 rw[hr]at hr'
 injection hr' with hr'
 subst hr'
 have hfit:=hor.fit
 simp only[kin,List.length_map,Nat.mul_one]at hfit
 have hcell:∀ j,j<l.length→w.cell? (r.A.at j)=some (.int .i64 (l.toArray[j]!))∧w.frozen? (r.A.at j)=false:=fun j hj=>by
  obtain⟨v,hv,hrel⟩:=hor.cell j 0 (by simpa [kin]using hj) (by simp[kin])
  have e:(((kin l).els.getD j []).getD 0 .top)=.int .i64 (l.toArray[j]!):=by
   simp[kin,List.getD,hj,qac]
  rw[e]at hrel
  have:=int_rel2 hrel
  subst this
  refine⟨by simpa [kin]using hv,(hor.live j (by omega)).2⟩
 have hH:Sort.Holds (Value.int .i64) w r.A.block r.A.off l.toArray:=fun j hj=>hcell j (by simpa using hj)
 have hbk:r.A.block<w.heap.size:=World.block_lt_of_cell? w (r.A.at 0) (hcell 0 hpos).1
 refine .inl ⟨by kernel_rfl,?_⟩
 have hcall:=Tryz.slices_Sort_int r.A.block r.A.off cap l w hH hbk (by omega)
 refine hcall.mono ?_
 rintro e w' ⟨rfl,k,os,rfl⟩
 have hHa:Sort.Holds (Value.int .i64) (Sort.ahead w k) r.A.block r.A.off l.toArray:=hH
 have hput:Sort.putRow (Value.int .i64) (Sort.ahead w k) r.A.block r.A.off (srt l).toArray=(Sort.ahead w k).setCells r.A.block (r.A.off+0) ((srt l).map (Value.int .i64)):=by
  have h2:=Lib.putRow_setCells (Value.int .i64) (Sort.ahead w k) r.A.block r.A.off (srt l) l.toArray 0 (by simp[srt_len])
  rw[Sort.putRow_self _ _ _ _ _ hHa]at h2
  rw[h2]
  congr 1
  apply Array.ext_getElem?
  intro j
  rw[Lib.lay_get? _ _ _ _ (by simp[srt_len])]
  simp only[Nat.zero_le,true_and,Nat.zero_add,Nat.sub_zero,srt_len,List.getElem?_toArray]
  split
  ·rfl
  ·rw[List.getElem?_eq_none (by rw[srt_len];omega),List.getElem?_eq_none (by omega)]
 rw[show(l.mergeSort fun x y=>decide (x≤y))=srt l from rfl,hput]
 have ha:HRel (Sort.ahead w k) Z γ (hpOf [(1000,kin l)]):=hh.same (fun p _=>⟨rfl,rfl⟩) (Nat.le_refl _)
 have hu:upd (hpOf [(1000,kin l)]) 1000 (some (kin (srt l)))=hpOf [(1000,kin (srt l))]:=by
  funext i
  by_cases h:i=1000
  ·subst h;simp[upd]
  ·rw[qao _ _ h];simp[h]
 obtain⟨hw1,hw2⟩:=ha.write (id:=1000) (o:=kin l) (o':=kin (srt l)) (r:=r) (by simp) hr 0 ((srt l).map (Value.int .i64)) (by simp[srt_len];omega) rfl (by simp[kin,srt_len];omega) (fun e he=>by
  simp only[kin,List.length_map]at he
  simp[kin,List.getD,he,qac]) (fun e j he hj=>by
   simp only[kin,List.length_map]at he hj
   have hj0:j=0:=by omega
   subst hj0
   refine⟨.int .i64 (srt l)[e],?_,.inl ⟨by simp,by simp[kin];omega,by simp[kin,he]⟩⟩
   have e2:((kin (srt l)).els.getD e []).getD 0 .top=.int .i64 (srt l)[e]:=by simp[kin,List.getD,he,qac]
   rw[e2]
   exact .int _ _ _)
 rw[hu]at hw1
 have hsz:=size_setCells r.A.block ((srt l).map (Value.int .i64)) (r.A.off+0) (Sort.ahead w k)
 generalize hW:(Sort.ahead w k).setCells r.A.block (r.A.off+0) ((srt l).map (Value.int .i64))=W at *
 have hsz':W.heap.size=w.heap.size:=hsz
 have hF1:Fr (fun p=>p.block=r.A.block∧r.A.off+0≤p.off∧p.off<r.A.off+0+((srt l).map (Value.int .i64)).length) (Sort.ahead w k) W:=hW ▸ Fr.setCells r.A.block ((srt l).map (Value.int .i64)) (r.A.off+0) (Sort.ahead w k)
 have hF0:Fr (fun p=>p.block=r.A.block∧r.A.off+0≤p.off∧p.off<r.A.off+0+((srt l).map (Value.int .i64)).length) w W:=⟨hF1.os,hF1.tape,hF1.output,hF1.size,hF1.blk⟩
 refine⟨.tuple #[],.tup [],[(1000,kin (srt l))],Z,γ,rfl,⟨rfl,rfl⟩,.tup _ _ _ rfl (fun j hj=>by simp at hj),?_,?_,fun _ h=>h,fun p h=>.inl h,?_,fun _ _ _=>rfl⟩
 ·exact hw1.same (fun p hp=>⟨Sort.cell?_grow _ _ _ hp,Sort.frozen?_grow _ _ _ hp⟩) (by simp[Sort.grow])
 ·refine hF0.trans (G:=fun _=>False) ⟨rfl,rfl,rfl,by simp[Sort.grow],fun b hb=>.inl (Sort.heap_grow_old _ _ hb)⟩ (fun i o hp=>?_) (fun _ _ _ h=>h.elim)
  refine⟨1000,kin l,r,by simp,hr,?_⟩
  simp only[List.length_map,srt_len]at hp
  exact⟨hp.1,by have:=hp.2.1;simp only at this ⊢;omega,by have:=hp.2.2;simp only at this ⊢;omega,rfl⟩
 ·intro id o rg h1 h2 p hp
  by_cases h:id=1000
  ·subst h
   exact .inr ⟨1000,kin l,rg,by simp,h2,hp⟩
  ·simp[h]at h1
theorem iSortZ (l:List Int) (hl:l.length≤1048576):ACall prog 225 [.sl 1000 0 l.length] [(1000,kin l)] (fun r L'=>r=.tup []∧L'=[(1000,kin (srt l))]):=by
 cases l with
 | nil=>simpa [srt]using sortNil
 | cons a r=>exact iSortO (a::r) (by simp) hl
theorem up_ext:∀ {a b:List Int},a.Pairwise (· < ·)→b.Pairwise (· < ·)→(∀ x,x∈a↔x∈b)→a=b
 | [],[],_,_,_=>rfl
 | [],y::b,_,_,h=>absurd ((h y).2 (by simp)) (by simp)
 | x::a,[],_,_,h=>absurd ((h x).1 (by simp)) (by simp)
 | x::a,y::b,h1,h2,h=>by
  rw[List.pairwise_cons]at h1 h2
  have hxy:x=y:=by
   rcases List.mem_cons.1 ((h x).1 (by simp))with e | e
   ·exact e
   ·rcases List.mem_cons.1 ((h y).2 (by simp))with e2 | e2
    ·exact e2.symm
    ·have:=h1.1 y e2;have:=h2.1 x e;omega
  subst hxy
  rw[up_ext h1.2 h2.2 fun z=>⟨fun hz=>?_,fun hz=>?_⟩]
  ·rcases List.mem_cons.1 ((h z).1 (List.mem_cons_of_mem _ hz))with e | e
   ·have:=h1.1 z hz;omega
   ·exact e
  ·rcases List.mem_cons.1 ((h z).2 (List.mem_cons_of_mem _ hz))with e | e
   ·have:=h2.1 z hz;omega
   ·exact e
theorem plP_split:∀ (l:List Int) (a:Int),(∀ x∈l.take (plP l a),x<a)∧(l.Pairwise (· < ·)→¬ a∈l→∀ x∈l.drop (plP l a),a<x)
 | [],a=>by simp[plP]
 | y::r,a=>by
  obtain⟨h1,h2⟩:=plP_split r a
  by_cases h:y<a
  ·have e:plP (y::r) a=plP r a+1:=by simp[plP,h]
   rw[e]
   refine⟨fun x hx=>?_,fun hp hn=>?_⟩
   ·simp only[List.take_succ_cons,List.mem_cons]at hx
    rcases hx with rfl | hx
    ·exact h
    ·exact h1 x hx
   ·rw[List.pairwise_cons]at hp
    simpa using h2 hp.2 (fun hm=>hn (List.mem_cons_of_mem _ hm))
  ·have e:plP (y::r) a=0:=by simp[plP,h]
   rw[e]
   refine⟨by simp,fun hp hn x hx=>?_⟩
   rw[List.pairwise_cons]at hp
   have hy:y≠a:=fun e=>hn (by simp[e])
   simp only[List.drop_zero,List.mem_cons]at hx
   rcases hx with rfl | hx
   ·omega
   ·have:=hp.1 x hx;omega
theorem addB_up {l:List Int} (h:l.Pairwise (· < ·)) (a:Int):(addB l a).Pairwise (· < ·)∧∀ x,x∈addB l a↔x∈l∨(x=a∧13≤a):=by
 unfold addB
 split
 ·rename_i hc
  refine⟨h,fun x=>⟨.inl,fun hx=>?_⟩⟩
  rcases hx with hx | ⟨rfl,h13⟩
  ·exact hx
  ·rcases hc with hc | hc
   ·omega
   ·simpa using hc
 ·rename_i hc
  have hn:¬ a∈l:=fun hm=>hc (.inr (by simpa using hm))
  have h13:13≤a:=by
   have:¬ a<13:=fun h=>hc (.inl h)
   omega
  obtain⟨h1,h2⟩:=plP_split l a
  have h2:=h2 h hn
  have hs:=List.take_append_drop (plP l a) l
  have hp:(l.take (plP l a)++l.drop (plP l a)).Pairwise (· < ·):=by rw[hs];exact h
  rw[List.pairwise_append]at hp
  refine⟨?_,fun x=>?_⟩
  ·rw[List.pairwise_append,List.pairwise_cons]
   refine⟨hp.1,⟨h2,hp.2.1⟩,fun x hx y hy=>?_⟩
   rcases List.mem_cons.1 hy with rfl | hy
   ·exact h1 x hx
   ·exact hp.2.2 x hx y hy
  ·have:x∈l↔x∈l.take (plP l a)∨x∈l.drop (plP l a):=by rw[← List.mem_append,hs]
   rw[this]
   simp only[List.mem_append,List.mem_cons]
   constructor
   ·rintro(h | rfl | h)
    ·exact .inl (.inl h)
    ·exact .inr ⟨rfl,h13⟩
    ·exact .inl (.inr h)
   ·rintro((h | h) | ⟨rfl,_⟩)
    ·exact .inl h
    ·exact .inr (.inr h)
    ·exact .inr (.inl rfl)
theorem addsB_up:∀ (bs:List Int) {l:List Int},l.Pairwise (· < ·)→(addsB l bs).Pairwise (· < ·)∧∀ x,x∈addsB l bs↔x∈l∨(x∈bs∧13≤x)
 | [],l,h=>⟨h,fun x=>by simp[addsB]⟩
 | a::r,l,h=>by
  obtain⟨h1,h2⟩:=addB_up h a
  obtain⟨h3,h4⟩:=addsB_up r h1
  rw[addsB_cons]
  refine⟨h3,fun x=>?_⟩
  rw[h4,h2]
  simp only[List.mem_cons]
  constructor
  ·rintro((h | ⟨rfl,h⟩) | ⟨h,h'⟩)
   ·exact .inl h
   ·exact .inr ⟨.inl rfl,h⟩
   ·exact .inr ⟨.inr h,h'⟩
  ·rintro(h | ⟨rfl | h,h'⟩)
   ·exact .inl (.inl h)
   ·exact .inl (.inr ⟨rfl,h'⟩)
   ·exact .inr ⟨h,h'⟩
theorem dsT_up:∀ (l:List Int) (p:Int),(p::l).Pairwise (·≤·)→(p::dsT p l).Pairwise (· < ·)∧∀ x,x∈p::dsT p l↔x∈p::l
 | [],p,_=>by simp[dsT]
 | a::r,p,h=>by
  rw[List.pairwise_cons]at h
  obtain⟨h1,h2⟩:=dsT_up r a h.2
  simp only[dsT]
  split
  ·rename_i e
   subst e
   refine⟨h1,fun x=>?_⟩
   rw[h2];simp
  ·rename_i e
   have hpa:=h.1 a (by simp)
   refine⟨?_,fun x=>?_⟩
   ·rw[List.pairwise_cons]
    refine⟨fun y hy=>?_,h1⟩
    have hy2:=(h2 y).1 hy
    rcases List.mem_cons.1 hy2 with rfl | hy2
    ·omega
    ·rw[List.pairwise_cons]at h
     have:=h.2.1 y hy2
     omega
   ·have:=h2 x
    simp only[List.mem_cons]at this ⊢
    rw[this]
theorem dsL_up {l:List Int} (h:l.Pairwise (·≤·)):(dsL l).Pairwise (· < ·)∧∀ x,x∈dsL l↔x∈l:=by
 cases l with
 | nil=>simp[dsL]
 | cons a r=>exact dsT_up r a h
def rawL (c:CO) (root:Int):List Int:=root::(c.ddt.map DE.ea++(c.sets.map (fun s=>s.home.pa)++c.parts.map PT.pa))
theorem reach_law (c:CO) (root:Int):dsL (srt (hiL (rawL c root)))=reachB c root:=by
 have hs:(srt (hiL (rawL c root))).Pairwise (·≤·):=by
  have:=List.pairwise_mergeSort (le:=fun x y:Int=>decide (x≤y)) (fun a b c h1 h2=>by simp at *;omega) (fun a b=>by simp;omega) (hiL (rawL c root))
  simpa [srt]using this
 obtain⟨h1,h2⟩:=dsL_up hs
 have h0:([]:List Int).Pairwise (· < ·):=.nil
 obtain⟨a1,a2⟩:=addB_up h0 root
 obtain⟨b1,b2⟩:=addsB_up (c.ddt.map DE.ea) a1
 obtain⟨c1,c2⟩:=addsB_up (c.sets.map fun s=>s.home.pa) b1
 obtain⟨d1,d2⟩:=addsB_up (c.parts.map PT.pa) c1
 refine up_ext h1 d1 fun x=>?_
 rw[h2]
 show _↔x∈addsB (addsB (addsB (addB [] root) (c.ddt.map DE.ea)) (c.sets.map fun s=>s.home.pa)) (c.parts.map PT.pa)
 rw[d2,c2,b2,a2]
 have:x∈srt (hiL (rawL c root))↔x∈rawL c root∧13≤x:=by
  rw[srt,List.mem_mergeSort,hiL,List.mem_filter]
  simp[loB]
 rw[this]
 simp only[rawL,List.mem_cons,List.mem_append,List.not_mem_nil,false_or]
 grind
@[simp] theorem renL_intRow2 {α:Type} (ρ:Nat→Option Plc) (f:α→Int):renL ρ ∘ qac ∘ f=qac ∘ f:=by funext x;simp[qac]
theorem iReachO (c:CO) (h:CoT c) (hc:qax c=true) (root:Int):ACall prog 122 [.agg c.row,.int .i64 root] [] (fun r L'=>r=.sl 900 0 (reachB c root).length∧L'=[(900,kin (reachB c root))]):=by
 obtain⟨hm,k1,k2,k3,k4,k5,k6,k7⟩:=coreOk_M hc
 rw[← reach_law]
 have c0:=iCoreOk c h
 rw[hc]at c0
 simp only[CO.row]at c0
 refine acx func122 [] ntmps122 rfl rfl rfl ?_
 simp -implicitDefEqProofs [CO.row]
 refine c0.call ?_
 simp -implicitDefEqProofs [CO.row]
 refine ev_lo (X:=Nat) [2,5,18,19,20] [(2,2),(16,900)] (fun i=>[(5,.sl 900 0 (1+i)),(20,.int .i64 i)]) (fun i=>[(2,⟨7,[c.row]⟩),(900,kin (root::(c.ddt.take i).map DE.ea))]) (fun i=>c.ddt.length-i) (fun i=>i≤c.ddt.length) 0 (by simp) ?_ (he:=by simp[obOf,kin,CO.row,qac])
 intro i hi
 cases hr:c.ddt.drop i with
 | nil =>
  have:=dropn hr
  have hie:i=c.ddt.length:=by omega
  subst hie
  rw[List.take_length]
  simp -implicitDefEqProofs [obOf,CO.row]
  refine ev_lo (X:=Nat) [2,5,31,32,33] [(2,2),(900,900)] (fun i=>[(5,.sl 900 0 (1+c.ddt.length+i)),(33,.int .i64 i)]) (fun i=>[(2,⟨7,[c.row]⟩),(900,kin (root::(c.ddt.map DE.ea++(c.sets.take i).map (fun s=>s.home.pa))))]) (fun i=>c.sets.length-i) (fun i=>i≤c.sets.length) 0 (by simp) ?_ (he:=by simp[obOf,kin,CO.row,qac])
  intro i hi
  cases hr:c.sets.drop i with
  | nil =>
   have:=dropn hr
   have hie:i=c.sets.length:=by omega
   subst hie
   rw[List.take_length]
   simp -implicitDefEqProofs [obOf,CO.row]
   refine ev_lo (X:=Nat) [2,5,45,46,47] [(2,2),(900,900)] (fun i=>[(5,.sl 900 0 (1+c.ddt.length+c.sets.length+i)),(47,.int .i64 i)]) (fun i=>[(2,⟨7,[c.row]⟩),(900,kin (root::(c.ddt.map DE.ea++(c.sets.map (fun s=>s.home.pa)++(c.parts.take i).map PT.pa))))]) (fun i=>c.parts.length-i) (fun i=>i≤c.parts.length) 0 (by simp) ?_ (he:=by simp[obOf,kin,CO.row,qac])
   intro i hi
   cases hr:c.parts.drop i with
   | nil =>
    have:=dropn hr
    have hie:i=c.parts.length:=by omega
    subst hie
    rw[List.take_length]
    have hraw:(root::(c.ddt.map DE.ea++(c.sets.map (fun s=>s.home.pa)++c.parts.map PT.pa)))=rawL c root:=rfl
    rw[hraw]
    have hlen:(rawL c root).length=1+c.ddt.length+c.sets.length+c.parts.length:=by simp[rawL];omega
    generalize rawL c root=raw at *
    simp -implicitDefEqProofs [obOf,CO.row]
    rw[← hlen]
    have h1:=hiL_le raw
    refine qaf [(1000,.whole 900)] (by kernel_rfl) (iDelO raw (by omega)) (by simp) (by simp) (by simp[kin];exact qah rfl (by simp[clR,qac])) (by simp) (by simp) ?_
    rintro r L' ⟨rfl,rfl⟩
    refine⟨[],⟨by simp,by simp,by simp,by simp,by simp⟩,?_⟩
    simp only[qan]
    simp -implicitDefEqProofs
    refine qaf [(1000,.whole 900)] (by kernel_rfl) (iSortZ (hiL raw) (by omega)) (by simp) (by simp) (by simp[kin];exact qah rfl (by simp[clR,qac])) (by simp) (by simp) ?_
    rintro r L' ⟨rfl,rfl⟩
    refine⟨[],⟨by simp,by simp,by simp,by simp,by simp⟩,?_⟩
    simp only[qan]
    simp -implicitDefEqProofs
    have h2:=srt_len (hiL raw)
    rw[← h2]
    refine qaf [(1000,.whole 900)] (by kernel_rfl) (iCompO (srt (hiL raw)) (by omega)) (by simp) (by simp) (by simp[kin];exact qah rfl (by simp[clR,qac])) (by simp) (by simp) ?_
    rintro r L' ⟨rfl,rfl⟩
    refine⟨[],⟨by simp,by simp,by simp,by simp,by simp⟩,?_⟩
    simp only[qan]
    simp -implicitDefEqProofs
   | cons e r =>
    obtain⟨g1,e0,e1,g3⟩:=dropc hr
    have e2:=i64w ((i:Int)+1) (by omega) (by omega)
    simp -implicitDefEqProofs [obOf,g1,e0,e1,PT.row,CO.row,kin]
    have ht:=tk1 (qac ∘ PT.pa) e1
    have hl:List.take (1+c.ddt.length+c.sets.length+i) ([AV.int IntKind.i64 root]::(List.map (qac ∘ DE.ea) c.ddt++(List.map (qac ∘ fun s=>s.home.pa) c.sets++List.take i (List.map (qac ∘ PT.pa) c.parts))))=[AV.int IntKind.i64 root]::(List.map (qac ∘ DE.ea) c.ddt++(List.map (qac ∘ fun s=>s.home.pa) c.sets++List.take i (List.map (qac ∘ PT.pa) c.parts))):=List.take_of_length_le (by simp;omega)
    refine⟨by omega,nx (i+1) [(2,2),(55,900)] (by omega) (h4:=?_)⟩
    simp[obOf,ht,hl,e2,CO.row,kin,← Nat.add_assoc]
    all_goals simp[qac]
  | cons e r =>
   obtain⟨g1,e0,e1,g3⟩:=dropc hr
   have h8:=h.m8 e (List.mem_of_getElem? e1)
   have e2:=i64w ((i:Int)+1) (by omega) (by omega)
   have hpa:=cs_hpa e h8
   have hpa':=(List.getElem?_eq_some_iff.1 hpa).2
   simp -implicitDefEqProofs [obOf,g1,e0,e1,CO.row,qbf e h8,cs_take e h8,hpa,hpa',kin]
   have ht:=tk1 (qac ∘ fun s:CS=>s.home.pa) e1
   have hl:List.take (1+c.ddt.length+i) ([AV.int IntKind.i64 root]::(List.map (qac ∘ DE.ea) c.ddt++List.take i (List.map (qac ∘ fun s=>s.home.pa) c.sets)))=[AV.int IntKind.i64 root]::(List.map (qac ∘ DE.ea) c.ddt++List.take i (List.map (qac ∘ fun s=>s.home.pa) c.sets)):=List.take_of_length_le (by simp;omega)
   refine⟨cs_ones e,by omega,nx (i+1) [(2,2),(42,900)] (by omega) (h4:=?_)⟩
   simp[obOf,ht,hl,e2,CO.row,kin,← Nat.add_assoc]
   all_goals simp[qac]
 | cons e r =>
  obtain⟨g1,e0,e1,g3⟩:=dropc hr
  have e2:=i64w ((i:Int)+1) (by omega) (by omega)
  simp -implicitDefEqProofs [obOf,g1,e0,e1,DE.row,CO.row,kin]
  have ht:=tk1 (qac ∘ DE.ea) e1
  have hl:List.take (1+i) ([AV.int IntKind.i64 root]::List.take i (List.map (qac ∘ DE.ea) c.ddt))=[AV.int IntKind.i64 root]::List.take i (List.map (qac ∘ DE.ea) c.ddt):=List.take_of_length_le (by simp;omega)
  refine⟨by omega,nx (i+1) [(2,2),(28,900)] (by omega) (h4:=?_)⟩
  simp[obOf,ht,hl,e2,CO.row,kin,← Nat.add_assoc]
  all_goals simp[qac]
end Go.Av.F
end
section
namespace Go.Av.F
open Go Go.Av Go.Proofs Go.Proofs.Tryz
theorem iCommitOkC (d:DK) (hd:DkT d) (c:CO) (h:CoT c):CV prog 82 [.agg d.row,.agg c.row] (.bool (dOkB d && qax c && decide (13<d.s0.length))):=by
 have c1:=iDiskOkC d hd
 have c2:=iCoreOk c h
 have hl:=hd.l0
 simp only[DK.row,CO.row]at c1 c2
 refine cvx func82 [] ntmps82 rfl rfl rfl ?_ (hca:=by simp[DK.row,co_cl])
 simp -implicitDefEqProofs [DK.row,CO.row]
 refine c1.call ?_
 cases dOkB d with
 | false=>simp -implicitDefEqProofs
 | true =>
  simp -implicitDefEqProofs [DK.row,CO.row]
  refine c2.call ?_
  cases qax c with
  | false=>simp -implicitDefEqProofs
  | true =>
   simp -implicitDefEqProofs [DK.row,CO.row]
   omega
theorem noL_pts:∀ (m:List PT),noL (m.flatMap PT.row)=true
 | []=>rfl
 | p::r=>by
  rw[List.flatMap_cons,noL_append,noL_pts r]
  rfl
theorem noL_cs (s:CS):noL s.row=true:=by
 have e:s.row=[.str s.name,.int .i64 s.kind,.str s.frm]++(s.map.flatMap PT.row++(s.home.row++[.bool s.dirty])):=by simp[CS.row]
 rw[e,noL_append,noL_append,noL_pts]
 rfl
theorem iPoolOkC (p:PO) (hd:DkT p.d) (hc:CoT p.c):CV prog 29 [.agg p.row] (.bool (poolOkB p)):=by
 have c1:=iCommitOkC p.d hd p.c hc
 have e:poolOkB p=(dOkB p.d && qax p.c && decide (13<p.d.s0.length)):=by
  unfold poolOkB
  cases dOkB p.d <;> cases qax p.c <;> simp
 rw[e]
 simp only[DK.row,CO.row]at c1
 refine cvx func29 [] ntmps29 rfl rfl rfl ?_ (hca:=by simp[PO.row,DK.row,co_cl])
 simp -implicitDefEqProofs [PO.row,DK.row,CO.row]
 refine c1.call ?_
 simp -implicitDefEqProofs
def szLs (l:List (List UInt8)) (left:Int):Int:=if left-l.length<0 then -1 else szSs l (left-l.length)
theorem szLs_le (l:List (List UInt8)) {left:Int} (h:0≤left):szLs l left≤left∧-1≤szLs l left∧(0≤szLs l left→(l.length:Int)≤left∧∀ t∈l,(t.length:Int)≤left):=by
 unfold szLs
 split
 ·exact⟨by omega,by omega,fun h'=>by omega⟩
 ·obtain⟨h1,h2,h3⟩:=szSs_le l (left-l.length) (by omega)
  exact⟨by omega,h2,fun h'=>⟨by omega,fun t ht=>by have:=h3 h' t ht;omega⟩⟩
theorem szStrC (l:List (List UInt8)) (left:Int) (hl:l.length≤maxLen) (hm:∀ t∈l,t.length≤maxLen) (h0:0≤left∧left≤1048576):CV prog 140 [.lst 1 (l.map qai),.int .i64 left] (.int .i64 (szLs l left)):=by
 obtain⟨R,hR⟩:∃ R,szLs l left=R:=⟨_,rfl⟩
 rw[hR]
 unfold szLs at hR
 have hml:maxLen=9223372036854775807:=rfl
 have e0:=i64w (left-(l.length:Int)) (by omega) (by omega)
 refine cvx func140 [] ntmps140 rfl rfl rfl ?_ (hca:=by simp[qai])
 by_cases hn:left-(l.length:Int)<0
 ·rw[if_pos hn]at hR
  subst hR
  simp -implicitDefEqProofs [e0,hn,show left<(l.length:Int) by omega]
 ·rw[if_neg hn]at hR
  simp -implicitDefEqProofs [e0,hn,show ¬ left<(l.length:Int) by omega]
  refine ev_lp (X:=Nat×Int) [0,1,5] [] (fun x=>[(5,.int .i64 x.1),(1,.int .i64 x.2)]) (fun _=>[]) (fun x=>l.length-x.1) (fun x=>x.1≤l.length∧0≤x.2∧x.2≤1048576∧szSs (l.drop x.1) x.2=R) (0,left-l.length) (by simp[hR];omega) ?_
  rintro⟨i,k⟩ ⟨hi,hk0,hk,hd⟩
  simp only at hi hk0 hk hd
  cases hr:l.drop i with
  | nil =>
   have:=dropn hr
   rw[hr]at hd
   have hie:i=l.length:=by omega
   simp[szSs]at hd
   simp -implicitDefEqProofs [hie,hd]
  | cons t r =>
   obtain⟨h1,f0,f1,h3⟩:=dropc hr
   rw[hr,szSs]at hd
   have:=hm t (List.mem_of_getElem? f1)
   have e2:=i64w ((i:Int)+1) (by omega) (by omega)
   have e3:=i64w (k-(t.length:Int)) (by omega) (by omega)
   have h1':(i:Int)<l.length:=by omega
   by_cases hq:k-(t.length:Int)<0
   ·rw[if_pos hq]at hd
    simp -implicitDefEqProofs [h1',h1,f0,f1,e3,qai,hq,show k<(t.length:Int) by omega,hd]
   ·rw[if_neg hq]at hd
    simp -implicitDefEqProofs [h1',h1,f0,f1,e2,e3,qai,hq,show ¬ k<(t.length:Int) by omega]
    exact nx (i+1,k-t.length) [] ⟨by simp only;omega,by simp only;omega,by simp only;omega,by simp only[h3];exact hd⟩ (by simp only;omega) (h4:=by simp[e2,e3])
theorem szLate1C (x:LT) (k:Int) (hx:x.lx.length≤maxLen) (h0:0≤k∧k≤1048576):CV prog 141 [.agg x.row,.int .i64 k] (.int .i64 (szSs [x.lx] k)):=by
 have hml:maxLen=9223372036854775807:=rfl
 have e3:=i64w (k-(x.lx.length:Int)) (by omega) (by omega)
 refine cvx func141 [] ntmps141 rfl rfl rfl ?_ (hca:=by simp[LT.row])
 simp only[szSs]
 by_cases hq:k-(x.lx.length:Int)<0
 ·rw[if_pos hq]
  simp -implicitDefEqProofs [LT.row,e3,hq,show k<(x.lx.length:Int) by omega]
 ·rw[if_neg hq]
  simp -implicitDefEqProofs [LT.row,e3,hq,show ¬ k<(x.lx.length:Int) by omega]
theorem szLateC (l:List LT) (left:Int) (hl:l.length≤maxLen) (hm:∀ t∈l,t.lx.length≤maxLen) (h0:0≤left∧left≤1048576):CV prog 63 [.lst 3 (l.map LT.row),.int .i64 left] (.int .i64 (szLs (l.map LT.lx) left)):=by
 obtain⟨R,hR⟩:∃ R,szLs (l.map LT.lx) left=R:=⟨_,rfl⟩
 rw[hR]
 unfold szLs at hR
 rw[List.length_map]at hR
 have hml:maxLen=9223372036854775807:=rfl
 have e0:=i64w (left-(l.length:Int)) (by omega) (by omega)
 refine cvx func63 [] ntmps63 rfl rfl rfl ?_ (hca:=by simp[LT.row])
 by_cases hn:left-(l.length:Int)<0
 ·rw[if_pos hn]at hR
  subst hR
  simp -implicitDefEqProofs [e0,hn,show left<(l.length:Int) by omega]
 ·rw[if_neg hn]at hR
  simp -implicitDefEqProofs [e0,hn,show ¬ left<(l.length:Int) by omega]
  refine ev_lp (X:=Nat×Int) [0,1,5] [] (fun x=>[(5,.int .i64 x.1),(1,.int .i64 x.2)]) (fun _=>[]) (fun x=>l.length-x.1) (fun x=>x.1≤l.length∧0≤x.2∧x.2≤1048576∧szSs ((l.drop x.1).map LT.lx) x.2=R) (0,left-l.length) (by simp[hR];omega) ?_
  rintro⟨i,k⟩ ⟨hi,hk0,hk,hd⟩
  simp only at hi hk0 hk hd
  cases hr:l.drop i with
  | nil =>
   have:=dropn hr
   rw[hr]at hd
   have hie:i=l.length:=by omega
   simp[szSs]at hd
   simp -implicitDefEqProofs [hie,hd]
  | cons t r =>
   obtain⟨h1,f0,f1,h3⟩:=dropc hr
   rw[hr,List.map_cons,szSs]at hd
   have htm:=hm t (List.mem_of_getElem? f1)
   have e2:=i64w ((i:Int)+1) (by omega) (by omega)
   have c1:=szLate1C t k htm ⟨hk0,hk⟩
   have h1':(i:Int)<l.length:=by omega
   simp only[LT.row,szSs]at c1
   simp -implicitDefEqProofs [h1',h1,f0,f1,LT.row]
   refine c1.call ?_
   by_cases hq:k-(t.lx.length:Int)<0
   ·rw[if_pos hq]at hd
    subst hd
    simp -implicitDefEqProofs [hq]
   ·rw[if_neg hq]at hd
    simp -implicitDefEqProofs [hq,e2]
    exact nx (i+1,k-t.lx.length) [] ⟨by simp only;omega,by simp only;omega,by simp only;omega,by simp only[← List.map_drop,h3];exact hd⟩ (by simp only;omega) (h4:=by simp[e2])
def szA2 (d:DK) (left:Int):Int:=if szLs d.s0 left<0 then -1 else szLs d.s1 (szLs d.s0 left)
def DkG (d:DK):Prop:=d.s0.length≤maxLen∧d.s1.length≤maxLen∧d.late.length≤maxLen∧(∀ t∈d.s0,t.length≤maxLen)∧(∀ t∈d.s1,t.length≤maxLen)∧(∀ t∈d.late,t.lx.length≤maxLen)
theorem szA2C (d:DK) (left:Int) (hg:DkG d) (h0:0≤left∧left≤1048576):CV prog 62 [.agg [.lst 1 (d.s0.map qai),.lst 1 (d.s1.map qai)],.int .i64 left] (.int .i64 (szA2 d left)):=by
 obtain⟨R,hR⟩:∃ R,szA2 d left=R:=⟨_,rfl⟩
 rw[hR]
 unfold szA2 at hR
 obtain⟨g1,g2,g3,g4,g5,g6⟩:=hg
 obtain⟨l1,l2,l3⟩:=szLs_le d.s0 h0.1
 have c1:=szStrC d.s0 left g1 g4 h0
 refine cvx func62 [] ntmps62 rfl rfl rfl ?_ (hca:=by simp[qai])
 simp -implicitDefEqProofs
 refine ev_lp (X:=Nat×Int) [1,2,5] [(2,2)] (fun x=>[(5,.int .i64 x.1),(1,.int .i64 x.2)]) (fun _=>[]) (fun x=>2-x.1) (fun x=>(x=(0,left))∨(x=(1,szLs d.s0 left)∧0≤szLs d.s0 left)∨(x=(2,R)∧0≤R)) (0,left) (.inl rfl) ?_ (he:=by simp[obOf,qai])
 rintro x (rfl | ⟨rfl,hz⟩ | ⟨rfl,hz⟩)
 ·simp -implicitDefEqProofs [obOf,qai]
  refine c1.call ?_
  by_cases hq:szLs d.s0 left<0
  ·rw[if_pos hq]at hR
   subst hR
   simp -implicitDefEqProofs [hq]
  ·simp -implicitDefEqProofs [hq]
   exact nx (1,szLs d.s0 left) [(2,2)] (.inr (.inl ⟨rfl,by omega⟩)) (h4:=by simp[obOf,qai])
 ·have c2:=szStrC d.s1 (szLs d.s0 left) g2 g5 ⟨hz,by omega⟩
  obtain⟨m1,m2,m3⟩:=szLs_le d.s1 hz
  rw[if_neg (by omega)]at hR
  simp -implicitDefEqProofs [obOf,qai]
  refine c2.call ?_
  rw[hR]
  by_cases hq:R<0
  ·have:R=-1:=by omega
   subst this
   simp -implicitDefEqProofs
  ·simp -implicitDefEqProofs [hq]
   exact nx (2,R) [(2,2)] (.inr (.inr ⟨rfl,by omega⟩)) (h4:=by simp[obOf,qai])
 ·simp -implicitDefEqProofs [obOf]
def szDk (d:DK) (left:Int):Int:=if szA2 d left<0 then -1 else szLs (d.late.map LT.lx) (szA2 d left)
theorem szA2_le (d:DK) {left:Int} (h:0≤left):szA2 d left≤left∧-1≤szA2 d left∧(0≤szA2 d left→(d.s0.length:Int)≤left∧(d.s1.length:Int)≤left∧(∀ t∈d.s0,(t.length:Int)≤left)∧∀ t∈d.s1,(t.length:Int)≤left):=by
 obtain⟨h1,h2,h3⟩:=szLs_le d.s0 h
 unfold szA2
 split
 ·exact⟨by omega,by omega,fun h'=>by omega⟩
 ·obtain⟨m1,m2,m3⟩:=szLs_le d.s1 (left:=szLs d.s0 left) (by omega)
  exact⟨by omega,m2,fun h'=>⟨(h3 (by omega)).1,by have:=(m3 h').1;omega,(h3 (by omega)).2,fun t ht=>by have:=(m3 h').2 t ht;omega⟩⟩
theorem szDk_le (d:DK) {left:Int} (h:0≤left):szDk d left≤left∧-1≤szDk d left∧(0≤szDk d left→(d.s0.length:Int)≤left∧(d.s1.length:Int)≤left∧(d.late.length:Int)≤left∧(∀ t∈d.s0,(t.length:Int)≤left)∧(∀ t∈d.s1,(t.length:Int)≤left)∧∀ t∈d.late,(t.lx.length:Int)≤left):=by
 obtain⟨h1,h2,h3⟩:=szA2_le d h
 unfold szDk
 split
 ·exact⟨by omega,by omega,fun h'=>by omega⟩
 ·obtain⟨m1,m2,m3⟩:=szLs_le (d.late.map LT.lx) (left:=szA2 d left) (by omega)
  refine⟨by omega,m2,fun h'=>?_⟩
  obtain⟨a1,a2,a3,a4⟩:=h3 (by omega)
  obtain⟨b1,b2⟩:=m3 h'
  rw[List.length_map]at b1
  exact⟨a1,a2,by omega,a3,a4,fun t ht=>by have:=b2 t.lx (List.mem_map.2 ⟨t,ht,rfl⟩);omega⟩
theorem szDkC (d:DK) (left:Int) (hg:DkG d) (h0:0≤left∧left≤1048576):CV prog 22 [.agg d.row,.int .i64 left] (.int .i64 (szDk d left)):=by
 obtain⟨R,hR⟩:∃ R,szDk d left=R:=⟨_,rfl⟩
 have hle:=szDk_le d h0.1
 rw[hR]at hle ⊢
 unfold szDk at hR
 obtain⟨l1,l2,l3⟩:=szA2_le d h0.1
 have c1:=szA2C d left hg h0
 refine cvx func22 [] ntmps22 rfl rfl rfl ?_ (hca:=by simp[DK.row,qai,LT.row])
 simp -implicitDefEqProofs [DK.row]
 refine c1.call ?_
 by_cases hq:szA2 d left<0
 ·rw[if_pos hq]at hR
  subst hR
  simp -implicitDefEqProofs [hq]
 ·rw[if_neg hq]at hR
  have c2:=szLateC d.late (szA2 d left) hg.2.2.1 hg.2.2.2.2.2 ⟨by omega,by omega⟩
  rw[hR]at c2
  simp -implicitDefEqProofs [hq,DK.row]
  refine c2.call ?_
  by_cases hz:R<0
  ·have:R=-1:=by omega
   subst this
   simp -implicitDefEqProofs
  ·simp -implicitDefEqProofs [hz]
theorem szCoreL (c:CO) (hg:CoG c) (left:Int) (h0:0≤left∧left≤1048576):ACall prog 23 [.agg c.row,.int .i64 left] [] (fun r L'=>szR left (CoS c) r∧clA r=true∧L'=[]):=by
 obtain⟨_,g2,_,_,_,_,m1,m2,m3,m4⟩:=hg
 refine acx func23 [] ntmps23 rfl rfl rfl ?_
 simp -implicitDefEqProofs [CO.row]
 refine callA_ex (by kernel_rfl) (szSetsC c.sets left g2 m1 (by omega)) (by simp[cs_cl]) ?_
 rintro r ⟨y,rfl,y1,y2,y3⟩
 by_cases hy:y<0
 ·simp -implicitDefEqProofs [hy,szR]
  omega
 simp -implicitDefEqProofs [hy]
 refine callA_ex (by kernel_rfl) (szDdtC c.ddt y m2 (by omega)) (by simp[DE.row]) ?_
 rintro r ⟨x,rfl,x1,x2,x3⟩
 by_cases hx:x<0
 ·simp -implicitDefEqProofs [hx,szR]
  omega
 simp -implicitDefEqProofs [hx]
 refine callA_ex (by kernel_rfl) (szPtrC c.parts x m3 (by omega)) (by simp[PT.row]) ?_
 rintro r ⟨z,rfl,z1,z2,z3⟩
 by_cases hz:z<0
 ·simp -implicitDefEqProofs [hz,szR]
  omega
 simp -implicitDefEqProofs [hz]
 refine callA_ex (by kernel_rfl) (szIntC c.safe z m4 (by omega)) (by simp[qac]) ?_
 rintro r ⟨v,rfl,v1,v2,v3⟩
 by_cases hv:v<0
 ·simp -implicitDefEqProofs [hv,szR]
  omega
 simp -implicitDefEqProofs [hv]
 obtain⟨q1,q2⟩:=y3 (by omega)
 have q3:=x3 (by omega)
 have q4:=z3 (by omega)
 have q5:=v3 (by omega)
 exact⟨v,rfl,by omega,by omega,fun _=>⟨by omega,by omega,by omega,by omega,fun s hs=>⟨by have:=(q2 s hs).1;omega,by have:=(q2 s hs).2;omega⟩⟩⟩
def DkS (d:DK):Prop:=d.s0.length≤1048576∧d.s1.length≤1048576∧d.late.length≤1048576∧(∀ t∈d.s0,t.length≤1048576)∧(∀ t∈d.s1,t.length≤1048576)∧∀ t∈d.late,t.lx.length≤1048576
theorem szPoolC (p:PO) (hd:DkG p.d) (hc:CoG p.c):ACall prog 6 [.agg p.row,.int .i64 1048576] [] (fun r L'=>szR 1048576 (DkS p.d∧CoS p.c) r∧clA r=true∧L'=[]):=by
 have c1:=szDkC p.d 1048576 hd (by omega)
 obtain⟨l1,l2,l3⟩:=szDk_le p.d (left:=1048576) (by omega)
 generalize szDk p.d 1048576=z at *
 simp only[DK.row]at c1
 have c2:=szCoreL p.c hc
 simp only[CO.row]at c2
 refine acx func6 [] ntmps6 rfl rfl rfl ?_
 simp -implicitDefEqProofs [PO.row,DK.row,CO.row]
 refine c1.call ?_
 by_cases hz:z<0
 ·simp -implicitDefEqProofs [hz,szR]
 simp -implicitDefEqProofs [hz,PO.row,DK.row,CO.row]
 refine callA_ex (by kernel_rfl) (c2 z ⟨by omega,by omega⟩) (by simp[cs_cl,DE.row,PT.row,qac]) ?_
 rintro r ⟨v,rfl,v1,v2,v3⟩
 by_cases hv:v<0
 ·simp -implicitDefEqProofs [hv,szR]
 simp -implicitDefEqProofs [hv]
 obtain⟨a1,a2,a3,a4,a5,a6⟩:=l3 (by omega)
 exact⟨v,rfl,by omega,by omega,fun _=>⟨⟨by omega,by omega,by omega,fun t ht=>by have:=a4 t ht;omega,fun t ht=>by have:=a5 t ht;omega,fun t ht=>by have:=a6 t ht;omega⟩,v3 (by omega)⟩⟩
theorem dkT_of {d:DK} (h:DkS d):DkT d:=⟨h.1,h.2.1,h.2.2.1,h.2.2.2.1,h.2.2.2.2.1,h.2.2.2.2.2⟩
theorem fill_step {α:Type} {l cs:List α} {i:Nat} {b:α} (h:l[i]?=some b) (hi:i<cs.length) (hm:∀ j,j<i→cs[j]?=l[j]?):∀ j,j<i+1→(cs.set i b)[j]?=l[j]?:=fun j hj=>by
 by_cases hji:j=i
 ·subst hji
  rw[List.getElem?_set_self hi,h]
 ·rw[List.getElem?_set_ne (Ne.symm hji)]
  exact hm j (by omega)
theorem fill_end {α:Type} {l cs:List α} (h:cs.length=l.length) (hm:∀ j,j<l.length→cs[j]?=l[j]?):cs=l:=by
 refine List.ext_getElem? fun q=>?_
 by_cases hq:q<l.length
 ·exact hm q hq
 ·rw[List.getElem?_eq_none (by omega),List.getElem?_eq_none (by omega)]
theorem toStrO (l:List (List UInt8)) (hl:l.length≤2000000):ACall prog 162 [.lst 1 (l.map qai)] [] (fun r L'=>r=.sl 900 0 l.length∧L'=[(900,strOb l)]):=by
 refine acx func162 [] ntmps162 rfl rfl rfl ?_
 simp -implicitDefEqProofs
 refine⟨by omega,?_⟩
 refine ev_lp (X:=Nat×List (List UInt8)) [0,3,4] [(7,900)] (fun x=>[(4,.int .i64 x.1)]) (fun x=>[(900,strOb x.2)]) (fun x=>l.length-x.1)
  (fun x=>x.1≤l.length∧x.2.length=l.length∧∀ j,j<x.1→x.2[j]?=l[j]?) (0,List.replicate l.length []) ⟨by omega,by simp,by omega⟩ ?_ (he:=by simp[obOf,strOb,qai])
 rintro⟨i,cs⟩ ⟨hi,hc,hm⟩
 simp only at hi hc hm
 by_cases h2:i<l.length
 ·obtain⟨b,f1⟩:∃ b,l[i]?=some b:=⟨_,List.getElem?_eq_getElem (by omega)⟩
  have h2':(i:Int)<l.length:=by omega
  have hil:i<cs.length:=by omega
  have f0:l[i]=b:=(List.getElem?_eq_some_iff.1 f1).2
  have e1:=i64w ((i:Int)+1) (by omega) (by omega)
  simp -implicitDefEqProofs [h2',h2,hil,f0,f1,qai,strOb,hc]
  exact nx (i+1,cs.set i b) [(900,900)] ⟨by simp only;omega,by simp[hc],fill_step f1 hil hm⟩ (by simp only;omega) (h4:=by simp[obOf,e1,strOb,List.map_set,qai])
 ·have hie:i=l.length:=by omega
  subst hie
  have:=fill_end hc hm
  subst this
  simp -implicitDefEqProofs
theorem toLate1C (x:LT):CV prog 163 [.agg x.row] (.agg x.row):=by
 refine cvx func163 [] ntmps163 rfl rfl rfl ?_ (hca:=by simp[LT.row]) (hcv:=by simp[LT.row])
 simp -implicitDefEqProofs [LT.row]
theorem toLateO (l:List LT) (hl:l.length≤2000000):ACall prog 78 [.lst 3 (l.map LT.row)] [] (fun r L'=>r=.sl 900 0 l.length∧L'=[(900,ltOb l)]):=by
 refine acx func78 [] ntmps78 rfl rfl rfl ?_
 simp -implicitDefEqProofs
 refine⟨by omega,?_⟩
 refine ev_lp (X:=Nat×List LT) [0,3,4] [(7,900)] (fun x=>[(4,.int .i64 x.1)]) (fun x=>[(900,ltOb x.2)]) (fun x=>l.length-x.1)
  (fun x=>x.1≤l.length∧x.2.length=l.length∧∀ j,j<x.1→x.2[j]?=l[j]?) (0,List.replicate l.length ⟨0,0,[]⟩) ⟨by omega,by simp,by omega⟩ ?_ (he:=by simp[obOf,ltOb,LT.row])
 rintro⟨i,cs⟩ ⟨hi,hc,hm⟩
 simp only at hi hc hm
 by_cases h2:i<l.length
 ·obtain⟨b,f1⟩:∃ b,l[i]?=some b:=⟨_,List.getElem?_eq_getElem (by omega)⟩
  have h2':(i:Int)<l.length:=by omega
  have hil:i<cs.length:=by omega
  have f0:l[i]=b:=(List.getElem?_eq_some_iff.1 f1).2
  have e1:=i64w ((i:Int)+1) (by omega) (by omega)
  have c1:=toLate1C b
  simp only[LT.row]at c1
  simp -implicitDefEqProofs [h2',h2,hil,f0,f1,LT.row,ltOb,hc]
  refine c1.call ?_
  simp -implicitDefEqProofs [h2',h2,hil,f0,f1,LT.row,ltOb,hc]
  exact nx (i+1,cs.set i b) [(900,900)] ⟨by simp only;omega,by simp[hc],fill_step f1 hil hm⟩ (by simp only;omega) (h4:=by simp[obOf,e1,ltOb,List.map_set,LT.row])
 ·have hie:i=l.length:=by omega
  subst hie
  have:=fill_end hc hm
  subst this
  simp -implicitDefEqProofs
theorem toA2O (d:DK) (h:DkT d):ACall prog 77 [.agg [.lst 1 (d.s0.map qai),.lst 1 (d.s1.map qai)]] [] (fun r L'=>r=.agg [.sl 901 0 d.s0.length,.sl 902 0 d.s1.length]∧L'=[(901,strOb d.s0),(902,strOb d.s1)]):=by
 have l0:=h.l0
 have l1:=h.l1
 have c1:=toStrO d.s0 (by omega)
 have c2:=toStrO d.s1 (by omega)
 refine acx func77 [] ntmps77 rfl rfl rfl ?_
 simp -implicitDefEqProofs
 refine ev_lo (X:=Nat) [1,2,3,4] [(1,1),(2,2),(3,3)] (fun i=>[(4,.int .i64 i)]) (fun i=>(1,⟨2,[[.lst 1 (d.s0.map qai),.lst 1 (d.s1.map qai)]]⟩)::(2,⟨2,[[.nils,.nils]]⟩)::(3,⟨2,[[if i=0 then .nils else .sl 901 0 d.s0.length,if i=2 then .sl 902 0 d.s1.length else .nils]]⟩)::(if i=0 then [] else if i=1 then [(901,strOb d.s0)] else [(901,strOb d.s0),(902,strOb d.s1)])) (fun i=>2-i) (fun i=>i=0∨i=1∨i=2) 0 (.inl rfl) ?_ (he:=by simp[obOf])
 rintro i (rfl | rfl | rfl)
 ·simp -implicitDefEqProofs [obOf]
  refine qaf [] (by kernel_rfl) c1 (by simp[qai]) (by simp) trivial (by simp) (by simp) ?_
  rintro r L' ⟨rfl,rfl⟩
  refine⟨[(900,901)],⟨by simp,by simp,by simp,by simp,by simp⟩,?_⟩
  simp only[qan]
  simp -implicitDefEqProofs
  exact nx 1 [(1,1),(2,2),(3,3),(901,901)] (.inr (.inl rfl)) (h4:=by simp[obOf])
 ·simp -implicitDefEqProofs [obOf]
  refine qaf [] (by kernel_rfl) c2 (by simp[qai]) (by simp) trivial (by simp) (by simp) ?_
  rintro r L' ⟨rfl,rfl⟩
  refine⟨[(900,902)],⟨by simp,by simp,by simp,by simp,by simp⟩,?_⟩
  simp only[qan]
  simp -implicitDefEqProofs
  exact nx 2 [(1,1),(2,2),(3,3),(901,901),(902,902)] (.inr (.inr rfl)) (h4:=by simp[obOf])
 ·simp -implicitDefEqProofs [obOf]
theorem toDkO (d:DK) (h:DkT d):ACall prog 27 [.agg d.row] [] (fun r L'=>r=.agg (dskA d 901 902 903)∧L'=[(901,strOb d.s0),(902,strOb d.s1),(903,ltOb d.late)]):=by
 have c1:=toA2O d h
 have c2:=toLateO d.late (by have:=h.l2;omega)
 refine acx func27 [] ntmps27 rfl rfl rfl ?_
 simp -implicitDefEqProofs [DK.row]
 refine qaf [] (by kernel_rfl) c1 (by simp[qai]) (by simp) trivial (by simp) (by simp) ?_
 rintro r L' ⟨rfl,rfl⟩
 refine⟨[(901,901),(902,902)],⟨by simp,by simp,by simp,by simp,by simp⟩,?_⟩
 simp only[qan]
 simp -implicitDefEqProofs
 refine qaf [] (by kernel_rfl) c2 (by simp[LT.row]) (by simp) trivial (by simp) (by simp) ?_
 rintro r L' ⟨rfl,rfl⟩
 refine⟨[(900,903)],⟨by simp,by simp,by simp,by simp,by simp⟩,?_⟩
 simp only[qan]
 simp -implicitDefEqProofs [dskA]
theorem toCoO (c:CO) (h:CoT c):ACall prog 28 [.agg c.row] [] (fun r L'=>r=coreA c 904 905 906 907∧L'=[(904,kcs c.sets),(905,deOb c.ddt),(906,kpt c.parts),(907,kin c.safe)]):=by
 have c1:=toCsSC c.sets h.sets h.m8
 have c2:=toDdtSC c.ddt h.ddt
 have c3:=toPtrSC c.parts h.parts
 have c4:=toIntSC c.safe h.safe
 refine acx func28 [] ntmps28 rfl rfl rfl ?_
 simp -implicitDefEqProofs [CO.row]
 refine qaf [] (by kernel_rfl) c1 (by simp[cs_cl]) (by simp) trivial (by simp) (by simp) ?_
 rintro r L' ⟨rfl,rfl⟩
 refine⟨[(7,904)],⟨by simp,by simp,by simp,by simp,by simp⟩,?_⟩
 simp only[qan]
 simp -implicitDefEqProofs
 refine qaf [] (by kernel_rfl) c2 (by simp[DE.row]) (by simp) trivial (by simp) (by simp) ?_
 rintro r L' ⟨rfl,rfl⟩
 refine⟨[(7,905)],⟨by simp,by simp,by simp,by simp,by simp⟩,?_⟩
 simp only[qan]
 simp -implicitDefEqProofs
 refine qaf [] (by kernel_rfl) c3 (by simp[PT.row]) (by simp) trivial (by simp) (by simp) ?_
 rintro r L' ⟨rfl,rfl⟩
 refine⟨[(7,906)],⟨by simp,by simp,by simp,by simp,by simp⟩,?_⟩
 simp only[qan]
 simp -implicitDefEqProofs
 refine qaf [] (by kernel_rfl) c4 (by simp[qac]) (by simp) trivial (by simp) (by simp) ?_
 rintro r L' ⟨rfl,rfl⟩
 refine⟨[(7,907)],⟨by simp,by simp,by simp,by simp,by simp⟩,?_⟩
 simp only[qan]
 simp -implicitDefEqProofs [coreA,kcs,deOb,kpt,kin]
theorem toPoO (p:PO) (hd:DkT p.d) (hc:CoT p.c):ACall prog 9 [.agg p.row] [] (fun r L'=>r=.agg (poolA p 901 902 903 904 905 906 907)∧L'=poolL p 901 902 903 904 905 906 907):=by
 have c1:=toDkO p.d hd
 have c2:=toCoO p.c hc
 simp only[DK.row,CO.row]at c1 c2
 refine acx func9 [] ntmps9 rfl rfl rfl ?_
 simp -implicitDefEqProofs [PO.row,DK.row,CO.row]
 refine qaf [] (by kernel_rfl) c1 (by simp[qai,LT.row]) (by simp) trivial (by simp) (by simp) ?_
 rintro r L' ⟨rfl,rfl⟩
 refine⟨[(901,901),(902,902),(903,903)],⟨by simp,by simp,by simp,by simp,by simp⟩,?_⟩
 simp only[qan]
 simp -implicitDefEqProofs [dskA,PO.row,DK.row,CO.row]
 refine qaf [] (by kernel_rfl) c2 (by simp[cs_cl,DE.row,PT.row,qac]) (by simp) trivial (by simp) (by simp) ?_
 rintro r L' ⟨rfl,rfl⟩
 refine⟨[(904,904),(905,905),(906,906),(907,907)],⟨by simp,by simp,by simp,by simp,by simp⟩,?_⟩
 simp only[qan]
 simp -implicitDefEqProofs [coreA,poolA,poolL,PO.row,DK.row,CO.row]
theorem toPoC (p:PO) (hd:DkT p.d) (hc:CoT p.c):CV prog 9 [.agg p.row] (.agg p.row):=by
 refine CV.of_frz (toPoO p hd hc) ?_ (hca:=by simp[PO.row,DK.row,CO.row,qai,LT.row,cs_cl,DE.row,PT.row,qac]) (hcv:=by simp[PO.row,DK.row,CO.row,qai,LT.row,cs_cl,DE.row,PT.row,qac])
 rintro r L' ⟨rfl,rfl⟩
 refine⟨by simp[poolL],by simp[poolL],fun x hx=>?_,?_⟩
 ·simp only[poolL,List.mem_cons,List.not_mem_nil,or_false]at hx
  rcases hx with rfl | rfl | rfl | rfl | rfl | rfl | rfl
  ·exact clR_str _
  ·exact clR_str _
  ·exact clR_lt _
  ·exact clR_kcs _
  ·exact clR_de _
  ·exact clR_kpt _
  ·exact clR_kin _
 simp[frzAll,poolA,poolL,PO.row,DK.row,CO.row,strOb,ltOb,kcs,deOb,kpt,kin,qbh]
theorem eqStrR (l:List (List UInt8)) (hl:l.length≤2000000):CV prog 180 [.lst 1 (l.map qai),.lst 1 (l.map qai)] (.bool true):=by
 refine cvx func180 [] ntmps180 rfl rfl rfl ?_ (hca:=by simp[qai])
 simp -implicitDefEqProofs
 refine ev_lp (X:=Nat) [0,1,5] [] (fun x=>[(5,.int .i64 x)]) (fun x=>[]) (fun x=>l.length-x) (fun x=>x≤l.length) 0 (by simp) ?_
 rintro i hi
 by_cases h2:i<l.length
 ·obtain⟨b,f1⟩:∃ b,l[i]?=some b:=⟨_,List.getElem?_eq_getElem (by omega)⟩
  have h2':(i:Int)<l.length:=by omega
  have f0:l[i]=b:=(List.getElem?_eq_some_iff.1 f1).2
  have e1:=i64w ((i:Int)+1) (by omega) (by omega)
  simp -implicitDefEqProofs [h2',h2,f0,f1,qai]
  exact nx (i+1) [] (by omega) (h4:=by simp[e1])
 ·have:i=l.length:=by omega
  subst this
  simp -implicitDefEqProofs
theorem eqLate1R (x:LT):CV prog 181 [.agg x.row,.agg x.row] (.bool true):=by
 refine cvx func181 [] ntmps181 rfl rfl rfl ?_ (hca:=by simp[LT.row])
 simp -implicitDefEqProofs [LT.row]
theorem eqLateR (l:List LT) (hl:l.length≤2000000):CV prog 90 [.lst 3 (l.map LT.row),.lst 3 (l.map LT.row)] (.bool true):=by
 refine cvx func90 [] ntmps90 rfl rfl rfl ?_ (hca:=by simp[LT.row])
 simp -implicitDefEqProofs
 refine ev_lp (X:=Nat) [0,1,5] [] (fun x=>[(5,.int .i64 x)]) (fun x=>[]) (fun x=>l.length-x) (fun x=>x≤l.length) 0 (by simp) ?_
 rintro i hi
 by_cases h2:i<l.length
 ·obtain⟨b,f1⟩:∃ b,l[i]?=some b:=⟨_,List.getElem?_eq_getElem (by omega)⟩
  have h2':(i:Int)<l.length:=by omega
  have f0:l[i]=b:=(List.getElem?_eq_some_iff.1 f1).2
  have e1:=i64w ((i:Int)+1) (by omega) (by omega)
  have c1:=eqLate1R b
  simp only[LT.row]at c1
  simp -implicitDefEqProofs [h2',h2,f0,f1,LT.row]
  refine c1.call ?_
  simp -implicitDefEqProofs
  exact nx (i+1) [] (by omega) (h4:=by simp[e1])
 ·have:i=l.length:=by omega
  subst this
  simp -implicitDefEqProofs
theorem eqA2R (d:DK) (h:DkT d):CV prog 89 [.agg [.lst 1 (d.s0.map qai),.lst 1 (d.s1.map qai)],.agg [.lst 1 (d.s0.map qai),.lst 1 (d.s1.map qai)]] (.bool true):=by
 have l0:=h.l0
 have l1:=h.l1
 have c1:=eqStrR d.s0 (by omega)
 have c2:=eqStrR d.s1 (by omega)
 refine cvx func89 [(4,[zI 0,zI 1,zJ 2 [2] [],zJ 3 [] [2],zJ 4 [] [2],zJ 5 [3] [2],zI 6,zI 7])] ntmps89 rfl rfl rfl ?_ (hca:=by simp[qai])
 simp -implicitDefEqProofs
 refine ev_lp (X:=Nat) [2,3,5] [(2,2),(3,3)] (fun x=>[(5,.int .i64 x)]) (fun x=>[]) (fun x=>2-x) (fun x=>x=0∨x=1∨x=2) 0 (.inl rfl) ?_ (he:=by simp[obOf,qai])
 rintro i (rfl | rfl | rfl)
 ·simp -implicitDefEqProofs [obOf,qai]
  refine c1.call ?_
  simp -implicitDefEqProofs
  exact nx 1 [(2,2),(3,3)] (.inr (.inl rfl)) (h4:=by simp[obOf,qai])
 ·simp -implicitDefEqProofs [obOf,qai]
  refine c2.call ?_
  simp -implicitDefEqProofs
  exact nx 2 [(2,2),(3,3)] (.inr (.inr rfl)) (h4:=by simp[obOf,qai])
 ·simp -implicitDefEqProofs [obOf]
theorem eqDkR (d:DK) (h:DkT d):CV prog 32 [.agg d.row,.agg d.row] (.bool true):=by
 have c1:=eqA2R d h
 have c2:=eqLateR d.late (by have:=h.l2;omega)
 refine cvx func32 [] ntmps32 rfl rfl rfl ?_ (hca:=by simp[DK.row,qai,LT.row])
 simp -implicitDefEqProofs [DK.row]
 refine c1.call ?_
 simp -implicitDefEqProofs
 refine c2.call ?_
 simp -implicitDefEqProofs
theorem eqCoR (c:CO) (h:CoT c):CV prog 33 [.agg c.row,.agg c.row] (.bool true):=by
 refine cv_of ?_ (hca:=by simp[CO.row,cs_cl,DE.row,PT.row,qac])
 refine acx func33 [] ntmps33 rfl rfl rfl ?_
 simp -implicitDefEqProofs [CO.row]
 refine qae (by kernel_rfl) (eqCsSC c.sets h.sets h.m8) (by simp[cs_cl]) (by simp) ?_
 simp -implicitDefEqProofs
 refine qae (by kernel_rfl) (eqDdtSC c.ddt h.ddt) (by simp[DE.row]) (by simp) ?_
 simp -implicitDefEqProofs
 refine qae (by kernel_rfl) (eqPtrSC c.parts h.parts) (by simp[PT.row]) (by simp) ?_
 simp -implicitDefEqProofs
 refine qae (by kernel_rfl) (eqIntSC c.safe h.safe) (by simp[qac]) (by simp) ?_
 simp -implicitDefEqProofs
theorem eqPoR (p:PO) (hd:DkT p.d) (hc:CoT p.c):CV prog 12 [.agg p.row,.agg p.row] (.bool true):=by
 have c1:=eqDkR p.d hd
 have c2:=eqCoR p.c hc
 simp only[DK.row,CO.row]at c1 c2
 refine cvx func12 [] ntmps12 rfl rfl rfl ?_ (hca:=by simp[PO.row,DK.row,CO.row,qai,LT.row,cs_cl,DE.row,PT.row,qac])
 simp -implicitDefEqProofs [PO.row,DK.row,CO.row]
 refine c1.call ?_
 simp -implicitDefEqProofs [PO.row,DK.row,CO.row]
 refine c2.call ?_
 simp -implicitDefEqProofs
def mkG {α:Type} (f:Nat→α) (w k n:Nat):List α:=(List.range n).map fun i=>f (k+w * i)
def mkStr (k:Nat):List UInt8:=mtB k
def mkLt (k:Nat):LT:=⟨k,((k+1:Nat):Int),mtB (k+2)⟩
def mkD (d:DK) (k:Nat):DK:=⟨mkG mkStr 1 k d.s0.length,mkG mkStr 1 (k+d.s0.length) d.s1.length,mkG mkLt 3 (k+d.s0.length+d.s1.length) d.late.length⟩
theorem coT_of2 {c:CO} (hg:CoG c) (hs:CoS c):CoT c:=by
 exact⟨hs.1,hs.2.1,hs.2.2.1,hs.2.2.2.1,fun s h=>(hg.2.1 s h).2.1,hs.2.2.2.2⟩
theorem strs_shp {n:Nat} {avs:List AV} (h:Shp prog (n+2) 22 avs):∃ l:List (List UInt8),(l.length≤maxLen∧∀ t∈l,t.length≤maxLen)∧avs=[.lst 1 (l.map qai)]:=by
 obtain⟨e2,m2,rfl,k2⟩:=shp_slice underlying22 h
 obtain⟨l2,rfl,g2⟩:=rows_ex qai (fun t:List UInt8=>t.length≤maxLen) e2 fun r hr=>str_shp (k2 r hr)
 have c1:prog.cellsOf 9=1:=by kernel_rfl
 rw[c1]
 exact⟨l2,⟨by simpa using m2,g2⟩,rfl⟩
theorem lt_shp {n:Nat} {avs:List AV} (h:Shp prog (n+2) 185 avs):∃ x:LT,x.lx.length≤maxLen∧avs=x.row:=by
 obtain⟨a1,b1,rfl,h1,a2,b2,rfl,h2,a3,b3,rfl,h3,rfl⟩:=shp_struct underlying185 h
 obtain⟨z1,g1,rfl⟩:=shp_i64 h1
 obtain⟨z2,g2,rfl⟩:=shp_i64 h2
 obtain⟨s3,m3,rfl⟩:=shp_string underlying9 h3
 exact⟨⟨z1,z2,s3⟩,m3,rfl⟩
theorem dk_shp {n:Nat} {avs:List AV} (h:Shp prog (n+6) 26 avs):∃ d:DK,DkG d∧avs=d.row:=by
 obtain⟨a1,b1,rfl,h1,a2,b2,rfl,h2,rfl⟩:=shp_struct underlying26 h
 obtain⟨l,hl,rfl,hg⟩:=arr_ex (fun l:List (List UInt8)=>[.lst 1 (l.map qai)]) (fun l=>l.length≤maxLen∧∀ t∈l,t.length≤maxLen) _ (fun r hr=>strs_shp hr) 2 a1 (shp_array underlying23 h1)
 obtain⟨e2,m2,rfl,k2⟩:=shp_slice underlying24 h2
 obtain⟨l2,rfl,g2⟩:=rows_ex LT.row (fun x=>x.lx.length≤maxLen) e2 fun r hr=>lt_shp (k2 r hr)
 have c1:prog.cellsOf 185=3:=by kernel_rfl
 rw[c1]
 match l,hl with
 | [s0,s1],_ =>
  have q0:=hg s0 (by simp)
  have q1:=hg s1 (by simp)
  exact⟨⟨s0,s1,l2⟩,⟨q0.1,q1.1,by simpa using m2,q0.2,q1.2,g2⟩,rfl⟩
structure PoG (p:PO):Prop where
 d:DkG p.d
 c:CoG p.c
theorem po_shp {avs:List AV} (h:Shp prog 10 34 avs):∃ p:PO,PoG p∧avs=p.row:=by
 obtain⟨a1,b1,rfl,h1,a2,b2,rfl,h2,a3,b3,rfl,h3,rfl⟩:=shp_struct underlying34 h
 obtain⟨d,gd,rfl⟩:=dk_shp h1
 obtain⟨c,gc,rfl⟩:=core_shp h2
 obtain⟨u,rfl⟩:=shp_bool underlying4 h3
 exact⟨⟨d,c,u⟩,⟨gd,gc⟩,by simp[PO.row]⟩
theorem qau (x y:List UInt8) (r:List (List UInt8)) (c:UInt8):Lib.join (x::y::r) [c]=x++c::Lib.join (y::r) [c]:=by
 rw[Lib.join_cons,Lib.join_cons]
 simp[Lib.joinTail]
theorem cutR_ne (c:UInt8) (s cur:List UInt8):cutR c s cur≠[]:=fun h=>by
 have:=cutR_pos c s cur
 rw[h]at this
 simp at this
theorem cutR_join (c:UInt8):∀ (s cur:List UInt8),Lib.join (cutR c s cur) [c]=cur++s
 | [],cur=>by simp[cutR,Lib.join_one]
 | x::r,cur=>by
  unfold cutR
  by_cases h:x=c
  ·rw[if_pos h]
   subst h
   have ih:=cutR_join x r []
   cases hr:cutR x r []with
   | nil=>exact absurd hr (cutR_ne _ _ _)
   | cons y q =>
    rw[hr]at ih
    rw[qau,ih]
    simp
  ·rw[if_neg h,cutR_join c r (cur++[x])]
   simp
theorem cutR_app (c:UInt8):∀ (w r cur:List UInt8),(∀ x∈w,x≠c)→cutR c (w++c::r) cur=(cur++w)::cutR c r []
 | [],r,cur,_=>by simp[cutR]
 | x::w,r,cur,h=>by
  have hx:=h x (by simp)
  rw[List.cons_append,cutR,if_neg hx,cutR_app c w r _ fun y hy=>h y (by simp[hy])]
  simp
theorem cutR_one (c:UInt8):∀ (w cur:List UInt8),(∀ x∈w,x≠c)→cutR c w cur=[cur++w]
 | [],cur,_=>by simp[cutR]
 | x::w,cur,h=>by
  rw[cutR,if_neg (h x (by simp)),cutR_one c w _ fun y hy=>h y (by simp[hy])]
  simp
theorem join_cut (c:UInt8):∀ (ws:List (List UInt8)),ws≠[]→(∀ w∈ws,∀ x∈w,x≠c)→cutR c (Lib.join ws [c]) []=ws
 | [],h,_=>absurd rfl h
 | [w],_,h=>by
  rw[Lib.join_one,cutR_one c w [] (h w (by simp))]
  simp
 | w::v::r,_,h=>by
  rw[qau,cutR_app c w _ [] (h w (by simp)),join_cut c (v::r) (by simp) fun u hu=>h u (by simp[hu])]
  simp
theorem dig_ge (n:Nat):∀ x∈Lib.decDigits n,48≤x.toNat∧x.toNat≤57:=by
 induction n using Nat.strongRecOn with
 | _ n ih =>
  intro x hx
  rw[Lib.decDigits]at hx
  split at hx
  ·rename_i h
   simp only[List.mem_singleton]at hx
   subst hx
   rw[u8_dig h]
   omega
  ·rename_i h
   rcases List.mem_append.1 hx with hx | hx
   ·exact ih (n / 10) (by omega) x hx
   ·simp only[List.mem_singleton]at hx
    subst hx
    rw[u8_dig (by omega)]
    omega
theorem itoa_ne (n:Int) (c:UInt8) (hc:c.toNat<48) (h45:c≠45):∀ x∈Lib.itoa n,x≠c:=by
 intro x hx
 unfold Lib.itoa at hx
 split at hx
 ·rcases List.mem_cons.1 hx with rfl | hx
  ·exact fun e=>h45 e.symm
  ·have:=dig_ge _ x hx
   rintro rfl
   omega
 ·have:=dig_ge _ x hx
  rintro rfl
  omega
theorem dec_itoa (n:Int) (h:0≤n):Lib.itoa n=dec n:=by
 have e:n=((n.toNat:Nat):Int):=by omega
 rw[e,itoa_nat]
 rfl
theorem can_itoa {t:List UInt8} (h:canB t=true):Lib.itoa (atoiV t)=t:=by
 simp only[canB,Bool.and_eq_true,decide_eq_true_eq]at h
 exact h.2
def triV (t:List UInt8):Option (Int×Int×Int) :=
 match cutR 46 t []with
 | [a,b,c]=>if canB a=true∧canB b=true∧canB c=true then some (atoiV a,atoiV b,atoiV c) else none
 | _=>none
theorem triV_text {t:List UInt8} {a b c:Int} (h:triV t=some (a,b,c)):Lib.join [Lib.itoa a,Lib.itoa b,Lib.itoa c] [46]=t:=by
 unfold triV at h
 split at h
 ·rename_i x y z hc
  split at h
  ·rename_i hq
   simp only[Option.some.injEq,Prod.mk.injEq]at h
   obtain⟨rfl,rfl,rfl⟩:=h
   have:=cutR_join 46 t []
   rw[hc]at this
   rw[can_itoa hq.1,can_itoa hq.2.1,can_itoa hq.2.2]
   simpa using this
  ·cases h
 ·cases h
theorem triV_of (a b c:Int) (ha:i64G a) (hb:i64G b) (hc:i64G c):triV (Lib.join [Lib.itoa a,Lib.itoa b,Lib.itoa c] [46])=some (a,b,c):=by
 have h1:∀ n:Int,∀ x∈Lib.itoa n,x≠(46:UInt8):=fun n=>itoa_ne n 46 (by decide) (by decide)
 unfold triV
 rw[join_cut 46 _ (by simp) (by
  intro w hw
  simp only[List.mem_cons,List.not_mem_nil,or_false]at hw
  rcases hw with rfl | rfl | rfl
  ·exact h1 _
  ·exact h1 _
  ·exact h1 _)]
 obtain⟨a1,a2⟩:=can_of ha.1 ha.2
 obtain⟨b1,b2⟩:=can_of hb.1 hb.2
 obtain⟨c1,c2⟩:=can_of hc.1 hc.2
 simp[a1,a2,b1,b2,c1,c2]
def ptRd (t:List UInt8):PT×Bool :=
 if t=[45] then (⟨0,0,0⟩,true) else
 match triV t with
 | some (a,b,c)=>if qam ⟨a,b,c⟩=true then (⟨a,b,c⟩,true) else (⟨0,0,0⟩,false)
 | none=>(⟨0,0,0⟩,false)
theorem pt_real {p:PT} (h:qam p=true):ptOkB p=true∧p.pa≠0:=by
 simpa [qam]using h
theorem ptText_real {p:PT} (h:qam p=true):qay p=Lib.join [Lib.itoa p.pa,Lib.itoa p.ps,Lib.itoa p.pb] [46]:=by
 obtain⟨h1,h2⟩:=pt_real h
 have hb:=ptOk_b h1
 unfold qay
 rw[if_neg (by simp[h1]),if_neg h2,dec_itoa _ (by omega),dec_itoa _ (by omega),dec_itoa _ (by omega),qau,qau,Lib.join_one]
theorem ptRd_text {t:List UInt8} (h:(ptRd t).2=true):qay (ptRd t).1=t∧ptOkB (ptRd t).1=true:=by
 unfold ptRd at h ⊢
 split at h
 ·rename_i ht
  rw[if_pos ht]
  subst ht
  exact⟨by decide,by decide⟩
 ·rename_i ht
  rw[if_neg ht]
  split at h
  ·rename_i a b c htr
   split at h
   ·rename_i hq
    simp only[hq,if_true]
    rw[ptText_real hq]
    exact⟨triV_text htr,(pt_real hq).1⟩
   ·simp at h
  ·simp at h
theorem ptRd_of {p:PT} (h:ptOkB p=true):ptRd (qay p)=(p,true):=by
 have hb:=ptOk_b h
 by_cases h0:p.pa=0
 ·obtain⟨pa,ps,pb⟩:=p
  simp only at h0 hb
  subst h0
  have:ps=0∧pb=0:=by simpa [ptOkB]using h
  obtain⟨rfl,rfl⟩:=this
  decide
 ·have hq:qam p=true:=by simp[qam,h,h0]
  rw[ptText_real hq]
  have ht:=triV_of p.pa p.ps p.pb ⟨by omega,by omega⟩ ⟨by omega,by omega⟩ ⟨by omega,by omega⟩
  unfold ptRd
  rw[ht]
  have hne:Lib.join [Lib.itoa p.pa,Lib.itoa p.ps,Lib.itoa p.pb] [46]≠[45]:=fun e=>by
   rw[e]at ht
   simp[triV,cutR]at ht
  rw[if_neg hne]
  simp[hq]
theorem atoiV_G (s:List UInt8):i64G (atoiV s):=by
 unfold atoiV
 cases h:Lib.atoiAll s with
 | ok v =>
  simp only
  unfold Lib.atoiAll at h
  split at h
  ·cases h
  ·simp only at h
   split at h
   ·cases h
   ·cases h
   ·rename_i u hu
    split at h
    ·cases h
    ·split at h
     ·cases h
     ·injection h with h
      subst h
      rename_i h1 h2
      unfold i64G
      split
      ·rename_i hn
       have:¬ 9223372036854775808<u:=fun e=>h2 ⟨hn,e⟩
       omega
      ·rename_i hn
       have:¬ 9223372036854775808≤u:=fun e=>h1 ⟨hn,e⟩
       omega
 | range =>
  simp only[Lib.atoiSat,i64G]
  split <;> omega
 | _=>simp[i64G]
theorem ptRd_false {t:List UInt8} (h:(ptRd t).2=false):ptRd t=(⟨0,0,0⟩,false):=by
 unfold ptRd at h ⊢
 split
 ·rename_i ht;rw[if_pos ht]at h;simp at h
 ·rename_i ht
  rw[if_neg ht]at h
  split
  ·rename_i a b c htr
   split
   ·rename_i hq
    rw[htr]at h
    simp[hq]at h
   ·rfl
  ·rfl
theorem triV_some {t:List UInt8} {a b c:List UInt8} (h:cutR 46 t []=[a,b,c]):triV t=if canB a=true∧canB b=true∧canB c=true then some (atoiV a,atoiV b,atoiV c) else none:=by
 unfold triV
 rw[h]
theorem triV_none {t:List UInt8} (h:(cutR 46 t []).length≠3):triV t=none:=by
 unfold triV
 split
 ·rename_i a b c hc
  rw[hc]at h
  simp at h
 ·rfl
theorem ptRd_tri {t:List UInt8} (h:triV t=none) (ht:t≠[45]):ptRd t=(⟨0,0,0⟩,false):=by
 unfold ptRd
 rw[if_neg ht,h]
theorem ptRd_3 {t a b c:List UInt8} (h:cutR 46 t []=[a,b,c]) (ht:t≠[45]) :
  ptRd t=if canB a=true∧canB b=true∧canB c=true∧qam ⟨atoiV a,atoiV b,atoiV c⟩=true then (⟨atoiV a,atoiV b,atoiV c⟩,true) else (⟨0,0,0⟩,false):=by
 unfold ptRd
 rw[if_neg ht,triV_some h]
 by_cases h1:canB a=true∧canB b=true∧canB c=true
 ·rw[if_pos h1]
  obtain⟨h2,h3,h4⟩:=h1
  simp only[h2,h3,h4,true_and]
 ·rw[if_neg h1,if_neg (fun e=>h1 ⟨e.1,e.2.1,e.2.2.1⟩)]
theorem ptRd_spec {t a b c:List UInt8} (h:cutR 46 t []=[a,b,c]) (ht:t≠[45]) :
  ptRd t=if (snumB a).2=true∧(snumB b).2=true∧(snumB c).2=true∧qay ⟨(snumB a).1,(snumB b).1,(snumB c).1⟩=t then (⟨(snumB a).1,(snumB b).1,(snumB c).1⟩,true) else (⟨0,0,0⟩,false):=by
 have hj:=cutR_join 46 t []
 rw[h]at hj
 by_cases hs:(snumB a).2=true∧(snumB b).2=true∧(snumB c).2=true∧qay ⟨(snumB a).1,(snumB b).1,(snumB c).1⟩=t
 ·rw[if_pos hs]
  obtain⟨s1,s2,s3,s4⟩:=hs
  have hok:ptOkB ⟨(snumB a).1,(snumB b).1,(snumB c).1⟩=true:=by
   cases hk:ptOkB ⟨(snumB a).1,(snumB b).1,(snumB c).1⟩with
   | true=>rfl
   | false =>
    rw[qay,if_pos hk]at s4
    subst s4
    simp[cutR]at h
  rw[← s4]
  exact ptRd_of hok
 ·rw[if_neg hs,ptRd_3 h ht]
  split
  ·rename_i hq
   exfalso
   obtain⟨c1,c2,c3,hr⟩:=hq
   have hb:=ptOk_b (pt_real hr).1
   simp only at hb
   have n1:=(can_snum a).1 ⟨c1,by omega⟩
   have n2:=(can_snum b).1 ⟨c2,by omega⟩
   have n3:=(can_snum c).1 ⟨c3,by omega⟩
   refine hs ⟨n1,n2,n3,?_⟩
   rw[← can_val n1,← can_val n2,← can_val n3,ptText_real hr]
   simp only
   rw[can_itoa c1,can_itoa c2,can_itoa c3]
   simpa using hj
  ·rfl
theorem three_ex {α:Type} {l:List α} (h:l.length=3):∃ a b c,l=[a,b,c]:=by
 match l,h with
 | [a,b,c],_=>exact⟨a,b,c,rfl⟩
theorem sPtrReadC (t:List UInt8) (hl:t.length≤1048576):CV prog 284 [.str t] (.tup [.agg (ptRd t).1.row,.bool (ptRd t).2]):=by
 have c1:=scutC t 46 hl
 have hw:=qbi 46 t []
 have hnum:=cutR_num 46 t []
 refine cvx func284 [] ntmps284 rfl rfl rfl ?_ (hcv:=by simp[PT.row])
 by_cases h1:t=[45]
 ·subst h1
  simp -implicitDefEqProofs [ptRd,PT.row]
 simp -implicitDefEqProofs [h1]
 refine c1.call ?_
 by_cases h3:(cutR 46 t []).length=3
 ·obtain⟨a,b,c,hc⟩:=three_ex h3
  rw[hc]at hw
  have n1:=snumC a (by have:=hw a (by simp);simp at this;omega)
  have n2:=snumC b (by have:=hw b (by simp);simp at this;omega)
  have n3:=snumC c (by have:=hw c (by simp);simp at this;omega)
  have hsp:=ptRd_spec hc h1
  have tx:=sPtrTextC ⟨(snumB a).1,(snumB b).1,(snumB c).1⟩
  simp only[PT.row]at tx
  by_cases h30:30<t.length
  ·have hf:(ptRd t).2=false:=by
    cases hk:(ptRd t).2 with
    | false=>rfl
    | true =>
     have:=qbz (ptRd t).1
     rw[(ptRd_text hk).1]at this
     omega
   rw[ptRd_false hf]
   simp -implicitDefEqProofs [hc,strR,PT.row,show(30:Int)<t.length by omega,h30]
  ·simp -implicitDefEqProofs [hc,strR,PT.row,show ¬ (30:Int)<t.length by omega,h30]
   refine n1.call ?_
   simp -implicitDefEqProofs
   refine n2.call ?_
   simp -implicitDefEqProofs
   refine n3.call ?_
   rw[hsp]
   generalize snumB a=A at *
   generalize snumB b=B at *
   generalize snumB c=C at *
   obtain⟨av,ak⟩:=A
   obtain⟨bv,bk'⟩:=B
   obtain⟨cv,ck⟩:=C
   simp only at tx
   cases ak with
   | false=>simp -implicitDefEqProofs [PT.row]
   | true =>
    cases bk' with
    | false=>simp -implicitDefEqProofs [PT.row]
    | true =>
     cases ck with
     | false=>simp -implicitDefEqProofs [PT.row]
     | true =>
      simp -implicitDefEqProofs [PT.row]
      refine tx.call ?_
      by_cases he:qay ⟨av,bv,cv⟩=t
      ·simp -implicitDefEqProofs [he,PT.row]
      ·simp -implicitDefEqProofs [he,PT.row]
 ·rw[ptRd_tri (triV_none h3) h1]
  simp -implicitDefEqProofs [strR,h3,show ¬ ((cutR 46 t []).length:Int)=3 by omega,PT.row]
theorem iPointsI (l:List Int) (hl:l.length≤10) (h:∀ x∈l,i64G x):CV prog 276 [.lst 1 (l.map qac)] (.str (Lib.join (l.map Lib.itoa) [46])):=by
 have hlen:∀ x∈l.map Lib.itoa,x.length≤20:=fun x hx=>by
  obtain⟨n,hn,rfl⟩:=List.mem_map.1 hx
  have:=h n hn
  unfold i64G at this
  unfold Lib.itoa
  split
  ·have:=dec_len n.natAbs 19 (by omega) (by omega)
   simp
   omega
  ·have:=dec_len n.toNat 19 (by omega) (by omega)
   omega
 have hj:=join_len [46] 20 (l.map Lib.itoa) hlen
 simp only[List.length_map]at hj
 have cj:=iJoinC (l.map Lib.itoa) [46] (by simp;omega) (by simp at hj;omega)
 refine cvx func276 [] ntmps276 rfl rfl rfl ?_ (hca:=by simp[qac])
 simp -implicitDefEqProofs
 refine ev_sw (sw_ph 3 1 (by simp) (by simp)) ?_
 refine ev_lo (X:=Nat) [2,3,6,7,8] [(3,900)] (fun i=>[(3,.sl 900 0 i),(8,.int .i64 i)]) (fun i=>[(900,strOb ((l.take i).map Lib.itoa))]) (fun i=>l.length-i) (fun i=>i≤l.length) 0 (by simp) ?_ (he:=by simp[obOf,strOb])
 intro i hi
 cases hr:l.drop i with
 | nil =>
  have:=dropn hr
  have hie:i=l.length:=by omega
  subst hie
  rw[List.take_length]
  simp -implicitDefEqProofs
  refine cj.view (by simp[vwOk,mtA,strOb,qai,List.take_of_length_le]) ?_
  simp -implicitDefEqProofs
 | cons x r =>
  obtain⟨g1,e0,e1,g3⟩:=dropc hr
  have hx:=h x (List.mem_of_getElem? e1)
  have cd:=itoaC x hx.1 hx.2
  have e2:=i64w ((i:Int)+1) (by omega) (by omega)
  simp -implicitDefEqProofs [g1,e0,e1,qac]
  refine cd.call ?_
  simp -implicitDefEqProofs [strOb]
  have hmin:min i l.length=i:=by omega
  exact⟨by omega,nx (i+1) [(16,900)] (by omega) (h4:=by
   have ht:=tk1 (qai ∘ Lib.itoa) e1
   simp[strOb,ht,List.take_of_length_le,hmin,e2]
   simp[qai])⟩
theorem three_eq {t a b c:List UInt8} (h:cutR 46 t []=[a,b,c]) (h1:atoiK a=true) (h2:atoiK b=true) (h3:atoiK c=true) :
  (Lib.join [Lib.itoa (atoiV a),Lib.itoa (atoiV b),Lib.itoa (atoiV c)] [46]=t)↔(canB a=true∧canB b=true∧canB c=true):=by
 have hj:=cutR_join 46 t []
 rw[h]at hj
 have hn:∀ n:Int,∀ x∈Lib.itoa n,x≠(46:UInt8):=fun n=>itoa_ne n 46 (by decide) (by decide)
 constructor
 ·intro e
  have hc:=join_cut 46 [Lib.itoa (atoiV a),Lib.itoa (atoiV b),Lib.itoa (atoiV c)] (by simp) (by
   intro w hw
   simp only[List.mem_cons,List.not_mem_nil,or_false]at hw
   rcases hw with rfl | rfl | rfl
   ·exact hn _
   ·exact hn _
   ·exact hn _)
  rw[e,h]at hc
  simp only[List.cons.injEq,and_true]at hc
  obtain⟨e1,e2,e3⟩:=hc
  simp only[canB,h1,h2,h3,Bool.true_and,decide_eq_true_eq]
  exact⟨e1.symm,e2.symm,e3.symm⟩
 ·rintro⟨c1,c2,c3⟩
  rw[can_itoa c1,can_itoa c2,can_itoa c3]
  simpa using hj
def thB (t:List UInt8):(Int×Int×Int)×Bool :=
 match cutR 46 t []with
 | [a,b,c]=>if atoiK a=true∧atoiK b=true∧atoiK c=true then ((atoiV a,atoiV b,atoiV c),decide (canB a=true∧canB b=true∧canB c=true)) else ((0,0,0),false)
 | _=>((0,0,0),false)
theorem thB_3 {t a b c:List UInt8} (h:cutR 46 t []=[a,b,c]):thB t=if atoiK a=true∧atoiK b=true∧atoiK c=true then ((atoiV a,atoiV b,atoiV c),decide (canB a=true∧canB b=true∧canB c=true)) else ((0,0,0),false):=by
 unfold thB
 rw[h]
theorem thB_n {t:List UInt8} (h:(cutR 46 t []).length≠3):thB t=((0,0,0),false):=by
 unfold thB
 split
 ·rename_i a b c hc
  rw[hc]at h
  simp at h
 ·rfl
theorem iThreeC (t:List UInt8) (hl:t.length≤1048576):CV prog 215 [.str t] (.tup [.int .i64 (thB t).1.1,.int .i64 (thB t).1.2.1,.int .i64 (thB t).1.2.2,.bool (thB t).2]):=by
 have c1:=splitC t 46 hl
 have hw:=qbi 46 t []
 have hnum:=cutR_num 46 t []
 by_cases h3:(cutR 46 t []).length=3
 ·obtain⟨a,b,c,hc⟩:=three_ex h3
  rw[hc]at hw c1
  have la:=hw a (by simp)
  have lb:=hw b (by simp)
  have lc:=hw c (by simp)
  simp at la lb lc
  have n1:=atoiC a (by omega)
  have n2:=atoiC b (by omega)
  have n3:=atoiC c (by omega)
  obtain⟨R,hR⟩:∃ R,thB t=R:=⟨_,rfl⟩
  rw[hR]
  rw[thB_3 hc]at hR
  have cp:=iPointsI [atoiV a,atoiV b,atoiV c] (by simp) (by
   intro x hx
   simp only[List.mem_cons,List.not_mem_nil,or_false]at hx
   rcases hx with rfl | rfl | rfl
   ·exact atoiV_G _
   ·exact atoiV_G _
   ·exact atoiV_G _)
  have heq:=@three_eq t a b c hc
  refine cvx func215 [(13,[zI 0,zJ 1 [7] [],zJ 2 [] [7],zJ 3 [7] [7],zJ 4 [] [7],zJ 5 [7] [7],zJ 6 [] [7],zJ 7 [7] [7],zJ 8 [] [7],zJ 9 [7] [7],zJ 10 [] [7],zJ 11 [7] [7],zJ 14 [] [7],zJ 12 [] [7],zJ 13 [] [7],zJ 15 [] [7],zJ 16 [] [7],zJ 17 [] [7],zI 18,zI 19])] ntmps215 rfl rfl rfl ?_
  simp -implicitDefEqProofs
  refine c1.call ?_
  simp only[strR,qac,List.map_cons,List.map_nil]at c1 cp
  simp -implicitDefEqProofs [strR]
  refine ev_lp (X:=Nat) [0,7,17,18,19] [(7,7)] (fun i=>[(19,.int .i64 i)]) (fun i=>[(7,⟨3,[[.int .i64 (if 0<i then atoiV a else 0),.int .i64 (if 1<i then atoiV b else 0),.int .i64 (if 2<i then atoiV c else 0)]]⟩)]) (fun i=>3-i)
   (fun i=>(i=0∨(i=1∧atoiK a=true)∨(i=2∧atoiK a=true∧atoiK b=true)∨(i=3∧atoiK a=true∧atoiK b=true∧atoiK c=true))) 0 (.inl rfl) ?_ (he:=by simp[obOf])
  rintro i (rfl | ⟨rfl,k1⟩ | ⟨rfl,k1,k2⟩ | ⟨rfl,k1,k2,k3⟩)
  ·simp -implicitDefEqProofs [obOf,strR]
   refine n1.call ?_
   cases hk:atoiK a with
   | false =>
    rw[if_neg (by simp[hk])]at hR
    simp -implicitDefEqProofs [errA,← hR]
   | true =>
    simp -implicitDefEqProofs [errA]
    exact nx 1 [(7,7)] (by simp[hk]) (h4:=by simp[obOf])
  ·simp -implicitDefEqProofs [obOf,strR]
   refine n2.call ?_
   cases hk:atoiK b with
   | false =>
    rw[if_neg (by simp[hk])]at hR
    simp -implicitDefEqProofs [errA,← hR]
   | true =>
    simp -implicitDefEqProofs [errA]
    exact nx 2 [(7,7)] (by simp[hk,k1]) (h4:=by simp[obOf])
  ·simp -implicitDefEqProofs [obOf,strR]
   refine n3.call ?_
   cases hk:atoiK c with
   | false =>
    rw[if_neg (by simp[hk])]at hR
    simp -implicitDefEqProofs [errA,← hR]
   | true =>
    simp -implicitDefEqProofs [errA]
    exact nx 3 [(7,7)] (by simp[hk,k1,k2]) (h4:=by simp[obOf])
  ·rw[if_pos ⟨k1,k2,k3⟩]at hR
   simp -implicitDefEqProofs [obOf]
   refine cp.view (by simp[vwOk,mtA]) ?_
   simp -implicitDefEqProofs [← hR]
   have:=heq k1 k2 k3
   rw[Bool.eq_iff_iff]
   simp[this]
 ·rw[thB_n h3]
  refine cvx func215 [(13,[zI 0,zJ 1 [7] [],zJ 2 [] [7],zJ 3 [7] [7],zJ 4 [] [7],zJ 5 [7] [7],zJ 6 [] [7],zJ 7 [7] [7],zJ 8 [] [7],zJ 9 [7] [7],zJ 10 [] [7],zJ 11 [7] [7],zJ 14 [] [7],zJ 12 [] [7],zJ 13 [] [7],zJ 15 [] [7],zJ 16 [] [7],zJ 17 [] [7],zI 18,zI 19])] ntmps215 rfl rfl rfl ?_
  simp -implicitDefEqProofs
  refine c1.call ?_
  simp -implicitDefEqProofs [strR,h3,show ¬ ((cutR 46 t []).length:Int)=3 by omega]
theorem iPtrReadC (t:List UInt8) (hl:t.length≤1048576):CV prog 214 [.str t] (.tup [.agg (ptRd t).1.row,.bool (ptRd t).2]):=by
 have c1:=iThreeC t hl
 refine cvx func214 [] ntmps214 rfl rfl rfl ?_ (hcv:=by simp[PT.row])
 by_cases h1:t=[45]
 ·subst h1
  simp -implicitDefEqProofs [ptRd,PT.row]
 simp -implicitDefEqProofs [h1]
 refine c1.call ?_
 have c2:=realC ⟨(thB t).1.1,(thB t).1.2.1,(thB t).1.2.2⟩
 simp only[PT.row]at c2
 by_cases h3:(cutR 46 t []).length=3
 ·obtain⟨a,b,c,hc⟩:=three_ex h3
  have e1:=ptRd_3 hc h1
  have e2:=thB_3 hc
  by_cases hk:atoiK a=true∧atoiK b=true∧atoiK c=true
  ·rw[if_pos hk]at e2
   by_cases hq:canB a=true∧canB b=true∧canB c=true
   ·rw[show decide (canB a=true∧canB b=true∧canB c=true)=true by simpa using hq]at e2
    rw[e2]at c2 ⊢
    simp only at c2
    obtain⟨q1,q2,q3⟩:=hq
    simp only[q1,q2,q3,true_and]at e1
    rw[e1]
    simp -implicitDefEqProofs [PT.row]
    refine c2.call ?_
    cases hr:qam ⟨atoiV a,atoiV b,atoiV c⟩with
    | false=>simp -implicitDefEqProofs [PT.row]
    | true=>simp -implicitDefEqProofs [PT.row]
   ·rw[show decide (canB a=true∧canB b=true∧canB c=true)=false by simpa using hq]at e2
    rw[if_neg (fun e=>hq ⟨e.1,e.2.1,e.2.2.1⟩)]at e1
    rw[e1,e2]
    simp -implicitDefEqProofs [PT.row]
  ·rw[if_neg hk]at e2
   have hq:¬ (canB a=true∧canB b=true∧canB c=true∧qam ⟨atoiV a,atoiV b,atoiV c⟩=true):=fun e=>by
    have h1:=e.1
    have h2:=e.2.1
    have h3:=e.2.2.1
    simp only[canB,Bool.and_eq_true]at h1 h2 h3
    exact hk ⟨h1.1,h2.1,h3.1⟩
   rw[if_neg hq]at e1
   rw[e1,e2]
   simp -implicitDefEqProofs [PT.row]
 ·rw[ptRd_tri (triV_none h3) h1,thB_n h3]
  simp -implicitDefEqProofs [PT.row]
end Go.Av.F
end
