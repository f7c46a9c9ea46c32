/- Lemmas for the proof, no statement of the seat; no conditions. -/
import Derived.Test.YtcbjbdnmhlhijaaGreatDoorLayAT
import Derived.Shelf.Strings.OnBuilder
import Derived.Shelf.LaysM
import Derived.Shelf.LaysC
import Derived.Shelf.Sort.Plain
import Derived.Test.YtcbjbdnmhlhijaaGreatDoorProg
import Derived.Lib.SlicesCompact
set_option linter.unusedSimpArgs false
set_option linter.unusedVariables false
set_option linter.unnecessarySimpa false
set_option maxRecDepth 100000
section
namespace Go.Proofs
open Go.Shelf Go.RowKit Go.Sort Go.Lib
def Tryz.lays156_ren:Go.Shelf.Ren:=⟨fun | 156=>279 | 165=>328 | 166=>329 | 169=>330 | 240=>371 | 241=>372 | 276=>395 | 277=>396 | n=>n,fun | 31=>22 | 9=>9 | 3=>3 | 4=>4 | 0=>0 | 20=>20 | 72=>326 | 76=>259 | 70=>324 | 37=>294 | 75=>258 | 127=>359 | 164=>377 | 5=>5 | 80=>328 | n=>n,fun | n=>n⟩
theorem Tryz.lays156:Go.Proofs.Lays.n156 Tryz.prog Tryz.lays156_ren:={
 mixed:=by kernel_rfl
 f156:=Tryz.func279.trans (congrArg some (by kernel_rfl))
 f165:=Tryz.func328.trans (congrArg some (by kernel_rfl))
 f166:=Tryz.func329.trans (congrArg some (by kernel_rfl))
 f169:=Tryz.func330.trans (congrArg some (by kernel_rfl))
 f240:=Tryz.func371.trans (congrArg some (by kernel_rfl))
 f241:=Tryz.func372.trans (congrArg some (by kernel_rfl))
 f276:=Tryz.func395.trans (congrArg some (by kernel_rfl))
 f277:=Tryz.func396.trans (congrArg some (by kernel_rfl))
 t0:=Tryz.underlying0
 a0:=Tryz.isAgg0
 z0:=Tryz.sizeOf0
 v0:=Tryz.zeroValue0
 t3:=Tryz.underlying3
 a3:=Tryz.isAgg3
 z3:=Tryz.sizeOf3
 v3:=Tryz.zeroValue3
 t4:=Tryz.underlying4
 a4:=Tryz.isAgg4
 z4:=Tryz.sizeOf4
 v4:=Tryz.zeroValue4
 t9:=Tryz.underlying9
 a9:=Tryz.isAgg9
 z9:=Tryz.sizeOf9
 v9:=Tryz.zeroValue9
 t20:=Tryz.underlying20
 a20:=Tryz.isAgg20
 z20:=Tryz.sizeOf20
 v20:=Tryz.zeroValue20
 t31:=Tryz.underlying22
 a31:=Tryz.isAgg22
 z31:=Tryz.sizeOf22
 v31:=Tryz.zeroValue22
 t37:=Tryz.underlying294
 a37:=Tryz.isAgg294
 z37:=Tryz.sizeOf294
 v37:=Tryz.zeroValue294
 t70:=Tryz.underlying324
 a70:=Tryz.isAgg324
 z70:=Tryz.sizeOf324
 v70:=Tryz.zeroValue324
 t72:=Tryz.underlying326
 a72:=Tryz.isAgg326
 z72:=Tryz.sizeOf326
 v72:=Tryz.zeroValue326
 t75:=Tryz.underlying258
 a75:=Tryz.isAgg258
 z75:=Tryz.sizeOf258
 v75:=Tryz.zeroValue258
 t76:=Tryz.underlying259
 a76:=Tryz.isAgg259
 z76:=Tryz.sizeOf259
 v76:=Tryz.zeroValue259
 t127:=Tryz.underlying359
 a127:=Tryz.isAgg359
 z127:=Tryz.sizeOf359
 v127:=Tryz.zeroValue359
 t164:=Tryz.underlying377
 a164:=Tryz.isAgg377
 z164:=Tryz.sizeOf377
 v164:=Tryz.zeroValue377 }
theorem Tryz.Builder_Extra_156:Builder.Extra Tryz.prog Tryz.lays156_ren:={
 sizeBuilder:=by kernel_rfl
 liesBuilder:=by kernel_rfl
 t5:=Tryz.underlying5
 a5:=Tryz.isAgg5
 z5:=Tryz.sizeOf5
 v5:=Tryz.zeroValue5
 infoByte:=by kernel_rfl
 cellsByte:=by kernel_rfl
 sizeByte:=by kernel_rfl
 neB5:=by decide }
theorem Tryz.strings_Join_none (a:Option Addr) (c:Nat) (sep:ByteArray) (w:World) :
  Calls Tryz.prog 279 #[.slice a 0 c,.string sep] w fun e w'=>e=.returned (.string ⟨#[]⟩)∧w'=w:=Any.strings_Join_none Tryz.lays156 Tryz.Builder_Extra_156 a c sep w
theorem Tryz.strings_Join (bk o c:Nat) (xs:List ByteArray) (sep:ByteArray) (w:World) (hcells:∀ (j:Nat) x,xs[j]?=some x→w.cell? ⟨bk,o+j,none⟩=some (.string x)) (hbk:bk<w.heap.size) (hN:xs.length≤140737488355328) (hcap:xs.length≤c) (hlen:(Lib.join (xs.map (·.data.toList)) sep.data.toList).length≤140737488355328) :
  Calls Tryz.prog 279 #[.slice (some ⟨bk,o,none⟩) xs.length c,.string sep] w fun e w'=>e=.returned (.string ⟨(Lib.join (xs.map (·.data.toList)) sep.data.toList).toArray⟩)∧Below w.heap.size w w':=Any.strings_Join Tryz.lays156 Tryz.Builder_Extra_156 bk o c xs sep w hcells hbk hN hcap hlen
def Tryz.lays189_ren:Go.Shelf.Ren:=⟨fun | 189=>225 | 125=>304 | 257=>303 | 128=>347 | 129=>348 | 294=>338 | 295=>339 | 296=>340 | 297=>341 | 298=>342 | 299=>343 | 216=>344 | 300=>345 | 301=>346 | 328=>377 | 329=>378 | 330=>379 | 331=>380 | 332=>381 | 215=>382 | 343=>402 | n=>n,fun | 28=>30 | 3=>3 | 46=>308 | 0=>0 | 51=>340 | 53=>342 | 4=>4 | 183=>334 | 182=>333 | 131=>117 | 5=>5 | 9=>9 | 218=>363 | 222=>367 | 228=>384 | 229=>385 | n=>n,fun | n=>n⟩
theorem Tryz.lays189:Go.Proofs.Lays.n189 Tryz.prog Tryz.lays189_ren:={
 mixed:=by kernel_rfl
 f125:=Tryz.func304.trans (congrArg some (by kernel_rfl))
 f128:=Tryz.func347.trans (congrArg some (by kernel_rfl))
 f129:=Tryz.func348.trans (congrArg some (by kernel_rfl))
 f189:=Tryz.func225.trans (congrArg some (by kernel_rfl))
 f215:=Tryz.func382.trans (congrArg some (by kernel_rfl))
 f216:=Tryz.func344.trans (congrArg some (by kernel_rfl))
 f257:=Tryz.func303.trans (congrArg some (by kernel_rfl))
 f294:=Tryz.func338.trans (congrArg some (by kernel_rfl))
 f295:=Tryz.func339.trans (congrArg some (by kernel_rfl))
 f296:=Tryz.func340.trans (congrArg some (by kernel_rfl))
 f297:=Tryz.func341.trans (congrArg some (by kernel_rfl))
 f298:=Tryz.func342.trans (congrArg some (by kernel_rfl))
 f299:=Tryz.func343.trans (congrArg some (by kernel_rfl))
 f300:=Tryz.func345.trans (congrArg some (by kernel_rfl))
 f301:=Tryz.func346.trans (congrArg some (by kernel_rfl))
 f328:=Tryz.func377.trans (congrArg some (by kernel_rfl))
 f329:=Tryz.func378.trans (congrArg some (by kernel_rfl))
 f330:=Tryz.func379.trans (congrArg some (by kernel_rfl))
 f331:=Tryz.func380.trans (congrArg some (by kernel_rfl))
 f332:=Tryz.func381.trans (congrArg some (by kernel_rfl))
 f343:=Tryz.func402.trans (congrArg some (by kernel_rfl))
 t0:=Tryz.underlying0
 a0:=Tryz.isAgg0
 z0:=Tryz.sizeOf0
 v0:=Tryz.zeroValue0
 t3:=Tryz.underlying3
 a3:=Tryz.isAgg3
 z3:=Tryz.sizeOf3
 v3:=Tryz.zeroValue3
 t4:=Tryz.underlying4
 a4:=Tryz.isAgg4
 z4:=Tryz.sizeOf4
 v4:=Tryz.zeroValue4
 t5:=Tryz.underlying5
 a5:=Tryz.isAgg5
 z5:=Tryz.sizeOf5
 v5:=Tryz.zeroValue5
 t9:=Tryz.underlying9
 a9:=Tryz.isAgg9
 z9:=Tryz.sizeOf9
 v9:=Tryz.zeroValue9
 t28:=Tryz.underlying30
 a28:=Tryz.isAgg30
 z28:=Tryz.sizeOf30
 v28:=Tryz.zeroValue30
 t46:=Tryz.underlying308
 a46:=Tryz.isAgg308
 z46:=Tryz.sizeOf308
 v46:=Tryz.zeroValue308
 t51:=Tryz.underlying340
 a51:=Tryz.isAgg340
 z51:=Tryz.sizeOf340
 v51:=Tryz.zeroValue340
 t53:=Tryz.underlying342
 a53:=Tryz.isAgg342
 z53:=Tryz.sizeOf342
 v53:=Tryz.zeroValue342
 t131:=Tryz.underlying117
 a131:=Tryz.isAgg117
 z131:=Tryz.sizeOf117
 v131:=Tryz.zeroValue117
 t182:=Tryz.underlying333
 a182:=Tryz.isAgg333
 z182:=Tryz.sizeOf333
 v182:=Tryz.zeroValue333
 t183:=Tryz.underlying334
 a183:=Tryz.isAgg334
 z183:=Tryz.sizeOf334
 v183:=Tryz.zeroValue334
 t218:=Tryz.underlying363
 a218:=Tryz.isAgg363
 z218:=Tryz.sizeOf363
 v218:=Tryz.zeroValue363
 t222:=Tryz.underlying367
 a222:=Tryz.isAgg367
 z222:=Tryz.sizeOf367
 v222:=Tryz.zeroValue367
 t228:=Tryz.underlying384
 a228:=Tryz.isAgg384
 z228:=Tryz.sizeOf384
 v228:=Tryz.zeroValue384
 t229:=Tryz.underlying385
 a229:=Tryz.isAgg385
 z229:=Tryz.sizeOf385
 v229:=Tryz.zeroValue385 }
theorem Tryz.slices_Sort_int (blk off cap:Nat) (zs:List Int) (w:World) (hH:Holds (Value.int .i64) w blk off zs.toArray) (hblk:blk<w.heap.size) (hsz:zs.length<4611686018427387904) :
  Calls Tryz.prog 225 #[.slice (some ⟨blk,off,none⟩) zs.length cap] w fun e w' =>
   e=.returned (.tuple #[])∧∃ n os,w'=grow (putRow (Value.int .i64) (Sort.ahead w n) blk off (zs.mergeSort fun x y=>decide (x≤y)).toArray) os:=Any.slices_Sort_int Tryz.lays189 blk off cap zs w hH hblk hsz
end Go.Proofs
end
section
namespace Go.Av.F
open Go Go.Av Go.Proofs Go.Proofs.Tryz Go.RowKit
theorem iJoinC (l:List (List UInt8)) (sep:List UInt8) (hl:l.length≤1048576) (hj:(Lib.join l sep).length≤1048576):CV prog 279 [.lst 1 (l.map qaf),.str sep] (.str (Lib.join l sep)):=by
 refine cv_of_calls0 (fun w Z vs hv hg hz=>?_) (hca:=by simp[qaf])
 obtain⟨x,y,rfl,h1,h2⟩:=crel2 hv
 rw[str_rel h2]
 have hmap:(l.map fun s:List UInt8=>(⟨s.toArray⟩:ByteArray)).map (·.data.toList)=l:=by
  rw[List.map_map]
  exact List.map_id'' (fun s=>rfl) l
 generalize hlen:l.map qaf=els at h1
 cases h1 with
 | lst _ _ _ a cap vf hlc hc hs hr =>
  have hel:els.length=l.length:=by rw[← hlen];simp
  by_cases h0:l=[]
  ·subst h0
   simp only[List.map_nil]at hlen
   subst hlen
   refine(Tryz.strings_Join_none a cap ⟨sep.toArray⟩ w).mono ?_
   rintro e w' ⟨rfl,rfl⟩
   exact⟨_,rfl,by rw[Lib.join_nil];exact .str _ _,.refl _ _⟩
  ·have hne:els≠[]:=by rw[← hlen];simpa using h0
   obtain⟨A,rfl,hZ,hsp,hcell⟩:=hc hne
   obtain⟨b1,b2,b3⟩:=A
   simp only at hsp
   subst hsp
   have hpos:0<l.length:=List.length_pos_iff.2 h0
   have hvf:∀ i,i<l.length→∀ s,l[i]?=some s→vf i 0=.string ⟨s.toArray⟩:=fun i hi s hs2=>by
    have h3:=hr i 0 (by omega) (by omega)
    rw[← hlen]at h3
    have e:((l.map qaf).getD i []).getD 0 .top=.str s:=by simp[List.getD,hs2,qaf]
    rw[e]at h3
    exact str_rel h3
   have hbk:b1<w.heap.size:=by
    have:=hcell 0 0 (by omega) (by omega)
    exact World.block_lt_of_cell? w _ this
   have hj2:(Lib.join ((l.map fun s:List UInt8=>(⟨s.toArray⟩:ByteArray)).map (·.data.toList)) sep).length≤140737488355328:=by rw[hmap];omega
   have:=Tryz.strings_Join b1 b2 cap (l.map fun s:List UInt8=>(⟨s.toArray⟩:ByteArray)) ⟨sep.toArray⟩ w (fun j x hx=>by
    simp only[List.getElem?_map,Option.map_eq_some_iff]at hx
    obtain⟨s,hs2,rfl⟩:=hx
    have hjl:=(List.getElem?_eq_some_iff.1 hs2).1
    have:=hcell j 0 (by omega) (by omega)
    rw[hvf j hjl s hs2]at this
    simpa [Addr.at]using this) hbk (by simp;omega) (by simp;omega) hj2
   rw[hel]
   simp only[List.length_map]at this
   refine this.mono ?_
   rintro e w' ⟨rfl,hB⟩
   refine⟨_,rfl,?_,hB⟩
   rw[hmap]
   exact .str _ _
@[simp] theorem renL_strRow2 {α:Type} (ρ:Nat→Option Plc) (f:α→List UInt8):renL ρ ∘ qaf ∘ f=qaf ∘ f:=by funext x;simp[qaf]
theorem joinTail_len (sep:List UInt8) (k:Nat):∀ (r:List (List UInt8)),(∀ x∈r,x.length≤k)→(Lib.joinTail sep r).length≤r.length * (k+sep.length)
 | [],_=>by simp[Lib.joinTail]
 | x::r,h=>by
  have ih:=joinTail_len sep k r fun y hy=>h y (List.mem_cons_of_mem _ hy)
  have hx:=h x (by simp)
  simp only[Lib.joinTail,List.map_cons,List.flatten_cons,List.length_append,List.length_cons]at ih ⊢
  rw[Nat.add_mul]
  omega
theorem join_len (sep:List UInt8) (k:Nat) (l:List (List UInt8)) (h:∀ x∈l,x.length≤k):(Lib.join l sep).length≤l.length * (k+sep.length):=by
 cases l with
 | nil=>simp[Lib.join_nil]
 | cons x r =>
  rw[Lib.join_cons,List.length_append,List.length_cons,Nat.add_mul]
  have:=joinTail_len sep k r fun y hy=>h y (List.mem_cons_of_mem _ hy)
  have:=h x (by simp)
  omega
theorem idec (n:Int) (h0:0≤n) (h:n<1000000000):CV prog 280 [.int .i64 n] (.str (dec n)):=by
 have:=itoaC n (by omega) (by omega)
 have e:n=((n.toNat:Nat):Int):=by omega
 rw[e,itoa_nat,← e]at this
 exact this
theorem iPointsC (l:List Int) (hl:l.length≤10) (h:∀ x∈l,0≤x∧x<1000000000):CV prog 276 [.lst 1 (l.map qad)] (.str (Lib.join (l.map dec) [46])):=by
 have hj:=join_len [46] 9 (l.map dec) (fun x hx=>by
  obtain⟨n,hn,rfl⟩:=List.mem_map.1 hx
  exact qaz n (h n hn).2)
 simp only[List.length_map]at hj
 have cj:=iJoinC (l.map dec) [46] (by simp;omega) (by simp at hj;omega)
 refine cvx func276 [] ntmps276 rfl rfl rfl ?_ (hca:=by simp[qad])
 simp -implicitDefEqProofs
 refine ev_sw (sw_ph 3 1 (by simp) (by simp)) ?_
 refine ev_lo (X:=Nat) [2,3,6,7,8] [(3,900)] (fun i=>[(3,.sl 900 0 i),(8,.int .i64 i)]) (fun i=>[(900,strOb ((l.take i).map dec))]) (fun i=>l.length-i) (fun i=>i≤l.length) 0 (by simp) ?_ (he:=by simp[obOf,strOb])
 intro i hi
 cases hr:l.drop i with
 | nil =>
  have:=dropn hr
  have hie:i=l.length:=by omega
  subst hie
  rw[List.take_length]
  simp -implicitDefEqProofs
  refine cj.view (by simp[vwOk,mtA,strOb,qaf,List.take_of_length_le]) ?_
  simp -implicitDefEqProofs
 | cons x r =>
  obtain⟨g1,e0,e1,g3⟩:=dropc hr
  have hx:=h x (List.mem_of_getElem? e1)
  have cd:=idec x hx.1 hx.2
  have e2:=i64w ((i:Int)+1) (by omega) (by omega)
  simp -implicitDefEqProofs [g1,e0,e1,qad]
  refine cd.call ?_
  simp -implicitDefEqProofs [strOb]
  have hmin:min i l.length=i:=by omega
  exact⟨by omega,nx (i+1) [(16,900)] (by omega) (h4:=by
   have ht:=tk1 (qaf ∘ dec) e1
   simp[strOb,ht,List.take_of_length_le,hmin,e2]
   simp[qaf])⟩
theorem iPtrTextC (p:PT):CV prog 296 [.agg p.row] (.str (ptText p)):=by
 obtain⟨R,hR⟩:∃ R,ptText p=R:=⟨_,rfl⟩
 rw[hR]
 have c1:=iPtrOkC p
 simp only[PT.row]at c1
 unfold ptText at hR
 refine cvx func296 [] ntmps296 rfl rfl rfl ?_ (hca:=by simp[PT.row])
 simp -implicitDefEqProofs [PT.row]
 refine c1.call ?_
 cases hok:ptOkB p with
 | false =>
  rw[if_pos hok]at hR
  simp -implicitDefEqProofs [← hR]
 | true =>
  rw[if_neg (by simp[hok])]at hR
  have hb:=ptOk_b hok
  by_cases h0:p.pa=0
  ·rw[if_pos h0]at hR
   simp -implicitDefEqProofs [h0,← hR]
  ·rw[if_neg h0]at hR
   have c2:=iPointsC [p.pa,p.ps,p.pb] (by simp) (fun x hx=>by
    simp only[List.mem_cons,List.not_mem_nil,or_false]at hx
    omega)
   have e:Lib.join ([p.pa,p.ps,p.pb].map dec) [46]=R:=by rw[← hR];simp[Lib.join_cons,Lib.joinTail]
   rw[e]at c2
   simp -implicitDefEqProofs [h0]
   refine c2.view (by simp[vwOk,mtA,qad]) ?_
   simp -implicitDefEqProofs
theorem ptsText_tail:∀ (l:List PT),(l.all ptOkB=true→ptsText l false=some (Lib.joinTail [32] (l.map ptText)))∧(∀ b,l.all ptOkB=false→ptsText l b=none)
 | []=>⟨fun _=>rfl,fun b h=>by simp at h⟩
 | p::r=>by
  obtain⟨h1,h2⟩:=ptsText_tail r
  refine⟨fun h=>?_,fun b h=>?_⟩
  ·simp only[List.all_cons,Bool.and_eq_true]at h
   simp only[ptsText]
   rw[if_neg (by simp[h.1]),h1 h.2]
   simp[Lib.joinTail]
  ·simp only[ptsText]
   cases hp:ptOkB p with
   | false=>simp
   | true =>
    simp only[List.all_cons,hp,Bool.true_and]at h
    rw[if_neg (by simp),h2 false h];rfl
theorem mapText_join (m:List PT):qbz m=if m.all ptOkB=true then Lib.join (m.map ptText) [32] else []:=by
 unfold qbz
 split
 ·rename_i h
  cases m with
  | nil=>rfl
  | cons p r =>
   simp only[List.all_cons,Bool.and_eq_true]at h
   simp only[ptsText]
   rw[if_neg (by simp[h.1]),(ptsText_tail r).1 h.2,List.map_cons,Lib.join_cons]
   simp
 ·rename_i h
  rw[(ptsText_tail m).2 true (by simpa using h)];rfl
theorem iCoreMapC (m:List PT) (h8:m.length=8):CV prog 323 [.agg (m.flatMap PT.row)] (.str (qbz m)):=by
 obtain⟨R,hR⟩:∃ R,qbz m=R:=⟨_,rfl⟩
 rw[hR]
 rw[mapText_join]at hR
 have hj:=join_len [32] 29 (m.map ptText) (fun x hx=>by
  obtain⟨n,hn,rfl⟩:=List.mem_map.1 hx
  exact ptText_len n)
 simp only[List.length_map]at hj
 have cj:=iJoinC (m.map ptText) [32] (by simp;omega) (by simp at hj;omega)
 have h24:List.take 24 (m.flatMap PT.row)=m.flatMap PT.row:=List.take_of_length_le (by rw[List.length_flatMap];exact Nat.le_of_eq (sum3 h8))
 have hrn:∀ ρ,renL ρ (m.flatMap PT.row)=m.flatMap PT.row:=fun ρ=>renL_closed.renL_closedL ρ _ (clL_pts m)
 refine cvx func323 [] ntmps323 rfl rfl rfl ?_ (hca:=by simp[clL_pts])
 simp -implicitDefEqProofs [sum3 h8,h24]
 refine ev_sw (sw_ph 3 1 (by simp) (by simp)) ?_
 refine ev_lo (X:=Nat) [1,2,3,6,7] [(1,1),(3,900)] (fun i=>[(3,.sl 900 0 i),(7,.int .i64 i)]) (fun i=>[(1,⟨24,[m.flatMap PT.row]⟩),(900,strOb ((m.take i).map ptText))]) (fun i=>8-i) (fun i=>i≤8∧(m.take i).all ptOkB=true) 0 (by simp) ?_ (he:=by simp[obOf,strOb,hrn])
 rintro i ⟨hi,ha⟩
 cases hr:m.drop i with
 | nil =>
  have:=dropn hr
  have hie:i=8:=by omega
  subst hie
  have ht:m.take 8=m:=List.take_of_length_le (by omega)
  rw[ht]at ha ⊢
  rw[if_pos ha]at hR
  simp -implicitDefEqProofs
  rw[hR]at cj
  refine cj.view (by simp[vwOk,mtA,strOb,qaf,List.take_of_length_le,h8]) ?_
  simp -implicitDefEqProofs
 | cons p q =>
  obtain⟨k1,e0,e1,k3⟩:=dropc hr
  have hli:(i:Int)<8:=by omega
  have hi8:i<8:=by omega
  have e2:=i64w ((i:Int)+1) (by omega) (by omega)
  have c1:=iPtrOkC p
  have c2:=iPtrTextC p
  have hf:=flat_at e1
  simp only[PT.row]at c1 c2
  have hs1:(m.take (i+1)).all ptOkB=((m.take i).all ptOkB && ptOkB p):=by rw[takeS e1];simp
  simp -implicitDefEqProofs [obOf,hli,hi8,hf,PT.row,sum3 h8]
  refine⟨by omega,?_⟩
  refine c1.call ?_
  cases hok:ptOkB p with
  | false =>
   have:¬ m.all ptOkB=true:=fun h=>by
    have:=List.all_eq_true.1 h p (List.mem_of_getElem? e1)
    rw[hok]at this;cases this
   rw[if_neg this]at hR
   simp -implicitDefEqProofs [← hR]
  | true =>
   simp -implicitDefEqProofs [PT.row,strOb]
   refine c2.call ?_
   simp -implicitDefEqProofs
   have hmin:min i m.length=i:=by omega
   refine⟨by omega,nx (i+1) [(1,1),(17,900)] ⟨by omega,by
    have h:(m.take (i+1)).all ptOkB=true:=by rw[hs1,ha,hok];rfl
    first | exact h | simpa using h⟩ (h4:=?_)⟩
   have ht:=tk1 (qaf ∘ ptText) e1
   simp[obOf,strOb,ht,List.take_of_length_le,hmin,e2,hrn]
   simp[qaf]
theorem desText_join:∀ (l:List DE),desText l false=Lib.joinTail [32] (l.map deText)∧desText l true=Lib.join (l.map deText) [32]
 | []=>⟨rfl,rfl⟩
 | e::r=>by
  obtain⟨h1,_⟩:=desText_join r
  refine⟨?_,?_⟩
  ·simp only[desText,h1]
   simp[Lib.joinTail]
  ·simp only[desText,h1,List.map_cons,Lib.join_cons]
   simp
theorem iDdtTextC (l:List DE) (hl:l.length≤1048576):CV prog 325 [.lst 3 (l.map DE.row)] (.str (ddText l)):=by
 obtain⟨R,hR⟩:∃ R,ddText l=R:=⟨_,rfl⟩
 rw[hR]
 unfold ddText at hR
 rw[(desText_join l).2]at hR
 have c1:=iDdtOkC l hl
 refine cvx func325 [] ntmps325 rfl rfl rfl ?_ (hca:=by simp[DE.row])
 simp -implicitDefEqProofs
 refine c1.call ?_
 cases hok:qau l with
 | false =>
  rw[if_neg (by simp[hok])]at hR
  simp -implicitDefEqProofs [← hR]
 | true =>
  rw[if_pos hok]at hR
  have hl48:l.length≤48:=by
   simp only[qau,Bool.and_eq_true,decide_eq_true_eq]at hok
   exact hok.1
  have hj:=join_len [32] 29 (l.map deText) (fun x hx=>by
   obtain⟨e,he,rfl⟩:=List.mem_map.1 hx
   exact deText_len (ddt_de hok e he))
  simp only[List.length_map]at hj
  have cj:=iJoinC (l.map deText) [32] (by simp;omega) (by simp at hj;omega)
  rw[hR]at cj
  simp -implicitDefEqProofs
  refine ev_sw (sw_ph 3 1 (by simp) (by simp)) ?_
  refine ev_lo (X:=Nat) [2,3,9,10,11] [(3,900)] (fun i=>[(3,.sl 900 0 i),(11,.int .i64 i)]) (fun i=>[(900,strOb ((l.take i).map deText))]) (fun i=>l.length-i) (fun i=>i≤l.length) 0 (by simp) ?_ (he:=by simp[obOf,strOb])
  intro i hi
  cases hr:l.drop i with
  | nil =>
   have:=dropn hr
   have hie:i=l.length:=by omega
   subst hie
   rw[List.take_length]
   simp -implicitDefEqProofs
   refine cj.view (by simp[vwOk,mtA,strOb,qaf,List.take_of_length_le]) ?_
   simp -implicitDefEqProofs
  | cons e r =>
   obtain⟨g1,e0,e1,g3⟩:=dropc hr
   have eb:=ddt_mem hok e (List.mem_of_getElem? e1)
   have e2:=i64w ((i:Int)+1) (by omega) (by omega)
   have c2:=iPointsC [e.es,e.ea,e.ec] (by simp) (fun x hx=>by
    simp only[List.mem_cons,List.not_mem_nil,or_false]at hx
    omega)
   have e4:Lib.join ([e.es,e.ea,e.ec].map dec) [46]=deText e:=by simp[Lib.join_cons,Lib.joinTail,deText]
   rw[e4]at c2
   have hmin:min i l.length=i:=by omega
   simp -implicitDefEqProofs [g1,e0,e1,DE.row]
   refine c2.view (by simp[vwOk,mtA,qad]) ?_
   simp -implicitDefEqProofs [strOb]
   refine⟨by omega,nx (i+1) [(25,900)] (by omega) (h4:=?_)⟩
   have ht:=tk1 (qaf ∘ deText) e1
   simp[strOb,ht,List.take_of_length_le,hmin,e2]
   simp[qaf]
theorem iUberC (txg:Int) (p:PT):CV prog 256 [.int .i64 txg,.agg p.row] (.str (uberText txg p)):=by
 obtain⟨R,hR⟩:∃ R,uberText txg p=R:=⟨_,rfl⟩
 rw[hR]
 unfold uberText at hR
 have c1:=withinC' txg 1 1000000
 have c2:=realC p
 have c3:=iPtrTextC p
 have hpl:=ptText_len p
 simp only[PT.row]at c2 c3
 refine cvx func256 [] ntmps256 rfl rfl rfl ?_ (hca:=by simp[PT.row])
 simp -implicitDefEqProofs [PT.row]
 refine c1.call ?_
 by_cases hw:1≤txg∧txg≤1000000
 ·have hwi:wiB txg 1 1000000=true:=by simp[wiB,hw]
  have d1:=idec txg (by omega) (by omega)
  have dl:=qaz txg (by omega)
  rw[hwi]
  simp -implicitDefEqProofs
  refine c2.call ?_
  cases hre:qbe p with
  | false =>
   rw[if_pos (.inr (.inr hre))]at hR
   simp -implicitDefEqProofs [← hR]
  | true =>
   rw[if_neg (by simp[hre];omega)]at hR
   have c4:=isealC (dec txg++(32::(ptText p++(32::dec txg)))) (by simp[maxLen];omega)
   rw[hR]at c4
   simp -implicitDefEqProofs
   refine d1.call ?_
   simp -implicitDefEqProofs [PT.row]
   refine⟨by omega,?_⟩
   refine c3.call ?_
   simp -implicitDefEqProofs
   refine⟨by omega,by omega,by omega,?_⟩
   refine c4.call ?_
   simp -implicitDefEqProofs
 ·have hwi:wiB txg 1 1000000=false:=by
   simp only[wiB,Bool.and_eq_false_iff,decide_eq_false_iff_not];omega
  rw[if_pos (by omega)]at hR
  rw[hwi]
  simp -implicitDefEqProofs [← hR]
theorem iRootC (c:CO) (h:CoT c):CV prog 213 [.agg c.row] (.str (qbg c)):=by
 obtain⟨R,hR⟩:∃ R,qbg c=R:=⟨_,rfl⟩
 rw[hR]
 have hs:=h.sets
 have hp:=h.parts
 refine cvx func213 [(10,[zI 0,zI 1,zJ 2 [5] [],zI 3,zI 4,zJ 5 [] [5],zJ 6 [5] [5],zJ 10 [] [5],zJ 13 [] [5],zJ 14 [5] [5],zJ 7 [] [5],zJ 8 [] [5],zJ 9 [] [5],zJ 11 [] [5],zJ 12 [] [5],zJ 15 [] [5],zI 16,zI 17,zI 18])] ntmps213 rfl rfl rfl ?_ (hca:=by simp[CO.row,PT.row,DE.row,cs_cl,qad])
 simp -implicitDefEqProofs [CO.row]
 refine ev_lp (X:=Nat×List UInt8) [1,2,3,10,11,12] [(1,1)] (fun x=>[(3,.str x.2),(12,.int .i64 x.1)]) (fun _=>[]) (fun x=>c.sets.length-x.1) (fun x=>x.1≤c.sets.length∧x.2.length≤4+64 * x.1∧((rootSets (c.sets.drop x.1)).bind fun t=>(qcg c.parts).map fun u=>x.2++(t++u)).getD []=R) (0,[114,111,111,116]) (by simp[← hR,qbg]) ?_ (he:=by simp[obOf])
 rintro⟨i,t⟩ ⟨hi,hl,hd⟩
 simp only at hi hl hd
 cases hr:c.sets.drop i with
 | nil =>
  have:=dropn hr
  rw[hr]at hd
  have hie:i=c.sets.length:=by omega
  subst hie
  simp only[rootSets,Option.bind_some,List.nil_append]at hd
  simp -implicitDefEqProofs [obOf]
  refine ev_lp (X:=Nat×List UInt8) [1,2,3,43,44,45] [(1,1)] (fun x=>[(3,.str x.2),(45,.int .i64 x.1)]) (fun _=>[]) (fun x=>c.parts.length-x.1) (fun x=>x.1≤c.parts.length∧x.2.length≤4+64 * c.sets.length+64 * x.1∧((qcg (c.parts.drop x.1)).map fun u=>x.2++u).getD []=R) (0,t) (by simp[hd];omega) ?_ (he:=by simp[obOf])
  rintro⟨i,t⟩ ⟨hi,hl,hd⟩
  simp only at hi hl hd
  cases hr:c.parts.drop i with
  | nil =>
   have:=dropn hr
   rw[hr]at hd
   have hie:i=c.parts.length:=by omega
   subst hie
   simp only[qcg,Option.map_some,List.append_nil,Option.getD_some]at hd
   simp -implicitDefEqProofs [obOf,hd]
  | cons p q =>
   obtain⟨k1,e0,e1,k3⟩:=dropc hr
   rw[hr]at hd
   simp only[qcg]at hd
   have hli:(i:Int)<c.parts.length:=by omega
   have e2:=i64w ((i:Int)+1) (by omega) (by omega)
   have c1:=realC p
   have c2:=iPtrTextC p
   have hpl:=ptText_len p
   simp only[PT.row]at c1 c2
   simp -implicitDefEqProofs [obOf,k1,e0,e1,hli,PT.row]
   refine c1.call ?_
   cases hok:qbe p with
   | false =>
    rw[if_pos hok]at hd
    simp only[Option.map_none,Option.getD_none]at hd
    simp -implicitDefEqProofs [← hd]
   | true =>
    rw[if_neg (by simp[hok])]at hd
    simp -implicitDefEqProofs [obOf,k1,e0,e1,hli,PT.row]
    refine c2.call ?_
    simp -implicitDefEqProofs [e2]
    exact⟨by omega,by omega,nx (i+1,t++(10::46::32::ptText p)) [(1,1)] ⟨by simp only;omega,by simp;omega,by simp only[k3];simpa [Option.map_map,Function.comp_def]using hd⟩ (by simp only;omega) (h4:=by simp[obOf,e2])⟩
 | cons s q =>
  obtain⟨k1,e0,e1,k3⟩:=dropc hr
  rw[hr]at hd
  simp only[rootSets]at hd
  have hsm:=List.mem_of_getElem? e1
  have hli:(i:Int)<c.sets.length:=by omega
  have e2:=i64w ((i:Int)+1) (by omega) (by omega)
  have h8:=h.m8 s hsm
  have c1:=iSetC s h8 (h.nm s hsm).1 (h.nm s hsm).2
  simp -implicitDefEqProofs [obOf,k1,e0,e1,hli,qas s h8,qbt s h8]
  refine⟨cs_ones s,?_⟩
  refine c1.call ?_
  cases hok:csOkB s with
  | false =>
   rw[if_pos hok]at hd
   simp only[Option.bind_none,Option.getD_none]at hd
   simp -implicitDefEqProofs [← hd]
  | true =>
   rw[if_neg (by simp[hok])]at hd
   have hk:=cs_kind hok
   have c2:=idec s.kind (by omega) (by omega)
   have c4:=iPtrTextC s.home
   have hrl:=rootSet_len hok
   have hn:=csOk_nm hok
   have hdl:=qaz s.kind (by omega)
   have hfl:=fromT_len s.frm
   have hpl:=ptText_len s.home
   have hs0:s.row[0]?=some (.str s.name):=rfl
   have hs1:s.row[1]?=some (.int .i64 s.kind):=rfl
   have hs2:s.row[2]?=some (.str s.frm):=rfl
   by_cases hf:s.frm=[]
   ·have hfe:fromT s.frm=[45]:=by simp[fromT,hf]
    simp -implicitDefEqProofs [cs_home s h8,qas s h8,hf]
    refine⟨by omega,by omega,?_⟩
    refine c2.call ?_
    simp -implicitDefEqProofs [cs_home s h8,qas s h8,hf]
    refine⟨by omega,by omega,by omega,by omega,?_⟩
    refine c4.call ?_
    simp -implicitDefEqProofs [e2]
    refine⟨by omega,by omega,nx (i+1,t++rootSet s) [(1,1)] ⟨by simp only;omega,by simp only[List.length_append];omega,by simp only[k3];simpa [Option.map_map,Option.bind_map,Function.comp_def]using hd⟩ (by simp only;omega) (h4:=by simp[obOf,e2,rootSet,hfe])⟩
   ·have hfe:fromT s.frm=s.frm:=by simp[fromT,hf]
    simp -implicitDefEqProofs [cs_home s h8,qas s h8,hf]
    refine⟨by omega,by omega,?_⟩
    refine c2.call ?_
    simp -implicitDefEqProofs [cs_home s h8,qas s h8,hf]
    refine⟨by omega,by omega,by omega,by omega,?_⟩
    refine c4.call ?_
    simp -implicitDefEqProofs [e2]
    refine⟨by omega,by omega,nx (i+1,t++rootSet s) [(1,1)] ⟨by simp only;omega,by simp only[List.length_append];omega,by simp only[k3];simpa [Option.map_map,Option.bind_map,Function.comp_def]using hd⟩ (by simp only;omega) (h4:=by simp[obOf,e2,rootSet,hfe])⟩
theorem dig_tab (k:Nat) (h:k<16):([48,49,50,51,52,53,54,55,56,57,97,98,99,100,101,102]:List UInt8)[k]?=some (digB k):=by
 rcases(show k=0∨k=1∨k=2∨k=3∨k=4∨k=5∨k=6∨k=7∨k=8∨k=9∨k=10∨k=11∨k=12∨k=13∨k=14∨k=15 by omega)with rfl | rfl | rfl | rfl | rfl | rfl | rfl | rfl | rfl | rfl | rfl | rfl | rfl | rfl | rfl | rfl <;> rfl
theorem and15 (n:Nat) (h:n<256):bitI BinOp.and IntKind.u8 (n:Int) 15=((n % 16:Nat):Int):=by
 have:∀ m:Fin 256,bitI BinOp.and IntKind.u8 ((m.val:Nat):Int) 15=((m.val % 16:Nat):Int):=by decide
 exact this ⟨n,h⟩
theorem shr4 (n:Nat):((n:Nat):Int).fdiv (2 ^ min 4 IntKind.u8.bits)=((n / 16:Nat):Int):=by
 rw[show(2:Int) ^ min 4 IntKind.u8.bits=16 from rfl,Int.fdiv_eq_ediv_of_nonneg _ (by omega)]
 omega
theorem ihexC (s:List UInt8) (hs:s.length≤1048576):CV prog 277 [.str s] (.str (hexB s)):=by
 obtain⟨R,hR⟩:∃ R,hexB s=R:=⟨_,rfl⟩
 rw[hR]
 refine cvx func277 [] ntmps277 rfl rfl rfl ?_
 simp -implicitDefEqProofs
 refine ev_sw (sw_ph 3 1 (by simp) (by simp)) ?_
 refine ev_lo (X:=Nat×List UInt8) [0,2,3,6,7] [(3,900)] (fun x=>[(7,.int .i64 x.1),(3,.sl 900 0 x.2.length)]) (fun x=>[(900,⟨1,x.2.map u8row⟩)]) (fun x=>s.length-x.1) (fun x=>x.1≤s.length∧x.2.length=2 * x.1∧x.2++hexB (s.drop x.1)=R) (0,[]) (by simp[hR]) ?_ (he:=by simp[obOf])
 rintro⟨i,out⟩ ⟨hi,hol,hd⟩
 simp only at hi hol hd
 cases hr:s.drop i with
 | nil =>
  have:=dropn hr
  rw[hr,hexB]at hd
  have hie:i=s.length:=by omega
  subst hie
  simp only[List.append_nil]at hd
  simp -implicitDefEqProofs [byteOf_u8,List.take_of_length_le,hd]
  try exact fun x _=>rfl
 | cons x r =>
  obtain⟨h1,e0,e1,h3⟩:=dropc hr
  rw[hr,hexB]at hd
  have e2:=i64w ((i:Int)+1) (by omega) (by omega)
  have hx:=x.toNat_lt
  have hli:(i:Int)<s.length:=by omega
  simp -implicitDefEqProofs [h1,e0,e1,hli]
  rw[and15 _ hx,shr4]
  have g1:x.toNat / 16<16:=by omega
  have g2:x.toNat % 16<16:=by omega
  refine⟨⟨by omega,by omega⟩,⟨by omega,by omega⟩,by omega,nx (i+1,out++[digB (x.toNat / 16),digB (x.toNat % 16)]) [(22,900)] ⟨by simp only;omega,by simp;omega,by simp only[h3];simpa using hd⟩ (by simp only;omega) (h4:=?_)⟩
  have t1:=dig_tab _ g1
  have t2:=dig_tab _ g2
  have q1:((x.toNat:Int) / 16).toNat=x.toNat / 16:=by omega
  have q2:((x.toNat:Int) % 16).toNat=x.toNat % 16:=by omega
  simp[e2,List.take_of_length_le,renL_u8c,u8row,t1,t2,q1,q2]
theorem ilogTextC (r:LR) (ha:r.op.a.length≤1048576) (ht:r.op.text.length≤1048576):CV prog 179 [.agg r.row] (.str (logText r)):=by
 obtain⟨R,hR⟩:∃ R,logText r=R:=⟨_,rfl⟩
 rw[hR]
 have hno:lrOkB r=false→R=[]:=fun h=>by rw[← hR];unfold logText;rw[if_pos h]
 have hbad:∀ b:Prop,[Decidable b]→¬ b→(lrOkB r=true→b)→R=[]:=fun b _ hb h=>hno (by
  cases e:lrOkB r with
  | false=>rfl
  | true=>exact absurd (h e) hb)
 have hsp:lrOkB r=true↔(1≤r.txg∧r.txg≤1000000)∧(0≤r.seq∧r.seq<8)∧r.op.kind=3∧nameB r.op.a=true∧r.op.b=[]∧(0≤r.op.i∧r.op.i<8)∧r.op.text.length≤24:=by
  simp only[lrOkB,Bool.and_eq_true,decide_eq_true_eq]
  grind
 have c1:=iName r.op.a ha
 have c2:=ihexC r.op.text ht
 have hxl:=hexB_len r.op.text
 have w1:=withinC' r.txg 1 1000000
 have w2:=withinC' r.seq 0 7
 have w3:=cv_of (isBlockC r.op.i)
 have hyes:lrOkB r=true→R=sealB (dec r.txg++(46::(dec r.seq++(32::(r.op.a++(32::(dec r.op.i++(32::(hexT r.op.text++(32::(dec r.txg++(46::dec r.seq)))))))))))):=fun h=>by
  rw[← hR];unfold logText;rw[if_neg (by simp[h])]
 refine cvx func179 [(8,[zI 0,zI 1,zJ 2 [3] [],zJ 3 [] [3],zJ 4 [3] [3],zJ 6 [] [3],zJ 7 [] [3],zJ 5 [] [3],zI 8,zI 9,zI 10,zI 11])] ntmps179 rfl rfl rfl ?_ (hca:=by simp[LR.row,BO.row])
 simp -implicitDefEqProofs [LR.row,BO.row]
 refine w1.call ?_
 by_cases q1:1≤r.txg∧r.txg≤1000000
 rotate_left
 ·rw[show wiB r.txg 1 1000000=false by simp only[wiB,Bool.and_eq_false_iff,decide_eq_false_iff_not];omega,hbad _ q1 fun h=>(hsp.1 h).1]
  simp -implicitDefEqProofs
 rw[show wiB r.txg 1 1000000=true by simp[wiB,q1]]
 simp -implicitDefEqProofs
 refine w2.call ?_
 by_cases q2:0≤r.seq∧r.seq<8
 rotate_left
 ·rw[show wiB r.seq 0 7=false by simp only[wiB,Bool.and_eq_false_iff,decide_eq_false_iff_not];omega,hbad _ q2 fun h=>(hsp.1 h).2.1]
  simp -implicitDefEqProofs
 rw[show wiB r.seq 0 7=true by simp only[wiB,Bool.and_eq_true,decide_eq_true_eq];omega]
 by_cases q3:r.op.kind=3
 rotate_left
 ·rw[hbad _ q3 fun h=>(hsp.1 h).2.2.1]
  simp -implicitDefEqProofs [q3]
 simp -implicitDefEqProofs [q3]
 refine c1.call ?_
 cases q4:nameB r.op.a with
 | false =>
  rw[hno (by cases e:lrOkB r with
   | false=>rfl
   | true=>exact absurd (hsp.1 e).2.2.2.1 (by simp[q4]))]
  simp -implicitDefEqProofs
 | true =>
  by_cases q5:r.op.b=[]
  rotate_left
  ·rw[hbad _ q5 fun h=>(hsp.1 h).2.2.2.2.1]
   simp -implicitDefEqProofs [q5]
  simp -implicitDefEqProofs [q5]
  refine w3.call ?_
  by_cases q6:0≤r.op.i∧r.op.i<8
  rotate_left
  ·rw[show(decide (0≤r.op.i) && decide (r.op.i≤7))=false by simp only[Bool.and_eq_false_iff,decide_eq_false_iff_not];omega,hbad _ q6 fun h=>(hsp.1 h).2.2.2.2.2.1]
   simp -implicitDefEqProofs
  rw[show(decide (0≤r.op.i) && decide (r.op.i≤7))=true by simp only[Bool.and_eq_true,decide_eq_true_eq];omega]
  by_cases q7:r.op.text.length≤24
  rotate_left
  ·rw[hbad _ q7 fun h=>(hsp.1 h).2.2.2.2.2.2]
   simp -implicitDefEqProofs [show(24:Int)<r.op.text.length by omega]
  have hy:=hyes (hsp.2 ⟨q1,q2,q3,q4,q5,q6,q7⟩)
  have d1:=iPointsC [r.txg,r.seq] (by simp) (fun x hx=>by
   simp only[List.mem_cons,List.not_mem_nil,or_false]at hx
   omega)
  have e0:Lib.join ([r.txg,r.seq].map dec) [46]=dec r.txg++(46::dec r.seq):=by simp[Lib.join_cons,Lib.joinTail]
  rw[e0]at d1
  have d3:=idec r.op.i (by omega) (by omega)
  have l1:=qaz r.txg (by omega)
  have l2:=qaz r.seq (by omega)
  have l3:=qaz r.op.i (by omega)
  have hna:r.op.a.length≤6:=by
   simp only[nameB,Bool.and_eq_true,decide_eq_true_eq]at q4
   exact q4.2
  simp -implicitDefEqProofs [show ¬ (24:Int)<r.op.text.length by omega,LR.row,BO.row]
  refine d1.view (by simp[vwOk,mtA,qad]) ?_
  simp -implicitDefEqProofs [LR.row,BO.row]
  refine c2.call ?_
  have hxT:hexB r.op.text=[]∨hexB r.op.text≠[]:=by cases hexB r.op.text <;> simp
  rcases hxT with hx | hx
  ·skip
   have hxT:hexT r.op.text=[45]:=by simp[hexT,hx]
   rw[hxT]at hy
   have e1:Lib.join [dec r.txg++(46::dec r.seq),r.op.a,dec r.op.i,[45],dec r.txg++(46::dec r.seq)] [32]=(dec r.txg++(46::(dec r.seq++(32::(r.op.a++(32::(dec r.op.i++(32::([45]++(32::(dec r.txg++(46::dec r.seq)))))))))))):=by simp[Lib.join_cons,Lib.joinTail]
   have cj:=iJoinC [dec r.txg++(46::dec r.seq),r.op.a,dec r.op.i,[45],dec r.txg++(46::dec r.seq)] [32] (by simp) (by rw[e1];simp;omega)
   have c3:=isealC (dec r.txg++(46::(dec r.seq++(32::(r.op.a++(32::(dec r.op.i++(32::([45]++(32::(dec r.txg++(46::dec r.seq)))))))))))) (by simp[maxLen];omega)
   rw[e1]at cj
   rw[← hy]at c3
   generalize (dec r.txg++(46::(dec r.seq++(32::(r.op.a++(32::(dec r.op.i++(32::([45]++(32::(dec r.txg++(46::dec r.seq))))))))))))=J at *
   simp -implicitDefEqProofs [hx,LR.row,BO.row]
   refine d3.call ?_
   simp -implicitDefEqProofs
   refine cj.view (by simp[vwOk,mtA,qaf]) ?_
   simp -implicitDefEqProofs
   refine c3.call ?_
   simp -implicitDefEqProofs
  ·skip
   have hxT:hexT r.op.text=hexB r.op.text:=by simp[hexT,hx]
   rw[hxT]at hy
   have e1:Lib.join [dec r.txg++(46::dec r.seq),r.op.a,dec r.op.i,hexB r.op.text,dec r.txg++(46::dec r.seq)] [32]=(dec r.txg++(46::(dec r.seq++(32::(r.op.a++(32::(dec r.op.i++(32::(hexB r.op.text++(32::(dec r.txg++(46::dec r.seq)))))))))))):=by simp[Lib.join_cons,Lib.joinTail]
   have cj:=iJoinC [dec r.txg++(46::dec r.seq),r.op.a,dec r.op.i,hexB r.op.text,dec r.txg++(46::dec r.seq)] [32] (by simp) (by rw[e1];simp;omega)
   have c3:=isealC (dec r.txg++(46::(dec r.seq++(32::(r.op.a++(32::(dec r.op.i++(32::(hexB r.op.text++(32::(dec r.txg++(46::dec r.seq)))))))))))) (by simp[maxLen];omega)
   rw[e1]at cj
   rw[← hy]at c3
   generalize (dec r.txg++(46::(dec r.seq++(32::(r.op.a++(32::(dec r.op.i++(32::(hexB r.op.text++(32::(dec r.txg++(46::dec r.seq))))))))))))=J at *
   simp -implicitDefEqProofs [hx,LR.row,BO.row]
   refine d3.call ?_
   simp -implicitDefEqProofs
   refine cj.view (by simp[vwOk,mtA,qaf]) ?_
   simp -implicitDefEqProofs
   refine c3.call ?_
   simp -implicitDefEqProofs
theorem iReach1 (x:Int):CV prog 224 [.int .i64 x] (.bool (decide (x<13))):=by
 refine cvx func224 [] ntmps224 rfl rfl rfl ?_
 simp -implicitDefEqProofs
def loB (x:Int):Bool:=decide (x<13)
theorem iIxC (l:List Int) (hl:l.length≤1048576):CV prog 302 [.lst 1 (l.map qad),.fn 224 []] (.int .i64 (ixR loB 0 l)):=by
 obtain⟨R,hR⟩:∃ R,ixR loB 0 l=R:=⟨_,rfl⟩
 rw[hR]
 refine cvx func302 [] ntmps302 rfl rfl rfl ?_ (hca:=by simp[qad])
 simp -implicitDefEqProofs
 refine ev_lp (X:=Nat) [0,1,7,8] [] (fun i=>[(8,.int .i64 i)]) (fun _=>[]) (fun i=>l.length-i) (fun i=>i≤l.length∧ixR loB i (l.drop i)=R) 0 (by simp[hR]) ?_
 rintro i ⟨hi,hd⟩
 cases hr:l.drop i with
 | nil =>
  have:=dropn hr
  rw[hr]at hd
  have hie:i=l.length:=by omega
  simp -implicitDefEqProofs [hie]
  grind[ixR]
 | cons x r =>
  obtain⟨h1,e0,e1,h3⟩:=dropc hr
  rw[hr]at hd
  have e2:=i64w ((i:Int)+1) (by omega) (by omega)
  simp -implicitDefEqProofs [h1,e0,e1,qad]
  refine(iReach1 x).call ?_
  simp -implicitDefEqProofs [e2]
  exact⟨fun hp=>by grind[ixR,loB],fun hp=>nx (i+1) [] (by grind[ixR,loB])⟩
theorem ixR_spec (p:Int→Bool):∀ (l:List Int) (i:Nat),(ixR p i l=-1∧l.any p=false)∨∃ k,k<l.length∧ixR p i l=((i+k:Nat):Int)∧(l.take k).any p=false∧(∃ x,l[k]?=some x∧p x=true)
 | [],i=>.inl ⟨rfl,rfl⟩
 | x::r,i=>by
  simp only[ixR]
  cases h:p x with
  | true=>exact .inr ⟨0,by simp,by simp,by simp,x,by simp,h⟩
  | false =>
   rcases ixR_spec p r (i+1)with⟨h1,h2⟩ | ⟨k,h1,h2,h3,h4⟩
   ·exact .inl ⟨by simpa using h1,by simp[h,h2]⟩
   ·refine .inr ⟨k+1,by simp;omega,by simp[h2];omega,by simp[h,h3],by simpa using h4⟩
def hiL (l:List Int):List Int:=l.filter fun x=>!loB x
theorem hiL_le (l:List Int):(hiL l).length≤l.length:=List.length_filter_le _ _
theorem iDelO (l:List Int) (hl:l.length≤1048576):ACall prog 223 [.sl 1000 0 l.length,.fn 224 []] [(1000,kin l)] (fun r L'=>r=.sl 1000 0 (hiL l).length∧L'=[(1000,kin (hiL l))]):=by
 refine ACall.weak (R:=fun r L'=>∃ L2,wkL L' L2∧unc r=.sl 1000 0 (hiL l).length∧L2=[(1000,kin (hiL l))]) ?_ (fun r L' h=>h)
 refine acx func223 [] ntmps223 rfl rfl rfl ?_
 simp -implicitDefEqProofs
 refine(iIxC l hl).view (by simp[vwOk,mtA,kin,qad,List.take_of_length_le]) ?_
 rcases ixR_spec loB l 0 with⟨h1,h2⟩ | ⟨k,h1,h2,h3,y,hx,hp⟩
 ·have hh:hiL l=l:=List.filter_eq_self.2 fun x hx=>by
   have:=List.any_eq_false.1 h2 x hx
   simpa using this
  rw[hh,h1]
  simp -implicitDefEqProofs
  exact⟨[(1000,kin l)],by simp,by simpa [kin,List.take_of_length_le]using wkL.cons 1000 (kin l) l.length .nil⟩
 ·obtain⟨R,hR⟩:∃ R,hiL l=R:=⟨_,rfl⟩
  rw[hR]
  have hRl:R.length≤l.length:=hR ▸ hiL_le l
  rw[h2]
  have e2:=i64w ((k:Int)+1) (by omega) (by omega)
  simp -implicitDefEqProofs [e2]
  have ht:(l.take k).filter (fun x=>!loB x)=l.take k:=List.filter_eq_self.2 fun x hx=>by
   have:=List.any_eq_false.1 h3 x hx
   simpa using this
  refine ev_lo (X:=Nat×List Int×List Int) [0,1,5,6] [(1000,1000)] (fun x=>[(5,.int .i64 (x.2.1.length:Int)),(6,.int .i64 x.1)]) (fun x=>[(1000,kin x.2.2)]) (fun x=>l.length-x.1) (fun x=>x.1≤l.length∧x.2.1.length<x.1∧x.2.1++hiL (l.drop x.1)=R∧x.2.2.length=l.length∧x.2.2.take x.2.1.length=x.2.1∧x.2.2.drop x.1=l.drop x.1) (k+1,l.take k,l) ⟨by simp only;omega,by simp;omega,?_,rfl,by simp[Nat.min_eq_left (Nat.le_of_lt h1)],rfl⟩ ?_ (he:=by simp[obOf,kin,Nat.min_eq_left (Nat.le_of_lt h1)])
  ·have hs:l=l.take k++y::l.drop (k+1):=by
    conv=>lhs;rw[← List.take_append_drop k l,List.drop_eq_getElem?_toList_append,hx]
    rfl
   rw[← hR]
   conv=>rhs;rw[hs]
   simp only[hiL,List.filter_append,ht]
   rw[List.filter_cons_of_neg (by simp[hp])]
  rintro⟨j,F,L⟩ ⟨hj,hF,hd,hL,hLt,hLd⟩
  simp only at hj hF hd hL hLt hLd
  cases hr:l.drop j with
  | nil =>
   have:=dropn hr
   have hie:j=l.length:=by omega
   subst hie
   rw[hr]at hd
   simp -implicitDefEqProofs [obOf,hL,kin]
   have hFR:F=R:=by simpa [hiL]using hd
   subst hFR
   have e:=spl_take (L.map qad) F.length (List.replicate (l.length-F.length) [.int .i64 0]) (by simp;omega)
   refine⟨by omega,by omega,by omega,[(1000,⟨1,spl (L.map qad) F.length (List.replicate (l.length-F.length) [.int .i64 0])⟩)],by simp[qad],?_,rfl⟩
   have h:=wkL.cons 1000 ⟨1,spl (L.map qad) F.length (List.replicate (l.length-F.length) [.int .i64 0])⟩ F.length .nil
   have e2:(spl (L.map qad) F.length (List.replicate (l.length-F.length) [.int .i64 0])).take F.length=F.map qad:=by
    simp only[spl]
    rw[List.take_append_of_le_length (by simp;omega),List.take_take,Nat.min_self,← List.map_take,hLt]
   simp only[e2]at h
   exact h
  | cons x r =>
   obtain⟨g1,e0,e1,g3⟩:=dropc hr
   have e3:=i64w ((j:Int)+1) (by omega) (by omega)
   have e4:=i64w ((F.length:Int)+1) (by omega) (by omega)
   have hx:L[j]?=some x:=by
    have:=congrArg (fun l:List Int=>l[0]?) hLd
    simp only[List.getElem?_drop,Nat.add_zero]at this
    rw[this];exact e1
   have hx':=(List.getElem?_eq_some_iff.1 hx).2
   simp -implicitDefEqProofs [obOf,hL,g1,hx,hx',kin,qad]
   refine(iReach1 x).call ?_
   simp -implicitDefEqProofs [e3,e4]
   have hd2:(l.drop j).filter (fun x=>!loB x)=if loB x=true then (l.drop (j+1)).filter (fun x=>!loB x) else x::(l.drop (j+1)).filter (fun x=>!loB x):=by
    rw[hr,g3]
    cases hq:loB x <;> simp[List.filter_cons,hq]
   simp only[hiL]at hd
   refine⟨fun q=>⟨by omega,by omega,nx (j+1,F++[x],L.set F.length x) [(1000,1000)] ⟨by simp only;omega,by simp;omega,?_,by simp[hL],?_,?_⟩ (by simp only;omega) (h4:=?_)⟩,fun q=>nx (j+1,F,L) [(1000,1000)] ⟨by simp only;omega,by simp only;omega,?_,hL,hLt,?_⟩ (by simp only;omega) (h4:=by simp[obOf,e3,kin])⟩
   ·rw[hd2,if_neg (by simp[loB];omega)]at hd
    simpa [hiL]using hd
   ·simp only[List.length_append,List.length_cons,List.length_nil]
    rw[List.take_add_one,List.getElem?_set_self (by omega),List.take_set_of_le (by omega),hLt]
    rfl
   ·simp only
    rw[List.drop_set_of_lt (by omega),← List.drop_drop,← List.drop_drop,hLd]
   ·obtain⟨z,hz⟩:∃ z,L[F.length]?=some z:=⟨_,List.getElem?_eq_getElem (by omega)⟩
    simp[obOf,e3,e4,kin,hz,qad]
   ·rw[hd2,if_pos (by simp[loB];omega)]at hd
    simpa [hiL]using hd
   ·simp only
    rw[← List.drop_drop,← List.drop_drop,hLd]
def dsT (p:Int):List Int→List Int
 | []=>[]
 | x::r=>if x=p then dsT x r else x::dsT x r
def dsL:List Int→List Int
 | []=>[]
 | x::r=>x::dsT x r
theorem dsT_app (r:List Int) (x p:Int):∀ (q:Int) (l:List Int),dsT q (l++[p]++x::r)=dsT q (l++[p])++dsT p (x::r)
 | q,[]=>by
  simp only[List.nil_append,List.cons_append,dsT]
  split <;> split <;> simp[dsT, *]
 | q,a::l=>by
  have:=dsT_app r x p a l
  simp only[List.cons_append,List.append_assoc,List.nil_append,dsT]at this ⊢
  split <;> simp[this]
theorem dsL_step {l:List Int} {m:Nat} {p x:Int} (h1:l[m]?=some p) (h2:l[m+1]?=some x):dsL (l.take (m+2))=if x=p then dsL (l.take (m+1)) else dsL (l.take (m+1))++[x]:=by
 have e1:l.take (m+2)=l.take m++[p]++[x]:=by rw[takeS h2,takeS h1]
 have e2:l.take (m+1)=l.take m++[p]:=takeS h1
 rw[e1,e2]
 cases l.take m with
 | nil=>simp only[List.nil_append,List.cons_append,dsL,dsT];split <;> simp
 | cons a q =>
  have:=dsT_app [] x p a q
  simp only[List.cons_append,List.append_assoc,List.nil_append,dsL]at this ⊢
  rw[this]
  simp only[dsT]
  split <;> simp
theorem iCompO (l:List Int) (hl:l.length≤1048576):ACall prog 226 [.sl 1000 0 l.length] [(1000,kin l)] (fun r L'=>r=.sl 1000 0 (dsL l).length∧L'=[(1000,kin (dsL l))]):=by
 refine ACall.weak (R:=fun r L'=>∃ L2,wkL L' L2∧unc r=.sl 1000 0 (dsL l).length∧L2=[(1000,kin (dsL l))]) ?_ (fun r L' h=>h)
 refine acx func226 [(6,[zI 0,zI 1,zJ 2 [1000] [],zJ 3 [1000] [],zJ 4 [] [1000],zJ 5 [] [1000],zJ 6 [] [1000],zJ 7 [1000] [1000],zJ 8 [1000] [1000],zI 9]),(11,[zI 0,zI 1,zJ 2 [1000] [],zJ 3 [1000] [],zJ 4 [] [1000],zJ 5 [] [1000],zJ 6 [] [1000],zJ 7 [1000] [1000],zJ 8 [1000] [1000],zI 9])] ntmps226 rfl rfl rfl ?_
 by_cases h0:l.length<2
 ·have hd:dsL l=l:=by
   match l with
   | []=>rfl
   | [_]=>rfl
   | _::_::_=>simp at h0;omega
  rw[hd]
  simp -implicitDefEqProofs [show(l.length:Int)<2 by omega]
  exact⟨[(1000,kin l)],by simp,by simpa [kin,List.take_of_length_le]using wkL.cons 1000 (kin l) l.length .nil⟩
 ·simp -implicitDefEqProofs [show ¬ (l.length:Int)<2 by omega]
  refine ev_lo (X:=Nat) [0,3] [(1000,1000)] (fun k=>[(3,.int .i64 k)]) (fun x=>[(1000,kin l)]) (fun k=>l.length-k) (fun k=>1≤k∧k≤l.length∧dsL (l.take k)=l.take k) 1 ⟨by omega,by omega,?_⟩ ?_ (he:=by simp[obOf,kin])
  ·match l with
   | []=>rfl
   | _::_=>rfl
  rintro k ⟨hk1,hk,hd⟩
  have e1:=i64w ((k:Int)-1) (by omega) (by omega)
  have e2:=i64w ((k:Int)+1) (by omega) (by omega)
  by_cases hlt:k<l.length
  ·obtain⟨m,hm⟩:∃ m,k=m+1:=⟨k-1,by omega⟩
   obtain⟨p,hp⟩:∃ z,l[m]?=some z:=⟨_,List.getElem?_eq_getElem (by omega)⟩
   obtain⟨x,hx⟩:∃ z,l[k]?=some z:=⟨_,List.getElem?_eq_getElem (by omega)⟩
   have hp':=(List.getElem?_eq_some_iff.1 hp).2
   have hx':=(List.getElem?_eq_some_iff.1 hx).2
   have hml:m<l.length:=by omega
   have e1:IntKind.i64.wrap ((k:Int)-1)=(m:Int):=by rw[i64w _ (by omega) (by omega)];omega
   have hst:=dsL_step hp (hm ▸ hx)
   rw[← hm,show m+2=k+1 by omega]at hst
   by_cases hxp:x=p
   ·simp -implicitDefEqProofs [obOf,hlt,hml,show(k:Int)<l.length by omega,e1,kin,qad,hp,hx,hp',hx',hxp]
    rw[if_pos hxp,hd]at hst
    refine⟨hk,?_⟩
    have hlt2:(l.take k).length=k:=by simp;omega
    refine ev_lo (X:=Nat×List Int×List Int) [0,3,4,5] [(1000,1000)] (fun y=>[(3,.int .i64 (y.2.1.length:Int)),(4,.sl 1000 k (l.length-k)),(5,.int .i64 y.1)]) (fun y=>[(1000,kin y.2.2)]) (fun y=>l.length-k-y.1) (fun y=>1≤y.1∧k+y.1≤l.length∧y.2.1.length<k+y.1∧dsL (l.take (k+y.1))=y.2.1∧y.2.2.length=l.length∧y.2.2.take y.2.1.length=y.2.1∧y.2.2.drop (k+y.1-1)=l.drop (k+y.1-1)) (1,l.take k,l) ⟨by simp,by simp only;omega,by simp only;omega,hst,rfl,by rw[hlt2],rfl⟩ ?_ (he:=by simp only[hlt2];simp[obOf,kin])
    rintro⟨j,F,L⟩ ⟨hj1,hj,hF,hd,hL,hLt,hLd⟩
    simp only at hj1 hj hF hd hL hLt hLd
    clear hp hx hp' hx' hxp hst hm hml e1
    have e2:=i64w ((j:Int)+1) (by omega) (by omega)
    have e3:=i64w ((F.length:Int)+1) (by omega) (by omega)
    by_cases hlt:j<l.length-k
    ·obtain⟨m,hm⟩:∃ m,j=m+1:=⟨j-1,by omega⟩
     obtain⟨p,hp⟩:∃ z,l[k+m]?=some z:=⟨_,List.getElem?_eq_getElem (by omega)⟩
     obtain⟨x,hx⟩:∃ z,l[k+j]?=some z:=⟨_,List.getElem?_eq_getElem (by omega)⟩
     have hst:=dsL_step hp (by rw[show k+m+1=k+j by omega];exact hx)
     rw[show k+m+2=k+(j+1) by omega,show k+m+1=k+j by omega,hd]at hst
     have hLat:∀ i,k+m≤i→L[i]?=l[i]?:=fun i hi=>by
      have:=congrArg (fun l:List Int=>l[i-(k+m)]?) hLd
      simp only[List.getElem?_drop]at this
      rw[show k+j-1+(i-(k+m))=i by omega]at this
      exact this
     have hp2:=hLat (k+m) (by omega)
     have hx2:=hLat (k+j) (by omega)
     rw[hp]at hp2
     rw[hx]at hx2
     have hp':=(List.getElem?_eq_some_iff.1 hp2).2
     have hx':=(List.getElem?_eq_some_iff.1 hx2).2
     have hml:m<l.length-k:=by omega
     have h5:k+m<l.length:=by omega
     have h6:k+j<l.length:=by omega
     have e1:IntKind.i64.wrap ((j:Int)-1)=(m:Int):=by rw[i64w _ (by omega) (by omega)];omega
     have hnd:L.drop (k+(j+1)-1)=l.drop (k+(j+1)-1):=by
      rw[show k+(j+1)-1=(k+j-1)+1 by omega,← List.drop_drop,← List.drop_drop,hLd]
     by_cases hxp:x=p
     ·simp -implicitDefEqProofs [obOf,hlt,hml,h5,h6,hL,show(j:Int)<((l.length-k:Nat):Int) by omega,e1,kin,qad,hp2,hx2,hp',hx',hxp,e2]
      rw[if_pos hxp]at hst
      exact nx (j+1,F,L) [(1000,1000)] ⟨by simp,by simp only;omega,by simp only;omega,hst,hL,hLt,hnd⟩ (by simp only;omega) (h4:=by simp[obOf,e2,kin])
     ·rw[if_neg hxp]at hst
      obtain⟨z,hz⟩:∃ z,L[F.length]?=some z:=⟨_,List.getElem?_eq_getElem (by omega)⟩
      simp -implicitDefEqProofs [obOf,hlt,hml,h5,h6,hL,show(j:Int)<((l.length-k:Nat):Int) by omega,e1,kin,qad,hp2,hx2,hp',hx',hxp,e2,e3]
      refine⟨by omega,nx (j+1,F++[x],L.set F.length x) [(1000,1000)] ⟨by simp,by simp only;omega,by simp;omega,hst,by simp[hL],?_,?_⟩ (by simp only;omega) (h4:=by simp[obOf,e2,e3,kin,hz,qad])⟩
      ·simp only[List.length_append,List.length_cons,List.length_nil]
       rw[List.take_add_one,List.getElem?_set_self (by omega),List.take_set_of_le (by omega),hLt]
       rfl
      ·simp only
       rw[List.drop_set_of_lt (by omega),hnd]
    ·have hje:k+j=l.length:=by omega
     rw[hje,List.take_length]at hd
     subst hd
     generalize hF2:dsL l=F at *
     simp -implicitDefEqProofs [obOf,hL,kin,show ¬ (j:Int)<((l.length-k:Nat):Int) by omega]
     have e:=spl_take (L.map qad) F.length (List.replicate (l.length-F.length) [.int .i64 0]) (by simp;omega)
     refine⟨by omega,by omega,by omega,[(1000,⟨1,spl (L.map qad) F.length (List.replicate (l.length-F.length) [.int .i64 0])⟩)],by simp[qad],?_⟩
     have h:=wkL.cons 1000 ⟨1,spl (L.map qad) F.length (List.replicate (l.length-F.length) [.int .i64 0])⟩ F.length .nil
     have e2:(spl (L.map qad) F.length (List.replicate (l.length-F.length) [.int .i64 0])).take F.length=F.map qad:=by
      simp only[spl]
      rw[List.take_append_of_le_length (by simp;omega),List.take_take,Nat.min_self,← List.map_take,hLt]
     simp only[e2]at h
     exact h
   ·simp -implicitDefEqProofs [obOf,hlt,hml,show(k:Int)<l.length by omega,e1,kin,qad,hp,hx,hp',hx',hxp,e2]
    rw[if_neg hxp,hd]at hst
    exact nx (k+1) [(1000,1000)] ⟨by omega,by omega,by rw[hst,takeS hx]⟩ (by omega) (h4:=by simp[obOf,e2,kin])
  ·have hie:k=l.length:=by omega
   subst hie
   rw[List.take_length]at hd
   rw[hd]
   simp -implicitDefEqProofs [obOf]
   exact⟨[(1000,kin l)],by simp,by simpa [kin,List.take_of_length_le]using wkL.cons 1000 (kin l) l.length .nil⟩
def srt (l:List Int):List Int:=l.mergeSort fun x y=>decide (x≤y)
theorem srt_len (l:List Int):(srt l).length=l.length:=by simp[srt,List.length_mergeSort]
theorem int_rel2 {w:World} {Z:Addr→Prop} {γ:Gm} {k:IntKind} {n:Int} {v:Value} (h:AVRel w Z γ (.int k n) v):v=.int k n:=by cases h;rfl
theorem iSortO (l:List Int) (hne:l≠[]) (hl:l.length≤1048576):ACall prog 225 [.sl 1000 0 l.length] [(1000,kin l)] (fun r L'=>r=.tup []∧L'=[(1000,kin (srt l))]):=by
 intro w Z γ vs hv hh hg
 obtain⟨x,rfl,h1⟩:=crel1 hv
 have hpos:0<l.length:=List.length_pos_iff.2 hne
 generalize hn:l.length=n at h1
 have key:∃ (r:Rg) (cap:Nat),γ 1000=some r∧x=.slice (some (r.A.at 0)) l.length cap∧l.length≤cap:=by
  cases h1 with
  | sl _ id e len cap r hg2 hl2 hc=>exact⟨r,cap,hg2,by rw[hn];simp,by omega⟩
  | sl0=>omega
 obtain⟨r,cap,hr,rfl,hcap⟩:=key
 obtain⟨r',hr',hor⟩:=hh.obj 1000 (kin l) (by simp)
 rw[hr]at hr'
 injection hr' with hr'
 subst hr'
 have hfit:=hor.fit
 simp only[kin,List.length_map,Nat.mul_one]at hfit
 have hcell:∀ j,j<l.length→w.cell? (r.A.at j)=some (.int .i64 (l.toArray[j]!))∧w.frozen? (r.A.at j)=false:=fun j hj=>by
  obtain⟨v,hv,hrel⟩:=hor.cell j 0 (by simpa [kin]using hj) (by simp[kin])
  have e:(((kin l).els.getD j []).getD 0 .top)=.int .i64 (l.toArray[j]!):=by
   simp[kin,List.getD,hj,qad]
  rw[e]at hrel
  have:=int_rel2 hrel
  subst this
  refine⟨by simpa [kin]using hv,(hor.live j (by omega)).2⟩
 have hH:Sort.Holds (Value.int .i64) w r.A.block r.A.off l.toArray:=fun j hj=>hcell j (by simpa using hj)
 have hbk:r.A.block<w.heap.size:=World.block_lt_of_cell? w (r.A.at 0) (hcell 0 hpos).1
 refine .inl ⟨by kernel_rfl,?_⟩
 have hcall:=Tryz.slices_Sort_int r.A.block r.A.off cap l w hH hbk (by omega)
 refine hcall.mono ?_
 rintro e w' ⟨rfl,k,os,rfl⟩
 have hHa:Sort.Holds (Value.int .i64) (Sort.ahead w k) r.A.block r.A.off l.toArray:=hH
 have hput:Sort.putRow (Value.int .i64) (Sort.ahead w k) r.A.block r.A.off (srt l).toArray=(Sort.ahead w k).setCells r.A.block (r.A.off+0) ((srt l).map (Value.int .i64)):=by
  have h2:=Lib.putRow_setCells (Value.int .i64) (Sort.ahead w k) r.A.block r.A.off (srt l) l.toArray 0 (by simp[srt_len])
  rw[Sort.putRow_self _ _ _ _ _ hHa]at h2
  rw[h2]
  congr 1
  apply Array.ext_getElem?
  intro j
  rw[Lib.lay_get? _ _ _ _ (by simp[srt_len])]
  simp only[Nat.zero_le,true_and,Nat.zero_add,Nat.sub_zero,srt_len,List.getElem?_toArray]
  split
  ·rfl
  ·rw[List.getElem?_eq_none (by rw[srt_len];omega),List.getElem?_eq_none (by omega)]
 rw[show(l.mergeSort fun x y=>decide (x≤y))=srt l from rfl,hput]
 have ha:HRel (Sort.ahead w k) Z γ (hpOf [(1000,kin l)]):=hh.same (fun p _=>⟨rfl,rfl⟩) (Nat.le_refl _)
 have hu:upd (hpOf [(1000,kin l)]) 1000 (some (kin (srt l)))=hpOf [(1000,kin (srt l))]:=by
  funext i
  by_cases h:i=1000
  ·subst h;simp[upd]
  ·rw[qaw _ _ h];simp[h]
 obtain⟨hw1,hw2⟩:=ha.write (id:=1000) (o:=kin l) (o':=kin (srt l)) (r:=r) (by simp) hr 0 ((srt l).map (Value.int .i64)) (by simp[srt_len];omega) rfl (by simp[kin,srt_len];omega) (fun e he=>by
  simp only[kin,List.length_map]at he
  simp[kin,List.getD,he,qad]) (fun e j he hj=>by
   simp only[kin,List.length_map]at he hj
   have hj0:j=0:=by omega
   subst hj0
   refine⟨.int .i64 (srt l)[e],?_,.inl ⟨by simp,by simp[kin];omega,by simp[kin,he]⟩⟩
   have e2:((kin (srt l)).els.getD e []).getD 0 .top=.int .i64 (srt l)[e]:=by simp[kin,List.getD,he,qad]
   rw[e2]
   exact .int _ _ _)
 rw[hu]at hw1
 have hsz:=size_setCells r.A.block ((srt l).map (Value.int .i64)) (r.A.off+0) (Sort.ahead w k)
 generalize hW:(Sort.ahead w k).setCells r.A.block (r.A.off+0) ((srt l).map (Value.int .i64))=W at *
 have hsz':W.heap.size=w.heap.size:=hsz
 have hF1:Fr (fun p=>p.block=r.A.block∧r.A.off+0≤p.off∧p.off<r.A.off+0+((srt l).map (Value.int .i64)).length) (Sort.ahead w k) W:=hW ▸ Fr.setCells r.A.block ((srt l).map (Value.int .i64)) (r.A.off+0) (Sort.ahead w k)
 have hF0:Fr (fun p=>p.block=r.A.block∧r.A.off+0≤p.off∧p.off<r.A.off+0+((srt l).map (Value.int .i64)).length) w W:=⟨hF1.os,hF1.tape,hF1.output,hF1.size,hF1.blk⟩
 refine⟨.tuple #[],.tup [],[(1000,kin (srt l))],Z,γ,rfl,⟨rfl,rfl⟩,.tup _ _ _ rfl (fun j hj=>by simp at hj),?_,?_,fun _ h=>h,fun p h=>.inl h,?_,fun _ _ _=>rfl⟩
 ·exact hw1.same (fun p hp=>⟨Sort.cell?_grow _ _ _ hp,Sort.frozen?_grow _ _ _ hp⟩) (by simp[Sort.grow])
 ·refine hF0.trans (G:=fun _=>False) ⟨rfl,rfl,rfl,by simp[Sort.grow],fun b hb=>.inl (Sort.heap_grow_old _ _ hb)⟩ (fun i o hp=>?_) (fun _ _ _ h=>h.elim)
  refine⟨1000,kin l,r,by simp,hr,?_⟩
  simp only[List.length_map,srt_len]at hp
  exact⟨hp.1,by have:=hp.2.1;simp only at this ⊢;omega,by have:=hp.2.2;simp only at this ⊢;omega,rfl⟩
 ·intro id o rg h1 h2 p hp
  by_cases h:id=1000
  ·subst h
   exact .inr ⟨1000,kin l,rg,by simp,h2,hp⟩
  ·simp[h]at h1
theorem up_ext:∀ {a b:List Int},a.Pairwise (· < ·)→b.Pairwise (· < ·)→(∀ x,x∈a↔x∈b)→a=b
 | [],[],_,_,_=>rfl
 | [],y::b,_,_,h=>absurd ((h y).2 (by simp)) (by simp)
 | x::a,[],_,_,h=>absurd ((h x).1 (by simp)) (by simp)
 | x::a,y::b,h1,h2,h=>by
  rw[List.pairwise_cons]at h1 h2
  have hxy:x=y:=by
   rcases List.mem_cons.1 ((h x).1 (by simp))with e | e
   ·exact e
   ·rcases List.mem_cons.1 ((h y).2 (by simp))with e2 | e2
    ·exact e2.symm
    ·have:=h1.1 y e2;have:=h2.1 x e;omega
  subst hxy
  rw[up_ext h1.2 h2.2 fun z=>⟨fun hz=>?_,fun hz=>?_⟩]
  ·rcases List.mem_cons.1 ((h z).1 (List.mem_cons_of_mem _ hz))with e | e
   ·have:=h1.1 z hz;omega
   ·exact e
  ·rcases List.mem_cons.1 ((h z).2 (List.mem_cons_of_mem _ hz))with e | e
   ·have:=h2.1 z hz;omega
   ·exact e
theorem plP_split:∀ (l:List Int) (a:Int),(∀ x∈l.take (plP l a),x<a)∧(l.Pairwise (· < ·)→¬ a∈l→∀ x∈l.drop (plP l a),a<x)
 | [],a=>by simp[plP]
 | y::r,a=>by
  obtain⟨h1,h2⟩:=plP_split r a
  by_cases h:y<a
  ·have e:plP (y::r) a=plP r a+1:=by simp[plP,h]
   rw[e]
   refine⟨fun x hx=>?_,fun hp hn=>?_⟩
   ·simp only[List.take_succ_cons,List.mem_cons]at hx
    rcases hx with rfl | hx
    ·exact h
    ·exact h1 x hx
   ·rw[List.pairwise_cons]at hp
    simpa using h2 hp.2 (fun hm=>hn (List.mem_cons_of_mem _ hm))
  ·have e:plP (y::r) a=0:=by simp[plP,h]
   rw[e]
   refine⟨by simp,fun hp hn x hx=>?_⟩
   rw[List.pairwise_cons]at hp
   have hy:y≠a:=fun e=>hn (by simp[e])
   simp only[List.drop_zero,List.mem_cons]at hx
   rcases hx with rfl | hx
   ·omega
   ·have:=hp.1 x hx;omega
theorem addB_up {l:List Int} (h:l.Pairwise (· < ·)) (a:Int):(addB l a).Pairwise (· < ·)∧∀ x,x∈addB l a↔x∈l∨(x=a∧13≤a):=by
 unfold addB
 split
 ·rename_i hc
  refine⟨h,fun x=>⟨.inl,fun hx=>?_⟩⟩
  rcases hx with hx | ⟨rfl,h13⟩
  ·exact hx
  ·rcases hc with hc | hc
   ·omega
   ·simpa using hc
 ·rename_i hc
  have hn:¬ a∈l:=fun hm=>hc (.inr (by simpa using hm))
  have h13:13≤a:=by
   have:¬ a<13:=fun h=>hc (.inl h)
   omega
  obtain⟨h1,h2⟩:=plP_split l a
  have h2:=h2 h hn
  have hs:=List.take_append_drop (plP l a) l
  have hp:(l.take (plP l a)++l.drop (plP l a)).Pairwise (· < ·):=by rw[hs];exact h
  rw[List.pairwise_append]at hp
  refine⟨?_,fun x=>?_⟩
  ·rw[List.pairwise_append,List.pairwise_cons]
   refine⟨hp.1,⟨h2,hp.2.1⟩,fun x hx y hy=>?_⟩
   rcases List.mem_cons.1 hy with rfl | hy
   ·exact h1 x hx
   ·exact hp.2.2 x hx y hy
  ·have:x∈l↔x∈l.take (plP l a)∨x∈l.drop (plP l a):=by rw[← List.mem_append,hs]
   rw[this]
   simp only[List.mem_append,List.mem_cons]
   constructor
   ·rintro(h | rfl | h)
    ·exact .inl (.inl h)
    ·exact .inr ⟨rfl,h13⟩
    ·exact .inl (.inr h)
   ·rintro((h | h) | ⟨rfl,_⟩)
    ·exact .inl h
    ·exact .inr (.inr h)
    ·exact .inr (.inl rfl)
theorem addsB_up:∀ (bs:List Int) {l:List Int},l.Pairwise (· < ·)→(addsB l bs).Pairwise (· < ·)∧∀ x,x∈addsB l bs↔x∈l∨(x∈bs∧13≤x)
 | [],l,h=>⟨h,fun x=>by simp[addsB]⟩
 | a::r,l,h=>by
  obtain⟨h1,h2⟩:=addB_up h a
  obtain⟨h3,h4⟩:=addsB_up r h1
  rw[addsB_cons]
  refine⟨h3,fun x=>?_⟩
  rw[h4,h2]
  simp only[List.mem_cons]
  constructor
  ·rintro((h | ⟨rfl,h⟩) | ⟨h,h'⟩)
   ·exact .inl h
   ·exact .inr ⟨.inl rfl,h⟩
   ·exact .inr ⟨.inr h,h'⟩
  ·rintro(h | ⟨rfl | h,h'⟩)
   ·exact .inl (.inl h)
   ·exact .inl (.inr ⟨rfl,h'⟩)
   ·exact .inr ⟨h,h'⟩
theorem dsT_up:∀ (l:List Int) (p:Int),(p::l).Pairwise (·≤·)→(p::dsT p l).Pairwise (· < ·)∧∀ x,x∈p::dsT p l↔x∈p::l
 | [],p,_=>by simp[dsT]
 | a::r,p,h=>by
  rw[List.pairwise_cons]at h
  obtain⟨h1,h2⟩:=dsT_up r a h.2
  simp only[dsT]
  split
  ·rename_i e
   subst e
   refine⟨h1,fun x=>?_⟩
   rw[h2];simp
  ·rename_i e
   have hpa:=h.1 a (by simp)
   refine⟨?_,fun x=>?_⟩
   ·rw[List.pairwise_cons]
    refine⟨fun y hy=>?_,h1⟩
    have hy2:=(h2 y).1 hy
    rcases List.mem_cons.1 hy2 with rfl | hy2
    ·omega
    ·rw[List.pairwise_cons]at h
     have:=h.2.1 y hy2
     omega
   ·have:=h2 x
    simp only[List.mem_cons]at this ⊢
    rw[this]
theorem dsL_up {l:List Int} (h:l.Pairwise (·≤·)):(dsL l).Pairwise (· < ·)∧∀ x,x∈dsL l↔x∈l:=by
 cases l with
 | nil=>simp[dsL]
 | cons a r=>exact dsT_up r a h
def rawL (c:CO) (root:Int):List Int:=root::(c.ddt.map DE.ea++(c.sets.map (fun s=>s.home.pa)++c.parts.map PT.pa))
theorem reach_law (c:CO) (root:Int):dsL (srt (hiL (rawL c root)))=reachB c root:=by
 have hs:(srt (hiL (rawL c root))).Pairwise (·≤·):=by
  have:=List.pairwise_mergeSort (le:=fun x y:Int=>decide (x≤y)) (fun a b c h1 h2=>by simp at *;omega) (fun a b=>by simp;omega) (hiL (rawL c root))
  simpa [srt]using this
 obtain⟨h1,h2⟩:=dsL_up hs
 have h0:([]:List Int).Pairwise (· < ·):=.nil
 obtain⟨a1,a2⟩:=addB_up h0 root
 obtain⟨b1,b2⟩:=addsB_up (c.ddt.map DE.ea) a1
 obtain⟨c1,c2⟩:=addsB_up (c.sets.map fun s=>s.home.pa) b1
 obtain⟨d1,d2⟩:=addsB_up (c.parts.map PT.pa) c1
 refine up_ext h1 d1 fun x=>?_
 rw[h2]
 show _↔x∈addsB (addsB (addsB (addB [] root) (c.ddt.map DE.ea)) (c.sets.map fun s=>s.home.pa)) (c.parts.map PT.pa)
 rw[d2,c2,b2,a2]
 have:x∈srt (hiL (rawL c root))↔x∈rawL c root∧13≤x:=by
  rw[srt,List.mem_mergeSort,hiL,List.mem_filter]
  simp[loB]
 rw[this]
 simp only[rawL,List.mem_cons,List.mem_append,List.not_mem_nil,false_or]
 grind
theorem reach_ne (c:CO) (root:Int) (h:13≤root):srt (hiL (rawL c root))≠[]∧hiL (rawL c root)≠[]:=by
 have:root∈hiL (rawL c root):=by simp[hiL,rawL,loB];omega
 refine⟨fun e=>?_,fun e=>by rw[e]at this;simp at this⟩
 have h2:root∈srt (hiL (rawL c root)):=by rw[srt,List.mem_mergeSort];exact this
 rw[e]at h2
 simp at h2
@[simp] theorem renL_intRow2 {α:Type} (ρ:Nat→Option Plc) (f:α→Int):renL ρ ∘ qad ∘ f=qad ∘ f:=by funext x;simp[qad]
theorem iReachO (c:CO) (h:CoT c) (hc:qaj c=true) (root:Int) (hroot:13≤root):ACall prog 122 [.agg c.row,.int .i64 root] [] (fun r L'=>r=.sl 900 0 (reachB c root).length∧L'=[(900,kin (reachB c root))]):=by
 obtain⟨hm,k1,k2,k3,k4,k5,k6,k7⟩:=qcc hc
 rw[← reach_law]
 obtain⟨n1,n2⟩:=reach_ne c root hroot
 have c0:=iCoreOk c h
 rw[hc]at c0
 simp only[CO.row]at c0
 refine acx func122 [] ntmps122 rfl rfl rfl ?_
 simp -implicitDefEqProofs [CO.row]
 refine c0.call ?_
 simp -implicitDefEqProofs [CO.row]
 refine ev_lo (X:=Nat) [2,5,18,19,20] [(2,2),(16,900)] (fun i=>[(5,.sl 900 0 (1+i)),(20,.int .i64 i)]) (fun i=>[(2,⟨7,[c.row]⟩),(900,kin (root::(c.ddt.take i).map DE.ea))]) (fun i=>c.ddt.length-i) (fun i=>i≤c.ddt.length) 0 (by simp) ?_ (he:=by simp[obOf,kin,CO.row,qad])
 intro i hi
 cases hr:c.ddt.drop i with
 | nil =>
  have:=dropn hr
  have hie:i=c.ddt.length:=by omega
  subst hie
  rw[List.take_length]
  simp -implicitDefEqProofs [obOf,CO.row]
  refine ev_lo (X:=Nat) [2,5,31,32,33] [(2,2),(900,900)] (fun i=>[(5,.sl 900 0 (1+c.ddt.length+i)),(33,.int .i64 i)]) (fun i=>[(2,⟨7,[c.row]⟩),(900,kin (root::(c.ddt.map DE.ea++(c.sets.take i).map (fun s=>s.home.pa))))]) (fun i=>c.sets.length-i) (fun i=>i≤c.sets.length) 0 (by simp) ?_ (he:=by simp[obOf,kin,CO.row,qad])
  intro i hi
  cases hr:c.sets.drop i with
  | nil =>
   have:=dropn hr
   have hie:i=c.sets.length:=by omega
   subst hie
   rw[List.take_length]
   simp -implicitDefEqProofs [obOf,CO.row]
   refine ev_lo (X:=Nat) [2,5,45,46,47] [(2,2),(900,900)] (fun i=>[(5,.sl 900 0 (1+c.ddt.length+c.sets.length+i)),(47,.int .i64 i)]) (fun i=>[(2,⟨7,[c.row]⟩),(900,kin (root::(c.ddt.map DE.ea++(c.sets.map (fun s=>s.home.pa)++(c.parts.take i).map PT.pa))))]) (fun i=>c.parts.length-i) (fun i=>i≤c.parts.length) 0 (by simp) ?_ (he:=by simp[obOf,kin,CO.row,qad])
   intro i hi
   cases hr:c.parts.drop i with
   | nil =>
    have:=dropn hr
    have hie:i=c.parts.length:=by omega
    subst hie
    rw[List.take_length]
    have hraw:(root::(c.ddt.map DE.ea++(c.sets.map (fun s=>s.home.pa)++c.parts.map PT.pa)))=rawL c root:=rfl
    rw[hraw]
    have hlen:(rawL c root).length=1+c.ddt.length+c.sets.length+c.parts.length:=by simp[rawL];omega
    generalize rawL c root=raw at *
    simp -implicitDefEqProofs [obOf,CO.row]
    rw[← hlen]
    have h1:=hiL_le raw
    refine qab [(1000,.whole 900)] (by kernel_rfl) (iDelO raw (by omega)) (by simp) (by simp) (by simp[kin];exact qaa rfl (by simp[clR,qad])) (by simp) (by simp) ?_
    rintro r L' ⟨rfl,rfl⟩
    refine⟨[],⟨by simp,by simp,by simp,by simp,by simp⟩,?_⟩
    simp only[qae]
    simp -implicitDefEqProofs
    refine qab [(1000,.whole 900)] (by kernel_rfl) (iSortO (hiL raw) n2 (by omega)) (by simp) (by simp) (by simp[kin];exact qaa rfl (by simp[clR,qad])) (by simp) (by simp) ?_
    rintro r L' ⟨rfl,rfl⟩
    refine⟨[],⟨by simp,by simp,by simp,by simp,by simp⟩,?_⟩
    simp only[qae]
    simp -implicitDefEqProofs
    have h2:=srt_len (hiL raw)
    rw[← h2]
    refine qab [(1000,.whole 900)] (by kernel_rfl) (iCompO (srt (hiL raw)) (by omega)) (by simp) (by simp) (by simp[kin];exact qaa rfl (by simp[clR,qad])) (by simp) (by simp) ?_
    rintro r L' ⟨rfl,rfl⟩
    refine⟨[],⟨by simp,by simp,by simp,by simp,by simp⟩,?_⟩
    simp only[qae]
    simp -implicitDefEqProofs
   | cons e r =>
    obtain⟨g1,e0,e1,g3⟩:=dropc hr
    have e2:=i64w ((i:Int)+1) (by omega) (by omega)
    simp -implicitDefEqProofs [obOf,g1,e0,e1,PT.row,CO.row,kin]
    have ht:=tk1 (qad ∘ PT.pa) e1
    have hl:List.take (1+c.ddt.length+c.sets.length+i) ([AV.int IntKind.i64 root]::(List.map (qad ∘ DE.ea) c.ddt++(List.map (qad ∘ fun s=>s.home.pa) c.sets++List.take i (List.map (qad ∘ PT.pa) c.parts))))=[AV.int IntKind.i64 root]::(List.map (qad ∘ DE.ea) c.ddt++(List.map (qad ∘ fun s=>s.home.pa) c.sets++List.take i (List.map (qad ∘ PT.pa) c.parts))):=List.take_of_length_le (by simp;omega)
    refine⟨by omega,nx (i+1) [(2,2),(55,900)] (by omega) (h4:=?_)⟩
    simp[obOf,ht,hl,e2,CO.row,kin,← Nat.add_assoc]
    all_goals simp[qad]
  | cons e r =>
   obtain⟨g1,e0,e1,g3⟩:=dropc hr
   have h8:=h.m8 e (List.mem_of_getElem? e1)
   have e2:=i64w ((i:Int)+1) (by omega) (by omega)
   have hpa:=cs_hpa e h8
   have hpa':=(List.getElem?_eq_some_iff.1 hpa).2
   simp -implicitDefEqProofs [obOf,g1,e0,e1,CO.row,qas e h8,qbt e h8,hpa,hpa',kin]
   have ht:=tk1 (qad ∘ fun s:CS=>s.home.pa) e1
   have hl:List.take (1+c.ddt.length+i) ([AV.int IntKind.i64 root]::(List.map (qad ∘ DE.ea) c.ddt++List.take i (List.map (qad ∘ fun s=>s.home.pa) c.sets)))=[AV.int IntKind.i64 root]::(List.map (qad ∘ DE.ea) c.ddt++List.take i (List.map (qad ∘ fun s=>s.home.pa) c.sets)):=List.take_of_length_le (by simp;omega)
   refine⟨cs_ones e,by omega,nx (i+1) [(2,2),(42,900)] (by omega) (h4:=?_)⟩
   simp[obOf,ht,hl,e2,CO.row,kin,← Nat.add_assoc]
   all_goals simp[qad]
 | cons e r =>
  obtain⟨g1,e0,e1,g3⟩:=dropc hr
  have e2:=i64w ((i:Int)+1) (by omega) (by omega)
  simp -implicitDefEqProofs [obOf,g1,e0,e1,DE.row,CO.row,kin]
  have ht:=tk1 (qad ∘ DE.ea) e1
  have hl:List.take (1+i) ([AV.int IntKind.i64 root]::List.take i (List.map (qad ∘ DE.ea) c.ddt))=[AV.int IntKind.i64 root]::List.take i (List.map (qad ∘ DE.ea) c.ddt):=List.take_of_length_le (by simp;omega)
  refine⟨by omega,nx (i+1) [(2,2),(28,900)] (by omega) (h4:=?_)⟩
  simp[obOf,ht,hl,e2,CO.row,kin,← Nat.add_assoc]
  all_goals simp[qad]
end Go.Av.F
end
section
namespace Go.Av.F
open Go Go.Av Go.Proofs Go.Proofs.Tryz
def cmR (d:DK) (c:CO) (n j i3 i6:Nat):List AV:=[.sl 1001 0 d.s0.length,.sl 1002 0 d.s1.length,.sl i3 0 d.late.length,.int .i64 c.txg,.sl 1004 0 c.sets.length,.sl 1005 0 c.ddt.length,.sl i6 0 c.parts.length,.bool c.dirty,.sl 1007 0 c.safe.length,.int .i64 c.logn,.sl 1008 j (n-j),.nils,.nils,.nils,.nils,.nils,.nils]
def cmL (d:DK) (c:CO) (fr:List Int) (j i3 i6:Nat):List (Nat×Ob) :=
 [(1000,⟨17,[cmR d c fr.length j i3 i6]⟩),(1001,strOb d.s0),(1002,strOb d.s1),(i3,ltOb d.late),(1004,kcs c.sets),(1005,deOb c.ddt),(i6,kpt c.parts),(1007,kin c.safe),(1008,kin fr)]
def putQ (xs:List Nat) (D:DK) (c:CO) (fr:List Int) (j:Nat) (p:PT) (b:Bool) (r:AV) (L':List (Nat×Ob)):Prop:=∃ id,id∈xs∧r=.tup [.agg p.row,.bool b]∧L'=cmL D c fr j id 1006
theorem iPutO (d:DK) (hd:dOkB d=true) (c:CO) (fr:List Int) (j:Nat) (a:Int) (hj:fr[j]?=some a) (hfl:fr.length≤1048576) (text:List UInt8) (ht:text.length≤1000000) (htx:0≤c.txg∧c.txg<10000000) :
  ACall prog 322 [.ptr 1000 0 0,.str text] (cmL d c fr j 1003 1006)
   (fun r L'=>r=.tup [.agg (if (qaq d a text).2=true then blkToB a text (c.txg+1) else ⟨0,0,0⟩:PT).row,.bool (qaq d a text).2]∧L'=cmL (qaq d a text).1 c fr (if (qaq d a text).2=true then j+1 else j) 903 1006):=by
 have c1:=iBothO d hd a text (by omega)
 have c2:=iBlkToC a text (c.txg+1) (by simp[maxLen];omega)
 obtain⟨R,hR⟩:∃ R,qaq d a text=R:=⟨_,rfl⟩
 rw[hR]at c1 ⊢
 obtain⟨D,b⟩:=R
 have hjl:=(List.getElem?_eq_some_iff.1 hj).1
 have hj':=(List.getElem?_eq_some_iff.1 hj).2
 have e1:=i64w (c.txg+1) (by omega) (by omega)
 have key:ACall prog 322 [.ptr 1000 0 0,.str text] (cmL d c fr j 1003 1006)
   (putQ [18] D c fr (if b=true then j+1 else j) (if b=true then blkToB a text (c.txg+1) else ⟨0,0,0⟩) b):=by
  refine acx func322 [] ntmps322 rfl rfl rfl ?_ (hL:=by simp[cmL])
  simp -implicitDefEqProofs [cmL,cmR,kin,hj,hj',hjl,qad]
  refine⟨by omega,?_⟩
  refine qab [(1000,.sub 1000 0 0 3),(1001,.whole 1001),(1002,.whole 1002),(1003,.whole 1003)] (by kernel_rfl) c1 (by simp) (by simp) (by simp[dskL,dskA];exact⟨⟨_,_,rfl,rfl,by simp,by simp,rfl,rfl,by simp⟩,qaa rfl (qam _),qaa rfl (qam _),qaa rfl (clR_lt _)⟩) (by simp[dskL]) (by simp) ?_
  rintro r L' ⟨rfl,rfl⟩
  refine⟨[(903,18)],⟨by simp[dskL],by simp,by simp,by simp[dskL],by simp[dskL,dskA]⟩,?_⟩
  simp only[qae]
  simp -implicitDefEqProofs [dskL,dskA]
  cases b with
  | false =>
   simp -implicitDefEqProofs
   exact⟨cmL D c fr j 18 1006,by simp[cmL,cmR,kin],18,by simp,rfl,rfl⟩
  | true =>
   simp -implicitDefEqProofs
   refine⟨by omega,?_⟩
   rw[e1]
   refine c2.call ?_
   simp -implicitDefEqProofs
   exact⟨cmL D c fr (j+1) 18 1006,by simp[cmL,cmR,kin,Nat.sub_sub],18,by simp,rfl,rfl⟩
 refine key.can ?_
 rintro r L' ⟨id,hid,rfl,rfl⟩
 refine⟨[(1000,1000),(1001,1001),(1002,1002),(id,903),(1004,1004),(1005,1005),(1006,1006),(1007,1007),(1008,1008)],?_,?_,?_,?_,?_⟩
 all_goals
  simp only[List.mem_cons,List.not_mem_nil,or_false]at hid
  subst hid
 all_goals simp[cmL,cmR,obOf]
theorem iChunkO (l:List DE):ACall prog 324 [.sl 1000 0 l.length,.int .i64 6] [(1000,deOb l)]
  (fun r L'=>r=.fn 369 [.ptr 2 0 0,.ptr 3 0 0]∧L'=[(2,⟨1,[[.sl 1000 0 l.length]]⟩),(3,⟨1,[[.int .i64 6]]⟩),(1000,deOb l)]):=by
 refine acx func324 [] ntmps324 rfl rfl rfl ?_
 simp -implicitDefEqProofs
theorem bW_no {d:DK} (h:dOkB d=true) {a:Int} {t:List UInt8} (hf:(qaq d a t).2=false):(qaq d a t).1=d:=by
 have k1:=dWrite_ok h 0 a t
 unfold qaq at hf ⊢
 rw[if_neg (by simp[h])]at hf ⊢
 split
 ·rfl
 ·rename_i hn
  rw[if_neg hn]at hf
  split
  ·rename_i h2
   exact k1.2.2 h2
  ·rename_i h2
   rw[if_neg h2]at hf
   exfalso
   have hth:qbw d 0 a t=true:=by
    cases e:qbw d 0 a t with
    | true=>rfl
    | false=>exact absurd (by unfold qbl;rw[if_neg (by simp[h]),if_pos (.inl e)]) h2
   obtain⟨_,q2,q3⟩:=thereB_iff.1 hth
   have hX:(qbl d 0 a t).1=⟨d.s0,d.s1,d.late++[⟨0,a,t⟩]⟩:=by
    unfold qbl;rw[if_neg (by simp[h]),if_neg (by simp[hth];omega)]
   rw[hX]at k1 hf
   unfold qbl at hf
   rw[if_neg (by simp[k1.1]),if_neg (by
    rintro(e | e)
    ·rw[show qbw ⟨d.s0,d.s1,d.late++[⟨0,a,t⟩]⟩ 1 a t=true from thereB_iff.2 ⟨.inr rfl,q2,q3⟩]at e;cases e
    ·simp at e;omega)]at hf
   cases hf
theorem bW_late {d:DK} (h:dOkB d=true) {a:Int} {t:List UInt8} (ha:0≤a∧a<d.s0.length) (ht:t.length≤420) (hf:(qaq d a t).2=false):598<d.late.length:=by
 rcases Nat.lt_or_ge 598 d.late.length with hn | hn
 ·exact hn
 exfalso
 have hth:qbw d 0 a t=true:=thereB_iff.2 ⟨.inl rfl,ha,ht⟩
 have hX:qbl d 0 a t=(⟨d.s0,d.s1,d.late++[⟨0,a,t⟩]⟩,true):=by
  unfold qbl;rw[if_neg (by simp[h]),if_neg (by simp[hth];omega)]
 have k1:=dWrite_ok h 0 a t
 unfold qaq at hf
 rw[if_neg (by simp[h]),if_neg (by omega),hX]at hf
 rw[hX]at k1
 rw[if_neg (by simp)]at hf
 unfold qbl at hf
 rw[if_neg (by simp[k1.1]),if_neg (by
  rintro(e | e)
  ·rw[show qbw ⟨d.s0,d.s1,d.late++[⟨0,a,t⟩]⟩ 1 a t=true from thereB_iff.2 ⟨.inr rfl,ha,ht⟩]at e;cases e
  ·simp at e;omega)]at hf
 cases hf
theorem bW_stuck {d:DK} (h:dOkB d=true) (hn:598<d.late.length) (a:Int) (t:List UInt8):qaq d a t=(d,false):=by
 unfold qaq
 rw[if_neg (by simp[h]),if_pos hn]
theorem setsB_stuck {txg:Int} {d:DK} (h:dOkB d=true) (hn:598<d.late.length):∀ (l:List CS) (fr:List Int),(setsB txg l ⟨d,fr,false⟩).2.d=d∧(setsB txg l ⟨d,fr,false⟩).2.ok=false
 | [],fr=>⟨rfl,rfl⟩
 | s::q,fr=>by
  simp only[setsB]
  split
  ·simp only[rsPut,bW_stuck h hn,Bool.false_and]
   exact setsB_stuck h hn q _
  ·exact setsB_stuck h hn q fr
theorem ptsB_stuck {txg:Int} {d:DK} (h:dOkB d=true) (hn:598<d.late.length):∀ (l:List (List UInt8)) (fr:List Int),(ptsB txg l ⟨d,fr,false⟩).2.d=d∧(ptsB txg l ⟨d,fr,false⟩).2.ok=false
 | [],fr=>⟨rfl,rfl⟩
 | s::q,fr=>by
  simp only[ptsB,rsPut,bW_stuck h hn,Bool.false_and]
  exact ptsB_stuck h hn q _
theorem freeR_mem {c:CO}:∀ (k:Nat) (q:Int),∀ a∈freeR c k q,q≤a∧a<q+k
 | 0,q,a,h=>by simp[freeR]at h
 | k+1,q,a,h=>by
  simp only[freeR,List.mem_append]at h
  rcases h with h | h
  ·split at h
   ·simp only[List.mem_cons,List.not_mem_nil,or_false]at h
    omega
   ·simp at h
  ·have:=freeR_mem k (q+1) a h
   omega
theorem freeB_mem {c:CO} {n:Int} {a:Int} (h:a∈freeB c n):13≤a∧a<n:=by
 have:=freeR_mem _ _ a h
 omega
theorem blk_real {a b:Int} (t:List UInt8) (ha:13≤a∧a<120) (hb:0≤b∧b≤1000000):qbe (blkToB a t b)=true∧(blkToB a t b).pa=a:=by
 have hs:=smB_lt t
 have h1:ptOkB ⟨a,smB t,b⟩=true:=by
  unfold ptOkB
  rw[if_neg (by simp only;omega)]
  simp only[Bool.and_eq_true,decide_eq_true_eq]
  omega
 unfold blkToB
 rw[if_neg (by simp[h1];omega)]
 refine⟨?_,rfl⟩
 simp only[qbe,h1,Bool.true_and]
 simp;omega
theorem blk_ok (a:Int) (t:List UInt8) (b:Int):ptOkB (blkToB a t b)=true:=by
 unfold blkToB
 split
 ·rfl
 ·rename_i h
  cases e:ptOkB ⟨a,smB t,b⟩with
  | true=>rfl
  | false=>exact absurd (.inr e) h
theorem setsB_same (txg:Int):∀ (l:List CS) (r:RS),(setsB txg l r).1.map CS.map=l.map CS.map∧(setsB txg l r).1.map csB=l.map csB∧(l.all csOkB=true→(setsB txg l r).1.all csOkB=true)
 | [],r=>⟨rfl,rfl,fun _=>rfl⟩
 | s::q,r=>by
  simp only[setsB]
  split
  ·obtain⟨h1,h2,h3⟩:=setsB_same txg q (rsPut txg r (qbz s.map)).2
   refine⟨by simp[h1],by simp[h2];rfl,fun h=>?_⟩
   simp only[List.all_cons,Bool.and_eq_true]at h ⊢
   refine⟨?_,h3 h.2⟩
   have h4:=h.1
   simp only[csOkB,Bool.and_eq_true]at h4 ⊢
   exact⟨⟨h4.1.1,blk_ok _ _ _⟩,h4.2⟩
  ·obtain⟨h1,h2,h3⟩:=setsB_same txg q r
   refine⟨by simp[h1],by simp[h2],fun h=>?_⟩
   simp only[List.all_cons,Bool.and_eq_true]at h ⊢
   exact⟨h.1,h3 h.2⟩
theorem setsB_fr (txg:Int):∀ (l:List CS) (r:RS),(setsB txg l r).2.fr=r.fr.drop (dirtN l)
 | [],r=>by simp[setsB,dirtN]
 | s::q,r=>by
  simp only[setsB,dirtN,List.countP_cons]
  split
  ·rename_i h
   rw[setsB_fr txg q]
   simp only[rsPut,if_pos h,dirtN]
   rw[← List.drop_one,List.drop_drop,Nat.add_comm]
  ·rename_i h
   rw[setsB_fr txg q]
   simp only[if_neg h,dirtN]
   rfl
theorem ptsB_real (txg:Int) (hb:0≤txg∧txg≤1000000):∀ (l:List (List UInt8)) (r:RS),(∀ a∈r.fr,13≤a∧a<120)→l.length≤r.fr.length→(ptsB txg l r).1.all qbe=true∧(ptsB txg l r).1.length=l.length
 | [],r,_,_=>⟨rfl,rfl⟩
 | t::q,r,hr,hl=>by
  simp only[ptsB]
  obtain⟨a,fr,hf⟩:∃ a fr,r.fr=a::fr:=by
   cases h:r.fr with
   | nil=>rw[h]at hl;simp at hl
   | cons a fr=>exact⟨a,fr,rfl⟩
  have ih:=ptsB_real txg hb q (rsPut txg r t).2 (by simp only[rsPut,hf,List.tail_cons];exact fun x hx=>hr x (by rw[hf];simp[hx])) (by simp only[rsPut,hf,List.tail_cons];rw[hf]at hl;simpa using hl)
  refine⟨?_,by simp[ih.2]⟩
  rw[List.all_cons,ih.1,Bool.and_true]
  simp only[rsPut,hf,List.headD_cons]
  exact(blk_real t (hr a (by rw[hf];simp)) hb).1
theorem blkC_ok {d:DK} {c:CO} (hd:dOkB d=true) (h:CoT c) (hc:qaj c=true) (hf:needsB c≤(freeB c d.s0.length).length) (ht:c.txg<1000000):CoT (qai d c).2.1∧qaj (qai d c).2.1=true∧13≤(qai d c).2.2.pa:=by
 obtain⟨hm,k1,k2,k3,k4,k5,k6,k7⟩:=qcc hc
 obtain⟨g1,g2,g3,g4,_⟩:=dOk_len hd
 have hfm:∀ a∈freeB c d.s0.length,13≤a∧a<120:=fun a ha=>by
  have:=freeB_mem ha;omega
 have hS:=setsB_same (c.txg+1) c.sets ⟨d,freeB c d.s0.length,true⟩
 have hSf:=setsB_fr (c.txg+1) c.sets ⟨d,freeB c d.s0.length,true⟩
 have hSl:=setsB_len (c.txg+1) c.sets ⟨d,freeB c d.s0.length,true⟩
 have hSm:=setsB_mem (c.txg+1) c.sets ⟨d,freeB c d.s0.length,true⟩
 have hP8:=parts_cnt c.ddt.length c.ddt (Nat.le_refl _)
 unfold qai
 generalize setsB (c.txg+1) c.sets ⟨d,freeB c d.s0.length,true⟩=X at *
 obtain⟨cur,rs⟩:=X
 simp only at hS hSf hSl hSm ⊢
 have hrf:∀ a∈rs.fr,13≤a∧a<120:=fun a ha=>hfm a (by rw[hSf]at ha;exact List.mem_of_mem_drop ha)
 have hrl:rs.fr.length=(freeB c d.s0.length).length-dirtN c.sets:=by rw[hSf];simp
 obtain⟨Y,hY⟩:∃ Y,(if c.dirty=true then ptsB (c.txg+1) (partsT c.ddt) rs else (c.parts,rs))=Y:=⟨_,rfl⟩
 have hpr:∀ p∈c.parts,qbe p=true:=by
  simp only[qaj,Bool.and_eq_true,List.all_eq_true]at hc
  exact hc.1.1.1.2
 unfold needsB at hf
 have hYp:Y.1.all qbe=true∧Y.1.length≤8:=by
  subst hY
  split
  ·rename_i hdt
   rw[if_pos hdt]at hf
   have:=ptsB_real (c.txg+1) (by omega) (partsT c.ddt) rs hrf (by omega)
   refine⟨this.1,?_⟩
   rw[this.2]
   unfold partsT
   omega
  ·exact⟨List.all_eq_true.2 hpr,k3⟩
 have hYf:∃ a∈Y.2.fr.head?,13≤a∧a<120:=by
  have key:∀ (l:List (List UInt8)) (r:RS),(ptsB (c.txg+1) l r).2.fr=r.fr.drop l.length:=fun l=>by
   induction l with
   | nil=>intro r;simp[ptsB]
   | cons t q ih =>
    intro r
    simp only[ptsB,ih,rsPut,List.length_cons]
    rw[← List.drop_one,List.drop_drop,Nat.add_comm]
  have:∃ k,Y.2.fr=rs.fr.drop k∧k<rs.fr.length:=by
   subst hY
   split
   ·rename_i hdt
    rw[if_pos hdt]at hf
    exact⟨_,key _ _,by omega⟩
   ·rename_i hdt
    rw[if_neg hdt]at hf
    exact⟨0,by simp,by omega⟩
  obtain⟨k,e,hk⟩:=this
  refine⟨rs.fr[k],by rw[e];simp[List.head?_drop,hk],hrf _ (List.getElem_mem hk)⟩
 rw[hY]
 obtain⟨ps,rs'⟩:=Y
 simp only at hYp hYf ⊢
 have hb:=qaj c
 refine⟨⟨by simp only;have:=h.sets;omega,h.ddt,by simp only;omega,h.safe,fun s hs=>?_,fun s hs=>?_⟩,?_,?_⟩
 ·obtain⟨t,ht,e1,e2,e3,_⟩:=hSm s hs
  rw[e1];exact h.m8 t ht
 ·obtain⟨t,ht,e1,e2,e3,_⟩:=hSm s hs
  rw[e2,e3];exact h.nm t ht
 ·have e1:qbm cur=qbm c.sets:=by
   unfold qbm
   rw[List.flatMap_def,List.flatMap_def,hS.1]
  simp only[qaj,Bool.and_eq_true]at hc ⊢
  obtain⟨⟨⟨⟨⟨⟨⟨⟨⟨⟨⟨q1,q2⟩,q3⟩,q4⟩,q5⟩,q6⟩,q7⟩,q8⟩,q9⟩,q10⟩,q11⟩,q12⟩:=hc
  refine⟨⟨⟨⟨⟨⟨⟨⟨⟨⟨⟨q1,q2⟩,q3⟩,by simpa using hYp.2⟩,q5⟩,q6⟩,q7⟩,hS.2.2 q8⟩,hYp.1⟩,by rw[hS.2.1];exact q10⟩,?_⟩,?_⟩
  ·simp only[cntOkB,refsB,nnS,e1]at q11 ⊢
   exact q11
  ·simp only[sumOkB]at q12 ⊢
   rw[e1];exact q12
 ·obtain⟨a,ha,h1⟩:=hYf
  simp only[Option.mem_def]at ha
  have e:rs'.fr.headD 0=a:=by
   cases hx:rs'.fr with
   | nil=>rw[hx]at ha;simp at ha
   | cons y r=>rw[hx]at ha;simpa using ha
  simp only[rsPut,e]
  rw[(blk_real _ h1 (by omega)).2]
  exact h1.1
theorem ptsB_app (txg:Int) (t:List UInt8):∀ (l:List (List UInt8)) (r:RS),ptsB txg (l++[t]) r=((ptsB txg l r).1++[(rsPut txg (ptsB txg l r).2 t).1],(rsPut txg (ptsB txg l r).2 t).2)
 | [],r=>rfl
 | x::q,r=>by
  have:=ptsB_app txg t q (rsPut txg r x).2
  simp only[List.cons_append,ptsB,this]
theorem ptsB_app2 (txg:Int) (q:List (List UInt8)):∀ (l:List (List UInt8)) (r:RS),ptsB txg (l++q) r=((ptsB txg l r).1++(ptsB txg q (ptsB txg l r).2).1,(ptsB txg q (ptsB txg l r).2).2)
 | [],r=>rfl
 | x::l,r=>by
  have:=ptsB_app2 txg q l (rsPut txg r x).2
  simp only[List.cons_append,ptsB,this]
theorem ptsB_fr (txg:Int):∀ (l:List (List UInt8)) (r:RS),(ptsB txg l r).2.fr=r.fr.drop l.length
 | [],r=>by simp[ptsB]
 | t::q,r=>by
  simp only[ptsB,ptsB_fr txg q,rsPut,List.length_cons]
  rw[← List.drop_one,List.drop_drop,Nat.add_comm]
theorem ptsB_len (txg:Int):∀ (l:List (List UInt8)) (r:RS),(ptsB txg l r).1.length=l.length
 | [],r=>rfl
 | t::q,r=>by simp[ptsB,ptsB_len txg q]
theorem ptsB_late (txg:Int):∀ (l:List (List UInt8)) (r:RS),dOkB r.d=true→(∀ a∈r.fr,0≤a∧a<r.d.s0.length)→(∀ t∈l,t.length≤420)→r.ok=true→(ptsB txg l r).2.ok=false→598<(ptsB txg l r).2.d.late.length
 | [],r,_,_,_,h1,h2=>by simp only[ptsB]at h2;rw[h1]at h2;cases h2
 | t::q,r,hd,hf,ht,h1,h2=>by
  obtain⟨D,fr,o⟩:=r
  simp only at hd hf h1
  subst h1
  simp only[ptsB,rsPut,Bool.true_and]at h2 ⊢
  have ha:0≤fr.headD 0∧fr.headD 0<D.s0.length:=by
   cases fr with
   | nil=>have:=(dOk_len hd).1;simp;omega
   | cons a r=>exact hf a (by simp)
  have hbo:=bWrite_ok hd (fr.headD 0) t
  have hno:=bW_no hd (a:=fr.headD 0) (t:=t)
  have hlt:=bW_late hd ha (ht t (by simp))
  generalize qaq D (fr.headD 0) t=W at *
  obtain⟨E,b⟩:=W
  simp only at hbo hno hlt h2 ⊢
  cases b with
  | false =>
   have:=hno rfl
   subst this
   rw[(ptsB_stuck hd (hlt rfl) q fr.tail).1]
   exact hlt rfl
  | true =>
   refine ptsB_late txg q ⟨E,fr.tail,true⟩ hbo.1 (fun a h=>?_) (fun x hx=>ht x (by simp[hx])) rfl h2
   simp only
   rw[hbo.2]
   exact hf a (List.mem_of_mem_tail h)
theorem ptsB_dk (txg:Int):∀ (l:List (List UInt8)) (r:RS),dOkB r.d=true→dOkB (ptsB txg l r).2.d=true∧(ptsB txg l r).2.d.s0.length=r.d.s0.length
 | [],r,h=>⟨h,rfl⟩
 | t::q,r,h=>by
  have hbo:=bWrite_ok h (r.fr.headD 0) t
  have:=ptsB_dk txg q (rsPut txg r t).2 hbo.1
  simp only[ptsB]
  exact⟨this.1,this.2.trans hbo.2⟩
theorem partsN_rng:∀ (k:Nat) (l:List DE),l.length≤k→partsN k l=(List.range (qbf 6 l.length)).map fun i=>ddText ((l.drop (6 * i)).take 6)
 | 0,l,h=>by
  have:l=[]:=List.eq_nil_of_length_eq_zero (by omega)
  subst this
  rfl
 | k+1,l,h=>by
  simp only[partsN]
  split
  ·rename_i e
   subst e
   rfl
  ·rename_i e
   have hp:=List.length_pos_iff.2 e
   rw[partsN_rng k (l.drop 6) (by simp;omega)]
   have:qbf 6 l.length=qbf 6 (l.drop 6).length+1:=by simp only[qbf,List.length_drop];omega
   rw[this,List.range_succ_eq_map,List.map_cons,List.map_map]
   congr 1
   refine List.map_congr_left fun i _=>?_
   simp only[Function.comp_apply,List.drop_drop]
   rw[show 6+6 * i=6 * (i+1) by omega]
def chT (l:List DE) (i:Fin (qbf 6 l.length)):List UInt8:=ddText ((l.drop (6 * i)).take 6)
theorem partsT_fin (l:List DE):partsT l=(List.finRange (qbf 6 l.length)).map (chT l):=by
 unfold partsT
 rw[partsN_rng _ l (Nat.le_refl _)]
 apply List.ext_getElem?
 intro i
 by_cases h:i<qbf 6 l.length
 ·simp[h,chT]
 ·simp[h]
theorem mapText_len2 (m:List PT) (h8:m.length=8):(qbz m).length≤420:=by
 have hj:=join_len [32] 29 (m.map ptText) (fun x hx=>by
  obtain⟨n,hn,rfl⟩:=List.mem_map.1 hx
  exact ptText_len n)
 rw[mapText_join]
 simp only[List.length_map,h8]at hj
 split
 ·simp at hj;omega
 ·simp
def blkQ (B:RS×CO×PT) (fr:List Int) (r:AV) (L':List (Nat×Ob)):Prop:=∃ (i3 i6:Nat) (c':CO) (j:Nat) (p:PT),i3∈[39,77,101,903]∧i6∈[1006,906]∧r=.tup [.agg p.row,.bool B.1.ok]∧L'=cmL B.1.d c' fr j i3 i6 ∧
 (B.1.ok=true→c'=B.2.1∧p=B.2.2)
theorem blkB_stuck {txg:Int} {E:DK} (hE:dOkB E=true) (hn:598<E.late.length) (c:CO) (r:RS) (h1:r.d=E) (h2:r.ok=false) (T:List (List UInt8)) (t:List UInt8) :
  (rsPut txg (if c.dirty=true then ptsB txg T r else (c.parts,r)).2 t).2.d=E∧(rsPut txg (if c.dirty=true then ptsB txg T r else (c.parts,r)).2 t).2.ok=false:=by
 obtain⟨D,fr,o⟩:=r
 simp only at h1 h2
 subst h1 h2
 have h3:=ptsB_stuck (txg:=txg) hE hn T fr
 by_cases hd:c.dirty=true
 ·rw[if_pos hd]
  simp only[rsPut,h3.1,h3.2,Bool.false_and,bW_stuck hE hn,and_self]
 ·rw[if_neg hd]
  simp only[rsPut,Bool.false_and,bW_stuck hE hn,and_self]
def chS (c:CO) (cur:List CS) (F:List Int) (D:DK) (j:Nat) (ps:List PT):S :=
 ⟨mkT [(1,.ptr 1 0 0),(2,.ptr 2 0 0),(3,.ptr 3 0 0),(71,.fn 369 [.ptr 72 0 0,.ptr 73 0 0])],
  hpOf ((1,⟨1,[[.ptr 1000 0 0]]⟩)::(2,⟨3,[[.int .i64 0,.int .i64 0,.int .i64 0]]⟩)::(3,⟨1,[[.bool false]]⟩)::(72,⟨1,[[.sl 1005 0 c.ddt.length]]⟩)::(73,⟨1,[[.int .i64 6]]⟩)::cmL D ⟨c.txg,cur,c.ddt,ps,false,c.safe,c.logn⟩ F j 903 906),
  Us.of [1000,1001,1002,1003,1004,1005,1006,1007,1008,1,2,3,72,73,1000,1001,1002,903,1004,1005,906,1007,1008]⟩
def chL (c:CO) (cur:List CS) (F:List Int) (D:DK) (j:Nat) (ps:List PT) (i3 i6:Nat):List (Nat×Ob):=(1,⟨1,[[.ptr 1000 0 0]]⟩)::(2,⟨3,[[.int .i64 0,.int .i64 0,.int .i64 0]]⟩)::(3,⟨1,[[.bool false]]⟩)::cmL D ⟨c.txg,cur,c.ddt,ps,false,c.safe,c.logn⟩ F j i3 i6
def rdQ (c:CO) (cur:List CS) (F:List Int) (W:DK×Bool) (j:Nat) (ps:List PT) (p:PT) (e:Exit) (L':List (Nat×Ob)):Prop :=
 (e=.normal∧W.2=true∧L'=chL c cur F W.1 (j+1) (ps++[p]) 77 91) ∨
 (e=.ret∧W.2=false∧L'=chL c cur F W.1 j ps 77 906)
theorem iBlocksO (d:DK) (hd:dOkB d=true) (c:CO) (h:CoT c) (hc:qaj c=true) (hf:needsB c≤(freeB c d.s0.length).length) (ht:c.txg<1000000) :
  ACall prog 254 [.ptr 1000 0 0] (cmL d c (freeB c d.s0.length) 0 1003 1006) (blkQ (qai d c) (freeB c d.s0.length)):=by
 obtain⟨hm,k1,k2,k3,k4,k5,k6,k7⟩:=qcc hc
 obtain⟨g1,g2,g3,g4,_⟩:=dOk_len hd
 have hfl:=freeB_len c d.s0.length
 have hfm:∀ a∈freeB c d.s0.length,13≤a∧a<d.s0.length:=fun a ha=>freeB_mem ha
 obtain⟨X,hX⟩:∃ X,setsB (c.txg+1) c.sets ⟨d,freeB c d.s0.length,true⟩=X:=⟨_,rfl⟩
 obtain⟨B,hB⟩:∃ B,qai d c=B:=⟨_,rfl⟩
 rw[hB]
 unfold qai at hB
 simp only[hX]at hB
 unfold needsB at hf
 generalize hF:freeB c d.s0.length=F at *
 refine acx func254 [(6,[zJ 0 [1] [],zJ 1 [] [1],zJ 2 [] [1],zJ 3 [] [1],zJ 4 [1004] [1],⟨5,[],[1],[10],[]⟩,⟨6,[903,906,1000,1001,1002,1004,1005,1006,1007,1008],[],[10],[]⟩,zI 7,zI 8,zI 9,zJ 10 [] [1,1004],zI 11,zI 12]),(12,[zJ 0 [1] [],zJ 1 [1] [1],zJ 2 [] [1],zJ 3 [] [1],zJ 4 [] [1],zJ 5 [] [1],zI 6,zI 7,zI 8,zI 9]),(15,[zJ 0 [1] [],zJ 1 [] [1],⟨2,[1005],[1],[7],[]⟩,⟨3,[903,906,1000,1001,1002,1004,1005,1006,1007,1008],[],[7],[]⟩,zI 4,zI 5,zI 6,zJ 7 [] [1],zI 8,zI 9]),(18,[zJ 0 [1] [],zJ 1 [1] [1],zJ 2 [] [1],zJ 3 [] [1],zJ 4 [] [1],zJ 5 [1000] [1],zJ 6 [9] [1,1000],zJ 7 [] [1,1000],zJ 8 [] [1],zI 9,zI 10,zI 11,zI 12]),(19,[zJ 0 [1] [],zJ 1 [1] [1],zJ 2 [] [1],zJ 3 [] [1],zJ 4 [1000] [1],zJ 5 [906,1004,1005,1006,1007] [1],zJ 6 [903,906,1000,1001,1002,1004,1005,1006,1007,1008] [],zI 7,zI 8,zI 9,zI 10])] ntmps254 rfl rfl rfl ?_ (hL:=by simp[cmL])
 simp -implicitDefEqProofs [cmL,cmR]
 refine ev_lo (X:=Nat×List CS×DK×Nat) [1,2,3,16,17] [(1,1),(2,2),(3,3),(1000,1000),(1001,1001),(1002,1002),(1003,903),(1004,1004),(1005,1005),(1006,1006),(1007,1007),(1008,1008)] (fun x=>[(17,.int .i64 x.1)])
  (fun x=>(1,⟨1,[[.ptr 1000 0 0]]⟩)::(2,⟨3,[[.int .i64 0,.int .i64 0,.int .i64 0]]⟩)::(3,⟨1,[[.bool false]]⟩)::cmL x.2.2.1 ⟨c.txg,x.2.1,c.ddt,c.parts,c.dirty,c.safe,c.logn⟩ F x.2.2.2 903 1006) (fun x=>c.sets.length-x.1)
  (fun x=>x.1≤c.sets.length∧x.2.1.length=c.sets.length∧x.2.1.drop x.1=c.sets.drop x.1∧dOkB x.2.2.1=true∧x.2.2.1.s0.length=d.s0.length∧x.2.2.2+dirtN (c.sets.drop x.1)+(1+if c.dirty=true then (partsT c.ddt).length else 0)≤F.length ∧
   (x.2.1.take x.1++(setsB (c.txg+1) (c.sets.drop x.1) ⟨x.2.2.1,F.drop x.2.2.2,true⟩).1,(setsB (c.txg+1) (c.sets.drop x.1) ⟨x.2.2.1,F.drop x.2.2.2,true⟩).2)=X) (0,c.sets,d,0) ⟨by simp,rfl,rfl,hd,rfl,by simp only[List.drop_zero];omega,by simpa using hX⟩ ?_ (he:=by simp[obOf,cmL,cmR])
 rintro⟨i,cur,D,j⟩ ⟨hi,hcl,hcd,hok,hDl,hfr,hX2⟩
 simp only at hi hcl hcd hok hDl hfr hX2
 cases hr:c.sets.drop i with
 | nil =>
  have:=dropn hr
  rw[hr]at hX2 hfr
  have hie:i=c.sets.length:=by omega
  subst hie
  rw[List.take_of_length_le (by omega)]at hX2
  simp only[setsB,List.append_nil]at hX2
  subst hX2
  simp only at hB
  have hm8:∀ s∈cur,s.map.length=8∧s.name.length≤1048576∧s.frm.length≤1048576:=fun s hs=>by
   have hq:=setsB_mem (c.txg+1) c.sets ⟨d,F,true⟩ s (by rw[hX];exact hs)
   obtain⟨t,ht,e1,e2,e3,_⟩:=hq
   rw[e1,e2,e3]
   exact⟨h.m8 t ht,h.nm t ht⟩
  simp only[dirtN,List.countP_nil]at hfr
  simp -implicitDefEqProofs [obOf,cmL,cmR]
  refine⟨fun hdt=>?_,fun hdt=>?_⟩
  ·refine qab [(1000,.whole 1005)] (by kernel_rfl) (iChunkO c.ddt) (by simp) (by simp) (by simp;exact qaa rfl (qbh _)) (by simp) (by simp) ?_
   rintro r L' ⟨rfl,rfl⟩
   refine⟨[(2,72),(3,73)],⟨by simp,by simp,by simp,by simp,by simp⟩,?_⟩
   simp only[qae]
   simp -implicitDefEqProofs
   simp only[hdt,if_true]at hB hfr
   rw[partsT_fin]at hB hfr
   simp only[List.length_map,List.length_finRange]at hfr
   obtain⟨Y,hY⟩:∃ Y:List (Fin (qbf 6 c.ddt.length))→List PT×RS,(fun pre=>ptsB (c.txg+1) (pre.map (chT c.ddt)) ⟨D,F.drop j,true⟩)=Y:=⟨_,rfl⟩
   have hYe:∀ pre,Y pre=ptsB (c.txg+1) (pre.map (chT c.ddt)) ⟨D,F.drop j,true⟩:=fun pre=>by rw[← hY]
   have hYd:∀ pre,dOkB (Y pre).2.d=true∧(Y pre).2.d.s0.length=D.s0.length:=fun pre=>by
    rw[hYe];exact ptsB_dk _ _ _ hok
   have hYf:∀ pre,(Y pre).2.fr=F.drop (j+pre.length):=fun pre=>by
    rw[hYe,ptsB_fr,List.drop_drop];simp
   have hYs:∀ pre i,Y (pre++[i])=((Y pre).1++[(rsPut (c.txg+1) (Y pre).2 (chT c.ddt i)).1],(rsPut (c.txg+1) (Y pre).2 (chT c.ddt i)).2):=fun pre i=>by
    rw[hYe,hYe,List.map_append];exact ptsB_app _ _ _ _
   refine va_chunk (fun pre=>chS c cur F (Y pre).2.d (j+pre.length) (Y pre).1) chunkItC (by kernel_rfl) (by omega) (len:=c.ddt.length) (by omega) ?_ (fun pre=>by simp[chS,opd]) (k1:=72) (k2:=73) (b:=1005) (fun pre=>by simp[chS,cmL]) (fun pre=>by simp[chS,cmL]) (fun pre=>⟨_,by simp[chS,cmL];rfl,rfl⟩) ?_ ?_
   ·have hY0:Y []=([],⟨D,F.drop j,true⟩):=by rw[hYe];rfl
    rw[hY0]
    exact(sw_pht 906 3 (by simp)).trans ((sw_impc 1000 6 (sz:=17) (row:=[.sl 1001 0 D.s0.length,.sl 1002 0 D.s1.length,.sl 903 0 D.late.length,.int .i64 c.txg,.sl 1004 0 cur.length,.sl 1005 0 c.ddt.length,.nils,.bool false,.sl 1007 0 c.safe.length,.int .i64 c.logn,.sl 1008 j (F.length-j),.nils,.nils,.nils,.nils,.nils,.nils]) (by simp[hcl]) (by simp) (impA_sl0 906 0)).trans
     (sw_can [1,2,3,71] [(1,1),(2,2),(3,3),(72,72),(73,73),(1000,1000),(1001,1001),(1002,1002),(903,903),(1004,1004),(1005,1005),(906,906),(1007,1007),(1008,1008)] (by simp[qag]) (by simp[canon,obOf,chS,cmL,cmR,kpt,hcl])))
   ·intro pre i hpl
    obtain⟨a,ha⟩:∃ a,F[j+pre.length]?=some a:=⟨_,List.getElem?_eq_getElem (by omega)⟩
    have hfd:F.drop (j+pre.length)=a::F.drop (j+pre.length+1):=by rw[List.drop_eq_getElem?_toList_append,ha];rfl
    have hok':=(hYd pre).1
    have hDl':=(hYd pre).2
    have hstep:=hYs pre i
    have hfr':=hYf pre
    have hpsl:(Y pre).1.length=pre.length:=by rw[hYe,ptsB_len];simp
    have hil:6 * i.1<c.ddt.length:=by have:=i.2;unfold qbf at this;omega
    generalize Y pre=y at *
    obtain⟨ps,⟨D',fr',ok'⟩⟩:=y
    simp only at hok' hDl' hstep hfr' hpsl
    subst hfr'
    simp only[rsPut,hfd,List.headD_cons,List.tail_cons]at hstep
    have hbo:=bWrite_ok hok' a (chT c.ddt i)
    have hno:=bW_no hok' (a:=a) (t:=chT c.ddt i)
    have htl:(chT c.ddt i).length≤420:=by
     have:=ddText_len ((c.ddt.drop (6 * i)).take 6)
     unfold chT
     simp at this ⊢
     omega
    have hlt:=bW_late hok' (a:=a) (t:=chT c.ddt i) (by have:=hfm a (List.mem_of_getElem? ha);omega) htl
    have cp:=iPutO D' hok' ⟨c.txg,cur,c.ddt,ps,false,c.safe,c.logn⟩ F (j+pre.length) a ha (by omega) (chT c.ddt i) (by omega) (by simp only;omega)
    have ct:=iDdtTextC ((c.ddt.drop (6 * i)).take 6) (by simp;omega)
    rw[show ddText ((c.ddt.drop (6 * i)).take 6)=chT c.ddt i from rfl]at ct
    refine⟨[1,2,3,8],chL c cur F D' (j+pre.length) ps 903 906,rdQ c cur F (qaq D' a (chT c.ddt i)) (j+pre.length) ps (blkToB a (chT c.ddt i) (c.txg+1)),by simp,by simp[chL,cmL],by simp[chL,cmL],by simp[chL,cmL],?_,?_,?_,?_⟩
    ·simp[chL,cmL,wholeP,chS]
    ·simp[chL,cmL,cmR,wholeP,chS]
     exact⟨.inr ⟨_,_,rfl,rfl,by simp⟩,qaa rfl (by simp[clR]),qaa rfl (by simp[clR]),.inr ⟨_,_,rfl,rfl,by simp⟩,qaa rfl (qam _),qaa rfl (qam _),qaa rfl (clR_lt _),qaa rfl (qak _),qaa rfl (qbh _),qaa rfl (qbd _),qaa rfl (qan _),qaa rfl (qan _)⟩
    ·refine qax _ ?_
     simp -implicitDefEqProofs [chL,cmL,cmR,chS]
     refine ct.view ?_ ?_
     ·simp[vwOk,mtA,deOb,DE.row]
      refine⟨by omega,fun x hx=>?_⟩
      obtain⟨e,_,rfl⟩:=List.mem_map.1 (List.mem_of_mem_drop (List.mem_of_mem_take hx))
      simp[DE.row]
     ·simp -implicitDefEqProofs
      refine qab [(1000,.whole 1000),(1001,.whole 1001),(1002,.whole 1002),(1003,.whole 903),(1004,.whole 1004),(1005,.whole 1005),(1006,.whole 906),(1007,.whole 1007),(1008,.whole 1008)] (by kernel_rfl) cp (by simp) (by simp) (by simp[cmL,cmR,hcl];exact⟨.inr ⟨_,_,rfl,rfl,by simp⟩,qaa rfl (qam _),qaa rfl (qam _),qaa rfl (clR_lt _),qaa rfl (qak _),qaa rfl (qbh _),qaa rfl (qbd _),qaa rfl (qan _),qaa rfl (qan _)⟩) (by simp[cmL]) (by simp) ?_
      rintro r L' ⟨rfl,rfl⟩
      refine⟨[(903,77)],⟨by simp[cmL],by simp,by simp,by simp[cmL],by simp⟩,?_⟩
      simp only[qae]
      generalize qaq D' a (chT c.ddt i)=W at *
      obtain⟨E,b⟩:=W
      cases b with
      | false =>
       simp -implicitDefEqProofs [cmL,cmR,PT.row]
       exact⟨chL c cur F E (j+pre.length) ps 77 906,by simp[chL,cmL,cmR,hcl],.inr ⟨rfl,rfl,rfl⟩⟩
      | true =>
       simp -implicitDefEqProofs [cmL,cmR,PT.row,kpt]
       exact⟨by omega,chL c cur F E (j+pre.length+1) (ps++[blkToB a (chT c.ddt i) (c.txg+1)]) 77 91,by simp[chL,cmL,cmR,hcl,kpt,PT.row,List.take_of_length_le],.inl ⟨rfl,rfl,rfl⟩⟩
    ·rintro e L' (⟨rfl,hb,rfl⟩ | ⟨rfl,hb,rfl⟩)
     ·refine⟨[(77,77),(91,91)],⟨by simp[chL,cmL],by simp,by simp[chS],by simp[chL,cmL,wholeP],by simp[wholeP,chL,cmL]⟩,?_⟩
      rw[hstep]
      simp only[roundEnd,List.length_append,List.length_cons,List.length_nil]
      generalize qaq D' a (chT c.ddt i)=W at *
      exact sw_can [1,2,3,71] [(1,1),(2,2),(3,3),(72,72),(73,73),(1000,1000),(1001,1001),(1002,1002),(77,903),(1004,1004),(1005,1005),(91,906),(1007,1007),(1008,1008)] (by simp[qag,qae,chL,cmL,chS,wholeP]) (by simp[canon,obOf,qae,chS,chL,cmL,cmR,kpt,hcl,wholeP];rfl)
     ·refine⟨[(77,77)],⟨by simp[chL,cmL],by simp,by simp[chS],by simp[chL,cmL,wholeP],by simp[wholeP,chL,cmL]⟩,?_⟩
      rintro⟨k,hk⟩
      have hD:=hno hb
      have hla:=hlt hb
      rw[hb,hD]at hstep
      simp only[Bool.and_false]at hstep
      have hBl:(ptsB (c.txg+1) ((List.finRange (qbf 6 c.ddt.length)).map (chT c.ddt)) ⟨D,F.drop j,true⟩).2.d=D'∧(ptsB (c.txg+1) ((List.finRange (qbf 6 c.ddt.length)).map (chT c.ddt)) ⟨D,F.drop j,true⟩).2.ok=false:=by
       have e:List.finRange (qbf 6 c.ddt.length)=(pre++[i])++(List.finRange (qbf 6 c.ddt.length)).drop k:=by rw[hk,List.take_append_drop]
       rw[e,List.map_append,ptsB_app2,← hYe,hstep]
       exact ptsB_stuck hok' hla _ _
      have hBk:=blkB_stuck (txg:=c.txg+1) hok' hla ⟨c.txg,[],[],[],false,[],0⟩ _ hBl.1 hBl.2 [] (qbg ⟨c.txg,cur,c.ddt,(ptsB (c.txg+1) ((List.finRange (qbf 6 c.ddt.length)).map (chT c.ddt)) ⟨D,F.drop j,true⟩).1,false,c.safe,c.logn⟩)
      simp only[Bool.false_eq_true,if_false]at hBk
      have hBd:B.1.d=D':=by rw[← hB];exact hBk.1
      have hBo:B.1.ok=false:=by rw[← hB];exact hBk.2
      rw[hD]
      simp -implicitDefEqProofs [qae,chS,chL,cmL,cmR,wholeP]
      refine⟨cmL D' ⟨c.txg,cur,c.ddt,ps,false,c.safe,c.logn⟩ F (j+pre.length) 77 906,by simp[cmL,cmR,kcs,hcl],77,906,_,_,⟨0,0,0⟩,by simp,by simp,by rw[hBo];rfl,by rw[hBd],fun e=>by rw[hBo]at e;cases e⟩
   ·have hfl:(List.finRange (qbf 6 c.ddt.length)).length=qbf 6 c.ddt.length:=by simp
    have hYn:=hYe (List.finRange (qbf 6 c.ddt.length))
    rw[← hYn]at hB
    have hfr':=hYf (List.finRange (qbf 6 c.ddt.length))
    have hok':=(hYd (List.finRange (qbf 6 c.ddt.length))).1
    have hDl':=(hYd (List.finRange (qbf 6 c.ddt.length))).2
    have hpsl:(Y (List.finRange (qbf 6 c.ddt.length))).1.length=qbf 6 c.ddt.length:=by rw[hYe,ptsB_len];simp
    rw[hfl]at hfr' ⊢
    generalize Y (List.finRange (qbf 6 c.ddt.length))=y at *
    obtain⟨ps,⟨D',fr',ok'⟩⟩:=y
    simp only at hok' hDl' hfr' hpsl hB hYn
    clear hYs hYf hYd hYe hY
    clear Y
    have hptl:=ptsB_late (c.txg+1) ((List.finRange (qbf 6 c.ddt.length)).map (chT c.ddt)) ⟨D,F.drop j,true⟩ hok (fun a ha=>by have:=hfm a (List.mem_of_mem_drop ha);simp only;omega) (fun t ht=>by
     obtain⟨i,_,rfl⟩:=List.mem_map.1 ht
     have:=ddText_len ((c.ddt.drop (6 * i)).take 6)
     unfold chT
     simp at this ⊢
     omega) rfl
    rw[← hYn]at hptl
    simp only at hptl
    clear hYn hfl
    have hN:qbf 6 c.ddt.length≤8:=by unfold qbf;omega
    generalize qbf 6 c.ddt.length=N at *
    obtain⟨a,ha⟩:∃ a,F[j+N]?=some a:=⟨_,List.getElem?_eq_getElem (by omega)⟩
    have hfd:F.drop (j+N)=a::F.drop (j+N+1):=by rw[List.drop_eq_getElem?_toList_append,ha];rfl
    obtain⟨c2,hc2⟩:∃ c2:CO,c2=⟨c.txg,cur,c.ddt,ps,false,c.safe,c.logn⟩:=⟨_,rfl⟩
    have hT:CoT c2:=by
     subst hc2
     exact⟨by simp only;omega,h.ddt,by simp only;omega,h.safe,fun s hs=>(hm8 s hs).1,fun s hs=>(hm8 s hs).2⟩
    have cr:=iRootC c2 hT
    have hrl:(qbg c2).length≤1000000:=by
     have:=rootText_len c2
     have k1:c2.sets.length≤1000:=by subst hc2;simp only;omega
     have k2:c2.parts.length≤1000:=by subst hc2;simp only;omega
     omega
    have cp:=iPutO D' hok' c2 F (j+N) a ha (by omega) (qbg c2) hrl (by subst hc2;simp only;omega)
    subst hfr'
    rw[← hc2]at hB
    simp only[rsPut,hfd,List.headD_cons]at hB
    have hBo:ok'=false→qaq D' a (qbg c2)=(D',false):=fun e=>bW_stuck hok' (hptl e) _ _
    have cr':=cr
    simp only[CO.row]at cr'
    simp -implicitDefEqProofs [blockQ,chS,cmL,cmR]
    refine cr'.view (by simp[vwOk,mtA,kcs,deOb,kpt,kin,qap,cs_cl,hc2,hdt,hcl];rw[← hcl];exact qap _ _) ?_
    simp -implicitDefEqProofs
    have hc2t:c2.txg=c.txg:=by rw[hc2]
    refine qab [(1000,.whole 1000),(1001,.whole 1001),(1002,.whole 1002),(1003,.whole 903),(1004,.whole 1004),(1005,.whole 1005),(1006,.whole 906),(1007,.whole 1007),(1008,.whole 1008)] (by kernel_rfl) cp (by simp) (by simp) (by simp[cmL,cmR,hc2,hdt,hcl];exact⟨.inr ⟨_,_,rfl,rfl,by simp⟩,qaa rfl (qam _),qaa rfl (qam _),qaa rfl (clR_lt _),qaa rfl (qak _),qaa rfl (qbh _),qaa rfl (qbd _),qaa rfl (qan _),qaa rfl (qan _)⟩) (by simp[cmL]) (by simp) ?_
    rintro r L' ⟨rfl,rfl⟩
    refine⟨[(903,101)],⟨by simp[cmL],by simp,by simp,by simp[cmL],by simp⟩,?_⟩
    rw[hc2t]
    generalize qaq D' a (qbg c2)=W at *
    obtain⟨E,b⟩:=W
    have hob:(ok' && b)=b:=by
     cases ok' with
     | true=>rfl
     | false=>have:=hBo rfl;injection this with _ e;subst e;rfl
    simp only[hob]at hB
    simp only[qae]
    simp -implicitDefEqProofs [cmL,cmR,hcl,PT.row]
    subst hB
    refine⟨cmL E c2 F (if b=true then j+N+1 else j+N) 101 906,by simp[cmL,cmR],101,906,c2,_,_,by simp,by simp,rfl,rfl,fun e=>⟨rfl,?_⟩⟩
    simp only at e
    rw[if_pos e]
  ·simp only[hdt,Bool.false_eq_true,if_false]at hB hfr
   obtain⟨a,ha⟩:∃ a,F[j]?=some a:=⟨_,List.getElem?_eq_getElem (by omega)⟩
   have hfd:F.drop j=a::F.drop (j+1):=by rw[List.drop_eq_getElem?_toList_append,ha];rfl
   obtain⟨c2,hc2⟩:∃ c2:CO,c2=⟨c.txg,cur,c.ddt,c.parts,false,c.safe,c.logn⟩:=⟨_,rfl⟩
   have hT:CoT c2:=by
    subst hc2
    exact⟨by simp only;omega,h.ddt,h.parts,h.safe,fun s hs=>(hm8 s hs).1,fun s hs=>(hm8 s hs).2⟩
   have cr:=iRootC c2 hT
   have hrl:(qbg c2).length≤1000000:=by
    have:=rootText_len c2
    have k1:c2.sets.length≤1000:=by subst hc2;simp only;omega
    have k2:c2.parts.length≤1000:=by subst hc2;simp only;omega
    omega
   have cp:=iPutO D hok c2 F j a ha (by omega) (qbg c2) hrl (by subst hc2;simp only;omega)
   rw[← hc2]at hB
   simp only[rsPut,hfd,List.headD_cons,Bool.true_and]at hB
   have cr':=cr
   simp only[CO.row]at cr'
   refine cr'.view (by simp[vwOk,mtA,kcs,deOb,kpt,kin,qap,cs_cl,hc2,hdt,hcl];rw[← hcl];exact qap _ _) ?_
   simp -implicitDefEqProofs
   have hc2t:c2.txg=c.txg:=by rw[hc2]
   refine qab [(1000,.whole 1000),(1001,.whole 1001),(1002,.whole 1002),(1003,.whole 903),(1004,.whole 1004),(1005,.whole 1005),(1006,.whole 1006),(1007,.whole 1007),(1008,.whole 1008)] (by kernel_rfl) cp (by simp) (by simp) (by simp[cmL,cmR,hc2,hdt,hcl];exact⟨.inr ⟨_,_,rfl,rfl,by simp⟩,qaa rfl (qam _),qaa rfl (qam _),qaa rfl (clR_lt _),qaa rfl (qak _),qaa rfl (qbh _),qaa rfl (qbd _),qaa rfl (qan _),qaa rfl (qan _)⟩) (by simp[cmL]) (by simp) ?_
   rintro r L' ⟨rfl,rfl⟩
   refine⟨[(903,101)],⟨by simp[cmL],by simp,by simp,by simp[cmL],by simp⟩,?_⟩
   rw[hc2t]
   generalize qaq D a (qbg c2)=W at *
   obtain⟨E,b⟩:=W
   simp only[qae]
   simp -implicitDefEqProofs [cmL,cmR,hcl,PT.row]
   subst hB
   refine⟨cmL E c2 F (if b=true then j+1 else j) 101 1006,by simp[cmL,cmR],101,1006,c2,_,_,by simp,by simp,rfl,rfl,fun e=>⟨rfl,?_⟩⟩
   simp only at e
   rw[if_pos e]
 | cons s q =>
  obtain⟨x1,e0,e1,x3⟩:=dropc hr
  have hli:(i:Int)<c.sets.length:=by omega
  have e2:=i64w ((i:Int)+1) (by omega) (by omega)
  have hsm:=List.mem_of_getElem? e1
  have h8:=h.m8 s hsm
  have hcs:cur[i]?=some s:=by
   have:=congrArg (fun l:List CS=>l[0]?) hcd
   simp only[List.getElem?_drop,Nat.add_zero]at this
   rw[this];exact e1
  have hcs':=(List.getElem?_eq_some_iff.1 hcs).2
  have hil:i<cur.length:=by omega
  have hcl':=hcl
  have hx30:=cs_dty s h8
  have hx30':=(List.getElem?_eq_some_iff.1 hx30).2
  rw[hr]at hX2 hfr
  simp -implicitDefEqProofs [obOf,cmL,cmR,kcs,hcs,hcs',hcl,hil,x1,hli,qas s h8,hx30,hx30']
  refine⟨fun q1=>?_,fun q1=>?_⟩
  ·simp only[dirtN,List.countP_cons,q1,setsB]at hfr hX2
   refine nx (i+1,cur,D,j) [(1,1),(2,2),(3,3),(1000,1000),(1001,1001),(1002,1002),(903,903),(1004,1004),(1005,1005),(1006,1006),(1007,1007),(1008,1008)] ⟨by simp only;omega,hcl,by simp only;rw[← List.drop_drop,← List.drop_drop,hcd],hok,hDl,by simp only[x3,dirtN];simpa using hfr,?_⟩ (by simp only;omega) (h4:=by simp[obOf,e2,cmL,cmR,kcs,hcl])
   simp only[x3]
   rw[takeS hcs,List.append_assoc]
   exact hX2
  ·obtain⟨a,ha⟩:∃ a,F[j]?=some a:=by
    have:j<F.length:=by simp only[dirtN,List.countP_cons,q1,if_true]at hfr;omega
    exact⟨_,List.getElem?_eq_getElem this⟩
   have c2:=iCoreMapC s.map h8
   have cp:=iPutO D hok ⟨c.txg,cur,c.ddt,c.parts,c.dirty,c.safe,c.logn⟩ F j a ha (by omega) (qbz s.map) (by have:=mapText_len s.map h8;omega) (by simp only;omega)
   rw[cs_map24 s h8]
   refine c2.call ?_
   simp -implicitDefEqProofs
   refine qab [(1000,.whole 1000),(1001,.whole 1001),(1002,.whole 1002),(1003,.whole 903),(1004,.whole 1004),(1005,.whole 1005),(1006,.whole 1006),(1007,.whole 1007),(1008,.whole 1008)] (by kernel_rfl) cp (by simp) (by simp) (by simp[cmL,cmR,hcl];exact⟨.inr ⟨_,_,rfl,rfl,by simp⟩,qaa rfl (qam _),qaa rfl (qam _),qaa rfl (clR_lt _),⟨rfl,qaa rfl (qak _)⟩,qaa rfl (qbh _),qaa rfl (qbd _),qaa rfl (qan _),qaa rfl (qan _)⟩) (by simp[cmL]) (by simp) ?_
   rintro r L' ⟨rfl,rfl⟩
   refine⟨[(903,39)],⟨by simp[cmL],by simp,by simp,by simp[cmL],by simp⟩,?_⟩
   simp only[qae]
   simp -implicitDefEqProofs [cmL,cmR,hcl]
   have hbo:=bWrite_ok hok a (qbz s.map)
   have hno:=bW_no hok (a:=a) (t:=qbz s.map)
   have hlt:=bW_late hok (a:=a) (t:=qbz s.map) (by have:=hfm a (List.mem_of_getElem? ha);omega) (by have:=mapText_len2 s.map h8;omega)
   have hfd:F.drop j=a::F.drop (j+1):=by rw[List.drop_eq_getElem?_toList_append,ha];rfl
   simp only[setsB,q1,if_true,rsPut,hfd,List.headD_cons,List.tail_cons]at hX2
   simp only[dirtN,List.countP_cons,q1,if_true]at hfr
   generalize qaq D a (qbz s.map)=W at *
   obtain⟨E,b⟩:=W
   simp only at hbo hno hlt hX2
   cases b with
   | false =>
    have hst:=setsB_stuck (txg:=c.txg+1) hok (hlt rfl) q (F.drop (j+1))
    have hED:=hno rfl
    subst hED
    simp only[Bool.and_false]at hX2
    have hBk:=blkB_stuck (txg:=c.txg+1) hok (hlt rfl) c X.2 (by rw[← hX2];exact hst.1) (by rw[← hX2];exact hst.2) (partsT c.ddt) (qbg ⟨c.txg,X.1,c.ddt,(if c.dirty=true then ptsB (c.txg+1) (partsT c.ddt) X.2 else (c.parts,X.2)).1,false,c.safe,c.logn⟩)
    have hBd:B.1.d=E:=by rw[← hB];exact hBk.1
    have hBo:B.1.ok=false:=by rw[← hB];exact hBk.2
    simp -implicitDefEqProofs
    refine⟨cmL E ⟨c.txg,cur,c.ddt,c.parts,c.dirty,c.safe,c.logn⟩ F j 39 1006,by simp[cmL,cmR,kcs,hcl],39,1006,_,j,⟨0,0,0⟩,by simp,by simp,by rw[hBo];rfl,by rw[hBd],fun e=>by rw[hBo]at e;cases e⟩
   | true =>
    simp -implicitDefEqProofs [PT.row,hil,qas s h8,kcs,hcs,hcs']
    refine nx (i+1,cur.set i ⟨s.name,s.kind,s.frm,s.map,blkToB a (qbz s.map) (c.txg+1),false⟩,E,j+1) [(1,1),(2,2),(3,3),(1000,1000),(1001,1001),(1002,1002),(39,903),(1004,1004),(1005,1005),(1006,1006),(1007,1007),(1008,1008)]
     ⟨by simp only;omega,by simpa using hcl,by simp only;rw[List.drop_set_of_lt (by omega),← List.drop_drop,← List.drop_drop,hcd],hbo.1,by simp only;omega,by simp only[x3,dirtN];omega,?_⟩ (by simp only;omega) (h4:=?_)
    ·simp only[x3]
     rw[take_set1 hil,List.append_assoc]
     exact hX2
    ·simp[obOf,kcs,qas s h8,e2,cmL,cmR,hcl,hcs]
     rw[cs_upd s h8,renL_cs1]
def blkK (B:RS×CO×PT) (fr:List Int) (r:AV) (L':List (Nat×Ob)):Prop:=∃ (c':CO) (j:Nat) (p:PT),r=.tup [.agg p.row,.bool B.1.ok]∧L'=cmL B.1.d c' fr j 903 906∧(B.1.ok=true→c'=B.2.1∧p=B.2.2)
theorem iBlocksK (d:DK) (hd:dOkB d=true) (c:CO) (h:CoT c) (hc:qaj c=true) (hf:needsB c≤(freeB c d.s0.length).length) (ht:c.txg<1000000) :
  ACall prog 254 [.ptr 1000 0 0] (cmL d c (freeB c d.s0.length) 0 1003 1006) (blkK (qai d c) (freeB c d.s0.length)):=by
 refine(iBlocksO d hd c h hc hf ht).can ?_
 rintro r L' ⟨i3,i6,c',j,p,h3,h6,rfl,rfl,hq⟩
 refine⟨[(1000,1000),(1001,1001),(1002,1002),(i3,903),(1004,1004),(1005,1005),(i6,906),(1007,1007),(1008,1008)],?_,?_,?_,?_,c',j,p,?_,?_,hq⟩
 all_goals
  simp only[List.mem_cons,List.not_mem_nil,or_false]at h3 h6
  rcases h3 with rfl | rfl | rfl | rfl <;> rcases h6 with rfl | rfl
 all_goals simp[cmL,cmR,obOf,PT.row]
def cmT (d:DK) (c:CO) (n j i3 i7:Nat) (tl:List AV):List AV:=.sl 1001 0 d.s0.length::.sl 1002 0 d.s1.length::.sl i3 0 d.late.length::.int .i64 c.txg::.sl 1004 0 c.sets.length::.sl 1005 0 c.ddt.length::.sl 906 0 c.parts.length::.bool c.dirty::.sl i7 0 c.safe.length::.int .i64 c.logn::.sl 1008 j (n-j)::tl
def cmO (d:DK) (c:CO) (fr:List Int) (j i3 i7:Nat) (tl:List AV) (fd:DK):List (Nat×Ob) :=
 [(1000,⟨17,[cmT d c fr.length j i3 i7 tl]⟩),(1001,strOb d.s0),(1002,strOb d.s1),(i3,ltOb d.late),(1004,kcs c.sets),(1005,deOb c.ddt),(906,kpt c.parts),(i7,kin c.safe),(1008,kin fr),(911,strOb fd.s0),(912,strOb fd.s1),(913,ltOb fd.late)]
def lastL (ld:DK):List (Nat×Ob):=[(921,strOb ld.s0),(922,strOb ld.s1),(923,ltOb ld.late)]
def ldB (d:DK) (c:CO):DK:=(ringB (qbr (qai d c).1.d) (c.txg+1) (qai d c).2.2).1
def rnQ (x3 x7:List Nat) (bd:DK) (bok:Bool) (ld:DK) (Z:DK×CO×Int) (fr:List Int) (r:AV) (L':List (Nat×Ob)):Prop :=
 (bok=false∧r=.bool false∧∃ c' j,L'=cmO bd c' fr j 903 1007 (dskA bd 911 912 913++dskA bd 911 912 913) bd) ∨
 (bok=true∧r=.bool (decide (Z.2.2=0))∧∃ D c' j i3 i7,i3∈x3∧i7∈x7∧L'=cmO D c' fr j i3 i7 (dskA bd 911 912 913++dskA ld 921 922 923) bd++lastL ld∧(Z.2.2=0→D=Z.1∧c'=Z.2.1))
theorem iRunO (d:DK) (hd:dOkB d=true) (c:CO) (h:CoT c) (hc:qaj c=true) (hf:needsB c≤(freeB c d.s0.length).length) (ht:c.txg<1000000) :
  ACall prog 139 [.ptr 1000 0 0] (cmL d c (freeB c d.s0.length) 0 1003 1006) (rnQ [903] [907] (qai d c).1.d (qai d c).1.ok (ldB d c) (doneB d c) (freeB c d.s0.length)):=by
 obtain⟨hm,k1,k2,k3,k4,k5,k6,k7⟩:=qcc hc
 have cb:=iBlocksK d hd c h hc hf ht
 have hbo:=blocks_ok hd c
 obtain⟨hbT,hbc,hbp⟩:=blkC_ok hd h hc hf ht
 have hbt:(qai d c).2.1.txg=c.txg:=rfl
 obtain⟨Z,hZ⟩:∃ Z,doneB d c=Z:=⟨_,rfl⟩
 obtain⟨ld,hld⟩:∃ ld,ldB d c=ld:=⟨_,rfl⟩
 rw[hZ,hld]
 unfold ldB at hld
 unfold doneB at hZ
 have key:ACall prog 139 [.ptr 1000 0 0] (cmL d c (freeB c d.s0.length) 0 1003 1006) (rnQ [47,61] [1007,72] (qai d c).1.d (qai d c).1.ok ld Z (freeB c d.s0.length)):=by
  generalize qai d c=B at *
  obtain⟨⟨BD,bfr,bok⟩,Bc,Bp⟩:=B
  simp only at hbo hbT hbc hbp hbt hld hZ ⊢
  obtain⟨hb1,hb2,hb3,hb4,_⟩:=dOk_len hbo.1
  have hbd:=dOk_T hbo.1
  generalize freeB c d.s0.length=F at *
  have cown:=iDOwnO BD hbd
  simp only[DK.row]at cown
  refine acx func139 [(8,[zI 0,zI 1,zI 2,zI 3,zI 4,zI 5,zI 6,zJ 7 [3] [],zI 8,zJ 9 [903,1000,1001,1002] [],zI 10]),(13,[zI 0,zI 1,zI 2,zI 3,zI 4,zI 5,zI 6,zJ 7 [1000] [],zJ 8 [] [1000],zJ 9 [3] [1000],zJ 10 [906,1000,1004,1005,1007] [],zI 11,zI 12,zI 13,zI 14,zI 15,zI 16,zI 17,zI 18,zI 19,zI 20,zI 21,zI 22])] ntmps139 rfl rfl rfl ?_ (hL:=by simp[cmL])
  simp -implicitDefEqProofs [cmL,cmR]
  refine qab [(1000,.whole 1000),(1001,.whole 1001),(1002,.whole 1002),(1003,.whole 1003),(1004,.whole 1004),(1005,.whole 1005),(1006,.whole 1006),(1007,.whole 1007),(1008,.whole 1008)] (by kernel_rfl) cb (by simp) (by simp) (by simp[cmL,cmR];exact⟨.inr ⟨_,_,rfl,rfl,by simp⟩,qaa rfl (qam _),qaa rfl (qam _),qaa rfl (clR_lt _),qaa rfl (qak _),qaa rfl (qbh _),qaa rfl (qbd _),qaa rfl (qan _),qaa rfl (qan _)⟩) (by simp[cmL]) (by simp) ?_
  rintro r L' ⟨c',j,p,rfl,rfl,hq⟩
  simp only at hq
  refine⟨[(903,903),(906,906)],⟨by simp[cmL],by simp,by simp,by simp[cmL],by simp⟩,?_⟩
  simp only[qae]
  simp -implicitDefEqProofs [cmL,cmR,PT.row]
  refine qay [] (by kernel_rfl) cown (by simp[vwOk,mtA,strOb,ltOb,qap,qaf,LT.row]) (by simp) trivial (by simp) (by simp) ?_
  rintro r L' ⟨rfl,rfl⟩
  refine⟨by simp,by simp[strOb,qaf,ltOb,LT.row],[(6,911),(10,912),(14,913)],⟨by simp,by simp,by simp,by simp,by simp⟩,?_⟩
  simp only[qae]
  simp -implicitDefEqProofs
  cases bok with
  | false =>
   simp -implicitDefEqProofs
   exact⟨cmO BD c' F j 903 1007 (dskA BD 911 912 913++dskA BD 911 912 913) BD,by simp[cmO,cmT,dskA],.inl ⟨rfl,rfl,c',j,rfl⟩⟩
  | true =>
   obtain⟨rfl,rfl⟩:=hq rfl
   have hfo:=flush_ok hbo.1
   have cf:=iFlushO BD hbo.1
   have cu:=iUberC (c'.txg+1) p
   have hul:=uberText_len (c'.txg+1) p
   have cw:=iBothO (qbr BD) hfo.1 (1+(c'.txg+1) % 4) (uberText (c'.txg+1) p) (by omega)
   have hro:=bWrite_ok hfo.1 (1+(c'.txg+1) % 4) (uberText (c'.txg+1) p)
   have e1:=i64w (c'.txg+1) (by omega) (by omega)
   have e2:=i64w ((c'.txg+1) % 4) (by omega) (by omega)
   have e3:=i64w (1+(c'.txg+1) % 4) (by omega) (by omega)
   have q2:(c'.txg+1).tmod 4=(c'.txg+1) % 4:=Int.tmod_eq_emod_of_nonneg (by omega)
   rw[← hbt]at hZ hld
   simp only[ringB]at hZ hld
   obtain⟨W,hW⟩:∃ W,qaq (qbr BD) (1+(c'.txg+1) % 4) (uberText (c'.txg+1) p)=W:=⟨_,rfl⟩
   simp only[hW]at hZ hld cw hro
   clear hW
   obtain⟨G,gb⟩:=W
   simp only at hld
   subst hld
   obtain⟨FD,hFD⟩:∃ FD,qbr BD=FD:=⟨_,rfl⟩
   simp only[hFD]at hfo cf cw hro
   simp -implicitDefEqProofs
   refine qab [(1000,.sub 1000 0 0 3),(1001,.whole 1001),(1002,.whole 1002),(1003,.whole 903)] (by kernel_rfl) cf (by simp) (by simp) (by simp[dskL,dskA];exact⟨⟨_,_,rfl,rfl,by simp,by simp,rfl,rfl,by simp⟩,qaa rfl (qam _),qaa rfl (qam _),qaa rfl (clR_lt _)⟩) (by simp[dskL]) (by simp) ?_
   rintro r L' ⟨rfl,rfl⟩
   refine⟨[(903,31)],⟨by simp[dskL],by simp,by simp,by simp[dskL],by simp[dskL,dskA]⟩,?_⟩
   simp only[qae]
   simp -implicitDefEqProofs [dskL,dskA,e1,q2,e2,e3,PT.row]
   have hGT:=dOk_T hro.1
   have cog:=iDOwnO G hGT
   simp only[DK.row]at cog
   simp only[PT.row]at cu
   refine cu.call ?_
   simp -implicitDefEqProofs
   refine qab [(1000,.sub 1000 0 0 3),(1001,.whole 1001),(1002,.whole 1002),(1003,.whole 31)] (by kernel_rfl) cw (by simp) (by simp) (by simp[dskL,dskA];exact⟨⟨_,_,rfl,rfl,by simp,by simp,rfl,rfl,by simp⟩,qaa rfl (qam _),qaa rfl (qam _),qaa rfl (clR_lt _)⟩) (by simp[dskL]) (by simp) ?_
   rintro r L' ⟨rfl,rfl⟩
   refine⟨[(903,47)],⟨by simp[dskL],by simp,by simp,by simp[dskL],by simp[dskL,dskA]⟩,?_⟩
   simp only[qae]
   simp -implicitDefEqProofs [dskL,dskA]
   refine qay [] (by kernel_rfl) cog (by simp[vwOk,mtA,strOb,ltOb,qap,qaf,LT.row]) (by simp) trivial (by simp) (by simp) ?_
   rintro r L' ⟨rfl,rfl⟩
   refine⟨by simp,by simp[strOb,qaf,ltOb,LT.row],[(6,921),(10,922),(14,923)],⟨by simp,by simp,by simp,by simp,by simp⟩,?_⟩
   simp only[qae]
   simp -implicitDefEqProofs
   rw[if_neg (by simp)]at hZ
   cases gb with
   | false =>
    simp -implicitDefEqProofs
    rw[if_pos rfl]at hZ
    subst hZ
    exact⟨cmO G c' F j 47 1007 (dskA BD 911 912 913++dskA G 921 922 923) BD++lastL G,by simp[cmO,cmT,dskA,lastL],.inr ⟨rfl,rfl,G,c',j,47,1007,by simp,by simp,rfl,fun e=>by cases e⟩⟩
   | true =>
    rw[if_neg (by simp)]at hZ
    have hGf:=flush_ok hro.1
    have cg:=iFlushO G hro.1
    have crch:=iReachO c' hbT hbc p.pa hbp
    have hbT':=hbT
    subst hZ
    simp -implicitDefEqProofs
    refine qab [(1000,.sub 1000 0 0 3),(1001,.whole 1001),(1002,.whole 1002),(1003,.whole 47)] (by kernel_rfl) cg (by simp) (by simp) (by simp[dskL,dskA];exact⟨⟨_,_,rfl,rfl,by simp,by simp,rfl,rfl,by simp⟩,qaa rfl (qam _),qaa rfl (qam _),qaa rfl (clR_lt _)⟩) (by simp[dskL]) (by simp) ?_
    rintro r L' ⟨rfl,rfl⟩
    refine⟨[(903,61)],⟨by simp[dskL],by simp,by simp,by simp[dskL],by simp[dskL,dskA]⟩,?_⟩
    simp only[qae]
    simp only[CO.row]at crch
    simp -implicitDefEqProofs [dskL,dskA]
    refine qay [] (by kernel_rfl) crch (by simp[vwOk,mtA,kcs,deOb,kpt,kin,qap,cs_cl]) (by simp) trivial (by simp) (by simp) ?_
    rintro r L' ⟨rfl,rfl⟩
    refine⟨by simp,by simp[kin,qad],[(900,72)],⟨by simp,by simp,by simp,by simp,by simp⟩,?_⟩
    simp only[qae]
    simp -implicitDefEqProofs
    exact⟨cmO (qbr G) ⟨c'.txg+1,c'.sets,c'.ddt,c'.parts,c'.dirty,reachB c' p.pa,0⟩ F j 61 72 (dskA BD 911 912 913++dskA G 921 922 923) BD++lastL G,by simp[cmO,cmT,dskA,lastL],.inr ⟨rfl,rfl,_,_,j,61,72,by simp,by simp,rfl,fun e=>⟨rfl,rfl⟩⟩⟩
 refine key.can ?_
 rintro r L' (⟨h1,rfl,c',j,rfl⟩ | ⟨h1,rfl,D,c',j,i3,i7,h3,h7,rfl,hq⟩)
 ·refine⟨[(1000,1000),(1001,1001),(1002,1002),(903,903),(1004,1004),(1005,1005),(906,906),(1007,1007),(1008,1008),(911,911),(912,912),(913,913)],by simp[cmO],by simp,by simp[cmO],by simp,.inl ⟨h1,by simp,c',j,?_⟩⟩
  simp[cmO,cmT,dskA,obOf]
 ·refine⟨[(1000,1000),(1001,1001),(1002,1002),(i3,903),(1004,1004),(1005,1005),(906,906),(i7,907),(1008,1008),(911,911),(912,912),(913,913),(921,921),(922,922),(923,923)],?_,?_,?_,?_,.inr ⟨h1,by simp,D,c',j,903,907,by simp,by simp,?_,hq⟩⟩
  all_goals
   simp only[List.mem_cons,List.not_mem_nil,or_false]at h3 h7
   rcases h3 with rfl | rfl <;> rcases h7 with rfl | rfl
  all_goals simp[cmO,cmT,lastL,dskA,obOf,cmL,cmR]
end Go.Av.F
end
