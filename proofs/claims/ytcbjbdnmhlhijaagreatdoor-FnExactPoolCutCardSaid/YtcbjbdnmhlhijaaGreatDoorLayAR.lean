/- Lemmas for the proof, no statement of the seat; no conditions. -/
import Derived.Test.YtcbjbdnmhlhijaaGreatDoorLayAQ
import Derived.Shelf.Small.Strs
import Derived.Shelf.Strconv.Atoi
import Derived.Shelf.Strconv.Itoa0
import Derived.Shelf.Strconv.Itoa1
import Derived.Shelf.LaysM
import Derived.Shelf.Strconv.Itoa2
import Derived.Shelf.Strconv.Itoa3
import Derived.Shelf.Strconv.AtoiErrFast
import Derived.Shelf.Strconv.ParseIntEmpty
import Derived.Shelf.Strconv.AtoiFail
import Derived.Shelf.Strconv.Clone
import Derived.Shelf.Strconv.SyntaxError
import Derived.Shelf.LaysC
import Derived.Shelf.Strconv.ToError
import Derived.Shelf.Strconv.Lower
import Derived.Shelf.Strconv.ParseUint10
import Derived.Shelf.Strconv.ParseUint10Empty
import Derived.Shelf.Strconv.ParseUint10Any
import Derived.Shelf.Strconv.ParseInt10
import Derived.Shelf.Strconv.AtoiLong
import Derived.Shelf.Strconv.AtoiInnerAll
import Derived.Shelf.Strconv.RangeError
import Derived.Shelf.Strconv.ToErrorRange
import Derived.Shelf.Strconv.AtoiAll
import Derived.Shelf.Strings.Search1
import Derived.Shelf.Strings.Search2
import Derived.Shelf.Strings.Search3
import Derived.Shelf.Strings.Count
import Derived.Test.YtcbjbdnmhlhijaaGreatDoorProg
set_option linter.unusedSimpArgs false
set_option linter.unusedVariables false
set_option linter.unnecessarySimpa false
set_option maxRecDepth 100000
section
namespace Go.Proofs
open Go.Shelf Go.RowKit Go.Sort Go.Lib
def Tryz.laysM171_ren:Go.Shelf.Ren:=⟨fun | 171=>280 | 243=>331 | 246=>373 | 283=>397 | 284=>398 | 285=>399 | 286=>400 | 129=>348 | 317=>410 | 318=>411 | 319=>412 | 320=>413 | 337=>415 | 338=>416 | n=>n,fun | 3=>3 | 9=>9 | 2=>2 | 4=>4 | 171=>380 | 0=>0 | 53=>342 | 37=>294 | 5=>5 | 173=>382 | 212=>397 | 51=>340 | 20=>20 | 213=>398 | 46=>308 | 232=>404 | 233=>405 | n=>n,fun | 17=>3 | 18=>6 | 19=>7 | n=>n⟩
theorem Tryz.laysM171:Go.Proofs.LaysM.n171 Tryz.prog Tryz.laysM171_ren:={
 mixed:=by kernel_rfl
 f129:=Tryz.func348.trans (congrArg some (by kernel_rfl))
 f171:=Tryz.func280.trans (congrArg some (by kernel_rfl))
 f243:=Tryz.func331.trans (congrArg some (by kernel_rfl))
 f246:=Tryz.func373.trans (congrArg some (by kernel_rfl))
 f283:=Tryz.func397.trans (congrArg some (by kernel_rfl))
 f284:=Tryz.func398.trans (congrArg some (by kernel_rfl))
 f285:=Tryz.func399.trans (congrArg some (by kernel_rfl))
 f286:=Tryz.func400.trans (congrArg some (by kernel_rfl))
 f317:=Tryz.func410.trans (congrArg some (by kernel_rfl))
 f318:=Tryz.func411.trans (congrArg some (by kernel_rfl))
 f319:=Tryz.func412.trans (congrArg some (by kernel_rfl))
 f320:=Tryz.func413.trans (congrArg some (by kernel_rfl))
 f337:=Tryz.func415.trans (congrArg some (by kernel_rfl))
 f338:=Tryz.func416.trans (congrArg some (by kernel_rfl))
 t0:=Tryz.underlying0
 a0:=Tryz.isAgg0
 z0:=Tryz.sizeOf0
 v0:=Tryz.zeroValue0
 t2:=Tryz.underlying2
 a2:=Tryz.isAgg2
 z2:=Tryz.sizeOf2
 v2:=Tryz.zeroValue2
 t3:=Tryz.underlying3
 a3:=Tryz.isAgg3
 z3:=Tryz.sizeOf3
 v3:=Tryz.zeroValue3
 t4:=Tryz.underlying4
 a4:=Tryz.isAgg4
 z4:=Tryz.sizeOf4
 v4:=Tryz.zeroValue4
 t5:=Tryz.underlying5
 a5:=Tryz.isAgg5
 z5:=Tryz.sizeOf5
 v5:=Tryz.zeroValue5
 t9:=Tryz.underlying9
 a9:=Tryz.isAgg9
 z9:=Tryz.sizeOf9
 v9:=Tryz.zeroValue9
 t20:=Tryz.underlying20
 a20:=Tryz.isAgg20
 z20:=Tryz.sizeOf20
 v20:=Tryz.zeroValue20
 t37:=Tryz.underlying294
 a37:=Tryz.isAgg294
 z37:=Tryz.sizeOf294
 v37:=Tryz.zeroValue294
 t46:=Tryz.underlying308
 a46:=Tryz.isAgg308
 z46:=Tryz.sizeOf308
 v46:=Tryz.zeroValue308
 t51:=Tryz.underlying340
 a51:=Tryz.isAgg340
 z51:=Tryz.sizeOf340
 v51:=Tryz.zeroValue340
 t53:=Tryz.underlying342
 a53:=Tryz.isAgg342
 z53:=Tryz.sizeOf342
 v53:=Tryz.zeroValue342
 t171:=Tryz.underlying380
 a171:=Tryz.isAgg380
 z171:=Tryz.sizeOf380
 v171:=Tryz.zeroValue380
 t173:=Tryz.underlying382
 a173:=Tryz.isAgg382
 z173:=Tryz.sizeOf382
 v173:=Tryz.zeroValue382
 t212:=Tryz.underlying397
 a212:=Tryz.isAgg397
 z212:=Tryz.sizeOf397
 v212:=Tryz.zeroValue397
 t213:=Tryz.underlying398
 a213:=Tryz.isAgg398
 z213:=Tryz.sizeOf398
 t232:=Tryz.underlying404
 a232:=Tryz.isAgg404
 z232:=Tryz.sizeOf404
 v232:=Tryz.zeroValue404
 t233:=Tryz.underlying405
 a233:=Tryz.isAgg405
 z233:=Tryz.sizeOf405
 v233:=Tryz.zeroValue405
 g17:=by kernel_rfl
 g18:=by kernel_rfl
 g19:=by kernel_rfl
 i0:=by kernel_rfl
 i2:=by kernel_rfl
 i3:=by kernel_rfl
 i4:=by kernel_rfl
 i5:=by kernel_rfl
 i9:=by kernel_rfl
 i20:=by kernel_rfl
 i37:=by kernel_rfl
 i46:=by kernel_rfl
 i51:=by kernel_rfl
 i53:=by kernel_rfl
 i171:=by kernel_rfl
 i173:=by kernel_rfl
 i212:=by kernel_rfl
 i232:=by kernel_rfl
 i233:=by kernel_rfl
 m17:=by kernel_rfl
 m18:=by kernel_rfl
 m19:=by kernel_rfl }
theorem Tryz.strconv_Itoa (n:Int) (h0:-9223372036854775808≤n) (h1:n≤9223372036854775807) (w:World) (htab:Lib.TabIs Tryz.prog w "internal/strconv.uint64pow10" .u64 Lib.pow10Tab) :
  Calls Tryz.prog 280 #[.int .i64 n] w fun e w'=>e=.returned (.string ⟨(Lib.itoa n).toArray⟩)∧∃ k os,w'=grow (w.drewN k) os:=Any.strconv_Itoa Tryz.laysM171 n h0 h1 w htab
end Go.Proofs
end
section
namespace Go.Av.F
open Go Go.Av Go.Proofs Go.Proofs.Tryz Go.RowKit
theorem str_rel {w:World} {Z:Addr→Prop} {γ:Gm} {s:List UInt8} {x:Value} (h:AVRel w Z γ (.str s) x):x=.string ⟨s.toArray⟩:=by cases h;rfl
theorem int_rel {w:World} {Z:Addr→Prop} {γ:Gm} {k:IntKind} {n:Int} {x:Value} (h:AVRel w Z γ (.int k n) x):x=.int k n:=by cases h;rfl
theorem below_grow (w:World) (k:Nat) (os:Array Obj):Below w.heap.size w (Go.Sort.grow (w.drewN k) os) :=
 ⟨rfl,rfl,rfl,by simp[Go.Sort.grow,World.drewN],fun i hi=>by
  show((w.drewN k).heap++os)[i]?=_
  rw[Array.getElem?_append_left (by simpa [World.drewN]using hi)]
  rfl⟩
theorem itoaC (n:Int) (h0:-9223372036854775808≤n) (h1:n≤9223372036854775807):CV prog 280 [.int .i64 n] (.str (Lib.itoa n)):=by
 refine cv_of_calls0 fun w Z vs hv hg hz=>?_
 obtain⟨x,rfl,hx⟩:=crel1 hv
 rw[int_rel hx]
 have htab:Lib.TabIs prog w "internal/strconv.uint64pow10" .u64 Lib.pow10Tab:=by
  have hgn:prog.globalNamed "internal/strconv.uint64pow10"=some 3:=by kernel_rfl
  obtain⟨ty,fz,hh⟩:=gl_var hg (g:=3) (cs:=Lib.pow10Tab.map (AV.int .u64)) (by unfold gtab;rfl) (Lib.pow10Tab.map fun z=>Value.int .u64 z) (by simp) (fun x j hj hr=>by
   simp only[List.getD_eq_getElem?_getD,List.getElem?_map]at hr ⊢
   simp only[List.length_map]at hj
   rw[List.getElem?_eq_getElem hj]at hr ⊢
   exact int_rel hr) (by simp[Lib.pow10Tab])
  unfold Lib.TabIs World.var?
  rw[hgn]
  simp only[Option.bind_some,hh]
 refine(Tryz.strconv_Itoa n h0 h1 w htab).mono ?_
 rintro e w' ⟨rfl,k,os,rfl⟩
 exact⟨_,rfl,.str _ _,below_grow _ _ _⟩
end Go.Av.F
end
section
namespace Go.Av.F
open Go Go.Av Go.Proofs Go.Proofs.Tryz
theorem ddig_dec:∀ (k:Nat) (out:List UInt8),ddig k out=Lib.decDigits k++out:=by
 intro k
 induction k using Nat.strongRecOn with
 | ind k ih =>
  intro out
  rw[ddig,Lib.decDigits]
  by_cases h:k<10
  ·rw[dif_pos (by omega),dif_pos h]
   rfl
  ·rw[dif_neg (by omega),dif_neg h,ih _ (by omega)]
   simp
theorem itoa_nat (k:Nat):Lib.itoa (k:Int)=ddig k []:=by
 unfold Lib.itoa
 rw[if_neg (by omega),ddig_dec]
 simp
theorem isealC (s:List UInt8) (hs:s.length≤maxLen):CV prog 278 [.str s] (.str (sealB s)):=by
 obtain⟨R,hR⟩:∃ R,sealB s=R:=⟨_,rfl⟩
 rw[hR]
 have hml:maxLen=9223372036854775807:=rfl
 have hlt:=sumB_lt s (1+s.length % 997) (by omega)
 have sc:=isumC s hs
 refine cvx func278 [] ntmps278 rfl rfl rfl ?_
 unfold sealB at hR
 by_cases h:400<s.length
 ·rw[if_pos h]at hR
  have h':(400:Int)<s.length:=by omega
  simp -implicitDefEqProofs [h',← hR]
 ·rw[if_neg h]at hR
  have h':¬ (400:Int)<s.length:=by omega
  simp -implicitDefEqProofs [h']
  refine sc.call ?_
  generalize sumB s (1+s.length % 997)=n at *
  have hl:=ddig_len n []
  simp only[List.length_nil]at hl
  simp -implicitDefEqProofs
  refine(itoaC (n:Int) (by omega) (by omega)).call ?_
  rw[itoa_nat]
  simp -implicitDefEqProofs [← hR]
  omega
theorem dec_len (n:Nat):∀ k,n<10 ^ k→1≤k→(Lib.decDigits n).length≤k:=by
 induction n using Nat.strongRecOn with
 | ind n ih =>
  intro k hk h1
  rw[Lib.decDigits]
  by_cases h:n<10
  ·rw[dif_pos h]
   simpa using h1
  ·rw[dif_neg h]
   obtain⟨j,rfl⟩:∃ j,k=j+1:=⟨k-1,by omega⟩
   rw[Nat.pow_succ]at hk
   have hj:1≤j:=by
    rcases Nat.eq_zero_or_pos j with h0 | h0
    ·subst h0;simp at hk;omega
    ·exact h0
   have:=ih (n / 10) (by omega) j (by omega) hj
   simp
   omega
def digB (n:Nat):UInt8:=hexL.getD n 0
theorem sdigC (n:Nat) (h:n<16):CV prog 326 [.int .i64 n] (.int .u8 (digB n).toNat):=by
 refine cvx func326 [] ntmps326 rfl rfl rfl ?_
 have hn:(n:Int)<16:=by omega
 have h0:n<hexL.length:=by simpa [hexL]using h
 have e:hexL[n]'h0=digB n:=by simp[digB,List.getD,h0]
 simp only[hexL]at h0 e
 simp -implicitDefEqProofs [hn,h0,h,e]
 try omega
def hexB:List UInt8→List UInt8
 | []=>[]
 | c::r=>digB (c.toNat / 16)::digB (c.toNat % 16)::hexB r
theorem hexB_len:∀ s,(hexB s).length=2 * s.length
 | []=>rfl
 | c::r=>by simp[hexB,hexB_len r];omega
theorem shexC (s:List UInt8) (hs:s.length≤1048576):CV prog 267 [.str s] (.str (hexB s)):=by
 obtain⟨R,hR⟩:∃ R,hexB s=R:=⟨_,rfl⟩
 rw[hR]
 refine cvx func267 [(5,[zI 0,zI 1,zI 2,zI 3,zI 4,zI 5,zI 7,zI 8,zI 9,zI 10,zI 11,zI 6,zI 12,zI 13,zI 14,zI 15])] ntmps267 rfl rfl rfl ?_
 simp -implicitDefEqProofs
 refine ev_lo (X:=Nat×List UInt8) [0,3,4] [(5,900)] (fun x=>[(4,.int .i64 x.1),(3,.sl 900 0 x.2.length)]) (fun x=>[(900,⟨1,x.2.map u8row⟩)]) (fun x=>s.length-x.1) (fun x=>x.1≤s.length∧x.2.length=2 * x.1∧x.2++hexB (s.drop x.1)=R) (0,[]) (by simp[hR]) ?_ (he:=by simp[obOf])
 rintro⟨i,out⟩ ⟨hi,hol,hd⟩
 simp only at hi hol hd
 cases hr:s.drop i with
 | nil =>
  have:=dropn hr
  rw[hr,hexB]at hd
  have hie:i=s.length:=by omega
  subst hie
  simp only[List.append_nil]at hd
  simp -implicitDefEqProofs [byteOf_u8,List.take_of_length_le,hd]
  exact fun x _=>rfl
 | cons x r =>
  obtain⟨h1,e0,e1,h3⟩:=dropc hr
  rw[hr,hexB]at hd
  have e2:=i64w ((i:Int)+1) (by omega) (by omega)
  have hx:=x.toNat_lt
  have w1:=i64w (x.toNat:Int) (by omega) (by omega)
  have q1:((x.toNat:Int)).tdiv 16=(x.toNat:Int) / 16:=Int.tdiv_eq_ediv_of_nonneg (by omega)
  have q2:((x.toNat:Int)).tmod 16=(x.toNat:Int) % 16:=Int.tmod_eq_emod_of_nonneg (by omega)
  have w2:=i64w ((x.toNat:Int) / 16) (by omega) (by omega)
  have c1:=sdigC (x.toNat / 16) (by omega)
  have c2:=sdigC (x.toNat % 16) (by omega)
  rw[show((x.toNat / 16:Nat):Int)=(x.toNat:Int) / 16 by omega]at c1
  rw[show((x.toNat % 16:Nat):Int)=(x.toNat:Int) % 16 by omega]at c2
  simp -implicitDefEqProofs [h1,e0,e1,w1,q1,q2,w2]
  refine c1.call ?_
  simp -implicitDefEqProofs [h1,e0,e1,w1,q1,q2,w2]
  refine c2.call ?_
  simp -implicitDefEqProofs
  refine⟨by omega,?_⟩
  refine nx (i+1,out++[digB (x.toNat / 16),digB (x.toNat % 16)]) [(26,900)] ⟨by simp only;omega,by simp;omega,by simp only[h3];simpa using hd⟩ (by simp only;omega) (h4:=?_)
  simp[obOf,e2,List.take_of_length_le,renL_u8c,u8row]
  try trace_state
theorem sealB_len (s:List UInt8):(sealB s).length≤70000:=by
 unfold sealB
 split
 ·simp
 ·have h1:=ddig_len (sumB s (1+s.length % 997)) []
  have h2:=sumB_lt s (1+s.length % 997) (by omega)
  simp at h1 ⊢
  omega
structure LT where
 ls:Int
 la:Int
 lx:List UInt8
deriving DecidableEq,Inhabited
def LT.row (w:LT):List AV:=[.int .i64 w.ls,.int .i64 w.la,.str w.lx]
structure DK where
 s0:List (List UInt8)
 s1:List (List UInt8)
 late:List LT
deriving DecidableEq,Inhabited
def DK.row (d:DK):List AV:=[.lst 1 (d.s0.map qaf),.lst 1 (d.s1.map qaf),.lst 3 (d.late.map LT.row)]
def ltOb (l:List LT):Ob:=⟨3,l.map LT.row⟩
structure DkT (d:DK):Prop where
 l0:d.s0.length≤1048576
 l1:d.s1.length≤1048576
 l2:d.late.length≤1048576
 t0:∀ x∈d.s0,x.length≤1048576
 t1:∀ x∈d.s1,x.length≤1048576
 t2:∀ w∈d.late,w.lx.length≤1048576
def qbw (d:DK) (side at':Int) (text:List UInt8):Bool:=decide (0≤side) && decide (side≤1) && decide (0≤at') && decide (at'<d.s0.length) && decide (text.length≤420)
theorem sThereC (d:DK) (h:DkT d) (side at':Int) (text:List UInt8) (ht:text.length≤1048576):CV prog 143 [.agg d.row,.int .i64 side,.int .i64 at',.str text] (.bool (qbw d side at' text)):=by
 have:=h.l0
 refine cvx func143 [] ntmps143 rfl rfl rfl ?_ (hca:=by simp[DK.row])
 simp -implicitDefEqProofs [DK.row,qbw]
 grind
def dOkB (d:DK):Bool:=decide (1≤d.s0.length) && decide (d.s0.length≤120) && decide (d.s1.length=d.s0.length) && decide (d.late.length≤600) &&
 d.s0.all (fun x=>decide (x.length≤420)) && d.s1.all (fun x=>decide (x.length≤420)) && d.late.all (fun w=>qbw d w.ls w.la w.lx)
theorem sDiskOkC (d:DK) (h:DkT d):CV prog 68 [.agg d.row] (.bool (dOkB d)):=by
 obtain⟨R,hR⟩:∃ R,dOkB d=R:=⟨_,rfl⟩
 rw[hR]
 have h0:=h.l0
 have h1:=h.l1
 have h2:=h.l2
 refine cvx func68 [(12,[zJ 0 [1] [],zJ 1 [] [1],zJ 2 [1] [1],zJ 3 [] [1],zJ 4 [] [1],zJ 5 [] [1],zJ 6 [] [1],zJ 7 [] [1],zJ 8 [1] [1],zJ 9 [] [1],zJ 10 [] [1],zJ 11 [] [1],zJ 12 [] [1],zJ 13 [] [1],zJ 14 [1] [1],zJ 15 [] [1],zJ 16 [] [1],zJ 17 [] [1],zJ 18 [] [1],zI 19,zI 20])] ntmps68 rfl rfl rfl ?_ (hca:=by simp[DK.row])
 by_cases g:1≤d.s0.length∧d.s0.length≤120∧d.s1.length=d.s0.length∧d.late.length≤600
 rotate_left
 ·have:R=false:=by rw[← hR];unfold dOkB;grind
  subst this
  simp -implicitDefEqProofs [DK.row]
  grind
 obtain⟨g1,g2,g3,g4⟩:=g
 have g1':¬ (d.s0.length:Int)<1:=by omega
 have g2':¬ 120<(d.s0.length:Int):=by omega
 have g4':¬ 600<(d.late.length:Int):=by omega
 simp -implicitDefEqProofs [DK.row,g1',g2',g3,g4']
 refine ev_lp (X:=Nat) [1,2,3,4] [(1,1)] (fun i=>[(4,.int .i64 i)]) (fun _=>[]) (fun i=>d.s0.length-i) (fun i=>i≤d.s0.length∧((d.s0.drop i).all (fun x=>decide (x.length≤420)) && (d.s1.drop i).all (fun x=>decide (x.length≤420)) && d.late.all (fun w=>qbw d w.ls w.la w.lx))=R) 0 (by simp[← hR,dOkB,g1,g2,g3,g4]) ?_ (he:=by simp[obOf])
 rintro i ⟨hi,hd⟩
 by_cases hlt:i<d.s0.length
 ·have hlt1:i<d.s1.length:=by omega
  have k0:=List.drop_eq_getElem_cons hlt
  have k1:=List.drop_eq_getElem_cons hlt1
  generalize ex:d.s0[i]=x at *
  generalize ey:d.s1[i]=y at *
  have hx:=List.getElem?_eq_some_iff.2 ⟨hlt,ex⟩
  have hy:=List.getElem?_eq_some_iff.2 ⟨hlt1,ey⟩
  rw[k0,k1]at hd
  simp only[List.all_cons]at hd
  have hli:(i:Int)<d.s0.length:=by omega
  have e2:=i64w ((i:Int)+1) (by omega) (by omega)
  simp -implicitDefEqProofs [obOf,qaf,hlt,hlt1,ex,ey,hx,hy,hli,e2,g3]
  repeat' first
   | with_reducible refine And.intro ?_ ?_
   | with_reducible intro _
  all_goals first
   | exact nx (i+1) [(1,1)] (by grind) (h4:=by simp[obOf])
   | grind
 ·have hie:i=d.s0.length:=by omega
  subst hie
  rw[List.drop_of_length_le (Nat.le_refl _),List.drop_of_length_le (by omega)]at hd
  simp only[List.all_nil,Bool.true_and]at hd
  simp -implicitDefEqProofs [obOf]
  refine ev_lp (X:=Nat) [1,2,3,5] [(1,1)] (fun i=>[(5,.int .i64 i)]) (fun _=>[]) (fun i=>d.late.length-i) (fun i=>i≤d.late.length∧((d.late.drop i).all (fun w=>qbw d w.ls w.la w.lx))=R) 0 (by simp[hd]) ?_ (he:=by simp[obOf])
  rintro i ⟨hi,hd⟩
  cases hr:d.late.drop i with
  | nil =>
   have:=dropn hr
   rw[hr]at hd
   have hie:i=d.late.length:=by omega
   subst hie
   simp -implicitDefEqProofs [obOf]
   simpa using hd
  | cons w q =>
   obtain⟨k1,e0,e1,k3⟩:=dropc hr
   rw[hr]at hd
   simp only[List.all_cons]at hd
   have hli:(i:Int)<d.late.length:=by omega
   have e2:=i64w ((i:Int)+1) (by omega) (by omega)
   have hw:=h.t2 w (List.mem_of_getElem? e1)
   have c:=sThereC d h w.ls w.la w.lx hw
   simp only[DK.row]at c
   simp -implicitDefEqProofs [obOf,LT.row,k1,e0,e1,hli,e2]
   refine c.call ?_
   simp -implicitDefEqProofs [e2]
   repeat' first
    | with_reducible refine And.intro ?_ ?_
    | with_reducible intro _
   all_goals first
    | exact nx (i+1) [(1,1)] (by grind) (h4:=by simp[obOf,e2])
    | grind
def lateF (side at':Int) (w:LT):Bool:=decide (w.ls=side) && decide (w.la=at')
def sideL (d:DK) (side:Int):List (List UInt8):=if side=0 then d.s0 else d.s1
def readB (d:DK) (side at':Int):List UInt8:=match d.late.reverse.find? (lateF side at')with
 | some w=>w.lx
 | none=>(sideL d side)[at'.toNat]?.getD []
theorem find_rev {α:Type} (p:α→Bool) {l:List α} {i:Nat} {x:α} (h:l[i]?=some x) (ha:(l.drop (i+1)).all (fun y=>!p y)=true):(if p x=true then l.reverse.find? p=some x else l.reverse.find? p=(l.take i).reverse.find? p):=by
 have e:l=l.take i++x::l.drop (i+1):=by
  obtain⟨h1,rfl⟩:=List.getElem?_eq_some_iff.1 h
  rw[← List.drop_eq_getElem_cons h1,List.take_append_drop]
 have e2:l.reverse=(l.drop (i+1)).reverse++x::(l.take i).reverse:=by
  conv=>lhs;rw[e]
  simp
 have e3:(l.drop (i+1)).reverse.find? p=none:=by
  rw[List.find?_eq_none]
  intro y hy
  rw[List.mem_reverse]at hy
  simpa using List.all_eq_true.1 ha y hy
 rw[e2,List.find?_append,e3,Option.none_or,List.find?_cons]
 cases p x <;> simp
theorem sReadC' (d:DK) (h:DkT d) (side at':Int) (hs:side=0∨side=1) (ha:0≤at'∧at'<d.s0.length) (h1:d.s1.length=d.s0.length):CV prog 191 [.agg d.row,.int .i64 side,.int .i64 at'] (.str (readB d side at')):=by
 obtain⟨R,hR⟩:∃ R,readB d side at'=R:=⟨_,rfl⟩
 rw[hR]
 have h0:=h.l0
 have h2:=h.l2
 refine cvx func191 [] ntmps191 rfl rfl rfl ?_ (hca:=by simp[DK.row])
 have e0:=i64w ((d.late.length:Int)-1) (by omega) (by omega)
 simp -implicitDefEqProofs [DK.row,e0]
 refine ev_lp (X:=Nat) [1,2,3,7] [(3,3)] (fun i=>[(7,.int .i64 ((i:Int)-1))]) (fun _=>[]) (fun i=>i) (fun i=>i≤d.late.length∧(d.late.drop i).all (fun w=>!lateF side at' w)=true) d.late.length (by simp) ?_ (he:=by simp[obOf])
 rintro i ⟨hi,hd⟩
 cases i with
 | zero =>
  have hf:d.late.reverse.find? (lateF side at')=none:=by
   rw[List.find?_eq_none]
   intro y hy
   rw[List.mem_reverse]at hy
   simpa using List.all_eq_true.1 hd y hy
  unfold readB at hR
  rw[hf]at hR
  have ha0:at'.toNat<d.s0.length:=by omega
  have ha1:at'.toNat<d.s1.length:=by omega
  have ha1':at'<d.s1.length:=by omega
  rcases hs with rfl | rfl
  ·have hx:d.s0[at'.toNat]?=some R:=by
    rw[List.getElem?_eq_getElem ha0]
    simpa [sideL,List.getElem?_eq_getElem ha0]using hR
   have hx0:=(List.getElem?_eq_some_iff.1 hx).2
   simp -implicitDefEqProofs [obOf,ha.1,ha.2,ha0,hx,hx0,qaf]
  ·have hx:d.s1[at'.toNat]?=some R:=by
    rw[List.getElem?_eq_getElem ha1]
    simpa [sideL,List.getElem?_eq_getElem ha1]using hR
   have hx0:=(List.getElem?_eq_some_iff.1 hx).2
   simp -implicitDefEqProofs [obOf,ha.1,ha1',ha1,hx,hx0,qaf]
 | succ k =>
  have hk:k<d.late.length:=by omega
  obtain⟨w,hw⟩:∃ w,d.late[k]?=some w:=⟨_,List.getElem?_eq_getElem hk⟩
  have hw0:=(List.getElem?_eq_some_iff.1 hw).2
  have e1:((k+1:Nat):Int)-1=k:=by omega
  have e2:(0:Int)≤k:=by omega
  have e3:(k:Int)<d.late.length:=by omega
  have e4:=i64w ((k:Int)-1) (by omega) (by omega)
  have hf:=find_rev (lateF side at') hw hd
  have hdk:(d.late.drop k).all (fun w=>!lateF side at' w)=(!lateF side at' w && (d.late.drop (k+1)).all (fun w=>!lateF side at' w)):=by
   rw[List.drop_eq_getElem_cons hk,hw0,List.all_cons]
  have hnx:lateF side at' w=false→∀ x∈d.late.drop k,lateF side at' x=false:=fun hl x hx=>by
   rw[hl,hd]at hdk
   simpa using List.all_eq_true.1 hdk x hx
  have hlx:lateF side at' w=true→w.lx=R:=fun hl=>by
   rw[if_pos hl]at hf
   unfold readB at hR
   rw[hf]at hR
   exact hR
  simp only[e1]
  simp -implicitDefEqProofs [obOf,LT.row,hk,hw,hw0,e2,e3,e4]
  refine⟨fun q1=>⟨fun q2=>hlx (by simp[lateF,q1,q2]),fun q2=>nx k [(3,3)] ⟨by omega,hnx (by simp[lateF,q2])⟩ (h4:=by simp[obOf,e4])⟩,fun q1=>nx k [(3,3)] ⟨by omega,hnx (by simp[lateF,q1])⟩ (h4:=by simp[obOf,e4])⟩
theorem dOk_len {d:DK} (h:dOkB d=true):1≤d.s0.length∧d.s0.length≤120∧d.s1.length=d.s0.length∧d.late.length≤600∧(∀ x∈d.s0,x.length≤420)∧(∀ x∈d.s1,x.length≤420)∧∀ w∈d.late,qbw d w.ls w.la w.lx=true:=by
 simp only[dOkB,Bool.and_eq_true,decide_eq_true_eq,List.all_eq_true]at h
 obtain⟨⟨⟨⟨⟨⟨g1,g2⟩,g3⟩,g4⟩,g5⟩,g6⟩,g7⟩:=h
 exact⟨g1,g2,g3,g4,g5,g6,g7⟩
theorem thereB_iff {d:DK} {side at':Int} {t:List UInt8}:qbw d side at' t=true↔(side=0∨side=1)∧(0≤at'∧at'<d.s0.length)∧t.length≤420:=by
 simp only[qbw,Bool.and_eq_true,decide_eq_true_eq]
 omega
theorem dOk_T {d:DK} (h:dOkB d=true):DkT d:=by
 obtain⟨g1,g2,g3,g4,g5,g6,g7⟩:=dOk_len h
 refine⟨by omega,by omega,by omega,fun x hx=>by have:=g5 x hx;omega,fun x hx=>by have:=g6 x hx;omega,fun w hw=>?_⟩
 have:=(thereB_iff.1 (g7 w hw)).2.2
 omega
theorem readB_len {d:DK} (h:dOkB d=true) (side at':Int):(readB d side at').length≤420:=by
 obtain⟨g1,g2,g3,g4,g5,g6,g7⟩:=dOk_len h
 unfold readB
 split
 ·rename_i w hw
  have:=List.mem_of_find?_eq_some hw
  rw[List.mem_reverse]at this
  exact(thereB_iff.1 (g7 w this)).2.2
 ·unfold sideL
  split
  ·cases e:d.s0[at'.toNat]? with
   | none=>simp
   | some x=>simpa using g5 x (List.mem_of_getElem? e)
  ·cases e:d.s1[at'.toNat]? with
   | none=>simp
   | some x=>simpa using g6 x (List.mem_of_getElem? e)
def dReadB (d:DK) (side at':Int):List UInt8×Bool:=if dOkB d && qbw d side at' [] then (readB d side at',true) else ([],false)
theorem sReadC (d:DK) (h:DkT d) (side at':Int):CV prog 188 [.agg d.row,.int .i64 side,.int .i64 at'] (.tup [.str (dReadB d side at').1,.bool (dReadB d side at').2]):=by
 have c1:=sDiskOkC d h
 have c2:=sThereC d h side at' [] (by simp)
 unfold dReadB
 refine cvx func188 [] ntmps188 rfl rfl rfl ?_ (hca:=by simp[DK.row])
 cases g1:dOkB d with
 | false =>
  rw[g1]at c1
  simp only[DK.row]at c1
  simp -implicitDefEqProofs [DK.row]
  refine c1.call ?_
  simp -implicitDefEqProofs
 | true =>
  rw[g1]at c1
  cases g2:qbw d side at' []with
  | false =>
   rw[g2]at c2
   simp only[DK.row]at c1 c2
   simp -implicitDefEqProofs [DK.row]
   refine c1.call ?_
   simp -implicitDefEqProofs
   refine c2.call ?_
   simp -implicitDefEqProofs
  | true =>
   rw[g2]at c2
   obtain⟨k1,k2,k3⟩:=thereB_iff.1 g2
   have c3:=sReadC' d h side at' k1 k2 (dOk_len g1).2.2.1
   simp only[DK.row]at c1 c2 c3
   simp -implicitDefEqProofs [DK.row]
   refine c1.call ?_
   simp -implicitDefEqProofs
   refine c2.call ?_
   simp -implicitDefEqProofs
   refine c3.call ?_
   simp -implicitDefEqProofs
def smB (s:List UInt8):Nat:=sumB s (1+s.length % 997)
theorem smB_lt (s:List UInt8):smB s<65521:=sumB_lt s _ (by omega)
theorem sSumC (s:List UInt8) (hs:s.length≤maxLen):CV prog 266 [.str s] (.int .i64 (smB s:Nat)):=ssumC s hs
theorem dReadB_len (d:DK) (side at':Int):(dReadB d side at').1.length≤420:=by
 unfold dReadB
 split
 ·rename_i h
  simp only[Bool.and_eq_true]at h
  exact readB_len h.1 side at'
 ·simp
def qbj (d:DK) (p:PT) (side:Int):Bool:=(dReadB d side p.pa).2 && ptOkB p && decide (0<p.pa) && decide ((smB (dReadB d side p.pa).1:Int)=p.ps)
theorem sSideC (d:DK) (h:DkT d) (p:PT) (side:Int):CV prog 190 [.agg d.row,.agg p.row,.int .i64 side] (.bool (qbj d p side)):=by
 have c1:=sReadC d h side p.pa
 have c2:=sPtrOkC p
 have c3:=sSumC (dReadB d side p.pa).1 (by have:=dReadB_len d side p.pa;simp[maxLen];omega)
 unfold qbj
 generalize dReadB d side p.pa=x at *
 obtain⟨t,ok⟩:=x
 simp only[DK.row,PT.row]at c1 c2 c3
 refine cvx func190 [(2,[zI 0,zI 1,zJ 2 [4] [],zI 3,zI 4,zI 5,zI 6,zJ 7 [4] [],zI 8,zI 9,zI 10,zI 11,zI 13,zJ 14 [4] [],zJ 12 [] [4],zI 15,zI 16,zI 17])] ntmps190 rfl rfl rfl ?_ (hca:=by simp[DK.row,PT.row])
 simp -implicitDefEqProofs [DK.row,PT.row]
 refine c1.call ?_
 cases ok with
 | false=>simp -implicitDefEqProofs
 | true =>
  simp -implicitDefEqProofs
  refine c2.call ?_
  cases ptOkB p with
  | false=>simp -implicitDefEqProofs
  | true =>
   simp -implicitDefEqProofs
   refine⟨fun hp=>?_,fun hp=>by omega⟩
   refine c3.call ?_
   simp -implicitDefEqProofs [hp]
   first | rfl | simp[Bool.eq_iff_iff]
def qcb (d:DK) (p:PT):List UInt8×Int :=
 if (ptOkB p && decide (p.pa=0))=true then ([],1) else if qbj d p 0=true then (readB d 0 p.pa,0) else if qbj d p 1=true then (readB d 1 p.pa,0) else ([],2)
theorem side_read {d:DK} {p:PT} {side:Int} (h:qbj d p side=true):dOkB d=true∧ptOkB p=true∧0<p.pa∧qbw d side p.pa []=true∧(smB (readB d side p.pa):Int)=p.ps:=by
 simp only[qbj,Bool.and_eq_true,decide_eq_true_eq]at h
 obtain⟨⟨⟨h1,h2⟩,h3⟩,h4⟩:=h
 unfold dReadB at h1 h4
 split at h1
 ·rename_i g
  rw[if_pos g]at h4
  simp only[Bool.and_eq_true]at g
  exact⟨g.1,h2,h3,g.2,h4⟩
 ·cases h1
theorem sBlkReadC (d:DK) (h:DkT d) (p:PT):CV prog 106 [.agg d.row,.agg p.row] (.tup [.str (qcb d p).1,.int .i64 (qcb d p).2]):=by
 obtain⟨R,hR⟩:∃ R,qcb d p=R:=⟨_,rfl⟩
 rw[hR]
 unfold qcb at hR
 have c2:=sPtrOkC p
 simp only[PT.row]at c2
 refine cvx func106 [] ntmps106 rfl rfl rfl ?_ (hca:=by simp[DK.row,PT.row])
 simp -implicitDefEqProofs [DK.row,PT.row]
 refine c2.call ?_
 by_cases hz:(ptOkB p && decide (p.pa=0))=true
 ·rw[if_pos hz]at hR
  simp only[Bool.and_eq_true,decide_eq_true_eq]at hz
  simp -implicitDefEqProofs [hz.1,hz.2,← hR]
 rw[if_neg hz]at hR
 have hz':¬ (ptOkB p=true∧p.pa=0):=by simpa using hz
 have key:∀ j:Nat,j<2→qbj d p j=true→(∀ k:Nat,k<j→qbj d p k=false)→R=(readB d j p.pa,0):=fun j hj h1 h2=>by
  rw[← hR]
  rcases(show j=0∨j=1 by omega)with rfl | rfl
  ·have h1':qbj d p 0=true:=h1
   simp[h1']
  ·have h2':qbj d p 0=false:=h2 0 (by omega)
   have h1':qbj d p 1=true:=h1
   simp[h1',h2']
 have key2:qbj d p 0=false→qbj d p 1=false→R=([],2):=fun h1 h2=>by rw[← hR,h1,h2];simp
 have hcase:ptOkB p=false∨(ptOkB p=true∧¬ p.pa=0):=by
  cases g:ptOkB p with
  | false=>exact .inl rfl
  | true=>exact .inr ⟨rfl,fun e=>hz' ⟨g,e⟩⟩
 rcases hcase with hp | ⟨hp,hpa⟩
 rotate_left
 simp -implicitDefEqProofs [hp,hpa]
 rotate_left
 simp -implicitDefEqProofs [hp]
 all_goals
  refine ev_lp (X:=Nat) [2,3,4,5,6] [(2,2),(3,3)] (fun i=>[(6,.int .i64 i)]) (fun _=>[]) (fun i=>2-i) (fun i=>i≤2∧∀ k:Nat,k<i→qbj d p k=false) 0 (by simp) ?_ (he:=by simp[obOf])
  rintro i ⟨hi,hf⟩
  by_cases h2:i=2
  ·subst h2
   have:=key2 (hf 0 (by omega)) (hf 1 (by omega))
   simp -implicitDefEqProofs [obOf,this]
  ·have h2':i<2:=by omega
   have h2i:(i:Int)<2:=by omega
   have e2:=i64w ((i:Int)+1) (by omega) (by omega)
   have c4:=sSideC d h p i
   simp only[DK.row,PT.row]at c4
   simp -implicitDefEqProofs [obOf,h2i]
   refine c4.call ?_
   cases hb:qbj d p i with
   | true =>
    have hk:=key i h2' hb hf
    obtain⟨m1,m2,m3,m4,m5⟩:=side_read hb
    obtain⟨n1,n2,n3⟩:=thereB_iff.1 m4
    have c5:=sReadC' d h i p.pa n1 n2 (dOk_len m1).2.2.1
    simp only[DK.row]at c5
    simp -implicitDefEqProofs
    refine c5.call ?_
    simp -implicitDefEqProofs [hk]
   | false =>
    simp -implicitDefEqProofs
    exact nx (i+1) [(2,2),(3,3)] ⟨by omega,fun k hk=>by
     rcases(show k<i∨k=i by omega)with h | rfl
     ·exact hf k h
     ·exact hb⟩ (h4:=by simp[obOf,e2])
theorem sCopyO (d:DK) (h:DkT d):ACall prog 54 [.agg d.row] [] (fun r L'=>r=.agg [.sl 7 0 d.s0.length,.sl 12 0 d.s1.length,.sl 17 0 d.late.length]∧L'=[(7,strOb d.s0),(12,strOb d.s1),(17,ltOb d.late)]):=by
 have h0:=h.l0
 have h1:=h.l1
 have h2:=h.l2
 refine acx func54 [(1,[zI 1,zI 2,zJ 3 [1] [],zJ 6 [] [1],zJ 7 [] [1],zJ 8 [1] [1],zJ 12 [] [1],zJ 13 [1] [1],zJ 0 [] [1],zJ 4 [0,3] [1],zJ 5 [] [1],zJ 9 [0,8] [1],zJ 10 [] [1],zJ 11 [] [1],zJ 14 [0,14] [],zI 15,zI 16])] ntmps54 rfl rfl rfl ?_
 simp -implicitDefEqProofs [DK.row,strOb,ltOb]
 refine⟨⟨by omega,fun x _ y hy=>?_⟩,⟨by omega,fun x _ y hy=>?_⟩,by omega,fun x _ y hy=>?_⟩
 ·simp only[qaf,List.mem_cons,List.not_mem_nil,or_false]at hy;subst hy;rfl
 ·simp only[qaf,List.mem_cons,List.not_mem_nil,or_false]at hy;subst hy;rfl
 ·simp only[LT.row,List.mem_cons,List.not_mem_nil,or_false]at hy;rcases hy with rfl | rfl | rfl <;> rfl
theorem sCopyC (d:DK) (h:DkT d):CV prog 54 [.agg d.row] (.agg d.row):=by
 refine CV.of_frz (sCopyO d h) ?_ (hca:=by simp[DK.row]) (hcv:=by simp[DK.row])
 rintro r L' ⟨rfl,rfl⟩
 refine⟨by simp,by simp,by simp[clR,strOb,ltOb,qaf,LT.row],?_⟩
 simp[frzAll,DK.row,strOb,ltOb,List.take_of_length_le]
 exact qba _
def blkToB (at':Int) (text:List UInt8) (birth:Int):PT:=if at'<1∨ptOkB ⟨at',smB text,birth⟩=false then ⟨0,0,0⟩ else ⟨at',smB text,birth⟩
theorem sBlkToC (at':Int) (text:List UInt8) (birth:Int) (ht:text.length≤maxLen):CV prog 159 [.int .i64 at',.str text,.int .i64 birth] (.agg (blkToB at' text birth).row):=by
 have c1:=sSumC text ht
 have c2:=sPtrOkC ⟨at',smB text,birth⟩
 unfold blkToB
 simp only[PT.row]at c2
 refine cvx func159 [] ntmps159 rfl rfl rfl ?_ (hcv:=by simp[PT.row])
 simp -implicitDefEqProofs
 refine c1.call ?_
 simp -implicitDefEqProofs
 by_cases h1:at'<1
 ·simp -implicitDefEqProofs [h1,PT.row]
  intro h;omega
 ·simp -implicitDefEqProofs [h1]
  intro _
  refine c2.call ?_
  cases ptOkB ⟨at',smB text,birth⟩with
  | true=>simp -implicitDefEqProofs [h1,PT.row]
  | false=>simp -implicitDefEqProofs [h1,PT.row]
theorem CV.of_imp {P:Program} {f:Nat} {args:List AV} {v:AV} (h:ACall P f args [] (fun r L'=>impA r v∧L'=[])) (he:enters P f=true:=by kernel_rfl) (hca:clL args=true:=by simp) (hcv:clA v=true:=by simp):CV P f args v :=
 ⟨he,hca,hcv,h.imp fun r L' ⟨h1,h2⟩=>⟨v,h1,rfl,h2⟩⟩
@[simp] theorem impA_rfl (r:AV):impA r r=True:=eq_true (qba r)
def zDK:DK:=⟨[],[],[]⟩
theorem impA_zd:impA (.agg [.nils,.nils,.nils]) (.agg zDK.row):=impA_ag (.cons (qbn 1) (.cons (qbn 1) (.cons (qbn 3) .nil)))
theorem qap {α β:Type} (f:α→β) (l:List α):List.take l.length (List.map f l)=List.map f l:=List.take_of_length_le (by simp)
@[simp] theorem renL_strRow (ρ:Nat→Option Plc):renL ρ ∘ qaf=qaf:=by funext x;simp[qaf]
@[simp] theorem renL_ltRow (ρ:Nat→Option Plc):renL ρ ∘ LT.row=LT.row:=by funext x;simp[LT.row]
@[simp] theorem renOb_strOb (ρ:Nat→Option Plc) (l:List (List UInt8)):renOb ρ (strOb l)=strOb l:=by simp[strOb,renOb]
@[simp] theorem renOb_ltOb (ρ:Nat→Option Plc) (l:List LT):renOb ρ (ltOb l)=ltOb l:=by simp[ltOb,renOb]
def qbl (d:DK) (side at':Int) (text:List UInt8):DK×Bool :=
 if dOkB d=false then (zDK,false) else if qbw d side at' text=false∨d.late.length=600 then (d,false) else (⟨d.s0,d.s1,d.late++[⟨side,at',text⟩]⟩,true)
theorem sWriteC (d:DK) (h:DkT d) (side at':Int) (text:List UInt8) (ht:text.length≤1048576):CV prog 270 [.agg d.row,.int .i64 side,.int .i64 at',.str text] (.tup [.agg (qbl d side at' text).1.row,.bool (qbl d side at' text).2]):=by
 obtain⟨R,hR⟩:∃ R,qbl d side at' text=R:=⟨_,rfl⟩
 rw[hR]
 unfold qbl at hR
 have h2:=h.l2
 have c1:=sDiskOkC d h
 have c2:=sThereC d h side at' text ht
 have co:=sCopyO d h
 simp only[DK.row]at c1 c2 co
 have key:ACall prog 270 [.agg d.row,.int .i64 side,.int .i64 at',.str text] [] (fun r L'=>(R=(zDK,false)∧r=.tup [.agg [.nils,.nils,.nils],.bool false]∧L'=[]) ∨
   (∃ id,(id=17∨id=37)∧r=.tup [.agg [.sl 7 0 R.1.s0.length,.sl 12 0 R.1.s1.length,.sl id 0 R.1.late.length],.bool R.2]∧L'=[(7,strOb R.1.s0),(12,strOb R.1.s1),(id,ltOb R.1.late)])):=by
  refine acx func270 [] ntmps270 rfl rfl rfl ?_
  simp -implicitDefEqProofs [DK.row]
  refine c1.call ?_
  cases hok:dOkB d with
  | false =>
   rw[if_pos hok]at hR
   simp -implicitDefEqProofs [← hR]
  | true =>
   rw[if_neg (by simp[hok])]at hR
   simp -implicitDefEqProofs
   refine qab [] (by kernel_rfl) co (by simp) (by simp) trivial (by simp) (by simp) ?_
   rintro r L' ⟨rfl,rfl⟩
   refine⟨[(7,7),(12,12),(17,17)],⟨by simp,by simp,by simp,by simp,by simp⟩,?_⟩
   simp only[qae]
   simp -implicitDefEqProofs
   refine c2.call ?_
   cases hth:qbw d side at' text with
   | false =>
    rw[if_pos (.inl hth)]at hR
    simp -implicitDefEqProofs [← hR]
   | true =>
    by_cases h6:d.late.length=600
    ·rw[if_pos (.inr h6)]at hR
     have h6':(d.late.length:Int)=600:=by omega
     simp -implicitDefEqProofs [← hR,h6']
    ·rw[if_neg (by simp[hth,h6])]at hR
     have h6':¬ (d.late.length:Int)=600:=by omega
     simp -implicitDefEqProofs [← hR,h6',ltOb,qap,LT.row]
     omega
 refine CV.of_frz key ?_ (hca:=by simp[DK.row]) (hcv:=by simp[DK.row])
 rintro r L' (⟨rfl,rfl,rfl⟩ | ⟨id,hid,rfl,rfl⟩)
 ·refine⟨by simp,by simp,by simp,?_⟩
  simp only[frzAll]
  exact impA_tu (.cons impA_zd (.cons (qba _) .nil))
 ·rcases hid with rfl | rfl
  all_goals
   refine⟨by simp,by simp,by simp[clR,strOb,ltOb,qaf,LT.row],?_⟩
   simp[frzAll,DK.row,strOb,ltOb,qap]
def putP (p:List (List UInt8)×List (List UInt8)) (w:LT):List (List UInt8)×List (List UInt8):=if w.ls=0 then (p.1.set w.la.toNat w.lx,p.2) else (p.1,p.2.set w.la.toNat w.lx)
def qbr (d:DK):DK:=if dOkB d=true then ⟨(d.late.foldl putP (d.s0,d.s1)).1,(d.late.foldl putP (d.s0,d.s1)).2,[]⟩ else zDK
theorem putP_len (p:List (List UInt8)×List (List UInt8)) (w:LT):(putP p w).1.length=p.1.length∧(putP p w).2.length=p.2.length:=by
 unfold putP;split <;> simp
theorem sFlushC (d:DK) (h:DkT d):CV prog 245 [.agg d.row] (.agg (qbr d).row):=by
 obtain⟨R,hR⟩:∃ R,qbr d=R:=⟨_,rfl⟩
 rw[hR]
 unfold qbr at hR
 have h0:=h.l0
 have h1:=h.l1
 have h2:=h.l2
 have c1:=sDiskOkC d h
 have co:=sCopyO d h
 simp only[DK.row]at c1 co
 have key:ACall prog 245 [.agg d.row] [] (fun r L'=>(R=zDK∧r=.agg [.nils,.nils,.nils]∧L'=[]) ∨
   (r=.agg [.sl 7 0 R.s0.length,.sl 12 0 R.s1.length,.nils]∧R.late=[]∧L'=[(7,strOb R.s0),(12,strOb R.s1)])):=by
  refine acx func245 [(7,[zI 0,zJ 1 [1] [],zJ 2 [] [1],zI 3,zI 4,zI 5,zJ 6 [] [1],zI 7,zJ 8 [3] [],zJ 9 [] [1,3],zJ 10 [1] [1,3],zJ 11 [] [1,3],zJ 12 [] [1,3],zJ 13 [] [1,3],zJ 14 [] [1,3],zJ 15 [] [1,3],zJ 16 [1] [1,3],zJ 17 [] [1,3],zJ 18 [] [1,3],zJ 19 [] [1,3],zJ 20 [] [1,3],zJ 21 [7,12] [],zI 22])] ntmps245 rfl rfl rfl ?_
  simp -implicitDefEqProofs [DK.row]
  refine c1.call ?_
  cases hok:dOkB d with
  | false =>
   rw[if_neg (by simp[hok])]at hR
   simp -implicitDefEqProofs [← hR]
  | true =>
   rw[if_pos hok]at hR
   obtain⟨g1,g2,g3,g4,g5,g6,g7⟩:=dOk_len hok
   simp -implicitDefEqProofs
   refine qab [] (by kernel_rfl) co (by simp) (by simp) trivial (by simp) (by simp) ?_
   rintro r L' ⟨rfl,rfl⟩
   refine⟨[(7,7),(12,12),(17,17)],⟨by simp,by simp,by simp,by simp,by simp⟩,?_⟩
   simp only[qae]
   simp -implicitDefEqProofs
   refine ev_lp (X:=Nat×(List (List UInt8)×List (List UInt8))) [1,2,3,4] [(1,1),(2,2),(3,3),(7,7),(12,12),(17,17)] (fun x=>[(4,.int .i64 x.1)]) (fun x=>[(7,strOb x.2.1),(12,strOb x.2.2)]) (fun x=>d.late.length-x.1)
    (fun x=>x.1≤d.late.length∧x.2.1.length=d.s0.length∧x.2.2.length=d.s0.length∧(⟨((d.late.drop x.1).foldl putP x.2).1,((d.late.drop x.1).foldl putP x.2).2,[]⟩:DK)=R) (0,(d.s0,d.s1)) (by simp[hR,g3]) ?_ (he:=by simp[obOf])
   rintro⟨i,a,b⟩ ⟨hi,ha,hb,hd⟩
   simp only at hi ha hb hd
   cases hr:d.late.drop i with
   | nil =>
    have:=dropn hr
    rw[hr,List.foldl_nil]at hd
    have hie:i=d.late.length:=by omega
    subst hie
    simp -implicitDefEqProofs [obOf,← hd,ha,hb]
    exact g3
   | cons w q =>
    obtain⟨k1,e0,e1,k3⟩:=dropc hr
    rw[hr,List.foldl_cons]at hd
    have hw:=thereB_iff.1 (g7 w (List.mem_of_getElem? e1))
    obtain⟨w1,w2,w3⟩:=hw
    have hli:(i:Int)<d.late.length:=by omega
    have e2:=i64w ((i:Int)+1) (by omega) (by omega)
    have hl:(putP (a,b) w).1.length=a.length∧(putP (a,b) w).2.length=b.length:=putP_len (a,b) w
    rcases w1 with w1 | w1
    ·simp -implicitDefEqProofs [obOf,LT.row,k1,e0,e1,hli,e2,w1,w2.1,w2.2,strOb]
     refine⟨by omega,nx (i+1,putP (a,b) w) [(1,1),(2,2),(3,3),(7,7),(12,12),(17,17)] ⟨by simp only;omega,by simp only;omega,by simp only;omega,by simp only[k3];exact hd⟩ (by simp only;omega) (h4:=?_)⟩
     have hla:w.la.toNat<a.length:=by omega
     simp[obOf,e2,putP,w1,strOb,qaf,hla]
    ·simp -implicitDefEqProofs [obOf,LT.row,k1,e0,e1,hli,e2,w1,w2.1,w2.2,strOb]
     refine⟨by omega,by omega,nx (i+1,putP (a,b) w) [(1,1),(2,2),(3,3),(7,7),(12,12),(17,17)] ⟨by simp only;omega,by simp only;omega,by simp only;omega,by simp only[k3];exact hd⟩ (by simp only;omega) (h4:=?_)⟩
     have hla:w.la.toNat<b.length:=by omega
     simp[obOf,e2,putP,w1,strOb,qaf,hla]
 refine CV.of_frz key ?_ (hca:=by simp[DK.row]) (hcv:=by simp[DK.row])
 rintro r L' (⟨rfl,rfl,rfl⟩ | ⟨rfl,hl,rfl⟩)
 ·refine⟨by simp,by simp,by simp,?_⟩
  simp only[frzAll]
  exact impA_zd
 ·refine⟨by simp,by simp,by simp[clR,strOb,ltOb,qaf,LT.row],?_⟩
  simp[frzAll,DK.row,strOb,ltOb,qap,hl]
  exact impA_ag (.cons (qba _) (.cons (qba _) (.cons (qbn 3) .nil)))
theorem dWrite_T {d:DK} (h:DkT d) {side at':Int} {text:List UInt8} (ht:text.length≤1048576) (hl:d.late.length≤1048575):DkT (qbl d side at' text).1:=by
 unfold qbl
 split
 ·exact⟨by simp[zDK],by simp[zDK],by simp[zDK],by simp[zDK],by simp[zDK],by simp[zDK]⟩
 ·split
  ·exact h
  ·refine⟨h.l0,h.l1,by simp;omega,h.t0,h.t1,fun w hw=>?_⟩
   rcases List.mem_append.1 hw with hw | hw
   ·exact h.t2 w hw
   ·simp only[List.mem_cons,List.not_mem_nil,or_false]at hw
    subst hw;exact ht
def qaq (d:DK) (at':Int) (text:List UInt8):DK×Bool :=
 if dOkB d=false then (zDK,false) else if 598<d.late.length then (d,false) else
 if (qbl d 0 at' text).2=false then ((qbl d 0 at' text).1,false) else qbl (qbl d 0 at' text).1 1 at' text
theorem sBlkWriteC (d:DK) (h:DkT d) (at':Int) (text:List UInt8) (ht:text.length≤1048576):CV prog 161 [.agg d.row,.int .i64 at',.str text] (.tup [.agg (qaq d at' text).1.row,.bool (qaq d at' text).2]):=by
 obtain⟨R,hR⟩:∃ R,qaq d at' text=R:=⟨_,rfl⟩
 rw[hR]
 unfold qaq at hR
 have c1:=sDiskOkC d h
 have c2:=sCopyC d h
 have c3:=sWriteC d h 0 at' text ht
 simp only[DK.row]at c1
 have h2:=h.l2
 refine CV.of_imp ?_ (hca:=by simp[DK.row]) (hcv:=by simp[DK.row])
 refine acx func161 [] ntmps161 rfl rfl rfl ?_
 simp -implicitDefEqProofs [DK.row]
 refine c1.call ?_
 cases hok:dOkB d with
 | false =>
  rw[if_pos hok]at hR
  simp -implicitDefEqProofs [← hR]
  exact impA_tu (.cons impA_zd (.cons (qba _) .nil))
 | true =>
  rw[if_neg (by simp[hok])]at hR
  by_cases hl:598<d.late.length
  ·rw[if_pos hl]at hR
   have hl':(598:Int)<d.late.length:=by omega
   simp only[DK.row]at c2
   simp -implicitDefEqProofs [hl']
   refine c2.call ?_
   simp -implicitDefEqProofs [← hR]
  ·rw[if_neg hl]at hR
   have hl':¬ (598:Int)<d.late.length:=by omega
   have hT:=dWrite_T (side:=0) (at':=at') (text:=text) h ht (by omega)
   have c4:=sWriteC (qbl d 0 at' text).1 hT 1 at' text ht
   generalize qbl d 0 at' text=x at *
   obtain⟨x,ok⟩:=x
   simp only[DK.row]at c3 c4 hR
   simp -implicitDefEqProofs [hl']
   refine c3.call ?_
   cases ok with
   | false =>
    rw[if_pos rfl]at hR
    simp -implicitDefEqProofs [← hR]
   | true =>
    rw[if_neg (by simp)]at hR
    simp -implicitDefEqProofs
    refine c4.call ?_
    simp -implicitDefEqProofs [← hR]
def deOb (l:List DE):Ob:=⟨3,l.map DE.row⟩
@[simp] theorem renL_deRow (ρ:Nat→Option Plc):renL ρ ∘ DE.row=DE.row:=by funext x;simp[DE.row]
@[simp] theorem renOb_deOb (ρ:Nat→Option Plc) (l:List DE):renOb ρ (deOb l)=deOb l:=by simp[deOb,renOb]
theorem de_one (e:DE):∀ x∈e.row,oneA x=true:=oneA_row3 e
theorem noL_de (l:List DE):∀ x∈l.map DE.row,noL x=true:=fun x hx=>by
 obtain⟨e,_,rfl⟩:=List.mem_map.1 hx
 simp[DE.row]
theorem cl_de (l:List DE):∀ x∈l.map DE.row,clL x=true:=fun x hx=>by
 obtain⟨e,_,rfl⟩:=List.mem_map.1 hx
 simp[DE.row]
theorem one_de (l:List DE):∀ x∈l.map DE.row,∀ y∈x,oneA y=true:=fun x hx y hy=>by
 obtain⟨e,_,rfl⟩:=List.mem_map.1 hx
 exact de_one e y hy
theorem tk_to {α β:Type} (f:α→β) (l:List α) (k:Nat):(l.map f).take k=(l.take k).map f:=(List.map_take).symm
theorem dr_to {α β:Type} (f:α→β) (l:List α) (k:Nat):((l.map f).drop k).take (l.length-k)=(l.drop k).map f:=by
 rw[List.take_of_length_le (by simp),List.map_drop]
theorem qbh (l:List DE):clR (deOb l).els=true:=by simp[clR,deOb,DE.row]
theorem sECopyO (l:List DE) (hl:l.length≤1048576):ACall prog 130 [.lst 3 (l.map DE.row)] [] (fun r L'=>r=.sl 5 0 l.length∧L'=[(5,deOb l)]):=by
 refine acx func130 [] ntmps130 rfl rfl rfl ?_
 simp -implicitDefEqProofs [deOb]
 try omega
def ddAddB (l:List DE) (sum at':Int):List DE×Bool :=
 if qau l=false then ([],false) else if deOkB ⟨sum,at',1⟩=false then (l,false) else
 if ddT l at'=true then match l[ddP l at']? with
  | some e=>if e.es≠sum∨e.ec=1000 then (l,false) else (l.set (ddP l at') ⟨e.es,e.ea,e.ec+1⟩,true)
  | none=>(l,false)
 else if l.length=48 then (l,false) else (l.take (ddP l at')++⟨sum,at',1⟩::l.drop (ddP l at'),true)
theorem ddP_le (l:List DE) (a:Int):ddP l a≤l.length:=bsK_len _ l
theorem sAddC (l:List DE) (sum at':Int) (hl:l.length≤1048576):CV prog 260 [.lst 3 (l.map DE.row),.int .i64 sum,.int .i64 at'] (.tup [.lst 3 ((ddAddB l sum at').1.map DE.row),.bool (ddAddB l sum at').2]):=by
 obtain⟨R,hR⟩:∃ R,ddAddB l sum at'=R:=⟨_,rfl⟩
 rw[hR]
 unfold ddAddB at hR
 have c1:=sDdtOkC l hl
 have co:=sECopyO l hl
 have c2:=l5AtC l at' hl
 have c3:=sEntryC ⟨sum,at',1⟩
 simp only[DE.row]at c3
 have hk:=ddP_le l at'
 have key:ACall prog 260 [.lst 3 (l.map DE.row),.int .i64 sum,.int .i64 at'] [] (fun r L'=>(R=([],false)∧r=.tup [.nils,.bool false]∧L'=[]) ∨
   (∃ id,(id=5∨id=77)∧r=.tup [.sl id 0 R.1.length,.bool R.2]∧L'=[(id,deOb R.1)])):=by
  refine acx func260 [] ntmps260 rfl rfl rfl ?_
  simp -implicitDefEqProofs
  refine c1.call ?_
  cases hok:qau l with
  | false =>
   rw[if_pos hok]at hR
   simp -implicitDefEqProofs [← hR]
  | true =>
   rw[if_neg (by simp[hok])]at hR
   simp -implicitDefEqProofs
   refine qab [] (by kernel_rfl) co (by simp) (by simp) trivial (by simp) (by simp) ?_
   rintro r L' ⟨rfl,rfl⟩
   refine⟨[(5,5)],⟨by simp,by simp,by simp,by simp,by simp⟩,?_⟩
   simp only[qae]
   simp -implicitDefEqProofs
   refine c2.view (by simp[vwOk,mtA,deOb,qap]) ?_
   simp -implicitDefEqProofs
   refine c3.call ?_
   cases hde:deOkB ⟨sum,at',1⟩with
   | false =>
    rw[if_pos hde]at hR
    simp -implicitDefEqProofs [← hR]
   | true =>
    rw[if_neg (by simp[hde])]at hR
    simp -implicitDefEqProofs
    cases hT:ddT l at' with
    | true =>
     rw[if_pos hT]at hR
     obtain⟨e,he,hea⟩:=ddT_some hT
     have hkl:=(List.getElem?_eq_some_iff.1 he).1
     have hk0:=(List.getElem?_eq_some_iff.1 he).2
     rw[he]at hR
     have hc:=(ddt_ec hok).2 e (List.mem_of_getElem? he)
     have e2:=i64w (e.ec+1) (by omega) (by omega)
     simp only at hR
     simp -implicitDefEqProofs [deOb,hkl,hk0,he,DE.row,e2]
     refine⟨fun q1=>⟨fun q2=>?_,fun q2=>?_⟩,fun q1=>?_⟩
     ·rw[if_pos (.inr q2)]at hR
      subst hR;exact⟨rfl,rfl,rfl⟩
     ·rw[if_neg (fun h=>h.elim (fun h=>h q1) q2)]at hR
      subst hR
      simp[DE.row,List.map_set]
     ·rw[if_pos (.inl q1)]at hR
      subst hR;exact⟨rfl,rfl,rfl⟩
    | false =>
     rw[if_neg (by simp[hT])]at hR
     by_cases h48:l.length=48
     ·rw[if_pos h48]at hR
      have h48':(l.length:Int)=48:=by omega
      simp -implicitDefEqProofs [← hR,h48']
     ·rw[if_neg h48]at hR
      have h48':¬ (l.length:Int)=48:=by omega
      have cd:=sECopyO (l.drop (ddP l at')) (by simp;omega)
      simp -implicitDefEqProofs [h48']
      refine⟨⟨hk,rfl⟩,?_⟩
      refine qay [] (by kernel_rfl) cd (by simp[vwOk,mtA,deOb,hk];exact⟨List.take_of_length_le (by simp),fun x hx=>cl_de l x (List.mem_of_mem_drop hx)⟩) (by simp) trivial (by simp) (by simp) ?_
      rintro r L' ⟨rfl,rfl⟩
      refine⟨by simp,by simpa [deOb]using noL_de (l.drop (ddP l at')),[(5,67)],⟨by simp,by simp,by simp,by simp,by simp⟩,?_⟩
      simp only[qae]
      simp -implicitDefEqProofs [deOb]
      rw[dr_to,tk_to]
      subst hR
      have e1:List.take (ddP l at'+1) (List.map DE.row (List.take (ddP l at') l)++[[AV.int IntKind.i64 sum,AV.int IntKind.i64 at',AV.int IntKind.i64 1]])=List.map DE.row (List.take (ddP l at') l)++[[AV.int IntKind.i64 sum,AV.int IntKind.i64 at',AV.int IntKind.i64 1]]:=List.take_of_length_le (by simp;omega)
      rw[e1]
      refine⟨hk,⟨hk,by omega⟩,⟨by omega,by omega,one_de _⟩,by simp[DE.row],by simp;omega,rfl⟩
 refine CV.of_frz key ?_ (hca:=by simp[DE.row]) (hcv:=by simp[DE.row])
 rintro r L' (⟨rfl,rfl,rfl⟩ | ⟨id,hid,rfl,rfl⟩)
 ·refine⟨by simp,by simp,by simp,?_⟩
  simp only[frzAll]
  exact impA_tu (.cons (qbn 3) (.cons (qba _) .nil))
 ·rcases hid with rfl | rfl
  all_goals
   refine⟨by simp,by simp,by simpa using qbh _,?_⟩
   simp[frzAll,deOb,qap]
def ddDropB (l:List DE) (at':Int):List DE×Bool :=
 if qau l=false then ([],false) else if ddT l at'=false then (l,false) else
 match l[ddP l at']? with
 | some e=>if e.ec=1 then (l.take (ddP l at')++l.drop (ddP l at'+1),true) else (l.set (ddP l at') ⟨e.es,e.ea,e.ec-1⟩,true)
 | none=>(l,false)
theorem sDropC (l:List DE) (at':Int) (hl:l.length≤1048576):CV prog 261 [.lst 3 (l.map DE.row),.int .i64 at'] (.tup [.lst 3 ((ddDropB l at').1.map DE.row),.bool (ddDropB l at').2]):=by
 obtain⟨R,hR⟩:∃ R,ddDropB l at'=R:=⟨_,rfl⟩
 rw[hR]
 unfold ddDropB at hR
 have c1:=sDdtOkC l hl
 have co:=sECopyO l hl
 have c2:=l5AtC l at' hl
 have hk:=ddP_le l at'
 have key:ACall prog 261 [.lst 3 (l.map DE.row),.int .i64 at'] [] (fun r L'=>(R=([],false)∧r=.tup [.nils,.bool false]∧L'=[]) ∨
   (∃ id,(id=5∨id=47)∧r=.tup [.sl id 0 R.1.length,.bool R.2]∧L'=[(id,deOb R.1)])):=by
  refine acx func261 [(9,[zI 0,zI 1,zI 2,zI 4,zI 5,zI 6,zI 7,zI 3,zI 8,zI 9])] ntmps261 rfl rfl rfl ?_
  simp -implicitDefEqProofs
  refine c1.call ?_
  cases hok:qau l with
  | false =>
   rw[if_pos hok]at hR
   simp -implicitDefEqProofs [← hR]
  | true =>
   rw[if_neg (by simp[hok])]at hR
   simp -implicitDefEqProofs
   refine qab [] (by kernel_rfl) co (by simp) (by simp) trivial (by simp) (by simp) ?_
   rintro r L' ⟨rfl,rfl⟩
   refine⟨[(5,5)],⟨by simp,by simp,by simp,by simp,by simp⟩,?_⟩
   simp only[qae]
   simp -implicitDefEqProofs
   refine c2.view (by simp[vwOk,mtA,deOb,qap]) ?_
   cases hT:ddT l at' with
   | false =>
    rw[if_pos hT]at hR
    simp -implicitDefEqProofs [← hR]
   | true =>
    rw[if_neg (by simp[hT])]at hR
    obtain⟨e,he,hea⟩:=ddT_some hT
    have hkl:=(List.getElem?_eq_some_iff.1 he).1
    have hk0:=(List.getElem?_eq_some_iff.1 he).2
    rw[he]at hR
    simp only at hR
    have hc:=(ddt_ec hok).2 e (List.mem_of_getElem? he)
    have e2:=i64w (e.ec-1) (by omega) (by omega)
    have e3:=i64w ((ddP l at':Int)+1) (by omega) (by omega)
    have cd:=sECopyO (l.take (ddP l at')) (by simp;omega)
    rw[← tk_to]at cd
    simp -implicitDefEqProofs [deOb,hkl,hk0,he,DE.row,e2,e3]
    refine⟨fun q1=>⟨hk,⟨by omega,by omega⟩,?_⟩,fun q1=>?_⟩
    ·rw[if_pos (by omega)]at hR
     refine qab [] (by kernel_rfl) cd (by simp) (by simpa using fun x hx=>cl_de l x (List.mem_of_mem_take hx)) trivial (by simp) (by simp) ?_
     rintro r L' ⟨rfl,rfl⟩
     refine⟨[(5,42)],⟨by simp,by simp,by simp,by simp,by simp⟩,?_⟩
     simp only[qae]
     simp -implicitDefEqProofs [deOb]
     subst hR
     rw[dr_to,tk_to]
     have e4:min (ddP l at') l.length=ddP l at':=by omega
     rw[e4,List.take_of_length_le (by simp;omega)]
     exact⟨⟨by omega,one_de _⟩,by simp,by simp;omega,rfl⟩
    ·rw[if_neg (by omega)]at hR
     subst hR
     simp[DE.row,List.map_set]
 refine CV.of_frz key ?_ (hca:=by simp[DE.row]) (hcv:=by simp[DE.row])
 rintro r L' (⟨rfl,rfl,rfl⟩ | ⟨id,hid,rfl,rfl⟩)
 ·refine⟨by simp,by simp,by simp,?_⟩
  simp only[frzAll]
  exact impA_tu (.cons (qbn 3) (.cons (qba _) .nil))
 ·rcases hid with rfl | rfl
  all_goals
   refine⟨by simp,by simp,by simpa using qbh _,?_⟩
   simp[frzAll,deOb,qap]
def dec (n:Int):List UInt8:=ddig n.toNat []
theorem qaz (n:Int) (h:n<1000000000):(dec n).length≤9:=by
 unfold dec
 rw[ddig_dec]
 have:=dec_len n.toNat 9 (by omega) (by omega)
 simpa using this
theorem sdecI (n:Int) (h0:0≤n) (h:n<1000000000):CV prog 268 [.int .i64 n] (.str (dec n)):=by
 have:=sdecC n.toNat (by omega)
 have e:((n.toNat:Nat):Int)=n:=by omega
 rw[e]at this
 exact this
theorem ptOk_b {p:PT} (h:ptOkB p=true):0≤p.pa∧p.pa<120∧0≤p.ps∧p.ps<65521∧0≤p.pb∧p.pb≤1000000:=by
 unfold ptOkB at h
 split at h
 ·simp only[Bool.and_eq_true,decide_eq_true_eq]at h
  omega
 ·simp only[Bool.and_eq_true,decide_eq_true_eq]at h
  omega
def ptText (p:PT):List UInt8:=if ptOkB p=false then [] else if p.pa=0 then [45] else dec p.pa++(46::(dec p.ps++(46::dec p.pb)))
theorem ptText_len (p:PT):(ptText p).length≤29:=by
 unfold ptText
 split
 ·simp
 ·rename_i h
  have hb:=ptOk_b (p:=p) (by simpa using h)
  split
  ·simp
  ·have h1:=qaz p.pa (by omega)
   have h2:=qaz p.ps (by omega)
   have h3:=qaz p.pb (by omega)
   simp;omega
theorem sPtrTextC (p:PT):CV prog 287 [.agg p.row] (.str (ptText p)):=by
 obtain⟨R,hR⟩:∃ R,ptText p=R:=⟨_,rfl⟩
 rw[hR]
 have c1:=sPtrOkC p
 simp only[PT.row]at c1
 unfold ptText at hR
 refine cvx func287 [(5,[zI 0,zJ 1 [1] [],zJ 4 [] [1],zJ 5 [1] [1],zJ 9 [] [1],zJ 10 [1] [1],zJ 2 [] [1],zJ 3 [] [1],zJ 6 [] [1],zJ 7 [] [1],zJ 8 [] [1],zI 11,zI 12,zI 13])] ntmps287 rfl rfl rfl ?_ (hca:=by simp[PT.row])
 simp -implicitDefEqProofs [PT.row]
 refine c1.call ?_
 cases hok:ptOkB p with
 | false =>
  rw[if_pos hok]at hR
  simp -implicitDefEqProofs [← hR]
 | true =>
  rw[if_neg (by simp[hok])]at hR
  have hb:=ptOk_b hok
  by_cases h0:p.pa=0
  ·rw[if_pos h0]at hR
   simp -implicitDefEqProofs [h0,← hR]
  ·rw[if_neg h0]at hR
   have d1:=sdecI p.pa (by omega) (by omega)
   have d2:=sdecI p.ps (by omega) (by omega)
   have d3:=sdecI p.pb (by omega) (by omega)
   have l1:=qaz p.pa (by omega)
   have l2:=qaz p.ps (by omega)
   have l3:=qaz p.pb (by omega)
   simp -implicitDefEqProofs [h0]
   refine d1.call ?_
   simp -implicitDefEqProofs
   refine⟨by omega,?_⟩
   refine d2.call ?_
   simp -implicitDefEqProofs
   refine⟨by omega,by omega,?_⟩
   refine d3.call ?_
   simp -implicitDefEqProofs [← hR]
   omega
def ptsText:List PT→Bool→Option (List UInt8)
 | [],_=>some []
 | p::r,first=>if ptOkB p=false then none else (ptsText r false).map fun t=>(if first=true then [] else [32])++(ptText p++t)
def qbz (m:List PT):List UInt8:=(ptsText m true).getD []
theorem sCoreMapC (m:List PT) (h8:m.length=8):CV prog 288 [.agg (m.flatMap PT.row)] (.str (qbz m)):=by
 obtain⟨R,hR⟩:∃ R,qbz m=R:=⟨_,rfl⟩
 rw[hR]
 refine cvx func288 [] ntmps288 rfl rfl rfl ?_ (hca:=by simp[clL_pts])
 simp -implicitDefEqProofs [sum3 h8]
 refine ev_lp (X:=Nat×List UInt8) [1,2,3,4] [(1,1)] (fun x=>[(3,.str x.2),(4,.int .i64 x.1)]) (fun _=>[]) (fun x=>8-x.1) (fun x=>x.1≤8∧x.2.length≤30 * x.1∧((ptsText (m.drop x.1) (decide (x.1=0))).map (x.2++·)).getD []=R) (0,[]) (by simp[← hR,qbz]) ?_ (he:=by simp[obOf])
 rintro⟨i,t⟩ ⟨hi,hl,hd⟩
 simp only at hi hl hd
 cases hr:m.drop i with
 | nil =>
  have:=dropn hr
  rw[hr]at hd
  have hie:i=8:=by omega
  subst hie
  simp only[ptsText,Option.map_some,List.append_nil,Option.getD_some]at hd
  simp -implicitDefEqProofs [hd]
 | cons p q =>
  obtain⟨k1,e0,e1,k3⟩:=dropc hr
  rw[hr]at hd
  simp only[ptsText]at hd
  have hli:(i:Int)<8:=by omega
  have hi8:i<8:=by omega
  have e2:=i64w ((i:Int)+1) (by omega) (by omega)
  have c1:=sPtrOkC p
  have c2:=sPtrTextC p
  have hpl:=ptText_len p
  have hf:=flat_at e1
  simp only[PT.row]at c1 c2
  simp -implicitDefEqProofs [obOf,hli,hi8,hf]
  refine⟨by omega,?_⟩
  refine c1.call ?_
  cases hok:ptOkB p with
  | false =>
   rw[if_pos hok]at hd
   simp only[Option.map_none,Option.getD_none]at hd
   simp -implicitDefEqProofs [← hd]
  | true =>
   rw[if_neg (by simp[hok])]at hd
   by_cases h0:i=0
   ·subst h0
    have hf0:List.take 3 (List.flatMap PT.row m)=p.row:=by simpa using hf
    simp only[PT.row]at hf0
    simp -implicitDefEqProofs [obOf,hf0,PT.row]
    refine c2.call ?_
    simp -implicitDefEqProofs [e2]
    refine⟨by omega,nx (1,t++ptText p) [(1,1)] ⟨by simp only;omega,by simp;omega,by simp only[k3];simpa [Option.map_map,Function.comp_def]using hd⟩ (by simp only;omega) (h4:=by simp[obOf,e2])⟩
   ·have h0':(0:Int)<i:=by omega
    simp -implicitDefEqProofs [obOf,hf,h0',h0]
    intro _
    refine⟨by omega,hli,by omega,?_⟩
    refine c2.call ?_
    simp -implicitDefEqProofs [e2]
    have hd':decide (i=0)=false:=by simpa using h0
    rw[hd']at hd
    refine⟨by omega,nx (i+1,t++(32::ptText p)) [(1,1)] ⟨by simp only;omega,by simp;omega,by simp only[k3];simpa [Option.map_map,Function.comp_def]using hd⟩ (by simp only;omega) (h4:=by simp[obOf,e2])⟩
def fromT (s:List UInt8):List UInt8:=if s=[] then [45] else s
theorem sFromC (s:List UInt8):CV prog 286 [.str s] (.str (fromT s)):=by
 unfold fromT
 refine cvx func286 [] ntmps286 rfl rfl rfl ?_
 by_cases h:s=[]
 ·simp -implicitDefEqProofs [h]
 ·simp -implicitDefEqProofs [h]
def rootSet (s:CS):List UInt8:=10::(s.name++(32::(dec s.kind++(32::(fromT s.frm++(32::ptText s.home))))))
def rootSets:List CS→Option (List UInt8)
 | []=>some []
 | s::r=>if csOkB s=false then none else (rootSets r).map (rootSet s++·)
def qcg:List PT→Option (List UInt8)
 | []=>some []
 | p::r=>if qbe p=false then none else (qcg r).map ((10::46::32::ptText p)++·)
def qbg (c:CO):List UInt8:=((rootSets c.sets).bind fun t=>(qcg c.parts).map fun u=>[114,111,111,116]++(t++u)).getD []
theorem cs_kind {s:CS} (h:csOkB s=true):1≤s.kind∧s.kind≤2:=by
 simp only[csOkB,Bool.and_eq_true,decide_eq_true_eq]at h
 exact h.1.1.2
theorem cs_ones (s:CS):∀ x∈s.row,oneA x=true:=fun x hx=>by
 simp only[CS.row,List.mem_cons,List.mem_append,List.mem_flatMap,PT.row,List.not_mem_nil,or_false]at hx
 rcases hx with rfl | rfl | rfl | ⟨p,_,hp⟩ | h | rfl
 ·rfl
 ·rfl
 ·rfl
 ·rcases hp with rfl | rfl | rfl <;> rfl
 ·rcases h with rfl | rfl | rfl <;> rfl
 ·rfl
theorem fromT_len (s:List UInt8):(fromT s).length≤s.length+1:=by unfold fromT;split <;> simp
theorem rootSet_len {s:CS} (h:csOkB s=true):(rootSet s).length≤64:=by
 have h1:=csOk_nm h
 have h2:=cs_kind h
 have h3:=qaz s.kind (by omega)
 have h4:=fromT_len s.frm
 have h5:=ptText_len s.home
 simp[rootSet];omega
theorem sRootC (c:CO) (h:CoT c):CV prog 194 [.agg c.row] (.str (qbg c)):=by
 obtain⟨R,hR⟩:∃ R,qbg c=R:=⟨_,rfl⟩
 rw[hR]
 have hs:=h.sets
 have hp:=h.parts
 refine cvx func194 [(8,[zI 0,zI 1,zI 2,zJ 3 [5] [],zI 4,zI 5,zJ 6 [] [5],zJ 7 [5] [5],zJ 11 [] [5],zJ 12 [5] [5],zJ 16 [] [5],zJ 17 [5] [5],zJ 8 [] [5],zJ 9 [] [5],zJ 10 [] [5],zJ 13 [] [5],zJ 14 [] [5],zJ 15 [] [5],zJ 18 [] [5],zI 19,zI 20])] ntmps194 rfl rfl rfl ?_ (hca:=by simp[CO.row,PT.row,DE.row,cs_cl,qad])
 simp -implicitDefEqProofs [CO.row]
 refine ev_lp (X:=Nat×List UInt8) [1,2,3,4] [(1,1)] (fun x=>[(3,.str x.2),(4,.int .i64 x.1)]) (fun _=>[]) (fun x=>c.sets.length-x.1) (fun x=>x.1≤c.sets.length∧x.2.length≤4+64 * x.1∧((rootSets (c.sets.drop x.1)).bind fun t=>(qcg c.parts).map fun u=>x.2++(t++u)).getD []=R) (0,[114,111,111,116]) (by simp[← hR,qbg]) ?_ (he:=by simp[obOf])
 rintro⟨i,t⟩ ⟨hi,hl,hd⟩
 simp only at hi hl hd
 cases hr:c.sets.drop i with
 | nil =>
  have:=dropn hr
  rw[hr]at hd
  have hie:i=c.sets.length:=by omega
  subst hie
  simp only[rootSets,Option.bind_some,List.nil_append]at hd
  simp -implicitDefEqProofs [obOf]
  refine ev_lp (X:=Nat×List UInt8) [1,2,3,6] [(1,1)] (fun x=>[(3,.str x.2),(6,.int .i64 x.1)]) (fun _=>[]) (fun x=>c.parts.length-x.1) (fun x=>x.1≤c.parts.length∧x.2.length≤4+64 * c.sets.length+64 * x.1∧((qcg (c.parts.drop x.1)).map fun u=>x.2++u).getD []=R) (0,t) (by simp[hd];omega) ?_ (he:=by simp[obOf])
  rintro⟨i,t⟩ ⟨hi,hl,hd⟩
  simp only at hi hl hd
  cases hr:c.parts.drop i with
  | nil =>
   have:=dropn hr
   rw[hr]at hd
   have hie:i=c.parts.length:=by omega
   subst hie
   simp only[qcg,Option.map_some,List.append_nil,Option.getD_some]at hd
   simp -implicitDefEqProofs [obOf,hd]
  | cons p q =>
   obtain⟨k1,e0,e1,k3⟩:=dropc hr
   rw[hr]at hd
   simp only[qcg]at hd
   have hli:(i:Int)<c.parts.length:=by omega
   have e2:=i64w ((i:Int)+1) (by omega) (by omega)
   have c1:=sPtrOkC p
   have c2:=sPtrTextC p
   have hpl:=ptText_len p
   simp only[PT.row]at c1 c2
   simp -implicitDefEqProofs [obOf,k1,e0,e1,hli,PT.row]
   refine c1.call ?_
   cases hok:ptOkB p with
   | false =>
    rw[if_pos (show qbe p=false by simp[qbe,hok])]at hd
    simp only[Option.map_none,Option.getD_none]at hd
    simp -implicitDefEqProofs [← hd]
   | true =>
    by_cases h0:p.pa=0
    ·rw[if_pos (show qbe p=false by simp[qbe,hok,h0])]at hd
     simp only[Option.map_none,Option.getD_none]at hd
     simp -implicitDefEqProofs [← hd,h0,obOf,k1,e0,e1,hli,PT.row]
    ·rw[if_neg (show ¬ qbe p=false by simp[qbe,hok,h0])]at hd
     simp -implicitDefEqProofs [h0,obOf,k1,e0,e1,hli,PT.row]
     refine⟨by omega,?_⟩
     refine c2.call ?_
     simp -implicitDefEqProofs [e2]
     refine⟨by omega,nx (i+1,t++(10::46::32::ptText p)) [(1,1)] ⟨by simp only;omega,by simp;omega,by simp only[k3];simpa [Option.map_map,Function.comp_def]using hd⟩ (by simp only;omega) (h4:=by simp[obOf,e2])⟩
 | cons s q =>
  obtain⟨k1,e0,e1,k3⟩:=dropc hr
  rw[hr]at hd
  simp only[rootSets]at hd
  have hsm:=List.mem_of_getElem? e1
  have hli:(i:Int)<c.sets.length:=by omega
  have e2:=i64w ((i:Int)+1) (by omega) (by omega)
  have h8:=h.m8 s hsm
  have c1:=sSetC s h8 (h.nm s hsm).1 (h.nm s hsm).2
  simp -implicitDefEqProofs [obOf,k1,e0,e1,hli,qas s h8,qbt s h8]
  refine⟨cs_ones s,?_⟩
  refine c1.call ?_
  cases hok:csOkB s with
  | false =>
   rw[if_pos hok]at hd
   simp only[Option.bind_none,Option.getD_none]at hd
   simp -implicitDefEqProofs [← hd]
  | true =>
   rw[if_neg (by simp[hok])]at hd
   have hk:=cs_kind hok
   have c2:=sdecI s.kind (by omega) (by omega)
   have c3:=sFromC s.frm
   have c4:=sPtrTextC s.home
   have hrl:=rootSet_len hok
   have hn:=csOk_nm hok
   have hdl:=qaz s.kind (by omega)
   have hfl:=fromT_len s.frm
   have hpl:=ptText_len s.home
   simp -implicitDefEqProofs [cs_home s h8]
   refine⟨by omega,by omega,by omega,?_⟩
   refine c2.call ?_
   simp -implicitDefEqProofs
   refine⟨by omega,by omega,?_⟩
   refine c3.call ?_
   simp -implicitDefEqProofs [cs_home s h8]
   refine⟨by omega,by omega,?_⟩
   refine c4.call ?_
   simp -implicitDefEqProofs [e2]
   refine⟨by omega,nx (i+1,t++rootSet s) [(1,1)] ⟨by simp only;omega,by simp only[List.length_append];omega,by simp only[k3];simpa [Option.map_map,Option.bind_map,Function.comp_def]using hd⟩ (by simp only;omega) (h4:=by simp[obOf,e2,rootSet])⟩
def uberText (txg:Int) (p:PT):List UInt8:=if txg<1∨1000000<txg∨qbe p=false then [] else sealB (dec txg++(32::(ptText p++(32::dec txg))))
theorem sUberC (txg:Int) (p:PT):CV prog 285 [.int .i64 txg,.agg p.row] (.str (uberText txg p)):=by
 obtain⟨R,hR⟩:∃ R,uberText txg p=R:=⟨_,rfl⟩
 rw[hR]
 unfold uberText at hR
 have c1:=sPtrOkC p
 have c2:=sPtrTextC p
 have hpl:=ptText_len p
 simp only[PT.row]at c1 c2
 refine cvx func285 [(3,[zI 0,zJ 3 [3] [],zJ 7 [] [3],zJ 1 [] [3],zJ 2 [] [3],zI 4,zI 5,zI 6,zI 8,zI 9,zI 10,zI 11])] ntmps285 rfl rfl rfl ?_ (hca:=by simp[PT.row])
 by_cases h1:txg<1
 ·rw[if_pos (.inl h1)]at hR
  simp -implicitDefEqProofs [PT.row,h1,← hR]
 by_cases h2:1000000<txg
 ·rw[if_pos (.inr (.inl h2))]at hR
  simp -implicitDefEqProofs [PT.row,h1,h2,← hR]
 simp -implicitDefEqProofs [PT.row,h1,h2]
 refine c1.call ?_
 cases hok:ptOkB p with
 | false =>
  rw[if_pos (.inr (.inr (by simp[qbe,hok])))]at hR
  simp -implicitDefEqProofs [← hR]
 | true =>
  by_cases h0:p.pa=0
  ·rw[if_pos (.inr (.inr (by simp[qbe,hok,h0])))]at hR
   simp -implicitDefEqProofs [← hR,h0,PT.row]
  ·rw[if_neg (fun h=>h.elim h1 fun h=>h.elim h2 fun h=>by simp[qbe,hok,h0]at h)]at hR
   have d1:=sdecI txg (by omega) (by omega)
   have l1:=qaz txg (by omega)
   have c3:=ssealC (dec txg++(32::(ptText p++(32::dec txg)))) (by simp[maxLen];omega)
   simp -implicitDefEqProofs [h0,PT.row]
   refine d1.call ?_
   simp -implicitDefEqProofs [PT.row]
   refine⟨by omega,?_⟩
   refine c2.call ?_
   simp -implicitDefEqProofs
   refine⟨by omega,by omega,?_⟩
   refine d1.call ?_
   simp -implicitDefEqProofs
   refine⟨by omega,?_⟩
   refine c3.call ?_
   simp -implicitDefEqProofs [hR]
structure LR where
 txg:Int
 seq:Int
 op:BO
deriving DecidableEq,Inhabited
def LR.row (r:LR):List AV:=.int .i64 r.txg::.int .i64 r.seq::r.op.row
def lrOkB (r:LR):Bool:=decide (1≤r.txg) && decide (r.txg≤1000000) && decide (0≤r.seq) && decide (r.seq<8) && decide (r.op.kind=3) && nameB r.op.a && decide (r.op.b=[]) && decide (0≤r.op.i) && decide (r.op.i<8) && decide (r.op.text.length≤24)
def hexT (s:List UInt8):List UInt8:=if hexB s=[] then [45] else hexB s
def logText (r:LR):List UInt8:=if lrOkB r=false then [] else
 sealB (dec r.txg++(46::(dec r.seq++(32::(r.op.a++(32::(dec r.op.i++(32::(hexT r.op.text++(32::(dec r.txg++(46::dec r.seq))))))))))))
theorem sLogTextC (r:LR) (ha:r.op.a.length≤1048576) (ht:r.op.text.length≤1048576):CV prog 160 [.agg r.row] (.str (logText r)):=by
 obtain⟨R,hR⟩:∃ R,logText r=R:=⟨_,rfl⟩
 rw[hR]
 have hno:lrOkB r=false→R=[]:=fun h=>by rw[← hR];unfold logText;rw[if_pos h]
 have hbad:∀ b:Prop,[Decidable b]→¬ b→(lrOkB r=true→b)→R=[]:=fun b _ hb h=>hno (by
  cases e:lrOkB r with
  | false=>rfl
  | true=>exact absurd (h e) hb)
 have hsp:lrOkB r=true↔(1≤r.txg∧r.txg≤1000000)∧(0≤r.seq∧r.seq<8)∧r.op.kind=3∧nameB r.op.a=true∧r.op.b=[]∧(0≤r.op.i∧r.op.i<8)∧r.op.text.length≤24:=by
  simp only[lrOkB,Bool.and_eq_true,decide_eq_true_eq]
  grind
 have c1:=sName r.op.a ha
 have c2:=shexC r.op.text ht
 have hxl:=hexB_len r.op.text
 have hyes:lrOkB r=true→R=sealB (dec r.txg++(46::(dec r.seq++(32::(r.op.a++(32::(dec r.op.i++(32::(hexT r.op.text++(32::(dec r.txg++(46::dec r.seq)))))))))))):=fun h=>by
  rw[← hR];unfold logText;rw[if_neg (by simp[h])]
 refine cvx func160 [(7,[zI 0,zJ 1 [1] [],zJ 4 [] [1],zJ 5 [1] [1],zJ 2 [] [1],zJ 3 [] [1],zI 6,zI 7,zI 8]),(8,[zI 0,zI 1,zI 2,zJ 3 [3] [],zI 4,zI 5,zJ 6 [] [3],zJ 7 [3] [3],zJ 11 [] [3],zJ 14 [] [3],zJ 8 [] [3],zI 9,zI 10,zI 12,zI 13,zI 15,zI 16,zI 17])] ntmps160 rfl rfl rfl ?_ (hca:=by simp[LR.row,BO.row])
 simp -implicitDefEqProofs [LR.row,BO.row]
 refine⟨fun q1=>⟨fun q2=>⟨fun q3=>⟨fun q4=>⟨fun q5=>?_,fun q=>hbad _ q fun h=>(hsp.1 h).2.2.1⟩,fun q=>hbad _ (Int.not_lt.2 q) fun h=>(hsp.1 h).2.1.2⟩,fun q=>hbad _ (Int.not_le.2 q) fun h=>(hsp.1 h).2.1.1⟩,fun q=>hbad _ (Int.not_le.2 q) fun h=>(hsp.1 h).1.2⟩,fun q=>hbad _ (Int.not_le.2 q) fun h=>(hsp.1 h).1.1⟩
 refine c1.call ?_
 cases hn:nameB r.op.a with
 | false =>
  have:=hno (by cases e:lrOkB r with
   | false=>rfl
   | true=>exact absurd (hsp.1 e).2.2.2.1 (by simp[hn]))
  simp -implicitDefEqProofs [this]
 | true =>
  simp -implicitDefEqProofs [LR.row,BO.row]
  refine⟨fun q6=>⟨fun q7=>⟨fun q8=>⟨fun q=>hbad (r.op.text.length≤24) (by omega) fun h=>(hsp.1 h).2.2.2.2.2.2,fun q9=>?_⟩,fun q=>hbad _ (Int.not_lt.2 q) fun h=>(hsp.1 h).2.2.2.2.2.1.2⟩,fun q=>hbad _ (Int.not_le.2 q) fun h=>(hsp.1 h).2.2.2.2.2.1.1⟩,fun q=>hbad _ q fun h=>(hsp.1 h).2.2.2.2.1⟩
  have hy:=hyes (hsp.2 ⟨⟨q1,q2⟩,⟨q3,q4⟩,q5,hn,q6,⟨q7,q8⟩,by omega⟩)
  have d1:=sdecI r.txg (by omega) (by omega)
  have d2:=sdecI r.seq (by omega) (by omega)
  have d3:=sdecI r.op.i (by omega) (by omega)
  have l1:=qaz r.txg (by omega)
  have l2:=qaz r.seq (by omega)
  have l3:=qaz r.op.i (by omega)
  have hna:r.op.a.length≤6:=by
   simp only[nameB,Bool.and_eq_true,decide_eq_true_eq]at hn
   exact hn.2
  refine c2.call ?_
  have hxT:hexB r.op.text=[]∨hexB r.op.text≠[]:=by cases hexB r.op.text <;> simp
  rcases hxT with hx | hx
  ·have he:hexT r.op.text=[45]:=by simp[hexT,hx]
   rw[he]at hy
   have c3:=ssealC (dec r.txg++(46::(dec r.seq++(32::(r.op.a++(32::(dec r.op.i++(32::([45]++(32::(dec r.txg++(46::dec r.seq)))))))))))) (by simp[maxLen];omega)
   rw[← hy]at c3
   simp -implicitDefEqProofs [hx,LR.row,BO.row]
   refine d1.call ?_
   simp -implicitDefEqProofs [LR.row,BO.row]
   refine⟨by omega,?_⟩
   refine d2.call ?_
   simp -implicitDefEqProofs [LR.row,BO.row]
   refine⟨by omega,by omega,by omega,by omega,?_⟩
   refine d3.call ?_
   simp -implicitDefEqProofs [LR.row,BO.row]
   refine⟨by omega,by omega,by omega,by omega,by omega,?_⟩
   first
    | (refine c3.call ?_;simp -implicitDefEqProofs)
    | (simp only[List.cons_append,List.nil_append,List.append_assoc]at c3;refine c3.call ?_;simp -implicitDefEqProofs)
  ·have he:hexT r.op.text=hexB r.op.text:=by simp[hexT,hx]
   rw[he]at hy
   have c3:=ssealC (dec r.txg++(46::(dec r.seq++(32::(r.op.a++(32::(dec r.op.i++(32::(hexB r.op.text++(32::(dec r.txg++(46::dec r.seq)))))))))))) (by simp[maxLen];omega)
   rw[← hy]at c3
   simp -implicitDefEqProofs [hx,LR.row,BO.row]
   refine d1.call ?_
   simp -implicitDefEqProofs [LR.row,BO.row]
   refine⟨by omega,?_⟩
   refine d2.call ?_
   simp -implicitDefEqProofs [LR.row,BO.row]
   refine⟨by omega,by omega,by omega,by omega,?_⟩
   refine d3.call ?_
   simp -implicitDefEqProofs [LR.row,BO.row]
   refine⟨by omega,by omega,by omega,by omega,by omega,?_⟩
   first
    | (refine c3.call ?_;simp -implicitDefEqProofs)
    | (simp only[List.cons_append,List.nil_append,List.append_assoc]at c3;refine c3.call ?_;simp -implicitDefEqProofs)
def kcs (l:List CS):Ob:=⟨31,l.map CS.row⟩
def kpt (l:List PT):Ob:=⟨3,l.map PT.row⟩
def kin (l:List Int):Ob:=⟨1,l.map qad⟩
@[simp] theorem renL_csRow (ρ:Nat→Option Plc):renL ρ ∘ CS.row=CS.row:=by funext x;exact renL_closed.renL_closedL ρ _ (cs_cl x)
@[simp] theorem renL_ptRow (ρ:Nat→Option Plc):renL ρ ∘ PT.row=PT.row:=by funext x;simp[PT.row]
@[simp] theorem renL_inRow (ρ:Nat→Option Plc):renL ρ ∘ qad=qad:=by funext x;simp[qad]
@[simp] theorem renOb_kcs (ρ:Nat→Option Plc) (l:List CS):renOb ρ (kcs l)=kcs l:=by simp[kcs,renOb]
@[simp] theorem renOb_kpt (ρ:Nat→Option Plc) (l:List PT):renOb ρ (kpt l)=kpt l:=by simp[kpt,renOb]
@[simp] theorem renOb_kin (ρ:Nat→Option Plc) (l:List Int):renOb ρ (kin l)=kin l:=by simp[kin,renOb]
theorem qak (l:List CS):clR (kcs l).els=true:=by simp[clR,kcs,cs_cl]
theorem qbd (l:List PT):clR (kpt l).els=true:=by simp[clR,kpt,PT.row]
theorem qan (l:List Int):clR (kin l).els=true:=by simp[clR,kin,qad]
def coreA (c:CO) (a b e f:Nat):AV:=.agg [.int .i64 c.txg,.sl a 0 c.sets.length,.sl b 0 c.ddt.length,.sl e 0 c.parts.length,.bool c.dirty,.sl f 0 c.safe.length,.int .i64 c.logn]
theorem sKCopyO (c:CO) (h:CoT c):ACall prog 55 [.agg c.row] [] (fun r L'=>r=coreA c 8 12 17 22∧L'=[(8,kcs c.sets),(12,deOb c.ddt),(17,kpt c.parts),(22,kin c.safe)]):=by
 have h1:=h.sets
 have h2:=h.ddt
 have h3:=h.parts
 have h4:=h.safe
 have co:=sECopyO c.ddt h2
 refine acx func55 [] ntmps55 rfl rfl rfl ?_
 simp -implicitDefEqProofs [CO.row]
 refine⟨⟨by omega,fun x _=>cs_ones x⟩,?_⟩
 refine qab [] (by kernel_rfl) co (by simp) (by simpa using fun x hx=>cl_de c.ddt x hx) trivial (by simp) (by simp) ?_
 rintro r L' ⟨rfl,rfl⟩
 refine⟨[(5,12)],⟨by simp,by simp,by simp,by simp,by simp⟩,?_⟩
 simp only[qae]
 simp -implicitDefEqProofs [coreA,kcs,kpt,kin]
 exact⟨by omega,by omega⟩
theorem sKCopyC (c:CO) (h:CoT c):CV prog 55 [.agg c.row] (.agg c.row):=by
 refine CV.of_frz (sKCopyO c h) ?_ (hca:=by simp[co_cl]) (hcv:=by simp[co_cl])
 rintro r L' ⟨rfl,rfl⟩
 refine⟨by simp,by simp,fun x hx=>by
  simp only[List.mem_cons,List.not_mem_nil,or_false]at hx
  rcases hx with rfl | rfl | rfl | rfl
  ·exact qak _
  ·exact qbh _
  ·exact qbd _
  ·exact qan _,?_⟩
 simp[frzAll,CO.row,coreA,kcs,kpt,kin,deOb,qap]
theorem sHasC (l:List Int) (a:Int) (hl:l.length≤1048576):CV prog 290 [.lst 1 (l.map qad),.int .i64 a] (.bool (l.contains a)):=by
 obtain⟨R,hR⟩:∃ R,l.contains a=R:=⟨_,rfl⟩
 rw[hR]
 refine cvx func290 [] ntmps290 rfl rfl rfl ?_ (hca:=by simp[qad])
 simp -implicitDefEqProofs
 refine ev_lp (X:=Nat) [0,1,4,5] [] (fun i=>[(5,.int .i64 i)]) (fun _=>[]) (fun i=>l.length-i) (fun i=>i≤l.length∧(l.drop i).contains a=R) 0 (by simp[← hR]) ?_
 rintro i ⟨hi,hd⟩
 cases hr:l.drop i with
 | nil =>
  have:=dropn hr
  rw[hr]at hd
  have hie:i=l.length:=by omega
  subst hie
  simp -implicitDefEqProofs
  simpa using hd
 | cons x q =>
  obtain⟨k1,e0,e1,k3⟩:=dropc hr
  rw[hr]at hd
  have hli:(i:Int)<l.length:=by omega
  have e2:=i64w ((i:Int)+1) (by omega) (by omega)
  simp -implicitDefEqProofs [k1,e0,e1,hli,e2,qad]
  refine⟨fun q1=>?_,fun q1=>nx (i+1) [] ⟨by omega,?_⟩ (h4:=by simp[e2])⟩
  ·rw[← hd];simp[q1]
  ·rw[k3,← hd]
   have:¬ a=x:=fun e=>q1 e.symm
   simp[this]
def freeB1 (c:CO) (a:Int):Bool:=!ddT c.ddt a && !c.safe.contains a
def freeR (c:CO):Nat→Int→List Int
 | 0,_=>[]
 | k+1,a=>(if freeB1 c a=true then [a] else [])++freeR c k (a+1)
def freeB (c:CO) (n:Int):List Int:=freeR c (n-13).toNat 13
theorem sFreeO (c:CO) (h:CoT c) (n:Int) (hn:n≤1048576):ACall prog 262 [.agg c.row,.int .i64 n] [] (fun r L'=>r=.sl 900 0 (freeB c n).length∧L'=[(900,kin (freeB c n))]):=by
 obtain⟨R,hR⟩:∃ R,freeB c n=R:=⟨_,rfl⟩
 rw[hR]
 have h2:=h.ddt
 have h4:=h.safe
 refine acx func262 [] ntmps262 rfl rfl rfl ?_
 simp -implicitDefEqProofs [CO.row]
 refine ev_lo (X:=Int×List Int) [1,2,5,6] [(2,2),(9,900)] (fun x=>[(5,.sl 900 0 x.2.length),(6,.int .i64 x.1)]) (fun x=>[(2,⟨7,[c.row]⟩),(900,kin x.2)]) (fun x=>(n-x.1).toNat) (fun x=>13≤x.1∧x.1≤1048577∧x.2.length≤x.1∧x.2++freeR c (n-x.1).toNat x.1=R) (13,[]) (by simp[← hR,freeB]) ?_ (he:=by simp[obOf,kin,CO.row])
 rintro⟨a,out⟩ ⟨ha,ha2,hl,hd⟩
 simp only at ha ha2 hl hd
 by_cases hlt:a<n
 ·obtain⟨k,hk⟩:∃ k,(n-a).toNat=k+1:=⟨(n-a).toNat-1,by omega⟩
  have hk2:(n-(a+1)).toNat=k:=by omega
  rw[hk]at hd
  simp only[freeR]at hd
  have c1:=l5AtC c.ddt a h2
  have c2:=sHasC c.safe a h4
  have e2:=i64w (a+1) (by omega) (by omega)
  simp -implicitDefEqProofs [obOf,hlt,CO.row]
  refine c1.call ?_
  cases ht:ddT c.ddt a with
  | true =>
   have hf:¬ freeB1 c a=true:=by simp[freeB1,ht]
   rw[if_neg hf,List.nil_append]at hd
   simp -implicitDefEqProofs [e2]
   exact nx (a+1,out) [(2,2),(900,900)] ⟨by simp only;omega,by simp only;omega,by simp only;omega,by simp only[hk2];exact hd⟩ (by simp only;omega) (h4:=by simp[obOf,e2,CO.row,kin])
  | false =>
   simp -implicitDefEqProofs [CO.row]
   refine c2.call ?_
   cases hs:c.safe.contains a with
   | true =>
    have hf:¬ freeB1 c a=true:=by simp only[freeB1,ht,hs];simp
    rw[if_neg hf,List.nil_append]at hd
    simp -implicitDefEqProofs [e2]
    exact nx (a+1,out) [(2,2),(900,900)] ⟨by simp only;omega,by simp only;omega,by simp only;omega,by simp only[hk2];exact hd⟩ (by simp only;omega) (h4:=by simp[obOf,e2,CO.row,kin])
   | false =>
    have hf:freeB1 c a=true:=by simp only[freeB1,ht,hs];rfl
    rw[if_pos hf]at hd
    simp -implicitDefEqProofs [e2,kin]
    refine⟨by omega,nx (a+1,out++[a]) [(2,2),(34,900)] ⟨by simp only;omega,by simp only;omega,by simp;omega,by simp only[hk2];simpa using hd⟩ (by simp only;omega) (h4:=by simp[obOf,e2,CO.row,kin,qad,qap])⟩
 ·have hk:(n-a).toNat=0:=by omega
  rw[hk]at hd
  simp only[freeR,List.append_nil]at hd
  simp -implicitDefEqProofs [hlt,← hd]
theorem sFreeC (c:CO) (h:CoT c) (n:Int) (hn:n≤1048576):CV prog 262 [.agg c.row,.int .i64 n] (.lst 1 ((freeB c n).map qad)):=by
 refine CV.of_frz (sFreeO c h n hn) ?_ (hca:=by simp[co_cl]) (hcv:=by simp[qad])
 rintro r L' ⟨rfl,rfl⟩
 refine⟨by simp,by simp,fun x hx=>by
  simp only[List.mem_cons,List.not_mem_nil,or_false]at hx
  rcases hx with rfl
  exact qan _,?_⟩
 simp[frzAll,kin,qap]
theorem freeR_len (c:CO):∀ (k:Nat) (a:Int),(freeR c k a).length≤k
 | 0,_=>by simp[freeR]
 | k+1,a=>by
  have:=freeR_len c k (a+1)
  simp only[freeR,List.length_append]
  split <;> simp <;> omega
theorem freeB_len (c:CO) (n:Int):((freeB c n).length:Int)≤n∨(freeB c n).length=0:=by
 have:=freeR_len c (n-13).toNat 13
 unfold freeB
 omega
def mayB (c:CO) (n:Int):Bool:=decide (16<(freeB c n).length) && decide (32≤n-13-c.ddt.length-1) && decide (c.ddt.length<48)
theorem sMayC (c:CO) (h:CoT c) (n:Int) (hn:n≤1048576) (hn0:0≤n):CV prog 265 [.agg c.row,.int .i64 n] (.bool (mayB c n)):=by
 obtain⟨R,hR⟩:∃ R,mayB c n=R:=⟨_,rfl⟩
 rw[hR]
 unfold mayB at hR
 have h2:=h.ddt
 have c1:=sFreeC c h n hn
 generalize freeB c n=l at *
 simp only[CO.row]at c1
 have e1:=i64w (n-13) (by omega) (by omega)
 have e2:=i64w (n-13-(c.ddt.length:Int)) (by omega) (by omega)
 have e3:=i64w (n-13-(c.ddt.length:Int)-1) (by omega) (by omega)
 refine cvx func265 [] ntmps265 rfl rfl rfl ?_ (hca:=by simp[co_cl])
 simp -implicitDefEqProofs [CO.row]
 refine c1.call ?_
 simp -implicitDefEqProofs [CO.row,e1,e2,e3]
 subst hR
 refine⟨fun q1=>⟨fun q2=>?_,fun q2=>?_⟩,fun q1=>?_⟩
 ·have q1':16<l.length:=by omega
  simp only[q1',q2,decide_true,Bool.true_and]
  rw[decide_eq_decide];omega
 ·have q2':¬ 32≤n-13-(c.ddt.length:Int)-1:=by omega
  simp[q2']
 ·have q1':¬ 16<l.length:=by omega
  simp[q1']
def plP (l:List Int) (a:Int):Nat:=(l.takeWhile fun x=>decide (x<a)).length
def addB (l:List Int) (a:Int):List Int:=if a<13∨l.contains a=true then l else l.take (plP l a)++a::l.drop (plP l a)
theorem plP_le (l:List Int) (a:Int):plP l a≤l.length:=(List.takeWhile_prefix _).length_le
theorem sPlAddO (l:List Int) (a:Int) (hl:l.length≤1000000):ACall prog 197 [.sl 1000 0 l.length,.int .i64 a] [(1000,kin l)] (fun r L'=>∃ id,(id=1000∨id=41)∧r=.sl id 0 (addB l a).length∧L'=[(id,kin (addB l a))]):=by
 obtain⟨R,hR⟩:∃ R,addB l a=R:=⟨_,rfl⟩
 rw[hR]
 unfold addB at hR
 have c1:=sHasC l a (by omega)
 have hk:=plP_le l a
 refine acx func197 [] ntmps197 rfl rfl rfl ?_
 by_cases h1:a<13
 ·rw[if_pos (.inl h1)]at hR
  simp -implicitDefEqProofs [h1,← hR]
 simp -implicitDefEqProofs [h1]
 refine c1.view (by simp[vwOk,mtA,kin,qap]) ?_
 cases hc:l.contains a with
 | true =>
  rw[if_pos (.inr hc)]at hR
  simp -implicitDefEqProofs [← hR]
 | false =>
  rw[if_neg (by simp only[hc,h1];simp)]at hR
  simp -implicitDefEqProofs
  refine ev_lp (X:=Nat) [0,1,4,5] [(1000,1000)] (fun i=>[(5,.int .i64 i)]) (fun _=>[]) (fun i=>l.length-i) (fun i=>i≤l.length∧i+plP (l.drop i) a=plP l a) 0 (by simp) ?_ (he:=by simp[obOf])
  rintro i ⟨hi,hd⟩
  have fin:i=plP l a→List.take i l++a::List.drop i l=R:=fun e=>by rw[e];exact hR
  cases hr:l.drop i with
  | nil =>
   have:=dropn hr
   rw[hr]at hd
   have hie:i=l.length:=by omega
   have hf:=fin (by simpa [plP]using hd)
   subst hie
   simp -implicitDefEqProofs [obOf,kin]
   subst hf
   refine⟨by omega,?_,by simp⟩
   rw[qap,List.take_of_length_le (by simp)]
   simp[qad,List.take_of_length_le]
  | cons x q =>
   obtain⟨k1,e0,e1,k3⟩:=dropc hr
   rw[hr]at hd
   have hli:(i:Int)<l.length:=by omega
   have e2:=i64w ((i:Int)+1) (by omega) (by omega)
   by_cases hx:x<a
   ·have hp:plP (x::q) a=plP q a+1:=by simp[plP,List.takeWhile_cons,hx]
    simp -implicitDefEqProofs [obOf,kin,k1,e0,e1,hli,e2,hx,qad]
    exact nx (i+1) [(1000,1000)] ⟨by omega,by rw[k3];omega⟩ (h4:=by simp[obOf,e2,kin])
   ·have hp:plP (x::q) a=0:=by simp[plP,List.takeWhile_cons,hx]
    have hf:=fin (by omega)
    simp -implicitDefEqProofs [obOf,kin,k1,e0,e1,hli,e2,hx,qad]
    rw[dr_to]
    have et:List.take (l.length-i) ((l.drop i).map qad)=(l.drop i).map qad:=List.take_of_length_le (by simp)
    have e5:List.take (i+1) (List.take i (List.map qad l)++[[AV.int IntKind.i64 a]])=List.map qad (List.take i l++[a]):=by
     rw[List.take_of_length_le (by simp;omega)];simp[qad]
    rw[et,e5]
    have ho:∀ x∈(l.drop i).map qad,∀ y∈x,oneA y=true:=fun x hx y hy=>by
     obtain⟨e,_,rfl⟩:=List.mem_map.1 hx
     simp only[qad,List.mem_cons,List.not_mem_nil,or_false]at hy
     subst hy;rfl
    subst hf
    refine⟨by omega,⟨by omega,by omega,ho⟩,by omega,⟨by omega,by omega⟩,⟨by omega,by omega,ho⟩,by simp,by simp;omega⟩
theorem addB_len (l:List Int) (a:Int):(addB l a).length≤l.length+1:=by
 unfold addB
 split
 ·omega
 ·have:=plP_le l a
  simp;omega
def addsB (l:List Int) (bs:List Int):List Int:=bs.foldl addB l
def reachB (c:CO) (root:Int):List Int:=addsB (addsB (addsB (addB [] root) (c.ddt.map DE.ea)) (c.sets.map fun s=>s.home.pa)) (c.parts.map PT.pa)
structure CoM (c:CO):Prop where
 sets:c.sets.length≤1000
 ddt:c.ddt.length≤1000
 parts:c.parts.length≤1000
theorem addsB_cons (l:List Int) (a:Int) (r:List Int):addsB l (a::r)=addsB (addB l a) r:=rfl
theorem addsB_nil (l:List Int):addsB l []=l:=rfl
theorem cs_hpa (s:CS) (h8:s.map.length=8):s.row[27]?=some (.int .i64 s.home.pa):=by
 have h:=cs_home s h8
 have h2:=congrArg (fun l:List AV=>l[0]?) h
 simp only[List.getElem?_take,List.getElem?_drop]at h2
 simpa [PT.row]using h2
theorem sReachC (c:CO) (h:CoT c) (hm:CoM c) (root:Int):CV prog 110 [.agg c.row,.int .i64 root] (.lst 1 ((reachB c root).map qad)):=by
 obtain⟨R,hR⟩:∃ R,reachB c root=R:=⟨_,rfl⟩
 rw[hR]
 unfold reachB at hR
 have h1:=hm.sets
 have h2:=hm.ddt
 have h3:=hm.parts
 have key:ACall prog 110 [.agg c.row,.int .i64 root] [] (fun r L'=>r=.sl 900 0 R.length∧L'=[(900,kin R)]):=by
  refine acx func110 [] ntmps110 rfl rfl rfl ?_
  simp -implicitDefEqProofs [CO.row]
  refine qab [(1000,.whole 9)] (by kernel_rfl) (sPlAddO [] root (by simp)) (by simp) (by simp) (by simp[kin];exact qaa rfl (by simp[clR])) (by simp) (by simp) ?_
  rintro r L' ⟨id,hid,rfl,rfl⟩
  have hl0:=addB_len [] root
  simp only[List.length_nil]at hl0
  rcases hid with rfl | rfl
  ·refine⟨[],⟨by simp,by simp,by simp,by simp,by simp⟩,?_⟩
   simp only[qae]
   simp -implicitDefEqProofs [CO.row]
   have hd:=hR
   refine ev_lo (X:=Nat×List Int) [2,5,6] [(2,2),(9,900)] (fun x=>[(5,.sl 900 0 x.2.length),(6,.int .i64 x.1)]) (fun x=>[(2,⟨7,[c.row]⟩),(900,kin x.2)]) (fun x=>c.ddt.length-x.1) (fun x=>x.1≤c.ddt.length∧x.2.length≤1+x.1∧addsB (addsB (addsB x.2 ((c.ddt.drop x.1).map DE.ea)) (c.sets.map fun s=>s.home.pa)) (c.parts.map PT.pa)=R) (0,(addB [] root)) ⟨by simp,by simp only;omega,by simpa using hd⟩ ?_ (he:=by simp[obOf,kin,CO.row])
   rintro⟨i,l⟩ ⟨hi,hl,hd⟩
   simp only at hi hl hd
   cases hr:c.ddt.drop i with
   | nil =>
    have:=dropn hr
    rw[hr]at hd
    have hie:i=c.ddt.length:=by omega
    subst hie
    simp only[List.map_nil,addsB_nil]at hd
    simp -implicitDefEqProofs [obOf,CO.row]
    refine ev_lo (X:=Nat×List Int) [2,5,7] [(2,2),(900,900)] (fun x=>[(5,.sl 900 0 x.2.length),(7,.int .i64 x.1)]) (fun x=>[(2,⟨7,[c.row]⟩),(900,kin x.2)]) (fun x=>c.sets.length-x.1) (fun x=>x.1≤c.sets.length∧x.2.length≤1001+x.1∧addsB (addsB x.2 ((c.sets.drop x.1).map (fun s:CS=>s.home.pa))) (c.parts.map PT.pa)=R) (0,l) ⟨by simp,by simp only;omega,by simpa using hd⟩ ?_ (he:=by simp[obOf,kin,CO.row])
    rintro⟨i,l⟩ ⟨hi,hl,hd⟩
    simp only at hi hl hd
    cases hr:c.sets.drop i with
    | nil =>
     have:=dropn hr
     rw[hr]at hd
     have hie:i=c.sets.length:=by omega
     subst hie
     simp only[List.map_nil,addsB_nil]at hd
     simp -implicitDefEqProofs [obOf,CO.row]
     refine ev_lo (X:=Nat×List Int) [2,5,8] [(2,2),(900,900)] (fun x=>[(5,.sl 900 0 x.2.length),(8,.int .i64 x.1)]) (fun x=>[(2,⟨7,[c.row]⟩),(900,kin x.2)]) (fun x=>c.parts.length-x.1) (fun x=>x.1≤c.parts.length∧x.2.length≤2001+x.1∧(addsB x.2 ((c.parts.drop x.1).map PT.pa))=R) (0,l) ⟨by simp,by simp only;omega,by simpa using hd⟩ ?_ (he:=by simp[obOf,kin,CO.row])
     rintro⟨i,l⟩ ⟨hi,hl,hd⟩
     simp only at hi hl hd
     cases hr:c.parts.drop i with
     | nil =>
      have:=dropn hr
      rw[hr]at hd
      have hie:i=c.parts.length:=by omega
      subst hie
      simp only[List.map_nil,addsB_nil]at hd
      simp -implicitDefEqProofs [obOf,← hd]
     | cons x q =>
      obtain⟨k1,e0,e1,k3⟩:=dropc hr
      rw[hr,List.map_cons,addsB_cons]at hd
      have hli:(i:Int)<c.parts.length:=by omega
      have e2:=i64w ((i:Int)+1) (by omega) (by omega)
      simp -implicitDefEqProofs [obOf,k1,e0,e1,hli,CO.row,PT.row]
      refine qab [(1000,.whole 900)] (by kernel_rfl) (sPlAddO l x.pa (by omega)) (by simp) (by simp) (by simp[kin];exact qaa rfl (qan l)) (by simp) (by simp) ?_
      have hal:=addB_len l x.pa
      rintro r L' ⟨id,rfl | rfl,rfl,rfl⟩
      ·refine⟨[],⟨by simp,by simp,by simp,by simp,by simp⟩,?_⟩
       simp only[qae]
       simp -implicitDefEqProofs [e2,CO.row]
       exact nx (i+1,addB l x.pa) [(2,2),(900,900)] ⟨by simp only;omega,by simp only;omega,by simp only[← List.map_drop,k3];exact hd⟩ (by simp only;omega) (h4:=by simp[obOf,e2,CO.row,kin])
      ·refine⟨[(41,57)],⟨by simp,by simp,by simp,by simp,by simp⟩,?_⟩
       simp only[qae]
       simp -implicitDefEqProofs [e2,CO.row]
       exact nx (i+1,addB l x.pa) [(2,2),(57,900)] ⟨by simp only;omega,by simp only;omega,by simp only[← List.map_drop,k3];exact hd⟩ (by simp only;omega) (h4:=by simp[obOf,e2,CO.row,kin])
    | cons x q =>
     obtain⟨k1,e0,e1,k3⟩:=dropc hr
     rw[hr,List.map_cons,addsB_cons]at hd
     have hli:(i:Int)<c.sets.length:=by omega
     have e2:=i64w ((i:Int)+1) (by omega) (by omega)
     have h8:=h.m8 x (List.mem_of_getElem? e1)
     have hx27:x.row[27]?=some (.int .i64 x.home.pa):=cs_hpa x h8
     have hx27':=(List.getElem?_eq_some_iff.1 hx27).2
     simp -implicitDefEqProofs [obOf,k1,e0,e1,hli,CO.row,qas x h8,hx27,hx27']
     refine qab [(1000,.whole 900)] (by kernel_rfl) (sPlAddO l x.home.pa (by omega)) (by simp) (by simp) (by simp[kin];exact qaa rfl (qan l)) (by simp) (by simp) ?_
     have hal:=addB_len l x.home.pa
     rintro r L' ⟨id,rfl | rfl,rfl,rfl⟩
     ·refine⟨[],⟨by simp,by simp,by simp,by simp,by simp⟩,?_⟩
      simp only[qae]
      simp -implicitDefEqProofs [e2,CO.row]
      exact nx (i+1,addB l x.home.pa) [(2,2),(900,900)] ⟨by simp only;omega,by simp only;omega,by simp only[← List.map_drop,k3];exact hd⟩ (by simp only;omega) (h4:=by simp[obOf,e2,CO.row,kin])
     ·refine⟨[(41,42)],⟨by simp,by simp,by simp,by simp,by simp⟩,?_⟩
      simp only[qae]
      simp -implicitDefEqProofs [e2,CO.row]
      exact nx (i+1,addB l x.home.pa) [(2,2),(42,900)] ⟨by simp only;omega,by simp only;omega,by simp only[← List.map_drop,k3];exact hd⟩ (by simp only;omega) (h4:=by simp[obOf,e2,CO.row,kin])
   | cons x q =>
    obtain⟨k1,e0,e1,k3⟩:=dropc hr
    rw[hr,List.map_cons,addsB_cons]at hd
    have hli:(i:Int)<c.ddt.length:=by omega
    have e2:=i64w ((i:Int)+1) (by omega) (by omega)
    simp -implicitDefEqProofs [obOf,k1,e0,e1,hli,CO.row,DE.row]
    refine qab [(1000,.whole 900)] (by kernel_rfl) (sPlAddO l x.ea (by omega)) (by simp) (by simp) (by simp[kin];exact qaa rfl (qan l)) (by simp) (by simp) ?_
    have hal:=addB_len l x.ea
    rintro r L' ⟨id,rfl | rfl,rfl,rfl⟩
    ·refine⟨[],⟨by simp,by simp,by simp,by simp,by simp⟩,?_⟩
     simp only[qae]
     simp -implicitDefEqProofs [e2,CO.row]
     exact nx (i+1,addB l x.ea) [(2,2),(900,900)] ⟨by simp only;omega,by simp only;omega,by simp only[← List.map_drop,k3];exact hd⟩ (by simp only;omega) (h4:=by simp[obOf,e2,CO.row,kin])
    ·refine⟨[(41,26)],⟨by simp,by simp,by simp,by simp,by simp⟩,?_⟩
     simp only[qae]
     simp -implicitDefEqProofs [e2,CO.row]
     exact nx (i+1,addB l x.ea) [(2,2),(26,900)] ⟨by simp only;omega,by simp only;omega,by simp only[← List.map_drop,k3];exact hd⟩ (by simp only;omega) (h4:=by simp[obOf,e2,CO.row,kin])
  ·refine⟨[(41,11)],⟨by simp,by simp,by simp,by simp,by simp⟩,?_⟩
   simp only[qae]
   simp -implicitDefEqProofs [CO.row]
   have hd:=hR
   refine ev_lo (X:=Nat×List Int) [2,5,6] [(2,2),(11,900)] (fun x=>[(5,.sl 900 0 x.2.length),(6,.int .i64 x.1)]) (fun x=>[(2,⟨7,[c.row]⟩),(900,kin x.2)]) (fun x=>c.ddt.length-x.1) (fun x=>x.1≤c.ddt.length∧x.2.length≤1+x.1∧addsB (addsB (addsB x.2 ((c.ddt.drop x.1).map DE.ea)) (c.sets.map fun s=>s.home.pa)) (c.parts.map PT.pa)=R) (0,(addB [] root)) ⟨by simp,by simp only;omega,by simpa using hd⟩ ?_ (he:=by simp[obOf,kin,CO.row])
   rintro⟨i,l⟩ ⟨hi,hl,hd⟩
   simp only at hi hl hd
   cases hr:c.ddt.drop i with
   | nil =>
    have:=dropn hr
    rw[hr]at hd
    have hie:i=c.ddt.length:=by omega
    subst hie
    simp only[List.map_nil,addsB_nil]at hd
    simp -implicitDefEqProofs [obOf,CO.row]
    refine ev_lo (X:=Nat×List Int) [2,5,7] [(2,2),(900,900)] (fun x=>[(5,.sl 900 0 x.2.length),(7,.int .i64 x.1)]) (fun x=>[(2,⟨7,[c.row]⟩),(900,kin x.2)]) (fun x=>c.sets.length-x.1) (fun x=>x.1≤c.sets.length∧x.2.length≤1001+x.1∧addsB (addsB x.2 ((c.sets.drop x.1).map (fun s:CS=>s.home.pa))) (c.parts.map PT.pa)=R) (0,l) ⟨by simp,by simp only;omega,by simpa using hd⟩ ?_ (he:=by simp[obOf,kin,CO.row])
    rintro⟨i,l⟩ ⟨hi,hl,hd⟩
    simp only at hi hl hd
    cases hr:c.sets.drop i with
    | nil =>
     have:=dropn hr
     rw[hr]at hd
     have hie:i=c.sets.length:=by omega
     subst hie
     simp only[List.map_nil,addsB_nil]at hd
     simp -implicitDefEqProofs [obOf,CO.row]
     refine ev_lo (X:=Nat×List Int) [2,5,8] [(2,2),(900,900)] (fun x=>[(5,.sl 900 0 x.2.length),(8,.int .i64 x.1)]) (fun x=>[(2,⟨7,[c.row]⟩),(900,kin x.2)]) (fun x=>c.parts.length-x.1) (fun x=>x.1≤c.parts.length∧x.2.length≤2001+x.1∧(addsB x.2 ((c.parts.drop x.1).map PT.pa))=R) (0,l) ⟨by simp,by simp only;omega,by simpa using hd⟩ ?_ (he:=by simp[obOf,kin,CO.row])
     rintro⟨i,l⟩ ⟨hi,hl,hd⟩
     simp only at hi hl hd
     cases hr:c.parts.drop i with
     | nil =>
      have:=dropn hr
      rw[hr]at hd
      have hie:i=c.parts.length:=by omega
      subst hie
      simp only[List.map_nil,addsB_nil]at hd
      simp -implicitDefEqProofs [obOf,← hd]
     | cons x q =>
      obtain⟨k1,e0,e1,k3⟩:=dropc hr
      rw[hr,List.map_cons,addsB_cons]at hd
      have hli:(i:Int)<c.parts.length:=by omega
      have e2:=i64w ((i:Int)+1) (by omega) (by omega)
      simp -implicitDefEqProofs [obOf,k1,e0,e1,hli,CO.row,PT.row]
      refine qab [(1000,.whole 900)] (by kernel_rfl) (sPlAddO l x.pa (by omega)) (by simp) (by simp) (by simp[kin];exact qaa rfl (qan l)) (by simp) (by simp) ?_
      have hal:=addB_len l x.pa
      rintro r L' ⟨id,rfl | rfl,rfl,rfl⟩
      ·refine⟨[],⟨by simp,by simp,by simp,by simp,by simp⟩,?_⟩
       simp only[qae]
       simp -implicitDefEqProofs [e2,CO.row]
       exact nx (i+1,addB l x.pa) [(2,2),(900,900)] ⟨by simp only;omega,by simp only;omega,by simp only[← List.map_drop,k3];exact hd⟩ (by simp only;omega) (h4:=by simp[obOf,e2,CO.row,kin])
      ·refine⟨[(41,57)],⟨by simp,by simp,by simp,by simp,by simp⟩,?_⟩
       simp only[qae]
       simp -implicitDefEqProofs [e2,CO.row]
       exact nx (i+1,addB l x.pa) [(2,2),(57,900)] ⟨by simp only;omega,by simp only;omega,by simp only[← List.map_drop,k3];exact hd⟩ (by simp only;omega) (h4:=by simp[obOf,e2,CO.row,kin])
    | cons x q =>
     obtain⟨k1,e0,e1,k3⟩:=dropc hr
     rw[hr,List.map_cons,addsB_cons]at hd
     have hli:(i:Int)<c.sets.length:=by omega
     have e2:=i64w ((i:Int)+1) (by omega) (by omega)
     have h8:=h.m8 x (List.mem_of_getElem? e1)
     have hx27:x.row[27]?=some (.int .i64 x.home.pa):=cs_hpa x h8
     have hx27':=(List.getElem?_eq_some_iff.1 hx27).2
     simp -implicitDefEqProofs [obOf,k1,e0,e1,hli,CO.row,qas x h8,hx27,hx27']
     refine qab [(1000,.whole 900)] (by kernel_rfl) (sPlAddO l x.home.pa (by omega)) (by simp) (by simp) (by simp[kin];exact qaa rfl (qan l)) (by simp) (by simp) ?_
     have hal:=addB_len l x.home.pa
     rintro r L' ⟨id,rfl | rfl,rfl,rfl⟩
     ·refine⟨[],⟨by simp,by simp,by simp,by simp,by simp⟩,?_⟩
      simp only[qae]
      simp -implicitDefEqProofs [e2,CO.row]
      exact nx (i+1,addB l x.home.pa) [(2,2),(900,900)] ⟨by simp only;omega,by simp only;omega,by simp only[← List.map_drop,k3];exact hd⟩ (by simp only;omega) (h4:=by simp[obOf,e2,CO.row,kin])
     ·refine⟨[(41,42)],⟨by simp,by simp,by simp,by simp,by simp⟩,?_⟩
      simp only[qae]
      simp -implicitDefEqProofs [e2,CO.row]
      exact nx (i+1,addB l x.home.pa) [(2,2),(42,900)] ⟨by simp only;omega,by simp only;omega,by simp only[← List.map_drop,k3];exact hd⟩ (by simp only;omega) (h4:=by simp[obOf,e2,CO.row,kin])
   | cons x q =>
    obtain⟨k1,e0,e1,k3⟩:=dropc hr
    rw[hr,List.map_cons,addsB_cons]at hd
    have hli:(i:Int)<c.ddt.length:=by omega
    have e2:=i64w ((i:Int)+1) (by omega) (by omega)
    simp -implicitDefEqProofs [obOf,k1,e0,e1,hli,CO.row,DE.row]
    refine qab [(1000,.whole 900)] (by kernel_rfl) (sPlAddO l x.ea (by omega)) (by simp) (by simp) (by simp[kin];exact qaa rfl (qan l)) (by simp) (by simp) ?_
    have hal:=addB_len l x.ea
    rintro r L' ⟨id,rfl | rfl,rfl,rfl⟩
    ·refine⟨[],⟨by simp,by simp,by simp,by simp,by simp⟩,?_⟩
     simp only[qae]
     simp -implicitDefEqProofs [e2,CO.row]
     exact nx (i+1,addB l x.ea) [(2,2),(900,900)] ⟨by simp only;omega,by simp only;omega,by simp only[← List.map_drop,k3];exact hd⟩ (by simp only;omega) (h4:=by simp[obOf,e2,CO.row,kin])
    ·refine⟨[(41,26)],⟨by simp,by simp,by simp,by simp,by simp⟩,?_⟩
     simp only[qae]
     simp -implicitDefEqProofs [e2,CO.row]
     exact nx (i+1,addB l x.ea) [(2,2),(26,900)] ⟨by simp only;omega,by simp only;omega,by simp only[← List.map_drop,k3];exact hd⟩ (by simp only;omega) (h4:=by simp[obOf,e2,CO.row,kin])
 refine CV.of_frz key ?_ (hca:=by simp[co_cl]) (hcv:=by simp[qad])
 rintro r L' ⟨rfl,rfl⟩
 refine⟨by simp,by simp,fun x hx=>by
  simp only[List.mem_cons,List.not_mem_nil,or_false]at hx
  rcases hx with rfl
  exact qan _,?_⟩
 simp[frzAll,kin,qap]
def deText (e:DE):List UInt8:=dec e.es++(46::(dec e.ea++(46::dec e.ec)))
def desText:List DE→Bool→List UInt8
 | [],_=>[]
 | e::r,first=>(if first=true then [] else [32])++(deText e++desText r false)
def ddText (l:List DE):List UInt8:=if qau l=true then desText l true else []
theorem deOk_b {e:DE} (h:deOkB e=true):0≤e.es∧e.es<65521∧1≤e.ea∧e.ea<120∧1≤e.ec∧e.ec≤1000:=by
 simp only[deOkB,Bool.and_eq_true,decide_eq_true_eq]at h
 omega
theorem ddt_de {l:List DE} (h:qau l=true):∀ e∈l,deOkB e=true:=by
 simp only[qau,Bool.and_eq_true]at h
 exact fun e he=>((ddtR_up h.2).1 e he).2
theorem deText_len {e:DE} (h:deOkB e=true):(deText e).length≤29:=by
 have hb:=deOk_b h
 have h1:=qaz e.es (by omega)
 have h2:=qaz e.ea (by omega)
 have h3:=qaz e.ec (by omega)
 simp[deText];omega
theorem sDdtTextC (l:List DE) (hl:l.length≤1048576):CV prog 289 [.lst 3 (l.map DE.row)] (.str (ddText l)):=by
 obtain⟨R,hR⟩:∃ R,ddText l=R:=⟨_,rfl⟩
 rw[hR]
 unfold ddText at hR
 have c1:=sDdtOkC l hl
 refine cvx func289 [(7,[zI 0,zI 1,zI 2,zI 3,zI 4,zI 5,zI 9,zI 10,zI 11,zI 12,zI 13,zI 17,zI 18,zI 19,zI 20,zI 21,zI 6,zI 7,zI 8,zI 14,zI 15,zI 16,zI 22,zI 23,zI 24])] ntmps289 rfl rfl rfl ?_ (hca:=by simp[DE.row])
 simp -implicitDefEqProofs
 refine ev_lp (X:=Nat×List UInt8) [0,2,3,4] [] (fun x=>[(3,.str x.2),(4,.int .i64 x.1)]) (fun _=>[]) (fun x=>l.length-x.1) (fun x=>x.1≤l.length∧x.2.length≤30 * x.1∧(if qau l=true then x.2++desText (l.drop x.1) (decide (x.1=0)) else [])=R∧(qau l=false→x.2=[])) (0,[]) (by simp[← hR]) ?_
 rintro⟨i,t⟩ ⟨hi,hl2,hd,hz⟩
 simp only at hi hl2 hd hz
 cases hok:qau l with
 | false =>
  rw[hok]at c1
  rw[if_neg (by simp[hok])]at hd
  simp -implicitDefEqProofs
  refine c1.call ?_
  simp -implicitDefEqProofs [hz hok,← hd]
 | true =>
  rw[if_pos hok]at hd
  rw[hok]at c1
  cases hr:l.drop i with
  | nil =>
   have:=dropn hr
   rw[hr]at hd
   have hie:i=l.length:=by omega
   subst hie
   simp only[desText,List.append_nil]at hd
   simp -implicitDefEqProofs
   refine c1.call ?_
   simp -implicitDefEqProofs [hd]
  | cons e q =>
   obtain⟨k1,e0,e1,k3⟩:=dropc hr
   rw[hr]at hd
   have hde:=ddt_de hok e (List.mem_of_getElem? e1)
   have hb:=deOk_b hde
   have hli:(i:Int)<l.length:=by omega
   have e2:=i64w ((i:Int)+1) (by omega) (by omega)
   have d1:=sdecI e.es (by omega) (by omega)
   have d2:=sdecI e.ea (by omega) (by omega)
   have d3:=sdecI e.ec (by omega) (by omega)
   have l1:=qaz e.es (by omega)
   have l2:=qaz e.ea (by omega)
   have l3:=qaz e.ec (by omega)
   have htl:=deText_len hde
   simp -implicitDefEqProofs
   refine c1.call ?_
   by_cases h0:i=0
   ·subst h0
    simp only[desText,decide_true,if_true,List.nil_append]at hd
    simp -implicitDefEqProofs [k1,e0,e1,hli,DE.row]
    refine d1.call ?_
    simp -implicitDefEqProofs
    refine⟨by omega,by omega,?_⟩
    refine d2.call ?_
    simp -implicitDefEqProofs
    refine⟨by omega,by omega,?_⟩
    refine d3.call ?_
    simp -implicitDefEqProofs [e2]
    refine⟨by omega,nx (1,t++deText e) [] ⟨by simp only;omega,by simp only[List.length_append];omega,by simpa [k3]using hd⟩ (by simp only;omega) (h4:=by simp[deText])⟩
   ·have h0':(0:Int)<i:=by omega
    have hdf:decide (i=0)=false:=by simpa using h0
    rw[hdf]at hd
    simp only[desText,Bool.false_eq_true,if_false]at hd
    simp -implicitDefEqProofs [k1,e0,e1,hli,DE.row,h0',h0]
    intro _
    refine⟨by omega,?_⟩
    refine d1.call ?_
    simp -implicitDefEqProofs
    refine⟨by omega,by omega,?_⟩
    refine d2.call ?_
    simp -implicitDefEqProofs
    refine⟨by omega,by omega,?_⟩
    refine d3.call ?_
    simp -implicitDefEqProofs [e2]
    refine⟨by omega,nx (i+1,t++(32::deText e)) [] ⟨by simp only;omega,by simp only[List.length_append,List.length_cons];omega,by simpa [k3]using hd⟩ (by simp only;omega) (h4:=by simp[deText,e2])⟩
def partsN:Nat→List DE→List (List UInt8)
 | 0,_=>[]
 | k+1,l=>if l=[] then [] else ddText (l.take 6)::partsN k (l.drop 6)
def partsT (l:List DE):List (List UInt8):=partsN l.length l
theorem partsN_len:∀ (k:Nat) (l:List DE),(partsN k l).length≤k
 | 0,_=>by simp[partsN]
 | k+1,l=>by
  have:=partsN_len k (l.drop 6)
  simp only[partsN]
  split <;> simp <;> omega
theorem sPartsO (l:List DE) (hl:l.length≤1000000):ACall prog 317 [.lst 3 (l.map DE.row)] [] (fun r L'=>r=.sl 900 0 (partsT l).length∧L'=[(900,strOb (partsT l))]):=by
 obtain⟨R,hR⟩:∃ R,partsT l=R:=⟨_,rfl⟩
 rw[hR]
 refine acx func317 [] ntmps317 rfl rfl rfl ?_
 simp -implicitDefEqProofs
 refine ev_lo (X:=Nat×List (List UInt8)) [0,3,4] [(6,900)] (fun x=>[(3,.sl 900 0 x.2.length),(4,.int .i64 x.1)]) (fun x=>[(900,strOb x.2)]) (fun x=>l.length+6-x.1) (fun x=>x.1≤l.length+6∧x.2.length≤x.1∧∃ k,l.length-x.1≤k∧x.2++partsN k (l.drop x.1)=R) (0,[]) ⟨by simp,by simp,l.length,by simp,by simpa [partsT]using hR⟩ ?_ (he:=by simp[obOf,strOb])
 rintro⟨i,out⟩ ⟨hi,hol,k,hk,hd⟩
 simp only at hi hol hk hd
 by_cases hlt:i<l.length
 ·obtain⟨m,rfl⟩:∃ m,k=m+1:=⟨k-1,by omega⟩
  have hne:¬ l.drop i=[]:=fun e=>by have:=dropn e;omega
  simp only[partsN,if_neg hne]at hd
  have hli:(i:Int)<l.length:=by omega
  have e2:=i64w ((i:Int)+6) (by omega) (by omega)
  have cd:=sDdtTextC ((l.drop i).take 6) (by simp;omega)
  have hcl:∀ x∈((l.drop i).take 6).map DE.row,clL x=true:=cl_de _
  by_cases h6:l.length<i+6
  ·have h6':(l.length:Int)<i+6:=by omega
   have e4:((l.map DE.row).drop i).take (l.length-i)=((l.drop i).take 6).map DE.row:=by
    rw[dr_to,List.take_of_length_le (l:=l.drop i) (by simp;omega)]
   simp -implicitDefEqProofs [obOf,hli,e2,h6']
   refine⟨by omega,?_⟩
   rw[e4]
   refine cd.call ?_
   simp -implicitDefEqProofs [e2,strOb]
   refine⟨by omega,nx (i+6,out++[ddText ((l.drop i).take 6)]) [(28,900)] ⟨by simp only;omega,by simp;omega,m,by simp only;omega,by simp only[List.drop_drop]at hd ⊢;simpa using hd⟩ (by simp only;omega) (h4:=by simp[obOf,e2,strOb,qaf,qap])⟩
  ·have h6':¬ (l.length:Int)<i+6:=by omega
   have e4:((l.map DE.row).drop i).take 6=((l.drop i).take 6).map DE.row:=by
    rw[← List.map_drop,← List.map_take]
   simp -implicitDefEqProofs [obOf,hli,e2,h6']
   refine⟨by omega,?_⟩
   rw[show((i:Int)+6).toNat-i=6 by omega,e4]
   refine cd.call ?_
   simp -implicitDefEqProofs [e2,strOb]
   refine⟨by omega,nx (i+6,out++[ddText ((l.drop i).take 6)]) [(28,900)] ⟨by simp only;omega,by simp;omega,m,by simp only;omega,by simp only[List.drop_drop]at hd ⊢;simpa using hd⟩ (by simp only;omega) (h4:=by simp[obOf,e2,strOb,qaf,qap])⟩
 ·have hz:l.drop i=[]:=List.drop_of_length_le (by omega)
  have hp:partsN k (l.drop i)=[]:=by rw[hz];cases k <;> simp[partsN]
  rw[hp,List.append_nil]at hd
  have hli:¬ (i:Int)<l.length:=by omega
  simp -implicitDefEqProofs [hli,← hd]
theorem sPartsC (l:List DE) (hl:l.length≤1000000):CV prog 317 [.lst 3 (l.map DE.row)] (.lst 1 ((partsT l).map qaf)):=by
 refine CV.of_frz (sPartsO l hl) ?_ (hca:=by simp[DE.row]) (hcv:=by simp[qaf])
 rintro r L' ⟨rfl,rfl⟩
 refine⟨by simp,by simp,by simp[clR,strOb,qaf],?_⟩
 simp[frzAll,strOb,qap]
theorem cs_dty (s:CS) (h8:s.map.length=8):s.row[30]?=some (.bool s.dirty):=by
 have hl:(s.map.flatMap PT.row).length=24:=by
  rw[List.length_flatMap];exact sum3 h8
 show(.str s.name::.int .i64 s.kind::.str s.frm::(s.map.flatMap PT.row++(s.home.row++[.bool s.dirty])))[30]?=_
 simp only[List.getElem?_cons_succ]
 rw[List.getElem?_append_right (by omega),hl]
 rfl
def dirtN (l:List CS):Nat:=l.countP CS.dirty
def needsB (c:CO):Nat:=1+dirtN c.sets+if c.dirty=true then (partsT c.ddt).length else 0
theorem sNeedsC (c:CO) (h:CoT c) (hm:CoM c):CV prog 263 [.agg c.row] (.int .i64 (needsB c:Nat)):=by
 obtain⟨R,hR⟩:∃ R,needsB c=R:=⟨_,rfl⟩
 rw[hR]
 unfold needsB at hR
 have h1:=hm.sets
 have h2:=hm.ddt
 have c1:=sPartsC c.ddt (by omega)
 have hpl:(partsT c.ddt).length≤c.ddt.length:=partsN_len _ _
 refine cvx func263 [] ntmps263 rfl rfl rfl ?_ (hca:=by simp[co_cl])
 simp -implicitDefEqProofs [CO.row]
 refine ev_lp (X:=Nat×Nat) [1,2,3,4] [(1,1)] (fun x=>[(3,.int .i64 (x.2:Int)),(4,.int .i64 x.1)]) (fun _=>[]) (fun x=>c.sets.length-x.1) (fun x=>x.1≤c.sets.length∧x.2≤1+x.1∧x.2+dirtN (c.sets.drop x.1)+(if c.dirty=true then (partsT c.ddt).length else 0)=R) (0,1) ⟨by simp,by simp,by simpa using hR⟩ ?_ (he:=by simp[obOf])
 rintro⟨i,m⟩ ⟨hi,hml,hd⟩
 simp only at hi hml hd
 cases hr:c.sets.drop i with
 | nil =>
  have:=dropn hr
  rw[hr]at hd
  have hie:i=c.sets.length:=by omega
  subst hie
  simp only[dirtN,List.countP_nil,Nat.add_zero]at hd
  simp -implicitDefEqProofs [obOf]
  cases hc:c.dirty with
  | false =>
   rw[hc]at hd
   simp -implicitDefEqProofs [← hd]
  | true =>
   rw[hc,if_pos rfl]at hd
   have e2:=i64w ((m:Int)+((partsT c.ddt).length:Int)) (by omega) (by omega)
   simp -implicitDefEqProofs
   refine c1.call ?_
   simp -implicitDefEqProofs [e2,← hd]
 | cons x q =>
  obtain⟨k1,e0,e1,k3⟩:=dropc hr
  rw[hr]at hd
  have h8:=h.m8 x (List.mem_of_getElem? e1)
  have hli:(i:Int)<c.sets.length:=by omega
  have e2:=i64w ((i:Int)+1) (by omega) (by omega)
  have e3:=i64w ((m:Int)+1) (by omega) (by omega)
  have hx30:=cs_dty x h8
  have hx30':=(List.getElem?_eq_some_iff.1 hx30).2
  simp only[dirtN,List.countP_cons]at hd
  simp -implicitDefEqProofs [obOf,k1,e0,e1,hli,qas x h8,hx30,hx30',e2,e3]
  refine⟨fun q1=>?_,fun q1=>?_⟩
  ·rw[if_pos q1]at hd
   exact nx (i+1,m+1) [(1,1)] ⟨by simp only;omega,by simp only;omega,by simp only[k3,dirtN];rw[← hd];congr 1;omega⟩ (by simp only;omega) (h4:=by simp[obOf,e2,e3])
  ·rw[if_neg (by simp[q1])]at hd
   exact nx (i+1,m) [(1,1)] ⟨by simp only;omega,by simp only;omega,by simp only[k3,dirtN];rw[← hd];rfl⟩ (by simp only;omega) (h4:=by simp[obOf,e2,e3])
end Go.Av.F
end
