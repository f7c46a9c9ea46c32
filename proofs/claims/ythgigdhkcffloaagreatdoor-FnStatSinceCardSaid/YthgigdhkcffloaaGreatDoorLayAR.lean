/- Lemmas for the proof, no statement of the seat; no conditions. -/
import Derived.Test.YthgigdhkcffloaaGreatDoorLayAQ
import Derived.Lib.LaidTab
import Derived.FnData
import Derived.Test.YthgigdhkcffloaaGreatDoorRows
import Derived.Test.YthgigdhkcffloaaGreatDoorCards
import Derived.ProofKit
import Derived.OpenShut
import Derived.LaidMore
import Derived.Lay
import Derived.SevenTiedAt
import Derived.Stop.Joined
set_option linter.unusedSimpArgs false
set_option linter.unusedVariables false
set_option linter.unnecessarySimpa false
set_option maxRecDepth 100000
section
namespace Go.Av.F
open Go Go.Av Go.Proofs Go.Proofs.Tryz
def nmdR (bs:List UInt8) (p:Int) (r:AV) (L':List (Nat×Ob)):Prop:=∃ (q:Int) (d:DK) (c:CO) (n:List UInt8),p≤q∧q≤p+1010∧DrP d c∧r=.tup [.agg c.row,.str n]∧L'=[(1000,rdOb bs q)]
theorem namedC (bs:List UInt8) (p:Int) (hp:0≤p∧p<600000000) (hb:bs.length≤2000):ACall prog 9 [.ptr 1000 0 0] [(1000,rdOb bs p)] (nmdR bs p):=by
 refine acx func9 [(3,[zJ 0 [5] [],zJ 1 [] [5],zJ 2 [5] [5],zJ 3 [] [5],zJ 4 [] [5],zJ 5 [5] [5],zJ 6 [] [5],zJ 7 [] [5],zJ 8 [] [5],zJ 9 [] [5],zJ 10 [] [5],zJ 11 [] [5],zI 12]),(4,[zJ 0 [5] [],zJ 1 [] [5],zJ 2 [] [5],zJ 3 [] [5],zI 4,zI 5])] ntmps9 rfl rfl rfl ?_
 simp -implicitDefEqProofs
 refine qac [(1000,.whole 1000)] (by kernel_rfl) (drawnC bs p hp hb) (by simp) (by simp) (by simp) (by simp) (by simp) ?_
 rintro r L' ⟨q,d,c,h1,h2,h3,rfl,rfl⟩
 refine⟨[],⟨by simp,by simp,by simp,by simp,by simp⟩,?_⟩
 have hT:=bent_T h3
 have hl:=hT.sets
 have fin:∀ (n:List UInt8) (u:Int),p≤u→u≤p+1010→nmdR bs p (.tup [.agg c.row,.str n]) [(1000,rdOb bs u)]:=fun n u k1 k2=>⟨u,d,c,n,k1,k2,h3,rfl,rfl⟩
 simp only[CO.row]at fin
 simp only[qae]
 simp -implicitDefEqProofs [DK.row,CO.row]
 have none3:∀ {t:List UInt8},t∈([[110,111,110,101],[],[97]]:List (List UInt8))→True:=fun _=>trivial
 by_cases hs:0<c.sets.length
 ·have hs0:c.sets≠[]:=List.length_pos_iff.1 hs
  simp -implicitDefEqProofs [hs,hs0]
  refine callPick (p:=q) (by omega) hb (by simp) fun k hk _=>?_
  have hk:=hk (by omega)
  simp -implicitDefEqProofs
  refine⟨fun q1=>?_,fun q1=>?_⟩
  ·refine callPick (p:=q+1) (by omega) hb (by simp) fun j hj _=>?_
   have hj:=hj (by omega)
   obtain⟨s,e1⟩:∃ s,c.sets[j.toNat]?=some s:=⟨_,List.getElem?_eq_getElem (by omega)⟩
   have hj2:j.toNat<c.sets.length:=by omega
   have e0:c.sets[j.toNat]=s:=(List.getElem?_eq_some_iff.1 e1).2
   have h8:=hT.m8 s (List.mem_of_getElem? e1)
   simp -implicitDefEqProofs [hj,hj2,e0,e1,qay s h8]
   exact⟨[(1000,rdOb bs (q+1+1))],by simp,fin _ _ (by omega) (by omega)⟩
  ·refine callOf (p:=q+1) [[110,111,110,101],[],[97]] (by omega) hb (by simp) (by omega) (by simp[strOb,qav]) (by simp) (by simp) (by simp) fun t ht=>?_
   simp -implicitDefEqProofs
   exact⟨[(1000,rdOb bs (q+1+1))],by simp,fin _ _ (by omega) (by omega)⟩
 ·have hs0:c.sets=[]:=List.eq_nil_of_length_eq_zero (by omega)
  simp -implicitDefEqProofs [hs,hs0]
  refine callOf (p:=q) [[110,111,110,101],[],[97]] (by omega) hb (by simp) (by omega) (by simp[strOb,qav]) (by simp) (by simp) (by simp) fun t ht=>?_
  simp -implicitDefEqProofs
  have:=fin t (q+1) (by omega) (by omega)
  rw[hs0]at this
  exact⟨[(1000,rdOb bs (q+1))],by simp,this⟩
def drSiR (r:AV) (L':List (Nat×Ob)):Prop:=∃ (d:DK) (c:CO) (n:List UInt8) (t:Int),DrP d c∧-1≤t∧t≤10∧r=.tup [.agg c.row,.str n,.int .i64 t]∧L'=[]
theorem drawSiC (code:List UInt8) (hl:code.length<4611686018427387904):ACall prog 4 [.lst 1 (code.map u8row)] [] drSiR:=by
 refine acx func4 [(3,[zJ 0 [6] [],zJ 1 [] [6],zJ 2 [] [6],zJ 3 [] [6],zJ 4 [] [6],zI 5,zI 6,zI 7])] ntmps4 rfl rfl rfl ?_
 have hb:(code.take 2000).length≤2000:=by simp;omega
 simp -implicitDefEqProofs
 refine qac [] (by kernel_rfl) (openC code hl) (by simp) (by simp) (by simp) (by simp) (by simp) ?_
 rintro r L' ⟨rfl,rfl⟩
 refine⟨[(10,10)],⟨by simp,by simp,by simp,by simp,by simp⟩,?_⟩
 generalize code.take 2000=bs at hb
 simp only[qae]
 simp -implicitDefEqProofs
 refine qac [(1000,.whole 10)] (by kernel_rfl) (namedC bs 0 (by omega) hb) (by simp) (by simp) (by simp) (by simp) (by simp) ?_
 rintro r L' ⟨q,d,c,n,h1,h2,h3,rfl,rfl⟩
 refine⟨[],⟨by simp,by simp,by simp,by simp,by simp⟩,?_⟩
 simp only[qae]
 simp -implicitDefEqProofs [CO.row]
 refine callPickI (p:=q) (by omega) hb (by simp) fun k hk _=>?_
 have hk:=hk (by omega)
 have e:=i64w (k-1) (by omega) (by omega)
 simp -implicitDefEqProofs [e]
 exact⟨[],by simp,d,c,n,k-1,h3,by omega,by omega,by simp[CO.row],rfl⟩
theorem bent_txg {d:DK} {c:CO} (h:DrP d c):-1≤c.txg∧c.txg≤1000001:=by
 obtain⟨c0,hr,hb⟩:=h
 have ht:=(coreOk_M hr.ok.2.2.1).2.2.2.2
 rcases hb with rfl | ⟨t,h1,rfl⟩ | ⟨e,q,h1,rfl⟩ | rfl | ⟨n,h1,rfl⟩ | ⟨s,q,a,h1,h2,rfl⟩ <;> (try simp only) <;> omega
theorem hold_le {c:CO} {name:List UInt8} (hT:CoT c):cntD c name holdF≤sinceB c name (-1):=by
 unfold cntD sinceB
 split
 ·rename_i h
  obtain⟨hc,hm⟩:=setR_mem h
  generalize (setR c name).1=s at *
  have hd:=core_ddt hc
  have hcs:=core_set hc hm
  simp only[csOkB,Bool.and_eq_true,List.all_eq_true]at hcs
  have h1:(c.ddt.map DE.ea).Nodup:=by
   simp only[qaf,Bool.and_eq_true,decide_eq_true_eq]at hd
   have:=(qch hd.2).2
   rw[List.nodup_iff_pairwise_ne,List.pairwise_map,List.pairwise_iff_getElem]
   intro i j hi hj hij
   have:=this i j _ _ hij (List.getElem?_eq_getElem hi) (List.getElem?_eq_getElem hj)
   omega
  have h2:∀ a∈c.ddt.map DE.ea,0<a:=fun a ha=>by
   obtain⟨e,he,rfl⟩:=List.mem_map.1 ha
   exact(ec_pos hd he).1
  have h3:=cnt_le s.map _ h1 h2
  rw[List.countP_map]at h3
  refine Nat.le_trans h3 (List.countP_mono_left fun p hp hx=>?_)
  have:=hcs.2 p hp
  simp only[decide_eq_true_eq]at hx
  unfold ptOkB at this
  rw[if_neg (by omega)]at this
  simp only[Bool.and_eq_true,decide_eq_true_eq]at this
  simp[sinceF]
  omega
 ·exact Nat.le_refl _
theorem lawSi (code:List UInt8):CV prog 3 [.lst 1 (code.map u8row)] (.bool true):=by
 refine cvx func3 [] ntmps3 rfl rfl rfl ?_ (hca:=by simp)
 by_cases hl:1048576<code.length
 ·have hl':(1048576:Int)<code.length:=by omega
  simp -implicitDefEqProofs [hl']
 have hl':¬ (1048576:Int)<code.length:=by omega
 simp -implicitDefEqProofs [hl']
 refine qac [] (by kernel_rfl) (drawSiC code (by omega)) (by simp) (by simp) trivial (by simp) (by simp) ?_
 rintro r L' ⟨d,c,n,t,h1,h2,h3,rfl,rfl⟩
 refine⟨[],⟨by simp,by simp,by simp,by simp,by simp⟩,?_⟩
 simp only[qae]
 have hT:=bent_T h1
 have c1:=iSinceC c n t hT
 have c2:=sSinceC c n t hT
 have c3:=iSinceC c n (t+1) hT
 have c4:=iHoldC c n hT
 have c5:=iSinceC c n (c.txg+1) hT
 have c6:=iSinceC c n (-1) hT
 have k1:=since_mono c n t
 have k2:=since_zero (c:=c) (bent_birth h1) n
 have k3:=hold_le (name:=n) hT
 have hx:-1≤c.txg∧c.txg≤1000001:=bent_txg h1
 have e1:=i64w (t+1) (by omega) (by omega)
 have e2:=i64w (c.txg+1) (by omega) (by omega)
 rw[k2]at c5
 simp only[CO.row]at c1 c2 c3 c4 c5 c6
 simp -implicitDefEqProofs [CO.row]
 refine c1.call ?_
 simp -implicitDefEqProofs
 refine c2.call ?_
 simp -implicitDefEqProofs [e1]
 refine c3.call ?_
 have k1':¬ ((sinceB c n t:Nat):Int)<(sinceB c n (t+1):Nat):=by omega
 simp -implicitDefEqProofs [k1']
 refine c4.call ?_
 simp -implicitDefEqProofs [e2]
 refine c5.call ?_
 simp -implicitDefEqProofs
 refine c6.call ?_
 simp -implicitDefEqProofs
 omega
end Go.Av.F

end
section
namespace Go.Proofs.YthgigdhkcffloaaGreatDoor
open Go.ChangeShapes Go.WideShapes Go.ChangeAt Go.RowKit
theorem fact_own:ownKnob Tryz.prog.godebug=none:=by kernel_rfl
theorem fact_laidOut:laidOutB Tryz.prog=true:=by kernel_rfl
theorem fact_mapsRowed:mapsRowed Tryz.prog=true:=by kernel_rfl
theorem fact_heard:Tryz.prog.stopsHeard=true:=by kernel_rfl
theorem fact_mayEnter:Tryz.prog.mayEnter=true:=by kernel_rfl
theorem fact_main:Tryz.pinned.checked.prog.mainIs=some (true,"1d8799893391a261a574dd10afaf4cb46d3a6ba291fa6f44e5f930810e4cda2b".toList):=by kernel_rfl
theorem fact_looks:false=Tryz.prog.looks []:=by kernel_rfl
theorem fact_nogo:Tryz.prog.funcs.any Func.goes=false:=by kernel_rfl
theorem goes_none {P:Program} (h:P.funcs.any Func.goes=false) (f:Nat):P.goes f=false:=by
 unfold Program.goes
 rw[h,Bool.and_false,Bool.or_false,List.any_eq_false]
 intro g _
 cases hg:P.funcs[g]? with
 | none=>simp
 | some fn =>
  rw[Array.any_eq_false]at h
  obtain⟨hl,rfl⟩:=Array.getElem?_eq_some_iff.1 hg
  simpa using h g hl
theorem goesBy_none {P:Program} (h:P.funcs.any Func.goes=false) (c:OpenClaim):false=c.goesBy P:=by
 unfold OpenClaim.goesBy Program.goesAt Program.goesFrom
 have e:P.goes=fun _=>false:=funext fun f=>goes_none h f
 rw[e]
 cases P.funcNamed c.func <;> cases c.start <;> simp
end Go.Proofs.YthgigdhkcffloaaGreatDoor

end
