/- Lemmas for the proof, no statement of the seat; no conditions. -/
import Derived.Test.YtcbjbdnmhlhijaaGreatDoorLayAV
import Derived.Lib.LaidTab
import Derived.FnData
set_option linter.unusedSimpArgs false
set_option linter.unusedVariables false
set_option linter.unnecessarySimpa false
set_option maxRecDepth 100000
section
namespace Go.Av.F
open Go Go.Av Go.Proofs Go.Proofs.Tryz
def szLs (l:List (List UInt8)) (left:Int):Int:=if left-l.length<0 then -1 else szSs l (left-l.length)
theorem szLs_le (l:List (List UInt8)) {left:Int} (h:0≤left):szLs l left≤left∧-1≤szLs l left∧(0≤szLs l left→(l.length:Int)≤left∧∀ t∈l,(t.length:Int)≤left):=by
 unfold szLs
 split
 ·exact⟨by omega,by omega,fun h'=>by omega⟩
 ·obtain⟨h1,h2,h3⟩:=szSs_le l (left-l.length) (by omega)
  exact⟨by omega,h2,fun h'=>⟨by omega,fun t ht=>by have:=h3 h' t ht;omega⟩⟩
theorem szStrC (l:List (List UInt8)) (left:Int) (hl:l.length≤maxLen) (hm:∀ t∈l,t.length≤maxLen) (h0:0≤left∧left≤1048576):CV prog 140 [.lst 1 (l.map qaf),.int .i64 left] (.int .i64 (szLs l left)):=by
 obtain⟨R,hR⟩:∃ R,szLs l left=R:=⟨_,rfl⟩
 rw[hR]
 unfold szLs at hR
 have hml:maxLen=9223372036854775807:=rfl
 have e0:=i64w (left-(l.length:Int)) (by omega) (by omega)
 refine cvx func140 [] ntmps140 rfl rfl rfl ?_ (hca:=by simp[qaf])
 by_cases hn:left-(l.length:Int)<0
 ·rw[if_pos hn]at hR
  subst hR
  simp -implicitDefEqProofs [e0,hn,show left<(l.length:Int) by omega]
 ·rw[if_neg hn]at hR
  simp -implicitDefEqProofs [e0,hn,show ¬ left<(l.length:Int) by omega]
  refine ev_lp (X:=Nat×Int) [0,1,5] [] (fun x=>[(5,.int .i64 x.1),(1,.int .i64 x.2)]) (fun _=>[]) (fun x=>l.length-x.1) (fun x=>x.1≤l.length∧0≤x.2∧x.2≤1048576∧szSs (l.drop x.1) x.2=R) (0,left-l.length) (by simp[hR];omega) ?_
  rintro⟨i,k⟩ ⟨hi,hk0,hk,hd⟩
  simp only at hi hk0 hk hd
  cases hr:l.drop i with
  | nil =>
   have:=dropn hr
   rw[hr]at hd
   have hie:i=l.length:=by omega
   simp[szSs]at hd
   simp -implicitDefEqProofs [hie,hd]
  | cons t r =>
   obtain⟨h1,f0,f1,h3⟩:=dropc hr
   rw[hr,szSs]at hd
   have:=hm t (List.mem_of_getElem? f1)
   have e2:=i64w ((i:Int)+1) (by omega) (by omega)
   have e3:=i64w (k-(t.length:Int)) (by omega) (by omega)
   have h1':(i:Int)<l.length:=by omega
   by_cases hq:k-(t.length:Int)<0
   ·rw[if_pos hq]at hd
    simp -implicitDefEqProofs [h1',h1,f0,f1,e3,qaf,hq,show k<(t.length:Int) by omega,hd]
   ·rw[if_neg hq]at hd
    simp -implicitDefEqProofs [h1',h1,f0,f1,e2,e3,qaf,hq,show ¬ k<(t.length:Int) by omega]
    exact nx (i+1,k-t.length) [] ⟨by simp only;omega,by simp only;omega,by simp only;omega,by simp only[h3];exact hd⟩ (by simp only;omega) (h4:=by simp[e2,e3])
theorem szLate1C (x:LT) (k:Int) (hx:x.lx.length≤maxLen) (h0:0≤k∧k≤1048576):CV prog 141 [.agg x.row,.int .i64 k] (.int .i64 (szSs [x.lx] k)):=by
 have hml:maxLen=9223372036854775807:=rfl
 have e3:=i64w (k-(x.lx.length:Int)) (by omega) (by omega)
 refine cvx func141 [] ntmps141 rfl rfl rfl ?_ (hca:=by simp[LT.row])
 simp only[szSs]
 by_cases hq:k-(x.lx.length:Int)<0
 ·rw[if_pos hq]
  simp -implicitDefEqProofs [LT.row,e3,hq,show k<(x.lx.length:Int) by omega]
 ·rw[if_neg hq]
  simp -implicitDefEqProofs [LT.row,e3,hq,show ¬ k<(x.lx.length:Int) by omega]
theorem szLateC (l:List LT) (left:Int) (hl:l.length≤maxLen) (hm:∀ t∈l,t.lx.length≤maxLen) (h0:0≤left∧left≤1048576):CV prog 63 [.lst 3 (l.map LT.row),.int .i64 left] (.int .i64 (szLs (l.map LT.lx) left)):=by
 obtain⟨R,hR⟩:∃ R,szLs (l.map LT.lx) left=R:=⟨_,rfl⟩
 rw[hR]
 unfold szLs at hR
 rw[List.length_map]at hR
 have hml:maxLen=9223372036854775807:=rfl
 have e0:=i64w (left-(l.length:Int)) (by omega) (by omega)
 refine cvx func63 [] ntmps63 rfl rfl rfl ?_ (hca:=by simp[LT.row])
 by_cases hn:left-(l.length:Int)<0
 ·rw[if_pos hn]at hR
  subst hR
  simp -implicitDefEqProofs [e0,hn,show left<(l.length:Int) by omega]
 ·rw[if_neg hn]at hR
  simp -implicitDefEqProofs [e0,hn,show ¬ left<(l.length:Int) by omega]
  refine ev_lp (X:=Nat×Int) [0,1,5] [] (fun x=>[(5,.int .i64 x.1),(1,.int .i64 x.2)]) (fun _=>[]) (fun x=>l.length-x.1) (fun x=>x.1≤l.length∧0≤x.2∧x.2≤1048576∧szSs ((l.drop x.1).map LT.lx) x.2=R) (0,left-l.length) (by simp[hR];omega) ?_
  rintro⟨i,k⟩ ⟨hi,hk0,hk,hd⟩
  simp only at hi hk0 hk hd
  cases hr:l.drop i with
  | nil =>
   have:=dropn hr
   rw[hr]at hd
   have hie:i=l.length:=by omega
   simp[szSs]at hd
   simp -implicitDefEqProofs [hie,hd]
  | cons t r =>
   obtain⟨h1,f0,f1,h3⟩:=dropc hr
   rw[hr,List.map_cons,szSs]at hd
   have htm:=hm t (List.mem_of_getElem? f1)
   have e2:=i64w ((i:Int)+1) (by omega) (by omega)
   have c1:=szLate1C t k htm ⟨hk0,hk⟩
   have h1':(i:Int)<l.length:=by omega
   simp only[LT.row,szSs]at c1
   simp -implicitDefEqProofs [h1',h1,f0,f1,LT.row]
   refine c1.call ?_
   by_cases hq:k-(t.lx.length:Int)<0
   ·rw[if_pos hq]at hd
    subst hd
    simp -implicitDefEqProofs [hq]
   ·rw[if_neg hq]at hd
    simp -implicitDefEqProofs [hq,e2]
    exact nx (i+1,k-t.lx.length) [] ⟨by simp only;omega,by simp only;omega,by simp only;omega,by simp only[← List.map_drop,h3];exact hd⟩ (by simp only;omega) (h4:=by simp[e2])
def szA2 (d:DK) (left:Int):Int:=if szLs d.s0 left<0 then -1 else szLs d.s1 (szLs d.s0 left)
def DkG (d:DK):Prop:=d.s0.length≤maxLen∧d.s1.length≤maxLen∧d.late.length≤maxLen∧(∀ t∈d.s0,t.length≤maxLen)∧(∀ t∈d.s1,t.length≤maxLen)∧(∀ t∈d.late,t.lx.length≤maxLen)
theorem szA2C (d:DK) (left:Int) (hg:DkG d) (h0:0≤left∧left≤1048576):CV prog 62 [.agg [.lst 1 (d.s0.map qaf),.lst 1 (d.s1.map qaf)],.int .i64 left] (.int .i64 (szA2 d left)):=by
 obtain⟨R,hR⟩:∃ R,szA2 d left=R:=⟨_,rfl⟩
 rw[hR]
 unfold szA2 at hR
 obtain⟨g1,g2,g3,g4,g5,g6⟩:=hg
 obtain⟨l1,l2,l3⟩:=szLs_le d.s0 h0.1
 have c1:=szStrC d.s0 left g1 g4 h0
 refine cvx func62 [] ntmps62 rfl rfl rfl ?_ (hca:=by simp[qaf])
 simp -implicitDefEqProofs
 refine ev_lp (X:=Nat×Int) [1,2,5] [(2,2)] (fun x=>[(5,.int .i64 x.1),(1,.int .i64 x.2)]) (fun _=>[]) (fun x=>2-x.1) (fun x=>(x=(0,left))∨(x=(1,szLs d.s0 left)∧0≤szLs d.s0 left)∨(x=(2,R)∧0≤R)) (0,left) (.inl rfl) ?_ (he:=by simp[obOf,qaf])
 rintro x (rfl | ⟨rfl,hz⟩ | ⟨rfl,hz⟩)
 ·simp -implicitDefEqProofs [obOf,qaf]
  refine c1.call ?_
  by_cases hq:szLs d.s0 left<0
  ·rw[if_pos hq]at hR
   subst hR
   simp -implicitDefEqProofs [hq]
  ·simp -implicitDefEqProofs [hq]
   exact nx (1,szLs d.s0 left) [(2,2)] (.inr (.inl ⟨rfl,by omega⟩)) (h4:=by simp[obOf,qaf])
 ·have c2:=szStrC d.s1 (szLs d.s0 left) g2 g5 ⟨hz,by omega⟩
  obtain⟨m1,m2,m3⟩:=szLs_le d.s1 hz
  rw[if_neg (by omega)]at hR
  simp -implicitDefEqProofs [obOf,qaf]
  refine c2.call ?_
  rw[hR]
  by_cases hq:R<0
  ·have:R=-1:=by omega
   subst this
   simp -implicitDefEqProofs
  ·simp -implicitDefEqProofs [hq]
   exact nx (2,R) [(2,2)] (.inr (.inr ⟨rfl,by omega⟩)) (h4:=by simp[obOf,qaf])
 ·simp -implicitDefEqProofs [obOf]
def szDk (d:DK) (left:Int):Int:=if szA2 d left<0 then -1 else szLs (d.late.map LT.lx) (szA2 d left)
theorem szA2_le (d:DK) {left:Int} (h:0≤left):szA2 d left≤left∧-1≤szA2 d left∧(0≤szA2 d left→(d.s0.length:Int)≤left∧(d.s1.length:Int)≤left∧(∀ t∈d.s0,(t.length:Int)≤left)∧∀ t∈d.s1,(t.length:Int)≤left):=by
 obtain⟨h1,h2,h3⟩:=szLs_le d.s0 h
 unfold szA2
 split
 ·exact⟨by omega,by omega,fun h'=>by omega⟩
 ·obtain⟨m1,m2,m3⟩:=szLs_le d.s1 (left:=szLs d.s0 left) (by omega)
  exact⟨by omega,m2,fun h'=>⟨(h3 (by omega)).1,by have:=(m3 h').1;omega,(h3 (by omega)).2,fun t ht=>by have:=(m3 h').2 t ht;omega⟩⟩
theorem szDk_le (d:DK) {left:Int} (h:0≤left):szDk d left≤left∧-1≤szDk d left∧(0≤szDk d left→(d.s0.length:Int)≤left∧(d.s1.length:Int)≤left∧(d.late.length:Int)≤left∧(∀ t∈d.s0,(t.length:Int)≤left)∧(∀ t∈d.s1,(t.length:Int)≤left)∧∀ t∈d.late,(t.lx.length:Int)≤left):=by
 obtain⟨h1,h2,h3⟩:=szA2_le d h
 unfold szDk
 split
 ·exact⟨by omega,by omega,fun h'=>by omega⟩
 ·obtain⟨m1,m2,m3⟩:=szLs_le (d.late.map LT.lx) (left:=szA2 d left) (by omega)
  refine⟨by omega,m2,fun h'=>?_⟩
  obtain⟨a1,a2,a3,a4⟩:=h3 (by omega)
  obtain⟨b1,b2⟩:=m3 h'
  rw[List.length_map]at b1
  exact⟨a1,a2,by omega,a3,a4,fun t ht=>by have:=b2 t.lx (List.mem_map.2 ⟨t,ht,rfl⟩);omega⟩
theorem szDkC (d:DK) (left:Int) (hg:DkG d) (h0:0≤left∧left≤1048576):CV prog 22 [.agg d.row,.int .i64 left] (.int .i64 (szDk d left)):=by
 obtain⟨R,hR⟩:∃ R,szDk d left=R:=⟨_,rfl⟩
 have hle:=szDk_le d h0.1
 rw[hR]at hle ⊢
 unfold szDk at hR
 obtain⟨l1,l2,l3⟩:=szA2_le d h0.1
 have c1:=szA2C d left hg h0
 refine cvx func22 [] ntmps22 rfl rfl rfl ?_ (hca:=by simp[DK.row,qaf,LT.row])
 simp -implicitDefEqProofs [DK.row]
 refine c1.call ?_
 by_cases hq:szA2 d left<0
 ·rw[if_pos hq]at hR
  subst hR
  simp -implicitDefEqProofs [hq]
 ·rw[if_neg hq]at hR
  have c2:=szLateC d.late (szA2 d left) hg.2.2.1 hg.2.2.2.2.2 ⟨by omega,by omega⟩
  rw[hR]at c2
  simp -implicitDefEqProofs [hq,DK.row]
  refine c2.call ?_
  by_cases hz:R<0
  ·have:R=-1:=by omega
   subst this
   simp -implicitDefEqProofs
  ·simp -implicitDefEqProofs [hz]
theorem szCoreL (c:CO) (hg:CoG c) (left:Int) (h0:0≤left∧left≤1048576):ACall prog 23 [.agg c.row,.int .i64 left] [] (fun r L'=>szR left (CoS c) r∧clA r=true∧L'=[]):=by
 obtain⟨_,g2,_,_,_,_,m1,m2,m3,m4⟩:=hg
 refine acx func23 [] ntmps23 rfl rfl rfl ?_
 simp -implicitDefEqProofs [CO.row]
 refine callA_ex (by kernel_rfl) (szSetsC c.sets left g2 m1 (by omega)) (by simp[cs_cl]) ?_
 rintro r ⟨y,rfl,y1,y2,y3⟩
 by_cases hy:y<0
 ·simp -implicitDefEqProofs [hy,szR]
  omega
 simp -implicitDefEqProofs [hy]
 refine callA_ex (by kernel_rfl) (szDdtC c.ddt y m2 (by omega)) (by simp[DE.row]) ?_
 rintro r ⟨x,rfl,x1,x2,x3⟩
 by_cases hx:x<0
 ·simp -implicitDefEqProofs [hx,szR]
  omega
 simp -implicitDefEqProofs [hx]
 refine callA_ex (by kernel_rfl) (szPtrC c.parts x m3 (by omega)) (by simp[PT.row]) ?_
 rintro r ⟨z,rfl,z1,z2,z3⟩
 by_cases hz:z<0
 ·simp -implicitDefEqProofs [hz,szR]
  omega
 simp -implicitDefEqProofs [hz]
 refine callA_ex (by kernel_rfl) (szIntC c.safe z m4 (by omega)) (by simp[qad]) ?_
 rintro r ⟨v,rfl,v1,v2,v3⟩
 by_cases hv:v<0
 ·simp -implicitDefEqProofs [hv,szR]
  omega
 simp -implicitDefEqProofs [hv]
 obtain⟨q1,q2⟩:=y3 (by omega)
 have q3:=x3 (by omega)
 have q4:=z3 (by omega)
 have q5:=v3 (by omega)
 exact⟨v,rfl,by omega,by omega,fun _=>⟨by omega,by omega,by omega,by omega,fun s hs=>⟨by have:=(q2 s hs).1;omega,by have:=(q2 s hs).2;omega⟩⟩⟩
def DkS (d:DK):Prop:=d.s0.length≤1048576∧d.s1.length≤1048576∧d.late.length≤1048576∧(∀ t∈d.s0,t.length≤1048576)∧(∀ t∈d.s1,t.length≤1048576)∧∀ t∈d.late,t.lx.length≤1048576
theorem szPoolC (p:PO) (hd:DkG p.d) (hc:CoG p.c):ACall prog 6 [.agg p.row,.int .i64 1048576] [] (fun r L'=>szR 1048576 (DkS p.d∧CoS p.c) r∧clA r=true∧L'=[]):=by
 have c1:=szDkC p.d 1048576 hd (by omega)
 obtain⟨l1,l2,l3⟩:=szDk_le p.d (left:=1048576) (by omega)
 generalize szDk p.d 1048576=z at *
 simp only[DK.row]at c1
 have c2:=szCoreL p.c hc
 simp only[CO.row]at c2
 refine acx func6 [] ntmps6 rfl rfl rfl ?_
 simp -implicitDefEqProofs [PO.row,DK.row,CO.row]
 refine c1.call ?_
 by_cases hz:z<0
 ·simp -implicitDefEqProofs [hz,szR]
 simp -implicitDefEqProofs [hz,PO.row,DK.row,CO.row]
 refine callA_ex (by kernel_rfl) (c2 z ⟨by omega,by omega⟩) (by simp[cs_cl,DE.row,PT.row,qad]) ?_
 rintro r ⟨v,rfl,v1,v2,v3⟩
 by_cases hv:v<0
 ·simp -implicitDefEqProofs [hv,szR]
 simp -implicitDefEqProofs [hv]
 obtain⟨a1,a2,a3,a4,a5,a6⟩:=l3 (by omega)
 exact⟨v,rfl,by omega,by omega,fun _=>⟨⟨by omega,by omega,by omega,fun t ht=>by have:=a4 t ht;omega,fun t ht=>by have:=a5 t ht;omega,fun t ht=>by have:=a6 t ht;omega⟩,v3 (by omega)⟩⟩
theorem dkT_of {d:DK} (h:DkS d):DkT d:=⟨h.1,h.2.1,h.2.2.1,h.2.2.2.1,h.2.2.2.2.1,h.2.2.2.2.2⟩
theorem fill_step {α:Type} {l cs:List α} {i:Nat} {b:α} (h:l[i]?=some b) (hi:i<cs.length) (hm:∀ j,j<i→cs[j]?=l[j]?):∀ j,j<i+1→(cs.set i b)[j]?=l[j]?:=fun j hj=>by
 by_cases hji:j=i
 ·subst hji
  rw[List.getElem?_set_self hi,h]
 ·rw[List.getElem?_set_ne (Ne.symm hji)]
  exact hm j (by omega)
theorem fill_end {α:Type} {l cs:List α} (h:cs.length=l.length) (hm:∀ j,j<l.length→cs[j]?=l[j]?):cs=l:=by
 refine List.ext_getElem? fun q=>?_
 by_cases hq:q<l.length
 ·exact hm q hq
 ·rw[List.getElem?_eq_none (by omega),List.getElem?_eq_none (by omega)]
theorem toStrO (l:List (List UInt8)) (hl:l.length≤2000000):ACall prog 162 [.lst 1 (l.map qaf)] [] (fun r L'=>r=.sl 900 0 l.length∧L'=[(900,strOb l)]):=by
 refine acx func162 [] ntmps162 rfl rfl rfl ?_
 simp -implicitDefEqProofs
 refine⟨by omega,?_⟩
 refine ev_lp (X:=Nat×List (List UInt8)) [0,3,4] [(7,900)] (fun x=>[(4,.int .i64 x.1)]) (fun x=>[(900,strOb x.2)]) (fun x=>l.length-x.1)
  (fun x=>x.1≤l.length∧x.2.length=l.length∧∀ j,j<x.1→x.2[j]?=l[j]?) (0,List.replicate l.length []) ⟨by omega,by simp,by omega⟩ ?_ (he:=by simp[obOf,strOb,qaf])
 rintro⟨i,cs⟩ ⟨hi,hc,hm⟩
 simp only at hi hc hm
 by_cases h2:i<l.length
 ·obtain⟨b,f1⟩:∃ b,l[i]?=some b:=⟨_,List.getElem?_eq_getElem (by omega)⟩
  have h2':(i:Int)<l.length:=by omega
  have hil:i<cs.length:=by omega
  have f0:l[i]=b:=(List.getElem?_eq_some_iff.1 f1).2
  have e1:=i64w ((i:Int)+1) (by omega) (by omega)
  simp -implicitDefEqProofs [h2',h2,hil,f0,f1,qaf,strOb,hc]
  exact nx (i+1,cs.set i b) [(900,900)] ⟨by simp only;omega,by simp[hc],fill_step f1 hil hm⟩ (by simp only;omega) (h4:=by simp[obOf,e1,strOb,List.map_set,qaf])
 ·have hie:i=l.length:=by omega
  subst hie
  have:=fill_end hc hm
  subst this
  simp -implicitDefEqProofs
theorem toLate1C (x:LT):CV prog 163 [.agg x.row] (.agg x.row):=by
 refine cvx func163 [] ntmps163 rfl rfl rfl ?_ (hca:=by simp[LT.row]) (hcv:=by simp[LT.row])
 simp -implicitDefEqProofs [LT.row]
theorem toLateO (l:List LT) (hl:l.length≤2000000):ACall prog 78 [.lst 3 (l.map LT.row)] [] (fun r L'=>r=.sl 900 0 l.length∧L'=[(900,ltOb l)]):=by
 refine acx func78 [] ntmps78 rfl rfl rfl ?_
 simp -implicitDefEqProofs
 refine⟨by omega,?_⟩
 refine ev_lp (X:=Nat×List LT) [0,3,4] [(7,900)] (fun x=>[(4,.int .i64 x.1)]) (fun x=>[(900,ltOb x.2)]) (fun x=>l.length-x.1)
  (fun x=>x.1≤l.length∧x.2.length=l.length∧∀ j,j<x.1→x.2[j]?=l[j]?) (0,List.replicate l.length ⟨0,0,[]⟩) ⟨by omega,by simp,by omega⟩ ?_ (he:=by simp[obOf,ltOb,LT.row])
 rintro⟨i,cs⟩ ⟨hi,hc,hm⟩
 simp only at hi hc hm
 by_cases h2:i<l.length
 ·obtain⟨b,f1⟩:∃ b,l[i]?=some b:=⟨_,List.getElem?_eq_getElem (by omega)⟩
  have h2':(i:Int)<l.length:=by omega
  have hil:i<cs.length:=by omega
  have f0:l[i]=b:=(List.getElem?_eq_some_iff.1 f1).2
  have e1:=i64w ((i:Int)+1) (by omega) (by omega)
  have c1:=toLate1C b
  simp only[LT.row]at c1
  simp -implicitDefEqProofs [h2',h2,hil,f0,f1,LT.row,ltOb,hc]
  refine c1.call ?_
  simp -implicitDefEqProofs [h2',h2,hil,f0,f1,LT.row,ltOb,hc]
  exact nx (i+1,cs.set i b) [(900,900)] ⟨by simp only;omega,by simp[hc],fill_step f1 hil hm⟩ (by simp only;omega) (h4:=by simp[obOf,e1,ltOb,List.map_set,LT.row])
 ·have hie:i=l.length:=by omega
  subst hie
  have:=fill_end hc hm
  subst this
  simp -implicitDefEqProofs
theorem toA2O (d:DK) (h:DkT d):ACall prog 77 [.agg [.lst 1 (d.s0.map qaf),.lst 1 (d.s1.map qaf)]] [] (fun r L'=>r=.agg [.sl 901 0 d.s0.length,.sl 902 0 d.s1.length]∧L'=[(901,strOb d.s0),(902,strOb d.s1)]):=by
 have l0:=h.l0
 have l1:=h.l1
 have c1:=toStrO d.s0 (by omega)
 have c2:=toStrO d.s1 (by omega)
 refine acx func77 [] ntmps77 rfl rfl rfl ?_
 simp -implicitDefEqProofs
 refine ev_lo (X:=Nat) [1,2,3,4] [(1,1),(2,2),(3,3)] (fun i=>[(4,.int .i64 i)]) (fun i=>(1,⟨2,[[.lst 1 (d.s0.map qaf),.lst 1 (d.s1.map qaf)]]⟩)::(2,⟨2,[[.nils,.nils]]⟩)::(3,⟨2,[[if i=0 then .nils else .sl 901 0 d.s0.length,if i=2 then .sl 902 0 d.s1.length else .nils]]⟩)::(if i=0 then [] else if i=1 then [(901,strOb d.s0)] else [(901,strOb d.s0),(902,strOb d.s1)])) (fun i=>2-i) (fun i=>i=0∨i=1∨i=2) 0 (.inl rfl) ?_ (he:=by simp[obOf])
 rintro i (rfl | rfl | rfl)
 ·simp -implicitDefEqProofs [obOf]
  refine qab [] (by kernel_rfl) c1 (by simp[qaf]) (by simp) trivial (by simp) (by simp) ?_
  rintro r L' ⟨rfl,rfl⟩
  refine⟨[(900,901)],⟨by simp,by simp,by simp,by simp,by simp⟩,?_⟩
  simp only[qae]
  simp -implicitDefEqProofs
  exact nx 1 [(1,1),(2,2),(3,3),(901,901)] (.inr (.inl rfl)) (h4:=by simp[obOf])
 ·simp -implicitDefEqProofs [obOf]
  refine qab [] (by kernel_rfl) c2 (by simp[qaf]) (by simp) trivial (by simp) (by simp) ?_
  rintro r L' ⟨rfl,rfl⟩
  refine⟨[(900,902)],⟨by simp,by simp,by simp,by simp,by simp⟩,?_⟩
  simp only[qae]
  simp -implicitDefEqProofs
  exact nx 2 [(1,1),(2,2),(3,3),(901,901),(902,902)] (.inr (.inr rfl)) (h4:=by simp[obOf])
 ·simp -implicitDefEqProofs [obOf]
theorem toDkO (d:DK) (h:DkT d):ACall prog 27 [.agg d.row] [] (fun r L'=>r=.agg (dskA d 901 902 903)∧L'=[(901,strOb d.s0),(902,strOb d.s1),(903,ltOb d.late)]):=by
 have c1:=toA2O d h
 have c2:=toLateO d.late (by have:=h.l2;omega)
 refine acx func27 [] ntmps27 rfl rfl rfl ?_
 simp -implicitDefEqProofs [DK.row]
 refine qab [] (by kernel_rfl) c1 (by simp[qaf]) (by simp) trivial (by simp) (by simp) ?_
 rintro r L' ⟨rfl,rfl⟩
 refine⟨[(901,901),(902,902)],⟨by simp,by simp,by simp,by simp,by simp⟩,?_⟩
 simp only[qae]
 simp -implicitDefEqProofs
 refine qab [] (by kernel_rfl) c2 (by simp[LT.row]) (by simp) trivial (by simp) (by simp) ?_
 rintro r L' ⟨rfl,rfl⟩
 refine⟨[(900,903)],⟨by simp,by simp,by simp,by simp,by simp⟩,?_⟩
 simp only[qae]
 simp -implicitDefEqProofs [dskA]
theorem toCoO (c:CO) (h:CoT c):ACall prog 28 [.agg c.row] [] (fun r L'=>r=coreA c 904 905 906 907∧L'=[(904,kcs c.sets),(905,deOb c.ddt),(906,kpt c.parts),(907,kin c.safe)]):=by
 have c1:=toCsSC c.sets h.sets h.m8
 have c2:=toDdtSC c.ddt h.ddt
 have c3:=toPtrSC c.parts h.parts
 have c4:=toIntSC c.safe h.safe
 refine acx func28 [] ntmps28 rfl rfl rfl ?_
 simp -implicitDefEqProofs [CO.row]
 refine qab [] (by kernel_rfl) c1 (by simp[cs_cl]) (by simp) trivial (by simp) (by simp) ?_
 rintro r L' ⟨rfl,rfl⟩
 refine⟨[(7,904)],⟨by simp,by simp,by simp,by simp,by simp⟩,?_⟩
 simp only[qae]
 simp -implicitDefEqProofs
 refine qab [] (by kernel_rfl) c2 (by simp[DE.row]) (by simp) trivial (by simp) (by simp) ?_
 rintro r L' ⟨rfl,rfl⟩
 refine⟨[(7,905)],⟨by simp,by simp,by simp,by simp,by simp⟩,?_⟩
 simp only[qae]
 simp -implicitDefEqProofs
 refine qab [] (by kernel_rfl) c3 (by simp[PT.row]) (by simp) trivial (by simp) (by simp) ?_
 rintro r L' ⟨rfl,rfl⟩
 refine⟨[(7,906)],⟨by simp,by simp,by simp,by simp,by simp⟩,?_⟩
 simp only[qae]
 simp -implicitDefEqProofs
 refine qab [] (by kernel_rfl) c4 (by simp[qad]) (by simp) trivial (by simp) (by simp) ?_
 rintro r L' ⟨rfl,rfl⟩
 refine⟨[(7,907)],⟨by simp,by simp,by simp,by simp,by simp⟩,?_⟩
 simp only[qae]
 simp -implicitDefEqProofs [coreA,kcs,deOb,kpt,kin]
theorem toPoO (p:PO) (hd:DkT p.d) (hc:CoT p.c):ACall prog 9 [.agg p.row] [] (fun r L'=>r=.agg (poolA p 901 902 903 904 905 906 907)∧L'=poolL p 901 902 903 904 905 906 907):=by
 have c1:=toDkO p.d hd
 have c2:=toCoO p.c hc
 simp only[DK.row,CO.row]at c1 c2
 refine acx func9 [] ntmps9 rfl rfl rfl ?_
 simp -implicitDefEqProofs [PO.row,DK.row,CO.row]
 refine qab [] (by kernel_rfl) c1 (by simp[qaf,LT.row]) (by simp) trivial (by simp) (by simp) ?_
 rintro r L' ⟨rfl,rfl⟩
 refine⟨[(901,901),(902,902),(903,903)],⟨by simp,by simp,by simp,by simp,by simp⟩,?_⟩
 simp only[qae]
 simp -implicitDefEqProofs [dskA,PO.row,DK.row,CO.row]
 refine qab [] (by kernel_rfl) c2 (by simp[cs_cl,DE.row,PT.row,qad]) (by simp) trivial (by simp) (by simp) ?_
 rintro r L' ⟨rfl,rfl⟩
 refine⟨[(904,904),(905,905),(906,906),(907,907)],⟨by simp,by simp,by simp,by simp,by simp⟩,?_⟩
 simp only[qae]
 simp -implicitDefEqProofs [coreA,poolA,poolL,PO.row,DK.row,CO.row]
theorem toPoC (p:PO) (hd:DkT p.d) (hc:CoT p.c):CV prog 9 [.agg p.row] (.agg p.row):=by
 refine CV.of_frz (toPoO p hd hc) ?_ (hca:=by simp[PO.row,DK.row,CO.row,qaf,LT.row,cs_cl,DE.row,PT.row,qad]) (hcv:=by simp[PO.row,DK.row,CO.row,qaf,LT.row,cs_cl,DE.row,PT.row,qad])
 rintro r L' ⟨rfl,rfl⟩
 refine⟨by simp[poolL],by simp[poolL],fun x hx=>?_,?_⟩
 ·simp only[poolL,List.mem_cons,List.not_mem_nil,or_false]at hx
  rcases hx with rfl | rfl | rfl | rfl | rfl | rfl | rfl
  ·exact qam _
  ·exact qam _
  ·exact clR_lt _
  ·exact qak _
  ·exact qbh _
  ·exact qbd _
  ·exact qan _
 simp[frzAll,poolA,poolL,PO.row,DK.row,CO.row,strOb,ltOb,kcs,deOb,kpt,kin,qap]
theorem eqStrR (l:List (List UInt8)) (hl:l.length≤2000000):CV prog 180 [.lst 1 (l.map qaf),.lst 1 (l.map qaf)] (.bool true):=by
 refine cvx func180 [] ntmps180 rfl rfl rfl ?_ (hca:=by simp[qaf])
 simp -implicitDefEqProofs
 refine ev_lp (X:=Nat) [0,1,5] [] (fun x=>[(5,.int .i64 x)]) (fun x=>[]) (fun x=>l.length-x) (fun x=>x≤l.length) 0 (by simp) ?_
 rintro i hi
 by_cases h2:i<l.length
 ·obtain⟨b,f1⟩:∃ b,l[i]?=some b:=⟨_,List.getElem?_eq_getElem (by omega)⟩
  have h2':(i:Int)<l.length:=by omega
  have f0:l[i]=b:=(List.getElem?_eq_some_iff.1 f1).2
  have e1:=i64w ((i:Int)+1) (by omega) (by omega)
  simp -implicitDefEqProofs [h2',h2,f0,f1,qaf]
  exact nx (i+1) [] (by omega) (h4:=by simp[e1])
 ·have:i=l.length:=by omega
  subst this
  simp -implicitDefEqProofs
theorem eqLate1R (x:LT):CV prog 181 [.agg x.row,.agg x.row] (.bool true):=by
 refine cvx func181 [] ntmps181 rfl rfl rfl ?_ (hca:=by simp[LT.row])
 simp -implicitDefEqProofs [LT.row]
theorem eqLateR (l:List LT) (hl:l.length≤2000000):CV prog 90 [.lst 3 (l.map LT.row),.lst 3 (l.map LT.row)] (.bool true):=by
 refine cvx func90 [] ntmps90 rfl rfl rfl ?_ (hca:=by simp[LT.row])
 simp -implicitDefEqProofs
 refine ev_lp (X:=Nat) [0,1,5] [] (fun x=>[(5,.int .i64 x)]) (fun x=>[]) (fun x=>l.length-x) (fun x=>x≤l.length) 0 (by simp) ?_
 rintro i hi
 by_cases h2:i<l.length
 ·obtain⟨b,f1⟩:∃ b,l[i]?=some b:=⟨_,List.getElem?_eq_getElem (by omega)⟩
  have h2':(i:Int)<l.length:=by omega
  have f0:l[i]=b:=(List.getElem?_eq_some_iff.1 f1).2
  have e1:=i64w ((i:Int)+1) (by omega) (by omega)
  have c1:=eqLate1R b
  simp only[LT.row]at c1
  simp -implicitDefEqProofs [h2',h2,f0,f1,LT.row]
  refine c1.call ?_
  simp -implicitDefEqProofs
  exact nx (i+1) [] (by omega) (h4:=by simp[e1])
 ·have:i=l.length:=by omega
  subst this
  simp -implicitDefEqProofs
theorem eqA2R (d:DK) (h:DkT d):CV prog 89 [.agg [.lst 1 (d.s0.map qaf),.lst 1 (d.s1.map qaf)],.agg [.lst 1 (d.s0.map qaf),.lst 1 (d.s1.map qaf)]] (.bool true):=by
 have l0:=h.l0
 have l1:=h.l1
 have c1:=eqStrR d.s0 (by omega)
 have c2:=eqStrR d.s1 (by omega)
 refine cvx func89 [(4,[zI 0,zI 1,zJ 2 [2] [],zJ 3 [] [2],zJ 4 [] [2],zJ 5 [3] [2],zI 6,zI 7])] ntmps89 rfl rfl rfl ?_ (hca:=by simp[qaf])
 simp -implicitDefEqProofs
 refine ev_lp (X:=Nat) [2,3,5] [(2,2),(3,3)] (fun x=>[(5,.int .i64 x)]) (fun x=>[]) (fun x=>2-x) (fun x=>x=0∨x=1∨x=2) 0 (.inl rfl) ?_ (he:=by simp[obOf,qaf])
 rintro i (rfl | rfl | rfl)
 ·simp -implicitDefEqProofs [obOf,qaf]
  refine c1.call ?_
  simp -implicitDefEqProofs
  exact nx 1 [(2,2),(3,3)] (.inr (.inl rfl)) (h4:=by simp[obOf,qaf])
 ·simp -implicitDefEqProofs [obOf,qaf]
  refine c2.call ?_
  simp -implicitDefEqProofs
  exact nx 2 [(2,2),(3,3)] (.inr (.inr rfl)) (h4:=by simp[obOf,qaf])
 ·simp -implicitDefEqProofs [obOf]
theorem eqDkR (d:DK) (h:DkT d):CV prog 32 [.agg d.row,.agg d.row] (.bool true):=by
 have c1:=eqA2R d h
 have c2:=eqLateR d.late (by have:=h.l2;omega)
 refine cvx func32 [] ntmps32 rfl rfl rfl ?_ (hca:=by simp[DK.row,qaf,LT.row])
 simp -implicitDefEqProofs [DK.row]
 refine c1.call ?_
 simp -implicitDefEqProofs
 refine c2.call ?_
 simp -implicitDefEqProofs
theorem eqCoR (c:CO) (h:CoT c):CV prog 33 [.agg c.row,.agg c.row] (.bool true):=by
 refine cv_of ?_ (hca:=by simp[CO.row,cs_cl,DE.row,PT.row,qad])
 refine acx func33 [] ntmps33 rfl rfl rfl ?_
 simp -implicitDefEqProofs [CO.row]
 refine qah (by kernel_rfl) (eqCsSC c.sets h.sets h.m8) (by simp[cs_cl]) (by simp) ?_
 simp -implicitDefEqProofs
 refine qah (by kernel_rfl) (eqDdtSC c.ddt h.ddt) (by simp[DE.row]) (by simp) ?_
 simp -implicitDefEqProofs
 refine qah (by kernel_rfl) (eqPtrSC c.parts h.parts) (by simp[PT.row]) (by simp) ?_
 simp -implicitDefEqProofs
 refine qah (by kernel_rfl) (eqIntSC c.safe h.safe) (by simp[qad]) (by simp) ?_
 simp -implicitDefEqProofs
theorem eqPoR (p:PO) (hd:DkT p.d) (hc:CoT p.c):CV prog 12 [.agg p.row,.agg p.row] (.bool true):=by
 have c1:=eqDkR p.d hd
 have c2:=eqCoR p.c hc
 simp only[DK.row,CO.row]at c1 c2
 refine cvx func12 [] ntmps12 rfl rfl rfl ?_ (hca:=by simp[PO.row,DK.row,CO.row,qaf,LT.row,cs_cl,DE.row,PT.row,qad])
 simp -implicitDefEqProofs [PO.row,DK.row,CO.row]
 refine c1.call ?_
 simp -implicitDefEqProofs [PO.row,DK.row,CO.row]
 refine c2.call ?_
 simp -implicitDefEqProofs
def mkG {α:Type} (f:Nat→α) (w k n:Nat):List α:=(List.range n).map fun i=>f (k+w * i)
theorem mkG_len {α:Type} (f:Nat→α) (w k n:Nat):(mkG f w k n).length=n:=by simp[mkG]
theorem mkG_at {α:Type} (f:Nat→α) {w k n i:Nat} (h:i<n):(mkG f w k n)[i]?=some (f (k+w * i)):=by simp[mkG,h]
theorem mkG_end {α:Type} {f:Nat→α} {w k n:Nat} {cs:List α} (hc:cs.length=n) (hm:∀ j,j<n→cs[j]?=some (f (k+w * j))):cs=mkG f w k n:=by
 refine List.ext_getElem? fun q=>?_
 by_cases hq:q<n
 ·rw[hm q hq,mkG_at f hq]
 ·rw[List.getElem?_eq_none (by omega),List.getElem?_eq_none (by rw[mkG_len];omega)]
theorem mkG_step {α:Type} {f:Nat→α} {w k i:Nat} {cs:List α} {b:α} (hb:b=f (k+w * i)) (hi:i<cs.length) (hm:∀ j,j<i→cs[j]?=some (f (k+w * j))):∀ j,j<i+1→(cs.set i b)[j]?=some (f (k+w * j)):=fun j hj=>by
 by_cases hji:j=i
 ·subst hji
  rw[List.getElem?_set_self hi,hb]
 ·rw[List.getElem?_set_ne (Ne.symm hji)]
  exact hm j (by omega)
def mkStr (k:Nat):List UInt8:=mtB k
def mkLt (k:Nat):LT:=⟨k,((k+1:Nat):Int),mtB (k+2)⟩
def mkDe (k:Nat):DE:=⟨k,((k+1:Nat):Int),((k+2:Nat):Int)⟩
def mkPt (k:Nat):PT:=⟨k,((k+1:Nat):Int),((k+2:Nat):Int)⟩
def mkIn (k:Nat):Int:=k
theorem markStrC (l:List (List UInt8)) (n k:Nat) (hn:l.length=n) (hl:n≤2000000) (hk:k≤500000000) :
  ACall prog 185 [.sl 1000 0 n,.int .i64 k] [(1000,strOb l)] (fun r L'=>r=.int .i64 ((k+1 * n:Nat):Int)∧L'=[(1000,strOb (mkG mkStr 1 k n))]):=by
 refine acx func185 [] ntmps185 rfl rfl rfl ?_
 simp -implicitDefEqProofs
 refine ev_lp (X:=Nat×List (List UInt8)) [0,1,5] [(1000,1000)] (fun x=>[(5,.int .i64 x.1),(1,.int .i64 ((k+1 * x.1:Nat):Int))]) (fun x=>[(1000,strOb x.2)]) (fun x=>n-x.1)
  (fun x=>x.1≤n∧x.2.length=n∧∀ j,j<x.1→x.2[j]?=some (mkStr (k+1 * j))) (0,l) ⟨by omega,hn,by omega⟩ ?_ (he:=by simp[obOf])
 rintro⟨i,cs⟩ ⟨hi,hc,hm⟩
 simp only at hi hc hm
 by_cases h2:i<n
 ·obtain⟨b,f1⟩:∃ b,cs[i]?=some b:=⟨_,List.getElem?_eq_getElem (by omega)⟩
  have h2':(i:Int)<n:=by omega
  have hil:i<cs.length:=by omega
  have f0:cs[i]=b:=(List.getElem?_eq_some_iff.1 f1).2
  have e1:=i64w ((i:Int)+1) (by omega) (by omega)
  have e2:=i64w ((k:Int)+(i:Int)+1) (by omega) (by omega)
  simp -implicitDefEqProofs [h2',h2,hil,f0,f1,hc,strOb,qaf,e1,e2]
  refine(markTextI _ (k+1 * i) (by omega) (by omega)).call ?_
  simp -implicitDefEqProofs [h2',h2,hil,f0,f1,hc,strOb,qaf,e1,e2]
  refine nx (i+1,cs.set i (mkStr (k+1 * i))) [(1000,1000)] ⟨by simp only;omega,by simp[hc],fun j hj=>by simpa using mkG_step (f:=mkStr) (w:=1) (k:=k) rfl hil hm j hj⟩ (by simp only;omega) (h4:=?_)
  simp[obOf,e1,e2,strOb,List.map_set,qaf,mkStr]
  first | done | omega | (constructor <;> first | omega | (congr 1 <;> omega)) 
 ·have hie:i=n:=by omega
  subst hie
  have:=mkG_end hc hm
  subst this
  simp -implicitDefEqProofs
theorem markLtC (l:List (LT)) (n k:Nat) (hn:l.length=n) (hl:n≤2000000) (hk:k≤500000000) :
  ACall prog 95 [.sl 1000 0 n,.int .i64 k] [(1000,ltOb l)] (fun r L'=>r=.int .i64 ((k+3 * n:Nat):Int)∧L'=[(1000,ltOb (mkG mkLt 3 k n))]):=by
 refine acx func95 [] ntmps95 rfl rfl rfl ?_
 simp -implicitDefEqProofs
 refine ev_lp (X:=Nat×List (LT)) [0,1,5] [(1000,1000)] (fun x=>[(5,.int .i64 x.1),(1,.int .i64 ((k+3 * x.1:Nat):Int))]) (fun x=>[(1000,ltOb x.2)]) (fun x=>n-x.1)
  (fun x=>x.1≤n∧x.2.length=n∧∀ j,j<x.1→x.2[j]?=some (mkLt (k+3 * j))) (0,l) ⟨by omega,hn,by omega⟩ ?_ (he:=by simp[obOf])
 rintro⟨i,cs⟩ ⟨hi,hc,hm⟩
 simp only at hi hc hm
 by_cases h2:i<n
 ·obtain⟨b,f1⟩:∃ b,cs[i]?=some b:=⟨_,List.getElem?_eq_getElem (by omega)⟩
  have h2':(i:Int)<n:=by omega
  have hil:i<cs.length:=by omega
  have f0:cs[i]=b:=(List.getElem?_eq_some_iff.1 f1).2
  have e1:=i64w ((i:Int)+1) (by omega) (by omega)
  have e2:=i64w ((k:Int)+3 * (i:Int)+1) (by omega) (by omega)
  have e3:=i64w ((k:Int)+3 * (i:Int)+1+1) (by omega) (by omega)
  have e4:=i64w ((k:Int)+3 * (i:Int)+1+1+1) (by omega) (by omega)
  simp -implicitDefEqProofs [h2',h2,hil,f0,f1,hc,ltOb,LT.row,e1,e2,e3,e4]
  refine(markTextI _ (k+3 * i+2) (by omega) (by omega)).call ?_
  simp -implicitDefEqProofs [h2',h2,hil,f0,f1,hc,ltOb,LT.row,e1,e2,e3,e4]
  refine nx (i+1,cs.set i (mkLt (k+3 * i))) [(1000,1000)] ⟨by simp only;omega,by simp[hc],mkG_step rfl hil hm⟩ (by simp only;omega) (h4:=?_)
  simp[obOf,e1,e2,e3,e4,ltOb,List.map_set,LT.row,mkLt]
  first | done | omega | (constructor <;> first | omega | (congr 1 <;> omega)) 
 ·have hie:i=n:=by omega
  subst hie
  have:=mkG_end hc hm
  subst this
  simp -implicitDefEqProofs
theorem markDeC (l:List (DE)) (n k:Nat) (hn:l.length=n) (hl:n≤2000000) (hk:k≤500000000) :
  ACall prog 97 [.sl 1000 0 n,.int .i64 k] [(1000,deOb l)] (fun r L'=>r=.int .i64 ((k+3 * n:Nat):Int)∧L'=[(1000,deOb (mkG mkDe 3 k n))]):=by
 refine acx func97 [] ntmps97 rfl rfl rfl ?_
 simp -implicitDefEqProofs
 refine ev_lp (X:=Nat×List (DE)) [0,1,5] [(1000,1000)] (fun x=>[(5,.int .i64 x.1),(1,.int .i64 ((k+3 * x.1:Nat):Int))]) (fun x=>[(1000,deOb x.2)]) (fun x=>n-x.1)
  (fun x=>x.1≤n∧x.2.length=n∧∀ j,j<x.1→x.2[j]?=some (mkDe (k+3 * j))) (0,l) ⟨by omega,hn,by omega⟩ ?_ (he:=by simp[obOf])
 rintro⟨i,cs⟩ ⟨hi,hc,hm⟩
 simp only at hi hc hm
 by_cases h2:i<n
 ·obtain⟨b,f1⟩:∃ b,cs[i]?=some b:=⟨_,List.getElem?_eq_getElem (by omega)⟩
  have h2':(i:Int)<n:=by omega
  have hil:i<cs.length:=by omega
  have f0:cs[i]=b:=(List.getElem?_eq_some_iff.1 f1).2
  have e1:=i64w ((i:Int)+1) (by omega) (by omega)
  have e2:=i64w ((k:Int)+3 * (i:Int)+1) (by omega) (by omega)
  have e3:=i64w ((k:Int)+3 * (i:Int)+1+1) (by omega) (by omega)
  have e4:=i64w ((k:Int)+3 * (i:Int)+1+1+1) (by omega) (by omega)
  simp -implicitDefEqProofs [h2',h2,hil,f0,f1,hc,deOb,DE.row,e1,e2,e3,e4]
  refine nx (i+1,cs.set i (mkDe (k+3 * i))) [(1000,1000)] ⟨by simp only;omega,by simp[hc],mkG_step rfl hil hm⟩ (by simp only;omega) (h4:=?_)
  simp[obOf,e1,e2,e3,e4,deOb,List.map_set,DE.row,mkDe]
  first | done | omega | (constructor <;> first | omega | (congr 1 <;> omega)) 
 ·have hie:i=n:=by omega
  subst hie
  have:=mkG_end hc hm
  subst this
  simp -implicitDefEqProofs
theorem markPtC (l:List (PT)) (n k:Nat) (hn:l.length=n) (hl:n≤2000000) (hk:k≤500000000) :
  ACall prog 98 [.sl 1000 0 n,.int .i64 k] [(1000,kpt l)] (fun r L'=>r=.int .i64 ((k+3 * n:Nat):Int)∧L'=[(1000,kpt (mkG mkPt 3 k n))]):=by
 refine acx func98 [] ntmps98 rfl rfl rfl ?_
 simp -implicitDefEqProofs
 refine ev_lp (X:=Nat×List (PT)) [0,1,5] [(1000,1000)] (fun x=>[(5,.int .i64 x.1),(1,.int .i64 ((k+3 * x.1:Nat):Int))]) (fun x=>[(1000,kpt x.2)]) (fun x=>n-x.1)
  (fun x=>x.1≤n∧x.2.length=n∧∀ j,j<x.1→x.2[j]?=some (mkPt (k+3 * j))) (0,l) ⟨by omega,hn,by omega⟩ ?_ (he:=by simp[obOf])
 rintro⟨i,cs⟩ ⟨hi,hc,hm⟩
 simp only at hi hc hm
 by_cases h2:i<n
 ·obtain⟨b,f1⟩:∃ b,cs[i]?=some b:=⟨_,List.getElem?_eq_getElem (by omega)⟩
  have h2':(i:Int)<n:=by omega
  have hil:i<cs.length:=by omega
  have f0:cs[i]=b:=(List.getElem?_eq_some_iff.1 f1).2
  have e1:=i64w ((i:Int)+1) (by omega) (by omega)
  have e2:=i64w ((k:Int)+3 * (i:Int)+1) (by omega) (by omega)
  have e3:=i64w ((k:Int)+3 * (i:Int)+1+1) (by omega) (by omega)
  have e4:=i64w ((k:Int)+3 * (i:Int)+1+1+1) (by omega) (by omega)
  simp -implicitDefEqProofs [h2',h2,hil,f0,f1,hc,kpt,PT.row,e1,e2,e3,e4]
  refine nx (i+1,cs.set i (mkPt (k+3 * i))) [(1000,1000)] ⟨by simp only;omega,by simp[hc],mkG_step rfl hil hm⟩ (by simp only;omega) (h4:=?_)
  simp[obOf,e1,e2,e3,e4,kpt,List.map_set,PT.row,mkPt]
  first | done | omega | (constructor <;> first | omega | (congr 1 <;> omega)) 
 ·have hie:i=n:=by omega
  subst hie
  have:=mkG_end hc hm
  subst this
  simp -implicitDefEqProofs
theorem markInC (l:List (Int)) (n k:Nat) (hn:l.length=n) (hl:n≤2000000) (hk:k≤500000000) :
  ACall prog 21 [.sl 1000 0 n,.int .i64 k] [(1000,kin l)] (fun r L'=>r=.int .i64 ((k+1 * n:Nat):Int)∧L'=[(1000,kin (mkG mkIn 1 k n))]):=by
 refine acx func21 [] ntmps21 rfl rfl rfl ?_
 simp -implicitDefEqProofs
 refine ev_lp (X:=Nat×List (Int)) [0,1,5] [(1000,1000)] (fun x=>[(5,.int .i64 x.1),(1,.int .i64 ((k+1 * x.1:Nat):Int))]) (fun x=>[(1000,kin x.2)]) (fun x=>n-x.1)
  (fun x=>x.1≤n∧x.2.length=n∧∀ j,j<x.1→x.2[j]?=some (mkIn (k+1 * j))) (0,l) ⟨by omega,hn,by omega⟩ ?_ (he:=by simp[obOf])
 rintro⟨i,cs⟩ ⟨hi,hc,hm⟩
 simp only at hi hc hm
 by_cases h2:i<n
 ·obtain⟨b,f1⟩:∃ b,cs[i]?=some b:=⟨_,List.getElem?_eq_getElem (by omega)⟩
  have h2':(i:Int)<n:=by omega
  have hil:i<cs.length:=by omega
  have f0:cs[i]=b:=(List.getElem?_eq_some_iff.1 f1).2
  have e1:=i64w ((i:Int)+1) (by omega) (by omega)
  have e2:=i64w ((k:Int)+(i:Int)+1) (by omega) (by omega)
  simp -implicitDefEqProofs [h2',h2,hil,f0,f1,hc,kin,qad,e1,e2]
  refine nx (i+1,cs.set i (mkIn (k+1 * i))) [(1000,1000)] ⟨by simp only;omega,by simp[hc],fun j hj=>by simpa using mkG_step (f:=mkIn) (w:=1) (k:=k) rfl hil hm j hj⟩ (by simp only;omega) (h4:=?_)
  simp[obOf,e1,e2,kin,List.map_set,qad,mkIn]
  first | done | omega | (constructor <;> first | omega | (congr 1 <;> omega)) 
 ·have hie:i=n:=by omega
  subst hie
  have:=mkG_end hc hm
  subst this
  simp -implicitDefEqProofs
theorem heldStrC (n k:Nat) (hl:n≤2000000) (hk:k≤500000000):CV prog 187 [.lst 1 ((mkG mkStr 1 k n).map qaf),.int .i64 k] (.int .i64 ((k+1 * n:Nat):Int)):=by
 have hn:=mkG_len mkStr 1 k n
 refine cvx func187 [] ntmps187 rfl rfl rfl ?_ (hca:=by simp[qaf])
 simp -implicitDefEqProofs [hn]
 refine ev_lp (X:=Nat) [0,1,5] [] (fun x=>[(5,.int .i64 x),(1,.int .i64 ((k+1 * x:Nat):Int))]) (fun x=>[]) (fun x=>n-x) (fun x=>x≤n) 0 (by omega) ?_
 rintro i hi
 by_cases h2:i<n
 ·have h2':(i:Int)<n:=by omega
  have f1:=mkG_at mkStr (w:=1) (k:=k) h2
  have hil:i<(mkG mkStr 1 k n).length:=by omega
  have f0:(mkG mkStr 1 k n)[i]=mkStr (k+1 * i):=(List.getElem?_eq_some_iff.1 f1).2
  have e1:=i64w ((i:Int)+1) (by omega) (by omega)
  have e2:=i64w ((k:Int)+(i:Int)+1) (by omega) (by omega)
  simp -implicitDefEqProofs [h2',h2,hil,hn,f0,f1,qaf,mkStr,e1,e2]
  refine(markTextI _ (k+1 * i) (by omega) (by omega)).call ?_
  simp -implicitDefEqProofs [h2',h2,hil,hn,f0,f1,qaf,mkStr,e1,e2]
  refine nx (i+1) [] (by omega) (h4:=?_)
  simp[e1,e2]
  first | done | omega | (congr 1 <;> omega)
 ·have:i=n:=by omega
  subst this
  simp -implicitDefEqProofs [hn]
theorem heldLtC (n k:Nat) (hl:n≤2000000) (hk:k≤500000000):CV prog 100 [.lst 3 ((mkG mkLt 3 k n).map LT.row),.int .i64 k] (.int .i64 ((k+3 * n:Nat):Int)):=by
 have hn:=mkG_len mkLt 3 k n
 refine cvx func100 [] ntmps100 rfl rfl rfl ?_ (hca:=by simp[LT.row])
 simp -implicitDefEqProofs [hn]
 refine ev_lp (X:=Nat) [0,1,5] [] (fun x=>[(5,.int .i64 x),(1,.int .i64 ((k+3 * x:Nat):Int))]) (fun x=>[]) (fun x=>n-x) (fun x=>x≤n) 0 (by omega) ?_
 rintro i hi
 by_cases h2:i<n
 ·have h2':(i:Int)<n:=by omega
  have f1:=mkG_at mkLt (w:=3) (k:=k) h2
  have hil:i<(mkG mkLt 3 k n).length:=by omega
  have f0:(mkG mkLt 3 k n)[i]=mkLt (k+3 * i):=(List.getElem?_eq_some_iff.1 f1).2
  have e1:=i64w ((i:Int)+1) (by omega) (by omega)
  have e2:=i64w ((k:Int)+3 * (i:Int)+1) (by omega) (by omega)
  have e3:IntKind.i64.wrap ((k:Int)+3 * (i:Int)+1+1)=(k:Int)+3 * (i:Int)+2:=by rw[i64w _ (by omega) (by omega)];omega
  have e4:IntKind.i64.wrap ((k:Int)+3 * (i:Int)+2+1)=(k:Int)+3 * (i:Int)+3:=by rw[i64w _ (by omega) (by omega)];omega
  simp -implicitDefEqProofs [h2',h2,hil,hn,f0,f1,LT.row,mkLt,e1,e2,e3,e4]
  refine(markTextI _ (k+3 * i+2) (by omega) (by omega)).call ?_
  simp -implicitDefEqProofs [h2',h2,hil,hn,f0,f1,LT.row,mkLt,e1,e2,e3,e4]
  refine nx (i+1) [] (by omega) (h4:=?_)
  simp[e1,e2,e3,e4]
  first | done | omega | (congr 1 <;> omega)
 ·have:i=n:=by omega
  subst this
  simp -implicitDefEqProofs [hn]
theorem heldDeC (n k:Nat) (hl:n≤2000000) (hk:k≤500000000):CV prog 102 [.lst 3 ((mkG mkDe 3 k n).map DE.row),.int .i64 k] (.int .i64 ((k+3 * n:Nat):Int)):=by
 have hn:=mkG_len mkDe 3 k n
 refine cvx func102 [] ntmps102 rfl rfl rfl ?_ (hca:=by simp[DE.row])
 simp -implicitDefEqProofs [hn]
 refine ev_lp (X:=Nat) [0,1,5] [] (fun x=>[(5,.int .i64 x),(1,.int .i64 ((k+3 * x:Nat):Int))]) (fun x=>[]) (fun x=>n-x) (fun x=>x≤n) 0 (by omega) ?_
 rintro i hi
 by_cases h2:i<n
 ·have h2':(i:Int)<n:=by omega
  have f1:=mkG_at mkDe (w:=3) (k:=k) h2
  have hil:i<(mkG mkDe 3 k n).length:=by omega
  have f0:(mkG mkDe 3 k n)[i]=mkDe (k+3 * i):=(List.getElem?_eq_some_iff.1 f1).2
  have e1:=i64w ((i:Int)+1) (by omega) (by omega)
  have e2:=i64w ((k:Int)+3 * (i:Int)+1) (by omega) (by omega)
  have e3:IntKind.i64.wrap ((k:Int)+3 * (i:Int)+1+1)=(k:Int)+3 * (i:Int)+2:=by rw[i64w _ (by omega) (by omega)];omega
  have e4:IntKind.i64.wrap ((k:Int)+3 * (i:Int)+2+1)=(k:Int)+3 * (i:Int)+3:=by rw[i64w _ (by omega) (by omega)];omega
  simp -implicitDefEqProofs [h2',h2,hil,hn,f0,f1,DE.row,mkDe,e1,e2,e3,e4]
  refine nx (i+1) [] (by omega) (h4:=?_)
  simp[e1,e2,e3,e4]
  first | done | omega | (congr 1 <;> omega)
 ·have:i=n:=by omega
  subst this
  simp -implicitDefEqProofs [hn]
theorem heldPtC (n k:Nat) (hl:n≤2000000) (hk:k≤500000000):CV prog 103 [.lst 3 ((mkG mkPt 3 k n).map PT.row),.int .i64 k] (.int .i64 ((k+3 * n:Nat):Int)):=by
 have hn:=mkG_len mkPt 3 k n
 refine cvx func103 [] ntmps103 rfl rfl rfl ?_ (hca:=by simp[PT.row])
 simp -implicitDefEqProofs [hn]
 refine ev_lp (X:=Nat) [0,1,5] [] (fun x=>[(5,.int .i64 x),(1,.int .i64 ((k+3 * x:Nat):Int))]) (fun x=>[]) (fun x=>n-x) (fun x=>x≤n) 0 (by omega) ?_
 rintro i hi
 by_cases h2:i<n
 ·have h2':(i:Int)<n:=by omega
  have f1:=mkG_at mkPt (w:=3) (k:=k) h2
  have hil:i<(mkG mkPt 3 k n).length:=by omega
  have f0:(mkG mkPt 3 k n)[i]=mkPt (k+3 * i):=(List.getElem?_eq_some_iff.1 f1).2
  have e1:=i64w ((i:Int)+1) (by omega) (by omega)
  have e2:=i64w ((k:Int)+3 * (i:Int)+1) (by omega) (by omega)
  have e3:IntKind.i64.wrap ((k:Int)+3 * (i:Int)+1+1)=(k:Int)+3 * (i:Int)+2:=by rw[i64w _ (by omega) (by omega)];omega
  have e4:IntKind.i64.wrap ((k:Int)+3 * (i:Int)+2+1)=(k:Int)+3 * (i:Int)+3:=by rw[i64w _ (by omega) (by omega)];omega
  simp -implicitDefEqProofs [h2',h2,hil,hn,f0,f1,PT.row,mkPt,e1,e2,e3,e4]
  refine nx (i+1) [] (by omega) (h4:=?_)
  simp[e1,e2,e3,e4]
  first | done | omega | (congr 1 <;> omega)
 ·have:i=n:=by omega
  subst this
  simp -implicitDefEqProofs [hn]
theorem heldInC (n k:Nat) (hl:n≤2000000) (hk:k≤500000000):CV prog 104 [.lst 1 ((mkG mkIn 1 k n).map qad),.int .i64 k] (.int .i64 ((k+1 * n:Nat):Int)):=by
 have hn:=mkG_len mkIn 1 k n
 refine cvx func104 [] ntmps104 rfl rfl rfl ?_ (hca:=by simp[qad])
 simp -implicitDefEqProofs [hn]
 refine ev_lp (X:=Nat) [0,1,5] [] (fun x=>[(5,.int .i64 x),(1,.int .i64 ((k+1 * x:Nat):Int))]) (fun x=>[]) (fun x=>n-x) (fun x=>x≤n) 0 (by omega) ?_
 rintro i hi
 by_cases h2:i<n
 ·have h2':(i:Int)<n:=by omega
  have f1:=mkG_at mkIn (w:=1) (k:=k) h2
  have hil:i<(mkG mkIn 1 k n).length:=by omega
  have f0:(mkG mkIn 1 k n)[i]=mkIn (k+1 * i):=(List.getElem?_eq_some_iff.1 f1).2
  have e1:=i64w ((i:Int)+1) (by omega) (by omega)
  have e2:=i64w ((k:Int)+(i:Int)+1) (by omega) (by omega)
  simp -implicitDefEqProofs [h2',h2,hil,hn,f0,f1,qad,mkIn,e1,e2]
  refine nx (i+1) [] (by omega) (h4:=?_)
  simp[e1,e2]
  first | done | omega | (congr 1 <;> omega)
 ·have:i=n:=by omega
  subst this
  simp -implicitDefEqProofs [hn]
theorem mkH_step {α:Type} {F:Nat→α} {i:Nat} {cs:List α} {b:α} (hb:b=F i) (hi:i<cs.length) (hm:∀ j,j<i→cs[j]?=some (F j)):∀ j,j<i+1→(cs.set i b)[j]?=some (F j):=fun j hj=>by
 by_cases hji:j=i
 ·subst hji
  rw[List.getElem?_set_self hi,hb]
 ·rw[List.getElem?_set_ne (Ne.symm hji)]
  exact hm j (by omega)
def mkCs (k:Nat) (m:List PT):CS:=⟨mtB k,((k+1:Nat):Int),mtB (k+2),m,⟨((k+3:Nat):Int),((k+4:Nat):Int),((k+5:Nat):Int)⟩,(((k+6:Nat):Int) % 3 == 0)⟩
def mpAt (l:List CS) (i:Nat):List PT:=(l[i]?).elim [] CS.map
def mkCsL (l:List CS) (k:Nat):List CS:=(List.range l.length).map fun i=>mkCs (k+7 * i) (mpAt l i)
theorem mkCsL_len (l:List CS) (k:Nat):(mkCsL l k).length=l.length:=by simp[mkCsL]
theorem mkCsL_at {l:List CS} {k i:Nat} (h:i<l.length):(mkCsL l k)[i]?=some (mkCs (k+7 * i) (mpAt l i)):=by simp[mkCsL,h]
theorem markCsC (l:List CS) (n k:Nat) (hn:l.length=n) (hl:n≤2000000) (hk:k≤500000000) (h8:∀ s∈l,s.map.length=8) :
  ACall prog 96 [.sl 1000 0 n,.int .i64 k] [(1000,kcs l)] (fun r L'=>r=.int .i64 ((k+7 * n:Nat):Int)∧L'=[(1000,kcs (mkCsL l k))]):=by
 refine acx func96 [] ntmps96 rfl rfl rfl ?_
 simp -implicitDefEqProofs
 refine ev_lp (X:=Nat×List CS) [0,1,5] [(1000,1000)] (fun x=>[(5,.int .i64 x.1),(1,.int .i64 ((k+7 * x.1:Nat):Int))]) (fun x=>[(1000,kcs x.2)]) (fun x=>n-x.1)
  (fun x=>x.1≤n∧x.2.length=n∧(∀ j,j<x.1→x.2[j]?=some (mkCs (k+7 * j) (mpAt l j)))∧∀ j,x.1≤j→x.2[j]?=l[j]?) (0,l) ⟨by omega,hn,by omega,fun _ _=>rfl⟩ ?_ (he:=by simp[obOf])
 rintro⟨i,cs⟩ ⟨hi,hc,hm,hr⟩
 simp only at hi hc hm hr
 by_cases h2:i<n
 ·obtain⟨s,f1⟩:∃ b,cs[i]?=some b:=⟨_,List.getElem?_eq_getElem (by omega)⟩
  have h2':(i:Int)<n:=by omega
  have hil:i<cs.length:=by omega
  have f0:cs[i]=s:=(List.getElem?_eq_some_iff.1 f1).2
  have g1:l[i]?=some s:=(hr i (Nat.le_refl _)) ▸ f1
  have s8:=h8 s (List.mem_of_getElem? g1)
  have gm:mpAt l i=s.map:=by rw[mpAt,g1];rfl
  have e1:=i64w ((i:Int)+1) (by omega) (by omega)
  have e2:=i64w ((k:Int)+7 * (i:Int)+1) (by omega) (by omega)
  have e3:IntKind.i64.wrap ((k:Int)+7 * (i:Int)+1+1)=(k:Int)+7 * (i:Int)+2:=by rw[i64w _ (by omega) (by omega)];omega
  have e4:IntKind.i64.wrap ((k:Int)+7 * (i:Int)+2+1)=(k:Int)+7 * (i:Int)+3:=by rw[i64w _ (by omega) (by omega)];omega
  have e5:IntKind.i64.wrap ((k:Int)+7 * (i:Int)+3+1)=(k:Int)+7 * (i:Int)+4:=by rw[i64w _ (by omega) (by omega)];omega
  have e6:IntKind.i64.wrap ((k:Int)+7 * (i:Int)+4+1)=(k:Int)+7 * (i:Int)+5:=by rw[i64w _ (by omega) (by omega)];omega
  have e7:IntKind.i64.wrap ((k:Int)+7 * (i:Int)+5+1)=(k:Int)+7 * (i:Int)+6:=by rw[i64w _ (by omega) (by omega)];omega
  have e8:IntKind.i64.wrap ((k:Int)+7 * (i:Int)+6+1)=(k:Int)+7 * (i:Int)+7:=by rw[i64w _ (by omega) (by omega)];omega
  have t1:((k:Int)+7 * (i:Int)+6).tmod 3=((k:Int)+7 * (i:Int)+6) % 3:=Int.tmod_eq_emod_of_nonneg (by omega)
  obtain⟨nm,kd,fr,mp,hm',dt⟩:=s
  dsimp only at s8 gm
  obtain⟨p0,p1,p2,p3,p4,p5,p6,p7,rfl⟩:=eight mp s8
  simp -implicitDefEqProofs [h2',h2,hil,f0,f1,hc,kcs,CS.row,PT.row,e1,e2,e3,e4,e5,e6,e7,e8,t1]
  refine(markTextI _ (k+7 * i) (by omega) (by omega)).call ?_
  simp -implicitDefEqProofs [h2',h2,hil,f0,f1,hc,kcs,CS.row,PT.row,e1,e2,e3,e4,e5,e6,e7,e8,t1]
  refine(markTextI _ (k+7 * i+2) (by omega) (by omega)).call ?_
  simp -implicitDefEqProofs [h2',h2,hil,f0,f1,hc,kcs,CS.row,PT.row,e1,e2,e3,e4,e5,e6,e7,e8,t1]
  refine nx (i+1,cs.set i (mkCs (k+7 * i) [p0,p1,p2,p3,p4,p5,p6,p7])) [(1000,1000)] ⟨by simp only;omega,by simp[hc],mkH_step (by rw[gm]) hil hm,fun j hj=>by simp only at hj ⊢;rw[List.getElem?_set_ne (by omega)];exact hr j (by omega)⟩ (by simp only;omega) (h4:=?_)
  simp[obOf,e1,e2,e3,e4,e5,e6,e7,e8,t1,kcs,List.map_set,CS.row,PT.row,mkCs]
  first | done | omega | (constructor <;> first | omega | (congr 1 <;> omega))
 ·have hie:i=n:=by omega
  subst hie
  have:cs=mkCsL l k:=by
   refine List.ext_getElem? fun q=>?_
   by_cases hq:q<cs.length
   ·rw[hm q (by omega),mkCsL_at (by omega)]
   ·rw[List.getElem?_eq_none (by omega),List.getElem?_eq_none (by rw[mkCsL_len];omega)]
  subst this
  simp -implicitDefEqProofs
theorem heldCsC (cs:List CS) (n k:Nat) (hl:n≤2000000) (hk:k≤500000000) (hn:cs.length=n) (hf:∀ i,i<n→∃ m,m.length=8∧cs[i]?=some (mkCs (k+7 * i) m)):CV prog 101 [.lst 31 (cs.map CS.row),.int .i64 k] (.int .i64 ((k+7 * n:Nat):Int)):=by
 refine cvx func101 [] ntmps101 rfl rfl rfl ?_ (hca:=by simp[cs_cl])
 simp -implicitDefEqProofs [hn]
 refine ev_lp (X:=Nat) [0,1,5] [] (fun x=>[(5,.int .i64 x),(1,.int .i64 ((k+7 * x:Nat):Int))]) (fun x=>[]) (fun x=>n-x) (fun x=>x≤n) 0 (by omega) ?_
 rintro i hi
 by_cases h2:i<n
 ·have h2':(i:Int)<n:=by omega
  obtain⟨m,m8,f1⟩:=hf i h2
  have hil:i<cs.length:=by omega
  obtain⟨p0,p1,p2,p3,p4,p5,p6,p7,rfl⟩:=eight m m8
  have f0:cs[i]=mkCs (k+7 * i) [p0,p1,p2,p3,p4,p5,p6,p7]:=(List.getElem?_eq_some_iff.1 f1).2
  have e1:=i64w ((i:Int)+1) (by omega) (by omega)
  have e2:=i64w ((k:Int)+7 * (i:Int)+1) (by omega) (by omega)
  have e3:IntKind.i64.wrap ((k:Int)+7 * (i:Int)+1+1)=(k:Int)+7 * (i:Int)+2:=by rw[i64w _ (by omega) (by omega)];omega
  have e4:IntKind.i64.wrap ((k:Int)+7 * (i:Int)+2+1)=(k:Int)+7 * (i:Int)+3:=by rw[i64w _ (by omega) (by omega)];omega
  have e5:IntKind.i64.wrap ((k:Int)+7 * (i:Int)+3+1)=(k:Int)+7 * (i:Int)+4:=by rw[i64w _ (by omega) (by omega)];omega
  have e6:IntKind.i64.wrap ((k:Int)+7 * (i:Int)+4+1)=(k:Int)+7 * (i:Int)+5:=by rw[i64w _ (by omega) (by omega)];omega
  have e7:IntKind.i64.wrap ((k:Int)+7 * (i:Int)+5+1)=(k:Int)+7 * (i:Int)+6:=by rw[i64w _ (by omega) (by omega)];omega
  have e8:IntKind.i64.wrap ((k:Int)+7 * (i:Int)+6+1)=(k:Int)+7 * (i:Int)+7:=by rw[i64w _ (by omega) (by omega)];omega
  have t1:((k:Int)+7 * (i:Int)+6).tmod 3=((k:Int)+7 * (i:Int)+6) % 3:=Int.tmod_eq_emod_of_nonneg (by omega)
  simp -implicitDefEqProofs [h2',h2,hil,hn,f0,f1,mkCs,CS.row,PT.row,e1,e2,e3,e4,e5,e6,e7,e8,t1]
  refine(markTextI _ (k+7 * i) (by omega) (by omega)).call ?_
  simp -implicitDefEqProofs [h2',h2,hil,hn,f0,f1,mkCs,CS.row,PT.row,e1,e2,e3,e4,e5,e6,e7,e8,t1]
  refine(markTextI _ (k+7 * i+2) (by omega) (by omega)).call ?_
  simp -implicitDefEqProofs [h2',h2,hil,hn,f0,f1,mkCs,CS.row,PT.row,e1,e2,e3,e4,e5,e6,e7,e8,t1]
  refine nx (i+1) [] (by omega) (h4:=?_)
  simp[e1,e2,e3,e4,e5,e6,e7,e8,t1]
  first | done | omega | (congr 1 <;> omega)
 ·have:i=n:=by omega
  subst this
  simp -implicitDefEqProofs [hn]
def mkD (d:DK) (k:Nat):DK:=⟨mkG mkStr 1 k d.s0.length,mkG mkStr 1 (k+d.s0.length) d.s1.length,mkG mkLt 3 (k+d.s0.length+d.s1.length) d.late.length⟩
def wD (d:DK):Nat:=d.s0.length+d.s1.length+3 * d.late.length
def mkC (c:CO) (k:Nat):CO:=⟨c.txg,mkCsL c.sets k,mkG mkDe 3 (k+7 * c.sets.length) c.ddt.length,mkG mkPt 3 (k+7 * c.sets.length+3 * c.ddt.length) c.parts.length,c.dirty,mkG mkIn 1 (k+7 * c.sets.length+3 * c.ddt.length+3 * c.parts.length) c.safe.length,c.logn⟩
def wC (c:CO):Nat:=7 * c.sets.length+3 * c.ddt.length+3 * c.parts.length+c.safe.length
def mkP (p:PO) (k:Nat):PO:=⟨mkD p.d k,mkC p.c (k+wD p.d),p.up⟩
def wP (p:PO):Nat:=wD p.d+wC p.c
theorem markA2C (a b:List (List UInt8)) (n0 n1 k:Nat) (ha:a.length=n0) (hb:b.length=n1) (h0:n0≤2000000) (h1:n1≤2000000) (hk:k≤400000000) :
  ACall prog 94 [.agg [.sl 1000 0 n0,.sl 1001 0 n1],.int .i64 k] [(1000,strOb a),(1001,strOb b)] (fun r L'=>r=.int .i64 ((k+n0+n1:Nat):Int)∧L'=[(1000,strOb (mkG mkStr 1 k n0)),(1001,strOb (mkG mkStr 1 (k+n0) n1))]):=by
 have c1:=markStrC a n0 k ha h0 (by omega)
 have c2:=markStrC b n1 (k+n0) hb h1 (by omega)
 simp only[Nat.one_mul,Int.natCast_add]at c1 c2
 refine acx func94 [] ntmps94 rfl rfl rfl ?_
 simp -implicitDefEqProofs
 refine ev_lo (X:=Nat) [1,2,5] [(2,2),(1000,1000),(1001,1001)] (fun i=>[(5,.int .i64 i),(1,.int .i64 (if i=0 then (k:Int) else if i=1 then (k:Int)+n0 else (k:Int)+n0+n1))]) (fun i=>[(2,⟨2,[[.sl 1000 0 n0,.sl 1001 0 n1]]⟩),(1000,strOb (if i=0 then a else mkG mkStr 1 k n0)),(1001,strOb (if i=2 then mkG mkStr 1 (k+n0) n1 else b))]) (fun i=>2-i) (fun i=>i=0∨i=1∨i=2) 0 (.inl rfl) ?_ (he:=by simp[obOf])
 rintro i (rfl | rfl | rfl)
 ·simp -implicitDefEqProofs [obOf]
  refine qab [(1000,.whole 1000)] (by kernel_rfl) c1 (by simp) (by simp) ⟨⟨strOb a,by simp,rfl,qaa rfl (qam _)⟩,trivial⟩ (by simp) (by simp) ?_
  rintro r L' ⟨rfl,rfl⟩
  refine⟨[],⟨by simp,by simp,by simp,by simp,by simp⟩,?_⟩
  simp only[qae]
  simp -implicitDefEqProofs
  exact nx 1 [(2,2),(1000,1000),(1001,1001)] (.inr (.inl rfl)) (h4:=by simp[obOf])
 ·simp -implicitDefEqProofs [obOf]
  refine qab [(1000,.whole 1001)] (by kernel_rfl) c2 (by simp) (by simp) ⟨⟨strOb b,by simp,rfl,qaa rfl (qam _)⟩,trivial⟩ (by simp) (by simp) ?_
  rintro r L' ⟨rfl,rfl⟩
  refine⟨[],⟨by simp,by simp,by simp,by simp,by simp⟩,?_⟩
  simp only[qae]
  simp -implicitDefEqProofs
  exact nx 2 [(2,2),(1000,1000),(1001,1001)] (.inr (.inr rfl)) (h4:=by simp[obOf])
 ·simp -implicitDefEqProofs [obOf]
theorem markDkC (d:DK) (k:Nat) (h:DkT d) (hk:k≤300000000) :
  ACall prog 34 [.agg (dskA d 1000 1001 1002),.int .i64 k] [(1000,strOb d.s0),(1001,strOb d.s1),(1002,ltOb d.late)] (fun r L'=>r=.int .i64 ((k+wD d:Nat):Int)∧L'=[(1000,strOb (mkD d k).s0),(1001,strOb (mkD d k).s1),(1002,ltOb (mkD d k).late)]):=by
 have l0:=h.l0
 have l1:=h.l1
 have l2:=h.l2
 have c1:=markA2C d.s0 d.s1 d.s0.length d.s1.length k rfl rfl (by omega) (by omega) (by omega)
 have c2:=markLtC d.late d.late.length (k+d.s0.length+d.s1.length) rfl (by omega) (by omega)
 simp only[Nat.one_mul,Int.natCast_add,Int.natCast_mul,Int.cast_ofNat_Int]at c1 c2
 refine acx func34 [] ntmps34 rfl rfl rfl ?_
 simp -implicitDefEqProofs [dskA]
 refine qab [(1000,.whole 1000),(1001,.whole 1001)] (by kernel_rfl) c1 (by simp) (by simp) ⟨⟨strOb d.s0,by simp,rfl,qaa rfl (qam _)⟩,⟨strOb d.s1,by simp,rfl,qaa rfl (qam _)⟩,trivial⟩ (by simp) (by simp) ?_
 rintro r L' ⟨rfl,rfl⟩
 refine⟨[],⟨by simp,by simp,by simp,by simp,by simp⟩,?_⟩
 simp only[qae]
 simp -implicitDefEqProofs
 refine qab [(1000,.whole 1002)] (by kernel_rfl) c2 (by simp) (by simp) ⟨⟨ltOb d.late,by simp,rfl,qaa rfl (clR_lt _)⟩,trivial⟩ (by simp) (by simp) ?_
 rintro r L' ⟨rfl,rfl⟩
 refine⟨[],⟨by simp,by simp,by simp,by simp,by simp⟩,?_⟩
 simp only[qae]
 simp -implicitDefEqProofs [mkD,wD]
 first | done | omega
theorem markCoC (c:CO) (k:Nat) (h:CoT c) (hk:k≤300000000) :
  ACall prog 35 [coreA c 1000 1001 1002 1003,.int .i64 k] [(1000,kcs c.sets),(1001,deOb c.ddt),(1002,kpt c.parts),(1003,kin c.safe)] (fun r L'=>r=.int .i64 ((k+wC c:Nat):Int)∧L'=[(1000,kcs (mkC c k).sets),(1001,deOb (mkC c k).ddt),(1002,kpt (mkC c k).parts),(1003,kin (mkC c k).safe)]):=by
 have l0:=h.sets
 have l1:=h.ddt
 have l2:=h.parts
 have l3:=h.safe
 have c1:=markCsC c.sets c.sets.length k rfl (by omega) (by omega) h.m8
 have c2:=markDeC c.ddt c.ddt.length (k+7 * c.sets.length) rfl (by omega) (by omega)
 have c3:=markPtC c.parts c.parts.length (k+7 * c.sets.length+3 * c.ddt.length) rfl (by omega) (by omega)
 have c4:=markInC c.safe c.safe.length (k+7 * c.sets.length+3 * c.ddt.length+3 * c.parts.length) rfl (by omega) (by omega)
 simp only[Nat.one_mul,Int.natCast_add,Int.natCast_mul,Int.cast_ofNat_Int]at c1 c2 c3 c4
 refine acx func35 [] ntmps35 rfl rfl rfl ?_
 simp -implicitDefEqProofs [coreA]
 refine qab [(1000,.whole 1000)] (by kernel_rfl) c1 (by simp) (by simp) ⟨⟨kcs c.sets,by simp,rfl,qaa rfl (qak _)⟩,trivial⟩ (by simp) (by simp) ?_
 rintro r L' ⟨rfl,rfl⟩
 refine⟨[],⟨by simp,by simp,by simp,by simp,by simp⟩,?_⟩
 simp only[qae]
 simp -implicitDefEqProofs
 refine qab [(1000,.whole 1001)] (by kernel_rfl) c2 (by simp) (by simp) ⟨⟨deOb c.ddt,by simp,rfl,qaa rfl (qbh _)⟩,trivial⟩ (by simp) (by simp) ?_
 rintro r L' ⟨rfl,rfl⟩
 refine⟨[],⟨by simp,by simp,by simp,by simp,by simp⟩,?_⟩
 simp only[qae]
 simp -implicitDefEqProofs
 refine qab [(1000,.whole 1002)] (by kernel_rfl) c3 (by simp) (by simp) ⟨⟨kpt c.parts,by simp,rfl,qaa rfl (qbd _)⟩,trivial⟩ (by simp) (by simp) ?_
 rintro r L' ⟨rfl,rfl⟩
 refine⟨[],⟨by simp,by simp,by simp,by simp,by simp⟩,?_⟩
 simp only[qae]
 simp -implicitDefEqProofs
 refine qab [(1000,.whole 1003)] (by kernel_rfl) c4 (by simp) (by simp) ⟨⟨kin c.safe,by simp,rfl,qaa rfl (qan _)⟩,trivial⟩ (by simp) (by simp) ?_
 rintro r L' ⟨rfl,rfl⟩
 refine⟨[],⟨by simp,by simp,by simp,by simp,by simp⟩,?_⟩
 simp only[qae]
 simp -implicitDefEqProofs [mkC,wC]
 first | done | omega
theorem wD_le {d:DK} (h:DkT d):wD d≤5242880:=by
 have l0:=h.l0
 have l1:=h.l1
 have l2:=h.l2
 unfold wD
 omega
theorem wC_le {c:CO} (h:CoT c):wC c≤14680064:=by
 have l0:=h.sets
 have l1:=h.ddt
 have l2:=h.parts
 have l3:=h.safe
 unfold wC
 omega
theorem markPoC (p:PO) (k:Nat) (hd:DkT p.d) (hc:CoT p.c) (hk:k≤200000000) :
  ACall prog 13 [.agg (poolA p 1000 1001 1002 1003 1004 1005 1006),.int .i64 k] (poolL p 1000 1001 1002 1003 1004 1005 1006) (fun r L'=>r=.int .i64 ((k+wP p:Nat):Int)∧L'=poolL (mkP p k) 1000 1001 1002 1003 1004 1005 1006):=by
 have w1:=wD_le hd
 have c1:=markDkC p.d k hd (by omega)
 have c2:=markCoC p.c (k+wD p.d) hc (by omega)
 simp only[Nat.one_mul,Int.natCast_add,Int.natCast_mul,Int.cast_ofNat_Int,dskA,coreA]at c1 c2
 simp only[poolA,poolL]
 refine acx func13 [] ntmps13 rfl rfl rfl ?_
 simp -implicitDefEqProofs
 refine qab [(1000,.whole 1000),(1001,.whole 1001),(1002,.whole 1002)] (by kernel_rfl) c1 (by simp) (by simp) ⟨⟨strOb p.d.s0,by simp,rfl,qaa rfl (qam _)⟩,⟨strOb p.d.s1,by simp,rfl,qaa rfl (qam _)⟩,⟨ltOb p.d.late,by simp,rfl,qaa rfl (clR_lt _)⟩,trivial⟩ (by simp) (by simp) ?_
 rintro r L' ⟨rfl,rfl⟩
 refine⟨[],⟨by simp,by simp,by simp,by simp,by simp⟩,?_⟩
 simp only[qae]
 simp -implicitDefEqProofs
 refine qab [(1000,.whole 1003),(1001,.whole 1004),(1002,.whole 1005),(1003,.whole 1006)] (by kernel_rfl) c2 (by simp) (by simp) ⟨⟨kcs p.c.sets,by simp,rfl,qaa rfl (qak _)⟩,⟨deOb p.c.ddt,by simp,rfl,qaa rfl (qbh _)⟩,⟨kpt p.c.parts,by simp,rfl,qaa rfl (qbd _)⟩,⟨kin p.c.safe,by simp,rfl,qaa rfl (qan _)⟩,trivial⟩ (by simp) (by simp) ?_
 rintro r L' ⟨rfl,rfl⟩
 refine⟨[],⟨by simp,by simp,by simp,by simp,by simp⟩,?_⟩
 simp only[qae]
 simp -implicitDefEqProofs [mkP,wP]
 first | done | omega
theorem heldA2C (n0 n1 k:Nat) (h0:n0≤2000000) (h1:n1≤2000000) (hk:k≤400000000) :
  CV prog 99 [.agg [.lst 1 ((mkG mkStr 1 k n0).map qaf),.lst 1 ((mkG mkStr 1 (k+n0) n1).map qaf)],.int .i64 k] (.int .i64 ((k+n0+n1:Nat):Int)):=by
 have c1:=heldStrC n0 k h0 (by omega)
 have c2:=heldStrC n1 (k+n0) h1 (by omega)
 simp only[Nat.one_mul,Int.natCast_add]at c1 c2
 generalize mkG mkStr 1 k n0=a at *
 generalize mkG mkStr 1 (k+n0) n1=b at *
 refine cvx func99 [] ntmps99 rfl rfl rfl ?_ (hca:=by simp[qaf])
 simp -implicitDefEqProofs
 refine ev_lp (X:=Nat) [1,2,5] [(2,2)] (fun i=>[(5,.int .i64 i),(1,.int .i64 (if i=0 then (k:Int) else if i=1 then (k:Int)+n0 else (k:Int)+n0+n1))]) (fun x=>[]) (fun x=>2-x) (fun x=>x=0∨x=1∨x=2) 0 (.inl rfl) ?_ (he:=by simp[obOf,qaf])
 have q1:¬ (k:Int)+n0<0:=by omega
 have q2:¬ (k:Int)+n0+n1<0:=by omega
 rintro i (rfl | rfl | rfl)
 ·simp -implicitDefEqProofs [obOf,qaf]
  refine c1.call ?_
  simp -implicitDefEqProofs [q1]
  exact nx 1 [(2,2)] (.inr (.inl rfl)) (h4:=by simp[obOf,qaf])
 ·simp -implicitDefEqProofs [obOf,qaf]
  refine c2.call ?_
  simp -implicitDefEqProofs [q2]
  exact nx 2 [(2,2)] (.inr (.inr rfl)) (h4:=by simp[obOf,qaf])
 ·simp -implicitDefEqProofs [obOf]
theorem heldDkC (d:DK) (k:Nat) (h:DkT d) (hk:k≤300000000):CV prog 36 [.agg (mkD d k).row,.int .i64 k] (.int .i64 ((k+wD d:Nat):Int)):=by
 have l0:=h.l0
 have l1:=h.l1
 have l2:=h.l2
 have c1:=heldA2C d.s0.length d.s1.length k (by omega) (by omega) (by omega)
 have c2:=heldLtC d.late.length (k+d.s0.length+d.s1.length) (by omega) (by omega)
 simp only[Nat.one_mul,Int.natCast_add,Int.natCast_mul,Int.cast_ofNat_Int]at c1 c2
 have q1:¬ (k:Int)+d.s0.length+d.s1.length<0:=by omega
 have q2:¬ (k:Int)+d.s0.length+d.s1.length+3 * d.late.length<0:=by omega
 refine cvx func36 [] ntmps36 rfl rfl rfl ?_ (hca:=by simp[DK.row,qaf,LT.row])
 simp -implicitDefEqProofs [DK.row,mkD]
 refine c1.call ?_
 simp -implicitDefEqProofs [q1]
 refine c2.call ?_
 simp -implicitDefEqProofs [q2,wD]
 first | done | omega
theorem heldCoC (c:CO) (k:Nat) (h:CoT c) (hk:k≤300000000):CV prog 37 [.agg (mkC c k).row,.int .i64 k] (.int .i64 ((k+wC c:Nat):Int)):=by
 have l0:=h.sets
 have l1:=h.ddt
 have l2:=h.parts
 have l3:=h.safe
 have c1:=heldCsC (mkCsL c.sets k) c.sets.length k (by omega) (by omega) (mkCsL_len _ _) (fun i hi=>⟨_,by
  show(mpAt c.sets i).length=8
  rw[mpAt,List.getElem?_eq_getElem hi]
  exact h.m8 _ (List.getElem_mem hi),mkCsL_at hi⟩)
 have c2:=heldDeC c.ddt.length (k+7 * c.sets.length) (by omega) (by omega)
 have c3:=heldPtC c.parts.length (k+7 * c.sets.length+3 * c.ddt.length) (by omega) (by omega)
 have c4:=heldInC c.safe.length (k+7 * c.sets.length+3 * c.ddt.length+3 * c.parts.length) (by omega) (by omega)
 simp only[Nat.one_mul,Int.natCast_add,Int.natCast_mul,Int.cast_ofNat_Int]at c1 c2 c3 c4
 have q1:¬ (k:Int)+7 * c.sets.length<0:=by omega
 have q2:¬ (k:Int)+7 * c.sets.length+3 * c.ddt.length<0:=by omega
 have q3:¬ (k:Int)+7 * c.sets.length+3 * c.ddt.length+3 * c.parts.length<0:=by omega
 have q4:¬ (k:Int)+7 * c.sets.length+3 * c.ddt.length+3 * c.parts.length+c.safe.length<0:=by omega
 refine cvx func37 [] ntmps37 rfl rfl rfl ?_ (hca:=by simp[CO.row,cs_cl,DE.row,PT.row,qad])
 simp -implicitDefEqProofs [CO.row,mkC]
 refine c1.call ?_
 simp -implicitDefEqProofs [q1]
 refine c2.call ?_
 simp -implicitDefEqProofs [q2]
 refine c3.call ?_
 simp -implicitDefEqProofs [q3]
 refine c4.call ?_
 simp -implicitDefEqProofs [q4,wC]
 first | done | omega
theorem heldPoC (p:PO) (k:Nat) (hd:DkT p.d) (hc:CoT p.c) (hk:k≤200000000):CV prog 14 [.agg (mkP p k).row,.int .i64 k] (.int .i64 ((k+wP p:Nat):Int)):=by
 have w1:=wD_le hd
 have c1:=heldDkC p.d k hd (by omega)
 have c2:=heldCoC p.c (k+wD p.d) hc (by omega)
 simp only[Nat.one_mul,Int.natCast_add,Int.natCast_mul,Int.cast_ofNat_Int,DK.row,CO.row]at c1 c2
 have q1:¬ (k:Int)+(wD p.d:Int)<0:=by omega
 have q2:¬ (k:Int)+(wD p.d:Int)+(wC p.c:Int)<0:=by omega
 refine cvx func14 [] ntmps14 rfl rfl rfl ?_ (hca:=by simp[PO.row,DK.row,CO.row,qaf,LT.row,cs_cl,DE.row,PT.row,qad])
 simp -implicitDefEqProofs [PO.row,mkP,DK.row,CO.row]
 refine c1.call ?_
 simp -implicitDefEqProofs [q1,PO.row,DK.row,CO.row]
 refine c2.call ?_
 simp -implicitDefEqProofs [q2,wP]
 first | done | omega
theorem szOpTC (o:BO) (l:Int) (hl:0≤l∧l≤1048576) (h1:o.a.length≤maxLen) (h2:o.b.length≤maxLen) (h3:o.text.length≤maxLen):∃ z:Int,(0≤z→opS o∧o.text.length≤1048576)∧z≤1048576∧CV prog 7 [.agg (BO.row o),.int .i64 l] (.int .i64 z):=by
 refine⟨szSs [o.a,o.b,o.text] l,?_,by have:=(szSs_le [o.a,o.b,o.text] l hl.1).1;omega,?_⟩
 ·intro h
  have:=(szSs_le [o.a,o.b,o.text] l hl.1).2.2 h
  have g1:=this o.a (by simp)
  have g2:=this o.b (by simp)
  have g3:=this o.text (by simp)
  exact⟨⟨by omega,by omega⟩,by omega⟩
 ·have hml:maxLen=9223372036854775807:=rfl
  refine cvx func7 [] ntmps7 rfl rfl rfl ?_ (hca:=by simp[BO.row])
  have e1:=i64w (l-(o.a.length:Int)) (by omega) (by omega)
  simp only[szSs]
  split
  ·simp -implicitDefEqProofs [BO.row,e1]
   intros
   omega
  ·have e2:=i64w (l-o.a.length-(o.b.length:Int)) (by omega) (by omega)
   split
   ·simp -implicitDefEqProofs [BO.row,e1,e2]
    intros
    omega
   ·have e3:=i64w (l-o.a.length-o.b.length-(o.text.length:Int)) (by omega) (by omega)
    split
    ·simp -implicitDefEqProofs [BO.row,e1,e2,e3]
     intros
     omega
    ·simp -implicitDefEqProofs [BO.row,e1,e2,e3]
     intros
     omega
theorem coT_of2 {c:CO} (hg:CoG c) (hs:CoS c):CoT c:=by
 exact⟨hs.1,hs.2.1,hs.2.2.1,hs.2.2.2.1,fun s h=>(hg.2.1 s h).2.1,hs.2.2.2.2⟩
theorem poolB_T {p:PO} (hd:DkT p.d) (hc:CoT p.c) (op:BO) (ha:op.a.length≤1048576) (hb:op.b.length≤1048576):DkT (poolB p op).1.d∧CoT (poolB p op).1.c:=by
 unfold poolB
 split
 ·exact⟨zDK_T,zK_T⟩
 ·rename_i h1
  have hok:poolOkB p=true:=by simpa using h1
  simp only[poolOkB,Bool.and_eq_true,decide_eq_true_eq]at hok
  split
  ·exact⟨hd,hc⟩
  ·split
   ·exact⟨hd,hc⟩
   ·rename_i h2
    obtain⟨e1,e2⟩:=callB_T hok.1.1 hc hok.2 op ha hb (by simpa using h2)
    exact⟨dOk_T e1,e2⟩
def poN:List (Nat×Nat):=[(901,1),(902,1),(903,3),(904,31),(905,3),(906,3),(907,1)]
theorem phN_zp:phsN poN (.tup [.agg [.nils,.nils,.nils,.int .i64 0,.nils,.nils,.nils,.bool false,.nils,.int .i64 0,.bool false],.int .i64 5]) (.tup [.agg (poolA ⟨zDK,zK,false⟩ 901 902 903 904 905 906 907),.int .i64 5]) :=
 phsN_tup (.cons (phsN_agg (.cons (qbv 901) (.cons (qbv 902) (.cons (qbv 903) (.cons (qbq _ _) (.cons (qbv 904) (.cons (qbv 905) (.cons (qbv 906) (.cons (qbq _ _) (.cons (qbv 907) (.cons (qbq _ _) (.cons (qbq _ _) .nil)))))))))))) (.cons (qbq _ _) .nil))
theorem iPoolCallN (p:PO) (hd:DkT p.d) (hc:CoT p.c) (op:BO) (ha:op.a.length≤1048576) (hb:op.b.length≤1048576) (ht:op.text.length≤1048576) :
  ACall prog 11 [.agg p.row,.agg op.row] [] (fun r L'=>r=.tup [.agg (poolA (poolB p op).1 901 902 903 904 905 906 907),.int .i64 (poolB p op).2]∧L'=poolL (poolB p op).1 901 902 903 904 905 906 907):=by
 refine ACall.phl poN (iPoolCallO p hd hc op ha hb ht) ?_
 rintro r L' (⟨h1,rfl,rfl⟩ | ⟨rfl,rfl⟩)
 ·have e:poolB p op=(⟨zDK,zK,false⟩,5):=by unfold poolB;rw[if_pos h1]
  rw[e]
  exact .inr ⟨by simp,rfl,_,phN_zp,rfl,rfl⟩
 ·exact .inl ⟨rfl,rfl⟩
theorem strs_shp {n:Nat} {avs:List AV} (h:Shp prog (n+2) 22 avs):∃ l:List (List UInt8),(l.length≤maxLen∧∀ t∈l,t.length≤maxLen)∧avs=[.lst 1 (l.map qaf)]:=by
 obtain⟨e2,m2,rfl,k2⟩:=shp_slice underlying22 h
 obtain⟨l2,rfl,g2⟩:=rows_ex qaf (fun t:List UInt8=>t.length≤maxLen) e2 fun r hr=>str_shp (k2 r hr)
 have c1:prog.cellsOf 9=1:=by kernel_rfl
 rw[c1]
 exact⟨l2,⟨by simpa using m2,g2⟩,rfl⟩
theorem lt_shp {n:Nat} {avs:List AV} (h:Shp prog (n+2) 185 avs):∃ x:LT,x.lx.length≤maxLen∧avs=x.row:=by
 obtain⟨a1,b1,rfl,h1,a2,b2,rfl,h2,a3,b3,rfl,h3,rfl⟩:=shp_struct underlying185 h
 obtain⟨z1,g1,rfl⟩:=shp_i64 h1
 obtain⟨z2,g2,rfl⟩:=shp_i64 h2
 obtain⟨s3,m3,rfl⟩:=shp_string underlying9 h3
 exact⟨⟨z1,z2,s3⟩,m3,rfl⟩
theorem dk_shp {n:Nat} {avs:List AV} (h:Shp prog (n+6) 26 avs):∃ d:DK,DkG d∧avs=d.row:=by
 obtain⟨a1,b1,rfl,h1,a2,b2,rfl,h2,rfl⟩:=shp_struct underlying26 h
 obtain⟨l,hl,rfl,hg⟩:=arr_ex (fun l:List (List UInt8)=>[.lst 1 (l.map qaf)]) (fun l=>l.length≤maxLen∧∀ t∈l,t.length≤maxLen) _ (fun r hr=>strs_shp hr) 2 a1 (shp_array underlying23 h1)
 obtain⟨e2,m2,rfl,k2⟩:=shp_slice underlying24 h2
 obtain⟨l2,rfl,g2⟩:=rows_ex LT.row (fun x=>x.lx.length≤maxLen) e2 fun r hr=>lt_shp (k2 r hr)
 have c1:prog.cellsOf 185=3:=by kernel_rfl
 rw[c1]
 match l,hl with
 | [s0,s1],_ =>
  have q0:=hg s0 (by simp)
  have q1:=hg s1 (by simp)
  exact⟨⟨s0,s1,l2⟩,⟨q0.1,q1.1,by simpa using m2,q0.2,q1.2,g2⟩,rfl⟩
structure PoG (p:PO):Prop where
 d:DkG p.d
 c:CoG p.c
theorem po_shp {avs:List AV} (h:Shp prog 10 34 avs):∃ p:PO,PoG p∧avs=p.row:=by
 obtain⟨a1,b1,rfl,h1,a2,b2,rfl,h2,a3,b3,rfl,h3,rfl⟩:=shp_struct underlying34 h
 obtain⟨d,gd,rfl⟩:=dk_shp h1
 obtain⟨c,gc,rfl⟩:=core_shp h2
 obtain⟨u,rfl⟩:=shp_bool underlying4 h3
 exact⟨⟨d,c,u⟩,⟨gd,gc⟩,by simp[PO.row]⟩
def cutLB (d:DK) (c:CO) (op:BO) (stage:Int) (fate:List Int):DK :=
 if op.kind=3∧c.logn<8 then dFallB (callB d c op).1 fate else if op.kind=3 then cutKB d c stage fate else
 if (setsD c op).2=false then dFallB d fate else cutB d (setsD c op).1 stage fate
theorem callB_dn {d:DK} {c:CO} {op:BO} (h:(callB d c op).2.2=0):dnB c op=0:=by
 unfold callB at h
 by_cases q:dnB c op≠0
 ·rw[if_pos q]at h
  exact h
 ·omega
theorem sSetsQ (c:CO) (hm:CoM c) (h8:∀ s∈c.sets,s.map.length=8) (op:BO) (hk:op.kind=1∨op.kind=2∨op.kind=4∨op.kind=5∨op.kind=6)
  (ha:op.kind≠1→nmP c.sets op.a<c.sets.length) (hb:op.kind=6→nmP c.sets op.b<c.sets.length) :
  ACall prog 72 [coreS c 1000,.agg op.row] [(1000,kcs c.sets)] (fun r L'=>r=.tup [coreS (setsD c op).1 901,.bool (setsD c op).2]∧L'=[(901,kcs (setsD c op).1.sets)]):=by
 refine(sSetsO c hm h8 op hk ha hb).can ?_
 rintro r L' ⟨id,hid,rfl,rfl⟩
 refine⟨[(id,901)],by simp,by simp,by simp,by simp,?_⟩
 simp[coreS,obOf]
def l11S (d:DK) (stage:Int) (fate:List Int) (x:CO) (xo:Bool):S :=
 ⟨mkT [(3,.int .i64 stage),(4,.lst 1 (fate.map qad)),(5,.ptr 5 0 0),(10,.ptr 10 0 0),(14,.ptr 14 0 0),(15,.bool xo)],hpOf [(5,⟨3,[d.row]⟩),(10,⟨3,[[.nils,.nils,.nils]]⟩),(14,⟨7,[x.row]⟩)],Us.of [5,10,14]⟩
theorem sL11C (d:DK) (hd:dOkB d=true) (c:CO) (h:CoT c) (hc:qaj c=true) (op:BO) (ha:op.a.length≤1048576) (hb:op.b.length≤1048576) (ht:op.text.length≤1048576) (hz:(callB d c op).2.2=0)
  (stage:Int) (fate:List Int) (hf:fate.length≤1048576) :
  CV prog 57 [.agg d.row,.agg c.row,.agg op.row,.int .i64 stage,.lst 1 (fate.map qad)] (.agg (cutLB d c op stage fate).row):=by
 obtain⟨R,hR⟩:∃ R,cutLB d c op stage fate=R:=⟨_,rfl⟩
 rw[hR]
 unfold cutLB at hR
 obtain⟨hm,k1,k2,k3,k4,k5,k6,k7⟩:=qcc hc
 obtain⟨g1,g2,g3,g4⟩:=dnB_done (callB_dn hz)
 have c1:=sCallC d hd c h hc op ha hb ht
 have hT:=callB_T hd h hc op ha hb hz
 have c2:=sFallC (callB d c op).1 (dOk_T hT.1) fate hf
 have c3:=sCutK d hd c h hc stage fate hf
 have c4:=sFallC d (dOk_T hd) fate hf
 generalize callB d c op=W at *
 obtain⟨wd,wc,wn⟩:=W
 simp only[DK.row,CO.row,BO.row]at c1 c2 c3 c4 hR
 refine⟨by kernel_rfl,by simp[DK.row,co_cl,qad,BO.row],by simp[DK.row],acv func57 [(6,[zJ 0 [6] [],zJ 2 [7] [6],⟨1,[],[7],[7],[]⟩,⟨3,[],[],[7],[]⟩,zI 4,zI 5,zI 6,zJ 7 [] [6,7],zI 8,zI 9])] ntmps57 rfl rfl rfl ?_⟩
 refine va_seq (qax _ ?_)
 simp -implicitDefEqProofs [DK.row,CO.row,BO.row]
 by_cases q3:op.kind=3
 ·refine qax _ ?_
  by_cases ql:c.logn<8
  ·rw[if_pos ⟨q3,ql⟩]at hR
   subst hR
   rw[q3]at c1
   simp -implicitDefEqProofs [q3,ql,show ¬ 8≤c.logn by omega,DK.row,CO.row,BO.row]
   refine c1.call ?_
   simp -implicitDefEqProofs
   refine c2.call ?_
   simp -implicitDefEqProofs
  ·rw[if_neg (by simp[ql]),if_pos q3]at hR
   subst hR
   simp -implicitDefEqProofs [q3,ql,show 8≤c.logn by omega,DK.row,CO.row,BO.row]
   refine c3.call ?_
   simp -implicitDefEqProofs
 ·rw[if_neg (by simp[q3]),if_neg q3]at hR
  have hn:=sSetsQ c hm h.m8 op (by omega) g2 g3
  have hXT:=setsD_T h hm op ha hb
  generalize setsD c op=X at *
  obtain⟨x,xo⟩:=X
  simp only[coreS,BO.row]at hn
  simp only at hXT hR
  have cs:=sKCopyS c h
  simp only[coreS,CO.row]at cs
  refine va_seq (qax _ ?_)
  simp -implicitDefEqProofs [q3]
  refine va_seq (qax _ ?_)
  simp -implicitDefEqProofs [q3]
  refine va_cutW (X:=Unit) (fun _=>l11S d stage fate x xo) (fun _=>True) ?_ ?_
  ·simp -implicitDefEqProofs [DK.row,CO.row,BO.row]
   refine qab [] (by kernel_rfl) cs (by simp[co_cl,CO.row]) (by simp) trivial (by simp) (by simp) ?_
   rintro r L' ⟨rfl,rfl⟩
   refine⟨[(8,40)],⟨by simp,by simp,by simp,by simp,by simp⟩,?_⟩
   simp only[qae]
   simp -implicitDefEqProofs [BO.row]
   refine qab [(1000,.whole 40)] (by kernel_rfl) hn (by simp[BO.row];try exact mtL_cl _ (by simp)) (by simp) (by simp[kcs];exact qaa rfl (qak _)) (by simp) (by simp) ?_
   rintro r L' ⟨rfl,rfl⟩
   refine⟨[(901,901)],⟨by simp,by simp,by simp,by simp,by simp⟩,?_⟩
   simp only[qae]
   simp -implicitDefEqProofs [BO.row]
   exact cutW_of () trivial (sw_fr 901 (o:=kcs x.sets) (by simp) (by simpa [clR]using qak _) (by simp) (by simp) [3,4,5,10,14,15] [(5,5),(10,10),(14,14)] (by simp[qag]) (by simp[-frzO,canon,obOf,l11S];simp[frzO,DK.row,CO.row,BO.row,kcs,qap]))
  rintro _ -
  refine qax _ ?_
  cases xo with
  | false =>
   rw[if_pos rfl]at hR
   subst hR
   simp -implicitDefEqProofs [l11S,DK.row,CO.row]
   refine c4.call ?_
   simp -implicitDefEqProofs
  | true =>
   rw[if_neg (by simp)]at hR
   subst hR
   have cc:=sCutC d (dOk_T hd) x hXT stage fate hf
   simp only[DK.row,CO.row]at cc
   simp -implicitDefEqProofs [l11S,DK.row,CO.row]
   refine cc.call ?_
   simp -implicitDefEqProofs
def cutPB (p:PO) (op:BO) (stage:Int) (fate:List Int):PO :=
 if poolOkB p=false then ⟨zDK,zK,false⟩ else
 if p.up=false∨(callB p.d p.c op).2.2≠0 then ⟨dFallB p.d fate,zK,false⟩ else ⟨cutLB p.d p.c op stage fate,zK,false⟩
theorem sPoolCutC (p:PO) (hd:DkT p.d) (hc:CoT p.c) (op:BO) (ha:op.a.length≤1048576) (hb:op.b.length≤1048576) (ht:op.text.length≤1048576) (stage:Int) (fate:List Int) (hf:fate.length≤1048576) :
  CV prog 17 [.agg p.row,.agg op.row,.int .i64 stage,.lst 1 (fate.map qad)] (.agg (cutPB p op stage fate).row):=by
 obtain⟨R,hR⟩:∃ R,cutPB p op stage fate=R:=⟨_,rfl⟩
 rw[hR]
 unfold cutPB at hR
 have c1:=sPoolOkC p hd hc
 have c2:=sCopyC p.d hd
 have c3:=sKCopyC p.c hc
 refine CV.of_imp ?_ (hca:=by simp[PO.row,DK.row,co_cl,BO.row,qad]) (hcv:=by simp[PO.row,DK.row,co_cl])
 refine acx func17 [(3,[zI 0,zJ 1 [4] [],zJ 3 [] [4],zJ 4 [4] [4],zJ 6 [5] [4],⟨2,[],[4,5],[12,13],[]⟩,⟨5,[],[5],[12,13],[]⟩,⟨7,[],[],[12,13],[]⟩,zI 8,zI 9,zI 10,zI 11,zJ 12 [] [4,5],zJ 13 [] [4,5],zI 14,zI 15,zI 16]),(6,[zI 0,zJ 1 [4] [],zJ 3 [] [4],zJ 4 [4] [4],zJ 6 [5] [4],zJ 7 [] [4,5],zJ 8 [] [4,5],zJ 2 [] [4,5],zJ 5 [] [5],zI 9,zI 10,zI 11])] ntmps17 rfl rfl rfl ?_
 simp only[PO.row,DK.row,CO.row]at c1 c2 c3
 simp -implicitDefEqProofs [PO.row,DK.row,CO.row,BO.row]
 refine c1.call ?_
 cases hok:poolOkB p with
 | false =>
  rw[if_pos hok]at hR
  subst hR
  simp -implicitDefEqProofs
  exact impA_zp
 | true =>
  rw[if_neg (by simp[hok])]at hR
  have c6:=sPFallC p hd hc hok fate hf
  simp only[poolOkB,Bool.and_eq_true,decide_eq_true_eq]at hok
  have c4:=sCallC p.d hok.1.1 p.c hc hok.2 op ha hb ht
  have c5:=fun hz=>sL11C p.d hok.1.1 p.c hc hok.2 op ha hb ht hz stage fate hf
  generalize callB p.d p.c op=W at *
  obtain⟨wd,wc,wn⟩:=W
  simp only[PO.row,DK.row,CO.row,BO.row,List.cons_append,List.nil_append]at c4 c5 c6 hR
  simp -implicitDefEqProofs [PO.row,DK.row,CO.row,BO.row]
  refine c2.call ?_
  simp -implicitDefEqProofs
  refine c3.call ?_
  simp -implicitDefEqProofs
  refine c4.call ?_
  cases hu:p.up with
  | false =>
   rw[if_pos (.inl hu)]at hR
   subst hR
   rw[hu]at c6
   simp -implicitDefEqProofs [hu]
   refine c6.call ?_
   simp -implicitDefEqProofs [PO.row,DK.row,CO.row]
  | true =>
   by_cases q:wn≠0
   ·rw[if_pos (.inr q)]at hR
    subst hR
    rw[hu]at c6
    simp -implicitDefEqProofs [hu,q]
    refine c6.call ?_
    simp -implicitDefEqProofs [PO.row,DK.row,CO.row]
   ·rw[if_neg (by simp[hu,q])]at hR
    subst hR
    have c7:=c5 (by omega)
    simp -implicitDefEqProofs [hu,show wn=0 by omega]
    refine c2.call ?_
    simp -implicitDefEqProofs
    refine c3.call ?_
    simp -implicitDefEqProofs
    refine c7.call ?_
    simp -implicitDefEqProofs [PO.row,DK.row,CO.row]
    exact impA_zc _ _ _
def faQ (x y:Nat) (R:DK) (r:AV) (L':List (Nat×Ob)):Prop :=
 (R=zDK∧r=.agg [.nils,.nils,.nils]∧L'=[]) ∨
 (R.late=[]∧r=.agg [.sl x 0 R.s0.length,.sl y 0 R.s1.length,.nils]∧L'=[(x,strOb R.s0),(y,strOb R.s1)])
theorem iFallO (d:DK) (h:DkT d) (fate:List Int) (hf:fate.length≤1048576):ACall prog 59 [.agg d.row,.lst 1 (fate.map qad)] [] (faQ 901 902 (dFallB d fate)):=by
 have key:ACall prog 59 [.agg d.row,.lst 1 (fate.map qad)] [] (faQ 801 802 (dFallB d fate)):=by
  obtain⟨R,hR⟩:∃ R,dFallB d fate=R:=⟨_,rfl⟩
  rw[hR]
  unfold dFallB at hR
  have h0:=h.l0
  have h1:=h.l1
  have h2:=h.l2
  have c1:=iDiskOkC d h
  have co:=iDOwnO d h
  simp only[DK.row]at c1 co
  refine acx func59 [(8,[zI 0,zJ 1 [7] [],zJ 2 [] [7],zI 3,zJ 4 [5] [],zJ 5 [] [7,5],zJ 6 [7] [7,5],zJ 7 [801,802] [],zI 8]),(15,[zI 0,zI 1,zJ 2 [7] [],zJ 3 [] [7],zI 4,zJ 5 [] [7],zJ 6 [] [7],zJ 7 [] [7],zJ 8 [] [7],zJ 9 [] [7],zJ 10 [] [7],zI 11,zI 12,zI 13])] ntmps59 rfl rfl rfl ?_
  simp -implicitDefEqProofs [DK.row]
  refine c1.call ?_
  cases hok:dOkB d with
  | false =>
   rw[if_neg (by simp[hok])]at hR
   simp -implicitDefEqProofs [← hR]
   exact⟨[],by simp,.inl ⟨rfl,rfl,rfl⟩⟩
  | true =>
   rw[if_pos hok]at hR
   obtain⟨g1,g2,g3,g4,g5,g6,g7⟩:=dOk_len hok
   simp -implicitDefEqProofs
   refine qab [] (by kernel_rfl) co (by simp[qaf,LT.row]) (by simp) trivial (by simp) (by simp) ?_
   rintro r L' ⟨rfl,rfl⟩
   refine⟨[(6,801),(10,802),(14,803)],⟨by simp,by simp,by simp,by simp,by simp⟩,?_⟩
   simp only[qae]
   simp -implicitDefEqProofs
   refine ev_lp (X:=Nat×L2) [1,4,5,18,19,20] [(4,4),(5,5),(801,801),(802,802),(803,803)] (fun x=>[(20,.int .i64 x.1)]) (fun x=>[(801,strOb x.2.1),(802,strOb x.2.2)]) (fun x=>d.late.length-x.1)
    (fun x=>x.1≤d.late.length∧x.1≤fate.length∧x.2.1.length=d.s0.length∧x.2.2.length=d.s0.length∧(∀ t∈x.2.1,t.length≤1048576)∧(∀ t∈x.2.2,t.length≤1048576)∧(⟨(fallZ (d.late.drop x.1) (fate.drop x.1) x.2).1,(fallZ (d.late.drop x.1) (fate.drop x.1) x.2).2,[]⟩:DK)=R) (0,(d.s0,d.s1)) ⟨by omega,by omega,rfl,g3,h.t0,h.t1,hR⟩ ?_ (he:=by simp[obOf])
   rintro⟨i,a,b⟩ ⟨hi,hj,ha,hb,ta,tb,hd⟩
   simp only at hi hj ha hb ta tb hd
   by_cases hil:i<d.late.length
   ·obtain⟨w,f1⟩:∃ w,d.late[i]?=some w:=⟨_,List.getElem?_eq_getElem hil⟩
    have f0:d.late[i]=w:=(List.getElem?_eq_some_iff.1 f1).2
    have hli:(i:Int)<d.late.length:=by omega
    by_cases hjl:i<fate.length
    ·obtain⟨f,g1⟩:∃ f,fate[i]?=some f:=⟨_,List.getElem?_eq_getElem hjl⟩
     have g0:fate[i]=f:=(List.getElem?_eq_some_iff.1 g1).2
     have hw:=thereB_iff.1 (g7 w (List.mem_of_getElem? f1))
     rw[dropAt f1,dropAt g1,fallZ]at hd
     obtain⟨w1,w2,w3⟩:=hw
     have hlj:(i:Int)<fate.length:=by omega
     have e2:=i64w ((i:Int)+1) (by omega) (by omega)
     have hl:(fallP (a,b) w f).1.length=a.length∧(fallP (a,b) w f).2.length=b.length:=fallP_len (a,b) w f
     have hx:=h.t2 w (List.mem_of_getElem? f1)
     have tp:=fallP_T (p:=(a,b)) (w:=w) (f:=f) ta tb hx
     have hla:w.la.toNat<a.length:=by omega
     have hlb:w.la.toNat<b.length:=by omega
     by_cases q1:f=1
     ·subst q1
      rcases w1 with w1 | w1
      ·simp -implicitDefEqProofs [obOf,LT.row,qad,hil,hjl,f0,f1,g0,g1,hli,hlj,e2,w2.1,w2.2,strOb,show ¬ (fate.length:Int)≤i by omega,show ¬ fate.length≤i by omega,w1]
       refine⟨by omega,nx (i+1,fallP (a,b) w 1) [(4,4),(5,5),(801,801),(802,802),(803,803)] ⟨by simp only;omega,by simp only;omega,by simp only;omega,by simp only;omega,tp.1,tp.2,hd⟩ (by simp only;omega) (h4:=?_)⟩
       simp[obOf,e2,fallP,putP,w1,strOb,qaf,hla]
      ·simp -implicitDefEqProofs [obOf,LT.row,qad,hil,hjl,f0,f1,g0,g1,hli,hlj,e2,w2.1,w2.2,strOb,show ¬ (fate.length:Int)≤i by omega,show ¬ fate.length≤i by omega,w1]
       first
        | refine⟨by omega,by omega,nx (i+1,fallP (a,b) w 1) [(4,4),(5,5),(801,801),(802,802),(803,803)] ⟨by simp only;omega,by simp only;omega,by simp only;omega,by simp only;omega,tp.1,tp.2,hd⟩ (by simp only;omega) (h4:=?_)⟩
        | refine⟨by omega,nx (i+1,fallP (a,b) w 1) [(4,4),(5,5),(801,801),(802,802),(803,803)] ⟨by simp only;omega,by simp only;omega,by simp only;omega,by simp only;omega,tp.1,tp.2,hd⟩ (by simp only;omega) (h4:=?_)⟩
       simp[obOf,e2,fallP,putP,w1,strOb,qaf,hlb]
     ·by_cases q2:f=2
      ·subst q2
       have t2:=half_eq w.lx.length
       have hh:w.lx.length / 2≤w.lx.length:=by omega
       have ew:=i64w (((w.lx.length / 2:Nat):Int)) (by omega) (by omega)
       rcases w1 with w1 | w1
       ·obtain⟨o,ho⟩:∃ o,a[w.la.toNat]=o:=⟨_,rfl⟩
        have ho1:a[w.la.toNat]?=some o:=by rw[List.getElem?_eq_getElem hla,ho]
        have ho2:o.length≤1048576:=ta o (List.mem_of_getElem? ho1)
        obtain⟨k,hk⟩:∃ k,w.lx.length / 2=k:=⟨_,rfl⟩
        rw[hk]at t2 hh ew
        have gt:List.take (o.length-k) (o.drop k)=o.drop k:=List.take_of_length_le (by simp)
        by_cases hk2:o.length<k
        ·have gd:o.drop k=[]:=List.drop_eq_nil_of_le (by omega)
         simp -implicitDefEqProofs [obOf,LT.row,qad,hil,hjl,f0,f1,g0,g1,hli,hlj,e2,w2.1,w2.2,strOb,show ¬ (fate.length:Int)≤i by omega,show ¬ fate.length≤i by omega,w1,qaf,hla,ho,ho1,t2,hh,ew,hk2]
         first
          | refine⟨by omega,by omega,nx (i+1,fallP (a,b) w 2) [(4,4),(5,5),(801,801),(802,802),(803,803)] ⟨by simp only;omega,by simp only;omega,by simp only;omega,by simp only;omega,tp.1,tp.2,hd⟩ (by simp only;omega) (h4:=?_)⟩
          | refine⟨by omega,nx (i+1,fallP (a,b) w 2) [(4,4),(5,5),(801,801),(802,802),(803,803)] ⟨by simp only;omega,by simp only;omega,by simp only;omega,by simp only;omega,tp.1,tp.2,hd⟩ (by simp only;omega) (h4:=?_)⟩
          | refine nx (i+1,fallP (a,b) w 2) [(4,4),(5,5),(801,801),(802,802),(803,803)] ⟨by simp only;omega,by simp only;omega,by simp only;omega,by simp only;omega,tp.1,tp.2,hd⟩ (by simp only;omega) (h4:=?_)
          | refine⟨by omega,by omega,by omega,nx (i+1,fallP (a,b) w 2) [(4,4),(5,5),(801,801),(802,802),(803,803)] ⟨by simp only;omega,by simp only;omega,by simp only;omega,by simp only;omega,tp.1,tp.2,hd⟩ (by simp only;omega) (h4:=?_)⟩
         simp[obOf,e2,fallP,putP,oldP,w1,strOb,qaf,hla,ho,ho1,tornB,hk,gd]
        ·simp -implicitDefEqProofs [obOf,LT.row,qad,hil,hjl,f0,f1,g0,g1,hli,hlj,e2,w2.1,w2.2,strOb,show ¬ (fate.length:Int)≤i by omega,show ¬ fate.length≤i by omega,w1,qaf,hla,ho,ho1,t2,hh,ew,hk2,gt]
         first
          | refine⟨by omega,by omega,nx (i+1,fallP (a,b) w 2) [(4,4),(5,5),(801,801),(802,802),(803,803)] ⟨by simp only;omega,by simp only;omega,by simp only;omega,by simp only;omega,tp.1,tp.2,hd⟩ (by simp only;omega) (h4:=?_)⟩
          | refine⟨by omega,nx (i+1,fallP (a,b) w 2) [(4,4),(5,5),(801,801),(802,802),(803,803)] ⟨by simp only;omega,by simp only;omega,by simp only;omega,by simp only;omega,tp.1,tp.2,hd⟩ (by simp only;omega) (h4:=?_)⟩
          | refine nx (i+1,fallP (a,b) w 2) [(4,4),(5,5),(801,801),(802,802),(803,803)] ⟨by simp only;omega,by simp only;omega,by simp only;omega,by simp only;omega,tp.1,tp.2,hd⟩ (by simp only;omega) (h4:=?_)
          | refine⟨by omega,by omega,by omega,nx (i+1,fallP (a,b) w 2) [(4,4),(5,5),(801,801),(802,802),(803,803)] ⟨by simp only;omega,by simp only;omega,by simp only;omega,by simp only;omega,tp.1,tp.2,hd⟩ (by simp only;omega) (h4:=?_)⟩
         simp[obOf,e2,fallP,putP,oldP,w1,strOb,qaf,hla,ho,ho1,tornB,hk,gt]
       ·obtain⟨o,ho⟩:∃ o,b[w.la.toNat]=o:=⟨_,rfl⟩
        have ho1:b[w.la.toNat]?=some o:=by rw[List.getElem?_eq_getElem hlb,ho]
        have ho2:o.length≤1048576:=tb o (List.mem_of_getElem? ho1)
        obtain⟨k,hk⟩:∃ k,w.lx.length / 2=k:=⟨_,rfl⟩
        rw[hk]at t2 hh ew
        have gt:List.take (o.length-k) (o.drop k)=o.drop k:=List.take_of_length_le (by simp)
        by_cases hk2:o.length<k
        ·have gd:o.drop k=[]:=List.drop_eq_nil_of_le (by omega)
         simp -implicitDefEqProofs [obOf,LT.row,qad,hil,hjl,f0,f1,g0,g1,hli,hlj,e2,w2.1,w2.2,strOb,show ¬ (fate.length:Int)≤i by omega,show ¬ fate.length≤i by omega,w1,qaf,hlb,ho,ho1,t2,hh,ew,hk2]
         first
          | refine⟨by omega,by omega,nx (i+1,fallP (a,b) w 2) [(4,4),(5,5),(801,801),(802,802),(803,803)] ⟨by simp only;omega,by simp only;omega,by simp only;omega,by simp only;omega,tp.1,tp.2,hd⟩ (by simp only;omega) (h4:=?_)⟩
          | refine⟨by omega,nx (i+1,fallP (a,b) w 2) [(4,4),(5,5),(801,801),(802,802),(803,803)] ⟨by simp only;omega,by simp only;omega,by simp only;omega,by simp only;omega,tp.1,tp.2,hd⟩ (by simp only;omega) (h4:=?_)⟩
          | refine nx (i+1,fallP (a,b) w 2) [(4,4),(5,5),(801,801),(802,802),(803,803)] ⟨by simp only;omega,by simp only;omega,by simp only;omega,by simp only;omega,tp.1,tp.2,hd⟩ (by simp only;omega) (h4:=?_)
          | refine⟨by omega,by omega,by omega,nx (i+1,fallP (a,b) w 2) [(4,4),(5,5),(801,801),(802,802),(803,803)] ⟨by simp only;omega,by simp only;omega,by simp only;omega,by simp only;omega,tp.1,tp.2,hd⟩ (by simp only;omega) (h4:=?_)⟩
         simp[obOf,e2,fallP,putP,oldP,w1,strOb,qaf,hlb,ho,ho1,tornB,hk,gd]
        ·simp -implicitDefEqProofs [obOf,LT.row,qad,hil,hjl,f0,f1,g0,g1,hli,hlj,e2,w2.1,w2.2,strOb,show ¬ (fate.length:Int)≤i by omega,show ¬ fate.length≤i by omega,w1,qaf,hlb,ho,ho1,t2,hh,ew,hk2,gt]
         first
          | refine⟨by omega,by omega,nx (i+1,fallP (a,b) w 2) [(4,4),(5,5),(801,801),(802,802),(803,803)] ⟨by simp only;omega,by simp only;omega,by simp only;omega,by simp only;omega,tp.1,tp.2,hd⟩ (by simp only;omega) (h4:=?_)⟩
          | refine⟨by omega,nx (i+1,fallP (a,b) w 2) [(4,4),(5,5),(801,801),(802,802),(803,803)] ⟨by simp only;omega,by simp only;omega,by simp only;omega,by simp only;omega,tp.1,tp.2,hd⟩ (by simp only;omega) (h4:=?_)⟩
          | refine nx (i+1,fallP (a,b) w 2) [(4,4),(5,5),(801,801),(802,802),(803,803)] ⟨by simp only;omega,by simp only;omega,by simp only;omega,by simp only;omega,tp.1,tp.2,hd⟩ (by simp only;omega) (h4:=?_)
          | refine⟨by omega,by omega,by omega,nx (i+1,fallP (a,b) w 2) [(4,4),(5,5),(801,801),(802,802),(803,803)] ⟨by simp only;omega,by simp only;omega,by simp only;omega,by simp only;omega,tp.1,tp.2,hd⟩ (by simp only;omega) (h4:=?_)⟩
         simp[obOf,e2,fallP,putP,oldP,w1,strOb,qaf,hlb,ho,ho1,tornB,hk,gt]
      ·rcases w1 with w1 | w1
       ·simp -implicitDefEqProofs [obOf,LT.row,qad,hil,hjl,f0,f1,g0,g1,hli,hlj,e2,w2.1,w2.2,strOb,show ¬ (fate.length:Int)≤i by omega,show ¬ fate.length≤i by omega,w1,q1,q2]
        first
         | refine nx (i+1,fallP (a,b) w f) [(4,4),(5,5),(801,801),(802,802),(803,803)] ⟨by simp only;omega,by simp only;omega,by simp only;omega,by simp only;omega,tp.1,tp.2,hd⟩ (by simp only;omega) (h4:=?_)
         | refine⟨by omega,nx (i+1,fallP (a,b) w f) [(4,4),(5,5),(801,801),(802,802),(803,803)] ⟨by simp only;omega,by simp only;omega,by simp only;omega,by simp only;omega,tp.1,tp.2,hd⟩ (by simp only;omega) (h4:=?_)⟩
        simp[obOf,e2,fallP,q1,q2]
       ·simp -implicitDefEqProofs [obOf,LT.row,qad,hil,hjl,f0,f1,g0,g1,hli,hlj,e2,w2.1,w2.2,strOb,show ¬ (fate.length:Int)≤i by omega,show ¬ fate.length≤i by omega,w1,q1,q2]
        first
         | refine⟨by omega,by omega,nx (i+1,fallP (a,b) w f) [(4,4),(5,5),(801,801),(802,802),(803,803)] ⟨by simp only;omega,by simp only;omega,by simp only;omega,by simp only;omega,tp.1,tp.2,hd⟩ (by simp only;omega) (h4:=?_)⟩
         | refine⟨by omega,nx (i+1,fallP (a,b) w f) [(4,4),(5,5),(801,801),(802,802),(803,803)] ⟨by simp only;omega,by simp only;omega,by simp only;omega,by simp only;omega,tp.1,tp.2,hd⟩ (by simp only;omega) (h4:=?_)⟩
        simp[obOf,e2,fallP,q1,q2]
    ·rw[fallZ_end (.inr (List.drop_eq_nil_of_le (by omega)))]at hd
     have hlj:¬ (i:Int)<fate.length:=by omega
     simp -implicitDefEqProofs [obOf,LT.row,hil,f0,f1,hli,hlj,show(fate.length:Int)≤i by omega]
     rw[← hd]
     exact⟨[(801,strOb a),(802,strOb b)],by simp[obOf,strOb],.inr ⟨rfl,by simp[ha,hb,g3],rfl⟩⟩
   ·rw[fallZ_end (.inl (List.drop_eq_nil_of_le (by omega)))]at hd
    have hli:¬ (i:Int)<d.late.length:=by omega
    simp -implicitDefEqProofs [obOf,hli]
    rw[← hd]
    exact⟨[(801,strOb a),(802,strOb b)],by simp[obOf,strOb],.inr ⟨rfl,by simp[ha,hb,g3],rfl⟩⟩
 refine key.can ?_
 rintro r L' (⟨h1,rfl,rfl⟩ | ⟨h1,rfl,rfl⟩)
 ·exact⟨[],by simp,by simp,by simp,by simp,.inl ⟨h1,by simp,by simp⟩⟩
 ·refine⟨[(801,901),(802,902)],by simp,by simp,by simp,by simp,.inr ⟨h1,by simp,by simp[obOf,strOb]⟩⟩
def dkL (R:DK):List (Nat×Ob):=[(901,strOb R.s0),(902,strOb R.s1),(903,ltOb R.late)]
theorem phN_zd:phsN [(901,1),(902,1),(903,3)] (.agg [.nils,.nils,.nils]) (.agg (dskA zDK 901 902 903)):=phsN_agg (.cons (qbv 901) (.cons (qbv 902) (.cons (qbv 903) .nil)))
theorem iFallN (d:DK) (h:DkT d) (fate:List Int) (hf:fate.length≤1048576):ACall prog 59 [.agg d.row,.lst 1 (fate.map qad)] [] (fun r L'=>r=.agg (dskA (dFallB d fate) 901 902 903)∧L'=dkL (dFallB d fate)):=by
 refine(iFallO d h fate hf).canN ?_
 rintro r L' (⟨h1,rfl,rfl⟩ | ⟨h1,rfl,rfl⟩)
 ·rw[h1]
  exact⟨[(901,1),(902,1),(903,3)],[],by simp,by simp,by simp,by simp,_,by simpa using phN_zd,rfl,rfl⟩
 ·refine⟨[(903,3)],[(901,901),(902,902)],by simp,by simp,by simp,by simp[N0],.agg (dskA (dFallB d fate) 901 902 903),?_,rfl,?_⟩
  ·rw[dskA,h1]
   simp
   exact phsN_agg (.cons (qbq _ _) (.cons (qbq _ _) (.cons (qbv 903) .nil)))
  ·simp[dkL,obOf,strOb,h1,N0,ltOb]
def cuQ (R:DK) (r:AV) (L':List (Nat×Ob)):Prop :=
 (R=zDK∧r=.agg [.nils,.nils,.nils]∧L'=[])∨(r=.agg (dskA R 901 902 903)∧L'=dkL R)
theorem iCutO (d:DK) (hd:DkT d) (c:CO) (h:CoT c) (stage:Int) (fate:List Int) (hf:fate.length≤1048576) :
  ACall prog 61 [.agg d.row,.agg c.row,.int .i64 stage,.lst 1 (fate.map qad)] [] (cuQ (cutB d c stage fate)):=by
 obtain⟨R,hR⟩:∃ R,cutB d c stage fate=R:=⟨_,rfl⟩
 rw[hR]
 unfold cutB at hR
 have c0:=iCommitOkC d hd c h
 have c3:=iFallN d hd fate hf
 simp only[DK.row,CO.row,dskA,dkL]at c0 c3
 refine acx func61 [] ntmps61 rfl rfl rfl ?_
 simp -implicitDefEqProofs [DK.row,CO.row]
 refine c0.call ?_
 by_cases hok:dOkB d=false∨qaj c=false∨d.s0.length≤13
 ·rw[if_pos hok]at hR
  subst hR
  rw[show(dOkB d && qaj c && decide (13<d.s0.length))=false by
   rcases hok with e | e | e
   ·rw[e];rfl
   ·rw[e];simp
   ·simp;omega]
  simp -implicitDefEqProofs
  exact⟨[],by simp,.inl ⟨rfl,rfl,rfl⟩⟩
 ·have ho:dOkB d=true∧qaj c=true∧13<d.s0.length:=by
   refine⟨?_,?_,?_⟩
   ·cases e:dOkB d with
    | true=>rfl
    | false=>exact absurd (.inl e) hok
   ·cases e:qaj c with
    | true=>rfl
    | false=>exact absurd (.inr (.inl e)) hok
   ·have:¬ d.s0.length≤13:=fun e=>hok (.inr (.inr e))
    omega
  obtain⟨o1,o2,o3⟩:=ho
  rw[if_neg hok]at hR
  rw[show(dOkB d && qaj c && decide (13<d.s0.length))=true by simp[o1,o2,o3]]
  obtain⟨hm,k1,k2,k3,k4,k5,k6,k7⟩:=qcc o2
  have c5:=iNewO d o1 c h o2
  unfold cutKB at hR
  simp only[DK.row,CO.row]at c5
  simp -implicitDefEqProofs [DK.row,CO.row]
  refine qab [] (by kernel_rfl) c5 (by simp[qaf,LT.row,cs_cl,DE.row,PT.row,qad]) (by simp) trivial (by simp) (by simp) ?_
  rintro r L' (⟨hma,rfl,rfl⟩ | ⟨hma,rfl,rfl⟩)
  ·rw[if_pos hma]at hR
   subst hR
   refine⟨[],⟨by simp,by simp,by simp,by simp,by simp⟩,?_⟩
   simp only[qae]
   simp -implicitDefEqProofs
   refine qab [] (by kernel_rfl) c3 (by simp[qaf,LT.row,qad]) (by simp) trivial (by simp) (by simp) ?_
   rintro r L' ⟨rfl,rfl⟩
   refine⟨[(901,901),(902,902),(903,903)],⟨by simp,by simp,by simp,by simp,by simp⟩,?_⟩
   simp only[qae]
   simp -implicitDefEqProofs
   exact⟨dkL (dFallB d fate),by simp[dkL,obOf],.inr ⟨rfl,rfl⟩⟩
  ·rw[if_neg (by simp[hma])]at hR
   have hma2:=hma
   simp only[mayDoB,Bool.and_eq_true,decide_eq_true_eq]at hma2
   have c6:=iRunO d o1 c h o2 hma2.2 hma2.1
   have hb1:=blocks_ok o1 c
   have hl:ldB d c=(ringB (qbr (qai d c).1.d) (c.txg+1) (qai d c).2.2).1:=rfl
   have hf1:=flush_ok hb1.1
   have hr1:dOkB (ldB d c)=true:=by
    rw[hl]
    exact(bWrite_ok hf1.1 _ _).1
   rw[← hl]at hR
   have c7:=iFallN (qai d c).1.d (dOk_T hb1.1) fate hf
   have c8:=iFallN (ldB d c) (dOk_T hr1) fate hf
   clear hl hf1
   generalize ldB d c=ld at *
   generalize (qai d c).1=B at *
   obtain⟨bd,bf,bok⟩:=B
   simp only at hR c7
   simp only[DK.row,dskA,dkL]at c7 c8
   refine⟨[(1000,800),(1001,801),(1002,802),(1003,803),(1004,804),(1005,805),(1006,806),(1007,807),(1008,808)],⟨by simp[cmL],by simp,by simp,by simp[cmL],by simp⟩,?_⟩
   simp only[qae]
   simp -implicitDefEqProofs [cmL,cmR]
   refine qab [(1000,.whole 800),(1001,.whole 801),(1002,.whole 802),(1003,.whole 803),(1004,.whole 804),(1005,.whole 805),(1006,.whole 806),(1007,.whole 807),(1008,.whole 808)] (by kernel_rfl) c6 (by simp) (by simp) (by simp[cmL,cmR];exact⟨.inr ⟨_,_,rfl,rfl,by simp⟩,qaa rfl (qam _),qaa rfl (qam _),qaa rfl (clR_lt _),qaa rfl (qak _),qaa rfl (qbh _),qaa rfl (qbd _),qaa rfl (qan _),qaa rfl (qan _)⟩) (by simp[cmL]) (by simp) ?_
   rintro r L' (⟨h1,rfl,c',j,rfl⟩ | ⟨h1,rfl,D,c',j,i3,i7,h3,h7,rfl,hq⟩)
   ·simp only at h1
    rw[if_pos (.inr h1)]at hR
    subst hR
    refine⟨[(903,813),(906,816),(911,821),(912,822),(913,823)],⟨by simp[cmO],by simp,by simp,by simp[cmO],by simp⟩,?_⟩
    simp only[qae]
    by_cases q:stage≤0
    all_goals
     simp -implicitDefEqProofs [cmO,cmT,dskA,q]
     refine qay [] (by kernel_rfl) c7 (by simp[vwOk,mtA,strOb,ltOb,qap,qaf,LT.row,qad]) (by simp) trivial (by simp) (by simp) ?_
     rintro r L' ⟨rfl,rfl⟩
     refine⟨by simp[noL],by simp[strOb,qaf,ltOb,LT.row],[(901,901),(902,902),(903,903)],⟨by simp,by simp,by simp,by simp,by simp⟩,?_⟩
     simp only[qae]
     simp -implicitDefEqProofs
     exact⟨dkL (dFallB bd fate),by simp[dkL,obOf],.inr ⟨rfl,rfl⟩⟩
   ·simp only at h1
    subst h1
    simp only[List.mem_cons,List.not_mem_nil,or_false]at h3 h7
    subst h3
    subst h7
    refine⟨[(903,813),(906,816),(907,817),(911,821),(912,822),(913,823),(921,831),(922,832),(923,833)],⟨by simp[cmO,lastL],by simp,by simp,by simp[cmO,lastL],by simp⟩,?_⟩
    simp only[qae]
    by_cases q:stage≤0
    ·rw[if_pos (.inl q)]at hR
     subst hR
     simp -implicitDefEqProofs [cmO,cmT,lastL,dskA,q]
     refine qay [] (by kernel_rfl) c7 (by simp[vwOk,mtA,strOb,ltOb,qap,qaf,LT.row,qad]) (by simp) trivial (by simp) (by simp) ?_
     rintro r L' ⟨rfl,rfl⟩
     refine⟨by simp[noL],by simp[strOb,qaf,ltOb,LT.row],[(901,901),(902,902),(903,903)],⟨by simp,by simp,by simp,by simp,by simp⟩,?_⟩
     simp only[qae]
     simp -implicitDefEqProofs
     exact⟨dkL (dFallB bd fate),by simp[dkL,obOf],.inr ⟨rfl,rfl⟩⟩
    ·rw[if_neg (by simp;omega)]at hR
     subst hR
     simp -implicitDefEqProofs [cmO,cmT,lastL,dskA,q]
     refine qay [] (by kernel_rfl) c8 (by simp[vwOk,mtA,strOb,ltOb,qap,qaf,LT.row,qad]) (by simp) trivial (by simp) (by simp) ?_
     rintro r L' ⟨rfl,rfl⟩
     refine⟨by simp[noL],by simp[strOb,qaf,ltOb,LT.row],[(901,901),(902,902),(903,903)],⟨by simp,by simp,by simp,by simp,by simp⟩,?_⟩
     simp only[qae]
     simp -implicitDefEqProofs
     exact⟨dkL (dFallB ld fate),by simp[dkL,obOf],.inr ⟨rfl,rfl⟩⟩
theorem iCutN (d:DK) (hd:DkT d) (c:CO) (h:CoT c) (stage:Int) (fate:List Int) (hf:fate.length≤1048576) :
  ACall prog 61 [.agg d.row,.agg c.row,.int .i64 stage,.lst 1 (fate.map qad)] [] (fun r L'=>r=.agg (dskA (cutB d c stage fate) 901 902 903)∧L'=dkL (cutB d c stage fate)):=by
 refine(iCutO d hd c h stage fate hf).canN ?_
 rintro r L' (⟨h1,rfl,rfl⟩ | ⟨rfl,rfl⟩)
 ·rw[h1]
  exact⟨[(901,1),(902,1),(903,3)],[],by simp,by simp,by simp,by simp,_,by simpa using phN_zd,rfl,rfl⟩
 ·refine⟨[],[(901,901),(902,902),(903,903)],by simp[dkL],by simp,by simp,by simp[N0],_,qbq _ _,by simp[dskA],by simp[dkL,obOf,N0]⟩
def fpA (D:DK):List AV:=[.sl 901 0 D.s0.length,.sl 902 0 D.s1.length,.sl 903 0 D.late.length,.int .i64 0,.nils,.nils,.nils,.bool false,.nils,.int .i64 0,.bool false]
theorem iPFallO (p:PO) (hd:DkT p.d) (hc:CoT p.c) (hok:poolOkB p=true) (fate:List Int) (hf:fate.length≤1048576) :
  ACall prog 58 [.agg p.row,.lst 1 (fate.map qad)] [] (fun r L'=>r=.agg (fpA (dFallB p.d fate))∧L'=dkL (dFallB p.d fate)):=by
 have c1:=iPoolOkC p hd hc
 have c2:=iFallN p.d hd fate hf
 simp only[PO.row,DK.row,CO.row,dskA,dkL]at c1 c2
 rw[hok]at c1
 refine acx func58 [] ntmps58 rfl rfl rfl ?_
 simp -implicitDefEqProofs [PO.row,DK.row,CO.row]
 refine c1.call ?_
 simp -implicitDefEqProofs
 refine qab [] (by kernel_rfl) c2 (by simp[qaf,LT.row,qad]) (by simp) trivial (by simp) (by simp) ?_
 rintro r L' ⟨rfl,rfl⟩
 refine⟨[(901,901),(902,902),(903,903)],⟨by simp,by simp,by simp,by simp,by simp⟩,?_⟩
 simp only[qae]
 simp -implicitDefEqProofs
 exact⟨by simp[dkL,obOf],rfl⟩
def pcuQ (R:PO) (r:AV) (L':List (Nat×Ob)):Prop :=
 (R=⟨zDK,zK,false⟩∧r=.agg [.nils,.nils,.nils,.int .i64 0,.nils,.nils,.nils,.bool false,.nils,.int .i64 0,.bool false]∧L'=[]) ∨
 (∃ D,R=⟨D,zK,false⟩∧r=.agg (fpA D)∧L'=dkL D)
theorem poolB_done {p:PO} {op:BO} (h:(poolB p op).2=0):poolOkB p=true∧p.up=true∧(callB p.d p.c op).2.2=0∧(poolB p op).1=⟨(callB p.d p.c op).1,(callB p.d p.c op).2.1,true⟩:=by
 unfold poolB at h ⊢
 split at h
 ·simp at h
 ·rename_i h1
  split at h
  ·simp at h
  ·rename_i h2
   split at h
   ·rename_i h3
    exact absurd h h3
   ·rename_i h3
    rw[if_neg h1,if_neg h2,if_neg h3]
    exact⟨by simpa using h1,by simpa using h2,by omega,rfl⟩
theorem poolB_not {p:PO} {op:BO} (h:(poolB p op).2≠0) (hok:poolOkB p=true):p.up=false∨(callB p.d p.c op).2.2≠0:=by
 unfold poolB at h
 rw[if_neg (by simp[hok])]at h
 split at h
 ·rename_i h2;exact .inl h2
 ·split at h
  ·rename_i h3;exact .inr h3
  ·simp at h
theorem callB_sets {d:DK} {c:CO} {op:BO} (h:(callB d c op).2.2=0) (hk:op.kind≠3):(setsD c op).2=true:=by
 unfold callB at h
 rw[if_neg (by have:=callB_dn h;omega),if_pos hk]at h
 split at h
 ·simp at h
 ·rename_i q;simpa using q
theorem iPoolCutO (p:PO) (hd:DkT p.d) (hc:CoT p.c) (op:BO) (ha:op.a.length≤1048576) (hb:op.b.length≤1048576) (ht:op.text.length≤1048576) (stage:Int) (fate:List Int) (hf:fate.length≤1048576) :
  ACall prog 19 [.agg p.row,.agg op.row,.int .i64 stage,.lst 1 (fate.map qad)] [] (pcuQ (cutPB p op stage fate)):=by
 obtain⟨R,hR⟩:∃ R,cutPB p op stage fate=R:=⟨_,rfl⟩
 rw[hR]
 unfold cutPB at hR
 have c1:=iPoolOkC p hd hc
 have c2:=iPoolCallN p hd hc op ha hb ht
 have c3:=iPOwnO p hd hc
 have hT:=poolB_T hd hc op ha hb
 have hdone:=@poolB_done p op
 have hnot:=@poolB_not p op
 simp only[PO.row,DK.row,CO.row,BO.row,poolA,poolL,List.cons_append,List.nil_append]at c1 c2 c3
 refine acx func19 [] ntmps19 rfl rfl rfl ?_
 simp -implicitDefEqProofs [PO.row,DK.row,CO.row,BO.row]
 refine c1.call ?_
 cases hok:poolOkB p with
 | false =>
  rw[if_pos hok]at hR
  subst hR
  simp -implicitDefEqProofs
  exact⟨[],by simp,.inl ⟨rfl,rfl,rfl⟩⟩
 | true =>
  rw[if_neg (by simp[hok])]at hR
  have c4:=iPFallO p hd hc hok fate hf
  simp only[PO.row,DK.row,CO.row,BO.row,fpA,dkL,List.cons_append,List.nil_append]at c4
  generalize hP:poolB p op=P at *
  obtain⟨q,n⟩:=P
  simp only at hT hdone hnot
  simp -implicitDefEqProofs [PO.row,DK.row,CO.row,BO.row]
  refine qab [] (by kernel_rfl) c2 (by simp[cs_cl,DE.row,PT.row,qad,qaf,LT.row]) (by simp) trivial (by simp) (by simp) ?_
  rintro r L' ⟨rfl,rfl⟩
  refine⟨[(901,801),(902,802),(903,803),(904,804),(905,805),(906,806),(907,807)],⟨by simp,by simp,by simp,by simp,by simp⟩,?_⟩
  simp only[qae]
  by_cases hn:n≠0
  ·rw[if_pos (hnot hn hok)]at hR
   subst hR
   simp -implicitDefEqProofs [hn,PO.row,DK.row,CO.row]
   refine qab [] (by kernel_rfl) c4 (by simp[cs_cl,DE.row,PT.row,qaf,LT.row,qad]) (by simp) trivial (by simp) (by simp) ?_
   rintro r L' ⟨rfl,rfl⟩
   refine⟨[(901,901),(902,902),(903,903)],⟨by simp,by simp,by simp,by simp,by simp⟩,?_⟩
   simp only[qae]
   simp -implicitDefEqProofs
   exact⟨dkL (dFallB p.d fate),by simp[dkL,obOf],.inr ⟨_,rfl,rfl,rfl⟩⟩
  ·have hn0:n=0:=by omega
   subst hn0
   obtain⟨_,hu,hz,hq⟩:=hdone rfl
   rw[if_neg (by simp[hu,hz])]at hR
   subst hR
   have hok2:=hok
   simp only[poolOkB,Bool.and_eq_true,decide_eq_true_eq]at hok2
   obtain⟨hm,k1,k2,k3,k4,k5,k6,k7⟩:=qcc hok2.2
   obtain⟨g1,g2,g3,g4⟩:=dnB_done (callB_dn hz)
   obtain⟨T,hTe⟩:∃ T,cutLB p.d p.c op stage fate=T:=⟨_,rfl⟩
   rw[hTe]
   unfold cutLB at hTe
   by_cases q3:op.kind=3
   ·by_cases ql:p.c.logn<8
    ·rw[if_pos ⟨q3,ql⟩]at hTe
     have c5:=iFallN q.d hT.1 fate hf
     rw[show q.d=(callB p.d p.c op).1 by rw[hq]]at c5
     rw[hTe]at c5
     rw[show(callB p.d p.c op).1=q.d by rw[hq]]at c5
     simp only[DK.row,dskA,dkL]at c5
     simp -implicitDefEqProofs [q3,ql,PO.row,DK.row,CO.row]
     refine qay [] (by kernel_rfl) c5 (by simp[vwOk,mtA,strOb,ltOb,qap,qaf,LT.row,qad]) (by simp) trivial (by simp) (by simp) ?_
     rintro r L' ⟨rfl,rfl⟩
     refine⟨by simp[noL],by simp[strOb,qaf,ltOb,LT.row],[(901,901),(902,902),(903,903)],⟨by simp,by simp,by simp,by simp,by simp⟩,?_⟩
     simp only[qae]
     simp -implicitDefEqProofs
     exact⟨dkL T,by simp[dkL,obOf],.inr ⟨_,rfl,rfl,rfl⟩⟩
    ·rw[if_neg (by simp[ql]),if_pos q3]at hTe
     have c5:=iCutN p.d hd p.c hc stage fate hf
     have e:cutB p.d p.c stage fate=T:=by
      unfold cutB
      rw[if_neg (by simp[hok2]),hTe]
     rw[e]at c5
     simp only[DK.row,CO.row,dskA,dkL]at c5
     simp -implicitDefEqProofs [q3,ql,PO.row,DK.row,CO.row]
     refine qab [] (by kernel_rfl) c3 (by simp[cs_cl,DE.row,PT.row,qaf,LT.row,qad]) (by simp) trivial (by simp) (by simp) ?_
     rintro r L' ⟨rfl,rfl⟩
     refine⟨[(901,811),(902,812),(903,813),(904,814),(905,815),(906,816),(907,817)],⟨by simp,by simp,by simp,by simp,by simp⟩,?_⟩
     simp only[qae]
     simp -implicitDefEqProofs [q3,ql]
     refine qay [] (by kernel_rfl) c5 (by simp[vwOk,mtA,strOb,ltOb,kcs,deOb,kpt,kin,qap,cs_cl,qaf,LT.row]) (by simp) trivial (by simp) (by simp) ?_
     rintro r L' ⟨rfl,rfl⟩
     refine⟨by simp[noL],by simp[strOb,qaf,ltOb,LT.row],[(901,901),(902,902),(903,903)],⟨by simp,by simp,by simp,by simp,by simp⟩,?_⟩
     simp only[qae]
     simp -implicitDefEqProofs
     exact⟨dkL T,by simp[dkL,obOf],.inr ⟨_,rfl,rfl,rfl⟩⟩
   ·rw[if_neg (by simp[q3]),if_neg q3,if_neg (by simp[callB_sets hz q3])]at hTe
    have hpp:∀ s∈p.c.sets,∀ x∈s.map,0≤x.pa∧x.pa≤1000:=fun s hs x hx=>by
     have:=cs_pt (core_set hok2.2 hs) hx;omega
    have cc:=iChangeO p.c hm hc.m8 (core_srt hok2.2) (core_ddt hok2.2) hpp op (by omega) g2 g3
    have hxT:=setsD_T hc hm op ha hb
    have hxo:=callB_sets hz q3
    generalize setsD p.c op=X at *
    obtain⟨x,xo⟩:=X
    simp only at hxT hTe hxo
    subst hxo
    have c5:=iCutN p.d hd x hxT stage fate hf
    rw[hTe]at c5
    simp only[DK.row,CO.row,dskA,dkL]at c5
    simp only[BO.row]at cc
    simp -implicitDefEqProofs [q3,PO.row,DK.row,CO.row]
    refine qab [] (by kernel_rfl) c3 (by simp[cs_cl,DE.row,PT.row,qaf,LT.row,qad]) (by simp) trivial (by simp) (by simp) ?_
    rintro r L' ⟨rfl,rfl⟩
    refine⟨[(901,811),(902,812),(903,813),(904,814),(905,815),(906,816),(907,817)],⟨by simp,by simp,by simp,by simp,by simp⟩,?_⟩
    simp only[qae]
    simp -implicitDefEqProofs [q3,BO.row]
    refine qab [(1000,.sub 11 0 3 7),(1001,.whole 814),(1002,.whole 815),(1003,.whole 816),(1004,.whole 817)] (by kernel_rfl) cc (by simp) (by simp) (by simp[kobL];exact⟨⟨_,_,rfl,rfl,by simp,by simp,rfl,rfl,by simp⟩,qaa rfl (qak _),qaa rfl (qbh _),qaa rfl (qbd _),qaa rfl (qan _)⟩) (by simp[kobL]) (by simp) ?_
    rintro r L' ⟨c',i1,i2,h1,h2,rfl,rfl,hq⟩
    simp only[List.mem_cons,List.not_mem_nil,or_false]at h1 h2
    subst h1 h2
    have hcx:=hq rfl
    simp only at hcx
    subst hcx
    refine⟨[(901,931),(902,932)],⟨by simp[kobL],by simp,by simp,by simp[kobL],by simp[kobL]⟩,?_⟩
    simp only[qae]
    simp -implicitDefEqProofs [kobL]
    refine qay [] (by kernel_rfl) c5 (by simp[vwOk,mtA,strOb,ltOb,kcs,deOb,kpt,kin,qap,cs_cl,qaf,LT.row]) (by simp) trivial (by simp) (by simp) ?_
    rintro r L' ⟨rfl,rfl⟩
    refine⟨by simp[noL],by simp[strOb,qaf,ltOb,LT.row],[(901,901),(902,902),(903,903)],⟨by simp,by simp,by simp,by simp,by simp⟩,?_⟩
    simp only[qae]
    simp -implicitDefEqProofs
    exact⟨dkL T,by simp[dkL,obOf],.inr ⟨_,rfl,rfl,rfl⟩⟩
theorem cutKB_T (d:DK) (c:CO) (stage:Int) (fate:List Int):DkT (cutKB d c stage fate):=by
 unfold cutKB
 split
 ·exact fall_T _ _
 ·split
  ·exact fall_T _ _
  ·exact fall_T _ _
theorem cutB_T (d:DK) (c:CO) (stage:Int) (fate:List Int):DkT (cutB d c stage fate):=by
 unfold cutB
 split
 ·exact zDK_T
 ·exact cutKB_T _ _ _ _
theorem cutPB_T (p:PO) (op:BO) (stage:Int) (fate:List Int):DkT (cutPB p op stage fate).d∧CoT (cutPB p op stage fate).c:=by
 unfold cutPB
 split
 ·exact⟨zDK_T,zK_T⟩
 ·split
  ·exact⟨fall_T _ _,zK_T⟩
  ·refine⟨?_,zK_T⟩
   show DkT (cutLB p.d p.c op stage fate)
   unfold cutLB
   split
   ·exact fall_T _ _
   ·split
    ·exact cutKB_T _ _ _ _
    ·split
     ·exact fall_T _ _
     ·exact cutB_T _ _ _ _
theorem phN_zq:phsN poN (.agg [.nils,.nils,.nils,.int .i64 0,.nils,.nils,.nils,.bool false,.nils,.int .i64 0,.bool false]) (.agg (poolA ⟨zDK,zK,false⟩ 901 902 903 904 905 906 907)) :=
 phsN_agg (.cons (qbv 901) (.cons (qbv 902) (.cons (qbv 903) (.cons (qbq _ _) (.cons (qbv 904) (.cons (qbv 905) (.cons (qbv 906) (.cons (qbq _ _) (.cons (qbv 907) (.cons (qbq _ _) (.cons (qbq _ _) .nil)))))))))))
def qoN:List (Nat×Nat):=[(904,31),(905,3),(906,3),(907,1)]
theorem phN_fp (D:DK):phsN qoN (.agg (fpA D)) (.agg (poolA ⟨D,zK,false⟩ 901 902 903 904 905 906 907)) :=
 phsN_agg (.cons (qbq _ _) (.cons (qbq _ _) (.cons (qbq _ _) (.cons (qbq _ _) (.cons (qbv 904) (.cons (qbv 905) (.cons (qbv 906) (.cons (qbq _ _) (.cons (qbv 907) (.cons (qbq _ _) (.cons (qbq _ _) .nil)))))))))))
theorem iPoolCutN (p:PO) (hd:DkT p.d) (hc:CoT p.c) (op:BO) (ha:op.a.length≤1048576) (hb:op.b.length≤1048576) (ht:op.text.length≤1048576) (stage:Int) (fate:List Int) (hf:fate.length≤1048576) :
  ACall prog 19 [.agg p.row,.agg op.row,.int .i64 stage,.lst 1 (fate.map qad)] [] (fun r L'=>r=.agg (poolA (cutPB p op stage fate) 901 902 903 904 905 906 907)∧L'=poolL (cutPB p op stage fate) 901 902 903 904 905 906 907):=by
 refine(iPoolCutO p hd hc op ha hb ht stage fate hf).canN ?_
 rintro r L' (⟨h1,rfl,rfl⟩ | ⟨D,h1,rfl,rfl⟩)
 ·rw[h1]
  exact⟨poN,[],by simp,by simp,by simp,by simp,_,by simpa using phN_zq,rfl,rfl⟩
 ·rw[h1]
  refine⟨qoN,[(901,901),(902,902),(903,903)],by simp[dkL],by simp,by simp,by simp[N0,qoN],_,?_,rfl,?_⟩
  ·have:ren (rho [(901,901),(902,902),(903,903)]) (.agg (fpA D))=.agg (fpA D):=by simp[fpA]
   rw[this]
   exact phN_fp D
  ·simp[dkL,obOf,N0,qoN,poolL,kcs,deOb,kpt,kin,zK]
theorem iPoolCutC (p:PO) (hd:DkT p.d) (hc:CoT p.c) (op:BO) (ha:op.a.length≤1048576) (hb:op.b.length≤1048576) (ht:op.text.length≤1048576) (stage:Int) (fate:List Int) (hf:fate.length≤1048576) :
  CV prog 19 [.agg p.row,.agg op.row,.int .i64 stage,.lst 1 (fate.map qad)] (.agg (cutPB p op stage fate).row):=by
 refine CV.of_frz (iPoolCutN p hd hc op ha hb ht stage fate hf) ?_ (hca:=by simp[PO.row,DK.row,co_cl,BO.row,qad]) (hcv:=by simp[PO.row,DK.row,co_cl])
 rintro r L' ⟨rfl,rfl⟩
 generalize cutPB p op stage fate=R
 refine⟨by simp[poolL],by simp[poolL],fun x hx=>?_,?_⟩
 ·simp only[poolL,List.mem_cons,List.not_mem_nil,or_false]at hx
  rcases hx with rfl | rfl | rfl | rfl | rfl | rfl | rfl
  ·exact qam _
  ·exact qam _
  ·exact clR_lt _
  ·exact qak _
  ·exact qbh _
  ·exact qbd _
  ·exact qan _
 simp[frzAll,poolA,poolL,PO.row,DK.row,CO.row,strOb,ltOb,kcs,deOb,kpt,kin,qap]
theorem toInC (l:List Int) (hl:l.length≤1048576):CV prog 18 [.lst 1 (l.map qad)] (.lst 1 (l.map qad)):=by
 refine CV.of_frz (toIntSC l hl) ?_ (hca:=by simp[qad]) (hcv:=by simp[qad])
 rintro r L' ⟨rfl,rfl⟩
 refine⟨by simp,by simp,by simp[clR,qad],?_⟩
 simp[frzAll,qap]
theorem lawPoolCut (p:PO) (o:BO) (stage:Int) (fate:List Int) (hd:DkG p.d) (hc:CoG p.c) (ho:BoW o) (hfm:fate.length≤maxLen) :
  CV prog 5 [.agg p.row,.agg (BO.row o),.int .i64 stage,.lst 1 (fate.map qad)] (.bool true):=by
 have c0:=szPoolC p hd hc
 simp only[PO.row,DK.row,CO.row,List.cons_append,List.nil_append]at c0
 refine cvx func5 [(10,[zJ 0 [4] [],zJ 2 [5] [4],zJ 4 [] [4,5],zJ 5 [] [4,5],⟨1,[],[5],[8],[]⟩,⟨3,[],[],[8],[]⟩,⟨6,[],[],[8],[]⟩,⟨7,[],[],[8],[]⟩,zJ 8 [] [4,5],zI 9]),(13,[zJ 0 [11] [],zJ 1 [5] [11],zJ 3 [] [11,5],zJ 4 [] [11,5],⟨2,[],[11],[6],[]⟩,⟨5,[],[],[6],[]⟩,zJ 6 [] [11,5],zI 7]),(16,[zJ 0 [11] [],zJ 1 [4] [11],zJ 2 [] [11],zI 3,zI 4]),(33,[zJ 0 [4] [],zJ 2 [5] [4],zJ 4 [] [4,5],zJ 5 [] [4,5],⟨1,[],[5],[8],[]⟩,⟨3,[],[],[8],[]⟩,⟨6,[],[],[8],[]⟩,⟨7,[],[],[8],[]⟩,zJ 8 [] [4,5],zI 9])] ntmps5 rfl rfl rfl ?_ (hca:=by simp[PO.row,DK.row,co_cl,BO.row,qad])
 simp -implicitDefEqProofs [PO.row,DK.row,CO.row,BO.row]
 by_cases hf1:1048576<fate.length
 ·simp -implicitDefEqProofs [hf1,show(1048576:Int)<fate.length by omega,show ¬ (fate.length:Int)≤1048576 by omega]
 have hf:fate.length≤1048576:=by omega
 simp -implicitDefEqProofs [hf1,show ¬ (1048576:Int)<fate.length by omega,show(fate.length:Int)≤1048576 by omega]
 refine callA_ex (by kernel_rfl) c0 (by simp[cs_cl,DE.row,PT.row,qad,qaf,LT.row]) ?_
 rintro r ⟨z,rfl,z1,z2,z3⟩
 by_cases hz:z<0
 ·simp -implicitDefEqProofs [hz]
 obtain⟨zd,zc⟩:=z3 (by omega)
 have hdT:=dkT_of zd
 have hcT:=coT_of2 hc zc
 simp -implicitDefEqProofs [hz]
 obtain⟨y,hy1,hy3,hy2⟩:=szOpTC o z ⟨by omega,by omega⟩ ho.1 ho.2.1 ho.2.2
 simp only[BO.row]at hy2
 refine hy2.call ?_
 by_cases g0:y<0
 ·simp -implicitDefEqProofs [g0]
 obtain⟨⟨ha,hb⟩,ht⟩:=hy1 (by omega)
 have c1:=toPoC p hdT hcT
 have c2:=toOpC o
 have c3:=sPoolCutC p hdT hcT o ha hb ht stage fate hf
 have c4:=iPoolCutC p hdT hcT o ha hb ht stage fate hf
 have c5:=toPoO p hdT hcT
 have c6:=iPoolCutN p hdT hcT o ha hb ht stage fate hf
 obtain⟨qd,qc⟩:=cutPB_T p o stage fate
 generalize cutPB p o stage fate=q at *
 have c7:=eqPoR q qd qc
 have c8:=eqPoR p hdT hcT
 have c9:=markPoC p 1 hdT hcT (by omega)
 have c10:=markPoC q 1 qd qc (by omega)
 have c11:=heldPoC q 1 qd qc (by omega)
 have c12:=toInC fate hf
 have c13:=toIntSC fate hf
 have c14:=cv_of (eqIntSC fate hf) (hca:=by simp[qad])
 have hwp:wP p≤19922944:=by
  have:=wD_le hdT
  have:=wC_le hcT
  unfold wP
  omega
 have c15:=markInC fate fate.length (1+wP p) rfl (by omega) (by omega)
 simp only[PO.row,DK.row,CO.row,BO.row,poolA,poolL,List.cons_append,List.nil_append,Nat.one_mul,Int.natCast_add,Int.cast_ofNat_Int,Int.natCast_one]at c1 c2 c3 c4 c5 c6 c7 c8 c9 c10 c11 c15
 simp -implicitDefEqProofs [g0,PO.row,DK.row,CO.row,BO.row]
 refine c1.call ?_
 simp -implicitDefEqProofs
 refine c2.call ?_
 simp -implicitDefEqProofs
 refine c12.call ?_
 simp -implicitDefEqProofs
 refine c3.call ?_
 simp -implicitDefEqProofs
 refine qab [] (by kernel_rfl) c5 (by simp[cs_cl,DE.row,PT.row,qad,qaf,LT.row]) (by simp) trivial (by simp) (by simp) ?_
 rintro r L' ⟨rfl,rfl⟩
 refine⟨[(901,901),(902,902),(903,903),(904,904),(905,905),(906,906),(907,907)],⟨by simp,by simp,by simp,by simp,by simp⟩,?_⟩
 simp only[qae]
 simp -implicitDefEqProofs
 refine qab [] (by kernel_rfl) c13 (by simp[cs_cl,DE.row,PT.row,qad,qaf,LT.row]) (by simp) trivial (by simp) (by simp) ?_
 rintro r L' ⟨rfl,rfl⟩
 refine⟨[(7,970)],⟨by simp,by simp,by simp,by simp,by simp⟩,?_⟩
 simp only[qae]
 simp -implicitDefEqProofs
 refine c2.call ?_
 simp -implicitDefEqProofs
 refine qay [] (by kernel_rfl) c6 (by simp[vwOk,mtA,strOb,ltOb,kcs,deOb,kpt,kin,qap,cs_cl,qaf,LT.row,qad]) (by simp) trivial (by simp) (by simp) ?_
 rintro r L' ⟨rfl,rfl⟩
 refine⟨by simp[noL],by simp[strOb,ltOb,kcs,deOb,kpt,kin,qad,DE.row,PT.row,noL_cs,qaf,LT.row],[(901,911),(902,912),(903,913),(904,914),(905,915),(906,916),(907,917)],⟨by simp,by simp,by simp,by simp,by simp⟩,?_⟩
 simp only[qae]
 simp -implicitDefEqProofs
 refine c7.view (by simp[vwOk,mtA,strOb,ltOb,kcs,deOb,kpt,kin,qap,cs_cl,qaf,LT.row,qad]) ?_
 simp -implicitDefEqProofs
 refine c1.call ?_
 simp -implicitDefEqProofs
 refine c8.view (by simp[vwOk,mtA,strOb,ltOb,kcs,deOb,kpt,kin,qap,cs_cl,qaf,LT.row,qad]) ?_
 simp -implicitDefEqProofs
 refine c12.call ?_
 simp -implicitDefEqProofs
 refine c14.view (by simp[vwOk,mtA,strOb,ltOb,kcs,deOb,kpt,kin,qap,cs_cl,qaf,LT.row,qad]) ?_
 simp -implicitDefEqProofs
 refine qab [(1000,.whole 901),(1001,.whole 902),(1002,.whole 903),(1003,.whole 904),(1004,.whole 905),(1005,.whole 906),(1006,.whole 907)] (by kernel_rfl) c9 (by simp) (by simp) ⟨⟨strOb p.d.s0,by simp,rfl,qaa rfl (qam _)⟩,⟨strOb p.d.s1,by simp,rfl,qaa rfl (qam _)⟩,⟨ltOb p.d.late,by simp,rfl,qaa rfl (clR_lt _)⟩,⟨kcs p.c.sets,by simp,rfl,qaa rfl (qak _)⟩,⟨deOb p.c.ddt,by simp,rfl,qaa rfl (qbh _)⟩,⟨kpt p.c.parts,by simp,rfl,qaa rfl (qbd _)⟩,⟨kin p.c.safe,by simp,rfl,qaa rfl (qan _)⟩,trivial⟩ (by simp) (by simp) ?_
 rintro r L' ⟨rfl,rfl⟩
 refine⟨[],⟨by simp,by simp,by simp,by simp,by simp⟩,?_⟩
 simp only[qae]
 have hw1:¬ (1+(wP p:Int)+fate.length)<0:=by omega
 have hw2:¬ (1+(wP q:Int))<0:=by omega
 simp -implicitDefEqProofs
 refine qab [(1000,.whole 970)] (by kernel_rfl) c15 (by simp) (by simp) ⟨⟨kin fate,by simp[kin],rfl,qaa rfl (qan _)⟩,trivial⟩ (by simp) (by simp) ?_
 rintro r L' ⟨rfl,rfl⟩
 refine⟨[],⟨by simp,by simp,by simp,by simp,by simp⟩,?_⟩
 simp only[qae]
 simp -implicitDefEqProofs [hw1]
 refine c7.view (by simp[vwOk,mtA,strOb,ltOb,kcs,deOb,kpt,kin,qap,cs_cl,qaf,LT.row,qad]) ?_
 simp -implicitDefEqProofs
 refine qab [(1000,.whole 911),(1001,.whole 912),(1002,.whole 913),(1003,.whole 914),(1004,.whole 915),(1005,.whole 916),(1006,.whole 917)] (by kernel_rfl) c10 (by simp) (by simp) ⟨⟨strOb q.d.s0,by simp,rfl,qaa rfl (qam _)⟩,⟨strOb q.d.s1,by simp,rfl,qaa rfl (qam _)⟩,⟨ltOb q.d.late,by simp,rfl,qaa rfl (clR_lt _)⟩,⟨kcs q.c.sets,by simp,rfl,qaa rfl (qak _)⟩,⟨deOb q.c.ddt,by simp,rfl,qaa rfl (qbh _)⟩,⟨kpt q.c.parts,by simp,rfl,qaa rfl (qbd _)⟩,⟨kin q.c.safe,by simp,rfl,qaa rfl (qan _)⟩,trivial⟩ (by simp) (by simp) ?_
 rintro r L' ⟨rfl,rfl⟩
 refine⟨[],⟨by simp,by simp,by simp,by simp,by simp⟩,?_⟩
 simp only[qae]
 simp -implicitDefEqProofs
 have m0:(mkP q 1).d.s0.length=q.d.s0.length:=mkG_len _ _ _ _
 have m1:(mkP q 1).d.s1.length=q.d.s1.length:=mkG_len _ _ _ _
 have m2:(mkP q 1).d.late.length=q.d.late.length:=mkG_len _ _ _ _
 have m3:(mkP q 1).c.sets.length=q.c.sets.length:=mkCsL_len _ _
 have m4:(mkP q 1).c.ddt.length=q.c.ddt.length:=mkG_len _ _ _ _
 have m5:(mkP q 1).c.parts.length=q.c.parts.length:=mkG_len _ _ _ _
 have m6:(mkP q 1).c.safe.length=q.c.safe.length:=mkG_len _ _ _ _
 have m7:(mkP q 1).c.txg=q.c.txg∧(mkP q 1).c.dirty=q.c.dirty∧(mkP q 1).c.logn=q.c.logn∧(mkP q 1).up=q.up:=⟨rfl,rfl,rfl,rfl⟩
 obtain⟨m7,m8,m9,m10⟩:=m7
 simp only[m7,m8,m9,m10]at c11
 generalize mkP q 1=Q at *
 simp only[← m0,← m1,← m2,← m3,← m4,← m5,← m6]
 refine c11.view (by simp[vwOk,mtA,strOb,ltOb,kcs,deOb,kpt,kin,qap,cs_cl,qaf,LT.row,qad]) ?_
 simp -implicitDefEqProofs [hw2]
 refine c1.call ?_
 simp -implicitDefEqProofs
 refine c2.call ?_
 simp -implicitDefEqProofs
 refine c12.call ?_
 simp -implicitDefEqProofs
 refine c4.call ?_
 simp -implicitDefEqProofs
 refine c7.call ?_
 simp -implicitDefEqProofs
 refine c11.view (by simp[vwOk,mtA,strOb,ltOb,kcs,deOb,kpt,kin,qap,cs_cl,qaf,LT.row,qad]) ?_
 simp -implicitDefEqProofs [hw2]
theorem lawPoolCut' (p:PO) (o:BO) (stage:Int) (fate:List Int) (hp:PoG p) (ho:BoW o) (hf:fate.length≤maxLen):CV prog 5 [.agg p.row,.agg o.row,.int .i64 stage,.lst 1 (fate.map qad)] (.bool true):=lawPoolCut p o stage fate hp.d hp.c ho hf
end Go.Av.F
end
section
namespace Go.Av.F
open Go Go.Av Go.Proofs Go.Proofs.Tryz Go.RowKit Go.ChangeShapes Go.WideShapes Go.ChangeAt
variable {H:Type} {enc:TypeId×Value→H} {w:World} {base:Nat} {spare:Nat→Bool} {held:Bool}
theorem trodAll_four {P:Program} {t t' t'' t3:TypeId} {args:Array Value} {ds:List (DataW H)} {ps:List MemPlace} (h:DataW.TrodAll enc P w base spare held [t,t',t'',t3] args.toList ds ps) :
  ∃ v v' v'' v3 d d' d'' d3 p p' p'' p3,args=#[v,v',v'',v3]∧ds=[d,d',d'',d3]∧ps=p++(p'++(p''++p3))∧DataW.Trod enc P w base spare held t v d p∧DataW.Trod enc P w base spare held t' v' d' p'∧DataW.Trod enc P w base spare held t'' v'' d'' p''∧DataW.Trod enc P w base spare held t3 v3 d3 p3:=by
 obtain⟨v,vs,d,ds',p,q,hargs,rfl,rfl,hd,hrest⟩:=trodAll_cons h
 obtain⟨v',vs',d',ds'',p',q',rfl,rfl,rfl,hd',hrest'⟩:=trodAll_cons hrest
 obtain⟨v'',vs'',d'',ds''',p'',q'',rfl,rfl,rfl,hd'',hrest''⟩:=trodAll_cons hrest'
 obtain⟨v3,vs3,d3,ds3,p3,q3,rfl,rfl,rfl,hd3,hrest3⟩:=trodAll_cons hrest''
 obtain⟨rfl,rfl,rfl⟩:=trodAll_nil hrest3
 exact⟨v,v',v'',v3,d,d',d'',d3,p,p',p'',p3,by cases args;simp_all,rfl,by simp,hd,hd',hd'',hd3⟩
theorem trodAll_mk4 {P:Program} {t t' t'' t3:TypeId} {v v' v'' v3:Value} {d d' d'' d3:DataW H} {p p' p'' p3:List MemPlace} (h:DataW.Trod enc P w base spare held t v d p) (h':DataW.Trod enc P w base spare held t' v' d' p')
  (h'':DataW.Trod enc P w base spare held t'' v'' d'' p'') (h3:DataW.Trod enc P w base spare held t3 v3 d3 p3):DataW.TrodAll enc P w base spare held [t,t',t'',t3] [v,v',v'',v3] [d,d',d'',d3] (p++(p'++(p''++p3))):=⟨p,p'++(p''++p3),h,trodAll_mk3 h' h'' h3,rfl⟩
theorem open_ints {r:Reach} {b0:Nat} {v:Value} {d:DataW H} {ps:List MemPlace} (hv:Value.okWide prog w r b0 30 v) (hd:DataW.Trod enc prog w 0 spare held 30 v d ps) :
  ∃ l:List Int,l.length≤maxLen∧AVRel w (Old w) noG (.lst 1 (l.map qad)) v:=by
 obtain⟨x,len,cap,rfl⟩:=okWide_slice underlying30 hv
 obtain⟨a,hr,hs⟩:=open_one (n:=2) rfl (by kernel_rfl) hd
 obtain⟨e,m,e1,k⟩:=shp_slice underlying30 hs
 injection e1 with e1
 subst e1
 obtain⟨l,rfl,g⟩:=rows_ex qad i64G e fun r hr=>shp_i64 (k r hr)
 have c1:prog.cellsOf 3=1:=by kernel_rfl
 rw[c1]at hr
 exact⟨l,by simpa using m,hr⟩
end Go.Av.F
end
section
namespace Go.Av
open Go.RowKit Go.ChangeShapes Go.WideShapes Go.ChangeAt
variable {P:Program} {W:World}
theorem laid_at {n:String} {d:DataW Unit}:∀ {laid:List (String×DataW Unit)} {ps:List MemPlace},DataW.LaidVars P W laid ps→(n,d)∈laid →
  ∃ g t cs fuel p,P.globalNamed n=some g∧(P.globals[g]?).map (·.type)=some t∧W.var? P n=some cs∧DataW.trod (fun _=>()) P W 0 (fun _=>true) false fuel t cs.toList=some (d,p)
 | [],ps,_,hm=>by simp at hm
 | (m,e)::r,ps,h,hm=>by
  obtain⟨g,t,cs,fuel,p,q,h1,h2,h3,h4,h5,_⟩:=h
  rcases List.mem_cons.1 hm with hm | hm
  ·injection hm with e1 e2
   subst e1;subst e2
   exact⟨g,t,cs,fuel,p,h1,h2,h3,h4⟩
  ·exact laid_at h5 hm
theorem var_gl {n:String} {g:Nat} {cs:Array Value} (hg:P.globalNamed n=some g) (hv:W.var? P n=some cs) (avs:List AV) (hl:avs.length=cs.size) (hne:avs≠[]) (hr:∀ j,j<avs.length→AVRel W (Old W) noG (avs.getD j .top) (cs.getD j undef)) :
  AVRel W (Old W) noG (.elm avs) (.pointer (some ⟨g,0,none⟩))∧Old W ⟨g,avs.length,none⟩∧W.cell? ⟨g,avs.length,none⟩=none:=by
 have hc:=fun i=>World.var?_cell hg hv i
 have h0:0<cs.size:=by rw[← hl];exact List.length_pos_iff.2 hne
 have hcell:∀ j,j<avs.length→W.cell? ⟨g,j,none⟩=some (cs.getD j undef):=fun j hj=>by
  rw[hc,Array.getElem?_eq_getElem (by omega)]
  simp[Array.getD,show j<cs.size by omega]
 have hb:g<W.heap.size:=World.block_lt_of_cell? W _ (hcell 0 (by omega))
 refine⟨.elm _ avs _ (fun j=>cs.getD j undef) rfl (fun j hj=>hb) (fun j hj=>?_) hr,hb,?_⟩
 ·simpa [Addr.at]using hcell j hj
 ·rw[hc,Array.getElem?_eq_none (by omega)]
theorem laid_tab {laid:List (String×DataW Unit)} (h:laidMet P laid W) {n:String} {g:Nat} {zs:List Int} {k:IntKind} {t e:TypeId} {m:Nat} (hm:(n,(Lib.tabData k zs:DataW Unit))∈laid) (hg:P.globalNamed n=some g) (hty:(P.globals[g]?).map (·.type)=some t)
  (ht:P.underlying t=some (.array m e)) (he:P.underlying e=some (.int k)) (hce:P.cellsOf e=1) (hct:P.cellsOf t=m) (hne:zs≠[]) :
  AVRel W (Old W) noG (.elm (zs.map (AV.int k))) (.pointer (some ⟨g,0,none⟩))∧Old W ⟨g,(zs.map (AV.int k)).length,none⟩∧W.cell? ⟨g,(zs.map (AV.int k)).length,none⟩=none:=by
 obtain⟨ps,hL,_⟩:=h
 obtain⟨g',t',cs,fuel,p,h1,h2,h3,h4⟩:=laid_at hL hm
 obtain rfl:=Option.some.inj (hg.symm.trans h1)
 obtain rfl:=Option.some.inj (hty.symm.trans h2)
 have hcs:=Lib.cells_of_tab ht he hce hct h4
 have hcs2:cs=(zs.map fun z=>Value.int k z).toArray:=by rw[← hcs]
 subst hcs2
 refine var_gl hg h3 _ (by simp) (by simpa using hne) fun j hj=>?_
 simp only[List.length_map]at hj
 simp[List.getD,Array.getD,hj]
 exact .int _ _ _
end Go.Av
end
