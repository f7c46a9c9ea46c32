/- Lemmas for the proof, no statement of the seat; no conditions. -/
import Derived.Test.YtcbjbdnmhlhijaaGreatDoorLayAV
import Derived.Lib.LaidTab
import Derived.FnData
import Derived.Test.YtcbjbdnmhlhijaaGreatDoorRows
import Derived.Test.YtcbjbdnmhlhijaaGreatDoorCards
import Derived.ProofKit
import Derived.OpenShut
import Derived.LaidMore
import Derived.Lay
import Derived.SevenTiedAt
import Derived.Stop.Joined
set_option linter.unusedSimpArgs false
set_option linter.unusedVariables false
set_option linter.unnecessarySimpa false
section
namespace Go.Av.F
open Go Go.Av Go.Proofs Go.Proofs.Tryz
set_option maxRecDepth 100000
def szLs (l:List (List UInt8)) (left:Int):Int:=if left - l.length < 0 then -1 else szSs l (left - l.length)
theorem szLs_le (l:List (List UInt8)) {left:Int} (h:0 ≤ left):szLs l left ≤ left ∧ -1 ≤ szLs l left ∧ (0 ≤ szLs l left → (l.length:Int) ≤ left ∧ ∀ t ∈ l,(t.length:Int) ≤ left):=by
 unfold szLs
 split
 ·exact ⟨by omega,by omega,fun h'=>by omega⟩
 ·obtain ⟨h1,h2,h3⟩:=szSs_le l (left - l.length) (by omega)
  exact ⟨by omega,h2,fun h'=>⟨by omega,fun t ht=>by have:=h3 h' t ht;omega⟩⟩
theorem szStrC (l:List (List UInt8)) (left:Int) (hl:l.length ≤ maxLen) (hm:∀ t ∈ l,t.length ≤ maxLen) (h0:0 ≤ left ∧ left ≤ 1048576):CV prog 140 [.lst 1 (l.map strRow),.int .i64 left] (.int .i64 (szLs l left)):=by
 obtain ⟨R,hR⟩:∃ R,szLs l left=R:=⟨_,rfl⟩
 rw [hR]
 unfold szLs at hR
 have hml:maxLen=9223372036854775807:=rfl
 have e0:=i64w (left - (l.length:Int)) (by omega) (by omega)
 refine cvx func140 [] ntmps140 rfl rfl rfl ?_ (hca:=by simp [strRow])
 by_cases hn:left - (l.length:Int) < 0
 ·rw [if_pos hn] at hR
  subst hR
  simp -implicitDefEqProofs [e0,hn,show left < (l.length:Int) by omega]
 ·rw [if_neg hn] at hR
  simp -implicitDefEqProofs [e0,hn,show ¬ left < (l.length:Int) by omega]
  refine ev_lp (X:=Nat × Int) [0,1,5] [] (fun x=>[(5,.int .i64 x.1),(1,.int .i64 x.2)]) (fun _=>[]) (fun x=>l.length - x.1) (fun x=>x.1 ≤ l.length ∧ 0 ≤ x.2 ∧ x.2 ≤ 1048576 ∧ szSs (l.drop x.1) x.2=R) (0,left - l.length) (by simp [hR];omega) ?_
  rintro ⟨i,k⟩ ⟨hi,hk0,hk,hd⟩
  simp only at hi hk0 hk hd
  cases hr:l.drop i with
  | nil =>
   have:=dropn hr
   rw [hr] at hd
   have hie:i=l.length:=by omega
   simp [szSs] at hd
   simp -implicitDefEqProofs [hie,hd]
  | cons t r =>
   obtain ⟨h1,f0,f1,h3⟩:=dropc hr
   rw [hr,szSs] at hd
   have:=hm t (List.mem_of_getElem? f1)
   have e2:=i64w ((i:Int) + 1) (by omega) (by omega)
   have e3:=i64w (k - (t.length:Int)) (by omega) (by omega)
   have h1':(i:Int) < l.length:=by omega
   by_cases hq:k - (t.length:Int) < 0
   ·rw [if_pos hq] at hd
    simp -implicitDefEqProofs [h1',h1,f0,f1,e3,strRow,hq,show k < (t.length:Int) by omega,hd]
   ·rw [if_neg hq] at hd
    simp -implicitDefEqProofs [h1',h1,f0,f1,e2,e3,strRow,hq,show ¬ k < (t.length:Int) by omega]
    exact nx (i + 1,k - t.length) [] ⟨by simp only;omega,by simp only;omega,by simp only;omega,by simp only [h3];exact hd⟩ (by simp only;omega) (h4:=by simp [e2,e3])
theorem szLate1C (x:LT) (k:Int) (hx:x.lx.length ≤ maxLen) (h0:0 ≤ k ∧ k ≤ 1048576):CV prog 141 [.agg x.row,.int .i64 k] (.int .i64 (szSs [x.lx] k)):=by
 have hml:maxLen=9223372036854775807:=rfl
 have e3:=i64w (k - (x.lx.length:Int)) (by omega) (by omega)
 refine cvx func141 [] ntmps141 rfl rfl rfl ?_ (hca:=by simp [LT.row])
 simp only [szSs]
 by_cases hq:k - (x.lx.length:Int) < 0
 ·rw [if_pos hq]
  simp -implicitDefEqProofs [LT.row,e3,hq,show k < (x.lx.length:Int) by omega]
 ·rw [if_neg hq]
  simp -implicitDefEqProofs [LT.row,e3,hq,show ¬ k < (x.lx.length:Int) by omega]
theorem szLateC (l:List LT) (left:Int) (hl:l.length ≤ maxLen) (hm:∀ t ∈ l,t.lx.length ≤ maxLen) (h0:0 ≤ left ∧ left ≤ 1048576):CV prog 63 [.lst 3 (l.map LT.row),.int .i64 left] (.int .i64 (szLs (l.map LT.lx) left)):=by
 obtain ⟨R,hR⟩:∃ R,szLs (l.map LT.lx) left=R:=⟨_,rfl⟩
 rw [hR]
 unfold szLs at hR
 rw [List.length_map] at hR
 have hml:maxLen=9223372036854775807:=rfl
 have e0:=i64w (left - (l.length:Int)) (by omega) (by omega)
 refine cvx func63 [] ntmps63 rfl rfl rfl ?_ (hca:=by simp [LT.row])
 by_cases hn:left - (l.length:Int) < 0
 ·rw [if_pos hn] at hR
  subst hR
  simp -implicitDefEqProofs [e0,hn,show left < (l.length:Int) by omega]
 ·rw [if_neg hn] at hR
  simp -implicitDefEqProofs [e0,hn,show ¬ left < (l.length:Int) by omega]
  refine ev_lp (X:=Nat × Int) [0,1,5] [] (fun x=>[(5,.int .i64 x.1),(1,.int .i64 x.2)]) (fun _=>[]) (fun x=>l.length - x.1) (fun x=>x.1 ≤ l.length ∧ 0 ≤ x.2 ∧ x.2 ≤ 1048576 ∧ szSs ((l.drop x.1).map LT.lx) x.2=R) (0,left - l.length) (by simp [hR];omega) ?_
  rintro ⟨i,k⟩ ⟨hi,hk0,hk,hd⟩
  simp only at hi hk0 hk hd
  cases hr:l.drop i with
  | nil =>
   have:=dropn hr
   rw [hr] at hd
   have hie:i=l.length:=by omega
   simp [szSs] at hd
   simp -implicitDefEqProofs [hie,hd]
  | cons t r =>
   obtain ⟨h1,f0,f1,h3⟩:=dropc hr
   rw [hr,List.map_cons,szSs] at hd
   have htm:=hm t (List.mem_of_getElem? f1)
   have e2:=i64w ((i:Int) + 1) (by omega) (by omega)
   have c1:=szLate1C t k htm ⟨hk0,hk⟩
   have h1':(i:Int) < l.length:=by omega
   simp only [LT.row,szSs] at c1
   simp -implicitDefEqProofs [h1',h1,f0,f1,LT.row]
   refine c1.call ?_
   by_cases hq:k - (t.lx.length:Int) < 0
   ·rw [if_pos hq] at hd
    subst hd
    simp -implicitDefEqProofs [hq]
   ·rw [if_neg hq] at hd
    simp -implicitDefEqProofs [hq,e2]
    exact nx (i + 1,k - t.lx.length) [] ⟨by simp only;omega,by simp only;omega,by simp only;omega,by simp only [← List.map_drop,h3];exact hd⟩ (by simp only;omega) (h4:=by simp [e2])
def szA2 (d:DK) (left:Int):Int:=if szLs d.s0 left < 0 then -1 else szLs d.s1 (szLs d.s0 left)
def DkG (d:DK):Prop:=d.s0.length ≤ maxLen ∧ d.s1.length ≤ maxLen ∧ d.late.length ≤ maxLen ∧ (∀ t ∈ d.s0,t.length ≤ maxLen) ∧ (∀ t ∈ d.s1,t.length ≤ maxLen) ∧ (∀ t ∈ d.late,t.lx.length ≤ maxLen)
theorem szA2C (d:DK) (left:Int) (hg:DkG d) (h0:0 ≤ left ∧ left ≤ 1048576):CV prog 62 [.agg [.lst 1 (d.s0.map strRow),.lst 1 (d.s1.map strRow)],.int .i64 left] (.int .i64 (szA2 d left)):=by
 obtain ⟨R,hR⟩:∃ R,szA2 d left=R:=⟨_,rfl⟩
 rw [hR]
 unfold szA2 at hR
 obtain ⟨g1,g2,g3,g4,g5,g6⟩:=hg
 obtain ⟨l1,l2,l3⟩:=szLs_le d.s0 h0.1
 have c1:=szStrC d.s0 left g1 g4 h0
 refine cvx func62 [] ntmps62 rfl rfl rfl ?_ (hca:=by simp [strRow])
 simp -implicitDefEqProofs
 refine ev_lp (X:=Nat × Int) [1,2,5] [(2,2)] (fun x=>[(5,.int .i64 x.1),(1,.int .i64 x.2)]) (fun _=>[]) (fun x=>2 - x.1) (fun x=>(x=(0,left)) ∨ (x=(1,szLs d.s0 left) ∧ 0 ≤ szLs d.s0 left) ∨ (x=(2,R) ∧ 0 ≤ R)) (0,left) (.inl rfl) ?_ (he:=by simp [obOf,strRow])
 rintro x (rfl | ⟨rfl,hz⟩ | ⟨rfl,hz⟩)
 ·simp -implicitDefEqProofs [obOf,strRow]
  refine c1.call ?_
  by_cases hq:szLs d.s0 left < 0
  ·rw [if_pos hq] at hR
   subst hR
   simp -implicitDefEqProofs [hq]
  ·simp -implicitDefEqProofs [hq]
   exact nx (1,szLs d.s0 left) [(2,2)] (.inr (.inl ⟨rfl,by omega⟩)) (h4:=by simp [obOf,strRow])
 ·have c2:=szStrC d.s1 (szLs d.s0 left) g2 g5 ⟨hz,by omega⟩
  obtain ⟨m1,m2,m3⟩:=szLs_le d.s1 hz
  rw [if_neg (by omega)] at hR
  simp -implicitDefEqProofs [obOf,strRow]
  refine c2.call ?_
  rw [hR]
  by_cases hq:R < 0
  ·have:R=-1:=by omega
   subst this
   simp -implicitDefEqProofs
  ·simp -implicitDefEqProofs [hq]
   exact nx (2,R) [(2,2)] (.inr (.inr ⟨rfl,by omega⟩)) (h4:=by simp [obOf,strRow])
 ·simp -implicitDefEqProofs [obOf]
def szDk (d:DK) (left:Int):Int:=if szA2 d left < 0 then -1 else szLs (d.late.map LT.lx) (szA2 d left)
theorem szA2_le (d:DK) {left:Int} (h:0 ≤ left):szA2 d left ≤ left ∧ -1 ≤ szA2 d left ∧ (0 ≤ szA2 d left → (d.s0.length:Int) ≤ left ∧ (d.s1.length:Int) ≤ left ∧ (∀ t ∈ d.s0,(t.length:Int) ≤ left) ∧ ∀ t ∈ d.s1,(t.length:Int) ≤ left):=by
 obtain ⟨h1,h2,h3⟩:=szLs_le d.s0 h
 unfold szA2
 split
 ·exact ⟨by omega,by omega,fun h'=>by omega⟩
 ·obtain ⟨m1,m2,m3⟩:=szLs_le d.s1 (left:=szLs d.s0 left) (by omega)
  exact ⟨by omega,m2,fun h'=>⟨(h3 (by omega)).1,by have:=(m3 h').1;omega,(h3 (by omega)).2,fun t ht=>by have:=(m3 h').2 t ht;omega⟩⟩
theorem szDk_le (d:DK) {left:Int} (h:0 ≤ left):szDk d left ≤ left ∧ -1 ≤ szDk d left ∧ (0 ≤ szDk d left → (d.s0.length:Int) ≤ left ∧ (d.s1.length:Int) ≤ left ∧ (d.late.length:Int) ≤ left ∧ (∀ t ∈ d.s0,(t.length:Int) ≤ left) ∧ (∀ t ∈ d.s1,(t.length:Int) ≤ left) ∧ ∀ t ∈ d.late,(t.lx.length:Int) ≤ left):=by
 obtain ⟨h1,h2,h3⟩:=szA2_le d h
 unfold szDk
 split
 ·exact ⟨by omega,by omega,fun h'=>by omega⟩
 ·obtain ⟨m1,m2,m3⟩:=szLs_le (d.late.map LT.lx) (left:=szA2 d left) (by omega)
  refine ⟨by omega,m2,fun h'=>?_⟩
  obtain ⟨a1,a2,a3,a4⟩:=h3 (by omega)
  obtain ⟨b1,b2⟩:=m3 h'
  rw [List.length_map] at b1
  exact ⟨a1,a2,by omega,a3,a4,fun t ht=>by have:=b2 t.lx (List.mem_map.2 ⟨t,ht,rfl⟩);omega⟩
theorem szDkC (d:DK) (left:Int) (hg:DkG d) (h0:0 ≤ left ∧ left ≤ 1048576):CV prog 22 [.agg d.row,.int .i64 left] (.int .i64 (szDk d left)):=by
 obtain ⟨R,hR⟩:∃ R,szDk d left=R:=⟨_,rfl⟩
 have hle:=szDk_le d h0.1
 rw [hR] at hle ⊢
 unfold szDk at hR
 obtain ⟨l1,l2,l3⟩:=szA2_le d h0.1
 have c1:=szA2C d left hg h0
 refine cvx func22 [] ntmps22 rfl rfl rfl ?_ (hca:=by simp [DK.row,strRow,LT.row])
 simp -implicitDefEqProofs [DK.row]
 refine c1.call ?_
 by_cases hq:szA2 d left < 0
 ·rw [if_pos hq] at hR
  subst hR
  simp -implicitDefEqProofs [hq]
 ·rw [if_neg hq] at hR
  have c2:=szLateC d.late (szA2 d left) hg.2.2.1 hg.2.2.2.2.2 ⟨by omega,by omega⟩
  rw [hR] at c2
  simp -implicitDefEqProofs [hq,DK.row]
  refine c2.call ?_
  by_cases hz:R < 0
  ·have:R=-1:=by omega
   subst this
   simp -implicitDefEqProofs
  ·simp -implicitDefEqProofs [hz]
theorem szCoreL (c:CO) (hg:CoG c) (left:Int) (h0:0 ≤ left ∧ left ≤ 1048576):ACall prog 23 [.agg c.row,.int .i64 left] [] (fun r L'=>szR left (CoS c) r ∧ clA r=true ∧ L'=[]):=by
 obtain ⟨_,g2,_,_,_,_,m1,m2,m3,m4⟩:=hg
 refine acx func23 [] ntmps23 rfl rfl rfl ?_
 simp -implicitDefEqProofs [CO.row]
 refine callA_ex (by kernel_rfl) (szSetsC c.sets left g2 m1 (by omega)) (by simp [cs_cl]) ?_
 rintro r ⟨y,rfl,y1,y2,y3⟩
 by_cases hy:y < 0
 ·simp -implicitDefEqProofs [hy,szR]
  omega
 simp -implicitDefEqProofs [hy]
 refine callA_ex (by kernel_rfl) (szDdtC c.ddt y m2 (by omega)) (by simp [DE.row]) ?_
 rintro r ⟨x,rfl,x1,x2,x3⟩
 by_cases hx:x < 0
 ·simp -implicitDefEqProofs [hx,szR]
  omega
 simp -implicitDefEqProofs [hx]
 refine callA_ex (by kernel_rfl) (szPtrC c.parts x m3 (by omega)) (by simp [PT.row]) ?_
 rintro r ⟨z,rfl,z1,z2,z3⟩
 by_cases hz:z < 0
 ·simp -implicitDefEqProofs [hz,szR]
  omega
 simp -implicitDefEqProofs [hz]
 refine callA_ex (by kernel_rfl) (szIntC c.safe z m4 (by omega)) (by simp [intRow]) ?_
 rintro r ⟨v,rfl,v1,v2,v3⟩
 by_cases hv:v < 0
 ·simp -implicitDefEqProofs [hv,szR]
  omega
 simp -implicitDefEqProofs [hv]
 obtain ⟨q1,q2⟩:=y3 (by omega)
 have q3:=x3 (by omega)
 have q4:=z3 (by omega)
 have q5:=v3 (by omega)
 exact ⟨v,rfl,by omega,by omega,fun _=>⟨by omega,by omega,by omega,by omega,fun s hs=>⟨by have:=(q2 s hs).1;omega,by have:=(q2 s hs).2;omega⟩⟩⟩
def DkS (d:DK):Prop:=d.s0.length ≤ 1048576 ∧ d.s1.length ≤ 1048576 ∧ d.late.length ≤ 1048576 ∧ (∀ t ∈ d.s0,t.length ≤ 1048576) ∧ (∀ t ∈ d.s1,t.length ≤ 1048576) ∧ ∀ t ∈ d.late,t.lx.length ≤ 1048576
theorem szPoolC (p:PO) (hd:DkG p.d) (hc:CoG p.c):ACall prog 6 [.agg p.row,.int .i64 1048576] [] (fun r L'=>szR 1048576 (DkS p.d ∧ CoS p.c) r ∧ clA r=true ∧ L'=[]):=by
 have c1:=szDkC p.d 1048576 hd (by omega)
 obtain ⟨l1,l2,l3⟩:=szDk_le p.d (left:=1048576) (by omega)
 generalize szDk p.d 1048576=z at *
 simp only [DK.row] at c1
 have c2:=szCoreL p.c hc
 simp only [CO.row] at c2
 refine acx func6 [] ntmps6 rfl rfl rfl ?_
 simp -implicitDefEqProofs [PO.row,DK.row,CO.row]
 refine c1.call ?_
 by_cases hz:z < 0
 ·simp -implicitDefEqProofs [hz,szR]
 simp -implicitDefEqProofs [hz,PO.row,DK.row,CO.row]
 refine callA_ex (by kernel_rfl) (c2 z ⟨by omega,by omega⟩) (by simp [cs_cl,DE.row,PT.row,intRow]) ?_
 rintro r ⟨v,rfl,v1,v2,v3⟩
 by_cases hv:v < 0
 ·simp -implicitDefEqProofs [hv,szR]
 simp -implicitDefEqProofs [hv]
 obtain ⟨a1,a2,a3,a4,a5,a6⟩:=l3 (by omega)
 exact ⟨v,rfl,by omega,by omega,fun _=>⟨⟨by omega,by omega,by omega,fun t ht=>by have:=a4 t ht;omega,fun t ht=>by have:=a5 t ht;omega,fun t ht=>by have:=a6 t ht;omega⟩,v3 (by omega)⟩⟩
theorem dkT_of {d:DK} (h:DkS d):DkT d:=⟨h.1,h.2.1,h.2.2.1,h.2.2.2.1,h.2.2.2.2.1,h.2.2.2.2.2⟩
theorem fill_step {α:Type} {l cs:List α} {i:Nat} {b:α} (h:l[i]?=some b) (hi:i < cs.length) (hm:∀ j,j < i → cs[j]?=l[j]?):∀ j,j < i + 1 → (cs.set i b)[j]?=l[j]?:=fun j hj=>by
 by_cases hji:j=i
 ·subst hji
  rw [List.getElem?_set_self hi,h]
 ·rw [List.getElem?_set_ne (Ne.symm hji)]
  exact hm j (by omega)
theorem fill_end {α:Type} {l cs:List α} (h:cs.length=l.length) (hm:∀ j,j < l.length → cs[j]?=l[j]?):cs=l:=by
 refine List.ext_getElem? fun q=>?_
 by_cases hq:q < l.length
 ·exact hm q hq
 ·rw [List.getElem?_eq_none (by omega),List.getElem?_eq_none (by omega)]
theorem toStrO (l:List (List UInt8)) (hl:l.length ≤ 2000000):ACall prog 162 [.lst 1 (l.map strRow)] [] (fun r L'=>r=.sl 900 0 l.length ∧ L'=[(900,strOb l)]):=by
 refine acx func162 [] ntmps162 rfl rfl rfl ?_
 simp -implicitDefEqProofs
 refine ⟨by omega,?_⟩
 refine ev_lp (X:=Nat × List (List UInt8)) [0,3,4] [(7,900)] (fun x=>[(4,.int .i64 x.1)]) (fun x=>[(900,strOb x.2)]) (fun x=>l.length - x.1)
  (fun x=>x.1 ≤ l.length ∧ x.2.length=l.length ∧ ∀ j,j < x.1 → x.2[j]?=l[j]?) (0,List.replicate l.length []) ⟨by omega,by simp,by omega⟩ ?_ (he:=by simp [obOf,strOb,strRow])
 rintro ⟨i,cs⟩ ⟨hi,hc,hm⟩
 simp only at hi hc hm
 by_cases h2:i < l.length
 ·obtain ⟨b,f1⟩:∃ b,l[i]?=some b:=⟨_,List.getElem?_eq_getElem (by omega)⟩
  have h2':(i:Int) < l.length:=by omega
  have hil:i < cs.length:=by omega
  have f0:l[i]=b:=(List.getElem?_eq_some_iff.1 f1).2
  have e1:=i64w ((i:Int) + 1) (by omega) (by omega)
  simp -implicitDefEqProofs [h2',h2,hil,f0,f1,strRow,strOb,hc]
  exact nx (i + 1,cs.set i b) [(900,900)] ⟨by simp only;omega,by simp [hc],fill_step f1 hil hm⟩ (by simp only;omega) (h4:=by simp [obOf,e1,strOb,List.map_set,strRow])
 ·have hie:i=l.length:=by omega
  subst hie
  have:=fill_end hc hm
  subst this
  simp -implicitDefEqProofs
theorem toLate1C (x:LT):CV prog 163 [.agg x.row] (.agg x.row):=by
 refine cvx func163 [] ntmps163 rfl rfl rfl ?_ (hca:=by simp [LT.row]) (hcv:=by simp [LT.row])
 simp -implicitDefEqProofs [LT.row]
theorem toLateO (l:List LT) (hl:l.length ≤ 2000000):ACall prog 78 [.lst 3 (l.map LT.row)] [] (fun r L'=>r=.sl 900 0 l.length ∧ L'=[(900,ltOb l)]):=by
 refine acx func78 [] ntmps78 rfl rfl rfl ?_
 simp -implicitDefEqProofs
 refine ⟨by omega,?_⟩
 refine ev_lp (X:=Nat × List LT) [0,3,4] [(7,900)] (fun x=>[(4,.int .i64 x.1)]) (fun x=>[(900,ltOb x.2)]) (fun x=>l.length - x.1)
  (fun x=>x.1 ≤ l.length ∧ x.2.length=l.length ∧ ∀ j,j < x.1 → x.2[j]?=l[j]?) (0,List.replicate l.length ⟨0,0,[]⟩) ⟨by omega,by simp,by omega⟩ ?_ (he:=by simp [obOf,ltOb,LT.row])
 rintro ⟨i,cs⟩ ⟨hi,hc,hm⟩
 simp only at hi hc hm
 by_cases h2:i < l.length
 ·obtain ⟨b,f1⟩:∃ b,l[i]?=some b:=⟨_,List.getElem?_eq_getElem (by omega)⟩
  have h2':(i:Int) < l.length:=by omega
  have hil:i < cs.length:=by omega
  have f0:l[i]=b:=(List.getElem?_eq_some_iff.1 f1).2
  have e1:=i64w ((i:Int) + 1) (by omega) (by omega)
  have c1:=toLate1C b
  simp only [LT.row] at c1
  simp -implicitDefEqProofs [h2',h2,hil,f0,f1,LT.row,ltOb,hc]
  refine c1.call ?_
  simp -implicitDefEqProofs [h2',h2,hil,f0,f1,LT.row,ltOb,hc]
  exact nx (i + 1,cs.set i b) [(900,900)] ⟨by simp only;omega,by simp [hc],fill_step f1 hil hm⟩ (by simp only;omega) (h4:=by simp [obOf,e1,ltOb,List.map_set,LT.row])
 ·have hie:i=l.length:=by omega
  subst hie
  have:=fill_end hc hm
  subst this
  simp -implicitDefEqProofs
theorem toA2O (d:DK) (h:DkT d):ACall prog 77 [.agg [.lst 1 (d.s0.map strRow),.lst 1 (d.s1.map strRow)]] [] (fun r L'=>r=.agg [.sl 901 0 d.s0.length,.sl 902 0 d.s1.length] ∧ L'=[(901,strOb d.s0),(902,strOb d.s1)]):=by
 have l0:=h.l0
 have l1:=h.l1
 have c1:=toStrO d.s0 (by omega)
 have c2:=toStrO d.s1 (by omega)
 refine acx func77 [] ntmps77 rfl rfl rfl ?_
 simp -implicitDefEqProofs
 refine ev_lo (X:=Nat) [1,2,3,4] [(1,1),(2,2),(3,3)] (fun i=>[(4,.int .i64 i)]) (fun i=>(1,⟨2,[[.lst 1 (d.s0.map strRow),.lst 1 (d.s1.map strRow)]]⟩) :: (2,⟨2,[[.nils,.nils]]⟩) :: (3,⟨2,[[if i=0 then .nils else .sl 901 0 d.s0.length,if i=2 then .sl 902 0 d.s1.length else .nils]]⟩) :: (if i=0 then [] else if i=1 then [(901,strOb d.s0)] else [(901,strOb d.s0),(902,strOb d.s1)])) (fun i=>2 - i) (fun i=>i=0 ∨ i=1 ∨ i=2) 0 (.inl rfl) ?_ (he:=by simp [obOf])
 rintro i (rfl | rfl | rfl)
 ·simp -implicitDefEqProofs [obOf]
  refine callA_wh [] (by kernel_rfl) c1 (by simp [strRow]) (by simp) trivial (by simp) (by simp) ?_
  rintro r L' ⟨rfl,rfl⟩
  refine ⟨[(900,901)],⟨by simp,by simp,by simp,by simp,by simp⟩,?_⟩
  simp only [afterS]
  simp -implicitDefEqProofs
  exact nx 1 [(1,1),(2,2),(3,3),(901,901)] (.inr (.inl rfl)) (h4:=by simp [obOf])
 ·simp -implicitDefEqProofs [obOf]
  refine callA_wh [] (by kernel_rfl) c2 (by simp [strRow]) (by simp) trivial (by simp) (by simp) ?_
  rintro r L' ⟨rfl,rfl⟩
  refine ⟨[(900,902)],⟨by simp,by simp,by simp,by simp,by simp⟩,?_⟩
  simp only [afterS]
  simp -implicitDefEqProofs
  exact nx 2 [(1,1),(2,2),(3,3),(901,901),(902,902)] (.inr (.inr rfl)) (h4:=by simp [obOf])
 ·simp -implicitDefEqProofs [obOf]
theorem toDkO (d:DK) (h:DkT d):ACall prog 27 [.agg d.row] [] (fun r L'=>r=.agg (dskA d 901 902 903) ∧ L'=[(901,strOb d.s0),(902,strOb d.s1),(903,ltOb d.late)]):=by
 have c1:=toA2O d h
 have c2:=toLateO d.late (by have:=h.l2;omega)
 refine acx func27 [] ntmps27 rfl rfl rfl ?_
 simp -implicitDefEqProofs [DK.row]
 refine callA_wh [] (by kernel_rfl) c1 (by simp [strRow]) (by simp) trivial (by simp) (by simp) ?_
 rintro r L' ⟨rfl,rfl⟩
 refine ⟨[(901,901),(902,902)],⟨by simp,by simp,by simp,by simp,by simp⟩,?_⟩
 simp only [afterS]
 simp -implicitDefEqProofs
 refine callA_wh [] (by kernel_rfl) c2 (by simp [LT.row]) (by simp) trivial (by simp) (by simp) ?_
 rintro r L' ⟨rfl,rfl⟩
 refine ⟨[(900,903)],⟨by simp,by simp,by simp,by simp,by simp⟩,?_⟩
 simp only [afterS]
 simp -implicitDefEqProofs [dskA]
theorem toCoO (c:CO) (h:CoT c):ACall prog 28 [.agg c.row] [] (fun r L'=>r=coreA c 904 905 906 907 ∧ L'=[(904,kcs c.sets),(905,deOb c.ddt),(906,kpt c.parts),(907,kin c.safe)]):=by
 have c1:=toCsSC c.sets h.sets h.m8
 have c2:=toDdtSC c.ddt h.ddt
 have c3:=toPtrSC c.parts h.parts
 have c4:=toIntSC c.safe h.safe
 refine acx func28 [] ntmps28 rfl rfl rfl ?_
 simp -implicitDefEqProofs [CO.row]
 refine callA_wh [] (by kernel_rfl) c1 (by simp [cs_cl]) (by simp) trivial (by simp) (by simp) ?_
 rintro r L' ⟨rfl,rfl⟩
 refine ⟨[(7,904)],⟨by simp,by simp,by simp,by simp,by simp⟩,?_⟩
 simp only [afterS]
 simp -implicitDefEqProofs
 refine callA_wh [] (by kernel_rfl) c2 (by simp [DE.row]) (by simp) trivial (by simp) (by simp) ?_
 rintro r L' ⟨rfl,rfl⟩
 refine ⟨[(7,905)],⟨by simp,by simp,by simp,by simp,by simp⟩,?_⟩
 simp only [afterS]
 simp -implicitDefEqProofs
 refine callA_wh [] (by kernel_rfl) c3 (by simp [PT.row]) (by simp) trivial (by simp) (by simp) ?_
 rintro r L' ⟨rfl,rfl⟩
 refine ⟨[(7,906)],⟨by simp,by simp,by simp,by simp,by simp⟩,?_⟩
 simp only [afterS]
 simp -implicitDefEqProofs
 refine callA_wh [] (by kernel_rfl) c4 (by simp [intRow]) (by simp) trivial (by simp) (by simp) ?_
 rintro r L' ⟨rfl,rfl⟩
 refine ⟨[(7,907)],⟨by simp,by simp,by simp,by simp,by simp⟩,?_⟩
 simp only [afterS]
 simp -implicitDefEqProofs [coreA,kcs,deOb,kpt,kin]
theorem toPoO (p:PO) (hd:DkT p.d) (hc:CoT p.c):ACall prog 9 [.agg p.row] [] (fun r L'=>r=.agg (poolA p 901 902 903 904 905 906 907) ∧ L'=poolL p 901 902 903 904 905 906 907):=by
 have c1:=toDkO p.d hd
 have c2:=toCoO p.c hc
 simp only [DK.row,CO.row] at c1 c2
 refine acx func9 [] ntmps9 rfl rfl rfl ?_
 simp -implicitDefEqProofs [PO.row,DK.row,CO.row]
 refine callA_wh [] (by kernel_rfl) c1 (by simp [strRow,LT.row]) (by simp) trivial (by simp) (by simp) ?_
 rintro r L' ⟨rfl,rfl⟩
 refine ⟨[(901,901),(902,902),(903,903)],⟨by simp,by simp,by simp,by simp,by simp⟩,?_⟩
 simp only [afterS]
 simp -implicitDefEqProofs [dskA,PO.row,DK.row,CO.row]
 refine callA_wh [] (by kernel_rfl) c2 (by simp [cs_cl,DE.row,PT.row,intRow]) (by simp) trivial (by simp) (by simp) ?_
 rintro r L' ⟨rfl,rfl⟩
 refine ⟨[(904,904),(905,905),(906,906),(907,907)],⟨by simp,by simp,by simp,by simp,by simp⟩,?_⟩
 simp only [afterS]
 simp -implicitDefEqProofs [coreA,poolA,poolL,PO.row,DK.row,CO.row]
end Go.Av.F
end
section
namespace Go.Av.F
open Go Go.Av Go.Proofs Go.Proofs.Tryz
set_option maxRecDepth 100000
theorem toPoC (p:PO) (hd:DkT p.d) (hc:CoT p.c):CV prog 9 [.agg p.row] (.agg p.row):=by
 refine CV.of_frz (toPoO p hd hc) ?_ (hca:=by simp [PO.row,DK.row,CO.row,strRow,LT.row,cs_cl,DE.row,PT.row,intRow]) (hcv:=by simp [PO.row,DK.row,CO.row,strRow,LT.row,cs_cl,DE.row,PT.row,intRow])
 rintro r L' ⟨rfl,rfl⟩
 refine ⟨by simp [poolL],by simp [poolL],fun x hx=>?_,?_⟩
 ·simp only [poolL,List.mem_cons,List.not_mem_nil,or_false] at hx
  rcases hx with rfl | rfl | rfl | rfl | rfl | rfl | rfl
  ·exact clR_str _
  ·exact clR_str _
  ·exact clR_lt _
  ·exact clR_kcs _
  ·exact clR_de _
  ·exact clR_kpt _
  ·exact clR_kin _
 simp [frzAll,poolA,poolL,PO.row,DK.row,CO.row,strOb,ltOb,kcs,deOb,kpt,kin,tk_map]
theorem eqStrR (l:List (List UInt8)) (hl:l.length ≤ 2000000):CV prog 180 [.lst 1 (l.map strRow),.lst 1 (l.map strRow)] (.bool true):=by
 refine cvx func180 [] ntmps180 rfl rfl rfl ?_ (hca:=by simp [strRow])
 simp -implicitDefEqProofs
 refine ev_lp (X:=Nat) [0,1,5] [] (fun x=>[(5,.int .i64 x)]) (fun x=>[]) (fun x=>l.length - x) (fun x=>x ≤ l.length) 0 (by simp) ?_
 rintro i hi
 by_cases h2:i < l.length
 ·obtain ⟨b,f1⟩:∃ b,l[i]?=some b:=⟨_,List.getElem?_eq_getElem (by omega)⟩
  have h2':(i:Int) < l.length:=by omega
  have f0:l[i]=b:=(List.getElem?_eq_some_iff.1 f1).2
  have e1:=i64w ((i:Int) + 1) (by omega) (by omega)
  simp -implicitDefEqProofs [h2',h2,f0,f1,strRow]
  exact nx (i + 1) [] (by omega) (h4:=by simp [e1])
 ·have:i=l.length:=by omega
  subst this
  simp -implicitDefEqProofs
theorem eqLate1R (x:LT):CV prog 181 [.agg x.row,.agg x.row] (.bool true):=by
 refine cvx func181 [] ntmps181 rfl rfl rfl ?_ (hca:=by simp [LT.row])
 simp -implicitDefEqProofs [LT.row]
theorem eqLateR (l:List LT) (hl:l.length ≤ 2000000):CV prog 90 [.lst 3 (l.map LT.row),.lst 3 (l.map LT.row)] (.bool true):=by
 refine cvx func90 [] ntmps90 rfl rfl rfl ?_ (hca:=by simp [LT.row])
 simp -implicitDefEqProofs
 refine ev_lp (X:=Nat) [0,1,5] [] (fun x=>[(5,.int .i64 x)]) (fun x=>[]) (fun x=>l.length - x) (fun x=>x ≤ l.length) 0 (by simp) ?_
 rintro i hi
 by_cases h2:i < l.length
 ·obtain ⟨b,f1⟩:∃ b,l[i]?=some b:=⟨_,List.getElem?_eq_getElem (by omega)⟩
  have h2':(i:Int) < l.length:=by omega
  have f0:l[i]=b:=(List.getElem?_eq_some_iff.1 f1).2
  have e1:=i64w ((i:Int) + 1) (by omega) (by omega)
  have c1:=eqLate1R b
  simp only [LT.row] at c1
  simp -implicitDefEqProofs [h2',h2,f0,f1,LT.row]
  refine c1.call ?_
  simp -implicitDefEqProofs
  exact nx (i + 1) [] (by omega) (h4:=by simp [e1])
 ·have:i=l.length:=by omega
  subst this
  simp -implicitDefEqProofs
theorem eqA2R (d:DK) (h:DkT d):CV prog 89 [.agg [.lst 1 (d.s0.map strRow),.lst 1 (d.s1.map strRow)],.agg [.lst 1 (d.s0.map strRow),.lst 1 (d.s1.map strRow)]] (.bool true):=by
 have l0:=h.l0
 have l1:=h.l1
 have c1:=eqStrR d.s0 (by omega)
 have c2:=eqStrR d.s1 (by omega)
 refine cvx func89 [(4,[⟨0,[],[],[],[]⟩,⟨1,[],[],[],[]⟩,⟨2,[2],[],[],[]⟩,⟨3,[],[2],[],[]⟩,⟨4,[],[2],[],[]⟩,⟨5,[3],[2],[],[]⟩,⟨6,[],[],[],[]⟩,⟨7,[],[],[],[]⟩])] ntmps89 rfl rfl rfl ?_ (hca:=by simp [strRow])
 simp -implicitDefEqProofs
 refine ev_lp (X:=Nat) [2,3,5] [(2,2),(3,3)] (fun x=>[(5,.int .i64 x)]) (fun x=>[]) (fun x=>2 - x) (fun x=>x=0 ∨ x=1 ∨ x=2) 0 (.inl rfl) ?_ (he:=by simp [obOf,strRow])
 rintro i (rfl | rfl | rfl)
 ·simp -implicitDefEqProofs [obOf,strRow]
  refine c1.call ?_
  simp -implicitDefEqProofs
  exact nx 1 [(2,2),(3,3)] (.inr (.inl rfl)) (h4:=by simp [obOf,strRow])
 ·simp -implicitDefEqProofs [obOf,strRow]
  refine c2.call ?_
  simp -implicitDefEqProofs
  exact nx 2 [(2,2),(3,3)] (.inr (.inr rfl)) (h4:=by simp [obOf,strRow])
 ·simp -implicitDefEqProofs [obOf]
theorem eqDkR (d:DK) (h:DkT d):CV prog 32 [.agg d.row,.agg d.row] (.bool true):=by
 have c1:=eqA2R d h
 have c2:=eqLateR d.late (by have:=h.l2;omega)
 refine cvx func32 [] ntmps32 rfl rfl rfl ?_ (hca:=by simp [DK.row,strRow,LT.row])
 simp -implicitDefEqProofs [DK.row]
 refine c1.call ?_
 simp -implicitDefEqProofs
 refine c2.call ?_
 simp -implicitDefEqProofs
theorem eqCoR (c:CO) (h:CoT c):CV prog 33 [.agg c.row,.agg c.row] (.bool true):=by
 refine cv_of ?_ (hca:=by simp [CO.row,cs_cl,DE.row,PT.row,intRow])
 refine acx func33 [] ntmps33 rfl rfl rfl ?_
 simp -implicitDefEqProofs [CO.row]
 refine callA_val (by kernel_rfl) (eqCsSC c.sets h.sets h.m8) (by simp [cs_cl]) (by simp) ?_
 simp -implicitDefEqProofs
 refine callA_val (by kernel_rfl) (eqDdtSC c.ddt h.ddt) (by simp [DE.row]) (by simp) ?_
 simp -implicitDefEqProofs
 refine callA_val (by kernel_rfl) (eqPtrSC c.parts h.parts) (by simp [PT.row]) (by simp) ?_
 simp -implicitDefEqProofs
 refine callA_val (by kernel_rfl) (eqIntSC c.safe h.safe) (by simp [intRow]) (by simp) ?_
 simp -implicitDefEqProofs
theorem eqPoR (p:PO) (hd:DkT p.d) (hc:CoT p.c):CV prog 12 [.agg p.row,.agg p.row] (.bool true):=by
 have c1:=eqDkR p.d hd
 have c2:=eqCoR p.c hc
 simp only [DK.row,CO.row] at c1 c2
 refine cvx func12 [] ntmps12 rfl rfl rfl ?_ (hca:=by simp [PO.row,DK.row,CO.row,strRow,LT.row,cs_cl,DE.row,PT.row,intRow])
 simp -implicitDefEqProofs [PO.row,DK.row,CO.row]
 refine c1.call ?_
 simp -implicitDefEqProofs [PO.row,DK.row,CO.row]
 refine c2.call ?_
 simp -implicitDefEqProofs
end Go.Av.F
end
section
namespace Go.Av.F
open Go Go.Av Go.Proofs Go.Proofs.Tryz
set_option maxRecDepth 100000
def mkG {α:Type} (f:Nat → α) (w k n:Nat):List α:=(List.range n).map fun i=>f (k + w * i)
theorem mkG_len {α:Type} (f:Nat → α) (w k n:Nat):(mkG f w k n).length=n:=by simp [mkG]
theorem mkG_at {α:Type} (f:Nat → α) {w k n i:Nat} (h:i < n):(mkG f w k n)[i]?=some (f (k + w * i)):=by simp [mkG,h]
theorem mkG_end {α:Type} {f:Nat → α} {w k n:Nat} {cs:List α} (hc:cs.length=n) (hm:∀ j,j < n → cs[j]?=some (f (k + w * j))):cs=mkG f w k n:=by
 refine List.ext_getElem? fun q=>?_
 by_cases hq:q < n
 ·rw [hm q hq,mkG_at f hq]
 ·rw [List.getElem?_eq_none (by omega),List.getElem?_eq_none (by rw [mkG_len];omega)]
theorem mkG_step {α:Type} {f:Nat → α} {w k i:Nat} {cs:List α} {b:α} (hb:b=f (k + w * i)) (hi:i < cs.length) (hm:∀ j,j < i → cs[j]?=some (f (k + w * j))):∀ j,j < i + 1 → (cs.set i b)[j]?=some (f (k + w * j)):=fun j hj=>by
 by_cases hji:j=i
 ·subst hji
  rw [List.getElem?_set_self hi,hb]
 ·rw [List.getElem?_set_ne (Ne.symm hji)]
  exact hm j (by omega)
def mkStr (k:Nat):List UInt8:=mtB k
def mkLt (k:Nat):LT:=⟨k,((k + 1:Nat):Int),mtB (k + 2)⟩
def mkDe (k:Nat):DE:=⟨k,((k + 1:Nat):Int),((k + 2:Nat):Int)⟩
def mkPt (k:Nat):PT:=⟨k,((k + 1:Nat):Int),((k + 2:Nat):Int)⟩
def mkIn (k:Nat):Int:=k
theorem markStrC (l:List (List UInt8)) (n k:Nat) (hn:l.length=n) (hl:n ≤ 2000000) (hk:k ≤ 500000000) :
  ACall prog 185 [.sl 1000 0 n,.int .i64 k] [(1000,strOb l)] (fun r L'=>r=.int .i64 ((k + 1 * n:Nat):Int) ∧ L'=[(1000,strOb (mkG mkStr 1 k n))]):=by
 refine acx func185 [] ntmps185 rfl rfl rfl ?_
 simp -implicitDefEqProofs
 refine ev_lp (X:=Nat × List (List UInt8)) [0,1,5] [(1000,1000)] (fun x=>[(5,.int .i64 x.1),(1,.int .i64 ((k + 1 * x.1:Nat):Int))]) (fun x=>[(1000,strOb x.2)]) (fun x=>n - x.1)
  (fun x=>x.1 ≤ n ∧ x.2.length=n ∧ ∀ j,j < x.1 → x.2[j]?=some (mkStr (k + 1 * j))) (0,l) ⟨by omega,hn,by omega⟩ ?_ (he:=by simp [obOf])
 rintro ⟨i,cs⟩ ⟨hi,hc,hm⟩
 simp only at hi hc hm
 by_cases h2:i < n
 ·obtain ⟨b,f1⟩:∃ b,cs[i]?=some b:=⟨_,List.getElem?_eq_getElem (by omega)⟩
  have h2':(i:Int) < n:=by omega
  have hil:i < cs.length:=by omega
  have f0:cs[i]=b:=(List.getElem?_eq_some_iff.1 f1).2
  have e1:=i64w ((i:Int) + 1) (by omega) (by omega)
  have e2:=i64w ((k:Int) + (i:Int) + 1) (by omega) (by omega)
  simp -implicitDefEqProofs [h2',h2,hil,f0,f1,hc,strOb,strRow,e1,e2]
  refine (markTextI _ (k + 1 * i) (by omega) (by omega)).call ?_
  simp -implicitDefEqProofs [h2',h2,hil,f0,f1,hc,strOb,strRow,e1,e2]
  refine nx (i + 1,cs.set i (mkStr (k + 1 * i))) [(1000,1000)] ⟨by simp only;omega,by simp [hc],fun j hj=>by simpa using mkG_step (f:=mkStr) (w:=1) (k:=k) rfl hil hm j hj⟩ (by simp only;omega) (h4:=?_)
  simp [obOf,e1,e2,strOb,List.map_set,strRow,mkStr]
  first | done | omega | (constructor <;> first | omega | (congr 1 <;> omega)) 
 ·have hie:i=n:=by omega
  subst hie
  have:=mkG_end hc hm
  subst this
  simp -implicitDefEqProofs
theorem markLtC (l:List (LT)) (n k:Nat) (hn:l.length=n) (hl:n ≤ 2000000) (hk:k ≤ 500000000) :
  ACall prog 95 [.sl 1000 0 n,.int .i64 k] [(1000,ltOb l)] (fun r L'=>r=.int .i64 ((k + 3 * n:Nat):Int) ∧ L'=[(1000,ltOb (mkG mkLt 3 k n))]):=by
 refine acx func95 [] ntmps95 rfl rfl rfl ?_
 simp -implicitDefEqProofs
 refine ev_lp (X:=Nat × List (LT)) [0,1,5] [(1000,1000)] (fun x=>[(5,.int .i64 x.1),(1,.int .i64 ((k + 3 * x.1:Nat):Int))]) (fun x=>[(1000,ltOb x.2)]) (fun x=>n - x.1)
  (fun x=>x.1 ≤ n ∧ x.2.length=n ∧ ∀ j,j < x.1 → x.2[j]?=some (mkLt (k + 3 * j))) (0,l) ⟨by omega,hn,by omega⟩ ?_ (he:=by simp [obOf])
 rintro ⟨i,cs⟩ ⟨hi,hc,hm⟩
 simp only at hi hc hm
 by_cases h2:i < n
 ·obtain ⟨b,f1⟩:∃ b,cs[i]?=some b:=⟨_,List.getElem?_eq_getElem (by omega)⟩
  have h2':(i:Int) < n:=by omega
  have hil:i < cs.length:=by omega
  have f0:cs[i]=b:=(List.getElem?_eq_some_iff.1 f1).2
  have e1:=i64w ((i:Int) + 1) (by omega) (by omega)
  have e2:=i64w ((k:Int) + 3 * (i:Int) + 1) (by omega) (by omega)
  have e3:=i64w ((k:Int) + 3 * (i:Int) + 1 + 1) (by omega) (by omega)
  have e4:=i64w ((k:Int) + 3 * (i:Int) + 1 + 1 + 1) (by omega) (by omega)
  simp -implicitDefEqProofs [h2',h2,hil,f0,f1,hc,ltOb,LT.row,e1,e2,e3,e4]
  refine (markTextI _ (k + 3 * i + 2) (by omega) (by omega)).call ?_
  simp -implicitDefEqProofs [h2',h2,hil,f0,f1,hc,ltOb,LT.row,e1,e2,e3,e4]
  refine nx (i + 1,cs.set i (mkLt (k + 3 * i))) [(1000,1000)] ⟨by simp only;omega,by simp [hc],mkG_step rfl hil hm⟩ (by simp only;omega) (h4:=?_)
  simp [obOf,e1,e2,e3,e4,ltOb,List.map_set,LT.row,mkLt]
  first | done | omega | (constructor <;> first | omega | (congr 1 <;> omega)) 
 ·have hie:i=n:=by omega
  subst hie
  have:=mkG_end hc hm
  subst this
  simp -implicitDefEqProofs
theorem markDeC (l:List (DE)) (n k:Nat) (hn:l.length=n) (hl:n ≤ 2000000) (hk:k ≤ 500000000) :
  ACall prog 97 [.sl 1000 0 n,.int .i64 k] [(1000,deOb l)] (fun r L'=>r=.int .i64 ((k + 3 * n:Nat):Int) ∧ L'=[(1000,deOb (mkG mkDe 3 k n))]):=by
 refine acx func97 [] ntmps97 rfl rfl rfl ?_
 simp -implicitDefEqProofs
 refine ev_lp (X:=Nat × List (DE)) [0,1,5] [(1000,1000)] (fun x=>[(5,.int .i64 x.1),(1,.int .i64 ((k + 3 * x.1:Nat):Int))]) (fun x=>[(1000,deOb x.2)]) (fun x=>n - x.1)
  (fun x=>x.1 ≤ n ∧ x.2.length=n ∧ ∀ j,j < x.1 → x.2[j]?=some (mkDe (k + 3 * j))) (0,l) ⟨by omega,hn,by omega⟩ ?_ (he:=by simp [obOf])
 rintro ⟨i,cs⟩ ⟨hi,hc,hm⟩
 simp only at hi hc hm
 by_cases h2:i < n
 ·obtain ⟨b,f1⟩:∃ b,cs[i]?=some b:=⟨_,List.getElem?_eq_getElem (by omega)⟩
  have h2':(i:Int) < n:=by omega
  have hil:i < cs.length:=by omega
  have f0:cs[i]=b:=(List.getElem?_eq_some_iff.1 f1).2
  have e1:=i64w ((i:Int) + 1) (by omega) (by omega)
  have e2:=i64w ((k:Int) + 3 * (i:Int) + 1) (by omega) (by omega)
  have e3:=i64w ((k:Int) + 3 * (i:Int) + 1 + 1) (by omega) (by omega)
  have e4:=i64w ((k:Int) + 3 * (i:Int) + 1 + 1 + 1) (by omega) (by omega)
  simp -implicitDefEqProofs [h2',h2,hil,f0,f1,hc,deOb,DE.row,e1,e2,e3,e4]
  refine nx (i + 1,cs.set i (mkDe (k + 3 * i))) [(1000,1000)] ⟨by simp only;omega,by simp [hc],mkG_step rfl hil hm⟩ (by simp only;omega) (h4:=?_)
  simp [obOf,e1,e2,e3,e4,deOb,List.map_set,DE.row,mkDe]
  first | done | omega | (constructor <;> first | omega | (congr 1 <;> omega)) 
 ·have hie:i=n:=by omega
  subst hie
  have:=mkG_end hc hm
  subst this
  simp -implicitDefEqProofs
theorem markPtC (l:List (PT)) (n k:Nat) (hn:l.length=n) (hl:n ≤ 2000000) (hk:k ≤ 500000000) :
  ACall prog 98 [.sl 1000 0 n,.int .i64 k] [(1000,kpt l)] (fun r L'=>r=.int .i64 ((k + 3 * n:Nat):Int) ∧ L'=[(1000,kpt (mkG mkPt 3 k n))]):=by
 refine acx func98 [] ntmps98 rfl rfl rfl ?_
 simp -implicitDefEqProofs
 refine ev_lp (X:=Nat × List (PT)) [0,1,5] [(1000,1000)] (fun x=>[(5,.int .i64 x.1),(1,.int .i64 ((k + 3 * x.1:Nat):Int))]) (fun x=>[(1000,kpt x.2)]) (fun x=>n - x.1)
  (fun x=>x.1 ≤ n ∧ x.2.length=n ∧ ∀ j,j < x.1 → x.2[j]?=some (mkPt (k + 3 * j))) (0,l) ⟨by omega,hn,by omega⟩ ?_ (he:=by simp [obOf])
 rintro ⟨i,cs⟩ ⟨hi,hc,hm⟩
 simp only at hi hc hm
 by_cases h2:i < n
 ·obtain ⟨b,f1⟩:∃ b,cs[i]?=some b:=⟨_,List.getElem?_eq_getElem (by omega)⟩
  have h2':(i:Int) < n:=by omega
  have hil:i < cs.length:=by omega
  have f0:cs[i]=b:=(List.getElem?_eq_some_iff.1 f1).2
  have e1:=i64w ((i:Int) + 1) (by omega) (by omega)
  have e2:=i64w ((k:Int) + 3 * (i:Int) + 1) (by omega) (by omega)
  have e3:=i64w ((k:Int) + 3 * (i:Int) + 1 + 1) (by omega) (by omega)
  have e4:=i64w ((k:Int) + 3 * (i:Int) + 1 + 1 + 1) (by omega) (by omega)
  simp -implicitDefEqProofs [h2',h2,hil,f0,f1,hc,kpt,PT.row,e1,e2,e3,e4]
  refine nx (i + 1,cs.set i (mkPt (k + 3 * i))) [(1000,1000)] ⟨by simp only;omega,by simp [hc],mkG_step rfl hil hm⟩ (by simp only;omega) (h4:=?_)
  simp [obOf,e1,e2,e3,e4,kpt,List.map_set,PT.row,mkPt]
  first | done | omega | (constructor <;> first | omega | (congr 1 <;> omega)) 
 ·have hie:i=n:=by omega
  subst hie
  have:=mkG_end hc hm
  subst this
  simp -implicitDefEqProofs
theorem markInC (l:List (Int)) (n k:Nat) (hn:l.length=n) (hl:n ≤ 2000000) (hk:k ≤ 500000000) :
  ACall prog 21 [.sl 1000 0 n,.int .i64 k] [(1000,kin l)] (fun r L'=>r=.int .i64 ((k + 1 * n:Nat):Int) ∧ L'=[(1000,kin (mkG mkIn 1 k n))]):=by
 refine acx func21 [] ntmps21 rfl rfl rfl ?_
 simp -implicitDefEqProofs
 refine ev_lp (X:=Nat × List (Int)) [0,1,5] [(1000,1000)] (fun x=>[(5,.int .i64 x.1),(1,.int .i64 ((k + 1 * x.1:Nat):Int))]) (fun x=>[(1000,kin x.2)]) (fun x=>n - x.1)
  (fun x=>x.1 ≤ n ∧ x.2.length=n ∧ ∀ j,j < x.1 → x.2[j]?=some (mkIn (k + 1 * j))) (0,l) ⟨by omega,hn,by omega⟩ ?_ (he:=by simp [obOf])
 rintro ⟨i,cs⟩ ⟨hi,hc,hm⟩
 simp only at hi hc hm
 by_cases h2:i < n
 ·obtain ⟨b,f1⟩:∃ b,cs[i]?=some b:=⟨_,List.getElem?_eq_getElem (by omega)⟩
  have h2':(i:Int) < n:=by omega
  have hil:i < cs.length:=by omega
  have f0:cs[i]=b:=(List.getElem?_eq_some_iff.1 f1).2
  have e1:=i64w ((i:Int) + 1) (by omega) (by omega)
  have e2:=i64w ((k:Int) + (i:Int) + 1) (by omega) (by omega)
  simp -implicitDefEqProofs [h2',h2,hil,f0,f1,hc,kin,intRow,e1,e2]
  refine nx (i + 1,cs.set i (mkIn (k + 1 * i))) [(1000,1000)] ⟨by simp only;omega,by simp [hc],fun j hj=>by simpa using mkG_step (f:=mkIn) (w:=1) (k:=k) rfl hil hm j hj⟩ (by simp only;omega) (h4:=?_)
  simp [obOf,e1,e2,kin,List.map_set,intRow,mkIn]
  first | done | omega | (constructor <;> first | omega | (congr 1 <;> omega)) 
 ·have hie:i=n:=by omega
  subst hie
  have:=mkG_end hc hm
  subst this
  simp -implicitDefEqProofs
end Go.Av.F
end
section
namespace Go.Av.F
open Go Go.Av Go.Proofs Go.Proofs.Tryz
set_option maxRecDepth 100000
theorem heldStrC (n k:Nat) (hl:n ≤ 2000000) (hk:k ≤ 500000000):CV prog 187 [.lst 1 ((mkG mkStr 1 k n).map strRow),.int .i64 k] (.int .i64 ((k + 1 * n:Nat):Int)):=by
 have hn:=mkG_len mkStr 1 k n
 refine cvx func187 [] ntmps187 rfl rfl rfl ?_ (hca:=by simp [strRow])
 simp -implicitDefEqProofs [hn]
 refine ev_lp (X:=Nat) [0,1,5] [] (fun x=>[(5,.int .i64 x),(1,.int .i64 ((k + 1 * x:Nat):Int))]) (fun x=>[]) (fun x=>n - x) (fun x=>x ≤ n) 0 (by omega) ?_
 rintro i hi
 by_cases h2:i < n
 ·have h2':(i:Int) < n:=by omega
  have f1:=mkG_at mkStr (w:=1) (k:=k) h2
  have hil:i < (mkG mkStr 1 k n).length:=by omega
  have f0:(mkG mkStr 1 k n)[i]=mkStr (k + 1 * i):=(List.getElem?_eq_some_iff.1 f1).2
  have e1:=i64w ((i:Int) + 1) (by omega) (by omega)
  have e2:=i64w ((k:Int) + (i:Int) + 1) (by omega) (by omega)
  simp -implicitDefEqProofs [h2',h2,hil,hn,f0,f1,strRow,mkStr,e1,e2]
  refine (markTextI _ (k + 1 * i) (by omega) (by omega)).call ?_
  simp -implicitDefEqProofs [h2',h2,hil,hn,f0,f1,strRow,mkStr,e1,e2]
  refine nx (i + 1) [] (by omega) (h4:=?_)
  simp [e1,e2]
  first | done | omega | (congr 1 <;> omega)
 ·have:i=n:=by omega
  subst this
  simp -implicitDefEqProofs [hn]
theorem heldLtC (n k:Nat) (hl:n ≤ 2000000) (hk:k ≤ 500000000):CV prog 100 [.lst 3 ((mkG mkLt 3 k n).map LT.row),.int .i64 k] (.int .i64 ((k + 3 * n:Nat):Int)):=by
 have hn:=mkG_len mkLt 3 k n
 refine cvx func100 [] ntmps100 rfl rfl rfl ?_ (hca:=by simp [LT.row])
 simp -implicitDefEqProofs [hn]
 refine ev_lp (X:=Nat) [0,1,5] [] (fun x=>[(5,.int .i64 x),(1,.int .i64 ((k + 3 * x:Nat):Int))]) (fun x=>[]) (fun x=>n - x) (fun x=>x ≤ n) 0 (by omega) ?_
 rintro i hi
 by_cases h2:i < n
 ·have h2':(i:Int) < n:=by omega
  have f1:=mkG_at mkLt (w:=3) (k:=k) h2
  have hil:i < (mkG mkLt 3 k n).length:=by omega
  have f0:(mkG mkLt 3 k n)[i]=mkLt (k + 3 * i):=(List.getElem?_eq_some_iff.1 f1).2
  have e1:=i64w ((i:Int) + 1) (by omega) (by omega)
  have e2:=i64w ((k:Int) + 3 * (i:Int) + 1) (by omega) (by omega)
  have e3:IntKind.i64.wrap ((k:Int) + 3 * (i:Int) + 1 + 1)=(k:Int) + 3 * (i:Int) + 2:=by rw [i64w _ (by omega) (by omega)];omega
  have e4:IntKind.i64.wrap ((k:Int) + 3 * (i:Int) + 2 + 1)=(k:Int) + 3 * (i:Int) + 3:=by rw [i64w _ (by omega) (by omega)];omega
  simp -implicitDefEqProofs [h2',h2,hil,hn,f0,f1,LT.row,mkLt,e1,e2,e3,e4]
  refine (markTextI _ (k + 3 * i + 2) (by omega) (by omega)).call ?_
  simp -implicitDefEqProofs [h2',h2,hil,hn,f0,f1,LT.row,mkLt,e1,e2,e3,e4]
  refine nx (i + 1) [] (by omega) (h4:=?_)
  simp [e1,e2,e3,e4]
  first | done | omega | (congr 1 <;> omega)
 ·have:i=n:=by omega
  subst this
  simp -implicitDefEqProofs [hn]
theorem heldDeC (n k:Nat) (hl:n ≤ 2000000) (hk:k ≤ 500000000):CV prog 102 [.lst 3 ((mkG mkDe 3 k n).map DE.row),.int .i64 k] (.int .i64 ((k + 3 * n:Nat):Int)):=by
 have hn:=mkG_len mkDe 3 k n
 refine cvx func102 [] ntmps102 rfl rfl rfl ?_ (hca:=by simp [DE.row])
 simp -implicitDefEqProofs [hn]
 refine ev_lp (X:=Nat) [0,1,5] [] (fun x=>[(5,.int .i64 x),(1,.int .i64 ((k + 3 * x:Nat):Int))]) (fun x=>[]) (fun x=>n - x) (fun x=>x ≤ n) 0 (by omega) ?_
 rintro i hi
 by_cases h2:i < n
 ·have h2':(i:Int) < n:=by omega
  have f1:=mkG_at mkDe (w:=3) (k:=k) h2
  have hil:i < (mkG mkDe 3 k n).length:=by omega
  have f0:(mkG mkDe 3 k n)[i]=mkDe (k + 3 * i):=(List.getElem?_eq_some_iff.1 f1).2
  have e1:=i64w ((i:Int) + 1) (by omega) (by omega)
  have e2:=i64w ((k:Int) + 3 * (i:Int) + 1) (by omega) (by omega)
  have e3:IntKind.i64.wrap ((k:Int) + 3 * (i:Int) + 1 + 1)=(k:Int) + 3 * (i:Int) + 2:=by rw [i64w _ (by omega) (by omega)];omega
  have e4:IntKind.i64.wrap ((k:Int) + 3 * (i:Int) + 2 + 1)=(k:Int) + 3 * (i:Int) + 3:=by rw [i64w _ (by omega) (by omega)];omega
  simp -implicitDefEqProofs [h2',h2,hil,hn,f0,f1,DE.row,mkDe,e1,e2,e3,e4]
  refine nx (i + 1) [] (by omega) (h4:=?_)
  simp [e1,e2,e3,e4]
  first | done | omega | (congr 1 <;> omega)
 ·have:i=n:=by omega
  subst this
  simp -implicitDefEqProofs [hn]
theorem heldPtC (n k:Nat) (hl:n ≤ 2000000) (hk:k ≤ 500000000):CV prog 103 [.lst 3 ((mkG mkPt 3 k n).map PT.row),.int .i64 k] (.int .i64 ((k + 3 * n:Nat):Int)):=by
 have hn:=mkG_len mkPt 3 k n
 refine cvx func103 [] ntmps103 rfl rfl rfl ?_ (hca:=by simp [PT.row])
 simp -implicitDefEqProofs [hn]
 refine ev_lp (X:=Nat) [0,1,5] [] (fun x=>[(5,.int .i64 x),(1,.int .i64 ((k + 3 * x:Nat):Int))]) (fun x=>[]) (fun x=>n - x) (fun x=>x ≤ n) 0 (by omega) ?_
 rintro i hi
 by_cases h2:i < n
 ·have h2':(i:Int) < n:=by omega
  have f1:=mkG_at mkPt (w:=3) (k:=k) h2
  have hil:i < (mkG mkPt 3 k n).length:=by omega
  have f0:(mkG mkPt 3 k n)[i]=mkPt (k + 3 * i):=(List.getElem?_eq_some_iff.1 f1).2
  have e1:=i64w ((i:Int) + 1) (by omega) (by omega)
  have e2:=i64w ((k:Int) + 3 * (i:Int) + 1) (by omega) (by omega)
  have e3:IntKind.i64.wrap ((k:Int) + 3 * (i:Int) + 1 + 1)=(k:Int) + 3 * (i:Int) + 2:=by rw [i64w _ (by omega) (by omega)];omega
  have e4:IntKind.i64.wrap ((k:Int) + 3 * (i:Int) + 2 + 1)=(k:Int) + 3 * (i:Int) + 3:=by rw [i64w _ (by omega) (by omega)];omega
  simp -implicitDefEqProofs [h2',h2,hil,hn,f0,f1,PT.row,mkPt,e1,e2,e3,e4]
  refine nx (i + 1) [] (by omega) (h4:=?_)
  simp [e1,e2,e3,e4]
  first | done | omega | (congr 1 <;> omega)
 ·have:i=n:=by omega
  subst this
  simp -implicitDefEqProofs [hn]
theorem heldInC (n k:Nat) (hl:n ≤ 2000000) (hk:k ≤ 500000000):CV prog 104 [.lst 1 ((mkG mkIn 1 k n).map intRow),.int .i64 k] (.int .i64 ((k + 1 * n:Nat):Int)):=by
 have hn:=mkG_len mkIn 1 k n
 refine cvx func104 [] ntmps104 rfl rfl rfl ?_ (hca:=by simp [intRow])
 simp -implicitDefEqProofs [hn]
 refine ev_lp (X:=Nat) [0,1,5] [] (fun x=>[(5,.int .i64 x),(1,.int .i64 ((k + 1 * x:Nat):Int))]) (fun x=>[]) (fun x=>n - x) (fun x=>x ≤ n) 0 (by omega) ?_
 rintro i hi
 by_cases h2:i < n
 ·have h2':(i:Int) < n:=by omega
  have f1:=mkG_at mkIn (w:=1) (k:=k) h2
  have hil:i < (mkG mkIn 1 k n).length:=by omega
  have f0:(mkG mkIn 1 k n)[i]=mkIn (k + 1 * i):=(List.getElem?_eq_some_iff.1 f1).2
  have e1:=i64w ((i:Int) + 1) (by omega) (by omega)
  have e2:=i64w ((k:Int) + (i:Int) + 1) (by omega) (by omega)
  simp -implicitDefEqProofs [h2',h2,hil,hn,f0,f1,intRow,mkIn,e1,e2]
  refine nx (i + 1) [] (by omega) (h4:=?_)
  simp [e1,e2]
  first | done | omega | (congr 1 <;> omega)
 ·have:i=n:=by omega
  subst this
  simp -implicitDefEqProofs [hn]
theorem mkH_step {α:Type} {F:Nat → α} {i:Nat} {cs:List α} {b:α} (hb:b=F i) (hi:i < cs.length) (hm:∀ j,j < i → cs[j]?=some (F j)):∀ j,j < i + 1 → (cs.set i b)[j]?=some (F j):=fun j hj=>by
 by_cases hji:j=i
 ·subst hji
  rw [List.getElem?_set_self hi,hb]
 ·rw [List.getElem?_set_ne (Ne.symm hji)]
  exact hm j (by omega)
def mkCs (k:Nat) (m:List PT):CS:=⟨mtB k,((k + 1:Nat):Int),mtB (k + 2),m,⟨((k + 3:Nat):Int),((k + 4:Nat):Int),((k + 5:Nat):Int)⟩,(((k + 6:Nat):Int) % 3 == 0)⟩
def mpAt (l:List CS) (i:Nat):List PT:=(l[i]?).elim [] CS.map
def mkCsL (l:List CS) (k:Nat):List CS:=(List.range l.length).map fun i=>mkCs (k + 7 * i) (mpAt l i)
theorem mkCsL_len (l:List CS) (k:Nat):(mkCsL l k).length=l.length:=by simp [mkCsL]
theorem mkCsL_at {l:List CS} {k i:Nat} (h:i < l.length):(mkCsL l k)[i]?=some (mkCs (k + 7 * i) (mpAt l i)):=by simp [mkCsL,h]
theorem markCsC (l:List CS) (n k:Nat) (hn:l.length=n) (hl:n ≤ 2000000) (hk:k ≤ 500000000) (h8:∀ s ∈ l,s.map.length=8) :
  ACall prog 96 [.sl 1000 0 n,.int .i64 k] [(1000,kcs l)] (fun r L'=>r=.int .i64 ((k + 7 * n:Nat):Int) ∧ L'=[(1000,kcs (mkCsL l k))]):=by
 refine acx func96 [] ntmps96 rfl rfl rfl ?_
 simp -implicitDefEqProofs
 refine ev_lp (X:=Nat × List CS) [0,1,5] [(1000,1000)] (fun x=>[(5,.int .i64 x.1),(1,.int .i64 ((k + 7 * x.1:Nat):Int))]) (fun x=>[(1000,kcs x.2)]) (fun x=>n - x.1)
  (fun x=>x.1 ≤ n ∧ x.2.length=n ∧ (∀ j,j < x.1 → x.2[j]?=some (mkCs (k + 7 * j) (mpAt l j))) ∧ ∀ j,x.1 ≤ j → x.2[j]?=l[j]?) (0,l) ⟨by omega,hn,by omega,fun _ _=>rfl⟩ ?_ (he:=by simp [obOf])
 rintro ⟨i,cs⟩ ⟨hi,hc,hm,hr⟩
 simp only at hi hc hm hr
 by_cases h2:i < n
 ·obtain ⟨s,f1⟩:∃ b,cs[i]?=some b:=⟨_,List.getElem?_eq_getElem (by omega)⟩
  have h2':(i:Int) < n:=by omega
  have hil:i < cs.length:=by omega
  have f0:cs[i]=s:=(List.getElem?_eq_some_iff.1 f1).2
  have g1:l[i]?=some s:=(hr i (Nat.le_refl _)) ▸ f1
  have s8:=h8 s (List.mem_of_getElem? g1)
  have gm:mpAt l i=s.map:=by rw [mpAt,g1];rfl
  have e1:=i64w ((i:Int) + 1) (by omega) (by omega)
  have e2:=i64w ((k:Int) + 7 * (i:Int) + 1) (by omega) (by omega)
  have e3:IntKind.i64.wrap ((k:Int) + 7 * (i:Int) + 1 + 1)=(k:Int) + 7 * (i:Int) + 2:=by rw [i64w _ (by omega) (by omega)];omega
  have e4:IntKind.i64.wrap ((k:Int) + 7 * (i:Int) + 2 + 1)=(k:Int) + 7 * (i:Int) + 3:=by rw [i64w _ (by omega) (by omega)];omega
  have e5:IntKind.i64.wrap ((k:Int) + 7 * (i:Int) + 3 + 1)=(k:Int) + 7 * (i:Int) + 4:=by rw [i64w _ (by omega) (by omega)];omega
  have e6:IntKind.i64.wrap ((k:Int) + 7 * (i:Int) + 4 + 1)=(k:Int) + 7 * (i:Int) + 5:=by rw [i64w _ (by omega) (by omega)];omega
  have e7:IntKind.i64.wrap ((k:Int) + 7 * (i:Int) + 5 + 1)=(k:Int) + 7 * (i:Int) + 6:=by rw [i64w _ (by omega) (by omega)];omega
  have e8:IntKind.i64.wrap ((k:Int) + 7 * (i:Int) + 6 + 1)=(k:Int) + 7 * (i:Int) + 7:=by rw [i64w _ (by omega) (by omega)];omega
  have t1:((k:Int) + 7 * (i:Int) + 6).tmod 3=((k:Int) + 7 * (i:Int) + 6) % 3:=Int.tmod_eq_emod_of_nonneg (by omega)
  obtain ⟨nm,kd,fr,mp,hm',dt⟩:=s
  dsimp only at s8 gm
  obtain ⟨p0,p1,p2,p3,p4,p5,p6,p7,rfl⟩:=eight mp s8
  simp -implicitDefEqProofs [h2',h2,hil,f0,f1,hc,kcs,CS.row,PT.row,e1,e2,e3,e4,e5,e6,e7,e8,t1]
  refine (markTextI _ (k + 7 * i) (by omega) (by omega)).call ?_
  simp -implicitDefEqProofs [h2',h2,hil,f0,f1,hc,kcs,CS.row,PT.row,e1,e2,e3,e4,e5,e6,e7,e8,t1]
  refine (markTextI _ (k + 7 * i + 2) (by omega) (by omega)).call ?_
  simp -implicitDefEqProofs [h2',h2,hil,f0,f1,hc,kcs,CS.row,PT.row,e1,e2,e3,e4,e5,e6,e7,e8,t1]
  refine nx (i + 1,cs.set i (mkCs (k + 7 * i) [p0,p1,p2,p3,p4,p5,p6,p7])) [(1000,1000)] ⟨by simp only;omega,by simp [hc],mkH_step (by rw [gm]) hil hm,fun j hj=>by simp only at hj ⊢;rw [List.getElem?_set_ne (by omega)];exact hr j (by omega)⟩ (by simp only;omega) (h4:=?_)
  simp [obOf,e1,e2,e3,e4,e5,e6,e7,e8,t1,kcs,List.map_set,CS.row,PT.row,mkCs]
  first | done | omega | (constructor <;> first | omega | (congr 1 <;> omega))
 ·have hie:i=n:=by omega
  subst hie
  have:cs=mkCsL l k:=by
   refine List.ext_getElem? fun q=>?_
   by_cases hq:q < cs.length
   ·rw [hm q (by omega),mkCsL_at (by omega)]
   ·rw [List.getElem?_eq_none (by omega),List.getElem?_eq_none (by rw [mkCsL_len];omega)]
  subst this
  simp -implicitDefEqProofs
theorem heldCsC (cs:List CS) (n k:Nat) (hl:n ≤ 2000000) (hk:k ≤ 500000000) (hn:cs.length=n) (hf:∀ i,i < n → ∃ m,m.length=8 ∧ cs[i]?=some (mkCs (k + 7 * i) m)):CV prog 101 [.lst 31 (cs.map CS.row),.int .i64 k] (.int .i64 ((k + 7 * n:Nat):Int)):=by
 refine cvx func101 [] ntmps101 rfl rfl rfl ?_ (hca:=by simp [cs_cl])
 simp -implicitDefEqProofs [hn]
 refine ev_lp (X:=Nat) [0,1,5] [] (fun x=>[(5,.int .i64 x),(1,.int .i64 ((k + 7 * x:Nat):Int))]) (fun x=>[]) (fun x=>n - x) (fun x=>x ≤ n) 0 (by omega) ?_
 rintro i hi
 by_cases h2:i < n
 ·have h2':(i:Int) < n:=by omega
  obtain ⟨m,m8,f1⟩:=hf i h2
  have hil:i < cs.length:=by omega
  obtain ⟨p0,p1,p2,p3,p4,p5,p6,p7,rfl⟩:=eight m m8
  have f0:cs[i]=mkCs (k + 7 * i) [p0,p1,p2,p3,p4,p5,p6,p7]:=(List.getElem?_eq_some_iff.1 f1).2
  have e1:=i64w ((i:Int) + 1) (by omega) (by omega)
  have e2:=i64w ((k:Int) + 7 * (i:Int) + 1) (by omega) (by omega)
  have e3:IntKind.i64.wrap ((k:Int) + 7 * (i:Int) + 1 + 1)=(k:Int) + 7 * (i:Int) + 2:=by rw [i64w _ (by omega) (by omega)];omega
  have e4:IntKind.i64.wrap ((k:Int) + 7 * (i:Int) + 2 + 1)=(k:Int) + 7 * (i:Int) + 3:=by rw [i64w _ (by omega) (by omega)];omega
  have e5:IntKind.i64.wrap ((k:Int) + 7 * (i:Int) + 3 + 1)=(k:Int) + 7 * (i:Int) + 4:=by rw [i64w _ (by omega) (by omega)];omega
  have e6:IntKind.i64.wrap ((k:Int) + 7 * (i:Int) + 4 + 1)=(k:Int) + 7 * (i:Int) + 5:=by rw [i64w _ (by omega) (by omega)];omega
  have e7:IntKind.i64.wrap ((k:Int) + 7 * (i:Int) + 5 + 1)=(k:Int) + 7 * (i:Int) + 6:=by rw [i64w _ (by omega) (by omega)];omega
  have e8:IntKind.i64.wrap ((k:Int) + 7 * (i:Int) + 6 + 1)=(k:Int) + 7 * (i:Int) + 7:=by rw [i64w _ (by omega) (by omega)];omega
  have t1:((k:Int) + 7 * (i:Int) + 6).tmod 3=((k:Int) + 7 * (i:Int) + 6) % 3:=Int.tmod_eq_emod_of_nonneg (by omega)
  simp -implicitDefEqProofs [h2',h2,hil,hn,f0,f1,mkCs,CS.row,PT.row,e1,e2,e3,e4,e5,e6,e7,e8,t1]
  refine (markTextI _ (k + 7 * i) (by omega) (by omega)).call ?_
  simp -implicitDefEqProofs [h2',h2,hil,hn,f0,f1,mkCs,CS.row,PT.row,e1,e2,e3,e4,e5,e6,e7,e8,t1]
  refine (markTextI _ (k + 7 * i + 2) (by omega) (by omega)).call ?_
  simp -implicitDefEqProofs [h2',h2,hil,hn,f0,f1,mkCs,CS.row,PT.row,e1,e2,e3,e4,e5,e6,e7,e8,t1]
  refine nx (i + 1) [] (by omega) (h4:=?_)
  simp [e1,e2,e3,e4,e5,e6,e7,e8,t1]
  first | done | omega | (congr 1 <;> omega)
 ·have:i=n:=by omega
  subst this
  simp -implicitDefEqProofs [hn]
end Go.Av.F
end
section
namespace Go.Av.F
open Go Go.Av Go.Proofs Go.Proofs.Tryz
set_option maxRecDepth 100000
def mkD (d:DK) (k:Nat):DK:=⟨mkG mkStr 1 k d.s0.length,mkG mkStr 1 (k + d.s0.length) d.s1.length,mkG mkLt 3 (k + d.s0.length + d.s1.length) d.late.length⟩
def wD (d:DK):Nat:=d.s0.length + d.s1.length + 3 * d.late.length
def mkC (c:CO) (k:Nat):CO:=⟨c.txg,mkCsL c.sets k,mkG mkDe 3 (k + 7 * c.sets.length) c.ddt.length,mkG mkPt 3 (k + 7 * c.sets.length + 3 * c.ddt.length) c.parts.length,c.dirty,mkG mkIn 1 (k + 7 * c.sets.length + 3 * c.ddt.length + 3 * c.parts.length) c.safe.length,c.logn⟩
def wC (c:CO):Nat:=7 * c.sets.length + 3 * c.ddt.length + 3 * c.parts.length + c.safe.length
def mkP (p:PO) (k:Nat):PO:=⟨mkD p.d k,mkC p.c (k + wD p.d),p.up⟩
def wP (p:PO):Nat:=wD p.d + wC p.c
theorem markA2C (a b:List (List UInt8)) (n0 n1 k:Nat) (ha:a.length=n0) (hb:b.length=n1) (h0:n0 ≤ 2000000) (h1:n1 ≤ 2000000) (hk:k ≤ 400000000) :
  ACall prog 94 [.agg [.sl 1000 0 n0,.sl 1001 0 n1],.int .i64 k] [(1000,strOb a),(1001,strOb b)] (fun r L'=>r=.int .i64 ((k + n0 + n1:Nat):Int) ∧ L'=[(1000,strOb (mkG mkStr 1 k n0)),(1001,strOb (mkG mkStr 1 (k + n0) n1))]):=by
 have c1:=markStrC a n0 k ha h0 (by omega)
 have c2:=markStrC b n1 (k + n0) hb h1 (by omega)
 simp only [Nat.one_mul,Int.natCast_add] at c1 c2
 refine acx func94 [] ntmps94 rfl rfl rfl ?_
 simp -implicitDefEqProofs
 refine ev_lo (X:=Nat) [1,2,5] [(2,2),(1000,1000),(1001,1001)] (fun i=>[(5,.int .i64 i),(1,.int .i64 (if i=0 then (k:Int) else if i=1 then (k:Int) + n0 else (k:Int) + n0 + n1))]) (fun i=>[(2,⟨2,[[.sl 1000 0 n0,.sl 1001 0 n1]]⟩),(1000,strOb (if i=0 then a else mkG mkStr 1 k n0)),(1001,strOb (if i=2 then mkG mkStr 1 (k + n0) n1 else b))]) (fun i=>2 - i) (fun i=>i=0 ∨ i=1 ∨ i=2) 0 (.inl rfl) ?_ (he:=by simp [obOf])
 rintro i (rfl | rfl | rfl)
 ·simp -implicitDefEqProofs [obOf]
  refine callA_wh [(1000,.whole 1000)] (by kernel_rfl) c1 (by simp) (by simp) ⟨⟨strOb a,by simp,rfl,rowsMt_cl rfl (clR_str _)⟩,trivial⟩ (by simp) (by simp) ?_
  rintro r L' ⟨rfl,rfl⟩
  refine ⟨[],⟨by simp,by simp,by simp,by simp,by simp⟩,?_⟩
  simp only [afterS]
  simp -implicitDefEqProofs
  exact nx 1 [(2,2),(1000,1000),(1001,1001)] (.inr (.inl rfl)) (h4:=by simp [obOf])
 ·simp -implicitDefEqProofs [obOf]
  refine callA_wh [(1000,.whole 1001)] (by kernel_rfl) c2 (by simp) (by simp) ⟨⟨strOb b,by simp,rfl,rowsMt_cl rfl (clR_str _)⟩,trivial⟩ (by simp) (by simp) ?_
  rintro r L' ⟨rfl,rfl⟩
  refine ⟨[],⟨by simp,by simp,by simp,by simp,by simp⟩,?_⟩
  simp only [afterS]
  simp -implicitDefEqProofs
  exact nx 2 [(2,2),(1000,1000),(1001,1001)] (.inr (.inr rfl)) (h4:=by simp [obOf])
 ·simp -implicitDefEqProofs [obOf]
theorem markDkC (d:DK) (k:Nat) (h:DkT d) (hk:k ≤ 300000000) :
  ACall prog 34 [.agg (dskA d 1000 1001 1002),.int .i64 k] [(1000,strOb d.s0),(1001,strOb d.s1),(1002,ltOb d.late)] (fun r L'=>r=.int .i64 ((k + wD d:Nat):Int) ∧ L'=[(1000,strOb (mkD d k).s0),(1001,strOb (mkD d k).s1),(1002,ltOb (mkD d k).late)]):=by
 have l0:=h.l0
 have l1:=h.l1
 have l2:=h.l2
 have c1:=markA2C d.s0 d.s1 d.s0.length d.s1.length k rfl rfl (by omega) (by omega) (by omega)
 have c2:=markLtC d.late d.late.length (k + d.s0.length + d.s1.length) rfl (by omega) (by omega)
 simp only [Nat.one_mul,Int.natCast_add,Int.natCast_mul,Int.cast_ofNat_Int] at c1 c2
 refine acx func34 [] ntmps34 rfl rfl rfl ?_
 simp -implicitDefEqProofs [dskA]
 refine callA_wh [(1000,.whole 1000),(1001,.whole 1001)] (by kernel_rfl) c1 (by simp) (by simp) ⟨⟨strOb d.s0,by simp,rfl,rowsMt_cl rfl (clR_str _)⟩,⟨strOb d.s1,by simp,rfl,rowsMt_cl rfl (clR_str _)⟩,trivial⟩ (by simp) (by simp) ?_
 rintro r L' ⟨rfl,rfl⟩
 refine ⟨[],⟨by simp,by simp,by simp,by simp,by simp⟩,?_⟩
 simp only [afterS]
 simp -implicitDefEqProofs
 refine callA_wh [(1000,.whole 1002)] (by kernel_rfl) c2 (by simp) (by simp) ⟨⟨ltOb d.late,by simp,rfl,rowsMt_cl rfl (clR_lt _)⟩,trivial⟩ (by simp) (by simp) ?_
 rintro r L' ⟨rfl,rfl⟩
 refine ⟨[],⟨by simp,by simp,by simp,by simp,by simp⟩,?_⟩
 simp only [afterS]
 simp -implicitDefEqProofs [mkD,wD]
 first | done | omega
theorem markCoC (c:CO) (k:Nat) (h:CoT c) (hk:k ≤ 300000000) :
  ACall prog 35 [coreA c 1000 1001 1002 1003,.int .i64 k] [(1000,kcs c.sets),(1001,deOb c.ddt),(1002,kpt c.parts),(1003,kin c.safe)] (fun r L'=>r=.int .i64 ((k + wC c:Nat):Int) ∧ L'=[(1000,kcs (mkC c k).sets),(1001,deOb (mkC c k).ddt),(1002,kpt (mkC c k).parts),(1003,kin (mkC c k).safe)]):=by
 have l0:=h.sets
 have l1:=h.ddt
 have l2:=h.parts
 have l3:=h.safe
 have c1:=markCsC c.sets c.sets.length k rfl (by omega) (by omega) h.m8
 have c2:=markDeC c.ddt c.ddt.length (k + 7 * c.sets.length) rfl (by omega) (by omega)
 have c3:=markPtC c.parts c.parts.length (k + 7 * c.sets.length + 3 * c.ddt.length) rfl (by omega) (by omega)
 have c4:=markInC c.safe c.safe.length (k + 7 * c.sets.length + 3 * c.ddt.length + 3 * c.parts.length) rfl (by omega) (by omega)
 simp only [Nat.one_mul,Int.natCast_add,Int.natCast_mul,Int.cast_ofNat_Int] at c1 c2 c3 c4
 refine acx func35 [] ntmps35 rfl rfl rfl ?_
 simp -implicitDefEqProofs [coreA]
 refine callA_wh [(1000,.whole 1000)] (by kernel_rfl) c1 (by simp) (by simp) ⟨⟨kcs c.sets,by simp,rfl,rowsMt_cl rfl (clR_kcs _)⟩,trivial⟩ (by simp) (by simp) ?_
 rintro r L' ⟨rfl,rfl⟩
 refine ⟨[],⟨by simp,by simp,by simp,by simp,by simp⟩,?_⟩
 simp only [afterS]
 simp -implicitDefEqProofs
 refine callA_wh [(1000,.whole 1001)] (by kernel_rfl) c2 (by simp) (by simp) ⟨⟨deOb c.ddt,by simp,rfl,rowsMt_cl rfl (clR_de _)⟩,trivial⟩ (by simp) (by simp) ?_
 rintro r L' ⟨rfl,rfl⟩
 refine ⟨[],⟨by simp,by simp,by simp,by simp,by simp⟩,?_⟩
 simp only [afterS]
 simp -implicitDefEqProofs
 refine callA_wh [(1000,.whole 1002)] (by kernel_rfl) c3 (by simp) (by simp) ⟨⟨kpt c.parts,by simp,rfl,rowsMt_cl rfl (clR_kpt _)⟩,trivial⟩ (by simp) (by simp) ?_
 rintro r L' ⟨rfl,rfl⟩
 refine ⟨[],⟨by simp,by simp,by simp,by simp,by simp⟩,?_⟩
 simp only [afterS]
 simp -implicitDefEqProofs
 refine callA_wh [(1000,.whole 1003)] (by kernel_rfl) c4 (by simp) (by simp) ⟨⟨kin c.safe,by simp,rfl,rowsMt_cl rfl (clR_kin _)⟩,trivial⟩ (by simp) (by simp) ?_
 rintro r L' ⟨rfl,rfl⟩
 refine ⟨[],⟨by simp,by simp,by simp,by simp,by simp⟩,?_⟩
 simp only [afterS]
 simp -implicitDefEqProofs [mkC,wC]
 first | done | omega
theorem wD_le {d:DK} (h:DkT d):wD d ≤ 5242880:=by
 have l0:=h.l0
 have l1:=h.l1
 have l2:=h.l2
 unfold wD
 omega
theorem markPoC (p:PO) (k:Nat) (hd:DkT p.d) (hc:CoT p.c) (hk:k ≤ 200000000) :
  ACall prog 13 [.agg (poolA p 1000 1001 1002 1003 1004 1005 1006),.int .i64 k] (poolL p 1000 1001 1002 1003 1004 1005 1006) (fun r L'=>r=.int .i64 ((k + wP p:Nat):Int) ∧ L'=poolL (mkP p k) 1000 1001 1002 1003 1004 1005 1006):=by
 have w1:=wD_le hd
 have c1:=markDkC p.d k hd (by omega)
 have c2:=markCoC p.c (k + wD p.d) hc (by omega)
 simp only [Nat.one_mul,Int.natCast_add,Int.natCast_mul,Int.cast_ofNat_Int,dskA,coreA] at c1 c2
 simp only [poolA,poolL]
 refine acx func13 [] ntmps13 rfl rfl rfl ?_
 simp -implicitDefEqProofs
 refine callA_wh [(1000,.whole 1000),(1001,.whole 1001),(1002,.whole 1002)] (by kernel_rfl) c1 (by simp) (by simp) ⟨⟨strOb p.d.s0,by simp,rfl,rowsMt_cl rfl (clR_str _)⟩,⟨strOb p.d.s1,by simp,rfl,rowsMt_cl rfl (clR_str _)⟩,⟨ltOb p.d.late,by simp,rfl,rowsMt_cl rfl (clR_lt _)⟩,trivial⟩ (by simp) (by simp) ?_
 rintro r L' ⟨rfl,rfl⟩
 refine ⟨[],⟨by simp,by simp,by simp,by simp,by simp⟩,?_⟩
 simp only [afterS]
 simp -implicitDefEqProofs
 refine callA_wh [(1000,.whole 1003),(1001,.whole 1004),(1002,.whole 1005),(1003,.whole 1006)] (by kernel_rfl) c2 (by simp) (by simp) ⟨⟨kcs p.c.sets,by simp,rfl,rowsMt_cl rfl (clR_kcs _)⟩,⟨deOb p.c.ddt,by simp,rfl,rowsMt_cl rfl (clR_de _)⟩,⟨kpt p.c.parts,by simp,rfl,rowsMt_cl rfl (clR_kpt _)⟩,⟨kin p.c.safe,by simp,rfl,rowsMt_cl rfl (clR_kin _)⟩,trivial⟩ (by simp) (by simp) ?_
 rintro r L' ⟨rfl,rfl⟩
 refine ⟨[],⟨by simp,by simp,by simp,by simp,by simp⟩,?_⟩
 simp only [afterS]
 simp -implicitDefEqProofs [mkP,wP]
 first | done | omega
theorem heldA2C (n0 n1 k:Nat) (h0:n0 ≤ 2000000) (h1:n1 ≤ 2000000) (hk:k ≤ 400000000) :
  CV prog 99 [.agg [.lst 1 ((mkG mkStr 1 k n0).map strRow),.lst 1 ((mkG mkStr 1 (k + n0) n1).map strRow)],.int .i64 k] (.int .i64 ((k + n0 + n1:Nat):Int)):=by
 have c1:=heldStrC n0 k h0 (by omega)
 have c2:=heldStrC n1 (k + n0) h1 (by omega)
 simp only [Nat.one_mul,Int.natCast_add] at c1 c2
 generalize mkG mkStr 1 k n0=a at *
 generalize mkG mkStr 1 (k + n0) n1=b at *
 refine cvx func99 [] ntmps99 rfl rfl rfl ?_ (hca:=by simp [strRow])
 simp -implicitDefEqProofs
 refine ev_lp (X:=Nat) [1,2,5] [(2,2)] (fun i=>[(5,.int .i64 i),(1,.int .i64 (if i=0 then (k:Int) else if i=1 then (k:Int) + n0 else (k:Int) + n0 + n1))]) (fun x=>[]) (fun x=>2 - x) (fun x=>x=0 ∨ x=1 ∨ x=2) 0 (.inl rfl) ?_ (he:=by simp [obOf,strRow])
 have q1:¬ (k:Int) + n0 < 0:=by omega
 have q2:¬ (k:Int) + n0 + n1 < 0:=by omega
 rintro i (rfl | rfl | rfl)
 ·simp -implicitDefEqProofs [obOf,strRow]
  refine c1.call ?_
  simp -implicitDefEqProofs [q1]
  exact nx 1 [(2,2)] (.inr (.inl rfl)) (h4:=by simp [obOf,strRow])
 ·simp -implicitDefEqProofs [obOf,strRow]
  refine c2.call ?_
  simp -implicitDefEqProofs [q2]
  exact nx 2 [(2,2)] (.inr (.inr rfl)) (h4:=by simp [obOf,strRow])
 ·simp -implicitDefEqProofs [obOf]
theorem heldDkC (d:DK) (k:Nat) (h:DkT d) (hk:k ≤ 300000000):CV prog 36 [.agg (mkD d k).row,.int .i64 k] (.int .i64 ((k + wD d:Nat):Int)):=by
 have l0:=h.l0
 have l1:=h.l1
 have l2:=h.l2
 have c1:=heldA2C d.s0.length d.s1.length k (by omega) (by omega) (by omega)
 have c2:=heldLtC d.late.length (k + d.s0.length + d.s1.length) (by omega) (by omega)
 simp only [Nat.one_mul,Int.natCast_add,Int.natCast_mul,Int.cast_ofNat_Int] at c1 c2
 have q1:¬ (k:Int) + d.s0.length + d.s1.length < 0:=by omega
 have q2:¬ (k:Int) + d.s0.length + d.s1.length + 3 * d.late.length < 0:=by omega
 refine cvx func36 [] ntmps36 rfl rfl rfl ?_ (hca:=by simp [DK.row,strRow,LT.row])
 simp -implicitDefEqProofs [DK.row,mkD]
 refine c1.call ?_
 simp -implicitDefEqProofs [q1]
 refine c2.call ?_
 simp -implicitDefEqProofs [q2,wD]
 first | done | omega
theorem heldCoC (c:CO) (k:Nat) (h:CoT c) (hk:k ≤ 300000000):CV prog 37 [.agg (mkC c k).row,.int .i64 k] (.int .i64 ((k + wC c:Nat):Int)):=by
 have l0:=h.sets
 have l1:=h.ddt
 have l2:=h.parts
 have l3:=h.safe
 have c1:=heldCsC (mkCsL c.sets k) c.sets.length k (by omega) (by omega) (mkCsL_len _ _) (fun i hi=>⟨_,by
  show (mpAt c.sets i).length=8
  rw [mpAt,List.getElem?_eq_getElem hi]
  exact h.m8 _ (List.getElem_mem hi),mkCsL_at hi⟩)
 have c2:=heldDeC c.ddt.length (k + 7 * c.sets.length) (by omega) (by omega)
 have c3:=heldPtC c.parts.length (k + 7 * c.sets.length + 3 * c.ddt.length) (by omega) (by omega)
 have c4:=heldInC c.safe.length (k + 7 * c.sets.length + 3 * c.ddt.length + 3 * c.parts.length) (by omega) (by omega)
 simp only [Nat.one_mul,Int.natCast_add,Int.natCast_mul,Int.cast_ofNat_Int] at c1 c2 c3 c4
 have q1:¬ (k:Int) + 7 * c.sets.length < 0:=by omega
 have q2:¬ (k:Int) + 7 * c.sets.length + 3 * c.ddt.length < 0:=by omega
 have q3:¬ (k:Int) + 7 * c.sets.length + 3 * c.ddt.length + 3 * c.parts.length < 0:=by omega
 have q4:¬ (k:Int) + 7 * c.sets.length + 3 * c.ddt.length + 3 * c.parts.length + c.safe.length < 0:=by omega
 refine cvx func37 [] ntmps37 rfl rfl rfl ?_ (hca:=by simp [CO.row,cs_cl,DE.row,PT.row,intRow])
 simp -implicitDefEqProofs [CO.row,mkC]
 refine c1.call ?_
 simp -implicitDefEqProofs [q1]
 refine c2.call ?_
 simp -implicitDefEqProofs [q2]
 refine c3.call ?_
 simp -implicitDefEqProofs [q3]
 refine c4.call ?_
 simp -implicitDefEqProofs [q4,wC]
 first | done | omega
theorem heldPoC (p:PO) (k:Nat) (hd:DkT p.d) (hc:CoT p.c) (hk:k ≤ 200000000):CV prog 14 [.agg (mkP p k).row,.int .i64 k] (.int .i64 ((k + wP p:Nat):Int)):=by
 have w1:=wD_le hd
 have c1:=heldDkC p.d k hd (by omega)
 have c2:=heldCoC p.c (k + wD p.d) hc (by omega)
 simp only [Nat.one_mul,Int.natCast_add,Int.natCast_mul,Int.cast_ofNat_Int,DK.row,CO.row] at c1 c2
 have q1:¬ (k:Int) + (wD p.d:Int) < 0:=by omega
 have q2:¬ (k:Int) + (wD p.d:Int) + (wC p.c:Int) < 0:=by omega
 refine cvx func14 [] ntmps14 rfl rfl rfl ?_ (hca:=by simp [PO.row,DK.row,CO.row,strRow,LT.row,cs_cl,DE.row,PT.row,intRow])
 simp -implicitDefEqProofs [PO.row,mkP,DK.row,CO.row]
 refine c1.call ?_
 simp -implicitDefEqProofs [q1,PO.row,DK.row,CO.row]
 refine c2.call ?_
 simp -implicitDefEqProofs [q2,wP]
 first | done | omega
end Go.Av.F
end
section
namespace Go.Av.F
open Go Go.Av Go.Proofs Go.Proofs.Tryz
set_option maxRecDepth 100000
theorem szOpTC (o:BO) (l:Int) (hl:0 ≤ l ∧ l ≤ 1048576) (h1:o.a.length ≤ maxLen) (h2:o.b.length ≤ maxLen) (h3:o.text.length ≤ maxLen):∃ z:Int,(0 ≤ z → opS o ∧ o.text.length ≤ 1048576) ∧ z ≤ 1048576 ∧ CV prog 7 [.agg (BO.row o),.int .i64 l] (.int .i64 z):=by
 refine ⟨szSs [o.a,o.b,o.text] l,?_,by have:=(szSs_le [o.a,o.b,o.text] l hl.1).1;omega,?_⟩
 ·intro h
  have:=(szSs_le [o.a,o.b,o.text] l hl.1).2.2 h
  have g1:=this o.a (by simp)
  have g2:=this o.b (by simp)
  have g3:=this o.text (by simp)
  exact ⟨⟨by omega,by omega⟩,by omega⟩
 ·have hml:maxLen=9223372036854775807:=rfl
  refine cvx func7 [] ntmps7 rfl rfl rfl ?_ (hca:=by simp [BO.row])
  have e1:=i64w (l - (o.a.length:Int)) (by omega) (by omega)
  simp only [szSs]
  split
  ·simp -implicitDefEqProofs [BO.row,e1]
   intros
   omega
  ·have e2:=i64w (l - o.a.length - (o.b.length:Int)) (by omega) (by omega)
   split
   ·simp -implicitDefEqProofs [BO.row,e1,e2]
    intros
    omega
   ·have e3:=i64w (l - o.a.length - o.b.length - (o.text.length:Int)) (by omega) (by omega)
    split
    ·simp -implicitDefEqProofs [BO.row,e1,e2,e3]
     intros
     omega
    ·simp -implicitDefEqProofs [BO.row,e1,e2,e3]
     intros
     omega
theorem coT_of2 {c:CO} (hg:CoG c) (hs:CoS c):CoT c:=by
 exact ⟨hs.1,hs.2.1,hs.2.2.1,hs.2.2.2.1,fun s h=>(hg.2.1 s h).2.1,hs.2.2.2.2⟩
theorem poolB_T {p:PO} (hd:DkT p.d) (hc:CoT p.c) (op:BO) (ha:op.a.length ≤ 1048576) (hb:op.b.length ≤ 1048576):DkT (poolB p op).1.d ∧ CoT (poolB p op).1.c:=by
 unfold poolB
 split
 ·exact ⟨zDK_T,zK_T⟩
 ·rename_i h1
  have hok:poolOkB p=true:=by simpa using h1
  simp only [poolOkB,Bool.and_eq_true,decide_eq_true_eq] at hok
  split
  ·exact ⟨hd,hc⟩
  ·split
   ·exact ⟨hd,hc⟩
   ·rename_i h2
    obtain ⟨e1,e2⟩:=callB_T hok.1.1 hc hok.2 op ha hb (by simpa using h2)
    exact ⟨dOk_T e1,e2⟩
def poN:List (Nat × Nat):=[(901,1),(902,1),(903,3),(904,31),(905,3),(906,3),(907,1)]
theorem phN_zp:phsN poN (.tup [.agg [.nils,.nils,.nils,.int .i64 0,.nils,.nils,.nils,.bool false,.nils,.int .i64 0,.bool false],.int .i64 5]) (.tup [.agg (poolA ⟨zDK,zK,false⟩ 901 902 903 904 905 906 907),.int .i64 5]) :=
 phsN_tup (.cons (phsN_agg (.cons (phsN_nil 901) (.cons (phsN_nil 902) (.cons (phsN_nil 903) (.cons (phsN_refl _ _) (.cons (phsN_nil 904) (.cons (phsN_nil 905) (.cons (phsN_nil 906) (.cons (phsN_refl _ _) (.cons (phsN_nil 907) (.cons (phsN_refl _ _) (.cons (phsN_refl _ _) .nil)))))))))))) (.cons (phsN_refl _ _) .nil))
theorem iPoolCallN (p:PO) (hd:DkT p.d) (hc:CoT p.c) (op:BO) (ha:op.a.length ≤ 1048576) (hb:op.b.length ≤ 1048576) (ht:op.text.length ≤ 1048576) :
  ACall prog 11 [.agg p.row,.agg op.row] [] (fun r L'=>r=.tup [.agg (poolA (poolB p op).1 901 902 903 904 905 906 907),.int .i64 (poolB p op).2] ∧ L'=poolL (poolB p op).1 901 902 903 904 905 906 907):=by
 refine ACall.phl poN (iPoolCallO p hd hc op ha hb ht) ?_
 rintro r L' (⟨h1,rfl,rfl⟩ | ⟨rfl,rfl⟩)
 ·have e:poolB p op=(⟨zDK,zK,false⟩,5):=by unfold poolB;rw [if_pos h1]
  rw [e]
  exact .inr ⟨by simp,rfl,_,phN_zp,rfl,rfl⟩
 ·exact .inl ⟨rfl,rfl⟩
theorem lawPoolCall (p:PO) (o:BO) (hd:DkG p.d) (hc:CoG p.c) (ho:BoW o):CV prog 3 [.agg p.row,.agg (BO.row o)] (.bool true):=by
 have c0:=szPoolC p hd hc
 simp only [PO.row,DK.row,CO.row,List.cons_append,List.nil_append] at c0
 refine cvx func3 [(8,[⟨0,[2],[],[],[]⟩,⟨2,[3],[2],[],[]⟩,⟨1,[],[3],[8],[]⟩,⟨3,[],[],[8],[]⟩,⟨4,[],[],[8],[]⟩,⟨5,[],[],[],[]⟩,⟨6,[],[],[],[]⟩,⟨7,[],[],[],[]⟩,⟨8,[],[2,3],[],[]⟩,⟨9,[],[],[],[]⟩,⟨10,[],[],[],[]⟩]),(10,[⟨0,[8],[],[],[]⟩,⟨1,[3],[8],[],[]⟩,⟨2,[],[8],[7],[]⟩,⟨3,[],[],[7],[]⟩,⟨4,[],[],[],[]⟩,⟨5,[],[],[],[]⟩,⟨6,[],[],[],[]⟩,⟨7,[],[8,3],[],[]⟩,⟨8,[],[],[],[]⟩,⟨9,[],[],[],[]⟩]),(13,[⟨0,[8],[],[],[]⟩,⟨1,[2],[8],[],[]⟩,⟨2,[],[8],[],[]⟩,⟨3,[],[],[],[]⟩,⟨4,[],[],[],[]⟩]),(27,[⟨0,[2],[],[],[]⟩,⟨2,[3],[2],[],[]⟩,⟨1,[],[3],[8],[]⟩,⟨3,[],[],[8],[]⟩,⟨4,[],[],[8],[]⟩,⟨5,[],[],[],[]⟩,⟨6,[],[],[],[]⟩,⟨7,[],[],[],[]⟩,⟨8,[],[2,3],[],[]⟩,⟨9,[],[],[],[]⟩,⟨10,[],[],[],[]⟩])] ntmps3 rfl rfl rfl ?_ (hca:=by simp [PO.row,DK.row,co_cl,BO.row])
 simp -implicitDefEqProofs [PO.row,DK.row,CO.row,BO.row]
 refine callA_ex (by kernel_rfl) c0 (by simp [cs_cl,DE.row,PT.row,intRow,strRow,LT.row]) ?_
 rintro r ⟨z,rfl,z1,z2,z3⟩
 by_cases hz:z < 0
 ·simp -implicitDefEqProofs [hz]
 obtain ⟨zd,zc⟩:=z3 (by omega)
 have hdT:=dkT_of zd
 have hcT:=coT_of2 hc zc
 simp -implicitDefEqProofs [hz]
 obtain ⟨y,hy1,hy3,hy2⟩:=szOpTC o z ⟨by omega,by omega⟩ ho.1 ho.2.1 ho.2.2
 simp only [BO.row] at hy2
 refine hy2.call ?_
 by_cases g0:y < 0
 ·simp -implicitDefEqProofs [g0]
 obtain ⟨⟨ha,hb⟩,ht⟩:=hy1 (by omega)
 have c1:=toPoC p hdT hcT
 have c2:=toOpC o
 have c3:=sPoolCallC p hdT hcT o ha hb ht
 have c4:=iPoolCallC p hdT hcT o ha hb ht
 have c5:=toPoO p hdT hcT
 have c6:=iPoolCallN p hdT hcT o ha hb ht
 obtain ⟨qd,qc⟩:=poolB_T hdT hcT o ha hb
 generalize poolB p o=R at *
 obtain ⟨q,n⟩:=R
 simp only at qd qc
 have c7:=eqPoR q qd qc
 have c8:=eqPoR p hdT hcT
 have c9:=markPoC p 1 hdT hcT (by omega)
 have c10:=markPoC q 1 qd qc (by omega)
 have c11:=heldPoC q 1 qd qc (by omega)
 simp only [PO.row,DK.row,CO.row,BO.row,poolA,poolL,List.cons_append,List.nil_append,Int.natCast_add,Int.cast_ofNat_Int,Int.natCast_one] at c1 c2 c3 c4 c5 c6 c7 c8 c9 c10 c11
 simp -implicitDefEqProofs [g0,PO.row,DK.row,CO.row,BO.row]
 refine c1.call ?_
 simp -implicitDefEqProofs
 refine c2.call ?_
 simp -implicitDefEqProofs
 refine c3.call ?_
 simp -implicitDefEqProofs
 refine callA_wh [] (by kernel_rfl) c5 (by simp [cs_cl,DE.row,PT.row,intRow,strRow,LT.row]) (by simp) trivial (by simp) (by simp) ?_
 rintro r L' ⟨rfl,rfl⟩
 refine ⟨[(901,901),(902,902),(903,903),(904,904),(905,905),(906,906),(907,907)],⟨by simp,by simp,by simp,by simp,by simp⟩,?_⟩
 simp only [afterS]
 simp -implicitDefEqProofs
 refine c2.call ?_
 simp -implicitDefEqProofs
 refine callA_vw [] (by kernel_rfl) c6 (by simp [vwOk,mtA,strOb,ltOb,kcs,deOb,kpt,kin,tk_map,cs_cl,strRow,LT.row]) (by simp) trivial (by simp) (by simp) ?_
 rintro r L' ⟨rfl,rfl⟩
 refine ⟨by simp [noL],by simp [strOb,ltOb,kcs,deOb,kpt,kin,intRow,DE.row,PT.row,noL_cs,strRow,LT.row],[(901,911),(902,912),(903,913),(904,914),(905,915),(906,916),(907,917)],⟨by simp,by simp,by simp,by simp,by simp⟩,?_⟩
 simp only [afterS]
 simp -implicitDefEqProofs
 refine c7.view (by simp [vwOk,mtA,strOb,ltOb,kcs,deOb,kpt,kin,tk_map,cs_cl,strRow,LT.row]) ?_
 simp -implicitDefEqProofs
 refine c1.call ?_
 simp -implicitDefEqProofs
 refine c8.view (by simp [vwOk,mtA,strOb,ltOb,kcs,deOb,kpt,kin,tk_map,cs_cl,strRow,LT.row]) ?_
 simp -implicitDefEqProofs
 refine callA_wh [(1000,.whole 901),(1001,.whole 902),(1002,.whole 903),(1003,.whole 904),(1004,.whole 905),(1005,.whole 906),(1006,.whole 907)] (by kernel_rfl) c9 (by simp) (by simp) ⟨⟨strOb p.d.s0,by simp,rfl,rowsMt_cl rfl (clR_str _)⟩,⟨strOb p.d.s1,by simp,rfl,rowsMt_cl rfl (clR_str _)⟩,⟨ltOb p.d.late,by simp,rfl,rowsMt_cl rfl (clR_lt _)⟩,⟨kcs p.c.sets,by simp,rfl,rowsMt_cl rfl (clR_kcs _)⟩,⟨deOb p.c.ddt,by simp,rfl,rowsMt_cl rfl (clR_de _)⟩,⟨kpt p.c.parts,by simp,rfl,rowsMt_cl rfl (clR_kpt _)⟩,⟨kin p.c.safe,by simp,rfl,rowsMt_cl rfl (clR_kin _)⟩,trivial⟩ (by simp) (by simp) ?_
 rintro r L' ⟨rfl,rfl⟩
 refine ⟨[],⟨by simp,by simp,by simp,by simp,by simp⟩,?_⟩
 simp only [afterS]
 have hw1:¬ (1 + (wP p:Int)) < 0:=by omega
 have hw2:¬ (1 + (wP q:Int)) < 0:=by omega
 simp -implicitDefEqProofs [hw1]
 refine c7.view (by simp [vwOk,mtA,strOb,ltOb,kcs,deOb,kpt,kin,tk_map,cs_cl,strRow,LT.row]) ?_
 simp -implicitDefEqProofs
 refine callA_wh [(1000,.whole 911),(1001,.whole 912),(1002,.whole 913),(1003,.whole 914),(1004,.whole 915),(1005,.whole 916),(1006,.whole 917)] (by kernel_rfl) c10 (by simp) (by simp) ⟨⟨strOb q.d.s0,by simp,rfl,rowsMt_cl rfl (clR_str _)⟩,⟨strOb q.d.s1,by simp,rfl,rowsMt_cl rfl (clR_str _)⟩,⟨ltOb q.d.late,by simp,rfl,rowsMt_cl rfl (clR_lt _)⟩,⟨kcs q.c.sets,by simp,rfl,rowsMt_cl rfl (clR_kcs _)⟩,⟨deOb q.c.ddt,by simp,rfl,rowsMt_cl rfl (clR_de _)⟩,⟨kpt q.c.parts,by simp,rfl,rowsMt_cl rfl (clR_kpt _)⟩,⟨kin q.c.safe,by simp,rfl,rowsMt_cl rfl (clR_kin _)⟩,trivial⟩ (by simp) (by simp) ?_
 rintro r L' ⟨rfl,rfl⟩
 refine ⟨[],⟨by simp,by simp,by simp,by simp,by simp⟩,?_⟩
 simp only [afterS]
 simp -implicitDefEqProofs
 have m0:(mkP q 1).d.s0.length=q.d.s0.length:=mkG_len _ _ _ _
 have m1:(mkP q 1).d.s1.length=q.d.s1.length:=mkG_len _ _ _ _
 have m2:(mkP q 1).d.late.length=q.d.late.length:=mkG_len _ _ _ _
 have m3:(mkP q 1).c.sets.length=q.c.sets.length:=mkCsL_len _ _
 have m4:(mkP q 1).c.ddt.length=q.c.ddt.length:=mkG_len _ _ _ _
 have m5:(mkP q 1).c.parts.length=q.c.parts.length:=mkG_len _ _ _ _
 have m6:(mkP q 1).c.safe.length=q.c.safe.length:=mkG_len _ _ _ _
 have m7:(mkP q 1).c.txg=q.c.txg ∧ (mkP q 1).c.dirty=q.c.dirty ∧ (mkP q 1).c.logn=q.c.logn ∧ (mkP q 1).up=q.up:=⟨rfl,rfl,rfl,rfl⟩
 obtain ⟨m7,m8,m9,m10⟩:=m7
 simp only [m7,m8,m9,m10] at c11
 generalize mkP q 1=Q at *
 simp only [← m0,← m1,← m2,← m3,← m4,← m5,← m6]
 refine c11.view (by simp [vwOk,mtA,strOb,ltOb,kcs,deOb,kpt,kin,tk_map,cs_cl,strRow,LT.row]) ?_
 simp -implicitDefEqProofs [hw2]
 refine c1.call ?_
 simp -implicitDefEqProofs
 refine c2.call ?_
 simp -implicitDefEqProofs
 refine c4.call ?_
 simp -implicitDefEqProofs
 refine c7.call ?_
 simp -implicitDefEqProofs
 refine c11.view (by simp [vwOk,mtA,strOb,ltOb,kcs,deOb,kpt,kin,tk_map,cs_cl,strRow,LT.row]) ?_
 simp -implicitDefEqProofs [hw2]
end Go.Av.F
end
section
namespace Go.Av.F
open Go Go.Av Go.Proofs Go.Proofs.Tryz
set_option maxRecDepth 100000
theorem strs_shp {n:Nat} {avs:List AV} (h:Shp prog (n + 2) 22 avs):∃ l:List (List UInt8),(l.length ≤ maxLen ∧ ∀ t ∈ l,t.length ≤ maxLen) ∧ avs=[.lst 1 (l.map strRow)]:=by
 obtain ⟨e2,m2,rfl,k2⟩:=shp_slice underlying22 h
 obtain ⟨l2,rfl,g2⟩:=rows_ex strRow (fun t:List UInt8=>t.length ≤ maxLen) e2 fun r hr=>str_shp (k2 r hr)
 have c1:prog.cellsOf 9=1:=by kernel_rfl
 rw [c1]
 exact ⟨l2,⟨by simpa using m2,g2⟩,rfl⟩
theorem lt_shp {n:Nat} {avs:List AV} (h:Shp prog (n + 2) 185 avs):∃ x:LT,x.lx.length ≤ maxLen ∧ avs=x.row:=by
 obtain ⟨a1,b1,rfl,h1,a2,b2,rfl,h2,a3,b3,rfl,h3,rfl⟩:=shp_struct underlying185 h
 obtain ⟨z1,g1,rfl⟩:=shp_i64 h1
 obtain ⟨z2,g2,rfl⟩:=shp_i64 h2
 obtain ⟨s3,m3,rfl⟩:=shp_string underlying9 h3
 exact ⟨⟨z1,z2,s3⟩,m3,rfl⟩
theorem dk_shp {n:Nat} {avs:List AV} (h:Shp prog (n + 6) 26 avs):∃ d:DK,DkG d ∧ avs=d.row:=by
 obtain ⟨a1,b1,rfl,h1,a2,b2,rfl,h2,rfl⟩:=shp_struct underlying26 h
 obtain ⟨l,hl,rfl,hg⟩:=arr_ex (fun l:List (List UInt8)=>[.lst 1 (l.map strRow)]) (fun l=>l.length ≤ maxLen ∧ ∀ t ∈ l,t.length ≤ maxLen) _ (fun r hr=>strs_shp hr) 2 a1 (shp_array underlying23 h1)
 obtain ⟨e2,m2,rfl,k2⟩:=shp_slice underlying24 h2
 obtain ⟨l2,rfl,g2⟩:=rows_ex LT.row (fun x=>x.lx.length ≤ maxLen) e2 fun r hr=>lt_shp (k2 r hr)
 have c1:prog.cellsOf 185=3:=by kernel_rfl
 rw [c1]
 match l,hl with
 | [s0,s1],_ =>
  have q0:=hg s0 (by simp)
  have q1:=hg s1 (by simp)
  exact ⟨⟨s0,s1,l2⟩,⟨q0.1,q1.1,by simpa using m2,q0.2,q1.2,g2⟩,rfl⟩
structure PoG (p:PO):Prop where
 d:DkG p.d
 c:CoG p.c
theorem po_shp {avs:List AV} (h:Shp prog 10 34 avs):∃ p:PO,PoG p ∧ avs=p.row:=by
 obtain ⟨a1,b1,rfl,h1,a2,b2,rfl,h2,a3,b3,rfl,h3,rfl⟩:=shp_struct underlying34 h
 obtain ⟨d,gd,rfl⟩:=dk_shp h1
 obtain ⟨c,gc,rfl⟩:=core_shp h2
 obtain ⟨u,rfl⟩:=shp_bool underlying4 h3
 exact ⟨⟨d,c,u⟩,⟨gd,gc⟩,by simp [PO.row]⟩
theorem lawPoolCall' (p:PO) (o:BO) (hp:PoG p) (ho:BoW o):CV prog 3 [.agg p.row,.agg o.row] (.bool true):=lawPoolCall p o hp.d hp.c ho
end Go.Av.F
end
section
namespace Go.Av
open Go.RowKit Go.ChangeShapes Go.WideShapes Go.ChangeAt
variable {P:Program} {W:World}
theorem laid_at {n:String} {d:DataW Unit}:∀ {laid:List (String × DataW Unit)} {ps:List MemPlace},DataW.LaidVars P W laid ps → (n,d) ∈ laid →
  ∃ g t cs fuel p,P.globalNamed n=some g ∧ (P.globals[g]?).map (·.type)=some t ∧ W.var? P n=some cs ∧ DataW.trod (fun _=>()) P W 0 (fun _=>true) false fuel t cs.toList=some (d,p)
 | [],ps,_,hm=>by simp at hm
 | (m,e) :: r,ps,h,hm=>by
  obtain ⟨g,t,cs,fuel,p,q,h1,h2,h3,h4,h5,_⟩:=h
  rcases List.mem_cons.1 hm with hm | hm
  ·injection hm with e1 e2
   subst e1;subst e2
   exact ⟨g,t,cs,fuel,p,h1,h2,h3,h4⟩
  ·exact laid_at h5 hm
theorem var_gl {n:String} {g:Nat} {cs:Array Value} (hg:P.globalNamed n=some g) (hv:W.var? P n=some cs) (avs:List AV) (hl:avs.length=cs.size) (hne:avs ≠ []) (hr:∀ j,j < avs.length → AVRel W (Old W) noG (avs.getD j .top) (cs.getD j undef)) :
  AVRel W (Old W) noG (.elm avs) (.pointer (some ⟨g,0,none⟩)) ∧ Old W ⟨g,avs.length,none⟩ ∧ W.cell? ⟨g,avs.length,none⟩=none:=by
 have hc:=fun i=>World.var?_cell hg hv i
 have h0:0 < cs.size:=by rw [← hl];exact List.length_pos_iff.2 hne
 have hcell:∀ j,j < avs.length → W.cell? ⟨g,j,none⟩=some (cs.getD j undef):=fun j hj=>by
  rw [hc,Array.getElem?_eq_getElem (by omega)]
  simp [Array.getD,show j < cs.size by omega]
 have hb:g < W.heap.size:=World.block_lt_of_cell? W _ (hcell 0 (by omega))
 refine ⟨.elm _ avs _ (fun j=>cs.getD j undef) rfl (fun j hj=>hb) (fun j hj=>?_) hr,hb,?_⟩
 ·simpa [Addr.at] using hcell j hj
 ·rw [hc,Array.getElem?_eq_none (by omega)]
theorem laid_tab {laid:List (String × DataW Unit)} (h:laidMet P laid W) {n:String} {g:Nat} {zs:List Int} {k:IntKind} {t e:TypeId} {m:Nat} (hm:(n,(Lib.tabData k zs:DataW Unit)) ∈ laid) (hg:P.globalNamed n=some g) (hty:(P.globals[g]?).map (·.type)=some t)
  (ht:P.underlying t=some (.array m e)) (he:P.underlying e=some (.int k)) (hce:P.cellsOf e=1) (hct:P.cellsOf t=m) (hne:zs ≠ []) :
  AVRel W (Old W) noG (.elm (zs.map (AV.int k))) (.pointer (some ⟨g,0,none⟩)) ∧ Old W ⟨g,(zs.map (AV.int k)).length,none⟩ ∧ W.cell? ⟨g,(zs.map (AV.int k)).length,none⟩=none:=by
 obtain ⟨ps,hL,_⟩:=h
 obtain ⟨g',t',cs,fuel,p,h1,h2,h3,h4⟩:=laid_at hL hm
 obtain rfl:=Option.some.inj (hg.symm.trans h1)
 obtain rfl:=Option.some.inj (hty.symm.trans h2)
 have hcs:=Lib.cells_of_tab ht he hce hct h4
 have hcs2:cs=(zs.map fun z=>Value.int k z).toArray:=by rw [← hcs]
 subst hcs2
 refine var_gl hg h3 _ (by simp) (by simpa using hne) fun j hj=>?_
 simp only [List.length_map] at hj
 simp [List.getD,Array.getD,hj]
 exact .int _ _ _
end Go.Av
end
section
namespace Go.Proofs.YtcbjbdnmhlhijaaGreatDoor
open Go.ChangeShapes Go.WideShapes Go.ChangeAt Go.RowKit
theorem fact_own:ownKnob Tryz.prog.godebug=none:=by kernel_rfl
theorem fact_laidOut:laidOutB Tryz.prog=true:=by kernel_rfl
theorem fact_mapsRowed:mapsRowed Tryz.prog=true:=by kernel_rfl
theorem fact_heard:Tryz.prog.stopsHeard=true:=by kernel_rfl
theorem fact_mayEnter:Tryz.prog.mayEnter=true:=by kernel_rfl
theorem fact_main:Tryz.pinned.checked.prog.mainIs=some (true,"cc65649d1714594bef1c6ae0d5c90554964daf48a54f1a68d9d0a9d5f85e006a".toList):=by kernel_rfl
theorem fact_looks:true=Tryz.prog.looks []:=by kernel_rfl
theorem fact_nogo:Tryz.prog.funcs.any Func.goes=false:=by kernel_rfl
theorem goes_none {P:Program} (h:P.funcs.any Func.goes=false) (f:Nat):P.goes f=false:=by
 unfold Program.goes
 rw [h,Bool.and_false,Bool.or_false,List.any_eq_false]
 intro g _
 cases hg:P.funcs[g]? with
 | none=>simp
 | some fn =>
  rw [Array.any_eq_false] at h
  obtain ⟨hl,rfl⟩:=Array.getElem?_eq_some_iff.1 hg
  simpa using h g hl
theorem goesBy_none {P:Program} (h:P.funcs.any Func.goes=false) (c:OpenClaim):false=c.goesBy P:=by
 unfold OpenClaim.goesBy Program.goesAt Program.goesFrom
 have e:P.goes=fun _=>false:=funext fun f=>goes_none h f
 rw [e]
 cases P.funcNamed c.func <;> cases c.start <;> simp
end Go.Proofs.YtcbjbdnmhlhijaaGreatDoor
end
