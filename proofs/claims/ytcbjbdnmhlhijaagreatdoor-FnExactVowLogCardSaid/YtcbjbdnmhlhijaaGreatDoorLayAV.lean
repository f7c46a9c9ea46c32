/- Lemmas for the proof, no statement of the seat; no conditions. -/
import Derived.Test.YtcbjbdnmhlhijaaGreatDoorLayAU
import Derived.Lib.LaidTab
import Derived.FnData
import Derived.Test.YtcbjbdnmhlhijaaGreatDoorRows
import Derived.Test.YtcbjbdnmhlhijaaGreatDoorCards
import Derived.ProofKit
import Derived.OpenShut
import Derived.LaidMore
import Derived.Lay
import Derived.SevenTiedAt
import Derived.Stop.Joined
set_option linter.unusedSimpArgs false
set_option linter.unusedVariables false
set_option linter.unnecessarySimpa false
set_option maxRecDepth 100000
section
namespace Go.Av.F
open Go Go.Av Go.Proofs Go.Proofs.Tryz
theorem iBookC (d:DK) (h:DkT d) (c:CO) (hc:CoT c):CV prog 51 [.agg d.row,.agg c.row] (.tup [bk (cbB d c).1,.bool (cbB d c).2]):=by
 refine cbQ_cv ?_ (by kernel_rfl) (by simp[DK.row,co_cl])
 obtain⟨R,hR⟩:∃ R,cbB d c=R:=⟨_,rfl⟩
 rw[hR]
 unfold cbB at hR
 have c1:=iDiskOkC d h
 have c2:=iCoreOk c hc
 have hs:=hc.sets
 have c3:=frameA c (by omega) hc.m8
 simp only[DK.row,CO.row]at c1 c2 c3
 refine acx func51 [] ntmps51 rfl rfl rfl ?_
 simp -implicitDefEqProofs [DK.row,CO.row]
 refine c1.call ?_
 cases k1:dOkB d with
 | false =>
  rw[if_neg (by simp[k1])]at hR
  subst hR
  simp -implicitDefEqProofs
  exact⟨[],by simp,.inl ⟨rfl,rfl,rfl⟩⟩
 | true =>
  simp -implicitDefEqProofs
  refine c2.call ?_
  cases k2:qax c with
  | false =>
   rw[if_neg (by simp[k2])]at hR
   subst hR
   simp -implicitDefEqProofs
   exact⟨[],by simp,.inl ⟨rfl,rfl,rfl⟩⟩
  | true =>
   simp -implicitDefEqProofs
   refine qaf [] (by kernel_rfl) c3 (by simp[cs_cl,DE.row,PT.row,qac]) (by simp) trivial (by simp) (by simp) ?_
   rintro r L' ⟨rfl,rfl⟩
   refine⟨[(900,900)],⟨by simp,by simp,by simp,by simp,by simp⟩,?_⟩
   simp only[qan]
   simp -implicitDefEqProofs
   refine ev_lo (X:=Nat) [2,4,5,6,25,26,27] [(2,2),(4,4),(6,6),(900,900)] (fun i=>[(27,.int .i64 i)]) (fun i=>[(2,⟨3,[d.row]⟩),(4,⟨1,[[.nils]]⟩),(6,⟨1,[[.sl 900 0 c.sets.length]]⟩),(900,bkOb (cbN d c.sets i))]) (fun i=>c.sets.length-i) (fun i=>i≤c.sets.length∧cbA d (c.sets.take i)=true) 0 ⟨by omega,by simp[cbA]⟩ ?_ (he:=by simp[obOf,DK.row,CO.row,cbN_0,bkOb])
   rintro i ⟨hi,ha⟩
   by_cases hil:i<c.sets.length
   ·obtain⟨s,f1⟩:∃ s,c.sets[i]?=some s:=⟨_,List.getElem?_eq_getElem hil⟩
    have f0:c.sets[i]=s:=(List.getElem?_eq_some_iff.1 f1).2
    have hm:=List.mem_of_getElem? f1
    have s8:=hc.m8 s hm
    have hrl:=qbf s s8
    have e2:=i64w ((i:Int)+1) (by omega) (by omega)
    have hm24:=cs_map24 s s8
    have htk:List.take 31 s.row=s.row:=cs_take s s8
    simp -implicitDefEqProofs [show(i:Int)<c.sets.length by omega,hil,f0,f1,hrl,htk,hm24,CO.row,DK.row]
    refine⟨cs_ones s,?_⟩
    refine ev_lo (X:=Nat) [2,4,5,6,7,25,26,27,33,34] [(2,2),(4,4),(6,6),(900,900)] (fun j=>[(34,.int .i64 j)]) (fun j=>[(2,⟨3,[d.row]⟩),(4,⟨1,[[.nils]]⟩),(6,⟨1,[[.sl 900 0 c.sets.length]]⟩),(900,bkOb ((cbN d c.sets i).set i (cbM d s j)))]) (fun j=>8-j) (fun j=>j≤8∧(s.map.take j).all (cbP d)=true) 0 ⟨by omega,by simp⟩ ?_ (he:=by simp[obOf,DK.row,CO.row,cbN_zero f1,bkOb])
    rintro j ⟨hj,hja⟩
    by_cases h8:j<8
    ·obtain⟨p,p1⟩:∃ p,s.map[j]?=some p:=⟨_,List.getElem?_eq_getElem (by omega)⟩
     have pm:=List.mem_of_getElem? p1
     have e3:=i64w ((j:Int)+1) (by omega) (by omega)
     have c4:=iBlkReadC d h p
     have hcell:=flat_at p1
     have hst:=cbM_step d s j p s8 h8 p1
     simp only[cbT]at hst
     simp only[DK.row,PT.row]at c4 hcell
     simp -implicitDefEqProofs [show(j:Int)<8 by omega,h8,show(i:Int)<c.sets.length by omega,hil,f0,f1,hrl,hcell,DK.row,CO.row]
     have hsum:(List.map (fun a:PT=>3) s.map).sum=24:=by
      have:=flat3 s.map
      rw[List.length_flatMap,s8]at this
      exact this
     refine⟨by omega,c4.call ?_⟩
     by_cases q1:(qad d p).2=2
     ·have hb:cbP d p=false:=by simp[cbP,q1]
      rw[if_neg (by simp[cbA_no hm pm hb])]at hR
      subst hR
      simp -implicitDefEqProofs [q1]
      exact⟨[],by simp,.inl ⟨rfl,rfl,rfl⟩⟩
     ·by_cases q2:24<(qad d p).1.length
      ·have hb:cbP d p=false:=by
        unfold cbP cbT
        simp only[Bool.and_eq_false_iff,decide_eq_false_iff_not]
        right
        omega
       rw[if_neg (by simp[cbA_no hm pm hb])]at hR
       subst hR
       simp -implicitDefEqProofs [q1,q2,show(24:Int)<(qad d p).1.length by omega]
       exact⟨[],by simp,.inl ⟨rfl,rfl,rfl⟩⟩
      ·have hb:cbP d p=true:=by
        unfold cbP cbT
        simp only[q1,decide_false,Bool.not_false,Bool.true_and,decide_eq_true_eq]
        omega
       have hja2:=all_take1 p1 hja hb
       obtain⟨Y,hY⟩:∃ Y,(cbN d c.sets i).set i (cbM d s j)=Y:=⟨_,rfl⟩
       have hYl:Y.length=c.sets.length:=by rw[← hY];simp[cbN_len]
       have y1:Y[i]?=some (cbM d s j):=by rw[← hY];simp[cbN_len,hil]
       have hiY:i<Y.length:=by omega
       have y0:Y[i]=cbM d s j:=(List.getElem?_eq_some_iff.1 y1).2
       have hml:=cbM_len d s j s8 hj
       have e9:=row_set (cbM d s j) j (qad d p).1 (by omega)
       have hYs:Y.set i (cbM d s (j+1))=(cbN d c.sets i).set i (cbM d s (j+1)):=by rw[← hY,List.set_set]
       rw[hY]
       simp -implicitDefEqProofs [q1,q2,show ¬ (24:Int)<(qad d p).1.length by omega,hil,hiY,y0,y1,hYl,bkOb]
       refine⟨by omega,by omega,nx (j+1) [(2,2),(4,4),(6,6),(900,900)] ⟨by omega,by simpa using hja2⟩ (by omega) (h4:=?_)⟩
       rw[hst]at e9
       simp[obOf,e3,e9,DK.row,CO.row,bkOb,← List.map_set,hYs]
    ·have hje:j=8:=by omega
     subst hje
     rw[List.take_of_length_le (by omega)]at hja
     simp -implicitDefEqProofs [DK.row,CO.row]
     refine nx (i+1) [(2,2),(4,4),(6,6),(900,900)] ⟨by omega,cbA_take f1 ha hja⟩ (by omega) (h4:=?_)
     simp[obOf,e2,DK.row,CO.row,cbN_next f1 s8,bkOb]
   ·have hie:i=c.sets.length:=by omega
    subst hie
    rw[List.take_of_length_le (by omega)]at ha
    rw[if_pos ⟨k1,k2,ha⟩]at hR
    subst hR
    simp -implicitDefEqProofs [CO.row,DK.row]
    exact⟨[(900,bkOb (c.sets.map (cbS d)))],by simp[obOf,cbN_end,bkOb],.inr ⟨_,rfl,by simp,rfl⟩⟩
def xpP (d:DK) (s:CS):Bool:=decide ((qad d s.home).2=0) && (mpRd (qad d s.home).1).2
def xpS (d:DK) (s:CS):CS:={ s with map:=(mpRd (qad d s.home).1).1 }
def xpA (d:DK) (l:List CS):Bool:=l.all (xpP d)
def xpN (d:DK) (l:List CS) (i:Nat):List CS:=(l.take i).map (xpS d)++l.drop i
theorem xpN_0 (d:DK) (l:List CS):xpN d l 0=l:=by simp[xpN]
theorem xpN_len (d:DK) (l:List CS) (i:Nat):(xpN d l i).length=l.length:=by
 simp[xpN]
 omega
theorem xpN_end (d:DK) (l:List CS):xpN d l l.length=l.map (xpS d):=by simp[xpN]
theorem xpN_at {d:DK} {l:List CS} {i:Nat} {s:CS} (hs:l[i]?=some s):(xpN d l i)[i]?=some s∧(xpN d l i).set i (xpS d s)=xpN d l (i+1):=by
 have hl:=(List.getElem?_eq_some_iff.1 hs).1
 have hd:l.drop i=s::l.drop (i+1):=by
  have:=(List.getElem?_eq_some_iff.1 hs).2
  rw[← this]
  exact List.drop_eq_getElem_cons hl
 have ht:l.take (i+1)=l.take i++[s]:=by
  rw[List.take_add_one,hs]
  rfl
 have hn:((l.take i).map (xpS d)).length=i:=by simp;omega
 constructor
 ·unfold xpN
  rw[hd,List.getElem?_append_right (by omega),hn]
  simp
 ·unfold xpN
  rw[hd,ht,List.map_append,List.set_append_right _ _ (by omega),hn]
  simp
theorem xpS_row (d:DK) (s:CS) (h:s.map.length=8) (L:List AV) (hL:L=(mpRd (qad d s.home).1).1.flatMap PT.row):List.take 3 s.row++(L++List.drop 27 s.row)=(xpS d s).row:=by
 subst hL
 obtain⟨n,k,f,m,hm,b⟩:=s
 simp only at h
 have h24:(m.flatMap PT.row).length=24:=by rw[flat3,h]
 simp only[CS.row,xpS]
 congr 1
 rw[show(27:Nat)=24+3 by rfl]
 simp only[List.drop_succ_cons]
 rw[List.drop_append_of_le_length (by omega),List.drop_eq_nil_of_le (by omega)]
 simp
theorem blkRead_len (d:DK) (p:PT):(qad d p).1.length≤420:=by
 unfold qad
 split
 ·simp
 ·split
  ·rename_i h
   exact readB_len (side_read h).1 _ _
  ·split
   ·rename_i h
    exact readB_len (side_read h).1 _ _
   ·simp
theorem pts_sum {l:List PT} (h:l.length=8):(List.map (fun a:PT=>3) l).sum=24:=by
 have:=flat3 l
 rw[List.length_flatMap,h]at this
 exact this
theorem pts_one (l:List PT):∀ x∈l.flatMap PT.row,oneA x=true:=fun x hx=>by
 obtain⟨p,_,hp⟩:=List.mem_flatMap.1 hx
 simp only[PT.row,List.mem_cons,List.not_mem_nil,or_false]at hp
 rcases hp with rfl | rfl | rfl <;> rfl
theorem xpA_take {d:DK} {l:List CS} {i:Nat} {s:CS} (hs:l[i]?=some s) (h:xpA d (l.take i)=true) (h2:xpP d s=true):xpA d (l.take (i+1))=true:=by
 rw[List.take_add_one,hs]
 unfold xpA at *
 rw[List.all_append,h]
 simp[h2]
theorem xpA_no {d:DK} {l:List CS} {s:CS} (hs:s∈l) (h:xpP d s=false):xpA d l=false:=by
 cases hk:xpA d l with
 | false=>rfl
 | true =>
  unfold xpA at hk
  rw[List.all_eq_true]at hk
  rw[hk s hs]at h
  cases h
def mpQ (d:DK) (x:RS2) (K:Bool) (r:AV) (L':List (Nat×Ob)):Prop:=∃ l,l.length=x.1.length∧(K=true→l=x.1.map (xpS d))∧r=.tup [.agg (lnR (l,x.2) 1000 1001),.bool K]∧L'=[(1000,kcs l),(1001,kpt x.2)]
theorem sMapsO (d:DK) (h:DkT d) (x:RS2) (hx:x.1.length≤1000000) (h8:∀ s∈x.1,s.map.length=8) :
  ACall prog 108 [.agg d.row,.agg (lnR x 1000 1001)] [(1000,kcs x.1),(1001,kpt x.2)] (mpQ d x (xpA d x.1)):=by
 obtain⟨K,hK⟩:∃ K,xpA d x.1=K:=⟨_,rfl⟩
 rw[hK]
 refine acx func108 [(4,[zJ 0 [2] [],zJ 1 [] [2],zJ 2 [3] [2],zJ 3 [] [2,3],zJ 4 [1000] [2],zJ 5 [] [2],zJ 6 [1000] [2],zI 7,zI 8,zI 9,zI 10,zI 11,zI 12])] ntmps108 rfl rfl rfl ?_
 simp -implicitDefEqProofs [lnR,DK.row]
 refine ev_lo (X:=Nat) [2,3,4,5,6] [(2,2),(3,3),(4,4),(1000,1000),(1001,1001)] (fun i=>[(5,.bool false),(6,.int .i64 i)]) (fun i=>[(2,⟨3,[d.row]⟩),(3,⟨7,[lnR x 1000 1001]⟩),(4,⟨7,[[.int .i64 0,.nils,.nils,.nils,.bool false,.nils,.int .i64 0]]⟩),(1000,kcs (xpN d x.1 i)),(1001,kpt x.2)]) (fun i=>x.1.length-i) (fun i=>i≤x.1.length∧xpA d (x.1.take i)=true) 0 ⟨by omega,by simp[xpA]⟩ ?_ (he:=by simp[obOf,lnR,xpN_0,DK.row])
 rintro i ⟨hi,ha⟩
 by_cases hil:i<x.1.length
 ·obtain⟨s,f1⟩:∃ s,x.1[i]?=some s:=⟨_,List.getElem?_eq_getElem hil⟩
  have hm:=List.mem_of_getElem? f1
  have hs8:=h8 s hm
  have hrl:=qbf s hs8
  have hho:=cs_home s hs8
  have e2:=i64w ((i:Int)+1) (by omega) (by omega)
  have c1:=sBlkReadC d h s.home
  have hbl:=blkRead_len d s.home
  have c2:=sMapReadC (qad d s.home).1 (by omega)
  obtain⟨g1,g2⟩:=xpN_at (d:=d) f1
  have gl:=xpN_len d x.1 i
  have hcond:xpP d s=(decide ((qad d s.home).2=0) && (mpRd (qad d s.home).1).2):=rfl
  have hup:=xpS_row d s hs8
  have hml:=mpRd_len (qad d s.home).1
  have hsu:=pts_sum hml
  have hone:=pts_one (mpRd (qad d s.home).1).1
  have hfl:((mpRd (qad d s.home).1).1.flatMap PT.row).length=24:=by rw[flat3,hml]
  simp only[DK.row,PT.row]at c1 hho
  obtain⟨Y,hY⟩:∃ Y,xpN d x.1 i=Y:=⟨_,rfl⟩
  rw[hY]at g1 g2 gl
  have hiY:i<Y.length:=by omega
  have y0:Y[i]=s:=(List.getElem?_eq_some_iff.1 g1).2
  rw[hY]
  generalize qad d s.home=bb at *
  obtain⟨bt,bc⟩:=bb
  simp only at c1 c2 hcond hup hml hsu hone hfl
  generalize mpRd bt=mm at *
  obtain⟨mp,mk⟩:=mm
  simp only at c2 hcond hup hml hsu hone hfl
  simp -implicitDefEqProofs [lnR,kcs,show(i:Int)<x.1.length by omega,hil,g1,hiY,y0,hrl,hho,gl,DK.row]
  refine c1.call ?_
  simp -implicitDefEqProofs
  refine c2.call ?_
  by_cases q:bc=0∧mk=true
  ·obtain⟨rfl,rfl⟩:=q
   have hnx:=xpA_take f1 ha (by rw[hcond];rfl)
   simp -implicitDefEqProofs [kcs,hiY,y0,g1,hrl,hsu,hfl,List.take_of_length_le (Nat.le_of_eq hfl),gl,hil]
   refine nx (i+1) [(2,2),(3,3),(4,4),(1000,1000),(1001,1001)] ⟨by omega,hnx⟩ (by omega) (h4:=?_)
   simp[obOf,e2,lnR,kcs,← g2,DK.row,hsu,hfl,hup _ rfl,renL_cs1]
  ·have hk:=xpA_no hm (show xpP d s=false by rw[hcond];cases mk <;> simp_all)
   rw[hK]at hk
   subst hk
   by_cases q1:bc=0
   ·have:mk=false:=by cases mk <;> simp_all
    subst this
    simp -implicitDefEqProofs [kcs,q1,hsu]
    exact⟨[(1000,kcs Y),(1001,kpt x.2)],by simp[kcs],Y,gl,by simp,by simp[lnR,gl],rfl⟩
   ·simp -implicitDefEqProofs [kcs,q1]
    exact⟨hsu,[(1000,kcs Y),(1001,kpt x.2)],by simp[kcs],Y,gl,by simp,by simp[lnR,gl],rfl⟩
 ·have hie:i=x.1.length:=by omega
  subst hie
  rw[List.take_of_length_le (by omega),hK]at ha
  subst ha
  simp -implicitDefEqProofs [lnR]
  exact⟨[(1000,kcs (x.1.map (xpS d))),(1001,kpt x.2)],by simp[xpN_end],x.1.map (xpS d),by simp,fun _=>rfl,by simp[lnR],rfl⟩
def tbP (d:DK) (p:PT):Bool:=decide ((qad d p).2=0) && (ddRd (qad d p).1).2
def tbS (d:DK) (p:PT):List DE:=(ddRd (qad d p).1).1
def tbA (d:DK) (l:List PT):Bool:=l.all (tbP d)
def tbN (d:DK) (l:List PT) (i:Nat):List DE:=(l.take i).flatMap (tbS d)
theorem ddRd_len (t:List UInt8):(ddRd t).1.length≤48:=by
 unfold ddRd
 split
 ·simp
 ·split
  ·simp
  ·split
   ·split
    ·rename_i h
     exact(ddt_ec h).1
    ·simp
   ·simp
theorem tbN_len (d:DK) (l:List PT):∀ i,(tbN d l i).length≤48 * i
 | 0=>by simp[tbN]
 | i+1=>by
  have:=tbN_len d l i
  unfold tbN at *
  rw[List.take_add_one,List.flatMap_append,List.length_append]
  have h2:(List.flatMap (tbS d) l[i]?.toList).length≤48:=by
   cases l[i]? with
   | none=>simp
   | some p=>simpa [tbS]using ddRd_len _
  omega
theorem tbN_next {d:DK} {l:List PT} {i:Nat} {p:PT} (hs:l[i]?=some p):tbN d l i++tbS d p=tbN d l (i+1):=by
 unfold tbN
 rw[List.take_add_one,hs,List.flatMap_append]
 simp
theorem tbA_take {d:DK} {l:List PT} {i:Nat} {s:PT} (hs:l[i]?=some s) (h:tbA d (l.take i)=true) (h2:tbP d s=true):tbA d (l.take (i+1))=true:=by
 rw[List.take_add_one,hs]
 unfold tbA at *
 rw[List.all_append,h]
 simp[h2]
theorem tbA_no {d:DK} {l:List PT} {s:PT} (hs:s∈l) (h:tbP d s=false):tbA d l=false:=by
 cases hk:tbA d l with
 | false=>rfl
 | true =>
  unfold tbA at hk
  rw[List.all_eq_true]at hk
  rw[hk s hs]at h
  cases h
def tbR (x:RS2) (a b c n:Nat):List AV:=[.int .i64 0,.sl a 0 x.1.length,.sl b 0 n,.sl c 0 x.2.length,.bool false,.nils,.int .i64 0]
def tbQ (d:DK) (x:RS2) (K:Bool) (r:AV) (L':List (Nat×Ob)):Prop:=∃ l,(K=true→l=x.2.flatMap (tbS d))∧r=.tup [.agg (tbR x 1000 902 1001 l.length),.bool K]∧L'=[(1000,kcs x.1),(902,deOb l),(1001,kpt x.2)]
theorem sTableO (d:DK) (h:DkT d) (x:RS2) (hx:x.2.length≤10000) :
  ACall prog 109 [.agg d.row,.agg (lnR x 1000 1001)] [(1000,kcs x.1),(1001,kpt x.2)] (tbQ d x (tbA d x.2)):=by
 obtain⟨K,hK⟩:∃ K,tbA d x.2=K:=⟨_,rfl⟩
 rw[hK]
 refine acx func109 [(4,[zJ 0 [2] [],zJ 1 [] [2],zJ 2 [3] [2],zJ 3 [] [2,3],zJ 4 [1001] [2],zJ 5 [1001] [2],zI 6,zI 7,zI 8,zI 9,zI 10,zI 11])] ntmps109 rfl rfl rfl ?_
 simp -implicitDefEqProofs [lnR,DK.row]
 refine ev_sw ((sw_pht 902 3 (by simp)).trans (sw_impc 3 2 (sz:=7) (row:=lnR x 1000 1001) (by simp[lnR]) (by simp[lnR]) (impA_sl0 902 0))) ?_
 refine ev_lo (X:=Nat) [2,3,4,5,6] [(2,2),(3,3),(4,4),(1000,1000),(902,902),(1001,1001)] (fun i=>[(5,.bool false),(6,.int .i64 i)]) (fun i=>[(2,⟨3,[d.row]⟩),(3,⟨7,[tbR x 1000 902 1001 (tbN d x.2 i).length]⟩),(4,⟨7,[[.int .i64 0,.nils,.nils,.nils,.bool false,.nils,.int .i64 0]]⟩),(1000,kcs x.1),(902,deOb (tbN d x.2 i)),(1001,kpt x.2)]) (fun i=>x.2.length-i) (fun i=>i≤x.2.length∧tbA d (x.2.take i)=true) 0 ⟨by omega,by simp[tbA]⟩ ?_ (he:=by simp[obOf,lnR,tbR,tbN,DK.row,deOb])
 rintro i ⟨hi,ha⟩
 have hnl:=tbN_len d x.2 i
 by_cases hil:i<x.2.length
 ·obtain⟨s,f1⟩:∃ s,x.2[i]?=some s:=⟨_,List.getElem?_eq_getElem hil⟩
  have f0:x.2[i]=s:=(List.getElem?_eq_some_iff.1 f1).2
  have hm:=List.mem_of_getElem? f1
  have e2:=i64w ((i:Int)+1) (by omega) (by omega)
  have c1:=sBlkReadC d h s
  have hbl:=blkRead_len d s
  have c2:=sDdtReadC (qad d s).1 (by omega)
  have hdl:=ddRd_len (qad d s).1
  have hcond:tbP d s=(decide ((qad d s).2=0) && (ddRd (qad d s).1).2):=rfl
  have hnx:=tbN_next (d:=d) f1
  have hts:tbS d s=(ddRd (qad d s).1).1:=rfl
  rw[hts]at hnx
  simp only[DK.row,PT.row]at c1
  generalize qad d s=bb at *
  obtain⟨bt,bc⟩:=bb
  simp only at c1 c2 hcond hbl hdl hnx
  generalize ddRd bt=mm at *
  obtain⟨mp,mk⟩:=mm
  simp only at c2 hcond hdl hnx
  simp -implicitDefEqProofs [tbR,deOb,kpt,show(i:Int)<x.2.length by omega,hil,f0,f1,PT.row,DK.row]
  refine c1.call ?_
  simp -implicitDefEqProofs
  refine c2.call ?_
  by_cases q:bc=0∧mk=true
  ·obtain⟨rfl,rfl⟩:=q
   have hnA:=tbA_take f1 ha (by rw[hcond];rfl)
   simp -implicitDefEqProofs [tbR,deOb]
   refine⟨by omega,nx (i+1) [(2,2),(3,3),(4,4),(1000,1000),(43,902),(1001,1001)] ⟨by omega,hnA⟩ (by omega) (h4:=?_)⟩
   simp[obOf,e2,tbR,deOb,kpt,← hnx,DK.row,qbh]
  ·have hk:=tbA_no hm (show tbP d s=false by rw[hcond];cases mk <;> simp_all)
   rw[hK]at hk
   subst hk
   by_cases q1:bc=0
   ·have:mk=false:=by cases mk <;> simp_all
    subst this
    simp -implicitDefEqProofs [tbR,deOb,q1]
    exact⟨[(1000,kcs x.1),(902,deOb (tbN d x.2 i)),(1001,kpt x.2)],by simp[deOb,kpt],tbN d x.2 i,by simp,by simp[tbR],rfl⟩
   ·simp -implicitDefEqProofs [tbR,deOb,q1]
    exact⟨[(1000,kcs x.1),(902,deOb (tbN d x.2 i)),(1001,kpt x.2)],by simp[deOb,kpt],tbN d x.2 i,by simp,by simp[tbR],rfl⟩
 ·have hie:i=x.2.length:=by omega
  subst hie
  rw[List.take_of_length_le (by omega),hK]at ha
  subst ha
  simp -implicitDefEqProofs [tbR]
  exact⟨[(1000,kcs x.1),(902,deOb (tbN d x.2 x.2.length)),(1001,kpt x.2)],by simp[deOb],tbN d x.2 x.2.length,fun _=>by simp[tbN],by simp[tbR],rfl⟩
theorem rt_ok {t:List UInt8} {x:RS2} (h:rtRd t=(coreL x,true)):t≠[]∧x.1.length≤6∧x.2.length≤8∧(∀ s∈x.1,s.map.length=8∧csOkB s=true)∧∀ p∈x.2,qam p=true:=by
 unfold rtRd at h
 split at h
 ·exact absurd (congrArg Prod.snd h) (by simp)
 ·rename_i h1
  have hd:(cutR 10 t []).head?=some rootW:=by
   apply Classical.byContradiction
   exact fun e=>h1 (.inr e)
  have hne:t≠[]:=by
   rintro rfl
   revert hd
   decide
  cases ho:runL lineS (cutR 10 t []).tail ([],[])with
  | none =>
   rw[ho]at h
   exact absurd (congrArg Prod.snd h) (by simp[finB])
  | some y =>
   rw[ho]at h
   simp only[finB]at h
   split at h
   ·rename_i ha
    have hy:y=x:=by
     have h2:=congrArg (fun z:CO×Bool=>(z.1.sets,z.1.parts)) h
     simp only[coreL,Prod.mk.injEq]at h2
     exact Prod.ext h2.1 h2.2
    subst hy
    obtain⟨r1,r2,_⟩:=root_lines (acc_text ha) hne
    have hn:=runL_nrm lineS_nrm _ _ y (by simp) ho
    simp only[accB,Bool.and_eq_true,decide_eq_true_eq]at ha
    have hb:=(okB_iff.1 ha.1.2).1
    simp only[List.length_map]at hb
    exact⟨hne,hb,ha.2,fun s hs=>⟨by rw[(hn s hs).1];rfl,r1 s hs⟩,r2⟩
   ·exact absurd (congrArg Prod.snd h) (by simp)
def rrC (d:DK) (c:CO):CO:=⟨(rbB d).1,c.sets.map (xpS d),c.parts.flatMap (tbS d),c.parts,false,[],0⟩
def rrF (d:DK):Bool:=decide ((qad d (rbB d).2).2=0) && (rtRd (qad d (rbB d).2).1).2
def rrG (d:DK) (c:CO):Bool:=xpA d c.sets && tbA d c.parts && qax (rrC d c)
def rrS (d:DK) (c:CO):CO:={ rrC d c with safe:=reachB (rrC d c) (rbB d).2.pa }
def rrB (d:DK):CO×Int :=
 if dOkB d=true∧0<(rbB d).1 then if rrF d=true then if rrG d (rtRd (qad d (rbB d).2).1).1=true then (rrS d (rtRd (qad d (rbB d).2).1).1,0) else (zK,8) else (zK,8) else (zK,1)
def rrQ (a b e f:Nat) (R:CO×Int) (r:AV) (L':List (Nat×Ob)):Prop :=
 (R.1=zK∧R.2≠0∧r=.tup [.agg [.int .i64 0,.nils,.nils,.nils,.bool false,.nils,.int .i64 0],.int .i64 R.2]∧L'=[]) ∨
 (R.2=0∧r=.tup [coreA R.1 a b e f,.int .i64 0]∧L'=[(a,kcs R.1.sets),(b,deOb R.1.ddt),(e,kpt R.1.parts),(f,kin R.1.safe)])
theorem rrC_T {t:List UInt8} {x:RS2} (h:rtRd t=(coreL x,true)) (d:DK):CoT (rrC d (coreL x)):=by
 obtain⟨_,h1,h2,h3,h4⟩:=rt_ok h
 refine⟨by simp[rrC,coreL];omega,?_,by simp[rrC,coreL];omega,by simp[rrC],?_,?_⟩
 ·have:=tbN_len d x.2 x.2.length
  simp only[tbN,List.take_length]at this
  simp only[rrC,coreL]
  omega
 ·intro s hs
  obtain⟨s0,hs0,rfl⟩:=List.mem_map.1 hs
  exact mpRd_len _
 ·intro s hs
  obtain⟨s0,hs0,rfl⟩:=List.mem_map.1 hs
  have:=csOk_nm (h3 s0 hs0).2
  simp only[xpS]
  omega
theorem sRiseReadO (d:DK) (h:DkT d):ACall prog 38 [.agg d.row] [] (rrQ 900 902 901 903 (rrB d)):=by
 obtain⟨R,hR⟩:∃ R,rrB d=R:=⟨_,rfl⟩
 rw[hR]
 unfold rrB at hR
 have c1:=sBestC d h
 have c2:=sDiskOkC d h
 have c3:=sBlkReadC d h (rbB d).2
 have hbl:=blkRead_len d (rbB d).2
 have c4:=sRootReadO (qad d (rbB d).2).1 (by omega)
 have hF:rrF d=(decide ((qad d (rbB d).2).2=0) && (rtRd (qad d (rbB d).2).1).2):=rfl
 have hT:=fun x (hx:rtRd (qad d (rbB d).2).1=(coreL x,true))=>rrC_T hx d
 have hok:=fun x (hx:rtRd (qad d (rbB d).2).1=(coreL x,true))=>rt_ok hx
 simp only[DK.row,PT.row]at c1 c2 c3
 refine acx func38 [] ntmps38 rfl rfl rfl ?_
 simp -implicitDefEqProofs [DK.row]
 refine c1.call ?_
 simp -implicitDefEqProofs [PT.row]
 refine c2.call ?_
 by_cases g0:dOkB d=true∧0<(rbB d).1
 ·rw[if_pos g0]at hR
  obtain⟨g1,g2⟩:=g0
  simp -implicitDefEqProofs [g1,g2]
  refine c3.call ?_
  simp -implicitDefEqProofs
  generalize (qad d (rbB d).2).1=bt at *
  generalize (qad d (rbB d).2).2=bc at *
  refine qaf [] (by kernel_rfl) c4 (by simp) (by simp) trivial (by simp) (by simp) ?_
  rintro r L' (⟨hr,rfl,rfl⟩ | ⟨x,hr,rfl,rfl⟩)
  ·rw[hr]at hF
   rw[if_neg (by rw[hF];simp)]at hR
   subst hR
   refine⟨[],⟨by simp,by simp,by simp,by simp,by simp⟩,?_⟩
   simp only[qan]
   by_cases q:bc=0
   ·simp -implicitDefEqProofs [q]
    exact⟨[],by simp,.inl ⟨rfl,by simp,rfl,rfl⟩⟩
   ·simp -implicitDefEqProofs [q]
    exact⟨[],by simp,.inl ⟨rfl,by simp,rfl,rfl⟩⟩
  ·have hTx:=hT x hr
   obtain⟨_,o1,o2,o3,o4⟩:=hok x hr
   rw[hr]at hF hR
   simp only[Bool.and_true]at hF
   refine⟨[(900,900),(901,901)],⟨by simp,by simp,by simp,by simp,by simp⟩,?_⟩
   simp only[qan]
   by_cases q:bc=0
   ·rw[if_pos (by rw[hF];simp[q])]at hR
    have hG:rrG d (coreL x)=(xpA d x.1 && tbA d x.2 && qax (rrC d (coreL x))):=rfl
    have c5:=sMapsO d h x (by omega) fun s hs=>(o3 s hs).1
    simp only[DK.row,lnR]at c5
    simp -implicitDefEqProofs [q,lnR]
    refine qaf [(1000,.whole 900),(1001,.whole 901)] (by kernel_rfl) c5 (by simp) (by simp) ⟨⟨kcs x.1,by simp,rfl,qah rfl (clR_kcs _)⟩,⟨kpt x.2,by simp,rfl,qah rfl (clR_kpt _)⟩,trivial⟩ (by simp) (by simp) ?_
    rintro r' L' ⟨l,hl,hk,rfl,rfl⟩
    refine⟨[],⟨by simp[lnR],by simp,by simp,by simp[lnR],by simp[lnR]⟩,?_⟩
    simp only[qan]
    have c6:=sTableO d h (l,x.2) (by simp only;omega)
    simp only[DK.row,lnR]at c6
    simp -implicitDefEqProofs [lnR]
    refine qaf [(1000,.whole 900),(1001,.whole 901)] (by kernel_rfl) c6 (by simp) (by simp) ⟨⟨kcs l,by simp,rfl,qah rfl (clR_kcs _)⟩,⟨kpt x.2,by simp,rfl,qah rfl (clR_kpt _)⟩,trivial⟩ (by simp) (by simp) ?_
    rintro r' L' ⟨t,ht,rfl,rfl⟩
    refine⟨[(902,902)],⟨by simp[tbR],by simp,by simp,by simp[tbR],by simp[tbR]⟩,?_⟩
    simp only[qan]
    simp only at ht
    have hfail:rrG d (coreL x)=false→R=(zK,8):=fun e=>by
     rw[if_neg (by simp only;rw[e];simp)]at hR
     exact hR.symm
    cases k1:xpA d x.1 with
    | false =>
     rw[hfail (by rw[hG,k1];rfl)]
     simp -implicitDefEqProofs [tbR,lnR,hl]
     exact⟨[],by simp,.inl ⟨rfl,by simp,rfl,rfl⟩⟩
    | true =>
     cases k2:tbA d x.2 with
     | false =>
      rw[hfail (by rw[hG,k1,k2];rfl)]
      simp -implicitDefEqProofs [tbR,lnR,hl]
      exact⟨[],by simp,.inl ⟨rfl,by simp,rfl,rfl⟩⟩
     | true =>
      have hl2:=hk k1
      have ht2:=ht k2
      have hC:rrC d (coreL x)=⟨(rbB d).1,l,t,x.2,false,[],0⟩:=by rw[hl2,ht2];rfl
      have hS:rrS d (coreL x)={ rrC d (coreL x)with safe:=reachB (rrC d (coreL x)) (rbB d).2.pa }:=rfl
      rw[k1,k2,hC]at hG
      rw[hC]at hTx hS
      have c7:=sCoreOk _ hTx
      have hgl:qax ⟨(rbB d).1,l,t,x.2,false,[],0⟩=true→l.length=x.1.length:=fun _=>hl
      cases k3:qax ⟨(rbB d).1,l,t,x.2,false,[],0⟩with
      | false =>
       rw[k3]at c7
       simp only[CO.row,List.map_nil]at c7
       rw[hfail (by rw[hG,k3];rfl)]
       simp -implicitDefEqProofs [tbR,lnR]
       refine c7.view (by simp[vwOk,mtA,kcs,deOb,kpt,qbh,cs_cl]) ?_
       simp -implicitDefEqProofs
       exact⟨[],by simp,.inl ⟨rfl,by simp,rfl,rfl⟩⟩
      | true =>
       rw[k3]at c7 hG
       have c8:=sReachO _ hTx (coreOk_M k3).1 (rbB d).2.pa
       simp only[CO.row,List.map_nil]at c7 c8
       rw[if_pos (by simp only;rw[hG];rfl)]at hR
       simp only at hR
       rw[hS]at hR
       generalize reachB _ _=sf at *
       subst hR
       simp -implicitDefEqProofs [tbR,lnR]
       refine c7.view (by simp[vwOk,mtA,kcs,deOb,kpt,qbh,cs_cl]) ?_
       simp -implicitDefEqProofs
       refine callA_vw [] (by kernel_rfl) c8 (by simp[vwOk,mtA,kcs,deOb,kpt,qbh,cs_cl]) (by simp) trivial (by simp) (by simp) ?_
       rintro r' L' ⟨rfl,rfl⟩
       refine⟨by simp[noL],by simp[noL,kin,qac],[(900,903)],⟨by simp,by simp,by simp,by simp,by simp⟩,?_⟩
       simp only[qan]
       simp -implicitDefEqProofs
       exact⟨[(900,kcs l),(902,deOb t),(901,kpt x.2),(903,kin sf)],by simp[obOf],.inr ⟨rfl,by simp[coreA],rfl⟩⟩
   ·rw[if_neg (by rw[hF];simp[q])]at hR
    subst hR
    simp -implicitDefEqProofs [q,lnR]
    exact⟨[],by simp,.inl ⟨rfl,by simp,rfl,rfl⟩⟩
 ·rw[if_neg g0]at hR
  subst hR
  cases g1:dOkB d with
  | false =>
   simp -implicitDefEqProofs [g1]
   exact⟨[],by simp,.inl ⟨rfl,by simp,rfl,rfl⟩⟩
  | true =>
   have g2:¬ 0<(rbB d).1:=fun e=>g0 ⟨g1,e⟩
   simp -implicitDefEqProofs [g1,g2]
   exact⟨[],by simp,.inl ⟨rfl,by simp,rfl,rfl⟩⟩
theorem reachB_len (c:CO) (root:Int):(reachB c root).length≤1+c.ddt.length+c.sets.length+c.parts.length:=by
 unfold reachB
 have h0:=addB_len [] root
 have h1:=addsB_len (c.ddt.map DE.ea) (addB [] root)
 have h2:=addsB_len (c.sets.map fun s=>s.home.pa) (addsB (addB [] root) (c.ddt.map DE.ea))
 have h3:=addsB_len (c.parts.map PT.pa) (addsB (addsB (addB [] root) (c.ddt.map DE.ea)) (c.sets.map fun s=>s.home.pa))
 simp only[List.length_map,List.length_nil]at h0 h1 h2 h3
 omega
theorem iRiseReadO (d:DK) (h:DkT d):ACall prog 45 [.agg d.row] [] (rrQ 904 905 906 907 (rrB d)):=by
 obtain⟨R,hR⟩:∃ R,rrB d=R:=⟨_,rfl⟩
 rw[hR]
 unfold rrB at hR
 have c1:=iBestC d h
 have c2:=iDiskOkC d h
 have c3:=iBlkReadC d h (rbB d).2
 have hbl:=blkRead_len d (rbB d).2
 have c4:=iRootReadO (qad d (rbB d).2).1 (by omega)
 have hF:rrF d=(decide ((qad d (rbB d).2).2=0) && (rtRd (qad d (rbB d).2).1).2):=rfl
 have hT:=fun x (hx:rtRd (qad d (rbB d).2).1=(coreL x,true))=>rrC_T hx d
 have hok:=fun x (hx:rtRd (qad d (rbB d).2).1=(coreL x,true))=>rt_ok hx
 simp only[DK.row,PT.row]at c1 c2 c3
 refine acx func45 [(11,[zJ 0 [1] [],zJ 1 [] [1],zJ 2 [9] [1],zJ 3 [] [1,9],zJ 4 [900] [1],zJ 5 [] [1],zJ 6 [900] [1],zI 7,zI 8,zI 9,zI 10,zI 11,zI 12])] ntmps45 rfl rfl rfl ?_
 simp -implicitDefEqProofs [DK.row]
 refine c1.call ?_
 simp -implicitDefEqProofs [PT.row]
 refine c2.call ?_
 by_cases g0:dOkB d=true∧0<(rbB d).1
 ·rw[if_pos g0]at hR
  obtain⟨g1,g2⟩:=g0
  simp -implicitDefEqProofs [g1,g2]
  refine c3.call ?_
  simp -implicitDefEqProofs
  generalize (qad d (rbB d).2).1=bt at *
  generalize (qad d (rbB d).2).2=bc at *
  refine qaf [] (by kernel_rfl) c4 (by simp) (by simp) trivial (by simp) (by simp) ?_
  rintro r L' (⟨hr,rfl,rfl⟩ | ⟨x,hr,rfl,rfl⟩)
  ·rw[hr]at hF
   rw[if_neg (by rw[hF];simp)]at hR
   subst hR
   refine⟨[],⟨by simp,by simp,by simp,by simp,by simp⟩,?_⟩
   simp only[qan]
   by_cases q:bc=0
   ·simp -implicitDefEqProofs [q]
    exact⟨[],by simp,.inl ⟨rfl,by simp,rfl,rfl⟩⟩
   ·simp -implicitDefEqProofs [q]
    exact⟨[],by simp,.inl ⟨rfl,by simp,rfl,rfl⟩⟩
  ·have hTx:=hT x hr
   obtain⟨_,o1,o2,o3,o4⟩:=hok x hr
   rw[hr]at hF hR
   simp only[Bool.and_true]at hF
   refine⟨[(900,900),(901,901)],⟨by simp,by simp,by simp,by simp,by simp⟩,?_⟩
   simp only[qan]
   by_cases q:bc=0
   ·rw[if_pos (by rw[hF];simp[q])]at hR
    have hG:rrG d (coreL x)=(xpA d x.1 && tbA d x.2 && qax (rrC d (coreL x))):=rfl
    have hfail:rrG d (coreL x)=false→R=(zK,8):=fun e=>by
     rw[if_neg (by simp only;rw[e];simp)]at hR
     exact hR.symm
    simp -implicitDefEqProofs [q,lnR]
    refine ev_lo (X:=Nat) [1,2,3,4,5,9,55,56] [(1,1),(2,2),(5,5),(9,9),(900,900),(901,901)] (fun i=>[(56,.int .i64 i)]) (fun i=>[(1,⟨3,[d.row]⟩),(2,⟨7,[[.int .i64 0,.nils,.nils,.nils,.bool false,.nils,.int .i64 0]]⟩),(5,⟨3,[(rbB d).2.row]⟩),(9,⟨7,[lnR x 900 901]⟩),(900,kcs (xpN d x.1 i)),(901,kpt x.2)]) (fun i=>x.1.length-i) (fun i=>i≤x.1.length∧xpA d (x.1.take i)=true) 0 ⟨by omega,by simp[xpA]⟩ ?_ (he:=by simp[obOf,lnR,xpN_0,DK.row,PT.row])
    rintro i ⟨hi,ha⟩
    by_cases hil:i<x.1.length
    ·obtain⟨s,f1⟩:∃ s,x.1[i]?=some s:=⟨_,List.getElem?_eq_getElem hil⟩
     have hm:=List.mem_of_getElem? f1
     have hs8:=(o3 s hm).1
     have hrl:=qbf s hs8
     have hho:=cs_home s hs8
     have e2:=i64w ((i:Int)+1) (by omega) (by omega)
     have c1:=iBlkReadC d h s.home
     have hbl:=blkRead_len d s.home
     have c2:=iMapReadC (qad d s.home).1 (by omega)
     obtain⟨g1,g2⟩:=xpN_at (d:=d) f1
     have gl:=xpN_len d x.1 i
     have hcond:xpP d s=(decide ((qad d s.home).2=0) && (mpRd (qad d s.home).1).2):=rfl
     have hup:=xpS_row d s hs8
     have hml:=mpRd_len (qad d s.home).1
     have hsu:=pts_sum hml
     have hone:=pts_one (mpRd (qad d s.home).1).1
     have hfl:((mpRd (qad d s.home).1).1.flatMap PT.row).length=24:=by rw[flat3,hml]
     simp only[DK.row,PT.row]at c1 hho
     obtain⟨Y,hY⟩:∃ Y,xpN d x.1 i=Y:=⟨_,rfl⟩
     rw[hY]at g1 g2 gl
     have hiY:i<Y.length:=by omega
     have y0:Y[i]=s:=(List.getElem?_eq_some_iff.1 g1).2
     rw[hY]
     generalize qad d s.home=bb at *
     obtain⟨bt,bc⟩:=bb
     simp only at c1 c2 hcond hup hml hsu hone hfl
     generalize mpRd bt=mm at *
     obtain⟨mp,mk⟩:=mm
     simp only at c2 hcond hup hml hsu hone hfl
     simp -implicitDefEqProofs [lnR,kcs,show(i:Int)<x.1.length by omega,hil,g1,hiY,y0,hrl,hho,gl,DK.row]
     refine c1.call ?_
     simp -implicitDefEqProofs
     refine c2.call ?_
     by_cases q:bc=0∧mk=true
     ·obtain⟨rfl,rfl⟩:=q
      have hnx:=xpA_take f1 ha (by rw[hcond];rfl)
      simp -implicitDefEqProofs [kcs,hiY,y0,g1,hrl,hsu,hfl,List.take_of_length_le (Nat.le_of_eq hfl),gl,hil]
      refine nx (i+1) [(1,1),(2,2),(5,5),(9,9),(900,900),(901,901)] ⟨by omega,hnx⟩ (by omega) (h4:=?_)
      simp[obOf,e2,lnR,kcs,← g2,DK.row,PT.row,hsu,hfl,hup _ rfl,renL_cs1]
     ·rw[hfail (by rw[hG,xpA_no hm (show xpP d s=false by rw[hcond];cases mk <;> simp_all)];rfl)]
      by_cases q1:bc=0
      ·have:mk=false:=by cases mk <;> simp_all
       subst this
       simp -implicitDefEqProofs [kcs,q1,hsu]
       exact⟨[],by simp,.inl ⟨rfl,by simp,rfl,rfl⟩⟩
      ·simp -implicitDefEqProofs [kcs,q1,hsu]
       exact⟨[],by simp,.inl ⟨rfl,by simp,rfl,rfl⟩⟩
    ·have hie:i=x.1.length:=by omega
     subst hie
     rw[List.take_of_length_le (by omega)]at ha
     rw[xpN_end]
     simp -implicitDefEqProofs [lnR]
     have hcs:(x.1.map (xpS d)).length=x.1.length:=by simp
     generalize hl2:x.1.map (xpS d)=l at *
     refine ev_sw ((sw_pht 902 3 (by simp)).trans (sw_impc 9 2 (sz:=7) (row:=lnR x 900 901) (by simp[lnR]) (by simp[lnR]) (impA_sl0 902 0))) ?_
     refine ev_lo (X:=Nat) [1,2,3,4,5,9,90,91,92] [(1,1),(2,2),(5,5),(9,9),(900,900),(902,902),(901,901)] (fun i=>[(92,.int .i64 i)]) (fun i=>[(1,⟨3,[d.row]⟩),(2,⟨7,[[.int .i64 0,.nils,.nils,.nils,.bool false,.nils,.int .i64 0]]⟩),(5,⟨3,[(rbB d).2.row]⟩),(9,⟨7,[tbR x 900 902 901 (tbN d x.2 i).length]⟩),(900,kcs l),(902,deOb (tbN d x.2 i)),(901,kpt x.2)]) (fun i=>x.2.length-i) (fun i=>i≤x.2.length∧tbA d (x.2.take i)=true) 0 ⟨by omega,by simp[tbA]⟩ ?_ (he:=by simp[obOf,lnR,tbR,tbN,DK.row,PT.row,deOb])
     rintro i ⟨hi,hb⟩
     have hnl:=tbN_len d x.2 i
     by_cases hil:i<x.2.length
     ·obtain⟨s,f1⟩:∃ s,x.2[i]?=some s:=⟨_,List.getElem?_eq_getElem hil⟩
      have f0:x.2[i]=s:=(List.getElem?_eq_some_iff.1 f1).2
      have hm:=List.mem_of_getElem? f1
      have e2:=i64w ((i:Int)+1) (by omega) (by omega)
      have c1:=iBlkReadC d h s
      have hbl:=blkRead_len d s
      have c2:=iDdtReadC (qad d s).1 (by omega)
      have hdl:=ddRd_len (qad d s).1
      have hcond:tbP d s=(decide ((qad d s).2=0) && (ddRd (qad d s).1).2):=rfl
      have hnx:=tbN_next (d:=d) f1
      have hts:tbS d s=(ddRd (qad d s).1).1:=rfl
      rw[hts]at hnx
      simp only[DK.row,PT.row]at c1
      generalize qad d s=bb at *
      obtain⟨bt,bc⟩:=bb
      simp only at c1 c2 hcond hbl hdl hnx
      generalize ddRd bt=mm at *
      obtain⟨mp,mk⟩:=mm
      simp only at c2 hcond hdl hnx
      simp -implicitDefEqProofs [tbR,deOb,kpt,show(i:Int)<x.2.length by omega,hil,f0,f1,PT.row,DK.row]
      refine c1.call ?_
      simp -implicitDefEqProofs
      refine c2.call ?_
      by_cases q:bc=0∧mk=true
      ·obtain⟨rfl,rfl⟩:=q
       have hnA:=tbA_take f1 hb (by rw[hcond];rfl)
       simp -implicitDefEqProofs [tbR,deOb]
       refine⟨by omega,nx (i+1) [(1,1),(2,2),(5,5),(9,9),(900,900),(117,902),(901,901)] ⟨by omega,hnA⟩ (by omega) (h4:=?_)⟩
       simp[obOf,e2,tbR,deOb,kpt,← hnx,DK.row,PT.row,qbh]
      ·rw[hfail (by rw[hG,ha,tbA_no hm (show tbP d s=false by rw[hcond];cases mk <;> simp_all)];rfl)]
       by_cases q1:bc=0
       ·have:mk=false:=by cases mk <;> simp_all
        subst this
        simp -implicitDefEqProofs [tbR,deOb,q1]
        exact⟨[],by simp,.inl ⟨rfl,by simp,rfl,rfl⟩⟩
       ·simp -implicitDefEqProofs [tbR,deOb,q1]
        exact⟨[],by simp,.inl ⟨rfl,by simp,rfl,rfl⟩⟩
     ·have hie:i=x.2.length:=by omega
      subst hie
      rw[List.take_of_length_le (by omega)]at hb
      have ht2:tbN d x.2 x.2.length=x.2.flatMap (tbS d):=by simp[tbN]
      rw[ht2]
      generalize ht3:x.2.flatMap (tbS d)=t at *
      have hC:rrC d (coreL x)=⟨(rbB d).1,l,t,x.2,false,[],0⟩:=by rw[← hl2,← ht3];rfl
      have hS:rrS d (coreL x)={ rrC d (coreL x)with safe:=reachB (rrC d (coreL x)) (rbB d).2.pa }:=rfl
      rw[ha,hb,hC]at hG
      rw[hC]at hTx hS
      have c7:=iCoreOk _ hTx
      cases k3:qax ⟨(rbB d).1,l,t,x.2,false,[],0⟩with
      | false =>
       rw[k3]at c7
       simp only[CO.row,List.map_nil]at c7
       rw[hfail (by rw[hG,k3];rfl)]
       simp -implicitDefEqProofs [tbR]
       refine c7.view (by simp[vwOk,mtA,kcs,deOb,kpt,qbh,cs_cl,← hcs]) ?_
       simp -implicitDefEqProofs
       exact⟨[],by simp,.inl ⟨rfl,by simp,rfl,rfl⟩⟩
      | true =>
       rw[k3]at c7 hG
       have c8:=iReachO _ hTx k3 (rbB d).2.pa
       rw[if_pos (by simp only;rw[hG];rfl)]at hR
       simp only at hR
       rw[hS]at hR
       have hsl:(reachB ⟨(rbB d).1,l,t,x.2,false,[],0⟩ (rbB d).2.pa).length≤1000:=by
        refine Nat.le_trans (reachB_len _ _) ?_
        obtain⟨_,k4,k5,k6,_⟩:=coreOk_M k3
        simp only at k4 k5 k6 ⊢
        omega
       generalize reachB ⟨(rbB d).1,l,t,x.2,false,[],0⟩ (rbB d).2.pa=sf at *
       have c9:=iKOwnO ⟨(rbB d).1,l,t,x.2,false,sf,0⟩ ⟨hTx.1,hTx.2,hTx.3,by simp only;omega,hTx.5,hTx.6⟩
       simp only[CO.row,List.map_nil]at c7 c8 c9
       subst hR
       simp -implicitDefEqProofs [tbR]
       refine c7.view (by simp[vwOk,mtA,kcs,deOb,kpt,qbh,cs_cl,← hcs]) ?_
       simp -implicitDefEqProofs
       refine callA_vw [] (by kernel_rfl) c8 (by simp[vwOk,mtA,kcs,deOb,kpt,qbh,cs_cl,← hcs]) (by simp) trivial (by simp) (by simp) ?_
       rintro r' L' ⟨rfl,rfl⟩
       refine⟨by simp[noL],by simp[noL,kin,qac],[(900,903)],⟨by simp,by simp,by simp,by simp,by simp⟩,?_⟩
       simp only[qan]
       simp -implicitDefEqProofs
       refine callA_vw [] (by kernel_rfl) c9 (by simp[vwOk,mtA,kcs,deOb,kpt,kin,qac,qbh,cs_cl,← hcs]) (by simp) trivial (by simp) (by simp) ?_
       rintro r' L' ⟨rfl,rfl⟩
       refine⟨by simp[coreA,noL],by simp[kcs,deOb,kpt,kin,qac,DE.row,PT.row,noL_cs],[(5,904),(8,905),(11,906),(14,907)],⟨by simp,by simp,by simp,by simp,by simp⟩,?_⟩
       simp only[qan]
       simp -implicitDefEqProofs [coreA]
       exact⟨[(904,kcs l),(905,deOb t),(906,kpt x.2),(907,kin sf)],by simp[obOf],.inr ⟨rfl,by simp[coreA],rfl⟩⟩
   ·rw[if_neg (by rw[hF];simp[q])]at hR
    subst hR
    simp -implicitDefEqProofs [q,lnR]
    exact⟨[],by simp,.inl ⟨rfl,by simp,rfl,rfl⟩⟩
 ·rw[if_neg g0]at hR
  subst hR
  cases g1:dOkB d with
  | false =>
   simp -implicitDefEqProofs [g1]
   exact⟨[],by simp,.inl ⟨rfl,by simp,rfl,rfl⟩⟩
  | true =>
   have g2:¬ 0<(rbB d).1:=fun e=>g0 ⟨g1,e⟩
   simp -implicitDefEqProofs [g1,g2]
   exact⟨[],by simp,.inl ⟨rfl,by simp,rfl,rfl⟩⟩
theorem rrQ_cv {f a b e g:Nat} {d:DK} {R:CO×Int} (hn:[a,b,e,g].Nodup) (h:ACall prog f [.agg d.row] [] (rrQ a b e g R)) (he:qcb prog f=true):CV prog f [.agg d.row] (.tup [.agg R.1.row,.int .i64 R.2]):=by
 refine CV.of_frz h ?_ (he:=he) (hca:=by simp[DK.row]) (hcv:=by simp[co_cl])
 rintro r L' (⟨hR,_,rfl,rfl⟩ | ⟨hR,rfl,rfl⟩)
 ·refine⟨by simp,by simp,by simp,?_⟩
  simp only[frzAll,hR]
  exact impA_tu (.cons impA_zk (.cons (qbw _) .nil))
 ·simp only[List.nodup_cons,List.mem_cons,List.not_mem_nil,or_false,not_or,List.nodup_nil,not_false_eq_true,and_true]at hn
  obtain⟨⟨n1,n2,n3⟩,⟨n4,n5⟩,n6⟩:=hn
  refine⟨by simp,by simp[n1,n2,n3,n4,n5,n6],fun y hy=>?_,?_⟩
  ·simp only[List.mem_cons,List.not_mem_nil,or_false]at hy
   rcases hy with rfl | rfl | rfl | rfl
   ·exact clR_kcs _
   ·simpa [clR]using clR_de _
   ·exact clR_kpt _
   ·exact clR_kin _
  ·rw[hR]
   simp[frzAll,coreA,CO.row,kcs,kpt,kin,deOb,qbh,n1,n2,n3,n4,n5,n6,Ne.symm n1,Ne.symm n2,Ne.symm n3,Ne.symm n4,Ne.symm n5,Ne.symm n6]
theorem sRiseReadC (d:DK) (h:DkT d):CV prog 38 [.agg d.row] (.tup [.agg (rrB d).1.row,.int .i64 (rrB d).2]):=rrQ_cv (by decide) (sRiseReadO d h) (by kernel_rfl)
theorem iRiseReadC (d:DK) (h:DkT d):CV prog 45 [.agg d.row] (.tup [.agg (rrB d).1.row,.int .i64 (rrB d).2]):=rrQ_cv (by decide) (iRiseReadO d h) (by kernel_rfl)
@[simp] theorem eqTyDE:eqTy prog 97=true:=by
 have g:prog.eqGuardType prog.depth 97=false:=by kernel_rfl
 have s:prog.stoodInHeld 97=false:=by kernel_rfl
 simp -implicitDefEqProofs [eqTy,g,eqOk,eqFs,underlying97,underlying3,s,shL,sh1]
theorem eqTyCS:eqTy prog 93=true:=by
 have g:prog.eqGuardType prog.depth 93=false:=by kernel_rfl
 have s:prog.stoodInHeld 93=false:=by kernel_rfl
 have r:(List.range 8)=[0,1,2,3,4,5,6,7]:=rfl
 simp -implicitDefEqProofs [eqTy,g,eqOk,eqFs,underlying93,underlying91,underlying90,underlying3,underlying9,underlying4,s,shL,sh1,r]
theorem shL_cs (s:CS) (h:s.map.length=8):shL [.str [],.int .i64 0,.str [],.int .i64 0,.int .i64 0,.int .i64 0,.int .i64 0,.int .i64 0,.int .i64 0,.int .i64 0,.int .i64 0,.int .i64 0,.int .i64 0,.int .i64 0,.int .i64 0,.int .i64 0,.int .i64 0,.int .i64 0,.int .i64 0,.int .i64 0,.int .i64 0,.int .i64 0,.int .i64 0,.int .i64 0,.int .i64 0,.int .i64 0,.int .i64 0,.int .i64 0,.int .i64 0,.int .i64 0,.bool false] s.row=true:=by
 obtain⟨n,k,f,m,hm,b⟩:=s
 simp only at h
 match m,h with
 | [a,b,c,d,e,f,g,i],_=>simp[CS.row,PT.row,shL,sh1]
theorem beqC_pts:∀ (a b:List PT),a.length=b.length→beqC (a.flatMap PT.row) (b.flatMap PT.row)=decide (a=b)
 | [],[],_=>rfl
 | x::a,y::b,h=>by
  have:=beqC_pts a b (by simpa using h)
  rw[Bool.eq_iff_iff]
  obtain⟨x1,x2,x3⟩:=x
  obtain⟨y1,y2,y3⟩:=y
  simp[PT.row,beqC,beq1,this,and_assoc]
theorem beqC_cs (a b:CS) (ha:a.map.length=8) (hb:b.map.length=8):beqC a.row b.row=decide (a=b):=by
 have h:=beqC_pts a.map b.map (by omega)
 have hl:(a.map.flatMap PT.row).length=(b.map.flatMap PT.row).length:=by rw[flat3,flat3,ha,hb]
 obtain⟨n,k,f,m,⟨h1,h2,h3⟩,d⟩:=a
 obtain⟨n',k',f',m',⟨h1',h2',h3'⟩,d'⟩:=b
 simp only at h hl
 rw[Bool.eq_iff_iff]
 simp only[CS.row,beqC,beq1,beqC_append _ _ hl,h,PT.row,List.cons_append,List.nil_append,Bool.and_eq_true,decide_eq_true_eq,beq_iff_eq,CS.mk.injEq,PT.mk.injEq,and_true,and_assoc]
theorem take_eq1 {α:Type} {a b:List α} {i:Nat} {x y:α} (h:a.take i=b.take i) (ha:a[i]?=some x) (hb:b[i]?=some y) (he:x=y):a.take (i+1)=b.take (i+1):=by
 rw[List.take_add_one,List.take_add_one,h,ha,hb,he]
theorem ne_at {α:Type} {a b:List α} {i:Nat} {x y:α} (ha:a[i]?=some x) (hb:b[i]?=some y) (he:¬ x=y):¬ a=b:=by
 rintro rfl
 rw[ha]at hb
 exact he (Option.some.inj hb)
theorem iEqInt (xs bs:List Int) (hl:xs.length≤1048576) (hl2:bs.length≤1048576):CV prog 46 [.lst 1 (xs.map qac),.lst 1 (bs.map qac)] (.bool (decide (xs=bs))):=by
 refine cvx func46 [] ntmps46 rfl rfl rfl ?_ (hca:=by simp[qac])
 by_cases h0:xs.length=bs.length
 ·simp -implicitDefEqProofs [h0]
  refine ev_lo (X:=Nat) [0,1,12,13] [] (fun i=>[(13,.int .i64 i)]) (fun i=>[]) (fun i=>bs.length-i) (fun i=>i≤bs.length∧xs.take i=bs.take i) 0 (by simp) ?_ (he:=by simp[obOf])
  rintro i ⟨hi,ha⟩
  by_cases h1:i<bs.length
  ·obtain⟨s,e1⟩:∃ s,bs[i]?=some s:=⟨_,List.getElem?_eq_getElem h1⟩
   have h1':i<xs.length:=by omega
   obtain⟨t,f1⟩:∃ t,xs[i]?=some t:=⟨_,List.getElem?_eq_getElem h1'⟩
   have e0:bs[i]=s:=(List.getElem?_eq_some_iff.1 e1).2
   have f0:xs[i]=t:=(List.getElem?_eq_some_iff.1 f1).2
   have e2:=i64w ((i:Int)+1) (by omega) (by omega)
   by_cases hq:t=s
   ·have hn:=take_eq1 ha f1 e1 hq
    subst hq
    simp -implicitDefEqProofs [h1,h1',e0,e1,f0,f1,qac]
    exact nx (i+1) [] ⟨by omega,hn⟩ (by omega) (h4:=by simp[obOf,e2])
   ·have hn:=ne_at f1 e1 hq
    simp -implicitDefEqProofs [h1,h1',e0,e1,f0,f1,hn,qac]
    intros
    first
     | exact absurd (by assumption) hq
     | exact absurd (by cases t;cases s;simp_all) hq
  ·have hie:i=bs.length:=by omega
   subst hie
   rw[List.take_length,List.take_of_length_le (by omega)]at ha
   subst ha
   simp -implicitDefEqProofs
 ·have hn:¬ xs=bs:=fun e=>h0 (by rw[e])
  simp -implicitDefEqProofs [h0,show ¬ (xs.length:Int)=bs.length by omega,hn]
theorem iEqDe (xs bs:List DE) (hl:xs.length≤1048576) (hl2:bs.length≤1048576):CV prog 48 [.lst 3 (xs.map DE.row),.lst 3 (bs.map DE.row)] (.bool (decide (xs=bs))):=by
 refine cvx func48 [] ntmps48 rfl rfl rfl ?_ (hca:=by simp[DE.row])
 by_cases h0:xs.length=bs.length
 ·simp -implicitDefEqProofs [h0]
  refine ev_lo (X:=Nat) [0,1,12,13] [] (fun i=>[(13,.int .i64 i)]) (fun i=>[]) (fun i=>bs.length-i) (fun i=>i≤bs.length∧xs.take i=bs.take i) 0 (by simp) ?_ (he:=by simp[obOf])
  rintro i ⟨hi,ha⟩
  by_cases h1:i<bs.length
  ·obtain⟨s,e1⟩:∃ s,bs[i]?=some s:=⟨_,List.getElem?_eq_getElem h1⟩
   have h1':i<xs.length:=by omega
   obtain⟨t,f1⟩:∃ t,xs[i]?=some t:=⟨_,List.getElem?_eq_getElem h1'⟩
   have e0:bs[i]=s:=(List.getElem?_eq_some_iff.1 e1).2
   have f0:xs[i]=t:=(List.getElem?_eq_some_iff.1 f1).2
   have e2:=i64w ((i:Int)+1) (by omega) (by omega)
   by_cases hq:t=s
   ·have hn:=take_eq1 ha f1 e1 hq
    subst hq
    simp -implicitDefEqProofs [h1,h1',e0,e1,f0,f1,DE.row]
    exact nx (i+1) [] ⟨by omega,hn⟩ (by omega) (h4:=by simp[obOf,e2])
   ·have hn:=ne_at f1 e1 hq
    simp -implicitDefEqProofs [h1,h1',e0,e1,f0,f1,hn,DE.row]
    intros
    first
     | exact absurd (by assumption) hq
     | exact absurd (by cases t;cases s;simp_all) hq
  ·have hie:i=bs.length:=by omega
   subst hie
   rw[List.take_length,List.take_of_length_le (by omega)]at ha
   subst ha
   simp -implicitDefEqProofs
 ·have hn:¬ xs=bs:=fun e=>h0 (by rw[e])
  simp -implicitDefEqProofs [h0,show ¬ (xs.length:Int)=bs.length by omega,hn]
theorem iEqPt (xs bs:List PT) (hl:xs.length≤1048576) (hl2:bs.length≤1048576):CV prog 49 [.lst 3 (xs.map PT.row),.lst 3 (bs.map PT.row)] (.bool (decide (xs=bs))):=by
 refine cvx func49 [] ntmps49 rfl rfl rfl ?_ (hca:=by simp[PT.row])
 by_cases h0:xs.length=bs.length
 ·simp -implicitDefEqProofs [h0]
  refine ev_lo (X:=Nat) [0,1,12,13] [] (fun i=>[(13,.int .i64 i)]) (fun i=>[]) (fun i=>bs.length-i) (fun i=>i≤bs.length∧xs.take i=bs.take i) 0 (by simp) ?_ (he:=by simp[obOf])
  rintro i ⟨hi,ha⟩
  by_cases h1:i<bs.length
  ·obtain⟨s,e1⟩:∃ s,bs[i]?=some s:=⟨_,List.getElem?_eq_getElem h1⟩
   have h1':i<xs.length:=by omega
   obtain⟨t,f1⟩:∃ t,xs[i]?=some t:=⟨_,List.getElem?_eq_getElem h1'⟩
   have e0:bs[i]=s:=(List.getElem?_eq_some_iff.1 e1).2
   have f0:xs[i]=t:=(List.getElem?_eq_some_iff.1 f1).2
   have e2:=i64w ((i:Int)+1) (by omega) (by omega)
   by_cases hq:t=s
   ·have hn:=take_eq1 ha f1 e1 hq
    subst hq
    simp -implicitDefEqProofs [h1,h1',e0,e1,f0,f1,PT.row]
    exact nx (i+1) [] ⟨by omega,hn⟩ (by omega) (h4:=by simp[obOf,e2])
   ·have hn:=ne_at f1 e1 hq
    simp -implicitDefEqProofs [h1,h1',e0,e1,f0,f1,hn,PT.row]
    intros
    first
     | exact absurd (by assumption) hq
     | exact absurd (by cases t;cases s;simp_all) hq
  ·have hie:i=bs.length:=by omega
   subst hie
   rw[List.take_length,List.take_of_length_le (by omega)]at ha
   subst ha
   simp -implicitDefEqProofs
 ·have hn:¬ xs=bs:=fun e=>h0 (by rw[e])
  simp -implicitDefEqProofs [h0,show ¬ (xs.length:Int)=bs.length by omega,hn]
theorem sEqInt (xs bs:List Int) (hl:xs.length≤1048576) (hl2:bs.length≤1048576):CV prog 40 [.lst 1 (xs.map qac),.lst 1 (bs.map qac)] (.bool (decide (xs=bs))):=by
 refine cvx func40 [] ntmps40 rfl rfl rfl ?_ (hca:=by simp[qac])
 by_cases h0:xs.length=bs.length
 ·simp -implicitDefEqProofs [h0]
  refine ev_lo (X:=Nat) [0,1,5] [] (fun i=>[(5,.int .i64 i)]) (fun i=>[]) (fun i=>bs.length-i) (fun i=>i≤bs.length∧xs.take i=bs.take i) 0 (by simp) ?_ (he:=by simp[obOf])
  rintro i ⟨hi,ha⟩
  by_cases h1:i<bs.length
  ·obtain⟨s,e1⟩:∃ s,bs[i]?=some s:=⟨_,List.getElem?_eq_getElem h1⟩
   have h1':i<xs.length:=by omega
   obtain⟨t,f1⟩:∃ t,xs[i]?=some t:=⟨_,List.getElem?_eq_getElem h1'⟩
   have e0:bs[i]=s:=(List.getElem?_eq_some_iff.1 e1).2
   have f0:xs[i]=t:=(List.getElem?_eq_some_iff.1 f1).2
   have e2:=i64w ((i:Int)+1) (by omega) (by omega)
   by_cases hq:t=s
   ·have hn:=take_eq1 ha f1 e1 hq
    subst hq
    simp -implicitDefEqProofs [h1,h1',e0,e1,f0,f1,qac]
    exact nx (i+1) [] ⟨by omega,hn⟩ (by omega) (h4:=by simp[obOf,e2])
   ·have hn:=ne_at f1 e1 hq
    simp -implicitDefEqProofs [h1,h1',e0,e1,f0,f1,hn,qac]
    intros
    first
     | exact absurd (by assumption) hq
     | exact absurd (by cases t;cases s;simp_all) hq
  ·have hie:i=bs.length:=by omega
   subst hie
   rw[List.take_length,List.take_of_length_le (by omega)]at ha
   subst ha
   simp -implicitDefEqProofs
 ·have hn:¬ xs=bs:=fun e=>h0 (by rw[e])
  simp -implicitDefEqProofs [h0,show ¬ (xs.length:Int)=bs.length by omega,hn]
theorem iIdxCS (l:List CS) (x:CS) (hl:l.length≤1048576) (h8:∀ s∈l,s.map.length=8) (hx:x.map.length=8):ACall prog 123 [.lst 31 (l.map CS.row),.agg x.row] [] (fun r L'=>∃ k:Int,(0≤k↔x∈l)∧r=.int .i64 k∧L'=[]):=by
 refine acx func123 [(4,[zJ 0 [3] [],zJ 1 [] [3],zJ 2 [] [3],zJ 3 [] [3],zJ 4 [] [3],zI 5])] ntmps123 rfl rfl rfl ?_
 have hxl:=qbf x hx
 have hxt:=cs_take x hx
 simp -implicitDefEqProofs [hxl,hxt]
 refine ev_lo (X:=Nat) [0,3,7,8] [(3,3)] (fun i=>[(8,.int .i64 i)]) (fun i=>[(3,⟨31,[x.row]⟩)]) (fun i=>l.length-i) (fun i=>i≤l.length∧x ∉ l.take i) 0 (by simp) ?_ (he:=by simp[obOf,renL_cs1])
 rintro i ⟨hi,hn⟩
 by_cases h1:i<l.length
 ·obtain⟨s,e1⟩:∃ s,l[i]?=some s:=⟨_,List.getElem?_eq_getElem h1⟩
  have e0:l[i]=s:=(List.getElem?_eq_some_iff.1 e1).2
  have hm:=List.mem_of_getElem? e1
  have e2:=i64w ((i:Int)+1) (by omega) (by omega)
  have hs8:=h8 s hm
  simp -implicitDefEqProofs [hxl,hxt,show(i:Int)<l.length by omega,h1,e0,e1,qbf s hs8,cs_take s hs8,eqTyCS,shL_cs x hx,shL_cs s hs8,beqC_cs x s hx hs8]
  refine⟨fun e=>?_,fun e=>nx (i+1) [(3,3)] ⟨by omega,?_⟩ (by omega) (h4:=by simp[obOf,e2,renL_cs1])⟩
  ·subst e
   exact⟨[],by simp,i,by simp[hm],rfl,rfl⟩
  ·rw[List.take_add_one,e1]
   simp[hn,e]
 ·have hie:i=l.length:=by omega
  subst hie
  rw[List.take_length]at hn
  simp -implicitDefEqProofs
  exact⟨[],by simp,-1,by simp[hn],rfl,rfl⟩
theorem iHasCS (l:List CS) (x:CS) (hl:l.length≤1048576) (h8:∀ s∈l,s.map.length=8) (hx:x.map.length=8):CV prog 47 [.lst 31 (l.map CS.row),.agg x.row] (.bool (decide (x∈l))):=by
 have c1:=iIdxCS l x hl h8 hx
 have hxl:=qbf x hx
 have hxt:=cs_take x hx
 refine cvx func47 [] ntmps47 rfl rfl rfl ?_ (hca:=by simp[cs_cl])
 simp -implicitDefEqProofs [hxl,hxt]
 refine qaf [] (by kernel_rfl) c1 (by simp[cs_cl];exact mtL_refl _ (by simp[CS.row,PT.row,flA])) (by simp) trivial (by simp) (by simp) ?_
 rintro r L' ⟨k,hk,rfl,rfl⟩
 refine⟨[],⟨by simp,by simp,by simp,by simp,by simp⟩,?_⟩
 simp only[qan]
 simp -implicitDefEqProofs [hk]
theorem sSameC (xs bs:List BS) (hl:xs.length≤1048576) (hl2:bs.length≤1048576) (hA:∀ b∈xs,b.bl.length=8) (hB:∀ b∈bs,b.bl.length=8):CV prog 44 [bk xs,bk bs] (.bool (decide (xs=bs))):=by
 refine cvx func44 [(6,[zI 0,zJ 1 [2] [],zJ 2 [] [2],zI 3,zI 4,zJ 5 [] [2],zJ 6 [3] [2],zJ 7 [] [2,3],zJ 8 [] [2],zJ 9 [] [2],zI 10])] ntmps44 rfl rfl rfl ?_ (hca:=by simp[bk])
 by_cases h0:xs.length=bs.length
 ·simp -implicitDefEqProofs [h0,bk]
  refine ev_lo (X:=Nat) [2,3,5] [(2,2),(3,3)] (fun i=>[(5,.int .i64 i)]) (fun i=>[(2,⟨1,[[.lst 11 (xs.map BS.row)]]⟩),(3,⟨1,[[.lst 11 (bs.map BS.row)]]⟩)]) (fun i=>bs.length-i) (fun i=>i≤bs.length∧xs.take i=bs.take i) 0 (by simp) ?_ (he:=by simp[obOf])
  rintro i ⟨hi,ha⟩
  by_cases h1:i<bs.length
  ·obtain⟨s,e1⟩:∃ s,bs[i]?=some s:=⟨_,List.getElem?_eq_getElem h1⟩
   have h1':i<xs.length:=by omega
   obtain⟨t,f1⟩:∃ t,xs[i]?=some t:=⟨_,List.getElem?_eq_getElem h1'⟩
   have e0:bs[i]=s:=(List.getElem?_eq_some_iff.1 e1).2
   have f0:xs[i]=t:=(List.getElem?_eq_some_iff.1 f1).2
   have e2:=i64w ((i:Int)+1) (by omega) (by omega)
   have hs8:=hB s (List.mem_of_getElem? e1)
   have ht8:=hA t (List.mem_of_getElem? f1)
   by_cases hq:t=s
   ·have hn:=take_eq1 ha f1 e1 hq
    subst hq
    simp -implicitDefEqProofs [h1,h1',e0,e1,f0,f1,qag _ hs8,qbq _ hs8,eqTy35,shL_row _ hs8,beqC_row _ _ hs8 hs8]
    exact nx (i+1) [(2,2),(3,3)] ⟨by omega,hn⟩ (by omega) (h4:=by simp[obOf,e2])
   ·have hn:=ne_at f1 e1 hq
    simp -implicitDefEqProofs [h1,h1',e0,e1,f0,f1,hn,qag _ hs8,qag _ ht8,qbq _ hs8,qbq _ ht8,eqTy35,shL_row _ hs8,shL_row _ ht8,beqC_row _ _ ht8 hs8]
    intros
    exact absurd (by assumption) hq
  ·have hie:i=bs.length:=by omega
   subst hie
   rw[List.take_length,List.take_of_length_le (by omega)]at ha
   subst ha
   simp -implicitDefEqProofs
 ·have hn:¬ xs=bs:=fun e=>h0 (by rw[e])
  simp -implicitDefEqProofs [bk,h0,show ¬ (xs.length:Int)=bs.length by omega,hn]
theorem sCoreSameC (a b:CO) (ha:CoT a) (hb:CoT b):CV prog 112 [.agg a.row,.agg b.row] (.bool (decide (a=b))):=by
 have a1:=ha.sets
 have a2:=ha.ddt
 have a3:=ha.parts
 have c1:=sEqInt a.safe b.safe ha.safe hb.safe
 obtain⟨R,hR⟩:∃ R,decide (a=b)=R:=⟨_,rfl⟩
 rw[hR]
 have hno:∀ p:Prop,(a=b→p)→¬ p→R=false:=fun p h hn=>by
  rw[← hR,decide_eq_false_iff_not]
  exact fun e=>hn (h e)
 refine cvx func112 [(6,[zI 0,zJ 1 [2] [],zJ 2 [] [2],zI 3,zI 4,zJ 5 [] [2],zJ 6 [3] [2],zJ 7 [] [2,3],zJ 8 [] [2],zJ 9 [] [2],zI 10]),(11,[zI 0,zJ 1 [2] [],zJ 2 [] [2],zI 3,zI 4,zJ 5 [] [2],zJ 6 [3] [2],zJ 7 [] [2,3],zJ 8 [] [2],zJ 9 [] [2],zI 10]),(16,[zI 0,zJ 1 [2] [],zJ 2 [] [2],zI 3,zI 4,zJ 5 [] [2],zJ 6 [3] [2],zJ 7 [] [2,3],zJ 8 [] [2],zJ 9 [] [2],zI 10])] ntmps112 rfl rfl rfl ?_ (hca:=by simp[co_cl])
 by_cases q1:a.txg=b.txg
 rotate_left
 ·rw[hno _ (fun e=>by rw[e]) q1]
  simp -implicitDefEqProofs [CO.row,q1]
 by_cases q2:a.dirty=b.dirty
 rotate_left
 ·rw[hno _ (fun e=>by rw[e]) q2]
  simp -implicitDefEqProofs [CO.row,q1,q2]
 by_cases q3:a.logn=b.logn
 rotate_left
 ·rw[hno _ (fun e=>by rw[e]) q3]
  simp -implicitDefEqProofs [CO.row,q1,q2,q3]
 by_cases q4:a.sets.length=b.sets.length
 rotate_left
 ·rw[hno _ (fun e=>by rw[e]) q4]
  simp -implicitDefEqProofs [CO.row,q1,q2,q3,q4,show ¬ (a.sets.length:Int)=b.sets.length by omega]
 by_cases q5:a.ddt.length=b.ddt.length
 rotate_left
 ·rw[hno _ (fun e=>by rw[e]) q5]
  simp -implicitDefEqProofs [CO.row,q1,q2,q3,q4,q5,show ¬ (a.ddt.length:Int)=b.ddt.length by omega]
 by_cases q6:a.parts.length=b.parts.length
 rotate_left
 ·rw[hno _ (fun e=>by rw[e]) q6]
  simp -implicitDefEqProofs [CO.row,q1,q2,q3,q4,q5,q6,show ¬ (a.parts.length:Int)=b.parts.length by omega]
 simp -implicitDefEqProofs [CO.row,q1,q2,q3,q4,q5,q6]
 refine c1.call ?_
 by_cases q7:a.safe=b.safe
 rotate_left
 ·rw[hno _ (fun e=>by rw[e]) q7]
  simp -implicitDefEqProofs [q7]
 simp -implicitDefEqProofs [q7]
 refine ev_lo (X:=Nat) [2,3,5] [(2,2),(3,3)] (fun i=>[(5,.int .i64 i)]) (fun i=>[(2,⟨7,[a.row]⟩),(3,⟨7,[b.row]⟩)]) (fun i=>b.sets.length-i) (fun i=>i≤b.sets.length∧a.sets.take i=b.sets.take i) 0 (by simp) ?_ (he:=by simp[obOf,CO.row,q1,q2,q3,q7])
 rintro i ⟨hi,ht⟩
 by_cases h1:i<b.sets.length
 ·obtain⟨s,e1⟩:∃ s,b.sets[i]?=some s:=⟨_,List.getElem?_eq_getElem h1⟩
  have h1':i<a.sets.length:=by omega
  obtain⟨t,f1⟩:∃ t,a.sets[i]?=some t:=⟨_,List.getElem?_eq_getElem h1'⟩
  have e0:b.sets[i]=s:=(List.getElem?_eq_some_iff.1 e1).2
  have f0:a.sets[i]=t:=(List.getElem?_eq_some_iff.1 f1).2
  have e2:=i64w ((i:Int)+1) (by omega) (by omega)
  have hs8:=hb.m8 s (List.mem_of_getElem? e1)
  have ht8:=ha.m8 t (List.mem_of_getElem? f1)
  by_cases hq:t=s
  ·have hn:=take_eq1 ht f1 e1 hq
   subst hq
   simp -implicitDefEqProofs [h1,h1',e0,e1,f0,f1,CO.row,qbf t ht8,cs_take t ht8,eqTyCS,shL_cs t ht8,beqC_cs t t ht8 ht8]
   exact nx (i+1) [(2,2),(3,3)] ⟨by omega,hn⟩ (by omega) (h4:=by simp[obOf,e2,CO.row])
  ·rw[hno _ (fun e=>by rw[e]) (ne_at f1 e1 hq)]
   simp -implicitDefEqProofs [h1,h1',e0,e1,f0,f1,CO.row,qbf s hs8,cs_take s hs8,qbf t ht8,cs_take t ht8,eqTyCS,shL_cs s hs8,shL_cs t ht8,beqC_cs t s ht8 hs8,beqC_cs t t ht8 ht8]
   intros
   first
    | exact absurd (by assumption) hq
    | exact absurd (by cases t;cases s;simp_all) hq
 have hie:i=b.sets.length:=by omega
 subst hie
 rw[List.take_length,List.take_of_length_le (by omega)]at ht
 have g4:=ht
 simp -implicitDefEqProofs [CO.row,q4]
 refine ev_lo (X:=Nat) [2,3,6] [(2,2),(3,3)] (fun i=>[(6,.int .i64 i)]) (fun i=>[(2,⟨7,[a.row]⟩),(3,⟨7,[b.row]⟩)]) (fun i=>b.ddt.length-i) (fun i=>i≤b.ddt.length∧a.ddt.take i=b.ddt.take i) 0 (by simp) ?_ (he:=by simp[obOf,CO.row,q1,q2,q3,q7])
 rintro i ⟨hi,ht⟩
 by_cases h1:i<b.ddt.length
 ·obtain⟨s,e1⟩:∃ s,b.ddt[i]?=some s:=⟨_,List.getElem?_eq_getElem h1⟩
  have h1':i<a.ddt.length:=by omega
  obtain⟨t,f1⟩:∃ t,a.ddt[i]?=some t:=⟨_,List.getElem?_eq_getElem h1'⟩
  have e0:b.ddt[i]=s:=(List.getElem?_eq_some_iff.1 e1).2
  have f0:a.ddt[i]=t:=(List.getElem?_eq_some_iff.1 f1).2
  have e2:=i64w ((i:Int)+1) (by omega) (by omega)
  by_cases hq:t=s
  ·have hn:=take_eq1 ht f1 e1 hq
   subst hq
   simp -implicitDefEqProofs [h1,h1',e0,e1,f0,f1,CO.row,DE.row]
   exact nx (i+1) [(2,2),(3,3)] ⟨by omega,hn⟩ (by omega) (h4:=by simp[obOf,e2,CO.row])
  ·rw[hno _ (fun e=>by rw[e]) (ne_at f1 e1 hq)]
   simp -implicitDefEqProofs [h1,h1',e0,e1,f0,f1,CO.row,DE.row]
   intros
   first
    | exact absurd (by assumption) hq
    | exact absurd (by cases t;cases s;simp_all) hq
 have hie:i=b.ddt.length:=by omega
 subst hie
 rw[List.take_length,List.take_of_length_le (by omega)]at ht
 have g5:=ht
 simp -implicitDefEqProofs [CO.row,q5]
 refine ev_lo (X:=Nat) [2,3,7] [(2,2),(3,3)] (fun i=>[(7,.int .i64 i)]) (fun i=>[(2,⟨7,[a.row]⟩),(3,⟨7,[b.row]⟩)]) (fun i=>b.parts.length-i) (fun i=>i≤b.parts.length∧a.parts.take i=b.parts.take i) 0 (by simp) ?_ (he:=by simp[obOf,CO.row,q1,q2,q3,q7])
 rintro i ⟨hi,ht⟩
 by_cases h1:i<b.parts.length
 ·obtain⟨s,e1⟩:∃ s,b.parts[i]?=some s:=⟨_,List.getElem?_eq_getElem h1⟩
  have h1':i<a.parts.length:=by omega
  obtain⟨t,f1⟩:∃ t,a.parts[i]?=some t:=⟨_,List.getElem?_eq_getElem h1'⟩
  have e0:b.parts[i]=s:=(List.getElem?_eq_some_iff.1 e1).2
  have f0:a.parts[i]=t:=(List.getElem?_eq_some_iff.1 f1).2
  have e2:=i64w ((i:Int)+1) (by omega) (by omega)
  by_cases hq:t=s
  ·have hn:=take_eq1 ht f1 e1 hq
   subst hq
   simp -implicitDefEqProofs [h1,h1',e0,e1,f0,f1,CO.row,PT.row]
   exact nx (i+1) [(2,2),(3,3)] ⟨by omega,hn⟩ (by omega) (h4:=by simp[obOf,e2,CO.row])
  ·rw[hno _ (fun e=>by rw[e]) (ne_at f1 e1 hq)]
   simp -implicitDefEqProofs [h1,h1',e0,e1,f0,f1,CO.row,PT.row]
   intros
   first
    | exact absurd (by assumption) hq
    | exact absurd (by cases t;cases s;simp_all) hq
 have hie:i=b.parts.length:=by omega
 subst hie
 rw[List.take_length,List.take_of_length_le (by omega)]at ht
 have he:a=b:=by
  cases a
  cases b
  simp_all
 rw[← hR,he]
 simp -implicitDefEqProofs [CO.row,q6]
def clP (disk:CO) (s:CS):Bool:=s.dirty || (atB (disk.sets.map csB) s.name && decide (disk.sets[atP (disk.sets.map csB) s.name]?=some s))
def clnA (disk:CO) (l:List CS):Bool:=l.all (clP disk)
def clD (now disk:CO):CO:={ now with txg:=disk.txg,sets:=disk.sets,logn:=disk.logn }
def clB (now disk:CO):Bool:=clnA disk now.sets && (now.dirty || decide (clD now disk=disk))
theorem clnA_take {d:CO} {l:List CS} {i:Nat} {s:CS} (hs:l[i]?=some s) (h:clnA d (l.take i)=true) (h2:clP d s=true):clnA d (l.take (i+1))=true:=by
 rw[List.take_add_one,hs]
 unfold clnA at *
 rw[List.all_append,h]
 simp[h2]
theorem clnA_no {d:CO} {l:List CS} {s:CS} (hs:s∈l) (h:clP d s=false):clnA d l=false:=by
 cases hk:clnA d l with
 | false=>rfl
 | true =>
  unfold clnA at hk
  rw[List.all_eq_true]at hk
  rw[hk s hs]at h
  cases h
theorem sCleanC (a b:CO) (ha:CoT a) (hb:CoT b):CV prog 42 [.agg a.row,.agg b.row] (.bool (clB a b)):=by
 obtain⟨R,hR⟩:∃ R,clB a b=R:=⟨_,rfl⟩
 rw[hR]
 unfold clB at hR
 have a1:=ha.sets
 have b1:=hb.sets
 have c1:=sNamesC b b1 hb.m8
 refine cvx func42 [(4,[zJ 0 [3] [],zJ 2 [] [3],zJ 3 [2] [3],zJ 4 [] [3,2],zJ 5 [] [3],zJ 6 [] [3],zJ 7 [] [3],zJ 1 [] [2],zI 8,zI 9,zI 10,zI 11,zI 12,zI 13]),(5,[zI 0,zJ 1 [2] [],zJ 2 [] [2],zI 3,zI 4,zI 5,zI 6,zI 7,zI 8,zI 9,zI 10,zI 11,zJ 12 [3] [],zJ 13 [] [3],zI 14,zI 15,zJ 16 [] [3],zJ 17 [2] [3],zJ 18 [] [3,2],zJ 19 [] [3],zJ 20 [] [3],zI 21,zI 22,zI 23])] ntmps42 rfl rfl rfl ?_ (hca:=by simp[co_cl])
 simp -implicitDefEqProofs [CO.row]
 refine ev_lo (X:=Nat) [2,3,5] [(2,2),(3,3)] (fun i=>[(5,.int .i64 i)]) (fun i=>[(2,⟨7,[a.row]⟩),(3,⟨7,[b.row]⟩)]) (fun i=>a.sets.length-i) (fun i=>i≤a.sets.length∧clnA b (a.sets.take i)=true) 0 (by simp[clnA]) ?_ (he:=by simp[obOf,CO.row])
 rintro i ⟨hi,ht⟩
 by_cases h1:i<a.sets.length
 ·obtain⟨s,e1⟩:∃ s,a.sets[i]?=some s:=⟨_,List.getElem?_eq_getElem h1⟩
  have e0:a.sets[i]=s:=(List.getElem?_eq_some_iff.1 e1).2
  have hm:=List.mem_of_getElem? e1
  have hs8:=ha.m8 s hm
  have e2:=i64w ((i:Int)+1) (by omega) (by omega)
  have c2:=cv_of (atC (b.sets.map csB) s.name (by simp;omega)) (hca:=by simp[bk]) (hcv:=by simp)
  simp only[bk,CO.row,List.map_map]at c1 c2
  have hcl:clP b s=(s.dirty || (atB (b.sets.map csB) s.name && decide (b.sets[atP (b.sets.map csB) s.name]?=some s))):=rfl
  simp -implicitDefEqProofs [CO.row,e0,e1,h1,show(i:Int)<a.sets.length by omega,qbf s hs8]
  refine c1.call ?_
  simp -implicitDefEqProofs
  refine c2.call ?_
  obtain⟨k,hk⟩:∃ k,atP (b.sets.map csB) s.name=k:=⟨_,rfl⟩
  rw[hk]at hcl
  have hsk:=qbf s hs8
  have hst:=cs_take s hs8
  have hd3:=cs_dty s hs8
  have hd4:=(List.getElem?_eq_some_iff.1 hd3).2
  have hnx:clP b s=true→clnA b (a.sets.take (i+1))=true:=clnA_take e1 ht
  have hno:clP b s=false→R=false:=fun e=>by rw[← hR,clnA_no hm e];rfl
  cases hd:s.dirty with
  | true =>
   simp -implicitDefEqProofs [hk,CO.row,e0,e1,h1,show(i:Int)<a.sets.length by omega,hsk,hst,hd3,hd4,hd]
   exact nx (i+1) [(2,2),(3,3)] ⟨by omega,hnx (by rw[hcl,hd];rfl)⟩ (by omega) (h4:=by simp[obOf,e2,CO.row])
  | false =>
   cases ht:atB (b.sets.map csB) s.name with
   | false =>
    rw[hno (by rw[hcl,hd,ht];rfl)]
    simp -implicitDefEqProofs [hk,CO.row,e0,e1,h1,show(i:Int)<a.sets.length by omega,hsk,hst,hd3,hd4,hd,ht]
   | true =>
    obtain⟨u,hu,hun⟩:=atB_some ht
    rw[hk,List.getElem?_map]at hu
    obtain⟨t,f1,rfl⟩:=Option.map_eq_some_iff.1 hu
    have hkl:=(List.getElem?_eq_some_iff.1 f1).1
    have f0:b.sets[k]=t:=(List.getElem?_eq_some_iff.1 f1).2
    have ht8:=hb.m8 t (List.mem_of_getElem? f1)
    rw[f1]at hcl
    by_cases hq:t=s
    ·subst hq
     simp -implicitDefEqProofs [hk,CO.row,e0,e1,h1,show(i:Int)<a.sets.length by omega,hsk,hst,hd3,hd4,hd,ht,hkl,f0,f1,show(k:Int)<b.sets.length by omega,eqTyCS,shL_cs t hs8,beqC_cs t t hs8 hs8]
     exact nx (i+1) [(2,2),(3,3)] ⟨by omega,hnx (by rw[hcl,hd,ht];simp)⟩ (by omega) (h4:=by simp[obOf,e2,CO.row])
    ·rw[hno (by rw[hcl,hd,ht];simp[hq])]
     simp -implicitDefEqProofs [hk,CO.row,e0,e1,h1,show(i:Int)<a.sets.length by omega,hsk,hst,hd3,hd4,hd,ht,hkl,f0,f1,show(k:Int)<b.sets.length by omega,qbf t ht8,cs_take t ht8,eqTyCS,shL_cs t ht8,shL_cs s hs8,beqC_cs t s ht8 hs8,hq]
 ·have hie:i=a.sets.length:=by omega
  subst hie
  rw[List.take_of_length_le (by omega)]at ht
  rw[ht]at hR
  have c3:=sCoreSameC (clD a b) b ⟨by simp only[clD];exact hb.sets,ha.ddt,ha.parts,ha.safe,hb.m8,hb.nm⟩ hb
  generalize decide (clD a b=b)=D at *
  simp only[CO.row,clD]at c3
  cases hd:a.dirty with
  | true =>
   rw[hd]at hR
   subst hR
   simp -implicitDefEqProofs [CO.row,hd]
  | false =>
   rw[hd]at hR
   subst hR
   rw[hd]at c3
   simp -implicitDefEqProofs [CO.row,hd]
   refine c3.call ?_
   simp -implicitDefEqProofs [hd]
def runK:List BO→List BS→Option (List BS)
 | [],b=>some b
 | o::r,b=>if (resB b o).2=0 then runK r (resB b o).1 else none
def vwF (now:List BS×Bool):Option (List BS)→Bool
 | some b=>now.2 && decide (b=now.1)
 | none=>false
def vwT (p:PO):Bool:=vwF (cbB p.d p.c) (runK (lfB p.d p.c.txg) (cbB p.d (rrB p.d).1).1)
def vwB (p:PO):Bool :=
 poolOkB p && (p.up && (decide ((rrB p.d).2=0) && (decide ((rrB p.d).1.txg=p.c.txg) && (decide ((rrB p.d).1.safe=p.c.safe) && (decide (((lfB p.d p.c.txg).length:Int)=p.c.logn) && ((cbB p.d (rrB p.d).1).2 && (clB p.c (rrB p.d).1 && vwT p)))))))
theorem rt_true {t:List UInt8} (h:(rtRd t).2=true):∃ x,rtRd t=(coreL x,true):=by
 unfold rtRd at h ⊢
 split
 ·rename_i h1
  rw[if_pos h1]at h
  cases h
 ·rename_i h1
  rw[if_neg h1]at h
  unfold finB at h ⊢
  split
  ·rename_i x hx
   rw[hx]at h
   simp only at h
   split
   ·exact⟨x,rfl⟩
   ·rename_i ha
    rw[if_neg ha]at h
    cases h
  ·rename_i hx
   rw[hx]at h
   cases h
theorem zK_Tv:CoT zK:=⟨by simp[zK],by simp[zK],by simp[zK],by simp[zK],by simp[zK],by simp[zK]⟩
theorem rrB_ok {d:DK} (h:(rrB d).2=0):∃ x,dOkB d=true∧CoT (rrS d (coreL x))∧(rrB d).1=rrS d (coreL x)∧qax (rrC d (coreL x))=true:=by
 unfold rrB at h ⊢
 split at h
 ·rename_i h1
  rw[if_pos h1]
  split at h
  ·rename_i h2
   rw[if_pos h2]
   split at h
   ·rename_i h3
    rw[if_pos h3]
    simp only[rrF,Bool.and_eq_true,decide_eq_true_eq]at h2
    obtain⟨x,hx⟩:=rt_true h2.2
    rw[hx]at h3 ⊢
    have hT:=rrC_T hx d
    simp only[rrG,Bool.and_eq_true]at h3
    refine⟨x,h1.1,⟨hT.1,hT.2,hT.3,?_,hT.5,hT.6⟩,rfl,h3.2⟩
    refine Nat.le_trans (reachB_len _ _) ?_
    obtain⟨_,k4,k5,k6,_⟩:=coreOk_M h3.2
    omega
   ·cases h
  ·cases h
 ·cases h
theorem rrB_no {d:DK} (h:(rrB d).2≠0):(rrB d).1=zK:=by
 unfold rrB at h ⊢
 split at h
 ·rename_i h1
  rw[if_pos h1]
  split at h
  ·rename_i h2
   rw[if_pos h2]
   split at h
   ·exact absurd rfl h
   ·rename_i h3
    rw[if_neg h3]
  ·rename_i h2
   rw[if_neg h2]
 ·rename_i h1
  rw[if_neg h1]
theorem rrB_T (d:DK):CoT (rrB d).1:=by
 by_cases h:(rrB d).2=0
 ·obtain⟨x,_,hT,hx,_⟩:=rrB_ok h
  rw[hx]
  exact hT
 ·rw[rrB_no h]
  exact zK_Tv
theorem lg_op {t:List UInt8} (h:(lgRd t).2=true):OpG (lgRd t).1.op:=by
 unfold lgRd at h ⊢
 split
 ·rename_i m a i x y hc
  rw[hc]at h
  simp only at h
  split
  ·rename_i p q hm
   rw[hm]at h
   simp only at h
   split
   ·rename_i h1
    have hne:t≠[]:=by
     rintro rfl
     have:=h1.1
     simp[openB,findB]at this
    have hlr:=h1.2
    unfold qbv at hlr
    split at hlr
    ·exact absurd hlr.symm hne
    ·rename_i hk
     simp only[lrOkB,Bool.and_eq_true,nameB,decide_eq_true_eq,Bool.not_eq_false]at hk
     refine⟨?_,by simp⟩
     simp only
     omega
   ·rename_i h1
    rw[if_neg h1]at h
    cases h
  ·rename_i hm
   split at h
   ·rename_i q
    exact absurd q (hm _ _)
   ·cases h
 ·rename_i hc
  split at h
  ·rename_i q
   exact absurd q (hc _ _ _ _ _)
  ·cases h
theorem tkS_sub:∀ (l:List (Option BO)) (o:BO),o∈tkS l→some o∈l
 | [],o,h=>by simp[tkS]at h
 | none::r,o,h=>by simp[tkS]at h
 | some a::r,o,h=>by
  simp only[tkS,List.mem_cons]at h ⊢
  rcases h with rfl | h
  ·exact .inl rfl
  ·exact .inr (tkS_sub r o h)
theorem tkS_len:∀ (l:List (Option BO)),(tkS l).length≤l.length
 | []=>by simp[tkS]
 | none::r=>by simp[tkS]
 | some a::r=>by
  simp only[tkS,List.length_cons]
  have:=tkS_len r
  omega
theorem lfB_len (d:DK) (txg:Int):(lfB d txg).length≤8:=by
 unfold lfB
 rw[lfF_tk]
 refine Nat.le_trans (tkS_len _) ?_
 simp
theorem lfB_op {d:DK} {txg:Int} {o:BO} (h:o∈lfB d txg):OpG o:=by
 unfold lfB at h
 rw[lfF_tk]at h
 have h2:=tkS_sub _ _ h
 obtain⟨i,_,hi⟩:=List.mem_map.1 h2
 rw[recB_eq,hitB_eq,hitB_eq,lgAt_eq,lgAt_eq]at hi
 split at hi
 ·rename_i g
  simp only[Bool.and_eq_true]at g
  injection hi with hi
  subst hi
  exact lg_op g.1.1
 ·split at hi
  ·rename_i g
   simp only[Bool.and_eq_true]at g
   injection hi with hi
   subst hi
   exact lg_op g.1.1
  ·cases hi
def vG (i:Nat) (b:List BS):Prop:=BkG b∧b.length≤1000+i
theorem vG_step {i:Nat} {b:List BS} {o:BO} (h:vG i b) (ho:OpG o):vG (i+1) (resB b o).1:=by
 unfold resB
 split
 ·refine⟨doB_gd h.1 ho,?_⟩
  have:=doB_len b o
  have:=h.2
  omega
 ·exact⟨by simp[BkG],by simp⟩
theorem vG_S {i:Nat} {b:List BS} (h:vG i b) (hi:i≤8):BkS b:=⟨by have:=h.2;omega,fun x hx=>by have:=h.1 x hx;omega⟩
theorem cbB_G (d:DK) {c:CO} (hc:CoT c):vG 0 (cbB d c).1:=by
 unfold cbB
 split
 ·rename_i h
  obtain⟨_,k1,_⟩:=coreOk_M h.2.1
  refine⟨fun b hb=>?_,by simp only[List.length_map];omega⟩
  obtain⟨s,hs,rfl⟩:=List.mem_map.1 hb
  have h8:=hc.m8 s hs
  have hk:=h.2.1
  simp only[qax,Bool.and_eq_true,List.all_eq_true]at hk
  have:=csOk_nm (hk.1.1.1.1.2 s hs)
  simp[cbS,h8]
  omega
 ·exact⟨by simp[BkG],by simp⟩
theorem sVowLogC (p:PO) (hd:DkT p.d) (hc:CoT p.c):CV prog 15 [.agg p.row] (.bool (vwB p)):=by
 obtain⟨R,hR⟩:∃ R,vwB p=R:=⟨_,rfl⟩
 rw[hR]
 unfold vwB at hR
 have c1:=sRiseReadC p.d hd
 have c2:=sLogFindC p.d hd p.c.txg
 have c3:=sPoolOkC p hd hc
 have hT:=rrB_T p.d
 have hll:=lfB_len p.d p.c.txg
 have hop:=fun o (ho:o∈lfB p.d p.c.txg)=>lfB_op ho
 have c5:=sBookC p.d hd (rrB p.d).1 hT
 have g5:=cbB_G p.d hT
 have c6:=sCleanC p.c (rrB p.d).1 hc hT
 have c7:=sBookC p.d hd p.c hc
 have g7:=cbB_G p.d hc
 unfold vwT at hR
 generalize rrB p.d=K at *
 obtain⟨k,kn⟩:=K
 simp only at c1 hT c5 g5 c6 hR
 generalize lfB p.d p.c.txg=ls at *
 generalize clB p.c k=cl at *
 generalize cbB p.d k=B at *
 obtain⟨b0,bk0⟩:=B
 simp only at c5 g5 hR
 generalize hN:cbB p.d p.c=N at *
 obtain⟨nb,nk⟩:=N
 have c4:=sEqInt k.safe p.c.safe hT.safe hc.safe
 simp only at c7 g7 hR
 simp only[PO.row,DK.row,CO.row,bk]at c1 c2 c3 c5 c6 c7
 refine cvx func15 [(10,[zJ 0 [6] [],zJ 1 [] [6],zJ 2 [] [6],zJ 3 [] [6],zJ 4 [] [6],⟨5,[],[],[9],[]⟩,zI 6,zI 7,zI 8,zJ 9 [] [6],zI 10,zI 11])] ntmps15 rfl rfl rfl ?_ (hca:=by simp[PO.row,DK.row,co_cl])
 simp -implicitDefEqProofs [PO.row,DK.row,CO.row]
 refine c1.call ?_
 simp -implicitDefEqProofs [CO.row]
 refine c2.call ?_
 simp -implicitDefEqProofs
 refine c3.call ?_
 cases q1:poolOkB p with
 | false =>
  rw[q1]at hR
  subst hR
  simp -implicitDefEqProofs
 | true =>
  cases q2:p.up with
  | false =>
   rw[q1,q2]at hR
   subst hR
   simp -implicitDefEqProofs [q2]
  | true =>
   by_cases q3:kn=0
   rotate_left
   ·rw[q1,q2,decide_eq_false q3]at hR
    subst hR
    simp -implicitDefEqProofs [q2,q3]
   by_cases q4:k.txg=p.c.txg
   rotate_left
   ·rw[q1,q2,decide_eq_true q3,decide_eq_false q4]at hR
    subst hR
    simp -implicitDefEqProofs [q2,q3,q4]
   simp -implicitDefEqProofs [q2,q3,q4]
   refine c4.call ?_
   by_cases q5:k.safe=p.c.safe
   rotate_left
   ·rw[q1,q2,decide_eq_true q3,decide_eq_true q4,decide_eq_false q5]at hR
    subst hR
    simp -implicitDefEqProofs [q5]
   by_cases q6:(ls.length:Int)=p.c.logn
   rotate_left
   ·rw[q1,q2,decide_eq_true q3,decide_eq_true q4,decide_eq_true q5,decide_eq_false q6]at hR
    subst hR
    simp -implicitDefEqProofs [q5,q6]
   rw[q1,q2,decide_eq_true q3,decide_eq_true q4,decide_eq_true q5,decide_eq_true q6]at hR
   simp only[Bool.true_and]at hR
   rw[q4,q5]at c5 c6
   rw[← q6]at c6 c7
   simp -implicitDefEqProofs [q5,q6.symm]
   refine c5.call ?_
   simp -implicitDefEqProofs
   cases bk0 with
   | false =>
    subst hR
    simp -implicitDefEqProofs
    refine ev_lo (X:=Unit) [1,5,6,7,8] [(1,1),(6,6)] (fun _=>[(8,.int .i64 0)]) (fun _=>[(1,⟨11,[p.row]⟩),(6,⟨1,[[.lst 11 (b0.map BS.row)]]⟩)]) (fun _=>0) (fun _=>True) () trivial ?_ (he:=by simp[obOf,PO.row,DK.row,CO.row,q2,← q6])
    rintro⟨⟩ -
    simp -implicitDefEqProofs [PO.row,DK.row,CO.row,← q6]
    exact⟨fun _=>c7.call (by simp -implicitDefEqProofs),fun _=>c7.call (by simp -implicitDefEqProofs)⟩
   | true =>
    simp only[Bool.true_and]at hR
    simp -implicitDefEqProofs
    refine c6.call ?_
    simp -implicitDefEqProofs
    refine ev_lo (X:=Nat×List BS×Bool) [1,5,6,7,8] [(1,1),(6,6)] (fun x=>[(7,.bool x.2.2),(8,.int .i64 x.1)]) (fun x=>[(1,⟨11,[p.row]⟩),(6,⟨1,[[.lst 11 (x.2.1.map BS.row)]]⟩)]) (fun x=>ls.length-x.1) (fun x=>x.1≤ls.length∧vG x.1 x.2.1∧(x.2.2=true→vwF (nb,nk) (runK (ls.drop x.1) x.2.1)=R)∧(x.2.2=false→R=false)) (0,b0,cl) ⟨by simp,g5,fun e=>by rw[← hR];simp only at e;rw[e];simp,fun e=>by rw[← hR];simp only at e;rw[e];rfl⟩ ?_ (he:=by simp[obOf,PO.row,DK.row,CO.row,q2,← q6])
    rintro⟨i,b,ok⟩ ⟨hi,hg,ho1,ho2⟩
    simp only at hi hg ho1 ho2
    cases ok with
    | false =>
     rw[ho2 rfl]
     simp -implicitDefEqProofs [PO.row,DK.row,CO.row,← q6]
     exact⟨fun _=>c7.call (by simp -implicitDefEqProofs),fun _=>c7.call (by simp -implicitDefEqProofs)⟩
    | true =>
     have ho:=ho1 rfl
     cases hr:ls.drop i with
     | nil =>
      have:=dropn hr
      have hie:i=ls.length:=by omega
      subst hie
      rw[hr]at ho
      simp only[runK,vwF]at ho
      have c8:=sSameC b nb (by have:=hg.2;omega) (by have:=g7.2;omega) (fun x hx=>(hg.1 x hx).1) (fun x hx=>(g7.1 x hx).1)
      simp only[bk]at c8
      simp -implicitDefEqProofs [PO.row,DK.row,CO.row,← q6]
      refine c7.call ?_
      cases nk with
      | false =>
       simp -implicitDefEqProofs
       simpa using ho
      | true =>
       simp -implicitDefEqProofs
       refine c8.call ?_
       simp -implicitDefEqProofs
       simpa using ho
     | cons o r =>
      obtain⟨g1,e0,e1,g3⟩:=dropc hr
      have hoo:=hop o (List.mem_of_getElem? e1)
      have e2:=i64w ((i:Int)+1) (by omega) (by omega)
      have c9:=sdoC' b o (vG_S hg (by omega)) ⟨by have:=hoo.1;omega,by have:=hoo.2;omega⟩
      have hs:=vG_step hg hoo
      rw[hr,runK]at ho
      generalize resB b o=Z at *
      obtain⟨zb,zn⟩:=Z
      simp only at ho hs c9
      simp only[bk,BO.row]at c9
      simp -implicitDefEqProofs [PO.row,DK.row,CO.row,← q6,g1,e0,e1,show(i:Int)<ls.length by omega,BO.row]
      refine c9.call ?_
      by_cases hz:zn=0
      ·rw[if_pos hz]at ho
       simp -implicitDefEqProofs [hz]
       exact nx (i+1,zb,true) [(1,1),(6,6)] ⟨by simp only;omega,hs,fun _=>by simp only[g3];exact ho,fun e=>(by cases e)⟩ (by simp only;omega) (h4:=by simp[obOf,e2,PO.row,DK.row,CO.row])
      ·rw[if_neg hz]at ho
       simp -implicitDefEqProofs [hz]
       exact nx (i+1,zb,false) [(1,1),(6,6)] ⟨by simp only;omega,hs,fun e=>(by cases e),fun _=>by rw[← ho];rfl⟩ (by simp only;omega) (h4:=by simp[obOf,e2,PO.row,DK.row,CO.row,show(zn == 0)=false by simp[hz]])
theorem srt_uniq {l:List CS} (hS:Srt (l.map csB)) {a b:CS} (ha:a∈l) (hb:b∈l) (hn:a.name=b.name):a=b:=by
 obtain⟨i,hi⟩:=List.getElem?_of_mem ha
 obtain⟨j,hj⟩:=List.getElem?_of_mem hb
 have hI:(l.map csB)[i]?=some (csB a):=by rw[List.getElem?_map,hi];rfl
 have hJ:(l.map csB)[j]?=some (csB b):=by rw[List.getElem?_map,hj];rfl
 have hirr:∀ x:List UInt8,¬ Op.bytesLess x x=true:=fun x=>by
  simp only[Go.Proofs.bytesLess_eq,decide_eq_true_eq]
  exact List.lt_irrefl _
 rcases Nat.lt_trichotomy i j with h | h | h
 ·have:=hS i j _ _ h hI hJ
  rw[show(csB a).name=(csB b).name from hn]at this
  exact absurd this (hirr _)
 ·subst h
  rw[hi]at hj
  exact Option.some.inj hj
 ·have:=hS j i _ _ h hJ hI
  rw[show(csB a).name=(csB b).name from hn]at this
  exact absurd this (hirr _)
theorem clP_has {k:CO} (hS:Srt (k.sets.map csB)) (s:CS):clP k s=(s.dirty || decide (s∈k.sets)):=by
 obtain⟨h1,h2⟩:=findAt s.name hS
 unfold clP
 congr 1
 by_cases hm:s∈k.sets
 ·rw[decide_eq_true hm]
  have hf:(k.sets.find? fun x=>x.name == s.name).isSome=true:=by
   rw[List.find?_isSome]
   exact⟨s,hm,by simp⟩
  cases hb:atB (k.sets.map csB) s.name with
  | false =>
   rw[h2 hb]at hf
   cases hf
  | true =>
   obtain⟨h3,h4⟩:=h1 hb
   obtain⟨t,ht⟩:=Option.isSome_iff_exists.1 h4
   have htm:=List.mem_of_find?_eq_some ht
   have htn:=List.find?_some ht
   simp only[beq_iff_eq]at htn
   have:=srt_uniq hS htm hm htn
   subst this
   rw[h3,ht]
   simp
 ·rw[decide_eq_false hm]
  cases hb:atB (k.sets.map csB) s.name with
  | false=>rfl
  | true =>
   have:¬ k.sets[atP (k.sets.map csB) s.name]?=some s:=fun e=>hm (List.mem_of_getElem? e)
   simp[this]
def hasA (k:CO) (l:List CS):Bool:=l.all fun s=>s.dirty || decide (s∈k.sets)
theorem clB_has {a k:CO} (hS:Srt (k.sets.map csB)) (hd:k.dirty=false) (hs:k.safe=a.safe):clB a k=(hasA k a.sets && (a.dirty || (decide (k.ddt=a.ddt) && decide (k.parts=a.parts)))):=by
 have h1:clnA k a.sets=hasA k a.sets:=by
  unfold clnA hasA
  congr 1
  funext s
  exact clP_has hS s
 unfold clB
 rw[h1]
 congr 1
 cases hq:a.dirty with
 | true=>rfl
 | false =>
  simp only[Bool.false_or]
  obtain⟨k1,k2,k3,k4,k5,k6,k7⟩:=k
  obtain⟨a1,a2,a3,a4,a5,a6,a7⟩:=a
  simp only at hd hs hq
  subst hd hs hq
  rw[Bool.eq_iff_iff]
  simp only[clD,decide_eq_true_eq,CO.mk.injEq,Bool.and_eq_true,true_and,and_true]
  exact⟨fun h=>⟨h.1.symm,h.2.symm⟩,fun h=>⟨h.1.symm,h.2.symm⟩⟩
theorem hasA_take {k:CO} {l:List CS} {i:Nat} {s:CS} (hs:l[i]?=some s) (h:hasA k (l.take i)=true) (h2:s.dirty=true∨s∈k.sets):hasA k (l.take (i+1))=true:=by
 rw[List.take_add_one,hs]
 unfold hasA at *
 rw[List.all_append,h]
 simp
 exact h2
theorem hasA_no {k:CO} {l:List CS} {s:CS} (hs:s∈l) (h1:s.dirty=false) (h2:s ∉ k.sets):hasA k l=false:=by
 cases hk:hasA k l with
 | false=>rfl
 | true =>
  unfold hasA at hk
  rw[List.all_eq_true]at hk
  have:=hk s hs
  simp[h1,h2]at this
theorem rrS_srt {d:DK} {c:CO} (h:qax (rrC d c)=true):Srt ((rrS d c).sets.map csB):=by
 show Srt ((rrC d c).sets.map csB)
 exact core_srt h
theorem iVowLogC (p:PO) (hd:DkT p.d) (hc:CoT p.c):CV prog 16 [.agg p.row] (.bool (vwB p)):=by
  obtain⟨R,hR⟩:∃ R,vwB p=R:=⟨_,rfl⟩
  rw[hR]
  unfold vwB at hR
  have c1:=iRiseReadC p.d hd
  have c2:=iLogFindC p.d hd p.c.txg
  have c3:=iPoolOkC p hd hc
  have hT:=rrB_T p.d
  have hll:=lfB_len p.d p.c.txg
  have hop:=fun o (ho:o∈lfB p.d p.c.txg)=>lfB_op ho
  have c5:=iBookC p.d hd (rrB p.d).1 hT
  have g5:=cbB_G p.d hT
  have c7:=iBookC p.d hd p.c hc
  have g7:=cbB_G p.d hc
  have hcl:(rrB p.d).2=0→(rrB p.d).1.safe=p.c.safe→clB p.c (rrB p.d).1=(hasA (rrB p.d).1 p.c.sets && (p.c.dirty || (decide ((rrB p.d).1.ddt=p.c.ddt) && decide ((rrB p.d).1.parts=p.c.parts)))):=fun h1 h2=>by
    obtain⟨x,_,_,hx,hk⟩:=rrB_ok h1
    rw[hx]at h2 ⊢
    exact clB_has (rrS_srt hk) rfl h2
  unfold vwT at hR
  generalize rrB p.d=K at *
  obtain⟨k,kn⟩:=K
  simp only at c1 hT c5 g5 hcl hR
  generalize lfB p.d p.c.txg=ls at *
  generalize cbB p.d k=B at *
  obtain⟨b0,bk0⟩:=B
  simp only at c5 g5 hR
  generalize hN:cbB p.d p.c=N at *
  obtain⟨nb,nk⟩:=N
  have c4:=iEqInt k.safe p.c.safe hT.safe hc.safe
  have c8:=iEqDe k.ddt p.c.ddt hT.ddt hc.ddt
  have c9:=iEqPt k.parts p.c.parts hT.parts hc.parts
  simp only at c7 g7 hR
  simp only[PO.row,DK.row,CO.row,bk]at c1 c2 c3 c5 c7
  refine cvx func16 [] ntmps16 rfl rfl rfl ?_ (hca:=by simp[PO.row,DK.row,co_cl])
  simp -implicitDefEqProofs [PO.row,DK.row,CO.row]
  refine c3.call ?_
  cases q1:poolOkB p with
  | false =>
    rw[q1]at hR
    subst hR
    simp -implicitDefEqProofs
  | true =>
    cases q2:p.up with
    | false =>
      rw[q1,q2]at hR
      subst hR
      simp -implicitDefEqProofs [q2]
    | true =>
      simp -implicitDefEqProofs [q2]
      refine c1.call ?_
      by_cases q3:kn=0
      rotate_left
      · rw[q1,q2,decide_eq_false q3]at hR
        subst hR
        simp -implicitDefEqProofs [q2,q3,CO.row]
      by_cases q4:k.txg=p.c.txg
      rotate_left
      · rw[q1,q2,decide_eq_true q3,decide_eq_false q4]at hR
        subst hR
        simp -implicitDefEqProofs [q2,q3,q4,CO.row]
      simp -implicitDefEqProofs [q2,q3,q4,CO.row]
      refine c4.call ?_
      by_cases q5:k.safe=p.c.safe
      rotate_left
      · rw[q1,q2,decide_eq_true q3,decide_eq_true q4,decide_eq_false q5]at hR
        subst hR
        simp -implicitDefEqProofs [q5]
      rw[hcl q3 q5]at hR
      rw[← q4]at c2
      simp -implicitDefEqProofs [q5]
      have hbc:∀ {b c d e f:Bool},(b && (c && ((d && e) && f)))=R→(d=false→R=false)∧(e=false→R=false)∧(d=true→e=true→(b && (c && f))=R):=fun {b c d e f} h=>by
        subst h
        cases b <;> cases c <;> cases d <;> cases e <;> simp
      rw[q1,q2,decide_eq_true q3,decide_eq_true q4,decide_eq_true q5]at hR
      simp only[Bool.true_and]at hR
      obtain⟨n1,n2,n3⟩:=hbc hR
      have hsl:=hc.sets
      refine ev_lo (X:=Nat) [1,3,50,51,52] [(1,1),(3,3)] (fun i=>[(52,.int .i64 i)]) (fun i=>[(1,⟨11,[p.row]⟩),(3,⟨7,[k.row]⟩)]) (fun i=>p.c.sets.length-i) (fun i=>i≤p.c.sets.length∧hasA k (p.c.sets.take i)=true) 0 (by simp[hasA]) ?_ (he:=by simp[obOf,PO.row,DK.row,CO.row,q2,q4,q5])
      rintro i ⟨hi,ht⟩
      by_cases h1:i<p.c.sets.length
      · obtain⟨s,e1⟩:∃ s,p.c.sets[i]?=some s:=⟨_,List.getElem?_eq_getElem h1⟩
        have e0:p.c.sets[i]=s:=(List.getElem?_eq_some_iff.1 e1).2
        have hm:=List.mem_of_getElem? e1
        have hs8:=hc.m8 s hm
        have e2:=i64w ((i:Int)+1) (by omega) (by omega)
        have hsk:=qbf s hs8
        have hst:=cs_take s hs8
        have hd3:=cs_dty s hs8
        have hd4:s.row[30]'(by omega)=.bool s.dirty:=(List.getElem?_eq_some_iff.1 hd3).2
        have c10:=iHasCS k.sets s hT.sets hT.m8 hs8
        cases hdy:s.dirty with
        | true =>
          rw[hdy]at hd3
          simp only[hdy]at hd4
          simp -implicitDefEqProofs [PO.row,DK.row,CO.row,e0,e1,h1,show(i:Int)<p.c.sets.length by omega,hsk,hst,hd3,hd4]
          exact⟨cs_ones s,nx (i+1) [(1,1),(3,3)] ⟨by omega,hasA_take e1 ht (.inl hdy)⟩ (by omega) (h4:=by simp[obOf,e2,PO.row,DK.row,CO.row])⟩
        | false =>
          rw[hdy]at hd3
          simp only[hdy]at hd4
          simp -implicitDefEqProofs [PO.row,DK.row,CO.row,e0,e1,h1,show(i:Int)<p.c.sets.length by omega,hsk,hst,hd3,hd4]
          refine⟨cs_ones s,c10.call ?_⟩
          by_cases hk:s∈k.sets
          · simp -implicitDefEqProofs [hk]
            exact nx (i+1) [(1,1),(3,3)] ⟨by omega,hasA_take e1 ht (.inr hk)⟩ (by omega) (h4:=by simp[obOf,e2,PO.row,DK.row,CO.row])
          · rw[n1 (hasA_no hm hdy hk)]
            simp -implicitDefEqProofs [hk]
      · have hie:i=p.c.sets.length:=by omega
        subst hie
        rw[List.take_of_length_le (by omega)]at ht
        have key:∀ _:(p.c.dirty || decide (k.ddt=p.c.ddt) && decide (k.parts=p.c.parts))=true,(decide ((ls.length:Int)=p.c.logn) && (bk0 && vwF (nb,nk) (runK ls b0)))=R:=n3 ht
        by_cases hW:p.c.dirty=true∨(p.c.dirty=false∧k.ddt=p.c.ddt∧k.parts=p.c.parts)
        · have hF:(decide ((ls.length:Int)=p.c.logn) && (bk0 && vwF (nb,nk) (runK ls b0)))=R:=key (by
            rcases hW with h | ⟨h,h2,h3⟩
            · rw[h];rfl
            · rw[h2,h3];simp)
          rcases hW with q7 | ⟨q7,q8,q9⟩
          all_goals simp -implicitDefEqProofs [PO.row,DK.row,CO.row,q7]
          all_goals first
            | refine c2.call ?_
            | (refine c8.call ?_
               simp -implicitDefEqProofs [decide_eq_true q8]
               refine c9.call ?_
               simp -implicitDefEqProofs [decide_eq_true q9]
               refine c2.call ?_)
          all_goals simp -implicitDefEqProofs
          all_goals refine c5.call ?_
          all_goals by_cases qk:bk0=true∧(ls.length:Int)=p.c.logn
          all_goals first
            | (have hn:R=false:=by
                 rw[← hF]
                 cases bk0 <;> simp_all
               rw[hn]
               cases bk0 with
               | false=>simp -implicitDefEqProofs
               | true =>
                 have q6:¬ (ls.length:Int)=p.c.logn:=fun e=>qk ⟨rfl,e⟩
                 simp -implicitDefEqProofs [q6]
                 done)
            | (obtain⟨qb,q6⟩:=qk
               rw[qb,decide_eq_true q6]at hF
               simp only[Bool.true_and]at hF
               simp -implicitDefEqProofs [qb,q6]
               refine ev_lo (X:=Nat×List BS) [1,8,111,112,113] [(1,1),(8,8)] (fun x=>[(113,.int .i64 x.1)]) (fun x=>[(1,⟨11,[p.row]⟩),(8,⟨1,[[.lst 11 (x.2.map BS.row)]]⟩)]) (fun x=>ls.length-x.1) (fun x=>x.1≤ls.length∧vG x.1 x.2∧vwF (nb,nk) (runK (ls.drop x.1) x.2)=R) (0,b0) ⟨by simp,g5,hF⟩ ?_ (he:=by simp[obOf,PO.row,DK.row,CO.row,q7])
               rintro⟨i,b⟩ ⟨hi,hg,ho⟩
               simp only at hi hg ho
               cases hr:ls.drop i with
               | nil =>
                 have:=dropn hr
                 have hie:i=ls.length:=by omega
                 subst hie
                 rw[hr]at ho
                 simp only[runK,vwF]at ho
                 have c11:=cv_of (isameC b nb (by have:=hg.2;omega) (by have:=g7.2;omega) (fun x hx=>(hg.1 x hx).1) (fun x hx=>(g7.1 x hx).1)) (hca:=by simp[bk])
                 simp only[bk]at c11
                 simp -implicitDefEqProofs [PO.row,DK.row,CO.row,show ¬ (ls.length:Int)<p.c.logn by omega,show p.c.logn≤(ls.length:Int) by omega]
                 refine c7.call ?_
                 cases nk with
                 | false =>
                   simp -implicitDefEqProofs
                   simpa using ho
                 | true =>
                   simp -implicitDefEqProofs
                   refine c11.call ?_
                   simp -implicitDefEqProofs
                   rw[← ho,Bool.eq_iff_iff]
                   simp
               | cons o r =>
                 obtain⟨g1,e0,e1,g3⟩:=dropc hr
                 have hoo:=hop o (List.mem_of_getElem? e1)
                 have e2:=i64w ((i:Int)+1) (by omega) (by omega)
                 have c9:=idoC' b o (vG_S hg (by omega)) ⟨by have:=hoo.1;omega,by have:=hoo.2;omega⟩
                 have hs:=vG_step hg hoo
                 rw[hr,runK]at ho
                 generalize resB b o=Z at *
                 obtain⟨zb,zn⟩:=Z
                 simp only at ho hs c9
                 simp only[bk,BO.row]at c9
                 simp -implicitDefEqProofs [PO.row,DK.row,CO.row,g1,e0,e1,show(i:Int)<ls.length by omega,show(i:Int)<p.c.logn by omega,BO.row]
                 refine c9.call ?_
                 by_cases hz:zn=0
                 · rw[if_pos hz]at ho
                   simp -implicitDefEqProofs [hz]
                   exact nx (i+1,zb) [(1,1),(8,8)] ⟨by simp only;omega,hs,by simp only[g3];exact ho⟩ (by simp only;omega) (h4:=by simp[obOf,e2,PO.row,DK.row,CO.row])
                 · rw[if_neg hz]at ho
                   subst ho
                   simp -implicitDefEqProofs [hz,vwF])
        · have hn:R=false:=n2 (by
            cases q7:p.c.dirty with
            | true=>exact absurd (.inl q7) hW
            | false =>
              rw[q7]at hW
              simp at hW
              simpa using hW)
          rw[hn]
          cases q7:p.c.dirty with
          | true=>exact absurd (.inl q7) hW
          | false =>
            simp -implicitDefEqProofs [PO.row,DK.row,CO.row,q7]
            refine c8.call ?_
            by_cases q8:k.ddt=p.c.ddt
            · simp -implicitDefEqProofs [q8]
              refine c9.call ?_
              simp -implicitDefEqProofs [show ¬ k.parts=p.c.parts from fun e=>hW (.inr ⟨q7,q8,e⟩)]
            · simp -implicitDefEqProofs [q8]
theorem lawVowLog (p:PO) (hd:DkG p.d) (hc:CoG p.c):CV prog 4 [.agg p.row] (.bool true):=by
 have c0:=szPoolC p hd hc
 simp only[PO.row,DK.row,CO.row,List.cons_append,List.nil_append]at c0
 refine cvx func4 [(10,[zJ 0 [5] [],zJ 1 [1] [5],zJ 2 [] [5],zI 3,zI 4])] ntmps4 rfl rfl rfl ?_ (hca:=by simp[PO.row,DK.row,co_cl])
 simp -implicitDefEqProofs [PO.row,DK.row,CO.row]
 refine callA_ex (by kernel_rfl) c0 (by simp[cs_cl,DE.row,PT.row,qac,qai,LT.row]) ?_
 rintro r ⟨z,rfl,z1,z2,z3⟩
 by_cases hz:z<0
 ·simp -implicitDefEqProofs [hz]
 obtain⟨zd,zc⟩:=z3 (by omega)
 have hdT:=dkT_of zd
 have hcT:=coT_of2 hc zc
 simp -implicitDefEqProofs [hz]
 have c1:=toPoC p hdT hcT
 have c3:=sVowLogC p hdT hcT
 have c4:=iVowLogC p hdT hcT
 have c8:=eqPoR p hdT hcT
 generalize vwB p=b at *
 simp only[PO.row,DK.row,CO.row,List.cons_append,List.nil_append]at c1 c3 c4 c8
 refine c1.call ?_
 simp -implicitDefEqProofs
 refine c3.call ?_
 simp -implicitDefEqProofs
 refine c1.call ?_
 simp -implicitDefEqProofs
 refine c4.call ?_
 simp -implicitDefEqProofs
 refine c1.call ?_
 simp -implicitDefEqProofs
 refine c8.call ?_
 simp -implicitDefEqProofs
theorem lawVowLog' (p:PO) (hp:PoG p):CV prog 4 [.agg p.row] (.bool true):=lawVowLog p hp.d hp.c
end Go.Av.F
end
section
namespace Go.Av
open Go.RowKit Go.ChangeShapes Go.WideShapes Go.ChangeAt
variable {P:Program} {W:World}
theorem laid_at {n:String} {d:DataW Unit}:∀ {laid:List (String×DataW Unit)} {ps:List MemPlace},DataW.LaidVars P W laid ps→(n,d)∈laid →
  ∃ g t cs fuel p,P.globalNamed n=some g∧(P.globals[g]?).map (·.type)=some t∧W.var? P n=some cs∧DataW.trod (fun _=>()) P W 0 (fun _=>true) false fuel t cs.toList=some (d,p)
 | [],ps,_,hm=>by simp at hm
 | (m,e)::r,ps,h,hm=>by
  obtain⟨g,t,cs,fuel,p,q,h1,h2,h3,h4,h5,_⟩:=h
  rcases List.mem_cons.1 hm with hm | hm
  ·injection hm with e1 e2
   subst e1;subst e2
   exact⟨g,t,cs,fuel,p,h1,h2,h3,h4⟩
  ·exact laid_at h5 hm
theorem var_gl {n:String} {g:Nat} {cs:Array Value} (hg:P.globalNamed n=some g) (hv:W.var? P n=some cs) (avs:List AV) (hl:avs.length=cs.size) (hne:avs≠[]) (hr:∀ j,j<avs.length→AVRel W (Old W) noG (avs.getD j .top) (cs.getD j undef)) :
  AVRel W (Old W) noG (.elm avs) (.pointer (some ⟨g,0,none⟩))∧Old W ⟨g,avs.length,none⟩∧W.cell? ⟨g,avs.length,none⟩=none:=by
 have hc:=fun i=>World.var?_cell hg hv i
 have h0:0<cs.size:=by rw[← hl];exact List.length_pos_iff.2 hne
 have hcell:∀ j,j<avs.length→W.cell? ⟨g,j,none⟩=some (cs.getD j undef):=fun j hj=>by
  rw[hc,Array.getElem?_eq_getElem (by omega)]
  simp[Array.getD,show j<cs.size by omega]
 have hb:g<W.heap.size:=World.block_lt_of_cell? W _ (hcell 0 (by omega))
 refine⟨.elm _ avs _ (fun j=>cs.getD j undef) rfl (fun j hj=>hb) (fun j hj=>?_) hr,hb,?_⟩
 ·simpa [Addr.at]using hcell j hj
 ·rw[hc,Array.getElem?_eq_none (by omega)]
theorem laid_tab {laid:List (String×DataW Unit)} (h:laidMet P laid W) {n:String} {g:Nat} {zs:List Int} {k:IntKind} {t e:TypeId} {m:Nat} (hm:(n,(Lib.tabData k zs:DataW Unit))∈laid) (hg:P.globalNamed n=some g) (hty:(P.globals[g]?).map (·.type)=some t)
  (ht:P.underlying t=some (.array m e)) (he:P.underlying e=some (.int k)) (hce:P.cellsOf e=1) (hct:P.cellsOf t=m) (hne:zs≠[]) :
  AVRel W (Old W) noG (.elm (zs.map (AV.int k))) (.pointer (some ⟨g,0,none⟩))∧Old W ⟨g,(zs.map (AV.int k)).length,none⟩∧W.cell? ⟨g,(zs.map (AV.int k)).length,none⟩=none:=by
 obtain⟨ps,hL,_⟩:=h
 obtain⟨g',t',cs,fuel,p,h1,h2,h3,h4⟩:=laid_at hL hm
 obtain rfl:=Option.some.inj (hg.symm.trans h1)
 obtain rfl:=Option.some.inj (hty.symm.trans h2)
 have hcs:=Lib.cells_of_tab ht he hce hct h4
 have hcs2:cs=(zs.map fun z=>Value.int k z).toArray:=by rw[← hcs]
 subst hcs2
 refine var_gl hg h3 _ (by simp) (by simpa using hne) fun j hj=>?_
 simp only[List.length_map]at hj
 simp[List.getD,Array.getD,hj]
 exact .int _ _ _
theorem laid_ifc {laid:List (String×DataW Unit)} (h:laidMet P laid W) {n s:String} {d:DataW Unit} {g:Nat} {t:TypeId} {m:Array (String×TypeId)} (hm:(n,(DataW.iface s d:DataW Unit))∈laid) (hg:P.globalNamed n=some g) (hty:(P.globals[g]?).map (·.type)=some t)
  (ht:P.underlying t=some (.interface m)):AVRel W (Old W) noG (.elm [.ifc]) (.pointer (some ⟨g,0,none⟩))∧Old W ⟨g,[AV.ifc].length,none⟩∧W.cell? ⟨g,[AV.ifc].length,none⟩=none:=by
 obtain⟨ps,hL,_⟩:=h
 obtain⟨g',t',cs,fuel,p,h1,h2,h3,h4⟩:=laid_at hL hm
 obtain rfl:=Option.some.inj (hg.symm.trans h1)
 obtain rfl:=Option.some.inj (hty.symm.trans h2)
 cases fuel with
 | zero=>simp[DataW.trod]at h4
 | succ fuel =>
  unfold DataW.trod at h4
  simp only[ht]at h4
  obtain⟨l⟩:=cs
  simp only at h4
  match l,h4,h3 with
  | [.iface u v],h4,h3 =>
   refine var_gl hg h3 _ rfl (by simp) fun j hj=>?_
   obtain rfl:j=0:=by simpa using hj
   exact .ifc _ _ _
  | [.nilIface],h4,h3=>simp at h4
  | [],h4,h3=>simp at h4
  | .int _ _::_,h4,h3=>simp at h4
  | _::_::_,h4,h3=>simp at h4
end Go.Av
end
section
namespace Go.Proofs.YtcbjbdnmhlhijaaGreatDoor
open Go.ChangeShapes Go.WideShapes Go.ChangeAt Go.RowKit
theorem fact_own:ownKnob Tryz.prog.godebug=none:=by kernel_rfl
theorem fact_laidOut:laidOutB Tryz.prog=true:=by kernel_rfl
theorem fact_mapsRowed:mapsRowed Tryz.prog=true:=by kernel_rfl
theorem fact_heard:Tryz.prog.stopsHeard=true:=by kernel_rfl
theorem fact_mayEnter:Tryz.prog.mayEnter=true:=by kernel_rfl
theorem fact_main:Tryz.pinned.checked.prog.mainIs=some (true,"cc65649d1714594bef1c6ae0d5c90554964daf48a54f1a68d9d0a9d5f85e006a".toList):=by kernel_rfl
theorem fact_looks:true=Tryz.prog.looks []:=by kernel_rfl
theorem fact_nogo:Tryz.prog.funcs.any Func.goes=false:=by kernel_rfl
theorem goes_none {P:Program} (h:P.funcs.any Func.goes=false) (f:Nat):P.goes f=false:=by
 unfold Program.goes
 rw[h,Bool.and_false,Bool.or_false,List.any_eq_false]
 intro g _
 cases hg:P.funcs[g]? with
 | none=>simp
 | some fn =>
  rw[Array.any_eq_false]at h
  obtain⟨hl,rfl⟩:=Array.getElem?_eq_some_iff.1 hg
  simpa using h g hl
theorem goesBy_none {P:Program} (h:P.funcs.any Func.goes=false) (c:OpenClaim):false=c.goesBy P:=by
 unfold OpenClaim.goesBy Program.goesAt Program.goesFrom
 have e:P.goes=fun _=>false:=funext fun f=>goes_none h f
 rw[e]
 cases P.funcNamed c.func <;> cases c.start <;> simp
end Go.Proofs.YtcbjbdnmhlhijaaGreatDoor
end
