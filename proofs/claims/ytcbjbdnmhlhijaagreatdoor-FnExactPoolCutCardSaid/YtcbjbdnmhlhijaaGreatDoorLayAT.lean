/- Lemmas for the proof, no statement of the seat; no conditions. -/
import Derived.Test.YtcbjbdnmhlhijaaGreatDoorLayAS
set_option linter.unusedSimpArgs false
set_option linter.unusedVariables false
set_option linter.unnecessarySimpa false
set_option maxRecDepth 100000
section
namespace Go.Av.F
open Go Go.Av Go.Proofs Go.Proofs.Tryz
theorem fallZ_T (n m k:Nat):∀ (l:List LT) (fs:List Int) (p:L2),p.1.length=n→p.2.length=m→(∀ x∈p.1,x.length≤k)→(∀ x∈p.2,x.length≤k)→(∀ w∈l,w.lx.length≤k) →
  (fallZ l fs p).1.length=n∧(fallZ l fs p).2.length=m∧(∀ x∈(fallZ l fs p).1,x.length≤k)∧∀ x∈(fallZ l fs p).2,x.length≤k
 | [],fs,p,h1,h2,h3,h4,_=>by rw[fallZ];exact⟨h1,h2,h3,h4⟩
 | w::q,[],p,h1,h2,h3,h4,_=>by rw[fallZ];exact⟨h1,h2,h3,h4⟩
 | w::q,f::fs,p,h1,h2,h3,h4,h5=>by
  have hl:=fallP_len p w f
  have ht:=fallP_T (p:=p) (w:=w) (f:=f) h3 h4 (h5 w (by simp))
  rw[fallZ]
  exact fallZ_T n m k q fs (fallP p w f) (by omega) (by omega) ht.1 ht.2 fun w hw=>h5 w (by simp[hw])
theorem fall_T (d:DK) (fate:List Int):DkT (dFallB d fate):=by
 unfold dFallB
 split
 ·rename_i h
  obtain⟨g1,g2,g3,g4,g5,g6,g7⟩:=dOk_len h
  obtain⟨k1,k2,k3,k4⟩:=fallZ_T d.s0.length d.s1.length 420 d.late fate (d.s0,d.s1) rfl rfl g5 g6 fun w hw=>(thereB_iff.1 (g7 w hw)).2.2
  exact⟨by simp only;omega,by simp only;omega,by simp,fun x hx=>by have:=k3 x hx;omega,fun x hx=>by have:=k4 x hx;omega,by simp⟩
 ·exact zDK_T
def cutKB (d:DK) (c:CO) (stage:Int) (fate:List Int):DK :=
 if mayDoB d c=false then dFallB d fate else
 if stage≤0∨(qai d c).1.ok=false then dFallB (qai d c).1.d fate else
 dFallB (ringB (qbr (qai d c).1.d) (c.txg+1) (qai d c).2.2).1 fate
theorem sCutK (d:DK) (hd:dOkB d=true) (c:CO) (h:CoT c) (hco:qaj c=true) (stage:Int) (fate:List Int) (hf:fate.length≤1048576) :
  CV prog 132 [.agg d.row,.agg c.row,.int .i64 stage,.lst 1 (fate.map qad)] (.agg (cutKB d c stage fate).row):=by
 obtain⟨R,hR⟩:∃ R,cutKB d c stage fate=R:=⟨_,rfl⟩
 rw[hR]
 unfold cutKB at hR
 obtain⟨hm,k1,k2,k3,k4,k5,k6,k7⟩:=qcc hco
 have c0:=sMayDoC d (dOk_T hd) c h hm
 have c1:=sFallC d (dOk_T hd) fate hf
 simp only[DK.row,CO.row]at c0 c1
 refine cvx func132 [(6,[zI 0,zI 1,zI 2,zJ 3 [14] [],zJ 5 [] [14],zJ 6 [] [14],zJ 7 [] [14],zJ 8 [14] [14],zJ 9 [11] [14],⟨4,[],[14,11],[14],[]⟩,⟨10,[],[],[14],[]⟩,zI 11,zI 12,zI 13,zJ 14 [] [14,11],zI 15,zI 16])] ntmps132 rfl rfl rfl ?_ (hca:=by simp[DK.row,co_cl,qad]) (hcv:=by simp[DK.row])
 simp -implicitDefEqProofs [DK.row,CO.row]
 refine c0.call ?_
 cases hma:mayDoB d c with
 | false =>
  rw[if_pos hma]at hR
  subst hR
  simp -implicitDefEqProofs
  refine c1.call ?_
  simp -implicitDefEqProofs
 | true =>
  rw[if_neg (by simp[hma])]at hR
  have hma2:=hma
  simp only[mayDoB,Bool.and_eq_true,decide_eq_true_eq]at hma2
  have hb1:=blocks_ok hd c
  have cb:=sBlocksF d hd c h hm hma2.2 (by omega)
  generalize qai d c=B at *
  obtain⟨⟨bd,bf,bok⟩,c2,root⟩:=B
  simp only at hb1 cb hR
  have cf:=sFlushC bd (dOk_T hb1.1)
  have cl:=sFallC bd (dOk_T hb1.1) fate hf
  have hf1:=flush_ok hb1.1
  have cr:=sRingC (qbr bd) (dOk_T hf1.1) (c.txg+1) root (by omega)
  have hr1:dOkB (ringB (qbr bd) (c.txg+1) root).1=true:=(bWrite_ok hf1.1 _ _).1
  have cg:=sFallC (ringB (qbr bd) (c.txg+1) root).1 (dOk_T hr1) fate hf
  generalize ringB (qbr bd) (c.txg+1) root=G at *
  obtain⟨gd,gok⟩:=G
  simp only at cr hr1 cg hR
  simp only[DK.row,CO.row,PT.row]at cb cf cr cg cl
  simp -implicitDefEqProofs [DK.row,CO.row,PT.row]
  refine qab [] (by kernel_rfl) cb (by simp) (by simp[DE.row,cs_cl,qad]) trivial (by simp) (by simp) ?_
  rintro r L' ⟨rfl,rfl⟩
  refine⟨[(25,14)],⟨by simp,by simp,by simp,by simp,by simp⟩,?_⟩
  simp only[qae]
  by_cases q0:stage≤0
  ·rw[if_pos (.inl q0)]at hR
   subst hR
   simp -implicitDefEqProofs [DK.row,CO.row,PT.row,runOb,q0]
   refine cl.call ?_
   simp -implicitDefEqProofs
  ·cases bok with
   | false =>
    rw[if_pos (.inr rfl)]at hR
    subst hR
    simp -implicitDefEqProofs [DK.row,CO.row,PT.row,runOb,q0]
    refine cl.call ?_
    simp -implicitDefEqProofs
   | true =>
    rw[if_neg (by simp;omega)]at hR
    subst hR
    simp -implicitDefEqProofs [DK.row,CO.row,PT.row,runOb,q0]
    refine cf.call ?_
    simp -implicitDefEqProofs
    refine cr.call ?_
    simp -implicitDefEqProofs
    refine cg.call ?_
    simp -implicitDefEqProofs
def cutB (d:DK) (c:CO) (stage:Int) (fate:List Int):DK :=
 if dOkB d=false∨qaj c=false∨d.s0.length≤13 then zDK else cutKB d c stage fate
theorem sCutC (d:DK) (hd:DkT d) (c:CO) (h:CoT c) (stage:Int) (fate:List Int) (hf:fate.length≤1048576) :
  CV prog 133 [.agg d.row,.agg c.row,.int .i64 stage,.lst 1 (fate.map qad)] (.agg (cutB d c stage fate).row):=by
 obtain⟨R,hR⟩:∃ R,cutB d c stage fate=R:=⟨_,rfl⟩
 rw[hR]
 unfold cutB at hR
 have c1:=sDiskOkC d hd
 have c2:=sCoreOk c h
 have c3:=sCopyC d hd
 have hl:=hd.l0
 refine CV.of_imp ?_ (hca:=by simp[DK.row,co_cl,qad]) (hcv:=by simp[DK.row])
 refine acx func133 [(3,[zJ 0 [4] [],zJ 2 [5] [4],zJ 3 [] [4,5],zJ 4 [] [4,5],zJ 1 [] [5],zI 5,zI 6])] ntmps133 rfl rfl rfl ?_
 simp only[DK.row,CO.row]at c1 c2 c3
 simp -implicitDefEqProofs [DK.row,CO.row]
 refine c1.call ?_
 cases hok:dOkB d with
 | false =>
  rw[if_pos (.inl hok)]at hR
  subst hR
  simp -implicitDefEqProofs
  simpa [zDK,DK.row]using impA_zd
 | true =>
  simp -implicitDefEqProofs [DK.row,CO.row]
  refine c2.call ?_
  cases hco:qaj c with
  | false =>
   rw[if_pos (.inr (.inl hco))]at hR
   subst hR
   simp -implicitDefEqProofs
   simpa [zDK,DK.row]using impA_zd
  | true =>
   by_cases hn:d.s0.length≤13
   ·rw[if_pos (.inr (.inr hn))]at hR
    subst hR
    have hn':(d.s0.length:Int)≤13:=by omega
    simp -implicitDefEqProofs [hn',DK.row]
    simpa [zDK,DK.row]using impA_zd
   ·rw[if_neg (by simp[hok,hco,hn])]at hR
    subst hR
    have hn':¬ (d.s0.length:Int)≤13:=by omega
    have c5:=sCutK d hok c h hco stage fate hf
    simp only[DK.row,CO.row]at c5
    simp -implicitDefEqProofs [hn',DK.row,CO.row]
    refine c3.call ?_
    simp -implicitDefEqProofs
    refine c5.call ?_
    simp -implicitDefEqProofs
theorem impA_zc (a b c:AV):impA (.agg [a,b,c,.int .i64 0,.nils,.nils,.nils,.bool false,.nils,.int .i64 0,.bool false]) (.agg [a,b,c,.int .i64 zK.txg,.lst 31 (List.map CS.row zK.sets),.lst 3 (List.map DE.row zK.ddt),.lst 3 (List.map PT.row zK.parts),.bool zK.dirty,.lst 1 (List.map qad zK.safe),.int .i64 zK.logn,.bool false]) :=
 impA_ag (.cons (qba _) (.cons (qba _) (.cons (qba _) (.cons (qba _) (.cons (qbn 31) (.cons (qbn 3) (.cons (qbn 3) (.cons (qba _) (.cons (qbn 1) (.cons (qba _) (.cons (qba _) .nil)))))))))))
theorem sPFallC (p:PO) (hd:DkT p.d) (hc:CoT p.c) (hok:poolOkB p=true) (fate:List Int) (hf:fate.length≤1048576) :
  CV prog 56 [.agg p.row,.lst 1 (fate.map qad)] (.agg (PO.row ⟨dFallB p.d fate,zK,false⟩)):=by
 have c1:=sPoolOkC p hd hc
 have c2:=sFallC p.d hd fate hf
 refine CV.of_imp ?_ (hca:=by simp[PO.row,DK.row,co_cl,qad]) (hcv:=by simp[PO.row,DK.row,co_cl])
 refine acx func56 [] ntmps56 rfl rfl rfl ?_
 simp only[PO.row,DK.row,CO.row]at c1 c2
 simp -implicitDefEqProofs [PO.row,DK.row,CO.row]
 rw[hok]at c1
 refine c1.call ?_
 simp -implicitDefEqProofs
 refine c2.call ?_
 simp -implicitDefEqProofs
 exact impA_zc _ _ _
theorem iLongC (s:List UInt8) (hs:s.length≤1048576):CV prog 204 [.str s] (.bool (decide (420<s.length))):=by
 refine cvx func204 [] ntmps204 rfl rfl rfl ?_
 simp -implicitDefEqProofs
 try omega
def secB (n:Nat) (side at':Int):Bool:=decide (0≤side) && decide (side≤1) && decide (0≤at') && decide (at'<n)
theorem iSectorC (d:DK) (h:DkT d) (side at':Int):CV prog 207 [.agg d.row,.int .i64 side,.int .i64 at'] (.bool (secB d.s0.length side at')):=by
 have:=h.l0
 have e1:=i64w ((d.s0.length:Int)-1) (by omega) (by omega)
 refine cvx func207 [] ntmps207 rfl rfl rfl ?_ (hca:=by simp[DK.row])
 simp -implicitDefEqProofs [DK.row]
 refine(withinC' ..).call ?_
 cases hw:wiB side 0 1 with
 | false =>
  simp -implicitDefEqProofs
  simp only[secB,wiB]at *
  rw[hw];rfl
 | true =>
  simp -implicitDefEqProofs [e1]
  refine(withinC' ..).call ?_
  simp -implicitDefEqProofs
  simp only[secB,wiB,Bool.and_eq_true,decide_eq_true_eq]at *
  have:(at'≤(d.s0.length:Int)-1)↔at'<d.s0.length:=by omega
  simp[hw,this]
theorem rowLT:RowT LT.row 39 171 3:=⟨tt39,⟨_,_,_,tt171⟩,by simp[LT.row]⟩
abbrev dkOb (d:DK):Ob:=⟨3,[d.row]⟩
theorem lateFC (d:DK) (h:DkT d) (w:LT) (hw:w.lx.length≤1048576):CW prog 206 [.agg w.row,.ptr 1000 0 0] (dkOb d) (.bool (!qbw d w.ls w.la w.lx)):=by
 have c1:=iSectorC d h w.ls w.la
 have c2:=iLongC w.lx hw
 simp only[DK.row]at c1
 refine cwx func206 [] ntmps206 rfl rfl rfl ?_ (hco:=by simp[clR,DK.row])
 simp -implicitDefEqProofs [DK.row,LT.row]
 refine c1.call ?_
 cases hs:secB d.s0.length w.ls w.la with
 | false =>
  simp -implicitDefEqProofs
  simp only[secB,qbw]at *
  rw[hs];rfl
 | true =>
  simp -implicitDefEqProofs
  refine c2.call ?_
  simp -implicitDefEqProofs
  simp only[secB,qbw]at *
  rw[hs]
  by_cases g:w.lx.length≤420
  ·simp[g] <;> omega
  ·simp[g] <;> omega
theorem lateIx (d:DK) (h:DkT d) (l:List LT) (hl:l.length≤1048576) (ht:∀ w∈l,w.lx.length≤1048576):CW prog 205 [.lst 3 (l.map LT.row),.fn 206 [.ptr 1000 0 0]] (dkOb d) (.bool (l.any fun w=>!qbw d w.ls w.la w.lx)):=by
 have key:CW prog 293 [.lst 3 (l.map LT.row),.fn 206 [.ptr 1000 0 0]] (dkOb d) (.int .i64 (ixR (fun w=>!qbw d w.ls w.la w.lx) 0 l)):=by
  refine cwx func293 [] ntmps293 rfl rfl rfl ?_ (hco:=by simp[clR,DK.row])
  exact ix_ev1 rowLT _ l (by omega) (fun x hx=>rfl) (by simp[clR,DK.row]) fun x hx=>lateFC d h x (ht x hx)
 refine cwx func205 [] ntmps205 rfl rfl rfl ?_ (hco:=by simp[clR,DK.row])
 simp -implicitDefEqProofs
 refine key.call 1000 (by simp) (by simp[LT.row]) ?_
 simp -implicitDefEqProofs [ixR_ge]
theorem contLong (l:List (List UInt8)) (hl:l.length≤1048576) (ht:∀ x∈l,x.length≤1048576):CV prog 203 [.lst 1 (l.map qaf),.fn 204 []] (.bool (l.any fun x=>decide (420<x.length))) :=
 cv_of (contSC (fun x=>decide (420<x.length)) 204 l (by omega) (by kernel_rfl) fun s hs=>(iLongC s (ht s hs)).c)
theorem dOkB_i (d:DK):dOkB d=(wiB d.s0.length 1 120 && decide (d.s1.length=d.s0.length) && !(d.s0.any fun x=>decide (420<x.length)) && !(d.s1.any fun x=>decide (420<x.length)) && (decide (d.late.length≤600) && !(d.late.any fun w=>!qbw d w.ls w.la w.lx))):=by
 have e:∀ l:List (List UInt8),(!(l.any fun x=>decide (420<x.length)))=l.all fun x=>decide (x.length≤420):=fun l=>by
  induction l with
  | nil=>rfl
  | cons x r ih =>
   simp only[List.any_cons,List.all_cons,Bool.not_or,ih]
   congr 1
   by_cases g:x.length≤420
   ·simp[g] <;> omega
   ·simp[g] <;> omega
 have e2:(!(d.late.any fun w=>!qbw d w.ls w.la w.lx))=d.late.all fun w=>qbw d w.ls w.la w.lx:=by
  induction d.late with
  | nil=>rfl
  | cons x r ih=>simp only[List.any_cons,List.all_cons,Bool.not_or,ih,Bool.not_not]
 rw[e,e,e2]
 unfold dOkB wiB
 have e3:decide ((1:Int)≤(d.s0.length:Int))=decide (1≤d.s0.length):=by simp;omega
 have e4:decide ((d.s0.length:Int)≤120)=decide (d.s0.length≤120):=by simp;omega
 rw[e3,e4]
 cases decide (1≤d.s0.length) <;> cases decide (d.s0.length≤120) <;> cases decide (d.s1.length=d.s0.length) <;> cases decide (d.late.length≤600) <;> simp
theorem iDiskOkC (d:DK) (h:DkT d):CV prog 116 [.agg d.row] (.bool (dOkB d)):=by
 rw[dOkB_i]
 have h0:=h.l0
 have h1:=h.l1
 have h2:=h.l2
 have c1:=contLong d.s0 h0 h.t0
 have c2:=contLong d.s1 h1 h.t1
 have c3:=lateIx d h d.late h2 h.t2
 have c0:=withinC' d.s0.length 1 120
 generalize hA:wiB d.s0.length 1 120=A at *
 generalize hB:(d.s0.any fun x=>decide (420<x.length))=B at *
 generalize hC:(d.s1.any fun x=>decide (420<x.length))=C at *
 generalize hD:(d.late.any fun w=>!qbw d w.ls w.la w.lx)=D at *
 refine cvx func116 [] ntmps116 rfl rfl rfl ?_ (hca:=by simp[DK.row])
 simp -implicitDefEqProofs [DK.row]
 refine c0.call ?_
 cases A with
 | false=>simp -implicitDefEqProofs
 | true =>
  by_cases g:d.s1.length=d.s0.length
  ·simp -implicitDefEqProofs [g]
   refine c1.call ?_
   cases B with
   | true=>simp -implicitDefEqProofs
   | false =>
    simp -implicitDefEqProofs
    refine c2.call ?_
    cases C with
    | true=>simp -implicitDefEqProofs
    | false =>
     by_cases g2:d.late.length≤600
     ·simp -implicitDefEqProofs [g2,show(d.late.length:Int)≤600 by omega]
      refine c3.call 1 (by simp[DK.row]) (by simp[LT.row]) ?_
      simp -implicitDefEqProofs
     ·simp -implicitDefEqProofs [g2,show ¬ (d.late.length:Int)≤600 by omega]
  ·simp -implicitDefEqProofs [g,show ¬ (d.s1.length:Int)=d.s0.length by omega]
theorem iTextC (d:DK) (h:DkT d) (side at':Int) (hs:side=0∨side=1) (ha:0≤at'∧at'<d.s0.length) (h1:d.s1.length=d.s0.length):CV prog 210 [.agg d.row,.int .i64 side,.int .i64 at'] (.str (readB d side at')):=by
 obtain⟨R,hR⟩:∃ R,readB d side at'=R:=⟨_,rfl⟩
 rw[hR]
 have h0:=h.l0
 have h2:=h.l2
 refine cvx func210 [] ntmps210 rfl rfl rfl ?_ (hca:=by simp[DK.row])
 have e0:=i64w ((d.late.length:Int)-1) (by omega) (by omega)
 simp -implicitDefEqProofs [DK.row,e0]
 refine ev_lp (X:=Nat) [1,2,3,7] [(3,3)] (fun i=>[(7,.int .i64 ((i:Int)-1))]) (fun _=>[]) (fun i=>i) (fun i=>i≤d.late.length∧(d.late.drop i).all (fun w=>!lateF side at' w)=true) d.late.length (by simp) ?_ (he:=by simp[obOf])
 rintro i ⟨hi,hd⟩
 cases i with
 | zero =>
  have hf:d.late.reverse.find? (lateF side at')=none:=by
   rw[List.find?_eq_none]
   intro y hy
   rw[List.mem_reverse]at hy
   simpa using List.all_eq_true.1 hd y hy
  unfold readB at hR
  rw[hf]at hR
  have ha0:at'.toNat<d.s0.length:=by omega
  have ha1:at'.toNat<d.s1.length:=by omega
  have ha1':at'<d.s1.length:=by omega
  rcases hs with rfl | rfl
  ·have hx:d.s0[at'.toNat]?=some R:=by
    rw[List.getElem?_eq_getElem ha0]
    simpa [sideL,List.getElem?_eq_getElem ha0]using hR
   have hx0:=(List.getElem?_eq_some_iff.1 hx).2
   simp -implicitDefEqProofs [obOf,ha.1,ha.2,ha0,hx,hx0,qaf]
  ·have hx:d.s1[at'.toNat]?=some R:=by
    rw[List.getElem?_eq_getElem ha1]
    simpa [sideL,List.getElem?_eq_getElem ha1]using hR
   have hx0:=(List.getElem?_eq_some_iff.1 hx).2
   simp -implicitDefEqProofs [obOf,ha.1,ha1',ha1,hx,hx0,qaf]
 | succ k =>
  have hk:k<d.late.length:=by omega
  obtain⟨w,hw⟩:∃ w,d.late[k]?=some w:=⟨_,List.getElem?_eq_getElem hk⟩
  have hw0:=(List.getElem?_eq_some_iff.1 hw).2
  have e1:((k+1:Nat):Int)-1=k:=by omega
  have e2:(0:Int)≤k:=by omega
  have e3:(k:Int)<d.late.length:=by omega
  have e4:=i64w ((k:Int)-1) (by omega) (by omega)
  have hf:=find_rev (lateF side at') hw hd
  have hdk:(d.late.drop k).all (fun w=>!lateF side at' w)=(!lateF side at' w && (d.late.drop (k+1)).all (fun w=>!lateF side at' w)):=by
   rw[List.drop_eq_getElem_cons hk,hw0,List.all_cons]
  have hnx:lateF side at' w=false→∀ x∈d.late.drop k,lateF side at' x=false:=fun hl x hx=>by
   rw[hl,hd]at hdk
   simpa using List.all_eq_true.1 hdk x hx
  have hlx:lateF side at' w=true→w.lx=R:=fun hl=>by
   rw[if_pos hl]at hf
   unfold readB at hR
   rw[hf]at hR
   exact hR
  simp only[e1]
  simp -implicitDefEqProofs [obOf,LT.row,hk,hw,hw0,e2,e3,e4]
  refine⟨fun q1=>⟨fun q2=>hlx (by simp[lateF,q1,q2]),fun q2=>nx k [(3,3)] ⟨by omega,hnx (by simp[lateF,q2])⟩ (h4:=by simp[obOf,e4])⟩,fun q1=>nx k [(3,3)] ⟨by omega,hnx (by simp[lateF,q1])⟩ (h4:=by simp[obOf,e4])⟩
theorem iHasC (d:DK) (hd:dOkB d=true) (p:PT) (side:Int) (hs:side=0∨side=1):CV prog 209 [.agg d.row,.agg p.row,.int .i64 side] (.bool (qbw d side p.pa [] && decide ((smB (readB d side p.pa):Int)=p.ps))):=by
 have h:=dOk_T hd
 have c1:=iSectorC d h side p.pa
 have hse:qbw d side p.pa []=secB d.s0.length side p.pa:=by simp[qbw,secB]
 simp only[DK.row]at c1
 refine cvx func209 [(1,[zJ 0 [3] [],zJ 1 [] [3],zJ 2 [] [3],zJ 3 [4] [3],zI 4,zI 5,zJ 6 [3] [],zJ 7 [] [3],zJ 8 [] [3],zJ 9 [4] [3],zJ 12 [] [3,4],zJ 13 [4] [3,4],zJ 10 [] [4],zJ 11 [] [4],zI 14,zI 15,zI 16])] ntmps209 rfl rfl rfl ?_ (hca:=by simp[DK.row,PT.row])
 simp -implicitDefEqProofs [DK.row,PT.row]
 refine c1.call ?_
 rw[hse]
 cases hb:secB d.s0.length side p.pa with
 | false=>simp -implicitDefEqProofs
 | true =>
  obtain⟨n1,n2,n3⟩:=thereB_iff.1 (hse.trans hb)
  have c2:=iTextC d h side p.pa n1 n2 (dOk_len hd).2.2.1
  have c3:CV prog 272 [.str (readB d side p.pa)] (.int .i64 (smB (readB d side p.pa):Nat)):=isumC _ (by have:=readB_len hd side p.pa;simp[maxLen];omega)
  simp only[DK.row]at c2
  simp -implicitDefEqProofs
  refine c2.call ?_
  simp -implicitDefEqProofs
  refine c3.call ?_
  simp -implicitDefEqProofs
  by_cases q:(smB (readB d side p.pa):Int)=p.ps <;> simp[q]
theorem side_has {d:DK} (hd:dOkB d=true) {p:PT} (hp:ptOkB p=true) (h0:0<p.pa) (side:Int):qbj d p side=(qbw d side p.pa [] && decide ((smB (readB d side p.pa):Int)=p.ps)):=by
 unfold qbj dReadB
 cases h:qbw d side p.pa [] <;> simp[hd,hp,h0]
theorem iBlkReadC (d:DK) (h:DkT d) (p:PT):CV prog 117 [.agg d.row,.agg p.row] (.tup [.str (qcb d p).1,.int .i64 (qcb d p).2]):=by
 obtain⟨R,hR⟩:∃ R,qcb d p=R:=⟨_,rfl⟩
 rw[hR]
 unfold qcb at hR
 have c1:=iDiskOkC d h
 have c2:=realC p
 simp only[DK.row,PT.row]at c1 c2
 refine cvx func117 [] ntmps117 rfl rfl rfl ?_ (hca:=by simp[DK.row,PT.row])
 have hz:(ptOkB p && decide (p.pa=0))=(decide (p.pa=0) && decide (p.ps=0) && decide (p.pb=0)):=by
  unfold ptOkB
  by_cases g:p.pa=0 <;> simp[g]
 rw[hz]at hR
 by_cases q0:p.pa=0∧p.ps=0∧p.pb=0
 ·rw[if_pos (by simp[q0])]at hR
  subst hR
  obtain⟨a1,a2,a3⟩:=q0
  simp -implicitDefEqProofs [DK.row,PT.row,a1,a2,a3]
 ·rw[if_neg (by simpa [and_assoc]using q0)]at hR
  have q0':p.pa=0→p.ps=0→¬ p.pb=0:=fun a b c=>q0 ⟨a,b,c⟩
  have hno:dOkB d=false∨qbe p=false→R=([],2):=fun hb=>by
   rw[← hR]
   have e:∀ side,qbj d p side=false:=fun side=>by
    cases hx:qbj d p side with
    | false=>rfl
    | true =>
     obtain⟨m1,m2,m3,_⟩:=side_read hx
     rcases hb with hb | hb
     ·rw[m1]at hb;cases hb
     ·simp[qbe,m2]at hb
      omega
   simp[e]
  simp -implicitDefEqProofs [DK.row,PT.row]
  refine⟨fun a b c=>absurd c (q0' a b),fun hne=>?_⟩
  clear hne
  refine c1.call ?_
  cases hok:dOkB d with
  | false =>
   have:=hno (.inl hok)
   subst this
   simp -implicitDefEqProofs
  | true =>
   simp -implicitDefEqProofs
   refine c2.call ?_
   cases hre:qbe p with
   | false =>
    have:=hno (.inr hre)
    subst this
    simp -implicitDefEqProofs
   | true =>
    have hp:ptOkB p=true:=by simp[qbe]at hre;exact hre.1
    have h0:0<p.pa:=by
     simp[qbe]at hre
     unfold ptOkB at hp
     rw[if_neg hre.2]at hp
     simp at hp;omega
    have hsd:=side_has hok hp h0
    have key:∀ j:Nat,j<2→qbj d p j=true→(∀ k:Nat,k<j→qbj d p k=false)→R=(readB d j p.pa,0):=fun j hj h1 h2=>by
     rw[← hR]
     rcases(show j=0∨j=1 by omega)with rfl | rfl
     ·have h1':qbj d p 0=true:=h1
      simp[h1']
     ·have h2':qbj d p 0=false:=h2 0 (by omega)
      have h1':qbj d p 1=true:=h1
      simp[h1',h2']
    have key2:qbj d p 0=false→qbj d p 1=false→R=([],2):=fun h1 h2=>by rw[← hR,h1,h2];simp
    simp -implicitDefEqProofs
    refine ev_lp (X:=Nat) [2,3,4,5,16] [(2,2),(3,3)] (fun i=>[(16,.int .i64 i)]) (fun _=>[]) (fun i=>2-i) (fun i=>i≤2∧∀ k:Nat,k<i→qbj d p k=false) 0 (by simp) ?_ (he:=by simp[obOf])
    rintro i ⟨hi,hf⟩
    by_cases h2:i=2
    ·subst h2
     have:=key2 (hf 0 (by omega)) (hf 1 (by omega))
     simp -implicitDefEqProofs [obOf,this]
    ·have h2':i<2:=by omega
     have h2i:(i:Int)<2:=by omega
     have e2:=i64w ((i:Int)+1) (by omega) (by omega)
     have c4:=iHasC d hok p i (by omega)
     rw[← hsd]at c4
     simp only[DK.row,PT.row]at c4
     simp -implicitDefEqProofs [obOf,h2i]
     refine c4.call ?_
     cases hb:qbj d p i with
     | true =>
      have hk:=key i h2' hb hf
      obtain⟨m1,m2,m3,m4,m5⟩:=side_read hb
      obtain⟨n1,n2,n3⟩:=thereB_iff.1 m4
      have c5:=iTextC d h i p.pa n1 n2 (dOk_len m1).2.2.1
      simp only[DK.row]at c5
      simp -implicitDefEqProofs
      refine c5.call ?_
      simp -implicitDefEqProofs [hk]
     | false =>
      simp -implicitDefEqProofs
      exact nx (i+1) [(2,2),(3,3)] ⟨by omega,fun k hk=>by
       rcases(show k<i∨k=i by omega)with h | rfl
       ·exact hf k h
       ·exact hb⟩ (h4:=by simp[obOf,e2])
theorem iBlkToC (at':Int) (text:List UInt8) (birth:Int) (ht:text.length≤maxLen):CV prog 178 [.int .i64 at',.str text,.int .i64 birth] (.agg (blkToB at' text birth).row):=by
 have c1:CV prog 272 [.str text] (.int .i64 (smB text:Nat)):=isumC text ht
 have c2:=realC ⟨at',smB text,birth⟩
 have hp:(at'<1∨ptOkB ⟨at',smB text,birth⟩=false)↔qbe ⟨at',smB text,birth⟩=false:=by
  unfold qbe ptOkB
  simp only
  by_cases g:at'=0
  ·simp[g]
  ·by_cases g2:at'<1
   ·simp[g,g2];omega
   ·simp[g,g2]
 unfold blkToB
 simp only[PT.row]at c2
 generalize qbe ⟨at',smB text,birth⟩=B at *
 refine cvx func178 [] ntmps178 rfl rfl rfl ?_ (hcv:=by split <;> simp[PT.row])
 simp -implicitDefEqProofs
 refine c1.call ?_
 simp -implicitDefEqProofs
 refine c2.call ?_
 cases B with
 | false =>
  rw[if_pos (hp.2 rfl)]
  simp -implicitDefEqProofs [PT.row]
 | true =>
  rw[if_neg (fun h=>by have:=hp.1 h;cases this)]
  simp -implicitDefEqProofs [PT.row]
theorem lt_one (w:LT):∀ y∈w.row,oneA y=true:=by simp[LT.row]
theorem clStrO (l:List (List UInt8)) (hl:l.length≤1048576):ACall prog 167 [.lst 1 (l.map qaf)] [] (fun r L'=>r=.sl 7 0 l.length∧L'=[(7,strOb l)]):=by
 have key:ACall prog 167 [.lst 1 (l.map qaf)] [] (fun r L'=>(l=[]∧r=.nils∧L'=[])∨(r=.sl 7 0 l.length∧L'=[(7,strOb l)])):=by
  refine acx func167 [] ntmps167 rfl rfl rfl ?_
  by_cases h:l=[]
  ·subst h
   simp -implicitDefEqProofs [strOb]
  ·simp -implicitDefEqProofs [h,strOb,qaf]
   omega
 refine ACall.nils (id:=7) (sz:=1) key (by simp) ?_
 rintro r L' (⟨rfl,rfl,rfl⟩ | ⟨rfl,rfl⟩)
 ·exact .inr ⟨rfl,rfl,rfl⟩
 ·exact .inl ⟨rfl,rfl⟩
theorem clLtO (l:List LT) (hl:l.length≤1048576):ACall prog 168 [.lst 3 (l.map LT.row)] [] (fun r L'=>r=.sl 7 0 l.length∧L'=[(7,ltOb l)]):=by
 have key:ACall prog 168 [.lst 3 (l.map LT.row)] [] (fun r L'=>(l=[]∧r=.nils∧L'=[])∨(r=.sl 7 0 l.length∧L'=[(7,ltOb l)])):=by
  refine acx func168 [] ntmps168 rfl rfl rfl ?_
  by_cases h:l=[]
  ·subst h
   simp -implicitDefEqProofs [ltOb]
  ·simp -implicitDefEqProofs [h,ltOb]
   exact⟨by omega,fun x _ y hy=>lt_one x y hy⟩
 refine ACall.nils (id:=7) (sz:=3) key (by simp) ?_
 rintro r L' (⟨rfl,rfl,rfl⟩ | ⟨rfl,rfl⟩)
 ·exact .inr ⟨rfl,rfl,rfl⟩
 ·exact .inl ⟨rfl,rfl⟩
theorem clCsO (l:List CS) (hl:l.length≤1048576):ACall prog 169 [.lst 31 (l.map CS.row)] [] (fun r L'=>r=.sl 7 0 l.length∧L'=[(7,kcs l)]):=by
 have key:ACall prog 169 [.lst 31 (l.map CS.row)] [] (fun r L'=>(l=[]∧r=.nils∧L'=[])∨(r=.sl 7 0 l.length∧L'=[(7,kcs l)])):=by
  refine acx func169 [] ntmps169 rfl rfl rfl ?_
  by_cases h:l=[]
  ·subst h
   simp -implicitDefEqProofs [kcs]
  ·simp -implicitDefEqProofs [h,kcs]
   exact⟨by omega,fun x _ y hy=>cs_ones x y hy⟩
 refine ACall.nils (id:=7) (sz:=31) key (by simp) ?_
 rintro r L' (⟨rfl,rfl,rfl⟩ | ⟨rfl,rfl⟩)
 ·exact .inr ⟨rfl,rfl,rfl⟩
 ·exact .inl ⟨rfl,rfl⟩
theorem clDeO (l:List DE) (hl:l.length≤1048576):ACall prog 170 [.lst 3 (l.map DE.row)] [] (fun r L'=>r=.sl 7 0 l.length∧L'=[(7,deOb l)]):=by
 have key:ACall prog 170 [.lst 3 (l.map DE.row)] [] (fun r L'=>(l=[]∧r=.nils∧L'=[])∨(r=.sl 7 0 l.length∧L'=[(7,deOb l)])):=by
  refine acx func170 [] ntmps170 rfl rfl rfl ?_
  by_cases h:l=[]
  ·subst h
   simp -implicitDefEqProofs [deOb]
  ·simp -implicitDefEqProofs [h,deOb]
   omega
 refine ACall.nils (id:=7) (sz:=3) key (by simp) ?_
 rintro r L' (⟨rfl,rfl,rfl⟩ | ⟨rfl,rfl⟩)
 ·exact .inr ⟨rfl,rfl,rfl⟩
 ·exact .inl ⟨rfl,rfl⟩
theorem clPtO (l:List PT) (hl:l.length≤1048576):ACall prog 171 [.lst 3 (l.map PT.row)] [] (fun r L'=>r=.sl 7 0 l.length∧L'=[(7,kpt l)]):=by
 have key:ACall prog 171 [.lst 3 (l.map PT.row)] [] (fun r L'=>(l=[]∧r=.nils∧L'=[])∨(r=.sl 7 0 l.length∧L'=[(7,kpt l)])):=by
  refine acx func171 [] ntmps171 rfl rfl rfl ?_
  by_cases h:l=[]
  ·subst h
   simp -implicitDefEqProofs [kpt]
  ·simp -implicitDefEqProofs [h,kpt]
   omega
 refine ACall.nils (id:=7) (sz:=3) key (by simp) ?_
 rintro r L' (⟨rfl,rfl,rfl⟩ | ⟨rfl,rfl⟩)
 ·exact .inr ⟨rfl,rfl,rfl⟩
 ·exact .inl ⟨rfl,rfl⟩
theorem clInO (l:List Int) (hl:l.length≤1048576):ACall prog 172 [.lst 1 (l.map qad)] [] (fun r L'=>r=.sl 7 0 l.length∧L'=[(7,kin l)]):=by
 have key:ACall prog 172 [.lst 1 (l.map qad)] [] (fun r L'=>(l=[]∧r=.nils∧L'=[])∨(r=.sl 7 0 l.length∧L'=[(7,kin l)])):=by
  refine acx func172 [] ntmps172 rfl rfl rfl ?_
  by_cases h:l=[]
  ·subst h
   simp -implicitDefEqProofs [kin]
  ·simp -implicitDefEqProofs [h,kin]
   omega
 refine ACall.nils (id:=7) (sz:=1) key (by simp) ?_
 rintro r L' (⟨rfl,rfl,rfl⟩ | ⟨rfl,rfl⟩)
 ·exact .inr ⟨rfl,rfl,rfl⟩
 ·exact .inl ⟨rfl,rfl⟩
theorem iDOwnO (d:DK) (h:DkT d):ACall prog 83 [.agg d.row] [] (fun r L'=>r=.agg [.sl 6 0 d.s0.length,.sl 10 0 d.s1.length,.sl 14 0 d.late.length]∧L'=[(6,strOb d.s0),(10,strOb d.s1),(14,ltOb d.late)]):=by
 have c1:=clStrO d.s0 h.l0
 have c2:=clStrO d.s1 h.l1
 have c3:=clLtO d.late h.l2
 refine acx func83 [(1,[zI 0,zI 1,zJ 2 [1] [],zJ 4 [] [1],zJ 5 [] [1],zJ 6 [1] [1],zJ 9 [] [1],zJ 10 [1] [1],zJ 3 [] [1],zJ 7 [] [1],zJ 8 [] [1],zI 11,zI 12,zI 13])] ntmps83 rfl rfl rfl ?_
 simp -implicitDefEqProofs [DK.row]
 refine qab [] (by kernel_rfl) c1 (by simp[qaf]) (by simp) trivial (by simp) (by simp) ?_
 rintro r L' ⟨rfl,rfl⟩
 refine⟨[(7,6)],⟨by simp,by simp,by simp,by simp,by simp⟩,?_⟩
 simp only[qae]
 simp -implicitDefEqProofs
 refine qab [] (by kernel_rfl) c2 (by simp[qaf]) (by simp) trivial (by simp) (by simp) ?_
 rintro r L' ⟨rfl,rfl⟩
 refine⟨[(7,10)],⟨by simp,by simp,by simp,by simp,by simp⟩,?_⟩
 simp only[qae]
 simp -implicitDefEqProofs
 refine qab [] (by kernel_rfl) c3 (by simp[LT.row]) (by simp) trivial (by simp) (by simp) ?_
 rintro r L' ⟨rfl,rfl⟩
 refine⟨[(7,14)],⟨by simp,by simp,by simp,by simp,by simp⟩,?_⟩
 simp only[qae]
 simp -implicitDefEqProofs
theorem iKOwnO (c:CO) (h:CoT c):ACall prog 84 [.agg c.row] [] (fun r L'=>r=coreA c 5 8 11 14∧L'=[(5,kcs c.sets),(8,deOb c.ddt),(11,kpt c.parts),(14,kin c.safe)]):=by
 have c1:=clCsO c.sets h.sets
 have c2:=clDeO c.ddt h.ddt
 have c3:=clPtO c.parts h.parts
 have c4:=clInO c.safe h.safe
 refine acx func84 [(1,[zI 0,zJ 1 [1] [],zJ 3 [] [1],zJ 4 [1] [1],zJ 6 [] [1],zJ 7 [1] [1],zJ 9 [] [1],zJ 10 [1] [1],zJ 2 [] [1],zI 12,zJ 5 [] [1],zJ 8 [] [1],zI 11,zI 13,zI 14,zI 15,zI 16,zI 17,zI 18,zI 19])] ntmps84 rfl rfl rfl ?_
 simp -implicitDefEqProofs [CO.row]
 refine qab [] (by kernel_rfl) c1 (by simp[cs_cl]) (by simp) trivial (by simp) (by simp) ?_
 rintro r L' ⟨rfl,rfl⟩
 refine⟨[(7,5)],⟨by simp,by simp,by simp,by simp,by simp⟩,?_⟩
 simp only[qae]
 simp -implicitDefEqProofs
 refine qab [] (by kernel_rfl) c2 (by simp[DE.row]) (by simp) trivial (by simp) (by simp) ?_
 rintro r L' ⟨rfl,rfl⟩
 refine⟨[(7,8)],⟨by simp,by simp,by simp,by simp,by simp⟩,?_⟩
 simp only[qae]
 simp -implicitDefEqProofs
 refine qab [] (by kernel_rfl) c3 (by simp[PT.row]) (by simp) trivial (by simp) (by simp) ?_
 rintro r L' ⟨rfl,rfl⟩
 refine⟨[(7,11)],⟨by simp,by simp,by simp,by simp,by simp⟩,?_⟩
 simp only[qae]
 simp -implicitDefEqProofs
 refine qab [] (by kernel_rfl) c4 (by simp[qad]) (by simp) trivial (by simp) (by simp) ?_
 rintro r L' ⟨rfl,rfl⟩
 refine⟨[(7,14)],⟨by simp,by simp,by simp,by simp,by simp⟩,?_⟩
 simp only[qae]
 simp -implicitDefEqProofs [coreA]
def poolA (p:PO) (a0 a1 a2 b0 b1 b2 b3:Nat):List AV:=[.sl a0 0 p.d.s0.length,.sl a1 0 p.d.s1.length,.sl a2 0 p.d.late.length,.int .i64 p.c.txg,.sl b0 0 p.c.sets.length,.sl b1 0 p.c.ddt.length,.sl b2 0 p.c.parts.length,.bool p.c.dirty,.sl b3 0 p.c.safe.length,.int .i64 p.c.logn,.bool p.up]
def poolL (p:PO) (a0 a1 a2 b0 b1 b2 b3:Nat):List (Nat×Ob):=[(a0,strOb p.d.s0),(a1,strOb p.d.s1),(a2,ltOb p.d.late),(b0,kcs p.c.sets),(b1,deOb p.c.ddt),(b2,kpt p.c.parts),(b3,kin p.c.safe)]
theorem iPOwnO (p:PO) (hd:DkT p.d) (hc:CoT p.c):ACall prog 30 [.agg p.row] [] (fun r L'=>r=.agg (poolA p 901 902 903 904 905 906 907)∧L'=poolL p 901 902 903 904 905 906 907):=by
 have c1:=iDOwnO p.d hd
 have c2:=iKOwnO p.c hc
 simp only[DK.row,CO.row]at c1 c2
 refine acx func30 [(1,[zI 0,zJ 1 [1] [],zJ 3 [] [1],zJ 4 [1] [1],zJ 6 [] [1],zJ 7 [1] [1],zJ 2 [] [1],zJ 5 [] [1],zI 8,zI 9])] ntmps30 rfl rfl rfl ?_
 simp -implicitDefEqProofs [PO.row,DK.row,CO.row]
 refine qab [] (by kernel_rfl) c1 (by simp[qaf,LT.row]) (by simp) trivial (by simp) (by simp) ?_
 rintro r L' ⟨rfl,rfl⟩
 refine⟨[(6,901),(10,902),(14,903)],⟨by simp,by simp,by simp,by simp,by simp⟩,?_⟩
 simp only[qae]
 simp -implicitDefEqProofs
 refine qab [] (by kernel_rfl) c2 (by simp[cs_cl,DE.row,PT.row,qad]) (by simp) trivial (by simp) (by simp) ?_
 rintro r L' ⟨rfl,rfl⟩
 refine⟨[(5,904),(8,905),(11,906),(14,907)],⟨by simp,by simp,by simp,by simp,by simp⟩,?_⟩
 simp only[qae]
 simp -implicitDefEqProofs [coreA,poolA,poolL]
def dskA (d:DK) (a0 a1 a2:Nat):List AV:=[.sl a0 0 d.s0.length,.sl a1 0 d.s1.length,.sl a2 0 d.late.length]
def dskL (d:DK) (a0 a1 a2:Nat):List (Nat×Ob):=[(1000,⟨3,[dskA d a0 a1 a2]⟩),(a0,strOb d.s0),(a1,strOb d.s1),(a2,ltOb d.late)]
def dskQ (xs:List Nat) (R:DK×Bool) (r:AV) (L':List (Nat×Ob)):Prop:=∃ id,id∈xs∧r=.bool R.2∧L'=dskL R.1 1001 1002 id
@[simp] theorem renOb_dsk (ρ:Nat→Option Plc) (d:DK) (a0 a1 a2:Nat):renOb ρ ⟨3,[dskA d a0 a1 a2]⟩=⟨3,[renL ρ (dskA d a0 a1 a2)]⟩:=rfl
theorem clR_lt (l:List LT):clR (ltOb l).els=true:=by simp[clR,ltOb,LT.row]
theorem iWriteO (d:DK) (hd:dOkB d=true) (side at':Int) (text:List UInt8) (ht:text.length≤1048576) :
  ACall prog 275 [.ptr 1000 0 0,.int .i64 side,.int .i64 at',.str text] (dskL d 1001 1002 1003)
   (fun r L'=>r=.bool (qbl d side at' text).2∧L'=dskL (qbl d side at' text).1 1001 1002 903):=by
 obtain⟨R,hR⟩:∃ R,qbl d side at' text=R:=⟨_,rfl⟩
 rw[hR]
 unfold qbl at hR
 rw[if_neg (by simp[hd])]at hR
 have h:=dOk_T hd
 obtain⟨g1,g2,g3,g4,_⟩:=dOk_len hd
 have c1:=iSectorC d h side at'
 have c2:=iLongC text ht
 simp only[DK.row]at c1
 have hth:qbw d side at' text=(secB d.s0.length side at' && !decide (420<text.length)):=by
  simp only[qbw,secB]
  by_cases g:text.length≤420
  ·have:¬ 420<text.length:=by omega
   simp[g,this]
  ·have:420<text.length:=by omega
   simp[g,this]
 have key:ACall prog 275 [.ptr 1000 0 0,.int .i64 side,.int .i64 at',.str text] (dskL d 1001 1002 1003)
   (dskQ [1003,38] R):=by
  refine acx func275 [] ntmps275 rfl rfl rfl ?_ (hL:=by simp[dskL])
  simp -implicitDefEqProofs [dskL,dskA]
  refine c1.view (by simp[vwOk,mtA,strOb,ltOb,qap,qaf,LT.row]) ?_
  cases hs:secB d.s0.length side at' with
  | false =>
   rw[if_pos (.inl (by rw[hth,hs];rfl))]at hR
   subst hR
   simp -implicitDefEqProofs
   exact⟨dskL d 1001 1002 1003,by simp[dskL,dskA],1003,by simp,rfl,rfl⟩
  | true =>
   simp -implicitDefEqProofs
   refine c2.call ?_
   by_cases hl:420<text.length
   ·rw[if_pos (.inl (by rw[hth,hs];simp[hl]))]at hR
    subst hR
    simp -implicitDefEqProofs [hl]
    exact⟨dskL d 1001 1002 1003,by simp[dskL,dskA],1003,by simp,rfl,rfl⟩
   ·by_cases hn:d.late.length=600
    ·rw[if_pos (.inr hn)]at hR
     subst hR
     simp -implicitDefEqProofs [hl,hn]
     exact⟨dskL d 1001 1002 1003,by simp[dskL,dskA,hn],1003,by simp,rfl,rfl⟩
    ·rw[if_neg (by rw[hth,hs];simp[hl,hn])]at hR
     subst hR
     have hn':¬ (600:Int)≤d.late.length:=by omega
     simp -implicitDefEqProofs [hl,hn',ltOb,LT.row]
     refine⟨by omega,dskL ⟨d.s0,d.s1,d.late++[⟨side,at',text⟩]⟩ 1001 1002 38,?_,38,by simp,rfl,rfl⟩
     simp[dskL,dskA,ltOb,qap,LT.row]
 refine key.can ?_
 rintro r L' ⟨id,hid,rfl,rfl⟩
 refine⟨[(1000,1000),(1001,1001),(1002,1002),(id,903)],?_,?_,?_,?_,?_⟩
 all_goals
  simp only[List.mem_cons,List.not_mem_nil,or_false]at hid
  rcases hid with rfl | rfl
 all_goals simp[dskL,dskA,obOf]
theorem dWrite_ok {d:DK} (h:dOkB d=true) (side a:Int) (t:List UInt8):dOkB (qbl d side a t).1=true∧(qbl d side a t).1.s0.length=d.s0.length∧((qbl d side a t).2=false→(qbl d side a t).1=d):=by
 have h2:qaq d a t=qaq d a t:=rfl
 obtain⟨g1,g2,g3,g4,g5,g6,g7⟩:=dOk_len h
 unfold qbl
 rw[if_neg (by simp[h])]
 split
 ·exact⟨h,rfl,fun _=>rfl⟩
 ·rename_i hn
  refine⟨?_,rfl,fun h=>by cases h⟩
  have hth:qbw d side a t=true:=by
   cases hx:qbw d side a t with
   | true=>rfl
   | false=>exact absurd (.inl hx) hn
  have hnl:¬ d.late.length=600:=fun e=>hn (.inr e)
  simp only[dOkB,Bool.and_eq_true,decide_eq_true_eq,List.all_eq_true]at h ⊢
  obtain⟨⟨⟨⟨⟨⟨q1,q2⟩,q3⟩,q4⟩,q5⟩,q6⟩,q7⟩:=h
  refine⟨⟨⟨⟨⟨⟨q1,q2⟩,q3⟩,by simp;omega⟩,q5⟩,q6⟩,fun w hw=>?_⟩
  rcases List.mem_append.1 hw with hw | hw
  ·exact q7 w hw
  ·simp only[List.mem_cons,List.not_mem_nil,or_false]at hw
   subst hw;exact hth
theorem iBothO (d:DK) (hd:dOkB d=true) (at':Int) (text:List UInt8) (ht:text.length≤1048576) :
  ACall prog 177 [.ptr 1000 0 0,.int .i64 at',.str text] (dskL d 1001 1002 1003)
   (fun r L'=>r=.bool (qaq d at' text).2∧L'=dskL (qaq d at' text).1 1001 1002 903):=by
 obtain⟨R,hR⟩:∃ R,qaq d at' text=R:=⟨_,rfl⟩
 rw[hR]
 unfold qaq at hR
 rw[if_neg (by simp[hd])]at hR
 obtain⟨g1,g2,g3,g4,_⟩:=dOk_len hd
 have c1:=iWriteO d hd 0 at' text ht
 have k1:=dWrite_ok hd 0 at' text
 generalize qbl d 0 at' text=X at *
 obtain⟨e,eo⟩:=X
 simp only at k1 hR
 have c2:=iWriteO e k1.1 1 at' text ht
 generalize qbl e 1 at' text=Y at *
 obtain⟨f,fo⟩:=Y
 have key:ACall prog 177 [.ptr 1000 0 0,.int .i64 at',.str text] (dskL d 1001 1002 1003) (dskQ [1003,16,21] R):=by
  refine acx func177 [] ntmps177 rfl rfl rfl ?_ (hL:=by simp[dskL])
  simp -implicitDefEqProofs [dskL,dskA]
  by_cases hn:598<d.late.length
  ·rw[if_pos hn]at hR
   subst hR
   simp -implicitDefEqProofs [hn,show(598:Int)<d.late.length by omega,show ¬ (d.late.length:Int)≤598 by omega]
   exact⟨dskL d 1001 1002 1003,by simp[dskL,dskA],1003,by simp,rfl,rfl⟩
  ·rw[if_neg hn]at hR
   simp -implicitDefEqProofs [hn,show ¬ (598:Int)<d.late.length by omega,show(d.late.length:Int)≤598 by omega]
   refine qab [(1000,.whole 1000),(1001,.whole 1001),(1002,.whole 1002),(1003,.whole 1003)] (by kernel_rfl) c1 (by simp) (by simp) (by simp[dskL,dskA];exact⟨.inr ⟨_,_,rfl,rfl,by simp⟩,qaa rfl (qam _),qaa rfl (qam _),qaa rfl (clR_lt _)⟩) (by simp[dskL]) (by simp) ?_
   rintro r L' ⟨rfl,rfl⟩
   refine⟨[(903,16)],⟨by simp[dskL],by simp,by simp,by simp[dskL],by simp⟩,?_⟩
   simp only[qae]
   simp -implicitDefEqProofs [dskL,dskA]
   cases eo with
   | false =>
    rw[if_pos rfl]at hR
    subst hR
    simp -implicitDefEqProofs
    exact⟨dskL e 1001 1002 16,by simp[dskL,dskA],16,by simp,rfl,rfl⟩
   | true =>
    rw[if_neg (by simp)]at hR
    subst hR
    simp -implicitDefEqProofs
    refine qab [(1000,.whole 1000),(1001,.whole 1001),(1002,.whole 1002),(1003,.whole 16)] (by kernel_rfl) c2 (by simp) (by simp) (by simp[dskL,dskA];exact⟨.inr ⟨_,_,rfl,rfl,by simp⟩,qaa rfl (qam _),qaa rfl (qam _),qaa rfl (clR_lt _)⟩) (by simp[dskL]) (by simp) ?_
    rintro r L' ⟨rfl,rfl⟩
    refine⟨[(903,21)],⟨by simp[dskL],by simp,by simp,by simp[dskL],by simp⟩,?_⟩
    simp only[qae]
    simp -implicitDefEqProofs [dskL,dskA]
    exact⟨dskL f 1001 1002 21,by simp[dskL,dskA],21,by simp,rfl,rfl⟩
 refine key.can ?_
 rintro r L' ⟨id,hid,rfl,rfl⟩
 refine⟨[(1000,1000),(1001,1001),(1002,1002),(id,903)],?_,?_,?_,?_,?_⟩
 all_goals
  simp only[List.mem_cons,List.not_mem_nil,or_false]at hid
  rcases hid with rfl | rfl | rfl
 all_goals simp[dskL,dskA,obOf]
theorem iFlushO (d:DK) (hd:dOkB d=true) :
  ACall prog 255 [.ptr 1000 0 0] (dskL d 1001 1002 1003) (fun r L'=>r=.tup []∧L'=dskL (qbr d) 1001 1002 903):=by
 obtain⟨R,hR⟩:∃ R,qbr d=R:=⟨_,rfl⟩
 rw[hR]
 unfold qbr at hR
 rw[if_pos hd]at hR
 obtain⟨g1,g2,g3,g4,g5,g6,g7⟩:=dOk_len hd
 have key:ACall prog 255 [.ptr 1000 0 0] (dskL d 1001 1002 1003) (fun r L'=>r=.tup []∧L'=[(1000,⟨3,[dskA R 1001 1002 903]⟩),(1001,strOb R.s0),(1002,strOb R.s1),(903,ltOb R.late)]):=by
  refine acv func255 [(3,[zI 0,zI 1,zJ 2 [3] [],zJ 3 [] [3],zJ 4 [] [3],zI 5,zJ 6 [1000] [],zJ 7 [] [3,1000],zJ 8 [3] [3,1000],zJ 9 [] [3,1000],zJ 10 [3] [3,1000],zJ 11 [1001,1002] [],zI 12])] ntmps255 rfl rfl rfl ?_ (hL:=by simp[dskL])
  refine va_post (qax _ ?_)
  simp -implicitDefEqProofs [dskL,dskA]
  refine ev_lp (X:=Nat×List (List UInt8)×List (List UInt8)) [0,7,8,9] [(1000,1000),(1001,1001),(1002,1002),(1003,1003)] (fun x=>[(9,.int .i64 x.1)]) (fun x=>[(1001,strOb x.2.1),(1002,strOb x.2.2)]) (fun x=>d.late.length-x.1)
   (fun x=>x.1≤d.late.length∧x.2.1.length=d.s0.length∧x.2.2.length=d.s0.length∧(⟨((d.late.drop x.1).foldl putP (x.2.1,x.2.2)).1,((d.late.drop x.1).foldl putP (x.2.1,x.2.2)).2,[]⟩:DK)=R) (0,d.s0,d.s1) (by simp[hR,g3]) ?_ (he:=by simp[obOf])
  rintro⟨i,p,q⟩ ⟨hi,hp,hq,hd2⟩
  simp only at hi hp hq hd2
  cases hr:d.late.drop i with
  | nil =>
   have:=dropn hr
   rw[hr]at hd2
   have hie:i=d.late.length:=by omega
   subst hie
   simp -implicitDefEqProofs [obOf]
   refine⟨_,(sw_pht 903 3 (by simp)).trans (sw_impc 1000 2 (sz:=3) (row:=[.sl 1001 0 d.s0.length,.sl 1002 0 d.s1.length,.nils]) (by simp) (by simp) (impA_sl0 903 0)),?_⟩
   rw[← hd2]
   simp[hp,hq,g3,ltOb]
  | cons x r =>
   obtain⟨h1,e0,e1,h3⟩:=dropc hr
   rw[hr]at hd2
   have e2:=i64w ((i:Int)+1) (by omega) (by omega)
   have hx:=g7 x (List.mem_of_getElem? e1)
   obtain⟨n1,⟨n2,n3⟩,_⟩:=thereB_iff.1 hx
   rcases n1 with hs | hs
   ·have hl:x.la.toNat<p.length:=by omega
    simp -implicitDefEqProofs [obOf,ltOb,strOb,h1,e0,e1,LT.row,hs,n2,n3,qaf,hp]
    exact nx (i+1,p.set x.la.toNat x.lx,q) [(1000,1000),(1001,1001),(1002,1002),(1003,1003)] ⟨by omega,by simp[hp],hq,by rw[← hd2,h3,List.foldl_cons];simp[putP,hs]⟩ (h4:=by simp[obOf,e2,strOb,qaf,List.map_set,ltOb])
   ·have hl:x.la.toNat<q.length:=by omega
    simp -implicitDefEqProofs [obOf,ltOb,strOb,h1,e0,e1,LT.row,hs,n2,n3,qaf,hq,g3]
    exact nx (i+1,p,q.set x.la.toNat x.lx) [(1000,1000),(1001,1001),(1002,1002),(1003,1003)] ⟨by omega,hp,by simp[hq],by rw[← hd2,h3,List.foldl_cons];simp[putP,hs]⟩ (h4:=by simp[obOf,e2,strOb,qaf,List.map_set,ltOb])
 refine key.imp fun r L' ⟨h1,h2⟩=>⟨r,qba _,h1,h2⟩
end Go.Av.F
end
section
namespace Go.Av.F
open Go Go.Av
open Go.Proofs Go.Proofs.Tryz
attribute [-simp] getU hdS canon qag i64w
attribute [local simp] tt3 tt4 tt9 tt5 tt43 tt97 tt42 tt93 tt91 tt90
theorem overlapsDe (o1 o2:Ob) (h1:o1.sz=3) (h2:o2.sz=3) (e1 len1 e2 len2:Nat) :
  ACall Go.Proofs.Tryz.prog 367 [.sl 1001 e1 len1,.sl 1000 e2 len2] [(1000,o2),(1001,o1)] (fun r L'=>r=.bool false∧L'=[(1000,o2),(1001,o1)]) :=
 overlapsA (tS:=43) (tR:=4) (e:=97) Go.Proofs.Tryz.func367 (by kernel_rfl) (by kernel_rfl) (by kernel_rfl) (by kernel_rfl) tt43 rfl tt97 (by simp) o1 o2 h1 h2 e1 len1 e2 len2
theorem insertDe (rows:List (List AV)) (row:List AV) (i:Nat) (hi:i≤rows.length) (hl:rows.length<2000000) (hrow:row.length=3) (hr1:∀ r∈rows,r.length=3) (ho:row.all oneA=true) (hro:rows.all (fun r=>r.all oneA)=true)
  (hc:clL row=true) (hrc:clR rows=true) :
  ACall Go.Proofs.Tryz.prog 320 [.sl 1000 0 rows.length,.int .i64 i,.sl 1001 0 1] [(1000,⟨3,rows⟩),(1001,⟨3,[row]⟩)] (insQ 3 25 40 rows row i):=by
 refine ACall.weak (R:=fun r L'=>∃ L2,wkL L' L2∧insQ 3 25 40 rows row i (unc r) L2) (ACall.cap (by simp) fun cap hcap=>?_) (fun r L' h=>h)
 obtain⟨els,hels⟩:∃ els,(capOb ⟨3,rows⟩ cap)=⟨3,els⟩:=⟨_,rfl⟩
 have hel:els.length=cap:=by
  have:=congrArg (fun o:Ob=>o.els.length) hels
  simp[capOb]at this;omega
 have het:els.take rows.length=rows:=by
  have:=congrArg (fun o:Ob=>o.els.take rows.length) hels
  simp[capOb]at this;exact this.symm
 have hcl:clR els=true:=by
  have:=congrArg (fun o:Ob=>clR o.els) hels
  simp only[capOb]at this
  rw[← this]
  simp only[clR,List.all_append,Bool.and_eq_true]at hrc ⊢
  refine⟨hrc,?_⟩
  rw[List.all_eq_true];intro x hx;rw[List.eq_of_mem_replicate hx];rfl
 have hm:∀ ρ,els.map (renL ρ)=els:=fun ρ=>renR_cl ρ hcl
 have hm2:∀ ρ,renL ρ row=row:=fun ρ=>renL_closed.renL_closedL ρ row hc
 rw[hels]
 clear hels
 have w1:IntKind.i64.wrap ((rows.length:Int)+1)=(rows.length:Int)+1:=qav _ (by omega)
 refine acx func320 [(11,[zI 0,zI 1,zI 2,zI 3,zJ 4 [40,1000] [],zJ 5 [] [40,1000],zJ 6 [] [40,1000],zJ 7 [40,1000] [40,1000],zI 8]),(15,[zI 0,zI 1,zI 2,zI 3,zJ 4 [1000] [],zJ 5 [] [1000],zJ 6 [] [1000],zJ 7 [1000] [1000],zI 8])] ntmps320 rfl rfl rfl ?_
 have e1:rows.take rows.length=rows:=List.take_length
 by_cases h1:i=rows.length
 ·subst h1
  by_cases h2:rows.length+1≤cap
  ·simp[h2,hrow,hel,hcap]
   refine⟨by simpa using ho,[(1000,⟨3,spl els rows.length [row]⟩)],by simp,_,.cons 1000 _ (rows.length+1) .nil,1000,.inl rfl,rfl,?_⟩
   have:=spl_take els rows.length [row] (by omega)
   simp only[List.length_cons,List.length_nil,Nat.zero_add]at this
   simp[insR,this,het]
  ·simp[h2,hrow,hel,hcap,het]
   refine⟨by omega,[(25,⟨3,rows++[row]⟩)],by simp,_,.cons 25 _ (rows.length+1) .nil,25,.inr (.inl rfl),rfl,?_⟩
   rw[List.take_of_length_le (by simp)]
   simp[insR]
 ·have hi':i<rows.length:=by omega
  have h1':¬ (i:Int)=rows.length:=by omega
  have w2:IntKind.i64.wrap ((i:Int)+1)=((i+1:Nat):Int):=by rw[qav _ (by omega)];omega
  have w4:IntKind.i64.wrap ((rows.length:Int)+1-(i:Int))=((rows.length+1-i:Nat):Int):=by rw[qav _ (by omega)];omega
  have hall:∀ x∈rows,∀ y∈x,oneA y=true:=fun x hx y hy=>List.all_eq_true.1 (List.all_eq_true.1 hro x hx) y hy
  have g1:rows.length+1≤cap→min (rows.length+1-i) (min (cap-i) (rows.length-i))=rows.length-i:=fun _=>by omega
  have g2:min 1 (rows.length+1-i)=1:=by omega
  have g5:(els.drop i).take (rows.length-i)=rows.drop i:=by
   conv=>rhs;rw[← het]
   rw[List.drop_take]
  have g3:List.take (rows.length-i) (List.take (rows.length+1-i) (List.drop i els))=rows.drop i:=by
   rw[List.take_take,Nat.min_eq_left (by omega),g5]
  by_cases h2:rows.length+1≤cap
  ·have g1:=g1 h2
   have h2':¬ (cap:Int)<(rows.length:Int)+1:=by omega
   simp[h1,h1',h2,h2',hrow,hel,hcap,w1,w2,w4]
   refine⟨by omega,by omega,⟨by omega,by omega⟩,?_⟩
   refine qab [(1000,.whole 1000),(1001,.whole 1001)] (by kernel_rfl) (overlapsDe ⟨3,[row]⟩ ⟨3,els⟩ rfl rfl 0 1 (i+1) (rows.length-i)) (by simp) (by simp) (by simp;exact⟨qaa rfl hcl,qaa rfl (by simp[clR,hc])⟩) (by simp) (by simp) ?_
   rintro r L' ⟨rfl,rfl⟩
   refine⟨[],⟨by simp,by simp,by simp,by simp,by simp⟩,?_⟩
   simp[hm,hm2,w2,hel,hrow]
   rw[g1,g2,g3,List.take_of_length_le (by simp:[row].length≤1)]
   have g4:=qca els (i+1) (rows.drop i) (by omega)
   refine⟨⟨by omega,by omega,by omega⟩,⟨by omega,by omega⟩,⟨by omega,by omega,fun x hx y hy=>hall x (List.mem_of_mem_drop hx) y hy⟩,⟨by omega,by omega⟩,⟨by simp at g4;omega,fun x hx y hy=>?_⟩,
    [(1000,⟨3,spl (spl els (i+1) (rows.drop i)) i [row]⟩)],by simp,_,.cons 1000 _ (rows.length+1) .nil,1000,.inl rfl,rfl,?_⟩
   ·have:x=row:=by simpa using hx
    subst this;exact List.all_eq_true.1 ho y hy
   ·rw[ins_shift els rows row i het (by omega) hi'];rfl
  ·have h2':(cap:Int)<(rows.length:Int)+1:=by omega
   simp[h1,h1',h2,h2',hrow,hel,hcap,w1,w2,w4]
   have c1:cap=rows.length:=by omega
   subst c1
   have g6:min (rows.length-i) (min (rows.length-i) (i+(rows.length+1-i)-(i+1)))=rows.length-i:=by omega
   have g7:List.take (rows.length-i) (rows.drop i)=rows.drop i:=List.take_of_length_le (by simp)
   have g8:i+(rows.length+1-i)=rows.length+1:=by omega
   have g9:els.take i=rows.take i:=by
    conv=>rhs;rw[← het]
    rw[List.take_take,Nat.min_eq_left (by omega)]
   rw[g6,g2,g5,g7,List.take_of_length_le (by simp:[row].length≤1),g8,g9,ins_grow rows row _ i hi']
   refine⟨by omega,by omega,⟨by omega,by omega,by omega,by omega⟩,⟨by omega,fun x hx y hy=>?_⟩,⟨by omega,by omega⟩,by omega,⟨by omega,?_,fun x hx y hy=>hall x (List.mem_of_mem_drop hx) y hy⟩,
    [(40,⟨3,rows.take i++row::rows.drop i⟩)],by simp,_,.cons 40 _ (rows.length+1) .nil,40,.inr (.inr rfl),rfl,?_⟩
   ·have:x=row:=by simpa using hx
    subst this;exact List.all_eq_true.1 ho y hy
   ·rw[qca _ _ _ (by simp;omega)];simp;omega
   ·have g10:(rows.take i++row::rows.drop i).take (rows.length+1)=rows.take i++row::rows.drop i:=List.take_of_length_le (by simp;omega)
    simp only[g10];rfl
theorem deleteDe (rows:List (List AV)) (i j:Nat) (hij:i<j) (hj:j≤rows.length) (hl:rows.length<2000000) (hr1:∀ r∈rows,r.length=3) (hro:rows.all (fun r=>r.all oneA)=true) :
  ACall Go.Proofs.Tryz.prog 321 [.sl 1000 0 rows.length,.int .i64 i,.int .i64 j] [(1000,⟨3,rows⟩)] (fun r L'=>r=.sl 1000 0 (i+(rows.length-j))∧L'=[(1000,⟨3,rows.take i++rows.drop j⟩)]):=by
 refine ACall.weak (R:=fun r L'=>∃ L2,wkL L' L2∧unc r=.sl 1000 0 (i+(rows.length-j))∧L2=[(1000,⟨3,rows.take i++rows.drop j⟩)]) (ACall.cap (by simp) fun cap hcap=>?_) (fun r L' h=>h)
 obtain⟨els,hels⟩:∃ els,(capOb ⟨3,rows⟩ cap)=⟨3,els⟩:=⟨_,rfl⟩
 have hel:els.length=cap:=by
  have:=congrArg (fun o:Ob=>o.els.length) hels
  simp[capOb]at this;omega
 have het:els.take rows.length=rows:=by
  have:=congrArg (fun o:Ob=>o.els.take rows.length) hels
  simp[capOb]at this;exact this.symm
 rw[hels]
 clear hels
 have g5:(els.drop j).take (rows.length-j)=rows.drop j:=by
  conv=>rhs;rw[← het]
  rw[List.drop_take]
 have hall:∀ x∈rows,∀ y∈x,oneA y=true:=fun x hx y hy=>List.all_eq_true.1 (List.all_eq_true.1 hro x hx) y hy
 have h1:¬ i=j:=by omega
 have h1':¬ (i:Int)=j:=by omega
 have h2:i+(rows.length-j)≤cap:=by omega
 refine acx func321 [(5,[zI 0,zI 1,zJ 2 [1000] [],zJ 3 [] [1000],zJ 4 [] [1000],zJ 5 [1000] [1000],zI 6,zI 7])] ntmps321 rfl rfl rfl ?_
 simp[h1,h1',hel,g5,h2,hcap]
 have t1:((i:Int)+((rows.length-j:Nat):Int)).toNat=i+(rows.length-j):=by omega
 have h3:=qca els i (rows.drop j) (by omega)
 rw[t1]
 refine⟨⟨by omega,by omega⟩,by omega,by omega,⟨by omega,by omega,fun x hx y hy=>hall x (List.mem_of_mem_drop hx) y hy⟩,⟨by omega,by omega⟩,?_,[(1000,⟨3,spl (spl els i (rows.drop j)) (i+(rows.length-j)) (List.replicate (rows.length-(i+(rows.length-j))) _)⟩)],⟨rfl,trivial⟩,?_⟩
 ·rw[h3];simp;omega
 ·have:=wkL.cons 1000 ⟨3,spl (spl els i (rows.drop j)) (i+(rows.length-j)) (List.replicate (rows.length-(i+(rows.length-j))) [.int .i64 0,.int .i64 0,.int .i64 0])⟩ (i+(rows.length-j)) .nil
  simp only[del_rows els rows _ i j het (by omega) hij hj]at this
  exact this
theorem overlapsCs (o1 o2:Ob) (h1:o1.sz=31) (h2:o2.sz=31) (e1 len1 e2 len2:Nat) :
  ACall Go.Proofs.Tryz.prog 249 [.sl 1001 e1 len1,.sl 1000 e2 len2] [(1000,o2),(1001,o1)] (fun r L'=>r=.bool false∧L'=[(1000,o2),(1001,o1)]) :=
 overlapsA (tS:=42) (tR:=4) (e:=93) Go.Proofs.Tryz.func249 (by kernel_rfl) (by kernel_rfl) (by kernel_rfl) (by kernel_rfl) tt42 rfl tt93 (by simp) o1 o2 h1 h2 e1 len1 e2 len2
theorem insertCs (rows:List (List AV)) (row:List AV) (i:Nat) (hi:i≤rows.length) (hl:rows.length<2000000) (hrow:row.length=31) (hr1:∀ r∈rows,r.length=31) (ho:row.all oneA=true) (hro:rows.all (fun r=>r.all oneA)=true)
  (hc:clL row=true) (hrc:clR rows=true) :
  ACall Go.Proofs.Tryz.prog 135 [.sl 1000 0 rows.length,.int .i64 i,.sl 1001 0 1] [(1000,⟨31,rows⟩),(1001,⟨31,[row]⟩)] (insQ 31 25 40 rows row i):=by
 refine ACall.weak (R:=fun r L'=>∃ L2,wkL L' L2∧insQ 31 25 40 rows row i (unc r) L2) (ACall.cap (by simp) fun cap hcap=>?_) (fun r L' h=>h)
 obtain⟨els,hels⟩:∃ els,(capOb ⟨31,rows⟩ cap)=⟨31,els⟩:=⟨_,rfl⟩
 have hel:els.length=cap:=by
  have:=congrArg (fun o:Ob=>o.els.length) hels
  simp[capOb]at this;omega
 have het:els.take rows.length=rows:=by
  have:=congrArg (fun o:Ob=>o.els.take rows.length) hels
  simp[capOb]at this;exact this.symm
 have hcl:clR els=true:=by
  have:=congrArg (fun o:Ob=>clR o.els) hels
  simp only[capOb]at this
  rw[← this]
  simp only[clR,List.all_append,Bool.and_eq_true]at hrc ⊢
  refine⟨hrc,?_⟩
  rw[List.all_eq_true];intro x hx;rw[List.eq_of_mem_replicate hx];rfl
 have hm:∀ ρ,els.map (renL ρ)=els:=fun ρ=>renR_cl ρ hcl
 have hm2:∀ ρ,renL ρ row=row:=fun ρ=>renL_closed.renL_closedL ρ row hc
 rw[hels]
 clear hels
 have w1:IntKind.i64.wrap ((rows.length:Int)+1)=(rows.length:Int)+1:=qav _ (by omega)
 refine acx func135 [(11,[zI 0,zI 1,zI 2,zI 3,zJ 4 [40,1000] [],zJ 5 [] [40,1000],zJ 6 [] [40,1000],zJ 7 [40,1000] [40,1000],zI 8]),(15,[zI 0,zI 1,zI 2,zI 3,zJ 4 [1000] [],zJ 5 [] [1000],zJ 6 [] [1000],zJ 7 [1000] [1000],zI 8])] ntmps135 rfl rfl rfl ?_
 have e1:rows.take rows.length=rows:=List.take_length
 by_cases h1:i=rows.length
 ·subst h1
  by_cases h2:rows.length+1≤cap
  ·simp[h2,hrow,hel,hcap]
   refine⟨by simpa using ho,[(1000,⟨31,spl els rows.length [row]⟩)],by simp,_,.cons 1000 _ (rows.length+1) .nil,1000,.inl rfl,rfl,?_⟩
   have:=spl_take els rows.length [row] (by omega)
   simp only[List.length_cons,List.length_nil,Nat.zero_add]at this
   simp[insR,this,het]
  ·simp[h2,hrow,hel,hcap,het]
   refine⟨by omega,[(25,⟨31,rows++[row]⟩)],by simp,_,.cons 25 _ (rows.length+1) .nil,25,.inr (.inl rfl),rfl,?_⟩
   rw[List.take_of_length_le (by simp)]
   simp[insR]
 ·have hi':i<rows.length:=by omega
  have h1':¬ (i:Int)=rows.length:=by omega
  have w2:IntKind.i64.wrap ((i:Int)+1)=((i+1:Nat):Int):=by rw[qav _ (by omega)];omega
  have w4:IntKind.i64.wrap ((rows.length:Int)+1-(i:Int))=((rows.length+1-i:Nat):Int):=by rw[qav _ (by omega)];omega
  have hall:∀ x∈rows,∀ y∈x,oneA y=true:=fun x hx y hy=>List.all_eq_true.1 (List.all_eq_true.1 hro x hx) y hy
  have g1:rows.length+1≤cap→min (rows.length+1-i) (min (cap-i) (rows.length-i))=rows.length-i:=fun _=>by omega
  have g2:min 1 (rows.length+1-i)=1:=by omega
  have g5:(els.drop i).take (rows.length-i)=rows.drop i:=by
   conv=>rhs;rw[← het]
   rw[List.drop_take]
  have g3:List.take (rows.length-i) (List.take (rows.length+1-i) (List.drop i els))=rows.drop i:=by
   rw[List.take_take,Nat.min_eq_left (by omega),g5]
  by_cases h2:rows.length+1≤cap
  ·have g1:=g1 h2
   have h2':¬ (cap:Int)<(rows.length:Int)+1:=by omega
   simp[h1,h1',h2,h2',hrow,hel,hcap,w1,w2,w4]
   refine⟨by omega,by omega,⟨by omega,by omega⟩,?_⟩
   refine qab [(1000,.whole 1000),(1001,.whole 1001)] (by kernel_rfl) (overlapsCs ⟨31,[row]⟩ ⟨31,els⟩ rfl rfl 0 1 (i+1) (rows.length-i)) (by simp) (by simp) (by simp;exact⟨qaa rfl hcl,qaa rfl (by simp[clR,hc])⟩) (by simp) (by simp) ?_
   rintro r L' ⟨rfl,rfl⟩
   refine⟨[],⟨by simp,by simp,by simp,by simp,by simp⟩,?_⟩
   simp[hm,hm2,w2,hel,hrow]
   rw[g1,g2,g3,List.take_of_length_le (by simp:[row].length≤1)]
   have g4:=qca els (i+1) (rows.drop i) (by omega)
   refine⟨⟨by omega,by omega,by omega⟩,⟨by omega,by omega⟩,⟨by omega,by omega,fun x hx y hy=>hall x (List.mem_of_mem_drop hx) y hy⟩,⟨by omega,by omega⟩,⟨by simp at g4;omega,fun x hx y hy=>?_⟩,
    [(1000,⟨31,spl (spl els (i+1) (rows.drop i)) i [row]⟩)],by simp,_,.cons 1000 _ (rows.length+1) .nil,1000,.inl rfl,rfl,?_⟩
   ·have:x=row:=by simpa using hx
    subst this;exact List.all_eq_true.1 ho y hy
   ·rw[ins_shift els rows row i het (by omega) hi'];rfl
  ·have h2':(cap:Int)<(rows.length:Int)+1:=by omega
   simp[h1,h1',h2,h2',hrow,hel,hcap,w1,w2,w4]
   have c1:cap=rows.length:=by omega
   subst c1
   have g6:min (rows.length-i) (min (rows.length-i) (i+(rows.length+1-i)-(i+1)))=rows.length-i:=by omega
   have g7:List.take (rows.length-i) (rows.drop i)=rows.drop i:=List.take_of_length_le (by simp)
   have g8:i+(rows.length+1-i)=rows.length+1:=by omega
   have g9:els.take i=rows.take i:=by
    conv=>rhs;rw[← het]
    rw[List.take_take,Nat.min_eq_left (by omega)]
   rw[g6,g2,g5,g7,List.take_of_length_le (by simp:[row].length≤1),g8,g9,ins_grow rows row _ i hi']
   refine⟨by omega,by omega,⟨by omega,by omega,by omega,by omega⟩,⟨by omega,fun x hx y hy=>?_⟩,⟨by omega,by omega⟩,by omega,⟨by omega,?_,fun x hx y hy=>hall x (List.mem_of_mem_drop hx) y hy⟩,
    [(40,⟨31,rows.take i++row::rows.drop i⟩)],by simp,_,.cons 40 _ (rows.length+1) .nil,40,.inr (.inr rfl),rfl,?_⟩
   ·have:x=row:=by simpa using hx
    subst this;exact List.all_eq_true.1 ho y hy
   ·rw[qca _ _ _ (by simp;omega)];simp;omega
   ·have g10:(rows.take i++row::rows.drop i).take (rows.length+1)=rows.take i++row::rows.drop i:=List.take_of_length_le (by simp;omega)
    simp only[g10];rfl
theorem deleteCs (rows:List (List AV)) (i j:Nat) (hij:i<j) (hj:j≤rows.length) (hl:rows.length<2000000) (hr1:∀ r∈rows,r.length=31) (hro:rows.all (fun r=>r.all oneA)=true) :
  ACall Go.Proofs.Tryz.prog 136 [.sl 1000 0 rows.length,.int .i64 i,.int .i64 j] [(1000,⟨31,rows⟩)] (fun r L'=>r=.sl 1000 0 (i+(rows.length-j))∧L'=[(1000,⟨31,rows.take i++rows.drop j⟩)]):=by
 refine ACall.weak (R:=fun r L'=>∃ L2,wkL L' L2∧unc r=.sl 1000 0 (i+(rows.length-j))∧L2=[(1000,⟨31,rows.take i++rows.drop j⟩)]) (ACall.cap (by simp) fun cap hcap=>?_) (fun r L' h=>h)
 obtain⟨els,hels⟩:∃ els,(capOb ⟨31,rows⟩ cap)=⟨31,els⟩:=⟨_,rfl⟩
 have hel:els.length=cap:=by
  have:=congrArg (fun o:Ob=>o.els.length) hels
  simp[capOb]at this;omega
 have het:els.take rows.length=rows:=by
  have:=congrArg (fun o:Ob=>o.els.take rows.length) hels
  simp[capOb]at this;exact this.symm
 rw[hels]
 clear hels
 have g5:(els.drop j).take (rows.length-j)=rows.drop j:=by
  conv=>rhs;rw[← het]
  rw[List.drop_take]
 have hall:∀ x∈rows,∀ y∈x,oneA y=true:=fun x hx y hy=>List.all_eq_true.1 (List.all_eq_true.1 hro x hx) y hy
 have h1:¬ i=j:=by omega
 have h1':¬ (i:Int)=j:=by omega
 have h2:i+(rows.length-j)≤cap:=by omega
 refine acx func136 [(5,[zI 0,zI 1,zJ 2 [1000] [],zJ 3 [] [1000],zJ 4 [] [1000],zJ 5 [1000] [1000],zI 6,zI 7])] ntmps136 rfl rfl rfl ?_
 simp[h1,h1',hel,g5,h2,hcap]
 have t1:((i:Int)+((rows.length-j:Nat):Int)).toNat=i+(rows.length-j):=by omega
 have h3:=qca els i (rows.drop j) (by omega)
 rw[t1]
 refine⟨⟨by omega,by omega⟩,by omega,by omega,⟨by omega,by omega,fun x hx y hy=>hall x (List.mem_of_mem_drop hx) y hy⟩,⟨by omega,by omega⟩,?_,[(1000,⟨31,spl (spl els i (rows.drop j)) (i+(rows.length-j)) (List.replicate (rows.length-(i+(rows.length-j))) _)⟩)],⟨rfl,trivial⟩,?_⟩
 ·rw[h3];simp;omega
 ·have:=wkL.cons 1000 ⟨31,spl (spl els i (rows.drop j)) (i+(rows.length-j)) (List.replicate (rows.length-(i+(rows.length-j))) [.str [],.int .i64 0,.str [],.int .i64 0,.int .i64 0,.int .i64 0,.int .i64 0,.int .i64 0,.int .i64 0,.int .i64 0,.int .i64 0,.int .i64 0,.int .i64 0,.int .i64 0,.int .i64 0,.int .i64 0,.int .i64 0,.int .i64 0,.int .i64 0,.int .i64 0,.int .i64 0,.int .i64 0,.int .i64 0,.int .i64 0,.int .i64 0,.int .i64 0,.int .i64 0,.int .i64 0,.int .i64 0,.int .i64 0,.bool false])⟩ (i+(rows.length-j)) .nil
  simp only[del_rows els rows _ i j het (by omega) hij hj]at this
  exact this
end Go.Av.F
end
section
namespace Go.Av.F
open Go Go.Av Go.Proofs Go.Proofs.Tryz
def deQ (xs:List Nat) (R:List DE×Bool) (r:AV) (L':List (Nat×Ob)):Prop:=∃ id,id∈xs∧r=.tup [.sl id 0 R.1.length,.bool R.2]∧L'=[(id,deOb R.1)]
theorem deQ_can {f:Nat} {args:List AV} {xs:List Nat} {R:List DE×Bool} (h:ACall prog f args [] (deQ xs R)):ACall prog f args [] (fun r L'=>r=.tup [.sl 900 0 R.1.length,.bool R.2]∧L'=[(900,deOb R.1)]):=by
 refine h.can ?_
 rintro r L' ⟨id,hid,rfl,rfl⟩
 refine⟨[(id,900)],by simp,by simp,by simp,by simp,by simp,by simp[obOf]⟩
theorem de_all (l:List DE):((l.map DE.row).all fun r=>r.all oneA)=true:=by simp[DE.row]
theorem ddtR_mem:∀ {l:List DE} {q:Int},ddtR q l=true→∀ e∈l,deOkB e=true
 | [],_,_,e,he=>by simp at he
 | x::r,q,h,e,he=>by
  simp only[ddtR,Bool.and_eq_true]at h
  rcases List.mem_cons.1 he with rfl | he
  ·exact h.1.1
  ·exact ddtR_mem h.2 e he
theorem ddt_mem {l:List DE} (h:qau l=true):∀ e∈l,0≤e.es∧e.es<65521∧1≤e.ea∧e.ea<120∧1≤e.ec∧e.ec≤1000:=fun e he=>by
 simp only[qau,Bool.and_eq_true]at h
 exact deOk_b (ddtR_mem h.2 e he)
theorem iAddO (l:List DE) (h:qau l=true) (sum at':Int):ACall prog 251 [.lst 3 (l.map DE.row),.int .i64 sum,.int .i64 at'] [] (fun r L'=>r=.tup [.sl 900 0 (ddAddB l sum at').1.length,.bool (ddAddB l sum at').2]∧L'=[(900,deOb (ddAddB l sum at').1)]):=by
 obtain⟨R,hR⟩:∃ R,ddAddB l sum at'=R:=⟨_,rfl⟩
 rw[hR]
 unfold ddAddB at hR
 rw[if_neg (by simp[h])]at hR
 have hl:l.length≤48:=by
  simp only[qau,Bool.and_eq_true,decide_eq_true_eq]at h
  exact h.1
 have c1:=clDeO l (by omega)
 have c2:=iEntryC ⟨sum,at',1⟩
 simp only[DE.row]at c2
 refine deQ_can (xs:=[12,67]) ?_
 refine acx func251 [] ntmps251 rfl rfl rfl ?_
 simp -implicitDefEqProofs
 refine qab [] (by kernel_rfl) c1 (by simp[DE.row]) (by simp) trivial (by simp) (by simp) ?_
 rintro r L' ⟨rfl,rfl⟩
 refine⟨[(7,12)],⟨by simp,by simp,by simp,by simp,by simp⟩,?_⟩
 simp only[qae]
 simp -implicitDefEqProofs
 refine c2.call ?_
 cases hen:deOkB ⟨sum,at',1⟩with
 | false =>
  rw[if_pos hen]at hR
  subst hR
  simp -implicitDefEqProofs
  exact⟨[(12,deOb l)],by simp,12,by simp,rfl,rfl⟩
 | true =>
  rw[if_neg (by simp[hen])]at hR
  have ha:0≤at'∧at'≤1000:=by
   simp only[deOkB,Bool.and_eq_true,decide_eq_true_eq]at hen
   omega
  have c3:=ddtPlaceC l at' h ha
  have hk:=ddP_le l at'
  simp -implicitDefEqProofs
  refine c3.call ?_
  cases hT:ddT l at' with
  | true =>
   rw[if_pos hT]at hR
   obtain⟨e,e1,e3⟩:=ddT_some hT
   have hkl:=(List.getElem?_eq_some_iff.1 e1).1
   have e0:=(List.getElem?_eq_some_iff.1 e1).2
   have eb:=ddt_mem h e (List.mem_of_getElem? e1)
   rw[e1]at hR
   simp only at hR
   generalize ddP l at'=k at *
   have e2:=i64w (e.ec+1) (by omega) (by omega)
   simp -implicitDefEqProofs [hkl,e0,e1,e2,DE.row,deOb]
   refine⟨fun q1=>⟨fun q2=>?_,fun q2=>?_⟩,fun q1=>?_⟩
   ·rw[if_pos (.inr q2)]at hR
    subst hR
    exact⟨[(12,deOb l)],by simp[deOb],12,by simp,rfl,rfl⟩
   ·rw[if_neg (by omega)]at hR
    subst hR
    exact⟨[(12,deOb (l.set k ⟨e.es,e.ea,e.ec+1⟩))],by simp[deOb,DE.row,List.map_set],12,by simp,by simp,rfl⟩
   ·rw[if_pos (.inl q1)]at hR
    subst hR
    exact⟨[(12,deOb l)],by simp[deOb],12,by simp,rfl,rfl⟩
  | false =>
   rw[if_neg (by simp[hT])]at hR
   generalize ddP l at'=k at *
   by_cases hn:l.length=48
   ·rw[if_pos hn]at hR
    subst hR
    simp -implicitDefEqProofs [hn]
    exact⟨[(12,deOb l)],by simp,12,by simp,by simp[hn],rfl⟩
   ·rw[if_neg hn]at hR
    subst hR
    have ci:=insertDe (l.map DE.row) (DE.row ⟨sum,at',1⟩) k (by simpa using hk) (by simp;omega) rfl (by simp[DE.row]) (by simp[DE.row]) (de_all l) (by simp[DE.row]) (qbh l)
    simp only[List.length_map,DE.row]at ci
    simp -implicitDefEqProofs [hn,show ¬ (l.length:Int)=48 by omega]
    refine qab [(1000,.whole 12),(1001,.whole 66)] (by kernel_rfl) ci (by simp) (by simp) (by simp[deOb];exact⟨qaa rfl (qbh l),qaa rfl (by simp[clR])⟩) (by simp) (by simp) ?_
    have hfin:∀ id,id∈[12,67]→deQ [12,67] (l.take k++(⟨sum,at',1⟩:DE)::l.drop k,true) (.tup [.sl id 0 (l.length+1),.bool true]) [(id,⟨3,insR (l.map DE.row) [.int .i64 sum,.int .i64 at',.int .i64 1] k⟩)]:=fun id hid=>⟨id,hid,by simp;omega,by simp[insR,deOb,DE.row,List.map_take,List.map_drop]⟩
    have hren:∀ ρ,(insR (l.map DE.row) [.int .i64 sum,.int .i64 at',.int .i64 1] k).map (renL ρ)=insR (l.map DE.row) [.int .i64 sum,.int .i64 at',.int .i64 1] k:=fun ρ=>renR_cl ρ (by
     simp only[insR,clR,List.all_append,List.all_cons,Bool.and_eq_true]
     exact⟨List.all_eq_true.2 fun x hx=>List.all_eq_true.1 (qbh l) x (List.mem_of_mem_take hx),by simp,List.all_eq_true.2 fun x hx=>List.all_eq_true.1 (qbh l) x (List.mem_of_mem_drop hx)⟩)
    rintro r L' ⟨id,hid,rfl,rfl⟩
    simp only[List.length_map]at *
    rcases hid with rfl | rfl | rfl
    ·refine⟨[],⟨by simp,by simp,by simp,by simp,by simp⟩,?_⟩
     simp only[qae]
     simp -implicitDefEqProofs [hren]
     exact⟨_,by simp,hfin 12 (by simp)⟩
    ·refine⟨[(25,67)],⟨by simp,by simp,by simp,by simp,by simp⟩,?_⟩
     simp only[qae]
     simp -implicitDefEqProofs [hren]
     exact⟨_,by simp,hfin 67 (by simp)⟩
    ·refine⟨[(40,67)],⟨by simp,by simp,by simp,by simp,by simp⟩,?_⟩
     simp only[qae]
     simp -implicitDefEqProofs [hren]
     exact⟨_,by simp,hfin 67 (by simp)⟩
theorem iDropO (l:List DE) (h:qau l=true) (at':Int) (ha:0≤at'∧at'≤1000):ACall prog 252 [.lst 3 (l.map DE.row),.int .i64 at'] [] (fun r L'=>r=.tup [.sl 900 0 (ddDropB l at').1.length,.bool (ddDropB l at').2]∧L'=[(900,deOb (ddDropB l at').1)]):=by
 obtain⟨R,hR⟩:∃ R,ddDropB l at'=R:=⟨_,rfl⟩
 rw[hR]
 unfold ddDropB at hR
 rw[if_neg (by simp[h])]at hR
 have hl:l.length≤48:=by
  simp only[qau,Bool.and_eq_true,decide_eq_true_eq]at h
  exact h.1
 have c1:=clDeO l (by omega)
 have c3:=ddtPlaceC l at' h ha
 refine deQ_can (xs:=[10,38]) ?_
 refine acx func252 [] ntmps252 rfl rfl rfl ?_
 simp -implicitDefEqProofs
 refine qab [] (by kernel_rfl) c1 (by simp[DE.row]) (by simp) trivial (by simp) (by simp) ?_
 rintro r L' ⟨rfl,rfl⟩
 refine⟨[(7,10)],⟨by simp,by simp,by simp,by simp,by simp⟩,?_⟩
 simp only[qae]
 simp -implicitDefEqProofs
 refine c3.call ?_
 cases hT:ddT l at' with
 | false =>
  rw[if_pos hT]at hR
  subst hR
  simp -implicitDefEqProofs
  exact⟨[(10,deOb l)],by simp,10,by simp,rfl,rfl⟩
 | true =>
  rw[if_neg (by simp[hT])]at hR
  obtain⟨e,e1,e3⟩:=ddT_some hT
  have hkl:=(List.getElem?_eq_some_iff.1 e1).1
  have e0:=(List.getElem?_eq_some_iff.1 e1).2
  have eb:=ddt_mem h e (List.mem_of_getElem? e1)
  rw[e1]at hR
  simp only at hR
  generalize ddP l at'=k at *
  have e2:=i64w (e.ec-1) (by omega) (by omega)
  have e4:=i64w ((k:Int)+1) (by omega) (by omega)
  by_cases q:e.ec=1
  ·rw[if_pos q]at hR
   subst hR
   obtain⟨l2,hl2⟩:∃ l2,l.set k ⟨e.es,e.ea,0⟩=l2:=⟨_,rfl⟩
   have hl2l:l2.length=l.length:=by rw[← hl2];simp
   have hrow:(l.map DE.row).set k [.int .i64 e.es,.int .i64 e.ea,.int .i64 0]=l2.map DE.row:=by rw[← hl2];simp[DE.row,List.map_set]
   have ci:=deleteDe (l2.map DE.row) k (k+1) (by omega) (by simp[hl2l];omega) (by simp;omega) (by simp[DE.row]) (de_all l2)
   simp only[List.length_map,hl2l]at ci
   have hkl2:k<l2.length:=by omega
   have hl2k:l2[k]?=some ⟨e.es,e.ea,0⟩:=by rw[← hl2];simp[hkl]
   have htk:(l2.map DE.row).take k++(l2.map DE.row).drop (k+1)=(l.take k++l.drop (k+1)).map DE.row:=by
    rw[← hl2,List.map_append,tk_to,← List.map_drop,List.take_set_of_le (by omega),List.drop_set_of_lt (by omega)]
   simp -implicitDefEqProofs [hkl,e0,e1,e2,e4,DE.row,deOb,q,hrow,hl2k,hl2l,hkl2,(List.getElem?_eq_some_iff.1 hl2k).2]
   refine qab [(1000,.whole 10)] (by kernel_rfl) ci (by simp) (by simp) (by simp;exact qaa rfl (qbh l2)) (by simp) (by simp) ?_
   rintro r L' ⟨rfl,rfl⟩
   refine⟨[],⟨by simp,by simp,by simp,by simp,by simp⟩,?_⟩
   simp only[qae]
   have hren:∀ ρ,((l.take k++l.drop (k+1)).map DE.row).map (renL ρ)=(l.take k++l.drop (k+1)).map DE.row:=fun ρ=>by simp
   rw[htk]
   simp -implicitDefEqProofs [hren]
   exact⟨[(10,deOb (l.take k++l.drop (k+1)))],by simp[deOb],10,by simp,by simp;omega,rfl⟩
  ·rw[if_neg q]at hR
   subst hR
   simp -implicitDefEqProofs [hkl,e0,e1,e2,DE.row,deOb,q,show ¬ e.ec-1=0 by omega]
   exact⟨[(10,deOb (l.set k ⟨e.es,e.ea,e.ec-1⟩))],by simp[deOb,DE.row,List.map_set],10,by simp,by simp,rfl⟩
theorem iFindC (d:DK) (hd:DkT d) (l:List DE) (text:List UInt8) (hl:l.length≤1048576) (ht:text.length≤maxLen) :
  CV prog 174 [.agg d.row,.lst 3 (l.map DE.row),.str text] (.int .i64 (findDB d l text)):=by
 obtain⟨R,hR⟩:∃ R,findDB d l text=R:=⟨_,rfl⟩
 rw[hR]
 unfold findDB at hR
 have c1:=iDdtOkC l hl
 have c2:CV prog 272 [.str text] (.int .i64 (smB text:Nat)):=isumC text ht
 refine cvx func174 [] ntmps174 rfl rfl rfl ?_ (hca:=by simp[DK.row,DE.row])
 simp -implicitDefEqProofs [DK.row]
 refine c1.call ?_
 cases hok:qau l with
 | false =>
  rw[if_neg (by simp[hok])]at hR
  subst hR
  simp -implicitDefEqProofs
 | true =>
  rw[if_pos hok]at hR
  simp -implicitDefEqProofs
  refine c2.call ?_
  simp -implicitDefEqProofs
  refine ev_lp (X:=Nat) [2,3,6,7,17,18,19] [(3,3)] (fun i=>[(19,.int .i64 i)]) (fun _=>[]) (fun i=>l.length-i) (fun i=>i≤l.length∧findR d text (l.drop i)=R) 0 (by simp[hR]) ?_ (he:=by simp[obOf])
  rintro i ⟨hi,hf⟩
  cases hr:l.drop i with
  | nil =>
   have:=dropn hr
   rw[hr]at hf
   have hie:i=l.length:=by omega
   subst hie
   simp -implicitDefEqProofs [obOf]
   simpa [findR]using hf
  | cons e r =>
   obtain⟨k1,e0,e1,k3⟩:=dropc hr
   rw[hr]at hf
   have e2:=i64w ((i:Int)+1) (by omega) (by omega)
   have c3:=iBlkReadC d hd ⟨e.ea,e.es,0⟩
   simp only[findR]at hf
   have eli:(i:Int)<l.length:=by omega
   have hN:¬ (e.es=smB text∧(qcb d ⟨e.ea,smB text,0⟩).2=0∧(qcb d ⟨e.ea,smB text,0⟩).1=text)→findR d text (l.drop (i+1))=R:=fun h=>by rw[if_neg h]at hf;rw[k3];exact hf
   have hY:(e.es=smB text∧(qcb d ⟨e.ea,smB text,0⟩).2=0∧(qcb d ⟨e.ea,smB text,0⟩).1=text)→e.ea=R:=fun h=>by rw[if_pos h]at hf;exact hf
   simp -implicitDefEqProofs [obOf,eli,e0,e1,k1,DE.row]
   refine⟨fun q1=>nx (i+1) [(3,3)] ⟨by omega,hN fun h=>q1 h.1⟩ (h4:=by simp[obOf,e2]),fun q1=>?_⟩
   rw[q1]at c3
   generalize qcb d ⟨e.ea,smB text,0⟩=Y at *
   obtain⟨yt,yc⟩:=Y
   simp only[DK.row,PT.row]at c3
   rw[q1]
   refine c3.call ?_
   simp -implicitDefEqProofs
   refine⟨fun q2=>⟨fun q3=>hY ⟨q1,q2,q3⟩,fun q3=>nx (i+1) [(3,3)] ⟨by omega,hN fun h=>q3 h.2.2⟩ (h4:=by simp[obOf,e2])⟩,fun q2=>nx (i+1) [(3,3)] ⟨by omega,hN fun h=>q2 h.2.1⟩ (h4:=by simp[obOf,e2])⟩
theorem iNaN1 (x:Int):CV prog 382 [.int .i64 x] (.bool false):=by
 refine cvx func382 [] ntmps382 rfl rfl rfl ?_
 simp -implicitDefEqProofs
theorem iNaN2 (x:Int):CV prog 370 [.int .i64 x] (.bool false):=by
 refine cvx func370 [] ntmps370 rfl rfl rfl ?_
 simp -implicitDefEqProofs
theorem iLessC (x y:Int):CV prog 344 [.int .i64 x,.int .i64 y] (.bool (decide (x<y))):=by
 refine cvx func344 [] ntmps344 rfl rfl rfl ?_
 simp -implicitDefEqProofs
 refine(iNaN1 x).call ?_
 simp -implicitDefEqProofs
theorem placesB_up:∀ {l:List Int} {q:Int},qch q l=true→(∀ x∈l,q<x∧13≤x∧x<120)∧∀ (i j:Nat) (x y:Int),i<j→l[i]?=some x→l[j]?=some y→x<y
 | [],q,_=>⟨by simp,fun i j x y _ h=>by simp at h⟩
 | a::r,q,h=>by
  simp only[qch,Bool.and_eq_true,decide_eq_true_eq]at h
  obtain⟨h1,h2⟩:=placesB_up h.2
  refine⟨fun x hx=>?_,fun i j x y hij hx hy=>?_⟩
  ·rcases List.mem_cons.1 hx with rfl | hx
   ·omega
   ·have:=h1 x hx;omega
  ·cases j with
   | zero=>omega
   | succ j =>
    simp only[List.getElem?_cons_succ]at hy
    cases i with
    | zero =>
     simp only[List.getElem?_cons_zero,Option.some.injEq]at hx
     subst hx
     exact(h1 y (List.mem_of_getElem? hy)).1
    | succ i=>exact h2 i j x y (by omega) (by simpa using hx) hy
theorem bsT_in {l:List Int} {a:Int} (hu:UpC (fun x=>x-a) l) (hs:∀ (i j:Nat) (x y:Int),i<j→l[i]?=some x→l[j]?=some y→x<y):bsT (fun x=>x-a) l=l.contains a:=by
 unfold bsT
 cases h:l[bsK (fun x=>x-a) l]? with
 | some x =>
  simp only
  by_cases hx:x=a
  ·subst hx
   have:=List.mem_of_getElem? h
   simp[this]
  ·have hn:¬ a∈l:=fun hm=>by
    obtain⟨i,hi⟩:=List.mem_iff_getElem?.1 hm
    have h1:=bsK_le (c:=fun x=>x-a) hi (by simp)
    rcases Nat.lt_or_ge (bsK (fun x=>x-a) l) i with h2 | h2
    ·have h3:=hs _ _ _ _ h2 h hi
     have:=bsK_lt hu h (by first | omega | (simp only;omega))
     omega
    ·have:i=bsK (fun x=>x-a) l:=by omega
     rw[← this,hi]at h
     injection h with h
     exact hx h.symm
   have h2:¬ x-a=0:=by omega
   simp[hn,h2]
 | none =>
  have hn:¬ a∈l:=fun hm=>by
   obtain⟨i,hi⟩:=List.mem_iff_getElem?.1 hm
   have h1:=bsK_le (c:=fun x=>x-a) hi (by simp)
   have h2:=(List.getElem?_eq_some_iff.1 hi).1
   have h3:=List.getElem?_eq_none_iff.1 h
   omega
  simp[hn]
theorem iBsC (l:List Int) (a:Int) (hl:l.length≤1048576) (hs:∀ (i j:Nat) (x y:Int),i<j→l[i]?=some x→l[j]?=some y→x<y) :
  CV prog 327 [.lst 1 (l.map qad),.int .i64 a] (.tup [.int .i64 (bsK (fun x=>x-a) l:Nat),.bool (l.contains a)]):=by
 have hu:UpC (fun x=>x-a) l:=fun i j x y hij hx hy hc=>by
  have:=hs i j x y hij hx hy
  first | omega | (simp only at hc ⊢;omega)
 rw[← bsT_in hu hs]
 obtain⟨K,hK⟩:∃ K,bsK (fun x=>x-a) l=K:=⟨_,rfl⟩
 have hKl:=bsK_len (fun x=>x-a) l
 refine cvx func327 [] ntmps327 rfl rfl rfl ?_ (hca:=by simp[qad])
 simp -implicitDefEqProofs
 refine ev_lp (X:=Nat×Nat) [0,1,6,7,8] [] (fun x=>[(7,.int .i64 x.1),(8,.int .i64 x.2)]) (fun _=>[]) (fun x=>x.2-x.1) (fun x=>x.1≤K∧K≤x.2∧x.2≤l.length) (0,l.length) (by simp;omega) ?_
 rintro⟨i,j⟩ ⟨hi,hj,hjl⟩
 simp only at hi hj hjl
 by_cases h1:i<j
 ·obtain⟨m,hm⟩:∃ m,(i+j) / 2=m:=⟨_,rfl⟩
  have e1:=i64w ((i:Int)+j) (by omega) (by omega)
  have e6:IntKind.i64.wrap ((IntKind.u64.wrap ((i:Int)+j)).fdiv (2 ^ min 1 IntKind.u64.bits))=(m:Int):=by
   rw[show IntKind.u64.wrap ((i:Int)+j)=(i:Int)+j from IntWalk.u64_in _ (by omega)]
   rw[show(2:Int) ^ min 1 IntKind.u64.bits=2 from rfl,Int.fdiv_eq_ediv_of_nonneg _ (by omega)]
   rw[qav _ (by omega)];omega
  have e7:=i64w ((m:Int)+1) (by omega) (by omega)
  have hml:m<l.length:=by omega
  obtain⟨x,e0⟩:∃ x,l[m]=x:=⟨_,rfl⟩
  have e5:l[m]?=some x:=by rw[← e0];exact List.getElem?_eq_getElem hml
  simp -implicitDefEqProofs [h1,e1,e6,hml,e0,e5,qad]
  refine(iLessC x a).call ?_
  simp -implicitDefEqProofs [e7]
  refine⟨fun hc=>nx (m+1,j) [] ?_,fun hc=>nx (i,m) [] ?_⟩
  ·have:=bsK_lt hu e5 (by first | omega | (simp only;omega))
   simp only;omega
  ·have:=bsK_le (c:=fun x=>x-a) e5 (by omega)
   simp only;omega
 ·have hji:i=j:=by omega
  subst hji
  by_cases h2:i<l.length
  ·obtain⟨x,e0⟩:∃ x,l[i]=x:=⟨_,rfl⟩
   have e5:l[i]?=some x:=by rw[← e0];exact List.getElem?_eq_getElem h2
   have hik:i=K:=by omega
   by_cases hx:x=a
   ·subst hx
    simp -implicitDefEqProofs [h2,e0,e5,qad]
    simp[hK,bsT,← hik,e5]
   ·simp -implicitDefEqProofs [h2,e0,e5,hx,qad]
    refine(iNaN2 x).call ?_
    simp -implicitDefEqProofs [hK,bsT,← hik,e5]
    have:¬ x-a=0:=by omega
    simp[this]
  ·have hil:i=l.length:=by omega
   have hik:i=K:=by omega
   simp -implicitDefEqProofs [hK,bsT,← hik,hil]
theorem core_safe {c:CO} (h:qaj c=true):qau c.ddt=true∧qch 12 c.safe=true:=by
 simp only[qaj,Bool.and_eq_true,decide_eq_true_eq]at h
 exact⟨h.1.1.1.1.1.1.1.1.1.2,h.1.1.1.1.1.1.1.2⟩
theorem iIsFreeC (c:CO) (h:CoT c) (hc:qaj c=true) (a:Int) (ha:0≤a∧a≤1000):CV prog 274 [.agg c.row,.int .i64 a] (.bool (freeB1 c a)):=by
 obtain⟨h1,h2⟩:=core_safe hc
 have c1:=ddtPlaceC c.ddt a h1 ha
 have c2:=iBsC c.safe a h.safe (placesB_up h2).2
 unfold freeB1
 refine cvx func274 [] ntmps274 rfl rfl rfl ?_ (hca:=by simp[co_cl])
 simp -implicitDefEqProofs [CO.row]
 refine c1.call ?_
 simp -implicitDefEqProofs
 refine c2.call ?_
 cases ddT c.ddt a with
 | true=>simp -implicitDefEqProofs
 | false=>simp -implicitDefEqProofs
theorem iFreeO (c:CO) (h:CoT c) (hc:qaj c=true) (n:Int) (hn:n≤1000):ACall prog 176 [.agg c.row,.int .i64 n] [] (fun r L'=>r=.sl 900 0 (freeB c n).length∧L'=[(900,kin (freeB c n))]):=by
 obtain⟨R,hR⟩:∃ R,freeB c n=R:=⟨_,rfl⟩
 rw[hR]
 refine acx func176 [] ntmps176 rfl rfl rfl ?_
 simp -implicitDefEqProofs [CO.row]
 refine ev_sw (sw_ph 5 1 (by simp) (by simp)) ?_
 refine ev_lo (X:=Int×List Int) [1,2,5,6] [(2,2),(5,900)] (fun x=>[(5,.sl 900 0 x.2.length),(6,.int .i64 x.1)]) (fun x=>[(2,⟨7,[c.row]⟩),(900,kin x.2)]) (fun x=>(n-x.1).toNat) (fun x=>13≤x.1∧x.1≤1048577∧x.2.length≤x.1∧x.2++freeR c (n-x.1).toNat x.1=R) (13,[]) (by simp[← hR,freeB]) ?_ (he:=by simp[obOf,kin,CO.row])
 rintro⟨a,out⟩ ⟨ha,ha2,hl,hd⟩
 simp only at ha ha2 hl hd
 by_cases hlt:a<n
 ·obtain⟨k,hk⟩:∃ k,(n-a).toNat=k+1:=⟨(n-a).toNat-1,by omega⟩
  have hk2:(n-(a+1)).toNat=k:=by omega
  rw[hk]at hd
  simp only[freeR]at hd
  have c1:=iIsFreeC c h hc a (by omega)
  simp only[CO.row]at c1
  have e2:=i64w (a+1) (by omega) (by omega)
  simp -implicitDefEqProofs [obOf,hlt,CO.row]
  refine c1.call ?_
  cases ht:freeB1 c a with
  | false =>
   rw[if_neg (by simp[ht]),List.nil_append]at hd
   simp -implicitDefEqProofs [e2]
   exact nx (a+1,out) [(2,2),(900,900)] ⟨by simp only;omega,by simp only;omega,by simp only;omega,by simp only[hk2];exact hd⟩ (by simp only;omega) (h4:=by simp[obOf,e2,CO.row,kin])
  | true =>
   rw[if_pos ht]at hd
   simp -implicitDefEqProofs [e2,kin]
   refine⟨by omega,nx (a+1,out++[a]) [(2,2),(18,900)] ⟨by simp only;omega,by simp only;omega,by simp;omega,by simp only[hk2];simpa using hd⟩ (by simp only;omega) (h4:=by simp[obOf,e2,CO.row,kin,qad,qap])⟩
 ·have hk:(n-a).toNat=0:=by omega
  rw[hk]at hd
  simp only[freeR,List.append_nil]at hd
  simp -implicitDefEqProofs [hlt,← hd]
theorem iMayC (c:CO) (h:CoT c) (hc:qaj c=true) (n:Nat) (hn:n≤120):CV prog 175 [.agg c.row,.int .i64 n] (.bool (mayB c n)):=by
 obtain⟨R,hR⟩:∃ R,mayB c n=R:=⟨_,rfl⟩
 rw[hR]
 unfold mayB at hR
 have c1:=iCoreOk c h
 have h2:=h.ddt
 rw[hc]at c1
 have cr:CV prog 273 [.agg c.row,.int .i64 n] (.bool true):=by
  simp only[CO.row]at c1
  refine cvx func273 [] ntmps273 rfl rfl rfl ?_ (hca:=by simp[co_cl])
  simp -implicitDefEqProofs [CO.row]
  refine c1.call ?_
  simp -implicitDefEqProofs
  try omega
 have c3:=iFreeO c h hc n (by omega)
 generalize freeB c n=f at *
 have e1:=i64w ((n:Int)-13) (by omega) (by omega)
 have e2:=i64w ((c.ddt.length:Int)+1) (by omega) (by omega)
 have e3:=i64w ((n:Int)-13-((c.ddt.length:Int)+1)) (by omega) (by omega)
 refine cvx func175 [] ntmps175 rfl rfl rfl ?_ (hca:=by simp[co_cl])
 simp only[CO.row]at cr c3
 simp -implicitDefEqProofs [CO.row]
 refine cr.call ?_
 simp -implicitDefEqProofs [CO.row]
 refine qab [] (by kernel_rfl) c3 (by simp[cs_cl,DE.row,PT.row,qad]) (by simp) trivial (by simp) (by simp) ?_
 rintro r L' ⟨rfl,rfl⟩
 refine⟨[(900,11)],⟨by simp,by simp,by simp,by simp,by simp⟩,?_⟩
 simp only[qae]
 by_cases g1:16<f.length
 ·by_cases g2:(32:Int)≤n-13-c.ddt.length-1
  ·simp -implicitDefEqProofs [CO.row,g1,show(16:Int)<f.length by omega,e1,e2,e3,show(32:Int)≤n-13-(c.ddt.length+1) by omega]
   rw[← hR]
   simp only[g1,g2,decide_true,Bool.true_and]
   by_cases g3:c.ddt.length<48
   ·simp[g3];omega
   ·simp[g3];omega
  ·simp -implicitDefEqProofs [CO.row,g1,show(16:Int)<f.length by omega,e1,e2,e3,show ¬ (32:Int)≤n-13-(c.ddt.length+1) by omega]
   rw[← hR]
   simp[g2]
 ·simp -implicitDefEqProofs [g1,show ¬ (16:Int)<f.length by omega]
  rw[← hR]
  simp[g1]
theorem parts_cnt:∀ (k:Nat) (l:List DE),l.length≤k→(partsN k l).length=(l.length+5) / 6:=fun k=>by
 induction k with
 | zero =>
  intro l hl
  have:l=[]:=List.eq_nil_of_length_eq_zero (by omega)
  subst this
  rfl
 | succ k ih =>
  intro l hl
  simp only[partsN]
  by_cases h0:l=[]
  ·subst h0;rfl
  ·rw[if_neg h0,List.length_cons,ih (l.drop 6) (by simp;have:=List.length_pos_iff.2 h0;omega)]
   have:=List.length_pos_iff.2 h0
   simp only[List.length_drop]
   omega
theorem iNeedsC (c:CO) (h:CoT c) (hc:qaj c=true):CV prog 253 [.agg c.row] (.int .i64 (needsB c:Nat)):=by
 obtain⟨hm,k1,k2,k3,k4,k5,k6,k7⟩:=qcc hc
 obtain⟨R,hR⟩:∃ R,needsB c=R:=⟨_,rfl⟩
 rw[hR]
 have hp:=parts_cnt c.ddt.length c.ddt (Nat.le_refl _)
 unfold needsB partsT at hR
 rw[hp]at hR
 have c1:=iCoreOk c h
 rw[hc]at c1
 have hdl:dirtN c.sets≤c.sets.length:=List.countP_le_length
 refine cvx func253 [] ntmps253 rfl rfl rfl ?_ (hca:=by simp[co_cl])
 simp only[CO.row]at c1
 simp -implicitDefEqProofs [CO.row]
 refine c1.call ?_
 simp -implicitDefEqProofs
 refine ev_lp (X:=Nat×Nat) [1,2,3,10,11,12] [(1,1)] (fun x=>[(3,.int .i64 (x.2:Int)),(12,.int .i64 x.1)]) (fun _=>[]) (fun x=>c.sets.length-x.1) (fun x=>x.1≤c.sets.length∧x.2≤1+x.1∧x.2+dirtN (c.sets.drop x.1)+(if c.dirty=true then (c.ddt.length+5) / 6 else 0)=R) (0,1) ⟨by simp,by simp,by simpa using hR⟩ ?_ (he:=by simp[obOf])
 rintro⟨i,m⟩ ⟨hi,hml,hd⟩
 simp only at hi hml hd
 cases hr:c.sets.drop i with
 | nil =>
  have:=dropn hr
  rw[hr]at hd
  have hie:i=c.sets.length:=by omega
  subst hie
  simp only[dirtN,List.countP_nil,Nat.add_zero]at hd
  have e1:=i64w ((c.ddt.length:Int)+6) (by omega) (by omega)
  have e2:=i64w ((c.ddt.length:Int)+6-1) (by omega) (by omega)
  have e4:IntKind.i64.wrap (((c.ddt.length:Int)+6-1).tdiv 6)=(((c.ddt.length+5) / 6:Nat):Int):=by
   rw[Int.tdiv_eq_ediv_of_nonneg (by omega),i64w _ (by omega) (by omega)]
   omega
  have e5:=i64w ((m:Int)+(((c.ddt.length+5) / 6:Nat):Int)) (by omega) (by omega)
  simp -implicitDefEqProofs [obOf,e1,e2]
  refine⟨fun q=>?_,fun q=>?_⟩
  ·rw[if_pos q]at hd
   rw[e4,e5,← hd];omega
  ·rw[if_neg (by simp[q])]at hd
   rw[← hd];rfl
 | cons x q =>
  obtain⟨g1,e0,e1,g3⟩:=dropc hr
  rw[hr]at hd
  have h8:=h.m8 x (List.mem_of_getElem? e1)
  have hli:(i:Int)<c.sets.length:=by omega
  have e2:=i64w ((i:Int)+1) (by omega) (by omega)
  have e3:=i64w ((m:Int)+1) (by omega) (by omega)
  have hx30:=cs_dty x h8
  have hx30':=(List.getElem?_eq_some_iff.1 hx30).2
  simp only[dirtN,List.countP_cons]at hd
  simp -implicitDefEqProofs [obOf,g1,e0,e1,hli,qas x h8,qbt x h8,hx30,hx30',e2,e3]
  refine⟨cs_ones x,fun q1=>?_,fun q1=>?_⟩
  ·rw[if_pos q1]at hd
   exact nx (i+1,m+1) [(1,1)] ⟨by simp only;omega,by simp only;omega,by simp only[g3,dirtN];rw[← hd];congr 1;omega⟩ (by simp only;omega) (h4:=by simp[obOf,e2,e3])
  ·rw[if_neg (by simp[q1])]at hd
   exact nx (i+1,m) [(1,1)] ⟨by simp only;omega,by simp only;omega,by simp only[g3,dirtN];rw[← hd];rfl⟩ (by simp only;omega) (h4:=by simp[obOf,e2,e3])
end Go.Av.F
end
