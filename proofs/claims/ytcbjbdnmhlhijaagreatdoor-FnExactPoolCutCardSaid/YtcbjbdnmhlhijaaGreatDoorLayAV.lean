/- Lemmas for the proof, no statement of the seat; no conditions. -/
import Derived.Test.YtcbjbdnmhlhijaaGreatDoorLayAU
set_option linter.unusedSimpArgs false
set_option linter.unusedVariables false
set_option linter.unnecessarySimpa false
set_option maxRecDepth 100000
section
namespace Go.Av.F
open Go Go.Av Go.Proofs Go.Proofs.Tryz
theorem iCommitOkC (d:DK) (hd:DkT d) (c:CO) (h:CoT c):CV prog 82 [.agg d.row,.agg c.row] (.bool (dOkB d && qaj c && decide (13<d.s0.length))):=by
 have c1:=iDiskOkC d hd
 have c2:=iCoreOk c h
 have hl:=hd.l0
 simp only[DK.row,CO.row]at c1 c2
 refine cvx func82 [] ntmps82 rfl rfl rfl ?_ (hca:=by simp[DK.row,co_cl])
 simp -implicitDefEqProofs [DK.row,CO.row]
 refine c1.call ?_
 cases dOkB d with
 | false=>simp -implicitDefEqProofs
 | true =>
  simp -implicitDefEqProofs [DK.row,CO.row]
  refine c2.call ?_
  cases qaj c with
  | false=>simp -implicitDefEqProofs
  | true =>
   simp -implicitDefEqProofs [DK.row,CO.row]
   omega
def newQ (d:DK) (c:CO) (r:AV) (L':List (Nat×Ob)):Prop :=
 (mayDoB d c=false∧r=.tup [.nilp,.bool false]∧L'=[])∨(mayDoB d c=true∧r=.tup [.ptr 1000 0 0,.bool true]∧L'=cmL d c (freeB c d.s0.length) 0 1003 1006)
theorem iNewO (d:DK) (hd:dOkB d=true) (c:CO) (h:CoT c) (hc:qaj c=true):ACall prog 138 [.agg d.row,.agg c.row] [] (newQ d c):=by
 obtain⟨hm,k1,k2,k3,k4,k5,k6,k7⟩:=qcc hc
 obtain⟨g1,g2,g3,g4,_⟩:=dOk_len hd
 have c1:=iFreeO c h hc d.s0.length (by omega)
 have c2:=iNeedsC c h hc
 have c3:=iDOwnO d (dOk_T hd)
 have c4:=iKOwnO c h
 have hfl:=freeB_len c d.s0.length
 have hmay:mayDoB d c=(decide (c.txg<1000000) && decide (needsB c≤(freeB c d.s0.length).length)):=rfl
 generalize hF:freeB c d.s0.length=F at *
 generalize needsB c=N at *
 have key:ACall prog 138 [.agg d.row,.agg c.row] [] (fun r L'=>(mayDoB d c=false∧r=.tup [.nilp,.bool false]∧L'=[])∨(mayDoB d c=true∧r=.tup [.ptr 29 0 0,.bool true] ∧
   L'=[(29,⟨17,[[.sl 801 0 d.s0.length,.sl 802 0 d.s1.length,.sl 803 0 d.late.length,.int .i64 c.txg,.sl 804 0 c.sets.length,.sl 805 0 c.ddt.length,.sl 806 0 c.parts.length,.bool c.dirty,.sl 807 0 c.safe.length,.int .i64 c.logn,.sl 808 0 F.length,.nils,.nils,.nils,.nils,.nils,.nils]]⟩),
    (801,strOb d.s0),(802,strOb d.s1),(803,ltOb d.late),(804,kcs c.sets),(805,deOb c.ddt),(806,kpt c.parts),(807,kin c.safe),(808,kin F)])):=by
  refine acx func138 [(4,[zJ 0 [2] [],zJ 2 [3] [2],zJ 4 [] [2,3],zJ 1 [] [3],zI 3,zI 5,zI 6,zI 7,zI 8])] ntmps138 rfl rfl rfl ?_
  simp only[DK.row,CO.row]at c1 c2 c3 c4
  simp -implicitDefEqProofs [DK.row,CO.row,show(0:Nat)<d.s0.length by omega]
  refine qab [] (by kernel_rfl) c1 (by simp[cs_cl,DE.row,PT.row,qad]) (by simp) trivial (by simp) (by simp) ?_
  rintro r L' ⟨rfl,rfl⟩
  refine⟨[(900,808)],⟨by simp,by simp,by simp,by simp,by simp⟩,?_⟩
  simp only[qae]
  by_cases q1:c.txg=1000000
  ·rw[show mayDoB d c=false by rw[hmay];simp;omega]
   simp -implicitDefEqProofs [DK.row,CO.row,q1]
  ·simp -implicitDefEqProofs [DK.row,CO.row,q1]
   refine c2.call ?_
   by_cases q2:F.length<N
   ·rw[show mayDoB d c=false by rw[hmay];simp;omega]
    simp -implicitDefEqProofs [show(F.length:Int)<N by omega]
   ·rw[show mayDoB d c=true by rw[hmay];simp;omega]
    simp -implicitDefEqProofs [show ¬ (F.length:Int)<N by omega]
    refine qab [] (by kernel_rfl) c3 (by simp[qaf,LT.row]) (by simp) trivial (by simp) (by simp) ?_
    rintro r L' ⟨rfl,rfl⟩
    refine⟨[(6,801),(10,802),(14,803)],⟨by simp,by simp,by simp,by simp,by simp⟩,?_⟩
    simp only[qae]
    simp -implicitDefEqProofs
    refine qab [] (by kernel_rfl) c4 (by simp[cs_cl,DE.row,PT.row,qad]) (by simp) trivial (by simp) (by simp) ?_
    rintro r L' ⟨rfl,rfl⟩
    refine⟨[(5,804),(8,805),(11,806),(14,807)],⟨by simp,by simp,by simp,by simp,by simp⟩,?_⟩
    simp only[qae]
    simp -implicitDefEqProofs [coreA]
 refine key.can ?_
 rintro r L' (⟨h1,rfl,rfl⟩ | ⟨h1,rfl,rfl⟩)
 ·refine⟨[],by simp,by simp,by simp,by simp,.inl ⟨h1,by simp,by simp⟩⟩
 ·refine⟨[(29,1000),(801,1001),(802,1002),(803,1003),(804,1004),(805,1005),(806,1006),(807,1007),(808,1008)],by simp,by simp,by simp,by simp,.inr ⟨h1,by simp,?_⟩⟩
  rw[hF]
  simp[cmL,cmR,obOf]
theorem noL_pts:∀ (m:List PT),noL (m.flatMap PT.row)=true
 | []=>rfl
 | p::r=>by
  rw[List.flatMap_cons,noL_append,noL_pts r]
  rfl
theorem noL_cs (s:CS):noL s.row=true:=by
 have e:s.row=[.str s.name,.int .i64 s.kind,.str s.frm]++(s.map.flatMap PT.row++(s.home.row++[.bool s.dirty])):=by simp[CS.row]
 rw[e,noL_append,noL_append,noL_pts]
 rfl
def cdQ (R:DK×CO×Int) (r:AV) (L':List (Nat×Ob)):Prop :=
 (R.2.2=5∧r=.tup [.agg [.nils,.nils,.nils],.agg [.int .i64 0,.nils,.nils,.nils,.bool false,.nils,.int .i64 0],.int .i64 5]∧L'=[]) ∨
 (r=.tup [.agg (dskA R.1 901 902 903),coreA R.2.1 904 905 906 907,.int .i64 R.2.2]∧L'=[(901,strOb R.1.s0),(902,strOb R.1.s1),(903,ltOb R.1.late),(904,kcs R.2.1.sets),(905,deOb R.2.1.ddt),(906,kpt R.2.1.parts),(907,kin R.2.1.safe)])
theorem iCommitO (d:DK) (hd:DkT d) (c:CO) (h:CoT c):ACall prog 173 [.agg d.row,.agg c.row] [] (cdQ (qbu d c)):=by
 have hcb:=@commitB_ok d c h
 obtain⟨R,hR⟩:∃ R,qbu d c=R:=⟨_,rfl⟩
 rw[hR]at hcb ⊢
 unfold qbu at hR
 have c0:=iCommitOkC d hd c h
 have c3:=iDOwnO d hd
 have c4:=iKOwnO c h
 simp only[DK.row,CO.row]at c0 c3 c4
 refine acx func173 [(5,[zJ 0 [2] [],zJ 2 [3] [2],zJ 1 [] [3],zI 3,zI 4,zI 5,zI 6]),(6,[zI 0,zI 1,zI 2,zJ 3 [800] [],zJ 5 [] [800],zJ 6 [] [800],zJ 7 [] [800],zJ 8 [800] [800],zJ 4 [801,802,813] [800],zJ 9 [804,805,816,817] [],zI 10,zI 11,zI 12])] ntmps173 rfl rfl rfl ?_
 simp -implicitDefEqProofs [DK.row,CO.row]
 refine c0.call ?_
 by_cases hok:dOkB d=false∨qaj c=false∨d.s0.length≤13
 ·rw[if_pos hok]at hR
  subst hR
  rw[show(dOkB d && qaj c && decide (13<d.s0.length))=false by
   rcases hok with e | e | e
   ·rw[e];rfl
   ·rw[e];simp
   ·simp;omega]
  simp -implicitDefEqProofs
  exact⟨[],by simp,.inl ⟨rfl,rfl,rfl⟩⟩
 ·have ho:dOkB d=true∧qaj c=true∧13<d.s0.length:=by
   refine⟨?_,?_,?_⟩
   ·cases e:dOkB d with
    | true=>rfl
    | false=>exact absurd (.inl e) hok
   ·cases e:qaj c with
    | true=>rfl
    | false=>exact absurd (.inr (.inl e)) hok
   ·have:¬ d.s0.length≤13:=fun e=>hok (.inr (.inr e))
    omega
  obtain⟨o1,o2,o3⟩:=ho
  rw[if_neg hok]at hR
  rw[show(dOkB d && qaj c && decide (13<d.s0.length))=true by simp[o1,o2,o3]]
  obtain⟨hm,k1,k2,k3,k4,k5,k6,k7⟩:=qcc o2
  have c5:=iNewO d o1 c h o2
  simp only[DK.row,CO.row]at c5
  simp -implicitDefEqProofs [DK.row,CO.row]
  refine qab [] (by kernel_rfl) c5 (by simp[qaf,LT.row,cs_cl,DE.row,PT.row,qad]) (by simp) trivial (by simp) (by simp) ?_
  rintro r L' (⟨hma,rfl,rfl⟩ | ⟨hma,rfl,rfl⟩)
  ·rw[if_pos hma]at hR
   subst hR
   refine⟨[],⟨by simp,by simp,by simp,by simp,by simp⟩,?_⟩
   simp only[qae]
   simp -implicitDefEqProofs
   refine qab [] (by kernel_rfl) c3 (by simp[qaf,LT.row]) (by simp) trivial (by simp) (by simp) ?_
   rintro r L' ⟨rfl,rfl⟩
   refine⟨[(6,901),(10,902),(14,903)],⟨by simp,by simp,by simp,by simp,by simp⟩,?_⟩
   simp only[qae]
   simp -implicitDefEqProofs
   refine qab [] (by kernel_rfl) c4 (by simp[cs_cl,DE.row,PT.row,qad]) (by simp) trivial (by simp) (by simp) ?_
   rintro r L' ⟨rfl,rfl⟩
   refine⟨[(5,904),(8,905),(11,906),(14,907)],⟨by simp,by simp,by simp,by simp,by simp⟩,?_⟩
   simp only[qae]
   simp -implicitDefEqProofs [coreA]
   exact⟨[(901,strOb d.s0),(902,strOb d.s1),(903,ltOb d.late),(904,kcs c.sets),(905,deOb c.ddt),(906,kpt c.parts),(907,kin c.safe)],by simp,.inr ⟨rfl,rfl⟩⟩
  ·rw[if_neg (by simp[hma])]at hR
   have hma2:=hma
   simp only[mayDoB,Bool.and_eq_true,decide_eq_true_eq]at hma2
   have c6:=iRunO d o1 c h o2 hma2.2 hma2.1
   refine⟨[(1000,800),(1001,801),(1002,802),(1003,803),(1004,804),(1005,805),(1006,806),(1007,807),(1008,808)],⟨by simp[cmL],by simp,by simp,by simp[cmL],by simp⟩,?_⟩
   simp only[qae]
   simp -implicitDefEqProofs [cmL,cmR]
   refine qab [(1000,.whole 800),(1001,.whole 801),(1002,.whole 802),(1003,.whole 803),(1004,.whole 804),(1005,.whole 805),(1006,.whole 806),(1007,.whole 807),(1008,.whole 808)] (by kernel_rfl) c6 (by simp) (by simp) (by simp[cmL,cmR];exact⟨.inr ⟨_,_,rfl,rfl,by simp⟩,qaa rfl (qam _),qaa rfl (qam _),qaa rfl (clR_lt _),qaa rfl (qak _),qaa rfl (qbh _),qaa rfl (qbd _),qaa rfl (qan _),qaa rfl (qan _)⟩) (by simp[cmL]) (by simp) ?_
   rintro r L' (⟨h1,rfl,c',j,rfl⟩ | ⟨h1,rfl,D,c',j,i3,i7,h3,h7,rfl,hq⟩)
   ·have h7:(doneB d c).2.2=7:=by unfold doneB;rw[if_pos h1]
    rw[if_pos (by rw[h7];decide),h7]at hR
    subst hR
    refine⟨[(903,813),(906,816),(911,821),(912,822),(913,823)],⟨by simp[cmO],by simp,by simp,by simp[cmO],by simp⟩,?_⟩
    simp only[qae]
    simp -implicitDefEqProofs [cmO,cmT,dskA]
    refine qab [] (by kernel_rfl) c3 (by simp[qaf,LT.row]) (by simp) trivial (by simp) (by simp) ?_
    rintro r L' ⟨rfl,rfl⟩
    refine⟨[(6,901),(10,902),(14,903)],⟨by simp,by simp,by simp,by simp,by simp⟩,?_⟩
    simp only[qae]
    simp -implicitDefEqProofs
    refine qab [] (by kernel_rfl) c4 (by simp[cs_cl,DE.row,PT.row,qad]) (by simp) trivial (by simp) (by simp) ?_
    rintro r L' ⟨rfl,rfl⟩
    refine⟨[(5,904),(8,905),(11,906),(14,907)],⟨by simp,by simp,by simp,by simp,by simp⟩,?_⟩
    simp only[qae]
    simp -implicitDefEqProofs [coreA]
    exact⟨[(901,strOb d.s0),(902,strOb d.s1),(903,ltOb d.late),(904,kcs c.sets),(905,deOb c.ddt),(906,kpt c.parts),(907,kin c.safe)],by simp,.inr ⟨rfl,rfl⟩⟩
   ·simp only[List.mem_cons,List.not_mem_nil,or_false]at h3 h7
    subst h3
    subst h7
    refine⟨[(903,813),(906,816),(907,817),(911,821),(912,822),(913,823),(921,831),(922,832),(923,833)],⟨by simp[cmO,lastL],by simp,by simp,by simp[cmO,lastL],by simp⟩,?_⟩
    simp only[qae]
    by_cases q:(doneB d c).2.2=0
    ·rw[if_neg (by simp[q])]at hR
     obtain⟨rfl,rfl⟩:=hq q
     have hz:=hcb (by rw[← hR];exact q)
     subst hR
     generalize doneB d c=Z at *
     obtain⟨zd,zc,zn⟩:=Z
     simp only at q hz
     subst q
     have c7:=iDOwnO zd (dOk_T hz.2.2.1)
     have c8:=iKOwnO zc hz.2.2.2.2.1
     simp only[DK.row,CO.row]at c7 c8
     simp -implicitDefEqProofs [cmO,cmT,lastL,dskA]
     refine qay [] (by kernel_rfl) c7 (by simp[vwOk,mtA,strOb,ltOb,qap,qaf,LT.row]) (by simp) trivial (by simp) (by simp) ?_
     rintro r L' ⟨rfl,rfl⟩
     refine⟨by simp,by simp[strOb,qaf,ltOb,LT.row],[(6,901),(10,902),(14,903)],⟨by simp,by simp,by simp,by simp,by simp⟩,?_⟩
     simp only[qae]
     simp -implicitDefEqProofs
     refine qay [] (by kernel_rfl) c8 (by simp[vwOk,mtA,kcs,deOb,kpt,kin,qap,cs_cl]) (by simp) trivial (by simp) (by simp) ?_
     rintro r L' ⟨rfl,rfl⟩
     refine⟨by simp[coreA],by simp[kcs,deOb,kpt,kin,qad,DE.row,PT.row,noL_cs],[(5,904),(8,905),(11,906),(14,907)],⟨by simp,by simp,by simp,by simp,by simp⟩,?_⟩
     simp only[qae]
     simp -implicitDefEqProofs [coreA]
     exact⟨[(901,strOb zd.s0),(902,strOb zd.s1),(903,ltOb zd.late),(904,kcs zc.sets),(905,deOb zc.ddt),(906,kpt zc.parts),(907,kin zc.safe)],by simp,.inr ⟨rfl,rfl⟩⟩
    ·have h7:(doneB d c).2.2=7:=by
      unfold doneB at q ⊢
      split
      ·rfl
      ·rename_i g1
       rw[if_neg g1]at q
       split
       ·rfl
       ·rename_i g2
        rw[if_neg g2]at q
        simp at q
     rw[if_pos q]at hR
     subst hR
     generalize doneB d c=Z at *
     obtain⟨zd,zc,zn⟩:=Z
     simp only at q h7
     subst h7
     simp -implicitDefEqProofs [cmO,cmT,lastL,dskA,q]
     refine qab [] (by kernel_rfl) c3 (by simp[qaf,LT.row]) (by simp) trivial (by simp) (by simp) ?_
     rintro r L' ⟨rfl,rfl⟩
     refine⟨[(6,901),(10,902),(14,903)],⟨by simp,by simp,by simp,by simp,by simp⟩,?_⟩
     simp only[qae]
     simp -implicitDefEqProofs
     refine qab [] (by kernel_rfl) c4 (by simp[cs_cl,DE.row,PT.row,qad]) (by simp) trivial (by simp) (by simp) ?_
     rintro r L' ⟨rfl,rfl⟩
     refine⟨[(5,904),(8,905),(11,906),(14,907)],⟨by simp,by simp,by simp,by simp,by simp⟩,?_⟩
     simp only[qae]
     simp -implicitDefEqProofs [coreA]
     exact⟨[(901,strOb d.s0),(902,strOb d.s1),(903,ltOb d.late),(904,kcs c.sets),(905,deOb c.ddt),(906,kpt c.parts),(907,kin c.safe)],by simp,.inr ⟨rfl,rfl⟩⟩
theorem ddtR_of {q:Int}:∀ {l:List DE},(∀ e∈l,q<e.ea∧deOkB e=true)→l.Pairwise (fun a b=>a.ea<b.ea)→ddtR q l=true
 | [],_,_=>rfl
 | x::r,h,hp=>by
  rw[List.pairwise_cons]at hp
  have hx:=h x (by simp)
  simp only[ddtR,Bool.and_eq_true,decide_eq_true_eq]
  exact⟨⟨hx.2,hx.1⟩,ddtR_of (fun e he=>⟨hp.1 e he,(h e (by simp[he])).2⟩) hp.2⟩
theorem ddtR_pw {q:Int}:∀ {l:List DE},ddtR q l=true→l.Pairwise (fun a b=>a.ea<b.ea)
 | [],_=>.nil
 | x::r,h=>by
  simp only[ddtR,Bool.and_eq_true,decide_eq_true_eq]at h
  rw[List.pairwise_cons]
  exact⟨fun e he=>((ddtR_up h.2).1 e he).1,ddtR_pw h.2⟩
theorem ddt_split {l:List DE} (h:qau l=true) (a:Int):(∀ e∈l.take (ddP l a),e.ea<a)∧(∀ e∈l.drop (ddP l a),a≤e.ea):=by
 simp only[qau,Bool.and_eq_true,decide_eq_true_eq]at h
 obtain⟨h1,h2⟩:=ddtR_up h.2
 have hu:UpC (fun e:DE=>e.ea-a) l:=fun i j x y hij hx hy hc=>by
  have:=h2 i j x y hij hx hy
  first | omega | (simp only at hc ⊢;omega)
 refine⟨fun e he=>?_,fun e he=>?_⟩
 ·obtain⟨i,hi⟩:=List.mem_iff_getElem?.1 he
  rw[List.getElem?_take]at hi
  split at hi
  ·rename_i hlt
   rcases Int.lt_or_le (e.ea-a) 0 with h3 | h3
   ·omega
   ·have:=bsK_le (c:=fun e:DE=>e.ea-a) hi (by simpa using h3)
    unfold ddP at hlt
    omega
  ·cases hi
 ·obtain⟨i,hi⟩:=List.mem_iff_getElem?.1 he
  rw[List.getElem?_drop]at hi
  rcases Int.lt_or_le (e.ea-a) 0 with h3 | h3
  ·have:=bsK_lt hu hi h3
   unfold ddP at this
   omega
  ·omega
theorem ddT_mem {l:List DE} (h:qau l=true) {a:Int} (hT:ddT l a=false):∀ e∈l,e.ea≠a:=by
 intro e he hea
 have hs:=ddt_split h a
 rw[← List.take_append_drop (ddP l a) l]at he
 rcases List.mem_append.1 he with he | he
 ·have:=hs.1 e he;omega
 ·unfold ddT bsT at hT
  obtain⟨i,hi⟩:=List.mem_iff_getElem?.1 he
  rw[List.getElem?_drop]at hi
  simp only[qau,Bool.and_eq_true,decide_eq_true_eq]at h
  obtain⟨h1,h2⟩:=ddtR_up h.2
  cases hx:l[bsK (fun e=>e.ea-a) l]? with
  | none =>
   have:=List.getElem?_eq_none_iff.1 hx
   have:=(List.getElem?_eq_some_iff.1 hi).1
   unfold ddP at *
   omega
  | some y =>
   rw[hx]at hT
   have hy:y.ea≠a:=by
    intro e
    simp[e]at hT
   have hm:y∈l.drop (ddP l a):=List.mem_iff_getElem?.2 ⟨0,by rw[List.getElem?_drop];exact hx⟩
   have h3:=hs.2 y hm
   by_cases hi0:i=0
   ·subst hi0
    rw[Nat.add_zero]at hi
    unfold ddP at hi
    rw[hx]at hi
    injection hi with hi
    exact hy (hi ▸ hea)
   ·have:=h2 (ddP l a) (ddP l a+i) y e (by omega) hx hi
    omega
theorem ddSet_ok {l:List DE} (h:qau l=true) {k:Nat} {e e':DE} (he:l[k]?=some e) (h1:e'.ea=e.ea) (h2:deOkB e'=true):qau (l.set k e')=true:=by
 simp only[qau,Bool.and_eq_true,decide_eq_true_eq,List.length_set]at h ⊢
 refine⟨h.1,?_⟩
 have hp:=ddtR_pw h.2
 obtain⟨g1,_⟩:=ddtR_up h.2
 refine ddtR_of (fun x hx=>?_) ?_
 ·rcases List.mem_or_eq_of_mem_set hx with hx | rfl
  ·exact g1 x hx
  ·exact⟨by rw[h1];exact(g1 e (List.mem_of_getElem? he)).1,h2⟩
 ·have hm:(l.set k e').map DE.ea=l.map DE.ea:=by
   rw[List.map_set,h1]
   apply List.ext_getElem?
   intro i
   rw[List.getElem?_set]
   split
   ·rename_i hki
    subst hki
    split
    ·simp[he]
    ·rename_i hlt
     exact absurd (by simpa using (List.getElem?_eq_some_iff.1 he).1) hlt
   ·rfl
  have e1:(l.map DE.ea).Pairwise (· < ·):=List.pairwise_map.2 hp
  rw[← hm]at e1
  exact List.pairwise_map.1 e1
theorem ddAdd_ok {l:List DE} (h:qau l=true) {s a:Int} (ho:(ddAddB l s a).2=true):qau (ddAddB l s a).1=true:=by
 have h':=h
 simp only[qau,Bool.and_eq_true,decide_eq_true_eq]at h'
 have hp:=ddtR_pw h'.2
 obtain⟨g1,_⟩:=ddtR_up h'.2
 unfold ddAddB at ho ⊢
 rw[if_neg (by simp[h])]at ho ⊢
 cases hen:deOkB ⟨s,a,1⟩with
 | false=>rw[if_pos hen]at ho;cases ho
 | true =>
  rw[if_neg (by simp[hen])]at ho ⊢
  cases hT:ddT l a with
  | true =>
   rw[if_pos hT]at ho
   rw[if_pos rfl]
   cases he:l[ddP l a]? with
   | none=>rw[he]at ho;cases ho
   | some e =>
    rw[he]at ho
    simp only at ho ⊢
    by_cases hq:e.es≠s∨e.ec=1000
    ·rw[if_pos hq]at ho;cases ho
    ·rw[if_neg hq]
     refine ddSet_ok h he rfl ?_
     have:=(g1 e (List.mem_of_getElem? he)).2
     simp only[deOkB,Bool.and_eq_true,decide_eq_true_eq]at this ⊢
     omega
  | false =>
   rw[if_neg (by simp[hT])]at ho
   rw[if_neg (by simp)]
   by_cases hl:l.length=48
   ·rw[if_pos hl]at ho;cases ho
   ·rw[if_neg hl]
    have hs:=ddt_split h a
    have hne:=ddT_mem h hT
    have hsp:=List.take_append_drop (ddP l a) l
    have hp2:(l.take (ddP l a)++l.drop (ddP l a)).Pairwise (fun a b=>a.ea<b.ea):=by rw[hsp];exact hp
    rw[List.pairwise_append]at hp2
    have hk:=ddP_le l a
    simp only[qau,Bool.and_eq_true,decide_eq_true_eq]
    refine⟨by simp;omega,ddtR_of (fun x hx=>?_) ?_⟩
    ·rcases List.mem_append.1 hx with hx | hx
     ·exact g1 x (List.mem_of_mem_take hx)
     ·rcases List.mem_cons.1 hx with rfl | hx
      ·simp only[deOkB,Bool.and_eq_true,decide_eq_true_eq]at hen
       exact⟨by simp only;omega,by simp[deOkB];omega⟩
      ·exact g1 x (List.mem_of_mem_drop hx)
    ·rw[List.pairwise_append,List.pairwise_cons]
     refine⟨hp2.1,⟨fun y hy=>?_,hp2.2.1⟩,fun x hx y hy=>?_⟩
     ·have:=hs.2 y hy
      have:=hne y (List.mem_of_mem_drop hy)
      simp only;omega
     ·rcases List.mem_cons.1 hy with rfl | hy
      ·exact hs.1 x hx
      ·exact hp2.2.2 x hx y hy
theorem ddDrop_ok {l:List DE} (h:qau l=true) {a:Int} (ho:(ddDropB l a).2=true):qau (ddDropB l a).1=true:=by
 have h':=h
 simp only[qau,Bool.and_eq_true,decide_eq_true_eq]at h'
 have hp:=ddtR_pw h'.2
 obtain⟨g1,_⟩:=ddtR_up h'.2
 unfold ddDropB at ho ⊢
 rw[if_neg (by simp[h])]at ho ⊢
 cases hT:ddT l a with
 | false=>rw[if_pos hT]at ho;cases ho
 | true =>
  rw[if_neg (by simp[hT])]at ho
  rw[if_neg (by simp)]
  cases he:l[ddP l a]? with
  | none=>rw[he]at ho;cases ho
  | some e =>
   simp only
   by_cases hq:e.ec=1
   ·rw[if_pos hq]
    have hsub:(l.take (ddP l a)++l.drop (ddP l a+1)).Sublist l:=by
     conv=>rhs;rw[← List.take_append_drop (ddP l a) l]
     refine List.Sublist.append (List.Sublist.refl _) ?_
     rw[← List.drop_drop]
     exact List.drop_sublist _ _
    have hl:=hsub.length_le
    simp only[qau,Bool.and_eq_true,decide_eq_true_eq]
    exact⟨by omega,ddtR_of (fun x hx=>g1 x (hsub.subset hx)) (hp.sublist hsub)⟩
   ·rw[if_neg hq]
    refine ddSet_ok h he rfl ?_
    have:=(g1 e (List.mem_of_getElem? he)).2
    simp only[deOkB,Bool.and_eq_true,decide_eq_true_eq]at this ⊢
    omega
theorem refB_ok {l:List DE} (h:qau l=true) {more:Bool} {p:PT} (ho:(refB more l p).2=true):qau (refB more l p).1=true:=by
 unfold refB at ho ⊢
 split
 ·rename_i e;rw[if_pos e]at ho;exact ddAdd_ok h ho
 ·rename_i e;rw[if_neg e]at ho;exact ddDrop_ok h ho
theorem refsL_no (more:Bool):∀ (m:List PT) (l:List DE) (b:Bool),(refsL more m (l,b,false)).2.2=false
 | [],l,b=>rfl
 | p::q,l,b=>by
  simp only[refsL]
  split
  ·exact refsL_no more q l b
  ·simp only[Bool.false_and]
   exact refsL_no more q _ true
theorem refsL_ok (more:Bool):∀ (m:List PT) (l:List DE) (b:Bool),qau l=true→(refsL more m (l,b,true)).2.2=true→qau (refsL more m (l,b,true)).1=true
 | [],l,b,h,_=>h
 | p::q,l,b,h,ho=>by
  simp only[refsL]at ho ⊢
  split
  ·rename_i e;rw[if_pos e]at ho;exact refsL_ok more q l b h ho
  ·rename_i e
   rw[if_neg e]at ho
   simp only[Bool.true_and]at ho ⊢
   cases hq:(refB more l p).2 with
   | false=>rw[hq,refsL_no]at ho;cases ho
   | true =>
    rw[hq]at ho
    exact refsL_ok more q _ true (refB_ok h hq) ho
def kobL (c:CO) (i1 i2:Nat):List (Nat×Ob):=[(1000,⟨7,[[.int .i64 c.txg,.sl i1 0 c.sets.length,.sl i2 0 c.ddt.length,.sl 1003 0 c.parts.length,.bool c.dirty,.sl 1004 0 c.safe.length,.int .i64 c.logn]]⟩),(i1,kcs c.sets),(i2,deOb c.ddt),(1003,kpt c.parts),(1004,kin c.safe)]
def cntQ (xs:List Nat) (c:CO) (R:List DE×Bool×Bool) (r:AV) (L':List (Nat×Ob)):Prop:=∃ l b i2,i2∈xs∧r=.bool R.2.2∧L'=kobL ⟨c.txg,c.sets,l,c.parts,b,c.safe,c.logn⟩ 1001 i2∧(R.2.2=true→l=R.1∧b=R.2.1)
theorem iCountO (c:CO) (hd:qau c.ddt=true) (m:List PT) (hm:∀ p∈m,0≤p.pa∧p.pa≤1000) (hml:m.length≤1000) (more:Bool) :
  ACall prog 137 [.ptr 1000 0 0,.lst 3 (m.map PT.row),.bool more] (kobL c 1001 1002) (cntQ [902] c (refsL more m (c.ddt,c.dirty,true))):=by
 obtain⟨R,hR⟩:∃ R,refsL more m (c.ddt,c.dirty,true)=R:=⟨_,rfl⟩
 rw[hR]
 have key:ACall prog 137 [.ptr 1000 0 0,.lst 3 (m.map PT.row),.bool more] (kobL c 1001 1002) (cntQ [902,33,46] c R):=by
  refine acx func137 [(8,[zI 0,zI 1,zI 2,zI 3,zJ 4 [1000] [],zJ 5 [] [1000],zJ 6 [8] [1000],zJ 7 [] [1000,8],zJ 8 [8] [1000,8],zJ 9 [902] [],zI 10,zI 11,zI 12,zI 13,zI 14,zI 15,zI 16]),(9,[zI 0,zI 1,zI 2,zI 3,zJ 4 [1000] [],zJ 5 [] [1000],zJ 6 [8] [1000],zJ 7 [902] [],zI 8,zI 9,zI 10,zI 11,zI 12,zI 13,zI 14])] ntmps137 rfl rfl rfl ?_ (hL:=by simp[kobL])
  simp -implicitDefEqProofs [kobL]
  refine ev_lo (X:=Nat×List DE×Bool) [0,2,10,11,12] [(1000,1000),(1001,1001),(1002,902),(1003,1003),(1004,1004)] (fun x=>[(12,.int .i64 x.1)]) (fun x=>kobL ⟨c.txg,c.sets,x.2.1,c.parts,x.2.2,c.safe,c.logn⟩ 1001 902) (fun x=>m.length-x.1)
   (fun x=>x.1≤m.length∧qau x.2.1=true∧refsL more (m.drop x.1) (x.2.1,x.2.2,true)=R) (0,c.ddt,c.dirty) ⟨by simp,hd,by simpa using hR⟩ ?_ (he:=by simp[obOf,kobL])
  rintro⟨i,l,b⟩ ⟨hi,hok,hx⟩
  simp only at hi hok hx
  cases hr:m.drop i with
  | nil =>
   have:=dropn hr
   rw[hr]at hx
   have hie:i=m.length:=by omega
   subst hie
   simp only[refsL]at hx
   simp -implicitDefEqProofs [obOf,kobL]
   exact⟨kobL ⟨c.txg,c.sets,l,c.parts,b,c.safe,c.logn⟩ 1001 902,by simp[kobL],l,b,902,by simp,by rw[← hx],rfl,fun _=>by rw[← hx];exact⟨rfl,rfl⟩⟩
  | cons p q =>
   obtain⟨k1,e0,e1,k3⟩:=dropc hr
   rw[hr]at hx
   have hpm:=hm p (List.mem_of_getElem? e1)
   have e2:=i64w ((i:Int)+1) (by omega) (by omega)
   have hli:(i:Int)<m.length:=by omega
   by_cases h0:p.pa=0
   ·rw[refsL,if_pos h0]at hx
    simp -implicitDefEqProofs [obOf,kobL,k1,e0,e1,hli,PT.row,h0]
    exact nx (i+1,l,b) [(1000,1000),(1001,1001),(902,902),(1003,1003),(1004,1004)] ⟨by simp only;omega,hok,by simp only[k3];exact hx⟩ (by simp only;omega) (h4:=by simp[obOf,e2,kobL])
   ·rw[refsL,if_neg h0]at hx
    simp only[Bool.true_and]at hx
    have hrok:=@refB_ok l hok more p
    cases more with
    | true =>
     have c1:=iAddO l hok p.ps p.pa
     simp only[refB,if_true]at hx hrok
     generalize ddAddB l p.ps p.pa=W at *
     obtain⟨l',o⟩:=W
     simp only at hx hrok
     simp -implicitDefEqProofs [obOf,kobL,k1,e0,e1,hli,PT.row,h0]
     refine qay [] (by kernel_rfl) c1 (by simp[vwOk,mtA,deOb,qap,DE.row]) (by simp) trivial (by simp) (by simp) ?_
     rintro r L' ⟨rfl,rfl⟩
     refine⟨by simp,by simp[deOb,DE.row],[(900,33)],⟨by simp,by simp,by simp,by simp,by simp⟩,?_⟩
     simp only[qae]
     simp -implicitDefEqProofs
     cases o with
     | false =>
      have hno:=refsL_no true q l' true
      rw[hx]at hno
      simp -implicitDefEqProofs
      exact⟨kobL ⟨c.txg,c.sets,l',c.parts,true,c.safe,c.logn⟩ 1001 33,by simp[kobL],l',true,33,by simp,by rw[hno],rfl,fun e=>by rw[hno]at e;cases e⟩
     | true =>
      simp -implicitDefEqProofs
      exact nx (i+1,l',true) [(1000,1000),(1001,1001),(33,902),(1003,1003),(1004,1004)] ⟨by simp only;omega,hrok rfl,by simp only[k3];exact hx⟩ (by simp only;omega) (h4:=by simp[obOf,e2,kobL])
    | false =>
     have c1:=iDropO l hok p.pa hpm
     simp only[refB,Bool.false_eq_true,if_false]at hx hrok
     generalize ddDropB l p.pa=W at *
     obtain⟨l',o⟩:=W
     simp only at hx hrok
     simp -implicitDefEqProofs [obOf,kobL,k1,e0,e1,hli,PT.row,h0]
     refine qay [] (by kernel_rfl) c1 (by simp[vwOk,mtA,deOb,qap,DE.row]) (by simp) trivial (by simp) (by simp) ?_
     rintro r L' ⟨rfl,rfl⟩
     refine⟨by simp,by simp[deOb,DE.row],[(900,46)],⟨by simp,by simp,by simp,by simp,by simp⟩,?_⟩
     simp only[qae]
     simp -implicitDefEqProofs
     cases o with
     | false =>
      have hno:=refsL_no false q l' true
      rw[hx]at hno
      simp -implicitDefEqProofs
      exact⟨kobL ⟨c.txg,c.sets,l',c.parts,true,c.safe,c.logn⟩ 1001 46,by simp[kobL],l',true,46,by simp,by rw[hno],rfl,fun e=>by rw[hno]at e;cases e⟩
     | true =>
      simp -implicitDefEqProofs
      exact nx (i+1,l',true) [(1000,1000),(1001,1001),(46,902),(1003,1003),(1004,1004)] ⟨by simp only;omega,hrok rfl,by simp only[k3];exact hx⟩ (by simp only;omega) (h4:=by simp[obOf,e2,kobL])
 refine key.can ?_
 rintro r L' ⟨l,b,i2,h2,rfl,rfl,hq⟩
 refine⟨[(1000,1000),(1001,1001),(i2,902),(1003,1003),(1004,1004)],?_,?_,?_,?_,l,b,902,by simp,by simp,?_,hq⟩
 all_goals
  simp only[List.mem_cons,List.not_mem_nil,or_false]at h2
  rcases h2 with rfl | rfl | rfl
 all_goals simp[kobL,obOf]
theorem iSet1C (s:CS) (h8:s.map.length=8) (n:List UInt8):CV prog 247 [.agg s.row,.str n] (.int .i64 (Lib.compareBytes s.name n)):=by
 have c1:=cv_of (compareC s.name n)
 have hs0:s.row[0]?=some (.str s.name):=rfl
 refine cvx func247 [] ntmps247 rfl rfl rfl ?_ (hca:=by simp[cs_cl])
 simp -implicitDefEqProofs [qas s h8,hs0]
 refine c1.call ?_
 simp -implicitDefEqProofs
theorem nm_bsK (l:List CS) (n:List UInt8):bsK (fun s:CS=>Lib.compareBytes s.name n) l=nmP l n:=by
 unfold bsK nmP
 congr 2
 funext s
 exact cmp_neg s.name n
theorem srt_upC {l:List CS} (h:Srt (l.map csB)) (n:List UInt8):UpC (fun s:CS=>Lib.compareBytes s.name n) l:=by
 intro i j a b hij ha hb hc
 have h1:=h i j (csB a) (csB b) hij (by simp[ha]) (by simp[hb])
 have h2:Op.bytesLess b.name n=true:=by rw[← cmp_neg];simpa using hc
 have h3:=bl_trans (a:=a.name) (b:=b.name) (c:=n) h1 h2
 rw[← cmp_neg]at h3
 simpa using h3
theorem iBsSetC (l:List CS) (h8:∀ s∈l,s.map.length=8) (hl:l.length≤1048576) (hS:Srt (l.map csB)) (n:List UInt8) :
  CV prog 246 [.lst 31 (l.map CS.row),.str n,.fn 247 []] (.tup [.int .i64 (nmP l n:Nat),.bool (bsT (fun s:CS=>Lib.compareBytes s.name n) l)]):=by
 rw[← nm_bsK]
 refine cvx func246 [] ntmps246 rfl rfl rfl ?_
 exact bs_ev rowCS tt308 (fun s:CS=>Lib.compareBytes s.name n) l (by omega) (fun x hx=>qas x (h8 x hx)) (srt_upC hS n) (by simp) fun x hx=>iSet1C x (h8 x hx) n
theorem iSetO (c:CO) (h8:∀ s∈c.sets,s.map.length=8) (hl:c.sets.length≤1048576) (hS:Srt (c.sets.map csB)) (n:List UInt8) :
  ACall prog 134 [.ptr 1000 0 0,.str n] (kobL c 1001 1002) (fun r L'=>r=.int .i64 (nmP c.sets n:Nat)∧L'=kobL c 1001 1002):=by
 have c1:=iBsSetC c.sets h8 hl hS n
 refine acx func134 [] ntmps134 rfl rfl rfl ?_ (hL:=by simp[kobL])
 simp -implicitDefEqProofs [kobL]
 refine c1.view (by simp[vwOk,mtA,kcs,qap,cs_cl]) ?_
 simp -implicitDefEqProofs
theorem cs_all1 (l:List CS):((l.map CS.row).all fun r=>r.all oneA)=true:=by
 rw[List.all_eq_true]
 intro r hr
 obtain⟨s,_,rfl⟩:=List.mem_map.1 hr
 rw[List.all_eq_true];exact cs_ones s
theorem iInsO (l:List CS) (x:CS) (k:Nat) (hk:k≤l.length) (hl:l.length≤1048576) (h8:∀ s∈l,s.map.length=8) (hx:x.map.length=8) :
  ACall prog 135 [.sl 1000 0 l.length,.int .i64 k,.sl 1001 0 1] [(1000,kcs l),(1001,⟨31,[x.row]⟩)] (fun r L'=>r=.sl 900 0 (l.length+1)∧L'=[(900,kcs (l.take k++x::l.drop k))]):=by
 have ci:=insertCs (l.map CS.row) x.row k (by simpa using hk) (by simp;omega) (qas _ hx) (fun r hr=>by
  obtain⟨s,hs,rfl⟩:=List.mem_map.1 hr
  exact qas s (h8 s hs)) (by rw[List.all_eq_true];exact cs_ones _) (cs_all1 l) (cs_cl _) (qak l)
 simp only[List.length_map]at ci
 refine ACall.can ci ?_
 rintro r L' ⟨id,hid,rfl,rfl⟩
 have hrow:(⟨31,insR (l.map CS.row) x.row k⟩:Ob)=kcs (l.take k++x::l.drop k):=by simp[insR,kcs]
 rw[hrow]
 refine⟨[(id,900)],by simp,by simp,?_,?_,?_,?_⟩
 all_goals simp[obOf]
theorem iDelCO (l:List CS) (k:Nat) (hk:k<l.length) (hl:l.length≤1048576) (h8:∀ s∈l,s.map.length=8) :
  ACall prog 136 [.sl 1000 0 l.length,.int .i64 k,.int .i64 (k+1:Nat)] [(1000,kcs l)] (fun r L'=>r=.sl 900 0 (l.length-1)∧L'=[(900,kcs (l.take k++l.drop (k+1)))]):=by
 have ci:=deleteCs (l.map CS.row) k (k+1) (by omega) (by simp;omega) (by simp;omega) (fun r hr=>by
  obtain⟨s,hs,rfl⟩:=List.mem_map.1 hr
  exact qas s (h8 s hs)) (cs_all1 l)
 simp only[List.length_map]at ci
 refine ACall.can ci ?_
 rintro r L' ⟨rfl,rfl⟩
 have hrow:(⟨31,(l.map CS.row).take k++(l.map CS.row).drop (k+1)⟩:Ob)=kcs (l.take k++l.drop (k+1)):=by simp[kcs]
 rw[hrow,show k+(l.length-(k+1))=l.length-1 by omega]
 refine⟨[(1000,900)],by simp,by simp,?_,?_,?_,?_⟩
 all_goals simp[obOf]
theorem chunks_pts {l:List PT} (h:l.length=8):chunks 3 8 (l.flatMap PT.row)=l.map PT.row:=by
 apply List.ext_getElem?
 intro i
 simp only[chunks,List.getElem?_map]
 by_cases hi:i<8
 ·obtain⟨p,hp⟩:∃ p,l[i]?=some p:=⟨_,List.getElem?_eq_getElem (by omega)⟩
  rw[List.getElem?_range hi,hp]
  simp only[Option.map_some,Option.some.injEq]
  exact flat_at hp
 ·rw[List.getElem?_eq_none (by simp;omega),List.getElem?_eq_none (by omega)]
  rfl
theorem pts_27 {m:List PT} (h:m.length=8) (a b c x:AV):List.take 27 (m.flatMap PT.row++[a,b,c,x])=m.flatMap PT.row++[a,b,c]∧List.drop 28 (m.flatMap PT.row++[a,b,c,x])=[]:=by
 have hl:(m.flatMap PT.row).length=24:=by rw[List.length_flatMap];exact sum3 h
 constructor
 ·rw[List.take_append,hl,List.take_of_length_le (by omega)]
  rfl
 ·exact List.drop_of_length_le (by simp[hl])
def chQ (xs ys:List Nat) (R:CO×Bool) (r:AV) (L':List (Nat×Ob)):Prop:=∃ c' i1 i2,i1∈xs∧i2∈ys∧r=.bool R.2∧L'=kobL c' i1 i2∧(R.2=true→c'=R.1)
theorem iChangeO (c:CO) (hm:CoM c) (h8:∀ s∈c.sets,s.map.length=8) (hS:Srt (c.sets.map csB)) (hd:qau c.ddt=true) (hp:∀ s∈c.sets,∀ p∈s.map,0≤p.pa∧p.pa≤1000) (op:BO) (hk:op.kind=1∨op.kind=2∨op.kind=4∨op.kind=5∨op.kind=6)
  (ha:op.kind≠1→nmP c.sets op.a<c.sets.length) (hb:op.kind=6→nmP c.sets op.b<c.sets.length) :
  ACall prog 60 [.ptr 1000 0 0,.agg op.row] (kobL c 1001 1002) (chQ [901] [902] (setsD c op)):=by
 have h1:=hm.sets
 have cs:=iSetO c h8 (by omega) hS op.a
 obtain⟨R,hR⟩:∃ R,setsD c op=R:=⟨_,rfl⟩
 rw[hR]
 unfold setsD at hR
 have key:ACall prog 60 [.ptr 1000 0 0,.agg op.row] (kobL c 1001 1002) (chQ [1001,29,87,50] [1002,55,93,132,136] R):=by
  refine acx func60 [(4,[zI 0,zI 1,zI 2,zI 3,zJ 4 [1000] [],zJ 5 [] [1000],zJ 6 [] [1000],zJ 7 [3] [1000],zJ 8 [] [1000],zJ 9 [] [1000],zJ 10 [28,1001] [],zI 11,zI 12,zI 13]),(14,[zI 0,zJ 1 [3] [],zJ 2 [] [3],zJ 3 [] [3],zJ 4 [3] [3],zJ 5 [] [3],zJ 6 [] [3],zJ 7 [] [3],zJ 8 [1000] [3],zJ 9 [] [3,1000],zJ 10 [1001] [3],zJ 11 [] [3],zJ 12 [1001] [3],zI 13,zJ 14 [] [3,1000,1001],zI 15]),(15,[zI 0,zI 1,zI 2,zI 3,zJ 4 [1000] [],zJ 5 [] [1000],zJ 6 [] [1000],zJ 7 [3] [1000],zJ 9 [8] [1000,3],⟨8,[1000,1001,1002,1003,1004],[1000,8],[10],[]⟩,zJ 10 [] [1000,3],zJ 11 [86,1001] [],zI 12,zI 13,zI 14]),(18,[zI 0,zI 1,zI 2,zJ 3 [1000] [],zJ 4 [] [1000],zJ 5 [] [1000],zJ 6 [3] [1000],zJ 11 [] [1000,3],zJ 12 [] [1000,3],zJ 13 [] [1000,3],zJ 14 [1000] [1000,3],zJ 15 [] [1000,3],zJ 16 [1001] [1000,3],zJ 17 [] [1000,3],zJ 18 [1001] [1000,3],⟨7,[1000,1001,1002,1003,1004],[1000,1001],[19,20],[]⟩,zJ 8 [1001] [1000,1001],zJ 9 [] [1000,1001],zJ 10 [1001] [1000,1001],zJ 19 [] [1000,3,1001],zJ 20 [] [1000,3,1001],zI 21,zI 22]),(19,[zI 0,zI 1,zI 2,zJ 3 [1000] [],zJ 4 [] [1000],zJ 5 [] [1000],zJ 6 [] [1000],zJ 7 [] [1000],zJ 8 [1000] [1000],zJ 9 [] [1000],zJ 10 [9] [1000],zJ 11 [1001] [],zI 12,zI 13,zJ 14 [1001] [],zI 15,zI 16])] ntmps60 rfl rfl rfl ?_ (hL:=by simp[kobL])
  simp -implicitDefEqProofs [kobL,BO.row]
  refine qab [(1000,.whole 1000),(1001,.whole 1001),(1002,.whole 1002),(1003,.whole 1003),(1004,.whole 1004)] (by kernel_rfl) cs (by simp) (by simp) (by simp[kobL];exact⟨.inr ⟨_,_,rfl,rfl,by simp⟩,qaa rfl (qak _),qaa rfl (qbh _),qaa rfl (qbd _),qaa rfl (qan _)⟩) (by simp[kobL]) (by simp) ?_
  rintro r L' ⟨rfl,rfl⟩
  refine⟨[],⟨by simp[kobL],by simp,by simp,by simp[kobL],by simp⟩,?_⟩
  simp only[qae]
  simp -implicitDefEqProofs [kobL]
  by_cases q1:op.kind=1
  ·rw[if_pos q1]at hR
   have hz:refsL true (List.replicate 8 zPT) (c.ddt,c.dirty,true)=(c.ddt,c.dirty,true):=rfl
   simp only[newB',zSet,hz]at hR
   subst hR
   have hk:=nmP_le c.sets op.a
   have ci:=iInsO c.sets ⟨op.a,1,[],List.replicate 8 zPT,zPT,true⟩ (nmP c.sets op.a) hk (by omega) h8 (by simp)
   have hlen:(c.sets.take (nmP c.sets op.a)++⟨op.a,1,[],List.replicate 8 zPT,zPT,true⟩::c.sets.drop (nmP c.sets op.a)).length=c.sets.length+1:=by simp;omega
   obtain⟨new,hnew⟩:∃ new,c.sets.take (nmP c.sets op.a)++⟨op.a,1,[],List.replicate 8 zPT,zPT,true⟩::c.sets.drop (nmP c.sets op.a)=new:=⟨_,rfl⟩
   rw[hnew]at ci hlen
   simp -implicitDefEqProofs [q1]
   refine qab [(1000,.whole 1001),(1001,.whole 28)] (by kernel_rfl) ci (by simp) (by simp) (by simp;exact⟨qaa rfl (qak _),.inr ⟨_,_,rfl,rfl,by simp[CS.row,zPT,PT.row]⟩⟩) (by simp) (by simp) ?_
   rintro r L' ⟨rfl,rfl⟩
   refine⟨[(900,29)],⟨by simp,by simp,by simp,by simp,by simp⟩,?_⟩
   simp only[qae]
   simp -implicitDefEqProofs
   exact⟨kobL ⟨c.txg,new,c.ddt,c.parts,c.dirty,c.safe,c.logn⟩ 29 1002,by simp[kobL,hlen],_,29,1002,by simp,by simp,rfl,rfl,fun _=>by rw[← hnew];rfl⟩
  ·rw[if_neg q1]at hR
   obtain⟨s,e1⟩:∃ s,c.sets[nmP c.sets op.a]?=some s:=⟨_,List.getElem?_eq_getElem (ha q1)⟩
   have e0:=(List.getElem?_eq_some_iff.1 e1).2
   have hkl:=ha q1
   have hs8:=h8 s (List.mem_of_getElem? e1)
   have hps:=hp s (List.mem_of_getElem? e1)
   rw[e1]at hR
   simp only at hR
   have hmp:=cs_map24 s hs8
   have hk':op.kind=2∨op.kind=4∨op.kind=5∨op.kind=6:=hk.resolve_left q1
   rcases hk' with q | q | q | q
   ·rw[if_pos q]at hR
    generalize nmP c.sets op.a=k at *
    have e3:=i64w ((k:Int)+1) (by omega) (by omega)
    have cdl:=iDelCO c.sets k hkl (by omega) h8
    obtain⟨new,hnew⟩:∃ new,c.sets.take k++c.sets.drop (k+1)=new:=⟨_,rfl⟩
    have hlen:c.sets.length-1=new.length:=by rw[← hnew];simp;omega
    simp only[hnew]at cdl hR
    rw[hlen]at cdl
    rw[show((k+1:Nat):Int)=(k:Int)+1 by omega]at cdl
    have cc:=iCountO ⟨c.txg,new,c.ddt,c.parts,c.dirty,c.safe,c.logn⟩ hd s.map hps (by omega) false
    simp only at cc
    generalize refsL false s.map (c.ddt,c.dirty,true)=Y at *
    obtain⟨yl,yd,yo⟩:=Y
    simp only at hR
    subst hR
    simp -implicitDefEqProofs [kcs,hkl,e0,e1,qas s hs8,qbt s hs8,q,hmp,e3]
    refine⟨fun x p _ hx=>by rcases hx with rfl | rfl | rfl <;> rfl,?_⟩
    refine qab [(1000,.whole 1001)] (by kernel_rfl) cdl (by simp) (by simp) (by simp;exact⟨rfl,qaa rfl (qak _)⟩) (by simp) (by simp) ?_
    rintro r L' ⟨rfl,rfl⟩
    refine⟨[(900,50)],⟨by simp,by simp,by simp,by simp,by simp⟩,?_⟩
    simp only[qae]
    simp -implicitDefEqProofs
    have hch:chunks 3 8 (s.map.flatMap PT.row)=s.map.map PT.row:=chunks_pts hs8
    refine qay [(1000,.whole 1000),(1001,.whole 50),(1002,.whole 1002),(1003,.whole 1003),(1004,.whole 1004)] (by kernel_rfl) cc (by simp[mtA,hch,sum3 hs8]) (by simp) (by simp[kobL];exact⟨.inr ⟨_,_,rfl,rfl,by simp⟩,qaa rfl (qak _),qaa rfl (qbh _),qaa rfl (qbd _),qaa rfl (qan _)⟩) (by simp[kobL]) (by simp) ?_
    rintro r L' ⟨l,b,i2,h2,rfl,rfl,hq⟩
    simp only[List.mem_cons,List.not_mem_nil,or_false]at h2
    subst h2
    refine⟨by simp,by simp[kobL,kcs,deOb,kpt,kin,qad,DE.row,PT.row,noL_cs,noL],[(902,55)],⟨by simp[kobL],by simp,by simp,by simp[kobL],by simp⟩,?_⟩
    simp only[qae]
    simp -implicitDefEqProofs [kobL]
    exact⟨kobL ⟨c.txg,new,l,c.parts,b,c.safe,c.logn⟩ 50 55,by simp[kobL],_,50,55,by simp,by simp,rfl,rfl,fun e=>by
     obtain⟨h1,h2⟩:=hq e
     rw[h1,h2]⟩
   ·rw[if_neg (by omega),if_pos q]at hR
    have cs2:=iSetO c h8 (by omega) hS op.b
    have hk2:=nmP_le c.sets op.b
    have ci:=iInsO c.sets ⟨op.b,2,op.a,s.map,zPT,true⟩ (nmP c.sets op.b) hk2 (by omega) h8 hs8
    have hlen:(c.sets.take (nmP c.sets op.b)++⟨op.b,2,op.a,s.map,zPT,true⟩::c.sets.drop (nmP c.sets op.b)).length=c.sets.length+1:=by simp;omega
    obtain⟨new,hnew⟩:∃ new,c.sets.take (nmP c.sets op.b)++⟨op.b,2,op.a,s.map,zPT,true⟩::c.sets.drop (nmP c.sets op.b)=new:=⟨_,rfl⟩
    rw[hnew]at ci hlen
    simp only[newB',zSet,hnew]at hR
    have cc:=iCountO ⟨c.txg,new,c.ddt,c.parts,c.dirty,c.safe,c.logn⟩ hd s.map hps (by omega) true
    simp only at cc
    generalize refsL true s.map (c.ddt,c.dirty,true)=Y at *
    obtain⟨yl,yd,yo⟩:=Y
    simp only at hR
    subst hR
    generalize nmP c.sets op.a=k at *
    have hcb:=cs2
    have hrow:CS.row ⟨op.b,2,op.a,s.map,zPT,true⟩=.str op.b::.int .i64 2::.str op.a::(s.map.flatMap PT.row++[.int .i64 0,.int .i64 0,.int .i64 0,.bool true]):=by simp[CS.row,zPT,PT.row]
    have h27:=pts_27 hs8 (.int .i64 0) (.int .i64 0) (.int .i64 0) (.bool false)
    simp -implicitDefEqProofs [kcs,hkl,e0,e1,qas s hs8,qbt s hs8,q,hmp,sum3 hs8,h27]
    refine⟨fun a ha=>by rcases ha with(⟨p,_,rfl | rfl | rfl⟩ | rfl) | rfl <;> rfl,?_⟩
    refine qab [(1000,.whole 1000),(1001,.whole 1001),(1002,.whole 1002),(1003,.whole 1003),(1004,.whole 1004)] (by kernel_rfl) cs2 (by simp) (by simp) (by simp[kobL];exact⟨.inr ⟨_,_,rfl,rfl,by simp⟩,⟨rfl,qaa rfl (qak _)⟩,qaa rfl (qbh _),qaa rfl (qbd _),qaa rfl (qan _)⟩) (by simp[kobL]) (by simp) ?_
    rintro r L' ⟨rfl,rfl⟩
    refine⟨[],⟨by simp[kobL],by simp,by simp,by simp[kobL],by simp⟩,?_⟩
    simp only[qae]
    have h28:List.take 28 (s.map.flatMap PT.row++[AV.int .i64 0,.int .i64 0,.int .i64 0,.bool true])=s.map.flatMap PT.row++[AV.int .i64 0,.int .i64 0,.int .i64 0,.bool true]:=by
     have hl:(s.map.flatMap PT.row).length=24:=by rw[List.length_flatMap];exact sum3 hs8
     exact List.take_of_length_le (by simp[hl])
    rw[hrow]at ci
    simp -implicitDefEqProofs [kobL,h28,sum3 hs8]
    refine qab [(1000,.whole 1001),(1001,.whole 86)] (by kernel_rfl) ci (by simp) (by simp) (by simp;exact⟨qaa rfl (qak _),qaa rfl (by rw[← hrow];simpa [clR]using cs_cl _)⟩) (by simp) (by simp) ?_
    rintro r L' ⟨rfl,rfl⟩
    refine⟨[(900,87)],⟨by simp,by simp,by simp,by simp,by simp⟩,?_⟩
    simp only[qae]
    simp -implicitDefEqProofs [sum3 hs8]
    have hch:chunks 3 8 (s.map.flatMap PT.row++[AV.int .i64 0,.int .i64 0,.int .i64 0,.bool true])=s.map.map PT.row:=by
     rw[← chunks_pts hs8]
     have hl:(s.map.flatMap PT.row).length=24:=by rw[List.length_flatMap];exact sum3 hs8
     unfold chunks
     refine List.map_congr_left fun i hi=>?_
     have hi:=List.mem_range.1 hi
     rw[List.drop_append_of_le_length (by omega),List.take_append_of_le_length (by simp only[List.length_drop];omega)]
    refine qay [(1000,.whole 1000),(1001,.whole 87),(1002,.whole 1002),(1003,.whole 1003),(1004,.whole 1004)] (by kernel_rfl) cc (by simp[mtA,hch,sum3 hs8]) (by simp) (by simp[kobL,hlen];exact⟨.inr ⟨_,_,rfl,rfl,by simp⟩,qaa rfl (qak _),qaa rfl (qbh _),qaa rfl (qbd _),qaa rfl (qan _)⟩) (by simp[kobL]) (by simp) ?_
    rintro r L' ⟨l,b,i2,h2,rfl,rfl,hq⟩
    simp only[List.mem_cons,List.not_mem_nil,or_false]at h2
    subst h2
    refine⟨by simp,by simp[kobL,kcs,deOb,kpt,kin,qad,DE.row,PT.row,noL_cs,noL],[(902,93)],⟨by simp[kobL],by simp,by simp,by simp[kobL],by simp⟩,?_⟩
    simp only[qae]
    simp -implicitDefEqProofs [kobL]
    exact⟨kobL ⟨c.txg,new,l,c.parts,b,c.safe,c.logn⟩ 87 93,by simp[kobL],_,87,93,by simp,by simp,rfl,rfl,fun e=>by
     obtain⟨h1,h2⟩:=hq e
     rw[h1,h2]⟩
   ·rw[if_neg (by omega),if_neg (by omega),if_pos q]at hR
    have cs2:=iSetO c h8 (by omega) hS op.b
    have hk2:=nmP_le c.sets op.b
    have ci:=iInsO c.sets ⟨op.b,1,op.a,s.map,zPT,true⟩ (nmP c.sets op.b) hk2 (by omega) h8 hs8
    have hlen:(c.sets.take (nmP c.sets op.b)++⟨op.b,1,op.a,s.map,zPT,true⟩::c.sets.drop (nmP c.sets op.b)).length=c.sets.length+1:=by simp;omega
    obtain⟨new,hnew⟩:∃ new,c.sets.take (nmP c.sets op.b)++⟨op.b,1,op.a,s.map,zPT,true⟩::c.sets.drop (nmP c.sets op.b)=new:=⟨_,rfl⟩
    rw[hnew]at ci hlen
    simp only[newB',zSet,hnew]at hR
    have cc:=iCountO ⟨c.txg,new,c.ddt,c.parts,c.dirty,c.safe,c.logn⟩ hd s.map hps (by omega) true
    simp only at cc
    generalize refsL true s.map (c.ddt,c.dirty,true)=Y at *
    obtain⟨yl,yd,yo⟩:=Y
    simp only at hR
    subst hR
    generalize nmP c.sets op.a=k at *
    have hcb:=cs2
    have hrow:CS.row ⟨op.b,1,op.a,s.map,zPT,true⟩=.str op.b::.int .i64 1::.str op.a::(s.map.flatMap PT.row++[.int .i64 0,.int .i64 0,.int .i64 0,.bool true]):=by simp[CS.row,zPT,PT.row]
    have h27:=pts_27 hs8 (.int .i64 0) (.int .i64 0) (.int .i64 0) (.bool false)
    simp -implicitDefEqProofs [kcs,hkl,e0,e1,qas s hs8,qbt s hs8,q,hmp,sum3 hs8,h27]
    refine⟨fun a ha=>by rcases ha with(⟨p,_,rfl | rfl | rfl⟩ | rfl) | rfl <;> rfl,?_⟩
    refine qab [(1000,.whole 1000),(1001,.whole 1001),(1002,.whole 1002),(1003,.whole 1003),(1004,.whole 1004)] (by kernel_rfl) cs2 (by simp) (by simp) (by simp[kobL];exact⟨.inr ⟨_,_,rfl,rfl,by simp⟩,⟨rfl,qaa rfl (qak _)⟩,qaa rfl (qbh _),qaa rfl (qbd _),qaa rfl (qan _)⟩) (by simp[kobL]) (by simp) ?_
    rintro r L' ⟨rfl,rfl⟩
    refine⟨[],⟨by simp[kobL],by simp,by simp,by simp[kobL],by simp⟩,?_⟩
    simp only[qae]
    have h28:List.take 28 (s.map.flatMap PT.row++[AV.int .i64 0,.int .i64 0,.int .i64 0,.bool true])=s.map.flatMap PT.row++[AV.int .i64 0,.int .i64 0,.int .i64 0,.bool true]:=by
     have hl:(s.map.flatMap PT.row).length=24:=by rw[List.length_flatMap];exact sum3 hs8
     exact List.take_of_length_le (by simp[hl])
    rw[hrow]at ci
    simp -implicitDefEqProofs [kobL,h28,sum3 hs8]
    refine qab [(1000,.whole 1001),(1001,.whole 86)] (by kernel_rfl) ci (by simp) (by simp) (by simp;exact⟨qaa rfl (qak _),qaa rfl (by rw[← hrow];simpa [clR]using cs_cl _)⟩) (by simp) (by simp) ?_
    rintro r L' ⟨rfl,rfl⟩
    refine⟨[(900,87)],⟨by simp,by simp,by simp,by simp,by simp⟩,?_⟩
    simp only[qae]
    simp -implicitDefEqProofs [sum3 hs8]
    have hch:chunks 3 8 (s.map.flatMap PT.row++[AV.int .i64 0,.int .i64 0,.int .i64 0,.bool true])=s.map.map PT.row:=by
     rw[← chunks_pts hs8]
     have hl:(s.map.flatMap PT.row).length=24:=by rw[List.length_flatMap];exact sum3 hs8
     unfold chunks
     refine List.map_congr_left fun i hi=>?_
     have hi:=List.mem_range.1 hi
     rw[List.drop_append_of_le_length (by omega),List.take_append_of_le_length (by simp only[List.length_drop];omega)]
    refine qay [(1000,.whole 1000),(1001,.whole 87),(1002,.whole 1002),(1003,.whole 1003),(1004,.whole 1004)] (by kernel_rfl) cc (by simp[mtA,hch,sum3 hs8]) (by simp) (by simp[kobL,hlen];exact⟨.inr ⟨_,_,rfl,rfl,by simp⟩,qaa rfl (qak _),qaa rfl (qbh _),qaa rfl (qbd _),qaa rfl (qan _)⟩) (by simp[kobL]) (by simp) ?_
    rintro r L' ⟨l,b,i2,h2,rfl,rfl,hq⟩
    simp only[List.mem_cons,List.not_mem_nil,or_false]at h2
    subst h2
    refine⟨by simp,by simp[kobL,kcs,deOb,kpt,kin,qad,DE.row,PT.row,noL_cs,noL],[(902,93)],⟨by simp[kobL],by simp,by simp,by simp[kobL],by simp⟩,?_⟩
    simp only[qae]
    simp -implicitDefEqProofs [kobL]
    exact⟨kobL ⟨c.txg,new,l,c.parts,b,c.safe,c.logn⟩ 87 93,by simp[kobL],_,87,93,by simp,by simp,rfl,rfl,fun e=>by
     obtain⟨h1,h2⟩:=hq e
     rw[h1,h2]⟩
   ·rw[if_neg (by omega),if_neg (by omega),if_neg (by omega)]at hR
    have q2:=hb q
    obtain⟨t,e2⟩:∃ t,c.sets[nmP c.sets op.b]?=some t:=⟨_,List.getElem?_eq_getElem q2⟩
    have e3:=(List.getElem?_eq_some_iff.1 e2).2
    have ht8:=h8 t (List.mem_of_getElem? e2)
    have hpt:=hp t (List.mem_of_getElem? e2)
    rw[e2]at hR
    simp only at hR
    have hmq:=cs_map24 t ht8
    have cs2:=iSetO c h8 (by omega) hS op.b
    obtain⟨new,hnew⟩:∃ new,c.sets.set (nmP c.sets op.a) ⟨s.name,s.kind,s.frm,t.map,s.home,true⟩=new:=⟨_,rfl⟩
    have hlen:new.length=c.sets.length:=by rw[← hnew];simp
    rw[hnew]at hR
    have cc:=iCountO ⟨c.txg,new,c.ddt,c.parts,c.dirty,c.safe,c.logn⟩ hd t.map hpt (by omega) true
    have hyok:=refsL_ok true t.map c.ddt c.dirty hd
    simp only at cc
    generalize refsL true t.map (c.ddt,c.dirty,true)=Y at *
    obtain⟨yl,yd,yo⟩:=Y
    simp only at hR hyok
    have cc2:=fun hyl=>iCountO ⟨c.txg,new,yl,c.parts,yd,c.safe,c.logn⟩ hyl s.map hps (by omega) false
    simp only at cc2
    generalize refsL false s.map (yl,yd,true)=Z at *
    obtain⟨zl,zd,zo⟩:=Z
    simp only at hR
    subst hR
    generalize nmP c.sets op.a=k at *
    generalize nmP c.sets op.b=j at *
    have hrow:=cs_map_row s hs8 t.map
    have hr2:=cs_dirt ⟨s.name,s.kind,s.frm,t.map,s.home,s.dirty⟩ ht8
    simp -implicitDefEqProofs [kcs,hkl,e0,e1,qas s hs8,qbt s hs8,q,hmp,sum3 hs8]
    refine qab [(1000,.whole 1000),(1001,.whole 1001),(1002,.whole 1002),(1003,.whole 1003),(1004,.whole 1004)] (by kernel_rfl) cs2 (by simp) (by simp) (by simp[kobL];exact⟨.inr ⟨_,_,rfl,rfl,by simp⟩,⟨rfl,qaa rfl (qak _)⟩,qaa rfl (qbh _),qaa rfl (qbd _),qaa rfl (qan _)⟩) (by simp[kobL]) (by simp) ?_
    rintro r L' ⟨rfl,rfl⟩
    refine⟨[],⟨by simp[kobL],by simp,by simp,by simp[kobL],by simp⟩,?_⟩
    simp only[qae]
    simp -implicitDefEqProofs [kobL,kcs,hkl,q2,e0,e1,e2,e3,qas s hs8,qas t ht8,qbt s hs8,qbt t ht8,hmp,hmq,sum3 hs8,sum3 ht8]
    have hones:∀ (m:List PT) (x:AV) (p:PT),p∈m→x=.int .i64 p.pa∨x=.int .i64 p.ps∨x=.int .i64 p.pb→oneA x=true:=fun m x p _ hx=>by
     rcases hx with rfl | rfl | rfl <;> rfl
    have hlt:(t.map.flatMap PT.row).length=24:=by rw[List.length_flatMap];exact sum3 ht8
    have hls:(s.map.flatMap PT.row).length=24:=by rw[List.length_flatMap];exact sum3 hs8
    have htt:List.take 24 (t.map.flatMap PT.row)=t.map.flatMap PT.row:=List.take_of_length_le (by omega)
    have hcht:=chunks_pts ht8
    have hchs:=chunks_pts hs8
    refine⟨hones _,hones _,fun x hx=>?_,?_⟩
    ·rw[htt]at hx
     obtain⟨p,hp,hx⟩:=List.mem_flatMap.1 hx
     exact hones t.map x p hp (by simpa [PT.row]using hx)
    rw[htt]
    have hfin:({ sz:=31,els:=(List.map CS.row c.sets).set k (CS.row ⟨s.name,s.kind,s.frm,t.map,s.home,true⟩) }:Ob)=kcs new:=by
     rw[← hnew];simp[kcs,List.map_set]
    simp only[hrow,hr2,hfin]
    refine qay [(1000,.whole 1000),(1001,.whole 1001),(1002,.whole 1002),(1003,.whole 1003),(1004,.whole 1004)] (by kernel_rfl) cc (by simp[mtA,hcht,hlt]) (by simp) (by simp[kobL,hlen];exact⟨.inr ⟨_,_,rfl,rfl,by simp⟩,qaa rfl (qak _),qaa rfl (qbh _),qaa rfl (qbd _),qaa rfl (qan _)⟩) (by simp[kobL]) (by simp) ?_
    rintro r L' ⟨l,b,i2,h2,rfl,rfl,hq⟩
    simp only[List.mem_cons,List.not_mem_nil,or_false]at h2
    subst h2
    refine⟨by simp,by simp[kobL,kcs,deOb,kpt,kin,qad,DE.row,PT.row,noL_cs,noL],[(902,132)],⟨by simp[kobL],by simp,by simp,by simp[kobL],by simp⟩,?_⟩
    simp only[qae]
    cases yo with
    | false =>
     simp -implicitDefEqProofs [kobL]
     exact⟨kobL ⟨c.txg,new,l,c.parts,b,c.safe,c.logn⟩ 1001 132,by simp[kobL],_,1001,132,by simp,by simp,by simp,rfl,fun e=>by simp at e⟩
    | true =>
     obtain⟨rfl,rfl⟩:=hq rfl
     have cc2:=cc2 (hyok rfl)
     simp -implicitDefEqProofs [kobL]
     refine qay [(1000,.whole 1000),(1001,.whole 1001),(1002,.whole 132),(1003,.whole 1003),(1004,.whole 1004)] (by kernel_rfl) cc2 (by simp[mtA,hchs,hls]) (by simp) (by simp[kobL,hlen];exact⟨.inr ⟨_,_,rfl,rfl,by simp⟩,qaa rfl (qak _),qaa rfl (qbh _),qaa rfl (qbd _),qaa rfl (qan _)⟩) (by simp[kobL]) (by simp) ?_
     rintro r L' ⟨l,b,i2,h2,rfl,rfl,hq⟩
     simp only[List.mem_cons,List.not_mem_nil,or_false]at h2
     subst h2
     refine⟨by simp,by simp[kobL,kcs,deOb,kpt,kin,qad,DE.row,PT.row,noL_cs,noL],[(902,136)],⟨by simp[kobL],by simp,by simp,by simp[kobL],by simp⟩,?_⟩
     simp only[qae]
     simp -implicitDefEqProofs [kobL]
     exact⟨kobL ⟨c.txg,new,l,c.parts,b,c.safe,c.logn⟩ 1001 136,by simp[kobL],_,1001,136,by simp,by simp,by simp,rfl,fun e=>by
      simp only[Bool.true_and]at e
      obtain⟨h1,h2⟩:=hq e
      rw[h1,h2]⟩
 refine key.can ?_
 rintro r L' ⟨c',i1,i2,h1,h2,rfl,rfl,hq⟩
 refine⟨[(1000,1000),(i1,901),(i2,902),(1003,1003),(1004,1004)],?_,?_,?_,?_,c',901,902,by simp,by simp,by simp,?_,hq⟩
 all_goals
  simp only[List.mem_cons,List.not_mem_nil,or_false]at h1 h2
  rcases h1 with rfl | rfl | rfl | rfl <;> rcases h2 with rfl | rfl | rfl | rfl | rfl
 all_goals simp[kobL,obOf]
def pobR (d:DK) (c:CO) (up:Bool) (a0 a1 a2 b0 b1 b2 b3:Nat):List AV:=[.sl a0 0 d.s0.length,.sl a1 0 d.s1.length,.sl a2 0 d.late.length,.int .i64 c.txg,.sl b0 0 c.sets.length,.sl b1 0 c.ddt.length,.sl b2 0 c.parts.length,.bool c.dirty,.sl b3 0 c.safe.length,.int .i64 c.logn,.bool up]
def pobL (d:DK) (c:CO) (up:Bool) (a0 a1 a2 b0 b1 b2 b3:Nat):List (Nat×Ob):=[(1000,⟨11,[pobR d c up a0 a1 a2 b0 b1 b2 b3]⟩),(a0,strOb d.s0),(a1,strOb d.s1),(a2,ltOb d.late),(b0,kcs c.sets),(b1,deOb c.ddt),(b2,kpt c.parts),(b3,kin c.safe)]
def poQ (R:DK×CO×Int) (up:Bool) (r:AV) (L':List (Nat×Ob)):Prop:=∃ d' c',r=.int .i64 R.2.2∧L'=pobL d' c' up 901 902 903 904 905 906 907∧(R.2.2=0→d'=R.1∧c'=R.2.1)
theorem iPCommitO (d:DK) (hd:DkT d) (c:CO) (h:CoT c) (up:Bool):ACall prog 86 [.ptr 1000 0 0] (pobL d c up 1001 1002 1003 1004 1005 1006 1007) (poQ (qbu d c) up):=by
 have cc:=iCommitO d hd c h
 generalize qbu d c=R at *
 obtain⟨D,C,n⟩:=R
 simp only[DK.row,CO.row]at cc
 have key:ACall prog 86 [.ptr 1000 0 0] (pobL d c up 1001 1002 1003 1004 1005 1006 1007) (fun r L'=>(n≠0∧r=.int .i64 n∧L'=pobL d c up 1001 1002 1003 1004 1005 1006 1007)∨(n=0∧r=.int .i64 0∧L'=pobL D C up 901 902 903 904 905 906 907)):=by
  refine acx func86 [(1,[zI 0,zI 1,zI 2,zJ 3 [1000] [],zJ 4 [] [1000],zJ 5 [] [1000],zJ 6 [] [1000],zJ 7 [1000] [1000],⟨8,[1001,1002,1003,1004,1005,1006,1007],[],[13,14],[]⟩,zI 9,zI 10,zI 11,zI 12,zJ 13 [] [1000],zJ 14 [] [1000],zI 15,zI 16,zI 17]),(3,[zI 0,zI 1,zJ 2 [3] [],zJ 3 [4] [3],zJ 4 [] [4],zJ 5 [] [4],zJ 6 [] [4],zI 7,zI 8,zI 9])] ntmps86 rfl rfl rfl ?_ (hL:=by simp[pobL])
  simp -implicitDefEqProofs [pobL,pobR]
  refine qay [] (by kernel_rfl) cc (by simp[vwOk,mtA,strOb,ltOb,kcs,deOb,kpt,kin,qap,cs_cl,qaf,LT.row]) (by simp) trivial (by simp) (by simp) ?_
  rintro r L' (⟨h1,rfl,rfl⟩ | ⟨rfl,rfl⟩)
  ·simp only at h1
   subst h1
   refine⟨by simp[noL],by simp,[],⟨by simp,by simp,by simp,by simp,by simp⟩,?_⟩
   simp only[qae]
   simp -implicitDefEqProofs
  ·refine⟨by simp[coreA,dskA,noL],by simp[kcs,deOb,kpt,kin,qad,DE.row,PT.row,noL_cs,strOb,qaf,ltOb,LT.row],[(901,901),(902,902),(903,903),(904,904),(905,905),(906,906),(907,907)],⟨by simp,by simp,by simp,by simp,by simp⟩,?_⟩
   simp only[qae]
   by_cases q:n=0
   ·subst q
    simp -implicitDefEqProofs [coreA,dskA]
   ·simp -implicitDefEqProofs [coreA,dskA,q]
 refine key.can ?_
 rintro r L' (⟨h1,rfl,rfl⟩ | ⟨h1,rfl,rfl⟩)
 ·refine⟨[(1000,1000),(1001,901),(1002,902),(1003,903),(1004,904),(1005,905),(1006,906),(1007,907)],by simp[pobL],by simp[pobL],by simp[pobL],by simp[pobL],d,c,by simp,?_,fun e=>absurd e h1⟩
  simp[pobL,pobR,obOf]
 ·refine⟨[(1000,1000),(901,901),(902,902),(903,903),(904,904),(905,905),(906,906),(907,907)],by simp[pobL],by simp[pobL],by simp[pobL],by simp[pobL],D,C,by simp[h1],?_,fun e=>⟨rfl,rfl⟩⟩
  simp[pobL,pobR,obOf]
def lpQ (xs:List Nat) (R:DK×CO×Bool) (up:Bool) (r:AV) (L':List (Nat×Ob)):Prop:=∃ d' c' i3,i3∈xs∧r=.bool R.2.2∧L'=pobL d' c' up 1001 1002 i3 1004 1005 1006 1007∧(R.2.2=true→d'=R.1∧c'=R.2.1)
theorem iLogPutO (d:DK) (hd:dOkB d=true) (c:CO) (up:Bool) (op:BO) (hl:0≤c.logn∧c.logn≤1000) (ha:op.a.length≤1048576) (ht:op.text.length≤1048576) :
  ACall prog 88 [.ptr 1000 0 0,.ptr 1000 0 3,.agg op.row] (pobL d c up 1001 1002 1003 1004 1005 1006 1007) (lpQ [903] (logPutB d c op) up):=by
 obtain⟨R,hR⟩:∃ R,logPutB d c op=R:=⟨_,rfl⟩
 rw[hR]
 unfold logPutB at hR
 have c1:=ilogTextC ⟨c.txg,c.logn,op⟩ ha ht
 have hlt:=logText_len ⟨c.txg,c.logn,op⟩
 have c2:=iBothO d hd (5+c.logn) (logText ⟨c.txg,c.logn,op⟩) (by omega)
 generalize logText ⟨c.txg,c.logn,op⟩=t at *
 generalize qaq d (5+c.logn) t=x at *
 obtain⟨xd,xo⟩:=x
 simp only[LR.row,BO.row]at c1 c2
 have e1:=i64w (5+c.logn) (by omega) (by omega)
 have e2:=i64w (c.logn+1) (by omega) (by omega)
 have key:ACall prog 88 [.ptr 1000 0 0,.ptr 1000 0 3,.agg op.row] (pobL d c up 1001 1002 1003 1004 1005 1006 1007) (lpQ [1003,29] R up):=by
  refine acx func88 [(1,[zI 0,zI 1,zI 2,zJ 3 [1000,1001] [],zJ 4 [] [1000,1001],zJ 5 [] [1000,1001],zJ 6 [] [1000,1001],zJ 7 [1000,1001] [1000,1001],zJ 8 [5] [1000,1001],zI 9,zI 10,zI 11])] ntmps88 rfl rfl rfl ?_ (hL:=by simp[pobL])
  simp -implicitDefEqProofs [pobL,pobR,BO.row]
  refine c1.call ?_
  by_cases ht0:t=[]
  ·rw[if_pos ht0]at hR
   subst hR
   simp -implicitDefEqProofs [ht0]
   exact⟨pobL d c up 1001 1002 1003 1004 1005 1006 1007,by simp[pobL,pobR],d,c,1003,by simp,rfl,rfl,fun e=>by cases e⟩
  ·rw[if_neg ht0]at hR
   simp -implicitDefEqProofs [ht0,e1]
   refine qab [(1000,.sub 1000 0 0 3),(1001,.whole 1001),(1002,.whole 1002),(1003,.whole 1003)] (by kernel_rfl) c2 (by simp) (by simp) (by simp[dskL,dskA];exact⟨⟨_,_,rfl,rfl,by simp,by simp,rfl,rfl,by simp⟩,qaa rfl (qam _),qaa rfl (qam _),qaa rfl (clR_lt _)⟩) (by simp[dskL]) (by simp) ?_
   rintro r L' ⟨rfl,rfl⟩
   refine⟨[(903,29)],⟨by simp[dskL],by simp,by simp,by simp[dskL],by simp[dskL,dskA]⟩,?_⟩
   simp only[qae]
   simp only at hR
   cases xo with
   | false =>
    rw[if_pos rfl]at hR
    subst hR
    simp -implicitDefEqProofs [dskL,dskA]
    exact⟨pobL xd c up 1001 1002 29 1004 1005 1006 1007,by simp[pobL,pobR],xd,c,29,by simp,rfl,rfl,fun e=>by cases e⟩
   | true =>
    rw[if_neg (by simp)]at hR
    subst hR
    simp -implicitDefEqProofs [dskL,dskA,e2]
    exact⟨pobL xd ⟨c.txg,c.sets,c.ddt,c.parts,c.dirty,c.safe,c.logn+1⟩ up 1001 1002 29 1004 1005 1006 1007,by simp[pobL,pobR],xd,_,29,by simp,rfl,rfl,fun _=>⟨rfl,rfl⟩⟩
 refine key.can ?_
 rintro r L' ⟨d',c',i3,h3,rfl,rfl,hq⟩
 refine⟨[(1000,1000),(1001,1001),(1002,1002),(i3,903),(1004,1004),(1005,1005),(1006,1006),(1007,1007)],?_,?_,?_,?_,d',c',903,by simp,by simp,?_,hq⟩
 all_goals
  simp only[List.mem_cons,List.not_mem_nil,or_false]at h3
  rcases h3 with rfl | rfl
 all_goals simp[pobL,pobR,obOf]
def ptS (D:DK) (c:CO) (up:Bool) (op:BO) (n:Nat) (now:PT):S :=
 ⟨mkT [(0,.ptr 1000 0 0),(3,.ptr 3 0 0),(4,.int .i64 0),(5,.ptr 1000 0 3),(6,.int .i64 n),(7,.ptr 7 0 0)],hpOf ((3,⟨5,[op.row]⟩)::(7,⟨3,[now.row]⟩)::pobL D c up 1001 1002 903 1004 1005 1006 1007),Us.of [1000,1001,1002,1003,1004,1005,1006,1007,3,7,1000,1001,1002,903,1004,1005,1006,1007]⟩
def puQ (xs ys:List Nat) (R:DK×CO×Int) (up:Bool) (r:AV) (L':List (Nat×Ob)):Prop:=∃ d' c' i3 i5,i3∈xs∧i5∈ys∧r=.int .i64 R.2.2∧L'=pobL d' c' up 1001 1002 i3 1004 i5 1006 1007∧(R.2.2=0→d'=R.1∧c'=R.2.1)
theorem oneM_refs (more:Bool) (p:PT) (l:List DE) (b:Bool):refsL more (oneM p) (l,b,true)=refsL more [p] (l,b,true):=by
 have e:∀ (q:List PT) x,refsL more (p::q) x=if p.pa=0 then refsL more q x else refsL more q ((refB more x.1 p).1,true,x.2.2 && (refB more x.1 p).2):=fun q x=>rfl
 unfold oneM
 rw[e,e]
 split <;> rfl
theorem findR_mem (d:DK) (text:List UInt8):∀ (l:List DE),findR d text l=0∨∃ e∈l,e.ea=findR d text l
 | []=>.inl rfl
 | e::r=>by
  simp only[findR]
  split
  ·exact .inr ⟨e,by simp,rfl⟩
  ·rcases findR_mem d text r with h | ⟨x,hx,h⟩
   ·exact .inl h
   ·exact .inr ⟨x,by simp[hx],h⟩
theorem findDB_rng (d:DK) (l:List DE) (text:List UInt8):findDB d l text=0∨(1≤findDB d l text∧findDB d l text<120):=by
 unfold findDB
 split
 ·rename_i h
  simp only[qau,Bool.and_eq_true,decide_eq_true_eq]at h
  rcases findR_mem d text l with h2 | ⟨x,hx,h2⟩
  ·exact .inl h2
  ·have:=((ddtR_up h.2).1 x hx).2
   simp only[deOkB,Bool.and_eq_true,decide_eq_true_eq]at this
   omega
 ·exact .inl rfl
theorem blk_pa {a b:Int} (t:List UInt8) (ha:1≤a∧a<120) (hb:0≤b∧b≤1000000):(blkToB a t b).pa=a:=by
 have hs:=smB_lt t
 have h1:ptOkB ⟨a,smB t,b⟩=true:=by
  unfold ptOkB
  rw[if_neg (by simp only;omega)]
  simp only[Bool.and_eq_true,decide_eq_true_eq]
  omega
 unfold blkToB
 rw[if_neg (by simp[h1];omega)]
theorem core_set {c:CO} (h:qaj c=true) {s:CS} (hs:s∈c.sets):csOkB s=true:=by
 simp only[qaj,Bool.and_eq_true,List.all_eq_true]at h
 exact h.1.1.1.1.2 s hs
theorem cs_mp_at {s:CS} (h8:s.map.length=8) {i:Nat} {p:PT} (h:s.map[i]?=some p):List.take 3 (List.drop (3+i * 3) s.row)=p.row:=by
 have h1:=flat_at h
 have hi:=(List.getElem?_eq_some_iff.1 h).1
 rw[← cs_map24 s h8,List.drop_take,List.take_take,Nat.min_eq_left (by omega),List.drop_drop]at h1
 exact h1
theorem iPutsO (d:DK) (hd:dOkB d=true) (c:CO) (h:CoT c) (hc:qaj c=true) (up:Bool) (op:BO) (hk:nmP c.sets op.a<c.sets.length) (hi:0≤op.i∧op.i<8) (ht:op.text.length≤1000) :
  ACall prog 87 [.ptr 1000 0 0,.agg op.row] (pobL d c up 1001 1002 1003 1004 1005 1006 1007) (puQ [903] [905] (turnB d c (nmP c.sets op.a) op.i.toNat op.text) up):=by
 obtain⟨hm,k1,k2,k3,k4,k5,k6,k7⟩:=qcc hc
 obtain⟨g1,g2,g3,g4,_⟩:=dOk_len hd
 obtain⟨R,hR⟩:∃ R,turnB d c (nmP c.sets op.a) op.i.toNat op.text=R:=⟨_,rfl⟩
 rw[hR]
 unfold turnB at hR
 obtain⟨s,e1⟩:∃ s,c.sets[nmP c.sets op.a]?=some s:=⟨_,List.getElem?_eq_getElem hk⟩
 have e0:=(List.getElem?_eq_some_iff.1 e1).2
 rw[e1]at hR
 simp only at hR
 have hs8:=h.m8 s (List.mem_of_getElem? e1)
 have key:ACall prog 87 [.ptr 1000 0 0,.agg op.row] (pobL d c up 1001 1002 1003 1004 1005 1006 1007) (puQ [903,1003,61] [1005,101,107] R up):=by
  refine acv func87 [(7,[zI 0,zI 1,zI 2,zJ 3 [1000] [],zJ 4 [] [1000],zJ 5 [] [1000],zJ 6 [] [1000],zJ 7 [1000] [1000],zJ 8 [] [1000],zJ 9 [3] [1000],zJ 10 [1001,1002,1003,1005] [],zI 11]),(12,[zI 0,zI 1,zI 2,zI 3,zI 4,zJ 5 [3] [],zJ 6 [1000,1001,1002,1003] [],zI 7]),(14,[zI 0,zI 1,zJ 2 [3] [],zJ 3 [] [3],zJ 4 [] [3],zJ 5 [] [3],zJ 6 [1000] [3],zJ 7 [] [3],zI 8,zI 9]),(15,[zI 0,zI 1,zI 2,zJ 3 [1000] [],zJ 4 [] [1000],zJ 5 [] [1000],zJ 6 [3] [1000],zJ 7 [1000,1004,1005,1006,1007] [1000],zJ 8 [1004] [],zI 9]),(16,[zI 0,zI 1,zJ 2 [3] [],zJ 3 [] [3],zJ 4 [] [3],zJ 5 [1004] [],zJ 6 [1004] [],zJ 7 [] [3,1004],zI 8]),(21,[zI 0,zI 1,zJ 2 [3] [],zJ 3 [] [3],zJ 4 [7] [3],zJ 5 [] [3,7],zJ 6 [] [3,7],zJ 7 [1004] [],zI 8,zI 9,zI 10,zI 11])] ntmps87 rfl rfl rfl ?_ (hL:=by simp[pobL])
  refine va_seq (qax _ ?_)
  simp -implicitDefEqProofs [pobL,pobR,BO.row]
  refine va_seq (qax _ ?_)
  simp -implicitDefEqProofs [pobL,pobR,BO.row]
  refine va_seq (qax _ ?_)
  simp -implicitDefEqProofs [pobL,pobR,BO.row,show(0:Nat)<d.s0.length by omega]
  refine va_seq (qax _ ?_)
  simp -implicitDefEqProofs [pobL,pobR,BO.row]
  refine va_cutW (X:=DK×PT) (fun x=>ptS x.1 c up op d.s0.length x.2) (fun x=>dOkB x.1=true∧0≤x.2.pa∧x.2.pa≤1000∧R=if x.2.pa≠0∧x.2.pa=(s.map[op.i.toNat]?.getD zPT).pa then (x.1,c,0) else turnG d x.1 c (nmP c.sets op.a) op.i.toNat s (s.map[op.i.toNat]?.getD zPT) x.2) ?_ ?_
  ·by_cases ht0:op.text=[]
   ·rw[if_pos ht0]at hR
    simp -implicitDefEqProofs [pobL,pobR,BO.row,ht0]
    exact cutW_of (d,zPT) ⟨hd,by simp[zPT],by simp[zPT],by rw[if_neg (by simp[zPT])];exact hR.symm⟩ (sw_can [0,3,4,5,6,7] [(3,3),(7,7),(1000,1000),(1001,1001),(1002,1002),(1003,903),(1004,1004),(1005,1005),(1006,1006),(1007,1007)] (by simp[qag]) (by simp[canon,obOf,ptS,pobL,pobR,BO.row,zPT,PT.row,ht0]))
   ·rw[if_neg ht0]at hR
    by_cases hx:c.txg=1000000
    ·rw[if_pos hx]at hR
     subst hR
     simp -implicitDefEqProofs [pobL,pobR,BO.row,ht0,hx]
     exact⟨pobL d c up 1001 1002 1003 1004 1005 1006 1007,by simp[pobL,pobR,hx],d,c,1003,1005,by simp,by simp,rfl,rfl,fun e=>by cases e⟩
    ·rw[if_neg hx]at hR
     have cf:=iFindC d (dOk_T hd) c.ddt op.text (by omega) (by simp[maxLen];omega)
     have hfr:=findDB_rng d c.ddt op.text
     unfold blockB at hR
     generalize findDB d c.ddt op.text=a at *
     have cb:=iBlkToC a op.text (c.txg+1) (by simp[maxLen];omega)
     have e2:=i64w (c.txg+1) (by omega) (by omega)
     simp only[DK.row]at cf
     simp -implicitDefEqProofs [pobL,pobR,BO.row,ht0,hx]
     refine cf.view (by simp[vwOk,mtA,strOb,ltOb,deOb,qap,qaf,LT.row]) ?_
     by_cases ha0:0<a
     ·simp only[if_pos ha0]at hR
      simp -implicitDefEqProofs [show ¬ a=0 by omega,BO.row,e2]
      refine cb.call ?_
      simp -implicitDefEqProofs [PT.row]
      have hpa:=blk_pa (a:=a) (b:=c.txg+1) op.text (by omega) (by omega)
      exact cutW_of (d,blkToB a op.text (c.txg+1)) ⟨hd,by simp only[hpa];omega,by simp only[hpa];omega,by
       simp only[hpa]
       rw[← hR]
       simp only[ne_eq,not_true_eq_false,if_false]
       by_cases q:a=(s.map[op.i.toNat]?.getD zPT).pa
       ·rw[if_pos q,if_pos ⟨by omega,q⟩]
       ·rw[if_neg q,if_neg (fun e=>q e.2)]⟩ (sw_can [0,3,4,5,6,7] [(3,3),(7,7),(1000,1000),(1001,1001),(1002,1002),(1003,903),(1004,1004),(1005,1005),(1006,1006),(1007,1007)] (by simp[qag]) (by simp[canon,obOf,ptS,pobL,pobR,BO.row,PT.row]))
     ·have ha00:a=0:=by omega
      simp only[if_neg ha0]at hR
      have cm:=iMayC c h hc d.s0.length (by omega)
      have cfr:=iFreeO c h hc d.s0.length (by omega)
      have hfm:∀ x∈freeB c d.s0.length,13≤x∧x<d.s0.length:=fun x hx=>freeB_mem hx
      have hmf:mayB c d.s0.length=true→0<(freeB c d.s0.length).length:=fun hm=>by
       simp only[mayB,Bool.and_eq_true,decide_eq_true_eq]at hm
       omega
      simp only[CO.row]at cm cfr
      clear cf cb
      simp -implicitDefEqProofs [ha00]
      refine cm.view (by simp[vwOk,mtA,kcs,deOb,kpt,kin,qap,cs_cl]) ?_
      cases hma:mayB c d.s0.length with
      | false =>
       rw[hma]at hR
       simp only[if_true,ne_eq]at hR
       rw[if_pos (by decide)]at hR
       subst hR
       simp -implicitDefEqProofs
       exact⟨pobL d c up 1001 1002 1003 1004 1005 1006 1007,by simp[pobL,pobR],d,c,1003,1005,by simp,by simp,rfl,rfl,fun e=>by cases e⟩
      | true =>
       have hfl:=hmf hma
       rw[hma]at hR
       simp only[Bool.true_eq_false,if_false]at hR
       generalize freeB c d.s0.length=F at *
       obtain⟨b,F',rfl⟩:∃ b F',F=b::F':=by
        cases F with
        | nil=>simp at hfl
        | cons b F'=>exact⟨b,F',rfl⟩
       simp only[List.headD_cons]at hR
       have hbm:=hfm b (by simp)
       have cw:=iBothO d hd b op.text (by omega)
       have hbo:=bWrite_ok hd b op.text
       have cb:=iBlkToC b op.text (c.txg+1) (by simp[maxLen];omega)
       have hpa:=blk_pa (a:=b) (b:=c.txg+1) op.text (by omega) (by omega)
       simp -implicitDefEqProofs
       refine qay [] (by kernel_rfl) cfr (by simp[vwOk,mtA,kcs,deOb,kpt,kin,qap,cs_cl]) (by simp) trivial (by simp) (by simp) ?_
       rintro r L' ⟨rfl,rfl⟩
       refine⟨by simp,by simp[kin,qad],[(900,52)],⟨by simp,by simp,by simp,by simp,by simp⟩,?_⟩
       simp only[qae]
       obtain⟨W,hW⟩:∃ W,qaq d b op.text=W:=⟨_,rfl⟩
       simp only[hW]at hR cw hbo
       clear hW
       obtain⟨E,o⟩:=W
       simp only at hbo
       simp -implicitDefEqProofs [kin,qad,BO.row]
       refine qab [(1000,.sub 1000 0 0 3),(1001,.whole 1001),(1002,.whole 1002),(1003,.whole 1003)] (by kernel_rfl) cw (by simp) (by simp) (by simp[dskL,dskA];exact⟨⟨_,_,rfl,rfl,by simp,by simp,rfl,rfl,by simp⟩,qaa rfl (qam _),qaa rfl (qam _),qaa rfl (clR_lt _)⟩) (by simp[dskL]) (by simp) ?_
       rintro r L' ⟨rfl,rfl⟩
       refine⟨[(903,61)],⟨by simp[dskL],by simp,by simp,by simp[dskL],by simp[dskL,dskA]⟩,?_⟩
       simp only[qae]
       cases o with
       | false =>
        simp only[if_true]at hR
        rw[if_pos (by decide)]at hR
        subst hR
        simp -implicitDefEqProofs [dskL,dskA]
        exact⟨pobL E c up 1001 1002 61 1004 1005 1006 1007,by simp[pobL,pobR,kin],E,c,61,1005,by simp,by simp,rfl,rfl,fun e=>by cases e⟩
       | true =>
        simp only[Bool.true_eq_false,if_false,ne_eq,not_true_eq_false]at hR
        simp -implicitDefEqProofs [dskL,dskA,BO.row,e2]
        refine cb.call ?_
        simp -implicitDefEqProofs [PT.row]
        exact cutW_of (E,blkToB b op.text (c.txg+1)) ⟨hbo.1,by simp only[hpa];omega,by simp only[hpa];omega,by
         simp only[hpa]
         rw[← hR]
         by_cases q:b=(s.map[op.i.toNat]?.getD zPT).pa
         ·rw[if_pos q,if_pos ⟨by omega,q⟩]
         ·rw[if_neg q,if_neg (fun e=>q e.2)]⟩ (sw_can [0,3,4,5,6,7] [(3,3),(7,7),(1000,1000),(1001,1001),(1002,1002),(61,903),(1004,1004),(1005,1005),(1006,1006),(1007,1007)] (by simp[qag]) (by simp[canon,obOf,ptS,pobL,pobR,BO.row,PT.row,dskL,dskA,kin]))
  ·rintro⟨D,now⟩ ⟨hDok,hn0,hn1,hRx⟩
   simp only at hDok hn0 hn1 hRx ⊢
   clear hR
   have cs:=iSetO c h.m8 (by omega) (core_srt hc) op.a
   obtain⟨i,hii⟩:∃ i:Nat,op.i.toNat=i:=⟨_,rfl⟩
   have hi8:i<8:=by omega
   obtain⟨old,ho⟩:∃ o,s.map[i]?=some o:=⟨_,List.getElem?_eq_getElem (by omega)⟩
   have ho':=(List.getElem?_eq_some_iff.1 ho).2
   have hopi:op.i=(i:Int):=by omega
   rw[hii,ho]at hRx
   simp only[Option.getD_some]at hRx
   have hpo:=cs_pt (core_set hc (List.mem_of_getElem? e1)) (List.mem_of_getElem? ho)
   have hca:=cs_mp_at hs8 ho
   have hmin:min 3 (31-(3+i * 3))=3:=by omega
   simp only[PT.row]at hca
   refine qax _ ?_
   simp -implicitDefEqProofs [ptS,pobL,pobR,BO.row]
   refine qab [(1000,.sub 1000 0 3 7),(1001,.whole 1004),(1002,.whole 1005),(1003,.whole 1006),(1004,.whole 1007)] (by kernel_rfl) cs (by simp) (by simp) (by simp[kobL];exact⟨⟨_,_,rfl,rfl,by simp,by simp,rfl,rfl,by simp⟩,qaa rfl (qak _),qaa rfl (qbh _),qaa rfl (qbd _),qaa rfl (qan _)⟩) (by simp[kobL]) (by simp) ?_
   rintro r L' ⟨rfl,rfl⟩
   refine⟨[],⟨by simp[kobL],by simp,by simp,by simp[kobL],by simp[kobL]⟩,?_⟩
   simp only[qae]
   generalize nmP c.sets op.a=k at *
   by_cases q:now.pa≠0∧now.pa=old.pa
   ·rw[if_pos q]at hRx
    subst hRx
    simp -implicitDefEqProofs [kobL,kcs,hk,e0,e1,qas s hs8,qbt s hs8,hopi,hi8,PT.row,hca,hmin,q.1,q.2,show ¬ old.pa=0 from q.2 ▸ q.1]
    exact⟨by omega,by omega,pobL D c up 1001 1002 903 1004 1005 1006 1007,by simp[pobL,pobR,kcs],D,c,903,1005,by simp,by simp,rfl,rfl,fun _=>⟨rfl,rfl⟩⟩
   ·rw[if_neg q]at hRx
    simp only[turnG,oneM_refs]at hRx
    have hdd:=core_ddt hc
    have cc:=iCountO c hdd [now] (fun p hp=>by simp at hp;subst hp;omega) (by simp) true
    have hyok:=refsL_ok true [now] c.ddt c.dirty hdd
    generalize refsL true [now] (c.ddt,c.dirty,true)=Y at *
    obtain⟨yl,yd,yo⟩:=Y
    simp only at hRx hyok
    have cc2:=fun hyl=>iCountO ⟨c.txg,c.sets,yl,c.parts,yd,c.safe,c.logn⟩ hyl [old] (fun p hp=>by simp at hp;subst hp;omega) (by simp) false
    simp only at cc2
    generalize refsL false [old] (yl,yd,true)=Z at *
    obtain⟨zl,zd,zo⟩:=Z
    simp only at hRx
    have hB:now.pa=0∨(now.pa≠0∧now.pa≠old.pa):=by
     by_cases q1:now.pa=0
     ·exact .inl q1
     ·exact .inr ⟨q1,fun e=>q ⟨q1,e⟩⟩
    rcases hB with q1 | ⟨q1,q2⟩
    ·skip
     simp -implicitDefEqProofs [kobL,kcs,hk,e0,e1,qas s hs8,qbt s hs8,hopi,hi8,PT.row,hca,hmin,q1]
     refine⟨by omega,by omega,?_⟩
     refine qay [(1000,.sub 1000 0 3 7),(1001,.whole 1004),(1002,.whole 1005),(1003,.whole 1006),(1004,.whole 1007)] (by kernel_rfl) cc (by simp[mtA,kin,PT.row,q1]) (by simp) (by simp[kobL];exact⟨⟨_,_,rfl,rfl,by simp,by simp,rfl,rfl,by simp⟩,⟨rfl,qaa rfl (qak _)⟩,qaa rfl (qbh _),qaa rfl (qbd _),qaa rfl (qan _)⟩) (by simp[kobL]) (by simp) ?_
     rintro r L' ⟨l,b,i2,h2,rfl,rfl,hq⟩
     simp only[List.mem_cons,List.not_mem_nil,or_false]at h2
     subst h2
     refine⟨by simp,by simp[kobL,kcs,deOb,kpt,kin,qad,DE.row,PT.row,noL_cs,noL],[(902,101)],⟨by simp[kobL],by simp,by simp,by simp[kobL],by simp[kobL]⟩,?_⟩
     simp only[qae]
     cases yo with
     | false =>
      rw[if_pos (.inl rfl)]at hRx
      subst hRx
      simp -implicitDefEqProofs [kobL]
      exact⟨pobL D ⟨c.txg,c.sets,l,c.parts,b,c.safe,c.logn⟩ up 1001 1002 903 1004 101 1006 1007,by simp[pobL,pobR,kcs],D,_,903,101,by simp,by simp,rfl,rfl,fun e=>by cases e⟩
     | true =>
      obtain⟨rfl,rfl⟩:=hq rfl
      have cc2:=cc2 (hyok rfl)
      simp -implicitDefEqProofs [kobL]
      refine qay [(1000,.sub 1000 0 3 7),(1001,.whole 1004),(1002,.whole 101),(1003,.whole 1006),(1004,.whole 1007)] (by kernel_rfl) cc2 (by simp[mtA,kin,PT.row]) (by simp) (by simp[kobL];exact⟨⟨_,_,rfl,rfl,by simp,by simp,rfl,rfl,by simp⟩,qaa rfl (qak _),qaa rfl (qbh _),qaa rfl (qbd _),qaa rfl (qan _)⟩) (by simp[kobL]) (by simp) ?_
      rintro r L' ⟨l,b,i2,h2,rfl,rfl,hq⟩
      simp only[List.mem_cons,List.not_mem_nil,or_false]at h2
      subst h2
      refine⟨by simp,by simp[kobL,kcs,deOb,kpt,kin,qad,DE.row,PT.row,noL_cs,noL],[(902,107)],⟨by simp[kobL],by simp,by simp,by simp[kobL],by simp[kobL]⟩,?_⟩
      simp only[qae]
      cases zo with
      | false =>
       rw[if_pos (.inr rfl)]at hRx
       subst hRx
       simp -implicitDefEqProofs [kobL]
       exact⟨pobL D ⟨c.txg,c.sets,l,c.parts,b,c.safe,c.logn⟩ up 1001 1002 903 1004 107 1006 1007,by simp[pobL,pobR,kcs],D,_,903,107,by simp,by simp,rfl,rfl,fun e=>by cases e⟩
      | true =>
       obtain⟨rfl,rfl⟩:=hq rfl
       rw[if_neg (by simp)]at hRx
       subst hRx
       simp -implicitDefEqProofs [kobL,kcs,hk,e0,e1,qas s hs8,qbt s hs8,hopi,hi8,PT.row,hca,hmin,BO.row]
       have hrow:=cs_turn s hs8 hi8 now
       exact⟨by omega,by omega,pobL D ⟨c.txg,c.sets.set k ⟨s.name,s.kind,s.frm,s.map.set i now,s.home,true⟩,l,c.parts,b,c.safe,c.logn⟩ up 1001 1002 903 1004 107 1006 1007,by simp[pobL,pobR,kcs,List.map_set];rw[← hrow];simp[q1],D,_,903,107,by simp,by simp,rfl,rfl,fun _=>⟨rfl,rfl⟩⟩
    ·skip
     simp -implicitDefEqProofs [kobL,kcs,hk,e0,e1,qas s hs8,qbt s hs8,hopi,hi8,PT.row,hca,hmin,q1,q2]
     refine⟨by omega,by omega,?_⟩
     refine qay [(1000,.sub 1000 0 3 7),(1001,.whole 1004),(1002,.whole 1005),(1003,.whole 1006),(1004,.whole 1007)] (by kernel_rfl) cc (by simp[mtA,kin,PT.row]) (by simp) (by simp[kobL];exact⟨⟨_,_,rfl,rfl,by simp,by simp,rfl,rfl,by simp⟩,⟨rfl,qaa rfl (qak _)⟩,qaa rfl (qbh _),qaa rfl (qbd _),qaa rfl (qan _)⟩) (by simp[kobL]) (by simp) ?_
     rintro r L' ⟨l,b,i2,h2,rfl,rfl,hq⟩
     simp only[List.mem_cons,List.not_mem_nil,or_false]at h2
     subst h2
     refine⟨by simp,by simp[kobL,kcs,deOb,kpt,kin,qad,DE.row,PT.row,noL_cs,noL],[(902,101)],⟨by simp[kobL],by simp,by simp,by simp[kobL],by simp[kobL]⟩,?_⟩
     simp only[qae]
     cases yo with
     | false =>
      rw[if_pos (.inl rfl)]at hRx
      subst hRx
      simp -implicitDefEqProofs [kobL]
      exact⟨pobL D ⟨c.txg,c.sets,l,c.parts,b,c.safe,c.logn⟩ up 1001 1002 903 1004 101 1006 1007,by simp[pobL,pobR,kcs],D,_,903,101,by simp,by simp,rfl,rfl,fun e=>by cases e⟩
     | true =>
      obtain⟨rfl,rfl⟩:=hq rfl
      have cc2:=cc2 (hyok rfl)
      simp -implicitDefEqProofs [kobL]
      refine qay [(1000,.sub 1000 0 3 7),(1001,.whole 1004),(1002,.whole 101),(1003,.whole 1006),(1004,.whole 1007)] (by kernel_rfl) cc2 (by simp[mtA,kin,PT.row]) (by simp) (by simp[kobL];exact⟨⟨_,_,rfl,rfl,by simp,by simp,rfl,rfl,by simp⟩,qaa rfl (qak _),qaa rfl (qbh _),qaa rfl (qbd _),qaa rfl (qan _)⟩) (by simp[kobL]) (by simp) ?_
      rintro r L' ⟨l,b,i2,h2,rfl,rfl,hq⟩
      simp only[List.mem_cons,List.not_mem_nil,or_false]at h2
      subst h2
      refine⟨by simp,by simp[kobL,kcs,deOb,kpt,kin,qad,DE.row,PT.row,noL_cs,noL],[(902,107)],⟨by simp[kobL],by simp,by simp,by simp[kobL],by simp[kobL]⟩,?_⟩
      simp only[qae]
      cases zo with
      | false =>
       rw[if_pos (.inr rfl)]at hRx
       subst hRx
       simp -implicitDefEqProofs [kobL]
       exact⟨pobL D ⟨c.txg,c.sets,l,c.parts,b,c.safe,c.logn⟩ up 1001 1002 903 1004 107 1006 1007,by simp[pobL,pobR,kcs],D,_,903,107,by simp,by simp,rfl,rfl,fun e=>by cases e⟩
      | true =>
       obtain⟨rfl,rfl⟩:=hq rfl
       rw[if_neg (by simp)]at hRx
       subst hRx
       simp -implicitDefEqProofs [kobL,kcs,hk,e0,e1,qas s hs8,qbt s hs8,hopi,hi8,PT.row,hca,hmin,BO.row]
       have hrow:=cs_turn s hs8 hi8 now
       exact⟨by omega,by omega,pobL D ⟨c.txg,c.sets.set k ⟨s.name,s.kind,s.frm,s.map.set i now,s.home,true⟩,l,c.parts,b,c.safe,c.logn⟩ up 1001 1002 903 1004 107 1006 1007,by simp[pobL,pobR,kcs,List.map_set];rw[← hrow],D,_,903,107,by simp,by simp,rfl,rfl,fun _=>⟨rfl,rfl⟩⟩
 refine key.can ?_
 rintro r L' ⟨d',c',i3,i5,h3,h5,rfl,rfl,hq⟩
 refine⟨[(1000,1000),(1001,1001),(1002,1002),(i3,903),(1004,1004),(i5,905),(1006,1006),(1007,1007)],?_,?_,?_,?_,d',c',903,905,by simp,by simp,by simp,?_,hq⟩
 all_goals
  simp only[List.mem_cons,List.not_mem_nil,or_false]at h3 h5
  rcases h3 with rfl | rfl | rfl <;> rcases h5 with rfl | rfl | rfl
 all_goals simp[pobL,pobR,obOf]
theorem placesB_of:∀ {l:List Int} {q:Int},(∀ x∈l,q<x∧13≤x∧x<120)→l.Pairwise (· < ·)→qch q l=true
 | [],q,_,_=>rfl
 | a::r,q,h,hp=>by
  rw[List.pairwise_cons]at hp
  have ha:=h a (by simp)
  simp only[qch,Bool.and_eq_true,decide_eq_true_eq]
  exact⟨⟨⟨ha.2.1,ha.2.2⟩,ha.1⟩,placesB_of (fun x hx=>⟨hp.1 x hx,(h x (by simp[hx])).2⟩) hp.2⟩
theorem reach_ok {c:CO} (hc:qaj c=true) {root:Int} (hr:13≤root∧root<120):qch 12 (reachB c root)=true:=by
 have hs:(srt (hiL (rawL c root))).Pairwise (·≤·):=by
  have:=List.pairwise_mergeSort (le:=fun x y:Int=>decide (x≤y)) (fun a b c h1 h2=>by simp at *;omega) (fun a b=>by simp;omega) (hiL (rawL c root))
  simpa [srt]using this
 obtain⟨h1,h2⟩:=dsL_up hs
 rw[reach_law]at h1 h2
 refine placesB_of (fun x hx=>?_) h1
 have hm:=(h2 x).1 hx
 rw[srt,List.mem_mergeSort,hiL,List.mem_filter]at hm
 obtain⟨hm,hlo⟩:=hm
 simp only[loB,Bool.not_eq_true',decide_eq_false_iff_not]at hlo
 refine⟨by omega,by omega,?_⟩
 simp only[rawL,List.mem_cons,List.mem_append,List.mem_map]at hm
 have hpt:∀ p:PT,ptOkB p=true→p.pa<120:=fun p h=>by
  unfold ptOkB at h
  split at h
  ·omega
  ·simp only[Bool.and_eq_true,decide_eq_true_eq]at h
   omega
 rcases hm with rfl | ⟨e,he,rfl⟩ | ⟨s,hs,rfl⟩ | ⟨p,hp,rfl⟩
 ·exact hr.2
 ·have hd:=core_ddt hc
  simp only[qau,Bool.and_eq_true,decide_eq_true_eq]at hd
  have:=((ddtR_up hd.2).1 e he).2
  simp only[deOkB,Bool.and_eq_true,decide_eq_true_eq]at this
  omega
 ·have:=core_set hc hs
  simp only[csOkB,Bool.and_eq_true]at this
  exact hpt _ this.1.2
 ·simp only[qaj,Bool.and_eq_true,List.all_eq_true]at hc
  have:=hc.1.1.1.2 p hp
  simp only[qbe,Bool.and_eq_true]at this
  exact hpt _ this.1
theorem commit_core {d:DK} {c:CO} (h:CoT c) (hz:(qbu d c).2.2=0):qaj (qbu d c).2.1=true∧(qbu d c).2.1.sets.map csB=c.sets.map csB:=by
 obtain⟨hd,hc,_,_,_,_,_,ht,_,_⟩:=commitB_ok h hz
 unfold qbu at hz ⊢
 by_cases h1:dOkB d=false∨qaj c=false∨d.s0.length≤13
 ·rw[if_pos h1]at hz;simp at hz
 rw[if_neg h1]at hz ⊢
 by_cases h2:mayDoB d c=false
 ·rw[if_pos h2]at hz;simp at hz
 rw[if_neg h2]at hz ⊢
 by_cases h3:(doneB d c).2.2≠0
 ·rw[if_pos h3]at hz;exact absurd hz h3
 rw[if_neg h3]at hz ⊢
 have hf:needsB c≤(freeB c d.s0.length).length:=by
  cases hx:mayDoB d c with
  | false=>exact absurd hx h2
  | true =>
   simp only[mayDoB,Bool.and_eq_true,decide_eq_true_eq]at hx
   exact hx.2
 obtain⟨hT,hC,hp⟩:=blkC_ok hd h hc hf ht
 have hp2:(qai d c).2.2.pa<120:=by
  have:ptOkB (qai d c).2.2=true:=blk_ok _ _ _
  unfold ptOkB at this
  split at this
  ·omega
  ·simp only[Bool.and_eq_true,decide_eq_true_eq]at this
   omega
 have hS:(qai d c).2.1.sets.map csB=c.sets.map csB:=(setsB_same (c.txg+1) c.sets ⟨d,freeB c d.s0.length,true⟩).2.1
 have hr:=reach_ok hC ⟨hp,hp2⟩
 obtain⟨_,_,_,_,q1,q2,_,_⟩:=qcc hc
 unfold doneB at hz h3 ⊢
 by_cases h4:(qai d c).1.ok=false
 ·rw[if_pos h4]at hz;simp at hz
 rw[if_neg h4]at hz ⊢
 by_cases h5:(ringB (qbr (qai d c).1.d) (c.txg+1) (qai d c).2.2).2=false
 ·rw[if_pos h5]at hz;simp at hz
 rw[if_neg h5]
 refine⟨?_,hS⟩
 generalize (qai d c).2.1=B at *
 simp only[qaj,Bool.and_eq_true]at hC ⊢
 obtain⟨⟨⟨⟨⟨⟨⟨⟨⟨⟨⟨p1,p2⟩,p3⟩,p4⟩,p5⟩,p6⟩,p7⟩,p8⟩,p9⟩,p10⟩,p11⟩,p12⟩:=hC
 refine⟨⟨⟨⟨⟨⟨⟨⟨⟨⟨⟨?_,?_⟩,p3⟩,p4⟩,hr⟩,?_⟩,?_⟩,p8⟩,p9⟩,p10⟩,?_⟩,?_⟩
 ·simp;omega
 ·simp;omega
 ·simp
 ·simp
 ·exact p11
 ·exact p12
theorem iPoolOkC (p:PO) (hd:DkT p.d) (hc:CoT p.c):CV prog 29 [.agg p.row] (.bool (poolOkB p)):=by
 have c1:=iCommitOkC p.d hd p.c hc
 have e:poolOkB p=(dOkB p.d && qaj p.c && decide (13<p.d.s0.length)):=by
  unfold poolOkB
  cases dOkB p.d <;> cases qaj p.c <;> simp
 rw[e]
 simp only[DK.row,CO.row]at c1
 refine cvx func29 [] ntmps29 rfl rfl rfl ?_ (hca:=by simp[PO.row,DK.row,co_cl])
 simp -implicitDefEqProofs [PO.row,DK.row,CO.row]
 refine c1.call ?_
 simp -implicitDefEqProofs
def callV:List (Nat×Nat×Nat×Nat×Nat×Nat×Nat):=[(1001,1002,1003,1004,1005,1006,1007),(1001,1002,1003,931,932,1006,1007),(941,942,943,944,945,946,947),(901,902,903,904,905,906,907),(901,902,913,904,915,906,907),(901,902,923,904,915,906,907)]
def calQ (V:List (Nat×Nat×Nat×Nat×Nat×Nat×Nat)) (R:DK×CO×Int) (up:Bool) (r:AV) (L':List (Nat×Ob)):Prop:=∃ d' c' a0 a1 a2 b0 b1 b2 b3,(a0,a1,a2,b0,b1,b2,b3)∈V∧r=.int .i64 R.2.2∧L'=pobL d' c' up a0 a1 a2 b0 b1 b2 b3∧(R.2.2=0→d'=R.1∧c'=R.2.1)
def clS (x:DK×CO) (op:BO):S :=
 ⟨mkT [(0,.ptr 1000 0 0),(3,.ptr 3 0 0),(4,.int .i64 0)],hpOf ((3,⟨5,[op.row]⟩)::pobL x.1 x.2 true 901 902 903 904 905 906 907),Us.of [1000,1001,1002,1003,1004,1005,1006,1007,3,1000,901,902,903,904,905,906,907]⟩
theorem iCallO (d:DK) (hd:dOkB d=true) (c:CO) (h:CoT c) (hc:qaj c=true) (op:BO) (ha:op.a.length≤1048576) (hb:op.b.length≤1048576) (ht:op.text.length≤1048576) :
  ACall prog 31 [.ptr 1000 0 0,.agg op.row] (pobL d c true 1001 1002 1003 1004 1005 1006 1007) (calQ [(901,902,903,904,905,906,907)] (callB d c op) true):=by
 obtain⟨hm,k1,k2,k3,k4,k5,k6,k7⟩:=qcc hc
 obtain⟨R,hR⟩:∃ R,callB d c op=R:=⟨_,rfl⟩
 rw[hR]
 unfold callB at hR
 have hdn:=@dnB_done c op
 have hbk:BkS (c.sets.map csB):=⟨by simp;omega,fun b hb=>by
  obtain⟨s,hs,rfl⟩:=List.mem_map.1 hb
  have:=h.nm s hs
  simp[csB];omega⟩
 have cf:=frameA c (by omega) h.m8
 have cd:=idoO (c.sets.map csB) op hbk ⟨ha,hb⟩
 have hres:(resB (c.sets.map csB) op).2=dnB c op:=by
  unfold resB;rw[if_pos (core_book hc)];rfl
 have hpp:∀ s∈c.sets,∀ p∈s.map,0≤p.pa∧p.pa≤1000:=fun s hs p hp=>by
  have:=cs_pt (core_set hc hs) hp;omega
 have key:ACall prog 31 [.ptr 1000 0 0,.agg op.row] (pobL d c true 1001 1002 1003 1004 1005 1006 1007) (calQ callV R true):=by
  refine acv func31 [(3,[zI 0,zI 1,zI 2,zJ 3 [1000] [],zJ 5 [3] [1000],⟨4,[1004,1005,1006,1007],[3],[10],[]⟩,⟨6,[25],[],[10],[]⟩,zI 7,zI 8,zI 9,zJ 10 [] [1000,3],zI 11,zI 12]),(7,[zI 0,zI 1,zI 2,zJ 3 [3] [],zJ 4 [1000,1004,1005,1006,1007] [],zI 5]),(18,[zI 0,zI 1,zI 2,zI 3,zI 4,zI 5,zJ 6 [3] [],zJ 7 [901,902,904,906,907,913,915,1000] [],zI 8])] ntmps31 rfl rfl rfl ?_ (hL:=by simp[pobL])
  refine va_seq (qax _ ?_)
  simp -implicitDefEqProofs [pobL,pobR,BO.row]
  refine va_seq (qax _ ?_)
  simp -implicitDefEqProofs [pobL,pobR,BO.row]
  refine va_seq (qax _ ?_)
  simp only[CO.row]at cf
  simp only[bk,BO.row]at cd
  simp -implicitDefEqProofs [pobL,pobR,BO.row]
  refine qay [] (by kernel_rfl) cf (by simp[vwOk,mtA,kcs,deOb,kpt,kin,qap,cs_cl]) (by simp) trivial (by simp) (by simp) ?_
  rintro r L' ⟨rfl,rfl⟩
  refine⟨by simp[noL],by simp[bkOb,noL_bs],[(900,25)],⟨by simp,by simp,by simp,by simp,by simp⟩,?_⟩
  simp only[qae]
  simp -implicitDefEqProofs [BO.row]
  have htk:List.take c.sets.length (List.map BS.row (c.sets.map csB))=List.map BS.row (c.sets.map csB):=List.take_of_length_le (by simp)
  refine qay [] (by kernel_rfl) cd (by simp[vwOk,mtA,bkOb];exact List.take_of_length_le (by simp)) (by simp) trivial (by simp) (by simp) ?_
  rintro r L' ⟨rfl,rfl⟩
  refine⟨by simp[noL],by simp[bkOb,noL_bs],[(903,26)],⟨by simp,by simp,by simp,by simp,by simp⟩,?_⟩
  simp only[qae]
  rw[hres]
  by_cases q1:dnB c op≠0
  ·rw[if_pos q1]at hR
   subst hR
   simp -implicitDefEqProofs [q1]
   exact⟨pobL d c true 1001 1002 1003 1004 1005 1006 1007,by simp[pobL,pobR],d,c,1001,1002,1003,1004,1005,1006,1007,by simp[callV],rfl,rfl,fun e=>absurd e q1⟩
  ·rw[if_neg q1]at hR
   obtain⟨g1,g2,g3,g4⟩:=hdn (by omega)
   simp -implicitDefEqProofs [show dnB c op=0 by omega]
   refine va_seq (qax _ ?_)
   by_cases q2:op.kind≠3
   ·rw[if_pos q2]at hR
    have hk':op.kind=1∨op.kind=2∨op.kind=4∨op.kind=5∨op.kind=6:=by omega
    have cc:=iChangeO c hm h.m8 (core_srt hc) (core_ddt hc) hpp op hk' g2 g3
    have hxT:=setsD_T h hm op ha hb
    generalize setsD c op=X at *
    obtain⟨x,xo⟩:=X
    simp only at hR hxT
    simp only[BO.row]at cc
    simp -implicitDefEqProofs [BO.row,q2]
    refine qab [(1000,.sub 1000 0 3 7),(1001,.whole 1004),(1002,.whole 1005),(1003,.whole 1006),(1004,.whole 1007)] (by kernel_rfl) cc (by simp) (by simp) (by simp[kobL];exact⟨⟨_,_,rfl,rfl,by simp,by simp,rfl,rfl,by simp⟩,qaa rfl (qak _),qaa rfl (qbh _),qaa rfl (qbd _),qaa rfl (qan _)⟩) (by simp[kobL]) (by simp) ?_
    rintro r L' ⟨c',i1,i2,h1,h2,rfl,rfl,hq⟩
    simp only[List.mem_cons,List.not_mem_nil,or_false]at h1 h2
    subst h1 h2
    refine⟨[(901,931),(902,932)],⟨by simp[kobL],by simp,by simp,by simp[kobL],by simp[kobL]⟩,?_⟩
    simp only[qae]
    cases xo with
    | false =>
     rw[if_pos rfl]at hR
     subst hR
     simp -implicitDefEqProofs [kobL]
     exact⟨pobL d c' true 1001 1002 1003 931 932 1006 1007,by simp[pobL,pobR],d,c',1001,1002,1003,931,932,1006,1007,by simp[callV],rfl,rfl,fun e=>by cases e⟩
    | true =>
     rw[if_neg (by simp)]at hR
     have hcx:=hq rfl
     simp only at hcx
     subst hcx
     have cm:=iPCommitO d (dOk_T hd) c' hxT true
     rw[hR]at cm
     simp -implicitDefEqProofs [kobL]
     refine qab [(1000,.whole 1000),(1001,.whole 1001),(1002,.whole 1002),(1003,.whole 1003),(1004,.whole 931),(1005,.whole 932),(1006,.whole 1006),(1007,.whole 1007)] (by kernel_rfl) cm (by simp) (by simp) (by simp[pobL,pobR];exact⟨.inr ⟨_,_,rfl,rfl,by simp⟩,qaa rfl (qam _),qaa rfl (qam _),qaa rfl (clR_lt _),qaa rfl (qak _),qaa rfl (qbh _),qaa rfl (qbd _),qaa rfl (qan _)⟩) (by simp[pobL]) (by simp) ?_
     rintro r L' ⟨d2,c2,rfl,rfl,hq2⟩
     refine⟨[(901,941),(902,942),(903,943),(904,944),(905,945),(906,946),(907,947)],⟨by simp[pobL],by simp,by simp,by simp[pobL],by simp⟩,?_⟩
     simp only[qae]
     simp -implicitDefEqProofs [pobL,pobR]
     exact⟨pobL d2 c2 true 941 942 943 944 945 946 947,by simp[pobL,pobR],d2,c2,941,942,943,944,945,946,947,by simp[callV],rfl,rfl,hq2⟩
   ·rw[if_neg q2]at hR
    have q3:op.kind=3:=by omega
    obtain⟨g5,g6,g7⟩:=g4 q3
    have g8:=g2 (by omega)
    simp -implicitDefEqProofs [BO.row,q3]
    refine va_cutW (X:=DK×CO) (fun x=>clS x op) (fun x=>dOkB x.1=true∧CoT x.2∧qaj x.2=true∧x.2.sets.map csB=c.sets.map csB∧R=putL d c op (turnB x.1 x.2 (nmP c.sets op.a) op.i.toNat op.text)) ?_ ?_
    ·by_cases q4:c.logn=8
     ·rw[if_pos q4]at hR
      have cm:=iPCommitO d (dOk_T hd) c h true
      have hk:=@commitB_ok d c h
      have hk2:=@commit_core d c h
      generalize qbu d c=Z at *
      obtain⟨zd,zc,zn⟩:=Z
      simp only[putZ]at hR hk hk2
      simp -implicitDefEqProofs [pobL,pobR,BO.row,q4]
      refine qab [(1000,.whole 1000),(1001,.whole 1001),(1002,.whole 1002),(1003,.whole 1003),(1004,.whole 1004),(1005,.whole 1005),(1006,.whole 1006),(1007,.whole 1007)] (by kernel_rfl) cm (by simp) (by simp) (by simp[pobL,pobR,q4];exact⟨.inr ⟨_,_,rfl,rfl,by simp⟩,qaa rfl (qam _),qaa rfl (qam _),qaa rfl (clR_lt _),qaa rfl (qak _),qaa rfl (qbh _),qaa rfl (qbd _),qaa rfl (qan _)⟩) (by simp[pobL]) (by simp) ?_
      rintro r L' ⟨d2,c2,rfl,rfl,hq2⟩
      simp only at hq2
      refine⟨[(901,901),(902,902),(903,903),(904,904),(905,905),(906,906),(907,907)],⟨by simp[pobL],by simp,by simp,by simp[pobL],by simp⟩,?_⟩
      simp only[qae]
      by_cases q5:zn≠0
      ·rw[if_pos q5]at hR
       subst hR
       simp -implicitDefEqProofs [pobL,pobR,q5]
       exact⟨pobL d2 c2 true 901 902 903 904 905 906 907,by simp[pobL,pobR],d2,c2,901,902,903,904,905,906,907,by simp[callV],rfl,rfl,fun e=>absurd e q5⟩
      ·rw[if_neg q5]at hR
       have hz0:zn=0:=by omega
       obtain⟨rfl,rfl⟩:=hq2 hz0
       obtain⟨b1,b2⟩:=hk2 hz0
       obtain⟨_,_,a1,a2,a3,_⟩:=hk hz0
       simp -implicitDefEqProofs [pobL,pobR,hz0]
       exact cutW_of (d2,c2) ⟨a1,a3,b1,b2,hR.symm⟩ (sw_can [0,3,4] [(3,3),(1000,1000),(901,901),(902,902),(903,903),(904,904),(905,905),(906,906),(907,907)] (by simp[qag]) (by simp[canon,obOf,clS,pobL,pobR,BO.row,q3]))
     ·rw[if_neg q4]at hR
      simp only[putZ,ne_eq,not_true_eq_false,if_false]at hR
      simp -implicitDefEqProofs [pobL,pobR,BO.row,q4]
      exact cutW_of (d,c) ⟨hd,h,hc,rfl,hR.symm⟩ (sw_can [0,3,4] [(3,3),(1000,1000),(1001,901),(1002,902),(1003,903),(1004,904),(1005,905),(1006,906),(1007,907)] (by simp[qag]) (by simp[canon,obOf,clS,pobL,pobR,BO.row,q3]))
    ·rintro⟨D,C⟩ ⟨hD,hCT,hCc,hnm,hRx⟩
     simp only at hD hCT hCc hnm hRx ⊢
     clear hR
     have hnk:nmP C.sets op.a=nmP c.sets op.a:=by rw[nmP_at,nmP_at,hnm]
     have hlen:C.sets.length=c.sets.length:=by
      have:=congrArg List.length hnm
      simpa using this
     have cp:=iPutsO D hD C hCT hCc true op (by omega) ⟨g5,g6⟩ (by omega)
     rw[hnk]at cp
     have tw:=turnB_ok hD C (nmP c.sets op.a) op.i.toNat op.text
     obtain⟨_,_,_,_,_,_,l1,l2⟩:=qcc hCc
     generalize turnB D C (nmP c.sets op.a) op.i.toNat op.text=W at *
     obtain⟨wd,wc,wn⟩:=W
     simp only[putL]at hRx tw
     simp only[BO.row]at cp
     refine qax _ ?_
     simp -implicitDefEqProofs [clS,pobL,pobR,BO.row]
     refine qab [(1000,.whole 1000),(1001,.whole 901),(1002,.whole 902),(1003,.whole 903),(1004,.whole 904),(1005,.whole 905),(1006,.whole 906),(1007,.whole 907)] (by kernel_rfl) cp (by simp) (by simp) (by simp[pobL,pobR];exact⟨.inr ⟨_,_,rfl,rfl,by simp⟩,qaa rfl (qam _),qaa rfl (qam _),qaa rfl (clR_lt _),qaa rfl (qak _),qaa rfl (qbh _),qaa rfl (qbd _),qaa rfl (qan _)⟩) (by simp[pobL]) (by simp) ?_
     rintro r L' ⟨d2,c2,i3,i5,h3,h5,rfl,rfl,hq2⟩
     simp only[List.mem_cons,List.not_mem_nil,or_false]at h3 h5
     subst h3 h5
     simp only at hq2
     refine⟨[(903,913),(905,915)],⟨by simp[pobL],by simp,by simp,by simp[pobL],by simp⟩,?_⟩
     simp only[qae]
     by_cases q6:wn≠0
     ·rw[if_pos q6]at hRx
      subst hRx
      simp -implicitDefEqProofs [pobL,pobR,q6]
      exact⟨pobL d2 c2 true 901 902 913 904 915 906 907,by simp[pobL,pobR],d2,c2,901,902,913,904,915,906,907,by simp[callV],rfl,rfl,fun e=>absurd e q6⟩
     ·rw[if_neg q6]at hRx
      have hw0:wn=0:=by omega
      obtain⟨rfl,rfl⟩:=hq2 hw0
      have cl:=iLogPutO d2 tw.1 c2 true ⟨op.kind,op.a,[],op.i,op.text⟩ (by omega) ha ht
      generalize logPutB d2 c2 ⟨op.kind,op.a,[],op.i,op.text⟩=v at *
      obtain⟨vd,vc,vo⟩:=v
      simp only[BO.row]at cl hRx
      simp -implicitDefEqProofs [pobL,pobR,hw0,BO.row]
      refine qab [(1000,.whole 1000),(1001,.whole 901),(1002,.whole 902),(1003,.whole 913),(1004,.whole 904),(1005,.whole 915),(1006,.whole 906),(1007,.whole 907)] (by kernel_rfl) cl (by simp) (by simp) (by simp[pobL,pobR];exact⟨.inr ⟨_,_,rfl,rfl,by simp⟩,qaa rfl (qam _),qaa rfl (qam _),qaa rfl (clR_lt _),qaa rfl (qak _),qaa rfl (qbh _),qaa rfl (qbd _),qaa rfl (qan _)⟩) (by simp[pobL]) (by simp) ?_
      rintro r L' ⟨d3,c3,i3,h3,rfl,rfl,hq3⟩
      simp only[List.mem_cons,List.not_mem_nil,or_false]at h3
      subst h3
      simp only at hq3
      refine⟨[(903,923)],⟨by simp[pobL],by simp,by simp,by simp[pobL],by simp⟩,?_⟩
      simp only[qae]
      cases vo with
      | false =>
       rw[if_pos rfl]at hRx
       subst hRx
       simp -implicitDefEqProofs [pobL,pobR]
       exact⟨pobL d3 c3 true 901 902 923 904 915 906 907,by simp[pobL,pobR],d3,c3,901,902,923,904,915,906,907,by simp[callV],rfl,rfl,fun e=>by cases e⟩
      | true =>
       rw[if_neg (by simp)]at hRx
       subst hRx
       simp -implicitDefEqProofs [pobL,pobR]
       exact⟨pobL d3 c3 true 901 902 923 904 915 906 907,by simp[pobL,pobR],d3,c3,901,902,923,904,915,906,907,by simp[callV],rfl,rfl,fun _=>hq3 rfl⟩
 refine key.can ?_
 rintro r L' ⟨d',c',a0,a1,a2,b0,b1,b2,b3,hV,rfl,rfl,hq⟩
 refine⟨[(1000,1000),(a0,901),(a1,902),(a2,903),(b0,904),(b1,905),(b2,906),(b3,907)],?_,?_,?_,?_,d',c',901,902,903,904,905,906,907,by simp,by simp,?_,hq⟩
 all_goals
  simp only[callV,List.mem_cons,List.not_mem_nil,or_false,Prod.mk.injEq]at hV
  rcases hV with⟨rfl,rfl,rfl,rfl,rfl,rfl,rfl⟩ | ⟨rfl,rfl,rfl,rfl,rfl,rfl,rfl⟩ | ⟨rfl,rfl,rfl,rfl,rfl,rfl,rfl⟩ | ⟨rfl,rfl,rfl,rfl,rfl,rfl,rfl⟩ | ⟨rfl,rfl,rfl,rfl,rfl,rfl,rfl⟩ | ⟨rfl,rfl,rfl,rfl,rfl,rfl,rfl⟩
 all_goals simp[pobL,pobR,obOf]
theorem iCallN (d:DK) (c:CO) (op:BO):ACall prog 31 [.ptr 1000 0 0,.agg op.row] (pobL d c false 1001 1002 1003 1004 1005 1006 1007) (fun r L'=>r=.int .i64 9∧L'=pobL d c false 1001 1002 1003 1004 1005 1006 1007):=by
 refine acx func31 [(3,[zI 0,zI 1,zI 2,zJ 3 [1000] [],zJ 5 [3] [1000],⟨4,[1004,1005,1006,1007],[3],[10],[]⟩,⟨6,[25],[],[10],[]⟩,zI 7,zI 8,zI 9,zJ 10 [] [1000,3],zI 11,zI 12]),(7,[zI 0,zI 1,zI 2,zJ 3 [3] [],zJ 4 [1000,1004,1005,1006,1007] [],zI 5]),(18,[zI 0,zI 1,zI 2,zI 3,zI 4,zI 5,zJ 6 [3] [],zJ 7 [901,902,904,906,907,913,915,1000] [],zI 8])] ntmps31 rfl rfl rfl ?_ (hL:=by simp[pobL])
 simp -implicitDefEqProofs [pobL,pobR,BO.row]
theorem turnB_T {d:DK} {c:CO} (h:CoT c) (hm:CoM c) (k i:Nat) (text:List UInt8):CoT (turnB d c k i text).2.1:=by
 unfold turnB
 split
 ·exact h
 rename_i s hs
 have hs8:=h.m8 s (List.mem_of_getElem? hs)
 have hsn:=h.nm s (List.mem_of_getElem? hs)
 have hG:∀ (x:DK) (old now:PT),CoT (turnG d x c k i s old now).2.1:=fun x old now=>by
  unfold turnG
  simp only
  split
  ·exact h
  ·have h1:=refsL_len true (oneM now) (c.ddt,c.dirty,true)
   have h2:=refsL_len false (oneM old) ((refsL true (oneM now) (c.ddt,c.dirty,true)).1,(refsL true (oneM now) (c.ddt,c.dirty,true)).2.1,true)
   have h3:=hm.ddt
   have h4:=hm.sets
   simp only[oneM,List.length_cons,List.length_nil]at h1 h2
   refine⟨by simp;omega,?_,h.parts,h.safe,fun x hx=>?_,fun x hx=>?_⟩
   ·simp only[oneM];omega
   ·rcases List.mem_or_eq_of_mem_set hx with hx | rfl
    ·exact h.m8 x hx
    ·simpa using hs8
   ·rcases List.mem_or_eq_of_mem_set hx with hx | rfl
    ·exact h.nm x hx
    ·exact hsn
 simp only
 split
 ·exact hG _ _ _
 split
 ·exact h
 split
 ·exact h
 split
 ·exact h
 ·exact hG _ _ _
theorem callB_T {d:DK} {c:CO} (hd:dOkB d=true) (h:CoT c) (hc:qaj c=true) (op:BO) (ha:op.a.length≤1048576) (hb:op.b.length≤1048576) (hz:(callB d c op).2.2=0):dOkB (callB d c op).1=true∧CoT (callB d c op).2.1:=by
 obtain⟨hm,k1,k2,k3,k4,k5,k6,k7⟩:=qcc hc
 unfold callB at hz ⊢
 by_cases q1:dnB c op≠0
 ·rw[if_pos q1]at hz;exact absurd hz q1
 rw[if_neg q1]at hz ⊢
 by_cases q2:op.kind≠3
 ·rw[if_pos q2]at hz ⊢
  by_cases q3:(setsD c op).2=false
  ·rw[if_pos q3]at hz;simp at hz
  rw[if_neg q3]at hz ⊢
  obtain⟨_,_,a1,_,a2,_⟩:=commitB_ok (setsD_T h hm op ha hb) hz
  exact⟨a1,a2⟩
 rw[if_neg q2]at hz ⊢
 have key:∀ z:DK×CO×Int,dOkB z.1=true→CoT z.2.1→CoM z.2.1→(putZ d c op z).2.2=0→dOkB (putZ d c op z).1=true∧CoT (putZ d c op z).2.1:=fun z z1 z2 z3 hz=>by
  unfold putZ at hz ⊢
  by_cases q4:z.2.2≠0
  ·rw[if_pos q4]at hz;exact absurd hz q4
  rw[if_neg q4]at hz ⊢
  have t1:=turnB_ok z1 z.2.1 (nmP c.sets op.a) op.i.toNat op.text
  have t2:=turnB_T (d:=z.1) z2 z3 (nmP c.sets op.a) op.i.toNat op.text
  generalize turnB z.1 z.2.1 (nmP c.sets op.a) op.i.toNat op.text=w at *
  unfold putL at hz ⊢
  by_cases q5:w.2.2≠0
  ·rw[if_pos q5]at hz;exact absurd hz q5
  rw[if_neg q5]at hz ⊢
  by_cases q6:(logPutB w.1 w.2.1 ⟨op.kind,op.a,[],op.i,op.text⟩).2.2=false
  ·rw[if_pos q6]at hz;simp at hz
  rw[if_neg q6]
  simp only
  unfold logPutB
  split
  ·exact⟨t1.1,t2⟩
  split
  ·exact⟨t1.1,t2⟩
  ·exact⟨(bWrite_ok t1.1 _ _).1,⟨t2.sets,t2.ddt,t2.parts,t2.safe,t2.m8,t2.nm⟩⟩
 by_cases q4:c.logn=8
 ·rw[if_pos q4]at hz ⊢
  by_cases q5:(qbu d c).2.2=0
  ·obtain⟨_,_,a1,_,a2,a3,_⟩:=commitB_ok h q5
   exact key _ a1 a2 a3 hz
  ·unfold putZ at hz
   rw[if_pos q5]at hz
   exact absurd hz q5
 ·rw[if_neg q4]at hz ⊢
  exact key (d,c,0) hd h hm hz
def pcQ (p:PO) (R:PO×Int) (r:AV) (L':List (Nat×Ob)):Prop :=
 (poolOkB p=false∧r=.tup [.agg [.nils,.nils,.nils,.int .i64 0,.nils,.nils,.nils,.bool false,.nils,.int .i64 0,.bool false],.int .i64 5]∧L'=[]) ∨
 (r=.tup [.agg (poolA R.1 901 902 903 904 905 906 907),.int .i64 R.2]∧L'=poolL R.1 901 902 903 904 905 906 907)
theorem iPoolCallO (p:PO) (hd:DkT p.d) (hc:CoT p.c) (op:BO) (ha:op.a.length≤1048576) (hb:op.b.length≤1048576) (ht:op.text.length≤1048576) :
  ACall prog 11 [.agg p.row,.agg op.row] [] (pcQ p (poolB p op)):=by
 obtain⟨R,hR⟩:∃ R,poolB p op=R:=⟨_,rfl⟩
 rw[hR]
 unfold poolB at hR
 have c1:=iPoolOkC p hd hc
 have c2:=iPOwnO p hd hc
 simp only[PO.row,DK.row,CO.row]at c1 c2
 refine acx func11 [] ntmps11 rfl rfl rfl ?_
 simp -implicitDefEqProofs [PO.row,DK.row,CO.row,BO.row]
 refine c1.call ?_
 cases hok:poolOkB p with
 | false =>
  rw[if_pos hok]at hR
  subst hR
  simp -implicitDefEqProofs
  exact⟨[],by simp,.inl ⟨hok,rfl,rfl⟩⟩
 | true =>
  rw[if_neg (by simp[hok])]at hR
  have hok2:=hok
  simp only[poolOkB,Bool.and_eq_true,decide_eq_true_eq]at hok
  simp -implicitDefEqProofs [PO.row,DK.row,CO.row,BO.row]
  refine qab [] (by kernel_rfl) c2 (by simp[cs_cl,DE.row,PT.row,qad,qaf,LT.row]) (by simp) trivial (by simp) (by simp) ?_
  rintro r L' ⟨rfl,rfl⟩
  refine⟨[(901,801),(902,802),(903,803),(904,804),(905,805),(906,806),(907,807)],⟨by simp[poolL],by simp,by simp,by simp[poolL],by simp⟩,?_⟩
  simp only[qae]
  cases hu:p.up with
  | false =>
   rw[if_pos hu]at hR
   subst hR
   have c3:=iCallN p.d p.c op
   simp only[BO.row]at c3
   rw[hu]at c2
   simp -implicitDefEqProofs [poolL,poolA,hu,BO.row]
   refine qab [(1000,.whole 6),(1001,.whole 801),(1002,.whole 802),(1003,.whole 803),(1004,.whole 804),(1005,.whole 805),(1006,.whole 806),(1007,.whole 807)] (by kernel_rfl) c3 (by simp) (by simp) (by simp[pobL,pobR];exact⟨.inr ⟨_,_,rfl,rfl,by simp⟩,qaa rfl (qam _),qaa rfl (qam _),qaa rfl (clR_lt _),qaa rfl (qak _),qaa rfl (qbh _),qaa rfl (qbd _),qaa rfl (qan _)⟩) (by simp[pobL]) (by simp) ?_
   rintro r L' ⟨rfl,rfl⟩
   refine⟨[],⟨by simp[pobL],by simp,by simp,by simp[pobL],by simp⟩,?_⟩
   simp only[qae]
   simp -implicitDefEqProofs [pobL,pobR]
   simp only[List.cons_append,List.nil_append]at c2
   refine qab [] (by kernel_rfl) c2 (by simp[cs_cl,DE.row,PT.row,qad,qaf,LT.row]) (by simp) trivial (by simp) (by simp) ?_
   rintro r L' ⟨rfl,rfl⟩
   refine⟨[(901,901),(902,902),(903,903),(904,904),(905,905),(906,906),(907,907)],⟨by simp[poolL],by simp,by simp,by simp[poolL],by simp⟩,?_⟩
   simp only[qae]
   simp -implicitDefEqProofs [poolL,poolA]
   exact⟨poolL p 901 902 903 904 905 906 907,by simp[poolL],.inr ⟨by simp[poolA,hu],rfl⟩⟩
  | true =>
   rw[if_neg (by simp[hu])]at hR
   have c3:=iCallO p.d hok.1.1 p.c hc hok.2 op ha hb ht
   have hcb:=@callB_T p.d p.c hok.1.1 hc hok.2 op ha hb
   generalize callB p.d p.c op=W at *
   obtain⟨wd,wc,wn⟩:=W
   simp only at hR
   simp only[BO.row]at c3
   simp -implicitDefEqProofs [poolL,poolA,hu,BO.row]
   refine qab [(1000,.whole 6),(1001,.whole 801),(1002,.whole 802),(1003,.whole 803),(1004,.whole 804),(1005,.whole 805),(1006,.whole 806),(1007,.whole 807)] (by kernel_rfl) c3 (by simp) (by simp) (by simp[pobL,pobR];exact⟨.inr ⟨_,_,rfl,rfl,by simp⟩,qaa rfl (qam _),qaa rfl (qam _),qaa rfl (clR_lt _),qaa rfl (qak _),qaa rfl (qbh _),qaa rfl (qbd _),qaa rfl (qan _)⟩) (by simp[pobL]) (by simp) ?_
   rintro r L' ⟨d',c',a0,a1,a2,b0,b1,b2,b3,hV,rfl,rfl,hq⟩
   simp only[List.mem_cons,List.not_mem_nil,or_false,Prod.mk.injEq]at hV
   obtain⟨rfl,rfl,rfl,rfl,rfl,rfl,rfl⟩:=hV
   refine⟨[(901,811),(902,812),(903,813),(904,814),(905,815),(906,816),(907,817)],⟨by simp[pobL],by simp,by simp,by simp[pobL],by simp⟩,?_⟩
   simp only[qae]
   by_cases q:wn≠0
   ·rw[if_pos q]at hR
    subst hR
    simp -implicitDefEqProofs [pobL,pobR,q]
    rw[hu]at c2
    simp only[List.cons_append,List.nil_append]at c2
    refine qab [] (by kernel_rfl) c2 (by simp[cs_cl,DE.row,PT.row,qad,qaf,LT.row]) (by simp) trivial (by simp) (by simp) ?_
    rintro r L' ⟨rfl,rfl⟩
    refine⟨[(901,901),(902,902),(903,903),(904,904),(905,905),(906,906),(907,907)],⟨by simp[poolL],by simp,by simp,by simp[poolL],by simp⟩,?_⟩
    simp only[qae]
    simp -implicitDefEqProofs [poolL,poolA]
    exact⟨poolL p 901 902 903 904 905 906 907,by simp[poolL],.inr ⟨by simp[poolA,hu],rfl⟩⟩
   ·rw[if_neg q]at hR
    subst hR
    have hq0:wn=0:=by omega
    obtain⟨rfl,rfl⟩:=hq hq0
    obtain⟨e1,e2⟩:=hcb hq0
    have c4:=iPOwnO ⟨d',c',true⟩ (dOk_T e1) e2
    simp only[PO.row,DK.row,CO.row,List.cons_append,List.nil_append]at c4
    simp -implicitDefEqProofs [pobL,pobR,hq0]
    refine qay [] (by kernel_rfl) c4 (by simp[vwOk,mtA,strOb,ltOb,kcs,deOb,kpt,kin,qap,cs_cl,qaf,LT.row]) (by simp) trivial (by simp) (by simp) ?_
    rintro r L' ⟨rfl,rfl⟩
    refine⟨by simp[poolA,noL],by simp[poolL,strOb,ltOb,kcs,deOb,kpt,kin,qad,DE.row,PT.row,noL_cs,qaf,LT.row],[(901,901),(902,902),(903,903),(904,904),(905,905),(906,906),(907,907)],⟨by simp[poolL],by simp,by simp,by simp[poolL],by simp⟩,?_⟩
    simp only[qae]
    simp -implicitDefEqProofs [poolL,poolA]
    exact⟨poolL ⟨d',c',true⟩ 901 902 903 904 905 906 907,by simp[poolL],.inr ⟨by simp[poolA],rfl⟩⟩
end Go.Av.F
end
