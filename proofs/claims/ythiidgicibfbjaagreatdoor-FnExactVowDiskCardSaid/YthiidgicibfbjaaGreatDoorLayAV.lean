/- Lemmas for the proof, no statement of the seat; no conditions. -/
import Derived.Test.YthiidgicibfbjaaGreatDoorLayAU
set_option linter.unusedSimpArgs false
set_option linter.unusedVariables false
set_option linter.unnecessarySimpa false
set_option maxRecDepth 100000
set_option maxHeartbeats 400000
section
namespace Go.Av.F
open Go Go.Av Go.Proofs Go.Proofs.Tryz
theorem qoS (d:DK) (hd:DkT d) (c:CO) (h:CoT c):CV prog 110 [.agg d.row,.agg c.row] (.bool (qbr d && qal c && decide (13<d.s0.length))):=by
 have c1:=qhB d hd;have c2:=qir c h;have hl:=hd.l0;simp only[DK.row,CO.row]at c1 c2;refine cvx func110 [] ntmps110 rfl rfl rfl ?_ (hca:=by simp[DK.row,qda]);simp[DK.row,CO.row];refine c1.call ?_;cases qbr d with
 | false=>simp
 | true =>
  simp[DK.row,CO.row];refine c2.call ?_;cases qal c with
  | false=>simp
  | true =>
   simp[DK.row,CO.row];omega
def qC2 (d:DK) (c:CO) (r:AV) (L':List (Nat×Ob)):Prop :=
 (qc8 d c=false∧r=.tup [.nilp,.bool false]∧L'=[])∨(qc8 d c=true∧r=.tup [.ptr 1000 0 0,.bool true]∧L'=cmL d c (qaS c d.s0.length) 0 1003 1006)
theorem qBW (d:DK) (hd:qbr d=true) (c:CO) (h:CoT c) (hc:qal c=true):ACall prog 111 [.agg d.row,.agg c.row] [] (qC2 d c):=by
 obtain⟨hm,k1,k2,k3,k4,k5,k6,k7⟩:=qbs hc;obtain⟨g1,g2,g3,g4,_⟩:=qbP hd;have c1:=qra c h hc d.s0.length (by omega);have c2:=qws c h hc;have c3:=qiq d (qeo hd);have c4:=qlC c h;have hfl:=qlL c d.s0.length;have hmay:qc8 d c=(decide (c.txg<1000000) && decide (qcy c≤(qaS c d.s0.length).length)):=rfl;generalize hF:qaS c d.s0.length=F at *
 generalize qcy c=N at *
 have key:ACall prog 111 [.agg d.row,.agg c.row] [] (fun r L'=>(qc8 d c=false∧r=.tup [.nilp,.bool false]∧L'=[])∨(qc8 d c=true∧r=.tup [.ptr 29 0 0,.bool true] ∧
   L'=[(29,⟨17,[[.sl 801 0 d.s0.length,.sl 802 0 d.s1.length,.sl 803 0 d.late.length,.int .i64 c.txg,.sl 804 0 c.sets.length,.sl 805 0 c.ddt.length,.sl 806 0 c.parts.length,.bool c.dirty,.sl 807 0 c.safe.length,.int .i64 c.logn,.sl 808 0 F.length,.nils,.nils,.nils,.nils,.nils,.nils]]⟩),
    (801,qap d.s0),(802,qap d.s1),(803,qcz d.late),(804,kcs c.sets),(805,qaJ c.ddt),(806,kpt c.parts),(807,kin c.safe),(808,kin F)])):=by
  refine acx func111 [(4,[zJ 0 [2] [],zJ 2 [3] [2],zJ 4 [] [2,3],zJ 1 [] [3],zI 3,zI 5,zI 6,zI 7,zI 8])] ntmps111 rfl rfl rfl ?_;simp only[DK.row,CO.row]at c1 c2 c3 c4;simp[DK.row,CO.row,show(0:Nat)<d.s0.length by omega];refine qac [] (by kernel_rfl) c1 (by simp[qbv,DE.row,PT.row,qae]) (by simp) trivial (by simp) (by simp) ?_;rintro r L' ⟨rfl,rfl⟩;refine⟨[(900,808)],⟨by simp,by simp,by simp,by simp,by simp⟩,?_⟩;simp only[qad];by_cases q1:c.txg=1000000
  ·rw[show qc8 d c=false by rw[hmay];simp;omega];simp[DK.row,CO.row,q1]
  ·simp[DK.row,CO.row,q1];refine c2.call ?_;by_cases q2:F.length<N
   ·rw[show qc8 d c=false by rw[hmay];simp;omega];simp[show(F.length:Int)<N by omega]
   ·rw[show qc8 d c=true by rw[hmay];simp;omega];simp[show ¬ (F.length:Int)<N by omega];refine qac [] (by kernel_rfl) c3 (by simp[qaf,LT.row]) (by simp) trivial (by simp) (by simp) ?_;rintro r L' ⟨rfl,rfl⟩;refine⟨[(6,801),(10,802),(14,803)],⟨by simp,by simp,by simp,by simp,by simp⟩,?_⟩;simp only[qad];simp;refine qac [] (by kernel_rfl) c4 (by simp[qbv,DE.row,PT.row,qae]) (by simp) trivial (by simp) (by simp) ?_;rintro r L' ⟨rfl,rfl⟩;refine⟨[(5,804),(8,805),(11,806),(14,807)],⟨by simp,by simp,by simp,by simp,by simp⟩,?_⟩;simp only[qad];simp[qcM]
 refine key.can ?_;rintro r L' (⟨h1,rfl,rfl⟩ | ⟨h1,rfl,rfl⟩)
 ·refine⟨[],by simp,by simp,by simp,by simp,.inl ⟨h1,by simp,by simp⟩⟩
 ·refine⟨[(29,1000),(801,1001),(802,1002),(803,1003),(804,1004),(805,1005),(806,1006),(807,1007),(808,1008)],by simp,by simp,by simp,by simp,.inr ⟨h1,by simp,?_⟩⟩;rw[hF];simp[cmL,cmR,qah]
theorem qqI:∀ (m:List PT),noL (m.flatMap PT.row)=true
 | []=>rfl
 | p::r=>by
  rw[qFZ,qe9,qqI r];rfl
theorem qg3 (s:CS):noL s.row=true:=by
 have e:s.row=[.str s.name,.int .i64 s.kind,.str s.frm]++(s.map.flatMap PT.row++(s.home.row++[.bool s.dirty])):=by simp[CS.row]
 rw[e,qe9,qe9,qqI];rfl
def cdQ (R:DK×CO×Int) (r:AV) (L':List (Nat×Ob)):Prop :=
 (R.2.2=5∧r=.tup [.agg [.nils,.nils,.nils],.agg [.int .i64 0,.nils,.nils,.nils,.bool false,.nils,.int .i64 0],.int .i64 5]∧L'=[]) ∨
 (r=.tup [.agg (qcA R.1 901 902 903),qcM R.2.1 904 905 906 907,.int .i64 R.2.2]∧L'=[(901,qap R.1.s0),(902,qap R.1.s1),(903,qcz R.1.late),(904,kcs R.2.1.sets),(905,qaJ R.2.1.ddt),(906,kpt R.2.1.parts),(907,kin R.2.1.safe)])
theorem qsS (d:DK) (hd:DkT d) (c:CO) (h:CoT c):ACall prog 119 [.agg d.row,.agg c.row] [] (cdQ (qbn d c)):=by
 have hcb:=@qjB d c h;obtain⟨R,hR⟩:∃ R,qbn d c=R:=⟨_,rfl⟩;rw[hR]at hcb ⊢;unfold qbn at hR;have c0:=qoS d hd c h;have c3:=qiq d hd;have c4:=qlC c h;simp only[DK.row,CO.row]at c0 c3 c4;refine acx func119 [(5,[zJ 0 [2] [],zJ 2 [3] [2],zJ 1 [] [3],zI 3,zI 4,zI 5,zI 6]),(6,[zI 0,zI 1,zI 2,zJ 3 [800] [],zJ 5 [] [800],zJ 6 [] [800],zJ 7 [] [800],zJ 8 [800] [800],zJ 4 [801,802,813] [800],zJ 9 [804,805,816,817] [],zI 10,zI 11,zI 12])] ntmps119 rfl rfl rfl ?_;simp[DK.row,CO.row];refine c0.call ?_;by_cases hok:qbr d=false∨qal c=false∨d.s0.length≤13
 ·rw[if_pos hok]at hR;subst hR;rw[show(qbr d && qal c && decide (13<d.s0.length))=false by
   rcases hok with e | e | e
   ·rw[e];rfl
   ·rw[e];simp
   ·simp;omega]
  simp;exact⟨[],by simp,.inl ⟨rfl,rfl,rfl⟩⟩
 ·have ho:qbr d=true∧qal c=true∧13<d.s0.length:=by
   refine⟨?_,?_,?_⟩
   ·cases e:qbr d with
    | true=>rfl
    | false=>exact absurd (.inl e) hok
   ·cases e:qal c with
    | true=>rfl
    | false=>exact absurd (.inr (.inl e)) hok
   ·have:¬ d.s0.length≤13:=fun e=>hok (.inr (.inr e));omega
  obtain⟨o1,o2,o3⟩:=ho;rw[if_neg hok]at hR;rw[show(qbr d && qal c && decide (13<d.s0.length))=true by simp[o1,o2,o3]];obtain⟨hm,k1,k2,k3,k4,k5,k6,k7⟩:=qbs o2;have c5:=qBW d o1 c h o2;simp only[DK.row,CO.row]at c5;simp[DK.row,CO.row];refine qac [] (by kernel_rfl) c5 (by simp[qaf,LT.row,qbv,DE.row,PT.row,qae]) (by simp) trivial (by simp) (by simp) ?_;rintro r L' (⟨hma,rfl,rfl⟩ | ⟨hma,rfl,rfl⟩)
  ·rw[if_pos hma]at hR;subst hR;refine⟨[],⟨by simp,by simp,by simp,by simp,by simp⟩,?_⟩;simp only[qad];simp;refine qac [] (by kernel_rfl) c3 (by simp[qaf,LT.row]) (by simp) trivial (by simp) (by simp) ?_;rintro r L' ⟨rfl,rfl⟩;refine⟨[(6,901),(10,902),(14,903)],⟨by simp,by simp,by simp,by simp,by simp⟩,?_⟩;simp only[qad];simp;refine qac [] (by kernel_rfl) c4 (by simp[qbv,DE.row,PT.row,qae]) (by simp) trivial (by simp) (by simp) ?_;rintro r L' ⟨rfl,rfl⟩;refine⟨[(5,904),(8,905),(11,906),(14,907)],⟨by simp,by simp,by simp,by simp,by simp⟩,?_⟩;simp only[qad];simp[qcM];exact⟨[(901,qap d.s0),(902,qap d.s1),(903,qcz d.late),(904,kcs c.sets),(905,qaJ c.ddt),(906,kpt c.parts),(907,kin c.safe)],by simp,.inr ⟨rfl,rfl⟩⟩
  ·rw[if_neg (by simp[hma])]at hR;have hma2:=hma;simp only[qc8,Bool.and_eq_true,decide_eq_true_eq]at hma2;have c6:=qBV d o1 c h o2 hma2.2 hma2.1;refine⟨[(1000,800),(1001,801),(1002,802),(1003,803),(1004,804),(1005,805),(1006,806),(1007,807),(1008,808)],⟨by simp[cmL],by simp,by simp,by simp[cmL],by simp⟩,?_⟩;simp only[qad];simp[cmL,cmR];refine qac [(1000,.whole 800),(1001,.whole 801),(1002,.whole 802),(1003,.whole 803),(1004,.whole 804),(1005,.whole 805),(1006,.whole 806),(1007,.whole 807),(1008,.whole 808)] (by kernel_rfl) c6 (by simp) (by simp) (by simp[cmL,cmR];exact⟨.inr ⟨_,_,rfl,rfl,by simp⟩,qaa rfl (qaI _),qaa rfl (qaI _),qaa rfl (qcO _),qaa rfl (qa2 _),qaa rfl (qbL _),qaa rfl (qbo _),qaa rfl (qaQ _),qaa rfl (qaQ _)⟩) (by simp[cmL]) (by simp) ?_;rintro r L' (⟨h1,rfl,c',j,rfl⟩ | ⟨h1,rfl,D,c',j,i3,i7,h3,h7,rfl,hq⟩)
   ·have h7:(qdW d c).2.2=7:=by unfold qdW;rw[if_pos h1]
    rw[if_pos (by rw[h7];decide),h7]at hR;subst hR;refine⟨[(903,813),(906,816),(911,821),(912,822),(913,823)],⟨by simp[cmO],by simp,by simp,by simp[cmO],by simp⟩,?_⟩;simp only[qad];simp[cmO,cmT,qcA];refine qac [] (by kernel_rfl) c3 (by simp[qaf,LT.row]) (by simp) trivial (by simp) (by simp) ?_;rintro r L' ⟨rfl,rfl⟩;refine⟨[(6,901),(10,902),(14,903)],⟨by simp,by simp,by simp,by simp,by simp⟩,?_⟩;simp only[qad];simp;refine qac [] (by kernel_rfl) c4 (by simp[qbv,DE.row,PT.row,qae]) (by simp) trivial (by simp) (by simp) ?_;rintro r L' ⟨rfl,rfl⟩;refine⟨[(5,904),(8,905),(11,906),(14,907)],⟨by simp,by simp,by simp,by simp,by simp⟩,?_⟩;simp only[qad];simp[qcM];exact⟨[(901,qap d.s0),(902,qap d.s1),(903,qcz d.late),(904,kcs c.sets),(905,qaJ c.ddt),(906,kpt c.parts),(907,kin c.safe)],by simp,.inr ⟨rfl,rfl⟩⟩
   ·simp only[qE3,qFc,or_false]at h3 h7;subst h3;subst h7;refine⟨[(903,813),(906,816),(907,817),(911,821),(912,822),(913,823),(921,831),(922,832),(923,833)],⟨by simp[cmO,qiQ],by simp,by simp,by simp[cmO,qiQ],by simp⟩,?_⟩;simp only[qad];by_cases q:(qdW d c).2.2=0
    ·rw[if_neg (by simp[q])]at hR;obtain⟨rfl,rfl⟩:=hq q;have hz:=hcb (by rw[← hR];exact q);subst hR;generalize qdW d c=Z at *
     obtain⟨zd,zc,zn⟩:=Z;simp only at q hz;subst q;have c7:=qiq zd (qeo hz.2.2.1);have c8:=qlC zc hz.2.2.2.2.1;simp only[DK.row,CO.row]at c7 c8;simp[cmO,cmT,qiQ,qcA];refine qaK [] (by kernel_rfl) c7 (by simp[qb5,mtA,qap,qcz,qak,qaf,LT.row]) (by simp) trivial (by simp) (by simp) ?_;rintro r L' ⟨rfl,rfl⟩;refine⟨by simp,by simp[qap,qaf,qcz,LT.row],[(6,901),(10,902),(14,903)],⟨by simp,by simp,by simp,by simp,by simp⟩,?_⟩;simp only[qad];simp;refine qaK [] (by kernel_rfl) c8 (by simp[qb5,mtA,kcs,qaJ,kpt,kin,qak,qbv]) (by simp) trivial (by simp) (by simp) ?_;rintro r L' ⟨rfl,rfl⟩;refine⟨by simp[qcM],by simp[kcs,qaJ,kpt,kin,qae,DE.row,PT.row,qg3],[(5,904),(8,905),(11,906),(14,907)],⟨by simp,by simp,by simp,by simp,by simp⟩,?_⟩;simp only[qad];simp[qcM];exact⟨[(901,qap zd.s0),(902,qap zd.s1),(903,qcz zd.late),(904,kcs zc.sets),(905,qaJ zc.ddt),(906,kpt zc.parts),(907,kin zc.safe)],by simp,.inr ⟨rfl,rfl⟩⟩
    ·have h7:(qdW d c).2.2=7:=by
      unfold qdW at q ⊢;split
      ·rfl
      ·rename_i g1;rw[if_neg g1]at q;split
       ·rfl
       ·rename_i g2;rw[if_neg g2]at q;simp at q
     rw[if_pos q]at hR;subst hR;generalize qdW d c=Z at *
     obtain⟨zd,zc,zn⟩:=Z;simp only at q h7;subst h7;simp[cmO,cmT,qiQ,qcA,q];refine qac [] (by kernel_rfl) c3 (by simp[qaf,LT.row]) (by simp) trivial (by simp) (by simp) ?_;rintro r L' ⟨rfl,rfl⟩;refine⟨[(6,901),(10,902),(14,903)],⟨by simp,by simp,by simp,by simp,by simp⟩,?_⟩;simp only[qad];simp;refine qac [] (by kernel_rfl) c4 (by simp[qbv,DE.row,PT.row,qae]) (by simp) trivial (by simp) (by simp) ?_;rintro r L' ⟨rfl,rfl⟩;refine⟨[(5,904),(8,905),(11,906),(14,907)],⟨by simp,by simp,by simp,by simp,by simp⟩,?_⟩;simp only[qad];simp[qcM];exact⟨[(901,qap d.s0),(902,qap d.s1),(903,qcz d.late),(904,kcs c.sets),(905,qaJ c.ddt),(906,kpt c.parts),(907,kin c.safe)],by simp,.inr ⟨rfl,rfl⟩⟩
theorem qkz {q:Int}:∀ {l:List DE},(∀ e∈l,q<e.ea∧qb7 e=true)→l.Pairwise (fun a b=>a.ea<b.ea)→qf9 q l=true
 | [],_,_=>rfl
 | x::r,h,hp=>by
  rw[qGC]at hp;have hx:=h x (by simp);simp only[qf9,Bool.and_eq_true,decide_eq_true_eq];exact⟨⟨hx.2,hx.1⟩,qkz (fun e he=>⟨hp.1 e he,(h e (by simp[he])).2⟩) hp.2⟩
theorem qgQ {q:Int}:∀ {l:List DE},qf9 q l=true→l.Pairwise (fun a b=>a.ea<b.ea)
 | [],_=>.nil
 | x::r,h=>by
  simp only[qf9,Bool.and_eq_true,decide_eq_true_eq]at h;rw[qGC];exact⟨fun e he=>((qcf h.2).1 e he).1,qgQ h.2⟩
theorem qlX {l:List DE} (h:qaj l=true) (a:Int):(∀ e∈l.take (ddP l a),e.ea<a)∧(∀ e∈l.drop (ddP l a),a≤e.ea):=by
 simp only[qaj,Bool.and_eq_true,decide_eq_true_eq]at h;obtain⟨h1,h2⟩:=qcf h.2;have hu:UpC (fun e:DE=>e.ea-a) l:=fun i j x y hij hx hy hc=>by
  have:=h2 i j x y hij hx hy
  first | omega | (simp only at hc ⊢;omega)
 refine⟨fun e he=>?_,fun e he=>?_⟩
 ·obtain⟨i,hi⟩:=qGy.1 he;rw[qDx]at hi;split at hi
  ·rename_i hlt;rcases Int.lt_or_le (e.ea-a) 0 with h3 | h3
   ·omega
   ·have:=qjF (c:=fun e:DE=>e.ea-a) hi (by simpa using h3);unfold ddP at hlt;omega
  ·cases hi
 ·obtain⟨i,hi⟩:=qGy.1 he;rw[qD4]at hi;rcases Int.lt_or_le (e.ea-a) 0 with h3 | h3
  ·have:=ql7 hu hi h3;unfold ddP at this;omega
  ·omega
theorem qkB {l:List DE} (h:qaj l=true) {a:Int} (hT:ddT l a=false):∀ e∈l,e.ea≠a:=by
 intro e he hea;have hs:=qlX h a;rw[← qDJ (ddP l a) l]at he;rcases qE5.1 he with he | he
 ·have:=hs.1 e he;omega
 ·unfold ddT bsT at hT;obtain⟨i,hi⟩:=qGy.1 he;rw[qD4]at hi;simp only[qaj,Bool.and_eq_true,decide_eq_true_eq]at h;obtain⟨h1,h2⟩:=qcf h.2;cases hx:l[bsK (fun e=>e.ea-a) l]? with
  | none =>
   have:=qGz.1 hx;have:=(qEb.1 hi).1;unfold ddP at *
   omega
  | some y =>
   rw[hx]at hT;have hy:y.ea≠a:=by
    intro e;simp[e]at hT
   have hm:y∈l.drop (ddP l a):=qGy.2 ⟨0,by rw[qD4];exact hx⟩;have h3:=hs.2 y hm;by_cases hi0:i=0
   ·subst hi0;rw[qEB]at hi;unfold ddP at hi;rw[hx]at hi;injection hi with hi;exact hy (hi ▸ hea)
   ·have:=h2 (ddP l a) (ddP l a+i) y e (by omega) hx hi;omega
theorem qoh {l:List DE} (h:qaj l=true) {k:Nat} {e e':DE} (he:l[k]?=some e) (h1:e'.ea=e.ea) (h2:qb7 e'=true):qaj (l.set k e')=true:=by
 simp only[qaj,Bool.and_eq_true,decide_eq_true_eq,qEs]at h ⊢;refine⟨h.1,?_⟩;have hp:=qgQ h.2;obtain⟨g1,_⟩:=qcf h.2;refine qkz (fun x hx=>?_) ?_
 ·rcases qGw hx with hx | rfl
  ·exact g1 x hx
  ·exact⟨by rw[h1];exact(g1 e (qFu he)).1,h2⟩
 ·have hm:(l.set k e').map DE.ea=l.map DE.ea:=by
   rw[qFG,h1];apply qF5;intro i;rw[qEC];split
   ·rename_i hki;subst hki;split
    ·simp[he]
    ·rename_i hlt;exact absurd (by simpa using (qEb.1 he).1) hlt
   ·rfl
  have e1:(l.map DE.ea).Pairwise (· < ·):=List.pairwise_map.2 hp;rw[← hm]at e1;exact List.pairwise_map.1 e1
theorem qoi {l:List DE} (h:qaj l=true) {s a:Int} (ho:(qbZ l s a).2=true):qaj (qbZ l s a).1=true:=by
 have h':=h;simp only[qaj,Bool.and_eq_true,decide_eq_true_eq]at h';have hp:=qgQ h'.2;obtain⟨g1,_⟩:=qcf h'.2;unfold qbZ at ho ⊢;rw[if_neg (by simp[h])]at ho ⊢;cases hen:qb7 ⟨s,a,1⟩with
 | false=>rw[if_pos hen]at ho;cases ho
 | true =>
  rw[if_neg (by simp[hen])]at ho ⊢;cases hT:ddT l a with
  | true =>
   rw[if_pos hT]at ho;rw[if_pos rfl];cases he:l[ddP l a]? with
   | none=>rw[he]at ho;cases ho
   | some e =>
    rw[he]at ho;simp only at ho ⊢;by_cases hq:e.es≠s∨e.ec=1000
    ·rw[if_pos hq]at ho;cases ho
    ·rw[if_neg hq];refine qoh h he rfl ?_;have:=(g1 e (qFu he)).2;simp only[qb7,Bool.and_eq_true,decide_eq_true_eq]at this ⊢;omega
  | false =>
   rw[if_neg (by simp[hT])]at ho;rw[if_neg (by simp)];by_cases hl:l.length=48
   ·rw[if_pos hl]at ho;cases ho
   ·rw[if_neg hl];have hs:=qlX h a;have hne:=qkB h hT;have hsp:=qDJ (ddP l a) l;have hp2:(l.take (ddP l a)++l.drop (ddP l a)).Pairwise (fun a b=>a.ea<b.ea):=by rw[hsp];exact hp
    rw[qGD]at hp2;have hk:=qlY l a;simp only[qaj,Bool.and_eq_true,decide_eq_true_eq];refine⟨by simp;omega,qkz (fun x hx=>?_) ?_⟩
    ·rcases qE5.1 hx with hx | hx
     ·exact g1 x (qF7 hx)
     ·rcases qE3.1 hx with rfl | hx
      ·simp only[qb7,Bool.and_eq_true,decide_eq_true_eq]at hen;exact⟨by simp only;omega,by simp[qb7];omega⟩
      ·exact g1 x (qFU hx)
    ·rw[qGD,qGC];refine⟨hp2.1,⟨fun y hy=>?_,hp2.2.1⟩,fun x hx y hy=>?_⟩
     ·have:=hs.2 y hy;have:=hne y (qFU hy);simp only;omega
     ·rcases qE3.1 hy with rfl | hy
      ·exact hs.1 x hx
      ·exact hp2.2.2 x hx y hy
theorem qlZ {l:List DE} (h:qaj l=true) {a:Int} (ho:(qbi l a).2=true):qaj (qbi l a).1=true:=by
 have h':=h;simp only[qaj,Bool.and_eq_true,decide_eq_true_eq]at h';have hp:=qgQ h'.2;obtain⟨g1,_⟩:=qcf h'.2;unfold qbi at ho ⊢;rw[if_neg (by simp[h])]at ho ⊢;cases hT:ddT l a with
 | false=>rw[if_pos hT]at ho;cases ho
 | true =>
  rw[if_neg (by simp[hT])]at ho;rw[if_neg (by simp)];cases he:l[ddP l a]? with
  | none=>rw[he]at ho;cases ho
  | some e =>
   simp only;by_cases hq:e.ec=1
   ·rw[if_pos hq];have hsub:(l.take (ddP l a)++l.drop (ddP l a+1)).Sublist l:=by
     conv=>rhs;rw[← qDJ (ddP l a) l]
     refine List.Sublist.append (List.Sublist.refl _) ?_;rw[← qDP];exact List.drop_sublist _ _
    have hl:=hsub.length_le;simp only[qaj,Bool.and_eq_true,decide_eq_true_eq];exact⟨by omega,qkz (fun x hx=>g1 x (hsub.subset hx)) (hp.sublist hsub)⟩
   ·rw[if_neg hq];refine qoh h he rfl ?_;have:=(g1 e (qFu he)).2;simp only[qb7,Bool.and_eq_true,decide_eq_true_eq]at this ⊢;omega
theorem qqp {l:List DE} (h:qaj l=true) {more:Bool} {p:PT} (ho:(qhh more l p).2=true):qaj (qhh more l p).1=true:=by
 unfold qhh at ho ⊢;split
 ·rename_i e;rw[if_pos e]at ho;exact qoi h ho
 ·rename_i e;rw[if_neg e]at ho;exact qlZ h ho
theorem qfQ (more:Bool):∀ (m:List PT) (l:List DE) (b:Bool),(qbI more m (l,b,false)).2.2=false
 | [],l,b=>rfl
 | p::q,l,b=>by
  simp only[qbI];split
  ·exact qfQ more q l b
  ·simp only[qGE];exact qfQ more q _ true
theorem qj0 (more:Bool):∀ (m:List PT) (l:List DE) (b:Bool),qaj l=true→(qbI more m (l,b,true)).2.2=true→qaj (qbI more m (l,b,true)).1=true
 | [],l,b,h,_=>h
 | p::q,l,b,h,ho=>by
  simp only[qbI]at ho ⊢;split
  ·rename_i e;rw[if_pos e]at ho;exact qj0 more q l b h ho
  ·rename_i e;rw[if_neg e]at ho;simp only[qFP]at ho ⊢;cases hq:(qhh more l p).2 with
   | false=>rw[hq,qfQ]at ho;cases ho
   | true =>
    rw[hq]at ho;exact qj0 more q _ true (qqp h hq) ho
def qcp (c:CO) (i1 i2:Nat):List (Nat×Ob):=[(1000,⟨7,[[.int .i64 c.txg,.sl i1 0 c.sets.length,.sl i2 0 c.ddt.length,.sl 1003 0 c.parts.length,.bool c.dirty,.sl 1004 0 c.safe.length,.int .i64 c.logn]]⟩),(i1,kcs c.sets),(i2,qaJ c.ddt),(1003,kpt c.parts),(1004,kin c.safe)]
def qCL (xs:List Nat) (c:CO) (R:List DE×Bool×Bool) (r:AV) (L':List (Nat×Ob)):Prop:=∃ l b i2,i2∈xs∧r=.bool R.2.2∧L'=qcp ⟨c.txg,c.sets,l,c.parts,b,c.safe,c.logn⟩ 1001 i2∧(R.2.2=true→l=R.1∧b=R.2.1)
theorem qre (c:CO) (hd:qaj c.ddt=true) (m:List PT) (hm:∀ p∈m,0≤p.pa∧p.pa≤1000) (hml:m.length≤1000) (more:Bool) :
  ACall prog 223 [.ptr 1000 0 0,.lst 3 (m.map PT.row),.bool more] (qcp c 1001 1002) (qCL [902] c (qbI more m (c.ddt,c.dirty,true))):=by
 obtain⟨R,hR⟩:∃ R,qbI more m (c.ddt,c.dirty,true)=R:=⟨_,rfl⟩;rw[hR];have key:ACall prog 223 [.ptr 1000 0 0,.lst 3 (m.map PT.row),.bool more] (qcp c 1001 1002) (qCL [902,33,46] c R):=by
  refine acx func223 [(8,[zI 0,zI 1,zI 2,zI 3,zJ 4 [1000] [],zJ 5 [] [1000],zJ 6 [8] [1000],zJ 7 [] [1000,8],zJ 8 [8] [1000,8],zJ 9 [902] [],zI 10,zI 11,zI 12,zI 13,zI 14,zI 15,zI 16]),(9,[zI 0,zI 1,zI 2,zI 3,zJ 4 [1000] [],zJ 5 [] [1000],zJ 6 [8] [1000],zJ 7 [902] [],zI 8,zI 9,zI 10,zI 11,zI 12,zI 13,zI 14])] ntmps223 rfl rfl rfl ?_ (hL:=by simp[qcp]);simp[qcp];refine qa9 (X:=Nat×List DE×Bool) [0,2,10,11,12] [(1000,1000),(1001,1001),(1002,902),(1003,1003),(1004,1004)] (fun x=>[(12,.int .i64 x.1)]) (fun x=>qcp ⟨c.txg,c.sets,x.2.1,c.parts,x.2.2,c.safe,c.logn⟩ 1001 902) (fun x=>m.length-x.1)
   (fun x=>x.1≤m.length∧qaj x.2.1=true∧qbI more (m.drop x.1) (x.2.1,x.2.2,true)=R) (0,c.ddt,c.dirty) ⟨by simp,hd,by simpa using hR⟩ ?_ (he:=by simp[qah,qcp])
  rintro⟨i,l,b⟩ ⟨hi,hok,hx⟩;simp only at hi hok hx;cases hr:m.drop i with
  | nil =>
   have:=qaU hr;rw[hr]at hx;have hie:i=m.length:=by omega
   subst hie;simp only[qbI]at hx;simp[qah,qcp];exact⟨qcp ⟨c.txg,c.sets,l,c.parts,b,c.safe,c.logn⟩ 1001 902,by simp[qcp],l,b,902,by simp,by rw[← hx],rfl,fun _=>by rw[← hx];exact⟨rfl,rfl⟩⟩
  | cons p q =>
   obtain⟨k1,e0,e1,k3⟩:=qaV hr;rw[hr]at hx;have hpm:=hm p (qFu e1);have e2:=qaq ((i:Int)+1) (by omega) (by omega);have hli:(i:Int)<m.length:=by omega
   by_cases h0:p.pa=0
   ·rw[qbI,if_pos h0]at hx;simp[qah,qcp,k1,e0,e1,hli,PT.row,h0];exact nx (i+1,l,b) [(1000,1000),(1001,1001),(902,902),(1003,1003),(1004,1004)] ⟨by simp only;omega,hok,by simp only[k3];exact hx⟩ (by simp only;omega) (h4:=by simp[qah,e2,qcp])
   ·rw[qbI,if_neg h0]at hx;simp only[qFP]at hx;have hrok:=@qqp l hok more p;cases more with
    | true =>
     have c1:=qB2 l hok p.ps p.pa;simp only[qhh,if_true]at hx hrok;generalize qbZ l p.ps p.pa=W at *
     obtain⟨l',o⟩:=W;simp only at hx hrok;simp[qah,qcp,k1,e0,e1,hli,PT.row,h0];refine qaK [] (by kernel_rfl) c1 (by simp[qb5,mtA,qaJ,qak,DE.row]) (by simp) trivial (by simp) (by simp) ?_;rintro r L' ⟨rfl,rfl⟩;refine⟨by simp,by simp[qaJ,DE.row],[(900,33)],⟨by simp,by simp,by simp,by simp,by simp⟩,?_⟩;simp only[qad];simp;cases o with
     | false =>
      have hno:=qfQ true q l' true;rw[hx]at hno;simp;exact⟨qcp ⟨c.txg,c.sets,l',c.parts,true,c.safe,c.logn⟩ 1001 33,by simp[qcp],l',true,33,by simp,by rw[hno],rfl,fun e=>by rw[hno]at e;cases e⟩
     | true =>
      simp;exact nx (i+1,l',true) [(1000,1000),(1001,1001),(33,902),(1003,1003),(1004,1004)] ⟨by simp only;omega,hrok rfl,by simp only[k3];exact hx⟩ (by simp only;omega) (h4:=by simp[qah,e2,qcp])
    | false =>
     have c1:=qzx l hok p.pa hpm;simp only[qhh,qDA,if_false]at hx hrok;generalize qbi l p.pa=W at *
     obtain⟨l',o⟩:=W;simp only at hx hrok;simp[qah,qcp,k1,e0,e1,hli,PT.row,h0];refine qaK [] (by kernel_rfl) c1 (by simp[qb5,mtA,qaJ,qak,DE.row]) (by simp) trivial (by simp) (by simp) ?_;rintro r L' ⟨rfl,rfl⟩;refine⟨by simp,by simp[qaJ,DE.row],[(900,46)],⟨by simp,by simp,by simp,by simp,by simp⟩,?_⟩;simp only[qad];simp;cases o with
     | false =>
      have hno:=qfQ false q l' true;rw[hx]at hno;simp;exact⟨qcp ⟨c.txg,c.sets,l',c.parts,true,c.safe,c.logn⟩ 1001 46,by simp[qcp],l',true,46,by simp,by rw[hno],rfl,fun e=>by rw[hno]at e;cases e⟩
     | true =>
      simp;exact nx (i+1,l',true) [(1000,1000),(1001,1001),(46,902),(1003,1003),(1004,1004)] ⟨by simp only;omega,hrok rfl,by simp only[k3];exact hx⟩ (by simp only;omega) (h4:=by simp[qah,e2,qcp])
 refine key.can ?_;rintro r L' ⟨l,b,i2,h2,rfl,rfl,hq⟩;refine⟨[(1000,1000),(1001,1001),(i2,902),(1003,1003),(1004,1004)],?_,?_,?_,?_,l,b,902,by simp,by simp,?_,hq⟩
 all_goals
  simp only[qE3,qFc,or_false]at h2;rcases h2 with rfl | rfl | rfl
 all_goals simp[qcp,qah]
theorem qzr (s:CS) (h8:s.map.length=8) (n:List UInt8):CV prog 290 [.agg s.row,.str n] (.int .i64 (Lib.compareBytes s.name n)):=by
 have c1:=qiF (qon s.name n);have hs0:s.row[0]?=some (.str s.name):=rfl;refine cvx func290 [] ntmps290 rfl rfl rfl ?_ (hca:=by simp[qbv]);simp[qaX s h8,hs0];refine c1.call ?_;simp
theorem qy3 (l:List CS) (n:List UInt8):bsK (fun s:CS=>Lib.compareBytes s.name n) l=nmP l n:=by
 unfold bsK nmP
 congr 2
 funext s
 exact qkK s.name n
theorem qvo {l:List CS} (h:Srt (l.map csB)) (n:List UInt8):UpC (fun s:CS=>Lib.compareBytes s.name n) l:=by
 intro i j a b hij ha hb hc;have h1:=h i j (csB a) (csB b) hij (by simp[ha]) (by simp[hb]);have h2:Op.bytesLess b.name n=true:=by rw[← qkK];simpa using hc
 have h3:=qhK (a:=a.name) (b:=b.name) (c:=n) h1 h2;rw[← qkK]at h3;simpa using h3
theorem qwv (l:List CS) (h8:∀ s∈l,s.map.length=8) (hl:l.length≤1048576) (hS:Srt (l.map csB)) (n:List UInt8) :
  CV prog 289 [.lst 31 (l.map CS.row),.str n,.fn 290 []] (.tup [.int .i64 (nmP l n:Nat),.bool (bsT (fun s:CS=>Lib.compareBytes s.name n) l)]):=by
 rw[← qy3];refine cvx func289 [] ntmps289 rfl rfl rfl ?_;exact qz0 qyA qot (fun s:CS=>Lib.compareBytes s.name n) l (by omega) (fun x hx=>qaX x (h8 x hx)) (qvo hS n) (by simp) fun x hx=>qzr x (h8 x hx) n
theorem qBU (c:CO) (h8:∀ s∈c.sets,s.map.length=8) (hl:c.sets.length≤1048576) (hS:Srt (c.sets.map csB)) (n:List UInt8) :
  ACall prog 222 [.ptr 1000 0 0,.str n] (qcp c 1001 1002) (fun r L'=>r=.int .i64 (nmP c.sets n:Nat)∧L'=qcp c 1001 1002):=by
 have c1:=qwv c.sets h8 hl hS n;refine acx func222 [] ntmps222 rfl rfl rfl ?_ (hL:=by simp[qcp]);simp[qcp];refine c1.view (by simp[qb5,mtA,kcs,qak,qbv]) ?_;simp
def qey (d:DK) (c:CO) (up:Bool) (a0 a1 a2 b0 b1 b2 b3:Nat):List AV:=[.sl a0 0 d.s0.length,.sl a1 0 d.s1.length,.sl a2 0 d.late.length,.int .i64 c.txg,.sl b0 0 c.sets.length,.sl b1 0 c.ddt.length,.sl b2 0 c.parts.length,.bool c.dirty,.sl b3 0 c.safe.length,.int .i64 c.logn,.bool up]
def qcm (d:DK) (c:CO) (up:Bool) (a0 a1 a2 b0 b1 b2 b3:Nat):List (Nat×Ob):=[(1000,⟨11,[qey d c up a0 a1 a2 b0 b1 b2 b3]⟩),(a0,qap d.s0),(a1,qap d.s1),(a2,qcz d.late),(b0,kcs c.sets),(b1,qaJ c.ddt),(b2,kpt c.parts),(b3,kin c.safe)]
def poQ (R:DK×CO×Int) (up:Bool) (r:AV) (L':List (Nat×Ob)):Prop:=∃ d' c',r=.int .i64 R.2.2∧L'=qcm d' c' up 901 902 903 904 905 906 907∧(R.2.2=0→d'=R.1∧c'=R.2.1)
theorem qq6 (d:DK) (hd:DkT d) (c:CO) (h:CoT c) (up:Bool):ACall prog 53 [.ptr 1000 0 0] (qcm d c up 1001 1002 1003 1004 1005 1006 1007) (poQ (qbn d c) up):=by
 have cc:=qsS d hd c h;generalize qbn d c=R at *
 obtain⟨D,C,n⟩:=R;simp only[DK.row,CO.row]at cc;have key:ACall prog 53 [.ptr 1000 0 0] (qcm d c up 1001 1002 1003 1004 1005 1006 1007) (fun r L'=>(n≠0∧r=.int .i64 n∧L'=qcm d c up 1001 1002 1003 1004 1005 1006 1007)∨(n=0∧r=.int .i64 0∧L'=qcm D C up 901 902 903 904 905 906 907)):=by
  refine acx func53 [(1,[zI 0,zI 1,zI 2,zJ 3 [1000] [],zJ 4 [] [1000],zJ 5 [] [1000],zJ 6 [] [1000],zJ 7 [1000] [1000],⟨8,[1001,1002,1003,1004,1005,1006,1007],[],[13,14],[]⟩,zI 9,zI 10,zI 11,zI 12,zJ 13 [] [1000],zJ 14 [] [1000],zI 15,zI 16,zI 17]),(3,[zI 0,zI 1,zJ 2 [3] [],zJ 3 [4] [3],zJ 4 [] [4],zJ 5 [] [4],zJ 6 [] [4],zI 7,zI 8,zI 9])] ntmps53 rfl rfl rfl ?_ (hL:=by simp[qcm]);simp[qcm,qey];refine qaK [] (by kernel_rfl) cc (by simp[qb5,mtA,qap,qcz,kcs,qaJ,kpt,kin,qak,qbv,qaf,LT.row]) (by simp) trivial (by simp) (by simp) ?_;rintro r L' (⟨h1,rfl,rfl⟩ | ⟨rfl,rfl⟩)
  ·simp only at h1;subst h1;refine⟨by simp[noL],by simp,[],⟨by simp,by simp,by simp,by simp,by simp⟩,?_⟩;simp only[qad];simp
  ·refine⟨by simp[qcM,qcA,noL],by simp[kcs,qaJ,kpt,kin,qae,DE.row,PT.row,qg3,qap,qaf,qcz,LT.row],[(901,901),(902,902),(903,903),(904,904),(905,905),(906,906),(907,907)],⟨by simp,by simp,by simp,by simp,by simp⟩,?_⟩;simp only[qad];by_cases q:n=0
   ·subst q;simp[qcM,qcA]
   ·simp[qcM,qcA,q]
 refine key.can ?_;rintro r L' (⟨h1,rfl,rfl⟩ | ⟨h1,rfl,rfl⟩)
 ·refine⟨[(1000,1000),(1001,901),(1002,902),(1003,903),(1004,904),(1005,905),(1006,906),(1007,907)],by simp[qcm],by simp[qcm],by simp[qcm],by simp[qcm],d,c,by simp,?_,fun e=>absurd e h1⟩;simp[qcm,qey,qah]
 ·refine⟨[(1000,1000),(901,901),(902,902),(903,903),(904,904),(905,905),(906,906),(907,907)],by simp[qcm],by simp[qcm],by simp[qcm],by simp[qcm],D,C,by simp[h1],?_,fun e=>⟨rfl,rfl⟩⟩;simp[qcm,qey,qah]
def ptS (D:DK) (c:CO) (up:Bool) (op:BO) (n:Nat) (now:PT):S :=
 ⟨mkT [(0,.ptr 1000 0 0),(3,.ptr 3 0 0),(4,.int .i64 0),(5,.ptr 1000 0 3),(6,.int .i64 n),(7,.ptr 7 0 0)],qaW ((3,⟨5,[op.row]⟩)::(7,⟨3,[now.row]⟩)::qcm D c up 1001 1002 903 1004 1005 1006 1007),Us.of [1000,1001,1002,1003,1004,1005,1006,1007,3,7,1000,1001,1002,903,1004,1005,1006,1007]⟩
def puQ (xs ys:List Nat) (R:DK×CO×Int) (up:Bool) (r:AV) (L':List (Nat×Ob)):Prop:=∃ d' c' i3 i5,i3∈xs∧i5∈ys∧r=.int .i64 R.2.2∧L'=qcm d' c' up 1001 1002 i3 1004 i5 1006 1007∧(R.2.2=0→d'=R.1∧c'=R.2.1)
theorem qls (more:Bool) (p:PT) (l:List DE) (b:Bool):qbI more (qhk p) (l,b,true)=qbI more [p] (l,b,true):=by
 have e:∀ (q:List PT) x,qbI more (p::q) x=if p.pa=0 then qbI more q x else qbI more q ((qhh more x.1 p).1,true,x.2.2 && (qhh more x.1 p).2):=fun q x=>rfl
 unfold qhk;rw[e,e];split <;> rfl
theorem qlN (d:DK) (text:List UInt8):∀ (l:List DE),qgJ d text l=0∨∃ e∈l,e.ea=qgJ d text l
 | []=>.inl rfl
 | e::r=>by
  simp only[qgJ];split
  ·exact .inr ⟨e,by simp,rfl⟩
  ·rcases qlN d text r with h | ⟨x,hx,h⟩
   ·exact .inl h
   ·exact .inr ⟨x,by simp[hx],h⟩
theorem qoV (d:DK) (l:List DE) (text:List UInt8):qdK d l text=0∨(1≤qdK d l text∧qdK d l text<120):=by
 unfold qdK;split
 ·rename_i h;simp only[qaj,Bool.and_eq_true,decide_eq_true_eq]at h;rcases qlN d text l with h2 | ⟨x,hx,h2⟩
  ·exact .inl h2
  ·have:=((qcf h.2).1 x hx).2;simp only[qb7,Bool.and_eq_true,decide_eq_true_eq]at this;omega
 ·exact .inl rfl
theorem quD {a b:Int} (t:List UInt8) (ha:1≤a∧a<120) (hb:0≤b∧b≤1000000):(qbM a t b).pa=a:=by
 have hs:=qtR t;have h1:qaH ⟨a,smB t,b⟩=true:=by
  unfold qaH;rw[if_neg (by simp only;omega)];simp only[Bool.and_eq_true,decide_eq_true_eq];omega
 unfold qbM;rw[if_neg (by simp[h1];omega)]
theorem qtg {c:CO} (h:qal c=true) {s:CS} (hs:s∈c.sets):qbj s=true:=by
 simp only[qal,Bool.and_eq_true,qDS]at h;exact h.1.1.1.1.2 s hs
theorem qtd {s:CS} (h8:s.map.length=8) {i:Nat} {p:PT} (h:s.map[i]?=some p):List.take 3 (List.drop (3+i * 3) s.row)=p.row:=by
 have h1:=qiw h;have hi:=(qEb.1 h).1;rw[← qhI s h8,qEV,qEX,qEW (by omega),qDP]at h1;exact h1
theorem qzs (d:DK) (hd:qbr d=true) (c:CO) (h:CoT c) (hc:qal c=true) (up:Bool) (op:BO) (hk:nmP c.sets op.a<c.sets.length) (hi:0≤op.i∧op.i<8) (ht:op.text.length≤1000) :
  ACall prog 109 [.ptr 1000 0 0,.agg op.row] (qcm d c up 1001 1002 1003 1004 1005 1006 1007) (puQ [903] [905] (qcL d c (nmP c.sets op.a) op.i.toNat op.text) up):=by
 obtain⟨hm,k1,k2,k3,k4,k5,k6,k7⟩:=qbs hc;obtain⟨g1,g2,g3,g4,_⟩:=qbP hd;obtain⟨R,hR⟩:∃ R,qcL d c (nmP c.sets op.a) op.i.toNat op.text=R:=⟨_,rfl⟩;rw[hR];unfold qcL at hR;obtain⟨s,e1⟩:∃ s,c.sets[nmP c.sets op.a]?=some s:=⟨_,qDF hk⟩;have e0:=(qEb.1 e1).2;rw[e1]at hR;simp only at hR;have hs8:=h.m8 s (qFu e1);have key:ACall prog 109 [.ptr 1000 0 0,.agg op.row] (qcm d c up 1001 1002 1003 1004 1005 1006 1007) (puQ [903,1003,61] [1005,101,107] R up):=by
  refine acv func109 [(7,[zI 0,zI 1,zI 2,zJ 3 [1000] [],zJ 4 [] [1000],zJ 5 [] [1000],zJ 6 [] [1000],zJ 7 [1000] [1000],zJ 8 [] [1000],zJ 9 [3] [1000],zJ 10 [1001,1002,1003,1005] [],zI 11]),(12,[zI 0,zI 1,zI 2,zI 3,zI 4,zJ 5 [3] [],zJ 6 [1000,1001,1002,1003] [],zI 7]),(14,[zI 0,zI 1,zJ 2 [3] [],zJ 3 [] [3],zJ 4 [] [3],zJ 5 [] [3],zJ 6 [1000] [3],zJ 7 [] [3],zI 8,zI 9]),(15,[zI 0,zI 1,zI 2,zJ 3 [1000] [],zJ 4 [] [1000],zJ 5 [] [1000],zJ 6 [3] [1000],zJ 7 [1000,1004,1005,1006,1007] [1000],zJ 8 [1004] [],zI 9]),(16,[zI 0,zI 1,zJ 2 [3] [],zJ 3 [] [3],zJ 4 [] [3],zJ 5 [1004] [],zJ 6 [1004] [],zJ 7 [] [3,1004],zI 8]),(21,[zI 0,zI 1,zJ 2 [3] [],zJ 3 [] [3],zJ 4 [7] [3],zJ 5 [] [3,7],zJ 6 [] [3,7],zJ 7 [1004] [],zI 8,zI 9,zI 10,zI 11])] ntmps109 rfl rfl rfl ?_ (hL:=by simp[qcm]);refine qiZ (qbB _ ?_);simp[qcm,qey,BO.row];refine qiZ (qbB _ ?_);simp[qcm,qey,BO.row];refine qiZ (qbB _ ?_);simp[qcm,qey,BO.row,show(0:Nat)<d.s0.length by omega];refine qiZ (qbB _ ?_);simp[qcm,qey,BO.row];refine quT (X:=DK×PT) (fun x=>ptS x.1 c up op d.s0.length x.2) (fun x=>qbr x.1=true∧0≤x.2.pa∧x.2.pa≤1000∧R=if x.2.pa≠0∧x.2.pa=(s.map[op.i.toNat]?.getD zPT).pa then (x.1,c,0) else qfK d x.1 c (nmP c.sets op.a) op.i.toNat s (s.map[op.i.toNat]?.getD zPT) x.2) ?_ ?_
  ·by_cases ht0:op.text=[]
   ·rw[if_pos ht0]at hR;simp[qcm,qey,BO.row,ht0];exact qm1 (d,zPT) ⟨hd,by simp[zPT],by simp[zPT],by rw[if_neg (by simp[zPT])];exact hR.symm⟩ (qi5 [0,3,4,5,6,7] [(3,3),(7,7),(1000,1000),(1001,1001),(1002,1002),(1003,903),(1004,1004),(1005,1005),(1006,1006),(1007,1007)] (by simp[qai]) (by simp[qax,qah,ptS,qcm,qey,BO.row,zPT,PT.row,ht0]))
   ·rw[if_neg ht0]at hR;by_cases hx:c.txg=1000000
    ·rw[if_pos hx]at hR;subst hR;simp[qcm,qey,BO.row,ht0,hx];exact⟨qcm d c up 1001 1002 1003 1004 1005 1006 1007,by simp[qcm,qey,hx],d,c,1003,1005,by simp,by simp,rfl,rfl,fun e=>by cases e⟩
    ·rw[if_neg hx]at hR;have cf:=qzw d (qeo hd) c.ddt op.text (by omega) (by simp[maxLen];omega);have hfr:=qoV d c.ddt op.text;unfold qdf at hR;generalize qdK d c.ddt op.text=a at *
     have cb:=qmG a op.text (c.txg+1) (by simp[maxLen];omega);have e2:=qaq (c.txg+1) (by omega) (by omega);simp only[DK.row]at cf;simp[qcm,qey,BO.row,ht0,hx];refine cf.view (by simp[qb5,mtA,qap,qcz,qaJ,qak,qaf,LT.row]) ?_;by_cases ha0:0<a
     ·simp only[if_pos ha0]at hR;simp[show ¬ a=0 by omega,BO.row,e2];refine cb.call ?_;simp[PT.row];have hpa:=quD (a:=a) (b:=c.txg+1) op.text (by omega) (by omega);exact qm1 (d,qbM a op.text (c.txg+1)) ⟨hd,by simp only[hpa];omega,by simp only[hpa];omega,by
       simp only[hpa];rw[← hR];simp only[ne_eq,not_true_eq_false,if_false];by_cases q:a=(s.map[op.i.toNat]?.getD zPT).pa
       ·rw[if_pos q,if_pos ⟨by omega,q⟩]
       ·rw[if_neg q,if_neg (fun e=>q e.2)]⟩ (qi5 [0,3,4,5,6,7] [(3,3),(7,7),(1000,1000),(1001,1001),(1002,1002),(1003,903),(1004,1004),(1005,1005),(1006,1006),(1007,1007)] (by simp[qai]) (by simp[qax,qah,ptS,qcm,qey,BO.row,PT.row]))
     ·have ha00:a=0:=by omega
      simp only[if_neg ha0]at hR;have cm:=qBZ c h hc d.s0.length (by omega);have cfr:=qra c h hc d.s0.length (by omega);have hfm:∀ x∈qaS c d.s0.length,13≤x∧x<d.s0.length:=fun x hx=>qiv hx;have hmf:qoL c d.s0.length=true→0<(qaS c d.s0.length).length:=fun hm=>by
       simp only[qoL,Bool.and_eq_true,decide_eq_true_eq]at hm;omega
      simp only[CO.row]at cm cfr;clear cf cb;simp[ha00];refine cm.view (by simp[qb5,mtA,kcs,qaJ,kpt,kin,qak,qbv]) ?_;cases hma:qoL c d.s0.length with
      | false =>
       rw[hma]at hR;simp only[if_true,ne_eq]at hR;rw[if_pos (by decide)]at hR;subst hR;simp;exact⟨qcm d c up 1001 1002 1003 1004 1005 1006 1007,by simp[qcm,qey],d,c,1003,1005,by simp,by simp,rfl,rfl,fun e=>by cases e⟩
      | true =>
       have hfl:=hmf hma;rw[hma]at hR;simp only[Bool.true_eq_false,if_false]at hR;generalize qaS c d.s0.length=F at *
       obtain⟨b,F',rfl⟩:∃ b F',F=b::F':=by
        cases F with
        | nil=>simp at hfl
        | cons b F'=>exact⟨b,F',rfl⟩
       simp only[qGu]at hR;have hbm:=hfm b (by simp);have cw:=qrg d hd b op.text (by omega);have hbo:=qb1 hd b op.text;have cb:=qmG b op.text (c.txg+1) (by simp[maxLen];omega);have hpa:=quD (a:=b) (b:=c.txg+1) op.text (by omega) (by omega);simp;refine qaK [] (by kernel_rfl) cfr (by simp[qb5,mtA,kcs,qaJ,kpt,kin,qak,qbv]) (by simp) trivial (by simp) (by simp) ?_;rintro r L' ⟨rfl,rfl⟩;refine⟨by simp,by simp[kin,qae],[(900,52)],⟨by simp,by simp,by simp,by simp,by simp⟩,?_⟩;simp only[qad];obtain⟨W,hW⟩:∃ W,qat d b op.text=W:=⟨_,rfl⟩;simp only[hW]at hR cw hbo;clear hW;obtain⟨E,o⟩:=W;simp only at hbo;simp[kin,qae,BO.row];refine qac [(1000,.sub 1000 0 0 3),(1001,.whole 1001),(1002,.whole 1002),(1003,.whole 1003)] (by kernel_rfl) cw (by simp) (by simp) (by simp[qb4,qcA];exact⟨⟨_,_,rfl,rfl,by simp,by simp,rfl,rfl,by simp⟩,qaa rfl (qaI _),qaa rfl (qaI _),qaa rfl (qcO _)⟩) (by simp[qb4]) (by simp) ?_;rintro r L' ⟨rfl,rfl⟩;refine⟨[(903,61)],⟨by simp[qb4],by simp,by simp,by simp[qb4],by simp[qb4,qcA]⟩,?_⟩;simp only[qad];cases o with
       | false =>
        simp only[if_true]at hR;rw[if_pos (by decide)]at hR;subst hR;simp[qb4,qcA];exact⟨qcm E c up 1001 1002 61 1004 1005 1006 1007,by simp[qcm,qey,kin],E,c,61,1005,by simp,by simp,rfl,rfl,fun e=>by cases e⟩
       | true =>
        simp only[Bool.true_eq_false,if_false,ne_eq,not_true_eq_false]at hR;simp[qb4,qcA,BO.row,e2];refine cb.call ?_;simp[PT.row];exact qm1 (E,qbM b op.text (c.txg+1)) ⟨hbo.1,by simp only[hpa];omega,by simp only[hpa];omega,by
         simp only[hpa];rw[← hR];by_cases q:b=(s.map[op.i.toNat]?.getD zPT).pa
         ·rw[if_pos q,if_pos ⟨by omega,q⟩]
         ·rw[if_neg q,if_neg (fun e=>q e.2)]⟩ (qi5 [0,3,4,5,6,7] [(3,3),(7,7),(1000,1000),(1001,1001),(1002,1002),(61,903),(1004,1004),(1005,1005),(1006,1006),(1007,1007)] (by simp[qai]) (by simp[qax,qah,ptS,qcm,qey,BO.row,PT.row,qb4,qcA,kin]))
  ·rintro⟨D,now⟩ ⟨hDok,hn0,hn1,hRx⟩;simp only at hDok hn0 hn1 hRx ⊢;clear hR;have cs:=qBU c h.m8 (by omega) (qtf hc) op.a;obtain⟨i,hii⟩:∃ i:Nat,op.i.toNat=i:=⟨_,rfl⟩;have hi8:i<8:=by omega
   obtain⟨old,ho⟩:∃ o,s.map[i]?=some o:=⟨_,qDF (by omega)⟩;have ho':=(qEb.1 ho).2;have hopi:op.i=(i:Int):=by omega
   rw[hii,ho]at hRx;simp only[qEx]at hRx;have hpo:=qwU (qtg hc (qFu e1)) (qFu ho);have hca:=qtd hs8 ho;have hmin:min 3 (31-(3+i * 3))=3:=by omega
   simp only[PT.row]at hca;refine qbB _ ?_;simp[ptS,qcm,qey,BO.row];refine qac [(1000,.sub 1000 0 3 7),(1001,.whole 1004),(1002,.whole 1005),(1003,.whole 1006),(1004,.whole 1007)] (by kernel_rfl) cs (by simp) (by simp) (by simp[qcp];exact⟨⟨_,_,rfl,rfl,by simp,by simp,rfl,rfl,by simp⟩,qaa rfl (qa2 _),qaa rfl (qbL _),qaa rfl (qbo _),qaa rfl (qaQ _)⟩) (by simp[qcp]) (by simp) ?_;rintro r L' ⟨rfl,rfl⟩;refine⟨[],⟨by simp[qcp],by simp,by simp,by simp[qcp],by simp[qcp]⟩,?_⟩;simp only[qad];generalize nmP c.sets op.a=k at *
   by_cases q:now.pa≠0∧now.pa=old.pa
   ·rw[if_pos q]at hRx;subst hRx;simp[qcp,kcs,hk,e0,e1,qaX s hs8,qdC s hs8,hopi,hi8,PT.row,hca,hmin,q.1,q.2,show ¬ old.pa=0 from q.2 ▸ q.1];exact⟨by omega,by omega,qcm D c up 1001 1002 903 1004 1005 1006 1007,by simp[qcm,qey,kcs],D,c,903,1005,by simp,by simp,rfl,rfl,fun _=>⟨rfl,rfl⟩⟩
   ·rw[if_neg q]at hRx;simp only[qfK,qls]at hRx;have hdd:=qol hc;have cc:=qre c hdd [now] (fun p hp=>by simp at hp;subst hp;omega) (by simp) true;have hyok:=qj0 true [now] c.ddt c.dirty hdd;generalize qbI true [now] (c.ddt,c.dirty,true)=Y at *
    obtain⟨yl,yd,yo⟩:=Y;simp only at hRx hyok;have cc2:=fun hyl=>qre ⟨c.txg,c.sets,yl,c.parts,yd,c.safe,c.logn⟩ hyl [old] (fun p hp=>by simp at hp;subst hp;omega) (by simp) false;simp only at cc2;generalize qbI false [old] (yl,yd,true)=Z at *
    obtain⟨zl,zd,zo⟩:=Z;simp only at hRx;have hB:now.pa=0∨(now.pa≠0∧now.pa≠old.pa):=by
     by_cases q1:now.pa=0
     ·exact .inl q1
     ·exact .inr ⟨q1,fun e=>q ⟨q1,e⟩⟩
    rcases hB with q1 | ⟨q1,q2⟩
    ·skip
     simp[qcp,kcs,hk,e0,e1,qaX s hs8,qdC s hs8,hopi,hi8,PT.row,hca,hmin,q1];refine⟨by omega,by omega,?_⟩;refine qaK [(1000,.sub 1000 0 3 7),(1001,.whole 1004),(1002,.whole 1005),(1003,.whole 1006),(1004,.whole 1007)] (by kernel_rfl) cc (by simp[mtA,kin,PT.row,q1]) (by simp) (by simp[qcp];exact⟨⟨_,_,rfl,rfl,by simp,by simp,rfl,rfl,by simp⟩,⟨rfl,qaa rfl (qa2 _)⟩,qaa rfl (qbL _),qaa rfl (qbo _),qaa rfl (qaQ _)⟩) (by simp[qcp]) (by simp) ?_;rintro r L' ⟨l,b,i2,h2,rfl,rfl,hq⟩;simp only[qE3,qFc,or_false]at h2;subst h2;refine⟨by simp,by simp[qcp,kcs,qaJ,kpt,kin,qae,DE.row,PT.row,qg3,noL],[(902,101)],⟨by simp[qcp],by simp,by simp,by simp[qcp],by simp[qcp]⟩,?_⟩;simp only[qad];cases yo with
     | false =>
      rw[if_pos (.inl rfl)]at hRx;subst hRx;simp[qcp];exact⟨qcm D ⟨c.txg,c.sets,l,c.parts,b,c.safe,c.logn⟩ up 1001 1002 903 1004 101 1006 1007,by simp[qcm,qey,kcs],D,_,903,101,by simp,by simp,rfl,rfl,fun e=>by cases e⟩
     | true =>
      obtain⟨rfl,rfl⟩:=hq rfl;have cc2:=cc2 (hyok rfl);simp[qcp];refine qaK [(1000,.sub 1000 0 3 7),(1001,.whole 1004),(1002,.whole 101),(1003,.whole 1006),(1004,.whole 1007)] (by kernel_rfl) cc2 (by simp[mtA,kin,PT.row]) (by simp) (by simp[qcp];exact⟨⟨_,_,rfl,rfl,by simp,by simp,rfl,rfl,by simp⟩,qaa rfl (qa2 _),qaa rfl (qbL _),qaa rfl (qbo _),qaa rfl (qaQ _)⟩) (by simp[qcp]) (by simp) ?_;rintro r L' ⟨l,b,i2,h2,rfl,rfl,hq⟩;simp only[qE3,qFc,or_false]at h2;subst h2;refine⟨by simp,by simp[qcp,kcs,qaJ,kpt,kin,qae,DE.row,PT.row,qg3,noL],[(902,107)],⟨by simp[qcp],by simp,by simp,by simp[qcp],by simp[qcp]⟩,?_⟩;simp only[qad];cases zo with
      | false =>
       rw[if_pos (.inr rfl)]at hRx;subst hRx;simp[qcp];exact⟨qcm D ⟨c.txg,c.sets,l,c.parts,b,c.safe,c.logn⟩ up 1001 1002 903 1004 107 1006 1007,by simp[qcm,qey,kcs],D,_,903,107,by simp,by simp,rfl,rfl,fun e=>by cases e⟩
      | true =>
       obtain⟨rfl,rfl⟩:=hq rfl;rw[if_neg (by simp)]at hRx;subst hRx;simp[qcp,kcs,hk,e0,e1,qaX s hs8,qdC s hs8,hopi,hi8,PT.row,hca,hmin,BO.row];have hrow:=qkG s hs8 hi8 now;exact⟨by omega,by omega,qcm D ⟨c.txg,c.sets.set k ⟨s.name,s.kind,s.frm,s.map.set i now,s.home,true⟩,l,c.parts,b,c.safe,c.logn⟩ up 1001 1002 903 1004 107 1006 1007,by simp[qcm,qey,kcs,qFG];rw[← hrow];simp[q1],D,_,903,107,by simp,by simp,rfl,rfl,fun _=>⟨rfl,rfl⟩⟩
    ·skip
     simp[qcp,kcs,hk,e0,e1,qaX s hs8,qdC s hs8,hopi,hi8,PT.row,hca,hmin,q1,q2];refine⟨by omega,by omega,?_⟩;refine qaK [(1000,.sub 1000 0 3 7),(1001,.whole 1004),(1002,.whole 1005),(1003,.whole 1006),(1004,.whole 1007)] (by kernel_rfl) cc (by simp[mtA,kin,PT.row]) (by simp) (by simp[qcp];exact⟨⟨_,_,rfl,rfl,by simp,by simp,rfl,rfl,by simp⟩,⟨rfl,qaa rfl (qa2 _)⟩,qaa rfl (qbL _),qaa rfl (qbo _),qaa rfl (qaQ _)⟩) (by simp[qcp]) (by simp) ?_;rintro r L' ⟨l,b,i2,h2,rfl,rfl,hq⟩;simp only[qE3,qFc,or_false]at h2;subst h2;refine⟨by simp,by simp[qcp,kcs,qaJ,kpt,kin,qae,DE.row,PT.row,qg3,noL],[(902,101)],⟨by simp[qcp],by simp,by simp,by simp[qcp],by simp[qcp]⟩,?_⟩;simp only[qad];cases yo with
     | false =>
      rw[if_pos (.inl rfl)]at hRx;subst hRx;simp[qcp];exact⟨qcm D ⟨c.txg,c.sets,l,c.parts,b,c.safe,c.logn⟩ up 1001 1002 903 1004 101 1006 1007,by simp[qcm,qey,kcs],D,_,903,101,by simp,by simp,rfl,rfl,fun e=>by cases e⟩
     | true =>
      obtain⟨rfl,rfl⟩:=hq rfl;have cc2:=cc2 (hyok rfl);simp[qcp];refine qaK [(1000,.sub 1000 0 3 7),(1001,.whole 1004),(1002,.whole 101),(1003,.whole 1006),(1004,.whole 1007)] (by kernel_rfl) cc2 (by simp[mtA,kin,PT.row]) (by simp) (by simp[qcp];exact⟨⟨_,_,rfl,rfl,by simp,by simp,rfl,rfl,by simp⟩,qaa rfl (qa2 _),qaa rfl (qbL _),qaa rfl (qbo _),qaa rfl (qaQ _)⟩) (by simp[qcp]) (by simp) ?_;rintro r L' ⟨l,b,i2,h2,rfl,rfl,hq⟩;simp only[qE3,qFc,or_false]at h2;subst h2;refine⟨by simp,by simp[qcp,kcs,qaJ,kpt,kin,qae,DE.row,PT.row,qg3,noL],[(902,107)],⟨by simp[qcp],by simp,by simp,by simp[qcp],by simp[qcp]⟩,?_⟩;simp only[qad];cases zo with
      | false =>
       rw[if_pos (.inr rfl)]at hRx;subst hRx;simp[qcp];exact⟨qcm D ⟨c.txg,c.sets,l,c.parts,b,c.safe,c.logn⟩ up 1001 1002 903 1004 107 1006 1007,by simp[qcm,qey,kcs],D,_,903,107,by simp,by simp,rfl,rfl,fun e=>by cases e⟩
      | true =>
       obtain⟨rfl,rfl⟩:=hq rfl;rw[if_neg (by simp)]at hRx;subst hRx;simp[qcp,kcs,hk,e0,e1,qaX s hs8,qdC s hs8,hopi,hi8,PT.row,hca,hmin,BO.row];have hrow:=qkG s hs8 hi8 now;exact⟨by omega,by omega,qcm D ⟨c.txg,c.sets.set k ⟨s.name,s.kind,s.frm,s.map.set i now,s.home,true⟩,l,c.parts,b,c.safe,c.logn⟩ up 1001 1002 903 1004 107 1006 1007,by simp[qcm,qey,kcs,qFG];rw[← hrow],D,_,903,107,by simp,by simp,rfl,rfl,fun _=>⟨rfl,rfl⟩⟩
 refine key.can ?_;rintro r L' ⟨d',c',i3,i5,h3,h5,rfl,rfl,hq⟩;refine⟨[(1000,1000),(1001,1001),(1002,1002),(i3,903),(1004,1004),(i5,905),(1006,1006),(1007,1007)],?_,?_,?_,?_,d',c',903,905,by simp,by simp,by simp,?_,hq⟩
 all_goals
  simp only[qE3,qFc,or_false]at h3 h5;rcases h3 with rfl | rfl | rfl <;> rcases h5 with rfl | rfl | rfl
 all_goals simp[qcm,qey,qah]
theorem quY {d:DK} {c:CO} (h:CoT c) (hm:CoM c) (k i:Nat) (text:List UInt8):CoT (qcL d c k i text).2.1:=by
 unfold qcL;split
 ·exact h
 rename_i s hs;have hs8:=h.m8 s (qFu hs);have hsn:=h.nm s (qFu hs);have hG:∀ (x:DK) (old now:PT),CoT (qfK d x c k i s old now).2.1:=fun x old now=>by
  unfold qfK;simp only;split
  ·exact h
  ·have h1:=qd4 true (qhk now) (c.ddt,c.dirty,true);have h2:=qd4 false (qhk old) ((qbI true (qhk now) (c.ddt,c.dirty,true)).1,(qbI true (qhk now) (c.ddt,c.dirty,true)).2.1,true);have h3:=hm.ddt;have h4:=hm.sets;simp only[qhk,qDX,qET]at h1 h2;refine⟨by simp;omega,?_,h.parts,h.safe,fun x hx=>?_,fun x hx=>?_⟩
   ·simp only[qhk];omega
   ·rcases qGw hx with hx | rfl
    ·exact h.m8 x hx
    ·simpa using hs8
   ·rcases qGw hx with hx | rfl
    ·exact h.nm x hx
    ·exact hsn
 simp only;split
 ·exact hG _ _ _
 split
 ·exact h
 split
 ·exact h
 split
 ·exact h
 ·exact hG _ _ _
def qi4 (l:List (List UInt8)) (left:Int):Int:=if left-l.length<0 then -1 else qme l (left-l.length)
theorem qhU (l:List (List UInt8)) {left:Int} (h:0≤left):qi4 l left≤left∧-1≤qi4 l left∧(0≤qi4 l left→(l.length:Int)≤left∧∀ t∈l,(t.length:Int)≤left):=by
 unfold qi4;split
 ·exact⟨by omega,by omega,fun h'=>by omega⟩
 ·obtain⟨h1,h2,h3⟩:=qpG l (left-l.length) (by omega);exact⟨by omega,h2,fun h'=>⟨by omega,fun t ht=>by have:=h3 h' t ht;omega⟩⟩
theorem qtI (l:List (List UInt8)) (left:Int) (hl:l.length≤maxLen) (hm:∀ t∈l,t.length≤maxLen) (h0:0≤left∧left≤1048576):CV prog 70 [.lst 1 (l.map qaf),.int .i64 left] (.int .i64 (qi4 l left)):=by
 obtain⟨R,hR⟩:∃ R,qi4 l left=R:=⟨_,rfl⟩;rw[hR];unfold qi4 at hR;have hml:maxLen=9223372036854775807:=rfl;have e0:=qaq (left-(l.length:Int)) (by omega) (by omega);refine cvx func70 [] ntmps70 rfl rfl rfl ?_ (hca:=by simp[qaf]);by_cases hn:left-(l.length:Int)<0
 ·rw[if_pos hn]at hR;subst hR;simp[e0,hn,show left<(l.length:Int) by omega]
 ·rw[if_neg hn]at hR;simp[e0,hn,show ¬ left<(l.length:Int) by omega];refine qa7 (X:=Nat×Int) [0,1,5] [] (fun x=>[(5,.int .i64 x.1),(1,.int .i64 x.2)]) (fun _=>[]) (fun x=>l.length-x.1) (fun x=>x.1≤l.length∧0≤x.2∧x.2≤1048576∧qme (l.drop x.1) x.2=R) (0,left-l.length) (by simp[hR];omega) ?_;rintro⟨i,k⟩ ⟨hi,hk0,hk,hd⟩;simp only at hi hk0 hk hd;cases hr:l.drop i with
  | nil =>
   have:=qaU hr;rw[hr]at hd;have hie:i=l.length:=by omega
   simp[qme]at hd;simp[hie,hd]
  | cons t r =>
   obtain⟨h1,f0,f1,h3⟩:=qaV hr;rw[hr,qme]at hd;have:=hm t (qFu f1);have e2:=qaq ((i:Int)+1) (by omega) (by omega);have e3:=qaq (k-(t.length:Int)) (by omega) (by omega);have h1':(i:Int)<l.length:=by omega
   by_cases hq:k-(t.length:Int)<0
   ·rw[if_pos hq]at hd;simp[h1',h1,f0,f1,e3,qaf,hq,show k<(t.length:Int) by omega,hd]
   ·rw[if_neg hq]at hd;simp[h1',h1,f0,f1,e2,e3,qaf,hq,show ¬ k<(t.length:Int) by omega];exact nx (i+1,k-t.length) [] ⟨by simp only;omega,by simp only;omega,by simp only;omega,by simp only[h3];exact hd⟩ (by simp only;omega) (h4:=by simp[e2,e3])
theorem qr5 (x:LT) (k:Int) (hx:x.lx.length≤maxLen) (h0:0≤k∧k≤1048576):CV prog 71 [.agg x.row,.int .i64 k] (.int .i64 (qme [x.lx] k)):=by
 have hml:maxLen=9223372036854775807:=rfl;have e3:=qaq (k-(x.lx.length:Int)) (by omega) (by omega);refine cvx func71 [] ntmps71 rfl rfl rfl ?_ (hca:=by simp[LT.row]);simp only[qme];by_cases hq:k-(x.lx.length:Int)<0
 ·rw[if_pos hq];simp[LT.row,e3,hq,show k<(x.lx.length:Int) by omega]
 ·rw[if_neg hq];simp[LT.row,e3,hq,show ¬ k<(x.lx.length:Int) by omega]
theorem qu7 (l:List LT) (left:Int) (hl:l.length≤maxLen) (hm:∀ t∈l,t.lx.length≤maxLen) (h0:0≤left∧left≤1048576):CV prog 29 [.lst 3 (l.map LT.row),.int .i64 left] (.int .i64 (qi4 (l.map LT.lx) left)):=by
 obtain⟨R,hR⟩:∃ R,qi4 (l.map LT.lx) left=R:=⟨_,rfl⟩;rw[hR];unfold qi4 at hR;rw[qEH]at hR;have hml:maxLen=9223372036854775807:=rfl;have e0:=qaq (left-(l.length:Int)) (by omega) (by omega);refine cvx func29 [] ntmps29 rfl rfl rfl ?_ (hca:=by simp[LT.row]);by_cases hn:left-(l.length:Int)<0
 ·rw[if_pos hn]at hR;subst hR;simp[e0,hn,show left<(l.length:Int) by omega]
 ·rw[if_neg hn]at hR;simp[e0,hn,show ¬ left<(l.length:Int) by omega];refine qa7 (X:=Nat×Int) [0,1,5] [] (fun x=>[(5,.int .i64 x.1),(1,.int .i64 x.2)]) (fun _=>[]) (fun x=>l.length-x.1) (fun x=>x.1≤l.length∧0≤x.2∧x.2≤1048576∧qme ((l.drop x.1).map LT.lx) x.2=R) (0,left-l.length) (by simp[hR];omega) ?_;rintro⟨i,k⟩ ⟨hi,hk0,hk,hd⟩;simp only at hi hk0 hk hd;cases hr:l.drop i with
  | nil =>
   have:=qaU hr;rw[hr]at hd;have hie:i=l.length:=by omega
   simp[qme]at hd;simp[hie,hd]
  | cons t r =>
   obtain⟨h1,f0,f1,h3⟩:=qaV hr;rw[hr,qD5,qme]at hd;have htm:=hm t (qFu f1);have e2:=qaq ((i:Int)+1) (by omega) (by omega);have c1:=qr5 t k htm ⟨hk0,hk⟩;have h1':(i:Int)<l.length:=by omega
   simp only[LT.row,qme]at c1;simp[h1',h1,f0,f1,LT.row];refine c1.call ?_;by_cases hq:k-(t.lx.length:Int)<0
   ·rw[if_pos hq]at hd;subst hd;simp[hq]
   ·rw[if_neg hq]at hd;simp[hq,e2];exact nx (i+1,k-t.lx.length) [] ⟨by simp only;omega,by simp only;omega,by simp only;omega,by simp only[← qFB,h3];exact hd⟩ (by simp only;omega) (h4:=by simp[e2])
def qpg (d:DK) (left:Int):Int:=if qi4 d.s0 left<0 then -1 else qi4 d.s1 (qi4 d.s0 left)
def DkG (d:DK):Prop:=d.s0.length≤maxLen∧d.s1.length≤maxLen∧d.late.length≤maxLen∧(∀ t∈d.s0,t.length≤maxLen)∧(∀ t∈d.s1,t.length≤maxLen)∧(∀ t∈d.late,t.lx.length≤maxLen)
theorem qBe (d:DK) (left:Int) (hg:DkG d) (h0:0≤left∧left≤1048576):CV prog 28 [.agg [.lst 1 (d.s0.map qaf),.lst 1 (d.s1.map qaf)],.int .i64 left] (.int .i64 (qpg d left)):=by
 obtain⟨R,hR⟩:∃ R,qpg d left=R:=⟨_,rfl⟩;rw[hR];unfold qpg at hR;obtain⟨g1,g2,g3,g4,g5,g6⟩:=hg;obtain⟨l1,l2,l3⟩:=qhU d.s0 h0.1;have c1:=qtI d.s0 left g1 g4 h0;refine cvx func28 [] ntmps28 rfl rfl rfl ?_ (hca:=by simp[qaf]);simp;refine qa7 (X:=Nat×Int) [1,2,5] [(2,2)] (fun x=>[(5,.int .i64 x.1),(1,.int .i64 x.2)]) (fun _=>[]) (fun x=>2-x.1) (fun x=>(x=(0,left))∨(x=(1,qi4 d.s0 left)∧0≤qi4 d.s0 left)∨(x=(2,R)∧0≤R)) (0,left) (.inl rfl) ?_ (he:=by simp[qah,qaf]);rintro x (rfl | ⟨rfl,hz⟩ | ⟨rfl,hz⟩)
 ·simp[qah,qaf];refine c1.call ?_;by_cases hq:qi4 d.s0 left<0
  ·rw[if_pos hq]at hR;subst hR;simp[hq]
  ·simp[hq];exact nx (1,qi4 d.s0 left) [(2,2)] (.inr (.inl ⟨rfl,by omega⟩)) (h4:=by simp[qah,qaf])
 ·have c2:=qtI d.s1 (qi4 d.s0 left) g2 g5 ⟨hz,by omega⟩;obtain⟨m1,m2,m3⟩:=qhU d.s1 hz;rw[if_neg (by omega)]at hR;simp[qah,qaf];refine c2.call ?_;rw[hR];by_cases hq:R<0
  ·have:R=-1:=by omega
   subst this;simp
  ·simp[hq];exact nx (2,R) [(2,2)] (.inr (.inr ⟨rfl,by omega⟩)) (h4:=by simp[qah,qaf])
 ·simp[qah]
def qtJ (d:DK) (left:Int):Int:=if qpg d left<0 then -1 else qi4 (d.late.map LT.lx) (qpg d left)
theorem qpI (d:DK) {left:Int} (h:0≤left):qpg d left≤left∧-1≤qpg d left∧(0≤qpg d left→(d.s0.length:Int)≤left∧(d.s1.length:Int)≤left∧(∀ t∈d.s0,(t.length:Int)≤left)∧∀ t∈d.s1,(t.length:Int)≤left):=by
 obtain⟨h1,h2,h3⟩:=qhU d.s0 h;unfold qpg;split
 ·exact⟨by omega,by omega,fun h'=>by omega⟩
 ·obtain⟨m1,m2,m3⟩:=qhU d.s1 (left:=qi4 d.s0 left) (by omega);exact⟨by omega,m2,fun h'=>⟨(h3 (by omega)).1,by have:=(m3 h').1;omega,(h3 (by omega)).2,fun t ht=>by have:=(m3 h').2 t ht;omega⟩⟩
theorem qpH (d:DK) {left:Int} (h:0≤left):qtJ d left≤left∧-1≤qtJ d left∧(0≤qtJ d left→(d.s0.length:Int)≤left∧(d.s1.length:Int)≤left∧(d.late.length:Int)≤left∧(∀ t∈d.s0,(t.length:Int)≤left)∧(∀ t∈d.s1,(t.length:Int)≤left)∧∀ t∈d.late,(t.lx.length:Int)≤left):=by
 obtain⟨h1,h2,h3⟩:=qpI d h;unfold qtJ;split
 ·exact⟨by omega,by omega,fun h'=>by omega⟩
 ·obtain⟨m1,m2,m3⟩:=qhU (d.late.map LT.lx) (left:=qpg d left) (by omega);refine⟨by omega,m2,fun h'=>?_⟩;obtain⟨a1,a2,a3,a4⟩:=h3 (by omega);obtain⟨b1,b2⟩:=m3 h';rw[qEH]at b1;exact⟨a1,a2,by omega,a3,a4,fun t ht=>by have:=b2 t.lx (qD6.2 ⟨t,ht,rfl⟩);omega⟩
theorem qBc (d:DK) (left:Int) (hg:DkG d) (h0:0≤left∧left≤1048576):CV prog 7 [.agg d.row,.int .i64 left] (.int .i64 (qtJ d left)):=by
 obtain⟨R,hR⟩:∃ R,qtJ d left=R:=⟨_,rfl⟩;have hle:=qpH d h0.1;rw[hR]at hle ⊢;unfold qtJ at hR;obtain⟨l1,l2,l3⟩:=qpI d h0.1;have c1:=qBe d left hg h0;refine cvx func7 [] ntmps7 rfl rfl rfl ?_ (hca:=by simp[DK.row,qaf,LT.row]);simp[DK.row];refine c1.call ?_;by_cases hq:qpg d left<0
 ·rw[if_pos hq]at hR;subst hR;simp[hq]
 ·rw[if_neg hq]at hR;have c2:=qu7 d.late (qpg d left) hg.2.2.1 hg.2.2.2.2.2 ⟨by omega,by omega⟩;rw[hR]at c2;simp[hq,DK.row];refine c2.call ?_;by_cases hz:R<0
  ·have:R=-1:=by omega
   subst this;simp
  ·simp[hz]
theorem qlO {α:Type} {l cs:List α} {i:Nat} {b:α} (h:l[i]?=some b) (hi:i<cs.length) (hm:∀ j,j<i→cs[j]?=l[j]?):∀ j,j<i+1→(cs.set i b)[j]?=l[j]?:=fun j hj=>by
 by_cases hji:j=i
 ·subst hji;rw[qFm hi,h]
 ·rw[qEt (qDn hji)];exact hm j (by omega)
theorem qn8 {α:Type} {l cs:List α} (h:cs.length=l.length) (hm:∀ j,j<l.length→cs[j]?=l[j]?):cs=l:=by
 refine qF5 fun q=>?_;by_cases hq:q<l.length
 ·exact hm q hq
 ·rw[qFa (by omega),qFa (by omega)]
theorem qtG (l:List (List UInt8)) (hl:l.length≤2000000):ACall prog 83 [.lst 1 (l.map qaf)] [] (fun r L'=>r=.sl 900 0 l.length∧L'=[(900,qap l)]):=by
 refine acx func83 [] ntmps83 rfl rfl rfl ?_;simp;refine⟨by omega,?_⟩;refine qa7 (X:=Nat×List (List UInt8)) [0,3,4] [(7,900)] (fun x=>[(4,.int .i64 x.1)]) (fun x=>[(900,qap x.2)]) (fun x=>l.length-x.1)
  (fun x=>x.1≤l.length∧x.2.length=l.length∧∀ j,j<x.1→x.2[j]?=l[j]?) (0,List.replicate l.length []) ⟨by omega,by simp,by omega⟩ ?_ (he:=by simp[qah,qap,qaf])
 rintro⟨i,cs⟩ ⟨hi,hc,hm⟩;simp only at hi hc hm;by_cases h2:i<l.length
 ·obtain⟨b,f1⟩:∃ b,l[i]?=some b:=⟨_,qDF (by omega)⟩;have h2':(i:Int)<l.length:=by omega
  have hil:i<cs.length:=by omega
  have f0:l[i]=b:=(qEb.1 f1).2;have e1:=qaq ((i:Int)+1) (by omega) (by omega);simp[h2',h2,hil,f0,f1,qaf,qap,hc];exact nx (i+1,cs.set i b) [(900,900)] ⟨by simp only;omega,by simp[hc],qlO f1 hil hm⟩ (by simp only;omega) (h4:=by simp[qah,e1,qap,qFG,qaf])
 ·have hie:i=l.length:=by omega
  subst hie;have:=qn8 hc hm;subst this;simp
theorem qr1 (x:LT):CV prog 84 [.agg x.row] (.agg x.row):=by
 refine cvx func84 [] ntmps84 rfl rfl rfl ?_ (hca:=by simp[LT.row]) (hcv:=by simp[LT.row]);simp[LT.row]
theorem qu3 (l:List LT) (hl:l.length≤2000000):ACall prog 35 [.lst 3 (l.map LT.row)] [] (fun r L'=>r=.sl 900 0 l.length∧L'=[(900,qcz l)]):=by
 refine acx func35 [] ntmps35 rfl rfl rfl ?_;simp;refine⟨by omega,?_⟩;refine qa7 (X:=Nat×List LT) [0,3,4] [(7,900)] (fun x=>[(4,.int .i64 x.1)]) (fun x=>[(900,qcz x.2)]) (fun x=>l.length-x.1)
  (fun x=>x.1≤l.length∧x.2.length=l.length∧∀ j,j<x.1→x.2[j]?=l[j]?) (0,List.replicate l.length ⟨0,0,[]⟩) ⟨by omega,by simp,by omega⟩ ?_ (he:=by simp[qah,qcz,LT.row])
 rintro⟨i,cs⟩ ⟨hi,hc,hm⟩;simp only at hi hc hm;by_cases h2:i<l.length
 ·obtain⟨b,f1⟩:∃ b,l[i]?=some b:=⟨_,qDF (by omega)⟩;have h2':(i:Int)<l.length:=by omega
  have hil:i<cs.length:=by omega
  have f0:l[i]=b:=(qEb.1 f1).2;have e1:=qaq ((i:Int)+1) (by omega) (by omega);have c1:=qr1 b;simp only[LT.row]at c1;simp[h2',h2,hil,f0,f1,LT.row,qcz,hc];refine c1.call ?_;simp[h2',h2,hil,f0,f1,LT.row,qcz,hc];exact nx (i+1,cs.set i b) [(900,900)] ⟨by simp only;omega,by simp[hc],qlO f1 hil hm⟩ (by simp only;omega) (h4:=by simp[qah,e1,qcz,qFG,LT.row])
 ·have hie:i=l.length:=by omega
  subst hie;have:=qn8 hc hm;subst this;simp
theorem qBb (d:DK) (h:DkT d):ACall prog 34 [.agg [.lst 1 (d.s0.map qaf),.lst 1 (d.s1.map qaf)]] [] (fun r L'=>r=.agg [.sl 901 0 d.s0.length,.sl 902 0 d.s1.length]∧L'=[(901,qap d.s0),(902,qap d.s1)]):=by
 have l0:=h.l0;have l1:=h.l1;have c1:=qtG d.s0 (by omega);have c2:=qtG d.s1 (by omega);refine acx func34 [] ntmps34 rfl rfl rfl ?_;simp;refine qa9 (X:=Nat) [1,2,3,4] [(1,1),(2,2),(3,3)] (fun i=>[(4,.int .i64 i)]) (fun i=>(1,⟨2,[[.lst 1 (d.s0.map qaf),.lst 1 (d.s1.map qaf)]]⟩)::(2,⟨2,[[.nils,.nils]]⟩)::(3,⟨2,[[if i=0 then .nils else .sl 901 0 d.s0.length,if i=2 then .sl 902 0 d.s1.length else .nils]]⟩)::(if i=0 then [] else if i=1 then [(901,qap d.s0)] else [(901,qap d.s0),(902,qap d.s1)])) (fun i=>2-i) (fun i=>i=0∨i=1∨i=2) 0 (.inl rfl) ?_ (he:=by simp[qah])
 rintro i (rfl | rfl | rfl)
 ·simp[qah];refine qac [] (by kernel_rfl) c1 (by simp[qaf]) (by simp) trivial (by simp) (by simp) ?_;rintro r L' ⟨rfl,rfl⟩;refine⟨[(900,901)],⟨by simp,by simp,by simp,by simp,by simp⟩,?_⟩;simp only[qad];simp;exact nx 1 [(1,1),(2,2),(3,3),(901,901)] (.inr (.inl rfl)) (h4:=by simp[qah])
 ·simp[qah];refine qac [] (by kernel_rfl) c2 (by simp[qaf]) (by simp) trivial (by simp) (by simp) ?_;rintro r L' ⟨rfl,rfl⟩;refine⟨[(900,902)],⟨by simp,by simp,by simp,by simp,by simp⟩,?_⟩;simp only[qad];simp;exact nx 2 [(1,1),(2,2),(3,3),(901,901),(902,902)] (.inr (.inr rfl)) (h4:=by simp[qah])
 ·simp[qah]
theorem qA9 (d:DK) (h:DkT d):ACall prog 9 [.agg d.row] [] (fun r L'=>r=.agg (qcA d 901 902 903)∧L'=[(901,qap d.s0),(902,qap d.s1),(903,qcz d.late)]):=by
 have c1:=qBb d h;have c2:=qu3 d.late (by have:=h.l2;omega);refine acx func9 [] ntmps9 rfl rfl rfl ?_;simp[DK.row];refine qac [] (by kernel_rfl) c1 (by simp[qaf]) (by simp) trivial (by simp) (by simp) ?_;rintro r L' ⟨rfl,rfl⟩;refine⟨[(901,901),(902,902)],⟨by simp,by simp,by simp,by simp,by simp⟩,?_⟩;simp only[qad];simp;refine qac [] (by kernel_rfl) c2 (by simp[LT.row]) (by simp) trivial (by simp) (by simp) ?_;rintro r L' ⟨rfl,rfl⟩;refine⟨[(900,903)],⟨by simp,by simp,by simp,by simp,by simp⟩,?_⟩;simp only[qad];simp[qcA]
theorem quk (l:List (List UInt8)) (hl:l.length≤2000000):CV prog 96 [.lst 1 (l.map qaf),.lst 1 (l.map qaf)] (.bool true):=by
 refine cvx func96 [] ntmps96 rfl rfl rfl ?_ (hca:=by simp[qaf]);simp;refine qa7 (X:=Nat) [0,1,5] [] (fun x=>[(5,.int .i64 x)]) (fun x=>[]) (fun x=>l.length-x) (fun x=>x≤l.length) 0 (by simp) ?_;rintro i hi;by_cases h2:i<l.length
 ·obtain⟨b,f1⟩:∃ b,l[i]?=some b:=⟨_,qDF (by omega)⟩;have h2':(i:Int)<l.length:=by omega
  have f0:l[i]=b:=(qEb.1 f1).2;have e1:=qaq ((i:Int)+1) (by omega) (by omega);simp[h2',h2,f0,f1,qaf];exact nx (i+1) [] (by omega) (h4:=by simp[e1])
 ·have:i=l.length:=by omega
  subst this;simp
theorem qs5 (x:LT):CV prog 97 [.agg x.row,.agg x.row] (.bool true):=by
 refine cvx func97 [] ntmps97 rfl rfl rfl ?_ (hca:=by simp[LT.row]);simp[LT.row]
theorem qwL (l:List LT) (hl:l.length≤2000000):CV prog 40 [.lst 3 (l.map LT.row),.lst 3 (l.map LT.row)] (.bool true):=by
 refine cvx func40 [] ntmps40 rfl rfl rfl ?_ (hca:=by simp[LT.row]);simp;refine qa7 (X:=Nat) [0,1,5] [] (fun x=>[(5,.int .i64 x)]) (fun x=>[]) (fun x=>l.length-x) (fun x=>x≤l.length) 0 (by simp) ?_;rintro i hi;by_cases h2:i<l.length
 ·obtain⟨b,f1⟩:∃ b,l[i]?=some b:=⟨_,qDF (by omega)⟩;have h2':(i:Int)<l.length:=by omega
  have f0:l[i]=b:=(qEb.1 f1).2;have e1:=qaq ((i:Int)+1) (by omega) (by omega);have c1:=qs5 b;simp only[LT.row]at c1;simp[h2',h2,f0,f1,LT.row];refine c1.call ?_;simp;exact nx (i+1) [] (by omega) (h4:=by simp[e1])
 ·have:i=l.length:=by omega
  subst this;simp
theorem qCf (d:DK) (h:DkT d):CV prog 39 [.agg [.lst 1 (d.s0.map qaf),.lst 1 (d.s1.map qaf)],.agg [.lst 1 (d.s0.map qaf),.lst 1 (d.s1.map qaf)]] (.bool true):=by
 have l0:=h.l0;have l1:=h.l1;have c1:=quk d.s0 (by omega);have c2:=quk d.s1 (by omega);refine cvx func39 [(4,[zI 0,zI 1,zJ 2 [2] [],zJ 3 [] [2],zJ 4 [] [2],zJ 5 [3] [2],zI 6,zI 7])] ntmps39 rfl rfl rfl ?_ (hca:=by simp[qaf]);simp;refine qa7 (X:=Nat) [2,3,5] [(2,2),(3,3)] (fun x=>[(5,.int .i64 x)]) (fun x=>[]) (fun x=>2-x) (fun x=>x=0∨x=1∨x=2) 0 (.inl rfl) ?_ (he:=by simp[qah,qaf]);rintro i (rfl | rfl | rfl)
 ·simp[qah,qaf];refine c1.call ?_;simp;exact nx 1 [(2,2),(3,3)] (.inr (.inl rfl)) (h4:=by simp[qah,qaf])
 ·simp[qah,qaf];refine c2.call ?_;simp;exact nx 2 [(2,2),(3,3)] (.inr (.inr rfl)) (h4:=by simp[qah,qaf])
 ·simp[qah]
theorem qCe (d:DK) (h:DkT d):CV prog 11 [.agg d.row,.agg d.row] (.bool true):=by
 have c1:=qCf d h;have c2:=qwL d.late (by have:=h.l2;omega);refine cvx func11 [] ntmps11 rfl rfl rfl ?_ (hca:=by simp[DK.row,qaf,LT.row]);simp[DK.row];refine c1.call ?_;simp;refine c2.call ?_;simp
def mkG {α:Type} (f:Nat→α) (w k n:Nat):List α:=(List.range n).map fun i=>f (k+w * i)
def qy5 (k:Nat):List UInt8:=mtB k
def qC3 (k:Nat):LT:=⟨k,((k+1:Nat):Int),mtB (k+2)⟩
def mkD (d:DK) (k:Nat):DK:=⟨mkG qy5 1 k d.s0.length,mkG qy5 1 (k+d.s0.length) d.s1.length,mkG qC3 3 (k+d.s0.length+d.s1.length) d.late.length⟩
theorem qr7 {n:Nat} {avs:List AV} (h:Shp prog (n+2) 22 avs):∃ l:List (List UInt8),(l.length≤maxLen∧∀ t∈l,t.length≤maxLen)∧avs=[.lst 1 (l.map qaf)]:=by
 obtain⟨e2,m2,rfl,k2⟩:=qk4 underlying22 h;obtain⟨l2,rfl,g2⟩:=qmt qaf (fun t:List UInt8=>t.length≤maxLen) e2 fun r hr=>qva (k2 r hr);have c1:prog.cellsOf 9=1:=by kernel_rfl
 rw[c1];exact⟨l2,⟨by simpa using m2,g2⟩,rfl⟩
theorem qy6 {n:Nat} {avs:List AV} (h:Shp prog (n+2) 98 avs):∃ x:LT,x.lx.length≤maxLen∧avs=x.row:=by
 obtain⟨a1,b1,rfl,h1,a2,b2,rfl,h2,a3,b3,rfl,h3,rfl⟩:=qi9 underlying98 h;obtain⟨z1,g1,rfl⟩:=qpT h1;obtain⟨z2,g2,rfl⟩:=qpT h2;obtain⟨s3,m3,rfl⟩:=qja underlying9 h3;exact⟨⟨z1,z2,s3⟩,m3,rfl⟩
theorem qzK {n:Nat} {avs:List AV} (h:Shp prog (n+6) 26 avs):∃ d:DK,DkG d∧avs=d.row:=by
 obtain⟨a1,b1,rfl,h1,a2,b2,rfl,h2,rfl⟩:=qi9 underlying26 h;obtain⟨l,hl,rfl,hg⟩:=quI (fun l:List (List UInt8)=>[.lst 1 (l.map qaf)]) (fun l=>l.length≤maxLen∧∀ t∈l,t.length≤maxLen) _ (fun r hr=>qr7 hr) 2 a1 (qpU underlying23 h1);obtain⟨e2,m2,rfl,k2⟩:=qk4 underlying24 h2;obtain⟨l2,rfl,g2⟩:=qmt LT.row (fun x=>x.lx.length≤maxLen) e2 fun r hr=>qy6 (k2 r hr);have c1:prog.cellsOf 98=3:=by kernel_rfl
 rw[c1]
 match l,hl with
 | [s0,s1],_ =>
  have q0:=hg s0 (by simp);have q1:=hg s1 (by simp);exact⟨⟨s0,s1,l2⟩,⟨q0.1,q1.1,by simpa using m2,q0.2,q1.2,g2⟩,rfl⟩
theorem qaM (x y:List UInt8) (r:List (List UInt8)) (c:UInt8):Lib.join (x::y::r) [c]=x++c::Lib.join (y::r) [c]:=by
 rw[Lib.join_cons,Lib.join_cons];simp[Lib.joinTail]
theorem qm2 (c:UInt8) (s cur:List UInt8):qaF c s cur≠[]:=fun h=>by
 have:=qkD c s cur;rw[h]at this;simp at this
theorem qdB (c:UInt8):∀ (s cur:List UInt8),Lib.join (qaF c s cur) [c]=cur++s
 | [],cur=>by simp[qaF,Lib.join_one]
 | x::r,cur=>by
  unfold qaF;by_cases h:x=c
  ·rw[if_pos h];subst h;have ih:=qdB x r [];cases hr:qaF x r []with
   | nil=>exact absurd hr (qm2 _ _ _)
   | cons y q =>
    rw[hr]at ih;rw[qaM,ih];simp
  ·rw[if_neg h,qdB c r (cur++[x])];simp
theorem qkF (c:UInt8):∀ (w r cur:List UInt8),(∀ x∈w,x≠c)→qaF c (w++c::r) cur=(cur++w)::qaF c r []
 | [],r,cur,_=>by simp[qaF]
 | x::w,r,cur,h=>by
  have hx:=h x (by simp);rw[qFt,qaF,if_neg hx,qkF c w r _ fun y hy=>h y (by simp[hy])];simp
theorem qkE (c:UInt8):∀ (w cur:List UInt8),(∀ x∈w,x≠c)→qaF c w cur=[cur++w]
 | [],cur,_=>by simp[qaF]
 | x::w,cur,h=>by
  rw[qaF,if_neg (h x (by simp)),qkE c w _ fun y hy=>h y (by simp[hy])];simp
theorem qdi (c:UInt8):∀ (ws:List (List UInt8)),ws≠[]→(∀ w∈ws,∀ x∈w,x≠c)→qaF c (Lib.join ws [c]) []=ws
 | [],h,_=>absurd rfl h
 | [w],_,h=>by
  rw[Lib.join_one,qkE c w [] (h w (by simp))];simp
 | w::v::r,_,h=>by
  rw[qaM,qkF c w _ [] (h w (by simp)),qdi c (v::r) (by simp) fun u hu=>h u (by simp[hu])];simp
theorem qoc (n:Nat):∀ x∈Lib.decDigits n,48≤x.toNat∧x.toNat≤57:=by
 induction n using Nat.strongRecOn with
 | _ n ih =>
  intro x hx;rw[Lib.decDigits]at hx;split at hx
  ·rename_i h;simp only[qF8]at hx;subst hx;rw[qi1 h];omega
  ·rename_i h;rcases qE5.1 hx with hx | hx
   ·exact ih (n / 10) (by omega) x hx
   ·simp only[qF8]at hx;subst hx;rw[qi1 (by omega)];omega
theorem qgx (n:Int) (c:UInt8) (hc:c.toNat<48) (h45:c≠45):∀ x∈Lib.itoa n,x≠c:=by
 intro x hx;unfold Lib.itoa at hx;split at hx
 ·rcases qE3.1 hx with rfl | hx
  ·exact fun e=>h45 e.symm
  ·have:=qoc _ x hx;rintro rfl;omega
 ·have:=qoc _ x hx;rintro rfl;omega
theorem qen (n:Int) (h:0≤n):Lib.itoa n=dec n:=by
 have e:n=((n.toNat:Nat):Int):=by omega
 rw[e,qkb];rfl
theorem qdk {t:List UInt8} (h:qdE t=true):Lib.itoa (qaE t)=t:=by
 simp only[qdE,Bool.and_eq_true,decide_eq_true_eq]at h;exact h.2
def qkX (t:List UInt8):Option (Int×Int×Int) :=
 match qaF 46 t []with
 | [a,b,c]=>if qdE a=true∧qdE b=true∧qdE c=true then some (qaE a,qaE b,qaE c) else none
 | _=>none
theorem qkV {t:List UInt8} {a b c:Int} (h:qkX t=some (a,b,c)):Lib.join [Lib.itoa a,Lib.itoa b,Lib.itoa c] [46]=t:=by
 unfold qkX at h;split at h
 ·rename_i x y z hc;split at h
  ·rename_i hq;simp only[qDs,qDt]at h;obtain⟨rfl,rfl,rfl⟩:=h;have:=qdB 46 t [];rw[hc]at this;rw[qdk hq.1,qdk hq.2.1,qdk hq.2.2];simpa using this
  ·cases h
 ·cases h
theorem qpz (a b c:Int) (ha:qpl a) (hb:qpl b) (hc:qpl c):qkX (Lib.join [Lib.itoa a,Lib.itoa b,Lib.itoa c] [46])=some (a,b,c):=by
 have h1:∀ n:Int,∀ x∈Lib.itoa n,x≠(46:UInt8):=fun n=>qgx n 46 (by decide) (by decide);unfold qkX;rw[qdi 46 _ (by simp) (by
  intro w hw;simp only[qE3,qFc,or_false]at hw;rcases hw with rfl | rfl | rfl
  ·exact h1 _
  ·exact h1 _
  ·exact h1 _)]
 obtain⟨a1,a2⟩:=qjD ha.1 ha.2;obtain⟨b1,b2⟩:=qjD hb.1 hb.2;obtain⟨c1,c2⟩:=qjD hc.1 hc.2;simp[a1,a2,b1,b2,c1,c2]
def qbQ (t:List UInt8):PT×Bool :=
 if t=[45] then (⟨0,0,0⟩,true) else
 match qkX t with
 | some (a,b,c)=>if qao ⟨a,b,c⟩=true then (⟨a,b,c⟩,true) else (⟨0,0,0⟩,false)
 | none=>(⟨0,0,0⟩,false)
theorem qdU {p:PT} (h:qao p=true):qaH p=true∧p.pa≠0:=by
 simpa [qao]using h
theorem qds {p:PT} (h:qao p=true):qaL p=Lib.join [Lib.itoa p.pa,Lib.itoa p.ps,Lib.itoa p.pb] [46]:=by
 obtain⟨h1,h2⟩:=qdU h;have hb:=qji h1;unfold qaL;rw[if_neg (by simp[h1]),if_neg h2,qen _ (by omega),qen _ (by omega),qen _ (by omega),qaM,qaM,Lib.join_one]
theorem qic {t:List UInt8} (h:(qbQ t).2=true):qaL (qbQ t).1=t∧qaH (qbQ t).1=true:=by
 unfold qbQ at h ⊢;split at h
 ·rename_i ht;rw[if_pos ht];subst ht;exact⟨by decide,by decide⟩
 ·rename_i ht;rw[if_neg ht];split at h
  ·rename_i a b c htr;split at h
   ·rename_i hq;simp only[hq,if_true];rw[qds hq];exact⟨qkV htr,(qdU hq).1⟩
   ·simp at h
  ·simp at h
theorem qgs {p:PT} (h:qaH p=true):qbQ (qaL p)=(p,true):=by
 have hb:=qji h;by_cases h0:p.pa=0
 ·obtain⟨pa,ps,pb⟩:=p;simp only at h0 hb;subst h0;have:ps=0∧pb=0:=by simpa [qaH]using h
  obtain⟨rfl,rfl⟩:=this;decide
 ·have hq:qao p=true:=by simp[qao,h,h0]
  rw[qds hq];have ht:=qpz p.pa p.ps p.pb ⟨by omega,by omega⟩ ⟨by omega,by omega⟩ ⟨by omega,by omega⟩;unfold qbQ;rw[ht];have hne:Lib.join [Lib.itoa p.pa,Lib.itoa p.ps,Lib.itoa p.pb] [46]≠[45]:=fun e=>by
   rw[e]at ht;simp[qkX,qaF]at ht
  rw[if_neg hne];simp[hq]
theorem qm9 (s:List UInt8):qpl (qaE s):=by
 unfold qaE;cases h:Lib.atoiAll s with
 | ok v =>
  simp only;unfold Lib.atoiAll at h;split at h
  ·cases h
  ·simp only at h;split at h
   ·cases h
   ·cases h
   ·rename_i u hu;split at h
    ·cases h
    ·split at h
     ·cases h
     ·injection h with h;subst h;rename_i h1 h2;unfold qpl;split
      ·rename_i hn;have:¬ 9223372036854775808<u:=fun e=>h2 ⟨hn,e⟩;omega
      ·rename_i hn;have:¬ 9223372036854775808≤u:=fun e=>h1 ⟨hn,e⟩;omega
 | range =>
  simp only[Lib.atoiSat,qpl];split <;> omega
 | _=>simp[qpl]
theorem qoG {t:List UInt8} (h:(qbQ t).2=false):qbQ t=(⟨0,0,0⟩,false):=by
 unfold qbQ at h ⊢;split
 ·rename_i ht;rw[if_pos ht]at h;simp at h
 ·rename_i ht;rw[if_neg ht]at h;split
  ·rename_i a b c htr;split
   ·rename_i hq;rw[htr]at h;simp[hq]at h
   ·rfl
  ·rfl
theorem qkW {t:List UInt8} {a b c:List UInt8} (h:qaF 46 t []=[a,b,c]):qkX t=if qdE a=true∧qdE b=true∧qdE c=true then some (qaE a,qaE b,qaE c) else none:=by
 unfold qkX;rw[h]
theorem qhT {t:List UInt8} (h:(qaF 46 t []).length≠3):qkX t=none:=by
 unfold qkX;split
 ·rename_i a b c hc;rw[hc]at h;simp at h
 ·rfl
theorem qnJ {t:List UInt8} (h:qkX t=none) (ht:t≠[45]):qbQ t=(⟨0,0,0⟩,false):=by
 unfold qbQ;rw[if_neg ht,h]
theorem qtY {t a b c:List UInt8} (h:qaF 46 t []=[a,b,c]) (ht:t≠[45]) :
  qbQ t=if qdE a=true∧qdE b=true∧qdE c=true∧qao ⟨qaE a,qaE b,qaE c⟩=true then (⟨qaE a,qaE b,qaE c⟩,true) else (⟨0,0,0⟩,false):=by
 unfold qbQ;rw[if_neg ht,qkW h];by_cases h1:qdE a=true∧qdE b=true∧qdE c=true
 ·rw[if_pos h1];obtain⟨h2,h3,h4⟩:=h1;simp only[h2,h3,h4,true_and]
 ·rw[if_neg h1,if_neg (fun e=>h1 ⟨e.1,e.2.1,e.2.2.1⟩)]
theorem qqz {t a b c:List UInt8} (h:qaF 46 t []=[a,b,c]) (ht:t≠[45]) :
  qbQ t=if (qaw a).2=true∧(qaw b).2=true∧(qaw c).2=true∧qaL ⟨(qaw a).1,(qaw b).1,(qaw c).1⟩=t then (⟨(qaw a).1,(qaw b).1,(qaw c).1⟩,true) else (⟨0,0,0⟩,false):=by
 have hj:=qdB 46 t [];rw[h]at hj;by_cases hs:(qaw a).2=true∧(qaw b).2=true∧(qaw c).2=true∧qaL ⟨(qaw a).1,(qaw b).1,(qaw c).1⟩=t
 ·rw[if_pos hs];obtain⟨s1,s2,s3,s4⟩:=hs;have hok:qaH ⟨(qaw a).1,(qaw b).1,(qaw c).1⟩=true:=by
   cases hk:qaH ⟨(qaw a).1,(qaw b).1,(qaw c).1⟩with
   | true=>rfl
   | false =>
    rw[qaL,if_pos hk]at s4;subst s4;simp[qaF]at h
  rw[← s4];exact qgs hok
 ·rw[if_neg hs,qtY h ht];split
  ·rename_i hq;exfalso;obtain⟨c1,c2,c3,hr⟩:=hq;have hb:=qji (qdU hr).1;simp only at hb;have n1:=(qfb a).1 ⟨c1,by omega⟩;have n2:=(qfb b).1 ⟨c2,by omega⟩;have n3:=(qfb c).1 ⟨c3,by omega⟩;refine hs ⟨n1,n2,n3,?_⟩;rw[← qgV n1,← qgV n2,← qgV n3,qds hr];simp only;rw[qdk c1,qdk c2,qdk c3];simpa using hj
  ·rfl
theorem qea {α:Type} {l:List α} (h:l.length=3):∃ a b c,l=[a,b,c]:=by
 match l,h with
 | [a,b,c],_=>exact⟨a,b,c,rfl⟩
theorem qfO (t:List UInt8) (hl:t.length≤1048576):CV prog 157 [.str t] (.tup [.agg (qbQ t).1.row,.bool (qbQ t).2]):=by
 have c1:=qjV t 46 hl;have hw:=qbm 46 t [];have hnum:=qdj 46 t [];refine cvx func157 [] ntmps157 rfl rfl rfl ?_ (hcv:=by simp[PT.row]);by_cases h1:t=[45]
 ·subst h1;simp[qbQ,PT.row]
 simp[h1];refine c1.call ?_;by_cases h3:(qaF 46 t []).length=3
 ·obtain⟨a,b,c,hc⟩:=qea h3;rw[hc]at hw;have n1:=qhZ a (by have:=hw a (by simp);simp at this;omega);have n2:=qhZ b (by have:=hw b (by simp);simp at this;omega);have n3:=qhZ c (by have:=hw c (by simp);simp at this;omega);have hsp:=qqz hc h1;have tx:=qeE ⟨(qaw a).1,(qaw b).1,(qaw c).1⟩;simp only[PT.row]at tx;by_cases h30:30<t.length
  ·have hf:(qbQ t).2=false:=by
    cases hk:(qbQ t).2 with
    | false=>rfl
    | true =>
     have:=qbl (qbQ t).1;rw[(qic hk).1]at this;omega
   rw[qoG hf];simp[hc,qcr,PT.row,show(30:Int)<t.length by omega,h30]
  ·simp[hc,qcr,PT.row,show ¬ (30:Int)<t.length by omega,h30];refine n1.call ?_;simp;refine n2.call ?_;simp;refine n3.call ?_;rw[hsp];generalize qaw a=A at *
   generalize qaw b=B at *
   generalize qaw c=C at *
   obtain⟨av,ak⟩:=A;obtain⟨bv,bk'⟩:=B;obtain⟨cv,ck⟩:=C;simp only at tx;cases ak with
   | false=>simp[PT.row]
   | true =>
    cases bk' with
    | false=>simp[PT.row]
    | true =>
     cases ck with
     | false=>simp[PT.row]
     | true =>
      simp[PT.row];refine tx.call ?_;by_cases he:qaL ⟨av,bv,cv⟩=t
      ·simp[he,PT.row]
      ·simp[he,PT.row]
 ·rw[qnJ (qhT h3) h1];simp[qcr,h3,show ¬ ((qaF 46 t []).length:Int)=3 by omega,PT.row]
theorem qsQ (l:List Int) (hl:l.length≤10) (h:∀ x∈l,qpl x):CV prog 263 [.lst 1 (l.map qae)] (.str (Lib.join (l.map Lib.itoa) [46])):=by
 have hlen:∀ x∈l.map Lib.itoa,x.length≤20:=fun x hx=>by
  obtain⟨n,hn,rfl⟩:=qD6.1 hx;have:=h n hn;unfold qpl at this;unfold Lib.itoa;split
  ·have:=qkx n.natAbs 19 (by omega) (by omega);simp;omega
  ·have:=qkx n.toNat 19 (by omega) (by omega);omega
 have hj:=qfY [46] 20 (l.map Lib.itoa) hlen;simp only[qEH]at hj;have cj:=qjs (l.map Lib.itoa) [46] (by simp;omega) (by simp at hj;omega);refine cvx func263 [] ntmps263 rfl rfl rfl ?_ (hca:=by simp[qae]);simp;refine qeV (qjM 3 1 (by simp) (by simp)) ?_;refine qa9 (X:=Nat) [2,3,6,7,8] [(3,900)] (fun i=>[(3,.sl 900 0 i),(8,.int .i64 i)]) (fun i=>[(900,qap ((l.take i).map Lib.itoa))]) (fun i=>l.length-i) (fun i=>i≤l.length) 0 (by simp) ?_ (he:=by simp[qah,qap]);intro i hi;cases hr:l.drop i with
 | nil =>
  have:=qaU hr;have hie:i=l.length:=by omega
  subst hie;rw[qFx];simp;refine cj.view (by simp[qb5,mtA,qap,qaf,qDU]) ?_;simp
 | cons x r =>
  obtain⟨g1,e0,e1,g3⟩:=qaV hr;have hx:=h x (qFu e1);have cd:=qwi x hx.1 hx.2;have e2:=qaq ((i:Int)+1) (by omega) (by omega);simp[g1,e0,e1,qae];refine cd.call ?_;simp[qap];have hmin:min i l.length=i:=by omega
  exact⟨by omega,nx (i+1) [(16,900)] (by omega) (h4:=by
   have ht:=tk1 (qaf ∘ Lib.itoa) e1;simp[qap,ht,qDU,hmin,e2];simp[qaf])⟩
theorem qr3 {t a b c:List UInt8} (h:qaF 46 t []=[a,b,c]) (h1:qbA a=true) (h2:qbA b=true) (h3:qbA c=true) :
  (Lib.join [Lib.itoa (qaE a),Lib.itoa (qaE b),Lib.itoa (qaE c)] [46]=t)↔(qdE a=true∧qdE b=true∧qdE c=true):=by
 have hj:=qdB 46 t [];rw[h]at hj;have hn:∀ n:Int,∀ x∈Lib.itoa n,x≠(46:UInt8):=fun n=>qgx n 46 (by decide) (by decide);constructor
 ·intro e;have hc:=qdi 46 [Lib.itoa (qaE a),Lib.itoa (qaE b),Lib.itoa (qaE c)] (by simp) (by
   intro w hw;simp only[qE3,qFc,or_false]at hw;rcases hw with rfl | rfl | rfl
   ·exact hn _
   ·exact hn _
   ·exact hn _)
  rw[e,h]at hc;simp only[qE9,and_true]at hc;obtain⟨e1,e2,e3⟩:=hc;simp only[qdE,h1,h2,h3,qFP,decide_eq_true_eq];exact⟨e1.symm,e2.symm,e3.symm⟩
 ·rintro⟨c1,c2,c3⟩;rw[qdk c1,qdk c2,qdk c3];simpa using hj
def thB (t:List UInt8):(Int×Int×Int)×Bool :=
 match qaF 46 t []with
 | [a,b,c]=>if qbA a=true∧qbA b=true∧qbA c=true then ((qaE a,qaE b,qaE c),decide (qdE a=true∧qdE b=true∧qdE c=true)) else ((0,0,0),false)
 | _=>((0,0,0),false)
theorem qu6 {t a b c:List UInt8} (h:qaF 46 t []=[a,b,c]):thB t=if qbA a=true∧qbA b=true∧qbA c=true then ((qaE a,qaE b,qaE c),decide (qdE a=true∧qdE b=true∧qdE c=true)) else ((0,0,0),false):=by
 unfold thB;rw[h]
theorem qu5 {t:List UInt8} (h:(qaF 46 t []).length≠3):thB t=((0,0,0),false):=by
 unfold thB;split
 ·rename_i a b c hc;rw[hc]at h;simp at h
 ·rfl
theorem qq0 (t:List UInt8) (hl:t.length≤1048576):CV prog 184 [.str t] (.tup [.int .i64 (thB t).1.1,.int .i64 (thB t).1.2.1,.int .i64 (thB t).1.2.2,.bool (thB t).2]):=by
 have c1:=qhY t 46 hl;have hw:=qbm 46 t [];have hnum:=qdj 46 t [];by_cases h3:(qaF 46 t []).length=3
 ·obtain⟨a,b,c,hc⟩:=qea h3;rw[hc]at hw c1;have la:=hw a (by simp);have lb:=hw b (by simp);have lc:=hw c (by simp);simp at la lb lc;have n1:=ql9 a (by omega);have n2:=ql9 b (by omega);have n3:=ql9 c (by omega);obtain⟨R,hR⟩:∃ R,thB t=R:=⟨_,rfl⟩;rw[hR];rw[qu6 hc]at hR;have cp:=qsQ [qaE a,qaE b,qaE c] (by simp) (by
   intro x hx;simp only[qE3,qFc,or_false]at hx;rcases hx with rfl | rfl | rfl
   ·exact qm9 _
   ·exact qm9 _
   ·exact qm9 _)
  have heq:=@qr3 t a b c hc;refine cvx func184 [(13,[zI 0,zJ 1 [7] [],zJ 2 [] [7],zJ 3 [7] [7],zJ 4 [] [7],zJ 5 [7] [7],zJ 6 [] [7],zJ 7 [7] [7],zJ 8 [] [7],zJ 9 [7] [7],zJ 10 [] [7],zJ 11 [7] [7],zJ 14 [] [7],zJ 12 [] [7],zJ 13 [] [7],zJ 15 [] [7],zJ 16 [] [7],zJ 17 [] [7],zI 18,zI 19])] ntmps184 rfl rfl rfl ?_;simp;refine c1.call ?_;simp only[qcr,qae,qD5,qFi]at c1 cp;simp[qcr];refine qa7 (X:=Nat) [0,7,17,18,19] [(7,7)] (fun i=>[(19,.int .i64 i)]) (fun i=>[(7,⟨3,[[.int .i64 (if 0<i then qaE a else 0),.int .i64 (if 1<i then qaE b else 0),.int .i64 (if 2<i then qaE c else 0)]]⟩)]) (fun i=>3-i)
   (fun i=>(i=0∨(i=1∧qbA a=true)∨(i=2∧qbA a=true∧qbA b=true)∨(i=3∧qbA a=true∧qbA b=true∧qbA c=true))) 0 (.inl rfl) ?_ (he:=by simp[qah])
  rintro i (rfl | ⟨rfl,k1⟩ | ⟨rfl,k1,k2⟩ | ⟨rfl,k1,k2,k3⟩)
  ·simp[qah,qcr];refine n1.call ?_;cases hk:qbA a with
   | false =>
    rw[if_neg (by simp[hk])]at hR;simp[qhF,← hR]
   | true =>
    simp[qhF];exact nx 1 [(7,7)] (by simp[hk]) (h4:=by simp[qah])
  ·simp[qah,qcr];refine n2.call ?_;cases hk:qbA b with
   | false =>
    rw[if_neg (by simp[hk])]at hR;simp[qhF,← hR]
   | true =>
    simp[qhF];exact nx 2 [(7,7)] (by simp[hk,k1]) (h4:=by simp[qah])
  ·simp[qah,qcr];refine n3.call ?_;cases hk:qbA c with
   | false =>
    rw[if_neg (by simp[hk])]at hR;simp[qhF,← hR]
   | true =>
    simp[qhF];exact nx 3 [(7,7)] (by simp[hk,k1,k2]) (h4:=by simp[qah])
  ·rw[if_pos ⟨k1,k2,k3⟩]at hR;simp[qah];refine cp.view (by simp[qb5,mtA]) ?_;simp[← hR];have:=heq k1 k2 k3;rw[qFX];simp[this]
 ·rw[qu5 h3];refine cvx func184 [(13,[zI 0,zJ 1 [7] [],zJ 2 [] [7],zJ 3 [7] [7],zJ 4 [] [7],zJ 5 [7] [7],zJ 6 [] [7],zJ 7 [7] [7],zJ 8 [] [7],zJ 9 [7] [7],zJ 10 [] [7],zJ 11 [7] [7],zJ 14 [] [7],zJ 12 [] [7],zJ 13 [] [7],zJ 15 [] [7],zJ 16 [] [7],zJ 17 [] [7],zI 18,zI 19])] ntmps184 rfl rfl rfl ?_;simp;refine c1.call ?_;simp[qcr,h3,show ¬ ((qaF 46 t []).length:Int)=3 by omega]
theorem qeN (t:List UInt8) (hl:t.length≤1048576):CV prog 183 [.str t] (.tup [.agg (qbQ t).1.row,.bool (qbQ t).2]):=by
 have c1:=qq0 t hl;refine cvx func183 [] ntmps183 rfl rfl rfl ?_ (hcv:=by simp[PT.row]);by_cases h1:t=[45]
 ·subst h1;simp[qbQ,PT.row]
 simp[h1];refine c1.call ?_;have c2:=qoF ⟨(thB t).1.1,(thB t).1.2.1,(thB t).1.2.2⟩;simp only[PT.row]at c2;by_cases h3:(qaF 46 t []).length=3
 ·obtain⟨a,b,c,hc⟩:=qea h3;have e1:=qtY hc h1;have e2:=qu6 hc;by_cases hk:qbA a=true∧qbA b=true∧qbA c=true
  ·rw[if_pos hk]at e2;by_cases hq:qdE a=true∧qdE b=true∧qdE c=true
   ·rw[show decide (qdE a=true∧qdE b=true∧qdE c=true)=true by simpa using hq]at e2;rw[e2]at c2 ⊢;simp only at c2;obtain⟨q1,q2,q3⟩:=hq;simp only[q1,q2,q3,true_and]at e1;rw[e1];simp[PT.row];refine c2.call ?_;cases hr:qao ⟨qaE a,qaE b,qaE c⟩with
    | false=>simp[PT.row]
    | true=>simp[PT.row]
   ·rw[show decide (qdE a=true∧qdE b=true∧qdE c=true)=false by simpa using hq]at e2;rw[if_neg (fun e=>hq ⟨e.1,e.2.1,e.2.2.1⟩)]at e1;rw[e1,e2];simp[PT.row]
  ·rw[if_neg hk]at e2;have hq:¬ (qdE a=true∧qdE b=true∧qdE c=true∧qao ⟨qaE a,qaE b,qaE c⟩=true):=fun e=>by
    have h1:=e.1;have h2:=e.2.1;have h3:=e.2.2.1;simp only[qdE,Bool.and_eq_true]at h1 h2 h3;exact hk ⟨h1.1,h2.1,h3.1⟩
   rw[if_neg hq]at e1;rw[e1,e2];simp[PT.row]
 ·rw[qnJ (qhT h3) h1,qu5 h3];simp[PT.row]
def qpC (w:List UInt8):Option DE:=(qkX w).map fun x=>⟨x.1,x.2.1,x.2.2⟩
def qou:List (List UInt8)→Option (List DE)
 | []=>some []
 | w::r=>match qpC w,qou r with
  | some e,some l=>some (e::l)
  | _,_=>none
def qiV (t:List UInt8):List DE×Bool :=
 if 1000<t.length then ([],false) else if t=[] then ([],true) else
 match qou (qaF 32 t [])with
 | some l=>if qaj l=true then (l,true) else ([],false)
 | none=>([],false)
def qsd (w:List UInt8):Option DE :=
 match qaF 46 w []with
 | [a,b,c]=>some ⟨(qaw a).1,(qaw b).1,(qaw c).1⟩
 | _=>none
def qtP:List (List UInt8)→Option (List DE)
 | []=>some []
 | w::r=>match qsd w,qtP r with
  | some e,some l=>some (e::l)
  | _,_=>none
theorem qfH {e:DE} (h:qb7 e=true):qcj e=Lib.join [Lib.itoa e.es,Lib.itoa e.ea,Lib.itoa e.ec] [46]:=by
 have hb:=qf8 h;rw[qen _ (by omega),qen _ (by omega),qen _ (by omega),qaM,qaM,Lib.join_one];rfl
theorem qpB {w:List UInt8} {e:DE} (h:qpC w=some e) (hd:qb7 e=true):qcj e=w∧qsd w=some e:=by
 unfold qpC at h;cases hv:qkX w with
 | none=>rw[hv]at h;cases h
 | some x =>
  obtain⟨a,b,c⟩:=x;rw[hv]at h;simp only[qDz,qDs]at h;subst h;refine⟨by rw[qfH hd];exact qkV hv,?_⟩;unfold qkX at hv;split at hv
  ·rename_i x y z hc;split at hv
   ·rename_i hq;simp only[qDs,qDt]at hv;obtain⟨rfl,rfl,rfl⟩:=hv;have hb:=qf8 hd;simp only at hb;have n1:=(qfb x).1 ⟨hq.1,by omega⟩;have n2:=(qfb y).1 ⟨hq.2.1,by omega⟩;have n3:=(qfb z).1 ⟨hq.2.2,by omega⟩;unfold qsd;rw[hc];simp only[qgV n1,qgV n2,qgV n3]
   ·cases hv
  ·cases hv
theorem qu2 {e:DE} (h:qb7 e=true):qpC (qcj e)=some e:=by
 have hb:=qf8 h;rw[qfH h];unfold qpC;rw[qpz e.es e.ea e.ec ⟨by omega,by omega⟩ ⟨by omega,by omega⟩ ⟨by omega,by omega⟩];rfl
theorem qpA:∀ {l:List DE},(∀ e∈l,qb7 e=true)→qou (l.map qcj)=some l
 | [],_=>rfl
 | e::r,h=>by
  rw[qD5,qou,qu2 (h e (by simp)),qpA fun x hx=>h x (by simp[hx])]
theorem qkY:∀ {ws:List (List UInt8)} {l:List DE},qou ws=some l→(∀ e∈l,qb7 e=true)→l.map qcj=ws∧qtP ws=some l
 | [],l,h,_=>by
  simp only[qou,qDs]at h;subst h;exact⟨rfl,rfl⟩
 | w::r,l,h,hd=>by
  rw[qou]at h;split at h
  ·rename_i e q h1 h2;simp only[qDs]at h;subst h;obtain⟨a1,a2⟩:=qpB h1 (hd e (by simp));obtain⟨b1,b2⟩:=qkY h2 fun x hx=>hd x (by simp[hx]);refine⟨by simp[a1,b1],?_⟩;rw[qtP,a2,b2]
  ·cases h
theorem qmD (n:Int):∀ x∈Lib.itoa n,x≠(32:UInt8):=qgx n 32 (by decide) (by decide)
theorem qnY (a b c:Int):∀ x∈Lib.join [Lib.itoa a,Lib.itoa b,Lib.itoa c] [46],x≠(32:UInt8):=by
 intro x hx;rw[qaM,qaM,Lib.join_one]at hx;simp only[qE5,qE3]at hx;rcases hx with hx | rfl | hx | rfl | hx
 ·exact qmD _ x hx
 ·decide
 ·exact qmD _ x hx
 ·decide
 ·exact qmD _ x hx
theorem qrv {e:DE} (h:qb7 e=true):∀ x∈qcj e,x≠(32:UInt8):=by
 rw[qfH h];exact qnY _ _ _
theorem qrx:qck []=[]:=by
 unfold qck;split <;> rfl
theorem qry {t:List UInt8} (h1:¬ 1000<t.length) (h2:t≠[]) :
  qiV t=match qtP (qaF 32 t [])with
   | some l=>if qaj l=true∧qck l=t then (l,true) else ([],false)
   | none=>([],false):=by
 have hj:=qdB 32 t [];simp only[qEf]at hj;unfold qiV;rw[if_neg h1,if_neg h2];by_cases hg:∃ l,qou (qaF 32 t [])=some l∧qaj l=true
 ·obtain⟨l,g1,g2⟩:=hg;obtain⟨a1,a2⟩:=qkY g1 (qhb g2);have e:qck l=t:=by
   unfold qck;rw[if_pos g2,(qdM l).2,a1,hj]
  rw[g1,a2];simp[g2,e]
 ·have hL:(match qou (qaF 32 t [])with
   | some l=>if qaj l=true then (l,true) else ([],false)
   | none=>(([]:List DE),false))=([],false):=by
   split
   ·rename_i l hl;rw[if_neg fun e=>hg ⟨l,hl,e⟩]
   ·rfl
  rw[hL];split
  ·rename_i l hl;rw[if_neg];rintro⟨q1,q2⟩;have hne:l≠[]:=by
    rintro rfl;rw[qrx]at q2;exact h2 q2.symm
   unfold qck at q2;rw[if_pos q1,(qdM l).2]at q2;have hc:=qdi 32 (l.map qcj) (by simpa using hne) (by
    intro w hw;obtain⟨e,he,rfl⟩:=qD6.1 hw;exact qrv (qhb q1 e he))
   rw[q2]at hc;exact hg ⟨l,by rw[hc];exact qpA (qhb q1),q1⟩
  ·rfl
theorem qu4 (w:List UInt8):(qkX w=none→(thB w).2=false)∧∀ a b c,qkX w=some (a,b,c)→thB w=((a,b,c),true):=by
 by_cases h3:(qaF 46 w []).length=3
 ·obtain⟨x,y,z,hc⟩:=qea h3;rw[qkW hc,qu6 hc];by_cases hq:qdE x=true∧qdE y=true∧qdE z=true
  ·rw[if_pos hq];have hk:qbA x=true∧qbA y=true∧qbA z=true:=by
    obtain⟨q1,q2,q3⟩:=hq;simp only[qdE,Bool.and_eq_true]at q1 q2 q3;exact⟨q1.1,q2.1,q3.1⟩
   refine⟨(fun e=>by cases e),fun a b c e=>?_⟩;simp only[qDs,qDt]at e;obtain⟨rfl,rfl,rfl⟩:=e;rw[if_pos hk];simp[hq]
  ·rw[if_neg hq];refine⟨fun _=>?_,fun a b c e=>by cases e⟩;split
   ·simpa using hq
   ·rfl
 ·rw[qhT h3,qu5 h3];exact⟨fun _=>rfl,fun a b c e=>by cases e⟩
def ddF (acc:List DE) (ws:List (List UInt8)):List DE×Bool :=
 match qou ws with
 | some l=>if qaj (acc++l)=true then (acc++l,true) else ([],false)
 | none=>([],false)
theorem qta (acc:List DE) (w:List UInt8) (r:List (List UInt8)):ddF acc (w::r)=match qpC w with
  | some e=>ddF (acc++[e]) r
  | none=>([],false):=by
 unfold ddF;rw[qou];cases qpC w with
 | none=>rfl
 | some e =>
  cases qou r with
  | none=>rfl
  | some l=>simp
def ddQ (x:Nat) (R:List DE×Bool) (r:AV) (L':List (Nat×Ob)):Prop :=
 (R.1=[]∧r=.tup [.nils,.bool R.2]∧L'=[])∨(r=.tup [.sl x 0 R.1.length,.bool R.2]∧L'=[(x,qaJ R.1)])
theorem qur {f x:Nat} {t:List UInt8} {R:List DE×Bool} (h:ACall prog f [.str t] [] (ddQ x R)) (he:qb0 prog f=true):CV prog f [.str t] (.tup [.lst 3 (R.1.map DE.row),.bool R.2]):=by
 refine CV.of_frz h ?_ (he:=he) (hcv:=by simp[DE.row]);rintro r L' (⟨h1,rfl,rfl⟩ | ⟨rfl,rfl⟩)
 ·refine⟨by simp,by simp,by simp,?_⟩;rw[h1];simp only[qbe,qFi];exact qdx (.cons (qa6 3) (.cons (qaD _) .nil))
 ·refine⟨by simp,by simp,fun x hx=>by simp only[qF8]at hx;subst hx;exact qbL _,?_⟩;simp[qbe,qaJ,qak]
theorem qrd (t:List UInt8) (hl:t.length≤1048576):CV prog 89 [.str t] (.tup [.lst 3 ((qiV t).1.map DE.row),.bool (qiV t).2]):=by
 refine qur (x:=900) ?_ (by kernel_rfl);obtain⟨R,hR⟩:∃ R,qiV t=R:=⟨_,rfl⟩;rw[hR];unfold qiV at hR;refine acx func89 [] ntmps89 rfl rfl rfl ?_;by_cases h1:1000<t.length
 ·rw[if_pos h1]at hR;subst hR;simp[show(1000:Int)<t.length by omega,h1];exact⟨[],by simp,.inl ⟨rfl,rfl,rfl⟩⟩
 rw[if_neg h1]at hR;by_cases h2:t=[]
 ·rw[if_pos h2]at hR;subst hR;simp[h2];exact⟨[],by simp,.inl ⟨rfl,rfl,rfl⟩⟩
 rw[if_neg h2]at hR;have hR':ddF [] (qaF 32 t [])=R:=by
  rw[← hR];unfold ddF;simp
 have c1:=qhY t 32 hl;have hw:=qbm 32 t [];have hnum:=qdj 32 t [];simp only[qET,qEQ]at hw;simp[show ¬ (1000:Int)<t.length by omega,h1,h2];refine c1.call ?_;generalize qaF 32 t []=ws at *
 simp[qcr];refine qeV (qjM 4 3 (by simp) (by simp)) ?_;refine qa9 (X:=Nat×List DE) [2,3,4,17,18,19] [(4,900)] (fun x=>[(4,.sl 900 0 x.2.length),(19,.int .i64 x.1)]) (fun x=>[(900,qaJ x.2)]) (fun x=>ws.length-x.1) (fun x=>x.1≤ws.length∧x.2.length=x.1∧ddF x.2 (ws.drop x.1)=R) (0,[]) ⟨by omega,rfl,hR'⟩ ?_ (he:=by simp[qah,qaJ]);rintro⟨i,acc⟩ ⟨hi,ha,hd⟩;simp only at hi ha hd;cases hr:ws.drop i with
 | nil =>
  have:=qaU hr;have hie:i=ws.length:=by omega
  subst hie;rw[hr]at hd;have c2:=qki acc (by omega);simp only[ddF,qou,qFH]at hd;simp;refine c2.view (by simp[qb5,mtA,qaJ,qak]) ?_;cases hk:qaj acc with
  | false =>
   rw[if_neg (by simp[hk])]at hd;subst hd;simp;exact⟨[],by simp,.inl ⟨rfl,rfl,rfl⟩⟩
  | true =>
   rw[if_pos hk]at hd;subst hd;simp;exact⟨[(900,qaJ acc)],by simp,.inr ⟨rfl,rfl⟩⟩
 | cons w r =>
  obtain⟨g1,e0,e1,g3⟩:=qaV hr;have hwl:=hw w (qFu e1);have c2:=qq0 w (by omega);have e2:=qaq ((i:Int)+1) (by omega) (by omega);obtain⟨t1,t2⟩:=qu4 w;rw[hr,qta]at hd;simp[g1,e0,e1,qcr];refine c2.call ?_;cases hv:qkX w with
  | none =>
   rw[show qpC w=none by unfold qpC;rw[hv];rfl]at hd;simp only at hd;subst hd;simp[t1 hv];exact⟨[],by simp,.inl ⟨rfl,rfl,rfl⟩⟩
  | some x =>
   obtain⟨a,b,c⟩:=x;rw[show qpC w=some ⟨a,b,c⟩ by unfold qpC;rw[hv];rfl]at hd;simp only at hd;rw[t2 a b c hv];simp[qaJ,DE.row];refine⟨by omega,nx (i+1,acc++[⟨a,b,c⟩]) [(38,900)] ⟨by simp only;omega,by simp[ha],by simp only[g3];exact hd⟩ (by simp only;omega) (h4:=?_)⟩;simp[qah,qaJ,e2,qDU,DE.row]
def spF (t:List UInt8) (acc:List DE) (ws:List (List UInt8)):List DE×Bool :=
 match qtP ws with
 | some l=>if qaj (acc++l)=true∧qck (acc++l)=t then (acc++l,true) else ([],false)
 | none=>([],false)
theorem qse (t:List UInt8) (acc:List DE) (w:List UInt8) (r:List (List UInt8)):spF t acc (w::r)=match qsd w with
  | some e=>spF t (acc++[e]) r
  | none=>([],false):=by
 unfold spF;rw[qtP];cases qsd w with
 | none=>rfl
 | some e =>
  cases qtP r with
  | none=>rfl
  | some l=>simp
theorem qqa (t:List UInt8) (hl:t.length≤1048576):CV prog 163 [.str t] (.tup [.lst 3 ((qiV t).1.map DE.row),.bool (qiV t).2]):=by
 refine qur (x:=900) ?_ (by kernel_rfl);obtain⟨R,hR⟩:∃ R,qiV t=R:=⟨_,rfl⟩;rw[hR];refine acx func163 [] ntmps163 rfl rfl rfl ?_;by_cases h1:1000<t.length
 ·unfold qiV at hR;rw[if_pos h1]at hR;subst hR;simp[show(1000:Int)<t.length by omega,h1];exact⟨[],by simp,.inl ⟨rfl,rfl,rfl⟩⟩
 have c1:=qjV t 32 hl;have hw:=qbm 32 t [];have hnum:=qdj 32 t [];simp only[qET,qEQ]at hw;by_cases h2:t=[]
 ·unfold qiV at hR;rw[if_neg h1,if_pos h2]at hR;subst hR;subst h2;have c2:=qfx [] (by simp);have c3:=qh3 [] (by simp);rw[qrx]at c3;rw[show qaj []=true by decide]at c2;simp;refine c1.call ?_;simp[qaF,qcr];refine qa9 (X:=Nat) [0,2,3,4,5,6] [(14,900)] (fun i=>[(4,.sl 900 0 0),(6,.int .i64 i)]) (fun i=>[(900,qaJ [])]) (fun i=>0) (fun i=>i=0) 0 rfl ?_ (he:=by simp[qah,qaJ]);rintro i rfl;simp;refine c2.view (by simp[qb5,mtA,qaJ]) ?_;simp;refine c3.view (by simp[qb5,mtA,qaJ]) ?_;simp;exact⟨[(900,qaJ [])],by simp,.inr ⟨rfl,rfl⟩⟩
 have hR':spF t [] (qaF 32 t [])=R:=by
  rw[← hR,qry h1 h2];unfold spF;simp
 simp[show ¬ (1000:Int)<t.length by omega,h1,h2];refine c1.call ?_;generalize qaF 32 t []=ws at *
 simp[qcr];refine qa9 (X:=Nat×List DE) [0,2,3,4,5,6] [(14,900)] (fun x=>[(4,.sl 900 0 x.2.length),(6,.int .i64 x.1)]) (fun x=>[(900,qaJ x.2)]) (fun x=>ws.length-x.1) (fun x=>x.1≤ws.length∧x.2.length=x.1∧spF t x.2 (ws.drop x.1)=R) (0,[]) ⟨by omega,rfl,hR'⟩ ?_ (he:=by simp[qah,qaJ]);rintro⟨i,acc⟩ ⟨hi,ha,hd⟩;simp only at hi ha hd;cases hr:ws.drop i with
 | nil =>
  have:=qaU hr;have hie:i=ws.length:=by omega
  subst hie;rw[hr]at hd;have c2:=qfx acc (by omega);have c3:=qh3 acc (by omega);simp only[spF,qtP,qFH]at hd;simp[h2];refine c2.view (by simp[qb5,mtA,qaJ,qak]) ?_;cases hk:qaj acc with
  | false =>
   rw[if_neg (by simp[hk])]at hd;subst hd;simp;exact⟨[],by simp,.inl ⟨rfl,rfl,rfl⟩⟩
  | true =>
   simp;refine c3.view (by simp[qb5,mtA,qaJ,qak]) ?_;by_cases ht:qck acc=t
   ·rw[if_pos ⟨hk,ht⟩]at hd;subst hd;simp[ht];exact⟨[(900,qaJ acc)],by simp,.inr ⟨rfl,rfl⟩⟩
   ·rw[if_neg fun e=>ht e.2]at hd;subst hd;simp[ht];exact⟨[],by simp,.inl ⟨rfl,rfl,rfl⟩⟩
 | cons w r =>
  obtain⟨g1,e0,e1,g3⟩:=qaV hr;have hwl:=hw w (qFu e1);have c2:=qjV w 46 (by omega);have hw2:=qbm 46 w [];have e2:=qaq ((i:Int)+1) (by omega) (by omega);have hli:(i:Int)<ws.length:=by omega
  rw[hr,qse]at hd;simp[g1,e0,e1,qcr,h2,hli];refine c2.call ?_;by_cases h3:(qaF 46 w []).length=3
  ·obtain⟨a,b,c,hc⟩:=qea h3;rw[hc]at hw2;have la:=hw2 a (by simp);have lb:=hw2 b (by simp);have lc:=hw2 c (by simp);simp at la lb lc;have n1:=qhZ a (by omega);have n2:=qhZ b (by omega);have n3:=qhZ c (by omega);rw[show qsd w=some ⟨(qaw a).1,(qaw b).1,(qaw c).1⟩ by unfold qsd;rw[hc]]at hd;simp only at hd;simp[hc,qcr];refine n1.call ?_;simp;refine n2.call ?_;simp;refine n3.call ?_;simp[qaJ,DE.row];refine⟨by omega,nx (i+1,acc++[⟨(qaw a).1,(qaw b).1,(qaw c).1⟩]) [(65,900)] ⟨by simp only;omega,by simp[ha],by simp only[g3];exact hd⟩ (by simp only;omega) (h4:=?_)⟩;simp[qah,qaJ,e2,qDU,DE.row]
  ·have hn:qsd w=none:=by
    unfold qsd;split
    ·rename_i a b c hc;rw[hc]at h3;simp at h3
    ·rfl
   rw[hn]at hd;simp only at hd;subst hd;simp[qcr,h3,show ¬ ((qaF 46 w []).length:Int)=3 by omega];exact⟨[],by simp,.inl ⟨rfl,rfl,rfl⟩⟩
def z8:List PT:=List.replicate 8 zPT
def qeK (t:List UInt8):List PT×Bool :=
 if 400<t.length∨(qaF 32 t []).length≠8 then (z8,false) else
 if (qaF 32 t []).all (fun w=>(qbQ w).2)=true then ((qaF 32 t []).map fun w=>(qbQ w).1,true) else (z8,false)
theorem qka (t:List UInt8):(qeK t).1.length=8:=by
 unfold qeK;split
 ·rfl
 ·rename_i h;split
  ·simp only[qEH];omega
  ·rfl
theorem qwa {t:List UInt8} (h:(qeK t).2=true):qbg (qeK t).1=t∧∀ p∈(qeK t).1,qaH p=true:=by
 unfold qeK at h ⊢;split at h
 ·simp at h
 ·rename_i h1;rw[if_neg h1];split at h
  ·rename_i h2;rw[if_pos h2];simp only;rw[qDS]at h2;have hall:∀ p∈(qaF 32 t []).map fun w=>(qbQ w).1,qaH p=true:=fun p hp=>by
    obtain⟨w,hw,rfl⟩:=qD6.1 hp;exact(qic (h2 w hw)).2
   refine⟨?_,hall⟩;rw[qeL,if_pos (qDS.2 hall),qEd];have e:(qaF 32 t []).map (qaL ∘ fun w=>(qbQ w).1)=qaF 32 t []:=by
    conv=>rhs;rw[← qFp (qaF 32 t [])]
    refine qEg fun w hw=>?_;exact(qic (h2 w hw)).1
   rw[e,qdB];rfl
  ·simp at h
def mpS (ws:List (List UInt8)) (x:Nat×List PT):Prop:=x.1≤8∧x.2.length=8∧∀ j,j<x.1→∃ w,ws[j]?=some w∧(qbQ w).2=true∧x.2[j]?=some (qbQ w).1
theorem qnV {ws:List (List UInt8)} {i:Nat} {m:List PT} {w:List UInt8} (h:mpS ws (i,m)) (hi:i<8) (hw:ws[i]?=some w) (hk:(qbQ w).2=true):mpS ws (i+1,m.set i (qbQ w).1):=by
 obtain⟨h1,h2,h3⟩:=h;simp only at h1 h2 h3;refine⟨by simp only;omega,by simpa using h2,fun j hj=>?_⟩;simp only at hj ⊢;by_cases hji:j=i
 ·subst hji;exact⟨w,hw,hk,by simp[h2,hi]⟩
 ·obtain⟨v,v1,v2,v3⟩:=h3 j (by omega);exact⟨v,v1,v2,by rw[qEt (qDn hji)];exact v3⟩
theorem qqM {t:List UInt8} {m:List PT} (h1:¬ 400<t.length) (h8:(qaF 32 t []).length=8) (h:mpS (qaF 32 t []) (8,m)):qeK t=(m,true):=by
 obtain⟨_,h2,h3⟩:=h;simp only at h2 h3;have hall:∀ w∈qaF 32 t [],(qbQ w).2=true:=fun w hw=>by
  obtain⟨j,hj⟩:=qGy.1 hw;have hl:=(qEb.1 hj).1;obtain⟨v,v1,v2,_⟩:=h3 j (by omega);rw[hj]at v1;injection v1 with v1;rw[v1];exact v2
 have hm:(qaF 32 t []).map (fun w=>(qbQ w).1)=m:=by
  refine qF5 fun j=>?_;by_cases hj:j<8
  ·obtain⟨v,v1,v2,v3⟩:=h3 j hj;rw[qD9,v1,v3];rfl
  ·rw[qFa (by simp;omega),qFa (by omega)]
 unfold qeK;rw[if_neg (by simp[h1,h8]),if_pos (qDS.2 hall),hm]
theorem qnW {t:List UInt8} {w:List UInt8} (hw:w∈qaF 32 t []) (hk:(qbQ w).2=false):qeK t=(z8,false):=by
 unfold qeK;split
 ·rfl
 ·rw[if_neg fun e=>by
   rw[qDS]at e;rw[e w hw]at hk;cases hk]
theorem qq7 (t:List UInt8) (hl:t.length≤1048576):CV prog 88 [.str t] (.tup [.agg ((qeK t).1.flatMap PT.row),.bool (qeK t).2]):=by
 have c1:=qhY t 32 hl;have hw:=qbm 32 t [];simp only[qET,qEQ]at hw;refine cvx func88 [] ntmps88 rfl rfl rfl ?_ (hcv:=by simp[qeZ]);simp;refine c1.call ?_;by_cases h1:400<t.length
 ·rw[show qeK t=(z8,false) by unfold qeK;rw[if_pos (.inl h1)]];simp[show(400:Int)<t.length by omega,h1,z8,zPT,PT.row]
 by_cases h8:(qaF 32 t []).length=8
 ·obtain⟨R,hR⟩:∃ R,qeK t=R:=⟨_,rfl⟩;have hend:=@qqM t;have hbad:=@qnW t;rw[hR]at hend hbad ⊢;generalize qaF 32 t []=ws at *
  simp[show ¬ (400:Int)<t.length by omega,h1,h8,qcr];refine qa9 (X:=Nat×List PT) [2,3,5,21,22,23] [(2,2),(5,5)] (fun x=>[(23,.int .i64 x.1)]) (fun x=>[(2,⟨24,[z8.flatMap PT.row]⟩),(5,⟨24,[x.2.flatMap PT.row]⟩)]) (fun x=>8-x.1) (mpS ws) (0,z8) ⟨by omega,rfl,by omega⟩ ?_ (he:=by simp[qah,z8,zPT,PT.row]);rintro⟨i,m⟩ hg;have hg':=hg;obtain⟨hi,hm,hj⟩:=hg';simp only at hi hm hj;have hml:(m.flatMap PT.row).length=24:=by rw[qkk,hm]
  have hsum:(List.map (fun a:PT=>3) m).sum=24:=by
   have:=hml;rw[qGq]at this;exact this
  have hmt:List.take 24 (m.flatMap PT.row)=m.flatMap PT.row:=qDU (by omega);have hzt:List.drop 24 (z8.flatMap PT.row)=[]:=qFn (by decide);by_cases h2:i<8
  ·obtain⟨w,f1⟩:∃ w,ws[i]?=some w:=⟨_,qDF (by omega)⟩;have f0:ws[i]'(by omega)=w:=(qEb.1 f1).2;have h2':(i:Int)<8:=by omega
   have hwl:=hw w (qFu f1);have c2:=qeN w (by omega);simp only[PT.row]at c2;have e2:=qaq ((i:Int)+1) (by omega) (by omega);simp[h2',h2,h8,f0,f1,qcr,qah];refine c2.call ?_;have hstep:=qnV hg h2 f1;cases hk:(qbQ w).2 with
   | false =>
    have:=hbad (qFu f1) hk;subst this;simp[z8,zPT,PT.row]
   | true =>
    have hs:=hstep hk;simp[hml,hsum,hmt];refine⟨by omega,by omega,nx (i+1,m.set i (qbQ w).1) [(2,2),(5,5)] hs (by simp only;omega) (h4:=?_)⟩;have fs:=(qhE m i (qbQ w).1 (show i<m.length by omega)).symm;simp only[PT.row,qFt,qEf]at fs;simp[qah,e2,fs]
  ·have hie:i=8:=by omega
   subst hie;have:=hend h1 h8 hg;subst this;simp[qah,hsum,hmt,hzt]
 ·rw[show qeK t=(z8,false) by unfold qeK;rw[if_pos (.inr h8)]];simp[show ¬ (400:Int)<t.length by omega,h1,qcr,h8,show ¬ ((qaF 32 t []).length:Int)=8 by omega,z8,zPT,PT.row]
theorem qp4 (t:List UInt8) (hl:t.length≤1048576):CV prog 162 [.str t] (.tup [.agg ((qeK t).1.flatMap PT.row),.bool (qeK t).2]):=by
 have c1:=qjV t 32 hl;have hw:=qbm 32 t [];simp only[qET,qEQ]at hw;refine cvx func162 [] ntmps162 rfl rfl rfl ?_ (hcv:=by simp[qeZ]);simp;refine c1.call ?_;by_cases h1:400<t.length
 ·rw[show qeK t=(z8,false) by unfold qeK;rw[if_pos (.inl h1)]];simp[show(400:Int)<t.length by omega,h1,z8,zPT,PT.row]
 by_cases h8:(qaF 32 t []).length=8
 ·obtain⟨R,hR⟩:∃ R,qeK t=R:=⟨_,rfl⟩;have hend:=@qqM t;have hbad:=@qnW t;have hok:=@qwa t;rw[hR]at hend hbad hok ⊢;generalize qaF 32 t []=ws at *
  simp[show ¬ (400:Int)<t.length by omega,h1,h8,qcr];refine qa9 (X:=Nat×List PT) [0,2,3,4,5,6] [(2,2),(4,4)] (fun x=>[(6,.int .i64 x.1)]) (fun x=>[(2,⟨24,[z8.flatMap PT.row]⟩),(4,⟨24,[x.2.flatMap PT.row]⟩)]) (fun x=>8-x.1) (mpS ws) (0,z8) ⟨by omega,rfl,by omega⟩ ?_ (he:=by simp[qah,z8,zPT,PT.row]);rintro⟨i,m⟩ hg;have hg':=hg;obtain⟨hi,hm,hj⟩:=hg';simp only at hi hm hj;have hml:(m.flatMap PT.row).length=24:=by rw[qkk,hm]
  have hsum:(List.map (fun a:PT=>3) m).sum=24:=by
   have:=hml;rw[qGq]at this;exact this
  have hmt:List.take 24 (m.flatMap PT.row)=m.flatMap PT.row:=qDU (by omega);have hzt:List.drop 24 (z8.flatMap PT.row)=[]:=qFn (by decide);by_cases h2:i<8
  ·obtain⟨w,f1⟩:∃ w,ws[i]?=some w:=⟨_,qDF (by omega)⟩;have f0:ws[i]'(by omega)=w:=(qEb.1 f1).2;have h2':(i:Int)<8:=by omega
   have hwl:=hw w (qFu f1);have c2:=qfO w (by omega);simp only[PT.row]at c2;have e2:=qaq ((i:Int)+1) (by omega) (by omega);simp[h2',h2,h8,f0,f1,qcr,qah];refine c2.call ?_;have hstep:=qnV hg h2 f1;cases hk:(qbQ w).2 with
   | false =>
    have:=hbad (qFu f1) hk;subst this;simp[z8,zPT,PT.row]
   | true =>
    have hs:=hstep hk;simp[hml,hsum,hmt];refine⟨by omega,by omega,nx (i+1,m.set i (qbQ w).1) [(2,2),(4,4)] hs (by simp only;omega) (h4:=?_)⟩;have fs:=(qhE m i (qbQ w).1 (show i<m.length by omega)).symm;simp only[PT.row,qFt,qEf]at fs;simp[qah,e2,fs]
  ·have hie:i=8:=by omega
   subst hie;have:=hend h1 h8 hg;subst this;have ht:=hok rfl;have c3:=qk7 m hm;simp only at ht;rw[ht.1]at c3;simp[qah,hml,hsum,hmt,hzt];refine c3.call ?_;simp[qah,hml,hsum,hmt,hzt]
 ·rw[show qeK t=(z8,false) by unfold qeK;rw[if_pos (.inr h8)]];simp[show ¬ (400:Int)<t.length by omega,h1,qcr,h8,show ¬ ((qaF 32 t []).length:Int)=8 by omega,z8,zPT,PT.row]
theorem qiy (c:UInt8):∀ (w s:List UInt8) (i:Int),(∀ x∈w,x≠c)→qa1 c (w++c::s) i=i+w.length
 | [],s,i,_=>by simp[qa1]
 | x::w,s,i,h=>by
  have hx:=h x (by simp);rw[qFt,qa1,if_neg hx,qiy c w s (i+1) fun y hy=>h y (by simp[hy])];simp;omega
theorem qlr {s:List UInt8} (h:s.length≤400):qbf (qdP s)=(s,true):=by
 have hs:qdP s=qmZ (qi6 s (1+s.length % 997)) []++58::s:=by
  unfold qdP;rw[if_neg (by omega)]
 have hd:∀ x∈qmZ (qi6 s (1+s.length % 997)) [],x≠(58:UInt8):=fun x hx=>by
  rw[qhH,qFH]at hx;have:=qoc _ x hx;rintro rfl;simp at this
 have hf:qa1 58 (qdP s) 0=(qmZ (qi6 s (1+s.length % 997)) []).length:=by
  rw[hs,qiy 58 _ _ 0 hd];simp
 have hdr:(qdP s).drop ((qa1 58 (qdP s) 0).toNat+1)=s:=by
  rw[hf,hs];simp
 unfold qbf;rw[hdr,if_neg (by omega),if_pos rfl]
theorem qfr (n:Int) (c:UInt8) (hc:c.toNat<48):∀ x∈dec n,x≠c:=fun x hx=>by
 unfold dec at hx;rw[qhH,qFH]at hx;have:=qoc _ x hx;rintro rfl;omega
theorem qib {p:PT} (h:qaH p=true):∀ x∈qaL p,x≠(32:UInt8):=by
 by_cases h0:p.pa=0
 ·unfold qaL;rw[if_neg (by simp[h]),if_pos h0];intro x hx;simp only[qF8]at hx;subst hx;decide
 ·rw[qds (by simp[qao,h,h0])];exact qnY _ _ _
theorem qi0 {n:Int} {p:PT} {t:List UInt8} (h:qa0 n p=t) (ht:t≠[]) :
  (1≤n∧n≤1000000∧qao p=true)∧(qbf t).2=true∧qaF 32 (qbf t).1 []=[dec n,qaL p,dec n]:=by
 unfold qa0 at h;split at h
 ·exact absurd h.symm ht
 ·rename_i hc;have h1:1≤n∧n≤1000000∧qao p=true:=by
   refine⟨by omega,by omega,?_⟩;cases hk:qao p with
   | true=>rfl
   | false=>exact absurd (.inr (.inr hk)) hc
  have hl1:=qav n (by omega);have hl2:=qbl p;have hj:dec n++(32::(qaL p++(32::dec n)))=Lib.join [dec n,qaL p,dec n] [32]:=by
   rw[qaM,qaM,Lib.join_one]
  have ho:=qlr (s:=dec n++(32::(qaL p++(32::dec n)))) (by simp;omega);rw[h]at ho;rw[ho];refine⟨h1,rfl,?_⟩;rw[hj,qdi 32 _ (by simp)];intro w hw;simp only[qE3,qFc,or_false]at hw;rcases hw with rfl | rfl | rfl
  ·exact qfr n 32 (by decide)
  ·exact qib (qdU h1.2.2).1
  ·exact qfr n 32 (by decide)
def qmc (t:List UInt8):(Int×PT)×Bool :=
 match qaF 32 (qbf t).1 []with
 | [a,b,_]=>if (qbf t).2=true∧qa0 (qaw a).1 (qbQ b).1=t then (((qaw a).1,(qbQ b).1),true) else ((0,zPT),false)
 | _=>((0,zPT),false)
theorem qtD {t:List UInt8} (h:(qaF 32 (qbf t).1 []).length≠3):qmc t=((0,zPT),false):=by
 unfold qmc;split
 ·rename_i a b c hc;rw[hc]at h;simp at h
 ·rfl
theorem qtE {t a b c:List UInt8} (h:qaF 32 (qbf t).1 []=[a,b,c]):qmc t=if (qbf t).2=true∧qa0 (qaw a).1 (qbQ b).1=t then (((qaw a).1,(qbQ b).1),true) else ((0,zPT),false):=by
 unfold qmc;rw[h]
theorem qdX {n:Int} (h1:0≤n) (h2:n≤1000000000):qaw (dec n)=(n,true)∧qbA (dec n)=true∧qaE (dec n)=n:=by
 rw[← qen n h1];have a:=qpS (n:=n) (by omega);obtain⟨b,c⟩:=qjD (n:=n) (by omega) (by omega);refine⟨a,?_,c⟩;simp only[qdE,Bool.and_eq_true]at b;exact b.1
theorem qzN {t a b c:List UInt8} (h:qaF 32 (qbf t).1 []=[a,b,c]):t≠[]:=by
 rintro rfl;simp[qbf,qa1,qaF]at h
theorem qxT {t a b c:List UInt8} (h:qaF 32 (qbf t).1 []=[a,b,c]) :
  qmc t=if qbA a=true∧(qbQ b).2=true∧qa0 (qaE a) (qbQ b).1=t then ((qaE a,(qbQ b).1),true) else ((0,zPT),false):=by
 have hne:=qzN h;rw[qtE h];by_cases q:(qbf t).2=true∧qa0 (qaw a).1 (qbQ b).1=t
 ·rw[if_pos q];obtain⟨⟨w1,w2,w3⟩,w4,w5⟩:=qi0 q.2 hne;rw[h]at w5;simp only[qE9,and_true]at w5;obtain⟨e1,e2,e3⟩:=w5;obtain⟨d1,d2,d3⟩:=qdX (n:=(qaw a).1) (by omega) (by omega);have hb:qbQ b=((qbQ b).1,true):=by
   have:=qgs (qdU w3).1;rw[← e2]at this;exact this
  rw[← e1]at d2 d3;rw[if_pos ⟨d2,by rw[hb],by rw[d3];exact q.2⟩,d3]
 ·rw[if_neg q];by_cases g:qbA a=true∧(qbQ b).2=true∧qa0 (qaE a) (qbQ b).1=t
  ·exfalso;obtain⟨⟨w1,w2,w3⟩,w4,w5⟩:=qi0 g.2.2 hne;rw[h]at w5;simp only[qE9,and_true]at w5;obtain⟨e1,e2,e3⟩:=w5;obtain⟨d1,d2,d3⟩:=qdX (n:=qaE a) (by omega) (by omega);rw[← e1]at d1;exact q ⟨w4,by rw[d1];exact g.2.2⟩
  ·rw[if_neg g]
theorem qoA (t:List UInt8) (hl:t.length≤1048576):CV prog 73 [.str t] (.tup [.int .i64 (qmc t).1.1,.agg (qmc t).1.2.row,.bool (qmc t).2]):=by
 have c1:=qtQ t hl;have hol:=qfV t;have c2:=qjV (qbf t).1 32 (by omega);have hw:=qbm 32 (qbf t).1 [];simp only[qET,qEQ]at hw;refine cvx func73 [(9,[zI 0,zJ 1 [10] [],zJ 2 [] [10],zI 3,zI 4])] ntmps73 rfl rfl rfl ?_ (hcv:=by simp[PT.row]);simp;refine c1.call ?_;simp;refine c2.call ?_;by_cases h3:(qaF 32 (qbf t).1 []).length=3
 ·obtain⟨a,b,c,hc⟩:=qea h3;rw[hc]at hw;have la:=hw a (by simp);have lb:=hw b (by simp);have e:=qtE hc;have n1:=qhZ a (by omega);have n2:=qfO b (by omega);have n3:=qtS (qaw a).1 (qbQ b).1;simp only[PT.row]at n2 n3;cases ho:(qbf t).2 with
  | false =>
   rw[if_neg (by simp[ho])]at e;rw[e];simp[zPT,PT.row]
  | true =>
   simp[hc,qcr];refine n1.call ?_;simp;refine n2.call ?_;simp[PT.row];refine n3.call ?_;by_cases q:qa0 (qaw a).1 (qbQ b).1=t
   ·rw[if_pos ⟨ho,q⟩]at e;rw[e];simp[q,PT.row]
   ·rw[if_neg fun x=>q x.2]at e;rw[e];simp[q,zPT,PT.row]
 ·rw[qtD h3];simp[qcr,h3,show ¬ ((qaF 32 (qbf t).1 []).length:Int)=3 by omega,zPT,PT.row]
theorem qoQ (t:List UInt8) (hl:t.length≤1048576):CV prog 172 [.str t] (.tup [.int .i64 (qmc t).1.1,.agg (qmc t).1.2.row,.bool (qmc t).2]):=by
 have c1:=qt7 t hl;have hol:=qfV t;have c2:=qhY (qbf t).1 32 (by omega);have hw:=qbm 32 (qbf t).1 [];simp only[qET,qEQ]at hw;refine cvx func172 [(9,[zI 0,zJ 1 [10] [],zJ 2 [] [10],zI 3,zI 4])] ntmps172 rfl rfl rfl ?_ (hcv:=by simp[PT.row]);simp;refine c1.call ?_;simp;refine c2.call ?_;by_cases h3:(qaF 32 (qbf t).1 []).length=3
 ·obtain⟨a,b,c,hc⟩:=qea h3;rw[hc]at hw;have la:=hw a (by simp);have lb:=hw b (by simp);have e:=qxT hc;have n1:=ql9 a (by omega);have n2:=qeN b (by omega);have n3:=qt8 (qaE a) (qbQ b).1;simp only[PT.row]at n2 n3;simp[hc,qcr];refine n1.call ?_;simp;refine n2.call ?_;cases hk:qbA a with
  | false =>
   rw[if_neg (by simp[hk])]at e;rw[e];simp[qhF,zPT,PT.row]
  | true =>
   cases hp:(qbQ b).2 with
   | false =>
    rw[if_neg (by simp[hp])]at e;rw[e];simp[qhF,zPT,PT.row]
   | true =>
    simp[qhF,PT.row];refine n3.call ?_;by_cases q:qa0 (qaE a) (qbQ b).1=t
    ·rw[if_pos ⟨hk,hp,q⟩]at e;rw[e];simp[q,PT.row]
    ·rw[if_neg fun x=>q x.2.2]at e;rw[e];simp[q,zPT,PT.row]
 ·rw[qtD h3];simp[qcr,h3,show ¬ ((qaF 32 (qbf t).1 []).length:Int)=3 by omega,zPT,PT.row]
end Go.Av.F
end
