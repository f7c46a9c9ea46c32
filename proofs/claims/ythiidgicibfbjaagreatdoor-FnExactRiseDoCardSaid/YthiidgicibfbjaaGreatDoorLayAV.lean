/- Lemmas for the proof, no statement of the seat; no conditions. -/
import Derived.Test.YthiidgicibfbjaaGreatDoorLayAU
set_option linter.unusedSimpArgs false
set_option linter.unusedVariables false
set_option linter.unnecessarySimpa false
set_option maxRecDepth 100000
section
namespace Go.Av.F
open Go Go.Av Go.Proofs Go.Proofs.Tryz
theorem qo6 (d:DK) (hd:DkT d) (c:CO) (h:CoT c):CV prog 110 [.agg d.row,.agg c.row] (.bool (qbu d && qan c && decide (13<d.s0.length))):=by
 have c1:=qhK d hd;have c2:=qiD c h;have hl:=hd.l0;simp only[DK.row,CO.row]at c1 c2;refine cvx func110 [] ntmps110 rfl rfl rfl ?_ (hca:=by simp[DK.row,qde]);simp[DK.row,CO.row];refine c1.call ?_;cases qbu d with
 | false=>simp
 | true =>
  simp[DK.row,CO.row];refine c2.call ?_;cases qan c with
  | false=>simp
  | true =>
   simp[DK.row,CO.row];omega
def qDT (d:DK) (c:CO) (r:AV) (L':List (Nat×Ob)):Prop :=
 (qc8 d c=false∧r=.tup [.nilp,.bool false]∧L'=[])∨(qc8 d c=true∧r=.tup [.ptr 1000 0 0,.bool true]∧L'=cmL d c (qaW c d.s0.length) 0 1003 1006)
theorem qCJ (d:DK) (hd:qbu d=true) (c:CO) (h:CoT c) (hc:qan c=true):ACall prog 111 [.agg d.row,.agg c.row] [] (qDT d c):=by
 obtain⟨hm,k1,k2,k3,k4,k5,k6,k7⟩:=qbS hc;obtain⟨g1,g2,g3,g4,_⟩:=qbO hd;have c1:=qrr c h hc d.s0.length (by omega);have c2:=qwU c h hc;have c3:=qiC d (qec hd);have c4:=qlJ c h;have hfl:=qlS c d.s0.length;have hmay:qc8 d c=(decide (c.txg<1000000) && decide (qcC c≤(qaW c d.s0.length).length)):=rfl;generalize hF:qaW c d.s0.length=F at *
 generalize qcC c=N at *
 have key:ACall prog 111 [.agg d.row,.agg c.row] [] (fun r L'=>(qc8 d c=false∧r=.tup [.nilp,.bool false]∧L'=[])∨(qc8 d c=true∧r=.tup [.ptr 29 0 0,.bool true] ∧
   L'=[(29,⟨17,[[.sl 801 0 d.s0.length,.sl 802 0 d.s1.length,.sl 803 0 d.late.length,.int .i64 c.txg,.sl 804 0 c.sets.length,.sl 805 0 c.ddt.length,.sl 806 0 c.parts.length,.bool c.dirty,.sl 807 0 c.safe.length,.int .i64 c.logn,.sl 808 0 F.length,.nils,.nils,.nils,.nils,.nils,.nils]]⟩),
    (801,qaj d.s0),(802,qaj d.s1),(803,qbZ d.late),(804,kcs c.sets),(805,qaH c.ddt),(806,kpt c.parts),(807,kin c.safe),(808,kin F)])):=by
  refine acx func111 [(4,[zJ 0 [2] [],zJ 2 [3] [2],zJ 4 [] [2,3],zJ 1 [] [3],zI 3,zI 5,zI 6,zI 7,zI 8])] ntmps111 rfl rfl rfl ?_;simp only[DK.row,CO.row]at c1 c2 c3 c4;simp[DK.row,CO.row,show(0:Nat)<d.s0.length by omega];refine qac [] (by kernel_rfl) c1 (by simp[qa5,DE.row,PT.row,qaf]) (by simp) trivial (by simp) (by simp) ?_;rintro r L' ⟨rfl,rfl⟩;refine⟨[(900,808)],⟨by simp,by simp,by simp,by simp,by simp⟩,?_⟩;simp only[qad];by_cases q1:c.txg=1000000
  ·rw[show qc8 d c=false by rw[hmay];simp;omega];simp[DK.row,CO.row,q1]
  ·simp[DK.row,CO.row,q1];refine c2.call ?_;by_cases q2:F.length<N
   ·rw[show qc8 d c=false by rw[hmay];simp;omega];simp[show(F.length:Int)<N by omega]
   ·rw[show qc8 d c=true by rw[hmay];simp;omega];simp[show ¬ (F.length:Int)<N by omega];refine qac [] (by kernel_rfl) c3 (by simp[qae,LT.row]) (by simp) trivial (by simp) (by simp) ?_;rintro r L' ⟨rfl,rfl⟩;refine⟨[(6,801),(10,802),(14,803)],⟨by simp,by simp,by simp,by simp,by simp⟩,?_⟩;simp only[qad];simp;refine qac [] (by kernel_rfl) c4 (by simp[qa5,DE.row,PT.row,qaf]) (by simp) trivial (by simp) (by simp) ?_;rintro r L' ⟨rfl,rfl⟩;refine⟨[(5,804),(8,805),(11,806),(14,807)],⟨by simp,by simp,by simp,by simp,by simp⟩,?_⟩;simp only[qad];simp[qcy]
 refine key.can ?_;rintro r L' (⟨h1,rfl,rfl⟩ | ⟨h1,rfl,rfl⟩)
 ·refine⟨[],by simp,by simp,by simp,by simp,.inl ⟨h1,by simp,by simp⟩⟩
 ·refine⟨[(29,1000),(801,1001),(802,1002),(803,1003),(804,1004),(805,1005),(806,1006),(807,1007),(808,1008)],by simp,by simp,by simp,by simp,.inr ⟨h1,by simp,?_⟩⟩;rw[hF];simp[cmL,cmR,qah]
theorem qqX:∀ (m:List PT),noL (m.flatMap PT.row)=true
 | []=>rfl
 | p::r=>by
  rw[qGP,qfb,qqX r];rfl
theorem qf3 (s:CS):noL s.row=true:=by
 have e:s.row=[.str s.name,.int .i64 s.kind,.str s.frm]++(s.map.flatMap PT.row++(s.home.row++[.bool s.dirty])):=by simp[CS.row]
 rw[e,qfb,qfb,qqX];rfl
def cdQ (R:DK×CO×Int) (r:AV) (L':List (Nat×Ob)):Prop :=
 (R.2.2=5∧r=.tup [.agg [.nils,.nils,.nils],.agg [.int .i64 0,.nils,.nils,.nils,.bool false,.nils,.int .i64 0],.int .i64 5]∧L'=[]) ∨
 (r=.tup [.agg (qcq R.1 901 902 903),qcy R.2.1 904 905 906 907,.int .i64 R.2.2]∧L'=[(901,qaj R.1.s0),(902,qaj R.1.s1),(903,qbZ R.1.late),(904,kcs R.2.1.sets),(905,qaH R.2.1.ddt),(906,kpt R.2.1.parts),(907,kin R.2.1.safe)])
theorem qte (d:DK) (hd:DkT d) (c:CO) (h:CoT c):ACall prog 119 [.agg d.row,.agg c.row] [] (cdQ (qbo d c)):=by
 have hcb:=@qgR d c h;obtain⟨R,hR⟩:∃ R,qbo d c=R:=⟨_,rfl⟩;rw[hR]at hcb ⊢;unfold qbo at hR;have c0:=qo6 d hd c h;have c3:=qiC d hd;have c4:=qlJ c h;simp only[DK.row,CO.row]at c0 c3 c4;refine acx func119 [(5,[zJ 0 [2] [],zJ 2 [3] [2],zJ 1 [] [3],zI 3,zI 4,zI 5,zI 6]),(6,[zI 0,zI 1,zI 2,zJ 3 [800] [],zJ 5 [] [800],zJ 6 [] [800],zJ 7 [] [800],zJ 8 [800] [800],zJ 4 [801,802,813] [800],zJ 9 [804,805,816,817] [],zI 10,zI 11,zI 12])] ntmps119 rfl rfl rfl ?_;simp[DK.row,CO.row];refine c0.call ?_;by_cases hok:qbu d=false∨qan c=false∨d.s0.length≤13
 ·rw[if_pos hok]at hR;subst hR;rw[show(qbu d && qan c && decide (13<d.s0.length))=false by
   rcases hok with e | e | e
   ·rw[e];rfl
   ·rw[e];simp
   ·simp;omega]
  simp;exact⟨[],by simp,.inl ⟨rfl,rfl,rfl⟩⟩
 ·have ho:qbu d=true∧qan c=true∧13<d.s0.length:=by
   refine⟨?_,?_,?_⟩
   ·cases e:qbu d with
    | true=>rfl
    | false=>exact absurd (.inl e) hok
   ·cases e:qan c with
    | true=>rfl
    | false=>exact absurd (.inr (.inl e)) hok
   ·have:¬ d.s0.length≤13:=fun e=>hok (.inr (.inr e));omega
  obtain⟨o1,o2,o3⟩:=ho;rw[if_neg hok]at hR;rw[show(qbu d && qan c && decide (13<d.s0.length))=true by simp[o1,o2,o3]];obtain⟨hm,k1,k2,k3,k4,k5,k6,k7⟩:=qbS o2;have c5:=qCJ d o1 c h o2;simp only[DK.row,CO.row]at c5;simp[DK.row,CO.row];refine qac [] (by kernel_rfl) c5 (by simp[qae,LT.row,qa5,DE.row,PT.row,qaf]) (by simp) trivial (by simp) (by simp) ?_;rintro r L' (⟨hma,rfl,rfl⟩ | ⟨hma,rfl,rfl⟩)
  ·rw[if_pos hma]at hR;subst hR;refine⟨[],⟨by simp,by simp,by simp,by simp,by simp⟩,?_⟩;simp only[qad];simp;refine qac [] (by kernel_rfl) c3 (by simp[qae,LT.row]) (by simp) trivial (by simp) (by simp) ?_;rintro r L' ⟨rfl,rfl⟩;refine⟨[(6,901),(10,902),(14,903)],⟨by simp,by simp,by simp,by simp,by simp⟩,?_⟩;simp only[qad];simp;refine qac [] (by kernel_rfl) c4 (by simp[qa5,DE.row,PT.row,qaf]) (by simp) trivial (by simp) (by simp) ?_;rintro r L' ⟨rfl,rfl⟩;refine⟨[(5,904),(8,905),(11,906),(14,907)],⟨by simp,by simp,by simp,by simp,by simp⟩,?_⟩;simp only[qad];simp[qcy];exact⟨[(901,qaj d.s0),(902,qaj d.s1),(903,qbZ d.late),(904,kcs c.sets),(905,qaH c.ddt),(906,kpt c.parts),(907,kin c.safe)],by simp,.inr ⟨rfl,rfl⟩⟩
  ·rw[if_neg (by simp[hma])]at hR;have hma2:=hma;simp only[qc8,Bool.and_eq_true,decide_eq_true_eq]at hma2;have c6:=qCI d o1 c h o2 hma2.2 hma2.1;refine⟨[(1000,800),(1001,801),(1002,802),(1003,803),(1004,804),(1005,805),(1006,806),(1007,807),(1008,808)],⟨by simp[cmL],by simp,by simp,by simp[cmL],by simp⟩,?_⟩;simp only[qad];simp[cmL,cmR];refine qac [(1000,.whole 800),(1001,.whole 801),(1002,.whole 802),(1003,.whole 803),(1004,.whole 804),(1005,.whole 805),(1006,.whole 806),(1007,.whole 807),(1008,.whole 808)] (by kernel_rfl) c6 (by simp) (by simp) (by simp[cmL,cmR];exact⟨.inr ⟨_,_,rfl,rfl,by simp⟩,qaa rfl (qaz _),qaa rfl (qaz _),qaa rfl (qcm _),qaa rfl (qaX _),qaa rfl (qbw _),qaa rfl (qbi _),qaa rfl (qaM _),qaa rfl (qaM _)⟩) (by simp[cmL]) (by simp) ?_;rintro r L' (⟨h1,rfl,c',j,rfl⟩ | ⟨h1,rfl,D,c',j,i3,i7,h3,h7,rfl,hq⟩)
   ·have h7:(qdY d c).2.2=7:=by unfold qdY;rw[if_pos h1]
    rw[if_pos (by rw[h7];decide),h7]at hR;subst hR;refine⟨[(903,813),(906,816),(911,821),(912,822),(913,823)],⟨by simp[cmO],by simp,by simp,by simp[cmO],by simp⟩,?_⟩;simp only[qad];simp[cmO,cmT,qcq];refine qac [] (by kernel_rfl) c3 (by simp[qae,LT.row]) (by simp) trivial (by simp) (by simp) ?_;rintro r L' ⟨rfl,rfl⟩;refine⟨[(6,901),(10,902),(14,903)],⟨by simp,by simp,by simp,by simp,by simp⟩,?_⟩;simp only[qad];simp;refine qac [] (by kernel_rfl) c4 (by simp[qa5,DE.row,PT.row,qaf]) (by simp) trivial (by simp) (by simp) ?_;rintro r L' ⟨rfl,rfl⟩;refine⟨[(5,904),(8,905),(11,906),(14,907)],⟨by simp,by simp,by simp,by simp,by simp⟩,?_⟩;simp only[qad];simp[qcy];exact⟨[(901,qaj d.s0),(902,qaj d.s1),(903,qbZ d.late),(904,kcs c.sets),(905,qaH c.ddt),(906,kpt c.parts),(907,kin c.safe)],by simp,.inr ⟨rfl,rfl⟩⟩
   ·simp only[qFT,qF2,or_false]at h3 h7;subst h3;subst h7;refine⟨[(903,813),(906,816),(907,817),(911,821),(912,822),(913,823),(921,831),(922,832),(923,833)],⟨by simp[cmO,qi1],by simp,by simp,by simp[cmO,qi1],by simp⟩,?_⟩;simp only[qad];by_cases q:(qdY d c).2.2=0
    ·rw[if_neg (by simp[q])]at hR;obtain⟨rfl,rfl⟩:=hq q;have hz:=hcb (by rw[← hR];exact q);subst hR;generalize qdY d c=Z at *
     obtain⟨zd,zc,zn⟩:=Z;simp only at q hz;subst q;have c7:=qiC zd (qec hz.2.2.1);have c8:=qlJ zc hz.2.2.2.2.1;simp only[DK.row,CO.row]at c7 c8;simp[cmO,cmT,qi1,qcq];refine qaO [] (by kernel_rfl) c7 (by simp[qb1,mtA,qaj,qbZ,qam,qae,LT.row]) (by simp) trivial (by simp) (by simp) ?_;rintro r L' ⟨rfl,rfl⟩;refine⟨by simp,by simp[qaj,qae,qbZ,LT.row],[(6,901),(10,902),(14,903)],⟨by simp,by simp,by simp,by simp,by simp⟩,?_⟩;simp only[qad];simp;refine qaO [] (by kernel_rfl) c8 (by simp[qb1,mtA,kcs,qaH,kpt,kin,qam,qa5]) (by simp) trivial (by simp) (by simp) ?_;rintro r L' ⟨rfl,rfl⟩;refine⟨by simp[qcy],by simp[kcs,qaH,kpt,kin,qaf,DE.row,PT.row,qf3],[(5,904),(8,905),(11,906),(14,907)],⟨by simp,by simp,by simp,by simp,by simp⟩,?_⟩;simp only[qad];simp[qcy];exact⟨[(901,qaj zd.s0),(902,qaj zd.s1),(903,qbZ zd.late),(904,kcs zc.sets),(905,qaH zc.ddt),(906,kpt zc.parts),(907,kin zc.safe)],by simp,.inr ⟨rfl,rfl⟩⟩
    ·have h7:(qdY d c).2.2=7:=by
      unfold qdY at q ⊢;split
      ·rfl
      ·rename_i g1;rw[if_neg g1]at q;split
       ·rfl
       ·rename_i g2;rw[if_neg g2]at q;simp at q
     rw[if_pos q]at hR;subst hR;generalize qdY d c=Z at *
     obtain⟨zd,zc,zn⟩:=Z;simp only at q h7;subst h7;simp[cmO,cmT,qi1,qcq,q];refine qac [] (by kernel_rfl) c3 (by simp[qae,LT.row]) (by simp) trivial (by simp) (by simp) ?_;rintro r L' ⟨rfl,rfl⟩;refine⟨[(6,901),(10,902),(14,903)],⟨by simp,by simp,by simp,by simp,by simp⟩,?_⟩;simp only[qad];simp;refine qac [] (by kernel_rfl) c4 (by simp[qa5,DE.row,PT.row,qaf]) (by simp) trivial (by simp) (by simp) ?_;rintro r L' ⟨rfl,rfl⟩;refine⟨[(5,904),(8,905),(11,906),(14,907)],⟨by simp,by simp,by simp,by simp,by simp⟩,?_⟩;simp only[qad];simp[qcy];exact⟨[(901,qaj d.s0),(902,qaj d.s1),(903,qbZ d.late),(904,kcs c.sets),(905,qaH c.ddt),(906,kpt c.parts),(907,kin c.safe)],by simp,.inr ⟨rfl,rfl⟩⟩
theorem qkG {q:Int}:∀ {l:List DE},(∀ e∈l,q<e.ea∧qb8 e=true)→l.Pairwise (fun a b=>a.ea<b.ea)→qgj q l=true
 | [],_,_=>rfl
 | x::r,h,hp=>by
  rw[qHr]at hp;have hx:=h x (by simp);simp only[qgj,Bool.and_eq_true,decide_eq_true_eq];exact⟨⟨hx.2,hx.1⟩,qkG (fun e he=>⟨hp.1 e he,(h e (by simp[he])).2⟩) hp.2⟩
theorem qgN {q:Int}:∀ {l:List DE},qgj q l=true→l.Pairwise (fun a b=>a.ea<b.ea)
 | [],_=>.nil
 | x::r,h=>by
  simp only[qgj,Bool.and_eq_true,decide_eq_true_eq]at h;rw[qHr];exact⟨fun e he=>((qcg h.2).1 e he).1,qgN h.2⟩
theorem ql4 {l:List DE} (h:qal l=true) (a:Int):(∀ e∈l.take (ddP l a),e.ea<a)∧(∀ e∈l.drop (ddP l a),a≤e.ea):=by
 simp only[qal,Bool.and_eq_true,decide_eq_true_eq]at h;obtain⟨h1,h2⟩:=qcg h.2;have hu:UpC (fun e:DE=>e.ea-a) l:=fun i j x y hij hx hy hc=>by
  have:=h2 i j x y hij hx hy
  first | omega | (simp only at hc ⊢;omega)
 refine⟨fun e he=>?_,fun e he=>?_⟩
 ·obtain⟨i,hi⟩:=qHn.1 he;rw[qEn]at hi;split at hi
  ·rename_i hlt;rcases Int.lt_or_le (e.ea-a) 0 with h3 | h3
   ·omega
   ·have:=qjM (c:=fun e:DE=>e.ea-a) hi (by simpa using h3);unfold ddP at hlt;omega
  ·cases hi
 ·obtain⟨i,hi⟩:=qHn.1 he;rw[qEU]at hi;rcases Int.lt_or_le (e.ea-a) 0 with h3 | h3
  ·have:=qme hu hi h3;unfold ddP at this;omega
  ·omega
theorem qkI {l:List DE} (h:qal l=true) {a:Int} (hT:ddT l a=false):∀ e∈l,e.ea≠a:=by
 intro e he hea;have hs:=ql4 h a;rw[← qEz (ddP l a) l]at he;rcases qFV.1 he with he | he
 ·have:=hs.1 e he;omega
 ·unfold ddT bsT at hT;obtain⟨i,hi⟩:=qHn.1 he;rw[qEU]at hi;simp only[qal,Bool.and_eq_true,decide_eq_true_eq]at h;obtain⟨h1,h2⟩:=qcg h.2;cases hx:l[bsK (fun e=>e.ea-a) l]? with
  | none =>
   have:=qHo.1 hx;have:=(qE1.1 hi).1;unfold ddP at *
   omega
  | some y =>
   rw[hx]at hT;have hy:y.ea≠a:=by
    intro e;simp[e]at hT
   have hm:y∈l.drop (ddP l a):=qHn.2 ⟨0,by rw[qEU];exact hx⟩;have h3:=hs.2 y hm;by_cases hi0:i=0
   ·subst hi0;rw[qFr]at hi;unfold ddP at hi;rw[hx]at hi;injection hi with hi;exact hy (hi ▸ hea)
   ·have:=h2 (ddP l a) (ddP l a+i) y e (by omega) hx hi;omega
theorem qos {l:List DE} (h:qal l=true) {k:Nat} {e e':DE} (he:l[k]?=some e) (h1:e'.ea=e.ea) (h2:qb8 e'=true):qal (l.set k e')=true:=by
 simp only[qal,Bool.and_eq_true,decide_eq_true_eq,qFi]at h ⊢;refine⟨h.1,?_⟩;have hp:=qgN h.2;obtain⟨g1,_⟩:=qcg h.2;refine qkG (fun x hx=>?_) ?_
 ·rcases qHl hx with hx | rfl
  ·exact g1 x hx
  ·exact⟨by rw[h1];exact(g1 e (qGk he)).1,h2⟩
 ·have hm:(l.set k e').map DE.ea=l.map DE.ea:=by
   rw[qGw,h1];apply qGV;intro i;rw[qFs];split
   ·rename_i hki;subst hki;split
    ·simp[he]
    ·rename_i hlt;exact absurd (by simpa using (qE1.1 he).1) hlt
   ·rfl
  have e1:(l.map DE.ea).Pairwise (· < ·):=List.pairwise_map.2 hp;rw[← hm]at e1;exact List.pairwise_map.1 e1
theorem qot {l:List DE} (h:qal l=true) {s a:Int} (ho:(qb0 l s a).2=true):qal (qb0 l s a).1=true:=by
 have h':=h;simp only[qal,Bool.and_eq_true,decide_eq_true_eq]at h';have hp:=qgN h'.2;obtain⟨g1,_⟩:=qcg h'.2;unfold qb0 at ho ⊢;rw[if_neg (by simp[h])]at ho ⊢;cases hen:qb8 ⟨s,a,1⟩with
 | false=>rw[if_pos hen]at ho;cases ho
 | true =>
  rw[if_neg (by simp[hen])]at ho ⊢;cases hT:ddT l a with
  | true =>
   rw[if_pos hT]at ho;rw[if_pos rfl];cases he:l[ddP l a]? with
   | none=>rw[he]at ho;cases ho
   | some e =>
    rw[he]at ho;simp only at ho ⊢;by_cases hq:e.es≠s∨e.ec=1000
    ·rw[if_pos hq]at ho;cases ho
    ·rw[if_neg hq];refine qos h he rfl ?_;have:=(g1 e (qGk he)).2;simp only[qb8,Bool.and_eq_true,decide_eq_true_eq]at this ⊢;omega
  | false =>
   rw[if_neg (by simp[hT])]at ho;rw[if_neg (by simp)];by_cases hl:l.length=48
   ·rw[if_pos hl]at ho;cases ho
   ·rw[if_neg hl];have hs:=ql4 h a;have hne:=qkI h hT;have hsp:=qEz (ddP l a) l;have hp2:(l.take (ddP l a)++l.drop (ddP l a)).Pairwise (fun a b=>a.ea<b.ea):=by rw[hsp];exact hp
    rw[qHs]at hp2;have hk:=ql5 l a;simp only[qal,Bool.and_eq_true,decide_eq_true_eq];refine⟨by simp;omega,qkG (fun x hx=>?_) ?_⟩
    ·rcases qFV.1 hx with hx | hx
     ·exact g1 x (qGX hx)
     ·rcases qFT.1 hx with rfl | hx
      ·simp only[qb8,Bool.and_eq_true,decide_eq_true_eq]at hen;exact⟨by simp only;omega,by simp[qb8];omega⟩
      ·exact g1 x (qGK hx)
    ·rw[qHs,qHr];refine⟨hp2.1,⟨fun y hy=>?_,hp2.2.1⟩,fun x hx y hy=>?_⟩
     ·have:=hs.2 y hy;have:=hne y (qGK hy);simp only;omega
     ·rcases qFT.1 hy with rfl | hy
      ·exact hs.1 x hx
      ·exact hp2.2.2 x hx y hy
theorem ql6 {l:List DE} (h:qal l=true) {a:Int} (ho:(qbm l a).2=true):qal (qbm l a).1=true:=by
 have h':=h;simp only[qal,Bool.and_eq_true,decide_eq_true_eq]at h';have hp:=qgN h'.2;obtain⟨g1,_⟩:=qcg h'.2;unfold qbm at ho ⊢;rw[if_neg (by simp[h])]at ho ⊢;cases hT:ddT l a with
 | false=>rw[if_pos hT]at ho;cases ho
 | true =>
  rw[if_neg (by simp[hT])]at ho;rw[if_neg (by simp)];cases he:l[ddP l a]? with
  | none=>rw[he]at ho;cases ho
  | some e =>
   simp only;by_cases hq:e.ec=1
   ·rw[if_pos hq];have hsub:(l.take (ddP l a)++l.drop (ddP l a+1)).Sublist l:=by
     conv=>rhs;rw[← qEz (ddP l a) l]
     refine List.Sublist.append (List.Sublist.refl _) ?_;rw[← qEF];exact List.drop_sublist _ _
    have hl:=hsub.length_le;simp only[qal,Bool.and_eq_true,decide_eq_true_eq];exact⟨by omega,qkG (fun x hx=>g1 x (hsub.subset hx)) (hp.sublist hsub)⟩
   ·rw[if_neg hq];refine qos h he rfl ?_;have:=(g1 e (qGk he)).2;simp only[qb8,Bool.and_eq_true,decide_eq_true_eq]at this ⊢;omega
theorem qqE {l:List DE} (h:qal l=true) {more:Bool} {p:PT} (ho:(qhe more l p).2=true):qal (qhe more l p).1=true:=by
 unfold qhe at ho ⊢;split
 ·rename_i e;rw[if_pos e]at ho;exact qot h ho
 ·rename_i e;rw[if_neg e]at ho;exact ql6 h ho
theorem qfW (more:Bool):∀ (m:List PT) (l:List DE) (b:Bool),(qbJ more m (l,b,false)).2.2=false
 | [],l,b=>rfl
 | p::q,l,b=>by
  simp only[qbJ];split
  ·exact qfW more q l b
  ·simp only[qHt];exact qfW more q _ true
theorem qj7 (more:Bool):∀ (m:List PT) (l:List DE) (b:Bool),qal l=true→(qbJ more m (l,b,true)).2.2=true→qal (qbJ more m (l,b,true)).1=true
 | [],l,b,h,_=>h
 | p::q,l,b,h,ho=>by
  simp only[qbJ]at ho ⊢;split
  ·rename_i e;rw[if_pos e]at ho;exact qj7 more q l b h ho
  ·rename_i e;rw[if_neg e]at ho;simp only[qGF]at ho ⊢;cases hq:(qhe more l p).2 with
   | false=>rw[hq,qfW]at ho;cases ho
   | true =>
    rw[hq]at ho;exact qj7 more q _ true (qqE h hq) ho
def qcs (c:CO) (i1 i2:Nat):List (Nat×Ob):=[(1000,⟨7,[[.int .i64 c.txg,.sl i1 0 c.sets.length,.sl i2 0 c.ddt.length,.sl 1003 0 c.parts.length,.bool c.dirty,.sl 1004 0 c.safe.length,.int .i64 c.logn]]⟩),(i1,kcs c.sets),(i2,qaH c.ddt),(1003,kpt c.parts),(1004,kin c.safe)]
def qDC (xs:List Nat) (c:CO) (R:List DE×Bool×Bool) (r:AV) (L':List (Nat×Ob)):Prop:=∃ l b i2,i2∈xs∧r=.bool R.2.2∧L'=qcs ⟨c.txg,c.sets,l,c.parts,b,c.safe,c.logn⟩ 1001 i2∧(R.2.2=true→l=R.1∧b=R.2.1)
theorem qrv (c:CO) (hd:qal c.ddt=true) (m:List PT) (hm:∀ p∈m,0≤p.pa∧p.pa≤1000) (hml:m.length≤1000) (more:Bool) :
  ACall prog 223 [.ptr 1000 0 0,.lst 3 (m.map PT.row),.bool more] (qcs c 1001 1002) (qDC [902] c (qbJ more m (c.ddt,c.dirty,true))):=by
 obtain⟨R,hR⟩:∃ R,qbJ more m (c.ddt,c.dirty,true)=R:=⟨_,rfl⟩;rw[hR];have key:ACall prog 223 [.ptr 1000 0 0,.lst 3 (m.map PT.row),.bool more] (qcs c 1001 1002) (qDC [902,33,46] c R):=by
  refine acx func223 [(8,[zI 0,zI 1,zI 2,zI 3,zJ 4 [1000] [],zJ 5 [] [1000],zJ 6 [8] [1000],zJ 7 [] [1000,8],zJ 8 [8] [1000,8],zJ 9 [902] [],zI 10,zI 11,zI 12,zI 13,zI 14,zI 15,zI 16]),(9,[zI 0,zI 1,zI 2,zI 3,zJ 4 [1000] [],zJ 5 [] [1000],zJ 6 [8] [1000],zJ 7 [902] [],zI 8,zI 9,zI 10,zI 11,zI 12,zI 13,zI 14])] ntmps223 rfl rfl rfl ?_ (hL:=by simp[qcs]);simp[qcs];refine qbl (X:=Nat×List DE×Bool) [0,2,10,11,12] [(1000,1000),(1001,1001),(1002,902),(1003,1003),(1004,1004)] (fun x=>[(12,.int .i64 x.1)]) (fun x=>qcs ⟨c.txg,c.sets,x.2.1,c.parts,x.2.2,c.safe,c.logn⟩ 1001 902) (fun x=>m.length-x.1)
   (fun x=>x.1≤m.length∧qal x.2.1=true∧qbJ more (m.drop x.1) (x.2.1,x.2.2,true)=R) (0,c.ddt,c.dirty) ⟨by simp,hd,by simpa using hR⟩ ?_ (he:=by simp[qah,qcs])
  rintro⟨i,l,b⟩ ⟨hi,hok,hx⟩;simp only at hi hok hx;cases hr:m.drop i with
  | nil =>
   have:=qa0 hr;rw[hr]at hx;have hie:i=m.length:=by omega
   subst hie;simp only[qbJ]at hx;simp[qah,qcs];exact⟨qcs ⟨c.txg,c.sets,l,c.parts,b,c.safe,c.logn⟩ 1001 902,by simp[qcs],l,b,902,by simp,by rw[← hx],rfl,fun _=>by rw[← hx];exact⟨rfl,rfl⟩⟩
  | cons p q =>
   obtain⟨k1,e0,e1,k3⟩:=qa1 hr;rw[hr]at hx;have hpm:=hm p (qGk e1);have e2:=qak ((i:Int)+1) (by omega) (by omega);have hli:(i:Int)<m.length:=by omega
   by_cases h0:p.pa=0
   ·rw[qbJ,if_pos h0]at hx;simp[qah,qcs,k1,e0,e1,hli,PT.row,h0];exact nx (i+1,l,b) [(1000,1000),(1001,1001),(902,902),(1003,1003),(1004,1004)] ⟨by simp only;omega,hok,by simp only[k3];exact hx⟩ (by simp only;omega) (h4:=by simp[qah,e2,qcs])
   ·rw[qbJ,if_neg h0]at hx;simp only[qGF]at hx;have hrok:=@qqE l hok more p;cases more with
    | true =>
     have c1:=qCP l hok p.ps p.pa;simp only[qhe,if_true]at hx hrok;generalize qb0 l p.ps p.pa=W at *
     obtain⟨l',o⟩:=W;simp only at hx hrok;simp[qah,qcs,k1,e0,e1,hli,PT.row,h0];refine qaO [] (by kernel_rfl) c1 (by simp[qb1,mtA,qaH,qam,DE.row]) (by simp) trivial (by simp) (by simp) ?_;rintro r L' ⟨rfl,rfl⟩;refine⟨by simp,by simp[qaH,DE.row],[(900,33)],⟨by simp,by simp,by simp,by simp,by simp⟩,?_⟩;simp only[qad];simp;cases o with
     | false =>
      have hno:=qfW true q l' true;rw[hx]at hno;simp;exact⟨qcs ⟨c.txg,c.sets,l',c.parts,true,c.safe,c.logn⟩ 1001 33,by simp[qcs],l',true,33,by simp,by rw[hno],rfl,fun e=>by rw[hno]at e;cases e⟩
     | true =>
      simp;exact nx (i+1,l',true) [(1000,1000),(1001,1001),(33,902),(1003,1003),(1004,1004)] ⟨by simp only;omega,hrok rfl,by simp only[k3];exact hx⟩ (by simp only;omega) (h4:=by simp[qah,e2,qcs])
    | false =>
     have c1:=qAi l hok p.pa hpm;simp only[qhe,qEq,if_false]at hx hrok;generalize qbm l p.pa=W at *
     obtain⟨l',o⟩:=W;simp only at hx hrok;simp[qah,qcs,k1,e0,e1,hli,PT.row,h0];refine qaO [] (by kernel_rfl) c1 (by simp[qb1,mtA,qaH,qam,DE.row]) (by simp) trivial (by simp) (by simp) ?_;rintro r L' ⟨rfl,rfl⟩;refine⟨by simp,by simp[qaH,DE.row],[(900,46)],⟨by simp,by simp,by simp,by simp,by simp⟩,?_⟩;simp only[qad];simp;cases o with
     | false =>
      have hno:=qfW false q l' true;rw[hx]at hno;simp;exact⟨qcs ⟨c.txg,c.sets,l',c.parts,true,c.safe,c.logn⟩ 1001 46,by simp[qcs],l',true,46,by simp,by rw[hno],rfl,fun e=>by rw[hno]at e;cases e⟩
     | true =>
      simp;exact nx (i+1,l',true) [(1000,1000),(1001,1001),(46,902),(1003,1003),(1004,1004)] ⟨by simp only;omega,hrok rfl,by simp only[k3];exact hx⟩ (by simp only;omega) (h4:=by simp[qah,e2,qcs])
 refine key.can ?_;rintro r L' ⟨l,b,i2,h2,rfl,rfl,hq⟩;refine⟨[(1000,1000),(1001,1001),(i2,902),(1003,1003),(1004,1004)],?_,?_,?_,?_,l,b,902,by simp,by simp,?_,hq⟩
 all_goals
  simp only[qFT,qF2,or_false]at h2;rcases h2 with rfl | rfl | rfl
 all_goals simp[qcs,qah]
theorem qAc (s:CS) (h8:s.map.length=8) (n:List UInt8):CV prog 290 [.agg s.row,.str n] (.int .i64 (Lib.compareBytes s.name n)):=by
 have c1:=qhu (qoy s.name n);have hs0:s.row[0]?=some (.str s.name):=rfl;refine cvx func290 [] ntmps290 rfl rfl rfl ?_ (hca:=by simp[qa5]);simp[qaY s h8,hs0];refine c1.call ?_;simp
theorem qzP (l:List CS) (n:List UInt8):bsK (fun s:CS=>Lib.compareBytes s.name n) l=nmP l n:=by
 unfold bsK nmP
 congr 2
 funext s
 exact qkR s.name n
theorem qvH {l:List CS} (h:Srt (l.map csB)) (n:List UInt8):UpC (fun s:CS=>Lib.compareBytes s.name n) l:=by
 intro i j a b hij ha hb hc;have h1:=h i j (csB a) (csB b) hij (by simp[ha]) (by simp[hb]);have h2:Op.bytesLess b.name n=true:=by rw[← qkR];simpa using hc
 have h3:=qhT (a:=a.name) (b:=b.name) (c:=n) h1 h2;rw[← qkR]at h3;simpa using h3
theorem qwX (l:List CS) (h8:∀ s∈l,s.map.length=8) (hl:l.length≤1048576) (hS:Srt (l.map csB)) (n:List UInt8) :
  CV prog 289 [.lst 31 (l.map CS.row),.str n,.fn 290 []] (.tup [.int .i64 (nmP l n:Nat),.bool (bsT (fun s:CS=>Lib.compareBytes s.name n) l)]):=by
 rw[← qzP];refine cvx func289 [] ntmps289 rfl rfl rfl ?_;exact qAP qzl qoD (fun s:CS=>Lib.compareBytes s.name n) l (by omega) (fun x hx=>qaY x (h8 x hx)) (qvH hS n) (by simp) fun x hx=>qAc x (h8 x hx) n
theorem qCH (c:CO) (h8:∀ s∈c.sets,s.map.length=8) (hl:c.sets.length≤1048576) (hS:Srt (c.sets.map csB)) (n:List UInt8) :
  ACall prog 222 [.ptr 1000 0 0,.str n] (qcs c 1001 1002) (fun r L'=>r=.int .i64 (nmP c.sets n:Nat)∧L'=qcs c 1001 1002):=by
 have c1:=qwX c.sets h8 hl hS n;refine acx func222 [] ntmps222 rfl rfl rfl ?_ (hL:=by simp[qcs]);simp[qcs];refine c1.view (by simp[qb1,mtA,kcs,qam,qa5]) ?_;simp
def qeD (d:DK) (c:CO) (up:Bool) (a0 a1 a2 b0 b1 b2 b3:Nat):List AV:=[.sl a0 0 d.s0.length,.sl a1 0 d.s1.length,.sl a2 0 d.late.length,.int .i64 c.txg,.sl b0 0 c.sets.length,.sl b1 0 c.ddt.length,.sl b2 0 c.parts.length,.bool c.dirty,.sl b3 0 c.safe.length,.int .i64 c.logn,.bool up]
def qco (d:DK) (c:CO) (up:Bool) (a0 a1 a2 b0 b1 b2 b3:Nat):List (Nat×Ob):=[(1000,⟨11,[qeD d c up a0 a1 a2 b0 b1 b2 b3]⟩),(a0,qaj d.s0),(a1,qaj d.s1),(a2,qbZ d.late),(b0,kcs c.sets),(b1,qaH c.ddt),(b2,kpt c.parts),(b3,kin c.safe)]
def poQ (R:DK×CO×Int) (up:Bool) (r:AV) (L':List (Nat×Ob)):Prop:=∃ d' c',r=.int .i64 R.2.2∧L'=qco d' c' up 901 902 903 904 905 906 907∧(R.2.2=0→d'=R.1∧c'=R.2.1)
theorem qrn (d:DK) (hd:DkT d) (c:CO) (h:CoT c) (up:Bool):ACall prog 53 [.ptr 1000 0 0] (qco d c up 1001 1002 1003 1004 1005 1006 1007) (poQ (qbo d c) up):=by
 have cc:=qte d hd c h;generalize qbo d c=R at *
 obtain⟨D,C,n⟩:=R;simp only[DK.row,CO.row]at cc;have key:ACall prog 53 [.ptr 1000 0 0] (qco d c up 1001 1002 1003 1004 1005 1006 1007) (fun r L'=>(n≠0∧r=.int .i64 n∧L'=qco d c up 1001 1002 1003 1004 1005 1006 1007)∨(n=0∧r=.int .i64 0∧L'=qco D C up 901 902 903 904 905 906 907)):=by
  refine acx func53 [(1,[zI 0,zI 1,zI 2,zJ 3 [1000] [],zJ 4 [] [1000],zJ 5 [] [1000],zJ 6 [] [1000],zJ 7 [1000] [1000],⟨8,[1001,1002,1003,1004,1005,1006,1007],[],[13,14],[]⟩,zI 9,zI 10,zI 11,zI 12,zJ 13 [] [1000],zJ 14 [] [1000],zI 15,zI 16,zI 17]),(3,[zI 0,zI 1,zJ 2 [3] [],zJ 3 [4] [3],zJ 4 [] [4],zJ 5 [] [4],zJ 6 [] [4],zI 7,zI 8,zI 9])] ntmps53 rfl rfl rfl ?_ (hL:=by simp[qco]);simp[qco,qeD];refine qaO [] (by kernel_rfl) cc (by simp[qb1,mtA,qaj,qbZ,kcs,qaH,kpt,kin,qam,qa5,qae,LT.row]) (by simp) trivial (by simp) (by simp) ?_;rintro r L' (⟨h1,rfl,rfl⟩ | ⟨rfl,rfl⟩)
  ·simp only at h1;subst h1;refine⟨by simp[noL],by simp,[],⟨by simp,by simp,by simp,by simp,by simp⟩,?_⟩;simp only[qad];simp
  ·refine⟨by simp[qcy,qcq,noL],by simp[kcs,qaH,kpt,kin,qaf,DE.row,PT.row,qf3,qaj,qae,qbZ,LT.row],[(901,901),(902,902),(903,903),(904,904),(905,905),(906,906),(907,907)],⟨by simp,by simp,by simp,by simp,by simp⟩,?_⟩;simp only[qad];by_cases q:n=0
   ·subst q;simp[qcy,qcq]
   ·simp[qcy,qcq,q]
 refine key.can ?_;rintro r L' (⟨h1,rfl,rfl⟩ | ⟨h1,rfl,rfl⟩)
 ·refine⟨[(1000,1000),(1001,901),(1002,902),(1003,903),(1004,904),(1005,905),(1006,906),(1007,907)],by simp[qco],by simp[qco],by simp[qco],by simp[qco],d,c,by simp,?_,fun e=>absurd e h1⟩;simp[qco,qeD,qah]
 ·refine⟨[(1000,1000),(901,901),(902,902),(903,903),(904,904),(905,905),(906,906),(907,907)],by simp[qco],by simp[qco],by simp[qco],by simp[qco],D,C,by simp[h1],?_,fun e=>⟨rfl,rfl⟩⟩;simp[qco,qeD,qah]
def ptS (D:DK) (c:CO) (up:Bool) (op:BO) (n:Nat) (now:PT):S :=
 ⟨mkT [(0,.ptr 1000 0 0),(3,.ptr 3 0 0),(4,.int .i64 0),(5,.ptr 1000 0 3),(6,.int .i64 n),(7,.ptr 7 0 0)],qaP ((3,⟨5,[op.row]⟩)::(7,⟨3,[now.row]⟩)::qco D c up 1001 1002 903 1004 1005 1006 1007),Us.of [1000,1001,1002,1003,1004,1005,1006,1007,3,7,1000,1001,1002,903,1004,1005,1006,1007]⟩
def puQ (xs ys:List Nat) (R:DK×CO×Int) (up:Bool) (r:AV) (L':List (Nat×Ob)):Prop:=∃ d' c' i3 i5,i3∈xs∧i5∈ys∧r=.int .i64 R.2.2∧L'=qco d' c' up 1001 1002 i3 1004 i5 1006 1007∧(R.2.2=0→d'=R.1∧c'=R.2.1)
theorem qlz (more:Bool) (p:PT) (l:List DE) (b:Bool):qbJ more (qhh p) (l,b,true)=qbJ more [p] (l,b,true):=by
 have e:∀ (q:List PT) x,qbJ more (p::q) x=if p.pa=0 then qbJ more q x else qbJ more q ((qhe more x.1 p).1,true,x.2.2 && (qhe more x.1 p).2):=fun q x=>rfl
 unfold qhh;rw[e,e];split <;> rfl
theorem qlU (d:DK) (text:List UInt8):∀ (l:List DE),qgG d text l=0∨∃ e∈l,e.ea=qgG d text l
 | []=>.inl rfl
 | e::r=>by
  simp only[qgG];split
  ·exact .inr ⟨e,by simp,rfl⟩
  ·rcases qlU d text r with h | ⟨x,hx,h⟩
   ·exact .inl h
   ·exact .inr ⟨x,by simp[hx],h⟩
theorem qo9 (d:DK) (l:List DE) (text:List UInt8):qdM d l text=0∨(1≤qdM d l text∧qdM d l text<120):=by
 unfold qdM;split
 ·rename_i h;simp only[qal,Bool.and_eq_true,decide_eq_true_eq]at h;rcases qlU d text l with h2 | ⟨x,hx,h2⟩
  ·exact .inl h2
  ·have:=((qcg h.2).1 x hx).2;simp only[qb8,Bool.and_eq_true,decide_eq_true_eq]at this;omega
 ·exact .inl rfl
theorem quW {a b:Int} (t:List UInt8) (ha:1≤a∧a<120) (hb:0≤b∧b≤1000000):(qbL a t b).pa=a:=by
 have hs:=qud t;have h1:qaK ⟨a,smB t,b⟩=true:=by
  unfold qaK;rw[if_neg (by simp only;omega)];simp only[Bool.and_eq_true,decide_eq_true_eq];omega
 unfold qbL;rw[if_neg (by simp[h1];omega)]
theorem qtC {c:CO} (h:qan c=true) {s:CS} (hs:s∈c.sets):qbn s=true:=by
 simp only[qan,Bool.and_eq_true,qEI]at h;exact h.1.1.1.1.2 s hs
theorem qtz {s:CS} (h8:s.map.length=8) {i:Nat} {p:PT} (h:s.map[i]?=some p):List.take 3 (List.drop (3+i * 3) s.row)=p.row:=by
 have h1:=qiI h;have hi:=(qE1.1 h).1;rw[← qhR s h8,qFL,qFN,qFM (by omega),qEF]at h1;exact h1
theorem qAd (d:DK) (hd:qbu d=true) (c:CO) (h:CoT c) (hc:qan c=true) (up:Bool) (op:BO) (hk:nmP c.sets op.a<c.sets.length) (hi:0≤op.i∧op.i<8) (ht:op.text.length≤1000) :
  ACall prog 109 [.ptr 1000 0 0,.agg op.row] (qco d c up 1001 1002 1003 1004 1005 1006 1007) (puQ [903] [905] (qcO d c (nmP c.sets op.a) op.i.toNat op.text) up):=by
 obtain⟨hm,k1,k2,k3,k4,k5,k6,k7⟩:=qbS hc;obtain⟨g1,g2,g3,g4,_⟩:=qbO hd;obtain⟨R,hR⟩:∃ R,qcO d c (nmP c.sets op.a) op.i.toNat op.text=R:=⟨_,rfl⟩;rw[hR];unfold qcO at hR;obtain⟨s,e1⟩:∃ s,c.sets[nmP c.sets op.a]?=some s:=⟨_,qEv hk⟩;have e0:=(qE1.1 e1).2;rw[e1]at hR;simp only at hR;have hs8:=h.m8 s (qGk e1);have key:ACall prog 109 [.ptr 1000 0 0,.agg op.row] (qco d c up 1001 1002 1003 1004 1005 1006 1007) (puQ [903,1003,61] [1005,101,107] R up):=by
  refine acv func109 [(7,[zI 0,zI 1,zI 2,zJ 3 [1000] [],zJ 4 [] [1000],zJ 5 [] [1000],zJ 6 [] [1000],zJ 7 [1000] [1000],zJ 8 [] [1000],zJ 9 [3] [1000],zJ 10 [1001,1002,1003,1005] [],zI 11]),(12,[zI 0,zI 1,zI 2,zI 3,zI 4,zJ 5 [3] [],zJ 6 [1000,1001,1002,1003] [],zI 7]),(14,[zI 0,zI 1,zJ 2 [3] [],zJ 3 [] [3],zJ 4 [] [3],zJ 5 [] [3],zJ 6 [1000] [3],zJ 7 [] [3],zI 8,zI 9]),(15,[zI 0,zI 1,zI 2,zJ 3 [1000] [],zJ 4 [] [1000],zJ 5 [] [1000],zJ 6 [3] [1000],zJ 7 [1000,1004,1005,1006,1007] [1000],zJ 8 [1004] [],zI 9]),(16,[zI 0,zI 1,zJ 2 [3] [],zJ 3 [] [3],zJ 4 [] [3],zJ 5 [1004] [],zJ 6 [1004] [],zJ 7 [] [3,1004],zI 8]),(21,[zI 0,zI 1,zJ 2 [3] [],zJ 3 [] [3],zJ 4 [7] [3],zJ 5 [] [3,7],zJ 6 [] [3,7],zJ 7 [1004] [],zI 8,zI 9,zI 10,zI 11])] ntmps109 rfl rfl rfl ?_ (hL:=by simp[qco]);refine qja (qbD _ ?_);simp[qco,qeD,BO.row];refine qja (qbD _ ?_);simp[qco,qeD,BO.row];refine qja (qbD _ ?_);simp[qco,qeD,BO.row,show(0:Nat)<d.s0.length by omega];refine qja (qbD _ ?_);simp[qco,qeD,BO.row];refine qvc (X:=DK×PT) (fun x=>ptS x.1 c up op d.s0.length x.2) (fun x=>qbu x.1=true∧0≤x.2.pa∧x.2.pa≤1000∧R=if x.2.pa≠0∧x.2.pa=(s.map[op.i.toNat]?.getD zPT).pa then (x.1,c,0) else qfP d x.1 c (nmP c.sets op.a) op.i.toNat s (s.map[op.i.toNat]?.getD zPT) x.2) ?_ ?_
  ·by_cases ht0:op.text=[]
   ·rw[if_pos ht0]at hR;simp[qco,qeD,BO.row,ht0];exact qm8 (d,zPT) ⟨hd,by simp[zPT],by simp[zPT],by rw[if_neg (by simp[zPT])];exact hR.symm⟩ (qjg [0,3,4,5,6,7] [(3,3),(7,7),(1000,1000),(1001,1001),(1002,1002),(1003,903),(1004,1004),(1005,1005),(1006,1006),(1007,1007)] (by simp[qag]) (by simp[qat,qah,ptS,qco,qeD,BO.row,zPT,PT.row,ht0]))
   ·rw[if_neg ht0]at hR;by_cases hx:c.txg=1000000
    ·rw[if_pos hx]at hR;subst hR;simp[qco,qeD,BO.row,ht0,hx];exact⟨qco d c up 1001 1002 1003 1004 1005 1006 1007,by simp[qco,qeD,hx],d,c,1003,1005,by simp,by simp,rfl,rfl,fun e=>by cases e⟩
    ·rw[if_neg hx]at hR;have cf:=qAh d (qec hd) c.ddt op.text (by omega) (by simp[maxLen];omega);have hfr:=qo9 d c.ddt op.text;unfold qdh at hR;generalize qdM d c.ddt op.text=a at *
     have cb:=qmN a op.text (c.txg+1) (by simp[maxLen];omega);have e2:=qak (c.txg+1) (by omega) (by omega);simp only[DK.row]at cf;simp[qco,qeD,BO.row,ht0,hx];refine cf.view (by simp[qb1,mtA,qaj,qbZ,qaH,qam,qae,LT.row]) ?_;by_cases ha0:0<a
     ·simp only[if_pos ha0]at hR;simp[show ¬ a=0 by omega,BO.row,e2];refine cb.call ?_;simp[PT.row];have hpa:=quW (a:=a) (b:=c.txg+1) op.text (by omega) (by omega);exact qm8 (d,qbL a op.text (c.txg+1)) ⟨hd,by simp only[hpa];omega,by simp only[hpa];omega,by
       simp only[hpa];rw[← hR];simp only[ne_eq,not_true_eq_false,if_false];by_cases q:a=(s.map[op.i.toNat]?.getD zPT).pa
       ·rw[if_pos q,if_pos ⟨by omega,q⟩]
       ·rw[if_neg q,if_neg (fun e=>q e.2)]⟩ (qjg [0,3,4,5,6,7] [(3,3),(7,7),(1000,1000),(1001,1001),(1002,1002),(1003,903),(1004,1004),(1005,1005),(1006,1006),(1007,1007)] (by simp[qag]) (by simp[qat,qah,ptS,qco,qeD,BO.row,PT.row]))
     ·have ha00:a=0:=by omega
      simp only[if_neg ha0]at hR;have cm:=qCM c h hc d.s0.length (by omega);have cfr:=qrr c h hc d.s0.length (by omega);have hfm:∀ x∈qaW c d.s0.length,13≤x∧x<d.s0.length:=fun x hx=>qiH hx;have hmf:qoY c d.s0.length=true→0<(qaW c d.s0.length).length:=fun hm=>by
       simp only[qoY,Bool.and_eq_true,decide_eq_true_eq]at hm;omega
      simp only[CO.row]at cm cfr;clear cf cb;simp[ha00];refine cm.view (by simp[qb1,mtA,kcs,qaH,kpt,kin,qam,qa5]) ?_;cases hma:qoY c d.s0.length with
      | false =>
       rw[hma]at hR;simp only[if_true,ne_eq]at hR;rw[if_pos (by decide)]at hR;subst hR;simp;exact⟨qco d c up 1001 1002 1003 1004 1005 1006 1007,by simp[qco,qeD],d,c,1003,1005,by simp,by simp,rfl,rfl,fun e=>by cases e⟩
      | true =>
       have hfl:=hmf hma;rw[hma]at hR;simp only[Bool.true_eq_false,if_false]at hR;generalize qaW c d.s0.length=F at *
       obtain⟨b,F',rfl⟩:∃ b F',F=b::F':=by
        cases F with
        | nil=>simp at hfl
        | cons b F'=>exact⟨b,F',rfl⟩
       simp only[qHj]at hR;have hbm:=hfm b (by simp);have cw:=qrx d hd b op.text (by omega);have hbo:=qb2 hd b op.text;have cb:=qmN b op.text (c.txg+1) (by simp[maxLen];omega);have hpa:=quW (a:=b) (b:=c.txg+1) op.text (by omega) (by omega);simp;refine qaO [] (by kernel_rfl) cfr (by simp[qb1,mtA,kcs,qaH,kpt,kin,qam,qa5]) (by simp) trivial (by simp) (by simp) ?_;rintro r L' ⟨rfl,rfl⟩;refine⟨by simp,by simp[kin,qaf],[(900,52)],⟨by simp,by simp,by simp,by simp,by simp⟩,?_⟩;simp only[qad];obtain⟨W,hW⟩:∃ W,qav d b op.text=W:=⟨_,rfl⟩;simp only[hW]at hR cw hbo;clear hW;obtain⟨E,o⟩:=W;simp only at hbo;simp[kin,qaf,BO.row];refine qac [(1000,.sub 1000 0 0 3),(1001,.whole 1001),(1002,.whole 1002),(1003,.whole 1003)] (by kernel_rfl) cw (by simp) (by simp) (by simp[qb6,qcq];exact⟨⟨_,_,rfl,rfl,by simp,by simp,rfl,rfl,by simp⟩,qaa rfl (qaz _),qaa rfl (qaz _),qaa rfl (qcm _)⟩) (by simp[qb6]) (by simp) ?_;rintro r L' ⟨rfl,rfl⟩;refine⟨[(903,61)],⟨by simp[qb6],by simp,by simp,by simp[qb6],by simp[qb6,qcq]⟩,?_⟩;simp only[qad];cases o with
       | false =>
        simp only[if_true]at hR;rw[if_pos (by decide)]at hR;subst hR;simp[qb6,qcq];exact⟨qco E c up 1001 1002 61 1004 1005 1006 1007,by simp[qco,qeD,kin],E,c,61,1005,by simp,by simp,rfl,rfl,fun e=>by cases e⟩
       | true =>
        simp only[Bool.true_eq_false,if_false,ne_eq,not_true_eq_false]at hR;simp[qb6,qcq,BO.row,e2];refine cb.call ?_;simp[PT.row];exact qm8 (E,qbL b op.text (c.txg+1)) ⟨hbo.1,by simp only[hpa];omega,by simp only[hpa];omega,by
         simp only[hpa];rw[← hR];by_cases q:b=(s.map[op.i.toNat]?.getD zPT).pa
         ·rw[if_pos q,if_pos ⟨by omega,q⟩]
         ·rw[if_neg q,if_neg (fun e=>q e.2)]⟩ (qjg [0,3,4,5,6,7] [(3,3),(7,7),(1000,1000),(1001,1001),(1002,1002),(61,903),(1004,1004),(1005,1005),(1006,1006),(1007,1007)] (by simp[qag]) (by simp[qat,qah,ptS,qco,qeD,BO.row,PT.row,qb6,qcq,kin]))
  ·rintro⟨D,now⟩ ⟨hDok,hn0,hn1,hRx⟩;simp only at hDok hn0 hn1 hRx ⊢;clear hR;have cs:=qCH c h.m8 (by omega) (qtB hc) op.a;obtain⟨i,hii⟩:∃ i:Nat,op.i.toNat=i:=⟨_,rfl⟩;have hi8:i<8:=by omega
   obtain⟨old,ho⟩:∃ o,s.map[i]?=some o:=⟨_,qEv (by omega)⟩;have ho':=(qE1.1 ho).2;have hopi:op.i=(i:Int):=by omega
   rw[hii,ho]at hRx;simp only[qFn]at hRx;have hpo:=qxz (qtC hc (qGk e1)) (qGk ho);have hca:=qtz hs8 ho;have hmin:min 3 (31-(3+i * 3))=3:=by omega
   simp only[PT.row]at hca;refine qbD _ ?_;simp[ptS,qco,qeD,BO.row];refine qac [(1000,.sub 1000 0 3 7),(1001,.whole 1004),(1002,.whole 1005),(1003,.whole 1006),(1004,.whole 1007)] (by kernel_rfl) cs (by simp) (by simp) (by simp[qcs];exact⟨⟨_,_,rfl,rfl,by simp,by simp,rfl,rfl,by simp⟩,qaa rfl (qaX _),qaa rfl (qbw _),qaa rfl (qbi _),qaa rfl (qaM _)⟩) (by simp[qcs]) (by simp) ?_;rintro r L' ⟨rfl,rfl⟩;refine⟨[],⟨by simp[qcs],by simp,by simp,by simp[qcs],by simp[qcs]⟩,?_⟩;simp only[qad];generalize nmP c.sets op.a=k at *
   by_cases q:now.pa≠0∧now.pa=old.pa
   ·rw[if_pos q]at hRx;subst hRx;simp[qcs,kcs,hk,e0,e1,qaY s hs8,qd0 s hs8,hopi,hi8,PT.row,hca,hmin,q.1,q.2,show ¬ old.pa=0 from q.2 ▸ q.1];exact⟨by omega,by omega,qco D c up 1001 1002 903 1004 1005 1006 1007,by simp[qco,qeD,kcs],D,c,903,1005,by simp,by simp,rfl,rfl,fun _=>⟨rfl,rfl⟩⟩
   ·rw[if_neg q]at hRx;simp only[qfP,qlz]at hRx;have hdd:=qow hc;have cc:=qrv c hdd [now] (fun p hp=>by simp at hp;subst hp;omega) (by simp) true;have hyok:=qj7 true [now] c.ddt c.dirty hdd;generalize qbJ true [now] (c.ddt,c.dirty,true)=Y at *
    obtain⟨yl,yd,yo⟩:=Y;simp only at hRx hyok;have cc2:=fun hyl=>qrv ⟨c.txg,c.sets,yl,c.parts,yd,c.safe,c.logn⟩ hyl [old] (fun p hp=>by simp at hp;subst hp;omega) (by simp) false;simp only at cc2;generalize qbJ false [old] (yl,yd,true)=Z at *
    obtain⟨zl,zd,zo⟩:=Z;simp only at hRx;have hB:now.pa=0∨(now.pa≠0∧now.pa≠old.pa):=by
     by_cases q1:now.pa=0
     ·exact .inl q1
     ·exact .inr ⟨q1,fun e=>q ⟨q1,e⟩⟩
    rcases hB with q1 | ⟨q1,q2⟩
    ·skip
     simp[qcs,kcs,hk,e0,e1,qaY s hs8,qd0 s hs8,hopi,hi8,PT.row,hca,hmin,q1];refine⟨by omega,by omega,?_⟩;refine qaO [(1000,.sub 1000 0 3 7),(1001,.whole 1004),(1002,.whole 1005),(1003,.whole 1006),(1004,.whole 1007)] (by kernel_rfl) cc (by simp[mtA,kin,PT.row,q1]) (by simp) (by simp[qcs];exact⟨⟨_,_,rfl,rfl,by simp,by simp,rfl,rfl,by simp⟩,⟨rfl,qaa rfl (qaX _)⟩,qaa rfl (qbw _),qaa rfl (qbi _),qaa rfl (qaM _)⟩) (by simp[qcs]) (by simp) ?_;rintro r L' ⟨l,b,i2,h2,rfl,rfl,hq⟩;simp only[qFT,qF2,or_false]at h2;subst h2;refine⟨by simp,by simp[qcs,kcs,qaH,kpt,kin,qaf,DE.row,PT.row,qf3,noL],[(902,101)],⟨by simp[qcs],by simp,by simp,by simp[qcs],by simp[qcs]⟩,?_⟩;simp only[qad];cases yo with
     | false =>
      rw[if_pos (.inl rfl)]at hRx;subst hRx;simp[qcs];exact⟨qco D ⟨c.txg,c.sets,l,c.parts,b,c.safe,c.logn⟩ up 1001 1002 903 1004 101 1006 1007,by simp[qco,qeD,kcs],D,_,903,101,by simp,by simp,rfl,rfl,fun e=>by cases e⟩
     | true =>
      obtain⟨rfl,rfl⟩:=hq rfl;have cc2:=cc2 (hyok rfl);simp[qcs];refine qaO [(1000,.sub 1000 0 3 7),(1001,.whole 1004),(1002,.whole 101),(1003,.whole 1006),(1004,.whole 1007)] (by kernel_rfl) cc2 (by simp[mtA,kin,PT.row]) (by simp) (by simp[qcs];exact⟨⟨_,_,rfl,rfl,by simp,by simp,rfl,rfl,by simp⟩,qaa rfl (qaX _),qaa rfl (qbw _),qaa rfl (qbi _),qaa rfl (qaM _)⟩) (by simp[qcs]) (by simp) ?_;rintro r L' ⟨l,b,i2,h2,rfl,rfl,hq⟩;simp only[qFT,qF2,or_false]at h2;subst h2;refine⟨by simp,by simp[qcs,kcs,qaH,kpt,kin,qaf,DE.row,PT.row,qf3,noL],[(902,107)],⟨by simp[qcs],by simp,by simp,by simp[qcs],by simp[qcs]⟩,?_⟩;simp only[qad];cases zo with
      | false =>
       rw[if_pos (.inr rfl)]at hRx;subst hRx;simp[qcs];exact⟨qco D ⟨c.txg,c.sets,l,c.parts,b,c.safe,c.logn⟩ up 1001 1002 903 1004 107 1006 1007,by simp[qco,qeD,kcs],D,_,903,107,by simp,by simp,rfl,rfl,fun e=>by cases e⟩
      | true =>
       obtain⟨rfl,rfl⟩:=hq rfl;rw[if_neg (by simp)]at hRx;subst hRx;simp[qcs,kcs,hk,e0,e1,qaY s hs8,qd0 s hs8,hopi,hi8,PT.row,hca,hmin,BO.row];have hrow:=qkN s hs8 hi8 now;exact⟨by omega,by omega,qco D ⟨c.txg,c.sets.set k ⟨s.name,s.kind,s.frm,s.map.set i now,s.home,true⟩,l,c.parts,b,c.safe,c.logn⟩ up 1001 1002 903 1004 107 1006 1007,by simp[qco,qeD,kcs,qGw];rw[← hrow];simp[q1],D,_,903,107,by simp,by simp,rfl,rfl,fun _=>⟨rfl,rfl⟩⟩
    ·skip
     simp[qcs,kcs,hk,e0,e1,qaY s hs8,qd0 s hs8,hopi,hi8,PT.row,hca,hmin,q1,q2];refine⟨by omega,by omega,?_⟩;refine qaO [(1000,.sub 1000 0 3 7),(1001,.whole 1004),(1002,.whole 1005),(1003,.whole 1006),(1004,.whole 1007)] (by kernel_rfl) cc (by simp[mtA,kin,PT.row]) (by simp) (by simp[qcs];exact⟨⟨_,_,rfl,rfl,by simp,by simp,rfl,rfl,by simp⟩,⟨rfl,qaa rfl (qaX _)⟩,qaa rfl (qbw _),qaa rfl (qbi _),qaa rfl (qaM _)⟩) (by simp[qcs]) (by simp) ?_;rintro r L' ⟨l,b,i2,h2,rfl,rfl,hq⟩;simp only[qFT,qF2,or_false]at h2;subst h2;refine⟨by simp,by simp[qcs,kcs,qaH,kpt,kin,qaf,DE.row,PT.row,qf3,noL],[(902,101)],⟨by simp[qcs],by simp,by simp,by simp[qcs],by simp[qcs]⟩,?_⟩;simp only[qad];cases yo with
     | false =>
      rw[if_pos (.inl rfl)]at hRx;subst hRx;simp[qcs];exact⟨qco D ⟨c.txg,c.sets,l,c.parts,b,c.safe,c.logn⟩ up 1001 1002 903 1004 101 1006 1007,by simp[qco,qeD,kcs],D,_,903,101,by simp,by simp,rfl,rfl,fun e=>by cases e⟩
     | true =>
      obtain⟨rfl,rfl⟩:=hq rfl;have cc2:=cc2 (hyok rfl);simp[qcs];refine qaO [(1000,.sub 1000 0 3 7),(1001,.whole 1004),(1002,.whole 101),(1003,.whole 1006),(1004,.whole 1007)] (by kernel_rfl) cc2 (by simp[mtA,kin,PT.row]) (by simp) (by simp[qcs];exact⟨⟨_,_,rfl,rfl,by simp,by simp,rfl,rfl,by simp⟩,qaa rfl (qaX _),qaa rfl (qbw _),qaa rfl (qbi _),qaa rfl (qaM _)⟩) (by simp[qcs]) (by simp) ?_;rintro r L' ⟨l,b,i2,h2,rfl,rfl,hq⟩;simp only[qFT,qF2,or_false]at h2;subst h2;refine⟨by simp,by simp[qcs,kcs,qaH,kpt,kin,qaf,DE.row,PT.row,qf3,noL],[(902,107)],⟨by simp[qcs],by simp,by simp,by simp[qcs],by simp[qcs]⟩,?_⟩;simp only[qad];cases zo with
      | false =>
       rw[if_pos (.inr rfl)]at hRx;subst hRx;simp[qcs];exact⟨qco D ⟨c.txg,c.sets,l,c.parts,b,c.safe,c.logn⟩ up 1001 1002 903 1004 107 1006 1007,by simp[qco,qeD,kcs],D,_,903,107,by simp,by simp,rfl,rfl,fun e=>by cases e⟩
      | true =>
       obtain⟨rfl,rfl⟩:=hq rfl;rw[if_neg (by simp)]at hRx;subst hRx;simp[qcs,kcs,hk,e0,e1,qaY s hs8,qd0 s hs8,hopi,hi8,PT.row,hca,hmin,BO.row];have hrow:=qkN s hs8 hi8 now;exact⟨by omega,by omega,qco D ⟨c.txg,c.sets.set k ⟨s.name,s.kind,s.frm,s.map.set i now,s.home,true⟩,l,c.parts,b,c.safe,c.logn⟩ up 1001 1002 903 1004 107 1006 1007,by simp[qco,qeD,kcs,qGw];rw[← hrow],D,_,903,107,by simp,by simp,rfl,rfl,fun _=>⟨rfl,rfl⟩⟩
 refine key.can ?_;rintro r L' ⟨d',c',i3,i5,h3,h5,rfl,rfl,hq⟩;refine⟨[(1000,1000),(1001,1001),(1002,1002),(i3,903),(1004,1004),(i5,905),(1006,1006),(1007,1007)],?_,?_,?_,?_,d',c',903,905,by simp,by simp,by simp,?_,hq⟩
 all_goals
  simp only[qFT,qF2,or_false]at h3 h5;rcases h3 with rfl | rfl | rfl <;> rcases h5 with rfl | rfl | rfl
 all_goals simp[qco,qeD,qah]
theorem qvh {d:DK} {c:CO} (h:CoT c) (hm:CoM c) (k i:Nat) (text:List UInt8):CoT (qcO d c k i text).2.1:=by
 unfold qcO;split
 ·exact h
 rename_i s hs;have hs8:=h.m8 s (qGk hs);have hsn:=h.nm s (qGk hs);have hG:∀ (x:DK) (old now:PT),CoT (qfP d x c k i s old now).2.1:=fun x old now=>by
  unfold qfP;simp only;split
  ·exact h
  ·have h1:=qd7 true (qhh now) (c.ddt,c.dirty,true);have h2:=qd7 false (qhh old) ((qbJ true (qhh now) (c.ddt,c.dirty,true)).1,(qbJ true (qhh now) (c.ddt,c.dirty,true)).2.1,true);have h3:=hm.ddt;have h4:=hm.sets;simp only[qhh,qEN,qFJ]at h1 h2;refine⟨by simp;omega,?_,h.parts,h.safe,fun x hx=>?_,fun x hx=>?_⟩
   ·simp only[qhh];omega
   ·rcases qHl hx with hx | rfl
    ·exact h.m8 x hx
    ·simpa using hs8
   ·rcases qHl hx with hx | rfl
    ·exact h.nm x hx
    ·exact hsn
 simp only;split
 ·exact hG _ _ _
 split
 ·exact h
 split
 ·exact h
 split
 ·exact h
 ·exact hG _ _ _
def qjf (l:List (List UInt8)) (left:Int):Int:=if left-l.length<0 then -1 else qml l (left-l.length)
theorem qh3 (l:List (List UInt8)) {left:Int} (h:0≤left):qjf l left≤left∧-1≤qjf l left∧(0≤qjf l left→(l.length:Int)≤left∧∀ t∈l,(t.length:Int)≤left):=by
 unfold qjf;split
 ·exact⟨by omega,by omega,fun h'=>by omega⟩
 ·obtain⟨h1,h2,h3⟩:=qpW l (left-l.length) (by omega);exact⟨by omega,h2,fun h'=>⟨by omega,fun t ht=>by have:=h3 h' t ht;omega⟩⟩
theorem qt4 (l:List (List UInt8)) (left:Int) (hl:l.length≤maxLen) (hm:∀ t∈l,t.length≤maxLen) (h0:0≤left∧left≤1048576):CV prog 70 [.lst 1 (l.map qae),.int .i64 left] (.int .i64 (qjf l left)):=by
 obtain⟨R,hR⟩:∃ R,qjf l left=R:=⟨_,rfl⟩;rw[hR];unfold qjf at hR;have hml:maxLen=9223372036854775807:=rfl;have e0:=qak (left-(l.length:Int)) (by omega) (by omega);refine cvx func70 [] ntmps70 rfl rfl rfl ?_ (hca:=by simp[qae]);by_cases hn:left-(l.length:Int)<0
 ·rw[if_pos hn]at hR;subst hR;simp[e0,hn,show left<(l.length:Int) by omega]
 ·rw[if_neg hn]at hR;simp[e0,hn,show ¬ left<(l.length:Int) by omega];refine qaQ (X:=Nat×Int) [0,1,5] [] (fun x=>[(5,.int .i64 x.1),(1,.int .i64 x.2)]) (fun _=>[]) (fun x=>l.length-x.1) (fun x=>x.1≤l.length∧0≤x.2∧x.2≤1048576∧qml (l.drop x.1) x.2=R) (0,left-l.length) (by simp[hR];omega) ?_;rintro⟨i,k⟩ ⟨hi,hk0,hk,hd⟩;simp only at hi hk0 hk hd;cases hr:l.drop i with
  | nil =>
   have:=qa0 hr;rw[hr]at hd;have hie:i=l.length:=by omega
   simp[qml]at hd;simp[hie,hd]
  | cons t r =>
   obtain⟨h1,f0,f1,h3⟩:=qa1 hr;rw[hr,qml]at hd;have:=hm t (qGk f1);have e2:=qak ((i:Int)+1) (by omega) (by omega);have e3:=qak (k-(t.length:Int)) (by omega) (by omega);have h1':(i:Int)<l.length:=by omega
   by_cases hq:k-(t.length:Int)<0
   ·rw[if_pos hq]at hd;simp[h1',h1,f0,f1,e3,qae,hq,show k<(t.length:Int) by omega,hd]
   ·rw[if_neg hq]at hd;simp[h1',h1,f0,f1,e2,e3,qae,hq,show ¬ k<(t.length:Int) by omega];exact nx (i+1,k-t.length) [] ⟨by simp only;omega,by simp only;omega,by simp only;omega,by simp only[h3];exact hd⟩ (by simp only;omega) (h4:=by simp[e2,e3])
theorem qsm (x:LT) (k:Int) (hx:x.lx.length≤maxLen) (h0:0≤k∧k≤1048576):CV prog 71 [.agg x.row,.int .i64 k] (.int .i64 (qml [x.lx] k)):=by
 have hml:maxLen=9223372036854775807:=rfl;have e3:=qak (k-(x.lx.length:Int)) (by omega) (by omega);refine cvx func71 [] ntmps71 rfl rfl rfl ?_ (hca:=by simp[LT.row]);simp only[qml];by_cases hq:k-(x.lx.length:Int)<0
 ·rw[if_pos hq];simp[LT.row,e3,hq,show k<(x.lx.length:Int) by omega]
 ·rw[if_neg hq];simp[LT.row,e3,hq,show ¬ k<(x.lx.length:Int) by omega]
theorem qvq (l:List LT) (left:Int) (hl:l.length≤maxLen) (hm:∀ t∈l,t.lx.length≤maxLen) (h0:0≤left∧left≤1048576):CV prog 29 [.lst 3 (l.map LT.row),.int .i64 left] (.int .i64 (qjf (l.map LT.lx) left)):=by
 obtain⟨R,hR⟩:∃ R,qjf (l.map LT.lx) left=R:=⟨_,rfl⟩;rw[hR];unfold qjf at hR;rw[qFx]at hR;have hml:maxLen=9223372036854775807:=rfl;have e0:=qak (left-(l.length:Int)) (by omega) (by omega);refine cvx func29 [] ntmps29 rfl rfl rfl ?_ (hca:=by simp[LT.row]);by_cases hn:left-(l.length:Int)<0
 ·rw[if_pos hn]at hR;subst hR;simp[e0,hn,show left<(l.length:Int) by omega]
 ·rw[if_neg hn]at hR;simp[e0,hn,show ¬ left<(l.length:Int) by omega];refine qaQ (X:=Nat×Int) [0,1,5] [] (fun x=>[(5,.int .i64 x.1),(1,.int .i64 x.2)]) (fun _=>[]) (fun x=>l.length-x.1) (fun x=>x.1≤l.length∧0≤x.2∧x.2≤1048576∧qml ((l.drop x.1).map LT.lx) x.2=R) (0,left-l.length) (by simp[hR];omega) ?_;rintro⟨i,k⟩ ⟨hi,hk0,hk,hd⟩;simp only at hi hk0 hk hd;cases hr:l.drop i with
  | nil =>
   have:=qa0 hr;rw[hr]at hd;have hie:i=l.length:=by omega
   simp[qml]at hd;simp[hie,hd]
  | cons t r =>
   obtain⟨h1,f0,f1,h3⟩:=qa1 hr;rw[hr,qEV,qml]at hd;have htm:=hm t (qGk f1);have e2:=qak ((i:Int)+1) (by omega) (by omega);have c1:=qsm t k htm ⟨hk0,hk⟩;have h1':(i:Int)<l.length:=by omega
   simp only[LT.row,qml]at c1;simp[h1',h1,f0,f1,LT.row];refine c1.call ?_;by_cases hq:k-(t.lx.length:Int)<0
   ·rw[if_pos hq]at hd;subst hd;simp[hq]
   ·rw[if_neg hq]at hd;simp[hq,e2];exact nx (i+1,k-t.lx.length) [] ⟨by simp only;omega,by simp only;omega,by simp only;omega,by simp only[← qGr,h3];exact hd⟩ (by simp only;omega) (h4:=by simp[e2])
def qpu (d:DK) (left:Int):Int:=if qjf d.s0 left<0 then -1 else qjf d.s1 (qjf d.s0 left)
def DkG (d:DK):Prop:=d.s0.length≤maxLen∧d.s1.length≤maxLen∧d.late.length≤maxLen∧(∀ t∈d.s0,t.length≤maxLen)∧(∀ t∈d.s1,t.length≤maxLen)∧(∀ t∈d.late,t.lx.length≤maxLen)
theorem qB2 (d:DK) (left:Int) (hg:DkG d) (h0:0≤left∧left≤1048576):CV prog 28 [.agg [.lst 1 (d.s0.map qae),.lst 1 (d.s1.map qae)],.int .i64 left] (.int .i64 (qpu d left)):=by
 obtain⟨R,hR⟩:∃ R,qpu d left=R:=⟨_,rfl⟩;rw[hR];unfold qpu at hR;obtain⟨g1,g2,g3,g4,g5,g6⟩:=hg;obtain⟨l1,l2,l3⟩:=qh3 d.s0 h0.1;have c1:=qt4 d.s0 left g1 g4 h0;refine cvx func28 [] ntmps28 rfl rfl rfl ?_ (hca:=by simp[qae]);simp;refine qaQ (X:=Nat×Int) [1,2,5] [(2,2)] (fun x=>[(5,.int .i64 x.1),(1,.int .i64 x.2)]) (fun _=>[]) (fun x=>2-x.1) (fun x=>(x=(0,left))∨(x=(1,qjf d.s0 left)∧0≤qjf d.s0 left)∨(x=(2,R)∧0≤R)) (0,left) (.inl rfl) ?_ (he:=by simp[qah,qae]);rintro x (rfl | ⟨rfl,hz⟩ | ⟨rfl,hz⟩)
 ·simp[qah,qae];refine c1.call ?_;by_cases hq:qjf d.s0 left<0
  ·rw[if_pos hq]at hR;subst hR;simp[hq]
  ·simp[hq];exact nx (1,qjf d.s0 left) [(2,2)] (.inr (.inl ⟨rfl,by omega⟩)) (h4:=by simp[qah,qae])
 ·have c2:=qt4 d.s1 (qjf d.s0 left) g2 g5 ⟨hz,by omega⟩;obtain⟨m1,m2,m3⟩:=qh3 d.s1 hz;rw[if_neg (by omega)]at hR;simp[qah,qae];refine c2.call ?_;rw[hR];by_cases hq:R<0
  ·have:R=-1:=by omega
   subst this;simp
  ·simp[hq];exact nx (2,R) [(2,2)] (.inr (.inr ⟨rfl,by omega⟩)) (h4:=by simp[qah,qae])
 ·simp[qah]
def qt5 (d:DK) (left:Int):Int:=if qpu d left<0 then -1 else qjf (d.late.map LT.lx) (qpu d left)
theorem qpY (d:DK) {left:Int} (h:0≤left):qpu d left≤left∧-1≤qpu d left∧(0≤qpu d left→(d.s0.length:Int)≤left∧(d.s1.length:Int)≤left∧(∀ t∈d.s0,(t.length:Int)≤left)∧∀ t∈d.s1,(t.length:Int)≤left):=by
 obtain⟨h1,h2,h3⟩:=qh3 d.s0 h;unfold qpu;split
 ·exact⟨by omega,by omega,fun h'=>by omega⟩
 ·obtain⟨m1,m2,m3⟩:=qh3 d.s1 (left:=qjf d.s0 left) (by omega);exact⟨by omega,m2,fun h'=>⟨(h3 (by omega)).1,by have:=(m3 h').1;omega,(h3 (by omega)).2,fun t ht=>by have:=(m3 h').2 t ht;omega⟩⟩
theorem qpX (d:DK) {left:Int} (h:0≤left):qt5 d left≤left∧-1≤qt5 d left∧(0≤qt5 d left→(d.s0.length:Int)≤left∧(d.s1.length:Int)≤left∧(d.late.length:Int)≤left∧(∀ t∈d.s0,(t.length:Int)≤left)∧(∀ t∈d.s1,(t.length:Int)≤left)∧∀ t∈d.late,(t.lx.length:Int)≤left):=by
 obtain⟨h1,h2,h3⟩:=qpY d h;unfold qt5;split
 ·exact⟨by omega,by omega,fun h'=>by omega⟩
 ·obtain⟨m1,m2,m3⟩:=qh3 (d.late.map LT.lx) (left:=qpu d left) (by omega);refine⟨by omega,m2,fun h'=>?_⟩;obtain⟨a1,a2,a3,a4⟩:=h3 (by omega);obtain⟨b1,b2⟩:=m3 h';rw[qFx]at b1;exact⟨a1,a2,by omega,a3,a4,fun t ht=>by have:=b2 t.lx (qEW.2 ⟨t,ht,rfl⟩);omega⟩
theorem qB0 (d:DK) (left:Int) (hg:DkG d) (h0:0≤left∧left≤1048576):CV prog 7 [.agg d.row,.int .i64 left] (.int .i64 (qt5 d left)):=by
 obtain⟨R,hR⟩:∃ R,qt5 d left=R:=⟨_,rfl⟩;have hle:=qpX d h0.1;rw[hR]at hle ⊢;unfold qt5 at hR;obtain⟨l1,l2,l3⟩:=qpY d h0.1;have c1:=qB2 d left hg h0;refine cvx func7 [] ntmps7 rfl rfl rfl ?_ (hca:=by simp[DK.row,qae,LT.row]);simp[DK.row];refine c1.call ?_;by_cases hq:qpu d left<0
 ·rw[if_pos hq]at hR;subst hR;simp[hq]
 ·rw[if_neg hq]at hR;have c2:=qvq d.late (qpu d left) hg.2.2.1 hg.2.2.2.2.2 ⟨by omega,by omega⟩;rw[hR]at c2;simp[hq,DK.row];refine c2.call ?_;by_cases hz:R<0
  ·have:R=-1:=by omega
   subst this;simp
  ·simp[hz]
theorem qlV {α:Type} {l cs:List α} {i:Nat} {b:α} (h:l[i]?=some b) (hi:i<cs.length) (hm:∀ j,j<i→cs[j]?=l[j]?):∀ j,j<i+1→(cs.set i b)[j]?=l[j]?:=fun j hj=>by
 by_cases hji:j=i
 ·subst hji;rw[qGc hi,h]
 ·rw[qFj (qEd hji)];exact hm j (by omega)
theorem qoj {α:Type} {l cs:List α} (h:cs.length=l.length) (hm:∀ j,j<l.length→cs[j]?=l[j]?):cs=l:=by
 refine qGV fun q=>?_;by_cases hq:q<l.length
 ·exact hm q hq
 ·rw[qF0 (by omega),qF0 (by omega)]
theorem qt2 (l:List (List UInt8)) (hl:l.length≤2000000):ACall prog 83 [.lst 1 (l.map qae)] [] (fun r L'=>r=.sl 900 0 l.length∧L'=[(900,qaj l)]):=by
 refine acx func83 [] ntmps83 rfl rfl rfl ?_;simp;refine⟨by omega,?_⟩;refine qaQ (X:=Nat×List (List UInt8)) [0,3,4] [(7,900)] (fun x=>[(4,.int .i64 x.1)]) (fun x=>[(900,qaj x.2)]) (fun x=>l.length-x.1)
  (fun x=>x.1≤l.length∧x.2.length=l.length∧∀ j,j<x.1→x.2[j]?=l[j]?) (0,List.replicate l.length []) ⟨by omega,by simp,by omega⟩ ?_ (he:=by simp[qah,qaj,qae])
 rintro⟨i,cs⟩ ⟨hi,hc,hm⟩;simp only at hi hc hm;by_cases h2:i<l.length
 ·obtain⟨b,f1⟩:∃ b,l[i]?=some b:=⟨_,qEv (by omega)⟩;have h2':(i:Int)<l.length:=by omega
  have hil:i<cs.length:=by omega
  have f0:l[i]=b:=(qE1.1 f1).2;have e1:=qak ((i:Int)+1) (by omega) (by omega);simp[h2',h2,hil,f0,f1,qae,qaj,hc];exact nx (i+1,cs.set i b) [(900,900)] ⟨by simp only;omega,by simp[hc],qlV f1 hil hm⟩ (by simp only;omega) (h4:=by simp[qah,e1,qaj,qGw,qae])
 ·have hie:i=l.length:=by omega
  subst hie;have:=qoj hc hm;subst this;simp
theorem qsi (x:LT):CV prog 84 [.agg x.row] (.agg x.row):=by
 refine cvx func84 [] ntmps84 rfl rfl rfl ?_ (hca:=by simp[LT.row]) (hcv:=by simp[LT.row]);simp[LT.row]
theorem qvm (l:List LT) (hl:l.length≤2000000):ACall prog 35 [.lst 3 (l.map LT.row)] [] (fun r L'=>r=.sl 900 0 l.length∧L'=[(900,qbZ l)]):=by
 refine acx func35 [] ntmps35 rfl rfl rfl ?_;simp;refine⟨by omega,?_⟩;refine qaQ (X:=Nat×List LT) [0,3,4] [(7,900)] (fun x=>[(4,.int .i64 x.1)]) (fun x=>[(900,qbZ x.2)]) (fun x=>l.length-x.1)
  (fun x=>x.1≤l.length∧x.2.length=l.length∧∀ j,j<x.1→x.2[j]?=l[j]?) (0,List.replicate l.length ⟨0,0,[]⟩) ⟨by omega,by simp,by omega⟩ ?_ (he:=by simp[qah,qbZ,LT.row])
 rintro⟨i,cs⟩ ⟨hi,hc,hm⟩;simp only at hi hc hm;by_cases h2:i<l.length
 ·obtain⟨b,f1⟩:∃ b,l[i]?=some b:=⟨_,qEv (by omega)⟩;have h2':(i:Int)<l.length:=by omega
  have hil:i<cs.length:=by omega
  have f0:l[i]=b:=(qE1.1 f1).2;have e1:=qak ((i:Int)+1) (by omega) (by omega);have c1:=qsi b;simp only[LT.row]at c1;simp[h2',h2,hil,f0,f1,LT.row,qbZ,hc];refine c1.call ?_;simp[h2',h2,hil,f0,f1,LT.row,qbZ,hc];exact nx (i+1,cs.set i b) [(900,900)] ⟨by simp only;omega,by simp[hc],qlV f1 hil hm⟩ (by simp only;omega) (h4:=by simp[qah,e1,qbZ,qGw,LT.row])
 ·have hie:i=l.length:=by omega
  subst hie;have:=qoj hc hm;subst this;simp
theorem qBZ (d:DK) (h:DkT d):ACall prog 34 [.agg [.lst 1 (d.s0.map qae),.lst 1 (d.s1.map qae)]] [] (fun r L'=>r=.agg [.sl 901 0 d.s0.length,.sl 902 0 d.s1.length]∧L'=[(901,qaj d.s0),(902,qaj d.s1)]):=by
 have l0:=h.l0;have l1:=h.l1;have c1:=qt2 d.s0 (by omega);have c2:=qt2 d.s1 (by omega);refine acx func34 [] ntmps34 rfl rfl rfl ?_;simp;refine qbl (X:=Nat) [1,2,3,4] [(1,1),(2,2),(3,3)] (fun i=>[(4,.int .i64 i)]) (fun i=>(1,⟨2,[[.lst 1 (d.s0.map qae),.lst 1 (d.s1.map qae)]]⟩)::(2,⟨2,[[.nils,.nils]]⟩)::(3,⟨2,[[if i=0 then .nils else .sl 901 0 d.s0.length,if i=2 then .sl 902 0 d.s1.length else .nils]]⟩)::(if i=0 then [] else if i=1 then [(901,qaj d.s0)] else [(901,qaj d.s0),(902,qaj d.s1)])) (fun i=>2-i) (fun i=>i=0∨i=1∨i=2) 0 (.inl rfl) ?_ (he:=by simp[qah])
 rintro i (rfl | rfl | rfl)
 ·simp[qah];refine qac [] (by kernel_rfl) c1 (by simp[qae]) (by simp) trivial (by simp) (by simp) ?_;rintro r L' ⟨rfl,rfl⟩;refine⟨[(900,901)],⟨by simp,by simp,by simp,by simp,by simp⟩,?_⟩;simp only[qad];simp;exact nx 1 [(1,1),(2,2),(3,3),(901,901)] (.inr (.inl rfl)) (h4:=by simp[qah])
 ·simp[qah];refine qac [] (by kernel_rfl) c2 (by simp[qae]) (by simp) trivial (by simp) (by simp) ?_;rintro r L' ⟨rfl,rfl⟩;refine⟨[(900,902)],⟨by simp,by simp,by simp,by simp,by simp⟩,?_⟩;simp only[qad];simp;exact nx 2 [(1,1),(2,2),(3,3),(901,901),(902,902)] (.inr (.inr rfl)) (h4:=by simp[qah])
 ·simp[qah]
theorem qyH (d:DK) (h:DkT d):ACall prog 9 [.agg d.row] [] (fun r L'=>r=.agg (qcq d 901 902 903)∧L'=[(901,qaj d.s0),(902,qaj d.s1),(903,qbZ d.late)]):=by
 have c1:=qBZ d h;have c2:=qvm d.late (by have:=h.l2;omega);refine acx func9 [] ntmps9 rfl rfl rfl ?_;simp[DK.row];refine qac [] (by kernel_rfl) c1 (by simp[qae]) (by simp) trivial (by simp) (by simp) ?_;rintro r L' ⟨rfl,rfl⟩;refine⟨[(901,901),(902,902)],⟨by simp,by simp,by simp,by simp,by simp⟩,?_⟩;simp only[qad];simp;refine qac [] (by kernel_rfl) c2 (by simp[LT.row]) (by simp) trivial (by simp) (by simp) ?_;rintro r L' ⟨rfl,rfl⟩;refine⟨[(900,903)],⟨by simp,by simp,by simp,by simp,by simp⟩,?_⟩;simp only[qad];simp[qcq]
theorem quF (l:List (List UInt8)) (hl:l.length≤2000000):CV prog 96 [.lst 1 (l.map qae),.lst 1 (l.map qae)] (.bool true):=by
 refine cvx func96 [] ntmps96 rfl rfl rfl ?_ (hca:=by simp[qae]);simp;refine qaQ (X:=Nat) [0,1,5] [] (fun x=>[(5,.int .i64 x)]) (fun x=>[]) (fun x=>l.length-x) (fun x=>x≤l.length) 0 (by simp) ?_;rintro i hi;by_cases h2:i<l.length
 ·obtain⟨b,f1⟩:∃ b,l[i]?=some b:=⟨_,qEv (by omega)⟩;have h2':(i:Int)<l.length:=by omega
  have f0:l[i]=b:=(qE1.1 f1).2;have e1:=qak ((i:Int)+1) (by omega) (by omega);simp[h2',h2,f0,f1,qae];exact nx (i+1) [] (by omega) (h4:=by simp[e1])
 ·have:i=l.length:=by omega
  subst this;simp
theorem qtr (x:LT):CV prog 97 [.agg x.row,.agg x.row] (.bool true):=by
 refine cvx func97 [] ntmps97 rfl rfl rfl ?_ (hca:=by simp[LT.row]);simp[LT.row]
theorem qxn (l:List LT) (hl:l.length≤2000000):CV prog 40 [.lst 3 (l.map LT.row),.lst 3 (l.map LT.row)] (.bool true):=by
 refine cvx func40 [] ntmps40 rfl rfl rfl ?_ (hca:=by simp[LT.row]);simp;refine qaQ (X:=Nat) [0,1,5] [] (fun x=>[(5,.int .i64 x)]) (fun x=>[]) (fun x=>l.length-x) (fun x=>x≤l.length) 0 (by simp) ?_;rintro i hi;by_cases h2:i<l.length
 ·obtain⟨b,f1⟩:∃ b,l[i]?=some b:=⟨_,qEv (by omega)⟩;have h2':(i:Int)<l.length:=by omega
  have f0:l[i]=b:=(qE1.1 f1).2;have e1:=qak ((i:Int)+1) (by omega) (by omega);have c1:=qtr b;simp only[LT.row]at c1;simp[h2',h2,f0,f1,LT.row];refine c1.call ?_;simp;exact nx (i+1) [] (by omega) (h4:=by simp[e1])
 ·have:i=l.length:=by omega
  subst this;simp
theorem qC5 (d:DK) (h:DkT d):CV prog 39 [.agg [.lst 1 (d.s0.map qae),.lst 1 (d.s1.map qae)],.agg [.lst 1 (d.s0.map qae),.lst 1 (d.s1.map qae)]] (.bool true):=by
 have l0:=h.l0;have l1:=h.l1;have c1:=quF d.s0 (by omega);have c2:=quF d.s1 (by omega);refine cvx func39 [(4,[zI 0,zI 1,zJ 2 [2] [],zJ 3 [] [2],zJ 4 [] [2],zJ 5 [3] [2],zI 6,zI 7])] ntmps39 rfl rfl rfl ?_ (hca:=by simp[qae]);simp;refine qaQ (X:=Nat) [2,3,5] [(2,2),(3,3)] (fun x=>[(5,.int .i64 x)]) (fun x=>[]) (fun x=>2-x) (fun x=>x=0∨x=1∨x=2) 0 (.inl rfl) ?_ (he:=by simp[qah,qae]);rintro i (rfl | rfl | rfl)
 ·simp[qah,qae];refine c1.call ?_;simp;exact nx 1 [(2,2),(3,3)] (.inr (.inl rfl)) (h4:=by simp[qah,qae])
 ·simp[qah,qae];refine c2.call ?_;simp;exact nx 2 [(2,2),(3,3)] (.inr (.inr rfl)) (h4:=by simp[qah,qae])
 ·simp[qah]
theorem qAs (d:DK) (h:DkT d):CV prog 11 [.agg d.row,.agg d.row] (.bool true):=by
 have c1:=qC5 d h;have c2:=qxn d.late (by have:=h.l2;omega);refine cvx func11 [] ntmps11 rfl rfl rfl ?_ (hca:=by simp[DK.row,qae,LT.row]);simp[DK.row];refine c1.call ?_;simp;refine c2.call ?_;simp
theorem qC3 (c:CO) (h:CoT c):CV prog 55 [.agg c.row,.agg c.row] (.bool true):=by
 refine qhu ?_ (hca:=by simp[CO.row,qa5,DE.row,PT.row,qaf]);refine acx func55 [] ntmps55 rfl rfl rfl ?_;simp[CO.row];refine qar (by kernel_rfl) (qAu c.sets h.sets h.m8) (by simp[qa5]) (by simp) ?_;simp;refine qar (by kernel_rfl) (qxp c.ddt h.ddt) (by simp[DE.row]) (by simp) ?_;simp;refine qar (by kernel_rfl) (qxm c.parts h.parts) (by simp[PT.row]) (by simp) ?_;simp;refine qar (by kernel_rfl) (qxo c.safe h.safe) (by simp[qaf]) (by simp) ?_;simp
theorem qC1 (p:PO) (hd:DkT p.d) (hc:CoT p.c):CV prog 21 [.agg p.row,.agg p.row] (.bool true):=by
 have c1:=qAs p.d hd;have c2:=qC3 p.c hc;simp only[DK.row,CO.row]at c1 c2;refine cvx func21 [] ntmps21 rfl rfl rfl ?_ (hca:=by simp[PO.row,DK.row,CO.row,qae,LT.row,qa5,DE.row,PT.row,qaf]);simp[PO.row,DK.row,CO.row];refine c1.call ?_;simp[PO.row,DK.row,CO.row];refine c2.call ?_;simp
def mkG {α:Type} (f:Nat→α) (w k n:Nat):List α:=(List.range n).map fun i=>f (k+w * i)
theorem qdc {α:Type} (f:Nat→α) (w k n:Nat):(mkG f w k n).length=n:=by simp[mkG]
theorem qjz {α:Type} (f:Nat→α) {w k n i:Nat} (h:i<n):(mkG f w k n)[i]?=some (f (k+w * i)):=by simp[mkG,h]
theorem qis {α:Type} {f:Nat→α} {w k n:Nat} {cs:List α} (hc:cs.length=n) (hm:∀ j,j<n→cs[j]?=some (f (k+w * j))):cs=mkG f w k n:=by
 refine qGV fun q=>?_;by_cases hq:q<n
 ·rw[hm q hq,qjz f hq]
 ·rw[qF0 (by omega),qF0 (by rw[qdc];omega)]
theorem qf4 {α:Type} {f:Nat→α} {w k i:Nat} {cs:List α} {b:α} (hb:b=f (k+w * i)) (hi:i<cs.length) (hm:∀ j,j<i→cs[j]?=some (f (k+w * j))):∀ j,j<i+1→(cs.set i b)[j]?=some (f (k+w * j)):=fun j hj=>by
 by_cases hji:j=i
 ·subst hji;rw[qGc hi,hb]
 ·rw[qFj (qEd hji)];exact hm j (by omega)
def qdw (k:Nat):List UInt8:=mtB k
def qoW (k:Nat):LT:=⟨k,((k+1:Nat):Int),mtB (k+2)⟩
def qpz (k:Nat):DE:=⟨k,((k+1:Nat):Int),((k+2:Nat):Int)⟩
def qpy (k:Nat):PT:=⟨k,((k+1:Nat):Int),((k+2:Nat):Int)⟩
def qoX (k:Nat):Int:=k
theorem qn5 (l:List (List UInt8)) (n k:Nat) (hn:l.length=n) (hl:n≤2000000) (hk:k≤500000000) :
  ACall prog 113 [.sl 1000 0 n,.int .i64 k] [(1000,qaj l)] (fun r L'=>r=.int .i64 ((k+1 * n:Nat):Int)∧L'=[(1000,qaj (mkG qdw 1 k n))]):=by
 refine acx func113 [] ntmps113 rfl rfl rfl ?_;simp;refine qaQ (X:=Nat×List (List UInt8)) [0,1,5] [(1000,1000)] (fun x=>[(5,.int .i64 x.1),(1,.int .i64 ((k+1 * x.1:Nat):Int))]) (fun x=>[(1000,qaj x.2)]) (fun x=>n-x.1)
  (fun x=>x.1≤n∧x.2.length=n∧∀ j,j<x.1→x.2[j]?=some (qdw (k+1 * j))) (0,l) ⟨by omega,hn,by omega⟩ ?_ (he:=by simp[qah])
 rintro⟨i,cs⟩ ⟨hi,hc,hm⟩;simp only at hi hc hm;by_cases h2:i<n
 ·obtain⟨b,f1⟩:∃ b,cs[i]?=some b:=⟨_,qEv (by omega)⟩;have h2':(i:Int)<n:=by omega
  have hil:i<cs.length:=by omega
  have f0:cs[i]=b:=(qE1.1 f1).2;have e1:=qak ((i:Int)+1) (by omega) (by omega);have e2:=qak ((k:Int)+(i:Int)+1) (by omega) (by omega);simp[h2',h2,hil,f0,f1,hc,qaj,qae,e1,e2];refine(qc9 _ (k+1 * i) (by omega) (by omega)).call ?_;simp[h2',h2,hil,f0,f1,hc,qaj,qae,e1,e2];refine nx (i+1,cs.set i (qdw (k+1 * i))) [(1000,1000)] ⟨by simp only;omega,by simp[hc],fun j hj=>by simpa using qf4 (f:=qdw) (w:=1) (k:=k) rfl hil hm j hj⟩ (by simp only;omega) (h4:=?_);simp[qah,e1,e2,qaj,qGw,qae,qdw]
  first | done | omega | (constructor <;> first | omega | (congr 1 <;> omega)) 
 ·have hie:i=n:=by omega
  subst hie;have:=qis hc hm;subst this;simp
theorem qwz (l:List (LT)) (n k:Nat) (hn:l.length=n) (hl:n≤2000000) (hk:k≤500000000) :
  ACall prog 49 [.sl 1000 0 n,.int .i64 k] [(1000,qbZ l)] (fun r L'=>r=.int .i64 ((k+3 * n:Nat):Int)∧L'=[(1000,qbZ (mkG qoW 3 k n))]):=by
 refine acx func49 [] ntmps49 rfl rfl rfl ?_;simp;refine qaQ (X:=Nat×List (LT)) [0,1,5] [(1000,1000)] (fun x=>[(5,.int .i64 x.1),(1,.int .i64 ((k+3 * x.1:Nat):Int))]) (fun x=>[(1000,qbZ x.2)]) (fun x=>n-x.1)
  (fun x=>x.1≤n∧x.2.length=n∧∀ j,j<x.1→x.2[j]?=some (qoW (k+3 * j))) (0,l) ⟨by omega,hn,by omega⟩ ?_ (he:=by simp[qah])
 rintro⟨i,cs⟩ ⟨hi,hc,hm⟩;simp only at hi hc hm;by_cases h2:i<n
 ·obtain⟨b,f1⟩:∃ b,cs[i]?=some b:=⟨_,qEv (by omega)⟩;have h2':(i:Int)<n:=by omega
  have hil:i<cs.length:=by omega
  have f0:cs[i]=b:=(qE1.1 f1).2;have e1:=qak ((i:Int)+1) (by omega) (by omega);have e2:=qak ((k:Int)+3 * (i:Int)+1) (by omega) (by omega);have e3:=qak ((k:Int)+3 * (i:Int)+1+1) (by omega) (by omega);have e4:=qak ((k:Int)+3 * (i:Int)+1+1+1) (by omega) (by omega);simp[h2',h2,hil,f0,f1,hc,qbZ,LT.row,e1,e2,e3,e4];refine(qc9 _ (k+3 * i+2) (by omega) (by omega)).call ?_;simp[h2',h2,hil,f0,f1,hc,qbZ,LT.row,e1,e2,e3,e4];refine nx (i+1,cs.set i (qoW (k+3 * i))) [(1000,1000)] ⟨by simp only;omega,by simp[hc],qf4 rfl hil hm⟩ (by simp only;omega) (h4:=?_);simp[qah,e1,e2,e3,e4,qbZ,qGw,LT.row,qoW]
  first | done | omega | (constructor <;> first | omega | (congr 1 <;> omega)) 
 ·have hie:i=n:=by omega
  subst hie;have:=qis hc hm;subst this;simp
theorem qwB (l:List (DE)) (n k:Nat) (hn:l.length=n) (hl:n≤2000000) (hk:k≤500000000) :
  ACall prog 124 [.sl 1000 0 n,.int .i64 k] [(1000,qaH l)] (fun r L'=>r=.int .i64 ((k+3 * n:Nat):Int)∧L'=[(1000,qaH (mkG qpz 3 k n))]):=by
 refine acx func124 [] ntmps124 rfl rfl rfl ?_;simp;refine qaQ (X:=Nat×List (DE)) [0,1,5] [(1000,1000)] (fun x=>[(5,.int .i64 x.1),(1,.int .i64 ((k+3 * x.1:Nat):Int))]) (fun x=>[(1000,qaH x.2)]) (fun x=>n-x.1)
  (fun x=>x.1≤n∧x.2.length=n∧∀ j,j<x.1→x.2[j]?=some (qpz (k+3 * j))) (0,l) ⟨by omega,hn,by omega⟩ ?_ (he:=by simp[qah])
 rintro⟨i,cs⟩ ⟨hi,hc,hm⟩;simp only at hi hc hm;by_cases h2:i<n
 ·obtain⟨b,f1⟩:∃ b,cs[i]?=some b:=⟨_,qEv (by omega)⟩;have h2':(i:Int)<n:=by omega
  have hil:i<cs.length:=by omega
  have f0:cs[i]=b:=(qE1.1 f1).2;have e1:=qak ((i:Int)+1) (by omega) (by omega);have e2:=qak ((k:Int)+3 * (i:Int)+1) (by omega) (by omega);have e3:=qak ((k:Int)+3 * (i:Int)+1+1) (by omega) (by omega);have e4:=qak ((k:Int)+3 * (i:Int)+1+1+1) (by omega) (by omega);simp[h2',h2,hil,f0,f1,hc,qaH,DE.row,e1,e2,e3,e4];refine nx (i+1,cs.set i (qpz (k+3 * i))) [(1000,1000)] ⟨by simp only;omega,by simp[hc],qf4 rfl hil hm⟩ (by simp only;omega) (h4:=?_);simp[qah,e1,e2,e3,e4,qaH,qGw,DE.row,qpz]
  first | done | omega | (constructor <;> first | omega | (congr 1 <;> omega)) 
 ·have hie:i=n:=by omega
  subst hie;have:=qis hc hm;subst this;simp
theorem qwx (l:List (PT)) (n k:Nat) (hn:l.length=n) (hl:n≤2000000) (hk:k≤500000000) :
  ACall prog 125 [.sl 1000 0 n,.int .i64 k] [(1000,kpt l)] (fun r L'=>r=.int .i64 ((k+3 * n:Nat):Int)∧L'=[(1000,kpt (mkG qpy 3 k n))]):=by
 refine acx func125 [] ntmps125 rfl rfl rfl ?_;simp;refine qaQ (X:=Nat×List (PT)) [0,1,5] [(1000,1000)] (fun x=>[(5,.int .i64 x.1),(1,.int .i64 ((k+3 * x.1:Nat):Int))]) (fun x=>[(1000,kpt x.2)]) (fun x=>n-x.1)
  (fun x=>x.1≤n∧x.2.length=n∧∀ j,j<x.1→x.2[j]?=some (qpy (k+3 * j))) (0,l) ⟨by omega,hn,by omega⟩ ?_ (he:=by simp[qah])
 rintro⟨i,cs⟩ ⟨hi,hc,hm⟩;simp only at hi hc hm;by_cases h2:i<n
 ·obtain⟨b,f1⟩:∃ b,cs[i]?=some b:=⟨_,qEv (by omega)⟩;have h2':(i:Int)<n:=by omega
  have hil:i<cs.length:=by omega
  have f0:cs[i]=b:=(qE1.1 f1).2;have e1:=qak ((i:Int)+1) (by omega) (by omega);have e2:=qak ((k:Int)+3 * (i:Int)+1) (by omega) (by omega);have e3:=qak ((k:Int)+3 * (i:Int)+1+1) (by omega) (by omega);have e4:=qak ((k:Int)+3 * (i:Int)+1+1+1) (by omega) (by omega);simp[h2',h2,hil,f0,f1,hc,kpt,PT.row,e1,e2,e3,e4];refine nx (i+1,cs.set i (qpy (k+3 * i))) [(1000,1000)] ⟨by simp only;omega,by simp[hc],qf4 rfl hil hm⟩ (by simp only;omega) (h4:=?_);simp[qah,e1,e2,e3,e4,kpt,qGw,PT.row,qpy]
  first | done | omega | (constructor <;> first | omega | (congr 1 <;> omega)) 
 ·have hie:i=n:=by omega
  subst hie;have:=qis hc hm;subst this;simp
theorem qwA (l:List (Int)) (n k:Nat) (hn:l.length=n) (hl:n≤2000000) (hk:k≤500000000) :
  ACall prog 17 [.sl 1000 0 n,.int .i64 k] [(1000,kin l)] (fun r L'=>r=.int .i64 ((k+1 * n:Nat):Int)∧L'=[(1000,kin (mkG qoX 1 k n))]):=by
 refine acx func17 [] ntmps17 rfl rfl rfl ?_;simp;refine qaQ (X:=Nat×List (Int)) [0,1,5] [(1000,1000)] (fun x=>[(5,.int .i64 x.1),(1,.int .i64 ((k+1 * x.1:Nat):Int))]) (fun x=>[(1000,kin x.2)]) (fun x=>n-x.1)
  (fun x=>x.1≤n∧x.2.length=n∧∀ j,j<x.1→x.2[j]?=some (qoX (k+1 * j))) (0,l) ⟨by omega,hn,by omega⟩ ?_ (he:=by simp[qah])
 rintro⟨i,cs⟩ ⟨hi,hc,hm⟩;simp only at hi hc hm;by_cases h2:i<n
 ·obtain⟨b,f1⟩:∃ b,cs[i]?=some b:=⟨_,qEv (by omega)⟩;have h2':(i:Int)<n:=by omega
  have hil:i<cs.length:=by omega
  have f0:cs[i]=b:=(qE1.1 f1).2;have e1:=qak ((i:Int)+1) (by omega) (by omega);have e2:=qak ((k:Int)+(i:Int)+1) (by omega) (by omega);simp[h2',h2,hil,f0,f1,hc,kin,qaf,e1,e2];refine nx (i+1,cs.set i (qoX (k+1 * i))) [(1000,1000)] ⟨by simp only;omega,by simp[hc],fun j hj=>by simpa using qf4 (f:=qoX) (w:=1) (k:=k) rfl hil hm j hj⟩ (by simp only;omega) (h4:=?_);simp[qah,e1,e2,kin,qGw,qaf,qoX]
  first | done | omega | (constructor <;> first | omega | (congr 1 <;> omega)) 
 ·have hie:i=n:=by omega
  subst hie;have:=qis hc hm;subst this;simp
theorem qoh (n k:Nat) (hl:n≤2000000) (hk:k≤500000000):CV prog 115 [.lst 1 ((mkG qdw 1 k n).map qae),.int .i64 k] (.int .i64 ((k+1 * n:Nat):Int)):=by
 have hn:=qdc qdw 1 k n;refine cvx func115 [] ntmps115 rfl rfl rfl ?_ (hca:=by simp[qae]);simp[hn];refine qaQ (X:=Nat) [0,1,5] [] (fun x=>[(5,.int .i64 x),(1,.int .i64 ((k+1 * x:Nat):Int))]) (fun x=>[]) (fun x=>n-x) (fun x=>x≤n) 0 (by omega) ?_;rintro i hi;by_cases h2:i<n
 ·have h2':(i:Int)<n:=by omega
  have f1:=qjz qdw (w:=1) (k:=k) h2;have hil:i<(mkG qdw 1 k n).length:=by omega
  have f0:(mkG qdw 1 k n)[i]=qdw (k+1 * i):=(qE1.1 f1).2;have e1:=qak ((i:Int)+1) (by omega) (by omega);have e2:=qak ((k:Int)+(i:Int)+1) (by omega) (by omega);simp[h2',h2,hil,hn,f0,f1,qae,qdw,e1,e2];refine(qc9 _ (k+1 * i) (by omega) (by omega)).call ?_;simp[h2',h2,hil,hn,f0,f1,qae,qdw,e1,e2];refine nx (i+1) [] (by omega) (h4:=?_);simp[e1,e2]
  first | done | omega | (congr 1 <;> omega)
 ·have:i=n:=by omega
  subst this;simp[hn]
theorem qw4 (n k:Nat) (hl:n≤2000000) (hk:k≤500000000):CV prog 51 [.lst 3 ((mkG qoW 3 k n).map LT.row),.int .i64 k] (.int .i64 ((k+3 * n:Nat):Int)):=by
 have hn:=qdc qoW 3 k n;refine cvx func51 [] ntmps51 rfl rfl rfl ?_ (hca:=by simp[LT.row]);simp[hn];refine qaQ (X:=Nat) [0,1,5] [] (fun x=>[(5,.int .i64 x),(1,.int .i64 ((k+3 * x:Nat):Int))]) (fun x=>[]) (fun x=>n-x) (fun x=>x≤n) 0 (by omega) ?_;rintro i hi;by_cases h2:i<n
 ·have h2':(i:Int)<n:=by omega
  have f1:=qjz qoW (w:=3) (k:=k) h2;have hil:i<(mkG qoW 3 k n).length:=by omega
  have f0:(mkG qoW 3 k n)[i]=qoW (k+3 * i):=(qE1.1 f1).2;have e1:=qak ((i:Int)+1) (by omega) (by omega);have e2:=qak ((k:Int)+3 * (i:Int)+1) (by omega) (by omega);have e3:IntKind.i64.wrap ((k:Int)+3 * (i:Int)+1+1)=(k:Int)+3 * (i:Int)+2:=by rw[qak _ (by omega) (by omega)];omega
  have e4:IntKind.i64.wrap ((k:Int)+3 * (i:Int)+2+1)=(k:Int)+3 * (i:Int)+3:=by rw[qak _ (by omega) (by omega)];omega
  simp[h2',h2,hil,hn,f0,f1,LT.row,qoW,e1,e2,e3,e4];refine(qc9 _ (k+3 * i+2) (by omega) (by omega)).call ?_;simp[h2',h2,hil,hn,f0,f1,LT.row,qoW,e1,e2,e3,e4];refine nx (i+1) [] (by omega) (h4:=?_);simp[e1,e2,e3,e4]
  first | done | omega | (congr 1 <;> omega)
 ·have:i=n:=by omega
  subst this;simp[hn]
theorem qw7 (n k:Nat) (hl:n≤2000000) (hk:k≤500000000):CV prog 127 [.lst 3 ((mkG qpz 3 k n).map DE.row),.int .i64 k] (.int .i64 ((k+3 * n:Nat):Int)):=by
 have hn:=qdc qpz 3 k n;refine cvx func127 [] ntmps127 rfl rfl rfl ?_ (hca:=by simp[DE.row]);simp[hn];refine qaQ (X:=Nat) [0,1,5] [] (fun x=>[(5,.int .i64 x),(1,.int .i64 ((k+3 * x:Nat):Int))]) (fun x=>[]) (fun x=>n-x) (fun x=>x≤n) 0 (by omega) ?_;rintro i hi;by_cases h2:i<n
 ·have h2':(i:Int)<n:=by omega
  have f1:=qjz qpz (w:=3) (k:=k) h2;have hil:i<(mkG qpz 3 k n).length:=by omega
  have f0:(mkG qpz 3 k n)[i]=qpz (k+3 * i):=(qE1.1 f1).2;have e1:=qak ((i:Int)+1) (by omega) (by omega);have e2:=qak ((k:Int)+3 * (i:Int)+1) (by omega) (by omega);have e3:IntKind.i64.wrap ((k:Int)+3 * (i:Int)+1+1)=(k:Int)+3 * (i:Int)+2:=by rw[qak _ (by omega) (by omega)];omega
  have e4:IntKind.i64.wrap ((k:Int)+3 * (i:Int)+2+1)=(k:Int)+3 * (i:Int)+3:=by rw[qak _ (by omega) (by omega)];omega
  simp[h2',h2,hil,hn,f0,f1,DE.row,qpz,e1,e2,e3,e4];refine nx (i+1) [] (by omega) (h4:=?_);simp[e1,e2,e3,e4]
  first | done | omega | (congr 1 <;> omega)
 ·have:i=n:=by omega
  subst this;simp[hn]
theorem qw2 (n k:Nat) (hl:n≤2000000) (hk:k≤500000000):CV prog 128 [.lst 3 ((mkG qpy 3 k n).map PT.row),.int .i64 k] (.int .i64 ((k+3 * n:Nat):Int)):=by
 have hn:=qdc qpy 3 k n;refine cvx func128 [] ntmps128 rfl rfl rfl ?_ (hca:=by simp[PT.row]);simp[hn];refine qaQ (X:=Nat) [0,1,5] [] (fun x=>[(5,.int .i64 x),(1,.int .i64 ((k+3 * x:Nat):Int))]) (fun x=>[]) (fun x=>n-x) (fun x=>x≤n) 0 (by omega) ?_;rintro i hi;by_cases h2:i<n
 ·have h2':(i:Int)<n:=by omega
  have f1:=qjz qpy (w:=3) (k:=k) h2;have hil:i<(mkG qpy 3 k n).length:=by omega
  have f0:(mkG qpy 3 k n)[i]=qpy (k+3 * i):=(qE1.1 f1).2;have e1:=qak ((i:Int)+1) (by omega) (by omega);have e2:=qak ((k:Int)+3 * (i:Int)+1) (by omega) (by omega);have e3:IntKind.i64.wrap ((k:Int)+3 * (i:Int)+1+1)=(k:Int)+3 * (i:Int)+2:=by rw[qak _ (by omega) (by omega)];omega
  have e4:IntKind.i64.wrap ((k:Int)+3 * (i:Int)+2+1)=(k:Int)+3 * (i:Int)+3:=by rw[qak _ (by omega) (by omega)];omega
  simp[h2',h2,hil,hn,f0,f1,PT.row,qpy,e1,e2,e3,e4];refine nx (i+1) [] (by omega) (h4:=?_);simp[e1,e2,e3,e4]
  first | done | omega | (congr 1 <;> omega)
 ·have:i=n:=by omega
  subst this;simp[hn]
theorem qw5 (n k:Nat) (hl:n≤2000000) (hk:k≤500000000):CV prog 129 [.lst 1 ((mkG qoX 1 k n).map qaf),.int .i64 k] (.int .i64 ((k+1 * n:Nat):Int)):=by
 have hn:=qdc qoX 1 k n;refine cvx func129 [] ntmps129 rfl rfl rfl ?_ (hca:=by simp[qaf]);simp[hn];refine qaQ (X:=Nat) [0,1,5] [] (fun x=>[(5,.int .i64 x),(1,.int .i64 ((k+1 * x:Nat):Int))]) (fun x=>[]) (fun x=>n-x) (fun x=>x≤n) 0 (by omega) ?_;rintro i hi;by_cases h2:i<n
 ·have h2':(i:Int)<n:=by omega
  have f1:=qjz qoX (w:=1) (k:=k) h2;have hil:i<(mkG qoX 1 k n).length:=by omega
  have f0:(mkG qoX 1 k n)[i]=qoX (k+1 * i):=(qE1.1 f1).2;have e1:=qak ((i:Int)+1) (by omega) (by omega);have e2:=qak ((k:Int)+(i:Int)+1) (by omega) (by omega);simp[h2',h2,hil,hn,f0,f1,qaf,qoX,e1,e2];refine nx (i+1) [] (by omega) (h4:=?_);simp[e1,e2]
  first | done | omega | (congr 1 <;> omega)
 ·have:i=n:=by omega
  subst this;simp[hn]
theorem qsZ {α:Type} {F:Nat→α} {i:Nat} {cs:List α} {b:α} (hb:b=F i) (hi:i<cs.length) (hm:∀ j,j<i→cs[j]?=some (F j)):∀ j,j<i+1→(cs.set i b)[j]?=some (F j):=fun j hj=>by
 by_cases hji:j=i
 ·subst hji;rw[qGc hi,hb]
 ·rw[qFj (qEd hji)];exact hm j (by omega)
def qsa (k:Nat) (m:List PT):CS:=⟨mtB k,((k+1:Nat):Int),mtB (k+2),m,⟨((k+3:Nat):Int),((k+4:Nat):Int),((k+5:Nat):Int)⟩,(((k+6:Nat):Int) % 3 == 0)⟩
def qwv (l:List CS) (i:Nat):List PT:=(l[i]?).elim [] CS.map
def qlC (l:List CS) (k:Nat):List CS:=(List.range l.length).map fun i=>qsa (k+7 * i) (qwv l i)
theorem qit (l:List CS) (k:Nat):(qlC l k).length=l.length:=by simp[qlC]
theorem qn4 {l:List CS} {k i:Nat} (h:i<l.length):(qlC l k)[i]?=some (qsa (k+7 * i) (qwv l i)):=by simp[qlC,h]
theorem qwC (l:List CS) (n k:Nat) (hn:l.length=n) (hl:n≤2000000) (hk:k≤500000000) (h8:∀ s∈l,s.map.length=8) :
  ACall prog 123 [.sl 1000 0 n,.int .i64 k] [(1000,kcs l)] (fun r L'=>r=.int .i64 ((k+7 * n:Nat):Int)∧L'=[(1000,kcs (qlC l k))]):=by
 refine acx func123 [] ntmps123 rfl rfl rfl ?_;simp;refine qaQ (X:=Nat×List CS) [0,1,5] [(1000,1000)] (fun x=>[(5,.int .i64 x.1),(1,.int .i64 ((k+7 * x.1:Nat):Int))]) (fun x=>[(1000,kcs x.2)]) (fun x=>n-x.1)
  (fun x=>x.1≤n∧x.2.length=n∧(∀ j,j<x.1→x.2[j]?=some (qsa (k+7 * j) (qwv l j)))∧∀ j,x.1≤j→x.2[j]?=l[j]?) (0,l) ⟨by omega,hn,by omega,fun _ _=>rfl⟩ ?_ (he:=by simp[qah])
 rintro⟨i,cs⟩ ⟨hi,hc,hm,hr⟩;simp only at hi hc hm hr;by_cases h2:i<n
 ·obtain⟨s,f1⟩:∃ b,cs[i]?=some b:=⟨_,qEv (by omega)⟩;have h2':(i:Int)<n:=by omega
  have hil:i<cs.length:=by omega
  have f0:cs[i]=s:=(qE1.1 f1).2;have g1:l[i]?=some s:=(hr i (qEe _)) ▸ f1;have s8:=h8 s (qGk g1);have gm:qwv l i=s.map:=by rw[qwv,g1];rfl
  have e1:=qak ((i:Int)+1) (by omega) (by omega);have e2:=qak ((k:Int)+7 * (i:Int)+1) (by omega) (by omega);have e3:IntKind.i64.wrap ((k:Int)+7 * (i:Int)+1+1)=(k:Int)+7 * (i:Int)+2:=by rw[qak _ (by omega) (by omega)];omega
  have e4:IntKind.i64.wrap ((k:Int)+7 * (i:Int)+2+1)=(k:Int)+7 * (i:Int)+3:=by rw[qak _ (by omega) (by omega)];omega
  have e5:IntKind.i64.wrap ((k:Int)+7 * (i:Int)+3+1)=(k:Int)+7 * (i:Int)+4:=by rw[qak _ (by omega) (by omega)];omega
  have e6:IntKind.i64.wrap ((k:Int)+7 * (i:Int)+4+1)=(k:Int)+7 * (i:Int)+5:=by rw[qak _ (by omega) (by omega)];omega
  have e7:IntKind.i64.wrap ((k:Int)+7 * (i:Int)+5+1)=(k:Int)+7 * (i:Int)+6:=by rw[qak _ (by omega) (by omega)];omega
  have e8:IntKind.i64.wrap ((k:Int)+7 * (i:Int)+6+1)=(k:Int)+7 * (i:Int)+7:=by rw[qak _ (by omega) (by omega)];omega
  have t1:((k:Int)+7 * (i:Int)+6).tmod 3=((k:Int)+7 * (i:Int)+6) % 3:=qGY (by omega);obtain⟨nm,kd,fr,mp,hm',dt⟩:=s
  dsimp only at s8 gm
  obtain⟨p0,p1,p2,p3,p4,p5,p6,p7,rfl⟩:=qxq mp s8;simp[h2',h2,hil,f0,f1,hc,kcs,CS.row,PT.row,e1,e2,e3,e4,e5,e6,e7,e8,t1];refine(qc9 _ (k+7 * i) (by omega) (by omega)).call ?_;simp[h2',h2,hil,f0,f1,hc,kcs,CS.row,PT.row,e1,e2,e3,e4,e5,e6,e7,e8,t1];refine(qc9 _ (k+7 * i+2) (by omega) (by omega)).call ?_;simp[h2',h2,hil,f0,f1,hc,kcs,CS.row,PT.row,e1,e2,e3,e4,e5,e6,e7,e8,t1];refine nx (i+1,cs.set i (qsa (k+7 * i) [p0,p1,p2,p3,p4,p5,p6,p7])) [(1000,1000)] ⟨by simp only;omega,by simp[hc],qsZ (by rw[gm]) hil hm,fun j hj=>by simp only at hj ⊢;rw[qFj (by omega)];exact hr j (by omega)⟩ (by simp only;omega) (h4:=?_);simp[qah,e1,e2,e3,e4,e5,e6,e7,e8,t1,kcs,qGw,CS.row,PT.row,qsa]
  first | done | omega | (constructor <;> first | omega | (congr 1 <;> omega))
 ·have hie:i=n:=by omega
  subst hie;have:cs=qlC l k:=by
   refine qGV fun q=>?_;by_cases hq:q<cs.length
   ·rw[hm q (by omega),qn4 (by omega)]
   ·rw[qF0 (by omega),qF0 (by rw[qit];omega)]
  subst this;simp
theorem qw8 (cs:List CS) (n k:Nat) (hl:n≤2000000) (hk:k≤500000000) (hn:cs.length=n) (hf:∀ i,i<n→∃ m,m.length=8∧cs[i]?=some (qsa (k+7 * i) m)):CV prog 126 [.lst 31 (cs.map CS.row),.int .i64 k] (.int .i64 ((k+7 * n:Nat):Int)):=by
 refine cvx func126 [] ntmps126 rfl rfl rfl ?_ (hca:=by simp[qa5]);simp[hn];refine qaQ (X:=Nat) [0,1,5] [] (fun x=>[(5,.int .i64 x),(1,.int .i64 ((k+7 * x:Nat):Int))]) (fun x=>[]) (fun x=>n-x) (fun x=>x≤n) 0 (by omega) ?_;rintro i hi;by_cases h2:i<n
 ·have h2':(i:Int)<n:=by omega
  obtain⟨m,m8,f1⟩:=hf i h2;have hil:i<cs.length:=by omega
  obtain⟨p0,p1,p2,p3,p4,p5,p6,p7,rfl⟩:=qxq m m8;have f0:cs[i]=qsa (k+7 * i) [p0,p1,p2,p3,p4,p5,p6,p7]:=(qE1.1 f1).2;have e1:=qak ((i:Int)+1) (by omega) (by omega);have e2:=qak ((k:Int)+7 * (i:Int)+1) (by omega) (by omega);have e3:IntKind.i64.wrap ((k:Int)+7 * (i:Int)+1+1)=(k:Int)+7 * (i:Int)+2:=by rw[qak _ (by omega) (by omega)];omega
  have e4:IntKind.i64.wrap ((k:Int)+7 * (i:Int)+2+1)=(k:Int)+7 * (i:Int)+3:=by rw[qak _ (by omega) (by omega)];omega
  have e5:IntKind.i64.wrap ((k:Int)+7 * (i:Int)+3+1)=(k:Int)+7 * (i:Int)+4:=by rw[qak _ (by omega) (by omega)];omega
  have e6:IntKind.i64.wrap ((k:Int)+7 * (i:Int)+4+1)=(k:Int)+7 * (i:Int)+5:=by rw[qak _ (by omega) (by omega)];omega
  have e7:IntKind.i64.wrap ((k:Int)+7 * (i:Int)+5+1)=(k:Int)+7 * (i:Int)+6:=by rw[qak _ (by omega) (by omega)];omega
  have e8:IntKind.i64.wrap ((k:Int)+7 * (i:Int)+6+1)=(k:Int)+7 * (i:Int)+7:=by rw[qak _ (by omega) (by omega)];omega
  have t1:((k:Int)+7 * (i:Int)+6).tmod 3=((k:Int)+7 * (i:Int)+6) % 3:=qGY (by omega);simp[h2',h2,hil,hn,f0,f1,qsa,CS.row,PT.row,e1,e2,e3,e4,e5,e6,e7,e8,t1];refine(qc9 _ (k+7 * i) (by omega) (by omega)).call ?_;simp[h2',h2,hil,hn,f0,f1,qsa,CS.row,PT.row,e1,e2,e3,e4,e5,e6,e7,e8,t1];refine(qc9 _ (k+7 * i+2) (by omega) (by omega)).call ?_;simp[h2',h2,hil,hn,f0,f1,qsa,CS.row,PT.row,e1,e2,e3,e4,e5,e6,e7,e8,t1];refine nx (i+1) [] (by omega) (h4:=?_);simp[e1,e2,e3,e4,e5,e6,e7,e8,t1]
  first | done | omega | (congr 1 <;> omega)
 ·have:i=n:=by omega
  subst this;simp[hn]
def mkD (d:DK) (k:Nat):DK:=⟨mkG qdw 1 k d.s0.length,mkG qdw 1 (k+d.s0.length) d.s1.length,mkG qoW 3 (k+d.s0.length+d.s1.length) d.late.length⟩
def wD (d:DK):Nat:=d.s0.length+d.s1.length+3 * d.late.length
def mkC (c:CO) (k:Nat):CO:=⟨c.txg,qlC c.sets k,mkG qpz 3 (k+7 * c.sets.length) c.ddt.length,mkG qpy 3 (k+7 * c.sets.length+3 * c.ddt.length) c.parts.length,c.dirty,mkG qoX 1 (k+7 * c.sets.length+3 * c.ddt.length+3 * c.parts.length) c.safe.length,c.logn⟩
def wC (c:CO):Nat:=7 * c.sets.length+3 * c.ddt.length+3 * c.parts.length+c.safe.length
def mkP (p:PO) (k:Nat):PO:=⟨mkD p.d k,mkC p.c (k+wD p.d),p.up⟩
def wP (p:PO):Nat:=wD p.d+wC p.c
theorem qwE (a b:List (List UInt8)) (n0 n1 k:Nat) (ha:a.length=n0) (hb:b.length=n1) (h0:n0≤2000000) (h1:n1≤2000000) (hk:k≤400000000) :
  ACall prog 48 [.agg [.sl 1000 0 n0,.sl 1001 0 n1],.int .i64 k] [(1000,qaj a),(1001,qaj b)] (fun r L'=>r=.int .i64 ((k+n0+n1:Nat):Int)∧L'=[(1000,qaj (mkG qdw 1 k n0)),(1001,qaj (mkG qdw 1 (k+n0) n1))]):=by
 have c1:=qn5 a n0 k ha h0 (by omega);have c2:=qn5 b n1 (k+n0) hb h1 (by omega);simp only[qEG,qHv]at c1 c2;refine acx func48 [] ntmps48 rfl rfl rfl ?_;simp;refine qbl (X:=Nat) [1,2,5] [(2,2),(1000,1000),(1001,1001)] (fun i=>[(5,.int .i64 i),(1,.int .i64 (if i=0 then (k:Int) else if i=1 then (k:Int)+n0 else (k:Int)+n0+n1))]) (fun i=>[(2,⟨2,[[.sl 1000 0 n0,.sl 1001 0 n1]]⟩),(1000,qaj (if i=0 then a else mkG qdw 1 k n0)),(1001,qaj (if i=2 then mkG qdw 1 (k+n0) n1 else b))]) (fun i=>2-i) (fun i=>i=0∨i=1∨i=2) 0 (.inl rfl) ?_ (he:=by simp[qah])
 rintro i (rfl | rfl | rfl)
 ·simp[qah];refine qac [(1000,.whole 1000)] (by kernel_rfl) c1 (by simp) (by simp) ⟨⟨qaj a,by simp,rfl,qaa rfl (qaz _)⟩,trivial⟩ (by simp) (by simp) ?_;rintro r L' ⟨rfl,rfl⟩;refine⟨[],⟨by simp,by simp,by simp,by simp,by simp⟩,?_⟩;simp only[qad];simp;exact nx 1 [(2,2),(1000,1000),(1001,1001)] (.inr (.inl rfl)) (h4:=by simp[qah])
 ·simp[qah];refine qac [(1000,.whole 1001)] (by kernel_rfl) c2 (by simp) (by simp) ⟨⟨qaj b,by simp,rfl,qaa rfl (qaz _)⟩,trivial⟩ (by simp) (by simp) ?_;rintro r L' ⟨rfl,rfl⟩;refine⟨[],⟨by simp,by simp,by simp,by simp,by simp⟩,?_⟩;simp only[qad];simp;exact nx 2 [(2,2),(1000,1000),(1001,1001)] (.inr (.inr rfl)) (h4:=by simp[qah])
 ·simp[qah]
theorem qq6 (d:DK) (k:Nat) (h:DkT d) (hk:k≤300000000) :
  ACall prog 16 [.agg (qcq d 1000 1001 1002),.int .i64 k] [(1000,qaj d.s0),(1001,qaj d.s1),(1002,qbZ d.late)] (fun r L'=>r=.int .i64 ((k+wD d:Nat):Int)∧L'=[(1000,qaj (mkD d k).s0),(1001,qaj (mkD d k).s1),(1002,qbZ (mkD d k).late)]):=by
 have l0:=h.l0;have l1:=h.l1;have l2:=h.l2;have c1:=qwE d.s0 d.s1 d.s0.length d.s1.length k rfl rfl (by omega) (by omega) (by omega);have c2:=qwz d.late d.late.length (k+d.s0.length+d.s1.length) rfl (by omega) (by omega);simp only[qEG,qHv,qHw,qHx]at c1 c2;refine acx func16 [] ntmps16 rfl rfl rfl ?_;simp[qcq];refine qac [(1000,.whole 1000),(1001,.whole 1001)] (by kernel_rfl) c1 (by simp) (by simp) ⟨⟨qaj d.s0,by simp,rfl,qaa rfl (qaz _)⟩,⟨qaj d.s1,by simp,rfl,qaa rfl (qaz _)⟩,trivial⟩ (by simp) (by simp) ?_;rintro r L' ⟨rfl,rfl⟩;refine⟨[],⟨by simp,by simp,by simp,by simp,by simp⟩,?_⟩;simp only[qad];simp;refine qac [(1000,.whole 1002)] (by kernel_rfl) c2 (by simp) (by simp) ⟨⟨qbZ d.late,by simp,rfl,qaa rfl (qcm _)⟩,trivial⟩ (by simp) (by simp) ?_;rintro r L' ⟨rfl,rfl⟩;refine⟨[],⟨by simp,by simp,by simp,by simp,by simp⟩,?_⟩;simp only[qad];simp[mkD,wD]
 first | done | omega
theorem qwD (c:CO) (k:Nat) (h:CoT c) (hk:k≤300000000) :
  ACall prog 56 [qcy c 1000 1001 1002 1003,.int .i64 k] [(1000,kcs c.sets),(1001,qaH c.ddt),(1002,kpt c.parts),(1003,kin c.safe)] (fun r L'=>r=.int .i64 ((k+wC c:Nat):Int)∧L'=[(1000,kcs (mkC c k).sets),(1001,qaH (mkC c k).ddt),(1002,kpt (mkC c k).parts),(1003,kin (mkC c k).safe)]):=by
 have l0:=h.sets;have l1:=h.ddt;have l2:=h.parts;have l3:=h.safe;have c1:=qwC c.sets c.sets.length k rfl (by omega) (by omega) h.m8;have c2:=qwB c.ddt c.ddt.length (k+7 * c.sets.length) rfl (by omega) (by omega);have c3:=qwx c.parts c.parts.length (k+7 * c.sets.length+3 * c.ddt.length) rfl (by omega) (by omega);have c4:=qwA c.safe c.safe.length (k+7 * c.sets.length+3 * c.ddt.length+3 * c.parts.length) rfl (by omega) (by omega);simp only[qEG,qHv,qHw,qHx]at c1 c2 c3 c4;refine acx func56 [] ntmps56 rfl rfl rfl ?_;simp[qcy];refine qac [(1000,.whole 1000)] (by kernel_rfl) c1 (by simp) (by simp) ⟨⟨kcs c.sets,by simp,rfl,qaa rfl (qaX _)⟩,trivial⟩ (by simp) (by simp) ?_;rintro r L' ⟨rfl,rfl⟩;refine⟨[],⟨by simp,by simp,by simp,by simp,by simp⟩,?_⟩;simp only[qad];simp;refine qac [(1000,.whole 1001)] (by kernel_rfl) c2 (by simp) (by simp) ⟨⟨qaH c.ddt,by simp,rfl,qaa rfl (qbw _)⟩,trivial⟩ (by simp) (by simp) ?_;rintro r L' ⟨rfl,rfl⟩;refine⟨[],⟨by simp,by simp,by simp,by simp,by simp⟩,?_⟩;simp only[qad];simp;refine qac [(1000,.whole 1002)] (by kernel_rfl) c3 (by simp) (by simp) ⟨⟨kpt c.parts,by simp,rfl,qaa rfl (qbi _)⟩,trivial⟩ (by simp) (by simp) ?_;rintro r L' ⟨rfl,rfl⟩;refine⟨[],⟨by simp,by simp,by simp,by simp,by simp⟩,?_⟩;simp only[qad];simp;refine qac [(1000,.whole 1003)] (by kernel_rfl) c4 (by simp) (by simp) ⟨⟨kin c.safe,by simp,rfl,qaa rfl (qaM _)⟩,trivial⟩ (by simp) (by simp) ?_;rintro r L' ⟨rfl,rfl⟩;refine⟨[],⟨by simp,by simp,by simp,by simp,by simp⟩,?_⟩;simp only[qad];simp[mkC,wC]
 first | done | omega
theorem qyu {d:DK} (h:DkT d):wD d≤5242880:=by
 have l0:=h.l0;have l1:=h.l1;have l2:=h.l2;unfold wD;omega
theorem qwy (p:PO) (k:Nat) (hd:DkT p.d) (hc:CoT p.c) (hk:k≤200000000) :
  ACall prog 22 [.agg (qfi p 1000 1001 1002 1003 1004 1005 1006),.int .i64 k] (qcG p 1000 1001 1002 1003 1004 1005 1006) (fun r L'=>r=.int .i64 ((k+wP p:Nat):Int)∧L'=qcG (mkP p k) 1000 1001 1002 1003 1004 1005 1006):=by
 have w1:=qyu hd;have c1:=qq6 p.d k hd (by omega);have c2:=qwD p.c (k+wD p.d) hc (by omega);simp only[qEG,qHv,qHw,qHx,qcq,qcy]at c1 c2;simp only[qfi,qcG];refine acx func22 [] ntmps22 rfl rfl rfl ?_;simp;refine qac [(1000,.whole 1000),(1001,.whole 1001),(1002,.whole 1002)] (by kernel_rfl) c1 (by simp) (by simp) ⟨⟨qaj p.d.s0,by simp,rfl,qaa rfl (qaz _)⟩,⟨qaj p.d.s1,by simp,rfl,qaa rfl (qaz _)⟩,⟨qbZ p.d.late,by simp,rfl,qaa rfl (qcm _)⟩,trivial⟩ (by simp) (by simp) ?_;rintro r L' ⟨rfl,rfl⟩;refine⟨[],⟨by simp,by simp,by simp,by simp,by simp⟩,?_⟩;simp only[qad];simp;refine qac [(1000,.whole 1003),(1001,.whole 1004),(1002,.whole 1005),(1003,.whole 1006)] (by kernel_rfl) c2 (by simp) (by simp) ⟨⟨kcs p.c.sets,by simp,rfl,qaa rfl (qaX _)⟩,⟨qaH p.c.ddt,by simp,rfl,qaa rfl (qbw _)⟩,⟨kpt p.c.parts,by simp,rfl,qaa rfl (qbi _)⟩,⟨kin p.c.safe,by simp,rfl,qaa rfl (qaM _)⟩,trivial⟩ (by simp) (by simp) ?_;rintro r L' ⟨rfl,rfl⟩;refine⟨[],⟨by simp,by simp,by simp,by simp,by simp⟩,?_⟩;simp only[qad];simp[mkP,wP]
 first | done | omega
theorem qxa (n0 n1 k:Nat) (h0:n0≤2000000) (h1:n1≤2000000) (hk:k≤400000000) :
  CV prog 50 [.agg [.lst 1 ((mkG qdw 1 k n0).map qae),.lst 1 ((mkG qdw 1 (k+n0) n1).map qae)],.int .i64 k] (.int .i64 ((k+n0+n1:Nat):Int)):=by
 have c1:=qoh n0 k h0 (by omega);have c2:=qoh n1 (k+n0) h1 (by omega);simp only[qEG,qHv]at c1 c2;generalize mkG qdw 1 k n0=a at *
 generalize mkG qdw 1 (k+n0) n1=b at *
 refine cvx func50 [] ntmps50 rfl rfl rfl ?_ (hca:=by simp[qae]);simp;refine qaQ (X:=Nat) [1,2,5] [(2,2)] (fun i=>[(5,.int .i64 i),(1,.int .i64 (if i=0 then (k:Int) else if i=1 then (k:Int)+n0 else (k:Int)+n0+n1))]) (fun x=>[]) (fun x=>2-x) (fun x=>x=0∨x=1∨x=2) 0 (.inl rfl) ?_ (he:=by simp[qah,qae])
 have q1:¬ (k:Int)+n0<0:=by omega
 have q2:¬ (k:Int)+n0+n1<0:=by omega
 rintro i (rfl | rfl | rfl)
 ·simp[qah,qae];refine c1.call ?_;simp[q1];exact nx 1 [(2,2)] (.inr (.inl rfl)) (h4:=by simp[qah,qae])
 ·simp[qah,qae];refine c2.call ?_;simp[q2];exact nx 2 [(2,2)] (.inr (.inr rfl)) (h4:=by simp[qah,qae])
 ·simp[qah]
theorem qw6 (d:DK) (k:Nat) (h:DkT d) (hk:k≤300000000):CV prog 18 [.agg (mkD d k).row,.int .i64 k] (.int .i64 ((k+wD d:Nat):Int)):=by
 have l0:=h.l0;have l1:=h.l1;have l2:=h.l2;have c1:=qxa d.s0.length d.s1.length k (by omega) (by omega) (by omega);have c2:=qw4 d.late.length (k+d.s0.length+d.s1.length) (by omega) (by omega);simp only[qEG,qHv,qHw,qHx]at c1 c2;have q1:¬ (k:Int)+d.s0.length+d.s1.length<0:=by omega
 have q2:¬ (k:Int)+d.s0.length+d.s1.length+3 * d.late.length<0:=by omega
 refine cvx func18 [] ntmps18 rfl rfl rfl ?_ (hca:=by simp[DK.row,qae,LT.row]);simp[DK.row,mkD];refine c1.call ?_;simp[q1];refine c2.call ?_;simp[q2,wD]
 first | done | omega
theorem qw9 (c:CO) (k:Nat) (h:CoT c) (hk:k≤300000000):CV prog 57 [.agg (mkC c k).row,.int .i64 k] (.int .i64 ((k+wC c:Nat):Int)):=by
 have l0:=h.sets;have l1:=h.ddt;have l2:=h.parts;have l3:=h.safe;have c1:=qw8 (qlC c.sets k) c.sets.length k (by omega) (by omega) (qit _ _) (fun i hi=>⟨_,by
  show(qwv c.sets i).length=8;rw[qwv,qEv hi];exact h.m8 _ (qE2 hi),qn4 hi⟩)
 have c2:=qw7 c.ddt.length (k+7 * c.sets.length) (by omega) (by omega);have c3:=qw2 c.parts.length (k+7 * c.sets.length+3 * c.ddt.length) (by omega) (by omega);have c4:=qw5 c.safe.length (k+7 * c.sets.length+3 * c.ddt.length+3 * c.parts.length) (by omega) (by omega);simp only[qEG,qHv,qHw,qHx]at c1 c2 c3 c4;have q1:¬ (k:Int)+7 * c.sets.length<0:=by omega
 have q2:¬ (k:Int)+7 * c.sets.length+3 * c.ddt.length<0:=by omega
 have q3:¬ (k:Int)+7 * c.sets.length+3 * c.ddt.length+3 * c.parts.length<0:=by omega
 have q4:¬ (k:Int)+7 * c.sets.length+3 * c.ddt.length+3 * c.parts.length+c.safe.length<0:=by omega
 refine cvx func57 [] ntmps57 rfl rfl rfl ?_ (hca:=by simp[CO.row,qa5,DE.row,PT.row,qaf]);simp[CO.row,mkC];refine c1.call ?_;simp[q1];refine c2.call ?_;simp[q2];refine c3.call ?_;simp[q3];refine c4.call ?_;simp[q4,wC]
 first | done | omega
theorem qw3 (p:PO) (k:Nat) (hd:DkT p.d) (hc:CoT p.c) (hk:k≤200000000):CV prog 23 [.agg (mkP p k).row,.int .i64 k] (.int .i64 ((k+wP p:Nat):Int)):=by
 have w1:=qyu hd;have c1:=qw6 p.d k hd (by omega);have c2:=qw9 p.c (k+wD p.d) hc (by omega);simp only[qEG,qHv,qHw,qHx,DK.row,CO.row]at c1 c2;have q1:¬ (k:Int)+(wD p.d:Int)<0:=by omega
 have q2:¬ (k:Int)+(wD p.d:Int)+(wC p.c:Int)<0:=by omega
 refine cvx func23 [] ntmps23 rfl rfl rfl ?_ (hca:=by simp[PO.row,DK.row,CO.row,qae,LT.row,qa5,DE.row,PT.row,qaf]);simp[PO.row,mkP,DK.row,CO.row];refine c1.call ?_;simp[q1,PO.row,DK.row,CO.row];refine c2.call ?_;simp[q2,wP]
 first | done | omega
def poN:List (Nat×Nat):=[(901,1),(902,1),(903,3),(904,31),(905,3),(906,3),(907,1)]
theorem qso {n:Nat} {avs:List AV} (h:Shp prog (n+2) 22 avs):∃ l:List (List UInt8),(l.length≤maxLen∧∀ t∈l,t.length≤maxLen)∧avs=[.lst 1 (l.map qae)]:=by
 obtain⟨e2,m2,rfl,k2⟩:=qlb underlying22 h;obtain⟨l2,rfl,g2⟩:=qmB qae (fun t:List UInt8=>t.length≤maxLen) e2 fun r hr=>qvt (k2 r hr);have c1:prog.cellsOf 9=1:=by kernel_rfl
 rw[c1];exact⟨l2,⟨by simpa using m2,g2⟩,rfl⟩
theorem qzR {n:Nat} {avs:List AV} (h:Shp prog (n+2) 98 avs):∃ x:LT,x.lx.length≤maxLen∧avs=x.row:=by
 obtain⟨a1,b1,rfl,h1,a2,b2,rfl,h2,a3,b3,rfl,h3,rfl⟩:=qjk underlying98 h;obtain⟨z1,g1,rfl⟩:=qp9 h1;obtain⟨z2,g2,rfl⟩:=qp9 h2;obtain⟨s3,m3,rfl⟩:=qjl underlying9 h3;exact⟨⟨z1,z2,s3⟩,m3,rfl⟩
theorem qAz {n:Nat} {avs:List AV} (h:Shp prog (n+6) 26 avs):∃ d:DK,DkG d∧avs=d.row:=by
 obtain⟨a1,b1,rfl,h1,a2,b2,rfl,h2,rfl⟩:=qjk underlying26 h;obtain⟨l,hl,rfl,hg⟩:=qu1 (fun l:List (List UInt8)=>[.lst 1 (l.map qae)]) (fun l=>l.length≤maxLen∧∀ t∈l,t.length≤maxLen) _ (fun r hr=>qso hr) 2 a1 (qqa underlying23 h1);obtain⟨e2,m2,rfl,k2⟩:=qlb underlying24 h2;obtain⟨l2,rfl,g2⟩:=qmB LT.row (fun x=>x.lx.length≤maxLen) e2 fun r hr=>qzR (k2 r hr);have c1:prog.cellsOf 98=3:=by kernel_rfl
 rw[c1]
 match l,hl with
 | [s0,s1],_ =>
  have q0:=hg s0 (by simp);have q1:=hg s1 (by simp);exact⟨⟨s0,s1,l2⟩,⟨q0.1,q1.1,by simpa using m2,q0.2,q1.2,g2⟩,rfl⟩
theorem qzz:qsR poN (.agg [.nils,.nils,.nils,.int .i64 0,.nils,.nils,.nils,.bool false,.nils,.int .i64 0,.bool false]) (.agg (qfi ⟨zDK,zK,false⟩ 901 902 903 904 905 906 907)) :=
 qsQ (.cons (qem 901) (.cons (qem 902) (.cons (qem 903) (.cons (qd8 _ _) (.cons (qem 904) (.cons (qem 905) (.cons (qem 906) (.cons (qd8 _ _) (.cons (qem 907) (.cons (qd8 _ _) (.cons (qd8 _ _) .nil)))))))))))
theorem qaS (x y:List UInt8) (r:List (List UInt8)) (c:UInt8):Lib.join (x::y::r) [c]=x++c::Lib.join (y::r) [c]:=by
 rw[Lib.join_cons,Lib.join_cons];simp[Lib.joinTail]
theorem qm9 (c:UInt8) (s cur:List UInt8):qaI c s cur≠[]:=fun h=>by
 have:=qkK c s cur;rw[h]at this;simp at this
theorem qdD (c:UInt8):∀ (s cur:List UInt8),Lib.join (qaI c s cur) [c]=cur++s
 | [],cur=>by simp[qaI,Lib.join_one]
 | x::r,cur=>by
  unfold qaI;by_cases h:x=c
  ·rw[if_pos h];subst h;have ih:=qdD x r [];cases hr:qaI x r []with
   | nil=>exact absurd hr (qm9 _ _ _)
   | cons y q =>
    rw[hr]at ih;rw[qaS,ih];simp
  ·rw[if_neg h,qdD c r (cur++[x])];simp
theorem qkM (c:UInt8):∀ (w r cur:List UInt8),(∀ x∈w,x≠c)→qaI c (w++c::r) cur=(cur++w)::qaI c r []
 | [],r,cur,_=>by simp[qaI]
 | x::w,r,cur,h=>by
  have hx:=h x (by simp);rw[qGj,qaI,if_neg hx,qkM c w r _ fun y hy=>h y (by simp[hy])];simp
theorem qkL (c:UInt8):∀ (w cur:List UInt8),(∀ x∈w,x≠c)→qaI c w cur=[cur++w]
 | [],cur,_=>by simp[qaI]
 | x::w,cur,h=>by
  rw[qaI,if_neg (h x (by simp)),qkL c w _ fun y hy=>h y (by simp[hy])];simp
theorem qdj (c:UInt8):∀ (ws:List (List UInt8)),ws≠[]→(∀ w∈ws,∀ x∈w,x≠c)→qaI c (Lib.join ws [c]) []=ws
 | [],h,_=>absurd rfl h
 | [w],_,h=>by
  rw[Lib.join_one,qkL c w [] (h w (by simp))];simp
 | w::v::r,_,h=>by
  rw[qaS,qkM c w _ [] (h w (by simp)),qdj c (v::r) (by simp) fun u hu=>h u (by simp[hu])];simp
theorem qon (n:Nat):∀ x∈Lib.decDigits n,48≤x.toNat∧x.toNat≤57:=by
 induction n using Nat.strongRecOn with
 | _ n ih =>
  intro x hx;rw[Lib.decDigits]at hx;split at hx
  ·rename_i h;simp only[qG0]at hx;subst hx;rw[qjc h];omega
  ·rename_i h;rcases qFV.1 hx with hx | hx
   ·exact ih (n / 10) (by omega) x hx
   ·simp only[qG0]at hx;subst hx;rw[qjc (by omega)];omega
theorem qgF (n:Int) (c:UInt8) (hc:c.toNat<48) (h45:c≠45):∀ x∈Lib.itoa n,x≠c:=by
 intro x hx;unfold Lib.itoa at hx;split at hx
 ·rcases qFT.1 hx with rfl | hx
  ·exact fun e=>h45 e.symm
  ·have:=qon _ x hx;rintro rfl;omega
 ·have:=qon _ x hx;rintro rfl;omega
theorem qet (n:Int) (h:0≤n):Lib.itoa n=dec n:=by
 have e:n=((n.toNat:Nat):Int):=by omega
 rw[e,qki];rfl
theorem qdl {t:List UInt8} (h:qdG t=true):Lib.itoa (qaG t)=t:=by
 simp only[qdG,Bool.and_eq_true,decide_eq_true_eq]at h;exact h.2
def qk4 (t:List UInt8):Option (Int×Int×Int) :=
 match qaI 46 t []with
 | [a,b,c]=>if qdG a=true∧qdG b=true∧qdG c=true then some (qaG a,qaG b,qaG c) else none
 | _=>none
theorem qk2 {t:List UInt8} {a b c:Int} (h:qk4 t=some (a,b,c)):Lib.join [Lib.itoa a,Lib.itoa b,Lib.itoa c] [46]=t:=by
 unfold qk4 at h;split at h
 ·rename_i x y z hc;split at h
  ·rename_i hq;simp only[qEi,qEj]at h;obtain⟨rfl,rfl,rfl⟩:=h;have:=qdD 46 t [];rw[hc]at this;rw[qdl hq.1,qdl hq.2.1,qdl hq.2.2];simpa using this
  ·cases h
 ·cases h
theorem qpP (a b c:Int) (ha:qpB a) (hb:qpB b) (hc:qpB c):qk4 (Lib.join [Lib.itoa a,Lib.itoa b,Lib.itoa c] [46])=some (a,b,c):=by
 have h1:∀ n:Int,∀ x∈Lib.itoa n,x≠(46:UInt8):=fun n=>qgF n 46 (by decide) (by decide);unfold qk4;rw[qdj 46 _ (by simp) (by
  intro w hw;simp only[qFT,qF2,or_false]at hw;rcases hw with rfl | rfl | rfl
  ·exact h1 _
  ·exact h1 _
  ·exact h1 _)]
 obtain⟨a1,a2⟩:=qjL ha.1 ha.2;obtain⟨b1,b2⟩:=qjL hb.1 hb.2;obtain⟨c1,c2⟩:=qjL hc.1 hc.2;simp[a1,a2,b1,b2,c1,c2]
def qbP (t:List UInt8):PT×Bool :=
 if t=[45] then (⟨0,0,0⟩,true) else
 match qk4 t with
 | some (a,b,c)=>if qaq ⟨a,b,c⟩=true then (⟨a,b,c⟩,true) else (⟨0,0,0⟩,false)
 | none=>(⟨0,0,0⟩,false)
theorem qdW {p:PT} (h:qaq p=true):qaK p=true∧p.pa≠0:=by
 simpa [qaq]using h
theorem qdt {p:PT} (h:qaq p=true):qaR p=Lib.join [Lib.itoa p.pa,Lib.itoa p.ps,Lib.itoa p.pb] [46]:=by
 obtain⟨h1,h2⟩:=qdW h;have hb:=qjs h1;unfold qaR;rw[if_neg (by simp[h1]),if_neg h2,qet _ (by omega),qet _ (by omega),qet _ (by omega),qaS,qaS,Lib.join_one]
theorem qil {t:List UInt8} (h:(qbP t).2=true):qaR (qbP t).1=t∧qaK (qbP t).1=true:=by
 unfold qbP at h ⊢;split at h
 ·rename_i ht;rw[if_pos ht];subst ht;exact⟨by decide,by decide⟩
 ·rename_i ht;rw[if_neg ht];split at h
  ·rename_i a b c htr;split at h
   ·rename_i hq;simp only[hq,if_true];rw[qdt hq];exact⟨qk2 htr,(qdW hq).1⟩
   ·simp at h
  ·simp at h
theorem qgA {p:PT} (h:qaK p=true):qbP (qaR p)=(p,true):=by
 have hb:=qjs h;by_cases h0:p.pa=0
 ·obtain⟨pa,ps,pb⟩:=p;simp only at h0 hb;subst h0;have:ps=0∧pb=0:=by simpa [qaK]using h
  obtain⟨rfl,rfl⟩:=this;decide
 ·have hq:qaq p=true:=by simp[qaq,h,h0]
  rw[qdt hq];have ht:=qpP p.pa p.ps p.pb ⟨by omega,by omega⟩ ⟨by omega,by omega⟩ ⟨by omega,by omega⟩;unfold qbP;rw[ht];have hne:Lib.join [Lib.itoa p.pa,Lib.itoa p.ps,Lib.itoa p.pb] [46]≠[45]:=fun e=>by
   rw[e]at ht;simp[qk4,qaI]at ht
  rw[if_neg hne];simp[hq]
theorem qng (s:List UInt8):qpB (qaG s):=by
 unfold qaG;cases h:Lib.atoiAll s with
 | ok v =>
  simp only;unfold Lib.atoiAll at h;split at h
  ·cases h
  ·simp only at h;split at h
   ·cases h
   ·cases h
   ·rename_i u hu;split at h
    ·cases h
    ·split at h
     ·cases h
     ·injection h with h;subst h;rename_i h1 h2;unfold qpB;split
      ·rename_i hn;have:¬ 9223372036854775808<u:=fun e=>h2 ⟨hn,e⟩;omega
      ·rename_i hn;have:¬ 9223372036854775808≤u:=fun e=>h1 ⟨hn,e⟩;omega
 | range =>
  simp only[Lib.atoiSat,qpB];split <;> omega
 | _=>simp[qpB]
theorem qoR {t:List UInt8} (h:(qbP t).2=false):qbP t=(⟨0,0,0⟩,false):=by
 unfold qbP at h ⊢;split
 ·rename_i ht;rw[if_pos ht]at h;simp at h
 ·rename_i ht;rw[if_neg ht]at h;split
  ·rename_i a b c htr;split
   ·rename_i hq;rw[htr]at h;simp[hq]at h
   ·rfl
  ·rfl
theorem qk3 {t:List UInt8} {a b c:List UInt8} (h:qaI 46 t []=[a,b,c]):qk4 t=if qdG a=true∧qdG b=true∧qdG c=true then some (qaG a,qaG b,qaG c) else none:=by
 unfold qk4;rw[h]
theorem qh2 {t:List UInt8} (h:(qaI 46 t []).length≠3):qk4 t=none:=by
 unfold qk4;split
 ·rename_i a b c hc;rw[hc]at h;simp at h
 ·rfl
theorem qnQ {t:List UInt8} (h:qk4 t=none) (ht:t≠[45]):qbP t=(⟨0,0,0⟩,false):=by
 unfold qbP;rw[if_neg ht,h]
theorem qui {t a b c:List UInt8} (h:qaI 46 t []=[a,b,c]) (ht:t≠[45]) :
  qbP t=if qdG a=true∧qdG b=true∧qdG c=true∧qaq ⟨qaG a,qaG b,qaG c⟩=true then (⟨qaG a,qaG b,qaG c⟩,true) else (⟨0,0,0⟩,false):=by
 unfold qbP;rw[if_neg ht,qk3 h];by_cases h1:qdG a=true∧qdG b=true∧qdG c=true
 ·rw[if_pos h1];obtain⟨h2,h3,h4⟩:=h1;simp only[h2,h3,h4,true_and]
 ·rw[if_neg h1,if_neg (fun e=>h1 ⟨e.1,e.2.1,e.2.2.1⟩)]
theorem qqO {t a b c:List UInt8} (h:qaI 46 t []=[a,b,c]) (ht:t≠[45]) :
  qbP t=if (qay a).2=true∧(qay b).2=true∧(qay c).2=true∧qaR ⟨(qay a).1,(qay b).1,(qay c).1⟩=t then (⟨(qay a).1,(qay b).1,(qay c).1⟩,true) else (⟨0,0,0⟩,false):=by
 have hj:=qdD 46 t [];rw[h]at hj;by_cases hs:(qay a).2=true∧(qay b).2=true∧(qay c).2=true∧qaR ⟨(qay a).1,(qay b).1,(qay c).1⟩=t
 ·rw[if_pos hs];obtain⟨s1,s2,s3,s4⟩:=hs;have hok:qaK ⟨(qay a).1,(qay b).1,(qay c).1⟩=true:=by
   cases hk:qaK ⟨(qay a).1,(qay b).1,(qay c).1⟩with
   | true=>rfl
   | false =>
    rw[qaR,if_pos hk]at s4;subst s4;simp[qaI]at h
  rw[← s4];exact qgA hok
 ·rw[if_neg hs,qui h ht];split
  ·rename_i hq;exfalso;obtain⟨c1,c2,c3,hr⟩:=hq;have hb:=qjs (qdW hr).1;simp only at hb;have n1:=(qfd a).1 ⟨c1,by omega⟩;have n2:=(qfd b).1 ⟨c2,by omega⟩;have n3:=(qfd c).1 ⟨c3,by omega⟩;refine hs ⟨n1,n2,n3,?_⟩;rw[← qgT n1,← qgT n2,← qgT n3,qdt hr];simp only;rw[qdl c1,qdl c2,qdl c3];simpa using hj
  ·rfl
theorem qef {α:Type} {l:List α} (h:l.length=3):∃ a b c,l=[a,b,c]:=by
 match l,h with
 | [a,b,c],_=>exact⟨a,b,c,rfl⟩
theorem qfT (t:List UInt8) (hl:t.length≤1048576):CV prog 157 [.str t] (.tup [.agg (qbP t).1.row,.bool (qbP t).2]):=by
 have c1:=qj2 t 46 hl;have hw:=qbs 46 t [];have hnum:=qdk 46 t [];refine cvx func157 [] ntmps157 rfl rfl rfl ?_ (hcv:=by simp[PT.row]);by_cases h1:t=[45]
 ·subst h1;simp[qbP,PT.row]
 simp[h1];refine c1.call ?_;by_cases h3:(qaI 46 t []).length=3
 ·obtain⟨a,b,c,hc⟩:=qef h3;rw[hc]at hw;have n1:=qh8 a (by have:=hw a (by simp);simp at this;omega);have n2:=qh8 b (by have:=hw b (by simp);simp at this;omega);have n3:=qh8 c (by have:=hw c (by simp);simp at this;omega);have hsp:=qqO hc h1;have tx:=qeJ ⟨(qay a).1,(qay b).1,(qay c).1⟩;simp only[PT.row]at tx;by_cases h30:30<t.length
  ·have hf:(qbP t).2=false:=by
    cases hk:(qbP t).2 with
    | false=>rfl
    | true =>
     have:=qbq (qbP t).1;rw[(qil hk).1]at this;omega
   rw[qoR hf];simp[hc,qcu,PT.row,show(30:Int)<t.length by omega,h30]
  ·simp[hc,qcu,PT.row,show ¬ (30:Int)<t.length by omega,h30];refine n1.call ?_;simp;refine n2.call ?_;simp;refine n3.call ?_;rw[hsp];generalize qay a=A at *
   generalize qay b=B at *
   generalize qay c=C at *
   obtain⟨av,ak⟩:=A;obtain⟨bv,bk'⟩:=B;obtain⟨cv,ck⟩:=C;simp only at tx;cases ak with
   | false=>simp[PT.row]
   | true =>
    cases bk' with
    | false=>simp[PT.row]
    | true =>
     cases ck with
     | false=>simp[PT.row]
     | true =>
      simp[PT.row];refine tx.call ?_;by_cases he:qaR ⟨av,bv,cv⟩=t
      ·simp[he,PT.row]
      ·simp[he,PT.row]
 ·rw[qnQ (qh2 h3) h1];simp[qcu,h3,show ¬ ((qaI 46 t []).length:Int)=3 by omega,PT.row]
theorem qtc (l:List Int) (hl:l.length≤10) (h:∀ x∈l,qpB x):CV prog 263 [.lst 1 (l.map qaf)] (.str (Lib.join (l.map Lib.itoa) [46])):=by
 have hlen:∀ x∈l.map Lib.itoa,x.length≤20:=fun x hx=>by
  obtain⟨n,hn,rfl⟩:=qEW.1 hx;have:=h n hn;unfold qpB at this;unfold Lib.itoa;split
  ·have:=qkE n.natAbs 19 (by omega) (by omega);simp;omega
  ·have:=qkE n.toNat 19 (by omega) (by omega);omega
 have hj:=qf6 [46] 20 (l.map Lib.itoa) hlen;simp only[qFx]at hj;have cj:=qjB (l.map Lib.itoa) [46] (by simp;omega) (by simp at hj;omega);refine cvx func263 [] ntmps263 rfl rfl rfl ?_ (hca:=by simp[qaf]);simp;refine qeX (qjT 3 1 (by simp) (by simp)) ?_;refine qbl (X:=Nat) [2,3,6,7,8] [(3,900)] (fun i=>[(3,.sl 900 0 i),(8,.int .i64 i)]) (fun i=>[(900,qaj ((l.take i).map Lib.itoa))]) (fun i=>l.length-i) (fun i=>i≤l.length) 0 (by simp) ?_ (he:=by simp[qah,qaj]);intro i hi;cases hr:l.drop i with
 | nil =>
  have:=qa0 hr;have hie:i=l.length:=by omega
  subst hie;rw[qGn];simp;refine cj.view (by simp[qb1,mtA,qaj,qae,qEK]) ?_;simp
 | cons x r =>
  obtain⟨g1,e0,e1,g3⟩:=qa1 hr;have hx:=h x (qGk e1);have cd:=qwL x hx.1 hx.2;have e2:=qak ((i:Int)+1) (by omega) (by omega);simp[g1,e0,e1,qaf];refine cd.call ?_;simp[qaj];have hmin:min i l.length=i:=by omega
  exact⟨by omega,nx (i+1) [(16,900)] (by omega) (h4:=by
   have ht:=tk1 (qae ∘ Lib.itoa) e1;simp[qaj,ht,qEK,hmin,e2];simp[qae])⟩
theorem qsk {t a b c:List UInt8} (h:qaI 46 t []=[a,b,c]) (h1:qbC a=true) (h2:qbC b=true) (h3:qbC c=true) :
  (Lib.join [Lib.itoa (qaG a),Lib.itoa (qaG b),Lib.itoa (qaG c)] [46]=t)↔(qdG a=true∧qdG b=true∧qdG c=true):=by
 have hj:=qdD 46 t [];rw[h]at hj;have hn:∀ n:Int,∀ x∈Lib.itoa n,x≠(46:UInt8):=fun n=>qgF n 46 (by decide) (by decide);constructor
 ·intro e;have hc:=qdj 46 [Lib.itoa (qaG a),Lib.itoa (qaG b),Lib.itoa (qaG c)] (by simp) (by
   intro w hw;simp only[qFT,qF2,or_false]at hw;rcases hw with rfl | rfl | rfl
   ·exact hn _
   ·exact hn _
   ·exact hn _)
  rw[e,h]at hc;simp only[qFZ,and_true]at hc;obtain⟨e1,e2,e3⟩:=hc;simp only[qdG,h1,h2,h3,qGF,decide_eq_true_eq];exact⟨e1.symm,e2.symm,e3.symm⟩
 ·rintro⟨c1,c2,c3⟩;rw[qdl c1,qdl c2,qdl c3];simpa using hj
def thB (t:List UInt8):(Int×Int×Int)×Bool :=
 match qaI 46 t []with
 | [a,b,c]=>if qbC a=true∧qbC b=true∧qbC c=true then ((qaG a,qaG b,qaG c),decide (qdG a=true∧qdG b=true∧qdG c=true)) else ((0,0,0),false)
 | _=>((0,0,0),false)
theorem qvp {t a b c:List UInt8} (h:qaI 46 t []=[a,b,c]):thB t=if qbC a=true∧qbC b=true∧qbC c=true then ((qaG a,qaG b,qaG c),decide (qdG a=true∧qdG b=true∧qdG c=true)) else ((0,0,0),false):=by
 unfold thB;rw[h]
theorem qvo {t:List UInt8} (h:(qaI 46 t []).length≠3):thB t=((0,0,0),false):=by
 unfold thB;split
 ·rename_i a b c hc;rw[hc]at h;simp at h
 ·rfl
theorem qrh (t:List UInt8) (hl:t.length≤1048576):CV prog 184 [.str t] (.tup [.int .i64 (thB t).1.1,.int .i64 (thB t).1.2.1,.int .i64 (thB t).1.2.2,.bool (thB t).2]):=by
 have c1:=qh7 t 46 hl;have hw:=qbs 46 t [];have hnum:=qdk 46 t [];by_cases h3:(qaI 46 t []).length=3
 ·obtain⟨a,b,c,hc⟩:=qef h3;rw[hc]at hw c1;have la:=hw a (by simp);have lb:=hw b (by simp);have lc:=hw c (by simp);simp at la lb lc;have n1:=qmg a (by omega);have n2:=qmg b (by omega);have n3:=qmg c (by omega);obtain⟨R,hR⟩:∃ R,thB t=R:=⟨_,rfl⟩;rw[hR];rw[qvp hc]at hR;have cp:=qtc [qaG a,qaG b,qaG c] (by simp) (by
   intro x hx;simp only[qFT,qF2,or_false]at hx;rcases hx with rfl | rfl | rfl
   ·exact qng _
   ·exact qng _
   ·exact qng _)
  have heq:=@qsk t a b c hc;refine cvx func184 [(13,[zI 0,zJ 1 [7] [],zJ 2 [] [7],zJ 3 [7] [7],zJ 4 [] [7],zJ 5 [7] [7],zJ 6 [] [7],zJ 7 [7] [7],zJ 8 [] [7],zJ 9 [7] [7],zJ 10 [] [7],zJ 11 [7] [7],zJ 14 [] [7],zJ 12 [] [7],zJ 13 [] [7],zJ 15 [] [7],zJ 16 [] [7],zJ 17 [] [7],zI 18,zI 19])] ntmps184 rfl rfl rfl ?_;simp;refine c1.call ?_;simp only[qcu,qaf,qEV,qF8]at c1 cp;simp[qcu];refine qaQ (X:=Nat) [0,7,17,18,19] [(7,7)] (fun i=>[(19,.int .i64 i)]) (fun i=>[(7,⟨3,[[.int .i64 (if 0<i then qaG a else 0),.int .i64 (if 1<i then qaG b else 0),.int .i64 (if 2<i then qaG c else 0)]]⟩)]) (fun i=>3-i)
   (fun i=>(i=0∨(i=1∧qbC a=true)∨(i=2∧qbC a=true∧qbC b=true)∨(i=3∧qbC a=true∧qbC b=true∧qbC c=true))) 0 (.inl rfl) ?_ (he:=by simp[qah])
  rintro i (rfl | ⟨rfl,k1⟩ | ⟨rfl,k1,k2⟩ | ⟨rfl,k1,k2,k3⟩)
  ·simp[qah,qcu];refine n1.call ?_;cases hk:qbC a with
   | false =>
    rw[if_neg (by simp[hk])]at hR;simp[qhO,← hR]
   | true =>
    simp[qhO];exact nx 1 [(7,7)] (by simp[hk]) (h4:=by simp[qah])
  ·simp[qah,qcu];refine n2.call ?_;cases hk:qbC b with
   | false =>
    rw[if_neg (by simp[hk])]at hR;simp[qhO,← hR]
   | true =>
    simp[qhO];exact nx 2 [(7,7)] (by simp[hk,k1]) (h4:=by simp[qah])
  ·simp[qah,qcu];refine n3.call ?_;cases hk:qbC c with
   | false =>
    rw[if_neg (by simp[hk])]at hR;simp[qhO,← hR]
   | true =>
    simp[qhO];exact nx 3 [(7,7)] (by simp[hk,k1,k2]) (h4:=by simp[qah])
  ·rw[if_pos ⟨k1,k2,k3⟩]at hR;simp[qah];refine cp.view (by simp[qb1,mtA]) ?_;simp[← hR];have:=heq k1 k2 k3;rw[qGN];simp[this]
 ·rw[qvo h3];refine cvx func184 [(13,[zI 0,zJ 1 [7] [],zJ 2 [] [7],zJ 3 [7] [7],zJ 4 [] [7],zJ 5 [7] [7],zJ 6 [] [7],zJ 7 [7] [7],zJ 8 [] [7],zJ 9 [7] [7],zJ 10 [] [7],zJ 11 [7] [7],zJ 14 [] [7],zJ 12 [] [7],zJ 13 [] [7],zJ 15 [] [7],zJ 16 [] [7],zJ 17 [] [7],zI 18,zI 19])] ntmps184 rfl rfl rfl ?_;simp;refine c1.call ?_;simp[qcu,h3,show ¬ ((qaI 46 t []).length:Int)=3 by omega]
theorem qeS (t:List UInt8) (hl:t.length≤1048576):CV prog 183 [.str t] (.tup [.agg (qbP t).1.row,.bool (qbP t).2]):=by
 have c1:=qrh t hl;refine cvx func183 [] ntmps183 rfl rfl rfl ?_ (hcv:=by simp[PT.row]);by_cases h1:t=[45]
 ·subst h1;simp[qbP,PT.row]
 simp[h1];refine c1.call ?_;have c2:=qoQ ⟨(thB t).1.1,(thB t).1.2.1,(thB t).1.2.2⟩;simp only[PT.row]at c2;by_cases h3:(qaI 46 t []).length=3
 ·obtain⟨a,b,c,hc⟩:=qef h3;have e1:=qui hc h1;have e2:=qvp hc;by_cases hk:qbC a=true∧qbC b=true∧qbC c=true
  ·rw[if_pos hk]at e2;by_cases hq:qdG a=true∧qdG b=true∧qdG c=true
   ·rw[show decide (qdG a=true∧qdG b=true∧qdG c=true)=true by simpa using hq]at e2;rw[e2]at c2 ⊢;simp only at c2;obtain⟨q1,q2,q3⟩:=hq;simp only[q1,q2,q3,true_and]at e1;rw[e1];simp[PT.row];refine c2.call ?_;cases hr:qaq ⟨qaG a,qaG b,qaG c⟩with
    | false=>simp[PT.row]
    | true=>simp[PT.row]
   ·rw[show decide (qdG a=true∧qdG b=true∧qdG c=true)=false by simpa using hq]at e2;rw[if_neg (fun e=>hq ⟨e.1,e.2.1,e.2.2.1⟩)]at e1;rw[e1,e2];simp[PT.row]
  ·rw[if_neg hk]at e2;have hq:¬ (qdG a=true∧qdG b=true∧qdG c=true∧qaq ⟨qaG a,qaG b,qaG c⟩=true):=fun e=>by
    have h1:=e.1;have h2:=e.2.1;have h3:=e.2.2.1;simp only[qdG,Bool.and_eq_true]at h1 h2 h3;exact hk ⟨h1.1,h2.1,h3.1⟩
   rw[if_neg hq]at e1;rw[e1,e2];simp[PT.row]
 ·rw[qnQ (qh2 h3) h1,qvo h3];simp[PT.row]
end Go.Av.F
end
