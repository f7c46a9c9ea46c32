/- Lemmas for the proof, no statement of the seat; no conditions. -/
import Derived.Test.YthiidgicibfbjaaGreatDoorLayAU
set_option linter.unusedSimpArgs false
set_option linter.unusedVariables false
set_option linter.unnecessarySimpa false
set_option maxRecDepth 100000
set_option maxHeartbeats 400000
section
namespace Go.Av.F
open Go Go.Av Go.Proofs Go.Proofs.Tryz
theorem qjV (d:DK) (hd:DkT d) (c:CO) (h:CoT c):CV prog 110 [.agg d.row,.agg c.row] (.bool (qbr d && qak c && decide (13<d.s0.length))):=by
 have c1:=qgk d hd;have c2:=qgZ c h;have hl:=hd.l0;simp only[DK.row,CO.row]at c1 c2;refine cvx func110 [] ntmps110 rfl rfl rfl ?_ (hca:=by simp[DK.row,qb3]);simp[DK.row,CO.row];refine c1.call ?_;cases qbr d with
 | false=>simp
 | true =>
  simp[DK.row,CO.row];refine c2.call ?_;cases qak c with
  | false=>simp
  | true =>
   simp[DK.row,CO.row];omega
def qFr (d:DK) (c:CO) (r:AV) (L':List (Nat×Ob)):Prop :=
 (qdf d c=false∧r=.tup [.nilp,.bool false]∧L'=[])∨(qdf d c=true∧r=.tup [.ptr 1000 0 0,.bool true]∧L'=cmL d c (qaV c d.s0.length) 0 1003 1006)
theorem qD8 (d:DK) (hd:qbr d=true) (c:CO) (h:CoT c) (hc:qak c=true):ACall prog 111 [.agg d.row,.agg c.row] [] (qFr d c):=by
 obtain⟨hm,k1,k2,k3,k4,k5,k6,k7⟩:=qbn hc;obtain⟨g1,g2,g3,g4,_⟩:=qbM hd;have c1:=qoT c h hc d.s0.length (by omega);have c2:=qsb c h hc;have c3:=qiX d (qeA hd);have c4:=qmg c h;have hfl:=qmq c d.s0.length;have hmay:qdf d c=(decide (c.txg<1000000) && decide (qcu c≤(qaV c d.s0.length).length)):=rfl;generalize hF:qaV c d.s0.length=F at *
 generalize qcu c=N at *
 have key:ACall prog 111 [.agg d.row,.agg c.row] [] (fun r L'=>(qdf d c=false∧r=.tup [.nilp,.bool false]∧L'=[])∨(qdf d c=true∧r=.tup [.ptr 29 0 0,.bool true] ∧
   L'=[(29,⟨17,[[.sl 801 0 d.s0.length,.sl 802 0 d.s1.length,.sl 803 0 d.late.length,.int .i64 c.txg,.sl 804 0 c.sets.length,.sl 805 0 c.ddt.length,.sl 806 0 c.parts.length,.bool c.dirty,.sl 807 0 c.safe.length,.int .i64 c.logn,.sl 808 0 F.length,.nils,.nils,.nils,.nils,.nils,.nils]]⟩),
    (801,qas d.s0),(802,qas d.s1),(803,qcE d.late),(804,kcs c.sets),(805,qaN c.ddt),(806,kpt c.parts),(807,kin c.safe),(808,kin F)])):=by
  refine acx func111 [(4,[zJ 0 [2] [],zJ 2 [3] [2],zJ 4 [] [2,3],zJ 1 [] [3],zI 3,zI 5,zI 6,zI 7,zI 8])] ntmps111 rfl rfl rfl ?_;simp only[DK.row,CO.row]at c1 c2 c3 c4;simp[DK.row,CO.row,show(0:Nat)<d.s0.length by omega];refine qac [] (by kernel_rfl) c1 (by simp[qa1,DE.row,PT.row,qad]) (by simp) trivial (by simp) (by simp) ?_;rintro r L' ⟨rfl,rfl⟩;refine⟨[(900,808)],⟨by simp,by simp,by simp,by simp,by simp⟩,?_⟩;simp only[qaf];by_cases q1:c.txg=1000000
  ·rw[show qdf d c=false by rw[hmay];simp;omega];simp[DK.row,CO.row,q1]
  ·simp[DK.row,CO.row,q1];refine c2.call ?_;by_cases q2:F.length<N
   ·rw[show qdf d c=false by rw[hmay];simp;omega];simp[show(F.length:Int)<N by omega]
   ·rw[show qdf d c=true by rw[hmay];simp;omega];simp[show ¬ (F.length:Int)<N by omega];refine qac [] (by kernel_rfl) c3 (by simp[qai,LT.row]) (by simp) trivial (by simp) (by simp) ?_;rintro r L' ⟨rfl,rfl⟩;refine⟨[(6,801),(10,802),(14,803)],⟨by simp,by simp,by simp,by simp,by simp⟩,?_⟩;simp only[qaf];simp;refine qac [] (by kernel_rfl) c4 (by simp[qa1,DE.row,PT.row,qad]) (by simp) trivial (by simp) (by simp) ?_;rintro r L' ⟨rfl,rfl⟩;refine⟨[(5,804),(8,805),(11,806),(14,807)],⟨by simp,by simp,by simp,by simp,by simp⟩,?_⟩;simp only[qaf];simp[qcA]
 refine key.can ?_;rintro r L' (⟨h1,rfl,rfl⟩ | ⟨h1,rfl,rfl⟩)
 ·refine⟨[],by simp,by simp,by simp,by simp,.inl ⟨h1,by simp,by simp⟩⟩
 ·refine⟨[(29,1000),(801,1001),(802,1002),(803,1003),(804,1004),(805,1005),(806,1006),(807,1007),(808,1008)],by simp,by simp,by simp,by simp,.inr ⟨h1,by simp,?_⟩⟩;rw[hF];simp[cmL,cmR,qah]
theorem qrI:∀ (m:List PT),noL (m.flatMap PT.row)=true
 | []=>rfl
 | p::r=>by
  rw[qIn,qfo,qrI r];rfl
theorem qhx (s:CS):noL s.row=true:=by
 have e:s.row=[.str s.name,.int .i64 s.kind,.str s.frm]++(s.map.flatMap PT.row++(s.home.row++[.bool s.dirty])):=by simp[CS.row]
 rw[e,qfo,qfo,qrI];rfl
def cdQ (R:DK×CO×Int) (r:AV) (L':List (Nat×Ob)):Prop :=
 (R.2.2=5∧r=.tup [.agg [.nils,.nils,.nils],.agg [.int .i64 0,.nils,.nils,.nils,.bool false,.nils,.int .i64 0],.int .i64 5]∧L'=[]) ∨
 (r=.tup [.agg (qcF R.1 901 902 903),qcA R.2.1 904 905 906 907,.int .i64 R.2.2]∧L'=[(901,qas R.1.s0),(902,qas R.1.s1),(903,qcE R.1.late),(904,kcs R.2.1.sets),(905,qaN R.2.1.ddt),(906,kpt R.2.1.parts),(907,kin R.2.1.safe)])
theorem qt8 (d:DK) (hd:DkT d) (c:CO) (h:CoT c):ACall prog 119 [.agg d.row,.agg c.row] [] (cdQ (qbv d c)):=by
 have hcb:=@qj4 d c h;obtain⟨R,hR⟩:∃ R,qbv d c=R:=⟨_,rfl⟩;rw[hR]at hcb ⊢;unfold qbv at hR;have c0:=qjV d hd c h;have c3:=qiX d hd;have c4:=qmg c h;simp only[DK.row,CO.row]at c0 c3 c4;refine acx func119 [(5,[zJ 0 [2] [],zJ 2 [3] [2],zJ 1 [] [3],zI 3,zI 4,zI 5,zI 6]),(6,[zI 0,zI 1,zI 2,zJ 3 [800] [],zJ 5 [] [800],zJ 6 [] [800],zJ 7 [] [800],zJ 8 [800] [800],zJ 4 [801,802,813] [800],zJ 9 [804,805,816,817] [],zI 10,zI 11,zI 12])] ntmps119 rfl rfl rfl ?_;simp[DK.row,CO.row];refine c0.call ?_;by_cases hok:qbr d=false∨qak c=false∨d.s0.length≤13
 ·rw[if_pos hok]at hR;subst hR;rw[show(qbr d && qak c && decide (13<d.s0.length))=false by
   rcases hok with e | e | e
   ·rw[e];rfl
   ·rw[e];simp
   ·simp;omega]
  simp;exact⟨[],by simp,.inl ⟨rfl,rfl,rfl⟩⟩
 ·have ho:qbr d=true∧qak c=true∧13<d.s0.length:=by
   refine⟨?_,?_,?_⟩
   ·cases e:qbr d with
    | true=>rfl
    | false=>exact absurd (.inl e) hok
   ·cases e:qak c with
    | true=>rfl
    | false=>exact absurd (.inr (.inl e)) hok
   ·have:¬ d.s0.length≤13:=fun e=>hok (.inr (.inr e));omega
  obtain⟨o1,o2,o3⟩:=ho;rw[if_neg hok]at hR;rw[show(qbr d && qak c && decide (13<d.s0.length))=true by simp[o1,o2,o3]];obtain⟨hm,k1,k2,k3,k4,k5,k6,k7⟩:=qbn o2;have c5:=qD8 d o1 c h o2;simp only[DK.row,CO.row]at c5;simp[DK.row,CO.row];refine qac [] (by kernel_rfl) c5 (by simp[qai,LT.row,qa1,DE.row,PT.row,qad]) (by simp) trivial (by simp) (by simp) ?_;rintro r L' (⟨hma,rfl,rfl⟩ | ⟨hma,rfl,rfl⟩)
  ·rw[if_pos hma]at hR;subst hR;refine⟨[],⟨by simp,by simp,by simp,by simp,by simp⟩,?_⟩;simp only[qaf];simp;refine qac [] (by kernel_rfl) c3 (by simp[qai,LT.row]) (by simp) trivial (by simp) (by simp) ?_;rintro r L' ⟨rfl,rfl⟩;refine⟨[(6,901),(10,902),(14,903)],⟨by simp,by simp,by simp,by simp,by simp⟩,?_⟩;simp only[qaf];simp;refine qac [] (by kernel_rfl) c4 (by simp[qa1,DE.row,PT.row,qad]) (by simp) trivial (by simp) (by simp) ?_;rintro r L' ⟨rfl,rfl⟩;refine⟨[(5,904),(8,905),(11,906),(14,907)],⟨by simp,by simp,by simp,by simp,by simp⟩,?_⟩;simp only[qaf];simp[qcA];exact⟨[(901,qas d.s0),(902,qas d.s1),(903,qcE d.late),(904,kcs c.sets),(905,qaN c.ddt),(906,kpt c.parts),(907,kin c.safe)],by simp,.inr ⟨rfl,rfl⟩⟩
  ·rw[if_neg (by simp[hma])]at hR;have hma2:=hma;simp only[qdf,Bool.and_eq_true,decide_eq_true_eq]at hma2;have c6:=qD7 d o1 c h o2 hma2.2 hma2.1;refine⟨[(1000,800),(1001,801),(1002,802),(1003,803),(1004,804),(1005,805),(1006,806),(1007,807),(1008,808)],⟨by simp[cmL],by simp,by simp,by simp[cmL],by simp⟩,?_⟩;simp only[qaf];simp[cmL,cmR];refine qac [(1000,.whole 800),(1001,.whole 801),(1002,.whole 802),(1003,.whole 803),(1004,.whole 804),(1005,.whole 805),(1006,.whole 806),(1007,.whole 807),(1008,.whole 808)] (by kernel_rfl) c6 (by simp) (by simp) (by simp[cmL,cmR];exact⟨.inr ⟨_,_,rfl,rfl,by simp⟩,qaa rfl (qaO _),qaa rfl (qaO _),qaa rfl (qcU _),qaa rfl (qa5 _),qaa rfl (qbK _),qaa rfl (qbq _),qaa rfl (qaP _),qaa rfl (qaP _)⟩) (by simp[cmL]) (by simp) ?_;rintro r L' (⟨h1,rfl,c',j,rfl⟩ | ⟨h1,rfl,D,c',j,i3,i7,h3,h7,rfl,hq⟩)
   ·have h7:(qd3 d c).2.2=7:=by unfold qd3;rw[if_pos h1]
    rw[if_pos (by rw[h7];decide),h7]at hR;subst hR;refine⟨[(903,813),(906,816),(911,821),(912,822),(913,823)],⟨by simp[cmO],by simp,by simp,by simp[cmO],by simp⟩,?_⟩;simp only[qaf];simp[cmO,cmT,qcF];refine qac [] (by kernel_rfl) c3 (by simp[qai,LT.row]) (by simp) trivial (by simp) (by simp) ?_;rintro r L' ⟨rfl,rfl⟩;refine⟨[(6,901),(10,902),(14,903)],⟨by simp,by simp,by simp,by simp,by simp⟩,?_⟩;simp only[qaf];simp;refine qac [] (by kernel_rfl) c4 (by simp[qa1,DE.row,PT.row,qad]) (by simp) trivial (by simp) (by simp) ?_;rintro r L' ⟨rfl,rfl⟩;refine⟨[(5,904),(8,905),(11,906),(14,907)],⟨by simp,by simp,by simp,by simp,by simp⟩,?_⟩;simp only[qaf];simp[qcA];exact⟨[(901,qas d.s0),(902,qas d.s1),(903,qcE d.late),(904,kcs c.sets),(905,qaN c.ddt),(906,kpt c.parts),(907,kin c.safe)],by simp,.inr ⟨rfl,rfl⟩⟩
   ·simp only[qHq,qHz,or_false]at h3 h7;subst h3;subst h7;refine⟨[(903,813),(906,816),(907,817),(911,821),(912,822),(913,823),(921,831),(922,832),(923,833)],⟨by simp[cmO,qjl],by simp,by simp,by simp[cmO,qjl],by simp⟩,?_⟩;simp only[qaf];by_cases q:(qd3 d c).2.2=0
    ·rw[if_neg (by simp[q])]at hR;obtain⟨rfl,rfl⟩:=hq q;have hz:=hcb (by rw[← hR];exact q);subst hR;generalize qd3 d c=Z at *
     obtain⟨zd,zc,zn⟩:=Z;simp only at q hz;subst q;have c7:=qiX zd (qeA hz.2.2.1);have c8:=qmg zc hz.2.2.2.2.1;simp only[DK.row,CO.row]at c7 c8;simp[cmO,cmT,qjl,qcF];refine qaS [] (by kernel_rfl) c7 (by simp[qb5,mtA,qas,qcE,qal,qai,LT.row]) (by simp) trivial (by simp) (by simp) ?_;rintro r L' ⟨rfl,rfl⟩;refine⟨by simp,by simp[qas,qai,qcE,LT.row],[(6,901),(10,902),(14,903)],⟨by simp,by simp,by simp,by simp,by simp⟩,?_⟩;simp only[qaf];simp;refine qaS [] (by kernel_rfl) c8 (by simp[qb5,mtA,kcs,qaN,kpt,kin,qal,qa1]) (by simp) trivial (by simp) (by simp) ?_;rintro r L' ⟨rfl,rfl⟩;refine⟨by simp[qcA],by simp[kcs,qaN,kpt,kin,qad,DE.row,PT.row,qhx],[(5,904),(8,905),(11,906),(14,907)],⟨by simp,by simp,by simp,by simp,by simp⟩,?_⟩;simp only[qaf];simp[qcA];exact⟨[(901,qas zd.s0),(902,qas zd.s1),(903,qcE zd.late),(904,kcs zc.sets),(905,qaN zc.ddt),(906,kpt zc.parts),(907,kin zc.safe)],by simp,.inr ⟨rfl,rfl⟩⟩
    ·have h7:(qd3 d c).2.2=7:=by
      unfold qd3 at q ⊢;split
      ·rfl
      ·rename_i g1;rw[if_neg g1]at q;split
       ·rfl
       ·rename_i g2;rw[if_neg g2]at q;simp at q
     rw[if_pos q]at hR;subst hR;generalize qd3 d c=Z at *
     obtain⟨zd,zc,zn⟩:=Z;simp only at q h7;subst h7;simp[cmO,cmT,qjl,qcF,q];refine qac [] (by kernel_rfl) c3 (by simp[qai,LT.row]) (by simp) trivial (by simp) (by simp) ?_;rintro r L' ⟨rfl,rfl⟩;refine⟨[(6,901),(10,902),(14,903)],⟨by simp,by simp,by simp,by simp,by simp⟩,?_⟩;simp only[qaf];simp;refine qac [] (by kernel_rfl) c4 (by simp[qa1,DE.row,PT.row,qad]) (by simp) trivial (by simp) (by simp) ?_;rintro r L' ⟨rfl,rfl⟩;refine⟨[(5,904),(8,905),(11,906),(14,907)],⟨by simp,by simp,by simp,by simp,by simp⟩,?_⟩;simp only[qaf];simp[qcA];exact⟨[(901,qas d.s0),(902,qas d.s1),(903,qcE d.late),(904,kcs c.sets),(905,qaN c.ddt),(906,kpt c.parts),(907,kin c.safe)],by simp,.inr ⟨rfl,rfl⟩⟩
theorem qk8 {q:Int}:∀ {l:List DE},(∀ e∈l,q<e.ea∧qcb e=true)→l.Pairwise (fun a b=>a.ea<b.ea)→qgv q l=true
 | [],_,_=>rfl
 | x::r,h,hp=>by
  rw[qI0]at hp;have hx:=h x (by simp);simp only[qgv,Bool.and_eq_true,decide_eq_true_eq];exact⟨⟨hx.2,hx.1⟩,qk8 (fun e he=>⟨hp.1 e he,(h e (by simp[he])).2⟩) hp.2⟩
theorem qhj {q:Int}:∀ {l:List DE},qgv q l=true→l.Pairwise (fun a b=>a.ea<b.ea)
 | [],_=>.nil
 | x::r,h=>by
  simp only[qgv,Bool.and_eq_true,decide_eq_true_eq]at h;rw[qI0];exact⟨fun e he=>((qck h.2).1 e he).1,qhj h.2⟩
theorem qmC {l:List DE} (h:qam l=true) (a:Int):(∀ e∈l.take (ddP l a),e.ea<a)∧(∀ e∈l.drop (ddP l a),a≤e.ea):=by
 simp only[qam,Bool.and_eq_true,decide_eq_true_eq]at h;obtain⟨h1,h2⟩:=qck h.2;have hu:UpC (fun e:DE=>e.ea-a) l:=fun i j x y hij hx hy hc=>by
  have:=h2 i j x y hij hx hy
  first | omega | (simp only at hc ⊢;omega)
 refine⟨fun e he=>?_,fun e he=>?_⟩
 ·obtain⟨i,hi⟩:=qIW.1 he;rw[qFV]at hi;split at hi
  ·rename_i hlt;rcases Int.lt_or_le (e.ea-a) 0 with h3 | h3
   ·omega
   ·have:=qj8 (c:=fun e:DE=>e.ea-a) hi (by simpa using h3);unfold ddP at hlt;omega
  ·cases hi
 ·obtain⟨i,hi⟩:=qIW.1 he;rw[qGr]at hi;rcases Int.lt_or_le (e.ea-a) 0 with h3 | h3
  ·have:=qmM hu hi h3;unfold ddP at this;omega
  ·omega
theorem qla {l:List DE} (h:qam l=true) {a:Int} (hT:ddT l a=false):∀ e∈l,e.ea≠a:=by
 intro e he hea;have hs:=qmC h a;rw[← List.take_append_drop (ddP l a) l]at he;rcases qHs.1 he with he | he
 ·have:=hs.1 e he;omega
 ·unfold ddT bsT at hT;obtain⟨i,hi⟩:=qIW.1 he;rw[qGr]at hi;simp only[qam,Bool.and_eq_true,decide_eq_true_eq]at h;obtain⟨h1,h2⟩:=qck h.2;cases hx:l[bsK (fun e=>e.ea-a) l]? with
  | none =>
   have:=qIX.1 hx;have:=(qGy.1 hi).1;unfold ddP at *
   omega
  | some y =>
   rw[hx]at hT;have hy:y.ea≠a:=by
    intro e;simp[e]at hT
   have hm:y∈l.drop (ddP l a):=qIW.2 ⟨0,by rw[qGr];exact hx⟩;have h3:=hs.2 y hm;by_cases hi0:i=0
   ·subst hi0;rw[qGY]at hi;unfold ddP at hi;rw[hx]at hi;injection hi with hi;exact hy (hi ▸ hea)
   ·have:=h2 (ddP l a) (ddP l a+i) y e (by omega) hx hi;omega
theorem qo6 {l:List DE} (h:qam l=true) {k:Nat} {e e':DE} (he:l[k]?=some e) (h1:e'.ea=e.ea) (h2:qcb e'=true):qam (l.set k e')=true:=by
 simp only[qam,Bool.and_eq_true,decide_eq_true_eq,qGP]at h ⊢;refine⟨h.1,?_⟩;have hp:=qhj h.2;obtain⟨g1,_⟩:=qck h.2;refine qk8 (fun x hx=>?_) ?_
 ·rcases qIi hx with hx | rfl
  ·exact g1 x hx
  ·exact⟨by rw[h1];exact(g1 e (qHT he)).1,h2⟩
 ·have hm:(l.set k e').map DE.ea=l.map DE.ea:=by
   rw[qH5,h1];apply qIp;intro i;rw[qGZ];split
   ·rename_i hki;subst hki;split
    ·simp[he]
    ·rename_i hlt;exact absurd (by simpa using (qGy.1 he).1) hlt
   ·rfl
  have e1:(l.map DE.ea).Pairwise (· < ·):=List.pairwise_map.2 hp;rw[← hm]at e1;exact List.pairwise_map.1 e1
theorem qo7 {l:List DE} (h:qam l=true) {s a:Int} (ho:(qb2 l s a).2=true):qam (qb2 l s a).1=true:=by
 have h':=h;simp only[qam,Bool.and_eq_true,decide_eq_true_eq]at h';have hp:=qhj h'.2;obtain⟨g1,_⟩:=qck h'.2;unfold qb2 at ho ⊢;rw[if_neg (by simp[h])]at ho ⊢;cases hen:qcb ⟨s,a,1⟩with
 | false=>rw[if_pos hen]at ho;cases ho
 | true =>
  rw[if_neg (by simp[hen])]at ho ⊢;cases hT:ddT l a with
  | true =>
   rw[if_pos hT]at ho;rw[if_pos rfl];cases he:l[ddP l a]? with
   | none=>rw[he]at ho;cases ho
   | some e =>
    rw[he]at ho;simp only at ho ⊢;by_cases hq:e.es≠s∨e.ec=1000
    ·rw[if_pos hq]at ho;cases ho
    ·rw[if_neg hq];refine qo6 h he rfl ?_;have:=(g1 e (qHT he)).2;simp only[qcb,Bool.and_eq_true,decide_eq_true_eq]at this ⊢;omega
  | false =>
   rw[if_neg (by simp[hT])]at ho;rw[if_neg (by simp)];by_cases hl:l.length=48
   ·rw[if_pos hl]at ho;cases ho
   ·rw[if_neg hl];have hs:=qmC h a;have hne:=qla h hT;have hsp:=qHX (ddP l a) l;have hp2:(l.take (ddP l a)++l.drop (ddP l a)).Pairwise (fun a b=>a.ea<b.ea):=by rw[hsp];exact hp
    rw[qI1]at hp2;have hk:=qmD l a;simp only[qam,Bool.and_eq_true,decide_eq_true_eq];refine⟨by simp;omega,qk8 (fun x hx=>?_) ?_⟩
    ·rcases qHs.1 hx with hx | hx
     ·exact g1 x (qHP hx)
     ·rcases qHq.1 hx with rfl | hx
      ·simp only[qcb,Bool.and_eq_true,decide_eq_true_eq]at hen;exact⟨by simp only;omega,by simp[qcb];omega⟩
      ·exact g1 x (qIh hx)
    ·rw[qI1,qI0];refine⟨hp2.1,⟨fun y hy=>?_,hp2.2.1⟩,fun x hx y hy=>?_⟩
     ·have:=hs.2 y hy;have:=hne y (qIh hy);simp only;omega
     ·rcases qHq.1 hy with rfl | hy
      ·exact hs.1 x hx
      ·exact hp2.2.2 x hx y hy
theorem qmE {l:List DE} (h:qam l=true) {a:Int} (ho:(qbo l a).2=true):qam (qbo l a).1=true:=by
 have h':=h;simp only[qam,Bool.and_eq_true,decide_eq_true_eq]at h';have hp:=qhj h'.2;obtain⟨g1,_⟩:=qck h'.2;unfold qbo at ho ⊢;rw[if_neg (by simp[h])]at ho ⊢;cases hT:ddT l a with
 | false=>rw[if_pos hT]at ho;cases ho
 | true =>
  rw[if_neg (by simp[hT])]at ho;rw[if_neg (by simp)];cases he:l[ddP l a]? with
  | none=>rw[he]at ho;cases ho
  | some e =>
   simp only;by_cases hq:e.ec=1
   ·rw[if_pos hq];have hsub:(l.take (ddP l a)++l.drop (ddP l a+1)).Sublist l:=by
     conv=>rhs;rw[← List.take_append_drop (ddP l a) l]
     refine List.Sublist.append (List.Sublist.refl _) ?_;rw[← List.drop_drop];exact List.drop_sublist _ _
    have hl:=hsub.length_le;simp only[qam,Bool.and_eq_true,decide_eq_true_eq];exact⟨by omega,qk8 (fun x hx=>g1 x (hsub.subset hx)) (hp.sublist hsub)⟩
   ·rw[if_neg hq];refine qo6 h he rfl ?_;have:=(g1 e (qHT he)).2;simp only[qcb,Bool.and_eq_true,decide_eq_true_eq]at this ⊢;omega
theorem qro {l:List DE} (h:qam l=true) {more:Bool} {p:PT} (ho:(qhL more l p).2=true):qam (qhL more l p).1=true:=by
 unfold qhL at ho ⊢;split
 ·rename_i e;rw[if_pos e]at ho;exact qo7 h ho
 ·rename_i e;rw[if_neg e]at ho;exact qmE h ho
theorem qga (more:Bool):∀ (m:List PT) (l:List DE) (b:Bool),(qbL more m (l,b,false)).2.2=false
 | [],l,b=>rfl
 | p::q,l,b=>by
  simp only[qbL];split
  ·exact qga more q l b
  ·simp only[qI2];exact qga more q _ true
theorem qkx (more:Bool):∀ (m:List PT) (l:List DE) (b:Bool),qam l=true→(qbL more m (l,b,true)).2.2=true→qam (qbL more m (l,b,true)).1=true
 | [],l,b,h,_=>h
 | p::q,l,b,h,ho=>by
  simp only[qbL]at ho ⊢;split
  ·rename_i e;rw[if_pos e]at ho;exact qkx more q l b h ho
  ·rename_i e;rw[if_neg e]at ho;simp only[qIe]at ho ⊢;cases hq:(qhL more l p).2 with
   | false=>rw[hq,qga]at ho;cases ho
   | true =>
    rw[hq]at ho;exact qkx more q _ true (qro h hq) ho
def qcv (c:CO) (i1 i2:Nat):List (Nat×Ob):=[(1000,⟨7,[[.int .i64 c.txg,.sl i1 0 c.sets.length,.sl i2 0 c.ddt.length,.sl 1003 0 c.parts.length,.bool c.dirty,.sl 1004 0 c.safe.length,.int .i64 c.logn]]⟩),(i1,kcs c.sets),(i2,qaN c.ddt),(1003,kpt c.parts),(1004,kin c.safe)]
def qE9 (xs:List Nat) (c:CO) (R:List DE×Bool×Bool) (r:AV) (L':List (Nat×Ob)):Prop:=∃ l b i2,i2∈xs∧r=.bool R.2.2∧L'=qcv ⟨c.txg,c.sets,l,c.parts,b,c.safe,c.logn⟩ 1001 i2∧(R.2.2=true→l=R.1∧b=R.2.1)
theorem qsh (c:CO) (hd:qam c.ddt=true) (m:List PT) (hm:∀ p∈m,0≤p.pa∧p.pa≤1000) (hml:m.length≤1000) (more:Bool) :
  ACall prog 223 [.ptr 1000 0 0,.lst 3 (m.map PT.row),.bool more] (qcv c 1001 1002) (qE9 [902] c (qbL more m (c.ddt,c.dirty,true))):=by
 obtain⟨R,hR⟩:∃ R,qbL more m (c.ddt,c.dirty,true)=R:=⟨_,rfl⟩;rw[hR];have key:ACall prog 223 [.ptr 1000 0 0,.lst 3 (m.map PT.row),.bool more] (qcv c 1001 1002) (qE9 [902,33,46] c R):=by
  refine acx func223 [(8,[zI 0,zI 1,zI 2,zI 3,zJ 4 [1000] [],zJ 5 [] [1000],zJ 6 [8] [1000],zJ 7 [] [1000,8],zJ 8 [8] [1000,8],zJ 9 [902] [],zI 10,zI 11,zI 12,zI 13,zI 14,zI 15,zI 16]),(9,[zI 0,zI 1,zI 2,zI 3,zJ 4 [1000] [],zJ 5 [] [1000],zJ 6 [8] [1000],zJ 7 [902] [],zI 8,zI 9,zI 10,zI 11,zI 12,zI 13,zI 14])] ntmps223 rfl rfl rfl ?_ (hL:=by simp[qcv]);simp[qcv];refine qaM (X:=Nat×List DE×Bool) [0,2,10,11,12] [(1000,1000),(1001,1001),(1002,902),(1003,1003),(1004,1004)] (fun x=>[(12,.int .i64 x.1)]) (fun x=>qcv ⟨c.txg,c.sets,x.2.1,c.parts,x.2.2,c.safe,c.logn⟩ 1001 902) (fun x=>m.length-x.1)
   (fun x=>x.1≤m.length∧qam x.2.1=true∧qbL more (m.drop x.1) (x.2.1,x.2.2,true)=R) (0,c.ddt,c.dirty) ⟨by simp,hd,by simpa using hR⟩ ?_ (he:=by simp[qah,qcv])
  rintro⟨i,l,b⟩ ⟨hi,hok,hx⟩;simp only at hi hok hx;cases hr:m.drop i with
  | nil =>
   have:=qaY hr;rw[hr]at hx;have hie:i=m.length:=by omega
   subst hie;simp only[qbL]at hx;simp[qah,qcv];exact⟨qcv ⟨c.txg,c.sets,l,c.parts,b,c.safe,c.logn⟩ 1001 902,by simp[qcv],l,b,902,by simp,by rw[← hx],rfl,fun _=>by rw[← hx];exact⟨rfl,rfl⟩⟩
  | cons p q =>
   obtain⟨k1,e0,e1,k3⟩:=qaZ hr;rw[hr]at hx;have hpm:=hm p (qHT e1);have e2:=qap ((i:Int)+1) (by omega) (by omega);have hli:(i:Int)<m.length:=by omega
   by_cases h0:p.pa=0
   ·rw[qbL,if_pos h0]at hx;simp[qah,qcv,k1,e0,e1,hli,PT.row,h0];exact nx (i+1,l,b) [(1000,1000),(1001,1001),(902,902),(1003,1003),(1004,1004)] ⟨by simp only;omega,hok,by simp only[k3];exact hx⟩ (by simp only;omega) (h4:=by simp[qah,e2,qcv])
   ·rw[qbL,if_neg h0]at hx;simp only[qIe]at hx;have hrok:=@qro l hok more p;cases more with
    | true =>
     have c1:=qEf l hok p.ps p.pa;simp only[qhL,if_true]at hx hrok;generalize qb2 l p.ps p.pa=W at *
     obtain⟨l',o⟩:=W;simp only at hx hrok;simp[qah,qcv,k1,e0,e1,hli,PT.row,h0];refine qaS [] (by kernel_rfl) c1 (by simp[qb5,mtA,qaN,qal,DE.row]) (by simp) trivial (by simp) (by simp) ?_;rintro r L' ⟨rfl,rfl⟩;refine⟨by simp,by simp[qaN,DE.row],[(900,33)],⟨by simp,by simp,by simp,by simp,by simp⟩,?_⟩;simp only[qaf];simp;cases o with
     | false =>
      have hno:=qga true q l' true;rw[hx]at hno;simp;exact⟨qcv ⟨c.txg,c.sets,l',c.parts,true,c.safe,c.logn⟩ 1001 33,by simp[qcv],l',true,33,by simp,by rw[hno],rfl,fun e=>by rw[hno]at e;cases e⟩
     | true =>
      simp;exact nx (i+1,l',true) [(1000,1000),(1001,1001),(33,902),(1003,1003),(1004,1004)] ⟨by simp only;omega,hrok rfl,by simp only[k3];exact hx⟩ (by simp only;omega) (h4:=by simp[qah,e2,qcv])
    | false =>
     have c1:=qBq l hok p.pa hpm;simp only[qhL,qFY,if_false]at hx hrok;generalize qbo l p.pa=W at *
     obtain⟨l',o⟩:=W;simp only at hx hrok;simp[qah,qcv,k1,e0,e1,hli,PT.row,h0];refine qaS [] (by kernel_rfl) c1 (by simp[qb5,mtA,qaN,qal,DE.row]) (by simp) trivial (by simp) (by simp) ?_;rintro r L' ⟨rfl,rfl⟩;refine⟨by simp,by simp[qaN,DE.row],[(900,46)],⟨by simp,by simp,by simp,by simp,by simp⟩,?_⟩;simp only[qaf];simp;cases o with
     | false =>
      have hno:=qga false q l' true;rw[hx]at hno;simp;exact⟨qcv ⟨c.txg,c.sets,l',c.parts,true,c.safe,c.logn⟩ 1001 46,by simp[qcv],l',true,46,by simp,by rw[hno],rfl,fun e=>by rw[hno]at e;cases e⟩
     | true =>
      simp;exact nx (i+1,l',true) [(1000,1000),(1001,1001),(46,902),(1003,1003),(1004,1004)] ⟨by simp only;omega,hrok rfl,by simp only[k3];exact hx⟩ (by simp only;omega) (h4:=by simp[qah,e2,qcv])
 refine key.can ?_;rintro r L' ⟨l,b,i2,h2,rfl,rfl,hq⟩;refine⟨[(1000,1000),(1001,1001),(i2,902),(1003,1003),(1004,1004)],?_,?_,?_,?_,l,b,902,by simp,by simp,?_,hq⟩
 all_goals
  simp only[qHq,qHz,or_false]at h2;rcases h2 with rfl | rfl | rfl
 all_goals simp[qcv,qah]
theorem qBf (s:CS) (h8:s.map.length=8) (n:List UInt8):CV prog 290 [.agg s.row,.str n] (.int .i64 (Lib.compareBytes s.name n)):=by
 have c1:=qf0 (qpc s.name n);have hs0:s.row[0]?=some (.str s.name):=rfl;refine cvx func290 [] ntmps290 rfl rfl rfl ?_ (hca:=by simp[qa1]);simp[qaC s h8,hs0];refine c1.call ?_;simp
theorem qAP (l:List CS) (n:List UInt8):bsK (fun s:CS=>Lib.compareBytes s.name n) l=nmP l n:=by
 unfold bsK nmP
 congr 2
 funext s
 exact qlj s.name n
theorem qwM {l:List CS} (h:Srt (l.map csB)) (n:List UInt8):UpC (fun s:CS=>Lib.compareBytes s.name n) l:=by
 intro i j a b hij ha hb hc;have h1:=h i j (csB a) (csB b) hij (by simp[ha]) (by simp[hb]);have h2:Op.bytesLess b.name n=true:=by rw[← qlj];simpa using hc
 have h3:=qig (a:=a.name) (b:=b.name) (c:=n) h1 h2;rw[← qlj]at h3;simpa using h3
theorem qxU (l:List CS) (h8:∀ s∈l,s.map.length=8) (hl:l.length≤1048576) (hS:Srt (l.map csB)) (n:List UInt8) :
  CV prog 289 [.lst 31 (l.map CS.row),.str n,.fn 290 []] (.tup [.int .i64 (nmP l n:Nat),.bool (bsT (fun s:CS=>Lib.compareBytes s.name n) l)]):=by
 rw[← qAP];refine cvx func289 [] ntmps289 rfl rfl rfl ?_;exact qB3 qAm qpp (fun s:CS=>Lib.compareBytes s.name n) l (by omega) (fun x hx=>qaC x (h8 x hx)) (qwM hS n) (by simp) fun x hx=>qBf x (h8 x hx) n
theorem qD6 (c:CO) (h8:∀ s∈c.sets,s.map.length=8) (hl:c.sets.length≤1048576) (hS:Srt (c.sets.map csB)) (n:List UInt8) :
  ACall prog 222 [.ptr 1000 0 0,.str n] (qcv c 1001 1002) (fun r L'=>r=.int .i64 (nmP c.sets n:Nat)∧L'=qcv c 1001 1002):=by
 have c1:=qxU c.sets h8 hl hS n;refine acx func222 [] ntmps222 rfl rfl rfl ?_ (hL:=by simp[qcv]);simp[qcv];refine c1.view (by simp[qb5,mtA,kcs,qal,qa1]) ?_;simp
def qeL (d:DK) (c:CO) (up:Bool) (a0 a1 a2 b0 b1 b2 b3:Nat):List AV:=[.sl a0 0 d.s0.length,.sl a1 0 d.s1.length,.sl a2 0 d.late.length,.int .i64 c.txg,.sl b0 0 c.sets.length,.sl b1 0 c.ddt.length,.sl b2 0 c.parts.length,.bool c.dirty,.sl b3 0 c.safe.length,.int .i64 c.logn,.bool up]
def qcq (d:DK) (c:CO) (up:Bool) (a0 a1 a2 b0 b1 b2 b3:Nat):List (Nat×Ob):=[(1000,⟨11,[qeL d c up a0 a1 a2 b0 b1 b2 b3]⟩),(a0,qas d.s0),(a1,qas d.s1),(a2,qcE d.late),(b0,kcs c.sets),(b1,qaN c.ddt),(b2,kpt c.parts),(b3,kin c.safe)]
def poQ (R:DK×CO×Int) (up:Bool) (r:AV) (L':List (Nat×Ob)):Prop:=∃ d' c',r=.int .i64 R.2.2∧L'=qcq d' c' up 901 902 903 904 905 906 907∧(R.2.2=0→d'=R.1∧c'=R.2.1)
theorem qsa (d:DK) (hd:DkT d) (c:CO) (h:CoT c) (up:Bool):ACall prog 53 [.ptr 1000 0 0] (qcq d c up 1001 1002 1003 1004 1005 1006 1007) (poQ (qbv d c) up):=by
 have cc:=qt8 d hd c h;generalize qbv d c=R at *
 obtain⟨D,C,n⟩:=R;simp only[DK.row,CO.row]at cc;have key:ACall prog 53 [.ptr 1000 0 0] (qcq d c up 1001 1002 1003 1004 1005 1006 1007) (fun r L'=>(n≠0∧r=.int .i64 n∧L'=qcq d c up 1001 1002 1003 1004 1005 1006 1007)∨(n=0∧r=.int .i64 0∧L'=qcq D C up 901 902 903 904 905 906 907)):=by
  refine acx func53 [(1,[zI 0,zI 1,zI 2,zJ 3 [1000] [],zJ 4 [] [1000],zJ 5 [] [1000],zJ 6 [] [1000],zJ 7 [1000] [1000],⟨8,[1001,1002,1003,1004,1005,1006,1007],[],[13,14],[]⟩,zI 9,zI 10,zI 11,zI 12,zJ 13 [] [1000],zJ 14 [] [1000],zI 15,zI 16,zI 17]),(3,[zI 0,zI 1,zJ 2 [3] [],zJ 3 [4] [3],zJ 4 [] [4],zJ 5 [] [4],zJ 6 [] [4],zI 7,zI 8,zI 9])] ntmps53 rfl rfl rfl ?_ (hL:=by simp[qcq]);simp[qcq,qeL];refine qaS [] (by kernel_rfl) cc (by simp[qb5,mtA,qas,qcE,kcs,qaN,kpt,kin,qal,qa1,qai,LT.row]) (by simp) trivial (by simp) (by simp) ?_;rintro r L' (⟨h1,rfl,rfl⟩ | ⟨rfl,rfl⟩)
  ·simp only at h1;subst h1;refine⟨by simp[noL],by simp,[],⟨by simp,by simp,by simp,by simp,by simp⟩,?_⟩;simp only[qaf];simp
  ·refine⟨by simp[qcA,qcF,noL],by simp[kcs,qaN,kpt,kin,qad,DE.row,PT.row,qhx,qas,qai,qcE,LT.row],[(901,901),(902,902),(903,903),(904,904),(905,905),(906,906),(907,907)],⟨by simp,by simp,by simp,by simp,by simp⟩,?_⟩;simp only[qaf];by_cases q:n=0
   ·subst q;simp[qcA,qcF]
   ·simp[qcA,qcF,q]
 refine key.can ?_;rintro r L' (⟨h1,rfl,rfl⟩ | ⟨h1,rfl,rfl⟩)
 ·refine⟨[(1000,1000),(1001,901),(1002,902),(1003,903),(1004,904),(1005,905),(1006,906),(1007,907)],by simp[qcq],by simp[qcq],by simp[qcq],by simp[qcq],d,c,by simp,?_,fun e=>absurd e h1⟩;simp[qcq,qeL,qah]
 ·refine⟨[(1000,1000),(901,901),(902,902),(903,903),(904,904),(905,905),(906,906),(907,907)],by simp[qcq],by simp[qcq],by simp[qcq],by simp[qcq],D,C,by simp[h1],?_,fun e=>⟨rfl,rfl⟩⟩;simp[qcq,qeL,qah]
def ptS (D:DK) (c:CO) (up:Bool) (op:BO) (n:Nat) (now:PT):S :=
 ⟨mkT [(0,.ptr 1000 0 0),(3,.ptr 3 0 0),(4,.int .i64 0),(5,.ptr 1000 0 3),(6,.int .i64 n),(7,.ptr 7 0 0)],qaQ ((3,⟨5,[op.row]⟩)::(7,⟨3,[now.row]⟩)::qcq D c up 1001 1002 903 1004 1005 1006 1007),Us.of [1000,1001,1002,1003,1004,1005,1006,1007,3,7,1000,1001,1002,903,1004,1005,1006,1007]⟩
def puQ (xs ys:List Nat) (R:DK×CO×Int) (up:Bool) (r:AV) (L':List (Nat×Ob)):Prop:=∃ d' c' i3 i5,i3∈xs∧i5∈ys∧r=.int .i64 R.2.2∧L'=qcq d' c' up 1001 1002 i3 1004 i5 1006 1007∧(R.2.2=0→d'=R.1∧c'=R.2.1)
theorem ql5 (more:Bool) (p:PT) (l:List DE) (b:Bool):qbL more (qhN p) (l,b,true)=qbL more [p] (l,b,true):=by
 have e:∀ (q:List PT) x,qbL more (p::q) x=if p.pa=0 then qbL more q x else qbL more q ((qhL more x.1 p).1,true,x.2.2 && (qhL more x.1 p).2):=fun q x=>rfl
 unfold qhN;rw[e,e];split <;> rfl
theorem qms (d:DK) (text:List UInt8):∀ (l:List DE),qhc d text l=0∨∃ e∈l,e.ea=qhc d text l
 | []=>.inl rfl
 | e::r=>by
  simp only[qhc];split
  ·exact .inr ⟨e,by simp,rfl⟩
  ·rcases qms d text r with h | ⟨x,hx,h⟩
   ·exact .inl h
   ·exact .inr ⟨x,by simp[hx],h⟩
theorem qpR (d:DK) (l:List DE) (text:List UInt8):qdR d l text=0∨(1≤qdR d l text∧qdR d l text<120):=by
 unfold qdR;split
 ·rename_i h;simp only[qam,Bool.and_eq_true,decide_eq_true_eq]at h;rcases qms d text l with h2 | ⟨x,hx,h2⟩
  ·exact .inl h2
  ·have:=((qck h.2).1 x hx).2;simp only[qcb,Bool.and_eq_true,decide_eq_true_eq]at this;omega
 ·exact .inl rfl
theorem qvW {a b:Int} (t:List UInt8) (ha:1≤a∧a<120) (hb:0≤b∧b≤1000000):(qbP a t b).pa=a:=by
 have hs:=qu9 t;have h1:qaL ⟨a,smB t,b⟩=true:=by
  unfold qaL;rw[if_neg (by simp only;omega)];simp only[Bool.and_eq_true,decide_eq_true_eq];omega
 unfold qbP;rw[if_neg (by simp[h1];omega)]
theorem qux {c:CO} (h:qak c=true) {s:CS} (hs:s∈c.sets):qbp s=true:=by
 simp only[qak,Bool.and_eq_true,qGf]at h;exact h.1.1.1.1.2 s hs
theorem quu {s:CS} (h8:s.map.length=8) {i:Nat} {p:PT} (h:s.map[i]?=some p):List.take 3 (List.drop (3+i * 3) s.row)=p.row:=by
 have h1:=qhb h;have hi:=(qGy.1 h).1;rw[← qgx s h8,qHh,qHj,qHi (by omega),qGc]at h1;exact h1
theorem qBg (d:DK) (hd:qbr d=true) (c:CO) (h:CoT c) (hc:qak c=true) (up:Bool) (op:BO) (hk:nmP c.sets op.a<c.sets.length) (hi:0≤op.i∧op.i<8) (ht:op.text.length≤1000) :
  ACall prog 109 [.ptr 1000 0 0,.agg op.row] (qcq d c up 1001 1002 1003 1004 1005 1006 1007) (puQ [903] [905] (qcR d c (nmP c.sets op.a) op.i.toNat op.text) up):=by
 obtain⟨hm,k1,k2,k3,k4,k5,k6,k7⟩:=qbn hc;obtain⟨g1,g2,g3,g4,_⟩:=qbM hd;obtain⟨R,hR⟩:∃ R,qcR d c (nmP c.sets op.a) op.i.toNat op.text=R:=⟨_,rfl⟩;rw[hR];unfold qcR at hR;obtain⟨s,e1⟩:∃ s,c.sets[nmP c.sets op.a]?=some s:=⟨_,qF3 hk⟩;have e0:=(qGy.1 e1).2;rw[e1]at hR;simp only at hR;have hs8:=h.m8 s (qHT e1);have key:ACall prog 109 [.ptr 1000 0 0,.agg op.row] (qcq d c up 1001 1002 1003 1004 1005 1006 1007) (puQ [903,1003,61] [1005,101,107] R up):=by
  refine acv func109 [(7,[zI 0,zI 1,zI 2,zJ 3 [1000] [],zJ 4 [] [1000],zJ 5 [] [1000],zJ 6 [] [1000],zJ 7 [1000] [1000],zJ 8 [] [1000],zJ 9 [3] [1000],zJ 10 [1001,1002,1003,1005] [],zI 11]),(12,[zI 0,zI 1,zI 2,zI 3,zI 4,zJ 5 [3] [],zJ 6 [1000,1001,1002,1003] [],zI 7]),(14,[zI 0,zI 1,zJ 2 [3] [],zJ 3 [] [3],zJ 4 [] [3],zJ 5 [] [3],zJ 6 [1000] [3],zJ 7 [] [3],zI 8,zI 9]),(15,[zI 0,zI 1,zI 2,zJ 3 [1000] [],zJ 4 [] [1000],zJ 5 [] [1000],zJ 6 [3] [1000],zJ 7 [1000,1004,1005,1006,1007] [1000],zJ 8 [1004] [],zI 9]),(16,[zI 0,zI 1,zJ 2 [3] [],zJ 3 [] [3],zJ 4 [] [3],zJ 5 [1004] [],zJ 6 [1004] [],zJ 7 [] [3,1004],zI 8]),(21,[zI 0,zI 1,zJ 2 [3] [],zJ 3 [] [3],zJ 4 [7] [3],zJ 5 [] [3,7],zJ 6 [] [3,7],zJ 7 [1004] [],zI 8,zI 9,zI 10,zI 11])] ntmps109 rfl rfl rfl ?_ (hL:=by simp[qcq]);refine qju (qbE _ ?_);simp[qcq,qeL,BO.row];refine qju (qbE _ ?_);simp[qcq,qeL,BO.row];refine qju (qbE _ ?_);simp[qcq,qeL,BO.row,show(0:Nat)<d.s0.length by omega];refine qju (qbE _ ?_);simp[qcq,qeL,BO.row];refine qwb (X:=DK×PT) (fun x=>ptS x.1 c up op d.s0.length x.2) (fun x=>qbr x.1=true∧0≤x.2.pa∧x.2.pa≤1000∧R=if x.2.pa≠0∧x.2.pa=(s.map[op.i.toNat]?.getD zPT).pa then (x.1,c,0) else qf4 d x.1 c (nmP c.sets op.a) op.i.toNat s (s.map[op.i.toNat]?.getD zPT) x.2) ?_ ?_
  ·by_cases ht0:op.text=[]
   ·rw[if_pos ht0]at hR;simp[qcq,qeL,BO.row,ht0];exact qnH (d,zPT) ⟨hd,by simp[zPT],by simp[zPT],by rw[if_neg (by simp[zPT])];exact hR.symm⟩ (qjA [0,3,4,5,6,7] [(3,3),(7,7),(1000,1000),(1001,1001),(1002,1002),(1003,903),(1004,1004),(1005,1005),(1006,1006),(1007,1007)] (by simp[qae]) (by simp[qao,qah,ptS,qcq,qeL,BO.row,zPT,PT.row,ht0]))
   ·rw[if_neg ht0]at hR;by_cases hx:c.txg=1000000
    ·rw[if_pos hx]at hR;subst hR;simp[qcq,qeL,BO.row,ht0,hx];exact⟨qcq d c up 1001 1002 1003 1004 1005 1006 1007,by simp[qcq,qeL,hx],d,c,1003,1005,by simp,by simp,rfl,rfl,fun e=>by cases e⟩
    ·rw[if_neg hx]at hR;have cf:=qBn d (qeA hd) c.ddt op.text (by omega) (by simp[maxLen];omega);have hfr:=qpR d c.ddt op.text;unfold qdo at hR;generalize qdR d c.ddt op.text=a at *
     have cb:=qnm a op.text (c.txg+1) (by simp[maxLen];omega);have e2:=qap (c.txg+1) (by omega) (by omega);simp only[DK.row]at cf;simp[qcq,qeL,BO.row,ht0,hx];refine cf.view (by simp[qb5,mtA,qas,qcE,qaN,qal,qai,LT.row]) ?_;by_cases ha0:0<a
     ·simp only[if_pos ha0]at hR;simp[show ¬ a=0 by omega,BO.row,e2];refine cb.call ?_;simp[PT.row];have hpa:=qvW (a:=a) (b:=c.txg+1) op.text (by omega) (by omega);exact qnH (d,qbP a op.text (c.txg+1)) ⟨hd,by simp only[hpa];omega,by simp only[hpa];omega,by
       simp only[hpa];rw[← hR];simp only[ne_eq,not_true_eq_false,if_false];by_cases q:a=(s.map[op.i.toNat]?.getD zPT).pa
       ·rw[if_pos q,if_pos ⟨by omega,q⟩]
       ·rw[if_neg q,if_neg (fun e=>q e.2)]⟩ (qjA [0,3,4,5,6,7] [(3,3),(7,7),(1000,1000),(1001,1001),(1002,1002),(1003,903),(1004,1004),(1005,1005),(1006,1006),(1007,1007)] (by simp[qae]) (by simp[qao,qah,ptS,qcq,qeL,BO.row,PT.row]))
     ·have ha00:a=0:=by omega
      simp only[if_neg ha0]at hR;have cm:=qEb c h hc d.s0.length (by omega);have cfr:=qoT c h hc d.s0.length (by omega);have hfm:∀ x∈qaV c d.s0.length,13≤x∧x<d.s0.length:=fun x hx=>qi2 hx;have hmf:qpH c d.s0.length=true→0<(qaV c d.s0.length).length:=fun hm=>by
       simp only[qpH,Bool.and_eq_true,decide_eq_true_eq]at hm;omega
      simp only[CO.row]at cm cfr;clear cf cb;simp[ha00];refine cm.view (by simp[qb5,mtA,kcs,qaN,kpt,kin,qal,qa1]) ?_;cases hma:qpH c d.s0.length with
      | false =>
       rw[hma]at hR;simp only[if_true,ne_eq]at hR;rw[if_pos (by decide)]at hR;subst hR;simp;exact⟨qcq d c up 1001 1002 1003 1004 1005 1006 1007,by simp[qcq,qeL],d,c,1003,1005,by simp,by simp,rfl,rfl,fun e=>by cases e⟩
      | true =>
       have hfl:=hmf hma;rw[hma]at hR;simp only[Bool.true_eq_false,if_false]at hR;generalize qaV c d.s0.length=F at *
       obtain⟨b,F',rfl⟩:∃ b F',F=b::F':=by
        cases F with
        | nil=>simp at hfl
        | cons b F'=>exact⟨b,F',rfl⟩
       simp only[qIT]at hR;have hbm:=hfm b (by simp);have cw:=qsj d hd b op.text (by omega);have hbo:=qb4 hd b op.text;have cb:=qnm b op.text (c.txg+1) (by simp[maxLen];omega);have hpa:=qvW (a:=b) (b:=c.txg+1) op.text (by omega) (by omega);simp;refine qaS [] (by kernel_rfl) cfr (by simp[qb5,mtA,kcs,qaN,kpt,kin,qal,qa1]) (by simp) trivial (by simp) (by simp) ?_;rintro r L' ⟨rfl,rfl⟩;refine⟨by simp,by simp[kin,qad],[(900,52)],⟨by simp,by simp,by simp,by simp,by simp⟩,?_⟩;simp only[qaf];obtain⟨W,hW⟩:∃ W,qaw d b op.text=W:=⟨_,rfl⟩;simp only[hW]at hR cw hbo;clear hW;obtain⟨E,o⟩:=W;simp only at hbo;simp[kin,qad,BO.row];refine qac [(1000,.sub 1000 0 0 3),(1001,.whole 1001),(1002,.whole 1002),(1003,.whole 1003)] (by kernel_rfl) cw (by simp) (by simp) (by simp[qb9,qcF];exact⟨⟨_,_,rfl,rfl,by simp,by simp,rfl,rfl,by simp⟩,qaa rfl (qaO _),qaa rfl (qaO _),qaa rfl (qcU _)⟩) (by simp[qb9]) (by simp) ?_;rintro r L' ⟨rfl,rfl⟩;refine⟨[(903,61)],⟨by simp[qb9],by simp,by simp,by simp[qb9],by simp[qb9,qcF]⟩,?_⟩;simp only[qaf];cases o with
       | false =>
        simp only[if_true]at hR;rw[if_pos (by decide)]at hR;subst hR;simp[qb9,qcF];exact⟨qcq E c up 1001 1002 61 1004 1005 1006 1007,by simp[qcq,qeL,kin],E,c,61,1005,by simp,by simp,rfl,rfl,fun e=>by cases e⟩
       | true =>
        simp only[Bool.true_eq_false,if_false,ne_eq,not_true_eq_false]at hR;simp[qb9,qcF,BO.row,e2];refine cb.call ?_;simp[PT.row];exact qnH (E,qbP b op.text (c.txg+1)) ⟨hbo.1,by simp only[hpa];omega,by simp only[hpa];omega,by
         simp only[hpa];rw[← hR];by_cases q:b=(s.map[op.i.toNat]?.getD zPT).pa
         ·rw[if_pos q,if_pos ⟨by omega,q⟩]
         ·rw[if_neg q,if_neg (fun e=>q e.2)]⟩ (qjA [0,3,4,5,6,7] [(3,3),(7,7),(1000,1000),(1001,1001),(1002,1002),(61,903),(1004,1004),(1005,1005),(1006,1006),(1007,1007)] (by simp[qae]) (by simp[qao,qah,ptS,qcq,qeL,BO.row,PT.row,qb9,qcF,kin]))
  ·rintro⟨D,now⟩ ⟨hDok,hn0,hn1,hRx⟩;simp only at hDok hn0 hn1 hRx ⊢;clear hR;have cs:=qD6 c h.m8 (by omega) (qo9 hc) op.a;obtain⟨i,hii⟩:∃ i:Nat,op.i.toNat=i:=⟨_,rfl⟩;have hi8:i<8:=by omega
   obtain⟨old,ho⟩:∃ o,s.map[i]?=some o:=⟨_,qF3 (by omega)⟩;have ho':=(qGy.1 ho).2;have hopi:op.i=(i:Int):=by omega
   rw[hii,ho]at hRx;simp only[qGU]at hRx;have hpo:=qym (qux hc (qHT e1)) (qHT ho);have hca:=quu hs8 ho;have hmin:min 3 (31-(3+i * 3))=3:=by omega
   simp only[PT.row]at hca;refine qbE _ ?_;simp[ptS,qcq,qeL,BO.row];refine qac [(1000,.sub 1000 0 3 7),(1001,.whole 1004),(1002,.whole 1005),(1003,.whole 1006),(1004,.whole 1007)] (by kernel_rfl) cs (by simp) (by simp) (by simp[qcv];exact⟨⟨_,_,rfl,rfl,by simp,by simp,rfl,rfl,by simp⟩,qaa rfl (qa5 _),qaa rfl (qbK _),qaa rfl (qbq _),qaa rfl (qaP _)⟩) (by simp[qcv]) (by simp) ?_;rintro r L' ⟨rfl,rfl⟩;refine⟨[],⟨by simp[qcv],by simp,by simp,by simp[qcv],by simp[qcv]⟩,?_⟩;simp only[qaf];generalize nmP c.sets op.a=k at *
   by_cases q:now.pa≠0∧now.pa=old.pa
   ·rw[if_pos q]at hRx;subst hRx;simp[qcv,kcs,hk,e0,e1,qaC s hs8,qbl s hs8,hopi,hi8,PT.row,hca,hmin,q.1,q.2,show ¬ old.pa=0 from q.2 ▸ q.1];exact⟨by omega,by omega,qcq D c up 1001 1002 903 1004 1005 1006 1007,by simp[qcq,qeL,kcs],D,c,903,1005,by simp,by simp,rfl,rfl,fun _=>⟨rfl,rfl⟩⟩
   ·rw[if_neg q]at hRx;simp only[qf4,ql5]at hRx;have hdd:=qpa hc;have cc:=qsh c hdd [now] (fun p hp=>by simp at hp;subst hp;omega) (by simp) true;have hyok:=qkx true [now] c.ddt c.dirty hdd;generalize qbL true [now] (c.ddt,c.dirty,true)=Y at *
    obtain⟨yl,yd,yo⟩:=Y;simp only at hRx hyok;have cc2:=fun hyl=>qsh ⟨c.txg,c.sets,yl,c.parts,yd,c.safe,c.logn⟩ hyl [old] (fun p hp=>by simp at hp;subst hp;omega) (by simp) false;simp only at cc2;generalize qbL false [old] (yl,yd,true)=Z at *
    obtain⟨zl,zd,zo⟩:=Z;simp only at hRx;have hB:now.pa=0∨(now.pa≠0∧now.pa≠old.pa):=by
     by_cases q1:now.pa=0
     ·exact .inl q1
     ·exact .inr ⟨q1,fun e=>q ⟨q1,e⟩⟩
    rcases hB with q1 | ⟨q1,q2⟩
    ·skip
     simp[qcv,kcs,hk,e0,e1,qaC s hs8,qbl s hs8,hopi,hi8,PT.row,hca,hmin,q1];refine⟨by omega,by omega,?_⟩;refine qaS [(1000,.sub 1000 0 3 7),(1001,.whole 1004),(1002,.whole 1005),(1003,.whole 1006),(1004,.whole 1007)] (by kernel_rfl) cc (by simp[mtA,kin,PT.row,q1]) (by simp) (by simp[qcv];exact⟨⟨_,_,rfl,rfl,by simp,by simp,rfl,rfl,by simp⟩,⟨rfl,qaa rfl (qa5 _)⟩,qaa rfl (qbK _),qaa rfl (qbq _),qaa rfl (qaP _)⟩) (by simp[qcv]) (by simp) ?_;rintro r L' ⟨l,b,i2,h2,rfl,rfl,hq⟩;simp only[qHq,qHz,or_false]at h2;subst h2;refine⟨by simp,by simp[qcv,kcs,qaN,kpt,kin,qad,DE.row,PT.row,qhx,noL],[(902,101)],⟨by simp[qcv],by simp,by simp,by simp[qcv],by simp[qcv]⟩,?_⟩;simp only[qaf];cases yo with
     | false =>
      rw[if_pos (.inl rfl)]at hRx;subst hRx;simp[qcv];exact⟨qcq D ⟨c.txg,c.sets,l,c.parts,b,c.safe,c.logn⟩ up 1001 1002 903 1004 101 1006 1007,by simp[qcq,qeL,kcs],D,_,903,101,by simp,by simp,rfl,rfl,fun e=>by cases e⟩
     | true =>
      obtain⟨rfl,rfl⟩:=hq rfl;have cc2:=cc2 (hyok rfl);simp[qcv];refine qaS [(1000,.sub 1000 0 3 7),(1001,.whole 1004),(1002,.whole 101),(1003,.whole 1006),(1004,.whole 1007)] (by kernel_rfl) cc2 (by simp[mtA,kin,PT.row]) (by simp) (by simp[qcv];exact⟨⟨_,_,rfl,rfl,by simp,by simp,rfl,rfl,by simp⟩,qaa rfl (qa5 _),qaa rfl (qbK _),qaa rfl (qbq _),qaa rfl (qaP _)⟩) (by simp[qcv]) (by simp) ?_;rintro r L' ⟨l,b,i2,h2,rfl,rfl,hq⟩;simp only[qHq,qHz,or_false]at h2;subst h2;refine⟨by simp,by simp[qcv,kcs,qaN,kpt,kin,qad,DE.row,PT.row,qhx,noL],[(902,107)],⟨by simp[qcv],by simp,by simp,by simp[qcv],by simp[qcv]⟩,?_⟩;simp only[qaf];cases zo with
      | false =>
       rw[if_pos (.inr rfl)]at hRx;subst hRx;simp[qcv];exact⟨qcq D ⟨c.txg,c.sets,l,c.parts,b,c.safe,c.logn⟩ up 1001 1002 903 1004 107 1006 1007,by simp[qcq,qeL,kcs],D,_,903,107,by simp,by simp,rfl,rfl,fun e=>by cases e⟩
      | true =>
       obtain⟨rfl,rfl⟩:=hq rfl;rw[if_neg (by simp)]at hRx;subst hRx;simp[qcv,kcs,hk,e0,e1,qaC s hs8,qbl s hs8,hopi,hi8,PT.row,hca,hmin,BO.row];have hrow:=qlf s hs8 hi8 now;exact⟨by omega,by omega,qcq D ⟨c.txg,c.sets.set k ⟨s.name,s.kind,s.frm,s.map.set i now,s.home,true⟩,l,c.parts,b,c.safe,c.logn⟩ up 1001 1002 903 1004 107 1006 1007,by simp[qcq,qeL,kcs,qH5];rw[← hrow];simp[q1],D,_,903,107,by simp,by simp,rfl,rfl,fun _=>⟨rfl,rfl⟩⟩
    ·skip
     simp[qcv,kcs,hk,e0,e1,qaC s hs8,qbl s hs8,hopi,hi8,PT.row,hca,hmin,q1,q2];refine⟨by omega,by omega,?_⟩;refine qaS [(1000,.sub 1000 0 3 7),(1001,.whole 1004),(1002,.whole 1005),(1003,.whole 1006),(1004,.whole 1007)] (by kernel_rfl) cc (by simp[mtA,kin,PT.row]) (by simp) (by simp[qcv];exact⟨⟨_,_,rfl,rfl,by simp,by simp,rfl,rfl,by simp⟩,⟨rfl,qaa rfl (qa5 _)⟩,qaa rfl (qbK _),qaa rfl (qbq _),qaa rfl (qaP _)⟩) (by simp[qcv]) (by simp) ?_;rintro r L' ⟨l,b,i2,h2,rfl,rfl,hq⟩;simp only[qHq,qHz,or_false]at h2;subst h2;refine⟨by simp,by simp[qcv,kcs,qaN,kpt,kin,qad,DE.row,PT.row,qhx,noL],[(902,101)],⟨by simp[qcv],by simp,by simp,by simp[qcv],by simp[qcv]⟩,?_⟩;simp only[qaf];cases yo with
     | false =>
      rw[if_pos (.inl rfl)]at hRx;subst hRx;simp[qcv];exact⟨qcq D ⟨c.txg,c.sets,l,c.parts,b,c.safe,c.logn⟩ up 1001 1002 903 1004 101 1006 1007,by simp[qcq,qeL,kcs],D,_,903,101,by simp,by simp,rfl,rfl,fun e=>by cases e⟩
     | true =>
      obtain⟨rfl,rfl⟩:=hq rfl;have cc2:=cc2 (hyok rfl);simp[qcv];refine qaS [(1000,.sub 1000 0 3 7),(1001,.whole 1004),(1002,.whole 101),(1003,.whole 1006),(1004,.whole 1007)] (by kernel_rfl) cc2 (by simp[mtA,kin,PT.row]) (by simp) (by simp[qcv];exact⟨⟨_,_,rfl,rfl,by simp,by simp,rfl,rfl,by simp⟩,qaa rfl (qa5 _),qaa rfl (qbK _),qaa rfl (qbq _),qaa rfl (qaP _)⟩) (by simp[qcv]) (by simp) ?_;rintro r L' ⟨l,b,i2,h2,rfl,rfl,hq⟩;simp only[qHq,qHz,or_false]at h2;subst h2;refine⟨by simp,by simp[qcv,kcs,qaN,kpt,kin,qad,DE.row,PT.row,qhx,noL],[(902,107)],⟨by simp[qcv],by simp,by simp,by simp[qcv],by simp[qcv]⟩,?_⟩;simp only[qaf];cases zo with
      | false =>
       rw[if_pos (.inr rfl)]at hRx;subst hRx;simp[qcv];exact⟨qcq D ⟨c.txg,c.sets,l,c.parts,b,c.safe,c.logn⟩ up 1001 1002 903 1004 107 1006 1007,by simp[qcq,qeL,kcs],D,_,903,107,by simp,by simp,rfl,rfl,fun e=>by cases e⟩
      | true =>
       obtain⟨rfl,rfl⟩:=hq rfl;rw[if_neg (by simp)]at hRx;subst hRx;simp[qcv,kcs,hk,e0,e1,qaC s hs8,qbl s hs8,hopi,hi8,PT.row,hca,hmin,BO.row];have hrow:=qlf s hs8 hi8 now;exact⟨by omega,by omega,qcq D ⟨c.txg,c.sets.set k ⟨s.name,s.kind,s.frm,s.map.set i now,s.home,true⟩,l,c.parts,b,c.safe,c.logn⟩ up 1001 1002 903 1004 107 1006 1007,by simp[qcq,qeL,kcs,qH5];rw[← hrow],D,_,903,107,by simp,by simp,rfl,rfl,fun _=>⟨rfl,rfl⟩⟩
 refine key.can ?_;rintro r L' ⟨d',c',i3,i5,h3,h5,rfl,rfl,hq⟩;refine⟨[(1000,1000),(1001,1001),(1002,1002),(i3,903),(1004,1004),(i5,905),(1006,1006),(1007,1007)],?_,?_,?_,?_,d',c',903,905,by simp,by simp,by simp,?_,hq⟩
 all_goals
  simp only[qHq,qHz,or_false]at h3 h5;rcases h3 with rfl | rfl | rfl <;> rcases h5 with rfl | rfl | rfl
 all_goals simp[qcq,qeL,qah]
theorem qoS (p:PO) (hd:DkT p.d) (hc:CoT p.c):CV prog 65 [.agg p.row] (.bool (qcZ p)):=by
 have c1:=qjV p.d hd p.c hc;have e:qcZ p=(qbr p.d && qak p.c && decide (13<p.d.s0.length)):=by
  unfold qcZ;cases qbr p.d <;> cases qak p.c <;> simp
 rw[e];simp only[DK.row,CO.row]at c1;refine cvx func65 [] ntmps65 rfl rfl rfl ?_ (hca:=by simp[PO.row,DK.row,qb3]);simp[PO.row,DK.row,CO.row];refine c1.call ?_;simp
theorem qwg {d:DK} {c:CO} (h:CoT c) (hm:CoM c) (k i:Nat) (text:List UInt8):CoT (qcR d c k i text).2.1:=by
 unfold qcR;split
 ·exact h
 rename_i s hs;have hs8:=h.m8 s (qHT hs);have hsn:=h.nm s (qHT hs);have hG:∀ (x:DK) (old now:PT),CoT (qf4 d x c k i s old now).2.1:=fun x old now=>by
  unfold qf4;simp only;split
  ·exact h
  ·have h1:=qed true (qhN now) (c.ddt,c.dirty,true);have h2:=qed false (qhN old) ((qbL true (qhN now) (c.ddt,c.dirty,true)).1,(qbL true (qhN now) (c.ddt,c.dirty,true)).2.1,true);have h3:=hm.ddt;have h4:=hm.sets;simp only[qhN,qGk,qHf]at h1 h2;refine⟨by simp;omega,?_,h.parts,h.safe,fun x hx=>?_,fun x hx=>?_⟩
   ·simp only[qhN];omega
   ·rcases qIi hx with hx | rfl
    ·exact h.m8 x hx
    ·simpa using hs8
   ·rcases qIi hx with hx | rfl
    ·exact h.nm x hx
    ·exact hsn
 simp only;split
 ·exact hG _ _ _
 split
 ·exact h
 split
 ·exact h
 split
 ·exact h
 ·exact hG _ _ _
def qjz (l:List (List UInt8)) (left:Int):Int:=if left-l.length<0 then -1 else qmV l (left-l.length)
theorem qip (l:List (List UInt8)) {left:Int} (h:0≤left):qjz l left≤left∧-1≤qjz l left∧(0≤qjz l left→(l.length:Int)≤left∧∀ t∈l,(t.length:Int)≤left):=by
 unfold qjz;split
 ·exact⟨by omega,by omega,fun h'=>by omega⟩
 ·obtain⟨h1,h2,h3⟩:=qqH l (left-l.length) (by omega);exact⟨by omega,h2,fun h'=>⟨by omega,fun t ht=>by have:=h3 h' t ht;omega⟩⟩
theorem qu0 (l:List (List UInt8)) (left:Int) (hl:l.length≤maxLen) (hm:∀ t∈l,t.length≤maxLen) (h0:0≤left∧left≤1048576):CV prog 70 [.lst 1 (l.map qai),.int .i64 left] (.int .i64 (qjz l left)):=by
 obtain⟨R,hR⟩:∃ R,qjz l left=R:=⟨_,rfl⟩;rw[hR];unfold qjz at hR;have hml:maxLen=9223372036854775807:=rfl;have e0:=qap (left-(l.length:Int)) (by omega) (by omega);refine cvx func70 [] ntmps70 rfl rfl rfl ?_ (hca:=by simp[qai]);by_cases hn:left-(l.length:Int)<0
 ·rw[if_pos hn]at hR;subst hR;simp[e0,hn,show left<(l.length:Int) by omega]
 ·rw[if_neg hn]at hR;simp[e0,hn,show ¬ left<(l.length:Int) by omega];refine qbe (X:=Nat×Int) [0,1,5] [] (fun x=>[(5,.int .i64 x.1),(1,.int .i64 x.2)]) (fun _=>[]) (fun x=>l.length-x.1) (fun x=>x.1≤l.length∧0≤x.2∧x.2≤1048576∧qmV (l.drop x.1) x.2=R) (0,left-l.length) (by simp[hR];omega) ?_;rintro⟨i,k⟩ ⟨hi,hk0,hk,hd⟩;simp only at hi hk0 hk hd;cases hr:l.drop i with
  | nil =>
   have:=qaY hr;rw[hr]at hd;have hie:i=l.length:=by omega
   simp[qmV]at hd;simp[hie,hd]
  | cons t r =>
   obtain⟨h1,f0,f1,h3⟩:=qaZ hr;rw[hr,qmV]at hd;have:=hm t (qHT f1);have e2:=qap ((i:Int)+1) (by omega) (by omega);have e3:=qap (k-(t.length:Int)) (by omega) (by omega);have h1':(i:Int)<l.length:=by omega
   by_cases hq:k-(t.length:Int)<0
   ·rw[if_pos hq]at hd;simp[h1',h1,f0,f1,e3,qai,hq,show k<(t.length:Int) by omega,hd]
   ·rw[if_neg hq]at hd;simp[h1',h1,f0,f1,e2,e3,qai,hq,show ¬ k<(t.length:Int) by omega];exact nx (i+1,k-t.length) [] ⟨by simp only;omega,by simp only;omega,by simp only;omega,by simp only[h3];exact hd⟩ (by simp only;omega) (h4:=by simp[e2,e3])
theorem qtf (x:LT) (k:Int) (hx:x.lx.length≤maxLen) (h0:0≤k∧k≤1048576):CV prog 71 [.agg x.row,.int .i64 k] (.int .i64 (qmV [x.lx] k)):=by
 have hml:maxLen=9223372036854775807:=rfl;have e3:=qap (k-(x.lx.length:Int)) (by omega) (by omega);refine cvx func71 [] ntmps71 rfl rfl rfl ?_ (hca:=by simp[LT.row]);simp only[qmV];by_cases hq:k-(x.lx.length:Int)<0
 ·rw[if_pos hq];simp[LT.row,e3,hq,show k<(x.lx.length:Int) by omega]
 ·rw[if_neg hq];simp[LT.row,e3,hq,show ¬ k<(x.lx.length:Int) by omega]
theorem qwu (l:List LT) (left:Int) (hl:l.length≤maxLen) (hm:∀ t∈l,t.lx.length≤maxLen) (h0:0≤left∧left≤1048576):CV prog 29 [.lst 3 (l.map LT.row),.int .i64 left] (.int .i64 (qjz (l.map LT.lx) left)):=by
 obtain⟨R,hR⟩:∃ R,qjz (l.map LT.lx) left=R:=⟨_,rfl⟩;rw[hR];unfold qjz at hR;rw[qG4]at hR;have hml:maxLen=9223372036854775807:=rfl;have e0:=qap (left-(l.length:Int)) (by omega) (by omega);refine cvx func29 [] ntmps29 rfl rfl rfl ?_ (hca:=by simp[LT.row]);by_cases hn:left-(l.length:Int)<0
 ·rw[if_pos hn]at hR;subst hR;simp[e0,hn,show left<(l.length:Int) by omega]
 ·rw[if_neg hn]at hR;simp[e0,hn,show ¬ left<(l.length:Int) by omega];refine qbe (X:=Nat×Int) [0,1,5] [] (fun x=>[(5,.int .i64 x.1),(1,.int .i64 x.2)]) (fun _=>[]) (fun x=>l.length-x.1) (fun x=>x.1≤l.length∧0≤x.2∧x.2≤1048576∧qmV ((l.drop x.1).map LT.lx) x.2=R) (0,left-l.length) (by simp[hR];omega) ?_;rintro⟨i,k⟩ ⟨hi,hk0,hk,hd⟩;simp only at hi hk0 hk hd;cases hr:l.drop i with
  | nil =>
   have:=qaY hr;rw[hr]at hd;have hie:i=l.length:=by omega
   simp[qmV]at hd;simp[hie,hd]
  | cons t r =>
   obtain⟨h1,f0,f1,h3⟩:=qaZ hr;rw[hr,qGs,qmV]at hd;have htm:=hm t (qHT f1);have e2:=qap ((i:Int)+1) (by omega) (by omega);have c1:=qtf t k htm ⟨hk0,hk⟩;have h1':(i:Int)<l.length:=by omega
   simp only[LT.row,qmV]at c1;simp[h1',h1,f0,f1,LT.row];refine c1.call ?_;by_cases hq:k-(t.lx.length:Int)<0
   ·rw[if_pos hq]at hd;subst hd;simp[hq]
   ·rw[if_neg hq]at hd;simp[hq,e2];exact nx (i+1,k-t.lx.length) [] ⟨by simp only;omega,by simp only;omega,by simp only;omega,by simp only[← List.map_drop,h3];exact hd⟩ (by simp only;omega) (h4:=by simp[e2])
def qqb (d:DK) (left:Int):Int:=if qjz d.s0 left<0 then -1 else qjz d.s1 (qjz d.s0 left)
def DkG (d:DK):Prop:=d.s0.length≤maxLen∧d.s1.length≤maxLen∧d.late.length≤maxLen∧(∀ t∈d.s0,t.length≤maxLen)∧(∀ t∈d.s1,t.length≤maxLen)∧(∀ t∈d.late,t.lx.length≤maxLen)
theorem qDm (d:DK) (left:Int) (hg:DkG d) (h0:0≤left∧left≤1048576):CV prog 28 [.agg [.lst 1 (d.s0.map qai),.lst 1 (d.s1.map qai)],.int .i64 left] (.int .i64 (qqb d left)):=by
 obtain⟨R,hR⟩:∃ R,qqb d left=R:=⟨_,rfl⟩;rw[hR];unfold qqb at hR;obtain⟨g1,g2,g3,g4,g5,g6⟩:=hg;obtain⟨l1,l2,l3⟩:=qip d.s0 h0.1;have c1:=qu0 d.s0 left g1 g4 h0;refine cvx func28 [] ntmps28 rfl rfl rfl ?_ (hca:=by simp[qai]);simp;refine qbe (X:=Nat×Int) [1,2,5] [(2,2)] (fun x=>[(5,.int .i64 x.1),(1,.int .i64 x.2)]) (fun _=>[]) (fun x=>2-x.1) (fun x=>(x=(0,left))∨(x=(1,qjz d.s0 left)∧0≤qjz d.s0 left)∨(x=(2,R)∧0≤R)) (0,left) (.inl rfl) ?_ (he:=by simp[qah,qai]);rintro x (rfl | ⟨rfl,hz⟩ | ⟨rfl,hz⟩)
 ·simp[qah,qai];refine c1.call ?_;by_cases hq:qjz d.s0 left<0
  ·rw[if_pos hq]at hR;subst hR;simp[hq]
  ·simp[hq];exact nx (1,qjz d.s0 left) [(2,2)] (.inr (.inl ⟨rfl,by omega⟩)) (h4:=by simp[qah,qai])
 ·have c2:=qu0 d.s1 (qjz d.s0 left) g2 g5 ⟨hz,by omega⟩;obtain⟨m1,m2,m3⟩:=qip d.s1 hz;rw[if_neg (by omega)]at hR;simp[qah,qai];refine c2.call ?_;rw[hR];by_cases hq:R<0
  ·have:R=-1:=by omega
   subst this;simp
  ·simp[hq];exact nx (2,R) [(2,2)] (.inr (.inr ⟨rfl,by omega⟩)) (h4:=by simp[qah,qai])
 ·simp[qah]
def qu1 (d:DK) (left:Int):Int:=if qqb d left<0 then -1 else qjz (d.late.map LT.lx) (qqb d left)
theorem qqJ (d:DK) {left:Int} (h:0≤left):qqb d left≤left∧-1≤qqb d left∧(0≤qqb d left→(d.s0.length:Int)≤left∧(d.s1.length:Int)≤left∧(∀ t∈d.s0,(t.length:Int)≤left)∧∀ t∈d.s1,(t.length:Int)≤left):=by
 obtain⟨h1,h2,h3⟩:=qip d.s0 h;unfold qqb;split
 ·exact⟨by omega,by omega,fun h'=>by omega⟩
 ·obtain⟨m1,m2,m3⟩:=qip d.s1 (left:=qjz d.s0 left) (by omega);exact⟨by omega,m2,fun h'=>⟨(h3 (by omega)).1,by have:=(m3 h').1;omega,(h3 (by omega)).2,fun t ht=>by have:=(m3 h').2 t ht;omega⟩⟩
theorem qqI (d:DK) {left:Int} (h:0≤left):qu1 d left≤left∧-1≤qu1 d left∧(0≤qu1 d left→(d.s0.length:Int)≤left∧(d.s1.length:Int)≤left∧(d.late.length:Int)≤left∧(∀ t∈d.s0,(t.length:Int)≤left)∧(∀ t∈d.s1,(t.length:Int)≤left)∧∀ t∈d.late,(t.lx.length:Int)≤left):=by
 obtain⟨h1,h2,h3⟩:=qqJ d h;unfold qu1;split
 ·exact⟨by omega,by omega,fun h'=>by omega⟩
 ·obtain⟨m1,m2,m3⟩:=qip (d.late.map LT.lx) (left:=qqb d left) (by omega);refine⟨by omega,m2,fun h'=>?_⟩;obtain⟨a1,a2,a3,a4⟩:=h3 (by omega);obtain⟨b1,b2⟩:=m3 h';rw[qG4]at b1;exact⟨a1,a2,by omega,a3,a4,fun t ht=>by have:=b2 t.lx (qGt.2 ⟨t,ht,rfl⟩);omega⟩
theorem qDk (d:DK) (left:Int) (hg:DkG d) (h0:0≤left∧left≤1048576):CV prog 7 [.agg d.row,.int .i64 left] (.int .i64 (qu1 d left)):=by
 obtain⟨R,hR⟩:∃ R,qu1 d left=R:=⟨_,rfl⟩;have hle:=qqI d h0.1;rw[hR]at hle ⊢;unfold qu1 at hR;obtain⟨l1,l2,l3⟩:=qqJ d h0.1;have c1:=qDm d left hg h0;refine cvx func7 [] ntmps7 rfl rfl rfl ?_ (hca:=by simp[DK.row,qai,LT.row]);simp[DK.row];refine c1.call ?_;by_cases hq:qqb d left<0
 ·rw[if_pos hq]at hR;subst hR;simp[hq]
 ·rw[if_neg hq]at hR;have c2:=qwu d.late (qqb d left) hg.2.2.1 hg.2.2.2.2.2 ⟨by omega,by omega⟩;rw[hR]at c2;simp[hq,DK.row];refine c2.call ?_;by_cases hz:R<0
  ·have:R=-1:=by omega
   subst this;simp
  ·simp[hz]
theorem qwv (c:CO) (hg:CoG c) (left:Int) (h0:0≤left∧left≤1048576):ACall prog 58 [.agg c.row,.int .i64 left] [] (fun r L'=>szR left (CoS c) r∧clA r=true∧L'=[]):=by
 obtain⟨_,g2,_,_,_,_,m1,m2,m3,m4⟩:=hg;refine acx func58 [] ntmps58 rfl rfl rfl ?_;simp[CO.row];refine qdU (by kernel_rfl) (qws c.sets left g2 m1 (by omega)) (by simp[qa1]) ?_;rintro r ⟨y,rfl,y1,y2,y3⟩;by_cases hy:y<0
 ·simp[hy,szR];omega
 simp[hy];refine qdU (by kernel_rfl) (qzI c.ddt y m2 (by omega)) (by simp[DE.row]) ?_;rintro r ⟨x,rfl,x1,x2,x3⟩;by_cases hx:x<0
 ·simp[hx,szR];omega
 simp[hx];refine qdU (by kernel_rfl) (qzG c.parts x m3 (by omega)) (by simp[PT.row]) ?_;rintro r ⟨z,rfl,z1,z2,z3⟩;by_cases hz:z<0
 ·simp[hz,szR];omega
 simp[hz];refine qdU (by kernel_rfl) (qzH c.safe z m4 (by omega)) (by simp[qad]) ?_;rintro r ⟨v,rfl,v1,v2,v3⟩;by_cases hv:v<0
 ·simp[hv,szR];omega
 simp[hv];obtain⟨q1,q2⟩:=y3 (by omega);have q3:=x3 (by omega);have q4:=z3 (by omega);have q5:=v3 (by omega);exact⟨v,rfl,by omega,by omega,fun _=>⟨by omega,by omega,by omega,by omega,fun s hs=>⟨by have:=(q2 s hs).1;omega,by have:=(q2 s hs).2;omega⟩⟩⟩
def DkS (d:DK):Prop:=d.s0.length≤1048576∧d.s1.length≤1048576∧d.late.length≤1048576∧(∀ t∈d.s0,t.length≤1048576)∧(∀ t∈d.s1,t.length≤1048576)∧∀ t∈d.late,t.lx.length≤1048576
theorem qwt (p:PO) (hd:DkG p.d) (hc:CoG p.c):ACall prog 24 [.agg p.row,.int .i64 1048576] [] (fun r L'=>szR 1048576 (DkS p.d∧CoS p.c) r∧clA r=true∧L'=[]):=by
 have c1:=qDk p.d 1048576 hd (by omega);obtain⟨l1,l2,l3⟩:=qqI p.d (left:=1048576) (by omega);generalize qu1 p.d 1048576=z at *
 simp only[DK.row]at c1;have c2:=qwv p.c hc;simp only[CO.row]at c2;refine acx func24 [] ntmps24 rfl rfl rfl ?_;simp[PO.row,DK.row,CO.row];refine c1.call ?_;by_cases hz:z<0
 ·simp[hz,szR]
 simp[hz,PO.row,DK.row,CO.row];refine qdU (by kernel_rfl) (c2 z ⟨by omega,by omega⟩) (by simp[qa1,DE.row,PT.row,qad]) ?_;rintro r ⟨v,rfl,v1,v2,v3⟩;by_cases hv:v<0
 ·simp[hv,szR]
 simp[hv];obtain⟨a1,a2,a3,a4,a5,a6⟩:=l3 (by omega);exact⟨v,rfl,by omega,by omega,fun _=>⟨⟨by omega,by omega,by omega,fun t ht=>by have:=a4 t ht;omega,fun t ht=>by have:=a5 t ht;omega,fun t ht=>by have:=a6 t ht;omega⟩,v3 (by omega)⟩⟩
theorem qBK {d:DK} (h:DkS d):DkT d:=⟨h.1,h.2.1,h.2.2.1,h.2.2.2.1,h.2.2.2.2.1,h.2.2.2.2.2⟩
theorem qmt {α:Type} {l cs:List α} {i:Nat} {b:α} (h:l[i]?=some b) (hi:i<cs.length) (hm:∀ j,j<i→cs[j]?=l[j]?):∀ j,j<i+1→(cs.set i b)[j]?=l[j]?:=fun j hj=>by
 by_cases hji:j=i
 ·subst hji;rw[qHK hi,h]
 ·rw[qGQ (qFL hji)];exact hm j (by omega)
theorem qoW {α:Type} {l cs:List α} (h:cs.length=l.length) (hm:∀ j,j<l.length→cs[j]?=l[j]?):cs=l:=by
 refine qIp fun q=>?_;by_cases hq:q<l.length
 ·exact hm q hq
 ·rw[qHx (by omega),qHx (by omega)]
theorem quY (l:List (List UInt8)) (hl:l.length≤2000000):ACall prog 83 [.lst 1 (l.map qai)] [] (fun r L'=>r=.sl 900 0 l.length∧L'=[(900,qas l)]):=by
 refine acx func83 [] ntmps83 rfl rfl rfl ?_;simp;refine⟨by omega,?_⟩;refine qbe (X:=Nat×List (List UInt8)) [0,3,4] [(7,900)] (fun x=>[(4,.int .i64 x.1)]) (fun x=>[(900,qas x.2)]) (fun x=>l.length-x.1)
  (fun x=>x.1≤l.length∧x.2.length=l.length∧∀ j,j<x.1→x.2[j]?=l[j]?) (0,List.replicate l.length []) ⟨by omega,by simp,by omega⟩ ?_ (he:=by simp[qah,qas,qai])
 rintro⟨i,cs⟩ ⟨hi,hc,hm⟩;simp only at hi hc hm;by_cases h2:i<l.length
 ·obtain⟨b,f1⟩:∃ b,l[i]?=some b:=⟨_,qF3 (by omega)⟩;have h2':(i:Int)<l.length:=by omega
  have hil:i<cs.length:=by omega
  have f0:l[i]=b:=(qGy.1 f1).2;have e1:=qap ((i:Int)+1) (by omega) (by omega);simp[h2',h2,hil,f0,f1,qai,qas,hc];exact nx (i+1,cs.set i b) [(900,900)] ⟨by simp only;omega,by simp[hc],qmt f1 hil hm⟩ (by simp only;omega) (h4:=by simp[qah,e1,qas,qH5,qai])
 ·have hie:i=l.length:=by omega
  subst hie;have:=qoW hc hm;subst this;simp
theorem qtb (x:LT):CV prog 84 [.agg x.row] (.agg x.row):=by
 refine cvx func84 [] ntmps84 rfl rfl rfl ?_ (hca:=by simp[LT.row]) (hcv:=by simp[LT.row]);simp[LT.row]
theorem qwm (l:List LT) (hl:l.length≤2000000):ACall prog 35 [.lst 3 (l.map LT.row)] [] (fun r L'=>r=.sl 900 0 l.length∧L'=[(900,qcE l)]):=by
 refine acx func35 [] ntmps35 rfl rfl rfl ?_;simp;refine⟨by omega,?_⟩;refine qbe (X:=Nat×List LT) [0,3,4] [(7,900)] (fun x=>[(4,.int .i64 x.1)]) (fun x=>[(900,qcE x.2)]) (fun x=>l.length-x.1)
  (fun x=>x.1≤l.length∧x.2.length=l.length∧∀ j,j<x.1→x.2[j]?=l[j]?) (0,List.replicate l.length ⟨0,0,[]⟩) ⟨by omega,by simp,by omega⟩ ?_ (he:=by simp[qah,qcE,LT.row])
 rintro⟨i,cs⟩ ⟨hi,hc,hm⟩;simp only at hi hc hm;by_cases h2:i<l.length
 ·obtain⟨b,f1⟩:∃ b,l[i]?=some b:=⟨_,qF3 (by omega)⟩;have h2':(i:Int)<l.length:=by omega
  have hil:i<cs.length:=by omega
  have f0:l[i]=b:=(qGy.1 f1).2;have e1:=qap ((i:Int)+1) (by omega) (by omega);have c1:=qtb b;simp only[LT.row]at c1;simp[h2',h2,hil,f0,f1,LT.row,qcE,hc];refine c1.call ?_;simp[h2',h2,hil,f0,f1,LT.row,qcE,hc];exact nx (i+1,cs.set i b) [(900,900)] ⟨by simp only;omega,by simp[hc],qmt f1 hil hm⟩ (by simp only;omega) (h4:=by simp[qah,e1,qcE,qH5,LT.row])
 ·have hie:i=l.length:=by omega
  subst hie;have:=qoW hc hm;subst this;simp
theorem qDj (d:DK) (h:DkT d):ACall prog 34 [.agg [.lst 1 (d.s0.map qai),.lst 1 (d.s1.map qai)]] [] (fun r L'=>r=.agg [.sl 901 0 d.s0.length,.sl 902 0 d.s1.length]∧L'=[(901,qas d.s0),(902,qas d.s1)]):=by
 have l0:=h.l0;have l1:=h.l1;have c1:=quY d.s0 (by omega);have c2:=quY d.s1 (by omega);refine acx func34 [] ntmps34 rfl rfl rfl ?_;simp;refine qaM (X:=Nat) [1,2,3,4] [(1,1),(2,2),(3,3)] (fun i=>[(4,.int .i64 i)]) (fun i=>(1,⟨2,[[.lst 1 (d.s0.map qai),.lst 1 (d.s1.map qai)]]⟩)::(2,⟨2,[[.nils,.nils]]⟩)::(3,⟨2,[[if i=0 then .nils else .sl 901 0 d.s0.length,if i=2 then .sl 902 0 d.s1.length else .nils]]⟩)::(if i=0 then [] else if i=1 then [(901,qas d.s0)] else [(901,qas d.s0),(902,qas d.s1)])) (fun i=>2-i) (fun i=>i=0∨i=1∨i=2) 0 (.inl rfl) ?_ (he:=by simp[qah])
 rintro i (rfl | rfl | rfl)
 ·simp[qah];refine qac [] (by kernel_rfl) c1 (by simp[qai]) (by simp) trivial (by simp) (by simp) ?_;rintro r L' ⟨rfl,rfl⟩;refine⟨[(900,901)],⟨by simp,by simp,by simp,by simp,by simp⟩,?_⟩;simp only[qaf];simp;exact nx 1 [(1,1),(2,2),(3,3),(901,901)] (.inr (.inl rfl)) (h4:=by simp[qah])
 ·simp[qah];refine qac [] (by kernel_rfl) c2 (by simp[qai]) (by simp) trivial (by simp) (by simp) ?_;rintro r L' ⟨rfl,rfl⟩;refine⟨[(900,902)],⟨by simp,by simp,by simp,by simp,by simp⟩,?_⟩;simp only[qaf];simp;exact nx 2 [(1,1),(2,2),(3,3),(901,901),(902,902)] (.inr (.inr rfl)) (h4:=by simp[qah])
 ·simp[qah]
theorem qDf (d:DK) (h:DkT d):ACall prog 9 [.agg d.row] [] (fun r L'=>r=.agg (qcF d 901 902 903)∧L'=[(901,qas d.s0),(902,qas d.s1),(903,qcE d.late)]):=by
 have c1:=qDj d h;have c2:=qwm d.late (by have:=h.l2;omega);refine acx func9 [] ntmps9 rfl rfl rfl ?_;simp[DK.row];refine qac [] (by kernel_rfl) c1 (by simp[qai]) (by simp) trivial (by simp) (by simp) ?_;rintro r L' ⟨rfl,rfl⟩;refine⟨[(901,901),(902,902)],⟨by simp,by simp,by simp,by simp,by simp⟩,?_⟩;simp only[qaf];simp;refine qac [] (by kernel_rfl) c2 (by simp[LT.row]) (by simp) trivial (by simp) (by simp) ?_;rintro r L' ⟨rfl,rfl⟩;refine⟨[(900,903)],⟨by simp,by simp,by simp,by simp,by simp⟩,?_⟩;simp only[qaf];simp[qcF]
theorem qDh (c:CO) (h:CoT c):ACall prog 64 [.agg c.row] [] (fun r L'=>r=qcA c 904 905 906 907∧L'=[(904,kcs c.sets),(905,qaN c.ddt),(906,kpt c.parts),(907,kin c.safe)]):=by
 have c1:=qzD c.sets h.sets h.m8;have c2:=qwo c.ddt h.ddt;have c3:=qwl c.parts h.parts;have c4:=qwn c.safe h.safe;refine acx func64 [] ntmps64 rfl rfl rfl ?_;simp[CO.row];refine qac [] (by kernel_rfl) c1 (by simp[qa1]) (by simp) trivial (by simp) (by simp) ?_;rintro r L' ⟨rfl,rfl⟩;refine⟨[(7,904)],⟨by simp,by simp,by simp,by simp,by simp⟩,?_⟩;simp only[qaf];simp;refine qac [] (by kernel_rfl) c2 (by simp[DE.row]) (by simp) trivial (by simp) (by simp) ?_;rintro r L' ⟨rfl,rfl⟩;refine⟨[(7,905)],⟨by simp,by simp,by simp,by simp,by simp⟩,?_⟩;simp only[qaf];simp;refine qac [] (by kernel_rfl) c3 (by simp[PT.row]) (by simp) trivial (by simp) (by simp) ?_;rintro r L' ⟨rfl,rfl⟩;refine⟨[(7,906)],⟨by simp,by simp,by simp,by simp,by simp⟩,?_⟩;simp only[qaf];simp;refine qac [] (by kernel_rfl) c4 (by simp[qad]) (by simp) trivial (by simp) (by simp) ?_;rintro r L' ⟨rfl,rfl⟩;refine⟨[(7,907)],⟨by simp,by simp,by simp,by simp,by simp⟩,?_⟩;simp only[qaf];simp[qcA,kcs,qaN,kpt,kin]
theorem qDd (p:PO) (hd:DkT p.d) (hc:CoT p.c):ACall prog 26 [.agg p.row] [] (fun r L'=>r=.agg (qgS p 901 902 903 904 905 906 907)∧L'=qcG p 901 902 903 904 905 906 907):=by
 have c1:=qDf p.d hd;have c2:=qDh p.c hc;simp only[DK.row,CO.row]at c1 c2;refine acx func26 [] ntmps26 rfl rfl rfl ?_;simp[PO.row,DK.row,CO.row];refine qac [] (by kernel_rfl) c1 (by simp[qai,LT.row]) (by simp) trivial (by simp) (by simp) ?_;rintro r L' ⟨rfl,rfl⟩;refine⟨[(901,901),(902,902),(903,903)],⟨by simp,by simp,by simp,by simp,by simp⟩,?_⟩;simp only[qaf];simp[qcF,PO.row,DK.row,CO.row];refine qac [] (by kernel_rfl) c2 (by simp[qa1,DE.row,PT.row,qad]) (by simp) trivial (by simp) (by simp) ?_;rintro r L' ⟨rfl,rfl⟩;refine⟨[(904,904),(905,905),(906,906),(907,907)],⟨by simp,by simp,by simp,by simp,by simp⟩,?_⟩;simp only[qaf];simp[qcA,qgS,qcG,PO.row,DK.row,CO.row]
theorem qDe (p:PO) (hd:DkT p.d) (hc:CoT p.c):CV prog 26 [.agg p.row] (.agg p.row):=by
 refine CV.of_frz (qDd p hd hc) ?_ (hca:=by simp[PO.row,DK.row,CO.row,qai,LT.row,qa1,DE.row,PT.row,qad]) (hcv:=by simp[PO.row,DK.row,CO.row,qai,LT.row,qa1,DE.row,PT.row,qad]);rintro r L' ⟨rfl,rfl⟩;refine⟨by simp[qcG],by simp[qcG],fun x hx=>?_,?_⟩
 ·simp only[qcG,qHq,qHz,or_false]at hx;rcases hx with rfl | rfl | rfl | rfl | rfl | rfl | rfl
  ·exact qaO _
  ·exact qaO _
  ·exact qcU _
  ·exact qa5 _
  ·exact qbK _
  ·exact qbq _
  ·exact qaP _
 simp[qa7,qgS,qcG,PO.row,DK.row,CO.row,qas,qcE,kcs,qaN,kpt,kin,qal]
theorem qvE (l:List (List UInt8)) (hl:l.length≤2000000):CV prog 96 [.lst 1 (l.map qai),.lst 1 (l.map qai)] (.bool true):=by
 refine cvx func96 [] ntmps96 rfl rfl rfl ?_ (hca:=by simp[qai]);simp;refine qbe (X:=Nat) [0,1,5] [] (fun x=>[(5,.int .i64 x)]) (fun x=>[]) (fun x=>l.length-x) (fun x=>x≤l.length) 0 (by simp) ?_;rintro i hi;by_cases h2:i<l.length
 ·obtain⟨b,f1⟩:∃ b,l[i]?=some b:=⟨_,qF3 (by omega)⟩;have h2':(i:Int)<l.length:=by omega
  have f0:l[i]=b:=(qGy.1 f1).2;have e1:=qap ((i:Int)+1) (by omega) (by omega);simp[h2',h2,f0,f1,qai];exact nx (i+1) [] (by omega) (h4:=by simp[e1])
 ·have:i=l.length:=by omega
  subst this;simp
theorem quk (x:LT):CV prog 97 [.agg x.row,.agg x.row] (.bool true):=by
 refine cvx func97 [] ntmps97 rfl rfl rfl ?_ (hca:=by simp[LT.row]);simp[LT.row]
theorem qyc (l:List LT) (hl:l.length≤2000000):CV prog 40 [.lst 3 (l.map LT.row),.lst 3 (l.map LT.row)] (.bool true):=by
 refine cvx func40 [] ntmps40 rfl rfl rfl ?_ (hca:=by simp[LT.row]);simp;refine qbe (X:=Nat) [0,1,5] [] (fun x=>[(5,.int .i64 x)]) (fun x=>[]) (fun x=>l.length-x) (fun x=>x≤l.length) 0 (by simp) ?_;rintro i hi;by_cases h2:i<l.length
 ·obtain⟨b,f1⟩:∃ b,l[i]?=some b:=⟨_,qF3 (by omega)⟩;have h2':(i:Int)<l.length:=by omega
  have f0:l[i]=b:=(qGy.1 f1).2;have e1:=qap ((i:Int)+1) (by omega) (by omega);have c1:=quk b;simp only[LT.row]at c1;simp[h2',h2,f0,f1,LT.row];refine c1.call ?_;simp;exact nx (i+1) [] (by omega) (h4:=by simp[e1])
 ·have:i=l.length:=by omega
  subst this;simp
theorem qEw (d:DK) (h:DkT d):CV prog 39 [.agg [.lst 1 (d.s0.map qai),.lst 1 (d.s1.map qai)],.agg [.lst 1 (d.s0.map qai),.lst 1 (d.s1.map qai)]] (.bool true):=by
 have l0:=h.l0;have l1:=h.l1;have c1:=qvE d.s0 (by omega);have c2:=qvE d.s1 (by omega);refine cvx func39 [(4,[zI 0,zI 1,zJ 2 [2] [],zJ 3 [] [2],zJ 4 [] [2],zJ 5 [3] [2],zI 6,zI 7])] ntmps39 rfl rfl rfl ?_ (hca:=by simp[qai]);simp;refine qbe (X:=Nat) [2,3,5] [(2,2),(3,3)] (fun x=>[(5,.int .i64 x)]) (fun x=>[]) (fun x=>2-x) (fun x=>x=0∨x=1∨x=2) 0 (.inl rfl) ?_ (he:=by simp[qah,qai]);rintro i (rfl | rfl | rfl)
 ·simp[qah,qai];refine c1.call ?_;simp;exact nx 1 [(2,2),(3,3)] (.inr (.inl rfl)) (h4:=by simp[qah,qai])
 ·simp[qah,qai];refine c2.call ?_;simp;exact nx 2 [(2,2),(3,3)] (.inr (.inr rfl)) (h4:=by simp[qah,qai])
 ·simp[qah]
theorem qEs (d:DK) (h:DkT d):CV prog 11 [.agg d.row,.agg d.row] (.bool true):=by
 have c1:=qEw d h;have c2:=qyc d.late (by have:=h.l2;omega);refine cvx func11 [] ntmps11 rfl rfl rfl ?_ (hca:=by simp[DK.row,qai,LT.row]);simp[DK.row];refine c1.call ?_;simp;refine c2.call ?_;simp
theorem qEu (c:CO) (h:CoT c):CV prog 55 [.agg c.row,.agg c.row] (.bool true):=by
 refine qf0 ?_ (hca:=by simp[CO.row,qa1,DE.row,PT.row,qad]);refine acx func55 [] ntmps55 rfl rfl rfl ?_;simp[CO.row];refine qaj (by kernel_rfl) (qBC c.sets h.sets h.m8) (by simp[qa1]) (by simp) ?_;simp;refine qaj (by kernel_rfl) (qye c.ddt h.ddt) (by simp[DE.row]) (by simp) ?_;simp;refine qaj (by kernel_rfl) (qyb c.parts h.parts) (by simp[PT.row]) (by simp) ?_;simp;refine qaj (by kernel_rfl) (qyd c.safe h.safe) (by simp[qad]) (by simp) ?_;simp
theorem qEr (p:PO) (hd:DkT p.d) (hc:CoT p.c):CV prog 21 [.agg p.row,.agg p.row] (.bool true):=by
 have c1:=qEs p.d hd;have c2:=qEu p.c hc;simp only[DK.row,CO.row]at c1 c2;refine cvx func21 [] ntmps21 rfl rfl rfl ?_ (hca:=by simp[PO.row,DK.row,CO.row,qai,LT.row,qa1,DE.row,PT.row,qad]);simp[PO.row,DK.row,CO.row];refine c1.call ?_;simp[PO.row,DK.row,CO.row];refine c2.call ?_;simp
def mkG {α:Type} (f:Nat→α) (w k n:Nat):List α:=(List.range n).map fun i=>f (k+w * i)
def qAR (k:Nat):List UInt8:=mtB k
def qFs (k:Nat):LT:=⟨k,((k+1:Nat):Int),mtB (k+2)⟩
def mkD (d:DK) (k:Nat):DK:=⟨mkG qAR 1 k d.s0.length,mkG qAR 1 (k+d.s0.length) d.s1.length,mkG qFs 3 (k+d.s0.length+d.s1.length) d.late.length⟩
theorem qyu {c:CO} (hg:CoG c) (hs:CoS c):CoT c:=by
 exact⟨hs.1,hs.2.1,hs.2.2.1,hs.2.2.2.1,fun s h=>(hg.2.1 s h).2.1,hs.2.2.2.2⟩
theorem qth {n:Nat} {avs:List AV} (h:Shp prog (n+2) 22 avs):∃ l:List (List UInt8),(l.length≤maxLen∧∀ t∈l,t.length≤maxLen)∧avs=[.lst 1 (l.map qai)]:=by
 obtain⟨e2,m2,rfl,k2⟩:=qd6 underlying22 h;obtain⟨l2,rfl,g2⟩:=qfR qai (fun t:List UInt8=>t.length≤maxLen) e2 fun r hr=>qwy (k2 r hr);have c1:prog.cellsOf 9=1:=by kernel_rfl
 rw[c1];exact⟨l2,⟨by simpa using m2,g2⟩,rfl⟩
theorem qAS {n:Nat} {avs:List AV} (h:Shp prog (n+2) 98 avs):∃ x:LT,x.lx.length≤maxLen∧avs=x.row:=by
 obtain⟨a1,b1,rfl,h1,a2,b2,rfl,h2,a3,b3,rfl,h3,rfl⟩:=qcX underlying98 h;obtain⟨z1,g1,rfl⟩:=qdh h1;obtain⟨z2,g2,rfl⟩:=qdh h2;obtain⟨s3,m3,rfl⟩:=qfg underlying9 h3;exact⟨⟨z1,z2,s3⟩,m3,rfl⟩
theorem qBJ {n:Nat} {avs:List AV} (h:Shp prog (n+6) 26 avs):∃ d:DK,DkG d∧avs=d.row:=by
 obtain⟨a1,b1,rfl,h1,a2,b2,rfl,h2,rfl⟩:=qcX underlying26 h;obtain⟨l,hl,rfl,hg⟩:=qsR (fun l:List (List UInt8)=>[.lst 1 (l.map qai)]) (fun l=>l.length≤maxLen∧∀ t∈l,t.length≤maxLen) _ (fun r hr=>qth hr) 2 a1 (qlG underlying23 h1);obtain⟨e2,m2,rfl,k2⟩:=qd6 underlying24 h2;obtain⟨l2,rfl,g2⟩:=qfR LT.row (fun x=>x.lx.length≤maxLen) e2 fun r hr=>qAS (k2 r hr);have c1:prog.cellsOf 98=3:=by kernel_rfl
 rw[c1]
 match l,hl with
 | [s0,s1],_ =>
  have q0:=hg s0 (by simp);have q1:=hg s1 (by simp);exact⟨⟨s0,s1,l2⟩,⟨q0.1,q1.1,by simpa using m2,q0.2,q1.2,g2⟩,rfl⟩
structure PoG (p:PO):Prop where
 d:DkG p.d
 c:CoG p.c
theorem po_shp {avs:List AV} (h:Shp prog 10 59 avs):∃ p:PO,PoG p∧avs=p.row:=by
 obtain⟨a1,b1,rfl,h1,a2,b2,rfl,h2,a3,b3,rfl,h3,rfl⟩:=qcX underlying59 h;obtain⟨d,gd,rfl⟩:=qBJ h1;obtain⟨c,gc,rfl⟩:=quw h2;obtain⟨u,rfl⟩:=qkj underlying4 h3;exact⟨⟨d,c,u⟩,⟨gd,gc⟩,by simp[PO.row]⟩
theorem qaU (x y:List UInt8) (r:List (List UInt8)) (c:UInt8):Lib.join (x::y::r) [c]=x++c::Lib.join (y::r) [c]:=by
 rw[Lib.join_cons,Lib.join_cons];simp[Lib.joinTail]
theorem qnI (c:UInt8) (s cur:List UInt8):qaJ c s cur≠[]:=fun h=>by
 have:=qlc c s cur;rw[h]at this;simp at this
theorem qdI (c:UInt8):∀ (s cur:List UInt8),Lib.join (qaJ c s cur) [c]=cur++s
 | [],cur=>by simp[qaJ,Lib.join_one]
 | x::r,cur=>by
  unfold qaJ;by_cases h:x=c
  ·rw[if_pos h];subst h;have ih:=qdI x r [];cases hr:qaJ x r []with
   | nil=>exact absurd hr (qnI _ _ _)
   | cons y q =>
    rw[hr]at ih;rw[qaU,ih];simp
  ·rw[if_neg h,qdI c r (cur++[x])];simp
theorem qle (c:UInt8):∀ (w r cur:List UInt8),(∀ x∈w,x≠c)→qaJ c (w++c::r) cur=(cur++w)::qaJ c r []
 | [],r,cur,_=>by simp[qaJ]
 | x::w,r,cur,h=>by
  have hx:=h x (by simp);rw[qHS,qaJ,if_neg hx,qle c w r _ fun y hy=>h y (by simp[hy])];simp
theorem qld (c:UInt8):∀ (w cur:List UInt8),(∀ x∈w,x≠c)→qaJ c w cur=[cur++w]
 | [],cur,_=>by simp[qaJ]
 | x::w,cur,h=>by
  rw[qaJ,if_neg (h x (by simp)),qld c w _ fun y hy=>h y (by simp[hy])];simp
theorem qdq (c:UInt8):∀ (ws:List (List UInt8)),ws≠[]→(∀ w∈ws,∀ x∈w,x≠c)→qaJ c (Lib.join ws [c]) []=ws
 | [],h,_=>absurd rfl h
 | [w],_,h=>by
  rw[Lib.join_one,qld c w [] (h w (by simp))];simp
 | w::v::r,_,h=>by
  rw[qaU,qle c w _ [] (h w (by simp)),qdq c (v::r) (by simp) fun u hu=>h u (by simp[hu])];simp
theorem qo1 (n:Nat):∀ x∈Lib.decDigits n,48≤x.toNat∧x.toNat≤57:=by
 induction n using Nat.strongRecOn with
 | _ n ih =>
  intro x hx;rw[Lib.decDigits]at hx;split at hx
  ·rename_i h;simp only[qIx]at hx;subst hx;rw[qjw h];omega
  ·rename_i h;rcases qHs.1 hx with hx | hx
   ·exact ih (n / 10) (by omega) x hx
   ·simp only[qIx]at hx;subst hx;rw[qjw (by omega)];omega
theorem qgX (n:Int) (c:UInt8) (hc:c.toNat<48) (h45:c≠45):∀ x∈Lib.itoa n,x≠c:=by
 intro x hx;unfold Lib.itoa at hx;split at hx
 ·rcases qHq.1 hx with rfl | hx
  ·exact fun e=>h45 e.symm
  ·have:=qo1 _ x hx;rintro rfl;omega
 ·have:=qo1 _ x hx;rintro rfl;omega
theorem qez (n:Int) (h:0≤n):Lib.itoa n=dec n:=by
 have e:n=((n.toNat:Nat):Int):=by omega
 rw[e,qkL];rfl
theorem qds {t:List UInt8} (h:qdK t=true):Lib.itoa (qaI t)=t:=by
 simp only[qdK,Bool.and_eq_true,decide_eq_true_eq]at h;exact h.2
def qlz (t:List UInt8):Option (Int×Int×Int) :=
 match qaJ 46 t []with
 | [a,b,c]=>if qdK a=true∧qdK b=true∧qdK c=true then some (qaI a,qaI b,qaI c) else none
 | _=>none
theorem qlx {t:List UInt8} {a b c:Int} (h:qlz t=some (a,b,c)):Lib.join [Lib.itoa a,Lib.itoa b,Lib.itoa c] [46]=t:=by
 unfold qlz at h;split at h
 ·rename_i x y z hc;split at h
  ·rename_i hq;simp only[qFQ,qFR]at h;obtain⟨rfl,rfl,rfl⟩:=h;have:=qdI 46 t [];rw[hc]at this;rw[qds hq.1,qds hq.2.1,qds hq.2.2];simpa using this
  ·cases h
 ·cases h
theorem qqB (a b c:Int) (ha:qiY a) (hb:qiY b) (hc:qiY c):qlz (Lib.join [Lib.itoa a,Lib.itoa b,Lib.itoa c] [46])=some (a,b,c):=by
 have h1:∀ n:Int,∀ x∈Lib.itoa n,x≠(46:UInt8):=fun n=>qgX n 46 (by decide) (by decide);unfold qlz;rw[qdq 46 _ (by simp) (by
  intro w hw;simp only[qHq,qHz,or_false]at hw;rcases hw with rfl | rfl | rfl
  ·exact h1 _
  ·exact h1 _
  ·exact h1 _)]
 obtain⟨a1,a2⟩:=qj6 ha.1 ha.2;obtain⟨b1,b2⟩:=qj6 hb.1 hb.2;obtain⟨c1,c2⟩:=qj6 hc.1 hc.2;simp[a1,a2,b1,b2,c1,c2]
def qbU (t:List UInt8):PT×Bool :=
 if t=[45] then (⟨0,0,0⟩,true) else
 match qlz t with
 | some (a,b,c)=>if qar ⟨a,b,c⟩=true then (⟨a,b,c⟩,true) else (⟨0,0,0⟩,false)
 | none=>(⟨0,0,0⟩,false)
theorem qd1 {p:PT} (h:qar p=true):qaL p=true∧p.pa≠0:=by
 simpa [qar]using h
theorem qdA {p:PT} (h:qar p=true):qaT p=Lib.join [Lib.itoa p.pa,Lib.itoa p.ps,Lib.itoa p.pb] [46]:=by
 obtain⟨h1,h2⟩:=qd1 h;have hb:=qjL h1;unfold qaT;rw[if_neg (by simp[h1]),if_neg h2,qez _ (by omega),qez _ (by omega),qez _ (by omega),qaU,qaU,Lib.join_one]
theorem qiI {t:List UInt8} (h:(qbU t).2=true):qaT (qbU t).1=t∧qaL (qbU t).1=true:=by
 unfold qbU at h ⊢;split at h
 ·rename_i ht;rw[if_pos ht];subst ht;exact⟨by decide,by decide⟩
 ·rename_i ht;rw[if_neg ht];split at h
  ·rename_i a b c htr;split at h
   ·rename_i hq;simp only[hq,if_true];rw[qdA hq];exact⟨qlx htr,(qd1 hq).1⟩
   ·simp at h
  ·simp at h
theorem qgR {p:PT} (h:qaL p=true):qbU (qaT p)=(p,true):=by
 have hb:=qjL h;by_cases h0:p.pa=0
 ·obtain⟨pa,ps,pb⟩:=p;simp only at h0 hb;subst h0;have:ps=0∧pb=0:=by simpa [qaL]using h
  obtain⟨rfl,rfl⟩:=this;decide
 ·have hq:qar p=true:=by simp[qar,h,h0]
  rw[qdA hq];have ht:=qqB p.pa p.ps p.pb ⟨by omega,by omega⟩ ⟨by omega,by omega⟩ ⟨by omega,by omega⟩;unfold qbU;rw[ht];have hne:Lib.join [Lib.itoa p.pa,Lib.itoa p.ps,Lib.itoa p.pb] [46]≠[45]:=fun e=>by
   rw[e]at ht;simp[qlz,qaJ]at ht
  rw[if_neg hne];simp[hq]
theorem qnQ (s:List UInt8):qiY (qaI s):=by
 unfold qaI;cases h:Lib.atoiAll s with
 | ok v =>
  simp only;unfold Lib.atoiAll at h;split at h
  ·cases h
  ·simp only at h;split at h
   ·cases h
   ·cases h
   ·rename_i u hu;split at h
    ·cases h
    ·split at h
     ·cases h
     ·injection h with h;subst h;rename_i h1 h2;unfold qiY;split
      ·rename_i hn;have:¬ 9223372036854775808<u:=fun e=>h2 ⟨hn,e⟩;omega
      ·rename_i hn;have:¬ 9223372036854775808≤u:=fun e=>h1 ⟨hn,e⟩;omega
 | range =>
  simp only[Lib.atoiSat,qiY];split <;> omega
 | _=>simp[qiY]
theorem qpC {t:List UInt8} (h:(qbU t).2=false):qbU t=(⟨0,0,0⟩,false):=by
 unfold qbU at h ⊢;split
 ·rename_i ht;rw[if_pos ht]at h;simp at h
 ·rename_i ht;rw[if_neg ht]at h;split
  ·rename_i a b c htr;split
   ·rename_i hq;rw[htr]at h;simp[hq]at h
   ·rfl
  ·rfl
theorem qly {t:List UInt8} {a b c:List UInt8} (h:qaJ 46 t []=[a,b,c]):qlz t=if qdK a=true∧qdK b=true∧qdK c=true then some (qaI a,qaI b,qaI c) else none:=by
 unfold qlz;rw[h]
theorem qio {t:List UInt8} (h:(qaJ 46 t []).length≠3):qlz t=none:=by
 unfold qlz;split
 ·rename_i a b c hc;rw[hc]at h;simp at h
 ·rfl
theorem qor {t:List UInt8} (h:qlz t=none) (ht:t≠[45]):qbU t=(⟨0,0,0⟩,false):=by
 unfold qbU;rw[if_neg ht,h]
theorem qvh {t a b c:List UInt8} (h:qaJ 46 t []=[a,b,c]) (ht:t≠[45]) :
  qbU t=if qdK a=true∧qdK b=true∧qdK c=true∧qar ⟨qaI a,qaI b,qaI c⟩=true then (⟨qaI a,qaI b,qaI c⟩,true) else (⟨0,0,0⟩,false):=by
 unfold qbU;rw[if_neg ht,qly h];by_cases h1:qdK a=true∧qdK b=true∧qdK c=true
 ·rw[if_pos h1];obtain⟨h2,h3,h4⟩:=h1;simp only[h2,h3,h4,true_and]
 ·rw[if_neg h1,if_neg (fun e=>h1 ⟨e.1,e.2.1,e.2.2.1⟩)]
theorem qrz {t a b c:List UInt8} (h:qaJ 46 t []=[a,b,c]) (ht:t≠[45]) :
  qbU t=if (qaB a).2=true∧(qaB b).2=true∧(qaB c).2=true∧qaT ⟨(qaB a).1,(qaB b).1,(qaB c).1⟩=t then (⟨(qaB a).1,(qaB b).1,(qaB c).1⟩,true) else (⟨0,0,0⟩,false):=by
 have hj:=qdI 46 t [];rw[h]at hj;by_cases hs:(qaB a).2=true∧(qaB b).2=true∧(qaB c).2=true∧qaT ⟨(qaB a).1,(qaB b).1,(qaB c).1⟩=t
 ·rw[if_pos hs];obtain⟨s1,s2,s3,s4⟩:=hs;have hok:qaL ⟨(qaB a).1,(qaB b).1,(qaB c).1⟩=true:=by
   cases hk:qaL ⟨(qaB a).1,(qaB b).1,(qaB c).1⟩with
   | true=>rfl
   | false =>
    rw[qaT,if_pos hk]at s4;subst s4;simp[qaJ]at h
  rw[← s4];exact qgR hok
 ·rw[if_neg hs,qvh h ht];split
  ·rename_i hq;exfalso;obtain⟨c1,c2,c3,hr⟩:=hq;have hb:=qjL (qd1 hr).1;simp only at hb;have n1:=(qfr a).1 ⟨c1,by omega⟩;have n2:=(qfr b).1 ⟨c2,by omega⟩;have n3:=(qfr c).1 ⟨c3,by omega⟩;refine hs ⟨n1,n2,n3,?_⟩;rw[← qho n1,← qho n2,← qho n3,qdA hr];simp only;rw[qds c1,qds c2,qds c3];simpa using hj
  ·rfl
theorem qek {α:Type} {l:List α} (h:l.length=3):∃ a b c,l=[a,b,c]:=by
 match l,h with
 | [a,b,c],_=>exact⟨a,b,c,rfl⟩
theorem qf8 (t:List UInt8) (hl:t.length≤1048576):CV prog 157 [.str t] (.tup [.agg (qbU t).1.row,.bool (qbU t).2]):=by
 have c1:=qkp t 46 hl;have hw:=qbu 46 t [];have hnum:=qdr 46 t [];refine cvx func157 [] ntmps157 rfl rfl rfl ?_ (hcv:=by simp[PT.row]);by_cases h1:t=[45]
 ·subst h1;simp[qbU,PT.row]
 simp[h1];refine c1.call ?_;by_cases h3:(qaJ 46 t []).length=3
 ·obtain⟨a,b,c,hc⟩:=qek h3;rw[hc]at hw;have n1:=qiu a (by have:=hw a (by simp);simp at this;omega);have n2:=qiu b (by have:=hw b (by simp);simp at this;omega);have n3:=qiu c (by have:=hw c (by simp);simp at this;omega);have hsp:=qrz hc h1;have tx:=qeS ⟨(qaB a).1,(qaB b).1,(qaB c).1⟩;simp only[PT.row]at tx;by_cases h30:30<t.length
  ·have hf:(qbU t).2=false:=by
    cases hk:(qbU t).2 with
    | false=>rfl
    | true =>
     have:=qbt (qbU t).1;rw[(qiI hk).1]at this;omega
   rw[qpC hf];simp[hc,qcx,PT.row,show(30:Int)<t.length by omega,h30]
  ·simp[hc,qcx,PT.row,show ¬ (30:Int)<t.length by omega,h30];refine n1.call ?_;simp;refine n2.call ?_;simp;refine n3.call ?_;rw[hsp];generalize qaB a=A at *
   generalize qaB b=B at *
   generalize qaB c=C at *
   obtain⟨av,ak⟩:=A;obtain⟨bv,bk'⟩:=B;obtain⟨cv,ck⟩:=C;simp only at tx;cases ak with
   | false=>simp[PT.row]
   | true =>
    cases bk' with
    | false=>simp[PT.row]
    | true =>
     cases ck with
     | false=>simp[PT.row]
     | true =>
      simp[PT.row];refine tx.call ?_;by_cases he:qaT ⟨av,bv,cv⟩=t
      ·simp[he,PT.row]
      ·simp[he,PT.row]
 ·rw[qor (qio h3) h1];simp[qcx,h3,show ¬ ((qaJ 46 t []).length:Int)=3 by omega,PT.row]
theorem qt6 (l:List Int) (hl:l.length≤10) (h:∀ x∈l,qiY x):CV prog 263 [.lst 1 (l.map qad)] (.str (Lib.join (l.map Lib.itoa) [46])):=by
 have hlen:∀ x∈l.map Lib.itoa,x.length≤20:=fun x hx=>by
  obtain⟨n,hn,rfl⟩:=qGt.1 hx;have:=h n hn;unfold qiY at this;unfold Lib.itoa;split
  ·have:=qk6 n.natAbs 19 (by omega) (by omega);simp;omega
  ·have:=qk6 n.toNat 19 (by omega) (by omega);omega
 have hj:=qgi [46] 20 (l.map Lib.itoa) hlen;simp only[qG4]at hj;have cj:=qjU (l.map Lib.itoa) [46] (by simp;omega) (by simp at hj;omega);refine cvx func263 [] ntmps263 rfl rfl rfl ?_ (hca:=by simp[qad]);simp;refine qe8 (qkf 3 1 (by simp) (by simp)) ?_;refine qaM (X:=Nat) [2,3,6,7,8] [(3,900)] (fun i=>[(3,.sl 900 0 i),(8,.int .i64 i)]) (fun i=>[(900,qas ((l.take i).map Lib.itoa))]) (fun i=>l.length-i) (fun i=>i≤l.length) 0 (by simp) ?_ (he:=by simp[qah,qas]);intro i hi;cases hr:l.drop i with
 | nil =>
  have:=qaY hr;have hie:i=l.length:=by omega
  subst hie;rw[qHW];simp;refine cj.view (by simp[qb5,mtA,qas,qai,qGh]) ?_;simp
 | cons x r =>
  obtain⟨g1,e0,e1,g3⟩:=qaZ hr;have hx:=h x (qHT e1);have cd:=qxI x hx.1 hx.2;have e2:=qap ((i:Int)+1) (by omega) (by omega);simp[g1,e0,e1,qad];refine cd.call ?_;simp[qas];have hmin:min i l.length=i:=by omega
  exact⟨by omega,nx (i+1) [(16,900)] (by omega) (h4:=by
   have ht:=tk1 (qai ∘ Lib.itoa) e1;simp[qas,ht,qGh,hmin,e2];simp[qai])⟩
theorem qtd {t a b c:List UInt8} (h:qaJ 46 t []=[a,b,c]) (h1:qbD a=true) (h2:qbD b=true) (h3:qbD c=true) :
  (Lib.join [Lib.itoa (qaI a),Lib.itoa (qaI b),Lib.itoa (qaI c)] [46]=t)↔(qdK a=true∧qdK b=true∧qdK c=true):=by
 have hj:=qdI 46 t [];rw[h]at hj;have hn:∀ n:Int,∀ x∈Lib.itoa n,x≠(46:UInt8):=fun n=>qgX n 46 (by decide) (by decide);constructor
 ·intro e;have hc:=qdq 46 [Lib.itoa (qaI a),Lib.itoa (qaI b),Lib.itoa (qaI c)] (by simp) (by
   intro w hw;simp only[qHq,qHz,or_false]at hw;rcases hw with rfl | rfl | rfl
   ·exact hn _
   ·exact hn _
   ·exact hn _)
  rw[e,h]at hc;simp only[qHw,and_true]at hc;obtain⟨e1,e2,e3⟩:=hc;simp only[qdK,h1,h2,h3,qIe,decide_eq_true_eq];exact⟨e1.symm,e2.symm,e3.symm⟩
 ·rintro⟨c1,c2,c3⟩;rw[qds c1,qds c2,qds c3];simpa using hj
def thB (t:List UInt8):(Int×Int×Int)×Bool :=
 match qaJ 46 t []with
 | [a,b,c]=>if qbD a=true∧qbD b=true∧qbD c=true then ((qaI a,qaI b,qaI c),decide (qdK a=true∧qdK b=true∧qdK c=true)) else ((0,0,0),false)
 | _=>((0,0,0),false)
theorem qwr {t a b c:List UInt8} (h:qaJ 46 t []=[a,b,c]):thB t=if qbD a=true∧qbD b=true∧qbD c=true then ((qaI a,qaI b,qaI c),decide (qdK a=true∧qdK b=true∧qdK c=true)) else ((0,0,0),false):=by
 unfold thB;rw[h]
theorem qwq {t:List UInt8} (h:(qaJ 46 t []).length≠3):thB t=((0,0,0),false):=by
 unfold thB;split
 ·rename_i a b c hc;rw[hc]at h;simp at h
 ·rfl
theorem qr4 (t:List UInt8) (hl:t.length≤1048576):CV prog 184 [.str t] (.tup [.int .i64 (thB t).1.1,.int .i64 (thB t).1.2.1,.int .i64 (thB t).1.2.2,.bool (thB t).2]):=by
 have c1:=qit t 46 hl;have hw:=qbu 46 t [];have hnum:=qdr 46 t [];by_cases h3:(qaJ 46 t []).length=3
 ·obtain⟨a,b,c,hc⟩:=qek h3;rw[hc]at hw c1;have la:=hw a (by simp);have lb:=hw b (by simp);have lc:=hw c (by simp);simp at la lb lc;have n1:=qmP a (by omega);have n2:=qmP b (by omega);have n3:=qmP c (by omega);obtain⟨R,hR⟩:∃ R,thB t=R:=⟨_,rfl⟩;rw[hR];rw[qwr hc]at hR;have cp:=qt6 [qaI a,qaI b,qaI c] (by simp) (by
   intro x hx;simp only[qHq,qHz,or_false]at hx;rcases hx with rfl | rfl | rfl
   ·exact qnQ _
   ·exact qnQ _
   ·exact qnQ _)
  have heq:=@qtd t a b c hc;refine cvx func184 [(13,[zI 0,zJ 1 [7] [],zJ 2 [] [7],zJ 3 [7] [7],zJ 4 [] [7],zJ 5 [7] [7],zJ 6 [] [7],zJ 7 [7] [7],zJ 8 [] [7],zJ 9 [7] [7],zJ 10 [] [7],zJ 11 [7] [7],zJ 14 [] [7],zJ 12 [] [7],zJ 13 [] [7],zJ 15 [] [7],zJ 16 [] [7],zJ 17 [] [7],zI 18,zI 19])] ntmps184 rfl rfl rfl ?_;simp;refine c1.call ?_;simp only[qcx,qad,qGs,qHF]at c1 cp;simp[qcx];refine qbe (X:=Nat) [0,7,17,18,19] [(7,7)] (fun i=>[(19,.int .i64 i)]) (fun i=>[(7,⟨3,[[.int .i64 (if 0<i then qaI a else 0),.int .i64 (if 1<i then qaI b else 0),.int .i64 (if 2<i then qaI c else 0)]]⟩)]) (fun i=>3-i)
   (fun i=>(i=0∨(i=1∧qbD a=true)∨(i=2∧qbD a=true∧qbD b=true)∨(i=3∧qbD a=true∧qbD b=true∧qbD c=true))) 0 (.inl rfl) ?_ (he:=by simp[qah])
  rintro i (rfl | ⟨rfl,k1⟩ | ⟨rfl,k1,k2⟩ | ⟨rfl,k1,k2,k3⟩)
  ·simp[qah,qcx];refine n1.call ?_;cases hk:qbD a with
   | false =>
    rw[if_neg (by simp[hk])]at hR;simp[qia,← hR]
   | true =>
    simp[qia];exact nx 1 [(7,7)] (by simp[hk]) (h4:=by simp[qah])
  ·simp[qah,qcx];refine n2.call ?_;cases hk:qbD b with
   | false =>
    rw[if_neg (by simp[hk])]at hR;simp[qia,← hR]
   | true =>
    simp[qia];exact nx 2 [(7,7)] (by simp[hk,k1]) (h4:=by simp[qah])
  ·simp[qah,qcx];refine n3.call ?_;cases hk:qbD c with
   | false =>
    rw[if_neg (by simp[hk])]at hR;simp[qia,← hR]
   | true =>
    simp[qia];exact nx 3 [(7,7)] (by simp[hk,k1,k2]) (h4:=by simp[qah])
  ·rw[if_pos ⟨k1,k2,k3⟩]at hR;simp[qah];refine cp.view (by simp[qb5,mtA]) ?_;simp[← hR];have:=heq k1 k2 k3;rw[qIj];simp[this]
 ·rw[qwq h3];refine cvx func184 [(13,[zI 0,zJ 1 [7] [],zJ 2 [] [7],zJ 3 [7] [7],zJ 4 [] [7],zJ 5 [7] [7],zJ 6 [] [7],zJ 7 [7] [7],zJ 8 [] [7],zJ 9 [7] [7],zJ 10 [] [7],zJ 11 [7] [7],zJ 14 [] [7],zJ 12 [] [7],zJ 13 [] [7],zJ 15 [] [7],zJ 16 [] [7],zJ 17 [] [7],zI 18,zI 19])] ntmps184 rfl rfl rfl ?_;simp;refine c1.call ?_;simp[qcx,h3,show ¬ ((qaJ 46 t []).length:Int)=3 by omega]
theorem qe1 (t:List UInt8) (hl:t.length≤1048576):CV prog 183 [.str t] (.tup [.agg (qbU t).1.row,.bool (qbU t).2]):=by
 have c1:=qr4 t hl;refine cvx func183 [] ntmps183 rfl rfl rfl ?_ (hcv:=by simp[PT.row]);by_cases h1:t=[45]
 ·subst h1;simp[qbU,PT.row]
 simp[h1];refine c1.call ?_;have c2:=qpB ⟨(thB t).1.1,(thB t).1.2.1,(thB t).1.2.2⟩;simp only[PT.row]at c2;by_cases h3:(qaJ 46 t []).length=3
 ·obtain⟨a,b,c,hc⟩:=qek h3;have e1:=qvh hc h1;have e2:=qwr hc;by_cases hk:qbD a=true∧qbD b=true∧qbD c=true
  ·rw[if_pos hk]at e2;by_cases hq:qdK a=true∧qdK b=true∧qdK c=true
   ·rw[show decide (qdK a=true∧qdK b=true∧qdK c=true)=true by simpa using hq]at e2;rw[e2]at c2 ⊢;simp only at c2;obtain⟨q1,q2,q3⟩:=hq;simp only[q1,q2,q3,true_and]at e1;rw[e1];simp[PT.row];refine c2.call ?_;cases hr:qar ⟨qaI a,qaI b,qaI c⟩with
    | false=>simp[PT.row]
    | true=>simp[PT.row]
   ·rw[show decide (qdK a=true∧qdK b=true∧qdK c=true)=false by simpa using hq]at e2;rw[if_neg (fun e=>hq ⟨e.1,e.2.1,e.2.2.1⟩)]at e1;rw[e1,e2];simp[PT.row]
  ·rw[if_neg hk]at e2;have hq:¬ (qdK a=true∧qdK b=true∧qdK c=true∧qar ⟨qaI a,qaI b,qaI c⟩=true):=fun e=>by
    have h1:=e.1;have h2:=e.2.1;have h3:=e.2.2.1;simp only[qdK,Bool.and_eq_true]at h1 h2 h3;exact hk ⟨h1.1,h2.1,h3.1⟩
   rw[if_neg hq]at e1;rw[e1,e2];simp[PT.row]
 ·rw[qor (qio h3) h1,qwq h3];simp[PT.row]
def qqE (w:List UInt8):Option DE:=(qlz w).map fun x=>⟨x.1,x.2.1,x.2.2⟩
def qpq:List (List UInt8)→Option (List DE)
 | []=>some []
 | w::r=>match qqE w,qpq r with
  | some e,some l=>some (e::l)
  | _,_=>none
def qjq (t:List UInt8):List DE×Bool :=
 if 1000<t.length then ([],false) else if t=[] then ([],true) else
 match qpq (qaJ 32 t [])with
 | some l=>if qam l=true then (l,true) else ([],false)
 | none=>([],false)
def qto (w:List UInt8):Option DE :=
 match qaJ 46 w []with
 | [a,b,c]=>some ⟨(qaB a).1,(qaB b).1,(qaB c).1⟩
 | _=>none
def qu7:List (List UInt8)→Option (List DE)
 | []=>some []
 | w::r=>match qto w,qu7 r with
  | some e,some l=>some (e::l)
  | _,_=>none
theorem qfZ {e:DE} (h:qcb e=true):qcn e=Lib.join [Lib.itoa e.es,Lib.itoa e.ea,Lib.itoa e.ec] [46]:=by
 have hb:=qgu h;rw[qez _ (by omega),qez _ (by omega),qez _ (by omega),qaU,qaU,Lib.join_one];rfl
theorem qqD {w:List UInt8} {e:DE} (h:qqE w=some e) (hd:qcb e=true):qcn e=w∧qto w=some e:=by
 unfold qqE at h;cases hv:qlz w with
 | none=>rw[hv]at h;cases h
 | some x =>
  obtain⟨a,b,c⟩:=x;rw[hv]at h;simp only[qFX,qFQ]at h;subst h;refine⟨by rw[qfZ hd];exact qlx hv,?_⟩;unfold qlz at hv;split at hv
  ·rename_i x y z hc;split at hv
   ·rename_i hq;simp only[qFQ,qFR]at hv;obtain⟨rfl,rfl,rfl⟩:=hv;have hb:=qgu hd;simp only at hb;have n1:=(qfr x).1 ⟨hq.1,by omega⟩;have n2:=(qfr y).1 ⟨hq.2.1,by omega⟩;have n3:=(qfr z).1 ⟨hq.2.2,by omega⟩;unfold qto;rw[hc];simp only[qho n1,qho n2,qho n3]
   ·cases hv
  ·cases hv
theorem qwk {e:DE} (h:qcb e=true):qqE (qcn e)=some e:=by
 have hb:=qgu h;rw[qfZ h];unfold qqE;rw[qqB e.es e.ea e.ec ⟨by omega,by omega⟩ ⟨by omega,by omega⟩ ⟨by omega,by omega⟩];rfl
theorem qqC:∀ {l:List DE},(∀ e∈l,qcb e=true)→qpq (l.map qcn)=some l
 | [],_=>rfl
 | e::r,h=>by
  rw[qGs,qpq,qwk (h e (by simp)),qqC fun x hx=>h x (by simp[hx])]
theorem qlA:∀ {ws:List (List UInt8)} {l:List DE},qpq ws=some l→(∀ e∈l,qcb e=true)→l.map qcn=ws∧qu7 ws=some l
 | [],l,h,_=>by
  simp only[qpq,qFQ]at h;subst h;exact⟨rfl,rfl⟩
 | w::r,l,h,hd=>by
  rw[qpq]at h;split at h
  ·rename_i e q h1 h2;simp only[qFQ]at h;subst h;obtain⟨a1,a2⟩:=qqD h1 (hd e (by simp));obtain⟨b1,b2⟩:=qlA h2 fun x hx=>hd x (by simp[hx]);refine⟨by simp[a1,b1],?_⟩;rw[qu7,a2,b2]
  ·cases h
theorem qnj (n:Int):∀ x∈Lib.itoa n,x≠(32:UInt8):=qgX n 32 (by decide) (by decide)
theorem qoI (a b c:Int):∀ x∈Lib.join [Lib.itoa a,Lib.itoa b,Lib.itoa c] [46],x≠(32:UInt8):=by
 intro x hx;rw[qaU,qaU,Lib.join_one]at hx;simp only[qHs,qHq]at hx;rcases hx with hx | rfl | hx | rfl | hx
 ·exact qnj _ x hx
 ·decide
 ·exact qnj _ x hx
 ·decide
 ·exact qnj _ x hx
theorem qsz {e:DE} (h:qcb e=true):∀ x∈qcn e,x≠(32:UInt8):=by
 rw[qfZ h];exact qoI _ _ _
theorem qsB:qco []=[]:=by
 unfold qco;split <;> rfl
theorem qsC {t:List UInt8} (h1:¬ 1000<t.length) (h2:t≠[]) :
  qjq t=match qu7 (qaJ 32 t [])with
   | some l=>if qam l=true∧qco l=t then (l,true) else ([],false)
   | none=>([],false):=by
 have hj:=qdI 32 t [];simp only[qGC]at hj;unfold qjq;rw[if_neg h1,if_neg h2];by_cases hg:∃ l,qpq (qaJ 32 t [])=some l∧qam l=true
 ·obtain⟨l,g1,g2⟩:=hg;obtain⟨a1,a2⟩:=qlA g1 (qhF g2);have e:qco l=t:=by
   unfold qco;rw[if_pos g2,(qdT l).2,a1,hj]
  rw[g1,a2];simp[g2,e]
 ·have hL:(match qpq (qaJ 32 t [])with
   | some l=>if qam l=true then (l,true) else ([],false)
   | none=>(([]:List DE),false))=([],false):=by
   split
   ·rename_i l hl;rw[if_neg fun e=>hg ⟨l,hl,e⟩]
   ·rfl
  rw[hL];split
  ·rename_i l hl;rw[if_neg];rintro⟨q1,q2⟩;have hne:l≠[]:=by
    rintro rfl;rw[qsB]at q2;exact h2 q2.symm
   unfold qco at q2;rw[if_pos q1,(qdT l).2]at q2;have hc:=qdq 32 (l.map qcn) (by simpa using hne) (by
    intro w hw;obtain⟨e,he,rfl⟩:=qGt.1 hw;exact qsz (qhF q1 e he))
   rw[q2]at hc;exact hg ⟨l,by rw[hc];exact qqC (qhF q1),q1⟩
  ·rfl
theorem qwp (w:List UInt8):(qlz w=none→(thB w).2=false)∧∀ a b c,qlz w=some (a,b,c)→thB w=((a,b,c),true):=by
 by_cases h3:(qaJ 46 w []).length=3
 ·obtain⟨x,y,z,hc⟩:=qek h3;rw[qly hc,qwr hc];by_cases hq:qdK x=true∧qdK y=true∧qdK z=true
  ·rw[if_pos hq];have hk:qbD x=true∧qbD y=true∧qbD z=true:=by
    obtain⟨q1,q2,q3⟩:=hq;simp only[qdK,Bool.and_eq_true]at q1 q2 q3;exact⟨q1.1,q2.1,q3.1⟩
   refine⟨(fun e=>by cases e),fun a b c e=>?_⟩;simp only[qFQ,qFR]at e;obtain⟨rfl,rfl,rfl⟩:=e;rw[if_pos hk];simp[hq]
  ·rw[if_neg hq];refine⟨fun _=>?_,fun a b c e=>by cases e⟩;split
   ·simpa using hq
   ·rfl
 ·rw[qio h3,qwq h3];exact⟨fun _=>rfl,fun a b c e=>by cases e⟩
def ddF (acc:List DE) (ws:List (List UInt8)):List DE×Bool :=
 match qpq ws with
 | some l=>if qam (acc++l)=true then (acc++l,true) else ([],false)
 | none=>([],false)
theorem qur (acc:List DE) (w:List UInt8) (r:List (List UInt8)):ddF acc (w::r)=match qqE w with
  | some e=>ddF (acc++[e]) r
  | none=>([],false):=by
 unfold ddF;rw[qpq];cases qqE w with
 | none=>rfl
 | some e =>
  cases qpq r with
  | none=>rfl
  | some l=>simp
def ddQ (x:Nat) (R:List DE×Bool) (r:AV) (L':List (Nat×Ob)):Prop :=
 (R.1=[]∧r=.tup [.nils,.bool R.2]∧L'=[])∨(r=.tup [.sl x 0 R.1.length,.bool R.2]∧L'=[(x,qaN R.1)])
theorem qvK {f x:Nat} {t:List UInt8} {R:List DE×Bool} (h:ACall prog f [.str t] [] (ddQ x R)) (he:qb1 prog f=true):CV prog f [.str t] (.tup [.lst 3 (R.1.map DE.row),.bool R.2]):=by
 refine CV.of_frz h ?_ (he:=he) (hcv:=by simp[DE.row]);rintro r L' (⟨h1,rfl,rfl⟩ | ⟨rfl,rfl⟩)
 ·refine⟨by simp,by simp,by simp,?_⟩;rw[h1];simp only[qa7,qHF];exact qdl (.cons (qa2 3) (.cons (qaE _) .nil))
 ·refine⟨by simp,by simp,fun x hx=>by simp only[qIx]at hx;subst hx;exact qbK _,?_⟩;simp[qa7,qaN,qal]
theorem qsg (t:List UInt8) (hl:t.length≤1048576):CV prog 89 [.str t] (.tup [.lst 3 ((qjq t).1.map DE.row),.bool (qjq t).2]):=by
 refine qvK (x:=900) ?_ (by kernel_rfl);obtain⟨R,hR⟩:∃ R,qjq t=R:=⟨_,rfl⟩;rw[hR];unfold qjq at hR;refine acx func89 [] ntmps89 rfl rfl rfl ?_;by_cases h1:1000<t.length
 ·rw[if_pos h1]at hR;subst hR;simp[show(1000:Int)<t.length by omega,h1];exact⟨[],by simp,.inl ⟨rfl,rfl,rfl⟩⟩
 rw[if_neg h1]at hR;by_cases h2:t=[]
 ·rw[if_pos h2]at hR;subst hR;simp[h2];exact⟨[],by simp,.inl ⟨rfl,rfl,rfl⟩⟩
 rw[if_neg h2]at hR;have hR':ddF [] (qaJ 32 t [])=R:=by
  rw[← hR];unfold ddF;simp
 have c1:=qit t 32 hl;have hw:=qbu 32 t [];have hnum:=qdr 32 t [];simp only[qHf,qHc]at hw;simp[show ¬ (1000:Int)<t.length by omega,h1,h2];refine c1.call ?_;generalize qaJ 32 t []=ws at *
 simp[qcx];refine qe8 (qkf 4 3 (by simp) (by simp)) ?_;refine qaM (X:=Nat×List DE) [2,3,4,17,18,19] [(4,900)] (fun x=>[(4,.sl 900 0 x.2.length),(19,.int .i64 x.1)]) (fun x=>[(900,qaN x.2)]) (fun x=>ws.length-x.1) (fun x=>x.1≤ws.length∧x.2.length=x.1∧ddF x.2 (ws.drop x.1)=R) (0,[]) ⟨by omega,rfl,hR'⟩ ?_ (he:=by simp[qah,qaN]);rintro⟨i,acc⟩ ⟨hi,ha,hd⟩;simp only at hi ha hd;cases hr:ws.drop i with
 | nil =>
  have:=qaY hr;have hie:i=ws.length:=by omega
  subst hie;rw[hr]at hd;have c2:=qkR acc (by omega);simp only[ddF,qpq,qH6]at hd;simp;refine c2.view (by simp[qb5,mtA,qaN,qal]) ?_;cases hk:qam acc with
  | false =>
   rw[if_neg (by simp[hk])]at hd;subst hd;simp;exact⟨[],by simp,.inl ⟨rfl,rfl,rfl⟩⟩
  | true =>
   rw[if_pos hk]at hd;subst hd;simp;exact⟨[(900,qaN acc)],by simp,.inr ⟨rfl,rfl⟩⟩
 | cons w r =>
  obtain⟨g1,e0,e1,g3⟩:=qaZ hr;have hwl:=hw w (qHT e1);have c2:=qr4 w (by omega);have e2:=qap ((i:Int)+1) (by omega) (by omega);obtain⟨t1,t2⟩:=qwp w;rw[hr,qur]at hd;simp[g1,e0,e1,qcx];refine c2.call ?_;cases hv:qlz w with
  | none =>
   rw[show qqE w=none by unfold qqE;rw[hv];rfl]at hd;simp only at hd;subst hd;simp[t1 hv];exact⟨[],by simp,.inl ⟨rfl,rfl,rfl⟩⟩
  | some x =>
   obtain⟨a,b,c⟩:=x;rw[show qqE w=some ⟨a,b,c⟩ by unfold qqE;rw[hv];rfl]at hd;simp only at hd;rw[t2 a b c hv];simp[qaN,DE.row];refine⟨by omega,nx (i+1,acc++[⟨a,b,c⟩]) [(38,900)] ⟨by simp only;omega,by simp[ha],by simp only[g3];exact hd⟩ (by simp only;omega) (h4:=?_)⟩;simp[qah,qaN,e2,qGh,DE.row]
def spF (t:List UInt8) (acc:List DE) (ws:List (List UInt8)):List DE×Bool :=
 match qu7 ws with
 | some l=>if qam (acc++l)=true∧qco (acc++l)=t then (acc++l,true) else ([],false)
 | none=>([],false)
theorem qtp (t:List UInt8) (acc:List DE) (w:List UInt8) (r:List (List UInt8)):spF t acc (w::r)=match qto w with
  | some e=>spF t (acc++[e]) r
  | none=>([],false):=by
 unfold spF;rw[qu7];cases qto w with
 | none=>rfl
 | some e =>
  cases qu7 r with
  | none=>rfl
  | some l=>simp
theorem qra (t:List UInt8) (hl:t.length≤1048576):CV prog 163 [.str t] (.tup [.lst 3 ((qjq t).1.map DE.row),.bool (qjq t).2]):=by
 refine qvK (x:=900) ?_ (by kernel_rfl);obtain⟨R,hR⟩:∃ R,qjq t=R:=⟨_,rfl⟩;rw[hR];refine acx func163 [] ntmps163 rfl rfl rfl ?_;by_cases h1:1000<t.length
 ·unfold qjq at hR;rw[if_pos h1]at hR;subst hR;simp[show(1000:Int)<t.length by omega,h1];exact⟨[],by simp,.inl ⟨rfl,rfl,rfl⟩⟩
 have c1:=qkp t 32 hl;have hw:=qbu 32 t [];have hnum:=qdr 32 t [];simp only[qHf,qHc]at hw;by_cases h2:t=[]
 ·unfold qjq at hR;rw[if_neg h1,if_pos h2]at hR;subst hR;subst h2;have c2:=qfQ [] (by simp);have c3:=qiz [] (by simp);rw[qsB]at c3;rw[show qam []=true by decide]at c2;simp;refine c1.call ?_;simp[qaJ,qcx];refine qaM (X:=Nat) [0,2,3,4,5,6] [(14,900)] (fun i=>[(4,.sl 900 0 0),(6,.int .i64 i)]) (fun i=>[(900,qaN [])]) (fun i=>0) (fun i=>i=0) 0 rfl ?_ (he:=by simp[qah,qaN]);rintro i rfl;simp;refine c2.view (by simp[qb5,mtA,qaN]) ?_;simp;refine c3.view (by simp[qb5,mtA,qaN]) ?_;simp;exact⟨[(900,qaN [])],by simp,.inr ⟨rfl,rfl⟩⟩
 have hR':spF t [] (qaJ 32 t [])=R:=by
  rw[← hR,qsC h1 h2];unfold spF;simp
 simp[show ¬ (1000:Int)<t.length by omega,h1,h2];refine c1.call ?_;generalize qaJ 32 t []=ws at *
 simp[qcx];refine qaM (X:=Nat×List DE) [0,2,3,4,5,6] [(14,900)] (fun x=>[(4,.sl 900 0 x.2.length),(6,.int .i64 x.1)]) (fun x=>[(900,qaN x.2)]) (fun x=>ws.length-x.1) (fun x=>x.1≤ws.length∧x.2.length=x.1∧spF t x.2 (ws.drop x.1)=R) (0,[]) ⟨by omega,rfl,hR'⟩ ?_ (he:=by simp[qah,qaN]);rintro⟨i,acc⟩ ⟨hi,ha,hd⟩;simp only at hi ha hd;cases hr:ws.drop i with
 | nil =>
  have:=qaY hr;have hie:i=ws.length:=by omega
  subst hie;rw[hr]at hd;have c2:=qfQ acc (by omega);have c3:=qiz acc (by omega);simp only[spF,qu7,qH6]at hd;simp[h2];refine c2.view (by simp[qb5,mtA,qaN,qal]) ?_;cases hk:qam acc with
  | false =>
   rw[if_neg (by simp[hk])]at hd;subst hd;simp;exact⟨[],by simp,.inl ⟨rfl,rfl,rfl⟩⟩
  | true =>
   simp;refine c3.view (by simp[qb5,mtA,qaN,qal]) ?_;by_cases ht:qco acc=t
   ·rw[if_pos ⟨hk,ht⟩]at hd;subst hd;simp[ht];exact⟨[(900,qaN acc)],by simp,.inr ⟨rfl,rfl⟩⟩
   ·rw[if_neg fun e=>ht e.2]at hd;subst hd;simp[ht];exact⟨[],by simp,.inl ⟨rfl,rfl,rfl⟩⟩
 | cons w r =>
  obtain⟨g1,e0,e1,g3⟩:=qaZ hr;have hwl:=hw w (qHT e1);have c2:=qkp w 46 (by omega);have hw2:=qbu 46 w [];have e2:=qap ((i:Int)+1) (by omega) (by omega);have hli:(i:Int)<ws.length:=by omega
  rw[hr,qtp]at hd;simp[g1,e0,e1,qcx,h2,hli];refine c2.call ?_;by_cases h3:(qaJ 46 w []).length=3
  ·obtain⟨a,b,c,hc⟩:=qek h3;rw[hc]at hw2;have la:=hw2 a (by simp);have lb:=hw2 b (by simp);have lc:=hw2 c (by simp);simp at la lb lc;have n1:=qiu a (by omega);have n2:=qiu b (by omega);have n3:=qiu c (by omega);rw[show qto w=some ⟨(qaB a).1,(qaB b).1,(qaB c).1⟩ by unfold qto;rw[hc]]at hd;simp only at hd;simp[hc,qcx];refine n1.call ?_;simp;refine n2.call ?_;simp;refine n3.call ?_;simp[qaN,DE.row];refine⟨by omega,nx (i+1,acc++[⟨(qaB a).1,(qaB b).1,(qaB c).1⟩]) [(65,900)] ⟨by simp only;omega,by simp[ha],by simp only[g3];exact hd⟩ (by simp only;omega) (h4:=?_)⟩;simp[qah,qaN,e2,qGh,DE.row]
  ·have hn:qto w=none:=by
    unfold qto;split
    ·rename_i a b c hc;rw[hc]at h3;simp at h3
    ·rfl
   rw[hn]at hd;simp only at hd;subst hd;simp[qcx,h3,show ¬ ((qaJ 46 w []).length:Int)=3 by omega];exact⟨[],by simp,.inl ⟨rfl,rfl,rfl⟩⟩
def z8:List PT:=List.replicate 8 zPT
def qeW (t:List UInt8):List PT×Bool :=
 if 400<t.length∨(qaJ 32 t []).length≠8 then (z8,false) else
 if (qaJ 32 t []).all (fun w=>(qbU w).2)=true then ((qaJ 32 t []).map fun w=>(qbU w).1,true) else (z8,false)
theorem qkJ (t:List UInt8):(qeW t).1.length=8:=by
 unfold qeW;split
 ·rfl
 ·rename_i h;split
  ·simp only[qG4];omega
  ·rfl
theorem qxz {t:List UInt8} (h:(qeW t).2=true):qbk (qeW t).1=t∧∀ p∈(qeW t).1,qaL p=true:=by
 unfold qeW at h ⊢;split at h
 ·simp at h
 ·rename_i h1;rw[if_neg h1];split at h
  ·rename_i h2;rw[if_pos h2];simp only;rw[qGf]at h2;have hall:∀ p∈(qaJ 32 t []).map fun w=>(qbU w).1,qaL p=true:=fun p hp=>by
    obtain⟨w,hw,rfl⟩:=qGt.1 hp;exact(qiI (h2 w hw)).2
   refine⟨?_,hall⟩;rw[qeY,if_pos (qGf.2 hall),qGA];have e:(qaJ 32 t []).map (qaT ∘ fun w=>(qbU w).1)=qaJ 32 t []:=by
    conv=>rhs;rw[← List.map_id (qaJ 32 t [])]
    refine qGD fun w hw=>?_;exact(qiI (h2 w hw)).1
   rw[e,qdI];rfl
  ·simp at h
def mpS (ws:List (List UInt8)) (x:Nat×List PT):Prop:=x.1≤8∧x.2.length=8∧∀ j,j<x.1→∃ w,ws[j]?=some w∧(qbU w).2=true∧x.2[j]?=some (qbU w).1
theorem qoE {ws:List (List UInt8)} {i:Nat} {m:List PT} {w:List UInt8} (h:mpS ws (i,m)) (hi:i<8) (hw:ws[i]?=some w) (hk:(qbU w).2=true):mpS ws (i+1,m.set i (qbU w).1):=by
 obtain⟨h1,h2,h3⟩:=h;simp only at h1 h2 h3;refine⟨by simp only;omega,by simpa using h2,fun j hj=>?_⟩;simp only at hj ⊢;by_cases hji:j=i
 ·subst hji;exact⟨w,hw,hk,by simp[h2,hi]⟩
 ·obtain⟨v,v1,v2,v3⟩:=h3 j (by omega);exact⟨v,v1,v2,by rw[qGQ (qFL hji)];exact v3⟩
theorem qrM {t:List UInt8} {m:List PT} (h1:¬ 400<t.length) (h8:(qaJ 32 t []).length=8) (h:mpS (qaJ 32 t []) (8,m)):qeW t=(m,true):=by
 obtain⟨_,h2,h3⟩:=h;simp only at h2 h3;have hall:∀ w∈qaJ 32 t [],(qbU w).2=true:=fun w hw=>by
  obtain⟨j,hj⟩:=qIW.1 hw;have hl:=(qGy.1 hj).1;obtain⟨v,v1,v2,_⟩:=h3 j (by omega);rw[hj]at v1;injection v1 with v1;rw[v1];exact v2
 have hm:(qaJ 32 t []).map (fun w=>(qbU w).1)=m:=by
  refine qIp fun j=>?_;by_cases hj:j<8
  ·obtain⟨v,v1,v2,v3⟩:=h3 j hj;rw[qGw,v1,v3];rfl
  ·rw[qHx (by simp;omega),qHx (by omega)]
 unfold qeW;rw[if_neg (by simp[h1,h8]),if_pos (qGf.2 hall),hm]
theorem qoF {t:List UInt8} {w:List UInt8} (hw:w∈qaJ 32 t []) (hk:(qbU w).2=false):qeW t=(z8,false):=by
 unfold qeW;split
 ·rfl
 ·rw[if_neg fun e=>by
   rw[qGf]at e;rw[e w hw]at hk;cases hk]
theorem qsc (t:List UInt8) (hl:t.length≤1048576):CV prog 88 [.str t] (.tup [.agg ((qeW t).1.flatMap PT.row),.bool (qeW t).2]):=by
 have c1:=qit t 32 hl;have hw:=qbu 32 t [];simp only[qHf,qHc]at hw;refine cvx func88 [] ntmps88 rfl rfl rfl ?_ (hcv:=by simp[qfc]);simp;refine c1.call ?_;by_cases h1:400<t.length
 ·rw[show qeW t=(z8,false) by unfold qeW;rw[if_pos (.inl h1)]];simp[show(400:Int)<t.length by omega,h1,z8,zPT,PT.row]
 by_cases h8:(qaJ 32 t []).length=8
 ·obtain⟨R,hR⟩:∃ R,qeW t=R:=⟨_,rfl⟩;have hend:=@qrM t;have hbad:=@qoF t;rw[hR]at hend hbad ⊢;generalize qaJ 32 t []=ws at *
  simp[show ¬ (400:Int)<t.length by omega,h1,h8,qcx];refine qaM (X:=Nat×List PT) [2,3,5,21,22,23] [(2,2),(5,5)] (fun x=>[(23,.int .i64 x.1)]) (fun x=>[(2,⟨24,[z8.flatMap PT.row]⟩),(5,⟨24,[x.2.flatMap PT.row]⟩)]) (fun x=>8-x.1) (mpS ws) (0,z8) ⟨by omega,rfl,by omega⟩ ?_ (he:=by simp[qah,z8,zPT,PT.row]);rintro⟨i,m⟩ hg;have hg':=hg;obtain⟨hi,hm,hj⟩:=hg';simp only at hi hm hj;have hml:(m.flatMap PT.row).length=24:=by rw[qhO,hm]
  have hsum:(List.map (fun a:PT=>3) m).sum=24:=by
   have:=hml;rw[qIP]at this;exact this
  have hmt:List.take 24 (m.flatMap PT.row)=m.flatMap PT.row:=qGh (by omega);have hzt:List.drop 24 (z8.flatMap PT.row)=[]:=qHL (by decide);by_cases h2:i<8
  ·obtain⟨w,f1⟩:∃ w,ws[i]?=some w:=⟨_,qF3 (by omega)⟩;have f0:ws[i]'(by omega)=w:=(qGy.1 f1).2;have h2':(i:Int)<8:=by omega
   have hwl:=hw w (qHT f1);have c2:=qe1 w (by omega);simp only[PT.row]at c2;have e2:=qap ((i:Int)+1) (by omega) (by omega);simp[h2',h2,h8,f0,f1,qcx,qah];refine c2.call ?_;have hstep:=qoE hg h2 f1;cases hk:(qbU w).2 with
   | false =>
    have:=hbad (qHT f1) hk;subst this;simp[z8,zPT,PT.row]
   | true =>
    have hs:=hstep hk;simp[hml,hsum,hmt];refine⟨by omega,by omega,nx (i+1,m.set i (qbU w).1) [(2,2),(5,5)] hs (by simp only;omega) (h4:=?_)⟩;have fs:=(qh5 m i (qbU w).1 (show i<m.length by omega)).symm;simp only[PT.row,qHS,qGC]at fs;simp[qah,e2,fs]
  ·have hie:i=8:=by omega
   subst hie;have:=hend h1 h8 hg;subst this;simp[qah,hsum,hmt,hzt]
 ·rw[show qeW t=(z8,false) by unfold qeW;rw[if_pos (.inr h8)]];simp[show ¬ (400:Int)<t.length by omega,h1,qcx,h8,show ¬ ((qaJ 32 t []).length:Int)=8 by omega,z8,zPT,PT.row]
theorem qq4 (t:List UInt8) (hl:t.length≤1048576):CV prog 162 [.str t] (.tup [.agg ((qeW t).1.flatMap PT.row),.bool (qeW t).2]):=by
 have c1:=qkp t 32 hl;have hw:=qbu 32 t [];simp only[qHf,qHc]at hw;refine cvx func162 [] ntmps162 rfl rfl rfl ?_ (hcv:=by simp[qfc]);simp;refine c1.call ?_;by_cases h1:400<t.length
 ·rw[show qeW t=(z8,false) by unfold qeW;rw[if_pos (.inl h1)]];simp[show(400:Int)<t.length by omega,h1,z8,zPT,PT.row]
 by_cases h8:(qaJ 32 t []).length=8
 ·obtain⟨R,hR⟩:∃ R,qeW t=R:=⟨_,rfl⟩;have hend:=@qrM t;have hbad:=@qoF t;have hok:=@qxz t;rw[hR]at hend hbad hok ⊢;generalize qaJ 32 t []=ws at *
  simp[show ¬ (400:Int)<t.length by omega,h1,h8,qcx];refine qaM (X:=Nat×List PT) [0,2,3,4,5,6] [(2,2),(4,4)] (fun x=>[(6,.int .i64 x.1)]) (fun x=>[(2,⟨24,[z8.flatMap PT.row]⟩),(4,⟨24,[x.2.flatMap PT.row]⟩)]) (fun x=>8-x.1) (mpS ws) (0,z8) ⟨by omega,rfl,by omega⟩ ?_ (he:=by simp[qah,z8,zPT,PT.row]);rintro⟨i,m⟩ hg;have hg':=hg;obtain⟨hi,hm,hj⟩:=hg';simp only at hi hm hj;have hml:(m.flatMap PT.row).length=24:=by rw[qhO,hm]
  have hsum:(List.map (fun a:PT=>3) m).sum=24:=by
   have:=hml;rw[qIP]at this;exact this
  have hmt:List.take 24 (m.flatMap PT.row)=m.flatMap PT.row:=qGh (by omega);have hzt:List.drop 24 (z8.flatMap PT.row)=[]:=qHL (by decide);by_cases h2:i<8
  ·obtain⟨w,f1⟩:∃ w,ws[i]?=some w:=⟨_,qF3 (by omega)⟩;have f0:ws[i]'(by omega)=w:=(qGy.1 f1).2;have h2':(i:Int)<8:=by omega
   have hwl:=hw w (qHT f1);have c2:=qf8 w (by omega);simp only[PT.row]at c2;have e2:=qap ((i:Int)+1) (by omega) (by omega);simp[h2',h2,h8,f0,f1,qcx,qah];refine c2.call ?_;have hstep:=qoE hg h2 f1;cases hk:(qbU w).2 with
   | false =>
    have:=hbad (qHT f1) hk;subst this;simp[z8,zPT,PT.row]
   | true =>
    have hs:=hstep hk;simp[hml,hsum,hmt];refine⟨by omega,by omega,nx (i+1,m.set i (qbU w).1) [(2,2),(4,4)] hs (by simp only;omega) (h4:=?_)⟩;have fs:=(qh5 m i (qbU w).1 (show i<m.length by omega)).symm;simp only[PT.row,qHS,qGC]at fs;simp[qah,e2,fs]
  ·have hie:i=8:=by omega
   subst hie;have:=hend h1 h8 hg;subst this;have ht:=hok rfl;have c3:=qlK m hm;simp only at ht;rw[ht.1]at c3;simp[qah,hml,hsum,hmt,hzt];refine c3.call ?_;simp[qah,hml,hsum,hmt,hzt]
 ·rw[show qeW t=(z8,false) by unfold qeW;rw[if_pos (.inr h8)]];simp[show ¬ (400:Int)<t.length by omega,h1,qcx,h8,show ¬ ((qaJ 32 t []).length:Int)=8 by omega,z8,zPT,PT.row]
end Go.Av.F
end
