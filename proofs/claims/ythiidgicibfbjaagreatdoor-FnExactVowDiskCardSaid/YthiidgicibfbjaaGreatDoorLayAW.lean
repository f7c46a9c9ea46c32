/- Lemmas for the proof, no statement of the seat; no conditions. -/
import Derived.Test.YthiidgicibfbjaaGreatDoorLayAV
set_option linter.unusedSimpArgs false
set_option linter.unusedVariables false
set_option linter.unnecessarySimpa false
set_option maxRecDepth 100000
set_option maxHeartbeats 400000
section
namespace Go.Av.F
open Go Go.Av Go.Proofs Go.Proofs.Tryz
theorem qod:∀ d:Fin 16,qa1 (qpm d.val) hexL 0=(d.val:Int):=by decide
theorem qml:∀ (s out:List UInt8),qfe (qev s) out=(out++s,true)
 | [],out=>by simp[qev,qfe]
 | c::r,out=>by
  have hc:c.toNat<256:=c.toNat_lt;have h1:=qod ⟨c.toNat / 16,by omega⟩;have h2:=qod ⟨c.toNat % 16,by omega⟩;simp only at h1 h2;rw[qev,qfe,h1,h2,if_neg (by omega),qml r];have:UInt8.ofNat ((c.toNat / 16:Nat) * 16+(c.toNat % 16:Nat):Int).toNat=c:=by
   have e:((c.toNat / 16:Nat) * 16+(c.toNat % 16:Nat):Int).toNat=c.toNat:=by omega
   rw[e];simp
  rw[this];simp
theorem qun:∀ d:Fin 16,qpm d.val≠(32:UInt8):=by decide
theorem qrh:∀ (s:List UInt8),∀ x∈qev s,x≠(32:UInt8)
 | [],x,hx=>by simp[qev]at hx
 | c::r,x,hx=>by
  have hc:c.toNat<256:=c.toNat_lt;rw[qev]at hx;rcases qE3.1 hx with rfl | hx
  ·exact qun ⟨c.toNat / 16,by omega⟩
  rcases qE3.1 hx with rfl | hx
  ·exact qun ⟨c.toNat % 16,by omega⟩
  ·exact qrh r x hx
theorem qwz {s:List UInt8} (h:qev s=[]):s=[]:=by
 cases s with
 | nil=>rfl
 | cons c r=>simp[qev]at h
theorem qwx (s:List UInt8):∀ x∈qhC s,x≠(32:UInt8):=by
 unfold qhC;split
 ·intro x hx;simp only[qF8]at hx;subst hx;decide
 ·exact qrh s
def unT (w:List UInt8):List UInt8:=if w=[45] then [] else (qfe w []).1
theorem qwy (s:List UInt8):qev s≠[45]:=fun h=>by
 have:=qf0 s;rw[h]at this;simp at this;omega
theorem quX (s:List UInt8):unT (qhC s)=s∧(qhC s=[45]∨(qfe (qhC s) []).2=true):=by
 unfold qhC;split
 ·rename_i h;have:=qwz h;subst this;exact⟨rfl,.inl rfl⟩
 ·rw[qml s []];unfold unT;rw[if_neg (qwy s),qml s []];exact⟨rfl,.inr rfl⟩
theorem qmA {s:List UInt8} (h:qbS s=true):∀ x∈s,x≠(32:UInt8):=fun x hx=>by
 simp only[qbS,Bool.and_eq_true,qDS]at h;have:=h.1.1 x hx;rintro rfl;simp[qmg]at this
theorem qqP {r:LR} {t:List UInt8} (h:qbW r=t) (ht:t≠[]) :
  qdh r=true∧(qbf t).2=true∧qaF 32 (qbf t).1 []=[dec r.txg++46::dec r.seq,r.op.a,dec r.op.i,qhC r.op.text,dec r.txg++46::dec r.seq]:=by
 unfold qbW at h;split at h
 ·exact absurd h.symm ht
 ·rename_i hc;have hk:qdh r=true:=by simpa using hc
  have hsp:(1≤r.txg∧r.txg≤1000000)∧(0≤r.seq∧r.seq<8)∧r.op.kind=3∧qbS r.op.a=true∧r.op.b=[]∧(0≤r.op.i∧r.op.i<8)∧r.op.text.length≤24:=by
   have:=hk;simp only[qdh,Bool.and_eq_true,decide_eq_true_eq]at this;grind
  obtain⟨s1,s2,s3,s4,s5,s6,s7⟩:=hsp;have l1:=qav r.txg (by omega);have l2:=qav r.seq (by omega);have l3:=qav r.op.i (by omega);have l4:r.op.a.length≤6:=by
   simp only[qbS,Bool.and_eq_true,decide_eq_true_eq]at s4;exact s4.2
  have l5:(qhC r.op.text).length≤48:=by
   have:=qf0 r.op.text;unfold qhC;split
   ·simp
   ·omega
  have hj:dec r.txg++(46::(dec r.seq++(32::(r.op.a++(32::(dec r.op.i++(32::(qhC r.op.text++(32::(dec r.txg++(46::dec r.seq))))))))))) =
    Lib.join [dec r.txg++46::dec r.seq,r.op.a,dec r.op.i,qhC r.op.text,dec r.txg++46::dec r.seq] [32]:=by
   rw[qaM,qaM,qaM,qaM,Lib.join_one];simp
  have ho:=qlr (s:=dec r.txg++(46::(dec r.seq++(32::(r.op.a++(32::(dec r.op.i++(32::(qhC r.op.text++(32::(dec r.txg++(46::dec r.seq)))))))))))) (by simp;omega);rw[h]at ho;rw[ho];refine⟨hk,rfl,?_⟩;have hm:∀ x∈dec r.txg++46::dec r.seq,x≠(32:UInt8):=fun x hx=>by
   simp only[qE5,qE3]at hx;rcases hx with hx | rfl | hx
   ·exact qfr _ 32 (by decide) x hx
   ·decide
   ·exact qfr _ 32 (by decide) x hx
  rw[hj,qdi 32 _ (by simp)];intro w hw;simp only[qE3,qFc,or_false]at hw;rcases hw with rfl | rfl | rfl | rfl | rfl
  ·exact hm
  ·exact qmA s4
  ·exact qfr _ 32 (by decide)
  ·exact qwx _
  ·exact hm
def zBO:BO:=⟨0,[],[],0,[]⟩
def zLR:LR:=⟨0,0,zBO⟩
def qkQ (t:List UInt8):LR×Bool :=
 match qaF 32 (qbf t).1 []with
 | [m,a,i,x,_]=>match qaF 46 m []with
  | [p,q]=>if (qbf t).2=true∧qbW ⟨(qaw p).1,(qaw q).1,⟨3,a,[],(qaw i).1,unT x⟩⟩=t then (⟨(qaw p).1,(qaw q).1,⟨3,a,[],(qaw i).1,unT x⟩⟩,true) else (zLR,false)
  | _=>(zLR,false)
 | _=>(zLR,false)
theorem qt4 {t:List UInt8} (h:(qaF 32 (qbf t).1 []).length≠5):qkQ t=(zLR,false):=by
 unfold qkQ;split
 ·rename_i hc;rw[hc]at h;simp at h
 ·rfl
theorem qqS {t m a i x y:List UInt8} (h:qaF 32 (qbf t).1 []=[m,a,i,x,y]) (hm:(qaF 46 m []).length≠2):qkQ t=(zLR,false):=by
 unfold qkQ;rw[h];simp only;split
 ·rename_i hc;rw[hc]at hm;simp at hm
 ·rfl
theorem qnX {t m a i x y p q:List UInt8} (h:qaF 32 (qbf t).1 []=[m,a,i,x,y]) (hm:qaF 46 m []=[p,q]) :
  qkQ t=if (qbf t).2=true∧qbW ⟨(qaw p).1,(qaw q).1,⟨3,a,[],(qaw i).1,unT x⟩⟩=t then (⟨(qaw p).1,(qaw q).1,⟨3,a,[],(qaw i).1,unT x⟩⟩,true) else (zLR,false):=by
 unfold qkQ;rw[h];simp only[hm]
theorem qwT {t m a i x y:List UInt8} (h:qaF 32 (qbf t).1 []=[m,a,i,x,y]):t≠[]:=by
 rintro rfl;simp[qbf,qa1,qaF]at h
theorem qwS {n k:Int}:qaF 46 (dec n++46::dec k) []=[dec n,dec k]:=by
 rw[qkF 46 _ _ [] (qfr n 46 (by decide)),qkE 46 _ [] (qfr k 46 (by decide))];rfl
theorem qtc {n k:Int}:qeX 46 (dec n++46::dec k)=(dec n,dec k,true):=by
 have:=qiy 46 (dec n) (dec k) 0 (qfr n 46 (by decide));unfold qeX;rw[this,if_neg (by omega)];simp
theorem qza {t m a i x y:List UInt8} (h:qaF 32 (qbf t).1 []=[m,a,i,x,y]) :
  qkQ t=if qbA (qeX 46 m).1=true∧qbA (qeX 46 m).2.1=true∧qbA i=true∧(x=[45]∨(qfe x []).2=true)∧qbW ⟨qaE (qeX 46 m).1,qaE (qeX 46 m).2.1,⟨3,a,[],qaE i,unT x⟩⟩=t
   then (⟨qaE (qeX 46 m).1,qaE (qeX 46 m).2.1,⟨3,a,[],qaE i,unT x⟩⟩,true) else (zLR,false):=by
 have hne:=qwT h;have key:∀ r:LR,qbW r=t→m=dec r.txg++46::dec r.seq∧a=r.op.a∧i=dec r.op.i∧x=qhC r.op.text∧(qbf t).2=true∧qdh r=true:=fun r hr=>by
  obtain⟨w1,w2,w3⟩:=qqP hr hne;rw[h]at w3;simp only[qE9,and_true]at w3;exact⟨w3.1,w3.2.1,w3.2.2.1,w3.2.2.2.1,w2,w1⟩
 have bnd:∀ r:LR,qdh r=true→(1≤r.txg∧r.txg≤1000000)∧(0≤r.seq∧r.seq<8)∧(0≤r.op.i∧r.op.i<8):=fun r hk=>by
  simp only[qdh,Bool.and_eq_true,decide_eq_true_eq]at hk;grind
 by_cases g:qbA (qeX 46 m).1=true∧qbA (qeX 46 m).2.1=true∧qbA i=true∧(x=[45]∨(qfe x []).2=true)∧qbW ⟨qaE (qeX 46 m).1,qaE (qeX 46 m).2.1,⟨3,a,[],qaE i,unT x⟩⟩=t
 ·rw[if_pos g];obtain⟨k1,k2,k3,k4,k5,k6⟩:=key _ g.2.2.2.2;obtain⟨b1,b2,b3⟩:=bnd _ k6;simp only at k1 k3 b1 b2 b3;have hc:=@qwS (qaE (qeX 46 m).1) (qaE (qeX 46 m).2.1);rw[← k1]at hc;rw[qnX h hc];obtain⟨d1,_⟩:=qdX (n:=qaE (qeX 46 m).1) (by omega) (by omega);obtain⟨d2,_⟩:=qdX (n:=qaE (qeX 46 m).2.1) (by omega) (by omega);obtain⟨d3,_⟩:=qdX (n:=qaE i) (by omega) (by omega);rw[← k3]at d3;rw[d1,d2,d3,if_pos ⟨k5,g.2.2.2.2⟩]
 ·rw[if_neg g];by_cases h2:(qaF 46 m []).length=2
  ·obtain⟨p,q,hc⟩:∃ p q,qaF 46 m []=[p,q]:=by
    match hm:qaF 46 m [],h2 with
    | [p,q],_=>exact⟨p,q,rfl⟩
   rw[qnX h hc];split
   ·rename_i hs;exfalso;obtain⟨k1,k2,k3,k4,k5,k6⟩:=key _ hs.2;obtain⟨b1,b2,b3⟩:=bnd _ k6;simp only at k1 k3 k4 b1 b2 b3;have h1:=@qtc (qaw p).1 (qaw q).1;rw[← k1]at h1;obtain⟨_,d1,e1⟩:=qdX (n:=(qaw p).1) (by omega) (by omega);obtain⟨_,d2,e2⟩:=qdX (n:=(qaw q).1) (by omega) (by omega);obtain⟨_,d3,e3⟩:=qdX (n:=(qaw i).1) (by omega) (by omega);rw[← k3]at d3 e3;refine g ⟨by rw[h1];exact d1,by rw[h1];exact d2,d3,?_,?_⟩
    ·have:=(quX (unT x)).2;rw[← k4]at this;exact this
    ·rw[h1];simp only;rw[e1,e2,e3];exact hs.2
   ·rfl
  ·exact qqS h h2
theorem qrk {α:Type} {l:List α} (h:l.length=5):∃ a b c d e,l=[a,b,c,d,e]:=by
 match l,h with
 | [a,b,c,d,e],_=>exact⟨a,b,c,d,e,rfl⟩
theorem qni {α:Type} {l:List α} (h:l.length=2):∃ a b,l=[a,b]:=by
 match l,h with
 | [a,b],_=>exact⟨a,b,rfl⟩
theorem qnh:∀ (s out:List UInt8),(qfe s out).1.length≤out.length+s.length
 | [],out=>by simp[qfe]
 | [_],out=>by simp[qfe]
 | a::b::r,out=>by
  rw[qfe];split
  ·simp
  ·have:=qnh r (out++[UInt8.ofNat (qa1 a hexL 0 * 16+qa1 b hexL 0).toNat]);simp at this ⊢;omega
theorem qpv (x:List UInt8):(unT x).length≤x.length:=by
 unfold unT;split
 ·simp
 ·have:=qnh x [];simpa using this
theorem qk6 (t:List UInt8) (hl:t.length≤1000000):CV prog 271 [.str t] (.tup [.agg (qkQ t).1.row,.bool (qkQ t).2]):=by
 have c1:=qtQ t (by omega);have hol:=qfV t;have c2:=qjV (qbf t).1 32 (by omega);have hw:=qbm 32 (qbf t).1 [];simp only[qET,qEQ]at hw;refine cvx func271 [] ntmps271 rfl rfl rfl ?_ (hcv:=by simp[LR.row,BO.row]);simp;refine c1.call ?_;simp;refine c2.call ?_;by_cases h5:(qaF 32 (qbf t).1 []).length=5
 ·obtain⟨m,a,i,x,y,hc⟩:=qrk h5;rw[hc]at hw;have lm:=hw m (by simp);have la:=hw a (by simp);have li:=hw i (by simp);have lx:=hw x (by simp);have lt:=qpv x;have c3:=qjV m 46 (by omega);have hw2:=qbm 46 m [];simp only[qET,qEQ]at hw2;cases ho:(qbf t).2 with
  | false =>
   have e:qkQ t=(zLR,false):=by
    by_cases h2:(qaF 46 m []).length=2
    ·obtain⟨p,q,hm⟩:=qni h2;rw[qnX hc hm,if_neg (by simp[ho])]
    ·exact qqS hc h2
   rw[e];simp[zLR,zBO,LR.row,BO.row]
  | true =>
   simp[hc,qcr];refine c3.call ?_;by_cases h2:(qaF 46 m []).length=2
   ·obtain⟨p,q,hm⟩:=qni h2;rw[hm]at hw2;have lp:=hw2 p (by simp);have lq:=hw2 q (by simp);have e:=qnX hc hm;have n1:=qhZ p (by omega);have n2:=qhZ q (by omega);have n3:=qhZ i (by omega);have n4:=qBj x (by omega);have n5:=qp5 ⟨(qaw p).1,(qaw q).1,⟨3,a,[],(qaw i).1,unT x⟩⟩ (by simp only;omega) (by simp only;omega);simp only[LR.row,BO.row]at n5;simp[hm,qcr];refine n1.call ?_;simp;refine n2.call ?_;simp;refine n3.call ?_;by_cases hx:x=[45]
    ·have hu:unT x=[]:=by unfold unT;rw[if_pos hx]
     rw[hu]at n5 e;simp[hx,LR.row,BO.row];refine n5.call ?_;by_cases q2:qbW ⟨(qaw p).1,(qaw q).1,⟨3,a,[],(qaw i).1,[]⟩⟩=t
     ·rw[if_pos ⟨ho,q2⟩]at e;rw[e];simp[q2,LR.row,BO.row]
     ·rw[if_neg fun z=>q2 z.2]at e;rw[e];simp[q2,zLR,zBO,LR.row,BO.row]
    ·have hu:unT x=(qfe x []).1:=by unfold unT;rw[if_neg hx]
     rw[hu]at n5 e;simp[hx,LR.row,BO.row];refine n4.call ?_;simp;refine n5.call ?_;by_cases q2:qbW ⟨(qaw p).1,(qaw q).1,⟨3,a,[],(qaw i).1,(qfe x []).1⟩⟩=t
     ·rw[if_pos ⟨ho,q2⟩]at e;rw[e];simp[q2,LR.row,BO.row]
     ·rw[if_neg fun z=>q2 z.2]at e;rw[e];simp[q2,zLR,zBO,LR.row,BO.row]
   ·rw[qqS hc h2];simp[qcr,h2,show ¬ ((qaF 46 m []).length:Int)=2 by omega,zLR,zBO,LR.row,BO.row]
 ·rw[qt4 h5];simp[qcr,h5,show ¬ ((qaF 32 (qbf t).1 []).length:Int)=5 by omega,zLR,zBO,LR.row,BO.row]
theorem qlB (t:List UInt8) (hl:t.length≤1000000):CV prog 215 [.str t] (.tup [.agg (qkQ t).1.row,.bool (qkQ t).2]):=by
 have c1:=qt7 t (by omega);have hol:=qfV t;have c2:=qhY (qbf t).1 32 (by omega);have hw:=qbm 32 (qbf t).1 [];simp only[qET,qEQ]at hw;refine cvx func215 [] ntmps215 rfl rfl rfl ?_ (hcv:=by simp[LR.row,BO.row]);simp;refine c1.call ?_;simp;refine c2.call ?_;by_cases h5:(qaF 32 (qbf t).1 []).length=5
 ·obtain⟨m,a,i,x,y,hc⟩:=qrk h5;rw[hc]at hw;have lm:=hw m (by simp);have la:=hw a (by simp);have li:=hw i (by simp);have lx:=hw x (by simp);have lt:=qpv x;have lc:=qoj 46 m;have c3:=qCK m 46 (by omega);have n1:=ql9 (qeX 46 m).1 (by omega);have n2:=ql9 (qeX 46 m).2.1 (by omega);have n3:=ql9 i (by omega);have n4:=qBQ x (by omega);have e:=qza hc;generalize qeX 46 m=M at *
  obtain⟨p,q,b⟩:=M;simp only at lc n1 n2 e c3;have n5:=qqX ⟨qaE p,qaE q,⟨3,a,[],qaE i,unT x⟩⟩ (by simp only;omega) (by simp only;omega);simp only[LR.row,BO.row]at n5;simp[hc,qcr];refine c3.call ?_;simp;refine n1.call ?_;simp;refine n2.call ?_;simp[qcr];refine n3.call ?_;simp[qcr];refine n4.call ?_;by_cases hx:x=[45]
  ·have hu:unT x=[]:=by unfold unT;rw[if_pos hx]
   rw[hu]at n5 e;cases k1:qbA p with
   | false =>
    rw[if_neg (by simp[k1])]at e;rw[e];simp[hx,qhF,zLR,zBO,LR.row,BO.row]
   | true =>
    cases k2:qbA q with
    | false =>
     rw[if_neg (by simp[k2])]at e;rw[e];simp[hx,qhF,zLR,zBO,LR.row,BO.row]
    | true =>
     cases k3:qbA i with
     | false =>
      rw[if_neg (by simp[k3])]at e;rw[e];simp[hx,qhF,zLR,zBO,LR.row,BO.row]
     | true =>
      simp[hx,qhF,LR.row,BO.row];refine n5.call ?_;by_cases q2:qbW ⟨qaE p,qaE q,⟨3,a,[],qaE i,[]⟩⟩=t
      ·rw[if_pos ⟨k1,k2,k3,.inl hx,q2⟩]at e;rw[e];simp[q2,LR.row,BO.row]
      ·rw[if_neg fun z=>q2 z.2.2.2.2]at e;rw[e];simp[q2,zLR,zBO,LR.row,BO.row]
  ·have hu:unT x=(qfe x []).1:=by unfold unT;rw[if_neg hx]
   rw[hu]at n5 e;cases k1:qbA p with
   | false =>
    rw[if_neg (by simp[k1])]at e;rw[e];simp[hx,qhF,zLR,zBO,LR.row,BO.row]
   | true =>
    cases k2:qbA q with
    | false =>
     rw[if_neg (by simp[k2])]at e;rw[e];simp[hx,qhF,zLR,zBO,LR.row,BO.row]
    | true =>
     cases k3:qbA i with
     | false =>
      rw[if_neg (by simp[k3])]at e;rw[e];simp[hx,qhF,zLR,zBO,LR.row,BO.row]
     | true =>
      cases k4:(qfe x []).2 with
      | false =>
       rw[if_neg (by simp[hx,k4])]at e;rw[e];simp[hx,qhF,zLR,zBO,LR.row,BO.row]
      | true =>
       simp[hx,qhF,LR.row,BO.row];refine n5.call ?_;by_cases q2:qbW ⟨qaE p,qaE q,⟨3,a,[],qaE i,(qfe x []).1⟩⟩=t
       ·rw[if_pos ⟨k1,k2,k3,.inr k4,q2⟩]at e;rw[e];simp[q2,LR.row,BO.row]
       ·rw[if_neg fun z=>q2 z.2.2.2.2]at e;rw[e];simp[q2,zLR,zBO,LR.row,BO.row]
 ·rw[qt4 h5];simp[qcr,h5,show ¬ ((qaF 32 (qbf t).1 []).length:Int)=5 by omega,zLR,zBO,LR.row,BO.row]
abbrev RS2:=List CS×List PT
def mkS (nm:List UInt8) (k:Int) (fr:List UInt8) (h:PT):CS:=⟨nm,k,fr,z8,h,false⟩
def frR (w:List UInt8):List UInt8:=if w=[45] then [] else w
def qei (x:RS2) (l:List UInt8):RS2×Bool :=
 match qaF 32 l []with
 | [a,b]=>if a=[46] then ((x.1,x.2++[(qbQ b).1]),(qbQ b).2) else (x,false)
 | [a,b,c,d]=>((x.1++[mkS a (qaw b).1 (frR c) (qbQ d).1],x.2),(qaw b).2 && (qbQ d).2)
 | _=>(x,false)
def qdv (x:RS2) (l:List UInt8):RS2×Bool :=
 match qaF 32 l []with
 | [a,b]=>if (qbQ b).2=true∧a=[46] then ((x.1,x.2++[(qbQ b).1]),true) else (x,false)
 | [a,b,c,d]=>if (qbQ d).2=true then ((x.1++[mkS a (qaE b) (frR c) (qbQ d).1],x.2),qbA b) else (x,false)
 | _=>(x,false)
def qe4 (f:RS2→List UInt8→RS2×Bool):List (List UInt8)→RS2→Option RS2
 | [],x=>some x
 | l::r,x=>if (f x l).2=true then qe4 f r (f x l).1 else none
def qa8 (x:RS2):CO:=⟨0,x.1,[],x.2,false,[],0⟩
def qhN (t:List UInt8) (x:RS2):Bool:=decide (qay (qa8 x)=t) && qbc (x.1.map csB) && decide (x.2.length≤8)
def qle:List UInt8:=[114,111,111,116]
def qmh (t:List UInt8) (o:Option RS2):CO×Bool :=
 match o with
 | some x=>if qhN t x=true then (qa8 x,true) else (zK,false)
 | none=>(zK,false)
def qhf (t:List UInt8):CO×Bool :=
 if 420<t.length∨(qaF 10 t []).head?≠some qle then (zK,false) else qmh t (qe4 qei (qaF 10 t []).tail ([],[]))
def qoz (s:CS):List UInt8:=s.name++(32::(dec s.kind++(32::(qej s.frm++(32::qaL s.home)))))
def qoI (p:PT):List UInt8:=46::32::qaL p
theorem qh8:∀ {l:List CS} {t:List UInt8},qbC l=some t→(∀ s∈l,qbj s=true)∧t=Lib.joinTail [10] (l.map qoz)
 | [],t,h=>by
  simp only[qbC,qDs]at h;subst h;exact⟨by simp,by simp[Lib.joinTail]⟩
 | s::r,t,h=>by
  rw[qbC]at h;split at h
  ·cases h
  ·rename_i hk;cases hr:qbC r with
   | none=>rw[hr]at h;cases h
   | some u =>
    rw[hr]at h;simp only[qDz,qDs]at h;subst h;obtain⟨h1,h2⟩:=qh8 hr;refine⟨fun x hx=>?_,?_⟩
    ·rcases qE3.1 hx with rfl | hx
     ·simpa using hk
     ·exact h1 x hx
    ·subst h2;simp[Lib.joinTail,qdR,qoz]
theorem qg1:∀ {l:List PT} {t:List UInt8},qaZ l=some t→(∀ p∈l,qao p=true)∧t=Lib.joinTail [10] (l.map qoI)
 | [],t,h=>by
  simp only[qaZ,qDs]at h;subst h;exact⟨by simp,by simp[Lib.joinTail]⟩
 | p::r,t,h=>by
  rw[qaZ]at h;split at h
  ·cases h
  ·rename_i hk;cases hr:qaZ r with
   | none=>rw[hr]at h;cases h
   | some u =>
    rw[hr]at h;simp only[qDz,qDs]at h;subst h;obtain⟨h1,h2⟩:=qg1 hr;refine⟨fun x hx=>?_,?_⟩
    ·rcases qE3.1 hx with rfl | hx
     ·simpa using hk
     ·exact h1 x hx
    ·subst h2;simp[Lib.joinTail,qoI]
theorem qlx (sep:List UInt8) (a b:List (List UInt8)):Lib.joinTail sep (a++b)=Lib.joinTail sep a++Lib.joinTail sep b:=by
 simp[Lib.joinTail]
theorem qlu {s:List UInt8} (h:qbS s=true):∀ x∈s,x≠(10:UInt8):=fun x hx=>by
 simp only[qbS,Bool.and_eq_true,qDS]at h;have:=h.1.1 x hx;rintro rfl;simp[qmg]at this
theorem qia {p:PT} (h:qaH p=true):∀ x∈qaL p,x≠(10:UInt8):=by
 by_cases h0:p.pa=0
 ·unfold qaL;rw[if_neg (by simp[h]),if_pos h0];intro x hx;simp only[qF8]at hx;subst hx;decide
 ·rw[qds (by simp[qao,h,h0]),qaM,qaM,Lib.join_one];intro x hx;simp only[qE5,qE3]at hx;rcases hx with hx | rfl | hx | rfl | hx
  ·exact qgx _ 10 (by decide) (by decide) x hx
  ·decide
  ·exact qgx _ 10 (by decide) (by decide) x hx
  ·decide
  ·exact qgx _ 10 (by decide) (by decide) x hx
theorem qhJ {s:CS} (h:qbj s=true):qbS s.name=true∧(s.frm=[]∨qbS s.frm=true)∧(1≤s.kind∧s.kind≤2)∧qaH s.home=true:=by
 simp only[qbj,Bool.and_eq_true,qFb,decide_eq_true_eq,List.isEmpty_iff]at h;exact⟨h.1.1.1.1,h.1.1.1.2,h.1.1.2,h.1.2⟩
theorem qhD {s:List UInt8} (h:s=[]∨qbS s=true):(∀ x∈qej s,x≠(32:UInt8))∧(∀ x∈qej s,x≠(10:UInt8))∧frR (qej s)=s:=by
 rcases h with rfl | h
 ·refine⟨?_,?_,rfl⟩
  ·intro x hx;simp only[qej,if_true,qF8]at hx;subst hx;decide
  ·intro x hx;simp only[qej,if_true,qF8]at hx;subst hx;decide
 ·have hne:s≠[]:=by
   rintro rfl;simp[qbS]at h
  have hf:qej s=s:=by unfold qej;rw[if_neg hne]
  rw[hf];refine⟨qmA h,qlu h,?_⟩;unfold frR;rw[if_neg];rintro rfl
  revert h
  decide
theorem qvv {s:CS} (h:qbj s=true):∀ x∈qoz s,x≠(10:UInt8):=by
 obtain⟨h1,h2,h3,h4⟩:=qhJ h;intro x hx;simp only[qoz,qE5,qE3]at hx;rcases hx with hx | rfl | hx | rfl | hx | rfl | hx
 ·exact qlu h1 x hx
 ·decide
 ·exact qfr _ 10 (by decide) x hx
 ·decide
 ·exact(qhD h2).2.1 x hx
 ·decide
 ·exact qia h4 x hx
theorem qv2 {p:PT} (h:qao p=true):∀ x∈qoI p,x≠(10:UInt8):=by
 intro x hx;simp only[qoI,qE3]at hx;rcases hx with rfl | rfl | hx
 ·decide
 ·decide
 ·exact qia (qdU h).1 x hx
theorem qjf {x:RS2} {t:List UInt8} (h:qay (qa8 x)=t) (ht:t≠[]) :
  (∀ s∈x.1,qbj s=true)∧(∀ p∈x.2,qao p=true)∧qaF 10 t []=qle::(x.1.map qoz++x.2.map qoI):=by
 unfold qay qa8 at h;simp only at h;cases h1:qbC x.1 with
 | none =>
  rw[h1]at h;exact absurd h.symm ht
 | some a =>
  cases h2:qaZ x.2 with
  | none =>
   rw[h1,h2]at h;exact absurd h.symm ht
  | some b =>
   rw[h1,h2]at h;simp only[qE7,qDz,qEx]at h;obtain⟨a1,a2⟩:=qh8 h1;obtain⟨b1,b2⟩:=qg1 h2;refine⟨a1,b1,?_⟩;have:t=Lib.join (qle::(x.1.map qoz++x.2.map qoI)) [10]:=by
    rw[Lib.join_cons,qlx,← a2,← b2,← h];rfl
   rw[this,qdi 10 _ (by simp)];intro w hw;simp only[qE3,qE5,qD6]at hw;rcases hw with rfl | ⟨s,hs,rfl⟩ | ⟨p,hp,rfl⟩
   ·decide
   ·exact qvv (a1 s hs)
   ·exact qv2 (b1 p hp)
theorem qno {s:CS} (h:qbj s=true):qaF 32 (qoz s) []=[s.name,dec s.kind,qej s.frm,qaL s.home]:=by
 obtain⟨h1,h2,h3,h4⟩:=qhJ h;have hj:qoz s=Lib.join [s.name,dec s.kind,qej s.frm,qaL s.home] [32]:=by
  rw[qaM,qaM,qaM,Lib.join_one];rfl
 rw[hj,qdi 32 _ (by simp)];intro w hw;simp only[qE3,qFc,or_false]at hw;rcases hw with rfl | rfl | rfl | rfl
 ·exact qmA h1
 ·exact qfr _ 32 (by decide)
 ·exact(qhD h2).1
 ·exact qib h4
theorem qnN {p:PT} (h:qao p=true):qaF 32 (qoI p) []=[[46],qaL p]:=by
 have hj:qoI p=Lib.join [[46],qaL p] [32]:=by
  rw[qaM,Lib.join_one];rfl
 rw[hj,qdi 32 _ (by simp)];intro w hw;simp only[qE3,qFc,or_false]at hw;rcases hw with rfl | rfl
 ·decide
 ·exact qib (qdU h).1
def nrm (s:CS):Prop:=s.map=z8∧s.dirty=false
theorem qt3 {s:CS} (h:nrm s):mkS s.name s.kind s.frm s.home=s:=by
 obtain⟨a,b,c,m,e,d⟩:=s;obtain⟨h1,h2⟩:=h;simp only at h1 h2;subst h1;subst h2;rfl
theorem qik {s:CS} (h:qbj s=true) (hn:nrm s) (x:RS2):qei x (qoz s)=((x.1++[s],x.2),true):=by
 obtain⟨h1,h2,h3,h4⟩:=qhJ h;obtain⟨d1,d2,d3⟩:=qdX (n:=s.kind) (by omega) (by omega);unfold qei;rw[qno h];simp only[d1,qgs h4,(qhD h2).2.2,qt3 hn,Bool.and_self]
theorem qqQ {s:CS} (h:qbj s=true) (hn:nrm s) (x:RS2):qdv x (qoz s)=((x.1++[s],x.2),true):=by
 obtain⟨h1,h2,h3,h4⟩:=qhJ h;obtain⟨d1,d2,d3⟩:=qdX (n:=s.kind) (by omega) (by omega);unfold qdv;rw[qno h];simp only[d2,d3,qgs h4,(qhD h2).2.2,qt3 hn,if_true]
theorem qil {p:PT} (h:qao p=true) (x:RS2):qei x (qoI p)=((x.1,x.2++[p]),true):=by
 unfold qei;rw[qnN h];simp only[qgs (qdU h).1,if_true]
theorem qqR {p:PT} (h:qao p=true) (x:RS2):qdv x (qoI p)=((x.1,x.2++[p]),true):=by
 unfold qdv;rw[qnN h];simp[qgs (qdU h).1]
theorem qnt (f:RS2→List UInt8→RS2×Bool):∀ (a b:List (List UInt8)) (x:RS2),qe4 f (a++b) x=(qe4 f a x).bind (qe4 f b)
 | [],b,x=>rfl
 | l::r,b,x=>by
  rw[qFt,qe4,qe4];split
  ·exact qnt f r b _
  ·rfl
theorem qk9 {f:RS2→List UInt8→RS2×Bool} (hf:∀ s,qbj s=true→nrm s→∀ x,f x (qoz s)=((x.1++[s],x.2),true)):∀ (l:List CS) (x:RS2),(∀ s∈l,qbj s=true∧nrm s)→qe4 f (l.map qoz) x=some (x.1++l,x.2)
 | [],x,_=>by simp[qe4]
 | s::r,x,h=>by
  obtain⟨h1,h2⟩:=h s (by simp);rw[qD5,qe4,hf s h1 h2 x,if_pos rfl,qk9 hf r _ fun y hy=>h y (by simp[hy])];simp
theorem qla {f:RS2→List UInt8→RS2×Bool} (hf:∀ p,qao p=true→∀ x,f x (qoI p)=((x.1,x.2++[p]),true)):∀ (l:List PT) (x:RS2),(∀ p∈l,qao p=true)→qe4 f (l.map qoI) x=some (x.1,x.2++l)
 | [],x,_=>by simp[qe4]
 | p::r,x,h=>by
  rw[qD5,qe4,hf p (h p (by simp)) x,if_pos rfl,qla hf r _ fun y hy=>h y (by simp[hy])];simp
theorem qqG {l:List CS} {s:CS} (h:∀ x∈l,nrm x) (hs:nrm s):∀ x∈l++[s],nrm x:=fun x hx=>by
 rcases qE5.1 hx with hx | hx
 ·exact h x hx
 ·simp only[qF8]at hx;subst hx;exact hs
theorem qlw (x:RS2) (l:List UInt8) (h:∀ s∈x.1,nrm s):∀ s∈(qei x l).1.1,nrm s:=by
 unfold qei;split
 ·split <;> exact h
 ·exact qqG h ⟨rfl,rfl⟩
 ·exact h
theorem qim (x:RS2) (l:List UInt8) (h:∀ s∈x.1,nrm s):∀ s∈(qdv x l).1.1,nrm s:=by
 unfold qdv;split
 ·split <;> exact h
 ·split
  ·exact qqG h ⟨rfl,rfl⟩
  ·exact h
 ·exact h
theorem qjX {f:RS2→List UInt8→RS2×Bool} (hf:∀ x l,(∀ s∈x.1,nrm s)→∀ s∈(f x l).1.1,nrm s):∀ (ls:List (List UInt8)) (x y:RS2),(∀ s∈x.1,nrm s)→qe4 f ls x=some y→∀ s∈y.1,nrm s
 | [],x,y,h,e=>by
  simp only[qe4,qDs]at e;subst e;exact h
 | l::r,x,y,h,e=>by
  rw[qe4]at e;split at e
  ·exact qjX hf r _ y (hf x l h) e
  ·cases e
theorem qhr {f g:RS2→List UInt8→RS2×Bool} (hf:∀ x l,(∀ s∈x.1,nrm s)→∀ s∈(f x l).1.1,nrm s)
  (hg1:∀ s,qbj s=true→nrm s→∀ x,g x (qoz s)=((x.1++[s],x.2),true)) (hg2:∀ p,qao p=true→∀ x,g x (qoI p)=((x.1,x.2++[p]),true))
  {t:List UInt8} {x:RS2} (h:qe4 f (qaF 10 t []).tail ([],[])=some x) (ht:qay (qa8 x)=t) (hne:t≠[]) :
  qe4 g (qaF 10 t []).tail ([],[])=some x∧(qaF 10 t []).head?=some qle:=by
 obtain⟨r1,r2,r3⟩:=qjf ht hne;have hn:=qjX hf _ _ x (by simp) h;rw[r3];refine⟨?_,rfl⟩;rw[qGe,qnt,qk9 hg1 x.1 ([],[]) fun s hs=>⟨r1 s hs,hn s hs⟩,qE7,qla hg2 x.2 _ r2];simp
theorem qgf {t:List UInt8} {x:RS2} (h:qhN t x=true):qay (qa8 x)=t:=by
 simp only[qhN,Bool.and_eq_true,decide_eq_true_eq]at h;exact h.1.1
theorem qyt {t:List UInt8} (h1:¬ 420<t.length):qhf t=qmh t (qe4 qdv (qaF 10 t []).tail ([],[])):=by
 by_cases hne:t=[]
 ·subst hne;decide
 by_cases hd:(qaF 10 t []).head?=some qle
 ·unfold qhf;rw[if_neg (by rintro(e | e);exact h1 e;exact e hd)];cases hs:qe4 qei (qaF 10 t []).tail ([],[])with
  | some x =>
   by_cases ha:qhN t x=true
   ·obtain⟨b1,_⟩:=qhr qlw (fun s h hn x=>qqQ h hn x) (fun p h x=>qqR h x) hs (qgf ha) hne;rw[b1]
   ·cases hi:qe4 qdv (qaF 10 t []).tail ([],[])with
    | none=>simp[qmh,ha]
    | some y =>
     by_cases hb:qhN t y=true
     ·obtain⟨b1,_⟩:=qhr qim (fun s h hn x=>qik h hn x) (fun p h x=>qil h x) hi (qgf hb) hne;rw[hs]at b1;injection b1 with b1;subst b1;exact absurd hb ha
     ·simp[qmh,ha,hb]
  | none =>
   cases hi:qe4 qdv (qaF 10 t []).tail ([],[])with
   | none=>rfl
   | some y =>
    by_cases hb:qhN t y=true
    ·obtain⟨b1,_⟩:=qhr qim (fun s h hn x=>qik h hn x) (fun p h x=>qil h x) hi (qgf hb) hne;rw[hs]at b1;cases b1
    ·simp[qmh,hb]
 ·unfold qhf;rw[if_pos (.inr hd)];cases hi:qe4 qdv (qaF 10 t []).tail ([],[])with
  | none=>rfl
  | some y =>
   by_cases hb:qhN t y=true
   ·obtain⟨_,b2⟩:=qhr qim (fun s h hn x=>qik h hn x) (fun p h x=>qil h x) hi (qgf hb) hne;exact absurd b2 hd
   ·simp[qmh,hb]
def lnR (x:RS2) (i j:Nat):List AV:=[.int .i64 0,.sl i 0 x.1.length,.nils,.sl j 0 x.2.length,.bool false,.nils,.int .i64 0]
def lnQ (V:List (Nat×Nat)) (R:RS2×Bool) (r:AV) (L':List (Nat×Ob)):Prop:=∃ i j,(i,j)∈V∧r=.tup [.agg (lnR R.1 i j),.bool R.2]∧L'=[(i,kcs R.1.1),(j,kpt R.1.2)]
theorem qyn (x:RS2) (l:List UInt8) (hl:l.length≤1000000) (h1:x.1.length≤1000000) (h2:x.2.length≤1000000) :
  ACall prog 159 [.agg (lnR x 1000 1001),.str l] [(1000,kcs x.1),(1001,kpt x.2)] (lnQ [(902,903)] (qei x l)):=by
 have c1:=qjV l 32 (by omega);have hw:=qbm 32 l [];simp only[qET,qEQ]at hw;have key:ACall prog 159 [.agg (lnR x 1000 1001),.str l] [(1000,kcs x.1),(1001,kpt x.2)] (lnQ [(1000,1001),(1000,36),(76,1001)] (qei x l)):=by
  obtain⟨R,hR⟩:∃ R,qei x l=R:=⟨_,rfl⟩;rw[hR];unfold qei at hR;refine acx func159 [(10,[zI 0,zI 1,zI 2,zI 3,zJ 4 [11] [],zI 5,zJ 6 [] [11],zI 7])] ntmps159 rfl rfl rfl ?_;simp[lnR];refine c1.call ?_;by_cases n2:(qaF 32 l []).length=2
  ·obtain⟨a,b,hc⟩:=qni n2;rw[hc]at hR hw;simp only at hR;have lb:=hw b (by simp);have c2:=qfO b (by omega);simp only[PT.row]at c2;by_cases ha:a=[46]
   ·rw[if_pos ha]at hR;subst hR;simp[hc,qcr,ha];refine c2.call ?_;simp[kpt,PT.row];exact⟨by omega,[(1000,kcs x.1),(36,kpt (x.2++[(qbQ b).1]))],by simp[kpt,PT.row,qak],1000,36,by simp,by simp[lnR],rfl⟩
   ·rw[if_neg ha]at hR;subst hR;simp[hc,qcr,ha];exact⟨[(1000,kcs x.1),(1001,kpt x.2)],by simp,1000,1001,by simp,rfl,rfl⟩
  ·by_cases n4:(qaF 32 l []).length=4
   ·obtain⟨a,b,c,d,hc⟩:∃ a b c d,qaF 32 l []=[a,b,c,d]:=by
     match hm:qaF 32 l [],n4 with
     | [a,b,c,d],_=>exact⟨a,b,c,d,rfl⟩
    rw[hc]at hR hw;simp only at hR;have lb:=hw b (by simp);have ld:=hw d (by simp);have n1:=qhZ b (by omega);have c2:=qfO d (by omega);simp only[PT.row]at c2;simp[hc,qcr];refine n1.call ?_;simp;refine c2.call ?_;simp[PT.row];have hrow:∀ fr:List UInt8,CS.row (mkS a (qaw b).1 fr (qbQ d).1)=[.str a,.int .i64 (qaw b).1,.str fr,.int .i64 0,.int .i64 0,.int .i64 0,.int .i64 0,.int .i64 0,.int .i64 0,.int .i64 0,.int .i64 0,.int .i64 0,.int .i64 0,.int .i64 0,.int .i64 0,.int .i64 0,.int .i64 0,.int .i64 0,.int .i64 0,.int .i64 0,.int .i64 0,.int .i64 0,.int .i64 0,.int .i64 0,.int .i64 0,.int .i64 0,.int .i64 0,.int .i64 (qbQ d).1.pa,.int .i64 (qbQ d).1.ps,.int .i64 (qbQ d).1.pb,.bool false]:=fun fr=>by
     simp[CS.row,mkS,z8,zPT,PT.row,List.replicate]
    subst hR;by_cases hq:c=[45]
    ·have hf:frR c=[]:=by unfold frR;rw[if_pos hq]
     rw[hf];simp[hq,kcs];cases hk:(qaw b).2 with
     | false =>
      simp;exact⟨by omega,[(76,kcs (x.1++[mkS a (qaw b).1 [] (qbQ d).1])),(1001,kpt x.2)],by simp[kcs,hrow,qak],76,1001,by simp,by simp[lnR],rfl⟩
     | true =>
      simp;exact⟨by omega,[(76,kcs (x.1++[mkS a (qaw b).1 [] (qbQ d).1])),(1001,kpt x.2)],by simp[kcs,hrow,qak],76,1001,by simp,by simp[lnR],rfl⟩
    ·have hf:frR c=c:=by unfold frR;rw[if_neg hq]
     rw[hf];simp[hq,kcs];cases hk:(qaw b).2 with
     | false =>
      simp;exact⟨by omega,[(76,kcs (x.1++[mkS a (qaw b).1 c (qbQ d).1])),(1001,kpt x.2)],by simp[kcs,hrow,qak],76,1001,by simp,by simp[lnR],rfl⟩
     | true =>
      simp;exact⟨by omega,[(76,kcs (x.1++[mkS a (qaw b).1 c (qbQ d).1])),(1001,kpt x.2)],by simp[kcs,hrow,qak],76,1001,by simp,by simp[lnR],rfl⟩
   ·have hx:R=(x,false):=by
     rw[← hR];split
     ·rename_i q;rw[q]at n2;simp at n2
     ·rename_i q;rw[q]at n4;simp at n4
     ·rfl
    subst hx;simp[qcr,n2,n4,show ¬ ((qaF 32 l []).length:Int)=2 by omega,show ¬ ((qaF 32 l []).length:Int)=4 by omega];exact⟨[(1000,kcs x.1),(1001,kpt x.2)],by simp,1000,1001,by simp,rfl,rfl⟩
 refine key.can ?_;rintro r L' ⟨i,j,hV,rfl,rfl⟩;simp only[qE3,qFc,or_false,qDt]at hV;rcases hV with⟨rfl,rfl⟩ | ⟨rfl,rfl⟩ | ⟨rfl,rfl⟩
 ·exact⟨[(1000,902),(1001,903)],by simp,by simp,by simp,by simp,902,903,by simp,by simp[lnR],by simp[qah]⟩
 ·exact⟨[(1000,902),(36,903)],by simp,by simp,by simp,by simp,902,903,by simp,by simp[lnR],by simp[qah]⟩
 ·exact⟨[(76,902),(1001,903)],by simp,by simp,by simp,by simp,902,903,by simp,by simp[lnR],by simp[qah]⟩
theorem ql1 (c:UInt8) (s:List UInt8):∃ h r,qaF c s []=h::r:=by
 cases hr:qaF c s []with
 | nil=>exact absurd hr (qm2 _ _ _)
 | cons h r=>exact⟨h,r,rfl⟩
theorem qk8 {f:RS2→List UInt8→RS2×Bool} {l:List UInt8} {r:List (List UInt8)} {x:RS2} (h:(f x l).2=true):qe4 f (l::r) x=qe4 f r (f x l).1:=by
 rw[qe4,if_pos h]
theorem qlb {f:RS2→List UInt8→RS2×Bool} {l:List UInt8} {r:List (List UInt8)} {x:RS2} (h:(f x l).2=false):qe4 f (l::r) x=none:=by
 rw[qe4,if_neg (by simp[h])]
theorem ql2 (x:RS2):(qa8 x).row=[.int .i64 0,.lst 31 (x.1.map CS.row),.lst 3 [],.lst 3 (x.2.map PT.row),.bool false,.lst 1 [],.int .i64 0]:=rfl
def rdT (n:Nat) (x:RS2):Prop:=x.1.length≤n∧x.2.length≤n∧∀ s∈x.1,s.map.length=8∧s.name.length≤1000∧s.frm.length≤1000
theorem qnC {n:Nat} {x:RS2} (h:rdT n x) (hn:n≤100000):CoT (qa8 x) :=
 ⟨by have:=h.1;simp only[qa8];omega,by simp[qa8],by have:=h.2.1;simp only[qa8];omega,by simp[qa8],fun s hs=>(h.2.2 s hs).1,fun s hs=>by have:=h.2.2 s hs;omega⟩
theorem qwF (w:List UInt8):(frR w).length≤w.length:=by
 unfold frR;split <;> simp
theorem qqs {n:Nat} {x:RS2} (h:rdT n x) {a c:List UInt8} (k:Int) (p:PT) (ha:a.length≤1000) (hc:c.length≤1000):rdT (n+1) (x.1++[mkS a k (frR c) p],x.2):=by
 have:=qwF c;refine⟨by have:=h.1;simp;omega,by have:=h.2.1;simp only;omega,fun s hs=>?_⟩;simp only at hs;rcases qE5.1 hs with hs | hs
 ·exact h.2.2 s hs
 ·simp only[qF8]at hs;subst hs;exact⟨rfl,ha,by simp only[mkS];omega⟩
theorem qwd {n:Nat} {x:RS2} (h:rdT n x) {l:List UInt8} (hl:l.length≤1000):rdT (n+1) (qei x l).1:=by
 have hw:=qbm 32 l [];simp only[qET,qEQ]at hw;have h0:rdT (n+1) x:=⟨by have:=h.1;omega,by have:=h.2.1;omega,h.2.2⟩;unfold qei;split
 ·split
  ·exact⟨by have:=h.1;simp only;omega,by have:=h.2.1;simp;omega,h.2.2⟩
  ·exact h0
 ·rename_i a b c d hc;rw[hc]at hw;have la:=hw a (by simp);have lc:=hw c (by simp);exact qqs h _ _ (by omega) (by omega)
 ·exact h0
theorem qvN {t:List UInt8} {h:List UInt8} {r:List (List UInt8)} (hc:qaF 10 t []=h::r):qhf t=if 420<t.length∨h≠qle then (zK,false) else qmh t (qe4 qei r ([],[])):=by
 unfold qhf;rw[hc];simp
def rtQ (a b:Nat) (R:CO×Bool) (r:AV) (L':List (Nat×Ob)):Prop :=
 (R=(zK,false)∧r=.tup [.agg [.int .i64 0,.nils,.nils,.nils,.bool false,.nils,.int .i64 0],.bool false]∧L'=[]) ∨
 (∃ x:RS2,R=(qa8 x,true)∧r=.tup [.agg (lnR x a b),.bool true]∧L'=[(a,kcs x.1),(b,kpt x.2)])
theorem qoB (t:List UInt8) (hl:t.length≤1000000):ACall prog 75 [.str t] [] (rtQ 900 901 (qhf t)):=by
 obtain⟨R,hR⟩:∃ R,qhf t=R:=⟨_,rfl⟩;rw[hR];have c1:=qjV t 10 (by omega);have hw:=qbm 10 t [];have hnum:=qdj 10 t [];simp only[qET,qEQ]at hw;obtain⟨hd,ls,hc⟩:=ql1 10 t;rw[qvN hc]at hR;rw[hc]at hw hnum c1;refine acx func75 [(8,[zJ 0 [4] [],zJ 1 [] [4],zJ 2 [] [4],zJ 3 [] [4],zJ 4 [] [4],⟨5,[],[],[9],[]⟩,zI 6,zI 7,zI 8,zJ 9 [] [4],zI 10,zI 11])] ntmps75 rfl rfl rfl ?_;simp;refine c1.call ?_;by_cases h1:420<t.length
 ·rw[if_pos (.inl h1)]at hR;subst hR;simp[show(420:Int)<t.length by omega,h1,qcr];exact⟨[],by simp,.inl ⟨rfl,rfl,rfl⟩⟩
 by_cases h2:hd=qle
 ·rw[if_neg (by rintro(e | e);exact h1 e;exact e h2)]at hR;have h2':hd=[114,111,111,116]:=h2;simp[show ¬ (420:Int)<t.length by omega,h1,qcr,h2'];refine qeV ((qeC 900 31 (by simp)).trans ((qdo 4 1 (sz:=7) (row:=[.int .i64 0,.nils,.nils,.nils,.bool false,.nils,.int .i64 0]) (by simp) (by simp) (qcE 900 0)).trans
   ((qeC 901 3 (by simp)).trans (qdo 4 3 (sz:=7) (row:=[.int .i64 0,.sl 900 0 0,.nils,.nils,.bool false,.nils,.int .i64 0]) (by simp) (by simp) (qcE 901 0))))) ?_
  refine qa9 (X:=Nat×RS2) [0,2,3,4,5,6] [(2,2),(4,4),(900,900),(901,901)] (fun x=>[(6,.int .i64 (x.1+1))]) (fun x=>[(2,⟨7,[[.int .i64 0,.nils,.nils,.nils,.bool false,.nils,.int .i64 0]]⟩),(4,⟨7,[lnR x.2 900 901]⟩),(900,kcs x.2.1),(901,kpt x.2.2)]) (fun x=>ls.length-x.1)
   (fun x=>x.1≤ls.length∧rdT x.1 x.2∧qmh t (qe4 qei (ls.drop x.1) x.2)=R) (0,([],[])) ⟨by omega,⟨by simp,by simp,by simp⟩,hR⟩ ?_ (he:=by simp[qah,lnR,kcs,kpt])
  rintro⟨i,x⟩ ⟨hi,hx,hd2⟩;simp only at hi hx hd2;cases hr:ls.drop i with
  | nil =>
   have:=qaU hr;have hie:i=ls.length:=by omega
   subst hie;rw[hr]at hd2;simp only[qe4,qmh]at hd2;have hT:=qnC hx (by simp at hnum;omega);have c2:=qpZ (qa8 x) hT;have c3:=qmr (qa8 x) (by have:=hx.1;simp only[qa8];simp at hnum;omega) hT.m8;have c4:=qiF (qrH ((qa8 x).sets.map csB) (by have:=hx.1;simp[qa8];simp at hnum;omega) (fun b hb=>by
    obtain⟨s,hs,rfl⟩:=qD6.1 hb;simp[csB]) (fun b hb=>by
    obtain⟨s,hs,rfl⟩:=qD6.1 hb;have:=hx.2.2 s hs;simp[csB];omega)) (hca:=by simp[bk])
   rw[ql2]at c2 c3;simp[lnR];refine c2.view (by simp[qb5,mtA,kcs,kpt,qak,qbv]) ?_;by_cases q1:qay (qa8 x)=t
   ·simp[q1];refine qaK [] (by kernel_rfl) c3 (by simp[qb5,mtA,kcs,kpt,qak,qbv]) (by simp) trivial (by simp) (by simp) ?_;rintro r L' ⟨rfl,rfl⟩;refine⟨by simp[noL],by simp[qbz,qnT],[(900,47)],⟨by simp,by simp,by simp,by simp,by simp⟩,?_⟩;simp only[qad];have htk:List.take x.1.length (List.map (BS.row ∘ csB) x.1)=List.map (BS.row ∘ csB) x.1:=qDU (by simp);simp only[bk,qa8,qEd]at c4;simp;refine c4.view (by simp[qb5,mtA,qbz,qa8,htk]) ?_;cases hb:qbc (List.map csB x.1)with
    | false =>
     have ha:qhN t x=false:=by simp[qhN,hb]
     rw[if_neg (by simp[ha])]at hd2;subst hd2;simp;exact⟨[],by simp,.inl ⟨rfl,rfl,rfl⟩⟩
    | true =>
     simp;by_cases q8:x.2.length≤8
     ·have ha:qhN t x=true:=by simp[qhN,hb,q8,q1]
      rw[if_pos ha]at hd2;subst hd2;simp[show ¬ (8:Int)<x.2.length by omega,show ¬ 8<x.2.length by omega,q8,show(x.2.length:Int)≤8 by omega];exact⟨[(900,kcs x.1),(901,kpt x.2)],by simp[qah],.inr ⟨x,rfl,by simp[lnR],rfl⟩⟩
     ·have ha:qhN t x=false:=by simp[qhN,q8]
      rw[if_neg (by simp[ha])]at hd2;subst hd2;simp[show(8:Int)<x.2.length by omega,show 8<x.2.length by omega,q8,show ¬ (x.2.length:Int)≤8 by omega];exact⟨[],by simp,.inl ⟨rfl,rfl,rfl⟩⟩
   ·have ha:qhN t x=false:=by simp[qhN,q1]
    rw[if_neg (by simp[ha])]at hd2;subst hd2;simp[q1];exact⟨[],by simp,.inl ⟨rfl,rfl,rfl⟩⟩
  | cons l r =>
   obtain⟨g1,e0,e1,g3⟩:=qaV hr;have hwl:=hw l (by simp[qFu e1]);have c2:=qyn x l (by omega) (by have:=hx.1;simp at hnum;omega) (by have:=hx.2.1;simp at hnum;omega);have hT:=qwd hx (l:=l) (by omega);have e2:=qaq ((i:Int)+1+1) (by simp at hnum;omega) (by simp at hnum;omega);rw[hr]at hd2;simp only[lnR]at c2;simp[lnR,g1,e0,e1,qcr];refine⟨by omega,?_⟩;refine qac [(1000,.whole 900),(1001,.whole 901)] (by kernel_rfl) c2 (by simp) (by simp) ⟨⟨kcs x.1,by simp,rfl,qaa rfl (qa2 _)⟩,⟨kpt x.2,by simp,rfl,qaa rfl (qbo _)⟩,trivial⟩ (by simp) (by simp) ?_;rintro r' L' ⟨j1,j2,hV,rfl,rfl⟩;simp only[qE3,qFc,or_false,qDt]at hV;obtain⟨rfl,rfl⟩:=hV;refine⟨[(902,902),(903,903)],⟨by simp,by simp,by simp,by simp,by simp⟩,?_⟩;simp only[qad];cases hk:(qei x l).2 with
   | false =>
    rw[qlb hk]at hd2;simp only[qmh]at hd2;subst hd2;simp[lnR];exact⟨[],by simp,.inl ⟨rfl,rfl,rfl⟩⟩
   | true =>
    rw[qk8 hk]at hd2;simp[lnR];refine nx (i+1,(qei x l).1) [(2,2),(4,4),(902,900),(903,901)] ⟨by simp only;omega,hT,by simp only[g3];exact hd2⟩ (by simp only;omega) (h4:=?_);simp[qah,e2,lnR]
 ·rw[if_pos (.inr h2)]at hR;subst hR;have h2':¬ hd=[114,111,111,116]:=h2;simp[show ¬ (420:Int)<t.length by omega,h1,qcr,h2'];exact⟨[],by simp,.inl ⟨rfl,rfl,rfl⟩⟩
def rlL (x:RS2) (i j:Nat):List (Nat×Ob):=[(1000,⟨7,[lnR x i j]⟩),(i,kcs x.1),(j,kpt x.2)]
def rlQ (V:List (Nat×Nat)) (R:RS2×Bool) (r:AV) (L':List (Nat×Ob)):Prop:=∃ i j,(i,j)∈V∧r=.bool R.2∧L'=rlL R.1 i j
theorem qwh {l:List (List UInt8)} (h:l≠[]):∃ w,l[l.length-1]?=some w∧w∈l:=by
 refine⟨l[l.length-1]'(by have:=qDB.2 h;omega),qDF _,qEc _⟩
theorem qwe {x:RS2} {l:List UInt8} (h2:(qaF 32 l []).length≠2) (h4:(qaF 32 l []).length≠4):qdv x l=(x,false):=by
 unfold qdv;split
 ·rename_i q;rw[q]at h2;simp at h2
 ·rename_i q;rw[q]at h4;simp at h4
 ·rfl
theorem qzu (x:RS2) (l:List UInt8) (hl:l.length≤1000000) (h1:x.1.length≤1000000) (h2:x.2.length≤1000000) :
  ACall prog 180 [.ptr 1000 0 0,.str l] (rlL x 1001 1002) (rlQ [(902,903)] (qdv x l)):=by
 have c1:=qhY l 32 (by omega);have hw:=qbm 32 l [];simp only[qET,qEQ]at hw;have key:ACall prog 180 [.ptr 1000 0 0,.str l] (rlL x 1001 1002) (rlQ [(1001,1002),(1001,43),(75,1002)] (qdv x l)):=by
  simp only[rlL];by_cases n2:(qaF 32 l []).length=2
  ·obtain⟨R,hR⟩:∃ R,qdv x l=R:=⟨_,rfl⟩;rw[hR];unfold qdv at hR;obtain⟨a,b,hc⟩:=qni n2;rw[hc]at hR hw;simp only at hR;have lb:=hw b (by simp);have c2:=qeN b (by omega);simp only[PT.row]at c2;refine acx func180 [(6,[zI 0,zI 1,zI 2,zI 3,zJ 4 [1000] [],zJ 5 [6] [1000],zJ 6 [] [1000],zI 7,zI 8,zI 9,zI 10]),(14,[zI 0,zI 1,zI 2,zI 3,zJ 4 [1000] [],zJ 5 [] [1000],zJ 6 [] [1000],zJ 7 [] [1000],zJ 8 [] [1000],zJ 9 [] [1000],zJ 10 [6] [1000],zJ 11 [] [1000],zJ 12 [] [1000],zI 13,zI 14,zI 15,zI 16])] ntmps180 rfl rfl rfl ?_;simp[lnR];refine c1.call ?_;simp[hc,qcr];refine c2.call ?_;cases hk:(qbQ b).2 with
   | false =>
    rw[if_neg (by simp[hk])]at hR;subst hR;simp;exact⟨rlL x 1001 1002,by simp[rlL,lnR],1001,1002,by simp,rfl,rfl⟩
   | true =>
    by_cases ha:a=[46]
    ·rw[if_pos ⟨hk,ha⟩]at hR;subst hR;simp[ha,kpt,PT.row];exact⟨by omega,rlL (x.1,x.2++[(qbQ b).1]) 1001 43,by simp[rlL,lnR,kpt,PT.row,qak],1001,43,by simp,rfl,rfl⟩
    ·rw[if_neg fun e=>ha e.2]at hR;subst hR;simp[ha];exact⟨rlL x 1001 1002,by simp[rlL,lnR],1001,1002,by simp,rfl,rfl⟩
  ·by_cases n4:(qaF 32 l []).length=4
   ·obtain⟨R,hR⟩:∃ R,qdv x l=R:=⟨_,rfl⟩;rw[hR];unfold qdv at hR;obtain⟨a,b,c,d,hc⟩:∃ a b c d,qaF 32 l []=[a,b,c,d]:=by
     match hm:qaF 32 l [],n4 with
     | [a,b,c,d],_=>exact⟨a,b,c,d,rfl⟩
    rw[hc]at hR hw;simp only at hR;have lb:=hw b (by simp);have ld:=hw d (by simp);have n1:=ql9 b (by omega);have c2:=qeN d (by omega);simp only[PT.row]at c2;refine acx func180 [(6,[zI 0,zI 1,zI 2,zI 3,zJ 4 [1000] [],zJ 5 [6] [1000],zJ 6 [] [1000],zI 7,zI 8,zI 9,zI 10]),(14,[zI 0,zI 1,zI 2,zI 3,zJ 4 [1000] [],zJ 5 [] [1000],zJ 6 [] [1000],zJ 7 [] [1000],zJ 8 [] [1000],zJ 9 [] [1000],zJ 10 [6] [1000],zJ 11 [] [1000],zJ 12 [] [1000],zI 13,zI 14,zI 15,zI 16])] ntmps180 rfl rfl rfl ?_;simp[lnR];refine c1.call ?_;simp[hc,qcr];refine c2.call ?_;cases hk:(qbQ d).2 with
    | false =>
     rw[if_neg (by simp[hk])]at hR;subst hR;simp;exact⟨rlL x 1001 1002,by simp[rlL,lnR],1001,1002,by simp,rfl,rfl⟩
    | true =>
     rw[if_pos hk]at hR;simp;refine n1.call ?_;simp[PT.row];have hrow:∀ fr:List UInt8,CS.row (mkS a (qaE b) fr (qbQ d).1)=[.str a,.int .i64 (qaE b),.str fr,.int .i64 0,.int .i64 0,.int .i64 0,.int .i64 0,.int .i64 0,.int .i64 0,.int .i64 0,.int .i64 0,.int .i64 0,.int .i64 0,.int .i64 0,.int .i64 0,.int .i64 0,.int .i64 0,.int .i64 0,.int .i64 0,.int .i64 0,.int .i64 0,.int .i64 0,.int .i64 0,.int .i64 0,.int .i64 0,.int .i64 0,.int .i64 0,.int .i64 (qbQ d).1.pa,.int .i64 (qbQ d).1.ps,.int .i64 (qbQ d).1.pb,.bool false]:=fun fr=>by
      simp[CS.row,mkS,z8,zPT,PT.row,List.replicate]
     subst hR;by_cases hq:c=[45]
     ·have hf:frR c=[]:=by unfold frR;rw[if_pos hq]
      rw[hf];cases hk2:qbA b with
      | false =>
       simp[hq,kcs,qhF];exact⟨by omega,rlL (x.1++[mkS a (qaE b) [] (qbQ d).1],x.2) 75 1002,by simp[rlL,lnR,kcs,hrow,qak],75,1002,by simp,rfl,rfl⟩
      | true =>
       simp[hq,kcs,qhF];exact⟨by omega,rlL (x.1++[mkS a (qaE b) [] (qbQ d).1],x.2) 75 1002,by simp[rlL,lnR,kcs,hrow,qak],75,1002,by simp,rfl,rfl⟩
     ·have hf:frR c=c:=by unfold frR;rw[if_neg hq]
      rw[hf];cases hk2:qbA b with
      | false =>
       simp[hq,kcs,qhF];exact⟨by omega,rlL (x.1++[mkS a (qaE b) c (qbQ d).1],x.2) 75 1002,by simp[rlL,lnR,kcs,hrow,qak],75,1002,by simp,rfl,rfl⟩
      | true =>
       simp[hq,kcs,qhF];exact⟨by omega,rlL (x.1++[mkS a (qaE b) c (qbQ d).1],x.2) 75 1002,by simp[rlL,lnR,kcs,hrow,qak],75,1002,by simp,rfl,rfl⟩
   ·rw[qwe n2 n4];obtain⟨w,w1,w2⟩:=qwh (qm2 32 l []);have c2:=qeN w (by have:=hw w w2;omega);have hp:=qkD 32 l [];have hnum:=qdj 32 l [];have e1:=qaq (((qaF 32 l []).length:Int)-1) (by omega) (by omega);have e2:(((qaF 32 l []).length:Int)-1).toNat=(qaF 32 l []).length-1:=by omega
    have w0:(qaF 32 l [])[(qaF 32 l []).length-1]'(by omega)=w:=(qEb.1 w1).2;refine acx func180 [(6,[zI 0,zI 1,zI 2,zI 3,zJ 4 [1000] [],zJ 5 [6] [1000],zJ 6 [] [1000],zI 7,zI 8,zI 9,zI 10]),(14,[zI 0,zI 1,zI 2,zI 3,zJ 4 [1000] [],zJ 5 [] [1000],zJ 6 [] [1000],zJ 7 [] [1000],zJ 8 [] [1000],zJ 9 [] [1000],zJ 10 [6] [1000],zJ 11 [] [1000],zJ 12 [] [1000],zI 13,zI 14,zI 15,zI 16])] ntmps180 rfl rfl rfl ?_;simp[lnR];refine c1.call ?_;simp[qcr,e1,e2,w0,w1];refine⟨⟨by omega,by omega⟩,?_⟩;refine c2.call ?_;cases hk:(qbQ w).2 with
    | false =>
     simp;exact⟨rlL x 1001 1002,by simp[rlL,lnR],1001,1002,by simp,rfl,rfl⟩
    | true =>
     simp[n2,n4,show ¬ ((qaF 32 l []).length:Int)=2 by omega,show ¬ ((qaF 32 l []).length:Int)=4 by omega];exact⟨rlL x 1001 1002,by simp[rlL,lnR],1001,1002,by simp,rfl,rfl⟩
 refine key.can ?_;rintro r L' ⟨i,j,hV,rfl,rfl⟩;simp only[qE3,qFc,or_false,qDt]at hV;rcases hV with⟨rfl,rfl⟩ | ⟨rfl,rfl⟩ | ⟨rfl,rfl⟩
 ·exact⟨[(1000,1000),(1001,902),(1002,903)],by simp[rlL],by simp,by simp[rlL],by simp,902,903,by simp,by simp,by simp[qah,rlL,lnR]⟩
 ·exact⟨[(1000,1000),(1001,902),(43,903)],by simp[rlL],by simp,by simp[rlL],by simp,902,903,by simp,by simp,by simp[qah,rlL,lnR]⟩
 ·exact⟨[(1000,1000),(75,902),(1002,903)],by simp[rlL],by simp,by simp[rlL],by simp,902,903,by simp,by simp,by simp[qah,rlL,lnR]⟩
theorem qwf {n:Nat} {x:RS2} (h:rdT n x) {l:List UInt8} (hl:l.length≤1000):rdT (n+1) (qdv x l).1:=by
 have hw:=qbm 32 l [];simp only[qET,qEQ]at hw;have h0:rdT (n+1) x:=⟨by have:=h.1;omega,by have:=h.2.1;omega,h.2.2⟩;unfold qdv;split
 ·split
  ·exact⟨by have:=h.1;simp only;omega,by have:=h.2.1;simp;omega,h.2.2⟩
  ·exact h0
 ·rename_i a b c d hc;rw[hc]at hw;have la:=hw a (by simp);have lc:=hw c (by simp);split
  ·exact qqs h _ _ (by omega) (by omega)
  ·exact h0
 ·exact h0
theorem qoR (t:List UInt8) (hl:t.length≤1000000):ACall prog 87 [.str t] [] (rtQ 900 901 (qhf t)):=by
 obtain⟨R,hR⟩:∃ R,qhf t=R:=⟨_,rfl⟩;rw[hR];have c1:=qhY t 10 (by omega);have hw:=qbm 10 t [];have hnum:=qdj 10 t [];simp only[qET,qEQ]at hw;obtain⟨hd,ls,hc⟩:=ql1 10 t;refine acx func87 [] ntmps87 rfl rfl rfl ?_;by_cases h1:420<t.length
 ·have:R=(zK,false):=by
   rw[← hR];unfold qhf;rw[if_pos (.inl h1)]
  subst this;simp[show(420:Int)<t.length by omega,h1];exact⟨[],by simp,.inl ⟨rfl,rfl,rfl⟩⟩
 rw[qyt h1,hc,qGe]at hR;rw[hc]at hw hnum c1;simp[show ¬ (420:Int)<t.length by omega,h1];refine c1.call ?_;simp[qcr];refine qeV ((qeC 900 31 (by simp)).trans ((qdo 5 1 (sz:=7) (row:=[.int .i64 0,.nils,.nils,.nils,.bool false,.nils,.int .i64 0]) (by simp) (by simp) (qcE 900 0)).trans
   ((qeC 901 3 (by simp)).trans (qdo 5 3 (sz:=7) (row:=[.int .i64 0,.sl 900 0 0,.nils,.nils,.bool false,.nils,.int .i64 0]) (by simp) (by simp) (qcE 901 0))))) ?_
 refine qa9 (X:=Nat×RS2) [0,2,3,5,15,16,17] [(2,2),(5,5),(900,900),(901,901)] (fun x=>[(17,.int .i64 x.1)]) (fun x=>[(2,⟨7,[[.int .i64 0,.nils,.nils,.nils,.bool false,.nils,.int .i64 0]]⟩),(5,⟨7,[lnR x.2 900 901]⟩),(900,kcs x.2.1),(901,kpt x.2.2)]) (fun x=>ls.length-x.1)
  (fun x=>x.1≤ls.length∧rdT x.1 x.2∧qmh t (qe4 qdv (ls.drop x.1) x.2)=R) (0,([],[])) ⟨by omega,⟨by simp,by simp,by simp⟩,hR⟩ ?_ (he:=by simp[qah,lnR,kcs,kpt])
 rintro⟨i,x⟩ ⟨hi,hx,hd2⟩;simp only at hi hx hd2;cases hr:ls.drop i with
 | nil =>
  have:=qaU hr;have hie:i=ls.length:=by omega
  subst hie;rw[hr]at hd2;simp only[qe4,qmh]at hd2;have hT:=qnC hx (by simp at hnum;omega);have c2:=qq2 (qa8 x) hT;have c3:=qrj (qa8 x) (by have:=hx.1;simp only[qa8];simp at hnum;omega) hT.m8;have c4:=qiF (qsB ((qa8 x).sets.map csB) ▸ qkg ((qa8 x).sets.map csB) (by have:=hx.1;simp[qa8];simp at hnum;omega) (fun b hb=>by
   obtain⟨s,hs,rfl⟩:=qD6.1 hb;simp[csB]) (fun b hb=>by
   obtain⟨s,hs,rfl⟩:=qD6.1 hb;have:=hx.2.2 s hs;simp[csB];omega)) (hca:=by simp[bk])
  rw[ql2]at c2 c3;by_cases q8:x.2.length≤8
  ·simp[lnR,show ¬ (8:Int)<x.2.length by omega,show ¬ 8<x.2.length by omega,q8,show(x.2.length:Int)≤8 by omega];refine qaK [] (by kernel_rfl) c3 (by simp[qb5,mtA,kcs,kpt,qak,qbv]) (by simp) trivial (by simp) (by simp) ?_;rintro r L' ⟨rfl,rfl⟩;refine⟨by simp[noL],by simp[qbz,qnT],[(900,32)],⟨by simp,by simp,by simp,by simp,by simp⟩,?_⟩;simp only[qad];have htk:List.take x.1.length (List.map (BS.row ∘ csB) x.1)=List.map (BS.row ∘ csB) x.1:=qDU (by simp);simp only[bk,qa8,qEd]at c4;simp;refine c4.view (by simp[qb5,mtA,qbz,qa8,htk]) ?_;cases hb:qbc (List.map csB x.1)with
   | false =>
    have ha:qhN t x=false:=by simp[qhN,hb]
    rw[if_neg (by simp[ha])]at hd2;subst hd2;simp;exact⟨[],by simp,.inl ⟨rfl,rfl,rfl⟩⟩
   | true =>
    simp;refine c2.view (by simp[qb5,mtA,kcs,kpt,qak,qbv]) ?_;by_cases q1:qay (qa8 x)=t
    ·have ha:qhN t x=true:=by simp[qhN,hb,q8,q1]
     rw[if_pos ha]at hd2;subst hd2;simp[q1];exact⟨[(900,kcs x.1),(901,kpt x.2)],by simp[qah],.inr ⟨x,rfl,by simp[lnR],rfl⟩⟩
    ·have ha:qhN t x=false:=by simp[qhN,q1]
     rw[if_neg (by simp[ha])]at hd2;subst hd2;simp[q1];exact⟨[],by simp,.inl ⟨rfl,rfl,rfl⟩⟩
  ·have ha:qhN t x=false:=by simp[qhN,q8]
   rw[if_neg (by simp[ha])]at hd2;subst hd2;simp[lnR,show(8:Int)<x.2.length by omega,show 8<x.2.length by omega,q8,show ¬ (x.2.length:Int)≤8 by omega];exact⟨[],by simp,.inl ⟨rfl,rfl,rfl⟩⟩
 | cons l r =>
  obtain⟨g1,e0,e1,g3⟩:=qaV hr;have hwl:=hw l (by simp[qFu e1]);have c2:=qzu x l (by omega) (by have:=hx.1;simp at hnum;omega) (by have:=hx.2.1;simp at hnum;omega);have hT:=qwf hx (l:=l) (by omega);have e2:=qaq ((i:Int)+1) (by simp at hnum;omega) (by simp at hnum;omega);rw[hr]at hd2;simp only[rlL,lnR]at c2;simp[lnR,g1,e0,e1,qcr];refine qac [(1000,.whole 5),(1001,.whole 900),(1002,.whole 901)] (by kernel_rfl) c2 (by simp) (by simp) (by simp;exact⟨.inr ⟨_,_,rfl,rfl,by simp⟩,qaa rfl (qa2 _),qaa rfl (qbo _)⟩) (by simp) (by simp) ?_;rintro r' L' ⟨j1,j2,hV,rfl,rfl⟩;simp only[qE3,qFc,or_false,qDt]at hV;obtain⟨rfl,rfl⟩:=hV;refine⟨[(902,902),(903,903)],⟨by simp[rlL],by simp,by simp,by simp[rlL],by simp[rlL]⟩,?_⟩;simp only[qad];cases hk:(qdv x l).2 with
  | false =>
   rw[qlb hk]at hd2;simp only[qmh]at hd2;subst hd2;simp[rlL,lnR];exact⟨[],by simp,.inl ⟨rfl,rfl,rfl⟩⟩
  | true =>
   rw[qk8 hk]at hd2;simp[rlL,lnR];refine nx (i+1,(qdv x l).1) [(2,2),(5,5),(902,900),(903,901)] ⟨by simp only;omega,hT,by simp only[g3];exact hd2⟩ (by simp only;omega) (h4:=?_);simp[qah,e2,lnR]
theorem qq3 (d:DK) (h:DkT d) (side at':Int):CV prog 171 [.agg d.row,.int .i64 side,.int .i64 at'] (.tup [.str (qbH d side at').1,.bool (qbH d side at').2]):=by
 have c1:=qhB d h;have c2:=qhA d h side at';have hse:qa3 d side at' []=qmp d.s0.length side at':=by simp[qa3,qmp]
 unfold qbH;rw[hse];simp only[DK.row]at c1 c2;refine cvx func171 [] ntmps171 rfl rfl rfl ?_ (hca:=by simp[DK.row]);simp[DK.row];refine c1.call ?_;cases g1:qbr d with
 | false=>simp
 | true =>
  simp;refine c2.call ?_;cases g2:qmp d.s0.length side at' with
  | false=>simp
  | true =>
   obtain⟨n1,n2,n3⟩:=thereB_iff.1 (hse.trans g2);have c3:=qq1 d h side at' n1 n2 (qbP g1).2.2.1;simp only[DK.row]at c3;simp;refine c3.call ?_;simp
theorem qd7 (d:DK) (side at':Int):(qbH d side at').1.length≤420:=by
 unfold qbH;split
 ·rename_i h;simp only[Bool.and_eq_true]at h;exact qeH h.1 side at'
 ·simp
def qjh (d:DK) (b:Int×PT) (at' side:Int):Int×PT:=if (qmc (qbH d side at').1).2=true∧b.1<(qmc (qbH d side at').1).1.1 then (qmc (qbH d side at').1).1 else b
def rbN (d:DK):Nat→Int×PT
 | 0=>(0,zPT)
 | i+1=>qjh d (qjh d (rbN d i) (i+1) 0) (i+1) 1
def rbI (d:DK) (i j:Nat):Int×PT:=if j=0 then rbN d i else if j=1 then qjh d (rbN d i) (i+1) 0 else rbN d (i+1)
theorem qnD (d:DK) (i j:Nat) (hj:j<2):rbI d i (j+1)=qjh d (rbI d i j) ((i:Int)+1) j:=by
 have:j=0∨j=1:=by omega
 rcases this with rfl | rfl
 ·rfl
 ·rfl
def rbB (d:DK):Int×PT:=rbN d 4
theorem qtU (d:DK) (h:DkT d):CV prog 30 [.agg d.row] (.tup [.int .i64 (rbB d).1,.agg (rbB d).2.row,.bool (decide (0<(rbB d).1))]):=by
 refine cvx func30 [(14,[zI 0,zJ 1 [6] [],zJ 2 [] [6],zJ 3 [] [6],zJ 4 [] [6],zI 5,zI 6])] ntmps30 rfl rfl rfl ?_ (hca:=by simp[DK.row]) (hcv:=by simp[PT.row]);simp[DK.row];refine qa9 (X:=Nat) [1,2,3,4,5,6,7] [(1,1),(3,3),(6,6)] (fun i=>[(5,.int .i64 (rbN d i).1),(7,.int .i64 (i+1))]) (fun i=>[(1,⟨3,[d.row]⟩),(3,⟨3,[zPT.row]⟩),(6,⟨3,[(rbN d i).2.row]⟩)]) (fun i=>4-i) (fun i=>i≤4) 0 (by simp) ?_ (he:=by simp[qah,DK.row,zPT,PT.row,rbN]);rintro i hi;by_cases h4:i<4
 ·have e2:=qaq ((i:Int)+1+1) (by omega) (by omega);simp[show(i:Int)+1<5 by omega,DK.row,PT.row];refine qa9 (X:=Nat) [1,2,3,4,5,6,7,8] [(1,1),(3,3),(6,6)] (fun j=>[(5,.int .i64 (rbI d i j).1),(8,.int .i64 j)]) (fun j=>[(1,⟨3,[d.row]⟩),(3,⟨3,[zPT.row]⟩),(6,⟨3,[(rbI d i j).2.row]⟩)]) (fun j=>2-j) (fun j=>j≤2) 0 (by simp) ?_ (he:=by simp[qah,DK.row,zPT,PT.row,rbI]);rintro j hj;by_cases h2:j<2
  ·have e3:=qaq ((j:Int)+1) (by omega) (by omega);have c1:=qns d h j ((i:Int)+1);have hl:=qd7 d j ((i:Int)+1);have c2:=qoA (qbH d j ((i:Int)+1)).1 (by omega);have hst:=qnD d i j h2;unfold qjh at hst;simp only[DK.row]at c1;simp only[PT.row]at c2;simp[show(j:Int)<2 by omega,h2,DK.row,PT.row];refine c1.call ?_;simp;refine c2.call ?_;generalize qmc (qbH d j ((i:Int)+1)).1=u at *
   obtain⟨⟨un,up⟩,uk⟩:=u;simp only at hst;cases uk with
   | false =>
    rw[if_neg (by simp)]at hst;simp[PT.row];refine nx (j+1) [(1,1),(3,3),(6,6)] (by omega) (h4:=?_);simp[qah,e3,hst,DK.row,zPT,PT.row]
   | true =>
    by_cases q:(rbI d i j).1<un
    ·rw[if_pos ⟨rfl,q⟩]at hst;simp[q,PT.row];refine nx (j+1) [(1,1),(3,3),(6,6)] (by omega) (h4:=?_);simp[qah,e3,hst,DK.row,zPT,PT.row]
    ·rw[if_neg fun e=>q e.2]at hst;simp[q,PT.row];refine nx (j+1) [(1,1),(3,3),(6,6)] (by omega) (h4:=?_);simp[qah,e3,hst,DK.row,zPT,PT.row]
  ·have hje:j=2:=by omega
   subst hje;simp[DK.row,PT.row];refine nx (i+1) [(1,1),(3,3),(6,6)] (by omega) (h4:=?_);simp[qah,e2,rbI,DK.row,zPT,PT.row]
 ·have hie:i=4:=by omega
  subst hie;simp[DK.row,PT.row,rbB]
  first
   | rfl
   | congr
theorem qt9 (d:DK) (h:DkT d):CV prog 85 [.agg d.row] (.tup [.int .i64 (rbB d).1,.agg (rbB d).2.row,.bool (decide (0<(rbB d).1))]):=by
 refine cvx func85 [(11,[zI 0,zJ 1 [12] [],zJ 2 [] [12],zI 3]),(14,[zI 0,zJ 1 [6] [],zJ 2 [] [6],zJ 3 [] [6],zJ 4 [] [6],zI 5,zI 6])] ntmps85 rfl rfl rfl ?_ (hca:=by simp[DK.row]) (hcv:=by simp[PT.row]);simp[DK.row];refine qa9 (X:=Nat) [1,2,3,4,5,6,15] [(1,1),(3,3),(6,6)] (fun i=>[(5,.int .i64 (rbN d i).1),(15,.int .i64 i)]) (fun i=>[(1,⟨3,[d.row]⟩),(3,⟨3,[zPT.row]⟩),(6,⟨3,[(rbN d i).2.row]⟩)]) (fun i=>4-i) (fun i=>i≤4) 0 (by simp) ?_ (he:=by simp[qah,DK.row,zPT,PT.row,rbN]);rintro i hi;by_cases h4:i<4
 ·have e2:=qaq ((i:Int)+1) (by omega) (by omega);have e4:IntKind.i64.wrap (1+(i:Int))=(i:Int)+1:=by rw[qaq _ (by omega) (by omega)];omega
  simp[show(i:Int)<4 by omega,h4,DK.row,PT.row];refine qa9 (X:=Nat) [1,2,3,4,5,6,7,15,18] [(1,1),(3,3),(6,6)] (fun j=>[(5,.int .i64 (rbI d i j).1),(18,.int .i64 j)]) (fun j=>[(1,⟨3,[d.row]⟩),(3,⟨3,[zPT.row]⟩),(6,⟨3,[(rbI d i j).2.row]⟩)]) (fun j=>2-j) (fun j=>j≤2) 0 (by simp) ?_ (he:=by simp[qah,DK.row,zPT,PT.row,rbI]);rintro j hj;by_cases h2:j<2
  ·have e3:=qaq ((j:Int)+1) (by omega) (by omega);have c1:=qq3 d h j ((i:Int)+1);have hl:=qd7 d j ((i:Int)+1);have c2:=qoQ (qbH d j ((i:Int)+1)).1 (by omega);have hst:=qnD d i j h2;unfold qjh at hst;simp only[DK.row]at c1;simp only[PT.row]at c2;simp[show(j:Int)<2 by omega,h2,e4,DK.row,PT.row];refine c1.call ?_;simp;refine c2.call ?_;generalize qmc (qbH d j ((i:Int)+1)).1=u at *
   obtain⟨⟨un,up⟩,uk⟩:=u;simp only at hst;cases uk with
   | false =>
    rw[if_neg (by simp)]at hst;simp[PT.row];refine nx (j+1) [(1,1),(3,3),(6,6)] (by omega) (h4:=?_);simp[qah,e3,hst,DK.row,zPT,PT.row]
   | true =>
    by_cases q:(rbI d i j).1<un
    ·rw[if_pos ⟨rfl,q⟩]at hst;simp[q,PT.row];refine nx (j+1) [(1,1),(3,3),(6,6)] (by omega) (h4:=?_);simp[qah,e3,hst,DK.row,zPT,PT.row]
    ·rw[if_neg fun e=>q e.2]at hst;simp[q,PT.row];refine nx (j+1) [(1,1),(3,3),(6,6)] (by omega) (h4:=?_);simp[qah,e3,hst,DK.row,zPT,PT.row]
  ·have hje:j=2:=by omega
   subst hje;simp[DK.row,PT.row];refine nx (i+1) [(1,1),(3,3),(6,6)] (by omega) (h4:=?_);simp[qah,e2,rbI,DK.row,zPT,PT.row]
 ·have hie:i=4:=by omega
  subst hie;simp[DK.row,PT.row,rbB]
  first
   | rfl
   | congr
def qhj (l:List BO):Ob:=⟨5,l.map BO.row⟩
theorem qtm (l:List BO):clR (qhj l).els=true:=by simp[clR,qhj,BO.row]
def qez (d:DK) (i:Nat) (side:Int):LR×Bool:=qkQ (qbH d side (5+(i:Int))).1
def qeA (d:DK) (txg:Int) (i:Nat) (side:Int):Bool:=(qez d i side).2 && decide ((qez d i side).1.txg=txg) && decide ((qez d i side).1.seq=i)
def qpj (d:DK) (txg:Int) (i:Nat):Option BO:=if qeA d txg i 0=true then some (qez d i 0).1.op else if qeA d txg i 1=true then some (qez d i 1).1.op else none
def tkS:List (Option BO)→List BO
 | some o::r=>o::tkS r
 | _=>[]
def lfF (d:DK) (txg:Int) (k i:Nat):List BO:=tkS ((List.range' i k).map (qpj d txg))
theorem qzd (d:DK) (txg:Int) (i:Nat):lfF d txg 0 i=[]:=by simp[lfF,tkS]
@[simp] theorem qBy (ρ:Nat→Option Plc):qch ρ ∘ BO.row=BO.row:=by
 funext o
 simp[BO.row]
theorem qzc (d:DK) (txg:Int) (k i:Nat):lfF d txg (k+1) i=match qpj d txg i with
  | some o=>o::lfF d txg k (i+1)
  | none=>[]:=by
 simp only[lfF,List.range'_succ,qD5];generalize qpj d txg i=x;cases x <;> rfl
theorem qgw (d:DK) (i:Nat) (side:Int):qez d i side=qkQ (qbH d side (5+(i:Int))).1:=rfl
theorem qfB (d:DK) (txg:Int) (i:Nat) (side:Int):qeA d txg i side=((qez d i side).2 && decide ((qez d i side).1.txg=txg) && decide ((qez d i side).1.seq=i)):=rfl
theorem qmv (d:DK) (txg:Int) (i:Nat):qpj d txg i=if qeA d txg i 0=true then some (qez d i 0).1.op else if qeA d txg i 1=true then some (qez d i 1).1.op else none:=rfl
theorem qt5 (d:DK) (txg:Int) (k i:Nat):lfF d txg k i=tkS ((List.range' i k).map (qpj d txg)):=rfl
attribute [irreducible] lfF qpj qeA qez
def lfB (d:DK) (txg:Int):List BO:=lfF d txg 8 0
theorem qzb {f:Nat} {args:List AV} {R:List BO} (h:ACall prog f args [] (fun r L'=>(R=[]∧r=.nils∧L'=[])∨(r=.sl 900 0 R.length∧L'=[(900,qhj R)]))) (he:qb0 prog f=true) (ha:clL args=true):CV prog f args (.lst 5 (R.map BO.row)):=by
 refine CV.of_frz h ?_ (he:=he) (hca:=ha) (hcv:=by simp[BO.row]);rintro r L' (⟨rfl,rfl,rfl⟩ | ⟨rfl,rfl⟩)
 ·refine⟨by simp,by simp,by simp,?_⟩;simp only[qbe,qFi];exact qa6 5
 ·refine⟨by simp,by simp,fun x hx=>by simp only[qF8]at hx;subst hx;exact qtm _,?_⟩;simp[qbe,qhj,qak]
theorem qBn (d:DK) (h:DkT d) (txg:Int) (i:Nat) (hi:i<8):CV prog 202 [.agg d.row,.int .i64 txg,.int .i64 i] (.tup [.agg ((qpj d txg i).getD zBO).row,.bool (qpj d txg i).isSome]):=by
 obtain⟨R,hR⟩:∃ R,qpj d txg i=R:=⟨_,rfl⟩;rw[hR];rw[qmv]at hR;have e1:=qaq (5+(i:Int)) (by omega) (by omega);refine cvx func202 [] ntmps202 rfl rfl rfl ?_ (hca:=by simp[DK.row]) (hcv:=by simp[BO.row]);simp[DK.row];refine qa9 (X:=Nat) [1,2,3,6,7,8] [(3,3),(6,6)] (fun j=>[(8,.int .i64 j)]) (fun j=>[(3,⟨3,[d.row]⟩),(6,⟨5,[zBO.row]⟩)]) (fun j=>2-j) (fun j=>j=0∨(j=1∧qeA d txg i 0=false)∨(j=2∧qeA d txg i 0=false∧qeA d txg i 1=false)) 0 (.inl rfl) ?_ (he:=by simp[qah,DK.row,zBO,BO.row]);have body:∀ side:Int,(qez d i side).2=true→(qez d i side).1.txg=txg→(qez d i side).1.seq=i→qeA d txg i side=true:=fun side a b c=>by rw[qfB];simp[a,b,c]
 rintro j (rfl | ⟨rfl,q0⟩ | ⟨rfl,q0,q1⟩)
 ·have c1:=qns d h 0 (5+(i:Int));have hl:=qd7 d 0 (5+(i:Int));have c2:=qk6 (qbH d 0 (5+(i:Int))).1 (by omega);have hh:qeA d txg i 0=((qez d i 0).2 && decide ((qez d i 0).1.txg=txg) && decide ((qez d i 0).1.seq=i)):=qfB d txg i 0;simp only[DK.row]at c1;simp only[LR.row,BO.row]at c2;simp[DK.row,e1];refine c1.call ?_;simp;refine c2.call ?_;rw[← qgw];generalize qez d i 0=u at *
  obtain⟨⟨ut,us,uo⟩,uk⟩:=u;simp only at hh hR;cases uk with
  | false =>
   have hf:qeA d txg i 0=false:=by simpa using hh
   simp;exact nx 1 [(3,3),(6,6)] (by simp[hf]) (h4:=by simp[qah,DK.row,zBO,BO.row])
  | true =>
   by_cases a:ut=txg
   ·by_cases b:us=i
    ·have ht:qeA d txg i 0=true:=by simp[hh,a,b]
     rw[if_pos ht]at hR;subst hR;simp[a,b,BO.row]
    ·have hf:qeA d txg i 0=false:=by simp[hh,b]
     simp[a,b];exact nx 1 [(3,3),(6,6)] (by simp[hf]) (h4:=by simp[qah,DK.row,zBO,BO.row])
   ·have hf:qeA d txg i 0=false:=by simp[hh,a]
    simp[a];exact nx 1 [(3,3),(6,6)] (by simp[hf]) (h4:=by simp[qah,DK.row,zBO,BO.row])
 ·rw[if_neg (by simp[q0])]at hR;have c1:=qns d h 1 (5+(i:Int));have hl:=qd7 d 1 (5+(i:Int));have c2:=qk6 (qbH d 1 (5+(i:Int))).1 (by omega);have hh:qeA d txg i 1=((qez d i 1).2 && decide ((qez d i 1).1.txg=txg) && decide ((qez d i 1).1.seq=i)):=qfB d txg i 1;simp only[DK.row]at c1;simp only[LR.row,BO.row]at c2;simp[DK.row,e1];refine c1.call ?_;simp;refine c2.call ?_;rw[← qgw];generalize qez d i 1=u at *
  obtain⟨⟨ut,us,uo⟩,uk⟩:=u;simp only at hh hR;cases uk with
  | false =>
   have hf:qeA d txg i 1=false:=by simpa using hh
   simp;exact nx 2 [(3,3),(6,6)] (by simp[hf,q0]) (h4:=by simp[qah,DK.row,zBO,BO.row])
  | true =>
   by_cases a:ut=txg
   ·by_cases b:us=i
    ·have ht:qeA d txg i 1=true:=by simp[hh,a,b]
     rw[if_pos ht]at hR;subst hR;simp[a,b,BO.row]
    ·have hf:qeA d txg i 1=false:=by simp[hh,b]
     simp[a,b];exact nx 2 [(3,3),(6,6)] (by simp[hf,q0]) (h4:=by simp[qah,DK.row,zBO,BO.row])
   ·have hf:qeA d txg i 1=false:=by simp[hh,a]
    simp[a];exact nx 2 [(3,3),(6,6)] (by simp[hf,q0]) (h4:=by simp[qah,DK.row,zBO,BO.row])
 ·rw[if_neg (by simp[q0]),if_neg (by simp[q1])]at hR;subst hR;simp[zBO,BO.row]
theorem qp6 (d:DK) (h:DkT d) (txg:Int):CV prog 99 [.agg d.row,.int .i64 txg] (.lst 5 ((lfB d txg).map BO.row)):=by
 refine qzb ?_ (by kernel_rfl) (by simp[DK.row]);obtain⟨R,hR⟩:∃ R,lfB d txg=R:=⟨_,rfl⟩;rw[hR];unfold lfB at hR;refine acx func99 [] ntmps99 rfl rfl rfl ?_;simp[DK.row];refine qa9 (X:=Nat×List BO) [1,2,4,5,6] [(2,2),(9,900)] (fun x=>[(5,.sl 900 0 x.2.length),(6,.int .i64 x.1)]) (fun x=>[(2,⟨3,[d.row]⟩),(900,qhj x.2)]) (fun x=>8-x.1) (fun x=>x.1≤8∧x.2.length=x.1∧x.2++lfF d txg (8-x.1) x.1=R) (0,[]) (by simp[hR]) ?_ (he:=by simp[qah,qhj,DK.row]);rintro⟨i,acc⟩ ⟨hi,ha,hd⟩;simp only at hi ha hd;by_cases h8:i<8
 ·have e2:=qaq ((i:Int)+1) (by omega) (by omega);have c1:=qBn d h txg i h8;rw[show 8-i=(8-(i+1))+1 by omega,qzc]at hd;simp only[DK.row]at c1;simp[show(i:Int)<8 by omega,h8,DK.row];refine c1.call ?_;cases hr:qpj d txg i with
  | none =>
   rw[hr]at hd;simp only[qFH]at hd;subst hd;simp[BO.row]
  | some o =>
   rw[hr]at hd;simp only at hd;simp[BO.row,qhj];refine⟨by omega,nx (i+1,acc++[o]) [(2,2),(27,900)] ⟨by simp only;omega,by simp[ha],by simp only;rw[List.append_assoc];exact hd⟩ (by simp only;omega) (h4:=?_)⟩;simp[qah,e2,qhj,DK.row,qak,BO.row]
 ·have hie:i=8:=by omega
  subst hie;simp only[Nat.sub_self,qzd,qFH]at hd;subst hd;simp
def lfI (d:DK) (txg:Int) (i j:Nat):Option BO:=if j=0 then none else if j=1 then (if qeA d txg i 0=true then some (qez d i 0).1.op else none) else qpj d txg i
theorem qq9 (d:DK) (h:DkT d) (txg:Int):CV prog 106 [.agg d.row,.int .i64 txg] (.lst 5 ((lfB d txg).map BO.row)):=by
 refine qzb ?_ (by kernel_rfl) (by simp[DK.row]);obtain⟨R,hR⟩:∃ R,lfB d txg=R:=⟨_,rfl⟩;rw[hR];unfold lfB at hR;refine acx func106 [] ntmps106 rfl rfl rfl ?_;simp[DK.row];refine qeV (qjM 5 5 (by simp) (by simp)) ?_;refine qa9 (X:=Nat×List BO) [1,2,4,5,13] [(2,2),(5,900)] (fun x=>[(5,.sl 900 0 x.2.length),(13,.int .i64 x.1)]) (fun x=>[(2,⟨3,[d.row]⟩),(900,qhj x.2)]) (fun x=>8-x.1) (fun x=>x.1≤8∧x.2.length=x.1∧x.2++lfF d txg (8-x.1) x.1=R) (0,[]) (by simp[hR]) ?_ (he:=by simp[qah,qhj,DK.row]);rintro⟨i,acc⟩ ⟨hi,ha,hd⟩;simp only at hi ha hd;by_cases h8:i<8
 ·have e2:=qaq ((i:Int)+1) (by omega) (by omega);have e1:=qaq (5+(i:Int)) (by omega) (by omega);rw[show 8-i=(8-(i+1))+1 by omega,qzc]at hd;simp[show(i:Int)<8 by omega,h8,DK.row];refine qa9 (X:=Nat) [1,2,4,5,6,7,13,16] [(2,2),(900,900)] (fun j=>[(5,.sl 900 0 (acc++(lfI d txg i j).toList).length),(7,.bool (lfI d txg i j).isSome),(16,.int .i64 j)]) (fun j=>[(2,⟨3,[d.row]⟩),(900,qhj (acc++(lfI d txg i j).toList))]) (fun j=>2-j) (fun j=>j≤2) 0 (by simp) ?_ (he:=by simp[qah,qhj,DK.row,lfI]);rintro j hj;have hjj:j=0∨j=1∨j=2:=by omega
  rcases hjj with rfl | rfl | rfl
  ·have c1:=qq3 d h 0 (5+(i:Int));have hl:=qd7 d 0 (5+(i:Int));have c2:=qlB (qbH d 0 (5+(i:Int))).1 (by omega);have hh:qeA d txg i 0=((qez d i 0).2 && decide ((qez d i 0).1.txg=txg) && decide ((qez d i 0).1.seq=i)):=qfB d txg i 0;have h0:lfI d txg i 0=none:=rfl;have h1:lfI d txg i 1=(if qeA d txg i 0=true then some (qez d i 0).1.op else none):=rfl
   simp only[DK.row]at c1;simp only[LR.row,BO.row]at c2;simp[DK.row,e1,h0];refine c1.call ?_;simp;refine c2.call ?_;rw[← qgw];generalize qez d i 0=u at *
   obtain⟨⟨ut,us,uo⟩,uk⟩:=u;simp only at hh h1;cases uk with
   | false =>
    have hf:qeA d txg i 0=false:=by simpa using hh
    simp[h0];refine nx 1 [(2,2),(900,900)] (by omega) (h4:=?_);simp[qah,qhj,DK.row,h0,h1,hf,BO.row]
   | true =>
    by_cases a:ut=txg
    ·by_cases b:us=i
     ·have ht:qeA d txg i 0=true:=by simp[hh,a,b]
      simp[h0,a,b,qhj,BO.row];refine⟨by omega,nx 1 [(2,2),(53,900)] (by omega) (h4:=?_)⟩;simp[qah,qhj,DK.row,h0,h1,ht,BO.row,qak]
     ·have hf:qeA d txg i 0=false:=by simp[hh,b]
      simp[h0,a,b];refine nx 1 [(2,2),(900,900)] (by omega) (h4:=?_);simp[qah,qhj,DK.row,h0,h1,hf,BO.row]
    ·have hf:qeA d txg i 0=false:=by simp[hh,a]
     simp[h0,a];refine nx 1 [(2,2),(900,900)] (by omega) (h4:=?_);simp[qah,qhj,DK.row,h0,h1,hf,BO.row]
  ·have c1:=qq3 d h 1 (5+(i:Int));have hl:=qd7 d 1 (5+(i:Int));have c2:=qlB (qbH d 1 (5+(i:Int))).1 (by omega);have hh:qeA d txg i 1=((qez d i 1).2 && decide ((qez d i 1).1.txg=txg) && decide ((qez d i 1).1.seq=i)):=qfB d txg i 1;have h0:lfI d txg i 1=(if qeA d txg i 0=true then some (qez d i 0).1.op else none):=rfl
   have h1:lfI d txg i 2=(if qeA d txg i 0=true then some (qez d i 0).1.op else if qeA d txg i 1=true then some (qez d i 1).1.op else none):=qmv d txg i
   simp only[DK.row]at c1;simp only[LR.row,BO.row]at c2;simp[DK.row,e1];refine c1.call ?_;simp;refine c2.call ?_;cases g0:qeA d txg i 0 with
   | true =>
    rw[if_pos g0]at h0 h1;cases uk2:(qkQ (qbH d 1 (5+(i:Int))).1).2 with
    | false =>
     simp[h0];refine nx 2 [(2,2),(900,900)] (by omega) (h4:=?_);simp[qah,qhj,DK.row,h0,h1,BO.row]
    | true =>
     simp[h0];refine nx 2 [(2,2),(900,900)] (by omega) (h4:=?_);simp[qah,qhj,DK.row,h0,h1,BO.row]
   | false =>
    rw[if_neg (by simp[g0])]at h0 h1;rw[← qgw];generalize qez d i 1=u at *
    obtain⟨⟨ut,us,uo⟩,uk⟩:=u;simp only at hh h1;cases uk with
    | false =>
     have hf:qeA d txg i 1=false:=by simpa using hh
     simp[h0];refine nx 2 [(2,2),(900,900)] (by omega) (h4:=?_);simp[qah,qhj,DK.row,h0,h1,hf,BO.row]
    | true =>
     by_cases a:ut=txg
     ·by_cases b:us=i
      ·have ht:qeA d txg i 1=true:=by simp[hh,a,b]
       simp[h0,a,b,qhj,BO.row];refine⟨by omega,nx 2 [(2,2),(53,900)] (by omega) (h4:=?_)⟩;simp[qah,qhj,DK.row,h0,h1,ht,BO.row,qak]
      ·have hf:qeA d txg i 1=false:=by simp[hh,b]
       simp[h0,a,b];refine nx 2 [(2,2),(900,900)] (by omega) (h4:=?_);simp[qah,qhj,DK.row,h0,h1,hf,BO.row]
     ·have hf:qeA d txg i 1=false:=by simp[hh,a]
      simp[h0,a];refine nx 2 [(2,2),(900,900)] (by omega) (h4:=?_);simp[qah,qhj,DK.row,h0,h1,hf,BO.row]
  ·simp[DK.row];cases hr:qpj d txg i with
   | none =>
    rw[hr]at hd;simp only[qFH]at hd;subst hd;simp[lfI,hr]
   | some o =>
    rw[hr]at hd;simp only at hd;simp[lfI,hr];refine nx (i+1,acc++[o]) [(2,2),(900,900)] ⟨by simp only;omega,by simp[ha],by simp only;rw[List.append_assoc];exact hd⟩ (by simp only;omega) (h4:=?_);simp[qah,e2,qhj,DK.row,lfI,hr,BO.row]
 ·have hie:i=8:=by omega
  subst hie;simp only[Nat.sub_self,qzd,qFH]at hd;subst hd;simp
def xpP (d:DK) (s:CS):Bool:=decide ((qag d s.home).2=0) && (qeK (qag d s.home).1).2
def xpS (d:DK) (s:CS):CS:={ s with map:=(qeK (qag d s.home).1).1 }
def xpA (d:DK) (l:List CS):Bool:=l.all (xpP d)
def xpN (d:DK) (l:List CS) (i:Nat):List CS:=(l.take i).map (xpS d)++l.drop i
theorem qxL (d:DK) (l:List CS):xpN d l 0=l:=by simp[xpN]
theorem qpp (d:DK) (l:List CS) (i:Nat):(xpN d l i).length=l.length:=by
 simp[xpN];omega
theorem qpq (d:DK) (l:List CS):xpN d l l.length=l.map (xpS d):=by simp[xpN]
theorem qtz {d:DK} {l:List CS} {i:Nat} {s:CS} (hs:l[i]?=some s):(xpN d l i)[i]?=some s∧(xpN d l i).set i (xpS d s)=xpN d l (i+1):=by
 have hl:=(qEb.1 hs).1;have hd:l.drop i=s::l.drop (i+1):=by
  have:=(qEb.1 hs).2;rw[← this];exact qDK hl
 have ht:l.take (i+1)=l.take i++[s]:=by
  rw[qFq,hs];rfl
 have hn:((l.take i).map (xpS d)).length=i:=by simp;omega
 constructor
 ·unfold xpN;rw[hd,qD2 (by omega),hn];simp
 ·unfold xpN;rw[hd,ht,qFF,List.set_append_right _ _ (by omega),hn];simp
theorem qpo (d:DK) (s:CS) (h:s.map.length=8) (L:List AV) (hL:L=(qeK (qag d s.home).1).1.flatMap PT.row):List.take 3 s.row++(L++List.drop 27 s.row)=(xpS d s).row:=by
 subst hL;obtain⟨n,k,f,m,hm,b⟩:=s;simp only at h;have h24:(m.flatMap PT.row).length=24:=by rw[qkk,h]
 simp only[CS.row,xpS]
 congr 1
 rw[show(27:Nat)=24+3 by rfl];simp only[List.drop_succ_cons];rw[qEU (by omega),qFn (by omega)];simp
theorem qcW (d:DK) (p:PT):(qag d p).1.length≤420:=by
 unfold qag;split
 ·simp
 ·split
  ·rename_i h;exact qeH (qdp h).1 _ _
  ·split
   ·rename_i h;exact qeH (qdp h).1 _ _
   ·simp
theorem qqv {l:List PT} (h:l.length=8):(List.map (fun a:PT=>3) l).sum=24:=by
 have:=qkk l;rw[qGq,h]at this;exact this
theorem qqw (l:List PT):∀ x∈l.flatMap PT.row,qde x=true:=fun x hx=>by
 obtain⟨p,_,hp⟩:=qF0.1 hx;simp only[PT.row,qE3,qFc,or_false]at hp;rcases hp with rfl | rfl | rfl <;> rfl
theorem qne {d:DK} {l:List CS} {i:Nat} {s:CS} (hs:l[i]?=some s) (h:xpA d (l.take i)=true) (h2:xpP d s=true):xpA d (l.take (i+1))=true:=by
 rw[qFq,hs];unfold xpA at *
 rw[qFT,h];simp[h2]
theorem qtA {d:DK} {l:List CS} {s:CS} (hs:s∈l) (h:xpP d s=false):xpA d l=false:=by
 cases hk:xpA d l with
 | false=>rfl
 | true =>
  unfold xpA at hk;rw[qDS]at hk;rw[hk s hs]at h;cases h
def mpQ (d:DK) (x:RS2) (K:Bool) (r:AV) (L':List (Nat×Ob)):Prop:=∃ l,l.length=x.1.length∧(K=true→l=x.1.map (xpS d))∧r=.tup [.agg (lnR (l,x.2) 1000 1001),.bool K]∧L'=[(1000,kcs l),(1001,kpt x.2)]
theorem qym (d:DK) (h:DkT d) (x:RS2) (hx:x.1.length≤1000000) (h8:∀ s∈x.1,s.map.length=8) :
  ACall prog 76 [.agg d.row,.agg (lnR x 1000 1001)] [(1000,kcs x.1),(1001,kpt x.2)] (mpQ d x (xpA d x.1)):=by
 obtain⟨K,hK⟩:∃ K,xpA d x.1=K:=⟨_,rfl⟩;rw[hK];refine acx func76 [(4,[zJ 0 [2] [],zJ 1 [] [2],zJ 2 [3] [2],zJ 3 [] [2,3],zJ 4 [1000] [2],zJ 5 [] [2],zJ 6 [1000] [2],zI 7,zI 8,zI 9,zI 10,zI 11,zI 12])] ntmps76 rfl rfl rfl ?_;simp[lnR,DK.row];refine qa9 (X:=Nat) [2,3,4,5,6] [(2,2),(3,3),(4,4),(1000,1000),(1001,1001)] (fun i=>[(5,.bool false),(6,.int .i64 i)]) (fun i=>[(2,⟨3,[d.row]⟩),(3,⟨7,[lnR x 1000 1001]⟩),(4,⟨7,[[.int .i64 0,.nils,.nils,.nils,.bool false,.nils,.int .i64 0]]⟩),(1000,kcs (xpN d x.1 i)),(1001,kpt x.2)]) (fun i=>x.1.length-i) (fun i=>i≤x.1.length∧xpA d (x.1.take i)=true) 0 ⟨by omega,by simp[xpA]⟩ ?_ (he:=by simp[qah,lnR,qxL,DK.row]);rintro i ⟨hi,ha⟩;by_cases hil:i<x.1.length
 ·obtain⟨s,f1⟩:∃ s,x.1[i]?=some s:=⟨_,qDF hil⟩;have hm:=qFu f1;have hs8:=h8 s hm;have hrl:=qaX s hs8;have hho:=qcU s hs8;have e2:=qaq ((i:Int)+1) (by omega) (by omega);have c1:=qeF d h s.home;have hbl:=qcW d s.home;have c2:=qp4 (qag d s.home).1 (by omega);obtain⟨g1,g2⟩:=qtz (d:=d) f1;have gl:=qpp d x.1 i;have hcond:xpP d s=(decide ((qag d s.home).2=0) && (qeK (qag d s.home).1).2):=rfl;have hup:=qpo d s hs8;have hml:=qka (qag d s.home).1;have hsu:=qqv hml;have hone:=qqw (qeK (qag d s.home).1).1;have hfl:((qeK (qag d s.home).1).1.flatMap PT.row).length=24:=by rw[qkk,hml]
  simp only[DK.row,PT.row]at c1 hho;obtain⟨Y,hY⟩:∃ Y,xpN d x.1 i=Y:=⟨_,rfl⟩;rw[hY]at g1 g2 gl;have hiY:i<Y.length:=by omega
  have y0:Y[i]=s:=(qEb.1 g1).2;rw[hY];generalize qag d s.home=bb at *
  obtain⟨bt,bc⟩:=bb;simp only at c1 c2 hcond hup hml hsu hone hfl;generalize qeK bt=mm at *
  obtain⟨mp,mk⟩:=mm;simp only at c2 hcond hup hml hsu hone hfl;simp[lnR,kcs,show(i:Int)<x.1.length by omega,hil,g1,hiY,y0,hrl,hho,gl,DK.row];refine c1.call ?_;simp;refine c2.call ?_;by_cases q:bc=0∧mk=true
  ·obtain⟨rfl,rfl⟩:=q;have hnx:=qne f1 ha (by rw[hcond];rfl);simp[kcs,hiY,y0,g1,hrl,hsu,hfl,qDU (qDV hfl),gl,hil];refine nx (i+1) [(2,2),(3,3),(4,4),(1000,1000),(1001,1001)] ⟨by omega,hnx⟩ (by omega) (h4:=?_);simp[qah,e2,lnR,kcs,← g2,DK.row,hsu,hfl,hup _ rfl,qhv]
  ·have hk:=qtA hm (show xpP d s=false by rw[hcond];cases mk <;> simp_all);rw[hK]at hk;subst hk;by_cases q1:bc=0
   ·have:mk=false:=by cases mk <;> simp_all
    subst this;simp[kcs,q1,hsu];exact⟨[(1000,kcs Y),(1001,kpt x.2)],by simp[kcs],Y,gl,by simp,by simp[lnR,gl],rfl⟩
   ·simp[kcs,q1];exact⟨hsu,[(1000,kcs Y),(1001,kpt x.2)],by simp[kcs],Y,gl,by simp,by simp[lnR,gl],rfl⟩
 ·have hie:i=x.1.length:=by omega
  subst hie;rw[qDU (by omega),hK]at ha;subst ha;simp[lnR];exact⟨[(1000,kcs (x.1.map (xpS d))),(1001,kpt x.2)],by simp[qpq],x.1.map (xpS d),by simp,fun _=>rfl,by simp[lnR],rfl⟩
def tbP (d:DK) (p:PT):Bool:=decide ((qag d p).2=0) && (qiV (qag d p).1).2
def tbS (d:DK) (p:PT):List DE:=(qiV (qag d p).1).1
def tbA (d:DK) (l:List PT):Bool:=l.all (tbP d)
def tbN (d:DK) (l:List PT) (i:Nat):List DE:=(l.take i).flatMap (tbS d)
theorem qkC (t:List UInt8):(qiV t).1.length≤48:=by
 unfold qiV;split
 ·simp
 ·split
  ·simp
  ·split
   ·split
    ·rename_i h;exact(qiD h).1
    ·simp
   ·simp
theorem qjL (d:DK) (l:List PT):∀ i,(tbN d l i).length≤48 * i
 | 0=>by simp[tbN]
 | i+1=>by
  have:=qjL d l i;unfold tbN at *
  rw[qFq,qGG,qES];have h2:(List.flatMap (tbS d) l[i]?.toList).length≤48:=by
   cases l[i]? with
   | none=>simp
   | some p=>simpa [tbS]using qkC _
  omega
theorem qnj {d:DK} {l:List PT} {i:Nat} {p:PT} (hs:l[i]?=some p):tbN d l i++tbS d p=tbN d l (i+1):=by
 unfold tbN;rw[qFq,hs,qGG];simp
theorem qnk {d:DK} {l:List PT} {i:Nat} {s:PT} (hs:l[i]?=some s) (h:tbA d (l.take i)=true) (h2:tbP d s=true):tbA d (l.take (i+1))=true:=by
 rw[qFq,hs];unfold tbA at *
 rw[qFT,h];simp[h2]
theorem qtH {d:DK} {l:List PT} {s:PT} (hs:s∈l) (h:tbP d s=false):tbA d l=false:=by
 cases hk:tbA d l with
 | false=>rfl
 | true =>
  unfold tbA at hk;rw[qDS]at hk;rw[hk s hs]at h;cases h
def tbR (x:RS2) (a b c n:Nat):List AV:=[.int .i64 0,.sl a 0 x.1.length,.sl b 0 n,.sl c 0 x.2.length,.bool false,.nils,.int .i64 0]
def tbQ (d:DK) (x:RS2) (K:Bool) (r:AV) (L':List (Nat×Ob)):Prop:=∃ l,(K=true→l=x.2.flatMap (tbS d))∧r=.tup [.agg (tbR x 1000 902 1001 l.length),.bool K]∧L'=[(1000,kcs x.1),(902,qaJ l),(1001,kpt x.2)]
theorem qvx (d:DK) (h:DkT d) (x:RS2) (hx:x.2.length≤10000) :
  ACall prog 77 [.agg d.row,.agg (lnR x 1000 1001)] [(1000,kcs x.1),(1001,kpt x.2)] (tbQ d x (tbA d x.2)):=by
 obtain⟨K,hK⟩:∃ K,tbA d x.2=K:=⟨_,rfl⟩;rw[hK];refine acx func77 [(4,[zJ 0 [2] [],zJ 1 [] [2],zJ 2 [3] [2],zJ 3 [] [2,3],zJ 4 [1001] [2],zJ 5 [1001] [2],zI 6,zI 7,zI 8,zI 9,zI 10,zI 11])] ntmps77 rfl rfl rfl ?_;simp[lnR,DK.row];refine qeV ((qeC 902 3 (by simp)).trans (qdo 3 2 (sz:=7) (row:=lnR x 1000 1001) (by simp[lnR]) (by simp[lnR]) (qcE 902 0))) ?_;refine qa9 (X:=Nat) [2,3,4,5,6] [(2,2),(3,3),(4,4),(1000,1000),(902,902),(1001,1001)] (fun i=>[(5,.bool false),(6,.int .i64 i)]) (fun i=>[(2,⟨3,[d.row]⟩),(3,⟨7,[tbR x 1000 902 1001 (tbN d x.2 i).length]⟩),(4,⟨7,[[.int .i64 0,.nils,.nils,.nils,.bool false,.nils,.int .i64 0]]⟩),(1000,kcs x.1),(902,qaJ (tbN d x.2 i)),(1001,kpt x.2)]) (fun i=>x.2.length-i) (fun i=>i≤x.2.length∧tbA d (x.2.take i)=true) 0 ⟨by omega,by simp[tbA]⟩ ?_ (he:=by simp[qah,lnR,tbR,tbN,DK.row,qaJ]);rintro i ⟨hi,ha⟩;have hnl:=qjL d x.2 i;by_cases hil:i<x.2.length
 ·obtain⟨s,f1⟩:∃ s,x.2[i]?=some s:=⟨_,qDF hil⟩;have f0:x.2[i]=s:=(qEb.1 f1).2;have hm:=qFu f1;have e2:=qaq ((i:Int)+1) (by omega) (by omega);have c1:=qeF d h s;have hbl:=qcW d s;have c2:=qqa (qag d s).1 (by omega);have hdl:=qkC (qag d s).1;have hcond:tbP d s=(decide ((qag d s).2=0) && (qiV (qag d s).1).2):=rfl;have hnx:=qnj (d:=d) f1;have hts:tbS d s=(qiV (qag d s).1).1:=rfl;rw[hts]at hnx;simp only[DK.row,PT.row]at c1;generalize qag d s=bb at *
  obtain⟨bt,bc⟩:=bb;simp only at c1 c2 hcond hbl hdl hnx;generalize qiV bt=mm at *
  obtain⟨mp,mk⟩:=mm;simp only at c2 hcond hdl hnx;simp[tbR,qaJ,kpt,show(i:Int)<x.2.length by omega,hil,f0,f1,PT.row,DK.row];refine c1.call ?_;simp;refine c2.call ?_;by_cases q:bc=0∧mk=true
  ·obtain⟨rfl,rfl⟩:=q;have hnA:=qnk f1 ha (by rw[hcond];rfl);simp[tbR,qaJ];refine⟨by omega,nx (i+1) [(2,2),(3,3),(4,4),(1000,1000),(43,902),(1001,1001)] ⟨by omega,hnA⟩ (by omega) (h4:=?_)⟩;simp[qah,e2,tbR,qaJ,kpt,← hnx,DK.row,qak]
  ·have hk:=qtH hm (show tbP d s=false by rw[hcond];cases mk <;> simp_all);rw[hK]at hk;subst hk;by_cases q1:bc=0
   ·have:mk=false:=by cases mk <;> simp_all
    subst this;simp[tbR,qaJ,q1];exact⟨[(1000,kcs x.1),(902,qaJ (tbN d x.2 i)),(1001,kpt x.2)],by simp[qaJ,kpt],tbN d x.2 i,by simp,by simp[tbR],rfl⟩
   ·simp[tbR,qaJ,q1];exact⟨[(1000,kcs x.1),(902,qaJ (tbN d x.2 i)),(1001,kpt x.2)],by simp[qaJ,kpt],tbN d x.2 i,by simp,by simp[tbR],rfl⟩
 ·have hie:i=x.2.length:=by omega
  subst hie;rw[qDU (by omega),hK]at ha;subst ha;simp[tbR];exact⟨[(1000,kcs x.1),(902,qaJ (tbN d x.2 x.2.length)),(1001,kpt x.2)],by simp[qaJ],tbN d x.2 x.2.length,fun _=>by simp[tbN],by simp[tbR],rfl⟩
theorem qvM {t:List UInt8} {x:RS2} (h:qhf t=(qa8 x,true)):t≠[]∧x.1.length≤6∧x.2.length≤8∧(∀ s∈x.1,s.map.length=8∧qbj s=true)∧∀ p∈x.2,qao p=true:=by
 unfold qhf at h;split at h
 ·exact absurd (congrArg Prod.snd h) (by simp)
 ·rename_i h1;have hd:(qaF 10 t []).head?=some qle:=by
   apply qFk;exact fun e=>h1 (.inr e)
  have hne:t≠[]:=by
   rintro rfl
   revert hd
   decide
  cases ho:qe4 qei (qaF 10 t []).tail ([],[])with
  | none =>
   rw[ho]at h;exact absurd (congrArg Prod.snd h) (by simp[qmh])
  | some y =>
   rw[ho]at h;simp only[qmh]at h;split at h
   ·rename_i ha;have hy:y=x:=by
     have h2:=congrArg (fun z:CO×Bool=>(z.1.sets,z.1.parts)) h;simp only[qa8,qDt]at h2;exact Prod.ext h2.1 h2.2
    subst hy;obtain⟨r1,r2,_⟩:=qjf (qgf ha) hne;have hn:=qjX qlw _ _ y (by simp) ho;simp only[qhN,Bool.and_eq_true,decide_eq_true_eq]at ha;have hb:=(okB_iff.1 ha.1.2).1;simp only[qEH]at hb;exact⟨hne,hb,ha.2,fun s hs=>⟨by rw[(hn s hs).1];rfl,r1 s hs⟩,r2⟩
   ·exact absurd (congrArg Prod.snd h) (by simp)
def rrC (d:DK) (c:CO):CO:=⟨(rbB d).1,c.sets.map (xpS d),c.parts.flatMap (tbS d),c.parts,false,[],0⟩
def rrF (d:DK):Bool:=decide ((qag d (rbB d).2).2=0) && (qhf (qag d (rbB d).2).1).2
def rrG (d:DK) (c:CO):Bool:=xpA d c.sets && tbA d c.parts && qal (rrC d c)
def rrS (d:DK) (c:CO):CO:={ rrC d c with safe:=qcb (rrC d c) (rbB d).2.pa }
def rrB (d:DK):CO×Int :=
 if qbr d=true∧0<(rbB d).1 then if rrF d=true then if rrG d (qhf (qag d (rbB d).2).1).1=true then (rrS d (qhf (qag d (rbB d).2).1).1,0) else (zK,8) else (zK,8) else (zK,1)
def rrQ (a b e f:Nat) (R:CO×Int) (r:AV) (L':List (Nat×Ob)):Prop :=
 (R.1=zK∧R.2≠0∧r=.tup [.agg [.int .i64 0,.nils,.nils,.nils,.bool false,.nils,.int .i64 0],.int .i64 R.2]∧L'=[]) ∨
 (R.2=0∧r=.tup [qcM R.1 a b e f,.int .i64 0]∧L'=[(a,kcs R.1.sets),(b,qaJ R.1.ddt),(e,kpt R.1.parts),(f,kin R.1.safe)])
theorem qvQ {t:List UInt8} {x:RS2} (h:qhf t=(qa8 x,true)) (d:DK):CoT (rrC d (qa8 x)):=by
 obtain⟨_,h1,h2,h3,h4⟩:=qvM h;refine⟨by simp[rrC,qa8];omega,?_,by simp[rrC,qa8];omega,by simp[rrC],?_,?_⟩
 ·have:=qjL d x.2 x.2.length;simp only[tbN,qFx]at this;simp only[rrC,qa8];omega
 ·intro s hs;obtain⟨s0,hs0,rfl⟩:=qD6.1 hs;exact qka _
 ·intro s hs;obtain⟨s0,hs0,rfl⟩:=qD6.1 hs;have:=qiG (h3 s0 hs0).2;simp only[xpS];omega
theorem qoC (d:DK) (h:DkT d):ACall prog 31 [.agg d.row] [] (rrQ 900 902 901 903 (rrB d)):=by
 obtain⟨R,hR⟩:∃ R,rrB d=R:=⟨_,rfl⟩;rw[hR];unfold rrB at hR;have c1:=qtU d h;have c2:=qe3 d h;have c3:=qeF d h (rbB d).2;have hbl:=qcW d (rbB d).2;have c4:=qoB (qag d (rbB d).2).1 (by omega);have hF:rrF d=(decide ((qag d (rbB d).2).2=0) && (qhf (qag d (rbB d).2).1).2):=rfl;have hT:=fun x (hx:qhf (qag d (rbB d).2).1=(qa8 x,true))=>qvQ hx d;have hok:=fun x (hx:qhf (qag d (rbB d).2).1=(qa8 x,true))=>qvM hx;simp only[DK.row,PT.row]at c1 c2 c3;refine acx func31 [] ntmps31 rfl rfl rfl ?_;simp[DK.row];refine c1.call ?_;simp[PT.row];refine c2.call ?_;by_cases g0:qbr d=true∧0<(rbB d).1
 ·rw[if_pos g0]at hR;obtain⟨g1,g2⟩:=g0;simp[g1,g2];refine c3.call ?_;simp;generalize (qag d (rbB d).2).1=bt at *
  generalize (qag d (rbB d).2).2=bc at *
  refine qac [] (by kernel_rfl) c4 (by simp) (by simp) trivial (by simp) (by simp) ?_;rintro r L' (⟨hr,rfl,rfl⟩ | ⟨x,hr,rfl,rfl⟩)
  ·rw[hr]at hF;rw[if_neg (by rw[hF];simp)]at hR;subst hR;refine⟨[],⟨by simp,by simp,by simp,by simp,by simp⟩,?_⟩;simp only[qad];by_cases q:bc=0
   ·simp[q];exact⟨[],by simp,.inl ⟨rfl,by simp,rfl,rfl⟩⟩
   ·simp[q];exact⟨[],by simp,.inl ⟨rfl,by simp,rfl,rfl⟩⟩
  ·have hTx:=hT x hr;obtain⟨_,o1,o2,o3,o4⟩:=hok x hr;rw[hr]at hF hR;simp only[qDN]at hF;refine⟨[(900,900),(901,901)],⟨by simp,by simp,by simp,by simp,by simp⟩,?_⟩;simp only[qad];by_cases q:bc=0
   ·rw[if_pos (by rw[hF];simp[q])]at hR;have hG:rrG d (qa8 x)=(xpA d x.1 && tbA d x.2 && qal (rrC d (qa8 x))):=rfl;have c5:=qym d h x (by omega) fun s hs=>(o3 s hs).1;simp only[DK.row,lnR]at c5;simp[q,lnR];refine qac [(1000,.whole 900),(1001,.whole 901)] (by kernel_rfl) c5 (by simp) (by simp) ⟨⟨kcs x.1,by simp,rfl,qaa rfl (qa2 _)⟩,⟨kpt x.2,by simp,rfl,qaa rfl (qbo _)⟩,trivial⟩ (by simp) (by simp) ?_;rintro r' L' ⟨l,hl,hk,rfl,rfl⟩;refine⟨[],⟨by simp[lnR],by simp,by simp,by simp[lnR],by simp[lnR]⟩,?_⟩;simp only[qad];have c6:=qvx d h (l,x.2) (by simp only;omega);simp only[DK.row,lnR]at c6;simp[lnR];refine qac [(1000,.whole 900),(1001,.whole 901)] (by kernel_rfl) c6 (by simp) (by simp) ⟨⟨kcs l,by simp,rfl,qaa rfl (qa2 _)⟩,⟨kpt x.2,by simp,rfl,qaa rfl (qbo _)⟩,trivial⟩ (by simp) (by simp) ?_;rintro r' L' ⟨t,ht,rfl,rfl⟩;refine⟨[(902,902)],⟨by simp[tbR],by simp,by simp,by simp[tbR],by simp[tbR]⟩,?_⟩;simp only[qad];simp only at ht;have hfail:rrG d (qa8 x)=false→R=(zK,8):=fun e=>by
     rw[if_neg (by simp only;rw[e];simp)]at hR;exact hR.symm
    cases k1:xpA d x.1 with
    | false =>
     rw[hfail (by rw[hG,k1];rfl)];simp[tbR,lnR,hl];exact⟨[],by simp,.inl ⟨rfl,by simp,rfl,rfl⟩⟩
    | true =>
     cases k2:tbA d x.2 with
     | false =>
      rw[hfail (by rw[hG,k1,k2];rfl)];simp[tbR,lnR,hl];exact⟨[],by simp,.inl ⟨rfl,by simp,rfl,rfl⟩⟩
     | true =>
      have hl2:=hk k1;have ht2:=ht k2;have hC:rrC d (qa8 x)=⟨(rbB d).1,l,t,x.2,false,[],0⟩:=by rw[hl2,ht2];rfl
      have hS:rrS d (qa8 x)={ rrC d (qa8 x)with safe:=qcb (rrC d (qa8 x)) (rbB d).2.pa }:=rfl;rw[k1,k2,hC]at hG;rw[hC]at hTx hS;have c7:=qqb _ hTx;have hgl:qal ⟨(rbB d).1,l,t,x.2,false,[],0⟩=true→l.length=x.1.length:=fun _=>hl;cases k3:qal ⟨(rbB d).1,l,t,x.2,false,[],0⟩with
      | false =>
       rw[k3]at c7;simp only[CO.row,qFi]at c7;rw[hfail (by rw[hG,k3];rfl)];simp[tbR,lnR];refine c7.view (by simp[qb5,mtA,kcs,qaJ,kpt,qak,qbv]) ?_;simp;exact⟨[],by simp,.inl ⟨rfl,by simp,rfl,rfl⟩⟩
      | true =>
       rw[k3]at c7 hG;have c8:=qp1 _ hTx (qbs k3).1 (rbB d).2.pa;simp only[CO.row,qFi]at c7 c8;rw[if_pos (by simp only;rw[hG];rfl)]at hR;simp only at hR;rw[hS]at hR;generalize qcb _ _=sf at *
       subst hR;simp[tbR,lnR];refine c7.view (by simp[qb5,mtA,kcs,qaJ,kpt,qak,qbv]) ?_;simp;refine qaK [] (by kernel_rfl) c8 (by simp[qb5,mtA,kcs,qaJ,kpt,qak,qbv]) (by simp) trivial (by simp) (by simp) ?_;rintro r' L' ⟨rfl,rfl⟩;refine⟨by simp[noL],by simp[noL,kin,qae],[(900,903)],⟨by simp,by simp,by simp,by simp,by simp⟩,?_⟩;simp only[qad];simp;exact⟨[(900,kcs l),(902,qaJ t),(901,kpt x.2),(903,kin sf)],by simp[qah],.inr ⟨rfl,by simp[qcM],rfl⟩⟩
   ·rw[if_neg (by rw[hF];simp[q])]at hR;subst hR;simp[q,lnR];exact⟨[],by simp,.inl ⟨rfl,by simp,rfl,rfl⟩⟩
 ·rw[if_neg g0]at hR;subst hR;cases g1:qbr d with
  | false =>
   simp[g1];exact⟨[],by simp,.inl ⟨rfl,by simp,rfl,rfl⟩⟩
  | true =>
   have g2:¬ 0<(rbB d).1:=fun e=>g0 ⟨g1,e⟩;simp[g1,g2];exact⟨[],by simp,.inl ⟨rfl,by simp,rfl,rfl⟩⟩
theorem qjg (c:CO) (root:Int):(qcb c root).length≤1+c.ddt.length+c.sets.length+c.parts.length:=by
 unfold qcb;have h0:=qfc [] root;have h1:=qge (c.ddt.map DE.ea) (qfI [] root);have h2:=qge (c.sets.map fun s=>s.home.pa) (qcK (qfI [] root) (c.ddt.map DE.ea));have h3:=qge (c.parts.map PT.pa) (qcK (qcK (qfI [] root) (c.ddt.map DE.ea)) (c.sets.map fun s=>s.home.pa));simp only[qEH,qET]at h0 h1 h2 h3;omega
theorem qjq (d:DK) (h:DkT d):ACall prog 36 [.agg d.row] [] (rrQ 904 905 906 907 (rrB d)):=by
 obtain⟨R,hR⟩:∃ R,rrB d=R:=⟨_,rfl⟩;rw[hR];unfold rrB at hR;have c1:=qt9 d h;have c2:=qhB d h;have c3:=qeO d h (rbB d).2;have hbl:=qcW d (rbB d).2;have c4:=qoR (qag d (rbB d).2).1 (by omega);have hF:rrF d=(decide ((qag d (rbB d).2).2=0) && (qhf (qag d (rbB d).2).1).2):=rfl;have hT:=fun x (hx:qhf (qag d (rbB d).2).1=(qa8 x,true))=>qvQ hx d;have hok:=fun x (hx:qhf (qag d (rbB d).2).1=(qa8 x,true))=>qvM hx;simp only[DK.row,PT.row]at c1 c2 c3;refine acx func36 [(11,[zJ 0 [1] [],zJ 1 [] [1],zJ 2 [9] [1],zJ 3 [] [1,9],zJ 4 [900] [1],zJ 5 [] [1],zJ 6 [900] [1],zI 7,zI 8,zI 9,zI 10,zI 11,zI 12])] ntmps36 rfl rfl rfl ?_;simp[DK.row];refine c1.call ?_;simp[PT.row];refine c2.call ?_;by_cases g0:qbr d=true∧0<(rbB d).1
 ·rw[if_pos g0]at hR;obtain⟨g1,g2⟩:=g0;simp[g1,g2];refine c3.call ?_;simp;generalize (qag d (rbB d).2).1=bt at *
  generalize (qag d (rbB d).2).2=bc at *
  refine qac [] (by kernel_rfl) c4 (by simp) (by simp) trivial (by simp) (by simp) ?_;rintro r L' (⟨hr,rfl,rfl⟩ | ⟨x,hr,rfl,rfl⟩)
  ·rw[hr]at hF;rw[if_neg (by rw[hF];simp)]at hR;subst hR;refine⟨[],⟨by simp,by simp,by simp,by simp,by simp⟩,?_⟩;simp only[qad];by_cases q:bc=0
   ·simp[q];exact⟨[],by simp,.inl ⟨rfl,by simp,rfl,rfl⟩⟩
   ·simp[q];exact⟨[],by simp,.inl ⟨rfl,by simp,rfl,rfl⟩⟩
  ·have hTx:=hT x hr;obtain⟨_,o1,o2,o3,o4⟩:=hok x hr;rw[hr]at hF hR;simp only[qDN]at hF;refine⟨[(900,900),(901,901)],⟨by simp,by simp,by simp,by simp,by simp⟩,?_⟩;simp only[qad];by_cases q:bc=0
   ·rw[if_pos (by rw[hF];simp[q])]at hR;have hG:rrG d (qa8 x)=(xpA d x.1 && tbA d x.2 && qal (rrC d (qa8 x))):=rfl;have hfail:rrG d (qa8 x)=false→R=(zK,8):=fun e=>by
     rw[if_neg (by simp only;rw[e];simp)]at hR;exact hR.symm
    simp[q,lnR];refine qa9 (X:=Nat) [1,2,3,4,5,9,55,56] [(1,1),(2,2),(5,5),(9,9),(900,900),(901,901)] (fun i=>[(56,.int .i64 i)]) (fun i=>[(1,⟨3,[d.row]⟩),(2,⟨7,[[.int .i64 0,.nils,.nils,.nils,.bool false,.nils,.int .i64 0]]⟩),(5,⟨3,[(rbB d).2.row]⟩),(9,⟨7,[lnR x 900 901]⟩),(900,kcs (xpN d x.1 i)),(901,kpt x.2)]) (fun i=>x.1.length-i) (fun i=>i≤x.1.length∧xpA d (x.1.take i)=true) 0 ⟨by omega,by simp[xpA]⟩ ?_ (he:=by simp[qah,lnR,qxL,DK.row,PT.row]);rintro i ⟨hi,ha⟩;by_cases hil:i<x.1.length
    ·obtain⟨s,f1⟩:∃ s,x.1[i]?=some s:=⟨_,qDF hil⟩;have hm:=qFu f1;have hs8:=(o3 s hm).1;have hrl:=qaX s hs8;have hho:=qcU s hs8;have e2:=qaq ((i:Int)+1) (by omega) (by omega);have c1:=qeO d h s.home;have hbl:=qcW d s.home;have c2:=qq7 (qag d s.home).1 (by omega);obtain⟨g1,g2⟩:=qtz (d:=d) f1;have gl:=qpp d x.1 i;have hcond:xpP d s=(decide ((qag d s.home).2=0) && (qeK (qag d s.home).1).2):=rfl;have hup:=qpo d s hs8;have hml:=qka (qag d s.home).1;have hsu:=qqv hml;have hone:=qqw (qeK (qag d s.home).1).1;have hfl:((qeK (qag d s.home).1).1.flatMap PT.row).length=24:=by rw[qkk,hml]
     simp only[DK.row,PT.row]at c1 hho;obtain⟨Y,hY⟩:∃ Y,xpN d x.1 i=Y:=⟨_,rfl⟩;rw[hY]at g1 g2 gl;have hiY:i<Y.length:=by omega
     have y0:Y[i]=s:=(qEb.1 g1).2;rw[hY];generalize qag d s.home=bb at *
     obtain⟨bt,bc⟩:=bb;simp only at c1 c2 hcond hup hml hsu hone hfl;generalize qeK bt=mm at *
     obtain⟨mp,mk⟩:=mm;simp only at c2 hcond hup hml hsu hone hfl;simp[lnR,kcs,show(i:Int)<x.1.length by omega,hil,g1,hiY,y0,hrl,hho,gl,DK.row];refine c1.call ?_;simp;refine c2.call ?_;by_cases q:bc=0∧mk=true
     ·obtain⟨rfl,rfl⟩:=q;have hnx:=qne f1 ha (by rw[hcond];rfl);simp[kcs,hiY,y0,g1,hrl,hsu,hfl,qDU (qDV hfl),gl,hil];refine nx (i+1) [(1,1),(2,2),(5,5),(9,9),(900,900),(901,901)] ⟨by omega,hnx⟩ (by omega) (h4:=?_);simp[qah,e2,lnR,kcs,← g2,DK.row,PT.row,hsu,hfl,hup _ rfl,qhv]
     ·rw[hfail (by rw[hG,qtA hm (show xpP d s=false by rw[hcond];cases mk <;> simp_all)];rfl)];by_cases q1:bc=0
      ·have:mk=false:=by cases mk <;> simp_all
       subst this;simp[kcs,q1,hsu];exact⟨[],by simp,.inl ⟨rfl,by simp,rfl,rfl⟩⟩
      ·simp[kcs,q1,hsu];exact⟨[],by simp,.inl ⟨rfl,by simp,rfl,rfl⟩⟩
    ·have hie:i=x.1.length:=by omega
     subst hie;rw[qDU (by omega)]at ha;rw[qpq];simp[lnR];have hcs:(x.1.map (xpS d)).length=x.1.length:=by simp
     generalize hl2:x.1.map (xpS d)=l at *
     refine qeV ((qeC 902 3 (by simp)).trans (qdo 9 2 (sz:=7) (row:=lnR x 900 901) (by simp[lnR]) (by simp[lnR]) (qcE 902 0))) ?_;refine qa9 (X:=Nat) [1,2,3,4,5,9,90,91,92] [(1,1),(2,2),(5,5),(9,9),(900,900),(902,902),(901,901)] (fun i=>[(92,.int .i64 i)]) (fun i=>[(1,⟨3,[d.row]⟩),(2,⟨7,[[.int .i64 0,.nils,.nils,.nils,.bool false,.nils,.int .i64 0]]⟩),(5,⟨3,[(rbB d).2.row]⟩),(9,⟨7,[tbR x 900 902 901 (tbN d x.2 i).length]⟩),(900,kcs l),(902,qaJ (tbN d x.2 i)),(901,kpt x.2)]) (fun i=>x.2.length-i) (fun i=>i≤x.2.length∧tbA d (x.2.take i)=true) 0 ⟨by omega,by simp[tbA]⟩ ?_ (he:=by simp[qah,lnR,tbR,tbN,DK.row,PT.row,qaJ]);rintro i ⟨hi,hb⟩;have hnl:=qjL d x.2 i;by_cases hil:i<x.2.length
     ·obtain⟨s,f1⟩:∃ s,x.2[i]?=some s:=⟨_,qDF hil⟩;have f0:x.2[i]=s:=(qEb.1 f1).2;have hm:=qFu f1;have e2:=qaq ((i:Int)+1) (by omega) (by omega);have c1:=qeO d h s;have hbl:=qcW d s;have c2:=qrd (qag d s).1 (by omega);have hdl:=qkC (qag d s).1;have hcond:tbP d s=(decide ((qag d s).2=0) && (qiV (qag d s).1).2):=rfl;have hnx:=qnj (d:=d) f1;have hts:tbS d s=(qiV (qag d s).1).1:=rfl;rw[hts]at hnx;simp only[DK.row,PT.row]at c1;generalize qag d s=bb at *
      obtain⟨bt,bc⟩:=bb;simp only at c1 c2 hcond hbl hdl hnx;generalize qiV bt=mm at *
      obtain⟨mp,mk⟩:=mm;simp only at c2 hcond hdl hnx;simp[tbR,qaJ,kpt,show(i:Int)<x.2.length by omega,hil,f0,f1,PT.row,DK.row];refine c1.call ?_;simp;refine c2.call ?_;by_cases q:bc=0∧mk=true
      ·obtain⟨rfl,rfl⟩:=q;have hnA:=qnk f1 hb (by rw[hcond];rfl);simp[tbR,qaJ];refine⟨by omega,nx (i+1) [(1,1),(2,2),(5,5),(9,9),(900,900),(117,902),(901,901)] ⟨by omega,hnA⟩ (by omega) (h4:=?_)⟩;simp[qah,e2,tbR,qaJ,kpt,← hnx,DK.row,PT.row,qak]
      ·rw[hfail (by rw[hG,ha,qtH hm (show tbP d s=false by rw[hcond];cases mk <;> simp_all)];rfl)];by_cases q1:bc=0
       ·have:mk=false:=by cases mk <;> simp_all
        subst this;simp[tbR,qaJ,q1];exact⟨[],by simp,.inl ⟨rfl,by simp,rfl,rfl⟩⟩
       ·simp[tbR,qaJ,q1];exact⟨[],by simp,.inl ⟨rfl,by simp,rfl,rfl⟩⟩
     ·have hie:i=x.2.length:=by omega
      subst hie;rw[qDU (by omega)]at hb;have ht2:tbN d x.2 x.2.length=x.2.flatMap (tbS d):=by simp[tbN]
      rw[ht2];generalize ht3:x.2.flatMap (tbS d)=t at *
      have hC:rrC d (qa8 x)=⟨(rbB d).1,l,t,x.2,false,[],0⟩:=by rw[← hl2,← ht3];rfl
      have hS:rrS d (qa8 x)={ rrC d (qa8 x)with safe:=qcb (rrC d (qa8 x)) (rbB d).2.pa }:=rfl;rw[ha,hb,hC]at hG;rw[hC]at hTx hS;have c7:=qir _ hTx;cases k3:qal ⟨(rbB d).1,l,t,x.2,false,[],0⟩with
      | false =>
       rw[k3]at c7;simp only[CO.row,qFi]at c7;rw[hfail (by rw[hG,k3];rfl)];simp[tbR];refine c7.view (by simp[qb5,mtA,kcs,qaJ,kpt,qak,qbv,← hcs]) ?_;simp;exact⟨[],by simp,.inl ⟨rfl,by simp,rfl,rfl⟩⟩
      | true =>
       rw[k3]at c7 hG;have c8:=qq4 _ hTx k3 (rbB d).2.pa;rw[if_pos (by simp only;rw[hG];rfl)]at hR;simp only at hR;rw[hS]at hR;have hsl:(qcb ⟨(rbB d).1,l,t,x.2,false,[],0⟩ (rbB d).2.pa).length≤1000:=by
        refine qDp (qjg _ _) ?_;obtain⟨_,k4,k5,k6,_⟩:=qbs k3;simp only at k4 k5 k6 ⊢;omega
       generalize qcb ⟨(rbB d).1,l,t,x.2,false,[],0⟩ (rbB d).2.pa=sf at *
       have c9:=qlC ⟨(rbB d).1,l,t,x.2,false,sf,0⟩ ⟨hTx.1,hTx.2,hTx.3,by simp only;omega,hTx.5,hTx.6⟩;simp only[CO.row,qFi]at c7 c8 c9;subst hR;simp[tbR];refine c7.view (by simp[qb5,mtA,kcs,qaJ,kpt,qak,qbv,← hcs]) ?_;simp;refine qaK [] (by kernel_rfl) c8 (by simp[qb5,mtA,kcs,qaJ,kpt,qak,qbv,← hcs]) (by simp) trivial (by simp) (by simp) ?_;rintro r' L' ⟨rfl,rfl⟩;refine⟨by simp[noL],by simp[noL,kin,qae],[(900,903)],⟨by simp,by simp,by simp,by simp,by simp⟩,?_⟩;simp only[qad];simp;refine qaK [] (by kernel_rfl) c9 (by simp[qb5,mtA,kcs,qaJ,kpt,kin,qae,qak,qbv,← hcs]) (by simp) trivial (by simp) (by simp) ?_;rintro r' L' ⟨rfl,rfl⟩;refine⟨by simp[qcM,noL],by simp[kcs,qaJ,kpt,kin,qae,DE.row,PT.row,qg3],[(5,904),(8,905),(11,906),(14,907)],⟨by simp,by simp,by simp,by simp,by simp⟩,?_⟩;simp only[qad];simp[qcM];exact⟨[(904,kcs l),(905,qaJ t),(906,kpt x.2),(907,kin sf)],by simp[qah],.inr ⟨rfl,by simp[qcM],rfl⟩⟩
   ·rw[if_neg (by rw[hF];simp[q])]at hR;subst hR;simp[q,lnR];exact⟨[],by simp,.inl ⟨rfl,by simp,rfl,rfl⟩⟩
 ·rw[if_neg g0]at hR;subst hR;cases g1:qbr d with
  | false =>
   simp[g1];exact⟨[],by simp,.inl ⟨rfl,by simp,rfl,rfl⟩⟩
  | true =>
   have g2:¬ 0<(rbB d).1:=fun e=>g0 ⟨g1,e⟩;simp[g1,g2];exact⟨[],by simp,.inl ⟨rfl,by simp,rfl,rfl⟩⟩
theorem qtV {f a b e g:Nat} {d:DK} {R:CO×Int} (hn:[a,b,e,g].Nodup) (h:ACall prog f [.agg d.row] [] (rrQ a b e g R)) (he:qb0 prog f=true):CV prog f [.agg d.row] (.tup [.agg R.1.row,.int .i64 R.2]):=by
 refine CV.of_frz h ?_ (he:=he) (hca:=by simp[DK.row]) (hcv:=by simp[qda]);rintro r L' (⟨hR,_,rfl,rfl⟩ | ⟨hR,rfl,rfl⟩)
 ·refine⟨by simp,by simp,by simp,?_⟩;simp only[qbe,hR];exact qdx (.cons qqW (.cons (qaD _) .nil))
 ·simp only[qE2,qE3,qFc,or_false,not_or,qEl,not_false_eq_true,and_true]at hn;obtain⟨⟨n1,n2,n3⟩,⟨n4,n5⟩,n6⟩:=hn;refine⟨by simp,by simp[n1,n2,n3,n4,n5,n6],fun y hy=>?_,?_⟩
  ·simp only[qE3,qFc,or_false]at hy;rcases hy with rfl | rfl | rfl | rfl
   ·exact qa2 _
   ·simpa [clR]using qbL _
   ·exact qbo _
   ·exact qaQ _
  ·rw[hR];simp[qbe,qcM,CO.row,kcs,kpt,kin,qaJ,qak,n1,n2,n3,n4,n5,n6,qDn n1,qDn n2,qDn n3,qDn n4,qDn n5,qDn n6]
theorem qjb (d:DK) (h:DkT d):CV prog 31 [.agg d.row] (.tup [.agg (rrB d).1.row,.int .i64 (rrB d).2]):=qtV (by decide) (qoC d h) (by kernel_rfl)
theorem qjr (d:DK) (h:DkT d):CV prog 36 [.agg d.row] (.tup [.agg (rrB d).1.row,.int .i64 (rrB d).2]):=qtV (by decide) (qjq d h) (by kernel_rfl)
theorem qvL {t:List UInt8} (h:(qhf t).2=true):∃ x,qhf t=(qa8 x,true):=by
 unfold qhf at h ⊢;split
 ·rename_i h1;rw[if_pos h1]at h;cases h
 ·rename_i h1;rw[if_neg h1]at h;unfold qmh at h ⊢;split
  ·rename_i x hx;rw[hx]at h;simp only at h;split
   ·exact⟨x,rfl⟩
   ·rename_i ha;rw[if_neg ha]at h;cases h
  ·rename_i hx;rw[hx]at h;cases h
theorem qyu {d:DK} (h:(rrB d).2=0):∃ x,qbr d=true∧CoT (rrS d (qa8 x))∧(rrB d).1=rrS d (qa8 x)∧qal (rrC d (qa8 x))=true:=by
 unfold rrB at h ⊢;split at h
 ·rename_i h1;rw[if_pos h1];split at h
  ·rename_i h2;rw[if_pos h2];split at h
   ·rename_i h3;rw[if_pos h3];simp only[rrF,Bool.and_eq_true,decide_eq_true_eq]at h2;obtain⟨x,hx⟩:=qvL h2.2;rw[hx]at h3 ⊢;have hT:=qvQ hx d;simp only[rrG,Bool.and_eq_true]at h3;refine⟨x,h1.1,⟨hT.1,hT.2,hT.3,?_,hT.5,hT.6⟩,rfl,h3.2⟩;refine qDp (qjg _ _) ?_;obtain⟨_,k4,k5,k6,_⟩:=qbs h3.2;omega
   ·cases h
  ·cases h
 ·cases h
theorem qpD:∀ (l:List (Option BO)) (o:BO),o∈tkS l→some o∈l
 | [],o,h=>by simp[tkS]at h
 | none::r,o,h=>by simp[tkS]at h
 | some a::r,o,h=>by
  simp only[tkS,qE3]at h ⊢;rcases h with rfl | h
  ·exact .inl rfl
  ·exact .inr (qpD r o h)
theorem qpE:∀ (l:List (Option BO)),(tkS l).length≤l.length
 | []=>by simp[tkS]
 | none::r=>by simp[tkS]
 | some a::r=>by
  simp only[tkS,qDX];have:=qpE r;omega
theorem qqU (d:DK) (txg:Int):(lfB d txg).length≤8:=by
 unfold lfB;rw[qt5];refine qDp (qpE _) ?_;simp
end Go.Av.F
end
