/- Lemmas for the proof, no statement of the seat; no conditions. -/
import Derived.Test.YthiidgicibfbjaaGreatDoorLayAV
set_option linter.unusedSimpArgs false
set_option linter.unusedVariables false
set_option linter.unnecessarySimpa false
set_option maxRecDepth 100000
set_option maxHeartbeats 400000
section
namespace Go.Av.F
open Go Go.Av Go.Proofs Go.Proofs.Tryz
theorem qi4 (c:UInt8):∀ (w s:List UInt8) (i:Int),(∀ x∈w,x≠c)→qa8 c (w++c::s) i=i+w.length
 | [],s,i,_=>by simp[qa8]
 | x::w,s,i,h=>by
  have hx:=h x (by simp);rw[qHS,qa8,if_neg hx,qi4 c w s (i+1) fun y hy=>h y (by simp[hy])];simp;omega
theorem ql4 {s:List UInt8} (h:s.length≤400):qbj (qdW s)=(s,true):=by
 have hs:qdW s=qnF (qjB s (1+s.length % 997)) []++58::s:=by
  unfold qdW;rw[if_neg (by omega)]
 have hd:∀ x∈qnF (qjB s (1+s.length % 997)) [],x≠(58:UInt8):=fun x hx=>by
  rw[qic,qH6]at hx;have:=qo1 _ x hx;rintro rfl;simp at this
 have hf:qa8 58 (qdW s) 0=(qnF (qjB s (1+s.length % 997)) []).length:=by
  rw[hs,qi4 58 _ _ 0 hd];simp
 have hdr:(qdW s).drop ((qa8 58 (qdW s) 0).toNat+1)=s:=by
  rw[hf,hs];simp
 unfold qbj;rw[hdr,if_neg (by omega),if_pos rfl]
theorem qfJ (n:Int) (c:UInt8) (hc:c.toNat<48):∀ x∈dec n,x≠c:=fun x hx=>by
 unfold dec at hx;rw[qic,qH6]at hx;have:=qo1 _ x hx;rintro rfl;omega
theorem qiH {p:PT} (h:qaL p=true):∀ x∈qaT p,x≠(32:UInt8):=by
 by_cases h0:p.pa=0
 ·unfold qaT;rw[if_neg (by simp[h]),if_pos h0];intro x hx;simp only[qIx]at hx;subst hx;decide
 ·rw[qdA (by simp[qar,h,h0])];exact qoI _ _ _
theorem qjv {n:Int} {p:PT} {t:List UInt8} (h:qa9 n p=t) (ht:t≠[]) :
  (1≤n∧n≤1000000∧qar p=true)∧(qbj t).2=true∧qaJ 32 (qbj t).1 []=[dec n,qaT p,dec n]:=by
 unfold qa9 at h;split at h
 ·exact absurd h.symm ht
 ·rename_i hc;have h1:1≤n∧n≤1000000∧qar p=true:=by
   refine⟨by omega,by omega,?_⟩;cases hk:qar p with
   | true=>rfl
   | false=>exact absurd (.inr (.inr hk)) hc
  have hl1:=qaz n (by omega);have hl2:=qbt p;have hj:dec n++(32::(qaT p++(32::dec n)))=Lib.join [dec n,qaT p,dec n] [32]:=by
   rw[qaU,qaU,Lib.join_one]
  have ho:=ql4 (s:=dec n++(32::(qaT p++(32::dec n)))) (by simp;omega);rw[h]at ho;rw[ho];refine⟨h1,rfl,?_⟩;rw[hj,qdq 32 _ (by simp)];intro w hw;simp only[qHq,qHz,or_false]at hw;rcases hw with rfl | rfl | rfl
  ·exact qfJ n 32 (by decide)
  ·exact qiH (qd1 h1.2.2).1
  ·exact qfJ n 32 (by decide)
def qmT (t:List UInt8):(Int×PT)×Bool :=
 match qaJ 32 (qbj t).1 []with
 | [a,b,_]=>if (qbj t).2=true∧qa9 (qaB a).1 (qbU b).1=t then (((qaB a).1,(qbU b).1),true) else ((0,zPT),false)
 | _=>((0,zPT),false)
theorem quV {t:List UInt8} (h:(qaJ 32 (qbj t).1 []).length≠3):qmT t=((0,zPT),false):=by
 unfold qmT;split
 ·rename_i a b c hc;rw[hc]at h;simp at h
 ·rfl
theorem quW {t a b c:List UInt8} (h:qaJ 32 (qbj t).1 []=[a,b,c]):qmT t=if (qbj t).2=true∧qa9 (qaB a).1 (qbU b).1=t then (((qaB a).1,(qbU b).1),true) else ((0,zPT),false):=by
 unfold qmT;rw[h]
theorem qd4 {n:Int} (h1:0≤n) (h2:n≤1000000000):qaB (dec n)=(n,true)∧qbD (dec n)=true∧qaI (dec n)=n:=by
 rw[← qez n h1];have a:=qqT (n:=n) (by omega);obtain⟨b,c⟩:=qj6 (n:=n) (by omega) (by omega);refine⟨a,?_,c⟩;simp only[qdK,Bool.and_eq_true]at b;exact b.1
theorem qBO {t a b c:List UInt8} (h:qaJ 32 (qbj t).1 []=[a,b,c]):t≠[]:=by
 rintro rfl;simp[qbj,qa8,qaJ]at h
theorem qzq {t a b c:List UInt8} (h:qaJ 32 (qbj t).1 []=[a,b,c]) :
  qmT t=if qbD a=true∧(qbU b).2=true∧qa9 (qaI a) (qbU b).1=t then ((qaI a,(qbU b).1),true) else ((0,zPT),false):=by
 have hne:=qBO h;rw[quW h];by_cases q:(qbj t).2=true∧qa9 (qaB a).1 (qbU b).1=t
 ·rw[if_pos q];obtain⟨⟨w1,w2,w3⟩,w4,w5⟩:=qjv q.2 hne;rw[h]at w5;simp only[qHw,and_true]at w5;obtain⟨e1,e2,e3⟩:=w5;obtain⟨d1,d2,d3⟩:=qd4 (n:=(qaB a).1) (by omega) (by omega);have hb:qbU b=((qbU b).1,true):=by
   have:=qgR (qd1 w3).1;rw[← e2]at this;exact this
  rw[← e1]at d2 d3;rw[if_pos ⟨d2,by rw[hb],by rw[d3];exact q.2⟩,d3]
 ·rw[if_neg q];by_cases g:qbD a=true∧(qbU b).2=true∧qa9 (qaI a) (qbU b).1=t
  ·exfalso;obtain⟨⟨w1,w2,w3⟩,w4,w5⟩:=qjv g.2.2 hne;rw[h]at w5;simp only[qHw,and_true]at w5;obtain⟨e1,e2,e3⟩:=w5;obtain⟨d1,d2,d3⟩:=qd4 (n:=qaI a) (by omega) (by omega);rw[← e1]at d1;exact q ⟨w4,by rw[d1];exact g.2.2⟩
  ·rw[if_neg g]
theorem qpw (t:List UInt8) (hl:t.length≤1048576):CV prog 73 [.str t] (.tup [.int .i64 (qmT t).1.1,.agg (qmT t).1.2.row,.bool (qmT t).2]):=by
 have c1:=qu8 t hl;have hol:=qgf t;have c2:=qkp (qbj t).1 32 (by omega);have hw:=qbu 32 (qbj t).1 [];simp only[qHf,qHc]at hw;refine cvx func73 [(9,[zI 0,zJ 1 [10] [],zJ 2 [] [10],zI 3,zI 4])] ntmps73 rfl rfl rfl ?_ (hcv:=by simp[PT.row]);simp;refine c1.call ?_;simp;refine c2.call ?_;by_cases h3:(qaJ 32 (qbj t).1 []).length=3
 ·obtain⟨a,b,c,hc⟩:=qek h3;rw[hc]at hw;have la:=hw a (by simp);have lb:=hw b (by simp);have e:=quW hc;have n1:=qiu a (by omega);have n2:=qf8 b (by omega);have n3:=qva (qaB a).1 (qbU b).1;simp only[PT.row]at n2 n3;cases ho:(qbj t).2 with
  | false =>
   rw[if_neg (by simp[ho])]at e;rw[e];simp[zPT,PT.row]
  | true =>
   simp[hc,qcx];refine n1.call ?_;simp;refine n2.call ?_;simp[PT.row];refine n3.call ?_;by_cases q:qa9 (qaB a).1 (qbU b).1=t
   ·rw[if_pos ⟨ho,q⟩]at e;rw[e];simp[q,PT.row]
   ·rw[if_neg fun x=>q x.2]at e;rw[e];simp[q,zPT,PT.row]
 ·rw[quV h3];simp[qcx,h3,show ¬ ((qaJ 32 (qbj t).1 []).length:Int)=3 by omega,zPT,PT.row]
theorem qpM (t:List UInt8) (hl:t.length≤1048576):CV prog 172 [.str t] (.tup [.int .i64 (qmT t).1.1,.agg (qmT t).1.2.row,.bool (qmT t).2]):=by
 have c1:=qvq t hl;have hol:=qgf t;have c2:=qit (qbj t).1 32 (by omega);have hw:=qbu 32 (qbj t).1 [];simp only[qHf,qHc]at hw;refine cvx func172 [(9,[zI 0,zJ 1 [10] [],zJ 2 [] [10],zI 3,zI 4])] ntmps172 rfl rfl rfl ?_ (hcv:=by simp[PT.row]);simp;refine c1.call ?_;simp;refine c2.call ?_;by_cases h3:(qaJ 32 (qbj t).1 []).length=3
 ·obtain⟨a,b,c,hc⟩:=qek h3;rw[hc]at hw;have la:=hw a (by simp);have lb:=hw b (by simp);have e:=qzq hc;have n1:=qmP a (by omega);have n2:=qe1 b (by omega);have n3:=qvr (qaI a) (qbU b).1;simp only[PT.row]at n2 n3;simp[hc,qcx];refine n1.call ?_;simp;refine n2.call ?_;cases hk:qbD a with
  | false =>
   rw[if_neg (by simp[hk])]at e;rw[e];simp[qia,zPT,PT.row]
  | true =>
   cases hp:(qbU b).2 with
   | false =>
    rw[if_neg (by simp[hp])]at e;rw[e];simp[qia,zPT,PT.row]
   | true =>
    simp[qia,PT.row];refine n3.call ?_;by_cases q:qa9 (qaI a) (qbU b).1=t
    ·rw[if_pos ⟨hk,hp,q⟩]at e;rw[e];simp[q,PT.row]
    ·rw[if_neg fun x=>q x.2.2]at e;rw[e];simp[q,zPT,PT.row]
 ·rw[quV h3];simp[qcx,h3,show ¬ ((qaJ 32 (qbj t).1 []).length:Int)=3 by omega,zPT,PT.row]
theorem qo2:∀ d:Fin 16,qa8 (qqi d.val) hexL 0=(d.val:Int):=by decide
theorem qm2:∀ (s out:List UInt8),qfu (qeI s) out=(out++s,true)
 | [],out=>by simp[qeI,qfu]
 | c::r,out=>by
  have hc:c.toNat<256:=c.toNat_lt;have h1:=qo2 ⟨c.toNat / 16,by omega⟩;have h2:=qo2 ⟨c.toNat % 16,by omega⟩;simp only at h1 h2;rw[qeI,qfu,h1,h2,if_neg (by omega),qm2 r];have:UInt8.ofNat ((c.toNat / 16:Nat) * 16+(c.toNat % 16:Nat):Int).toNat=c:=by
   have e:((c.toNat / 16:Nat) * 16+(c.toNat % 16:Nat):Int).toNat=c.toNat:=by omega
   rw[e];simp
  rw[this];simp
theorem qvH:∀ d:Fin 16,qqi d.val≠(32:UInt8):=by decide
theorem qsk:∀ (s:List UInt8),∀ x∈qeI s,x≠(32:UInt8)
 | [],x,hx=>by simp[qeI]at hx
 | c::r,x,hx=>by
  have hc:c.toNat<256:=c.toNat_lt;rw[qeI]at hx;rcases qHq.1 hx with rfl | hx
  ·exact qvH ⟨c.toNat / 16,by omega⟩
  rcases qHq.1 hx with rfl | hx
  ·exact qvH ⟨c.toNat % 16,by omega⟩
  ·exact qsk r x hx
theorem qxY {s:List UInt8} (h:qeI s=[]):s=[]:=by
 cases s with
 | nil=>rfl
 | cons c r=>simp[qeI]at h
theorem qxW (s:List UInt8):∀ x∈qh3 s,x≠(32:UInt8):=by
 unfold qh3;split
 ·intro x hx;simp only[qIx]at hx;subst hx;decide
 ·exact qsk s
def unT (w:List UInt8):List UInt8:=if w=[45] then [] else (qfu w []).1
theorem qxX (s:List UInt8):qeI s≠[45]:=fun h=>by
 have:=qgl s;rw[h]at this;simp at this;omega
theorem qwf (s:List UInt8):unT (qh3 s)=s∧(qh3 s=[45]∨(qfu (qh3 s) []).2=true):=by
 unfold qh3;split
 ·rename_i h;have:=qxY h;subst this;exact⟨rfl,.inl rfl⟩
 ·rw[qm2 s []];unfold unT;rw[if_neg (qxX s),qm2 s []];exact⟨rfl,.inr rfl⟩
theorem qng {s:List UInt8} (h:qbR s=true):∀ x∈s,x≠(32:UInt8):=fun x hx=>by
 simp only[qbR,Bool.and_eq_true,qGf]at h;have:=h.1.1 x hx;rintro rfl;simp[qmX]at this
theorem qrQ {r:LR} {t:List UInt8} (h:qbS r=t) (ht:t≠[]) :
  qdj r=true∧(qbj t).2=true∧qaJ 32 (qbj t).1 []=[dec r.txg++46::dec r.seq,r.op.a,dec r.op.i,qh3 r.op.text,dec r.txg++46::dec r.seq]:=by
 unfold qbS at h;split at h
 ·exact absurd h.symm ht
 ·rename_i hc;have hk:qdj r=true:=by simpa using hc
  have hsp:(1≤r.txg∧r.txg≤1000000)∧(0≤r.seq∧r.seq<8)∧r.op.kind=3∧qbR r.op.a=true∧r.op.b=[]∧(0≤r.op.i∧r.op.i<8)∧r.op.text.length≤24:=by
   have:=hk;simp only[qdj,Bool.and_eq_true,decide_eq_true_eq]at this;grind
  obtain⟨s1,s2,s3,s4,s5,s6,s7⟩:=hsp;have l1:=qaz r.txg (by omega);have l2:=qaz r.seq (by omega);have l3:=qaz r.op.i (by omega);have l4:r.op.a.length≤6:=by
   simp only[qbR,Bool.and_eq_true,decide_eq_true_eq]at s4;exact s4.2
  have l5:(qh3 r.op.text).length≤48:=by
   have:=qgl r.op.text;unfold qh3;split
   ·simp
   ·omega
  have hj:dec r.txg++(46::(dec r.seq++(32::(r.op.a++(32::(dec r.op.i++(32::(qh3 r.op.text++(32::(dec r.txg++(46::dec r.seq))))))))))) =
    Lib.join [dec r.txg++46::dec r.seq,r.op.a,dec r.op.i,qh3 r.op.text,dec r.txg++46::dec r.seq] [32]:=by
   rw[qaU,qaU,qaU,qaU,Lib.join_one];simp
  have ho:=ql4 (s:=dec r.txg++(46::(dec r.seq++(32::(r.op.a++(32::(dec r.op.i++(32::(qh3 r.op.text++(32::(dec r.txg++(46::dec r.seq)))))))))))) (by simp;omega);rw[h]at ho;rw[ho];refine⟨hk,rfl,?_⟩;have hm:∀ x∈dec r.txg++46::dec r.seq,x≠(32:UInt8):=fun x hx=>by
   simp only[qHs,qHq]at hx;rcases hx with hx | rfl | hx
   ·exact qfJ _ 32 (by decide) x hx
   ·decide
   ·exact qfJ _ 32 (by decide) x hx
  rw[hj,qdq 32 _ (by simp)];intro w hw;simp only[qHq,qHz,or_false]at hw;rcases hw with rfl | rfl | rfl | rfl | rfl
  ·exact hm
  ·exact qng s4
  ·exact qfJ _ 32 (by decide)
  ·exact qxW _
  ·exact hm
def zBO:BO:=⟨0,[],[],0,[]⟩
def zLR:LR:=⟨0,0,zBO⟩
def qjk (t:List UInt8):LR×Bool :=
 match qaJ 32 (qbj t).1 []with
 | [m,a,i,x,_]=>match qaJ 46 m []with
  | [p,q]=>if (qbj t).2=true∧qbS ⟨(qaB p).1,(qaB q).1,⟨3,a,[],(qaB i).1,unT x⟩⟩=t then (⟨(qaB p).1,(qaB q).1,⟨3,a,[],(qaB i).1,unT x⟩⟩,true) else (zLR,false)
  | _=>(zLR,false)
 | _=>(zLR,false)
theorem qvn {t:List UInt8} (h:(qaJ 32 (qbj t).1 []).length≠5):qjk t=(zLR,false):=by
 unfold qjk;split
 ·rename_i hc;rw[hc]at h;simp at h
 ·rfl
theorem qrT {t m a i x y:List UInt8} (h:qaJ 32 (qbj t).1 []=[m,a,i,x,y]) (hm:(qaJ 46 m []).length≠2):qjk t=(zLR,false):=by
 unfold qjk;rw[h];simp only;split
 ·rename_i hc;rw[hc]at hm;simp at hm
 ·rfl
theorem qoH {t m a i x y p q:List UInt8} (h:qaJ 32 (qbj t).1 []=[m,a,i,x,y]) (hm:qaJ 46 m []=[p,q]) :
  qjk t=if (qbj t).2=true∧qbS ⟨(qaB p).1,(qaB q).1,⟨3,a,[],(qaB i).1,unT x⟩⟩=t then (⟨(qaB p).1,(qaB q).1,⟨3,a,[],(qaB i).1,unT x⟩⟩,true) else (zLR,false):=by
 unfold qjk;rw[h];simp only[hm]
theorem qyl {t m a i x y:List UInt8} (h:qaJ 32 (qbj t).1 []=[m,a,i,x,y]):t≠[]:=by
 rintro rfl;simp[qbj,qa8,qaJ]at h
theorem qyk {n k:Int}:qaJ 46 (dec n++46::dec k) []=[dec n,dec k]:=by
 rw[qle 46 _ _ [] (qfJ n 46 (by decide)),qld 46 _ [] (qfJ k 46 (by decide))];rfl
theorem qut {n k:Int}:qfa 46 (dec n++46::dec k)=(dec n,dec k,true):=by
 have:=qi4 46 (dec n) (dec k) 0 (qfJ n 46 (by decide));unfold qfa;rw[this,if_neg (by omega)];simp
theorem qAX {t m a i x y:List UInt8} (h:qaJ 32 (qbj t).1 []=[m,a,i,x,y]) :
  qjk t=if qbD (qfa 46 m).1=true∧qbD (qfa 46 m).2.1=true∧qbD i=true∧(x=[45]∨(qfu x []).2=true)∧qbS ⟨qaI (qfa 46 m).1,qaI (qfa 46 m).2.1,⟨3,a,[],qaI i,unT x⟩⟩=t
   then (⟨qaI (qfa 46 m).1,qaI (qfa 46 m).2.1,⟨3,a,[],qaI i,unT x⟩⟩,true) else (zLR,false):=by
 have hne:=qyl h;have key:∀ r:LR,qbS r=t→m=dec r.txg++46::dec r.seq∧a=r.op.a∧i=dec r.op.i∧x=qh3 r.op.text∧(qbj t).2=true∧qdj r=true:=fun r hr=>by
  obtain⟨w1,w2,w3⟩:=qrQ hr hne;rw[h]at w3;simp only[qHw,and_true]at w3;exact⟨w3.1,w3.2.1,w3.2.2.1,w3.2.2.2.1,w2,w1⟩
 have bnd:∀ r:LR,qdj r=true→(1≤r.txg∧r.txg≤1000000)∧(0≤r.seq∧r.seq<8)∧(0≤r.op.i∧r.op.i<8):=fun r hk=>by
  simp only[qdj,Bool.and_eq_true,decide_eq_true_eq]at hk;grind
 by_cases g:qbD (qfa 46 m).1=true∧qbD (qfa 46 m).2.1=true∧qbD i=true∧(x=[45]∨(qfu x []).2=true)∧qbS ⟨qaI (qfa 46 m).1,qaI (qfa 46 m).2.1,⟨3,a,[],qaI i,unT x⟩⟩=t
 ·rw[if_pos g];obtain⟨k1,k2,k3,k4,k5,k6⟩:=key _ g.2.2.2.2;obtain⟨b1,b2,b3⟩:=bnd _ k6;simp only at k1 k3 b1 b2 b3;have hc:=@qyk (qaI (qfa 46 m).1) (qaI (qfa 46 m).2.1);rw[← k1]at hc;rw[qoH h hc];obtain⟨d1,_⟩:=qd4 (n:=qaI (qfa 46 m).1) (by omega) (by omega);obtain⟨d2,_⟩:=qd4 (n:=qaI (qfa 46 m).2.1) (by omega) (by omega);obtain⟨d3,_⟩:=qd4 (n:=qaI i) (by omega) (by omega);rw[← k3]at d3;rw[d1,d2,d3,if_pos ⟨k5,g.2.2.2.2⟩]
 ·rw[if_neg g];by_cases h2:(qaJ 46 m []).length=2
  ·obtain⟨p,q,hc⟩:∃ p q,qaJ 46 m []=[p,q]:=by
    match hm:qaJ 46 m [],h2 with
    | [p,q],_=>exact⟨p,q,rfl⟩
   rw[qoH h hc];split
   ·rename_i hs;exfalso;obtain⟨k1,k2,k3,k4,k5,k6⟩:=key _ hs.2;obtain⟨b1,b2,b3⟩:=bnd _ k6;simp only at k1 k3 k4 b1 b2 b3;have h1:=@qut (qaB p).1 (qaB q).1;rw[← k1]at h1;obtain⟨_,d1,e1⟩:=qd4 (n:=(qaB p).1) (by omega) (by omega);obtain⟨_,d2,e2⟩:=qd4 (n:=(qaB q).1) (by omega) (by omega);obtain⟨_,d3,e3⟩:=qd4 (n:=(qaB i).1) (by omega) (by omega);rw[← k3]at d3 e3;refine g ⟨by rw[h1];exact d1,by rw[h1];exact d2,d3,?_,?_⟩
    ·have:=(qwf (unT x)).2;rw[← k4]at this;exact this
    ·rw[h1];simp only;rw[e1,e2,e3];exact hs.2
   ·rfl
  ·exact qrT h h2
theorem qsm {α:Type} {l:List α} (h:l.length=5):∃ a b c d e,l=[a,b,c,d,e]:=by
 match l,h with
 | [a,b,c,d,e],_=>exact⟨a,b,c,d,e,rfl⟩
theorem qnZ {α:Type} {l:List α} (h:l.length=2):∃ a b,l=[a,b]:=by
 match l,h with
 | [a,b],_=>exact⟨a,b,rfl⟩
theorem qnY:∀ (s out:List UInt8),(qfu s out).1.length≤out.length+s.length
 | [],out=>by simp[qfu]
 | [_],out=>by simp[qfu]
 | a::b::r,out=>by
  rw[qfu];split
  ·simp
  ·have:=qnY r (out++[UInt8.ofNat (qa8 a hexL 0 * 16+qa8 b hexL 0).toNat]);simp at this ⊢;omega
theorem qqt (x:List UInt8):(unT x).length≤x.length:=by
 unfold unT;split
 ·simp
 ·have:=qnY x [];simpa using this
theorem qlI (t:List UInt8) (hl:t.length≤1000000):CV prog 271 [.str t] (.tup [.agg (qjk t).1.row,.bool (qjk t).2]):=by
 have c1:=qu8 t (by omega);have hol:=qgf t;have c2:=qkp (qbj t).1 32 (by omega);have hw:=qbu 32 (qbj t).1 [];simp only[qHf,qHc]at hw;refine cvx func271 [] ntmps271 rfl rfl rfl ?_ (hcv:=by simp[LR.row,BO.row]);simp;refine c1.call ?_;simp;refine c2.call ?_;by_cases h5:(qaJ 32 (qbj t).1 []).length=5
 ·obtain⟨m,a,i,x,y,hc⟩:=qsm h5;rw[hc]at hw;have lm:=hw m (by simp);have la:=hw a (by simp);have li:=hw i (by simp);have lx:=hw x (by simp);have lt:=qqt x;have c3:=qkp m 46 (by omega);have hw2:=qbu 46 m [];simp only[qHf,qHc]at hw2;cases ho:(qbj t).2 with
  | false =>
   have e:qjk t=(zLR,false):=by
    by_cases h2:(qaJ 46 m []).length=2
    ·obtain⟨p,q,hm⟩:=qnZ h2;rw[qoH hc hm,if_neg (by simp[ho])]
    ·exact qrT hc h2
   rw[e];simp[zLR,zBO,LR.row,BO.row]
  | true =>
   simp[hc,qcx];refine c3.call ?_;by_cases h2:(qaJ 46 m []).length=2
   ·obtain⟨p,q,hm⟩:=qnZ h2;rw[hm]at hw2;have lp:=hw2 p (by simp);have lq:=hw2 q (by simp);have e:=qoH hc hm;have n1:=qiu p (by omega);have n2:=qiu q (by omega);have n3:=qiu i (by omega);have n4:=qDr x (by omega);have n5:=qq5 ⟨(qaB p).1,(qaB q).1,⟨3,a,[],(qaB i).1,unT x⟩⟩ (by simp only;omega) (by simp only;omega);simp only[LR.row,BO.row]at n5;simp[hm,qcx];refine n1.call ?_;simp;refine n2.call ?_;simp;refine n3.call ?_;by_cases hx:x=[45]
    ·have hu:unT x=[]:=by unfold unT;rw[if_pos hx]
     rw[hu]at n5 e;simp[hx,LR.row,BO.row];refine n5.call ?_;by_cases q2:qbS ⟨(qaB p).1,(qaB q).1,⟨3,a,[],(qaB i).1,[]⟩⟩=t
     ·rw[if_pos ⟨ho,q2⟩]at e;rw[e];simp[q2,LR.row,BO.row]
     ·rw[if_neg fun z=>q2 z.2]at e;rw[e];simp[q2,zLR,zBO,LR.row,BO.row]
    ·have hu:unT x=(qfu x []).1:=by unfold unT;rw[if_neg hx]
     rw[hu]at n5 e;simp[hx,LR.row,BO.row];refine n4.call ?_;simp;refine n5.call ?_;by_cases q2:qbS ⟨(qaB p).1,(qaB q).1,⟨3,a,[],(qaB i).1,(qfu x []).1⟩⟩=t
     ·rw[if_pos ⟨ho,q2⟩]at e;rw[e];simp[q2,LR.row,BO.row]
     ·rw[if_neg fun z=>q2 z.2]at e;rw[e];simp[q2,zLR,zBO,LR.row,BO.row]
   ·rw[qrT hc h2];simp[qcx,h2,show ¬ ((qaJ 46 m []).length:Int)=2 by omega,zLR,zBO,LR.row,BO.row]
 ·rw[qvn h5];simp[qcx,h5,show ¬ ((qaJ 32 (qbj t).1 []).length:Int)=5 by omega,zLR,zBO,LR.row,BO.row]
theorem qme (t:List UInt8) (hl:t.length≤1000000):CV prog 215 [.str t] (.tup [.agg (qjk t).1.row,.bool (qjk t).2]):=by
 have c1:=qvq t (by omega);have hol:=qgf t;have c2:=qit (qbj t).1 32 (by omega);have hw:=qbu 32 (qbj t).1 [];simp only[qHf,qHc]at hw;refine cvx func215 [] ntmps215 rfl rfl rfl ?_ (hcv:=by simp[LR.row,BO.row]);simp;refine c1.call ?_;simp;refine c2.call ?_;by_cases h5:(qaJ 32 (qbj t).1 []).length=5
 ·obtain⟨m,a,i,x,y,hc⟩:=qsm h5;rw[hc]at hw;have lm:=hw m (by simp);have la:=hw a (by simp);have li:=hw i (by simp);have lx:=hw x (by simp);have lt:=qqt x;have lc:=qo8 46 m;have c3:=qE8 m 46 (by omega);have n1:=qmP (qfa 46 m).1 (by omega);have n2:=qmP (qfa 46 m).2.1 (by omega);have n3:=qmP i (by omega);have n4:=qD1 x (by omega);have e:=qAX hc;generalize qfa 46 m=M at *
  obtain⟨p,q,b⟩:=M;simp only at lc n1 n2 e c3;have n5:=qr0 ⟨qaI p,qaI q,⟨3,a,[],qaI i,unT x⟩⟩ (by simp only;omega) (by simp only;omega);simp only[LR.row,BO.row]at n5;simp[hc,qcx];refine c3.call ?_;simp;refine n1.call ?_;simp;refine n2.call ?_;simp[qcx];refine n3.call ?_;simp[qcx];refine n4.call ?_;by_cases hx:x=[45]
  ·have hu:unT x=[]:=by unfold unT;rw[if_pos hx]
   rw[hu]at n5 e;cases k1:qbD p with
   | false =>
    rw[if_neg (by simp[k1])]at e;rw[e];simp[hx,qia,zLR,zBO,LR.row,BO.row]
   | true =>
    cases k2:qbD q with
    | false =>
     rw[if_neg (by simp[k2])]at e;rw[e];simp[hx,qia,zLR,zBO,LR.row,BO.row]
    | true =>
     cases k3:qbD i with
     | false =>
      rw[if_neg (by simp[k3])]at e;rw[e];simp[hx,qia,zLR,zBO,LR.row,BO.row]
     | true =>
      simp[hx,qia,LR.row,BO.row];refine n5.call ?_;by_cases q2:qbS ⟨qaI p,qaI q,⟨3,a,[],qaI i,[]⟩⟩=t
      ·rw[if_pos ⟨k1,k2,k3,.inl hx,q2⟩]at e;rw[e];simp[q2,LR.row,BO.row]
      ·rw[if_neg fun z=>q2 z.2.2.2.2]at e;rw[e];simp[q2,zLR,zBO,LR.row,BO.row]
  ·have hu:unT x=(qfu x []).1:=by unfold unT;rw[if_neg hx]
   rw[hu]at n5 e;cases k1:qbD p with
   | false =>
    rw[if_neg (by simp[k1])]at e;rw[e];simp[hx,qia,zLR,zBO,LR.row,BO.row]
   | true =>
    cases k2:qbD q with
    | false =>
     rw[if_neg (by simp[k2])]at e;rw[e];simp[hx,qia,zLR,zBO,LR.row,BO.row]
    | true =>
     cases k3:qbD i with
     | false =>
      rw[if_neg (by simp[k3])]at e;rw[e];simp[hx,qia,zLR,zBO,LR.row,BO.row]
     | true =>
      cases k4:(qfu x []).2 with
      | false =>
       rw[if_neg (by simp[hx,k4])]at e;rw[e];simp[hx,qia,zLR,zBO,LR.row,BO.row]
      | true =>
       simp[hx,qia,LR.row,BO.row];refine n5.call ?_;by_cases q2:qbS ⟨qaI p,qaI q,⟨3,a,[],qaI i,(qfu x []).1⟩⟩=t
       ·rw[if_pos ⟨k1,k2,k3,.inr k4,q2⟩]at e;rw[e];simp[q2,LR.row,BO.row]
       ·rw[if_neg fun z=>q2 z.2.2.2.2]at e;rw[e];simp[q2,zLR,zBO,LR.row,BO.row]
 ·rw[qvn h5];simp[qcx,h5,show ¬ ((qaJ 32 (qbj t).1 []).length:Int)=5 by omega,zLR,zBO,LR.row,BO.row]
abbrev RS2:=List CS×List PT
def mkS (nm:List UInt8) (k:Int) (fr:List UInt8) (h:PT):CS:=⟨nm,k,fr,z8,h,false⟩
def frR (w:List UInt8):List UInt8:=if w=[45] then [] else w
def qet (x:RS2) (l:List UInt8):RS2×Bool :=
 match qaJ 32 l []with
 | [a,b]=>if a=[46] then ((x.1,x.2++[(qbU b).1]),(qbU b).2) else (x,false)
 | [a,b,c,d]=>((x.1++[mkS a (qaB b).1 (frR c) (qbU d).1],x.2),(qaB b).2 && (qbU d).2)
 | _=>(x,false)
def qdD (x:RS2) (l:List UInt8):RS2×Bool :=
 match qaJ 32 l []with
 | [a,b]=>if (qbU b).2=true∧a=[46] then ((x.1,x.2++[(qbU b).1]),true) else (x,false)
 | [a,b,c,d]=>if (qbU d).2=true then ((x.1++[mkS a (qaI b) (frR c) (qbU d).1],x.2),qbD b) else (x,false)
 | _=>(x,false)
def qfi (f:RS2→List UInt8→RS2×Bool):List (List UInt8)→RS2→Option RS2
 | [],x=>some x
 | l::r,x=>if (f x l).2=true then qfi f r (f x l).1 else none
def qbf (x:RS2):CO:=⟨0,x.1,[],x.2,false,[],0⟩
def qii (t:List UInt8) (x:RS2):Bool:=decide (qaD (qbf x)=t) && qa3 (x.1.map csB) && decide (x.2.length≤8)
def qlR:List UInt8:=[114,111,111,116]
def qmY (t:List UInt8) (o:Option RS2):CO×Bool :=
 match o with
 | some x=>if qii t x=true then (qbf x,true) else (zK,false)
 | none=>(zK,false)
def qhJ (t:List UInt8):CO×Bool :=
 if 420<t.length∨(qaJ 10 t []).head?≠some qlR then (zK,false) else qmY t (qfi qet (qaJ 10 t []).tail ([],[]))
def qpv (s:CS):List UInt8:=s.name++(32::(dec s.kind++(32::(qev s.frm++(32::qaT s.home)))))
def qpE (p:PT):List UInt8:=46::32::qaT p
theorem qiE:∀ {l:List CS} {t:List UInt8},qbF l=some t→(∀ s∈l,qbp s=true)∧t=Lib.joinTail [10] (l.map qpv)
 | [],t,h=>by
  simp only[qbF,qFQ]at h;subst h;exact⟨by simp,by simp[Lib.joinTail]⟩
 | s::r,t,h=>by
  rw[qbF]at h;split at h
  ·cases h
  ·rename_i hk;cases hr:qbF r with
   | none=>rw[hr]at h;cases h
   | some u =>
    rw[hr]at h;simp only[qFX,qFQ]at h;subst h;obtain⟨h1,h2⟩:=qiE hr;refine⟨fun x hx=>?_,?_⟩
    ·rcases qHq.1 hx with rfl | hx
     ·simpa using hk
     ·exact h1 x hx
    ·subst h2;simp[Lib.joinTail,qdY,qpv]
theorem qhu:∀ {l:List PT} {t:List UInt8},qa6 l=some t→(∀ p∈l,qar p=true)∧t=Lib.joinTail [10] (l.map qpE)
 | [],t,h=>by
  simp only[qa6,qFQ]at h;subst h;exact⟨by simp,by simp[Lib.joinTail]⟩
 | p::r,t,h=>by
  rw[qa6]at h;split at h
  ·cases h
  ·rename_i hk;cases hr:qa6 r with
   | none=>rw[hr]at h;cases h
   | some u =>
    rw[hr]at h;simp only[qFX,qFQ]at h;subst h;obtain⟨h1,h2⟩:=qhu hr;refine⟨fun x hx=>?_,?_⟩
    ·rcases qHq.1 hx with rfl | hx
     ·simpa using hk
     ·exact h1 x hx
    ·subst h2;simp[Lib.joinTail,qpE]
theorem qma (sep:List UInt8) (a b:List (List UInt8)):Lib.joinTail sep (a++b)=Lib.joinTail sep a++Lib.joinTail sep b:=by
 simp[Lib.joinTail]
theorem ql7 {s:List UInt8} (h:qbR s=true):∀ x∈s,x≠(10:UInt8):=fun x hx=>by
 simp only[qbR,Bool.and_eq_true,qGf]at h;have:=h.1.1 x hx;rintro rfl;simp[qmX]at this
theorem qiG {p:PT} (h:qaL p=true):∀ x∈qaT p,x≠(10:UInt8):=by
 by_cases h0:p.pa=0
 ·unfold qaT;rw[if_neg (by simp[h]),if_pos h0];intro x hx;simp only[qIx]at hx;subst hx;decide
 ·rw[qdA (by simp[qar,h,h0]),qaU,qaU,Lib.join_one];intro x hx;simp only[qHs,qHq]at hx;rcases hx with hx | rfl | hx | rfl | hx
  ·exact qgX _ 10 (by decide) (by decide) x hx
  ·decide
  ·exact qgX _ 10 (by decide) (by decide) x hx
  ·decide
  ·exact qgX _ 10 (by decide) (by decide) x hx
theorem qid {s:CS} (h:qbp s=true):qbR s.name=true∧(s.frm=[]∨qbR s.frm=true)∧(1≤s.kind∧s.kind≤2)∧qaL s.home=true:=by
 simp only[qbp,Bool.and_eq_true,qHy,decide_eq_true_eq,List.isEmpty_iff]at h;exact⟨h.1.1.1.1,h.1.1.1.2,h.1.1.2,h.1.2⟩
theorem qh4 {s:List UInt8} (h:s=[]∨qbR s=true):(∀ x∈qev s,x≠(32:UInt8))∧(∀ x∈qev s,x≠(10:UInt8))∧frR (qev s)=s:=by
 rcases h with rfl | h
 ·refine⟨?_,?_,rfl⟩
  ·intro x hx;simp only[qev,if_true,qIx]at hx;subst hx;decide
  ·intro x hx;simp only[qev,if_true,qIx]at hx;subst hx;decide
 ·have hne:s≠[]:=by
   rintro rfl;simp[qbR]at h
  have hf:qev s=s:=by unfold qev;rw[if_neg hne]
  rw[hf];refine⟨qng h,ql7 h,?_⟩;unfold frR;rw[if_neg];rintro rfl
  revert h
  decide
theorem qwT {s:CS} (h:qbp s=true):∀ x∈qpv s,x≠(10:UInt8):=by
 obtain⟨h1,h2,h3,h4⟩:=qid h;intro x hx;simp only[qpv,qHs,qHq]at hx;rcases hx with hx | rfl | hx | rfl | hx | rfl | hx
 ·exact ql7 h1 x hx
 ·decide
 ·exact qfJ _ 10 (by decide) x hx
 ·decide
 ·exact(qh4 h2).2.1 x hx
 ·decide
 ·exact qiG h4 x hx
theorem qxr {p:PT} (h:qar p=true):∀ x∈qpE p,x≠(10:UInt8):=by
 intro x hx;simp only[qpE,qHq]at hx;rcases hx with rfl | rfl | hx
 ·decide
 ·decide
 ·exact qiG (qd1 h).1 x hx
theorem qjI {x:RS2} {t:List UInt8} (h:qaD (qbf x)=t) (ht:t≠[]) :
  (∀ s∈x.1,qbp s=true)∧(∀ p∈x.2,qar p=true)∧qaJ 10 t []=qlR::(x.1.map qpv++x.2.map qpE):=by
 unfold qaD qbf at h;simp only at h;cases h1:qbF x.1 with
 | none =>
  rw[h1]at h;exact absurd h.symm ht
 | some a =>
  cases h2:qa6 x.2 with
  | none =>
   rw[h1,h2]at h;exact absurd h.symm ht
  | some b =>
   rw[h1,h2]at h;simp only[qHu,qFX,qGU]at h;obtain⟨a1,a2⟩:=qiE h1;obtain⟨b1,b2⟩:=qhu h2;refine⟨a1,b1,?_⟩;have:t=Lib.join (qlR::(x.1.map qpv++x.2.map qpE)) [10]:=by
    rw[Lib.join_cons,qma,← a2,← b2,← h];rfl
   rw[this,qdq 10 _ (by simp)];intro w hw;simp only[qHq,qHs,qGt]at hw;rcases hw with rfl | ⟨s,hs,rfl⟩ | ⟨p,hp,rfl⟩
   ·decide
   ·exact qwT (a1 s hs)
   ·exact qxr (b1 p hp)
theorem qn5 {s:CS} (h:qbp s=true):qaJ 32 (qpv s) []=[s.name,dec s.kind,qev s.frm,qaT s.home]:=by
 obtain⟨h1,h2,h3,h4⟩:=qid h;have hj:qpv s=Lib.join [s.name,dec s.kind,qev s.frm,qaT s.home] [32]:=by
  rw[qaU,qaU,qaU,Lib.join_one];rfl
 rw[hj,qdq 32 _ (by simp)];intro w hw;simp only[qHq,qHz,or_false]at hw;rcases hw with rfl | rfl | rfl | rfl
 ·exact qng h1
 ·exact qfJ _ 32 (by decide)
 ·exact(qh4 h2).1
 ·exact qiH h4
theorem qov {p:PT} (h:qar p=true):qaJ 32 (qpE p) []=[[46],qaT p]:=by
 have hj:qpE p=Lib.join [[46],qaT p] [32]:=by
  rw[qaU,Lib.join_one];rfl
 rw[hj,qdq 32 _ (by simp)];intro w hw;simp only[qHq,qHz,or_false]at hw;rcases hw with rfl | rfl
 ·decide
 ·exact qiH (qd1 h).1
def nrm (s:CS):Prop:=s.map=z8∧s.dirty=false
theorem qvm {s:CS} (h:nrm s):mkS s.name s.kind s.frm s.home=s:=by
 obtain⟨a,b,c,m,e,d⟩:=s;obtain⟨h1,h2⟩:=h;simp only at h1 h2;subst h1;subst h2;rfl
theorem qiR {s:CS} (h:qbp s=true) (hn:nrm s) (x:RS2):qet x (qpv s)=((x.1++[s],x.2),true):=by
 obtain⟨h1,h2,h3,h4⟩:=qid h;obtain⟨d1,d2,d3⟩:=qd4 (n:=s.kind) (by omega) (by omega);unfold qet;rw[qn5 h];simp only[d1,qgR h4,(qh4 h2).2.2,qvm hn,Bool.and_self]
theorem qrR {s:CS} (h:qbp s=true) (hn:nrm s) (x:RS2):qdD x (qpv s)=((x.1++[s],x.2),true):=by
 obtain⟨h1,h2,h3,h4⟩:=qid h;obtain⟨d1,d2,d3⟩:=qd4 (n:=s.kind) (by omega) (by omega);unfold qdD;rw[qn5 h];simp only[d2,d3,qgR h4,(qh4 h2).2.2,qvm hn,if_true]
theorem qiS {p:PT} (h:qar p=true) (x:RS2):qet x (qpE p)=((x.1,x.2++[p]),true):=by
 unfold qet;rw[qov h];simp only[qgR (qd1 h).1,if_true]
theorem qrS {p:PT} (h:qar p=true) (x:RS2):qdD x (qpE p)=((x.1,x.2++[p]),true):=by
 unfold qdD;rw[qov h];simp[qgR (qd1 h).1]
theorem qob (f:RS2→List UInt8→RS2×Bool):∀ (a b:List (List UInt8)) (x:RS2),qfi f (a++b) x=(qfi f a x).bind (qfi f b)
 | [],b,x=>rfl
 | l::r,b,x=>by
  rw[qHS,qfi,qfi];split
  ·exact qob f r b _
  ·rfl
theorem qlM {f:RS2→List UInt8→RS2×Bool} (hf:∀ s,qbp s=true→nrm s→∀ x,f x (qpv s)=((x.1++[s],x.2),true)):∀ (l:List CS) (x:RS2),(∀ s∈l,qbp s=true∧nrm s)→qfi f (l.map qpv) x=some (x.1++l,x.2)
 | [],x,_=>by simp[qfi]
 | s::r,x,h=>by
  obtain⟨h1,h2⟩:=h s (by simp);rw[qGs,qfi,hf s h1 h2 x,if_pos rfl,qlM hf r _ fun y hy=>h y (by simp[hy])];simp
theorem qlN {f:RS2→List UInt8→RS2×Bool} (hf:∀ p,qar p=true→∀ x,f x (qpE p)=((x.1,x.2++[p]),true)):∀ (l:List PT) (x:RS2),(∀ p∈l,qar p=true)→qfi f (l.map qpE) x=some (x.1,x.2++l)
 | [],x,_=>by simp[qfi]
 | p::r,x,h=>by
  rw[qGs,qfi,hf p (h p (by simp)) x,if_pos rfl,qlN hf r _ fun y hy=>h y (by simp[hy])];simp
theorem qrG {l:List CS} {s:CS} (h:∀ x∈l,nrm x) (hs:nrm s):∀ x∈l++[s],nrm x:=fun x hx=>by
 rcases qHs.1 hx with hx | hx
 ·exact h x hx
 ·simp only[qIx]at hx;subst hx;exact hs
theorem ql9 (x:RS2) (l:List UInt8) (h:∀ s∈x.1,nrm s):∀ s∈(qet x l).1.1,nrm s:=by
 unfold qet;split
 ·split <;> exact h
 ·exact qrG h ⟨rfl,rfl⟩
 ·exact h
theorem qiT (x:RS2) (l:List UInt8) (h:∀ s∈x.1,nrm s):∀ s∈(qdD x l).1.1,nrm s:=by
 unfold qdD;split
 ·split <;> exact h
 ·split
  ·exact qrG h ⟨rfl,rfl⟩
  ·exact h
 ·exact h
theorem qkt {f:RS2→List UInt8→RS2×Bool} (hf:∀ x l,(∀ s∈x.1,nrm s)→∀ s∈(f x l).1.1,nrm s):∀ (ls:List (List UInt8)) (x y:RS2),(∀ s∈x.1,nrm s)→qfi f ls x=some y→∀ s∈y.1,nrm s
 | [],x,y,h,e=>by
  simp only[qfi,qFQ]at e;subst e;exact h
 | l::r,x,y,h,e=>by
  rw[qfi]at e;split at e
  ·exact qkt hf r _ y (hf x l h) e
  ·cases e
theorem qhU {f g:RS2→List UInt8→RS2×Bool} (hf:∀ x l,(∀ s∈x.1,nrm s)→∀ s∈(f x l).1.1,nrm s)
  (hg1:∀ s,qbp s=true→nrm s→∀ x,g x (qpv s)=((x.1++[s],x.2),true)) (hg2:∀ p,qar p=true→∀ x,g x (qpE p)=((x.1,x.2++[p]),true))
  {t:List UInt8} {x:RS2} (h:qfi f (qaJ 10 t []).tail ([],[])=some x) (ht:qaD (qbf x)=t) (hne:t≠[]) :
  qfi g (qaJ 10 t []).tail ([],[])=some x∧(qaJ 10 t []).head?=some qlR:=by
 obtain⟨r1,r2,r3⟩:=qjI ht hne;have hn:=qkt hf _ _ x (by simp) h;rw[r3];refine⟨?_,rfl⟩;rw[qID,qob,qlM hg1 x.1 ([],[]) fun s hs=>⟨r1 s hs,hn s hs⟩,qHu,qlN hg2 x.2 _ r2];simp
theorem qgC {t:List UInt8} {x:RS2} (h:qii t x=true):qaD (qbf x)=t:=by
 simp only[qii,Bool.and_eq_true,decide_eq_true_eq]at h;exact h.1.1
theorem qAe {t:List UInt8} (h1:¬ 420<t.length):qhJ t=qmY t (qfi qdD (qaJ 10 t []).tail ([],[])):=by
 by_cases hne:t=[]
 ·subst hne;decide
 by_cases hd:(qaJ 10 t []).head?=some qlR
 ·unfold qhJ;rw[if_neg (by rintro(e | e);exact h1 e;exact e hd)];cases hs:qfi qet (qaJ 10 t []).tail ([],[])with
  | some x =>
   by_cases ha:qii t x=true
   ·obtain⟨b1,_⟩:=qhU ql9 (fun s h hn x=>qrR h hn x) (fun p h x=>qrS h x) hs (qgC ha) hne;rw[b1]
   ·cases hi:qfi qdD (qaJ 10 t []).tail ([],[])with
    | none=>simp[qmY,ha]
    | some y =>
     by_cases hb:qii t y=true
     ·obtain⟨b1,_⟩:=qhU qiT (fun s h hn x=>qiR h hn x) (fun p h x=>qiS h x) hi (qgC hb) hne;rw[hs]at b1;injection b1 with b1;subst b1;exact absurd hb ha
     ·simp[qmY,ha,hb]
  | none =>
   cases hi:qfi qdD (qaJ 10 t []).tail ([],[])with
   | none=>rfl
   | some y =>
    by_cases hb:qii t y=true
    ·obtain⟨b1,_⟩:=qhU qiT (fun s h hn x=>qiR h hn x) (fun p h x=>qiS h x) hi (qgC hb) hne;rw[hs]at b1;cases b1
    ·simp[qmY,hb]
 ·unfold qhJ;rw[if_pos (.inr hd)];cases hi:qfi qdD (qaJ 10 t []).tail ([],[])with
  | none=>rfl
  | some y =>
   by_cases hb:qii t y=true
   ·obtain⟨_,b2⟩:=qhU qiT (fun s h hn x=>qiR h hn x) (fun p h x=>qiS h x) hi (qgC hb) hne;exact absurd b2 hd
   ·simp[qmY,hb]
def lnR (x:RS2) (i j:Nat):List AV:=[.int .i64 0,.sl i 0 x.1.length,.nils,.sl j 0 x.2.length,.bool false,.nils,.int .i64 0]
def lnQ (V:List (Nat×Nat)) (R:RS2×Bool) (r:AV) (L':List (Nat×Ob)):Prop:=∃ i j,(i,j)∈V∧r=.tup [.agg (lnR R.1 i j),.bool R.2]∧L'=[(i,kcs R.1.1),(j,kpt R.1.2)]
theorem qz8 (x:RS2) (l:List UInt8) (hl:l.length≤1000000) (h1:x.1.length≤1000000) (h2:x.2.length≤1000000) :
  ACall prog 159 [.agg (lnR x 1000 1001),.str l] [(1000,kcs x.1),(1001,kpt x.2)] (lnQ [(902,903)] (qet x l)):=by
 have c1:=qkp l 32 (by omega);have hw:=qbu 32 l [];simp only[qHf,qHc]at hw;have key:ACall prog 159 [.agg (lnR x 1000 1001),.str l] [(1000,kcs x.1),(1001,kpt x.2)] (lnQ [(1000,1001),(1000,36),(76,1001)] (qet x l)):=by
  obtain⟨R,hR⟩:∃ R,qet x l=R:=⟨_,rfl⟩;rw[hR];unfold qet at hR;refine acx func159 [(10,[zI 0,zI 1,zI 2,zI 3,zJ 4 [11] [],zI 5,zJ 6 [] [11],zI 7])] ntmps159 rfl rfl rfl ?_;simp[lnR];refine c1.call ?_;by_cases n2:(qaJ 32 l []).length=2
  ·obtain⟨a,b,hc⟩:=qnZ n2;rw[hc]at hR hw;simp only at hR;have lb:=hw b (by simp);have c2:=qf8 b (by omega);simp only[PT.row]at c2;by_cases ha:a=[46]
   ·rw[if_pos ha]at hR;subst hR;simp[hc,qcx,ha];refine c2.call ?_;simp[kpt,PT.row];exact⟨by omega,[(1000,kcs x.1),(36,kpt (x.2++[(qbU b).1]))],by simp[kpt,PT.row,qal],1000,36,by simp,by simp[lnR],rfl⟩
   ·rw[if_neg ha]at hR;subst hR;simp[hc,qcx,ha];exact⟨[(1000,kcs x.1),(1001,kpt x.2)],by simp,1000,1001,by simp,rfl,rfl⟩
  ·by_cases n4:(qaJ 32 l []).length=4
   ·obtain⟨a,b,c,d,hc⟩:∃ a b c d,qaJ 32 l []=[a,b,c,d]:=by
     match hm:qaJ 32 l [],n4 with
     | [a,b,c,d],_=>exact⟨a,b,c,d,rfl⟩
    rw[hc]at hR hw;simp only at hR;have lb:=hw b (by simp);have ld:=hw d (by simp);have n1:=qiu b (by omega);have c2:=qf8 d (by omega);simp only[PT.row]at c2;simp[hc,qcx];refine n1.call ?_;simp;refine c2.call ?_;simp[PT.row];have hrow:∀ fr:List UInt8,CS.row (mkS a (qaB b).1 fr (qbU d).1)=[.str a,.int .i64 (qaB b).1,.str fr,.int .i64 0,.int .i64 0,.int .i64 0,.int .i64 0,.int .i64 0,.int .i64 0,.int .i64 0,.int .i64 0,.int .i64 0,.int .i64 0,.int .i64 0,.int .i64 0,.int .i64 0,.int .i64 0,.int .i64 0,.int .i64 0,.int .i64 0,.int .i64 0,.int .i64 0,.int .i64 0,.int .i64 0,.int .i64 0,.int .i64 0,.int .i64 0,.int .i64 (qbU d).1.pa,.int .i64 (qbU d).1.ps,.int .i64 (qbU d).1.pb,.bool false]:=fun fr=>by
     simp[CS.row,mkS,z8,zPT,PT.row,List.replicate]
    subst hR;by_cases hq:c=[45]
    ·have hf:frR c=[]:=by unfold frR;rw[if_pos hq]
     rw[hf];simp[hq,kcs];cases hk:(qaB b).2 with
     | false =>
      simp;exact⟨by omega,[(76,kcs (x.1++[mkS a (qaB b).1 [] (qbU d).1])),(1001,kpt x.2)],by simp[kcs,hrow,qal],76,1001,by simp,by simp[lnR],rfl⟩
     | true =>
      simp;exact⟨by omega,[(76,kcs (x.1++[mkS a (qaB b).1 [] (qbU d).1])),(1001,kpt x.2)],by simp[kcs,hrow,qal],76,1001,by simp,by simp[lnR],rfl⟩
    ·have hf:frR c=c:=by unfold frR;rw[if_neg hq]
     rw[hf];simp[hq,kcs];cases hk:(qaB b).2 with
     | false =>
      simp;exact⟨by omega,[(76,kcs (x.1++[mkS a (qaB b).1 c (qbU d).1])),(1001,kpt x.2)],by simp[kcs,hrow,qal],76,1001,by simp,by simp[lnR],rfl⟩
     | true =>
      simp;exact⟨by omega,[(76,kcs (x.1++[mkS a (qaB b).1 c (qbU d).1])),(1001,kpt x.2)],by simp[kcs,hrow,qal],76,1001,by simp,by simp[lnR],rfl⟩
   ·have hx:R=(x,false):=by
     rw[← hR];split
     ·rename_i q;rw[q]at n2;simp at n2
     ·rename_i q;rw[q]at n4;simp at n4
     ·rfl
    subst hx;simp[qcx,n2,n4,show ¬ ((qaJ 32 l []).length:Int)=2 by omega,show ¬ ((qaJ 32 l []).length:Int)=4 by omega];exact⟨[(1000,kcs x.1),(1001,kpt x.2)],by simp,1000,1001,by simp,rfl,rfl⟩
 refine key.can ?_;rintro r L' ⟨i,j,hV,rfl,rfl⟩;simp only[qHq,qHz,or_false,qFR]at hV;rcases hV with⟨rfl,rfl⟩ | ⟨rfl,rfl⟩ | ⟨rfl,rfl⟩
 ·exact⟨[(1000,902),(1001,903)],by simp,by simp,by simp,by simp,902,903,by simp,by simp[lnR],by simp[qah]⟩
 ·exact⟨[(1000,902),(36,903)],by simp,by simp,by simp,by simp,902,903,by simp,by simp[lnR],by simp[qah]⟩
 ·exact⟨[(76,902),(1001,903)],by simp,by simp,by simp,by simp,902,903,by simp,by simp[lnR],by simp[qah]⟩
theorem qmG (c:UInt8) (s:List UInt8):∃ h r,qaJ c s []=h::r:=by
 cases hr:qaJ c s []with
 | nil=>exact absurd hr (qnI _ _ _)
 | cons h r=>exact⟨h,r,rfl⟩
theorem qlL {f:RS2→List UInt8→RS2×Bool} {l:List UInt8} {r:List (List UInt8)} {x:RS2} (h:(f x l).2=true):qfi f (l::r) x=qfi f r (f x l).1:=by
 rw[qfi,if_pos h]
theorem qlO {f:RS2→List UInt8→RS2×Bool} {l:List UInt8} {r:List (List UInt8)} {x:RS2} (h:(f x l).2=false):qfi f (l::r) x=none:=by
 rw[qfi,if_neg (by simp[h])]
theorem qmH (x:RS2):(qbf x).row=[.int .i64 0,.lst 31 (x.1.map CS.row),.lst 3 [],.lst 3 (x.2.map PT.row),.bool false,.lst 1 [],.int .i64 0]:=rfl
def rdT (n:Nat) (x:RS2):Prop:=x.1.length≤n∧x.2.length≤n∧∀ s∈x.1,s.map.length=8∧s.name.length≤1000∧s.frm.length≤1000
theorem qok {n:Nat} {x:RS2} (h:rdT n x) (hn:n≤100000):CoT (qbf x) :=
 ⟨by have:=h.1;simp only[qbf];omega,by simp[qbf],by have:=h.2.1;simp only[qbf];omega,by simp[qbf],fun s hs=>(h.2.2 s hs).1,fun s hs=>by have:=h.2.2 s hs;omega⟩
theorem qx5 (w:List UInt8):(frR w).length≤w.length:=by
 unfold frR;split <;> simp
theorem qrr {n:Nat} {x:RS2} (h:rdT n x) {a c:List UInt8} (k:Int) (p:PT) (ha:a.length≤1000) (hc:c.length≤1000):rdT (n+1) (x.1++[mkS a k (frR c) p],x.2):=by
 have:=qx5 c;refine⟨by have:=h.1;simp;omega,by have:=h.2.1;simp only;omega,fun s hs=>?_⟩;simp only at hs;rcases qHs.1 hs with hs | hs
 ·exact h.2.2 s hs
 ·simp only[qIx]at hs;subst hs;exact⟨rfl,ha,by simp only[mkS];omega⟩
theorem qxC {n:Nat} {x:RS2} (h:rdT n x) {l:List UInt8} (hl:l.length≤1000):rdT (n+1) (qet x l).1:=by
 have hw:=qbu 32 l [];simp only[qHf,qHc]at hw;have h0:rdT (n+1) x:=⟨by have:=h.1;omega,by have:=h.2.1;omega,h.2.2⟩;unfold qet;split
 ·split
  ·exact⟨by have:=h.1;simp only;omega,by have:=h.2.1;simp;omega,h.2.2⟩
  ·exact h0
 ·rename_i a b c d hc;rw[hc]at hw;have la:=hw a (by simp);have lc:=hw c (by simp);exact qrr h _ _ (by omega) (by omega)
 ·exact h0
theorem qxb {t:List UInt8} {h:List UInt8} {r:List (List UInt8)} (hc:qaJ 10 t []=h::r):qhJ t=if 420<t.length∨h≠qlR then (zK,false) else qmY t (qfi qet r ([],[])):=by
 unfold qhJ;rw[hc];simp
def rtQ (a b:Nat) (R:CO×Bool) (r:AV) (L':List (Nat×Ob)):Prop :=
 (R=(zK,false)∧r=.tup [.agg [.int .i64 0,.nils,.nils,.nils,.bool false,.nils,.int .i64 0],.bool false]∧L'=[]) ∨
 (∃ x:RS2,R=(qbf x,true)∧r=.tup [.agg (lnR x a b),.bool true]∧L'=[(a,kcs x.1),(b,kpt x.2)])
theorem qpx (t:List UInt8) (hl:t.length≤1000000):ACall prog 75 [.str t] [] (rtQ 900 901 (qhJ t)):=by
 obtain⟨R,hR⟩:∃ R,qhJ t=R:=⟨_,rfl⟩;rw[hR];have c1:=qkp t 10 (by omega);have hw:=qbu 10 t [];have hnum:=qdr 10 t [];simp only[qHf,qHc]at hw;obtain⟨hd,ls,hc⟩:=qmG 10 t;rw[qxb hc]at hR;rw[hc]at hw hnum c1;refine acx func75 [(8,[zJ 0 [4] [],zJ 1 [] [4],zJ 2 [] [4],zJ 3 [] [4],zJ 4 [] [4],⟨5,[],[],[9],[]⟩,zI 6,zI 7,zI 8,zJ 9 [] [4],zI 10,zI 11])] ntmps75 rfl rfl rfl ?_;simp;refine c1.call ?_;by_cases h1:420<t.length
 ·rw[if_pos (.inl h1)]at hR;subst hR;simp[show(420:Int)<t.length by omega,h1,qcx];exact⟨[],by simp,.inl ⟨rfl,rfl,rfl⟩⟩
 by_cases h2:hd=qlR
 ·rw[if_neg (by rintro(e | e);exact h1 e;exact e h2)]at hR;have h2':hd=[114,111,111,116]:=h2;simp[show ¬ (420:Int)<t.length by omega,h1,qcx,h2'];refine qe8 ((qeP 900 31 (by simp)).trans ((qdw 4 1 (sz:=7) (row:=[.int .i64 0,.nils,.nils,.nils,.bool false,.nils,.int .i64 0]) (by simp) (by simp) (qcK 900 0)).trans
   ((qeP 901 3 (by simp)).trans (qdw 4 3 (sz:=7) (row:=[.int .i64 0,.sl 900 0 0,.nils,.nils,.bool false,.nils,.int .i64 0]) (by simp) (by simp) (qcK 901 0))))) ?_
  refine qaM (X:=Nat×RS2) [0,2,3,4,5,6] [(2,2),(4,4),(900,900),(901,901)] (fun x=>[(6,.int .i64 (x.1+1))]) (fun x=>[(2,⟨7,[[.int .i64 0,.nils,.nils,.nils,.bool false,.nils,.int .i64 0]]⟩),(4,⟨7,[lnR x.2 900 901]⟩),(900,kcs x.2.1),(901,kpt x.2.2)]) (fun x=>ls.length-x.1)
   (fun x=>x.1≤ls.length∧rdT x.1 x.2∧qmY t (qfi qet (ls.drop x.1) x.2)=R) (0,([],[])) ⟨by omega,⟨by simp,by simp,by simp⟩,hR⟩ ?_ (he:=by simp[qah,lnR,kcs,kpt])
  rintro⟨i,x⟩ ⟨hi,hx,hd2⟩;simp only at hi hx hd2;cases hr:ls.drop i with
  | nil =>
   have:=qaY hr;have hie:i=ls.length:=by omega
   subst hie;rw[hr]at hd2;simp only[qfi,qmY]at hd2;have hT:=qok hx (by simp at hnum;omega);have c2:=qqZ (qbf x) hT;have c3:=qkr (qbf x) (by have:=hx.1;simp only[qbf];simp at hnum;omega) hT.m8;have c4:=qf0 (qnM ((qbf x).sets.map csB) (by have:=hx.1;simp[qbf];simp at hnum;omega) (fun b hb=>by
    obtain⟨s,hs,rfl⟩:=qGt.1 hb;simp[csB]) (fun b hb=>by
    obtain⟨s,hs,rfl⟩:=qGt.1 hb;have:=hx.2.2 s hs;simp[csB];omega)) (hca:=by simp[bk])
   rw[qmH]at c2 c3;simp[lnR];refine c2.view (by simp[qb5,mtA,kcs,kpt,qal,qa1]) ?_;by_cases q1:qaD (qbf x)=t
   ·simp[q1];refine qaS [] (by kernel_rfl) c3 (by simp[qb5,mtA,kcs,kpt,qal,qa1]) (by simp) trivial (by simp) (by simp) ?_;rintro r L' ⟨rfl,rfl⟩;refine⟨by simp[noL],by simp[qba,qoB],[(900,47)],⟨by simp,by simp,by simp,by simp,by simp⟩,?_⟩;simp only[qaf];have htk:List.take x.1.length (List.map (BS.row ∘ csB) x.1)=List.map (BS.row ∘ csB) x.1:=qGh (by simp);simp only[bk,qbf,qGA]at c4;simp;refine c4.view (by simp[qb5,mtA,qba,qbf,htk]) ?_;cases hb:qa3 (List.map csB x.1)with
    | false =>
     have ha:qii t x=false:=by simp[qii,hb]
     rw[if_neg (by simp[ha])]at hd2;subst hd2;simp;exact⟨[],by simp,.inl ⟨rfl,rfl,rfl⟩⟩
    | true =>
     simp;by_cases q8:x.2.length≤8
     ·have ha:qii t x=true:=by simp[qii,hb,q8,q1]
      rw[if_pos ha]at hd2;subst hd2;simp[show ¬ (8:Int)<x.2.length by omega,show ¬ 8<x.2.length by omega,q8,show(x.2.length:Int)≤8 by omega];exact⟨[(900,kcs x.1),(901,kpt x.2)],by simp[qah],.inr ⟨x,rfl,by simp[lnR],rfl⟩⟩
     ·have ha:qii t x=false:=by simp[qii,q8]
      rw[if_neg (by simp[ha])]at hd2;subst hd2;simp[show(8:Int)<x.2.length by omega,show 8<x.2.length by omega,q8,show ¬ (x.2.length:Int)≤8 by omega];exact⟨[],by simp,.inl ⟨rfl,rfl,rfl⟩⟩
   ·have ha:qii t x=false:=by simp[qii,q1]
    rw[if_neg (by simp[ha])]at hd2;subst hd2;simp[q1];exact⟨[],by simp,.inl ⟨rfl,rfl,rfl⟩⟩
  | cons l r =>
   obtain⟨g1,e0,e1,g3⟩:=qaZ hr;have hwl:=hw l (by simp[qHT e1]);have c2:=qz8 x l (by omega) (by have:=hx.1;simp at hnum;omega) (by have:=hx.2.1;simp at hnum;omega);have hT:=qxC hx (l:=l) (by omega);have e2:=qap ((i:Int)+1+1) (by simp at hnum;omega) (by simp at hnum;omega);rw[hr]at hd2;simp only[lnR]at c2;simp[lnR,g1,e0,e1,qcx];refine⟨by omega,?_⟩;refine qac [(1000,.whole 900),(1001,.whole 901)] (by kernel_rfl) c2 (by simp) (by simp) ⟨⟨kcs x.1,by simp,rfl,qaa rfl (qa5 _)⟩,⟨kpt x.2,by simp,rfl,qaa rfl (qbq _)⟩,trivial⟩ (by simp) (by simp) ?_;rintro r' L' ⟨j1,j2,hV,rfl,rfl⟩;simp only[qHq,qHz,or_false,qFR]at hV;obtain⟨rfl,rfl⟩:=hV;refine⟨[(902,902),(903,903)],⟨by simp,by simp,by simp,by simp,by simp⟩,?_⟩;simp only[qaf];cases hk:(qet x l).2 with
   | false =>
    rw[qlO hk]at hd2;simp only[qmY]at hd2;subst hd2;simp[lnR];exact⟨[],by simp,.inl ⟨rfl,rfl,rfl⟩⟩
   | true =>
    rw[qlL hk]at hd2;simp[lnR];refine nx (i+1,(qet x l).1) [(2,2),(4,4),(902,900),(903,901)] ⟨by simp only;omega,hT,by simp only[g3];exact hd2⟩ (by simp only;omega) (h4:=?_);simp[qah,e2,lnR]
 ·rw[if_pos (.inr h2)]at hR;subst hR;have h2':¬ hd=[114,111,111,116]:=h2;simp[show ¬ (420:Int)<t.length by omega,h1,qcx,h2'];exact⟨[],by simp,.inl ⟨rfl,rfl,rfl⟩⟩
def rlL (x:RS2) (i j:Nat):List (Nat×Ob):=[(1000,⟨7,[lnR x i j]⟩),(i,kcs x.1),(j,kpt x.2)]
def rlQ (V:List (Nat×Nat)) (R:RS2×Bool) (r:AV) (L':List (Nat×Ob)):Prop:=∃ i j,(i,j)∈V∧r=.bool R.2∧L'=rlL R.1 i j
theorem qxH {l:List (List UInt8)} (h:l≠[]):∃ w,l[l.length-1]?=some w∧w∈l:=by
 refine⟨l[l.length-1]'(by have:=qFZ.2 h;omega),qF3 _,qGz _⟩
theorem qxD {x:RS2} {l:List UInt8} (h2:(qaJ 32 l []).length≠2) (h4:(qaJ 32 l []).length≠4):qdD x l=(x,false):=by
 unfold qdD;split
 ·rename_i q;rw[q]at h2;simp at h2
 ·rename_i q;rw[q]at h4;simp at h4
 ·rfl
theorem qBi (x:RS2) (l:List UInt8) (hl:l.length≤1000000) (h1:x.1.length≤1000000) (h2:x.2.length≤1000000) :
  ACall prog 180 [.ptr 1000 0 0,.str l] (rlL x 1001 1002) (rlQ [(902,903)] (qdD x l)):=by
 have c1:=qit l 32 (by omega);have hw:=qbu 32 l [];simp only[qHf,qHc]at hw;have key:ACall prog 180 [.ptr 1000 0 0,.str l] (rlL x 1001 1002) (rlQ [(1001,1002),(1001,43),(75,1002)] (qdD x l)):=by
  simp only[rlL];by_cases n2:(qaJ 32 l []).length=2
  ·obtain⟨R,hR⟩:∃ R,qdD x l=R:=⟨_,rfl⟩;rw[hR];unfold qdD at hR;obtain⟨a,b,hc⟩:=qnZ n2;rw[hc]at hR hw;simp only at hR;have lb:=hw b (by simp);have c2:=qe1 b (by omega);simp only[PT.row]at c2;refine acx func180 [(6,[zI 0,zI 1,zI 2,zI 3,zJ 4 [1000] [],zJ 5 [6] [1000],zJ 6 [] [1000],zI 7,zI 8,zI 9,zI 10]),(14,[zI 0,zI 1,zI 2,zI 3,zJ 4 [1000] [],zJ 5 [] [1000],zJ 6 [] [1000],zJ 7 [] [1000],zJ 8 [] [1000],zJ 9 [] [1000],zJ 10 [6] [1000],zJ 11 [] [1000],zJ 12 [] [1000],zI 13,zI 14,zI 15,zI 16])] ntmps180 rfl rfl rfl ?_;simp[lnR];refine c1.call ?_;simp[hc,qcx];refine c2.call ?_;cases hk:(qbU b).2 with
   | false =>
    rw[if_neg (by simp[hk])]at hR;subst hR;simp;exact⟨rlL x 1001 1002,by simp[rlL,lnR],1001,1002,by simp,rfl,rfl⟩
   | true =>
    by_cases ha:a=[46]
    ·rw[if_pos ⟨hk,ha⟩]at hR;subst hR;simp[ha,kpt,PT.row];exact⟨by omega,rlL (x.1,x.2++[(qbU b).1]) 1001 43,by simp[rlL,lnR,kpt,PT.row,qal],1001,43,by simp,rfl,rfl⟩
    ·rw[if_neg fun e=>ha e.2]at hR;subst hR;simp[ha];exact⟨rlL x 1001 1002,by simp[rlL,lnR],1001,1002,by simp,rfl,rfl⟩
  ·by_cases n4:(qaJ 32 l []).length=4
   ·obtain⟨R,hR⟩:∃ R,qdD x l=R:=⟨_,rfl⟩;rw[hR];unfold qdD at hR;obtain⟨a,b,c,d,hc⟩:∃ a b c d,qaJ 32 l []=[a,b,c,d]:=by
     match hm:qaJ 32 l [],n4 with
     | [a,b,c,d],_=>exact⟨a,b,c,d,rfl⟩
    rw[hc]at hR hw;simp only at hR;have lb:=hw b (by simp);have ld:=hw d (by simp);have n1:=qmP b (by omega);have c2:=qe1 d (by omega);simp only[PT.row]at c2;refine acx func180 [(6,[zI 0,zI 1,zI 2,zI 3,zJ 4 [1000] [],zJ 5 [6] [1000],zJ 6 [] [1000],zI 7,zI 8,zI 9,zI 10]),(14,[zI 0,zI 1,zI 2,zI 3,zJ 4 [1000] [],zJ 5 [] [1000],zJ 6 [] [1000],zJ 7 [] [1000],zJ 8 [] [1000],zJ 9 [] [1000],zJ 10 [6] [1000],zJ 11 [] [1000],zJ 12 [] [1000],zI 13,zI 14,zI 15,zI 16])] ntmps180 rfl rfl rfl ?_;simp[lnR];refine c1.call ?_;simp[hc,qcx];refine c2.call ?_;cases hk:(qbU d).2 with
    | false =>
     rw[if_neg (by simp[hk])]at hR;subst hR;simp;exact⟨rlL x 1001 1002,by simp[rlL,lnR],1001,1002,by simp,rfl,rfl⟩
    | true =>
     rw[if_pos hk]at hR;simp;refine n1.call ?_;simp[PT.row];have hrow:∀ fr:List UInt8,CS.row (mkS a (qaI b) fr (qbU d).1)=[.str a,.int .i64 (qaI b),.str fr,.int .i64 0,.int .i64 0,.int .i64 0,.int .i64 0,.int .i64 0,.int .i64 0,.int .i64 0,.int .i64 0,.int .i64 0,.int .i64 0,.int .i64 0,.int .i64 0,.int .i64 0,.int .i64 0,.int .i64 0,.int .i64 0,.int .i64 0,.int .i64 0,.int .i64 0,.int .i64 0,.int .i64 0,.int .i64 0,.int .i64 0,.int .i64 0,.int .i64 (qbU d).1.pa,.int .i64 (qbU d).1.ps,.int .i64 (qbU d).1.pb,.bool false]:=fun fr=>by
      simp[CS.row,mkS,z8,zPT,PT.row,List.replicate]
     subst hR;by_cases hq:c=[45]
     ·have hf:frR c=[]:=by unfold frR;rw[if_pos hq]
      rw[hf];cases hk2:qbD b with
      | false =>
       simp[hq,kcs,qia];exact⟨by omega,rlL (x.1++[mkS a (qaI b) [] (qbU d).1],x.2) 75 1002,by simp[rlL,lnR,kcs,hrow,qal],75,1002,by simp,rfl,rfl⟩
      | true =>
       simp[hq,kcs,qia];exact⟨by omega,rlL (x.1++[mkS a (qaI b) [] (qbU d).1],x.2) 75 1002,by simp[rlL,lnR,kcs,hrow,qal],75,1002,by simp,rfl,rfl⟩
     ·have hf:frR c=c:=by unfold frR;rw[if_neg hq]
      rw[hf];cases hk2:qbD b with
      | false =>
       simp[hq,kcs,qia];exact⟨by omega,rlL (x.1++[mkS a (qaI b) c (qbU d).1],x.2) 75 1002,by simp[rlL,lnR,kcs,hrow,qal],75,1002,by simp,rfl,rfl⟩
      | true =>
       simp[hq,kcs,qia];exact⟨by omega,rlL (x.1++[mkS a (qaI b) c (qbU d).1],x.2) 75 1002,by simp[rlL,lnR,kcs,hrow,qal],75,1002,by simp,rfl,rfl⟩
   ·rw[qxD n2 n4];obtain⟨w,w1,w2⟩:=qxH (qnI 32 l []);have c2:=qe1 w (by have:=hw w w2;omega);have hp:=qlc 32 l [];have hnum:=qdr 32 l [];have e1:=qap (((qaJ 32 l []).length:Int)-1) (by omega) (by omega);have e2:(((qaJ 32 l []).length:Int)-1).toNat=(qaJ 32 l []).length-1:=by omega
    have w0:(qaJ 32 l [])[(qaJ 32 l []).length-1]'(by omega)=w:=(qGy.1 w1).2;refine acx func180 [(6,[zI 0,zI 1,zI 2,zI 3,zJ 4 [1000] [],zJ 5 [6] [1000],zJ 6 [] [1000],zI 7,zI 8,zI 9,zI 10]),(14,[zI 0,zI 1,zI 2,zI 3,zJ 4 [1000] [],zJ 5 [] [1000],zJ 6 [] [1000],zJ 7 [] [1000],zJ 8 [] [1000],zJ 9 [] [1000],zJ 10 [6] [1000],zJ 11 [] [1000],zJ 12 [] [1000],zI 13,zI 14,zI 15,zI 16])] ntmps180 rfl rfl rfl ?_;simp[lnR];refine c1.call ?_;simp[qcx,e1,e2,w0,w1];refine⟨⟨by omega,by omega⟩,?_⟩;refine c2.call ?_;cases hk:(qbU w).2 with
    | false =>
     simp;exact⟨rlL x 1001 1002,by simp[rlL,lnR],1001,1002,by simp,rfl,rfl⟩
    | true =>
     simp[n2,n4,show ¬ ((qaJ 32 l []).length:Int)=2 by omega,show ¬ ((qaJ 32 l []).length:Int)=4 by omega];exact⟨rlL x 1001 1002,by simp[rlL,lnR],1001,1002,by simp,rfl,rfl⟩
 refine key.can ?_;rintro r L' ⟨i,j,hV,rfl,rfl⟩;simp only[qHq,qHz,or_false,qFR]at hV;rcases hV with⟨rfl,rfl⟩ | ⟨rfl,rfl⟩ | ⟨rfl,rfl⟩
 ·exact⟨[(1000,1000),(1001,902),(1002,903)],by simp[rlL],by simp,by simp[rlL],by simp,902,903,by simp,by simp,by simp[qah,rlL,lnR]⟩
 ·exact⟨[(1000,1000),(1001,902),(43,903)],by simp[rlL],by simp,by simp[rlL],by simp,902,903,by simp,by simp,by simp[qah,rlL,lnR]⟩
 ·exact⟨[(1000,1000),(75,902),(1002,903)],by simp[rlL],by simp,by simp[rlL],by simp,902,903,by simp,by simp,by simp[qah,rlL,lnR]⟩
theorem qxE {n:Nat} {x:RS2} (h:rdT n x) {l:List UInt8} (hl:l.length≤1000):rdT (n+1) (qdD x l).1:=by
 have hw:=qbu 32 l [];simp only[qHf,qHc]at hw;have h0:rdT (n+1) x:=⟨by have:=h.1;omega,by have:=h.2.1;omega,h.2.2⟩;unfold qdD;split
 ·split
  ·exact⟨by have:=h.1;simp only;omega,by have:=h.2.1;simp;omega,h.2.2⟩
  ·exact h0
 ·rename_i a b c d hc;rw[hc]at hw;have la:=hw a (by simp);have lc:=hw c (by simp);split
  ·exact qrr h _ _ (by omega) (by omega)
  ·exact h0
 ·exact h0
theorem qpN (t:List UInt8) (hl:t.length≤1000000):ACall prog 87 [.str t] [] (rtQ 900 901 (qhJ t)):=by
 obtain⟨R,hR⟩:∃ R,qhJ t=R:=⟨_,rfl⟩;rw[hR];have c1:=qit t 10 (by omega);have hw:=qbu 10 t [];have hnum:=qdr 10 t [];simp only[qHf,qHc]at hw;obtain⟨hd,ls,hc⟩:=qmG 10 t;refine acx func87 [] ntmps87 rfl rfl rfl ?_;by_cases h1:420<t.length
 ·have:R=(zK,false):=by
   rw[← hR];unfold qhJ;rw[if_pos (.inl h1)]
  subst this;simp[show(420:Int)<t.length by omega,h1];exact⟨[],by simp,.inl ⟨rfl,rfl,rfl⟩⟩
 rw[qAe h1,hc,qID]at hR;rw[hc]at hw hnum c1;simp[show ¬ (420:Int)<t.length by omega,h1];refine c1.call ?_;simp[qcx];refine qe8 ((qeP 900 31 (by simp)).trans ((qdw 5 1 (sz:=7) (row:=[.int .i64 0,.nils,.nils,.nils,.bool false,.nils,.int .i64 0]) (by simp) (by simp) (qcK 900 0)).trans
   ((qeP 901 3 (by simp)).trans (qdw 5 3 (sz:=7) (row:=[.int .i64 0,.sl 900 0 0,.nils,.nils,.bool false,.nils,.int .i64 0]) (by simp) (by simp) (qcK 901 0))))) ?_
 refine qaM (X:=Nat×RS2) [0,2,3,5,15,16,17] [(2,2),(5,5),(900,900),(901,901)] (fun x=>[(17,.int .i64 x.1)]) (fun x=>[(2,⟨7,[[.int .i64 0,.nils,.nils,.nils,.bool false,.nils,.int .i64 0]]⟩),(5,⟨7,[lnR x.2 900 901]⟩),(900,kcs x.2.1),(901,kpt x.2.2)]) (fun x=>ls.length-x.1)
  (fun x=>x.1≤ls.length∧rdT x.1 x.2∧qmY t (qfi qdD (ls.drop x.1) x.2)=R) (0,([],[])) ⟨by omega,⟨by simp,by simp,by simp⟩,hR⟩ ?_ (he:=by simp[qah,lnR,kcs,kpt])
 rintro⟨i,x⟩ ⟨hi,hx,hd2⟩;simp only at hi hx hd2;cases hr:ls.drop i with
 | nil =>
  have:=qaY hr;have hie:i=ls.length:=by omega
  subst hie;rw[hr]at hd2;simp only[qfi,qmY]at hd2;have hT:=qok hx (by simp at hnum;omega);have c2:=qr6 (qbf x) hT;have c3:=qoU (qbf x) (by have:=hx.1;simp only[qbf];simp at hnum;omega) hT.m8;have c4:=qf0 (qtO ((qbf x).sets.map csB) ▸ qkP ((qbf x).sets.map csB) (by have:=hx.1;simp[qbf];simp at hnum;omega) (fun b hb=>by
   obtain⟨s,hs,rfl⟩:=qGt.1 hb;simp[csB]) (fun b hb=>by
   obtain⟨s,hs,rfl⟩:=qGt.1 hb;have:=hx.2.2 s hs;simp[csB];omega)) (hca:=by simp[bk])
  rw[qmH]at c2 c3;by_cases q8:x.2.length≤8
  ·simp[lnR,show ¬ (8:Int)<x.2.length by omega,show ¬ 8<x.2.length by omega,q8,show(x.2.length:Int)≤8 by omega];refine qaS [] (by kernel_rfl) c3 (by simp[qb5,mtA,kcs,kpt,qal,qa1]) (by simp) trivial (by simp) (by simp) ?_;rintro r L' ⟨rfl,rfl⟩;refine⟨by simp[noL],by simp[qba,qoB],[(900,32)],⟨by simp,by simp,by simp,by simp,by simp⟩,?_⟩;simp only[qaf];have htk:List.take x.1.length (List.map (BS.row ∘ csB) x.1)=List.map (BS.row ∘ csB) x.1:=qGh (by simp);simp only[bk,qbf,qGA]at c4;simp;refine c4.view (by simp[qb5,mtA,qba,qbf,htk]) ?_;cases hb:qa3 (List.map csB x.1)with
   | false =>
    have ha:qii t x=false:=by simp[qii,hb]
    rw[if_neg (by simp[ha])]at hd2;subst hd2;simp;exact⟨[],by simp,.inl ⟨rfl,rfl,rfl⟩⟩
   | true =>
    simp;refine c2.view (by simp[qb5,mtA,kcs,kpt,qal,qa1]) ?_;by_cases q1:qaD (qbf x)=t
    ·have ha:qii t x=true:=by simp[qii,hb,q8,q1]
     rw[if_pos ha]at hd2;subst hd2;simp[q1];exact⟨[(900,kcs x.1),(901,kpt x.2)],by simp[qah],.inr ⟨x,rfl,by simp[lnR],rfl⟩⟩
    ·have ha:qii t x=false:=by simp[qii,q1]
     rw[if_neg (by simp[ha])]at hd2;subst hd2;simp[q1];exact⟨[],by simp,.inl ⟨rfl,rfl,rfl⟩⟩
  ·have ha:qii t x=false:=by simp[qii,q8]
   rw[if_neg (by simp[ha])]at hd2;subst hd2;simp[lnR,show(8:Int)<x.2.length by omega,show 8<x.2.length by omega,q8,show ¬ (x.2.length:Int)≤8 by omega];exact⟨[],by simp,.inl ⟨rfl,rfl,rfl⟩⟩
 | cons l r =>
  obtain⟨g1,e0,e1,g3⟩:=qaZ hr;have hwl:=hw l (by simp[qHT e1]);have c2:=qBi x l (by omega) (by have:=hx.1;simp at hnum;omega) (by have:=hx.2.1;simp at hnum;omega);have hT:=qxE hx (l:=l) (by omega);have e2:=qap ((i:Int)+1) (by simp at hnum;omega) (by simp at hnum;omega);rw[hr]at hd2;simp only[rlL,lnR]at c2;simp[lnR,g1,e0,e1,qcx];refine qac [(1000,.whole 5),(1001,.whole 900),(1002,.whole 901)] (by kernel_rfl) c2 (by simp) (by simp) (by simp;exact⟨.inr ⟨_,_,rfl,rfl,by simp⟩,qaa rfl (qa5 _),qaa rfl (qbq _)⟩) (by simp) (by simp) ?_;rintro r' L' ⟨j1,j2,hV,rfl,rfl⟩;simp only[qHq,qHz,or_false,qFR]at hV;obtain⟨rfl,rfl⟩:=hV;refine⟨[(902,902),(903,903)],⟨by simp[rlL],by simp,by simp,by simp[rlL],by simp[rlL]⟩,?_⟩;simp only[qaf];cases hk:(qdD x l).2 with
  | false =>
   rw[qlO hk]at hd2;simp only[qmY]at hd2;subst hd2;simp[rlL,lnR];exact⟨[],by simp,.inl ⟨rfl,rfl,rfl⟩⟩
  | true =>
   rw[qlL hk]at hd2;simp[rlL,lnR];refine nx (i+1,(qdD x l).1) [(2,2),(5,5),(902,900),(903,901)] ⟨by simp only;omega,hT,by simp only[g3];exact hd2⟩ (by simp only;omega) (h4:=?_);simp[qah,e2,lnR]
theorem qr7 (d:DK) (h:DkT d) (side at':Int):CV prog 171 [.agg d.row,.int .i64 side,.int .i64 at'] (.tup [.str (qbJ d side at').1,.bool (qbJ d side at').2]):=by
 have c1:=qgk d h;have c2:=qh2 d h side at';have hse:qbb d side at' []=qm7 d.s0.length side at':=by simp[qbb,qm7]
 unfold qbJ;rw[hse];simp only[DK.row]at c1 c2;refine cvx func171 [] ntmps171 rfl rfl rfl ?_ (hca:=by simp[DK.row]);simp[DK.row];refine c1.call ?_;cases g1:qbr d with
 | false=>simp
 | true =>
  simp;refine c2.call ?_;cases g2:qm7 d.s0.length side at' with
  | false=>simp
  | true =>
   obtain⟨n1,n2,n3⟩:=thereB_iff.1 (hse.trans g2);have c3:=qr5 d h side at' n1 n2 (qbM g1).2.2.1;simp only[DK.row]at c3;simp;refine c3.call ?_;simp
theorem qeh (d:DK) (side at':Int):(qbJ d side at').1.length≤420:=by
 unfold qbJ;split
 ·rename_i h;simp only[Bool.and_eq_true]at h;exact qeT h.1 side at'
 ·simp
def qjK (d:DK) (b:Int×PT) (at' side:Int):Int×PT:=if (qmT (qbJ d side at').1).2=true∧b.1<(qmT (qbJ d side at').1).1.1 then (qmT (qbJ d side at').1).1 else b
def rbN (d:DK):Nat→Int×PT
 | 0=>(0,zPT)
 | i+1=>qjK d (qjK d (rbN d i) (i+1) 0) (i+1) 1
def rbI (d:DK) (i j:Nat):Int×PT:=if j=0 then rbN d i else if j=1 then qjK d (rbN d i) (i+1) 0 else rbN d (i+1)
theorem qol (d:DK) (i j:Nat) (hj:j<2):rbI d i (j+1)=qjK d (rbI d i j) ((i:Int)+1) j:=by
 have:j=0∨j=1:=by omega
 rcases this with rfl | rfl
 ·rfl
 ·rfl
def rbB (d:DK):Int×PT:=rbN d 4
theorem qvd (d:DK) (h:DkT d):CV prog 30 [.agg d.row] (.tup [.int .i64 (rbB d).1,.agg (rbB d).2.row,.bool (decide (0<(rbB d).1))]):=by
 refine cvx func30 [(14,[zI 0,zJ 1 [6] [],zJ 2 [] [6],zJ 3 [] [6],zJ 4 [] [6],zI 5,zI 6])] ntmps30 rfl rfl rfl ?_ (hca:=by simp[DK.row]) (hcv:=by simp[PT.row]);simp[DK.row];refine qaM (X:=Nat) [1,2,3,4,5,6,7] [(1,1),(3,3),(6,6)] (fun i=>[(5,.int .i64 (rbN d i).1),(7,.int .i64 (i+1))]) (fun i=>[(1,⟨3,[d.row]⟩),(3,⟨3,[zPT.row]⟩),(6,⟨3,[(rbN d i).2.row]⟩)]) (fun i=>4-i) (fun i=>i≤4) 0 (by simp) ?_ (he:=by simp[qah,DK.row,zPT,PT.row,rbN]);rintro i hi;by_cases h4:i<4
 ·have e2:=qap ((i:Int)+1+1) (by omega) (by omega);simp[show(i:Int)+1<5 by omega,DK.row,PT.row];refine qaM (X:=Nat) [1,2,3,4,5,6,7,8] [(1,1),(3,3),(6,6)] (fun j=>[(5,.int .i64 (rbI d i j).1),(8,.int .i64 j)]) (fun j=>[(1,⟨3,[d.row]⟩),(3,⟨3,[zPT.row]⟩),(6,⟨3,[(rbI d i j).2.row]⟩)]) (fun j=>2-j) (fun j=>j≤2) 0 (by simp) ?_ (he:=by simp[qah,DK.row,zPT,PT.row,rbI]);rintro j hj;by_cases h2:j<2
  ·have e3:=qap ((j:Int)+1) (by omega) (by omega);have c1:=qn9 d h j ((i:Int)+1);have hl:=qeh d j ((i:Int)+1);have c2:=qpw (qbJ d j ((i:Int)+1)).1 (by omega);have hst:=qol d i j h2;unfold qjK at hst;simp only[DK.row]at c1;simp only[PT.row]at c2;simp[show(j:Int)<2 by omega,h2,DK.row,PT.row];refine c1.call ?_;simp;refine c2.call ?_;generalize qmT (qbJ d j ((i:Int)+1)).1=u at *
   obtain⟨⟨un,up⟩,uk⟩:=u;simp only at hst;cases uk with
   | false =>
    rw[if_neg (by simp)]at hst;simp[PT.row];refine nx (j+1) [(1,1),(3,3),(6,6)] (by omega) (h4:=?_);simp[qah,e3,hst,DK.row,zPT,PT.row]
   | true =>
    by_cases q:(rbI d i j).1<un
    ·rw[if_pos ⟨rfl,q⟩]at hst;simp[q,PT.row];refine nx (j+1) [(1,1),(3,3),(6,6)] (by omega) (h4:=?_);simp[qah,e3,hst,DK.row,zPT,PT.row]
    ·rw[if_neg fun e=>q e.2]at hst;simp[q,PT.row];refine nx (j+1) [(1,1),(3,3),(6,6)] (by omega) (h4:=?_);simp[qah,e3,hst,DK.row,zPT,PT.row]
  ·have hje:j=2:=by omega
   subst hje;simp[DK.row,PT.row];refine nx (i+1) [(1,1),(3,3),(6,6)] (by omega) (h4:=?_);simp[qah,e2,rbI,DK.row,zPT,PT.row]
 ·have hie:i=4:=by omega
  subst hie;simp[DK.row,PT.row,rbB]
  first
   | rfl
   | congr
theorem qvu (d:DK) (h:DkT d):CV prog 85 [.agg d.row] (.tup [.int .i64 (rbB d).1,.agg (rbB d).2.row,.bool (decide (0<(rbB d).1))]):=by
 refine cvx func85 [(11,[zI 0,zJ 1 [12] [],zJ 2 [] [12],zI 3]),(14,[zI 0,zJ 1 [6] [],zJ 2 [] [6],zJ 3 [] [6],zJ 4 [] [6],zI 5,zI 6])] ntmps85 rfl rfl rfl ?_ (hca:=by simp[DK.row]) (hcv:=by simp[PT.row]);simp[DK.row];refine qaM (X:=Nat) [1,2,3,4,5,6,15] [(1,1),(3,3),(6,6)] (fun i=>[(5,.int .i64 (rbN d i).1),(15,.int .i64 i)]) (fun i=>[(1,⟨3,[d.row]⟩),(3,⟨3,[zPT.row]⟩),(6,⟨3,[(rbN d i).2.row]⟩)]) (fun i=>4-i) (fun i=>i≤4) 0 (by simp) ?_ (he:=by simp[qah,DK.row,zPT,PT.row,rbN]);rintro i hi;by_cases h4:i<4
 ·have e2:=qap ((i:Int)+1) (by omega) (by omega);have e4:IntKind.i64.wrap (1+(i:Int))=(i:Int)+1:=by rw[qap _ (by omega) (by omega)];omega
  simp[show(i:Int)<4 by omega,h4,DK.row,PT.row];refine qaM (X:=Nat) [1,2,3,4,5,6,7,15,18] [(1,1),(3,3),(6,6)] (fun j=>[(5,.int .i64 (rbI d i j).1),(18,.int .i64 j)]) (fun j=>[(1,⟨3,[d.row]⟩),(3,⟨3,[zPT.row]⟩),(6,⟨3,[(rbI d i j).2.row]⟩)]) (fun j=>2-j) (fun j=>j≤2) 0 (by simp) ?_ (he:=by simp[qah,DK.row,zPT,PT.row,rbI]);rintro j hj;by_cases h2:j<2
  ·have e3:=qap ((j:Int)+1) (by omega) (by omega);have c1:=qr7 d h j ((i:Int)+1);have hl:=qeh d j ((i:Int)+1);have c2:=qpM (qbJ d j ((i:Int)+1)).1 (by omega);have hst:=qol d i j h2;unfold qjK at hst;simp only[DK.row]at c1;simp only[PT.row]at c2;simp[show(j:Int)<2 by omega,h2,e4,DK.row,PT.row];refine c1.call ?_;simp;refine c2.call ?_;generalize qmT (qbJ d j ((i:Int)+1)).1=u at *
   obtain⟨⟨un,up⟩,uk⟩:=u;simp only at hst;cases uk with
   | false =>
    rw[if_neg (by simp)]at hst;simp[PT.row];refine nx (j+1) [(1,1),(3,3),(6,6)] (by omega) (h4:=?_);simp[qah,e3,hst,DK.row,zPT,PT.row]
   | true =>
    by_cases q:(rbI d i j).1<un
    ·rw[if_pos ⟨rfl,q⟩]at hst;simp[q,PT.row];refine nx (j+1) [(1,1),(3,3),(6,6)] (by omega) (h4:=?_);simp[qah,e3,hst,DK.row,zPT,PT.row]
    ·rw[if_neg fun e=>q e.2]at hst;simp[q,PT.row];refine nx (j+1) [(1,1),(3,3),(6,6)] (by omega) (h4:=?_);simp[qah,e3,hst,DK.row,zPT,PT.row]
  ·have hje:j=2:=by omega
   subst hje;simp[DK.row,PT.row];refine nx (i+1) [(1,1),(3,3),(6,6)] (by omega) (h4:=?_);simp[qah,e2,rbI,DK.row,zPT,PT.row]
 ·have hie:i=4:=by omega
  subst hie;simp[DK.row,PT.row,rbB]
  first
   | rfl
   | congr
def qhM (l:List BO):Ob:=⟨5,l.map BO.row⟩
theorem quE (l:List BO):clR (qhM l).els=true:=by simp[clR,qhM,BO.row]
def qeM (d:DK) (i:Nat) (side:Int):LR×Bool:=qjk (qbJ d side (5+(i:Int))).1
def qeN (d:DK) (txg:Int) (i:Nat) (side:Int):Bool:=(qeM d i side).2 && decide ((qeM d i side).1.txg=txg) && decide ((qeM d i side).1.seq=i)
def qqe (d:DK) (txg:Int) (i:Nat):Option BO:=if qeN d txg i 0=true then some (qeM d i 0).1.op else if qeN d txg i 1=true then some (qeM d i 1).1.op else none
def tkS:List (Option BO)→List BO
 | some o::r=>o::tkS r
 | _=>[]
def lfF (d:DK) (txg:Int) (k i:Nat):List BO:=tkS ((List.range' i k).map (qqe d txg))
theorem qA0 (d:DK) (txg:Int) (i:Nat):lfF d txg 0 i=[]:=by simp[lfF,tkS]
@[simp] theorem qDH (ρ:Nat→Option Plc):qb6 ρ ∘ BO.row=BO.row:=by
 funext o
 simp[BO.row]
theorem qAZ (d:DK) (txg:Int) (k i:Nat):lfF d txg (k+1) i=match qqe d txg i with
  | some o=>o::lfF d txg k (i+1)
  | none=>[]:=by
 simp only[lfF,List.range'_succ,qGs];generalize qqe d txg i=x;cases x <;> rfl
theorem qeZ (d:DK) (i:Nat) (side:Int):qeM d i side=qjk (qbJ d side (5+(i:Int))).1:=rfl
theorem qeu (d:DK) (txg:Int) (i:Nat) (side:Int):qeN d txg i side=((qeM d i side).2 && decide ((qeM d i side).1.txg=txg) && decide ((qeM d i side).1.seq=i)):=rfl
theorem qky (d:DK) (txg:Int) (i:Nat):qqe d txg i=if qeN d txg i 0=true then some (qeM d i 0).1.op else if qeN d txg i 1=true then some (qeM d i 1).1.op else none:=rfl
theorem qrU (d:DK) (txg:Int) (k i:Nat):lfF d txg k i=tkS ((List.range' i k).map (qqe d txg)):=rfl
attribute [irreducible] lfF qqe qeN qeM
def lfB (d:DK) (txg:Int):List BO:=lfF d txg 8 0
theorem qAY {f:Nat} {args:List AV} {R:List BO} (h:ACall prog f args [] (fun r L'=>(R=[]∧r=.nils∧L'=[])∨(r=.sl 900 0 R.length∧L'=[(900,qhM R)]))) (he:qb1 prog f=true) (ha:clL args=true):CV prog f args (.lst 5 (R.map BO.row)):=by
 refine CV.of_frz h ?_ (he:=he) (hca:=ha) (hcv:=by simp[BO.row]);rintro r L' (⟨rfl,rfl,rfl⟩ | ⟨rfl,rfl⟩)
 ·refine⟨by simp,by simp,by simp,?_⟩;simp only[qa7,qHF];exact qa2 5
 ·refine⟨by simp,by simp,fun x hx=>by simp only[qIx]at hx;subst hx;exact quE _,?_⟩;simp[qa7,qhM,qal]
theorem qDw (d:DK) (h:DkT d) (txg:Int) (i:Nat) (hi:i<8):CV prog 202 [.agg d.row,.int .i64 txg,.int .i64 i] (.tup [.agg ((qqe d txg i).getD zBO).row,.bool (qqe d txg i).isSome]):=by
 obtain⟨R,hR⟩:∃ R,qqe d txg i=R:=⟨_,rfl⟩;rw[hR];rw[qky]at hR;have e1:=qap (5+(i:Int)) (by omega) (by omega);refine cvx func202 [] ntmps202 rfl rfl rfl ?_ (hca:=by simp[DK.row]) (hcv:=by simp[BO.row]);simp[DK.row];refine qaM (X:=Nat) [1,2,3,6,7,8] [(3,3),(6,6)] (fun j=>[(8,.int .i64 j)]) (fun j=>[(3,⟨3,[d.row]⟩),(6,⟨5,[zBO.row]⟩)]) (fun j=>2-j) (fun j=>j=0∨(j=1∧qeN d txg i 0=false)∨(j=2∧qeN d txg i 0=false∧qeN d txg i 1=false)) 0 (.inl rfl) ?_ (he:=by simp[qah,DK.row,zBO,BO.row]);have body:∀ side:Int,(qeM d i side).2=true→(qeM d i side).1.txg=txg→(qeM d i side).1.seq=i→qeN d txg i side=true:=fun side a b c=>by rw[qeu];simp[a,b,c]
 rintro j (rfl | ⟨rfl,q0⟩ | ⟨rfl,q0,q1⟩)
 ·have c1:=qn9 d h 0 (5+(i:Int));have hl:=qeh d 0 (5+(i:Int));have c2:=qlI (qbJ d 0 (5+(i:Int))).1 (by omega);have hh:qeN d txg i 0=((qeM d i 0).2 && decide ((qeM d i 0).1.txg=txg) && decide ((qeM d i 0).1.seq=i)):=qeu d txg i 0;simp only[DK.row]at c1;simp only[LR.row,BO.row]at c2;simp[DK.row,e1];refine c1.call ?_;simp;refine c2.call ?_;rw[← qeZ];generalize qeM d i 0=u at *
  obtain⟨⟨ut,us,uo⟩,uk⟩:=u;simp only at hh hR;cases uk with
  | false =>
   have hf:qeN d txg i 0=false:=by simpa using hh
   simp;exact nx 1 [(3,3),(6,6)] (by simp[hf]) (h4:=by simp[qah,DK.row,zBO,BO.row])
  | true =>
   by_cases a:ut=txg
   ·by_cases b:us=i
    ·have ht:qeN d txg i 0=true:=by simp[hh,a,b]
     rw[if_pos ht]at hR;subst hR;simp[a,b,BO.row]
    ·have hf:qeN d txg i 0=false:=by simp[hh,b]
     simp[a,b];exact nx 1 [(3,3),(6,6)] (by simp[hf]) (h4:=by simp[qah,DK.row,zBO,BO.row])
   ·have hf:qeN d txg i 0=false:=by simp[hh,a]
    simp[a];exact nx 1 [(3,3),(6,6)] (by simp[hf]) (h4:=by simp[qah,DK.row,zBO,BO.row])
 ·rw[if_neg (by simp[q0])]at hR;have c1:=qn9 d h 1 (5+(i:Int));have hl:=qeh d 1 (5+(i:Int));have c2:=qlI (qbJ d 1 (5+(i:Int))).1 (by omega);have hh:qeN d txg i 1=((qeM d i 1).2 && decide ((qeM d i 1).1.txg=txg) && decide ((qeM d i 1).1.seq=i)):=qeu d txg i 1;simp only[DK.row]at c1;simp only[LR.row,BO.row]at c2;simp[DK.row,e1];refine c1.call ?_;simp;refine c2.call ?_;rw[← qeZ];generalize qeM d i 1=u at *
  obtain⟨⟨ut,us,uo⟩,uk⟩:=u;simp only at hh hR;cases uk with
  | false =>
   have hf:qeN d txg i 1=false:=by simpa using hh
   simp;exact nx 2 [(3,3),(6,6)] (by simp[hf,q0]) (h4:=by simp[qah,DK.row,zBO,BO.row])
  | true =>
   by_cases a:ut=txg
   ·by_cases b:us=i
    ·have ht:qeN d txg i 1=true:=by simp[hh,a,b]
     rw[if_pos ht]at hR;subst hR;simp[a,b,BO.row]
    ·have hf:qeN d txg i 1=false:=by simp[hh,b]
     simp[a,b];exact nx 2 [(3,3),(6,6)] (by simp[hf,q0]) (h4:=by simp[qah,DK.row,zBO,BO.row])
   ·have hf:qeN d txg i 1=false:=by simp[hh,a]
    simp[a];exact nx 2 [(3,3),(6,6)] (by simp[hf,q0]) (h4:=by simp[qah,DK.row,zBO,BO.row])
 ·rw[if_neg (by simp[q0]),if_neg (by simp[q1])]at hR;subst hR;simp[zBO,BO.row]
theorem qlJ (d:DK) (h:DkT d) (txg:Int):CV prog 99 [.agg d.row,.int .i64 txg] (.lst 5 ((lfB d txg).map BO.row)):=by
 refine qAY ?_ (by kernel_rfl) (by simp[DK.row]);obtain⟨R,hR⟩:∃ R,lfB d txg=R:=⟨_,rfl⟩;rw[hR];unfold lfB at hR;refine acx func99 [] ntmps99 rfl rfl rfl ?_;simp[DK.row];refine qaM (X:=Nat×List BO) [1,2,4,5,6] [(2,2),(9,900)] (fun x=>[(5,.sl 900 0 x.2.length),(6,.int .i64 x.1)]) (fun x=>[(2,⟨3,[d.row]⟩),(900,qhM x.2)]) (fun x=>8-x.1) (fun x=>x.1≤8∧x.2.length=x.1∧x.2++lfF d txg (8-x.1) x.1=R) (0,[]) (by simp[hR]) ?_ (he:=by simp[qah,qhM,DK.row]);rintro⟨i,acc⟩ ⟨hi,ha,hd⟩;simp only at hi ha hd;by_cases h8:i<8
 ·have e2:=qap ((i:Int)+1) (by omega) (by omega);have c1:=qDw d h txg i h8;rw[show 8-i=(8-(i+1))+1 by omega,qAZ]at hd;simp only[DK.row]at c1;simp[show(i:Int)<8 by omega,h8,DK.row];refine c1.call ?_;cases hr:qqe d txg i with
  | none =>
   rw[hr]at hd;simp only[qH6]at hd;subst hd;simp[BO.row]
  | some o =>
   rw[hr]at hd;simp only at hd;simp[BO.row,qhM];refine⟨by omega,nx (i+1,acc++[o]) [(2,2),(27,900)] ⟨by simp only;omega,by simp[ha],by simp only;rw[List.append_assoc];exact hd⟩ (by simp only;omega) (h4:=?_)⟩;simp[qah,e2,qhM,DK.row,qal,BO.row]
 ·have hie:i=8:=by omega
  subst hie;simp only[Nat.sub_self,qA0,qH6]at hd;subst hd;simp
def lfI (d:DK) (txg:Int) (i j:Nat):Option BO:=if j=0 then none else if j=1 then (if qeN d txg i 0=true then some (qeM d i 0).1.op else none) else qqe d txg i
theorem qmf (d:DK) (h:DkT d) (txg:Int):CV prog 106 [.agg d.row,.int .i64 txg] (.lst 5 ((lfB d txg).map BO.row)):=by
 refine qAY ?_ (by kernel_rfl) (by simp[DK.row]);obtain⟨R,hR⟩:∃ R,lfB d txg=R:=⟨_,rfl⟩;rw[hR];unfold lfB at hR;refine acx func106 [] ntmps106 rfl rfl rfl ?_;simp[DK.row];refine qe8 (qkf 5 5 (by simp) (by simp)) ?_;refine qaM (X:=Nat×List BO) [1,2,4,5,13] [(2,2),(5,900)] (fun x=>[(5,.sl 900 0 x.2.length),(13,.int .i64 x.1)]) (fun x=>[(2,⟨3,[d.row]⟩),(900,qhM x.2)]) (fun x=>8-x.1) (fun x=>x.1≤8∧x.2.length=x.1∧x.2++lfF d txg (8-x.1) x.1=R) (0,[]) (by simp[hR]) ?_ (he:=by simp[qah,qhM,DK.row]);rintro⟨i,acc⟩ ⟨hi,ha,hd⟩;simp only at hi ha hd;by_cases h8:i<8
 ·have e2:=qap ((i:Int)+1) (by omega) (by omega);have e1:=qap (5+(i:Int)) (by omega) (by omega);rw[show 8-i=(8-(i+1))+1 by omega,qAZ]at hd;simp[show(i:Int)<8 by omega,h8,DK.row];refine qaM (X:=Nat) [1,2,4,5,6,7,13,16] [(2,2),(900,900)] (fun j=>[(5,.sl 900 0 (acc++(lfI d txg i j).toList).length),(7,.bool (lfI d txg i j).isSome),(16,.int .i64 j)]) (fun j=>[(2,⟨3,[d.row]⟩),(900,qhM (acc++(lfI d txg i j).toList))]) (fun j=>2-j) (fun j=>j≤2) 0 (by simp) ?_ (he:=by simp[qah,qhM,DK.row,lfI]);rintro j hj;have hjj:j=0∨j=1∨j=2:=by omega
  rcases hjj with rfl | rfl | rfl
  ·have c1:=qr7 d h 0 (5+(i:Int));have hl:=qeh d 0 (5+(i:Int));have c2:=qme (qbJ d 0 (5+(i:Int))).1 (by omega);have hh:qeN d txg i 0=((qeM d i 0).2 && decide ((qeM d i 0).1.txg=txg) && decide ((qeM d i 0).1.seq=i)):=qeu d txg i 0;have h0:lfI d txg i 0=none:=rfl;have h1:lfI d txg i 1=(if qeN d txg i 0=true then some (qeM d i 0).1.op else none):=rfl
   simp only[DK.row]at c1;simp only[LR.row,BO.row]at c2;simp[DK.row,e1,h0];refine c1.call ?_;simp;refine c2.call ?_;rw[← qeZ];generalize qeM d i 0=u at *
   obtain⟨⟨ut,us,uo⟩,uk⟩:=u;simp only at hh h1;cases uk with
   | false =>
    have hf:qeN d txg i 0=false:=by simpa using hh
    simp[h0];refine nx 1 [(2,2),(900,900)] (by omega) (h4:=?_);simp[qah,qhM,DK.row,h0,h1,hf,BO.row]
   | true =>
    by_cases a:ut=txg
    ·by_cases b:us=i
     ·have ht:qeN d txg i 0=true:=by simp[hh,a,b]
      simp[h0,a,b,qhM,BO.row];refine⟨by omega,nx 1 [(2,2),(53,900)] (by omega) (h4:=?_)⟩;simp[qah,qhM,DK.row,h0,h1,ht,BO.row,qal]
     ·have hf:qeN d txg i 0=false:=by simp[hh,b]
      simp[h0,a,b];refine nx 1 [(2,2),(900,900)] (by omega) (h4:=?_);simp[qah,qhM,DK.row,h0,h1,hf,BO.row]
    ·have hf:qeN d txg i 0=false:=by simp[hh,a]
     simp[h0,a];refine nx 1 [(2,2),(900,900)] (by omega) (h4:=?_);simp[qah,qhM,DK.row,h0,h1,hf,BO.row]
  ·have c1:=qr7 d h 1 (5+(i:Int));have hl:=qeh d 1 (5+(i:Int));have c2:=qme (qbJ d 1 (5+(i:Int))).1 (by omega);have hh:qeN d txg i 1=((qeM d i 1).2 && decide ((qeM d i 1).1.txg=txg) && decide ((qeM d i 1).1.seq=i)):=qeu d txg i 1;have h0:lfI d txg i 1=(if qeN d txg i 0=true then some (qeM d i 0).1.op else none):=rfl
   have h1:lfI d txg i 2=(if qeN d txg i 0=true then some (qeM d i 0).1.op else if qeN d txg i 1=true then some (qeM d i 1).1.op else none):=qky d txg i
   simp only[DK.row]at c1;simp only[LR.row,BO.row]at c2;simp[DK.row,e1];refine c1.call ?_;simp;refine c2.call ?_;cases g0:qeN d txg i 0 with
   | true =>
    rw[if_pos g0]at h0 h1;cases uk2:(qjk (qbJ d 1 (5+(i:Int))).1).2 with
    | false =>
     simp[h0];refine nx 2 [(2,2),(900,900)] (by omega) (h4:=?_);simp[qah,qhM,DK.row,h0,h1,BO.row]
    | true =>
     simp[h0];refine nx 2 [(2,2),(900,900)] (by omega) (h4:=?_);simp[qah,qhM,DK.row,h0,h1,BO.row]
   | false =>
    rw[if_neg (by simp[g0])]at h0 h1;rw[← qeZ];generalize qeM d i 1=u at *
    obtain⟨⟨ut,us,uo⟩,uk⟩:=u;simp only at hh h1;cases uk with
    | false =>
     have hf:qeN d txg i 1=false:=by simpa using hh
     simp[h0];refine nx 2 [(2,2),(900,900)] (by omega) (h4:=?_);simp[qah,qhM,DK.row,h0,h1,hf,BO.row]
    | true =>
     by_cases a:ut=txg
     ·by_cases b:us=i
      ·have ht:qeN d txg i 1=true:=by simp[hh,a,b]
       simp[h0,a,b,qhM,BO.row];refine⟨by omega,nx 2 [(2,2),(53,900)] (by omega) (h4:=?_)⟩;simp[qah,qhM,DK.row,h0,h1,ht,BO.row,qal]
      ·have hf:qeN d txg i 1=false:=by simp[hh,b]
       simp[h0,a,b];refine nx 2 [(2,2),(900,900)] (by omega) (h4:=?_);simp[qah,qhM,DK.row,h0,h1,hf,BO.row]
     ·have hf:qeN d txg i 1=false:=by simp[hh,a]
      simp[h0,a];refine nx 2 [(2,2),(900,900)] (by omega) (h4:=?_);simp[qah,qhM,DK.row,h0,h1,hf,BO.row]
  ·simp[DK.row];cases hr:qqe d txg i with
   | none =>
    rw[hr]at hd;simp only[qH6]at hd;subst hd;simp[lfI,hr]
   | some o =>
    rw[hr]at hd;simp only at hd;simp[lfI,hr];refine nx (i+1,acc++[o]) [(2,2),(900,900)] ⟨by simp only;omega,by simp[ha],by simp only;rw[List.append_assoc];exact hd⟩ (by simp only;omega) (h4:=?_);simp[qah,e2,qhM,DK.row,lfI,hr,BO.row]
 ·have hie:i=8:=by omega
  subst hie;simp only[Nat.sub_self,qA0,qH6]at hd;subst hd;simp
def cbT (d:DK) (p:PT):List UInt8:=(qag d p).1
def cbP (d:DK) (p:PT):Bool:=!(decide ((qag d p).2=2)) && decide ((cbT d p).length≤24)
def cbS (d:DK) (s:CS):BS:=⟨s.name,s.kind,s.frm,s.map.map (cbT d)⟩
def cbA (d:DK) (l:List CS):Bool:=l.all fun s=>s.map.all (cbP d)
def cbB (d:DK) (c:CO):List BS×Bool:=if qbr d=true∧qak c=true∧cbA d c.sets=true then (c.sets.map (cbS d),true) else ([],false)
def cbM (d:DK) (s:CS) (j:Nat):BS:=⟨s.name,s.kind,s.frm,(s.map.take j).map (cbT d)++List.replicate (8-j) []⟩
def cbN (d:DK) (l:List CS) (i:Nat):List BS:=(l.take i).map (cbS d)++(l.drop i).map csB
theorem qEH (d:DK) (s:CS):cbM d s 0=csB s:=by simp[cbM,csB]
theorem qEG (d:DK) (s:CS) (h:s.map.length=8):cbM d s 8=cbS d s:=by
 simp[cbM,cbS,qGh (show s.map.length≤8 by omega)]
theorem qsP (d:DK) (s:CS) (j:Nat) (h:s.map.length=8) (hj:j≤8):(cbM d s j).bl.length=8:=by
 simp[cbM];omega
theorem qpg (d:DK) (s:CS) (j:Nat) (p:PT) (h:s.map.length=8) (hj:j<8) (hp:s.map[j]?=some p):{ cbM d s j with bl:=(cbM d s j).bl.set j (cbT d p) }=cbM d s (j+1):=by
 have h1:s.map.take (j+1)=s.map.take j++[p]:=by
  rw[qHN,hp];rfl
 have h2:List.replicate (8-j) ([]:List UInt8)=[]::List.replicate (8-(j+1)) []:=by
  rw[show 8-j=(8-(j+1))+1 by omega,List.replicate_succ]
 simp only[cbM,h1,h2,qH4,qGs,qHF];rw[qI3 _ _ (by simp;omega)];simp[h,show min j 8=j by omega]
theorem qB0 (d:DK) (l:List CS):cbN d l 0=l.map csB:=by simp[cbN]
theorem qll (d:DK) (l:List CS) (i:Nat):(cbN d l i).length=l.length:=by
 simp[cbN];omega
theorem qsO (d:DK) (l:List CS):cbN d l l.length=l.map (cbS d):=by simp[cbN]
theorem qsN {d:DK} {l:List CS} {i:Nat} {s:CS} (hs:l[i]?=some s) (x:BS):(cbN d l i).set i x=(l.take i).map (cbS d)++x::(l.drop (i+1)).map csB:=by
 have hl:=(qGy.1 hs).1;have hd:l.drop i=s::l.drop (i+1):=by
  have:=(qGy.1 hs).2;rw[← this];exact qF7 hl
 unfold cbN;rw[hd,qGs,qI3 _ _ (by simp;omega)];simp[show min i l.length=i by omega]
theorem qpe {d:DK} {l:List CS} {i:Nat} {s:CS} (hs:l[i]?=some s):(cbN d l i).set i (cbM d s 0)=cbN d l i:=by
 have hl:=(qGy.1 hs).1;have hd:l.drop i=s::l.drop (i+1):=by
  have:=(qGy.1 hs).2;rw[← this];exact qF7 hl
 rw[qsN hs,qEH];unfold cbN;rw[hd,qGs]
theorem qpf {d:DK} {l:List CS} {i:Nat} {s:CS} (hs:l[i]?=some s) (h8:s.map.length=8):(cbN d l i).set i (cbM d s 8)=cbN d l (i+1):=by
 rw[qsN hs,qEG d s h8];unfold cbN;rw[qHN,hs];simp
def cbQ (R:List BS×Bool) (r:AV) (L':List (Nat×Ob)):Prop:=(R=([],false)∧r=.tup [.agg [.nils],.bool false]∧L'=[])∨(∃ bs,R=(bs,true)∧r=.tup [.agg [.sl 900 0 bs.length],.bool true]∧L'=[(900,qba bs)])
theorem qvU {f:Nat} {args:List AV} {R:List BS×Bool} (h:ACall prog f args [] (cbQ R)) (he:qb1 prog f=true) (ha:clL args=true):CV prog f args (.tup [bk R.1,.bool R.2]):=by
 refine CV.of_frz h ?_ (he:=he) (hca:=ha) (hcv:=by simp[bk]);rintro r L' (⟨rfl,rfl,rfl⟩ | ⟨bs,rfl,rfl,rfl⟩)
 ·refine⟨by simp,by simp,by simp,?_⟩;simp only[qa7,bk,qHF];exact qdl (.cons (qiU (.cons (qa2 11) .nil)) (.cons (qaE _) .nil))
 ·refine⟨by simp,by simp,fun x hx=>by simp only[qIx]at hx;subst hx;exact qsL _,?_⟩;simp[qa7,qba,bk,qal]
theorem qph {d:DK} {l:List CS} {i:Nat} {s:CS} (hs:l[i]?=some s) (h:cbA d (l.take i)=true) (h2:s.map.all (cbP d)=true):cbA d (l.take (i+1))=true:=by
 rw[qHN,hs];unfold cbA at *
 rw[qHO,h];simp[h2]
theorem qpi {d:DK} {l:List CS} {s:CS} {p:PT} (hs:s∈l) (hp:p∈s.map) (h:cbP d p=false):cbA d l=false:=by
 cases hk:cbA d l with
 | false=>rfl
 | true =>
  unfold cbA at hk;rw[qGf]at hk;have:=hk s hs;rw[qGf]at this;rw[this p hp]at h;cases h
theorem qmR {d:DK} {l:List PT} {j:Nat} {p:PT} (hp:l[j]?=some p) (h:(l.take j).all (cbP d)=true) (h2:cbP d p=true):(l.take (j+1)).all (cbP d)=true:=by
 rw[qHN,hp,qHO,h];simp[h2]
theorem qvc (d:DK) (h:DkT d) (c:CO) (hc:CoT c):CV prog 135 [.agg d.row,.agg c.row] (.tup [bk (cbB d c).1,.bool (cbB d c).2]):=by
 refine qvU ?_ (by kernel_rfl) (by simp[DK.row,qb3]);obtain⟨R,hR⟩:∃ R,cbB d c=R:=⟨_,rfl⟩;rw[hR];unfold cbB at hR;have c1:=qdN d h;have c2:=qks c hc;have hs:=hc.sets;have c3:=qkr c (by omega) hc.m8;simp only[DK.row,CO.row]at c1 c2 c3;refine acx func135 [(10,[zJ 0 [2] [],zJ 1 [] [2],zJ 2 [3] [2],zJ 3 [] [2,3],zJ 4 [] [2,3],zJ 5 [] [2],zJ 6 [] [2],zJ 7 [] [2],zJ 8 [] [2],zI 9,zI 10,zI 11,zI 12,zI 13,zI 14])] ntmps135 rfl rfl rfl ?_;simp -implicitDefEqProofs [DK.row,CO.row];refine c1.call ?_;cases k1:qbr d with
 | false =>
  rw[if_neg (by simp[k1])]at hR;subst hR;simp -implicitDefEqProofs;exact⟨[],by simp,.inl ⟨rfl,rfl,rfl⟩⟩
 | true =>
  simp -implicitDefEqProofs;refine c2.call ?_;cases k2:qak c with
  | false =>
   rw[if_neg (by simp[k2])]at hR;subst hR;simp -implicitDefEqProofs;exact⟨[],by simp,.inl ⟨rfl,rfl,rfl⟩⟩
  | true =>
   simp -implicitDefEqProofs;refine qac [] (by kernel_rfl) c3 (by simp[qa1,DE.row,PT.row,qad]) (by simp) trivial (by simp) (by simp) ?_;rintro r L' ⟨rfl,rfl⟩;refine⟨[(900,900)],⟨by simp,by simp,by simp,by simp,by simp⟩,?_⟩;simp only[qaf];simp -implicitDefEqProofs;refine qaM (X:=Nat) [2,3,4,5,6,7] [(2,2),(3,3),(4,4),(6,6),(900,900)] (fun i=>[(7,.int .i64 i)]) (fun i=>[(2,⟨3,[d.row]⟩),(3,⟨7,[c.row]⟩),(4,⟨1,[[.nils]]⟩),(6,⟨1,[[.sl 900 0 c.sets.length]]⟩),(900,qba (cbN d c.sets i))]) (fun i=>c.sets.length-i) (fun i=>i≤c.sets.length∧cbA d (c.sets.take i)=true) 0 ⟨by omega,by simp[cbA]⟩ ?_ (he:=by simp[qah,DK.row,CO.row,qB0,qba]);rintro i ⟨hi,ha⟩;by_cases hil:i<c.sets.length
   ·obtain⟨s,f1⟩:∃ s,c.sets[i]?=some s:=⟨_,qF3 hil⟩;have f0:c.sets[i]=s:=(qGy.1 f1).2;have hm:=qHT f1;have s8:=hc.m8 s hm;have hrl:=qaC s s8;have e2:=qap ((i:Int)+1) (by omega) (by omega);simp -implicitDefEqProofs [show(i:Int)<c.sets.length by omega,hil,CO.row,DK.row];refine qaM (X:=Nat) [2,3,4,5,6,7,8] [(2,2),(3,3),(4,4),(6,6),(900,900)] (fun j=>[(8,.int .i64 j)]) (fun j=>[(2,⟨3,[d.row]⟩),(3,⟨7,[c.row]⟩),(4,⟨1,[[.nils]]⟩),(6,⟨1,[[.sl 900 0 c.sets.length]]⟩),(900,qba ((cbN d c.sets i).set i (cbM d s j)))]) (fun j=>8-j) (fun j=>j≤8∧(s.map.take j).all (cbP d)=true) 0 ⟨by omega,by simp⟩ ?_ (he:=by simp[qah,DK.row,CO.row,qpe f1,qba]);rintro j ⟨hj,hja⟩;by_cases h8:j<8
    ·obtain⟨p,p1⟩:∃ p,s.map[j]?=some p:=⟨_,qF3 (by omega)⟩;have pm:=qHT p1;have e3:=qap ((j:Int)+1) (by omega) (by omega);have c4:=qd9 d h p;have hcell:=qjc s p1;have hst:=qpg d s j p s8 h8 p1;simp only[cbT]at hst;simp only[DK.row,PT.row]at c4 hcell;simp -implicitDefEqProofs [show(j:Int)<8 by omega,h8,show(i:Int)<c.sets.length by omega,hil,f0,f1,hrl,hcell,DK.row,CO.row];refine⟨by omega,c4.call ?_⟩;by_cases q1:(qag d p).2=2
     ·have hb:cbP d p=false:=by simp[cbP,q1]
      rw[if_neg (by simp[qpi hm pm hb])]at hR;subst hR;simp -implicitDefEqProofs [q1];exact⟨[],by simp,.inl ⟨rfl,rfl,rfl⟩⟩
     ·by_cases q2:24<(qag d p).1.length
      ·have hb:cbP d p=false:=by
        unfold cbP cbT;simp only[qGM,decide_eq_false_iff_not]
        right
        omega
       rw[if_neg (by simp[qpi hm pm hb])]at hR;subst hR;simp -implicitDefEqProofs [q1,q2,show(24:Int)<(qag d p).1.length by omega];exact⟨[],by simp,.inl ⟨rfl,rfl,rfl⟩⟩
      ·have hb:cbP d p=true:=by
        unfold cbP cbT;simp only[q1,decide_false,qHb,qIe,decide_eq_true_eq];omega
       have hja2:=qmR p1 hja hb;obtain⟨Y,hY⟩:∃ Y,(cbN d c.sets i).set i (cbM d s j)=Y:=⟨_,rfl⟩;have hYl:Y.length=c.sets.length:=by rw[← hY];simp[qll]
       have y1:Y[i]?=some (cbM d s j):=by rw[← hY];simp[qll,hil]
       have hiY:i<Y.length:=by omega
       have y0:Y[i]=cbM d s j:=(qGy.1 y1).2;have hml:=qsP d s j s8 hj;have e9:=qku (cbM d s j) j (qag d p).1 (by omega);have hYs:Y.set i (cbM d s (j+1))=(cbN d c.sets i).set i (cbM d s (j+1)):=by rw[← hY,List.set_set]
       rw[hY];simp -implicitDefEqProofs [q1,q2,show ¬ (24:Int)<(qag d p).1.length by omega,hil,hiY,y0,y1,hYl,qba];refine⟨by omega,by omega,nx (j+1) [(2,2),(3,3),(4,4),(6,6),(900,900)] ⟨by omega,by simpa using hja2⟩ (by omega) (h4:=?_)⟩;rw[hst]at e9;simp[qah,e3,e9,DK.row,CO.row,qba,← List.map_set,hYs]
    ·have hje:j=8:=by omega
     subst hje;rw[qGh (by omega)]at hja;simp -implicitDefEqProofs [DK.row,CO.row];refine nx (i+1) [(2,2),(3,3),(4,4),(6,6),(900,900)] ⟨by omega,qph f1 ha hja⟩ (by omega) (h4:=?_);simp[qah,e2,DK.row,CO.row,qpf f1 s8,qba]
   ·have hie:i=c.sets.length:=by omega
    subst hie;rw[qGh (by omega)]at ha;rw[if_pos ⟨k1,k2,ha⟩]at hR;subst hR;simp -implicitDefEqProofs [CO.row,DK.row];exact⟨[(900,qba (c.sets.map (cbS d)))],by simp[qah,qsO,qba],.inr ⟨_,rfl,by simp,rfl⟩⟩
theorem qvt (d:DK) (h:DkT d) (c:CO) (hc:CoT c):CV prog 150 [.agg d.row,.agg c.row] (.tup [bk (cbB d c).1,.bool (cbB d c).2]):=by
 refine qvU ?_ (by kernel_rfl) (by simp[DK.row,qb3]);obtain⟨R,hR⟩:∃ R,cbB d c=R:=⟨_,rfl⟩;rw[hR];unfold cbB at hR;have c1:=qgk d h;have c2:=qgZ c hc;have hs:=hc.sets;have c3:=qoU c (by omega) hc.m8;simp only[DK.row,CO.row]at c1 c2 c3;refine acx func150 [] ntmps150 rfl rfl rfl ?_;simp -implicitDefEqProofs [DK.row,CO.row];refine c1.call ?_;cases k1:qbr d with
 | false =>
  rw[if_neg (by simp[k1])]at hR;subst hR;simp -implicitDefEqProofs;exact⟨[],by simp,.inl ⟨rfl,rfl,rfl⟩⟩
 | true =>
  simp -implicitDefEqProofs;refine c2.call ?_;cases k2:qak c with
  | false =>
   rw[if_neg (by simp[k2])]at hR;subst hR;simp -implicitDefEqProofs;exact⟨[],by simp,.inl ⟨rfl,rfl,rfl⟩⟩
  | true =>
   simp -implicitDefEqProofs;refine qac [] (by kernel_rfl) c3 (by simp[qa1,DE.row,PT.row,qad]) (by simp) trivial (by simp) (by simp) ?_;rintro r L' ⟨rfl,rfl⟩;refine⟨[(900,900)],⟨by simp,by simp,by simp,by simp,by simp⟩,?_⟩;simp only[qaf];simp -implicitDefEqProofs;refine qaM (X:=Nat) [2,4,5,6,25,26,27] [(2,2),(4,4),(6,6),(900,900)] (fun i=>[(27,.int .i64 i)]) (fun i=>[(2,⟨3,[d.row]⟩),(4,⟨1,[[.nils]]⟩),(6,⟨1,[[.sl 900 0 c.sets.length]]⟩),(900,qba (cbN d c.sets i))]) (fun i=>c.sets.length-i) (fun i=>i≤c.sets.length∧cbA d (c.sets.take i)=true) 0 ⟨by omega,by simp[cbA]⟩ ?_ (he:=by simp[qah,DK.row,CO.row,qB0,qba]);rintro i ⟨hi,ha⟩;by_cases hil:i<c.sets.length
   ·obtain⟨s,f1⟩:∃ s,c.sets[i]?=some s:=⟨_,qF3 hil⟩;have f0:c.sets[i]=s:=(qGy.1 f1).2;have hm:=qHT f1;have s8:=hc.m8 s hm;have hrl:=qaC s s8;have e2:=qap ((i:Int)+1) (by omega) (by omega);have hm24:=qgx s s8;have htk:List.take 31 s.row=s.row:=qbl s s8;simp -implicitDefEqProofs [show(i:Int)<c.sets.length by omega,hil,f0,f1,hrl,htk,hm24,CO.row,DK.row];refine⟨qeB s,?_⟩;refine qaM (X:=Nat) [2,4,5,6,7,25,26,27,33,34] [(2,2),(4,4),(6,6),(900,900)] (fun j=>[(34,.int .i64 j)]) (fun j=>[(2,⟨3,[d.row]⟩),(4,⟨1,[[.nils]]⟩),(6,⟨1,[[.sl 900 0 c.sets.length]]⟩),(900,qba ((cbN d c.sets i).set i (cbM d s j)))]) (fun j=>8-j) (fun j=>j≤8∧(s.map.take j).all (cbP d)=true) 0 ⟨by omega,by simp⟩ ?_ (he:=by simp[qah,DK.row,CO.row,qpe f1,qba]);rintro j ⟨hj,hja⟩;by_cases h8:j<8
    ·obtain⟨p,p1⟩:∃ p,s.map[j]?=some p:=⟨_,qF3 (by omega)⟩;have pm:=qHT p1;have e3:=qap ((j:Int)+1) (by omega) (by omega);have c4:=qef d h p;have hcell:=qhb p1;have hst:=qpg d s j p s8 h8 p1;simp only[cbT]at hst;simp only[DK.row,PT.row]at c4 hcell;simp -implicitDefEqProofs [show(j:Int)<8 by omega,h8,show(i:Int)<c.sets.length by omega,hil,f0,f1,hrl,hcell,DK.row,CO.row];have hsum:(List.map (fun a:PT=>3) s.map).sum=24:=by
      have:=qhO s.map;rw[qIP,s8]at this;exact this
     refine⟨by omega,c4.call ?_⟩;by_cases q1:(qag d p).2=2
     ·have hb:cbP d p=false:=by simp[cbP,q1]
      rw[if_neg (by simp[qpi hm pm hb])]at hR;subst hR;simp -implicitDefEqProofs [q1];exact⟨[],by simp,.inl ⟨rfl,rfl,rfl⟩⟩
     ·by_cases q2:24<(qag d p).1.length
      ·have hb:cbP d p=false:=by
        unfold cbP cbT;simp only[qGM,decide_eq_false_iff_not]
        right
        omega
       rw[if_neg (by simp[qpi hm pm hb])]at hR;subst hR;simp -implicitDefEqProofs [q1,q2,show(24:Int)<(qag d p).1.length by omega];exact⟨[],by simp,.inl ⟨rfl,rfl,rfl⟩⟩
      ·have hb:cbP d p=true:=by
        unfold cbP cbT;simp only[q1,decide_false,qHb,qIe,decide_eq_true_eq];omega
       have hja2:=qmR p1 hja hb;obtain⟨Y,hY⟩:∃ Y,(cbN d c.sets i).set i (cbM d s j)=Y:=⟨_,rfl⟩;have hYl:Y.length=c.sets.length:=by rw[← hY];simp[qll]
       have y1:Y[i]?=some (cbM d s j):=by rw[← hY];simp[qll,hil]
       have hiY:i<Y.length:=by omega
       have y0:Y[i]=cbM d s j:=(qGy.1 y1).2;have hml:=qsP d s j s8 hj;have e9:=qku (cbM d s j) j (qag d p).1 (by omega);have hYs:Y.set i (cbM d s (j+1))=(cbN d c.sets i).set i (cbM d s (j+1)):=by rw[← hY,List.set_set]
       rw[hY];simp -implicitDefEqProofs [q1,q2,show ¬ (24:Int)<(qag d p).1.length by omega,hil,hiY,y0,y1,hYl,qba];refine⟨by omega,by omega,nx (j+1) [(2,2),(4,4),(6,6),(900,900)] ⟨by omega,by simpa using hja2⟩ (by omega) (h4:=?_)⟩;rw[hst]at e9;simp[qah,e3,e9,DK.row,CO.row,qba,← List.map_set,hYs]
    ·have hje:j=8:=by omega
     subst hje;rw[qGh (by omega)]at hja;simp -implicitDefEqProofs [DK.row,CO.row];refine nx (i+1) [(2,2),(4,4),(6,6),(900,900)] ⟨by omega,qph f1 ha hja⟩ (by omega) (h4:=?_);simp[qah,e2,DK.row,CO.row,qpf f1 s8,qba]
   ·have hie:i=c.sets.length:=by omega
    subst hie;rw[qGh (by omega)]at ha;rw[if_pos ⟨k1,k2,ha⟩]at hR;subst hR;simp -implicitDefEqProofs [CO.row,DK.row];exact⟨[(900,qba (c.sets.map (cbS d)))],by simp[qah,qsO,qba],.inr ⟨_,rfl,by simp,rfl⟩⟩
def xpP (d:DK) (s:CS):Bool:=decide ((qag d s.home).2=0) && (qeW (qag d s.home).1).2
def xpS (d:DK) (s:CS):CS:={ s with map:=(qeW (qag d s.home).1).1 }
def xpA (d:DK) (l:List CS):Bool:=l.all (xpP d)
def xpN (d:DK) (l:List CS) (i:Nat):List CS:=(l.take i).map (xpS d)++l.drop i
theorem qzi (d:DK) (l:List CS):xpN d l 0=l:=by simp[xpN]
theorem qqm (d:DK) (l:List CS) (i:Nat):(xpN d l i).length=l.length:=by
 simp[xpN];omega
theorem qqn (d:DK) (l:List CS):xpN d l l.length=l.map (xpS d):=by simp[xpN]
theorem quR {d:DK} {l:List CS} {i:Nat} {s:CS} (hs:l[i]?=some s):(xpN d l i)[i]?=some s∧(xpN d l i).set i (xpS d s)=xpN d l (i+1):=by
 have hl:=(qGy.1 hs).1;have hd:l.drop i=s::l.drop (i+1):=by
  have:=(qGy.1 hs).2;rw[← this];exact qF7 hl
 have ht:l.take (i+1)=l.take i++[s]:=by
  rw[qHN,hs];rfl
 have hn:((l.take i).map (xpS d)).length=i:=by simp;omega
 constructor
 ·unfold xpN;rw[hd,qGp (by omega),hn];simp
 ·unfold xpN;rw[hd,ht,qH4,qI3 _ _ (by omega),hn];simp
theorem qql (d:DK) (s:CS) (h:s.map.length=8) (L:List AV) (hL:L=(qeW (qag d s.home).1).1.flatMap PT.row):List.take 3 s.row++(L++List.drop 27 s.row)=(xpS d s).row:=by
 subst hL;obtain⟨n,k,f,m,hm,b⟩:=s;simp only at h;have h24:(m.flatMap PT.row).length=24:=by rw[qhO,h]
 simp only[CS.row,xpS]
 congr 1
 rw[show(27:Nat)=24+3 by rfl];simp only[List.drop_succ_cons];rw[qHg (by omega),qHL (by omega)];simp
theorem qc4 (d:DK) (p:PT):(qag d p).1.length≤420:=by
 unfold qag;split
 ·simp
 ·split
  ·rename_i h;exact qeT (qdx h).1 _ _
  ·split
   ·rename_i h;exact qeT (qdx h).1 _ _
   ·simp
theorem qru {l:List PT} (h:l.length=8):(List.map (fun a:PT=>3) l).sum=24:=by
 have:=qhO l;rw[qIP,h]at this;exact this
theorem qrv (l:List PT):∀ x∈l.flatMap PT.row,qdn x=true:=fun x hx=>by
 obtain⟨p,_,hp⟩:=qIo.1 hx;simp only[PT.row,qHq,qHz,or_false]at hp;rcases hp with rfl | rfl | rfl <;> rfl
theorem qnV {d:DK} {l:List CS} {i:Nat} {s:CS} (hs:l[i]?=some s) (h:xpA d (l.take i)=true) (h2:xpP d s=true):xpA d (l.take (i+1))=true:=by
 rw[qHN,hs];unfold xpA at *
 rw[qHO,h];simp[h2]
theorem quS {d:DK} {l:List CS} {s:CS} (hs:s∈l) (h:xpP d s=false):xpA d l=false:=by
 cases hk:xpA d l with
 | false=>rfl
 | true =>
  unfold xpA at hk;rw[qGf]at hk;rw[hk s hs]at h;cases h
def mpQ (d:DK) (x:RS2) (K:Bool) (r:AV) (L':List (Nat×Ob)):Prop:=∃ l,l.length=x.1.length∧(K=true→l=x.1.map (xpS d))∧r=.tup [.agg (lnR (l,x.2) 1000 1001),.bool K]∧L'=[(1000,kcs l),(1001,kpt x.2)]
theorem qz7 (d:DK) (h:DkT d) (x:RS2) (hx:x.1.length≤1000000) (h8:∀ s∈x.1,s.map.length=8) :
  ACall prog 76 [.agg d.row,.agg (lnR x 1000 1001)] [(1000,kcs x.1),(1001,kpt x.2)] (mpQ d x (xpA d x.1)):=by
 obtain⟨K,hK⟩:∃ K,xpA d x.1=K:=⟨_,rfl⟩;rw[hK];refine acx func76 [(4,[zJ 0 [2] [],zJ 1 [] [2],zJ 2 [3] [2],zJ 3 [] [2,3],zJ 4 [1000] [2],zJ 5 [] [2],zJ 6 [1000] [2],zI 7,zI 8,zI 9,zI 10,zI 11,zI 12])] ntmps76 rfl rfl rfl ?_;simp[lnR,DK.row];refine qaM (X:=Nat) [2,3,4,5,6] [(2,2),(3,3),(4,4),(1000,1000),(1001,1001)] (fun i=>[(5,.bool false),(6,.int .i64 i)]) (fun i=>[(2,⟨3,[d.row]⟩),(3,⟨7,[lnR x 1000 1001]⟩),(4,⟨7,[[.int .i64 0,.nils,.nils,.nils,.bool false,.nils,.int .i64 0]]⟩),(1000,kcs (xpN d x.1 i)),(1001,kpt x.2)]) (fun i=>x.1.length-i) (fun i=>i≤x.1.length∧xpA d (x.1.take i)=true) 0 ⟨by omega,by simp[xpA]⟩ ?_ (he:=by simp[qah,lnR,qzi,DK.row]);rintro i ⟨hi,ha⟩;by_cases hil:i<x.1.length
 ·obtain⟨s,f1⟩:∃ s,x.1[i]?=some s:=⟨_,qF3 hil⟩;have hm:=qHT f1;have hs8:=h8 s hm;have hrl:=qaC s hs8;have hho:=qc2 s hs8;have e2:=qap ((i:Int)+1) (by omega) (by omega);have c1:=qd9 d h s.home;have hbl:=qc4 d s.home;have c2:=qq4 (qag d s.home).1 (by omega);obtain⟨g1,g2⟩:=quR (d:=d) f1;have gl:=qqm d x.1 i;have hcond:xpP d s=(decide ((qag d s.home).2=0) && (qeW (qag d s.home).1).2):=rfl;have hup:=qql d s hs8;have hml:=qkJ (qag d s.home).1;have hsu:=qru hml;have hone:=qrv (qeW (qag d s.home).1).1;have hfl:((qeW (qag d s.home).1).1.flatMap PT.row).length=24:=by rw[qhO,hml]
  simp only[DK.row,PT.row]at c1 hho;obtain⟨Y,hY⟩:∃ Y,xpN d x.1 i=Y:=⟨_,rfl⟩;rw[hY]at g1 g2 gl;have hiY:i<Y.length:=by omega
  have y0:Y[i]=s:=(qGy.1 g1).2;rw[hY];generalize qag d s.home=bb at *
  obtain⟨bt,bc⟩:=bb;simp only at c1 c2 hcond hup hml hsu hone hfl;generalize qeW bt=mm at *
  obtain⟨mp,mk⟩:=mm;simp only at c2 hcond hup hml hsu hone hfl;simp[lnR,kcs,show(i:Int)<x.1.length by omega,hil,g1,hiY,y0,hrl,hho,gl,DK.row];refine c1.call ?_;simp;refine c2.call ?_;by_cases q:bc=0∧mk=true
  ·obtain⟨rfl,rfl⟩:=q;have hnx:=qnV f1 ha (by rw[hcond];rfl);simp[kcs,hiY,y0,g1,hrl,hsu,hfl,qGh (qGi hfl),gl,hil];refine nx (i+1) [(2,2),(3,3),(4,4),(1000,1000),(1001,1001)] ⟨by omega,hnx⟩ (by omega) (h4:=?_);simp[qah,e2,lnR,kcs,← g2,DK.row,hsu,hfl,hup _ rfl,qfj]
  ·have hk:=quS hm (show xpP d s=false by rw[hcond];cases mk <;> simp_all);rw[hK]at hk;subst hk;by_cases q1:bc=0
   ·have:mk=false:=by cases mk <;> simp_all
    subst this;simp[kcs,q1,hsu];exact⟨[(1000,kcs Y),(1001,kpt x.2)],by simp[kcs],Y,gl,by simp,by simp[lnR,gl],rfl⟩
   ·simp[kcs,q1];exact⟨hsu,[(1000,kcs Y),(1001,kpt x.2)],by simp[kcs],Y,gl,by simp,by simp[lnR,gl],rfl⟩
 ·have hie:i=x.1.length:=by omega
  subst hie;rw[qGh (by omega),hK]at ha;subst ha;simp[lnR];exact⟨[(1000,kcs (x.1.map (xpS d))),(1001,kpt x.2)],by simp[qqn],x.1.map (xpS d),by simp,fun _=>rfl,by simp[lnR],rfl⟩
def tbP (d:DK) (p:PT):Bool:=decide ((qag d p).2=0) && (qjq (qag d p).1).2
def tbS (d:DK) (p:PT):List DE:=(qjq (qag d p).1).1
def tbA (d:DK) (l:List PT):Bool:=l.all (tbP d)
def tbN (d:DK) (l:List PT) (i:Nat):List DE:=(l.take i).flatMap (tbS d)
theorem qlb (t:List UInt8):(qjq t).1.length≤48:=by
 unfold qjq;split
 ·simp
 ·split
  ·simp
  ·split
   ·split
    ·rename_i h;exact(qja h).1
    ·simp
   ·simp
theorem qke (d:DK) (l:List PT):∀ i,(tbN d l i).length≤48 * i
 | 0=>by simp[tbN]
 | i+1=>by
  have:=qke d l i;unfold tbN at *
  rw[qHN,qI4,qHe];have h2:(List.flatMap (tbS d) l[i]?.toList).length≤48:=by
   cases l[i]? with
   | none=>simp
   | some p=>simpa [tbS]using qlb _
  omega
theorem qn0 {d:DK} {l:List PT} {i:Nat} {p:PT} (hs:l[i]?=some p):tbN d l i++tbS d p=tbN d l (i+1):=by
 unfold tbN;rw[qHN,hs,qI4];simp
theorem qn1 {d:DK} {l:List PT} {i:Nat} {s:PT} (hs:l[i]?=some s) (h:tbA d (l.take i)=true) (h2:tbP d s=true):tbA d (l.take (i+1))=true:=by
 rw[qHN,hs];unfold tbA at *
 rw[qHO,h];simp[h2]
theorem quZ {d:DK} {l:List PT} {s:PT} (hs:s∈l) (h:tbP d s=false):tbA d l=false:=by
 cases hk:tbA d l with
 | false=>rfl
 | true =>
  unfold tbA at hk;rw[qGf]at hk;rw[hk s hs]at h;cases h
def tbR (x:RS2) (a b c n:Nat):List AV:=[.int .i64 0,.sl a 0 x.1.length,.sl b 0 n,.sl c 0 x.2.length,.bool false,.nils,.int .i64 0]
def tbQ (d:DK) (x:RS2) (K:Bool) (r:AV) (L':List (Nat×Ob)):Prop:=∃ l,(K=true→l=x.2.flatMap (tbS d))∧r=.tup [.agg (tbR x 1000 902 1001 l.length),.bool K]∧L'=[(1000,kcs x.1),(902,qaN l),(1001,kpt x.2)]
theorem qwV (d:DK) (h:DkT d) (x:RS2) (hx:x.2.length≤10000) :
  ACall prog 77 [.agg d.row,.agg (lnR x 1000 1001)] [(1000,kcs x.1),(1001,kpt x.2)] (tbQ d x (tbA d x.2)):=by
 obtain⟨K,hK⟩:∃ K,tbA d x.2=K:=⟨_,rfl⟩;rw[hK];refine acx func77 [(4,[zJ 0 [2] [],zJ 1 [] [2],zJ 2 [3] [2],zJ 3 [] [2,3],zJ 4 [1001] [2],zJ 5 [1001] [2],zI 6,zI 7,zI 8,zI 9,zI 10,zI 11])] ntmps77 rfl rfl rfl ?_;simp[lnR,DK.row];refine qe8 ((qeP 902 3 (by simp)).trans (qdw 3 2 (sz:=7) (row:=lnR x 1000 1001) (by simp[lnR]) (by simp[lnR]) (qcK 902 0))) ?_;refine qaM (X:=Nat) [2,3,4,5,6] [(2,2),(3,3),(4,4),(1000,1000),(902,902),(1001,1001)] (fun i=>[(5,.bool false),(6,.int .i64 i)]) (fun i=>[(2,⟨3,[d.row]⟩),(3,⟨7,[tbR x 1000 902 1001 (tbN d x.2 i).length]⟩),(4,⟨7,[[.int .i64 0,.nils,.nils,.nils,.bool false,.nils,.int .i64 0]]⟩),(1000,kcs x.1),(902,qaN (tbN d x.2 i)),(1001,kpt x.2)]) (fun i=>x.2.length-i) (fun i=>i≤x.2.length∧tbA d (x.2.take i)=true) 0 ⟨by omega,by simp[tbA]⟩ ?_ (he:=by simp[qah,lnR,tbR,tbN,DK.row,qaN]);rintro i ⟨hi,ha⟩;have hnl:=qke d x.2 i;by_cases hil:i<x.2.length
 ·obtain⟨s,f1⟩:∃ s,x.2[i]?=some s:=⟨_,qF3 hil⟩;have f0:x.2[i]=s:=(qGy.1 f1).2;have hm:=qHT f1;have e2:=qap ((i:Int)+1) (by omega) (by omega);have c1:=qd9 d h s;have hbl:=qc4 d s;have c2:=qra (qag d s).1 (by omega);have hdl:=qlb (qag d s).1;have hcond:tbP d s=(decide ((qag d s).2=0) && (qjq (qag d s).1).2):=rfl;have hnx:=qn0 (d:=d) f1;have hts:tbS d s=(qjq (qag d s).1).1:=rfl;rw[hts]at hnx;simp only[DK.row,PT.row]at c1;generalize qag d s=bb at *
  obtain⟨bt,bc⟩:=bb;simp only at c1 c2 hcond hbl hdl hnx;generalize qjq bt=mm at *
  obtain⟨mp,mk⟩:=mm;simp only at c2 hcond hdl hnx;simp[tbR,qaN,kpt,show(i:Int)<x.2.length by omega,hil,f0,f1,PT.row,DK.row];refine c1.call ?_;simp;refine c2.call ?_;by_cases q:bc=0∧mk=true
  ·obtain⟨rfl,rfl⟩:=q;have hnA:=qn1 f1 ha (by rw[hcond];rfl);simp[tbR,qaN];refine⟨by omega,nx (i+1) [(2,2),(3,3),(4,4),(1000,1000),(43,902),(1001,1001)] ⟨by omega,hnA⟩ (by omega) (h4:=?_)⟩;simp[qah,e2,tbR,qaN,kpt,← hnx,DK.row,qal]
  ·have hk:=quZ hm (show tbP d s=false by rw[hcond];cases mk <;> simp_all);rw[hK]at hk;subst hk;by_cases q1:bc=0
   ·have:mk=false:=by cases mk <;> simp_all
    subst this;simp[tbR,qaN,q1];exact⟨[(1000,kcs x.1),(902,qaN (tbN d x.2 i)),(1001,kpt x.2)],by simp[qaN,kpt],tbN d x.2 i,by simp,by simp[tbR],rfl⟩
   ·simp[tbR,qaN,q1];exact⟨[(1000,kcs x.1),(902,qaN (tbN d x.2 i)),(1001,kpt x.2)],by simp[qaN,kpt],tbN d x.2 i,by simp,by simp[tbR],rfl⟩
 ·have hie:i=x.2.length:=by omega
  subst hie;rw[qGh (by omega),hK]at ha;subst ha;simp[tbR];exact⟨[(1000,kcs x.1),(902,qaN (tbN d x.2 x.2.length)),(1001,kpt x.2)],by simp[qaN],tbN d x.2 x.2.length,fun _=>by simp[tbN],by simp[tbR],rfl⟩
theorem qxa {t:List UInt8} {x:RS2} (h:qhJ t=(qbf x,true)):t≠[]∧x.1.length≤6∧x.2.length≤8∧(∀ s∈x.1,s.map.length=8∧qbp s=true)∧∀ p∈x.2,qar p=true:=by
 unfold qhJ at h;split at h
 ·exact absurd (congrArg Prod.snd h) (by simp)
 ·rename_i h1;have hd:(qaJ 10 t []).head?=some qlR:=by
   apply qHI;exact fun e=>h1 (.inr e)
  have hne:t≠[]:=by
   rintro rfl
   revert hd
   decide
  cases ho:qfi qet (qaJ 10 t []).tail ([],[])with
  | none =>
   rw[ho]at h;exact absurd (congrArg Prod.snd h) (by simp[qmY])
  | some y =>
   rw[ho]at h;simp only[qmY]at h;split at h
   ·rename_i ha;have hy:y=x:=by
     have h2:=congrArg (fun z:CO×Bool=>(z.1.sets,z.1.parts)) h;simp only[qbf,qFR]at h2;exact Prod.ext h2.1 h2.2
    subst hy;obtain⟨r1,r2,_⟩:=qjI (qgC ha) hne;have hn:=qkt ql9 _ _ y (by simp) ho;simp only[qii,Bool.and_eq_true,decide_eq_true_eq]at ha;have hb:=(okB_iff.1 ha.1.2).1;simp only[qG4]at hb;exact⟨hne,hb,ha.2,fun s hs=>⟨by rw[(hn s hs).1];rfl,r1 s hs⟩,r2⟩
   ·exact absurd (congrArg Prod.snd h) (by simp)
def rrC (d:DK) (c:CO):CO:=⟨(rbB d).1,c.sets.map (xpS d),c.parts.flatMap (tbS d),c.parts,false,[],0⟩
def rrF (d:DK):Bool:=decide ((qag d (rbB d).2).2=0) && (qhJ (qag d (rbB d).2).1).2
def rrG (d:DK) (c:CO):Bool:=xpA d c.sets && tbA d c.parts && qak (rrC d c)
def rrS (d:DK) (c:CO):CO:={ rrC d c with safe:=qcf (rrC d c) (rbB d).2.pa }
def rrB (d:DK):CO×Int :=
 if qbr d=true∧0<(rbB d).1 then if rrF d=true then if rrG d (qhJ (qag d (rbB d).2).1).1=true then (rrS d (qhJ (qag d (rbB d).2).1).1,0) else (zK,8) else (zK,8) else (zK,1)
def rrQ (a b e f:Nat) (R:CO×Int) (r:AV) (L':List (Nat×Ob)):Prop :=
 (R.1=zK∧R.2≠0∧r=.tup [.agg [.int .i64 0,.nils,.nils,.nils,.bool false,.nils,.int .i64 0],.int .i64 R.2]∧L'=[]) ∨
 (R.2=0∧r=.tup [qcA R.1 a b e f,.int .i64 0]∧L'=[(a,kcs R.1.sets),(b,qaN R.1.ddt),(e,kpt R.1.parts),(f,kin R.1.safe)])
theorem qxf {t:List UInt8} {x:RS2} (h:qhJ t=(qbf x,true)) (d:DK):CoT (rrC d (qbf x)):=by
 obtain⟨_,h1,h2,h3,h4⟩:=qxa h;refine⟨by simp[rrC,qbf];omega,?_,by simp[rrC,qbf];omega,by simp[rrC],?_,?_⟩
 ·have:=qke d x.2 x.2.length;simp only[tbN,qHW]at this;simp only[rrC,qbf];omega
 ·intro s hs;obtain⟨s0,hs0,rfl⟩:=qGt.1 hs;exact qkJ _
 ·intro s hs;obtain⟨s0,hs0,rfl⟩:=qGt.1 hs;have:=qhl (h3 s0 hs0).2;simp only[xpS];omega
theorem qpy (d:DK) (h:DkT d):ACall prog 31 [.agg d.row] [] (rrQ 900 902 901 903 (rrB d)):=by
 obtain⟨R,hR⟩:∃ R,rrB d=R:=⟨_,rfl⟩;rw[hR];unfold rrB at hR;have c1:=qvd d h;have c2:=qdN d h;have c3:=qd9 d h (rbB d).2;have hbl:=qc4 d (rbB d).2;have c4:=qpx (qag d (rbB d).2).1 (by omega);have hF:rrF d=(decide ((qag d (rbB d).2).2=0) && (qhJ (qag d (rbB d).2).1).2):=rfl;have hT:=fun x (hx:qhJ (qag d (rbB d).2).1=(qbf x,true))=>qxf hx d;have hok:=fun x (hx:qhJ (qag d (rbB d).2).1=(qbf x,true))=>qxa hx;simp only[DK.row,PT.row]at c1 c2 c3;refine acx func31 [] ntmps31 rfl rfl rfl ?_;simp[DK.row];refine c1.call ?_;simp[PT.row];refine c2.call ?_;by_cases g0:qbr d=true∧0<(rbB d).1
 ·rw[if_pos g0]at hR;obtain⟨g1,g2⟩:=g0;simp[g1,g2];refine c3.call ?_;simp;generalize (qag d (rbB d).2).1=bt at *
  generalize (qag d (rbB d).2).2=bc at *
  refine qac [] (by kernel_rfl) c4 (by simp) (by simp) trivial (by simp) (by simp) ?_;rintro r L' (⟨hr,rfl,rfl⟩ | ⟨x,hr,rfl,rfl⟩)
  ·rw[hr]at hF;rw[if_neg (by rw[hF];simp)]at hR;subst hR;refine⟨[],⟨by simp,by simp,by simp,by simp,by simp⟩,?_⟩;simp only[qaf];by_cases q:bc=0
   ·simp[q];exact⟨[],by simp,.inl ⟨rfl,by simp,rfl,rfl⟩⟩
   ·simp[q];exact⟨[],by simp,.inl ⟨rfl,by simp,rfl,rfl⟩⟩
  ·have hTx:=hT x hr;obtain⟨_,o1,o2,o3,o4⟩:=hok x hr;rw[hr]at hF hR;simp only[qGa]at hF;refine⟨[(900,900),(901,901)],⟨by simp,by simp,by simp,by simp,by simp⟩,?_⟩;simp only[qaf];by_cases q:bc=0
   ·rw[if_pos (by rw[hF];simp[q])]at hR;have hG:rrG d (qbf x)=(xpA d x.1 && tbA d x.2 && qak (rrC d (qbf x))):=rfl;have c5:=qz7 d h x (by omega) fun s hs=>(o3 s hs).1;simp only[DK.row,lnR]at c5;simp[q,lnR];refine qac [(1000,.whole 900),(1001,.whole 901)] (by kernel_rfl) c5 (by simp) (by simp) ⟨⟨kcs x.1,by simp,rfl,qaa rfl (qa5 _)⟩,⟨kpt x.2,by simp,rfl,qaa rfl (qbq _)⟩,trivial⟩ (by simp) (by simp) ?_;rintro r' L' ⟨l,hl,hk,rfl,rfl⟩;refine⟨[],⟨by simp[lnR],by simp,by simp,by simp[lnR],by simp[lnR]⟩,?_⟩;simp only[qaf];have c6:=qwV d h (l,x.2) (by simp only;omega);simp only[DK.row,lnR]at c6;simp[lnR];refine qac [(1000,.whole 900),(1001,.whole 901)] (by kernel_rfl) c6 (by simp) (by simp) ⟨⟨kcs l,by simp,rfl,qaa rfl (qa5 _)⟩,⟨kpt x.2,by simp,rfl,qaa rfl (qbq _)⟩,trivial⟩ (by simp) (by simp) ?_;rintro r' L' ⟨t,ht,rfl,rfl⟩;refine⟨[(902,902)],⟨by simp[tbR],by simp,by simp,by simp[tbR],by simp[tbR]⟩,?_⟩;simp only[qaf];simp only at ht;have hfail:rrG d (qbf x)=false→R=(zK,8):=fun e=>by
     rw[if_neg (by simp only;rw[e];simp)]at hR;exact hR.symm
    cases k1:xpA d x.1 with
    | false =>
     rw[hfail (by rw[hG,k1];rfl)];simp[tbR,lnR,hl];exact⟨[],by simp,.inl ⟨rfl,by simp,rfl,rfl⟩⟩
    | true =>
     cases k2:tbA d x.2 with
     | false =>
      rw[hfail (by rw[hG,k1,k2];rfl)];simp[tbR,lnR,hl];exact⟨[],by simp,.inl ⟨rfl,by simp,rfl,rfl⟩⟩
     | true =>
      have hl2:=hk k1;have ht2:=ht k2;have hC:rrC d (qbf x)=⟨(rbB d).1,l,t,x.2,false,[],0⟩:=by rw[hl2,ht2];rfl
      have hS:rrS d (qbf x)={ rrC d (qbf x)with safe:=qcf (rrC d (qbf x)) (rbB d).2.pa }:=rfl;rw[k1,k2,hC]at hG;rw[hC]at hTx hS;have c7:=qks _ hTx;have hgl:qak ⟨(rbB d).1,l,t,x.2,false,[],0⟩=true→l.length=x.1.length:=fun _=>hl;cases k3:qak ⟨(rbB d).1,l,t,x.2,false,[],0⟩with
      | false =>
       rw[k3]at c7;simp only[CO.row,qHF]at c7;rw[hfail (by rw[hG,k3];rfl)];simp[tbR,lnR];refine c7.view (by simp[qb5,mtA,kcs,qaN,kpt,qal,qa1]) ?_;simp;exact⟨[],by simp,.inl ⟨rfl,by simp,rfl,rfl⟩⟩
      | true =>
       rw[k3]at c7 hG;have c8:=qq1 _ hTx (qbn k3).1 (rbB d).2.pa;simp only[CO.row,qHF]at c7 c8;rw[if_pos (by simp only;rw[hG];rfl)]at hR;simp only at hR;rw[hS]at hR;generalize qcf _ _=sf at *
       subst hR;simp[tbR,lnR];refine c7.view (by simp[qb5,mtA,kcs,qaN,kpt,qal,qa1]) ?_;simp;refine qaS [] (by kernel_rfl) c8 (by simp[qb5,mtA,kcs,qaN,kpt,qal,qa1]) (by simp) trivial (by simp) (by simp) ?_;rintro r' L' ⟨rfl,rfl⟩;refine⟨by simp[noL],by simp[noL,kin,qad],[(900,903)],⟨by simp,by simp,by simp,by simp,by simp⟩,?_⟩;simp only[qaf];simp;exact⟨[(900,kcs l),(902,qaN t),(901,kpt x.2),(903,kin sf)],by simp[qah],.inr ⟨rfl,by simp[qcA],rfl⟩⟩
   ·rw[if_neg (by rw[hF];simp[q])]at hR;subst hR;simp[q,lnR];exact⟨[],by simp,.inl ⟨rfl,by simp,rfl,rfl⟩⟩
 ·rw[if_neg g0]at hR;subst hR;cases g1:qbr d with
  | false =>
   simp[g1];exact⟨[],by simp,.inl ⟨rfl,by simp,rfl,rfl⟩⟩
  | true =>
   have g2:¬ 0<(rbB d).1:=fun e=>g0 ⟨g1,e⟩;simp[g1,g2];exact⟨[],by simp,.inl ⟨rfl,by simp,rfl,rfl⟩⟩
end Go.Av.F
end
