/- Lemmas for the proof, no statement of the seat; no conditions. -/
import Derived.Test.YthiidgicibfbjaaGreatDoorLayAW
import Derived.Lib.LaidTab
import Derived.FnData
import Derived.Test.YthiidgicibfbjaaGreatDoorRows
import Derived.Test.YthiidgicibfbjaaGreatDoorCards
import Derived.ProofKit
import Derived.OpenShut
import Derived.LaidMore
import Derived.Lay
import Derived.SevenTiedAt
import Derived.Stop.Joined
set_option linter.unusedSimpArgs false
set_option linter.unusedVariables false
set_option linter.unnecessarySimpa false
set_option maxRecDepth 100000
set_option maxHeartbeats 400000
section
namespace Go.Av.F
open Go Go.Av Go.Proofs Go.Proofs.Tryz
theorem qjz {α:Type} (f:α→Bool):∀ {l:List α} {i:Nat} {x:α} (y:α),l[i]?=some x→(l.set i y).countP f+(if f x=true then 1 else 0)=l.countP f+(if f y=true then 1 else 0)
 | [],i,x,y,h=>by simp at h
 | a::r,0,x,y,h=>by
  simp only[qDH,qDs]at h;subst h;simp only[List.set_cons_zero,qFV];omega
 | a::r,i+1,x,y,h=>by
  simp only[qDY]at h;have:=qjz f y h;simp only[qGx,qFV];omega
theorem qjA (f:PT→Bool):∀ {l:List CS} {k i:Nat} {s s':CS} {old now:PT},l[k]?=some s→s.map[i]?=some old→s'.map=s.map.set i now →
  (qaA (l.set k s')).countP f+(if f old=true then 1 else 0)=(qaA l).countP f+(if f now=true then 1 else 0)
 | [],k,i,s,s',old,now,h,_,_=>by simp at h
 | a::r,0,i,s,s',old,now,h,h2,h3=>by
  simp only[qDH,qDs]at h;subst h;have:=qjz f now h2;simp only[qaA,List.set_cons_zero,qFZ,qF4,h3];omega
 | a::r,k+1,i,s,s',old,now,h,h2,h3=>by
  simp only[qDY]at h;have:=qjA f h h2 h3;simp only[qaA,qGx,qFZ,qF4]at this ⊢;omega
theorem qwb {l:List CS} {k i:Nat} {s s':CS} {now p:PT} (h:l[k]?=some s) (h3:s'.map=s.map.set i now) (hp:p∈qaA (l.set k s')):p∈qaA l∨p=now:=by
 simp only[qaA,qF0]at hp ⊢;obtain⟨t,ht,hpt⟩:=hp;rcases qGw ht with ht | rfl
 ·exact .inl ⟨t,ht,hpt⟩
 ·rw[h3]at hpt;rcases qGw hpt with hpt | rfl
  ·exact .inl ⟨s,qFu h,hpt⟩
  ·exact .inr rfl
def ecA (l:List DE) (a:Int):Int:=qb9 (l.filter fun e=>decide (e.ea=a))
theorem qwM (a:Int):ecA [] a=0:=rfl
theorem qc0 (e:DE) (l:List DE) (a:Int):ecA (e::l) a=(if e.ea=a then e.ec else 0)+ecA l a:=by
 unfold ecA;rw[List.filter_cons];split
 ·rename_i h;rw[if_pos (by simpa using h),qb9]
 ·rename_i h;rw[if_neg (by simpa using h)];omega
theorem qem (a:Int):∀ (l m:List DE),ecA (l++m) a=ecA l a+ecA m a
 | [],m=>by simp[qwM]
 | e::l,m=>by
  rw[qFt,qc0,qc0,qem a l m];omega
theorem qcD:∀ (l m:List DE),qb9 (l++m)=qb9 l+qb9 m
 | [],m=>by simp[qb9]
 | e::l,m=>by
  rw[qFt,qb9,qb9,qcD l m];omega
theorem qhG {l:List DE} {a:Int} (h:∀ e∈l,e.ea≠a):ecA l a=0:=by
 induction l with
 | nil=>rfl
 | cons e r ih =>
  rw[qc0,if_neg (h e (by simp)),ih fun x hx=>h x (by simp[hx])];rfl
theorem qk5 {α:Type} {l:List α} {i:Nat} {x:α} (h:l[i]?=some x):l=l.take i++x::l.drop (i+1)∧∀ y,l.set i y=l.take i++y::l.drop (i+1):=by
 have hl:=(qEb.1 h).1;have hx:=(qEb.1 h).2;have hd:l.drop i=x::l.drop (i+1):=by
  rw[← hx];exact qDK hl
 refine⟨?_,fun y=>?_⟩
 ·rw[← hd,qDJ]
 ·rw[qFE,if_pos hl]
theorem qrr {l:List DE} (h:qaj l=true) {e:DE} (he:e∈l):0<e.ea∧0<e.ec:=by
 have:=qf8 (qhb h e he);omega
theorem qzG {l:List DE} (h:qaj l=true) {e:DE} (he:e∈l):ecA l e.ea=e.ec:=by
 simp only[qaj,Bool.and_eq_true,decide_eq_true_eq]at h;have hp:=qgQ h.2;clear h
 induction l with
 | nil=>simp at he
 | cons x r ih =>
  rw[qGC]at hp;rw[qc0];rcases qE3.1 he with rfl | he2
  ·rw[if_pos rfl,qhG fun y hy=>by have:=hp.1 y hy;omega];omega
  ·have:=hp.1 e he2;rw[if_neg (by omega),ih he2 hp.2];omega
theorem qkw {l:List DE} (h:qaj l=true) {e x:DE} (he:e∈l) (hx:x∈l) (hea:e.ea=x.ea):e=x:=by
 simp only[qaj,Bool.and_eq_true,decide_eq_true_eq]at h;have hp:=qgQ h.2;clear h
 induction l with
 | nil=>simp at he
 | cons y r ih =>
  rw[qGC]at hp;rcases qE3.1 he with h1 | he2 <;> rcases qE3.1 hx with h2 | hx2
  ·rw[h1,h2]
  ·have:=hp.1 x hx2;rw[h1]at hea;omega
  ·have:=hp.1 e he2;rw[h2]at hea;omega
  ·exact ih he2 hx2 hp.2
theorem qwR {l:List DE} (h:qaj l=true) {e:DE} (he:e∈l):ddT l e.ea=true∧l[ddP l e.ea]?=some e:=by
 cases hT:ddT l e.ea with
 | false=>exact absurd rfl (qkB h hT e he)
 | true =>
  obtain⟨x,hx,hxa⟩:=qcH hT;rw[hx,qkw h (qFu hx) he hxa];exact⟨rfl,rfl⟩
theorem qz9 {l:List DE} (h:qaj l=true) {s a:Int} (ho:(qbZ l s a).2=true) :
  0<a∧(∀ b,ecA (qbZ l s a).1 b=ecA l b+if b=a then 1 else 0)∧qb9 (qbZ l s a).1=qb9 l+1∧∀ e∈(qbZ l s a).1,(∃ x∈l,x.ea=e.ea∧x.es=e.es∧(e.ea=a→e.es=s))∨(e.ea=a∧e.es=s∧ecA l a=0):=by
 unfold qbZ at ho ⊢;rw[if_neg (by simp[h])]at ho ⊢;split at ho
 ·simp at ho
 ·rename_i hen;rw[if_neg hen];have ha:0<a:=by
   have:=qf8 (e:=⟨s,a,1⟩) (by simpa using hen);simp only at this;omega
  refine⟨ha,?_⟩;split at ho
  ·rename_i hT;rw[if_pos hT];obtain⟨x,hx,hxa⟩:=qcH hT;rw[hx]at ho ⊢;simp only at ho ⊢;split at ho
   ·simp at ho
   ·rename_i hc;rw[if_neg hc];have hxs:x.es=s:=qFk fun e=>hc (.inl e);obtain⟨g1,g2⟩:=qk5 hx;simp only[g2];refine⟨fun b=>?_,?_,fun e he=>?_⟩
    ·rw[qem,qc0]
     conv=>rhs;rw[g1,qem,qc0]
     simp only[hxa];by_cases hb:a=b
     ·rw[if_pos hb,if_pos hb,if_pos hb.symm];omega
     ·rw[if_neg hb,if_neg hb,if_neg (qDn hb)];omega
    ·rw[qcD,qb9]
     conv=>rhs;rw[g1,qcD,qb9]
     simp only;omega
    ·rw[qE5,qE3]at he;have hxm:=qFu hx;rcases he with he | rfl | he
     ·have hm:=qF7 he;exact .inl ⟨e,hm,rfl,rfl,fun q=>by rw[qkw h hm hxm (by omega)];exact hxs⟩
     ·exact .inl ⟨x,hxm,rfl,rfl,fun _=>hxs⟩
     ·have hm:=qFU he;exact .inl ⟨e,hm,rfl,rfl,fun q=>by rw[qkw h hm hxm (by omega)];exact hxs⟩
  ·rename_i hT;rw[if_neg hT];split at ho
   ·simp at ho
   ·rename_i hl;rw[if_neg hl];have hz:ecA l a=0:=qhG (qkB h (by simpa using hT));have hm:=qkB h (a:=a) (by simpa using hT);simp only;have g1:=qDJ (ddP l a) l;refine⟨fun b=>?_,?_,fun e he=>?_⟩
    ·rw[qem,qc0]
     conv=>rhs;rw[← g1,qem]
     simp only;by_cases hb:a=b
     ·rw[if_pos hb,if_pos hb.symm];omega
     ·rw[if_neg hb,if_neg (qDn hb)];omega
    ·rw[qcD,qb9]
     conv=>rhs;rw[← g1,qcD]
     simp only;omega
    ·rw[qE5,qE3]at he;rcases he with he | rfl | he
     ·have hx:=qF7 he;exact .inl ⟨e,hx,rfl,rfl,fun q=>absurd q (hm e hx)⟩
     ·exact .inr ⟨rfl,rfl,hz⟩
     ·have hx:=qFU he;exact .inl ⟨e,hx,rfl,rfl,fun q=>absurd q (hm e hx)⟩
theorem qwN {l:List DE} (h:qaj l=true) {a:Int} (ho:(qbi l a).2=true) :
  (∀ b,ecA (qbi l a).1 b=ecA l b-if b=a then 1 else 0)∧qb9 (qbi l a).1=qb9 l-1∧∀ e∈(qbi l a).1,∃ x∈l,x.ea=e.ea∧x.es=e.es:=by
 unfold qbi at ho ⊢;rw[if_neg (by simp[h])]at ho ⊢;split at ho
 ·simp at ho
 ·rename_i hT;rw[if_neg hT];obtain⟨x,hx,hxa⟩:=qcH (by simpa using hT);rw[hx]at ho ⊢;simp only at ho ⊢;obtain⟨g1,g2⟩:=qk5 hx;split
  ·rename_i hc;simp only;refine⟨fun b=>?_,?_,fun e he=>?_⟩
   ·rw[qem]
    conv=>rhs;rw[g1,qem,qc0]
    simp only[hxa,hc];by_cases hb:a=b
    ·rw[if_pos hb,if_pos hb.symm];omega
    ·rw[if_neg hb,if_neg (qDn hb)];omega
   ·rw[qcD]
    conv=>rhs;rw[g1,qcD,qb9]
    omega
   ·rw[qE5]at he;rcases he with he | he
    ·exact⟨e,qF7 he,rfl,rfl⟩
    ·exact⟨e,qFU he,rfl,rfl⟩
  ·simp only[g2];refine⟨fun b=>?_,?_,fun e he=>?_⟩
   ·rw[qem,qc0]
    conv=>rhs;rw[g1,qem,qc0]
    simp only[hxa];by_cases hb:a=b
    ·rw[if_pos hb,if_pos hb,if_pos hb.symm];omega
    ·rw[if_neg hb,if_neg hb,if_neg (qDn hb)];omega
   ·rw[qcD,qb9]
    conv=>rhs;rw[g1,qcD,qb9]
    simp only;omega
   ·rw[qE5,qE3]at he;rcases he with he | rfl | he
    ·exact⟨e,qF7 he,rfl,rfl⟩
    ·exact⟨x,qFu hx,rfl,rfl⟩
    ·exact⟨e,qFU he,rfl,rfl⟩
structure Cnt (l:List DE) (P:List PT):Prop where
 cnt:∀ a:Int,0<a→ecA l a=(ptN a P:Int)
 sum:∀ e∈l,∀ p∈P,p.pa=e.ea→p.ps=e.es
 tot:qb9 l=(nnN P:Int)
theorem ptN_pos {a:Int} {P:List PT}:0<ptN a P↔∃ p∈P,p.pa=a:=by
 unfold ptN;rw[List.countP_pos_iff];simp
theorem qzT {c:CO} (hd:qaj c.ddt=true) (h1:qcI c=true) (h2:qco c=true):Cnt c.ddt (qaA c.sets):=by
 simp only[qcI,Bool.and_eq_true,qDS,decide_eq_true_eq]at h1;simp only[qco,qDS]at h2;obtain⟨h1,h3⟩:=h1;have hs:∀ p∈qaA c.sets,0<p.pa→∃ e∈c.ddt,e.ea=p.pa∧e.es=p.ps:=fun p hp h0=>by
  have:=h2 p hp;unfold qc7 at this;simp only[qFb,decide_eq_true_eq,Bool.and_eq_true]at this;rcases this with h | ⟨h4,h5⟩
  ·omega
  ·obtain⟨e,he,hea⟩:=qcH h4;rw[he]at h5;exact⟨e,qFu he,hea,by simpa using h5⟩
 refine⟨fun a ha=>?_,fun e he p hp hpe=>?_,h3⟩
 ·by_cases hx:∃ e∈c.ddt,e.ea=a
  ·obtain⟨e,he,rfl⟩:=hx;rw[qzG hd he,← h1 e he];unfold qex;rw[if_pos ha]
  ·rw[qhG fun e he hea=>hx ⟨e,he,hea⟩];have:¬ 0<ptN a (qaA c.sets):=fun h=>by
    obtain⟨p,hp,hpa⟩:=ptN_pos.1 h;obtain⟨e,he,hea,_⟩:=hs p hp (by omega);exact hx ⟨e,he,by omega⟩
   omega
 ·have:=(qrr hd he).1;obtain⟨x,hx,hxa,hxs⟩:=hs p hp (by omega);rw[qkw hd he hx (by omega)];exact hxs.symm
theorem qzS {c:CO} (hd:qaj c.ddt=true) (h:Cnt c.ddt (qaA c.sets)):qcI c=true∧qco c=true:=by
 constructor
 ·simp only[qcI,Bool.and_eq_true,qDS,decide_eq_true_eq];refine⟨fun e he=>?_,h.tot⟩;have hp:=(qrr hd he).1;rw[← qzG hd he,h.cnt _ hp];unfold qex;rw[if_pos hp]
 ·simp only[qco,qDS];intro p hp;unfold qc7;by_cases h0:p.pa≤0
  ·simp[h0]
  ·have hn:0<ptN p.pa (qaA c.sets):=ptN_pos.2 ⟨p,hp,rfl⟩;have hc:=h.cnt p.pa (by omega);have hx:∃ e∈c.ddt,e.ea=p.pa:=qFk fun hx=>by
    rw[qhG fun e he hea=>hx ⟨e,he,hea⟩]at hc;omega
   obtain⟨e,he,hea⟩:=hx;have hes:=h.sum e he p hp hea.symm;obtain⟨g1,g2⟩:=qwR hd he;rw[hea]at g1 g2;rw[g1,g2];simp[hes]
theorem qth {l l1 l2:List DE} {P P':List PT} {old now:PT} (hd:qaj l=true) (h:Cnt l P) (hold:old∈P) (hn0:0≤now.pa) (ho0:0≤old.pa)
  (hc:∀ f:PT→Bool,P'.countP f+(if f old=true then 1 else 0)=P.countP f+(if f now=true then 1 else 0)) (hm:∀ p∈P',p∈P∨p=now)
  (h1:(now.pa=0∧l1=l)∨(now.pa≠0∧(qbZ l now.ps now.pa).2=true∧l1=(qbZ l now.ps now.pa).1))
  (h2:(old.pa=0∧l2=l1)∨(old.pa≠0∧(qbi l1 old.pa).2=true∧l2=(qbi l1 old.pa).1)):qaj l2=true∧Cnt l2 P':=by
 have a1:qaj l1=true∧(∀ b,0<b→ecA l1 b=ecA l b+if b=now.pa then 1 else 0)∧qb9 l1=qb9 l+(if 0<now.pa then 1 else 0)∧∀ e∈l1,(∃ x∈l,x.ea=e.ea∧x.es=e.es∧(0<now.pa→e.ea=now.pa→e.es=now.ps))∨(e.ea=now.pa∧e.es=now.ps∧ecA l now.pa=0∧0<now.pa):=by
  rcases h1 with⟨z,rfl⟩ | ⟨z,ho,rfl⟩
  ·refine⟨hd,fun b hb=>?_,?_,fun e he=>.inl ⟨e,he,rfl,rfl,fun q=>by omega⟩⟩
   ·rw[if_neg (by omega)];omega
   ·rw[if_neg (by omega)];omega
  ·obtain⟨g0,g1,g2,g3⟩:=qz9 hd ho;refine⟨qoi hd ho,fun b _=>g1 b,by rw[if_pos g0];exact g2,fun e he=>?_⟩;rcases g3 e he with⟨x,hx,q1,q2,q3⟩ | ⟨q1,q2,q3⟩
   ·exact .inl ⟨x,hx,q1,q2,fun _=>q3⟩
   ·exact .inr ⟨q1,q2,q3,g0⟩
 obtain⟨b1,b2,b3,b4⟩:=a1;have a2:qaj l2=true∧(∀ b,0<b→ecA l2 b=ecA l1 b-if b=old.pa then 1 else 0)∧qb9 l2=qb9 l1-(if 0<old.pa then 1 else 0)∧∀ e∈l2,∃ x∈l1,x.ea=e.ea∧x.es=e.es:=by
  rcases h2 with⟨z,rfl⟩ | ⟨z,ho,rfl⟩
  ·refine⟨b1,fun b hb=>?_,?_,fun e he=>⟨e,he,rfl,rfl⟩⟩
   ·rw[if_neg (by omega)];omega
   ·rw[if_neg (by omega)];omega
  ·obtain⟨g1,g2,g3⟩:=qwN b1 ho;exact⟨qlZ b1 ho,fun b _=>g1 b,by rw[if_pos (by omega)];exact g2,g3⟩
 obtain⟨d1,d2,d3,d4⟩:=a2;refine⟨d1,fun a ha=>?_,fun e he p hp hpe=>?_,?_⟩
 ·have q:=hc fun p=>decide (p.pa=a);simp only[decide_eq_true_eq]at q;have k1:=h.cnt a ha;rw[d2 a ha,b2 a ha,k1];unfold ptN;split at q <;> split at q <;> split <;> split <;> omega
 ·obtain⟨x,hx,x1,x2⟩:=d4 e he;have hxp:0<x.ea:=(qrr b1 hx).1;rcases hm p hp with hp | rfl
  ·rcases b4 x hx with⟨y,hy,y1,y2,_⟩ | ⟨y1,y2,y3,y4⟩
   ·rw[← x2,← y2];exact h.sum y hy p hp (by omega)
   ·have k1:=h.cnt now.pa y4;have k2:0<ptN now.pa P:=ptN_pos.2 ⟨p,hp,by omega⟩;omega
  ·rcases b4 x hx with⟨y,hy,y1,y2,y3⟩ | ⟨y1,y2,y3,y4⟩
   ·rw[← x2];exact(y3 (by omega) (by omega)).symm
   ·rw[← x2];exact y2.symm
 ·have q:=hc fun p=>decide (0<p.pa);simp only[decide_eq_true_eq]at q;have k1:=h.tot;rw[d3,b3,k1];unfold nnN;split at q <;> split at q <;> (try simp only[*,if_true,if_false]) <;> omega
theorem coreOk_iff {c:CO}:qal c=true↔(0≤c.txg∧c.txg≤1000000∧qaj c.ddt=true∧c.parts.length≤8∧qbp 12 c.safe=true∧0≤c.logn∧c.logn≤8∧c.sets.all qbj=true∧c.parts.all qao=true∧qbc (c.sets.map csB)=true∧qcI c=true∧qco c=true):=by
 unfold qal;simp only[Bool.and_eq_true,decide_eq_true_eq,and_assoc]
theorem qBA (more:Bool) (p:PT) (l:List DE) (b:Bool):(qbI more (qhk p) (l,b,true))=if p.pa=0 then (l,b,true) else ((qhh more l p).1,true,(qhh more l p).2):=by
 rw[qls];simp only[qbI,qFP]
theorem qvu {l:List CS} {k:Nat} {s s':CS} (h:l[k]?=some s) (he:csB s'=csB s):(l.set k s').map csB=l.map csB:=by
 rw[qFG,he];apply qF5;intro j;rw[qEC];split
 ·rename_i hj;subst hj;split
  ·rw[qD9,h];rfl
  ·rename_i hn;rw[qFa (by omega)]
 ·rfl
theorem qi2 {d x:DK} {c:CO} (hT:CoT c) (hc:qal c=true) {k i:Nat} {s:CS} (hs:c.sets[k]?=some s) (hi:i<8) {now:PT} (hn:qaH now=true):qal (qfK d x c k i s (s.map[i]?.getD zPT) now).2.1=true:=by
 have hs8:=hT.m8 s (qFu hs);obtain⟨old,ho⟩:∃ old,s.map[i]?=some old:=⟨_,qDF (by omega)⟩;rw[ho,qEx];unfold qfK;simp only[qBA];obtain⟨h1,h2,h3,h4,h5,h6,h7,h8,h9,h10,h11,h12⟩:=coreOk_iff.1 hc;have hcs:=h8;rw[qDS]at hcs;have hok:=hcs s (qFu hs);have hmp:∀ p∈s.map,qaH p=true:=by
  simp only[qbj,Bool.and_eq_true,qDS]at hok;exact hok.2
 have hp0:∀ p:PT,qaH p=true→0≤p.pa:=fun p hp=>by
  unfold qaH at hp;split at hp
  ·omega
  ·simp only[Bool.and_eq_true,decide_eq_true_eq]at hp;omega
 have hoP:old∈qaA c.sets:=qF0.2 ⟨s,qFu hs,qFu ho⟩;have hC:=qzT h3 h11 h12;generalize hl1:(if now.pa=0 then (c.ddt,c.dirty,true) else ((qhh true c.ddt now).1,true,(qhh true c.ddt now).2))=A
 obtain⟨l1,b1,k1⟩:=A;simp only;generalize hl2:(if old.pa=0 then (l1,b1,true) else ((qhh false l1 old).1,true,(qhh false l1 old).2))=B
 obtain⟨l2,b2,k2⟩:=B;simp only;by_cases hf:k1=false∨k2=false
 ·rw[if_pos hf];exact hc
 ·rw[if_neg hf];have e1:k1=true:=by cases k1 <;> simp_all
  have e2:k2=true:=by cases k2 <;> simp_all
  subst e1 e2;have q1:(now.pa=0∧l1=c.ddt)∨(now.pa≠0∧(qbZ c.ddt now.ps now.pa).2=true∧l1=(qbZ c.ddt now.ps now.pa).1):=by
   split at hl1
   ·rename_i h;simp only[qDt]at hl1;exact .inl ⟨h,hl1.1.symm⟩
   ·rename_i h;simp only[qDt,qhh,if_true]at hl1;exact .inr ⟨h,hl1.2.2,hl1.1.symm⟩
  have q2:(old.pa=0∧l2=l1)∨(old.pa≠0∧(qbi l1 old.pa).2=true∧l2=(qbi l1 old.pa).1):=by
   split at hl2
   ·rename_i h;simp only[qDt]at hl2;exact .inl ⟨h,hl2.1.symm⟩
   ·rename_i h;simp only[qDt,qhh,qDA,if_false]at hl2;exact .inr ⟨h,hl2.2.2,hl2.1.symm⟩
  obtain⟨d1,d2⟩:=qth (P':=qaA (c.sets.set k ⟨s.name,s.kind,s.frm,s.map.set i now,s.home,true⟩)) h3 hC hoP (hp0 now hn) (hp0 old (hmp old (qFu ho))) (fun f=>qjA f hs ho rfl) (fun p hp=>qwb hs rfl hp) q1 q2;obtain⟨d3,d4⟩:=qzS (c:=⟨c.txg,c.sets.set k ⟨s.name,s.kind,s.frm,s.map.set i now,s.home,true⟩,l2,c.parts,b2,c.safe,c.logn⟩) d1 d2;refine coreOk_iff.2 ⟨h1,h2,d1,h4,h5,h6,h7,?_,h9,?_,d3,d4⟩
  ·rw[qDS];intro t ht;rcases qGw ht with ht | rfl
   ·exact hcs t ht
   ·simp only[qbj,Bool.and_eq_true,qDS]at hok ⊢;refine⟨hok.1,fun p hp=>?_⟩;rcases qGw hp with hp | rfl
    ·exact hok.2 p hp
    ·exact hn
  ·simp only;rw[qvu (s':=⟨s.name,s.kind,s.frm,s.map.set i now,s.home,true⟩) hs rfl];exact h10
theorem qos {d:DK} {c:CO} (hT:CoT c) (hc:qal c=true) (k:Nat) {i:Nat} (hi:i<8) (text:List UInt8):qal (qcL d c k i text).2.1=true:=by
 unfold qcL;cases hs:c.sets[k]? with
 | none=>exact hc
 | some s =>
  simp only;split
  ·exact qi2 hT hc hs hi (by decide)
  ·split
   ·exact hc
   ·split
    ·exact hc
    ·split
     ·exact hc
     ·exact qi2 hT hc hs hi (quE _ _ _)
theorem qy9 {t:List UInt8} (h:(qkQ t).2=true):qdh (qkQ t).1=true:=by
 unfold qkQ at h ⊢;split
 ·rename_i m a i x y hc;rw[hc]at h;simp only at h;split
  ·rename_i p q hm;rw[hm]at h;simp only at h;split
   ·rename_i h1;have hne:t≠[]:=by
     rintro rfl;have:=h1.1;simp[qbf,qa1]at this
    have hlr:=h1.2;unfold qbW at hlr;split at hlr
    ·exact absurd hlr.symm hne
    ·rename_i hk;simpa using hk
   ·rename_i h1;rw[if_neg h1]at h;cases h
  ·rename_i hm;split at h
   ·rename_i q;exact absurd q (hm _ _)
   ·cases h
 ·rename_i hc;split at h
  ·rename_i q;exact absurd q (hc _ _ _ _ _)
  ·cases h
def LgO (o:BO):Prop:=o.kind=3∧o.a.length≤24∧o.b=[]∧0≤o.i∧o.i<8∧o.text.length≤24
theorem qCy {r:LR} (h:qdh r=true):LgO r.op:=by
 simp only[qdh,Bool.and_eq_true,decide_eq_true_eq,qbS]at h;obtain⟨⟨⟨⟨⟨⟨h1,h2⟩,h3⟩,h4⟩,h5⟩,h6⟩,h7⟩:=h;refine⟨by omega,?_,h4,h5,h6,h7⟩;omega
theorem qqT {d:DK} {txg:Int} {o:BO} (h:o∈lfB d txg):LgO o:=by
 unfold lfB at h;rw[qt5]at h;have h2:=qpD _ _ h;obtain⟨i,_,hi⟩:=qD6.1 h2;rw[qmv,qfB,qfB,qgw,qgw]at hi;split at hi
 ·rename_i g;simp only[Bool.and_eq_true]at g;injection hi with hi;subst hi;exact qCy (qy9 g.1.1)
 ·split at hi
  ·rename_i g;simp only[Bool.and_eq_true]at g;injection hi with hi;subst hi;exact qCy (qy9 g.1.1)
  ·cases hi
def agF:List BO→DK→CO→DK×CO×Int
 | [],d,c=>(d,c,0)
 | o::r,d,c=>if dnB c o≠0 then (d,c,dnB c o) else
  if (qcL d c (nmP c.sets o.a) o.i.toNat o.text).2.2≠0 then (d,c,(qcL d c (nmP c.sets o.a) o.i.toNat o.text).2.2) else
  agF r (qcL d c (nmP c.sets o.a) o.i.toNat o.text).1 (qcL d c (nmP c.sets o.a) o.i.toNat o.text).2.1
structure AgT (d:DK) (c:CO):Prop where
 d:qbr d=true
 t:CoT c
 c:qal c=true
theorem AgT.turn {d:DK} {c:CO} (h:AgT d c) (k:Nat) {i:Nat} (hi:i<8) (text:List UInt8):AgT (qcL d c k i text).1 (qcL d c k i text).2.1 :=
 ⟨(qrZ h.d c k i text).1,quY h.t (qbs h.c).1 k i text,qos h.t h.c k hi text⟩
theorem qz7:∀ {l:List BO} {d:DK} {c:CO},(∀ o∈l,LgO o)→AgT d c→AgT (agF l d c).1 (agF l d c).2.1
 | [],d,c,_,h=>h
 | o::r,d,c,hl,h=>by
  have ho:=hl o (by simp);rw[agF];split
  ·exact h
  ·split
   ·exact h
   ·exact qz7 (fun x hx=>hl x (by simp[hx])) (h.turn _ (by have:=ho.2.2.2;omega) _)
theorem doN (bs:List BS) (o:BO) (hl:bs.length<2000000) (hB:∀ b∈bs,b.bl.length=8) (hn:∀ b∈bs,b.name.length<1000000000) (ho:o.a.length<1000000000∧o.b.length<1000000000) :
  ACall prog 100 [.agg [.sl 1000 0 bs.length],.agg (BO.row o)] [(1000,qbz bs)] (fun r L'=>r=.tup [.agg [.sl 902 0 (doB bs o).1.length],.int .i64 (doB bs o).2]∧L'=[(902,qbz (doB bs o).1)]):=by
 refine(doC bs o hl hB hn ho).can ?_;rintro r L' ⟨id,hid,rfl,rfl⟩;simp only[qE3,qFc,or_false]at hid;rcases hid with rfl | rfl
 ·exact⟨[(1000,902)],by simp,by simp,by simp,by simp,by simp,by simp[qah,qbz]⟩
 ·exact⟨[(900,902)],by simp,by simp,by simp,by simp,by simp,by simp[qah,qbz]⟩
theorem qvK (d:DK) (c:CO) (h:AgT d c):CV prog 42 [.agg d.row,.agg c.row] (.tup [.agg (agF (lfB d c.txg) d c).1.row,.agg (agF (lfB d c.txg) d c).2.1.row,.int .i64 (agF (lfB d c.txg) d c).2.2]):=by
 have c1:=qp6 d (qeo h.d) c.txg;have hll:=qqU d c.txg;have hop:=fun o (ho:o∈lfB d c.txg)=>qqT ho;generalize lfB d c.txg=ls at *
 obtain⟨R,hR⟩:∃ R,agF ls d c=R:=⟨_,rfl⟩;rw[hR];simp only[DK.row]at c1;refine cvx func42 [(5,[zJ 0 [3] [],zJ 2 [] [3],zJ 3 [] [3],zJ 4 [] [3],zJ 5 [] [3],⟨1,[],[],[10],[]⟩,⟨6,[28],[],[10],[]⟩,zI 7,zI 8,zI 9,zJ 10 [] [3],zI 11,zI 12]),(7,[zJ 0 [2] [],zJ 1 [3] [2],zJ 2 [] [2,3],zJ 3 [] [3],zI 4,zI 5]),(8,[zJ 0 [3] [],zJ 2 [] [3],zJ 3 [] [3],zJ 4 [] [3],zJ 5 [] [3],zJ 6 [] [3],zI 1,zI 7,zI 8,zI 9,zI 10,zI 11,zI 12]),(9,[zJ 0 [2] [],zJ 1 [3] [2],zJ 2 [] [2,3],zJ 3 [] [2,3],zJ 4 [] [2,3],zJ 5 [] [2,3],zJ 6 [] [2,3],zJ 7 [] [2,3],zJ 8 [] [2,3],zJ 9 [] [2,3],zJ 10 [] [2,3],zJ 11 [] [2,3],zJ 12 [] [2,3],⟨13,[],[],[18,19],[]⟩,zI 14,zI 15,zI 16,zI 17,zJ 18 [] [2,3],zJ 19 [] [2,3],zI 20,zI 21,zI 22]),(11,[zJ 0 [2] [],zJ 1 [3] [2],zJ 2 [] [2,3],zJ 3 [] [3],zI 4,zI 5]),(14,[zJ 0 [2] [],zJ 1 [3] [2],zJ 2 [] [3],zI 3,zI 4])] ntmps42 rfl rfl rfl ?_ (hca:=by simp[DK.row,qda]) (hcv:=by simp[DK.row,qda]);simp[DK.row,CO.row];refine c1.call ?_;simp;refine qa9 (X:=Nat×DK×CO) [2,3,4,5,7,8] [(2,2),(3,3),(4,4),(5,5)] (fun x=>[(8,.int .i64 x.1)]) (fun x=>[(2,⟨3,[x.2.1.row]⟩),(3,⟨7,[x.2.2.row]⟩),(4,⟨3,[[.nils,.nils,.nils]]⟩),(5,⟨7,[[.int .i64 0,.nils,.nils,.nils,.bool false,.nils,.int .i64 0]]⟩)]) (fun x=>ls.length-x.1) (fun x=>x.1≤ls.length∧AgT x.2.1 x.2.2∧agF (ls.drop x.1) x.2.1 x.2.2=R) (0,d,c) ⟨by simp,h,by simpa using hR⟩ ?_ (he:=by simp[qah,DK.row,CO.row]);rintro⟨i,d,c⟩ ⟨hi,hT,hF⟩;simp only at hi hT hF;cases hr:ls.drop i with
 | nil =>
  have:=qaU hr;have hie:i=ls.length:=by omega
  subst hie;rw[hr,agF]at hF;subst hF;simp[DK.row,CO.row]
 | cons o r =>
  obtain⟨g1,e0,e1,g3⟩:=qaV hr;obtain⟨o1,o2,o3,o4,o5,o6⟩:=hop o (qFu e1);have e2:=qaq ((i:Int)+1) (by omega) (by omega);obtain⟨hm,k1,k2,k3,k4,k5,k6,k7⟩:=qbs hT.c;have cn:=qmr c (by omega) hT.t.m8;have cn2:=qp3 c (by omega) hT.t.m8;have cd:=doN (c.sets.map csB) o (by simp;omega) (fun b hb=>by
   obtain⟨s,hs,rfl⟩:=qD6.1 hb;simp[csB]) (fun b hb=>by
   obtain⟨s,hs,rfl⟩:=qD6.1 hb;have:=(hT.t.nm s hs).1;simp[csB];omega) ⟨by omega,by simp[o3]⟩
  have ca:=qiF (atC (c.sets.map csB) o.a (by simp;omega)) (hca:=by simp[bk]) (hcv:=by simp);rw[← qqJ]at ca;have hdn:(doB (c.sets.map csB) o).2=dnB c o:=rfl;rw[hr,agF]at hF;simp only[CO.row]at cn cn2;simp[DK.row,CO.row,BO.row,g1,e0,e1,show(i:Int)<ls.length by omega];refine qac [] (by kernel_rfl) cn (by simp[DE.row,PT.row,qae,qbv]) (by simp) trivial (by simp) (by simp) ?_;rintro r L' ⟨rfl,rfl⟩;refine⟨[(900,28)],⟨by simp,by simp,by simp,by simp,by simp⟩,?_⟩;simp only[qad];simp[BO.row];generalize hX:doB (c.sets.map csB) o=X at *
  obtain⟨xb,xc⟩:=X;simp only at hdn;subst hdn;simp only[BO.row,qEH]at cd;refine qac [(1000,.whole 28)] (by kernel_rfl) cd (by simp) (by simp) (by simp[qbz];exact qaa rfl (by simp)) (by simp) (by simp) ?_;rintro r L' ⟨rfl,rfl⟩;refine⟨[(902,902)],⟨by simp,by simp,by simp,by simp,by simp⟩,?_⟩;simp only[qad];by_cases hz:dnB c o≠0
  ·rw[if_pos hz]at hF;subst hF;simp[hz,DK.row,CO.row]
  ·rw[if_neg hz]at hF;have hz0:dnB c o=0:=by omega
   obtain⟨_,q2,_,_⟩:=qob hz0;have ct:=qyg d (qeo hT.d) c hT.t hm (nmP c.sets o.a) o.i.toNat (q2 (by omega)) (by omega) o.text (by omega) ⟨by omega,by omega⟩;have hTu:=hT.turn (nmP c.sets o.a) (i:=o.i.toNat) (by omega) o.text;rw[show((o.i.toNat:Nat):Int)=o.i by omega]at ct;generalize qcL d c (nmP c.sets o.a) o.i.toNat o.text=Y at *
   obtain⟨yd,yc,yn⟩:=Y;simp only at hF hTu;simp only[DK.row,CO.row]at ct;simp only[bk,qEd]at cn2 ca;simp[hz0,BO.row,DK.row,CO.row,g1,e0,e1];refine cn2.call ?_;simp;refine ca.call ?_;simp[BO.row,g1,e0,e1];refine ct.call ?_;by_cases hy:yn≠0
   ·rw[if_pos hy]at hF;subst hF;simp[hy,DK.row,CO.row]
   ·rw[if_neg hy]at hF;simp[show yn=0 by omega,DK.row,CO.row];exact nx (i+1,yd,yc) [(2,2),(3,3),(4,4),(5,5)] ⟨by simp only;omega,hTu,by simp only[g3];exact hF⟩ (by simp only;omega) (h4:=by simp[qah,e2,DK.row,CO.row])
def agB (d:DK):DK×CO×Int:=if (rrB d).2≠0 then (zDK,zK,(rrB d).2) else agF (lfB d (rrB d).1.txg) d (rrB d).1
theorem qw8 {d:DK} {p:PT} (h:(qag d p).2=0):qaH p=true:=by
 unfold qag at h;split at h
 ·simp at h
 ·split at h
  ·rename_i g;exact(qdp g).2.1
  ·split at h
   ·rename_i g;exact(qdp g).2.1
   ·simp at h
theorem qv3 {p:PT} (h:qaH p=true):p.pa<120:=by
 unfold qaH at h;split at h
 ·omega
 ·simp only[Bool.and_eq_true,decide_eq_true_eq]at h;omega
theorem qln:∀ {l:List Int} {q:Int},(∀ x∈l,q<x∧13≤x∧x<120)→l.Pairwise (· < ·)→qbp q l=true
 | [],_,_,_=>rfl
 | x::r,q,h,hp=>by
  rw[qGC]at hp;have hx:=h x (by simp);simp only[qbp,Bool.and_eq_true,decide_eq_true_eq];exact⟨⟨⟨hx.2.1,hx.2.2⟩,hx.1⟩,qln (fun y hy=>⟨hp.1 y hy,(h y (by simp[hy])).2⟩) hp.2⟩
theorem qlg {c:CO} (hc:qal c=true) {root:Int} (hr:root<120):qbp 12 (qcb c root)=true:=by
 obtain⟨h1,h2,h3,h4,h5,h6,h7,h8,h9,h10,h11,h12⟩:=coreOk_iff.1 hc;have h0:([]:List Int).Pairwise (· < ·):=.nil;obtain⟨a1,a2⟩:=qnb h0 root;obtain⟨b1,b2⟩:=qet (c.ddt.map DE.ea) a1;obtain⟨c1,c2⟩:=qet (c.sets.map fun s=>s.home.pa) b1;obtain⟨d1,d2⟩:=qet (c.parts.map PT.pa) c1;refine qln (fun x hx=>?_) d1;have hx2:=(d2 x).1 hx;rw[c2,b2,a2]at hx2;rw[qDS]at h8 h9;have k1:∀ y∈c.ddt.map DE.ea,y<120:=fun y hy=>by
  obtain⟨e,he,rfl⟩:=qD6.1 hy;have:=qf8 (qhb h3 e he);omega
 have k2:∀ y∈c.sets.map (fun s=>s.home.pa),y<120:=fun y hy=>by
  obtain⟨s,hs,rfl⟩:=qD6.1 hy;have:=h8 s hs;simp only[qbj,Bool.and_eq_true]at this;exact qv3 this.1.2
 have k3:∀ y∈c.parts.map PT.pa,y<120:=fun y hy=>by
  obtain⟨p,hp,rfl⟩:=qD6.1 hy;exact qv3 (qdU (h9 p hp)).1
 rcases hx2 with((((hx2 | ⟨rfl,hx3⟩) | ⟨hx2,hx3⟩) | ⟨hx2,hx3⟩) | ⟨hx2,hx3⟩)
 ·simp at hx2
 ·omega
 ·have:=k1 x hx2;omega
 ·have:=k2 x hx2;omega
 ·have:=k3 x hx2;omega
theorem qgp {d:DK} (h:(rrB d).2=0):AgT d (rrB d).1:=by
 obtain⟨x,hd,hT,hx,hk⟩:=qyu h;have hroot:qaH (rbB d).2=true:=by
  unfold rrB at h;split at h
  ·split at h
   ·rename_i q;simp only[rrF,Bool.and_eq_true,decide_eq_true_eq]at q;exact qw8 q.1
   ·simp at h
  ·simp at h
 rw[hx];refine⟨hd,hT,?_⟩;obtain⟨h1,h2,h3,h4,h5,h6,h7,h8,h9,h10,h11,h12⟩:=coreOk_iff.1 hk;exact coreOk_iff.2 ⟨h1,h2,h3,h4,qlg hk (qv3 hroot),h6,h7,h8,h9,h10,h11,h12⟩
theorem qz8 {d:DK} (h:(agB d).2.2=0):AgT (agB d).1 (agB d).2.1:=by
 unfold agB at h ⊢;split
 ·rename_i q;rw[if_pos q]at h;exact absurd h q
 ·rename_i q;exact qz7 (fun o ho=>qqT ho) (qgp (by omega))
def zpR:List AV:=[.nils,.nils,.nils,.int .i64 0,.nils,.nils,.nils,.bool false,.nils,.int .i64 0,.bool false]
def qCZ (R:DK×CO×Int) (r:AV) (L':List (Nat×Ob)):Prop :=
 (R.2.2≠0∧r=.tup [.agg zpR,.int .i64 R.2.2]∧L'=[]) ∨
 (R.2.2=0∧r=.tup [.agg (qiP ⟨R.1,R.2.1,true⟩ 901 902 903 904 905 906 907),.int .i64 0]∧L'=qdg ⟨R.1,R.2.1,true⟩ 901 902 903 904 905 906 907)
theorem qwr (d:DK) (h:DkT d):ACall prog 45 [.agg d.row] [] (qCZ (agB d)):=by
 obtain⟨R,hR⟩:∃ R,agB d=R:=⟨_,rfl⟩;rw[hR];unfold agB at hR;have c1:=qjq d h;have c2:=qiq d h;have c3:=qq9 d h (rrB d).1.txg;have hll:=qqU d (rrB d).1.txg;have hop:=fun o (ho:o∈lfB d (rrB d).1.txg)=>qqT ho;have hT0:=@qgp d;generalize lfB d (rrB d).1.txg=ls at *
 generalize rrB d=K at *
 obtain⟨c,kn⟩:=K;simp only at c3 hR hT0;simp only[DK.row]at c1 c2 c3;refine acx func45 [(4,[zJ 0 [1] [],zJ 2 [4] [1],⟨1,[],[4],[4],[]⟩,zI 3,zJ 4 [] [1,4],zI 5]),(8,[zI 0,zJ 1 [6] [],zJ 3 [8] [6],⟨2,[904,905,906,907],[8],[8],[]⟩,⟨4,[37],[],[8],[]⟩,zI 5,zI 6,zI 7,zJ 8 [] [6,8],zI 9,zI 10])] ntmps45 rfl rfl rfl ?_;simp[DK.row];refine qac [] (by kernel_rfl) c1 (by simp[qaf,LT.row]) (by simp) trivial (by simp) (by simp) ?_;rintro r L' (⟨_,hk,rfl,rfl⟩ | ⟨hk,rfl,rfl⟩)
 ·simp only at hk;rw[if_pos hk]at hR;subst hR;refine⟨[],⟨by simp,by simp,by simp,by simp,by simp⟩,?_⟩;simp only[qad];simp[hk];exact⟨[],by simp,.inl ⟨hk,rfl,rfl⟩⟩
 ·simp only at hk;subst hk;rw[if_neg (by simp)]at hR;have hT:=hT0 rfl;refine⟨[(904,904),(905,905),(906,906),(907,907)],⟨by simp,by simp,by simp,by simp,by simp⟩,?_⟩;simp only[qad];simp[qcM];refine qac [] (by kernel_rfl) c2 (by simp[qaf,LT.row]) (by simp) trivial (by simp) (by simp) ?_;rintro r L' ⟨rfl,rfl⟩;refine⟨[(6,901),(10,902),(14,903)],⟨by simp,by simp,by simp,by simp,by simp⟩,?_⟩;simp only[qad];simp;refine c3.call ?_;simp;refine qa9 (X:=Nat×DK×CO) [2,6,28,29,30] [(2,2),(6,6),(901,901),(902,902),(903,903),(904,904),(905,905),(906,906),(907,907)] (fun x=>[(30,.int .i64 x.1)]) (fun x=>(2,⟨11,[zpR]⟩)::(6,⟨11,[qey x.2.1 x.2.2 true 901 902 903 904 905 906 907]⟩)::qdg ⟨x.2.1,x.2.2,true⟩ 901 902 903 904 905 906 907) (fun x=>ls.length-x.1) (fun x=>x.1≤ls.length∧AgT x.2.1 x.2.2∧agF (ls.drop x.1) x.2.1 x.2.2=R) (0,d,c) ⟨by simp,hT,by simpa using hR⟩ ?_ (he:=by simp[qah,qey,qdg,zpR]);rintro⟨i,d,c⟩ ⟨hi,hT,hF⟩;simp only at hi hT hF;cases hr:ls.drop i with
  | nil =>
   have:=qaU hr;have hie:i=ls.length:=by omega
   subst hie;rw[hr,agF]at hF;subst hF;simp[qey,qdg];exact⟨qdg ⟨d,c,true⟩ 901 902 903 904 905 906 907,by simp[qdg],.inr ⟨rfl,by simp[qiP],rfl⟩⟩
  | cons o r =>
   obtain⟨g1,e0,e1,g3⟩:=qaV hr;obtain⟨o1,o2,o3,o4,o5,o6⟩:=hop o (qFu e1);have e2:=qaq ((i:Int)+1) (by omega) (by omega);obtain⟨hm,k1,k2,k3,k4,k5,k6,k7⟩:=qbs hT.c;have cn:=qrj c (by omega) hT.t.m8;have hbk:qbc (c.sets.map csB)=true:=qiH hT.c;have cd:=qC4 (c.sets.map csB) o ⟨by simp;omega,fun b hb=>by
    obtain⟨s,hs,rfl⟩:=qD6.1 hb;have:=hT.t.nm s hs;simp[csB];omega⟩ ⟨by omega,by simp[o3]⟩
   have hdn:(qxt (c.sets.map csB) o).2=dnB c o:=by
    unfold qxt dnB;rw[if_pos hbk]
   rw[hr,agF]at hF;rw[hdn]at cd;simp only[CO.row]at cn;simp only[bk,BO.row]at cd;simp[qey,qdg,BO.row,g1,e0,e1,show(i:Int)<ls.length by omega];refine qaK [] (by kernel_rfl) cn (by simp[qb5,mtA,kcs,qaJ,kpt,kin,qak,qbv]) (by simp) trivial (by simp) (by simp) ?_;rintro r0 L' ⟨rfl,rfl⟩;refine⟨by simp[noL],by simp[qbz,qnT],[(900,37)],⟨by simp,by simp,by simp,by simp,by simp⟩,?_⟩;simp only[qad];simp[BO.row];refine qaK [] (by kernel_rfl) cd (by simp[qb5,mtA,qbz];exact qDU (by simp)) (by simp) trivial (by simp) (by simp) ?_;rintro r0 L' ⟨rfl,rfl⟩;refine⟨by simp[noL],by simp[qbz,qnT],[(903,39)],⟨by simp,by simp,by simp,by simp,by simp⟩,?_⟩;simp only[qad];by_cases hz:dnB c o≠0
   ·rw[if_pos hz]at hF;subst hF;simp[hz];exact⟨[],by simp,.inl ⟨hz,by simp[zpR],rfl⟩⟩
   ·rw[if_neg hz]at hF;have hz0:dnB c o=0:=by omega
    obtain⟨_,q2,_,_⟩:=qob hz0;have cp:=qzs d hT.d c hT.t hT.c true o (q2 (by omega)) ⟨by omega,by omega⟩ (by omega);have hTu:=hT.turn (nmP c.sets o.a) (i:=o.i.toNat) (by omega) o.text;generalize qcL d c (nmP c.sets o.a) o.i.toNat o.text=Y at *
    obtain⟨yd,yc,yn⟩:=Y;simp only at hF hTu;simp only[BO.row]at cp;simp[hz0,BO.row];refine qac [(1000,.whole 6),(1001,.whole 901),(1002,.whole 902),(1003,.whole 903),(1004,.whole 904),(1005,.whole 905),(1006,.whole 906),(1007,.whole 907)] (by kernel_rfl) cp (by simp) (by simp) (by simp[qcm,qey];exact⟨.inr ⟨_,_,rfl,rfl,by simp⟩,qaa rfl (qaI _),qaa rfl (qaI _),qaa rfl (qcO _),qaa rfl (qa2 _),qaa rfl (qbL _),qaa rfl (qbo _),qaa rfl (qaQ _)⟩) (by simp[qcm]) (by simp) ?_;rintro r0 L' ⟨d',c',i3,i5,h3,h5,rfl,rfl,hq⟩;simp only[qE3,qFc,or_false]at h3 h5;subst h3 h5;simp only at hq;refine⟨[(903,813),(905,815)],⟨by simp[qcm],by simp,by simp,by simp[qcm],by simp[qcm]⟩,?_⟩;simp only[qad];by_cases hy:yn≠0
    ·rw[if_pos hy]at hF;subst hF;simp[hy,qcm,qey];exact⟨[],by simp,.inl ⟨hy,by simp[zpR],rfl⟩⟩
    ·rw[if_neg hy]at hF;obtain⟨rfl,rfl⟩:=hq (by omega);simp[show yn=0 by omega,qcm,qey];exact nx (i+1,d',c') [(2,2),(6,6),(901,901),(902,902),(813,903),(904,904),(815,905),(906,906),(907,907)] ⟨by simp only;omega,hTu,by simp only[g3];exact hF⟩ (by simp only;omega) (h4:=by simp[qah,e2,zpR,qey,qdg])
def ePT (e:DE):PT:=⟨e.ea,e.es,0⟩
def qrL (c:CO) (root:PT):List PT:=root::(c.sets.map CS.home++(c.parts++c.ddt.map ePT))
theorem qus {f:Nat} {args:List AV} {R:List PT} (h:ACall prog f args [] (fun r L'=>r=.sl 900 0 R.length∧L'=[(900,kpt R)])) (he:qb0 prog f=true) (ha:clL args=true):CV prog f args (.lst 3 (R.map PT.row)):=by
 refine CV.of_frz h ?_ (he:=he) (hca:=ha) (hcv:=by simp[PT.row]);rintro r L' ⟨rfl,rfl⟩;refine⟨by simp,by simp,fun x hx=>by simp only[qF8]at hx;subst hx;exact qbo _,?_⟩;simp[qbe,kpt,qak]
theorem qBp (c:CO) (h:CoT c) (hm:CoM c) (root:PT):CV prog 32 [.agg c.row,.agg root.row] (.lst 3 ((qrL c root).map PT.row)):=by
 refine qus ?_ (by kernel_rfl) (by simp[qda,PT.row]);have h1:=hm.sets;have h2:=hm.ddt;have h3:=hm.parts;obtain⟨O,hO⟩:∃ O:Nat→List PT,∀ i,O i=root::(c.sets.take i).map CS.home:=⟨_,fun _=>rfl⟩;obtain⟨Q,hQ⟩:∃ Q:Nat→List PT,∀ i,Q i=O c.sets.length++c.parts++(c.ddt.take i).map ePT:=⟨_,fun _=>rfl⟩;have o0:O 0=[root]:=by simp[hO]
 have q0:Q 0=O c.sets.length++c.parts:=by simp[hQ]
 have ol:∀ i,i≤c.sets.length→(O i).length=i+1:=fun i hi=>by simp[hO];omega
 have ql:∀ i,i≤c.ddt.length→(Q i).length=c.sets.length+1+c.parts.length+i:=fun i hi=>by simp[hQ,hO];omega
 have qe:Q c.ddt.length=qrL c root:=by simp[hQ,hO,qrL]
 refine acx func32 [(10,[zI 0,zI 1,zJ 2 [2] [],zJ 3 [] [2],zI 4,zI 5,zI 6,zJ 7 [] [2],zJ 8 [2] [2],zJ 9 [] [2],zJ 10 [] [2],zJ 11 [] [2],zJ 12 [] [2],zI 13,zI 14,zI 15,zI 16])] ntmps32 rfl rfl rfl ?_;simp[CO.row,PT.row];refine qa9 (X:=Nat) [2,5,6] [(2,2),(9,900)] (fun i=>[(5,.sl 900 0 (O i).length),(6,.int .i64 i)]) (fun i=>[(2,⟨7,[c.row]⟩),(900,kpt (O i))]) (fun i=>c.sets.length-i) (fun i=>i≤c.sets.length) 0 (by simp) ?_ (he:=by simp[qah,kpt,CO.row,PT.row,o0]);intro i hi;cases hr:c.sets.drop i with
 | nil =>
  have:=qaU hr;have hie:i=c.sets.length:=by omega
  subst hie;have l1:=ol c.sets.length (by omega);simp[qah,CO.row,kpt];refine⟨by omega,?_⟩;refine qa9 (X:=Nat) [2,5,7] [(2,2),(29,900)] (fun i=>[(5,.sl 900 0 (Q i).length),(7,.int .i64 i)]) (fun i=>[(2,⟨7,[c.row]⟩),(900,kpt (Q i))]) (fun i=>c.ddt.length-i) (fun i=>i≤c.ddt.length) 0 (by simp) ?_ (he:=by simp[qah,kpt,CO.row,q0,qak]);intro i hi;cases hr:c.ddt.drop i with
  | nil =>
   have:=qaU hr;have hie:i=c.ddt.length:=by omega
   subst hie;simp[qah,CO.row,kpt,qe]
  | cons e r =>
   obtain⟨g1,e0,e1,g3⟩:=qaV hr;have e2:=qaq ((i:Int)+1) (by omega) (by omega);have l2:=ql i (by omega);have ht:Q (i+1)=Q i++[ePT e]:=by rw[hQ,hQ,qFq,e1];simp
   simp[qah,g1,e0,e1,CO.row,kpt,DE.row];refine⟨by omega,?_⟩;exact nx (i+1) [(2,2),(52,900)] (by omega) (by omega) (h4:=by simp[ht,qah,e2,kpt,PT.row,CO.row,qak,ePT])
 | cons e r =>
  obtain⟨g1,e0,e1,g3⟩:=qaV hr;have h8:=h.m8 e (qFu e1);have e2:=qaq ((i:Int)+1) (by omega) (by omega);have hho:=qcU e h8;simp only[PT.row]at hho;have l1:=ol i hi;have ht:O (i+1)=O i++[e.home]:=by rw[hO,hO,qFq,e1];simp
  simp[qah,g1,e0,e1,CO.row,qaX e h8,qdC e h8,hho,kpt];refine⟨by omega,?_⟩;exact nx (i+1) [(2,2),(25,900)] (by omega) (by omega) (h4:=by simp[ht,qah,e2,kpt,PT.row,CO.row,qak])
theorem qwq (d:DK) (h:DkT d) (hz:(rrB d).2=0):CV prog 37 [.agg d.row] (.lst 3 ((qrL (rrB d).1 (rbB d).2).map PT.row)):=by
 have hT:=qgp hz;have c1:=qjr d h;have c2:=qt9 d h;rw[hz]at c1;generalize (rrB d).1=c at *
 generalize (rbB d).2=root at *
 generalize (rbB d).1=bn at *
 have hm:=(qbs hT.c).1;have h1:=hm.sets;have h2:=hm.ddt;have h3:=hm.parts;obtain⟨O,hO⟩:∃ O:Nat→List PT,∀ i,O i=root::(c.sets.take i).map CS.home:=⟨_,fun _=>rfl⟩;obtain⟨Q,hQ⟩:∃ Q:Nat→List PT,∀ i,Q i=O c.sets.length++c.parts++(c.ddt.take i).map ePT:=⟨_,fun _=>rfl⟩;have o0:O 0=[root]:=by simp[hO]
 have q0:Q 0=O c.sets.length++c.parts:=by simp[hQ]
 have ol:∀ i,i≤c.sets.length→(O i).length=i+1:=fun i hi=>by simp[hO];omega
 have ql:∀ i,i≤c.ddt.length→(Q i).length=c.sets.length+1+c.parts.length+i:=fun i hi=>by simp[hQ,hO];omega
 have qe:Q c.ddt.length=qrL c root:=by simp[hQ,hO,qrL]
 simp only[DK.row,CO.row,PT.row]at c1 c2;refine qus ?_ (by kernel_rfl) (by simp[DK.row]);refine acx func37 [] ntmps37 rfl rfl rfl ?_;simp[DK.row];refine c1.call ?_;simp;refine c2.call ?_;simp;refine qa9 (X:=Nat) [3,8,29,30,31] [(3,3),(27,900)] (fun i=>[(8,.sl 900 0 (O i).length),(31,.int .i64 i)]) (fun i=>[(3,⟨7,[c.row]⟩),(900,kpt (O i))]) (fun i=>c.sets.length-i) (fun i=>i≤c.sets.length) 0 (by simp) ?_ (he:=by simp[qah,kpt,CO.row,PT.row,o0]);intro i hi;cases hr:c.sets.drop i with
 | nil =>
  have:=qaU hr;have hie:i=c.sets.length:=by omega
  subst hie;have l1:=ol c.sets.length (by omega);simp[qah,CO.row,kpt];refine⟨by omega,?_⟩;refine qa9 (X:=Nat) [8,46,47,48] [(44,900)] (fun i=>[(8,.sl 900 0 (Q i).length),(48,.int .i64 i)]) (fun i=>[(900,kpt (Q i))]) (fun i=>c.ddt.length-i) (fun i=>i≤c.ddt.length) 0 (by simp) ?_ (he:=by simp[qah,kpt,CO.row,q0,qak]);intro i hi;cases hr:c.ddt.drop i with
  | nil =>
   have:=qaU hr;have hie:i=c.ddt.length:=by omega
   subst hie;simp[qah,CO.row,kpt,qe]
  | cons e r =>
   obtain⟨g1,e0,e1,g3⟩:=qaV hr;have e2:=qaq ((i:Int)+1) (by omega) (by omega);have l2:=ql i (by omega);have ht:Q (i+1)=Q i++[ePT e]:=by rw[hQ,hQ,qFq,e1];simp
   simp[qah,g1,e0,e1,CO.row,kpt,DE.row,show(i:Int)<c.ddt.length by omega];refine⟨by omega,?_⟩;exact nx (i+1) [(59,900)] (by omega) (by omega) (h4:=by simp[ht,qah,e2,kpt,PT.row,CO.row,qak,ePT])
 | cons e r =>
  obtain⟨g1,e0,e1,g3⟩:=qaV hr;have h8:=hT.t.m8 e (qFu e1);have e2:=qaq ((i:Int)+1) (by omega) (by omega);have hho:=qcU e h8;simp only[PT.row]at hho;have l1:=ol i hi;have ht:O (i+1)=O i++[e.home]:=by rw[hO,hO,qFq,e1];simp
  simp[qah,g1,e0,e1,CO.row,qaX e h8,qdC e h8,hho,kpt,show(i:Int)<c.sets.length by omega];refine⟨qmy e,by omega,?_⟩;exact nx (i+1) [(3,3),(39,900)] (by omega) (by omega) (h4:=by simp[ht,qah,e2,kpt,PT.row,CO.row,qak])
def qgq (d:DK):PO×Int:=if (agB d).2.2≠0 then (⟨zDK,zK,false⟩,(agB d).2.2) else
 if (qbn (agB d).1 (agB d).2.1).2.2≠0 then (⟨zDK,zK,false⟩,(qbn (agB d).1 (agB d).2.1).2.2) else
 (⟨(qbn (agB d).1 (agB d).2.1).1,(qbn (agB d).1 (agB d).2.1).2.1,true⟩,0)
theorem qsi (d:DK) (h:DkT d):CV prog 19 [.agg d.row] (.tup [.agg (qgq d).1.row,.int .i64 (qgq d).2]):=by
 obtain⟨R,hR⟩:∃ R,qgq d=R:=⟨_,rfl⟩;rw[hR];have c1:=qjb d h;have c2:=qqd d h;have c3:=fun hz=>qvK d (rrB d).1 (@qgp d hz);have hT:=@qz8 d;have c4:=fun hz=>qsk (agB d).1 (qeo (hT hz).d) (agB d).2.1 (hT hz).t;unfold qgq at hR;have hag:agB d=if (rrB d).2≠0 then (zDK,zK,(rrB d).2) else agF (lfB d (rrB d).1.txg) d (rrB d).1:=rfl
 refine CV.of_imp ?_ (hca:=by simp[DK.row]) (hcv:=by simp[PO.row,DK.row,qda]);refine acx func19 [(4,[zJ 0 [1] [],zJ 2 [4] [1],⟨1,[],[4],[8,9],[]⟩,⟨3,[],[],[8,9],[]⟩,zI 4,zI 5,zI 6,zI 7,zJ 8 [] [1,4],zJ 9 [] [1,4],zI 10,zI 11,zI 12])] ntmps19 rfl rfl rfl ?_;simp only[DK.row,CO.row]at c1 c2;simp[DK.row];refine c1.call ?_;by_cases q:(rrB d).2≠0
 ·rw[if_pos q]at hag;rw[hag]at hR;rw[if_pos q]at hR;subst hR;simp[q];exact qdx (.cons qkc (.cons (qaD _) .nil))
 ·rw[if_neg q]at hag;have q0:(rrB d).2=0:=by omega
  have c3:=c3 q0;rw[← hag]at c3;generalize agB d=G at *
  obtain⟨x,y,n⟩:=G;simp only at hR c3 c4 hT;simp only[DK.row,CO.row]at c3;simp[q0];refine c2.call ?_;simp;refine c3.call ?_;by_cases q1:n≠0
  ·rw[if_pos q1]at hR;subst hR;simp[q1];exact qdx (.cons qkc (.cons (qaD _) .nil))
  ·rw[if_neg q1]at hR;have q2:n=0:=by omega
   have c4:=c4 q2;generalize qbn x y=W at *
   obtain⟨u,v,k⟩:=W;simp only at hR;simp only[DK.row,CO.row]at c4;simp[q2];refine c4.call ?_;by_cases q3:k≠0
   ·rw[if_pos q3]at hR;subst hR;simp[q3];exact qdx (.cons qkc (.cons (qaD _) .nil))
   ·rw[if_neg q3]at hR;subst hR;simp[show k=0 by omega,PO.row,DK.row,CO.row]
def riQ (R:PO×Int) (r:AV) (L':List (Nat×Ob)):Prop :=
 (R.1=⟨zDK,zK,false⟩∧r=.tup [.agg zpR,.int .i64 R.2]∧L'=[]) ∨
 (r=.tup [.agg (qiP R.1 901 902 903 904 905 906 907),.int .i64 R.2]∧L'=qdg R.1 901 902 903 904 905 906 907)
theorem qsN (d:DK) (h:DkT d):ACall prog 20 [.agg d.row] [] (riQ (qgq d)):=by
 obtain⟨R,hR⟩:∃ R,qgq d=R:=⟨_,rfl⟩;rw[hR];unfold qgq at hR;have c1:=qwr d h;have hT:=@qz8 d;have hcb:=fun hz=>@qjB (agB d).1 (agB d).2.1 (hT hz).t;have c2:=fun hz=>qq6 (agB d).1 (qeo (hT hz).d) (agB d).2.1 (hT hz).t true;generalize agB d=G at *
 obtain⟨x,y,n⟩:=G;simp only at hR c2 hT hcb;simp only[DK.row]at c1;refine acx func20 [] ntmps20 rfl rfl rfl ?_;simp[DK.row];refine qac [] (by kernel_rfl) c1 (by simp[qaf,LT.row]) (by simp) trivial (by simp) (by simp) ?_;rintro r L' (⟨hk,rfl,rfl⟩ | ⟨hk,rfl,rfl⟩)
 ·simp only at hk;rw[if_pos hk]at hR;subst hR;refine⟨[],⟨by simp,by simp,by simp,by simp,by simp⟩,?_⟩;simp only[qad,zpR];simp[hk];exact⟨[],by simp,.inl ⟨rfl,by simp[zpR],rfl⟩⟩
 ·simp only at hk;subst hk;rw[if_neg (by simp)]at hR;have c2:=c2 rfl;have hcb:=hcb rfl;generalize qbn x y=W at *
  obtain⟨u,v,k⟩:=W;simp only at hR hcb;refine⟨[(901,801),(902,802),(903,803),(904,804),(905,805),(906,806),(907,807)],⟨by simp[qdg],by simp,by simp,by simp[qdg],by simp⟩,?_⟩;simp only[qad];simp[qdg,qiP];refine qac [(1000,.whole 4),(1001,.whole 801),(1002,.whole 802),(1003,.whole 803),(1004,.whole 804),(1005,.whole 805),(1006,.whole 806),(1007,.whole 807)] (by kernel_rfl) c2 (by simp) (by simp) (by simp[qcm,qey];exact⟨.inr ⟨_,_,rfl,rfl,by simp⟩,qaa rfl (qaI _),qaa rfl (qaI _),qaa rfl (qcO _),qaa rfl (qa2 _),qaa rfl (qbL _),qaa rfl (qbo _),qaa rfl (qaQ _)⟩) (by simp[qcm]) (by simp) ?_;rintro r L' ⟨d',c',rfl,rfl,hq⟩;simp only at hq;refine⟨[(901,811),(902,812),(903,813),(904,814),(905,815),(906,816),(907,817)],⟨by simp[qcm],by simp,by simp,by simp[qcm],by simp⟩,?_⟩;simp only[qad];by_cases q:k≠0
  ·rw[if_pos q]at hR;subst hR;simp[qcm,qey,q];exact⟨[],by simp,.inl ⟨rfl,by simp[zpR],rfl⟩⟩
  ·rw[if_neg q]at hR;subst hR;have hq0:k=0:=by omega
   obtain⟨rfl,rfl⟩:=hq hq0;obtain⟨_,_,h3,_,h5,_⟩:=hcb hq0;have c4:=qzt ⟨d',c',true⟩ (qeo h3) h5;simp only[PO.row,DK.row,CO.row,qFt,qEf]at c4;simp[qcm,qey,hq0];refine qaK [] (by kernel_rfl) c4 (by simp[qb5,mtA,qap,qcz,kcs,qaJ,kpt,kin,qak,qbv,qaf,LT.row]) (by simp) trivial (by simp) (by simp) ?_;rintro r L' ⟨rfl,rfl⟩;refine⟨by simp[qiP,noL],by simp[qdg,qap,qcz,kcs,qaJ,kpt,kin,qae,DE.row,PT.row,qg3,qaf,LT.row],[(901,901),(902,902),(903,903),(904,904),(905,905),(906,906),(907,907)],⟨by simp[qdg],by simp,by simp,by simp[qdg],by simp⟩,?_⟩;simp only[qad];simp[qdg,qiP];exact⟨qdg ⟨d',c',true⟩ 901 902 903 904 905 906 907,by simp[qdg],.inr ⟨by simp[qiP],rfl⟩⟩
theorem qsO (d:DK) (h:DkT d):CV prog 20 [.agg d.row] (.tup [.agg (qgq d).1.row,.int .i64 (qgq d).2]):=by
 refine CV.of_frz (qsN d h) ?_ (hca:=by simp[DK.row]) (hcv:=by simp[PO.row,DK.row,qda]);rintro r L' (⟨h1,rfl,rfl⟩ | ⟨rfl,rfl⟩)
 ·refine⟨by simp,by simp,by simp,?_⟩;rw[h1];simp only[qbe];exact qdx (.cons qkc (.cons (qaD _) .nil))
 ·generalize qgq d=R;refine⟨by simp[qdg],by simp[qdg],fun x hx=>?_,?_⟩
  ·simp only[qdg,qE3,qFc,or_false]at hx;rcases hx with rfl | rfl | rfl | rfl | rfl | rfl | rfl
   ·exact qaI _
   ·exact qaI _
   ·exact qcO _
   ·exact qa2 _
   ·exact qbL _
   ·exact qbo _
   ·exact qaQ _
  ·simp[qbe,qdg,qiP,qap,qcz,kcs,qaJ,kpt,kin,qak,PO.row,DK.row,CO.row]
theorem qBa (d:DK) (h:DkT d):CV prog 9 [.agg d.row] (.agg d.row):=by
 refine CV.of_frz (qA9 d h) ?_ (hca:=by simp[DK.row]) (hcv:=by simp[DK.row]);rintro r L' ⟨rfl,rfl⟩;refine⟨by simp,by simp,fun x hx=>?_,?_⟩
 ·simp only[qE3,qFc,or_false]at hx;rcases hx with rfl | rfl | rfl
  ·exact qaI _
  ·exact qaI _
  ·exact qcO _
 ·simp[qbe,qcA,qap,qcz,qak,DK.row]
theorem qBd (d:DK) (hg:DkG d):∃ z:Int,z≤1048576∧(0≤z→DkT d)∧CV prog 7 [.agg d.row,.int .i64 1048576] (.int .i64 z):=by
 have h:=qpH d (left:=1048576) (by omega);refine⟨qtJ d 1048576,by omega,fun hz=>?_,qBc d 1048576 hg (by omega)⟩;obtain⟨h1,h2,h3,h4,h5,h6⟩:=h.2.2 hz;exact⟨by omega,by omega,by omega,fun t ht=>by have:=h4 t ht;omega,fun t ht=>by have:=h5 t ht;omega,fun t ht=>by have:=h6 t ht;omega⟩
theorem dkA_shp {avs:List AV} (h:Shp prog 10 26 avs):∃ d:DK,DkG d∧avs=d.row:=qzK (n:=4) h
def qkl (d:DK) (l:List PT):Bool:=l.all fun p=>decide ((qag d p).2=0)
def vdB (d:DK):Bool:=decide ((rrB d).2=0) && (qkl d (qrL (rrB d).1 (rbB d).2) && decide ((qgq d).2=0))
theorem qvP {d:DK} (h:(rrB d).2=0):0<(rbB d).1:=by
 unfold rrB at h;split at h
 ·rename_i q;exact q.2
 ·simp at h
theorem qoq {c:CO} (h:qal c=true) (root:PT):(qrL c root).length≤100:=by
 obtain⟨hm,k1,k2,k3,_⟩:=qbs h;simp only[qrL,qDX,qES,qEH];omega
theorem qpY (d:DK) (h:DkT d):CV prog 8 [.agg d.row] (.bool (vdB d)):=by
 obtain⟨R,hR⟩:∃ R,vdB d=R:=⟨_,rfl⟩;rw[hR];unfold vdB at hR;have c1:=qtU d h;have c2:=qjb d h;have c5:=qsi d h;have hb:=@qvP d;have hT:=@qgp d;simp only[DK.row,PT.row]at c1 c2 c5;refine cvx func8 [(9,[zJ 0 [1] [],zJ 1 [] [1],zJ 2 [] [1],zJ 3 [] [1],zJ 4 [] [1],zI 5,zI 6,zI 7,zI 8,zI 9,zI 10])] ntmps8 rfl rfl rfl ?_ (hca:=by simp[DK.row]);simp[DK.row];refine c1.call ?_;simp[PT.row];refine c2.call ?_;by_cases q:(rrB d).2=0;rotate_left
 ·rw[decide_eq_false q]at hR;subst hR;by_cases q2:0<(rbB d).1
  ·simp[q,q2]
  ·simp[q,q2]
 have hb:=hb q;have hT:=hT q;rw[decide_eq_true q]at hR;have c3:=qBp (rrB d).1 hT.t (qbs hT.c).1 (rbB d).2;have hl:=qoq hT.c (rbB d).2;simp only[PT.row]at c3;generalize qrL (rrB d).1 (rbB d).2=ls at *
 obtain⟨Z,hZ⟩:∃ Z,decide ((qgq d).2=0)=Z:=⟨_,rfl⟩;rw[hZ]at hR;have c4:=fun p=>qeF d h p;simp only[DK.row,PT.row]at c4;simp only[qFP]at hR;simp[q,hb];refine c3.call ?_;simp;refine qa9 (X:=Nat) [1,2,8,9] [(1,1)] (fun i=>[(9,.int .i64 i)]) (fun i=>[(1,⟨3,[d.row]⟩)]) (fun i=>ls.length-i) (fun i=>i≤ls.length∧(qkl d (ls.drop i) && Z)=R) 0 ⟨by simp,by simpa using hR⟩ ?_ (he:=by simp[qah,DK.row]);rintro i ⟨hi,hF⟩;cases hr:ls.drop i with
 | nil =>
  have:=qaU hr;have hie:i=ls.length:=by omega
  subst hie;rw[hr]at hF;simp only[qkl,qGi,qFP]at hF;simp[DK.row];refine c5.call ?_;simp[← hF,← hZ];exact⟨⟨by simp[PO.row,DK.row,CO.row],by simp[PO.row,DK.row,CO.row]⟩,by rw[qFX];simp⟩
 | cons p r =>
  obtain⟨g1,e0,e1,g3⟩:=qaV hr;have e2:=qaq ((i:Int)+1) (by omega) (by omega);have c4:=c4 p;rw[hr]at hF;simp only[qkl,qFR]at hF;generalize qag d p=B at *
  obtain⟨bt,bc⟩:=B;simp only at c4 hF;simp[DK.row,PT.row,g1,e0,e1,show(i:Int)<ls.length by omega];refine c4.call ?_;by_cases hb0:bc=0
  ·rw[decide_eq_true hb0]at hF;simp[hb0];exact nx (i+1) [(1,1)] ⟨by omega,by simp only[g3,qkl];simpa using hF⟩ (by omega) (h4:=by simp[qah,e2,DK.row])
  ·rw[decide_eq_false hb0]at hF;simp[hb0,← hF]
theorem qqZ (d:DK) (h:DkT d):CV prog 10 [.agg d.row] (.bool (vdB d)):=by
 obtain⟨R,hR⟩:∃ R,vdB d=R:=⟨_,rfl⟩;rw[hR];unfold vdB at hR;have c2:=qjr d h;have c5:=qsO d h;have c3:=qwq d h;have hT:=@qgp d;simp only[DK.row,PT.row]at c2 c3 c5;refine cvx func10 [] ntmps10 rfl rfl rfl ?_ (hca:=by simp[DK.row]);simp[DK.row];refine c2.call ?_;by_cases q:(rrB d).2=0;rotate_left
 ·rw[decide_eq_false q]at hR;subst hR;simp[q]
 have c3:=c3 q;have hT:=hT q;rw[decide_eq_true q]at hR;have hl:=qoq hT.c (rbB d).2;generalize qrL (rrB d).1 (rbB d).2=ls at *
 obtain⟨Z,hZ⟩:∃ Z,decide ((qgq d).2=0)=Z:=⟨_,rfl⟩;rw[hZ]at hR;have c4:=fun p=>qeO d h p;simp only[DK.row,PT.row]at c4;simp only[qFP]at hR;simp[q];refine c3.call ?_;simp;refine qa9 (X:=Nat) [1,2,19,20,21] [(1,1)] (fun i=>[(21,.int .i64 i)]) (fun i=>[(1,⟨3,[d.row]⟩)]) (fun i=>ls.length-i) (fun i=>i≤ls.length∧(qkl d (ls.drop i) && Z)=R) 0 ⟨by simp,by simpa using hR⟩ ?_ (he:=by simp[qah,DK.row]);rintro i ⟨hi,hF⟩;cases hr:ls.drop i with
 | nil =>
  have:=qaU hr;have hie:i=ls.length:=by omega
  subst hie;rw[hr]at hF;simp only[qkl,qGi,qFP]at hF;simp[DK.row];refine c5.call ?_;simp[← hF,← hZ];exact⟨⟨by simp[PO.row,DK.row,CO.row],by simp[PO.row,DK.row,CO.row]⟩,by rw[qFX];simp⟩
 | cons p r =>
  obtain⟨g1,e0,e1,g3⟩:=qaV hr;have e2:=qaq ((i:Int)+1) (by omega) (by omega);have c4:=c4 p;rw[hr]at hF;simp only[qkl,qFR]at hF;generalize qag d p=B at *
  obtain⟨bt,bc⟩:=B;simp only at c4 hF;simp[DK.row,PT.row,g1,e0,e1,show(i:Int)<ls.length by omega];refine c4.call ?_;by_cases hb0:bc=0
  ·rw[decide_eq_true hb0]at hF;simp[hb0];exact nx (i+1) [(1,1)] ⟨by omega,by simp only[g3,qkl];simpa using hF⟩ (by omega) (h4:=by simp[qah,e2,DK.row])
  ·rw[decide_eq_false hb0]at hF;simp[hb0,← hF]
theorem lawVowDisk (d:DK) (hd:DkG d):CV prog 3 [.agg d.row] (.bool true):=by
 obtain⟨z,z1,z3,c0⟩:=qBd d hd;simp only[DK.row]at c0;refine cvx func3 [(10,[zJ 0 [5] [],zJ 1 [1] [5],zJ 2 [] [5],zI 3,zI 4])] ntmps3 rfl rfl rfl ?_ (hca:=by simp[DK.row]);simp[DK.row];refine c0.call ?_;by_cases hz:z<0
 ·simp[hz]
 have hdT:=z3 (by omega);simp[hz];have c1:=qBa d hdT;have c3:=qpY d hdT;have c4:=qqZ d hdT;have c8:=qCe d hdT;generalize vdB d=b at *
 simp only[DK.row]at c1 c3 c4 c8;refine c1.call ?_;simp;refine c3.call ?_;simp;refine c1.call ?_;simp;refine c4.call ?_;simp;refine c1.call ?_;simp;refine c8.call ?_;simp
end Go.Av.F
end
section
namespace Go.Av
open Go.RowKit Go.ChangeShapes Go.WideShapes Go.ChangeAt
variable {P:Program} {W:World}
theorem qmC {n:String} {d:DataW Unit}:∀ {laid:List (String×DataW Unit)} {ps:List MemPlace},DataW.LaidVars P W laid ps→(n,d)∈laid →
  ∃ g t cs fuel p,P.globalNamed n=some g∧(P.globals[g]?).map (·.type)=some t∧W.var? P n=some cs∧DataW.trod (fun _=>()) P W 0 (fun _=>true) false fuel t cs.toList=some (d,p)
 | [],ps,_,hm=>by simp at hm
 | (m,e)::r,ps,h,hm=>by
  obtain⟨g,t,cs,fuel,p,q,h1,h2,h3,h4,h5,_⟩:=h;rcases qE3.1 hm with hm | hm
  ·injection hm with e1 e2;subst e1;subst e2;exact⟨g,t,cs,fuel,p,h1,h2,h3,h4⟩
  ·exact qmC h5 hm
theorem qtB {n:String} {g:Nat} {cs:Array Value} (hg:P.globalNamed n=some g) (hv:W.var? P n=some cs) (avs:List AV) (hl:avs.length=cs.size) (hne:avs≠[]) (hr:∀ j,j<avs.length→AVRel W (Old W) noG (avs.getD j .top) (cs.getD j undef)) :
  AVRel W (Old W) noG (.elm avs) (.pointer (some ⟨g,0,none⟩))∧Old W ⟨g,avs.length,none⟩∧W.cell? ⟨g,avs.length,none⟩=none:=by
 have hc:=fun i=>World.var?_cell hg hv i;have h0:0<cs.size:=by rw[← hl];exact qDB.2 hne
 have hcell:∀ j,j<avs.length→W.cell? ⟨g,j,none⟩=some (cs.getD j undef):=fun j hj=>by
  rw[hc,qFl (by omega)];simp[Array.getD,show j<cs.size by omega]
 have hb:g<W.heap.size:=World.block_lt_of_cell? W _ (hcell 0 (by omega));refine⟨.elm _ avs _ (fun j=>cs.getD j undef) rfl (fun j hj=>hb) (fun j hj=>?_) hr,hb,?_⟩
 ·simpa [Addr.at]using hcell j hj
 ·rw[hc,qED (by omega)]
theorem laid_tab {laid:List (String×DataW Unit)} (h:laidMet P laid W) {n:String} {g:Nat} {zs:List Int} {k:IntKind} {t e:TypeId} {m:Nat} (hm:(n,(Lib.tabData k zs:DataW Unit))∈laid) (hg:P.globalNamed n=some g) (hty:(P.globals[g]?).map (·.type)=some t)
  (ht:P.underlying t=some (.array m e)) (he:P.underlying e=some (.int k)) (hce:P.cellsOf e=1) (hct:P.cellsOf t=m) (hne:zs≠[]) :
  AVRel W (Old W) noG (.elm (zs.map (AV.int k))) (.pointer (some ⟨g,0,none⟩))∧Old W ⟨g,(zs.map (AV.int k)).length,none⟩∧W.cell? ⟨g,(zs.map (AV.int k)).length,none⟩=none:=by
 obtain⟨ps,hL,_⟩:=h;obtain⟨g',t',cs,fuel,p,h1,h2,h3,h4⟩:=qmC hL hm;obtain rfl:=qF3 (hg.symm.trans h1);obtain rfl:=qF3 (hty.symm.trans h2);have hcs:=Lib.cells_of_tab ht he hce hct h4;have hcs2:cs=(zs.map fun z=>Value.int k z).toArray:=by rw[← hcs]
 subst hcs2;refine qtB hg h3 _ (by simp) (by simpa using hne) fun j hj=>?_;simp only[qEH]at hj;simp[List.getD,Array.getD,hj];exact .int _ _ _
theorem laid_ifc {laid:List (String×DataW Unit)} (h:laidMet P laid W) {n s:String} {d:DataW Unit} {g:Nat} {t:TypeId} {m:Array (String×TypeId)} (hm:(n,(DataW.iface s d:DataW Unit))∈laid) (hg:P.globalNamed n=some g) (hty:(P.globals[g]?).map (·.type)=some t)
  (ht:P.underlying t=some (.interface m)):AVRel W (Old W) noG (.elm [.ifc]) (.pointer (some ⟨g,0,none⟩))∧Old W ⟨g,[AV.ifc].length,none⟩∧W.cell? ⟨g,[AV.ifc].length,none⟩=none:=by
 obtain⟨ps,hL,_⟩:=h;obtain⟨g',t',cs,fuel,p,h1,h2,h3,h4⟩:=qmC hL hm;obtain rfl:=qF3 (hg.symm.trans h1);obtain rfl:=qF3 (hty.symm.trans h2);cases fuel with
 | zero=>simp[DataW.trod]at h4
 | succ fuel =>
  unfold DataW.trod at h4;simp only[ht]at h4;obtain⟨l⟩:=cs;simp only at h4
  match l,h4,h3 with
  | [.iface u v],h4,h3 =>
   refine qtB hg h3 _ rfl (by simp) fun j hj=>?_;obtain rfl:j=0:=by simpa using hj
   exact .ifc _ _ _
  | [.nilIface],h4,h3=>simp at h4
  | [],h4,h3=>simp at h4
  | .int _ _::_,h4,h3=>simp at h4
  | _::_::_,h4,h3=>simp at h4
end Go.Av
end
section
namespace Go.Proofs.YthiidgicibfbjaaGreatDoor
open Go.ChangeShapes Go.WideShapes Go.ChangeAt Go.RowKit
theorem qsY:ownKnob Tryz.prog.godebug=none:=by kernel_rfl
theorem qg8:laidOutB Tryz.prog=true:=by kernel_rfl
theorem qiR:mapsRowed Tryz.prog=true:=by kernel_rfl
theorem qoY:Tryz.prog.stopsHeard=true:=by kernel_rfl
theorem qkm:Tryz.prog.mayEnter=true:=by kernel_rfl
theorem qrm:Tryz.pinned.checked.prog.mainIs=some (true,"94ddc6106c0e87da7f990659e475fcd9fa75f92a8b1a5b1f9337df2f6a15a156".toList):=by kernel_rfl
theorem qoX:true=Tryz.prog.looks []:=by kernel_rfl
theorem qrl:Tryz.prog.funcs.any Func.goes=false:=by kernel_rfl
theorem qri {P:Program} (h:P.funcs.any Func.goes=false) (f:Nat):P.goes f=false:=by
 unfold Program.goes;rw[h,Bool.and_false,Bool.or_false,List.any_eq_false];intro g _;cases hg:P.funcs[g]? with
 | none=>simp
 | some fn =>
  rw[Array.any_eq_false]at h;obtain⟨hl,rfl⟩:=Array.getElem?_eq_some_iff.1 hg;simpa using h g hl
theorem qmN {P:Program} (h:P.funcs.any Func.goes=false) (c:OpenClaim):false=c.goesBy P:=by
 unfold OpenClaim.goesBy Program.goesAt Program.goesFrom;have e:P.goes=fun _=>false:=funext fun f=>qri h f;rw[e];cases P.funcNamed c.func <;> cases c.start <;> simp
end Go.Proofs.YthiidgicibfbjaaGreatDoor
end
