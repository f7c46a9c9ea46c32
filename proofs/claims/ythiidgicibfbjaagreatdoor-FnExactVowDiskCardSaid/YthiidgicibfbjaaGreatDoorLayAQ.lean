/- Lemmas for the proof, no statement of the seat; no conditions. -/
import Derived.Test.YthiidgicibfbjaaGreatDoorLayAP
set_option linter.unusedSimpArgs false
set_option linter.unusedVariables false
set_option linter.unnecessarySimpa false
set_option maxRecDepth 100000
set_option maxHeartbeats 400000
section
namespace Go.Av.F
open Go Go.Av Go.Proofs Go.Proofs.Tryz
structure CoT (c:CO):Prop where
 sets:c.sets.length≤1048576
 ddt:c.ddt.length≤1048576
 parts:c.parts.length≤1048576
 safe:c.safe.length≤1048576
 m8:∀ s∈c.sets,s.map.length=8
 nm:∀ s∈c.sets,s.name.length≤1048576∧s.frm.length≤1048576
def qal (c:CO):Bool:=decide (0≤c.txg) && decide (c.txg≤1000000) && qaj c.ddt && decide (c.parts.length≤8) && qbp 12 c.safe && decide (0≤c.logn) && decide (c.logn≤8) &&
 c.sets.all qbj && c.parts.all qao && qbc (c.sets.map csB) && qcI c && qco c
theorem qiG {s:CS} (h:qbj s=true):s.name.length≤6∧s.frm.length≤6:=by
 simp only[qbj,Bool.and_eq_true,qFb,qbS,decide_eq_true_eq,List.isEmpty_iff]at h;refine⟨h.1.1.1.1.2,?_⟩;rcases h.1.1.1.2 with h | h
 ·simp[h]
 ·exact h.2
theorem quF {l:List CS} (h:∀ s∈l,qbj s=true):BkG (l.map csB):=by
 intro b hb;obtain⟨s,hs,rfl⟩:=qD6.1 hb;have:=qiG (h s hs);simp[csB];omega
theorem qvI (bs:List BS) (hb:BkG bs) (hl:bs.length≤1048576):CV prog 161 [bk bs] (.bool (qbc bs)):=qiF (qvq bs hb (by omega)) (hca:=by simp[bk])
theorem qww (bs:List BS) (hb:BkG bs) (hl:bs.length≤1048576):CV prog 181 [bk bs] (.bool (qbc bs)):=qiF (qwm bs hb (by omega)) (hca:=by simp[bk])
theorem qqb (c:CO) (h:CoT c):CV prog 78 [.agg c.row] (.bool (qal c)):=by
 obtain⟨R,hR⟩:∃ R,qal c=R:=⟨_,rfl⟩;rw[hR];refine cvx func78 [] ntmps78 rfl rfl rfl ?_;simp
 repeat' first
  | (refine(qfx c.ddt h.ddt).call ?_;simp)
  | (refine(qvX c.safe h.safe).call ?_;simp)
  | with_reducible intro _
  | with_reducible refine And.intro ?_ ?_
 all_goals try (grind[qal];done)
 have hrest:qal c=(c.sets.all qbj && (c.parts.all qao && (qbc (c.sets.map csB) && qcI c && qco c))):=by grind[qal]
 rw[hrest]at hR;have hd:qaj c.ddt=true:=by assumption
 have hpl:(c.parts.length:Int)≤8:=by assumption
 have hs1:=h.sets;refine qa7 (X:=Nat) [1,3] [(1,1)] (fun i=>[(3,.int .i64 i)]) (fun _=>[]) (fun i=>c.sets.length-i) (fun i=>i≤c.sets.length∧(∀ s∈c.sets.take i,qbj s=true)∧((c.sets.drop i).all qbj && (c.parts.all qao && (qbc (c.sets.map csB) && qcI c && qco c)))=R) 0 (by simpa using hR) ?_;rintro i ⟨hi,hok,ha⟩;cases hr:c.sets.drop i with
 | nil =>
  have:=qaU hr;rw[hr]at ha;have hie:i=c.sets.length:=by omega
  have hok':∀ s∈c.sets,qbj s=true:=by rw[qDU (by omega)]at hok;exact hok
  simp[hie];refine qa7 (X:=Nat) [1,4] [(1,1)] (fun i=>[(4,.int .i64 i)]) (fun _=>[]) (fun i=>c.parts.length-i) (fun i=>i≤c.parts.length∧((c.parts.drop i).all qao && (qbc (c.sets.map csB) && qcI c && qco c))=R) 0 (by simpa using ha) ?_;rintro j ⟨hj,hb⟩;cases hq:c.parts.drop j with
  | nil =>
   have:=qaU hq;rw[hq]at hb;have hje:j=c.parts.length:=by omega
   simp[hje];refine(qp3 c h.sets h.m8).call ?_;simp;refine(qvI _ (quF hok') (by simpa using h.sets)).call ?_;simp
   repeat' first
    | (refine(qwY c h.sets h.m8 hd).call ?_;simp)
    | (refine(qBk c h.sets (qiD hd).1 h.m8).call ?_;simp)
    | with_reducible intro _
    | with_reducible refine And.intro ?_ ?_
   all_goals grind
  | cons x r =>
   obtain⟨h1,e0,e1,h3⟩:=qaV hq;rw[hq]at hb;have e2:=qaq ((j:Int)+1) (by omega) (by omega);simp[h1,e0,e1];refine(qdQ x).call ?_;simp[h1,e0,e1,e2]
   repeat' first
    | with_reducible intro _
    | with_reducible refine And.intro ?_ ?_
   all_goals first
    | exact nx (j+1) [(1,1)] (by grind[qao])
    | grind[qao]
 | cons x r =>
  obtain⟨h1,e0,e1,h3⟩:=qaV hr;have hxm:=qFu e1;have hrl:=qaX x (h.m8 x hxm);have ht:List.take 31 x.row=x.row:=qDU (by omega);rw[hr]at ha;have e2:=qaq ((i:Int)+1) (by omega) (by omega);simp[h1,e0,e1,hrl,ht];refine(qyi x (h.m8 x hxm) (h.nm x hxm).1 (h.nm x hxm).2).call ?_;simp[e2]
  repeat' first
   | with_reducible intro _
   | with_reducible refine And.intro ?_ ?_
  all_goals first
   | exact nx (i+1) [(1,1)] (by rw[qgj e1];grind)
   | grind
theorem qw0 (p:PT):CV prog 187 [.agg p.row] (.bool (!qao p)):=by
 refine cvx func187 [] ntmps187 rfl rfl rfl ?_;simp;refine(qoF p).call ?_;simp
theorem qwZ (s:CS) (h8:s.map.length=8) (hn:s.name.length≤1048576) (hf:s.frm.length≤1048576):CV prog 189 [.agg s.row] (.bool (!qbj s)):=by
 have hl:=qaX s h8;have ht:List.take 31 s.row=s.row:=qDU (by omega);refine cvx func189 [] ntmps189 rfl rfl rfl ?_ (hca:=by simp[qbv]);simp[hl,ht];refine(qzq s h8 hn hf).call ?_;simp
def qnI (l:List DE) (p:PT):Bool:=decide (p.pa=0) || qc7 l p
def qcN (c:CO) (L:List PT) (e:DE):List AV:=[.int .i64 (ptN e.ea L)]
theorem qmx (a:Int) (L:List PT) (p:PT):ptN a (L++[p])=ptN a L+if p.pa=a then 1 else 0:=by
 simp[ptN,qF4,qFV]
theorem qti (c:CO) (L:List PT) (p:PT) (h:∀ e∈c.ddt,e.ea≠p.pa):c.ddt.map (qcN c (L++[p]))=c.ddt.map (qcN c L):=by
 refine qEg fun e he=>?_;have:=h e he;simp[qcN,qmx,qDn this]
theorem qw2 (c:CO) (L:List PT) (p:PT) (hd:qaj c.ddt=true) {k:Nat} {e:DE} (hk:c.ddt[k]?=some e) (he:e.ea=p.pa) :
  (c.ddt.map (qcN c L)).set k [.int .i64 ((ptN p.pa L:Int)+1)]=c.ddt.map (qcN c (L++[p])):=by
 simp only[qaj,Bool.and_eq_true]at hd;have hup:=(qcf hd.2).2;apply qF5;intro i;rw[qEC,qD9,qD9];by_cases hi:k=i
 ·subst hi;obtain⟨hl,hk0⟩:=qEb.1 hk;simp[hl,hk0,qcN,qmx,he]
 ·rw[if_neg hi];cases hx:c.ddt[i]? with
  | none=>rfl
  | some x =>
   have:x.ea≠p.pa:=by
    rw[← he];rcases qEu hi with h | h
    ·have:=hup k i e x h hk hx;omega
    ·have:=hup i k x e h hx hk;omega
   simp[qcN,qmx,qDn this]
theorem qhI (s:CS) (h8:s.map.length=8):List.take 24 (List.drop 3 s.row)=s.map.flatMap PT.row:=by
 obtain⟨n,k,f,m,h,d⟩:=s;simp only at h8
 match m,h8 with
 | [p0,p1,p2,p3,p4,p5,p6,p7],_=>rfl
theorem qiw {l:List PT} {i:Nat} {p:PT} (h:l[i]?=some p):List.take 3 (List.drop (i * 3) (l.flatMap PT.row))=p.row:=by
 induction l generalizing i with
 | nil=>simp at h
 | cons a l ih =>
  cases i with
  | zero=>simp at h;subst h;simp
  | succ i =>
   rw[← ih (i:=i) (by simpa using h)];simp[show(i+1) * 3=i * 3+1+1+1 by omega]
@[simp] theorem qAk (ρ:Nat→Option Plc) (c:CO) (L:List PT):qch ρ ∘ qcN c L=qcN c L:=by
 funext e;simp[qcN]
theorem qw3 (c:CO):c.ddt.map (qcN c [])=List.replicate c.ddt.length [.int .i64 0]:=by
 have:qcN c []=fun _=>[.int .i64 0]:=by funext e;simp[qcN,ptN]
 rw[this,List.map_const']
@[simp] theorem qAj (ρ:Nat→Option Plc) (l:List PT):qch ρ (l.flatMap PT.row)=l.flatMap PT.row:=renL_closed.renL_closedL ρ _ (qeZ l)
theorem qpJ {l:List PT} (h:l.length=8):(List.map (fun _=>3) l).sum=24:=by
 rw[List.map_const',h];rfl
theorem qwU {s:CS} (h:qbj s=true) {p:PT} (hp:p∈s.map):qaH p=true∧0≤p.pa∧p.pa<120:=by
 simp only[qbj,Bool.and_eq_true,qDS]at h;have:=h.2 p hp;refine⟨this,?_⟩;unfold qaH at this;split at this
 ·omega
 ·simp at this;omega
theorem qu8 {l:List DE} {q:Int} (h:qf9 q l=true) (hq:0≤q) (L:List PT) (hL:∀ p∈L,0≤p.pa∧(0<p.pa→∃ e∈l,e.ea=p.pa)):((l.map fun e=>ptN e.ea L).sum)=nnN L:=by
 induction L with
 | nil =>
  clear h hL
  induction l with
  | nil=>rfl
  | cons e l ih=>simpa [ptN,nnN]using ih
 | cons p L ih =>
  have ih':=ih fun p hp=>hL p (qEZ _ hp);obtain⟨hp0,hpe⟩:=hL p (by simp);have key:∀ (l:List DE) (q:Int),0≤q→qf9 q l=true→(l.map fun e=>(if p.pa=e.ea then 1 else 0)).sum=if ∃ e∈l,e.ea=p.pa then 1 else 0:=by
   intro l
   induction l with
   | nil=>intro q _ _;simp
   | cons e l ihl =>
    intro q hq h;have hup:=qcf h;simp only[qf9,Bool.and_eq_true,decide_eq_true_eq]at h;have h2:=ihl e.ea (by omega) h.2;simp only[qD5,qF6,h2];by_cases he:p.pa=e.ea
    ·have:¬ ∃ x∈l,x.ea=p.pa:=by
      rintro⟨x,hx,hxe⟩;have:=((qcf h.2).1 x hx).1;omega
     simp[he]at this ⊢;exact this
    ·have:e.ea≠p.pa:=fun h=>he h.symm;simp[he,this]
  have hk:=key l q hq h;have hadd:∀ (l:List DE),(l.map fun e=>ptN e.ea (p::L)).sum=(l.map fun e=>(if p.pa=e.ea then 1 else 0)).sum+(l.map fun e=>ptN e.ea L).sum:=by
   intro l
   induction l with
   | nil=>rfl
   | cons e l ih=>simp only[qD5,qF6];rw[ih,qnK];omega
  rw[hadd,hk,ih',qnU]
  congr 1
  by_cases h0:0<p.pa
  ·rw[if_pos (hpe h0),if_pos h0]
  ·rw[if_neg,if_neg h0];rintro⟨e,he,hee⟩;have:=((qcf h).1 e he).1;omega
theorem qr6 {l:List DE} {L:List PT} (h:∀ e∈l,(ptN e.ea L:Int)=e.ec):qb9 l=((l.map fun e=>ptN e.ea L).sum:Nat):=by
 induction l with
 | nil=>rfl
 | cons e l ih =>
  have h1:=h e (by simp);have h2:=ih fun e he=>h e (qEZ _ he);simp only[qb9,qD5,qF6,h2];omega
theorem qsr {l:List DE} {q:Int} (h:qf9 q l=true) (hq:0≤q) (L:List CS) {e:DE} (he:e∈l):qex e.ea L=ptN e.ea (qaA L):=by
 have:=((qcf h).1 e he).1;unfold qex;rw[if_pos (by omega)]
theorem qzU (c:CO) (h:CoT c) (hd:qaj c.ddt=true) (hs:∀ s∈c.sets,qbj s=true) :
  (qcI c && qco c)=((qaA c.sets).all (qnI c.ddt) && c.ddt.all fun e=>decide ((ptN e.ea (qaA c.sets):Int)=e.ec)):=by
 have hd2:=hd;simp only[qaj,Bool.and_eq_true,decide_eq_true_eq]at hd2;have hpa:∀ p∈qaA c.sets,0≤p.pa:=fun p hp=>by
  obtain⟨s,hs1,hs2⟩:=qF0.1 hp;exact(qwU (hs s hs1) hs2).2.1
 have e1:(qaA c.sets).all (qnI c.ddt)=qco c:=by
  unfold qco;rw[qFX,qDS,qDS];refine forall_congr' fun p=>forall_congr' fun hp=>?_;have:=hpa p hp;simp only[qnI,qFb,decide_eq_true_eq];constructor
  ·rintro(h | h)
   ·simp[qc7,h]
   ·exact h
  ·exact .inr
 have e2:(c.ddt.all fun e=>decide ((qex e.ea c.sets:Int)=e.ec))=(c.ddt.all fun e=>decide ((ptN e.ea (qaA c.sets):Int)=e.ec)):=by
  rw[qFX,qDS,qDS];refine forall_congr' fun e=>forall_congr' fun he=>?_;rw[qsr hd2.2 (by omega) _ he]
 rw[e1];unfold qcI;rw[e2];cases h1:qco c with
 | false=>simp
 | true =>
  cases h2:(c.ddt.all fun e=>decide ((ptN e.ea (qaA c.sets):Int)=e.ec))with
  | false=>simp
  | true =>
   have hL:∀ p∈qaA c.sets,0≤p.pa∧(0<p.pa→∃ e∈c.ddt,e.ea=p.pa):=fun p hp=>by
    refine⟨hpa p hp,fun h0=>?_⟩;have:=qDS.1 h1 p hp;simp only[qc7,qFb,decide_eq_true_eq,Bool.and_eq_true]at this;rcases this with h | h
    ·omega
    ·obtain⟨e,he,hea⟩:=qcH h.1;exact⟨e,qFu he,hea⟩
   have h3:=qu8 hd2.2 (by omega) _ hL;have h4:=qr6 (l:=c.ddt) (L:=qaA c.sets) fun e he=>by simpa using qDS.1 h2 e he
   simp[h4,h3,nnS]
theorem qrC (c:CO) (h:CoT c) (hd:qaj c.ddt=true) (hs:∀ s∈c.sets,qbj s=true):CV prog 191 [.agg c.row] (.bool (qcI c && qco c)):=by
 have hdd:=qiD hd;have hdl:=hdd.1;have hs1:=h.sets;obtain⟨F,hF⟩:∃ F,(c.ddt.all fun e=>decide ((ptN e.ea (qaA c.sets):Int)=e.ec))=F:=⟨_,rfl⟩;obtain⟨R,hR⟩:∃ R,((qaA c.sets).all (qnI c.ddt) && F)=R:=⟨_,rfl⟩;have hfin:(qcI c && qco c)=R:=by
  rw[← hR,← hF];exact qzU c h hd hs
 rw[hfin];refine cvx func191 [(10,[zI 0,zI 1,zI 2,zI 3,zJ 4 [1] [],zJ 5 [] [1],zI 6,zI 7,zI 8,zJ 9 [] [1],zJ 10 [7] [1],zI 11,zI 12]),(18,[zI 0,zJ 1 [11] [],zJ 2 [] [11],zJ 3 [] [11],zJ 4 [15] [11],zJ 5 [15] [11],zI 6])] ntmps191 rfl rfl rfl ?_;simp;refine⟨by omega,?_⟩;refine qa9 (X:=Nat) [1,3,17,18,19] [(1,1),(15,15)] (fun i=>[(19,.int .i64 i)]) (fun i=>[(1,⟨7,[c.row]⟩),(15,⟨1,c.ddt.map (qcN c (qaA (c.sets.take i)))⟩)]) (fun i=>c.sets.length-i)
  (fun i=>i≤c.sets.length∧((qaA (c.sets.drop i)).all (qnI c.ddt) && F)=R) 0 (by simpa using hR) ?_ (he:=by simp[qaA,qw3])
 rintro i ⟨hi,ha⟩;cases hr:c.sets.drop i with
 | nil =>
  have:=qaU hr;rw[hr]at ha;have hie:i=c.sets.length:=by omega
  have ha':F=R:=by simpa [qaA]using ha
  simp[hie];refine qa7 (X:=Nat) [3,61,62,63] [(15,15)] (fun i=>[(63,.int .i64 i)]) (fun _=>[]) (fun i=>c.ddt.length-i) (fun i=>i≤c.ddt.length∧((c.ddt.drop i).all fun e=>decide ((ptN e.ea (qaA c.sets):Int)=e.ec))=R) 0 (by simp;rw[← ha',← hF]) ?_;rintro j ⟨hj,hb⟩;cases hq:c.ddt.drop j with
  | nil =>
   have:=qaU hq;rw[hq]at hb;have hje:j=c.ddt.length:=by omega
   simp[hje];grind
  | cons e r =>
   obtain⟨h1,e0,e1,h3⟩:=qaV hq;rw[hq]at hb;have e2:=qaq ((j:Int)+1) (by omega) (by omega);simp[h1,e0,e1,e2,qcN]
   repeat' first
    | with_reducible intro _
    | with_reducible refine And.intro ?_ ?_
   all_goals first
    | exact nx (j+1) [(15,15)] (by grind)
    | grind
 | cons x r =>
  obtain⟨h1,e0,e1,h3⟩:=qaV hr;have hxm:=qFu e1;have hx8:=h.m8 x hxm;have hrl:=qaX x hx8;have ht:List.take 31 x.row=x.row:=qDU (by omega);have hm24:=qhI x hx8;rw[hr]at ha;have ha':(x.map.all (qnI c.ddt) && ((qaA r).all (qnI c.ddt) && F))=R:=by rw[← ha];simp[qaA,qDI]
  have e2:=qaq ((i:Int)+1) (by omega) (by omega);simp[h1,e0,e1,hrl,ht,hm24];refine⟨qmy x,?_⟩;refine qa9 (X:=Nat) [1,3,17,18,19,24,25] [(1,1),(15,15)] (fun j=>[(25,.int .i64 j)]) (fun j=>[(1,⟨7,[c.row]⟩),(15,⟨1,c.ddt.map (qcN c (qaA (c.sets.take i)++x.map.take j))⟩)]) (fun j=>8-j)
   (fun j=>j≤8∧((x.map.drop j).all (qnI c.ddt) && ((qaA r).all (qnI c.ddt) && F))=R) 0 (by simpa using ha') ?_
  rintro j ⟨hj,hb⟩;by_cases h2:j<8
  ·obtain⟨p,f1⟩:∃ p,x.map[j]?=some p:=⟨_,qDF (by omega)⟩;rw[qfq f1]at hb;have e3:=qaq ((j:Int)+1) (by omega) (by omega);have h2':(j:Int)<8:=by omega
   have hfa:=qiw f1;obtain⟨hpo,hp0,hp1⟩:=qwU (hs x hxm) (qFu f1);simp[h2',hfa,qpJ hx8];refine⟨by omega,fun hz=>?_,fun hz=>?_⟩
   ·have hne:∀ e∈c.ddt,e.ea≠p.pa:=fun e he=>by
     simp only[qaj,Bool.and_eq_true]at hd;have:=((qcf hd.2).1 e he).1;omega
    exact nx (j+1) [(1,1),(15,15)] ⟨by omega,by simpa [qnI,hz]using hb⟩ (h4:=by simp[e3,qgj f1,← List.append_assoc,qti _ _ _ hne])
   ·refine(qga c.ddt p.pa hd (by omega)).call ?_;cases hT:ddT c.ddt p.pa with
    | false =>
     have:qnI c.ddt p=false:=by simp[qnI,qc7,hT,hz];omega
     simp;grind
    | true =>
     obtain⟨e,he,hea⟩:=qcH hT;obtain⟨hk,hk0⟩:=qEb.1 he;have hps:qnI c.ddt p=(e.es == p.ps):=by simp[qnI,qc7,hT,he,hz];intro;omega
     have hcl:=qtZ p.pa (qaA (c.sets.take i)++x.map.take j);have hpl:=qj1 (c.sets.take i) (fun s hs=>h.m8 s (qF7 hs));simp only[qES,qDv]at hcl hpl;have e4:=qaq ((ptN p.pa (qaA (c.sets.take i)++x.map.take j):Int)+1) (by omega) (by omega);have hcr:qcN c (qaA (c.sets.take i)++x.map.take j) e=[.int .i64 (ptN p.pa (qaA (c.sets.take i)++x.map.take j))]:=by simp[qcN,hea]
     simp[hk,hk0,he,hcr,e4];exact⟨fun _=>by grind,fun _=>nx (j+1) [(1,1),(15,15)] ⟨by omega,by grind⟩ (h4:=by simp[e3,qgj f1,← List.append_assoc,← qw2 c _ p hd he hea])⟩
  ·have:j=8:=by omega
   subst this;simp[e2];simp[← hx8]at hb;refine nx (i+1) [(1,1),(15,15)] ⟨by omega,by rw[h3];grind⟩ (h4:=?_);have:qaA (c.sets.take (i+1))=qaA (c.sets.take i)++x.map.take 8:=by
    rw[qgj e1,qDU (l:=x.map) (by omega)];simp[qaA]
   simp[this]
theorem qir (c:CO) (h:CoT c):CV prog 90 [.agg c.row] (.bool (qal c)):=by
  obtain⟨R,hR⟩:∃ R,qal c=R:=⟨_,rfl⟩;rw[hR];have hany:(c.parts.any fun p=>!qao p)=!(c.parts.all qao):=by rw[qFO]
  have hany2:(c.sets.any fun p=>!qbj p)=!(c.sets.all qbj):=by rw[qFO]
  refine cvx func90 [] ntmps90 rfl rfl rfl ?_;simp
  repeat' first
    | (refine(qcC ..).call ?_;simp)
    | (refine(qki c.ddt h.ddt).call ?_;simp)
    | (refine(quz (fun p=>!qao p) _ c.parts (by omega) (fun x _=>qw0 x)).call ?_;simp)
    | with_reducible intro _
    | with_reducible refine And.intro ?_ ?_
  all_goals try (grind[qal,wiB];done)
  have hd:qaj c.ddt=true:=by assumption
  have hsl:=h.safe;have hs1:=h.sets;have hrest:qal c=(qbp 12 c.safe && (c.sets.all qbj && (qbc (c.sets.map csB) && (qcI c && qco c)))):=by grind[qal,wiB]
  rw[hrest]at hR;obtain⟨T,hT⟩:∃ T,(c.sets.all qbj && (qbc (c.sets.map csB) && (qcI c && qco c)))=T:=⟨_,rfl⟩;rw[hT]at hR;refine qa7 (X:=Nat×Int) [1,33,34,35] [(1,1)] (fun x=>[(35,.int .i64 x.1)]) (fun _=>[]) (fun x=>c.safe.length-x.1)
     (fun x=>x.1≤c.safe.length∧(x.1=0→x.2=12)∧(∀ k,x.1=k+1→c.safe[k]?=some x.2)∧(qbp x.2 (c.safe.drop x.1) && T)=R) (0,12) (by simp[hR]) ?_
  rintro⟨i,q⟩ ⟨hi,h0,hp,hdd⟩;simp only at hi h0 hp hdd;cases hr:c.safe.drop i with
  | nil =>
    have:=qaU hr;rw[hr]at hdd;have hie:i=c.safe.length:=by omega
    have hTR:T=R:=by simpa [qbp]using hdd
    rw[hTR]at hT;simp[hie];refine(qzP (fun s=>!qbj s) _ c.sets (by omega) h.m8 (fun x hx=>qwZ x (h.m8 x hx) (h.nm x hx).1 (h.nm x hx).2)).call ?_;rw[hany2];cases hall:c.sets.all qbj with
    | false =>
      simp;grind
    | true =>
      have hok:∀ s∈c.sets,qbj s=true:=qDS.1 hall;simp;refine(qzB c h.sets h.m8).call ?_;simp;refine(qww _ (quF hok) (by simpa using h.sets)).call ?_;simp
      repeat' first
        | (refine(qrC c h hd hok).call ?_;simp)
        | with_reducible intro _
        | with_reducible refine And.intro ?_ ?_
      all_goals grind
  | cons x r =>
    obtain⟨h1,e0,e1,h3⟩:=qaV hr;rw[hr]at hdd;have e2:=qaq ((i:Int)+1) (by omega) (by omega);by_cases hz:i=0
    · subst hz
      simp[h1,e0,e1];refine(qcC ..).call ?_;simp
      repeat' first
        | with_reducible intro _
        | with_reducible refine And.intro ?_ ?_
      all_goals first
        | exact nx (1,x) [(1,1)] (by grind[qbp,wiB])
        | grind[qbp,wiB]
    · obtain⟨k,hk⟩:∃ k,i=k+1:=⟨i-1,by omega⟩
      have f1:=hp k hk;have h1':k<c.safe.length:=by omega
      have f0:c.safe[k]=q:=by grind
      have e3:(i:Int)-1=k:=by omega
      have e4:=qaq (k:Int) (by omega) (by omega);have hpos:0<i:=by omega
      simp[h1,e0,e1];refine(qcC ..).call ?_;simp[h1,e0,h1',f0,e2,e3,e4,hpos]
      repeat' first
        | with_reducible intro _
        | with_reducible refine And.intro ?_ ?_
      all_goals first
        | exact nx (i+1,x) [(1,1)] (by grind[qbp,wiB])
        | grind[qbp,wiB]
theorem qzi {α:Type} {row:α→List AV} {tS tE sz g:Nat} {o:Ob} (hT:RowT row tS tE sz) (p:α→Bool) (l:List α) (hl:l.length≤9000000) (hs:∀ x∈l,(row x).length=sz) (ho:clR o.els=true)
  (hg:∀ x∈l,CW prog g [.agg (row x),.ptr 1000 0 0] o (.bool (p x))) :
  ev prog ⟨19,[1000]⟩ (ixA tS tE) (qnx prog [.tmp 4] (fun r L'=>r=.int .i64 (ixR p 0 l)∧L'=[(1000,o)])) ⟨qrK [.lst sz (l.map row),.fn g [.ptr 1000 0 0]],qaW [(1000,o)],Us.of [1000]⟩:=by
 obtain⟨fs,b,z,hE⟩:=hT.E;have hS:=hT.S;have hro:∀ ρ,qbF ρ o=o:=fun ρ=>qny ho;obtain⟨R,hR⟩:∃ R,ixR p 0 l=R:=⟨_,rfl⟩;rw[hR];simp[ixA,hS,hE];refine qa7 (X:=Nat) [0,1,7,8] [(1000,1000)] (fun i=>[(8,.int .i64 i)]) (fun _=>[]) (fun i=>l.length-i) (fun i=>i≤l.length∧ixR p i (l.drop i)=R) 0 (by simp[hR]) ?_ (he:=by simp[hro]);rintro i ⟨hi,hd⟩;cases hr:l.drop i with
 | nil =>
  have:=qaU hr;rw[hr]at hd;have hie:i=l.length:=by omega
  simp[hie,hro];grind[ixR]
 | cons x r =>
  obtain⟨h1,e0,e1,h3⟩:=qaV hr;rw[hr]at hd;have hx:=qFu e1;have e2:=qaq ((i:Int)+1) (by omega) (by omega);have hrl:=hs x hx;have ht:(row x).take sz=row x:=qDU (by omega);simp[hS,hE,h1,e0,e1,hrl,ht,hro];refine(hg x hx).call 1000 (by simp) (by simp[qg5 _ (hT.cl x)]) ?_;simp[e2];exact⟨fun hp=>by grind[ixR],fun hp=>nx (i+1) [(1000,1000)] (by grind[ixR]) (h4:=by simp[hro])⟩
theorem qiH {c:CO} (h:qal c=true):qbc (c.sets.map csB)=true:=by
 simp only[qal,Bool.and_eq_true]at h;exact h.1.1.2
theorem qtf {c:CO} (h:qal c=true):Srt (c.sets.map csB):=qg7 (by rw[qsB];exact qiH h)
theorem qol {c:CO} (h:qal c=true):qaj c.ddt=true:=by
 simp only[qal,Bool.and_eq_true]at h;exact h.1.1.1.1.1.1.1.1.1.2
def qCx (k:Nat) (out:List UInt8):List UInt8:=if h:k=0 then out else qCx (k / 10) (UInt8.ofNat (48+k % 10)::out)
termination_by k
def mtB (k:Nat):List UInt8:=if k=0 then [109,48] else 109::qCx k []
attribute [simp] qkL
def qme:List (List UInt8)→Int→Int
 | [],l=>l
 | t::r,l=>if l-t.length<0 then -1 else qme r (l-t.length)
theorem qpG:∀ (ts:List (List UInt8)) (l:Int),0≤l→qme ts l≤l∧-1≤qme ts l∧(0≤qme ts l→∀ t∈ts,(t.length:Int)≤l)
 | [],l,h=>by simp[qme];omega
 | t::r,l,h=>by
  unfold qme;split
  ·refine⟨by omega,by omega,fun h'=>by omega⟩
  ·obtain⟨h1,h2,h3⟩:=qpG r (l-t.length) (by omega);refine⟨by omega,h2,fun h' t' ht=>?_⟩;rcases qE3.1 ht with rfl | ht
   ·omega
   ·have:=h3 h' t' ht;omega
def BkS (bs:List BS):Prop:=bs.length≤1048576∧∀ b∈bs,b.bl.length=8∧b.name.length≤1048576∧b.frm.length≤1048576
def opS (o:BO):Prop:=o.a.length≤1048576∧o.b.length≤1048576
theorem qsv {id sz:Nat} {z:AV}:phs id sz (.tup [.agg [.nils],z]) (.tup [.agg [.sl id 0 0],z]):=qsu qsx (qsw _ _ _)
theorem qnT (b:BS):noL b.row=true:=by simp[BS.row,qj7]
theorem qC4 (bs:List BS) (o:BO) (h:BkS bs) (ho:opS o):ACall prog 107 [bk bs,.agg (BO.row o)] [] (fun r L'=>r=.tup [.agg [.sl 903 0 (qxt bs o).1.length],.int .i64 (qxt bs o).2]∧L'=[(903,qbz (qxt bs o).1)]):=by
 have hc:=qsB bs ▸ qsM bs o (by have:=h.1;omega) (fun b hb=>(h.2 b hb).1) (fun b hb=>by have:=(h.2 b hb).2.1;omega) ⟨by have:=ho.1;omega,by have:=ho.2;omega⟩;refine ACall.ph 903 11 hc (by simp) ?_;intro r L' hr;unfold bkN at hr;unfold qxt;split at hr
 ·rename_i hk;obtain⟨id,hid,rfl,rfl⟩:=hr;simp only[qF8]at hid;subst hid;exact .inl (by rw[if_pos hk];exact⟨rfl,rfl⟩)
 ·rename_i hk;obtain⟨rfl,rfl⟩:=hr;exact .inr ⟨by simp,by simp,_,qsv,by rw[if_neg hk];exact⟨rfl,rfl⟩⟩
structure BK where
 sets:List BS
def BK.row (b:BK):List AV:=[.lst 11 (b.sets.map BS.row)]
theorem qva {n:Nat} {avs:List AV} (h:Shp prog (n+1) 9 avs):∃ s:List UInt8,s.length≤maxLen∧avs=[.str s]:=qja underlying9 h
def qa1 (c:UInt8):List UInt8→Int→Int
 | [],_=>-1
 | x::r,i=>if x=c then i else qa1 c r (i+1)
theorem qwH (s:List UInt8) (c:UInt8) (hs:s.length≤maxLen):CV prog 241 [.str s,.int .u8 (c.toNat:Int)] (.int .i64 (qa1 c s 0)):=by
 obtain⟨R,hR⟩:∃ R,qa1 c s 0=R:=⟨_,rfl⟩;rw[hR];have hml:maxLen=9223372036854775807:=rfl;refine cvx func241 [] ntmps241 rfl rfl rfl ?_;simp;refine qa7 (X:=Nat) [0,1,5] [] (fun x=>[(5,.int .i64 x)]) (fun _=>[]) (fun x=>s.length-x) (fun x=>x≤s.length∧qa1 c (s.drop x) x=R) 0 (by simp[hR]) ?_;rintro i ⟨hi,hd⟩;cases hr:s.drop i with
 | nil =>
  have:=qaU hr;rw[hr]at hd;have hie:i=s.length:=by omega
  simp[qa1]at hd;simp[hie,hd]
 | cons x r =>
  obtain⟨h1,e0,e1,h3⟩:=qaV hr;rw[hr,qa1]at hd;have e2:=qaq ((i:Int)+1) (by omega) (by omega);by_cases hxc:x=c
  ·subst hxc;rw[if_pos rfl]at hd;simp[h1,e0,e1,e2];exact hd
  ·rw[if_neg hxc]at hd;have e3:¬ ((x.toNat:Int)=c.toNat):=fun h=>hxc (qFM.1 (by omega));simp[h1,e0,e1,e2,e3];exact nx (i+1) [] (by simp only[h3];exact⟨by omega,by simpa using hd⟩) (h4:=by simp[e2])
def qi6:List UInt8→Nat→Nat
 | [],n=>n
 | x::r,n=>qi6 r ((n * 257+x.toNat+1) % 65521)
theorem qx8 (s:List UInt8) (hs:s.length≤maxLen):CV prog 170 [.str s] (.int .i64 (qi6 s (1+s.length % 997):Nat)):=by
 obtain⟨R,hR⟩:∃ R,qi6 s (1+s.length % 997)=R:=⟨_,rfl⟩;rw[hR];have hml:maxLen=9223372036854775807:=rfl;have t1:(s.length:Int).tmod 997=(s.length:Int) % 997:=qF9 (by omega);have w1:=qaq (1+(s.length:Int) % 997) (by omega) (by omega);refine cvx func170 [] ntmps170 rfl rfl rfl ?_;simp[t1,w1];refine qa7 (X:=Nat×Nat) [0,3,4] [] (fun x=>[(4,.int .i64 x.1),(3,.int .i64 x.2)]) (fun _=>[]) (fun x=>s.length-x.1) (fun x=>x.1≤s.length∧x.2<65521∧qi6 (s.drop x.1) x.2=R) (0,1+s.length % 997) (by simp[hR];omega) ?_;rintro⟨i,n⟩ ⟨hi,hn,hd⟩;simp only at hi hn hd;cases hr:s.drop i with
 | nil =>
  have:=qaU hr;rw[hr]at hd;have hie:i=s.length:=by omega
  simp[qi6]at hd;simp[hie,hd]
 | cons x r =>
  obtain⟨h1,e0,e1,h3⟩:=qaV hr;rw[hr,qi6]at hd;have e2:=qaq ((i:Int)+1) (by omega) (by omega);have hx:=x.toNat_lt;have w2:=qaq ((n:Int) * 257) (by omega) (by omega);have w3:=qaq ((n:Int) * 257+x.toNat) (by omega) (by omega);have w4:=qaq ((n:Int) * 257+x.toNat+1) (by omega) (by omega);have w6:=qaq (x.toNat:Int) (by omega) (by omega);have t2:((n:Int) * 257+x.toNat+1).tmod 65521=((n:Int) * 257+x.toNat+1) % 65521:=qF9 (by omega);have w5:=qaq (((n:Int) * 257+x.toNat+1) % 65521) (by omega) (by omega);simp[h1,e0,e1,e2,w2,w3,w4,w5,w6,t2];exact nx (i+1,(n * 257+x.toNat+1) % 65521) [] (by simp only[h3];exact⟨by omega,by omega,hd⟩) (by simp only;omega) (h4:=by simp[e2,w2,w3,w4,w5,w6,t2])
theorem qsG (s:List UInt8) (hs:s.length≤maxLen):CV prog 201 [.str s] (.int .i64 (qi6 s (1+s.length % 997):Nat)):=by
 obtain⟨R,hR⟩:∃ R,qi6 s (1+s.length % 997)=R:=⟨_,rfl⟩;rw[hR];have hml:maxLen=9223372036854775807:=rfl;have t1:(s.length:Int).tmod 997=(s.length:Int) % 997:=qF9 (by omega);have w1:=qaq (1+(s.length:Int) % 997) (by omega) (by omega);refine cvx func201 [] ntmps201 rfl rfl rfl ?_;simp[t1,w1];refine qa7 (X:=Nat×Nat) [0,3,10,11] [] (fun x=>[(11,.int .i64 x.1),(3,.int .i64 x.2)]) (fun _=>[]) (fun x=>s.length-x.1) (fun x=>x.1≤s.length∧x.2<65521∧qi6 (s.drop x.1) x.2=R) (0,1+s.length % 997) (by simp[hR];omega) ?_;rintro⟨i,n⟩ ⟨hi,hn,hd⟩;simp only at hi hn hd;cases hr:s.drop i with
 | nil =>
  have:=qaU hr;rw[hr]at hd;have hie:i=s.length:=by omega
  simp[qi6]at hd;simp[hie,hd]
 | cons x r =>
  obtain⟨h1,e0,e1,h3⟩:=qaV hr;rw[hr,qi6]at hd;have e2:=qaq ((i:Int)+1) (by omega) (by omega);have hx:=x.toNat_lt;have w2:=qaq (257 * (n:Int)) (by omega) (by omega);have w3:=qaq (257 * (n:Int)+x.toNat) (by omega) (by omega);have w4:=qaq (257 * (n:Int)+x.toNat+1) (by omega) (by omega);have w6:=qaq (x.toNat:Int) (by omega) (by omega);have t2:(257 * (n:Int)+x.toNat+1).tmod 65521=(257 * (n:Int)+x.toNat+1) % 65521:=qF9 (by omega);have w5:=qaq ((257 * (n:Int)+x.toNat+1) % 65521) (by omega) (by omega);simp[h1,e0,e1,e2,w2,w3,w4,w5,w6,t2];rw[qEv]at hd;exact nx (i+1,(257 * n+x.toNat+1) % 65521) [] (by simp only[h3];exact⟨by omega,by omega,hd⟩) (by simp only;omega) (h4:=by simp[e2,w2,w3,w4,w5,w6,t2])
def qmZ (k:Nat) (out:List UInt8):List UInt8:=if h:k≤9 then UInt8.ofNat (48+k)::out else qmZ (k / 10) (UInt8.ofNat (48+k % 10)::out)
termination_by k
theorem qye (k:Nat) (hk:k<1000000000):CV prog 244 [.int .i64 k] (.str (qmZ k [])):=by
 obtain⟨R,hR⟩:∃ R,qmZ k []=R:=⟨_,rfl⟩;rw[hR];refine cvx func244 [] ntmps244 rfl rfl rfl ?_;have h0:¬ (k:Int) < -9223372036854775807:=by omega
 have h1:¬ (k:Int)<0:=by omega
 simp[h0,h1];refine qa7 (X:=Nat×List UInt8) [0,3] [] (fun x=>[(0,.int .i64 x.1),(3,.str x.2)]) (fun _=>[]) (fun x=>x.1) (fun x=>x.2.length+x.1≤k∧qmZ x.1 x.2=R) (k,[]) (by simp[hR]) ?_;rintro⟨j,out⟩ ⟨hj,hm⟩;simp only at hj hm;rw[qmZ]at hm;by_cases hz:j≤9
 ·rw[dif_pos hz]at hm;have h2:¬ (9:Int)<j:=by omega
  have e1:=qaq (48+(j:Int)) (by omega) (by omega);have e2:qjE [.int .u8 (IntKind.u8.wrap (48+(j:Int)))]=UInt8.ofNat (48+j):=by
   have:IntKind.u8.wrap (48+(j:Int))=((48+j:Nat):Int):=by
    show(48+(j:Int)) % 256=_;omega
   rw[this];rfl
  simp[h2,e1];refine⟨qly _,by omega,?_⟩;rw[← hm,e2]
 ·rw[dif_neg hz]at hm;have h2:(9:Int)<j:=by omega
  have e1:=qaq (48+(j:Int) % 10) (by omega) (by omega);have e3:=qaq ((j:Int) / 10) (by omega) (by omega);have e2:qjE [.int .u8 (IntKind.u8.wrap (48+(j:Int) % 10))]=UInt8.ofNat (48+j % 10):=by
   have:IntKind.u8.wrap (48+(j:Int) % 10)=((48+j % 10:Nat):Int):=by
    show(48+(j:Int) % 10) % 256=_;omega
   rw[this];rfl
  have t1:(j:Int).tmod 10=(j:Int) % 10:=qF9 (by omega);have t2:(j:Int).tdiv 10=(j:Int) / 10:=qGa (by omega);simp[h2,t1,t2,e1,e3];refine⟨qly _,by omega,?_⟩;refine nx (j / 10,UInt8.ofNat (48+j % 10)::out) [] ?_ ?_ (h4:=?_)
  ·refine⟨?_,hm⟩;simp only[qDX];omega
  ·simp only;omega
  ·simp[t1,t2,e1,e2,e3]
theorem qkA (k:Nat) (out:List UInt8):(qmZ k out).length≤out.length+k+1:=by
 induction k using Nat.strongRecOn generalizing out with
 | _ k ih =>
  rw[qmZ];split
  ·simp only[qDX];omega
  ·have:=ih (k / 10) (by omega) (UInt8.ofNat (48+k % 10)::out);simp only[qDX]at this;omega
def qdP (s:List UInt8):List UInt8:=if 400<s.length then [] else qmZ (qi6 s (1+s.length % 997)) []++58::s
theorem qhV:∀ (s:List UInt8) (n:Nat),n<65521→qi6 s n<65521
 | [],n,h=>h
 | x::r,n,h=>qhV r _ (qEL _ (by omega))
theorem qnm (s:List UInt8) (hs:s.length≤maxLen):CV prog 242 [.str s] (.str (qdP s)):=by
 have hlt:=qhV s (1+s.length % 997) (by omega);refine cvx func242 [] ntmps242 rfl rfl rfl ?_;unfold qdP;by_cases h:400<s.length
 ·have h':(400:Int)<s.length:=by omega
  simp[h,h']
 ·have h':¬ (400:Int)<s.length:=by omega
  rw[if_neg h];simp[h'];refine(qx8 s hs).call ?_;simp;refine(qye _ (by omega)).call ?_;simp;have hdl:=qkA (qi6 s (1+s.length % 997)) [];simp only[qET]at hdl;omega
def qbf (s:List UInt8):List UInt8×Bool :=
 if qa1 58 s 0<0 then ([],false) else if qdP (s.drop ((qa1 58 s 0).toNat+1))=s then (s.drop ((qa1 58 s 0).toNat+1),true) else ([],false)
theorem qf3:∀ (c:UInt8) (s:List UInt8) (i:Int),0≤i→qa1 c s i<i+s.length
 | c,[],i,h=>by simp[qa1];omega
 | c,x::r,i,h=>by
  unfold qa1;split
  ·simp;omega
  ·have:=qf3 c r (i+1) (by omega);simp only[qDX];omega
theorem qf4:∀ (c:UInt8) (s:List UInt8) (i:Int),0≤i→qa1 c s i=-1∨i≤qa1 c s i
 | c,[],i,h=>.inl rfl
 | c,x::r,i,h=>by
  unfold qa1;split
  ·exact .inr (Int.le_refl _)
  ·rcases qf4 c r (i+1) (by omega)with h | h
   ·exact .inl h
   ·exact .inr (by omega)
theorem qtQ (s:List UInt8) (hs:s.length≤1048576):CV prog 154 [.str s] (.tup [.str (qbf s).1,.bool (qbf s).2]):=by
 obtain⟨R,hR⟩:∃ R,qbf s=R:=⟨_,rfl⟩;rw[hR];have hml:maxLen=9223372036854775807:=rfl;have hlt:=qf3 58 s 0 (by omega);have hge:=qf4 58 s 0 (by omega);have fc:=qwH s 58 (by omega);have sc:=qnm (s.drop ((qa1 58 s 0).toNat+1)) (by simp;omega);refine cvx func154 [] ntmps154 rfl rfl rfl ?_;simp;refine fc.call ?_;unfold qbf at hR;generalize qa1 58 s 0=k at *
 by_cases h:k<0
 ·rw[if_pos h]at hR;simp[h,← hR]
 ·rw[if_neg h]at hR;have e1:=qaq (k+1) (by omega) (by omega);have d1:(k+1).toNat=k.toNat+1:=by omega
  have d2:List.take (s.length-(k.toNat+1)) (List.drop (k.toNat+1) s)=List.drop (k.toNat+1) s:=qDU (by simp);simp[h,e1,d1,d2];refine⟨⟨by omega,by omega⟩,?_⟩;refine sc.call ?_;by_cases hs2:qdP (s.drop (k.toNat+1))=s
  ·rw[if_pos hs2]at hR;simp[hs2,h,e1,d1,d2,← hR];exact⟨by omega,by omega⟩
  ·rw[if_neg hs2]at hR;simp[hs2,← hR]
def hexL:List UInt8:=[48,49,50,51,52,53,54,55,56,57,97,98,99,100,101,102]
def qfe:List UInt8→List UInt8→List UInt8×Bool
 | a::b::r,out=>if qa1 a hexL 0<0∨qa1 b hexL 0<0 then ([],false) else qfe r (out++[UInt8.ofNat (qa1 a hexL 0 * 16+qa1 b hexL 0).toNat])
 | [],out=>(out,true)
 | [_],_=>([],false)
theorem qsW (c:UInt8):qa1 c hexL 0<16∧-1≤qa1 c hexL 0:=by
 have:=qf3 c hexL 0 (by omega);have h2:=qf4 c hexL 0 (by omega);simp[hexL]at this;simp only[hexL]at h2 ⊢;omega
theorem qgc:qjE ∘ qgi=id:=by
 funext c
 show UInt8.ofNat ((c.toNat:Int).toNat)=c;simp
theorem qhu (ρ:Nat→Option Plc):qch ρ ∘ qgi=qgi:=by
 funext c
 simp[qgi]
theorem qBj (s:List UInt8) (hs:s.length≤1048576):CV prog 325 [.str s] (.tup [.str (qfe s []).1,.bool (qfe s []).2]):=by
 obtain⟨R,hR⟩:∃ R,qfe s []=R:=⟨_,rfl⟩;rw[hR];have hml:maxLen=9223372036854775807:=rfl;have t1:(s.length:Int).tmod 2=(s.length:Int) % 2:=qF9 (by omega);refine cvx func325 [] ntmps325 rfl rfl rfl ?_;by_cases hodd:s.length % 2=0
 ·have h1:¬ (0:Int)<(s.length:Int) % 2:=by omega
  simp[t1,h1];refine qa9 (X:=Nat×List UInt8) [0,4,5] [(12,900)] (fun x=>[(5,.int .i64 x.1),(4,.sl 900 0 x.2.length)]) (fun x=>[(900,⟨1,x.2.map qgi⟩)]) (fun x=>s.length-x.1) (fun x=>x.1≤s.length∧x.1 % 2=0∧x.2.length≤x.1∧qfe (s.drop x.1) x.2=R) (0,[]) (by simp[hR]) ?_ (he:=by simp[qah]);rintro⟨i,out⟩ ⟨hi,hev,hol,hd⟩;simp only at hi hev hol hd;by_cases h2:i<s.length
  ·obtain⟨a,f1⟩:∃ a,s[i]?=some a:=⟨_,qDF (by omega)⟩;obtain⟨b,f2⟩:∃ b,s[i+1]?=some b:=⟨_,qDF (by omega)⟩;rw[qfq f1,qfq f2,qfe]at hd;have h3:i+1<s.length:=by omega
   have g1:s[i]=a:=(qEb.1 f1).2;have g2:s[i+1]=b:=(qEb.1 f2).2;have c1:=qwH hexL a (by simp[hexL,hml]);have c2:=qwH hexL b (by simp[hexL,hml]);have b1:=qsW a;have b2:=qsW b;obtain⟨p,hp⟩:∃ p,qa1 a hexL 0=p:=⟨_,rfl⟩;obtain⟨q,hq⟩:∃ q,qa1 b hexL 0=q:=⟨_,rfl⟩;rw[hp]at c1 b1 hd;rw[hq]at c2 b2 hd;simp only[hexL]at c1 c2;have e1:=qaq ((i:Int)+1) (by omega) (by omega);have e2:=qaq ((i:Int)+2) (by omega) (by omega);have e3:((i:Int)+1).toNat=i+1:=by omega
   simp[h2,f1,g1];refine c1.call ?_;simp[h2,h3,f2,g2,e1,e3];refine⟨⟨by omega,by omega⟩,?_⟩;refine c2.call ?_;by_cases hpn:p<0
   ·rw[if_pos (.inl hpn)]at hd;simp[hpn,← hd]
   ·by_cases hqn:q<0
    ·rw[if_pos (.inr hqn)]at hd;simp[hpn,hqn,← hd]
    ·rw[if_neg (by omega)]at hd;have w1:=qaq (p * 16) (by omega) (by omega);have w2:=qaq (p * 16+q) (by omega) (by omega);have w3:IntKind.u8.wrap (p * 16+q)=p * 16+q:=by
      show(p * 16+q) % 256=_;omega
     simp[hpn,hqn,w1,w2,w3];refine⟨by omega,?_⟩;have hu:qgi (UInt8.ofNat (p * 16+q).toNat)=[.int .u8 (p * 16+q)]:=by
      show [AV.int .u8 (((UInt8.ofNat (p * 16+q).toNat).toNat:Nat):Int)]=_;simp only[qGb];have:(p * 16+q).toNat % 2 ^ 8=(p * 16+q).toNat:=qEw (by omega);rw[this];have:(((p * 16+q).toNat:Nat):Int)=p * 16+q:=by omega
      rw[this]
     refine nx (i+2,out++[UInt8.ofNat (p * 16+q).toNat]) [(41,900)] ⟨by simp only;omega,by simp only;omega,by simp;omega,hd⟩ (by simp only;omega) (h4:=?_);simp[qah,e2,hu,qDU,qhu]
  ·have:i=s.length:=by omega
   subst this;rw[qFn (by omega),qfe]at hd;simp[qgc,qDU];exact⟨fun _ _=>rfl,by rw[← hd],by rw[← hd]⟩
 ·have h1:(0:Int)<(s.length:Int) % 2:=by omega
  have ho:∀ (n:Nat) (l o:List UInt8),l.length=2 * n+1→qfe l o=([],false):=by
   intro n
   induction n with
   | zero =>
    intro l o hl
    match l,hl with
    | [x],_=>rfl
   | succ n ih =>
    intro l o hl
    match l,hl with
    | a::b::r,hl =>
     unfold qfe;split
     ·rfl
     ·exact ih r _ (by simp at hl;omega)
  have:=ho (s.length / 2) s [] (by omega);rw[this]at hR;simp[t1,h1,← hR]
def qaF (c:UInt8):List UInt8→List UInt8→List (List UInt8)
 | [],cur=>[cur]
 | x::r,cur=>if x=c then cur::qaF c r [] else qaF c r (cur++[x])
def qcr (t:List UInt8):List AV:=[.str t]
theorem qfP (ρ:Nat→Option Plc):qch ρ ∘ qcr=qcr:=by
 funext t
 simp[qcr]
theorem qBm (s:List UInt8) (c:UInt8) (hs:s.length≤1048576):ACall prog 155 [.str s,.int .u8 (c.toNat:Int)] [] (fun r L'=>r=.sl 900 0 (qaF c s []).length∧L'=[(900,⟨1,(qaF c s []).map qcr⟩)]):=by
 obtain⟨R,hR⟩:∃ R,qaF c s []=R:=⟨_,rfl⟩;rw[hR];refine acx func155 [] ntmps155 rfl rfl rfl ?_;simp;refine qa9 (X:=Nat×Nat×List (List UInt8)) [0,1,5,6,7] [(8,900)] (fun x=>[(7,.int .i64 x.1),(6,.int .i64 x.2.1),(5,.sl 900 0 x.2.2.length)]) (fun x=>[(900,⟨1,x.2.2.map qcr⟩)]) (fun x=>s.length+1-x.1)
  (fun x=>x.2.2.length≤x.1∧((x.1≤s.length∧x.2.1≤x.1∧x.2.2++qaF c (s.drop x.1) (List.take (x.1-x.2.1) (List.drop x.2.1 s))=R)∨(x.1=s.length+1∧x.2.2=R))) (0,0,[]) ⟨by simp,.inl ⟨by simp,by simp,by simpa using hR⟩⟩ ?_ (he:=by simp[qah])
 rintro⟨i,fr,ps⟩ ⟨hpl,hg⟩;simp only at hpl hg;rcases hg with⟨hi,hf,hd⟩ | ⟨hi,hd⟩
 ·have h0:(i:Int)≤s.length:=by omega
  have e1:=qaq ((i:Int)+1) (by omega) (by omega);by_cases h1:i=s.length
  ·subst h1;rw[qFn (by omega),qaF]at hd;simp;refine⟨by omega,by omega,?_⟩;refine nx (s.length+1,s.length+1,ps++[List.take (s.length-fr) (List.drop fr s)]) [(32,900)] ⟨by simp only[qES,qGc];omega,.inr ⟨rfl,hd⟩⟩ (by simp only;omega) (h4:=?_);simp[qah,e1,qfP,qcr,qDU]
  ·have h1':¬ (i:Int)=s.length:=by omega
   have hlt:i<s.length:=by omega
   obtain⟨x,f1⟩:∃ x,s[i]?=some x:=⟨_,qDF (by omega)⟩;have f0:s[i]=x:=(qEb.1 f1).2;rw[qfq f1,qaF]at hd;by_cases hxc:x=c
   ·subst hxc;rw[if_pos rfl]at hd;simp[h0,h1',hlt,f0,f1];refine⟨⟨by omega,by omega⟩,by omega,?_⟩;refine nx (i+1,i+1,ps++[List.take (i-fr) (List.drop fr s)]) [(32,900)] ⟨by simp only[qES,qGc];omega,.inl ⟨by simp only;omega,by simp,by simpa using hd⟩⟩ (by simp only;omega) (h4:=?_);simp[qah,e1,qfP,qcr,qDU]
   ·rw[if_neg hxc]at hd;have e3:¬ ((x.toNat:Int)=c.toNat):=fun h=>hxc (qFM.1 (by omega));simp[h0,h1',hlt,f0,f1,e3];have e4:List.take (i+1-fr) (List.drop fr s)=List.take (i-fr) (List.drop fr s)++[x]:=by
     rw[show i+1-fr=i-fr+1 by omega];exact qgj (by rw[qD4,show fr+(i-fr)=i by omega];exact f1)
    refine nx (i+1,fr,ps) [(900,900)] ⟨by simp only;omega,.inl ⟨by simp only;omega,by simp only;omega,by simp only;rw[e4];exact hd⟩⟩ (by simp only;omega) (h4:=?_);simp[qah,e1,qfP]
 ·subst hi;have h0:¬ ((s.length:Int)+1)≤s.length:=by omega
  simp[h0];exact⟨by rw[hd],by rw[hd]⟩
theorem qjV (s:List UInt8) (c:UInt8) (hs:s.length≤1048576):CV prog 155 [.str s,.int .u8 (c.toNat:Int)] (.lst 1 ((qaF c s []).map qcr)):=by
 refine CV.of_frz (qBm s c hs) (fun r L' hR=>?_);obtain⟨rfl,rfl⟩:=hR;refine⟨by simp,by simp,?_,?_⟩
 ·simp[clR,qcr,clL,clA]
 ·simp[qbe,qDU];exact qaD _
def qe8 (n:Nat):List UInt8→Option Nat
 | []=>some n
 | x::r=>if x.toNat<48∨57<x.toNat then none else qe8 (n * 10+(x.toNat-48)) r
def qsC (neg:Bool) (t:List UInt8):Int×Bool :=
 if t.length=0∨17<t.length∨(t.head?=some 48∧(1<t.length∨neg=true)) then (0,false) else
 match qe8 0 t with
 | none=>(0,false)
 | some n=>(if neg=true then -(n:Int) else n,true)
def qaw (s:List UInt8):Int×Bool:=if s.head?=some 45 then qsC true s.tail else qsC false s
theorem qhZ (s:List UInt8) (hs:s.length≤1048576):CV prog 156 [.str s] (.tup [.int .i64 (qaw s).1,.bool (qaw s).2]):=by
 obtain⟨R,hR⟩:∃ R,qaw s=R:=⟨_,rfl⟩;rw[hR];refine cvx func156 [] ntmps156 rfl rfl rfl ?_;unfold qaw at hR;cases s with
 | nil =>
  simp[qsC]at hR;simp[← hR]
 | cons x r =>
  have hrl:List.take r.length r=r:=qDU (qDo _);by_cases hx:x=45
  ·subst hx;simp only[qGd,qGe,if_true]at hR;unfold qsC at hR;by_cases hc:r.length=0∨17<r.length∨r.head?=some 48∧(1<r.length∨true=true)
   ·rw[if_pos hc]at hR;simp[hrl,← hR];cases r with
    | nil=>simp
    | cons y t =>
     intro _ g2;refine⟨by simp,fun g3=>?_⟩;exfalso;simp at hc g2 g3;rcases hc with h | h
     ·omega
     ·subst h;exact g3 rfl
   ·rw[if_neg hc]at hR;obtain⟨N,hN⟩:∃ N,qe8 0 r=N:=⟨_,rfl⟩;rw[hN]at hR;cases r with
    | nil=>simp at hc
    | cons y t =>
     simp only[qGd,qDX,qDs,or_true,and_true,not_or]at hc;have hy':¬ ((y.toNat:Int)=48):=fun h=>hc.2.2 (qFM.1 (by simpa using by omega));have h17:(t.length:Int)+1≤17:=by omega
     have h17':¬ 17<(t.length:Int)+1:=by omega
     simp[hrl,hy',h17,h17'];refine⟨fun _=>⟨by omega,fun _=>?_,fun h=>by omega⟩,fun h=>by omega⟩;have hTl:(y::t).length≤17:=by simp;omega
     refine qa7 (X:=Nat×Nat) [0,4,5,6] [] (fun w=>[(6,.int .i64 w.1),(5,.int .i64 w.2)]) (fun _=>[]) (fun w=>(y::t).length-w.1) (fun w=>w.1≤(y::t).length∧w.2<10 ^ w.1∧qe8 w.2 ((y::t).drop w.1)=N) (0,0) ⟨by omega,by simp,hN⟩ ?_;rintro⟨i,n⟩ ⟨hi,hn,hd⟩;simp only at hi hn hd;have hp:10 ^ i≤10 ^ 17:=qGf (by omega) (by omega);cases hr:(y::t).drop i with
     | nil =>
      have:=qaU hr;rw[hr,qe8]at hd;have hie:i=(y::t).length:=by omega
      rw[← hd]at hR;have w0:=qaq (-(n:Int)) (by omega) (by omega);simp[hie,w0,← hR]
     | cons z q =>
      obtain⟨g1,g0,g2,g3⟩:=qaV hr;rw[hr,qe8]at hd;have e2:=qaq ((i:Int)+1) (by omega) (by omega);have hz:=z.toNat_lt;have g1':(i:Int)<(t.length:Int)+1:=by simp at g1;omega
      by_cases hbad:z.toNat<48∨57<z.toNat
      ·rw[if_pos hbad]at hd;rw[← hd]at hR;simp[g1',g1,g0,g2,← hR];intros;omega
      ·rw[if_neg hbad]at hd;have w1:=qaq ((n:Int) * 10) (by omega) (by omega);have w2:IntKind.u8.wrap ((z.toNat:Int)-48)=(z.toNat:Int)-48:=by
        show((z.toNat:Int)-48) % 256=_;omega
       have w3:=qaq ((z.toNat:Int)-48) (by omega) (by omega);have w4:=qaq ((n:Int) * 10+((z.toNat:Int)-48)) (by omega) (by omega);have b1:¬ ((z.toNat:Int)<48):=by omega
       have b2:¬ (57<(z.toNat:Int)):=by omega
       simp[g1',g1,g0,g2,b1,b2,e2,w1,w2,w3,w4];have c1:((z.toNat-48:Nat):Int)=(z.toNat:Int)-48:=by omega
       have hps:10 ^ (i+1)=10 ^ i * 10:=qGg ..;refine nx (i+1,n * 10+(z.toNat-48)) [] ⟨by simp only;omega,by simp only;omega,by simp only[g3];exact hd⟩ (by simp only;omega) (h4:=?_);simp[e2,w1,w2,w3,w4,c1]
  ·have hx':¬ ((x.toNat:Int)=45):=fun h=>hx (qFM.1 (by simpa using by omega));simp only[qGd,qDs,hx,if_false]at hR;unfold qsC at hR;by_cases hc:(x::r).length=0∨17<(x::r).length∨(x::r).head?=some 48∧(1<(x::r).length∨false=true)
   ·rw[if_pos hc]at hR;simp[hrl,hx',← hR];intro _ g2;simp only[qDX,qGd,qDs,qDA,or_false]at hc;refine⟨fun g3 g4=>?_,fun g3=>?_⟩
    ·exfalso;omega
    ·exfalso;rcases hc with h | h | ⟨h,_⟩
     ·omega
     ·omega
     ·subst h;exact g3 rfl
   ·rw[if_neg hc]at hR;obtain⟨N,hN⟩:∃ N,qe8 0 (x::r)=N:=⟨_,rfl⟩;rw[hN]at hR;simp only[qGd,qDX,qDs,qDA,or_false,not_or,not_and]at hc;have h17:(r.length:Int)+1≤17:=by omega
    have h17':¬ 17<(r.length:Int)+1:=by omega
    have hTl:(x::r).length≤17:=by simp;omega
    simp[hrl,hx',h17,h17'];refine⟨fun _=>⟨fun g=>⟨fun _=>?_,fun h=>absurd (hc.2.2 (qFM.1 (by simpa using by omega))) (by omega)⟩,fun g=>?_⟩,fun h=>by omega⟩
    all_goals
     refine qa7 (X:=Nat×Nat) [0,4,5,6] [] (fun w=>[(6,.int .i64 w.1),(5,.int .i64 w.2)]) (fun _=>[]) (fun w=>(x::r).length-w.1) (fun w=>w.1≤(x::r).length∧w.2<10 ^ w.1∧qe8 w.2 ((x::r).drop w.1)=N) (0,0) ⟨by omega,by simp,hN⟩ ?_;rintro⟨i,n⟩ ⟨hi,hn,hd⟩;simp only at hi hn hd;have hp:10 ^ i≤10 ^ 17:=qGf (by omega) (by omega);cases hr:(x::r).drop i with
     | nil =>
      have:=qaU hr;rw[hr,qe8]at hd;have hie:i=(x::r).length:=by omega
      rw[← hd]at hR;have w0:=qaq (-(n:Int)) (by omega) (by omega);simp[hie,w0,hx',← hR]
     | cons z q =>
      obtain⟨g1,g0,g2,g3⟩:=qaV hr;rw[hr,qe8]at hd;have e2:=qaq ((i:Int)+1) (by omega) (by omega);have hz:=z.toNat_lt;have g1':(i:Int)<(r.length:Int)+1:=by simp at g1;omega
      by_cases hbad:z.toNat<48∨57<z.toNat
      ·rw[if_pos hbad]at hd;rw[← hd]at hR;simp[g1',g1,g0,g2,← hR];intros;omega
      ·rw[if_neg hbad]at hd;have w1:=qaq ((n:Int) * 10) (by omega) (by omega);have w2:IntKind.u8.wrap ((z.toNat:Int)-48)=(z.toNat:Int)-48:=by
        show((z.toNat:Int)-48) % 256=_;omega
       have w3:=qaq ((z.toNat:Int)-48) (by omega) (by omega);have w4:=qaq ((n:Int) * 10+((z.toNat:Int)-48)) (by omega) (by omega);have b1:¬ ((z.toNat:Int)<48):=by omega
       have b2:¬ (57<(z.toNat:Int)):=by omega
       simp[g1',g1,g0,g2,b1,b2,e2,w1,w2,w3,w4];have c1:((z.toNat-48:Nat):Int)=(z.toNat:Int)-48:=by omega
       have hps:10 ^ (i+1)=10 ^ i * 10:=qGg ..;refine nx (i+1,n * 10+(z.toNat-48)) [] ⟨by simp only;omega,by simp only;omega,by simp only[g3];exact hd⟩ (by simp only;omega) (h4:=?_);simp[e2,w1,w2,w3,w4,c1]
theorem qkD (c:UInt8):∀ (s cur:List UInt8),0<(qaF c s cur).length
 | [],cur=>by simp[qaF]
 | x::r,cur=>by
  unfold qaF;split
  ·simp
  ·exact qkD c r _
theorem qbm (c:UInt8):∀ (s cur:List UInt8),∀ t∈qaF c s cur,t.length≤cur.length+s.length
 | [],cur,t,h=>by
  simp only[qaF,qF8]at h;subst h;simp
 | x::r,cur,t,h=>by
  unfold qaF at h;split at h
  ·rcases qE3.1 h with rfl | h
   ·simp
   ·have:=qbm c r [] t h;simp at this ⊢;omega
  ·have:=qbm c r _ t h;simp at this ⊢;omega
theorem qdj (c:UInt8):∀ (s cur:List UInt8),(qaF c s cur).length≤s.length+1
 | [],cur=>by simp[qaF]
 | x::r,cur=>by
  unfold qaF;split
  ·have:=qdj c r [];simp;omega
  ·have:=qdj c r (cur++[x]);simp;omega
theorem qfV (s:List UInt8):(qbf s).1.length≤s.length:=by
 unfold qbf;split
 ·simp
 ·split <;> simp
end Go.Av.F
end
