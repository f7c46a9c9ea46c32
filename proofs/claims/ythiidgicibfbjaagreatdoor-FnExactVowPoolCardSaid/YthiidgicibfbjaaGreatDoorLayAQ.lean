/- Lemmas for the proof, no statement of the seat; no conditions. -/
import Derived.Test.YthiidgicibfbjaaGreatDoorLayAP
set_option linter.unusedSimpArgs false
set_option linter.unusedVariables false
set_option linter.unnecessarySimpa false
set_option maxRecDepth 100000
set_option maxHeartbeats 400000
section
namespace Go.Av.F
open Go Go.Av Go.Proofs Go.Proofs.Tryz
structure CoT (c:CO):Prop where
 sets:c.sets.length≤1048576
 ddt:c.ddt.length≤1048576
 parts:c.parts.length≤1048576
 safe:c.safe.length≤1048576
 m8:∀ s∈c.sets,s.map.length=8
 nm:∀ s∈c.sets,s.name.length≤1048576∧s.frm.length≤1048576
def qak (c:CO):Bool:=decide (0≤c.txg) && decide (c.txg≤1000000) && qam c.ddt && decide (c.parts.length≤8) && qbw 12 c.safe && decide (0≤c.logn) && decide (c.logn≤8) &&
 c.sets.all qbp && c.parts.all qar && qa3 (c.sets.map csB) && qcO c && qct c
theorem qhl {s:CS} (h:qbp s=true):s.name.length≤6∧s.frm.length≤6:=by
 simp only[qbp,Bool.and_eq_true,qHy,qbR,decide_eq_true_eq,List.isEmpty_iff]at h;refine⟨h.1.1.1.1.2,?_⟩;rcases h.1.1.1.2 with h | h
 ·simp[h]
 ·exact h.2
theorem qvY {l:List CS} (h:∀ s∈l,qbp s=true):BkG (l.map csB):=by
 intro b hb;obtain⟨s,hs,rfl⟩:=qGt.1 hb;have:=qhl (h s hs);simp[csB];omega
theorem qw6 (bs:List BS) (hb:BkG bs) (hl:bs.length≤1048576):CV prog 161 [bk bs] (.bool (qa3 bs)):=qf0 (qwO bs hb (by omega)) (hca:=by simp[bk])
theorem qxV (bs:List BS) (hb:BkG bs) (hl:bs.length≤1048576):CV prog 181 [bk bs] (.bool (qa3 bs)):=qf0 (qxM bs hb (by omega)) (hca:=by simp[bk])
theorem qks (c:CO) (h:CoT c):CV prog 78 [.agg c.row] (.bool (qak c)):=by
 obtain⟨R,hR⟩:∃ R,qak c=R:=⟨_,rfl⟩;rw[hR];refine cvx func78 [] ntmps78 rfl rfl rfl ?_;simp
 repeat' first
  | (refine(qfQ c.ddt h.ddt).call ?_;simp)
  | (refine(qxm c.safe h.safe).call ?_;simp)
  | with_reducible intro _
  | with_reducible refine And.intro ?_ ?_
 all_goals try (grind[qak];done)
 have hrest:qak c=(c.sets.all qbp && (c.parts.all qar && (qa3 (c.sets.map csB) && qcO c && qct c))):=by grind[qak]
 rw[hrest]at hR;have hd:qam c.ddt=true:=by assumption
 have hpl:(c.parts.length:Int)≤8:=by assumption
 have hs1:=h.sets;refine qbe (X:=Nat) [1,3] [(1,1)] (fun i=>[(3,.int .i64 i)]) (fun _=>[]) (fun i=>c.sets.length-i) (fun i=>i≤c.sets.length∧(∀ s∈c.sets.take i,qbp s=true)∧((c.sets.drop i).all qbp && (c.parts.all qar && (qa3 (c.sets.map csB) && qcO c && qct c)))=R) 0 (by simpa using hR) ?_;rintro i ⟨hi,hok,ha⟩;cases hr:c.sets.drop i with
 | nil =>
  have:=qaY hr;rw[hr]at ha;have hie:i=c.sets.length:=by omega
  have hok':∀ s∈c.sets,qbp s=true:=by rw[qGh (by omega)]at hok;exact hok
  simp[hie];refine qbe (X:=Nat) [1,4] [(1,1)] (fun i=>[(4,.int .i64 i)]) (fun _=>[]) (fun i=>c.parts.length-i) (fun i=>i≤c.parts.length∧((c.parts.drop i).all qar && (qa3 (c.sets.map csB) && qcO c && qct c))=R) 0 (by simpa using ha) ?_;rintro j ⟨hj,hb⟩;cases hq:c.parts.drop j with
  | nil =>
   have:=qaY hq;rw[hq]at hb;have hje:j=c.parts.length:=by omega
   simp[hje];refine(qm9 c h.sets h.m8).call ?_;simp;refine(qw6 _ (qvY hok') (by simpa using h.sets)).call ?_;simp
   repeat' first
    | (refine(qyq c h.sets h.m8 hd).call ?_;simp)
    | (refine(qDs c h.sets (qja hd).1 h.m8).call ?_;simp)
    | with_reducible intro _
    | with_reducible refine And.intro ?_ ?_
   all_goals grind
  | cons x r =>
   obtain⟨h1,e0,e1,h3⟩:=qaZ hq;rw[hq]at hb;have e2:=qap ((j:Int)+1) (by omega) (by omega);simp[h1,e0,e1];refine(qdX x).call ?_;simp[h1,e0,e1,e2]
   repeat' first
    | with_reducible intro _
    | with_reducible refine And.intro ?_ ?_
   all_goals first
    | exact nx (j+1) [(1,1)] (by grind[qar])
    | grind[qar]
 | cons x r =>
  obtain⟨h1,e0,e1,h3⟩:=qaZ hr;have hxm:=qHT e1;have hrl:=qaC x (h.m8 x hxm);have ht:List.take 31 x.row=x.row:=qGh (by omega);rw[hr]at ha;have e2:=qap ((i:Int)+1) (by omega) (by omega);simp[h1,e0,e1,hrl,ht];refine(qz2 x (h.m8 x hxm) (h.nm x hxm).1 (h.nm x hxm).2).call ?_;simp[e2]
  repeat' first
   | with_reducible intro _
   | with_reducible refine And.intro ?_ ?_
  all_goals first
   | exact nx (i+1) [(1,1)] (by rw[qgH e1];grind)
   | grind
theorem qys (p:PT):CV prog 187 [.agg p.row] (.bool (!qar p)):=by
 refine cvx func187 [] ntmps187 rfl rfl rfl ?_;simp;refine(qpB p).call ?_;simp
theorem qyr (s:CS) (h8:s.map.length=8) (hn:s.name.length≤1048576) (hf:s.frm.length≤1048576):CV prog 189 [.agg s.row] (.bool (!qbp s)):=by
 have hl:=qaC s h8;have ht:List.take 31 s.row=s.row:=qGh (by omega);refine cvx func189 [] ntmps189 rfl rfl rfl ?_ (hca:=by simp[qa1]);simp[hl,ht];refine(qBe s h8 hn hf).call ?_;simp
def qoq (l:List DE) (p:PT):Bool:=decide (p.pa=0) || qde l p
def qcT (c:CO) (L:List PT) (e:DE):List AV:=[.int .i64 (ptN e.ea L)]
theorem qnd (a:Int) (L:List PT) (p:PT):ptN a (L++[p])=ptN a L+if p.pa=a then 1 else 0:=by
 simp[ptN,qIu,qIk]
theorem quz (c:CO) (L:List PT) (p:PT) (h:∀ e∈c.ddt,e.ea≠p.pa):c.ddt.map (qcT c (L++[p]))=c.ddt.map (qcT c L):=by
 refine qGD fun e he=>?_;have:=h e he;simp[qcT,qnd,qFL this]
theorem qyv (c:CO) (L:List PT) (p:PT) (hd:qam c.ddt=true) {k:Nat} {e:DE} (hk:c.ddt[k]?=some e) (he:e.ea=p.pa) :
  (c.ddt.map (qcT c L)).set k [.int .i64 ((ptN p.pa L:Int)+1)]=c.ddt.map (qcT c (L++[p])):=by
 simp only[qam,Bool.and_eq_true]at hd;have hup:=(qck hd.2).2;apply qIp;intro i;rw[qGZ,qGw,qGw];by_cases hi:k=i
 ·subst hi;obtain⟨hl,hk0⟩:=qGy.1 hk;simp[hl,hk0,qcT,qnd,he]
 ·rw[if_neg hi];cases hx:c.ddt[i]? with
  | none=>rfl
  | some x =>
   have:x.ea≠p.pa:=by
    rw[← he];rcases qGR hi with h | h
    ·have:=hup k i e x h hk hx;omega
    ·have:=hup i k x e h hx hk;omega
   simp[qcT,qnd,qFL this]
theorem qgx (s:CS) (h8:s.map.length=8):List.take 24 (List.drop 3 s.row)=s.map.flatMap PT.row:=by
 obtain⟨n,k,f,m,h,d⟩:=s;simp only at h8
 match m,h8 with
 | [p0,p1,p2,p3,p4,p5,p6,p7],_=>rfl
theorem qhb {l:List PT} {i:Nat} {p:PT} (h:l[i]?=some p):List.take 3 (List.drop (i * 3) (l.flatMap PT.row))=p.row:=by
 induction l generalizing i with
 | nil=>simp at h
 | cons a l ih =>
  cases i with
  | zero=>simp at h;subst h;simp
  | succ i =>
   rw[← ih (i:=i) (by simpa using h)];simp[show(i+1) * 3=i * 3+1+1+1 by omega]
@[simp] theorem qCn (ρ:Nat→Option Plc) (c:CO) (L:List PT):qb6 ρ ∘ qcT c L=qcT c L:=by
 funext e;simp[qcT]
theorem qyw (c:CO):c.ddt.map (qcT c [])=List.replicate c.ddt.length [.int .i64 0]:=by
 have:qcT c []=fun _=>[.int .i64 0]:=by funext e;simp[qcT,ptN]
 rw[this,List.map_const']
@[simp] theorem qCm (ρ:Nat→Option Plc) (l:List PT):qb6 ρ (l.flatMap PT.row)=l.flatMap PT.row:=renL_closed.renL_closedL ρ _ (qfc l)
theorem qqK {l:List PT} (h:l.length=8):(List.map (fun _=>3) l).sum=24:=by
 rw[List.map_const',h];rfl
theorem qym {s:CS} (h:qbp s=true) {p:PT} (hp:p∈s.map):qaL p=true∧0≤p.pa∧p.pa<120:=by
 simp only[qbp,Bool.and_eq_true,qGf]at h;have:=h.2 p hp;refine⟨this,?_⟩;unfold qaL at this;split at this
 ·omega
 ·simp at this;omega
theorem qww {l:List DE} {q:Int} (h:qgv q l=true) (hq:0≤q) (L:List PT) (hL:∀ p∈L,0≤p.pa∧(0<p.pa→∃ e∈l,e.ea=p.pa)):((l.map fun e=>ptN e.ea L).sum)=nnN L:=by
 induction L with
 | nil =>
  clear h hL
  induction l with
  | nil=>rfl
  | cons e l ih=>simpa [ptN,nnN]using ih
 | cons p L ih =>
  have ih':=ih fun p hp=>hL p (qHl _ hp);obtain⟨hp0,hpe⟩:=hL p (by simp);have key:∀ (l:List DE) (q:Int),0≤q→qgv q l=true→(l.map fun e=>(if p.pa=e.ea then 1 else 0)).sum=if ∃ e∈l,e.ea=p.pa then 1 else 0:=by
   intro l
   induction l with
   | nil=>intro q _ _;simp
   | cons e l ihl =>
    intro q hq h;have hup:=qck h;simp only[qgv,Bool.and_eq_true,decide_eq_true_eq]at h;have h2:=ihl e.ea (by omega) h.2;simp only[qGs,qIv,h2];by_cases he:p.pa=e.ea
    ·have:¬ ∃ x∈l,x.ea=p.pa:=by
      rintro⟨x,hx,hxe⟩;have:=((qck h.2).1 x hx).1;omega
     simp[he]at this ⊢;exact this
    ·have:e.ea≠p.pa:=fun h=>he h.symm;simp[he,this]
  have hk:=key l q hq h;have hadd:∀ (l:List DE),(l.map fun e=>ptN e.ea (p::L)).sum=(l.map fun e=>(if p.pa=e.ea then 1 else 0)).sum+(l.map fun e=>ptN e.ea L).sum:=by
   intro l
   induction l with
   | nil=>rfl
   | cons e l ih=>simp only[qGs,qIv];rw[ih,qos];omega
  rw[hadd,hk,ih',qoC]
  congr 1
  by_cases h0:0<p.pa
  ·rw[if_pos (hpe h0),if_pos h0]
  ·rw[if_neg,if_neg h0];rintro⟨e,he,hee⟩;have:=((qck h).1 e he).1;omega
theorem qtg {l:List DE} {L:List PT} (h:∀ e∈l,(ptN e.ea L:Int)=e.ec):qcd l=((l.map fun e=>ptN e.ea L).sum:Nat):=by
 induction l with
 | nil=>rfl
 | cons e l ih =>
  have h1:=h e (by simp);have h2:=ih fun e he=>h e (qHl _ he);simp only[qcd,qGs,qIv,h2];omega
theorem qtE {l:List DE} {q:Int} (h:qgv q l=true) (hq:0≤q) (L:List CS) {e:DE} (he:e∈l):qeK e.ea L=ptN e.ea (qaF L):=by
 have:=((qck h).1 e he).1;unfold qeK;rw[if_pos (by omega)]
theorem qBW (c:CO) (h:CoT c) (hd:qam c.ddt=true) (hs:∀ s∈c.sets,qbp s=true) :
  (qcO c && qct c)=((qaF c.sets).all (qoq c.ddt) && c.ddt.all fun e=>decide ((ptN e.ea (qaF c.sets):Int)=e.ec)):=by
 have hd2:=hd;simp only[qam,Bool.and_eq_true,decide_eq_true_eq]at hd2;have hpa:∀ p∈qaF c.sets,0≤p.pa:=fun p hp=>by
  obtain⟨s,hs1,hs2⟩:=qIo.1 hp;exact(qym (hs s hs1) hs2).2.1
 have e1:(qaF c.sets).all (qoq c.ddt)=qct c:=by
  unfold qct;rw[qIj,qGf,qGf];refine forall_congr' fun p=>forall_congr' fun hp=>?_;have:=hpa p hp;simp only[qoq,qHy,decide_eq_true_eq];constructor
  ·rintro(h | h)
   ·simp[qde,h]
   ·exact h
  ·exact .inr
 have e2:(c.ddt.all fun e=>decide ((qeK e.ea c.sets:Int)=e.ec))=(c.ddt.all fun e=>decide ((ptN e.ea (qaF c.sets):Int)=e.ec)):=by
  rw[qIj,qGf,qGf];refine forall_congr' fun e=>forall_congr' fun he=>?_;rw[qtE hd2.2 (by omega) _ he]
 rw[e1];unfold qcO;rw[e2];cases h1:qct c with
 | false=>simp
 | true =>
  cases h2:(c.ddt.all fun e=>decide ((ptN e.ea (qaF c.sets):Int)=e.ec))with
  | false=>simp
  | true =>
   have hL:∀ p∈qaF c.sets,0≤p.pa∧(0<p.pa→∃ e∈c.ddt,e.ea=p.pa):=fun p hp=>by
    refine⟨hpa p hp,fun h0=>?_⟩;have:=qGf.1 h1 p hp;simp only[qde,qHy,decide_eq_true_eq,Bool.and_eq_true]at this;rcases this with h | h
    ·omega
    ·obtain⟨e,he,hea⟩:=qcN h.1;exact⟨e,qHT he,hea⟩
   have h3:=qww hd2.2 (by omega) _ hL;have h4:=qtg (l:=c.ddt) (L:=qaF c.sets) fun e he=>by simpa using qGf.1 h2 e he
   simp[h4,h3,nnS]
theorem qsG (c:CO) (h:CoT c) (hd:qam c.ddt=true) (hs:∀ s∈c.sets,qbp s=true):CV prog 191 [.agg c.row] (.bool (qcO c && qct c)):=by
 have hdd:=qja hd;have hdl:=hdd.1;have hs1:=h.sets;obtain⟨F,hF⟩:∃ F,(c.ddt.all fun e=>decide ((ptN e.ea (qaF c.sets):Int)=e.ec))=F:=⟨_,rfl⟩;obtain⟨R,hR⟩:∃ R,((qaF c.sets).all (qoq c.ddt) && F)=R:=⟨_,rfl⟩;have hfin:(qcO c && qct c)=R:=by
  rw[← hR,← hF];exact qBW c h hd hs
 rw[hfin];refine cvx func191 [(10,[zI 0,zI 1,zI 2,zI 3,zJ 4 [1] [],zJ 5 [] [1],zI 6,zI 7,zI 8,zJ 9 [] [1],zJ 10 [7] [1],zI 11,zI 12]),(18,[zI 0,zJ 1 [11] [],zJ 2 [] [11],zJ 3 [] [11],zJ 4 [15] [11],zJ 5 [15] [11],zI 6])] ntmps191 rfl rfl rfl ?_;simp;refine⟨by omega,?_⟩;refine qaM (X:=Nat) [1,3,17,18,19] [(1,1),(15,15)] (fun i=>[(19,.int .i64 i)]) (fun i=>[(1,⟨7,[c.row]⟩),(15,⟨1,c.ddt.map (qcT c (qaF (c.sets.take i)))⟩)]) (fun i=>c.sets.length-i)
  (fun i=>i≤c.sets.length∧((qaF (c.sets.drop i)).all (qoq c.ddt) && F)=R) 0 (by simpa using hR) ?_ (he:=by simp[qaF,qyw])
 rintro i ⟨hi,ha⟩;cases hr:c.sets.drop i with
 | nil =>
  have:=qaY hr;rw[hr]at ha;have hie:i=c.sets.length:=by omega
  have ha':F=R:=by simpa [qaF]using ha
  simp[hie];refine qbe (X:=Nat) [3,61,62,63] [(15,15)] (fun i=>[(63,.int .i64 i)]) (fun _=>[]) (fun i=>c.ddt.length-i) (fun i=>i≤c.ddt.length∧((c.ddt.drop i).all fun e=>decide ((ptN e.ea (qaF c.sets):Int)=e.ec))=R) 0 (by simp;rw[← ha',← hF]) ?_;rintro j ⟨hj,hb⟩;cases hq:c.ddt.drop j with
  | nil =>
   have:=qaY hq;rw[hq]at hb;have hje:j=c.ddt.length:=by omega
   simp[hje];grind
  | cons e r =>
   obtain⟨h1,e0,e1,h3⟩:=qaZ hq;rw[hq]at hb;have e2:=qap ((j:Int)+1) (by omega) (by omega);simp[h1,e0,e1,e2,qcT]
   repeat' first
    | with_reducible intro _
    | with_reducible refine And.intro ?_ ?_
   all_goals first
    | exact nx (j+1) [(15,15)] (by grind)
    | grind
 | cons x r =>
  obtain⟨h1,e0,e1,h3⟩:=qaZ hr;have hxm:=qHT e1;have hx8:=h.m8 x hxm;have hrl:=qaC x hx8;have ht:List.take 31 x.row=x.row:=qGh (by omega);have hm24:=qgx x hx8;rw[hr]at ha;have ha':(x.map.all (qoq c.ddt) && ((qaF r).all (qoq c.ddt) && F))=R:=by rw[← ha];simp[qaF,qF6]
  have e2:=qap ((i:Int)+1) (by omega) (by omega);simp[h1,e0,e1,hrl,ht,hm24];refine⟨qiL x,?_⟩;refine qaM (X:=Nat) [1,3,17,18,19,24,25] [(1,1),(15,15)] (fun j=>[(25,.int .i64 j)]) (fun j=>[(1,⟨7,[c.row]⟩),(15,⟨1,c.ddt.map (qcT c (qaF (c.sets.take i)++x.map.take j))⟩)]) (fun j=>8-j)
   (fun j=>j≤8∧((x.map.drop j).all (qoq c.ddt) && ((qaF r).all (qoq c.ddt) && F))=R) 0 (by simpa using ha') ?_
  rintro j ⟨hj,hb⟩;by_cases h2:j<8
  ·obtain⟨p,f1⟩:∃ p,x.map[j]?=some p:=⟨_,qF3 (by omega)⟩;rw[qfI f1]at hb;have e3:=qap ((j:Int)+1) (by omega) (by omega);have h2':(j:Int)<8:=by omega
   have hfa:=qhb f1;obtain⟨hpo,hp0,hp1⟩:=qym (hs x hxm) (qHT f1);simp[h2',hfa,qqK hx8];refine⟨by omega,fun hz=>?_,fun hz=>?_⟩
   ·have hne:∀ e∈c.ddt,e.ea≠p.pa:=fun e he=>by
     simp only[qam,Bool.and_eq_true]at hd;have:=((qck hd.2).1 e he).1;omega
    exact nx (j+1) [(1,1),(15,15)] ⟨by omega,by simpa [qoq,hz]using hb⟩ (h4:=by simp[e3,qgH f1,← List.append_assoc,quz _ _ _ hne])
   ·refine(qgw c.ddt p.pa hd (by omega)).call ?_;cases hT:ddT c.ddt p.pa with
    | false =>
     have:qoq c.ddt p=false:=by simp[qoq,qde,hT,hz];omega
     simp;grind
    | true =>
     obtain⟨e,he,hea⟩:=qcN hT;obtain⟨hk,hk0⟩:=qGy.1 he;have hps:qoq c.ddt p=(e.es == p.ps):=by simp[qoq,qde,hT,he,hz];intro;omega
     have hcl:=qvi p.pa (qaF (c.sets.take i)++x.map.take j);have hpl:=qkz (c.sets.take i) (fun s hs=>h.m8 s (qHP hs));simp only[qHe,qFT]at hcl hpl;have e4:=qap ((ptN p.pa (qaF (c.sets.take i)++x.map.take j):Int)+1) (by omega) (by omega);have hcr:qcT c (qaF (c.sets.take i)++x.map.take j) e=[.int .i64 (ptN p.pa (qaF (c.sets.take i)++x.map.take j))]:=by simp[qcT,hea]
     simp[hk,hk0,he,hcr,e4];exact⟨fun _=>by grind,fun _=>nx (j+1) [(1,1),(15,15)] ⟨by omega,by grind⟩ (h4:=by simp[e3,qgH f1,← List.append_assoc,← qyv c _ p hd he hea])⟩
  ·have:j=8:=by omega
   subst this;simp[e2];simp[← hx8]at hb;refine nx (i+1) [(1,1),(15,15)] ⟨by omega,by rw[h3];grind⟩ (h4:=?_);have:qaF (c.sets.take (i+1))=qaF (c.sets.take i)++x.map.take 8:=by
    rw[qgH e1,qGh (l:=x.map) (by omega)];simp[qaF]
   simp[this]
theorem qgZ (c:CO) (h:CoT c):CV prog 90 [.agg c.row] (.bool (qak c)):=by
  obtain⟨R,hR⟩:∃ R,qak c=R:=⟨_,rfl⟩;rw[hR];have hany:(c.parts.any fun p=>!qar p)=!(c.parts.all qar):=by rw[qId]
  have hany2:(c.sets.any fun p=>!qbp p)=!(c.sets.all qbp):=by rw[qId]
  refine cvx func90 [] ntmps90 rfl rfl rfl ?_;simp
  repeat' first
    | (refine(qcI ..).call ?_;simp)
    | (refine(qkR c.ddt h.ddt).call ?_;simp)
    | (refine(qvS (fun p=>!qar p) _ c.parts (by omega) (fun x _=>qys x)).call ?_;simp)
    | with_reducible intro _
    | with_reducible refine And.intro ?_ ?_
  all_goals try (grind[qak,wiB];done)
  have hd:qam c.ddt=true:=by assumption
  have hsl:=h.safe;have hs1:=h.sets;have hrest:qak c=(qbw 12 c.safe && (c.sets.all qbp && (qa3 (c.sets.map csB) && (qcO c && qct c)))):=by grind[qak,wiB]
  rw[hrest]at hR;obtain⟨T,hT⟩:∃ T,(c.sets.all qbp && (qa3 (c.sets.map csB) && (qcO c && qct c)))=T:=⟨_,rfl⟩;rw[hT]at hR;refine qbe (X:=Nat×Int) [1,33,34,35] [(1,1)] (fun x=>[(35,.int .i64 x.1)]) (fun _=>[]) (fun x=>c.safe.length-x.1)
     (fun x=>x.1≤c.safe.length∧(x.1=0→x.2=12)∧(∀ k,x.1=k+1→c.safe[k]?=some x.2)∧(qbw x.2 (c.safe.drop x.1) && T)=R) (0,12) (by simp[hR]) ?_
  rintro⟨i,q⟩ ⟨hi,h0,hp,hdd⟩;simp only at hi h0 hp hdd;cases hr:c.safe.drop i with
  | nil =>
    have:=qaY hr;rw[hr]at hdd;have hie:i=c.safe.length:=by omega
    have hTR:T=R:=by simpa [qbw]using hdd
    rw[hTR]at hT;simp[hie];refine(qBR (fun s=>!qbp s) _ c.sets (by omega) h.m8 (fun x hx=>qyr x (h.m8 x hx) (h.nm x hx).1 (h.nm x hx).2)).call ?_;rw[hany2];cases hall:c.sets.all qbp with
    | false =>
      simp;grind
    | true =>
      have hok:∀ s∈c.sets,qbp s=true:=qGf.1 hall;simp;refine(qBu c h.sets h.m8).call ?_;simp;refine(qxV _ (qvY hok) (by simpa using h.sets)).call ?_;simp
      repeat' first
        | (refine(qsG c h hd hok).call ?_;simp)
        | with_reducible intro _
        | with_reducible refine And.intro ?_ ?_
      all_goals grind
  | cons x r =>
    obtain⟨h1,e0,e1,h3⟩:=qaZ hr;rw[hr]at hdd;have e2:=qap ((i:Int)+1) (by omega) (by omega);by_cases hz:i=0
    · subst hz
      simp[h1,e0,e1];refine(qcI ..).call ?_;simp
      repeat' first
        | with_reducible intro _
        | with_reducible refine And.intro ?_ ?_
      all_goals first
        | exact nx (1,x) [(1,1)] (by grind[qbw,wiB])
        | grind[qbw,wiB]
    · obtain⟨k,hk⟩:∃ k,i=k+1:=⟨i-1,by omega⟩
      have f1:=hp k hk;have h1':k<c.safe.length:=by omega
      have f0:c.safe[k]=q:=by grind
      have e3:(i:Int)-1=k:=by omega
      have e4:=qap (k:Int) (by omega) (by omega);have hpos:0<i:=by omega
      simp[h1,e0,e1];refine(qcI ..).call ?_;simp[h1,e0,h1',f0,e2,e3,e4,hpos]
      repeat' first
        | with_reducible intro _
        | with_reducible refine And.intro ?_ ?_
      all_goals first
        | exact nx (i+1,x) [(1,1)] (by grind[qbw,wiB])
        | grind[qbw,wiB]
theorem qA5 {α:Type} {row:α→List AV} {tS tE sz g:Nat} {o:Ob} (hT:RowT row tS tE sz) (p:α→Bool) (l:List α) (hl:l.length≤9000000) (hs:∀ x∈l,(row x).length=sz) (ho:clR o.els=true)
  (hg:∀ x∈l,CW prog g [.agg (row x),.ptr 1000 0 0] o (.bool (p x))) :
  ev prog ⟨19,[1000]⟩ (ixA tS tE) (qof prog [.tmp 4] (fun r L'=>r=.int .i64 (ixR p 0 l)∧L'=[(1000,o)])) ⟨qsT [.lst sz (l.map row),.fn g [.ptr 1000 0 0]],qaQ [(1000,o)],Us.of [1000]⟩:=by
 obtain⟨fs,b,z,hE⟩:=hT.E;have hS:=hT.S;have hro:∀ ρ,qbH ρ o=o:=fun ρ=>qog ho;obtain⟨R,hR⟩:∃ R,ixR p 0 l=R:=⟨_,rfl⟩;rw[hR];simp[ixA,hS,hE];refine qbe (X:=Nat) [0,1,7,8] [(1000,1000)] (fun i=>[(8,.int .i64 i)]) (fun _=>[]) (fun i=>l.length-i) (fun i=>i≤l.length∧ixR p i (l.drop i)=R) 0 (by simp[hR]) ?_ (he:=by simp[hro]);rintro i ⟨hi,hd⟩;cases hr:l.drop i with
 | nil =>
  have:=qaY hr;rw[hr]at hd;have hie:i=l.length:=by omega
  simp[hie,hro];grind[ixR]
 | cons x r =>
  obtain⟨h1,e0,e1,h3⟩:=qaZ hr;rw[hr]at hd;have hx:=qHT e1;have e2:=qap ((i:Int)+1) (by omega) (by omega);have hrl:=hs x hx;have ht:(row x).take sz=row x:=qGh (by omega);simp[hS,hE,h1,e0,e1,hrl,ht,hro];refine(hg x hx).call 1000 (by simp) (by simp[qhz _ (hT.cl x)]) ?_;simp[e2];exact⟨fun hp=>by grind[ixR],fun hp=>nx (i+1) [(1000,1000)] (by grind[ixR]) (h4:=by simp[hro])⟩
theorem qoL {α:Type} (p:α→Bool):∀ (l:List α) (i:Nat),(∃ k x,ixR p i l=((i+k:Nat):Int)∧l[k]?=some x∧l.find? p=some x)∨(ixR p i l=-1∧l.find? p=none)
 | [],i=>.inr ⟨rfl,rfl⟩
 | x::r,i=>by
  cases h:p x with
  | true=>exact .inl ⟨0,x,by simp[ixR,h],rfl,by simp[h]⟩
  | false =>
   rcases qoL p r (i+1)with⟨k,y,h1,h2,h3⟩ | ⟨h1,h2⟩
   ·exact .inl ⟨k+1,y,by simp[ixR,h,h1];omega,by simpa using h2,by simp[h,h3]⟩
   ·exact .inr ⟨by simp[ixR,h,h1],by simp[h,h2]⟩
theorem qBw {l:List CS} (name:List UInt8) (hS:Srt (l.map csB)):(atB (l.map csB) name=true→l[atP (l.map csB) name]?=l.find? (fun s=>s.name == name)∧(l.find? (fun s=>s.name == name)).isSome=true)∧(atB (l.map csB) name=false→l.find? (fun s=>s.name == name)=none):=by
 have hne:∀ (i j:Nat) (a b:CS),i<j→l[i]?=some a→l[j]?=some b→Op.bytesLess a.name b.name=true:=fun i j a b hij ha hb =>
  hS i j (csB a) (csB b) hij (by simp[ha]) (by simp[hb])
 have hirr:∀ a:List UInt8,Op.bytesLess a a=false:=fun a=>by rw[Go.Proofs.bytesLess_eq];simp
 have hun:∀ (i j:Nat) (a b:CS),l[i]?=some a→l[j]?=some b→a.name=b.name→i=j:=fun i j a b ha hb he=>by
  rcases qGW i j with h | h | h
  ·have:=hne i j a b h ha hb;rw[he,hirr]at this;cases this
  ·exact h
  ·have:=hne j i b a h hb ha;rw[he,hirr]at this;cases this
 refine⟨fun h=>?_,fun h=>?_⟩
 ·obtain⟨t,ht,htn⟩:=qda h;rw[qGw,qHE]at ht;obtain⟨s,hs,rfl⟩:=ht;rcases qoL (fun s:CS=>s.name == name) l 0 with⟨k,x,_,h2,h3⟩ | ⟨_,h2⟩
  ·have hxn:x.name=name:=by simpa using List.find?_some h3
   have:=hun _ _ s x hs h2 (by rw[hxn];exact htn);subst this;rw[hs]at h2;rw[hs,h3,h2];exact⟨rfl,rfl⟩
  ·have:=qIw.1 h2 s (qHT hs);simp at this;exact absurd htn this
 ·rw[qIw];intro x hx hxn;have hxn':x.name=name:=by simpa using hxn
  obtain⟨k,hk,rfl⟩:=qHY.1 hx;have hk':l[k]?=some l[k]:=qF3 hk;have hp:atP (l.map csB) name=k:=(qcs (fun b:BS=>Op.bytesLess b.name name) (l.map csB) k (csB l[k]) (fun j hj y hy=>by
   rw[qGw,qHE]at hy;obtain⟨z,hz,rfl⟩:=hy;have:=hne j k z l[k] hj hz hk';rw[hxn']at this;exact this) (by simp[hk'])).2 (by show Op.bytesLess l[k].name name=false;rw[hxn',hirr])
  unfold atB at h;rw[hp]at h;simp[hk',csB,hxn']at h
theorem qjd {c:CO} (h:qak c=true):qa3 (c.sets.map csB)=true:=by
 simp only[qak,Bool.and_eq_true]at h;exact h.1.1.2
theorem qo9 {c:CO} (h:qak c=true):Srt (c.sets.map csB):=qhB (by rw[qtO];exact qjd h)
theorem qpa {c:CO} (h:qak c=true):qam c.ddt=true:=by
 simp only[qak,Bool.and_eq_true]at h;exact h.1.1.1.1.1.1.1.1.1.2
def qET (k:Nat) (out:List UInt8):List UInt8:=if h:k=0 then out else qET (k / 10) (UInt8.ofNat (48+k % 10)::out)
termination_by k
def mtB (k:Nat):List UInt8:=if k=0 then [109,48] else 109::qET k []
attribute [simp] qif
def qmV:List (List UInt8)→Int→Int
 | [],l=>l
 | t::r,l=>if l-t.length<0 then -1 else qmV r (l-t.length)
theorem qqH:∀ (ts:List (List UInt8)) (l:Int),0≤l→qmV ts l≤l∧-1≤qmV ts l∧(0≤qmV ts l→∀ t∈ts,(t.length:Int)≤l)
 | [],l,h=>by simp[qmV];omega
 | t::r,l,h=>by
  unfold qmV;split
  ·refine⟨by omega,by omega,fun h'=>by omega⟩
  ·obtain⟨h1,h2,h3⟩:=qqH r (l-t.length) (by omega);refine⟨by omega,h2,fun h' t' ht=>?_⟩;rcases qHq.1 ht with rfl | ht
   ·omega
   ·have:=h3 h' t' ht;omega
def BkS (bs:List BS):Prop:=bs.length≤1048576∧∀ b∈bs,b.bl.length=8∧b.name.length≤1048576∧b.frm.length≤1048576
def opS (o:BO):Prop:=o.a.length≤1048576∧o.b.length≤1048576
theorem qtI {id sz:Nat} {z:AV}:phs id sz (.tup [.agg [.nils],z]) (.tup [.agg [.sl id 0 0],z]):=qtH qtK (qtJ _ _ _)
theorem qoB (b:BS):noL b.row=true:=by simp[BS.row,qkF]
theorem qEW (bs:List BS) (o:BO) (h:BkS bs) (ho:opS o):ACall prog 107 [bk bs,.agg (BO.row o)] [] (fun r L'=>r=.tup [.agg [.sl 903 0 (qls bs o).1.length],.int .i64 (qls bs o).2]∧L'=[(903,qba (qls bs o).1)]):=by
 have hc:=qtO bs ▸ qt1 bs o (by have:=h.1;omega) (fun b hb=>(h.2 b hb).1) (fun b hb=>by have:=(h.2 b hb).2.1;omega) ⟨by have:=ho.1;omega,by have:=ho.2;omega⟩;refine ACall.ph 903 11 hc (by simp) ?_;intro r L' hr;unfold bkN at hr;unfold qls;split at hr
 ·rename_i hk;obtain⟨id,hid,rfl,rfl⟩:=hr;simp only[qIx]at hid;subst hid;exact .inl (by rw[if_pos hk];exact⟨rfl,rfl⟩)
 ·rename_i hk;obtain⟨rfl,rfl⟩:=hr;exact .inr ⟨by simp,by simp,_,qtI,by rw[if_neg hk];exact⟨rfl,rfl⟩⟩
theorem qD5 (bs:List BS) (o:BO) (h:BkS bs) (ho:opS o):CV prog 107 [bk bs,.agg (BO.row o)] (.tup [bk (qls bs o).1,.int .i64 (qls bs o).2]):=by
 refine CV.of_frz (qEW bs o h ho) ?_ (hca:=by simp[bk,BO.row]) (hcv:=by simp[bk]);rintro r L' ⟨rfl,rfl⟩;refine⟨by simp,by simp,by simp,?_⟩;simp[qa7,bk,qba];exact qaE _
theorem qDu (bs:List BS) (o:BO) (h:BkS bs) (ho:opS o):CV prog 137 [bk bs,.agg (BO.row o)] (.tup [bk (qls bs o).1,.int .i64 (qls bs o).2]) :=
 qf0 (qDL (xs:=[901,902]) (qtt bs o (by have:=h.1;omega) (fun b hb=>(h.2 b hb).1) (fun b hb=>by have:=(h.2 b hb).2.1;omega) ⟨by have:=ho.1;omega,by have:=ho.2;omega⟩)) (hca:=by simp[bk,BO.row]) (hcv:=by simp[bk])
structure BK where
 sets:List BS
def BK.row (b:BK):List AV:=[.lst 11 (b.sets.map BS.row)]
theorem qwy {n:Nat} {avs:List AV} (h:Shp prog (n+1) 9 avs):∃ s:List UInt8,s.length≤maxLen∧avs=[.str s]:=qfg underlying9 h
def qa8 (c:UInt8):List UInt8→Int→Int
 | [],_=>-1
 | x::r,i=>if x=c then i else qa8 c r (i+1)
theorem qx7 (s:List UInt8) (c:UInt8) (hs:s.length≤maxLen):CV prog 241 [.str s,.int .u8 (c.toNat:Int)] (.int .i64 (qa8 c s 0)):=by
 obtain⟨R,hR⟩:∃ R,qa8 c s 0=R:=⟨_,rfl⟩;rw[hR];have hml:maxLen=9223372036854775807:=rfl;refine cvx func241 [] ntmps241 rfl rfl rfl ?_;simp;refine qbe (X:=Nat) [0,1,5] [] (fun x=>[(5,.int .i64 x)]) (fun _=>[]) (fun x=>s.length-x) (fun x=>x≤s.length∧qa8 c (s.drop x) x=R) 0 (by simp[hR]) ?_;rintro i ⟨hi,hd⟩;cases hr:s.drop i with
 | nil =>
  have:=qaY hr;rw[hr]at hd;have hie:i=s.length:=by omega
  simp[qa8]at hd;simp[hie,hd]
 | cons x r =>
  obtain⟨h1,e0,e1,h3⟩:=qaZ hr;rw[hr,qa8]at hd;have e2:=qap ((i:Int)+1) (by omega) (by omega);by_cases hxc:x=c
  ·subst hxc;rw[if_pos rfl]at hd;simp[h1,e0,e1,e2];exact hd
  ·rw[if_neg hxc]at hd;have e3:¬ ((x.toNat:Int)=c.toNat):=fun h=>hxc (qIb.1 (by omega));simp[h1,e0,e1,e2,e3];exact nx (i+1) [] (by simp only[h3];exact⟨by omega,by simpa using hd⟩) (h4:=by simp[e2])
def qjB:List UInt8→Nat→Nat
 | [],n=>n
 | x::r,n=>qjB r ((n * 257+x.toNat+1) % 65521)
theorem qzS (s:List UInt8) (hs:s.length≤maxLen):CV prog 170 [.str s] (.int .i64 (qjB s (1+s.length % 997):Nat)):=by
 obtain⟨R,hR⟩:∃ R,qjB s (1+s.length % 997)=R:=⟨_,rfl⟩;rw[hR];have hml:maxLen=9223372036854775807:=rfl;have t1:(s.length:Int).tmod 997=(s.length:Int) % 997:=qIy (by omega);have w1:=qap (1+(s.length:Int) % 997) (by omega) (by omega);refine cvx func170 [] ntmps170 rfl rfl rfl ?_;simp[t1,w1];refine qbe (X:=Nat×Nat) [0,3,4] [] (fun x=>[(4,.int .i64 x.1),(3,.int .i64 x.2)]) (fun _=>[]) (fun x=>s.length-x.1) (fun x=>x.1≤s.length∧x.2<65521∧qjB (s.drop x.1) x.2=R) (0,1+s.length % 997) (by simp[hR];omega) ?_;rintro⟨i,n⟩ ⟨hi,hn,hd⟩;simp only at hi hn hd;cases hr:s.drop i with
 | nil =>
  have:=qaY hr;rw[hr]at hd;have hie:i=s.length:=by omega
  simp[qjB]at hd;simp[hie,hd]
 | cons x r =>
  obtain⟨h1,e0,e1,h3⟩:=qaZ hr;rw[hr,qjB]at hd;have e2:=qap ((i:Int)+1) (by omega) (by omega);have hx:=x.toNat_lt;have w2:=qap ((n:Int) * 257) (by omega) (by omega);have w3:=qap ((n:Int) * 257+x.toNat) (by omega) (by omega);have w4:=qap ((n:Int) * 257+x.toNat+1) (by omega) (by omega);have w6:=qap (x.toNat:Int) (by omega) (by omega);have t2:((n:Int) * 257+x.toNat+1).tmod 65521=((n:Int) * 257+x.toNat+1) % 65521:=qIy (by omega);have w5:=qap (((n:Int) * 257+x.toNat+1) % 65521) (by omega) (by omega);simp[h1,e0,e1,e2,w2,w3,w4,w5,w6,t2];exact nx (i+1,(n * 257+x.toNat+1) % 65521) [] (by simp only[h3];exact⟨by omega,by omega,hd⟩) (by simp only;omega) (h4:=by simp[e2,w2,w3,w4,w5,w6,t2])
theorem qtV (s:List UInt8) (hs:s.length≤maxLen):CV prog 201 [.str s] (.int .i64 (qjB s (1+s.length % 997):Nat)):=by
 obtain⟨R,hR⟩:∃ R,qjB s (1+s.length % 997)=R:=⟨_,rfl⟩;rw[hR];have hml:maxLen=9223372036854775807:=rfl;have t1:(s.length:Int).tmod 997=(s.length:Int) % 997:=qIy (by omega);have w1:=qap (1+(s.length:Int) % 997) (by omega) (by omega);refine cvx func201 [] ntmps201 rfl rfl rfl ?_;simp[t1,w1];refine qbe (X:=Nat×Nat) [0,3,10,11] [] (fun x=>[(11,.int .i64 x.1),(3,.int .i64 x.2)]) (fun _=>[]) (fun x=>s.length-x.1) (fun x=>x.1≤s.length∧x.2<65521∧qjB (s.drop x.1) x.2=R) (0,1+s.length % 997) (by simp[hR];omega) ?_;rintro⟨i,n⟩ ⟨hi,hn,hd⟩;simp only at hi hn hd;cases hr:s.drop i with
 | nil =>
  have:=qaY hr;rw[hr]at hd;have hie:i=s.length:=by omega
  simp[qjB]at hd;simp[hie,hd]
 | cons x r =>
  obtain⟨h1,e0,e1,h3⟩:=qaZ hr;rw[hr,qjB]at hd;have e2:=qap ((i:Int)+1) (by omega) (by omega);have hx:=x.toNat_lt;have w2:=qap (257 * (n:Int)) (by omega) (by omega);have w3:=qap (257 * (n:Int)+x.toNat) (by omega) (by omega);have w4:=qap (257 * (n:Int)+x.toNat+1) (by omega) (by omega);have w6:=qap (x.toNat:Int) (by omega) (by omega);have t2:(257 * (n:Int)+x.toNat+1).tmod 65521=(257 * (n:Int)+x.toNat+1) % 65521:=qIy (by omega);have w5:=qap ((257 * (n:Int)+x.toNat+1) % 65521) (by omega) (by omega);simp[h1,e0,e1,e2,w2,w3,w4,w5,w6,t2];rw[qGS]at hd;exact nx (i+1,(257 * n+x.toNat+1) % 65521) [] (by simp only[h3];exact⟨by omega,by omega,hd⟩) (by simp only;omega) (h4:=by simp[e2,w2,w3,w4,w5,w6,t2])
def qnF (k:Nat) (out:List UInt8):List UInt8:=if h:k≤9 then UInt8.ofNat (48+k)::out else qnF (k / 10) (UInt8.ofNat (48+k % 10)::out)
termination_by k
theorem qzY (k:Nat) (hk:k<1000000000):CV prog 244 [.int .i64 k] (.str (qnF k [])):=by
 obtain⟨R,hR⟩:∃ R,qnF k []=R:=⟨_,rfl⟩;rw[hR];refine cvx func244 [] ntmps244 rfl rfl rfl ?_;have h0:¬ (k:Int) < -9223372036854775807:=by omega
 have h1:¬ (k:Int)<0:=by omega
 simp[h0,h1];refine qbe (X:=Nat×List UInt8) [0,3] [] (fun x=>[(0,.int .i64 x.1),(3,.str x.2)]) (fun _=>[]) (fun x=>x.1) (fun x=>x.2.length+x.1≤k∧qnF x.1 x.2=R) (k,[]) (by simp[hR]) ?_;rintro⟨j,out⟩ ⟨hj,hm⟩;simp only at hj hm;rw[qnF]at hm;by_cases hz:j≤9
 ·rw[dif_pos hz]at hm;have h2:¬ (9:Int)<j:=by omega
  have e1:=qap (48+(j:Int)) (by omega) (by omega);have e2:qj7 [.int .u8 (IntKind.u8.wrap (48+(j:Int)))]=UInt8.ofNat (48+j):=by
   have:IntKind.u8.wrap (48+(j:Int))=((48+j:Nat):Int):=by
    show(48+(j:Int)) % 256=_;omega
   rw[this];rfl
  simp[h2,e1];refine⟨qmb _,by omega,?_⟩;rw[← hm,e2]
 ·rw[dif_neg hz]at hm;have h2:(9:Int)<j:=by omega
  have e1:=qap (48+(j:Int) % 10) (by omega) (by omega);have e3:=qap ((j:Int) / 10) (by omega) (by omega);have e2:qj7 [.int .u8 (IntKind.u8.wrap (48+(j:Int) % 10))]=UInt8.ofNat (48+j % 10):=by
   have:IntKind.u8.wrap (48+(j:Int) % 10)=((48+j % 10:Nat):Int):=by
    show(48+(j:Int) % 10) % 256=_;omega
   rw[this];rfl
  have t1:(j:Int).tmod 10=(j:Int) % 10:=qIy (by omega);have t2:(j:Int).tdiv 10=(j:Int) / 10:=qIz (by omega);simp[h2,t1,t2,e1,e3];refine⟨qmb _,by omega,?_⟩;refine nx (j / 10,UInt8.ofNat (48+j % 10)::out) [] ?_ ?_ (h4:=?_)
  ·refine⟨?_,hm⟩;simp only[qGk];omega
  ·simp only;omega
  ·simp[t1,t2,e1,e2,e3]
theorem qk9 (k:Nat) (out:List UInt8):(qnF k out).length≤out.length+k+1:=by
 induction k using Nat.strongRecOn generalizing out with
 | _ k ih =>
  rw[qnF];split
  ·simp only[qGk];omega
  ·have:=ih (k / 10) (by omega) (UInt8.ofNat (48+k % 10)::out);simp only[qGk]at this;omega
def qdW (s:List UInt8):List UInt8:=if 400<s.length then [] else qnF (qjB s (1+s.length % 997)) []++58::s
theorem qiq:∀ (s:List UInt8) (n:Nat),n<65521→qjB s n<65521
 | [],n,h=>h
 | x::r,n,h=>qiq r _ (qG8 _ (by omega))
theorem qn3 (s:List UInt8) (hs:s.length≤maxLen):CV prog 242 [.str s] (.str (qdW s)):=by
 have hlt:=qiq s (1+s.length % 997) (by omega);refine cvx func242 [] ntmps242 rfl rfl rfl ?_;unfold qdW;by_cases h:400<s.length
 ·have h':(400:Int)<s.length:=by omega
  simp[h,h']
 ·have h':¬ (400:Int)<s.length:=by omega
  rw[if_neg h];simp[h'];refine(qzS s hs).call ?_;simp;refine(qzY _ (by omega)).call ?_;simp;have hdl:=qk9 (qjB s (1+s.length % 997)) [];simp only[qHf]at hdl;omega
def qbj (s:List UInt8):List UInt8×Bool :=
 if qa8 58 s 0<0 then ([],false) else if qdW (s.drop ((qa8 58 s 0).toNat+1))=s then (s.drop ((qa8 58 s 0).toNat+1),true) else ([],false)
theorem qgo:∀ (c:UInt8) (s:List UInt8) (i:Int),0≤i→qa8 c s i<i+s.length
 | c,[],i,h=>by simp[qa8];omega
 | c,x::r,i,h=>by
  unfold qa8;split
  ·simp;omega
  ·have:=qgo c r (i+1) (by omega);simp only[qGk];omega
theorem qgp:∀ (c:UInt8) (s:List UInt8) (i:Int),0≤i→qa8 c s i=-1∨i≤qa8 c s i
 | c,[],i,h=>.inl rfl
 | c,x::r,i,h=>by
  unfold qa8;split
  ·exact .inr (Int.le_refl _)
  ·rcases qgp c r (i+1) (by omega)with h | h
   ·exact .inl h
   ·exact .inr (by omega)
theorem qu8 (s:List UInt8) (hs:s.length≤1048576):CV prog 154 [.str s] (.tup [.str (qbj s).1,.bool (qbj s).2]):=by
 obtain⟨R,hR⟩:∃ R,qbj s=R:=⟨_,rfl⟩;rw[hR];have hml:maxLen=9223372036854775807:=rfl;have hlt:=qgo 58 s 0 (by omega);have hge:=qgp 58 s 0 (by omega);have fc:=qx7 s 58 (by omega);have sc:=qn3 (s.drop ((qa8 58 s 0).toNat+1)) (by simp;omega);refine cvx func154 [] ntmps154 rfl rfl rfl ?_;simp;refine fc.call ?_;unfold qbj at hR;generalize qa8 58 s 0=k at *
 by_cases h:k<0
 ·rw[if_pos h]at hR;simp[h,← hR]
 ·rw[if_neg h]at hR;have e1:=qap (k+1) (by omega) (by omega);have d1:(k+1).toNat=k.toNat+1:=by omega
  have d2:List.take (s.length-(k.toNat+1)) (List.drop (k.toNat+1) s)=List.drop (k.toNat+1) s:=qGh (by simp);simp[h,e1,d1,d2];refine⟨⟨by omega,by omega⟩,?_⟩;refine sc.call ?_;by_cases hs2:qdW (s.drop (k.toNat+1))=s
  ·rw[if_pos hs2]at hR;simp[hs2,h,e1,d1,d2,← hR];exact⟨by omega,by omega⟩
  ·rw[if_neg hs2]at hR;simp[hs2,← hR]
def hexL:List UInt8:=[48,49,50,51,52,53,54,55,56,57,97,98,99,100,101,102]
def qfu:List UInt8→List UInt8→List UInt8×Bool
 | a::b::r,out=>if qa8 a hexL 0<0∨qa8 b hexL 0<0 then ([],false) else qfu r (out++[UInt8.ofNat (qa8 a hexL 0 * 16+qa8 b hexL 0).toNat])
 | [],out=>(out,true)
 | [_],_=>([],false)
theorem quc (c:UInt8):qa8 c hexL 0<16∧-1≤qa8 c hexL 0:=by
 have:=qgo c hexL 0 (by omega);have h2:=qgp c hexL 0 (by omega);simp[hexL]at this;simp only[hexL]at h2 ⊢;omega
theorem qgz:qj7 ∘ qgG=id:=by
 funext c
 show UInt8.ofNat ((c.toNat:Int).toNat)=c;simp
theorem qhX (ρ:Nat→Option Plc):qb6 ρ ∘ qgG=qgG:=by
 funext c
 simp[qgG]
theorem qDr (s:List UInt8) (hs:s.length≤1048576):CV prog 325 [.str s] (.tup [.str (qfu s []).1,.bool (qfu s []).2]):=by
 obtain⟨R,hR⟩:∃ R,qfu s []=R:=⟨_,rfl⟩;rw[hR];have hml:maxLen=9223372036854775807:=rfl;have t1:(s.length:Int).tmod 2=(s.length:Int) % 2:=qIy (by omega);refine cvx func325 [] ntmps325 rfl rfl rfl ?_;by_cases hodd:s.length % 2=0
 ·have h1:¬ (0:Int)<(s.length:Int) % 2:=by omega
  simp[t1,h1];refine qaM (X:=Nat×List UInt8) [0,4,5] [(12,900)] (fun x=>[(5,.int .i64 x.1),(4,.sl 900 0 x.2.length)]) (fun x=>[(900,⟨1,x.2.map qgG⟩)]) (fun x=>s.length-x.1) (fun x=>x.1≤s.length∧x.1 % 2=0∧x.2.length≤x.1∧qfu (s.drop x.1) x.2=R) (0,[]) (by simp[hR]) ?_ (he:=by simp[qah]);rintro⟨i,out⟩ ⟨hi,hev,hol,hd⟩;simp only at hi hev hol hd;by_cases h2:i<s.length
  ·obtain⟨a,f1⟩:∃ a,s[i]?=some a:=⟨_,qF3 (by omega)⟩;obtain⟨b,f2⟩:∃ b,s[i+1]?=some b:=⟨_,qF3 (by omega)⟩;rw[qfI f1,qfI f2,qfu]at hd;have h3:i+1<s.length:=by omega
   have g1:s[i]=a:=(qGy.1 f1).2;have g2:s[i+1]=b:=(qGy.1 f2).2;have c1:=qx7 hexL a (by simp[hexL,hml]);have c2:=qx7 hexL b (by simp[hexL,hml]);have b1:=quc a;have b2:=quc b;obtain⟨p,hp⟩:∃ p,qa8 a hexL 0=p:=⟨_,rfl⟩;obtain⟨q,hq⟩:∃ q,qa8 b hexL 0=q:=⟨_,rfl⟩;rw[hp]at c1 b1 hd;rw[hq]at c2 b2 hd;simp only[hexL]at c1 c2;have e1:=qap ((i:Int)+1) (by omega) (by omega);have e2:=qap ((i:Int)+2) (by omega) (by omega);have e3:((i:Int)+1).toNat=i+1:=by omega
   simp[h2,f1,g1];refine c1.call ?_;simp[h2,h3,f2,g2,e1,e3];refine⟨⟨by omega,by omega⟩,?_⟩;refine c2.call ?_;by_cases hpn:p<0
   ·rw[if_pos (.inl hpn)]at hd;simp[hpn,← hd]
   ·by_cases hqn:q<0
    ·rw[if_pos (.inr hqn)]at hd;simp[hpn,hqn,← hd]
    ·rw[if_neg (by omega)]at hd;have w1:=qap (p * 16) (by omega) (by omega);have w2:=qap (p * 16+q) (by omega) (by omega);have w3:IntKind.u8.wrap (p * 16+q)=p * 16+q:=by
      show(p * 16+q) % 256=_;omega
     simp[hpn,hqn,w1,w2,w3];refine⟨by omega,?_⟩;have hu:qgG (UInt8.ofNat (p * 16+q).toNat)=[.int .u8 (p * 16+q)]:=by
      show [AV.int .u8 (((UInt8.ofNat (p * 16+q).toNat).toNat:Nat):Int)]=_;simp only[qIA];have:(p * 16+q).toNat % 2 ^ 8=(p * 16+q).toNat:=qGT (by omega);rw[this];have:(((p * 16+q).toNat:Nat):Int)=p * 16+q:=by omega
      rw[this]
     refine nx (i+2,out++[UInt8.ofNat (p * 16+q).toNat]) [(41,900)] ⟨by simp only;omega,by simp only;omega,by simp;omega,hd⟩ (by simp only;omega) (h4:=?_);simp[qah,e2,hu,qGh,qhX]
  ·have:i=s.length:=by omega
   subst this;rw[qHL (by omega),qfu]at hd;simp[qgz,qGh];exact⟨fun _ _=>rfl,by rw[← hd],by rw[← hd]⟩
 ·have h1:(0:Int)<(s.length:Int) % 2:=by omega
  have ho:∀ (n:Nat) (l o:List UInt8),l.length=2 * n+1→qfu l o=([],false):=by
   intro n
   induction n with
   | zero =>
    intro l o hl
    match l,hl with
    | [x],_=>rfl
   | succ n ih =>
    intro l o hl
    match l,hl with
    | a::b::r,hl =>
     unfold qfu;split
     ·rfl
     ·exact ih r _ (by simp at hl;omega)
  have:=ho (s.length / 2) s [] (by omega);rw[this]at hR;simp[t1,h1,← hR]
def qaJ (c:UInt8):List UInt8→List UInt8→List (List UInt8)
 | [],cur=>[cur]
 | x::r,cur=>if x=c then cur::qaJ c r [] else qaJ c r (cur++[x])
def qcx (t:List UInt8):List AV:=[.str t]
theorem qf9 (ρ:Nat→Option Plc):qb6 ρ ∘ qcx=qcx:=by
 funext t
 simp[qcx]
theorem qDv (s:List UInt8) (c:UInt8) (hs:s.length≤1048576):ACall prog 155 [.str s,.int .u8 (c.toNat:Int)] [] (fun r L'=>r=.sl 900 0 (qaJ c s []).length∧L'=[(900,⟨1,(qaJ c s []).map qcx⟩)]):=by
 obtain⟨R,hR⟩:∃ R,qaJ c s []=R:=⟨_,rfl⟩;rw[hR];refine acx func155 [] ntmps155 rfl rfl rfl ?_;simp;refine qaM (X:=Nat×Nat×List (List UInt8)) [0,1,5,6,7] [(8,900)] (fun x=>[(7,.int .i64 x.1),(6,.int .i64 x.2.1),(5,.sl 900 0 x.2.2.length)]) (fun x=>[(900,⟨1,x.2.2.map qcx⟩)]) (fun x=>s.length+1-x.1)
  (fun x=>x.2.2.length≤x.1∧((x.1≤s.length∧x.2.1≤x.1∧x.2.2++qaJ c (s.drop x.1) (List.take (x.1-x.2.1) (List.drop x.2.1 s))=R)∨(x.1=s.length+1∧x.2.2=R))) (0,0,[]) ⟨by simp,.inl ⟨by simp,by simp,by simpa using hR⟩⟩ ?_ (he:=by simp[qah])
 rintro⟨i,fr,ps⟩ ⟨hpl,hg⟩;simp only at hpl hg;rcases hg with⟨hi,hf,hd⟩ | ⟨hi,hd⟩
 ·have h0:(i:Int)≤s.length:=by omega
  have e1:=qap ((i:Int)+1) (by omega) (by omega);by_cases h1:i=s.length
  ·subst h1;rw[qHL (by omega),qaJ]at hd;simp;refine⟨by omega,by omega,?_⟩;refine nx (s.length+1,s.length+1,ps++[List.take (s.length-fr) (List.drop fr s)]) [(32,900)] ⟨by simp only[qHe,qIB];omega,.inr ⟨rfl,hd⟩⟩ (by simp only;omega) (h4:=?_);simp[qah,e1,qf9,qcx,qGh]
  ·have h1':¬ (i:Int)=s.length:=by omega
   have hlt:i<s.length:=by omega
   obtain⟨x,f1⟩:∃ x,s[i]?=some x:=⟨_,qF3 (by omega)⟩;have f0:s[i]=x:=(qGy.1 f1).2;rw[qfI f1,qaJ]at hd;by_cases hxc:x=c
   ·subst hxc;rw[if_pos rfl]at hd;simp[h0,h1',hlt,f0,f1];refine⟨⟨by omega,by omega⟩,by omega,?_⟩;refine nx (i+1,i+1,ps++[List.take (i-fr) (List.drop fr s)]) [(32,900)] ⟨by simp only[qHe,qIB];omega,.inl ⟨by simp only;omega,by simp,by simpa using hd⟩⟩ (by simp only;omega) (h4:=?_);simp[qah,e1,qf9,qcx,qGh]
   ·rw[if_neg hxc]at hd;have e3:¬ ((x.toNat:Int)=c.toNat):=fun h=>hxc (qIb.1 (by omega));simp[h0,h1',hlt,f0,f1,e3];have e4:List.take (i+1-fr) (List.drop fr s)=List.take (i-fr) (List.drop fr s)++[x]:=by
     rw[show i+1-fr=i-fr+1 by omega];exact qgH (by rw[qGr,show fr+(i-fr)=i by omega];exact f1)
    refine nx (i+1,fr,ps) [(900,900)] ⟨by simp only;omega,.inl ⟨by simp only;omega,by simp only;omega,by simp only;rw[e4];exact hd⟩⟩ (by simp only;omega) (h4:=?_);simp[qah,e1,qf9]
 ·subst hi;have h0:¬ ((s.length:Int)+1)≤s.length:=by omega
  simp[h0];exact⟨by rw[hd],by rw[hd]⟩
theorem qkp (s:List UInt8) (c:UInt8) (hs:s.length≤1048576):CV prog 155 [.str s,.int .u8 (c.toNat:Int)] (.lst 1 ((qaJ c s []).map qcx)):=by
 refine CV.of_frz (qDv s c hs) (fun r L' hR=>?_);obtain⟨rfl,rfl⟩:=hR;refine⟨by simp,by simp,?_,?_⟩
 ·simp[clR,qcx,clL,clA]
 ·simp[qa7,qGh];exact qaE _
def qfn (n:Nat):List UInt8→Option Nat
 | []=>some n
 | x::r=>if x.toNat<48∨57<x.toNat then none else qfn (n * 10+(x.toNat-48)) r
def qtP (neg:Bool) (t:List UInt8):Int×Bool :=
 if t.length=0∨17<t.length∨(t.head?=some 48∧(1<t.length∨neg=true)) then (0,false) else
 match qfn 0 t with
 | none=>(0,false)
 | some n=>(if neg=true then -(n:Int) else n,true)
def qaB (s:List UInt8):Int×Bool:=if s.head?=some 45 then qtP true s.tail else qtP false s
theorem qiu (s:List UInt8) (hs:s.length≤1048576):CV prog 156 [.str s] (.tup [.int .i64 (qaB s).1,.bool (qaB s).2]):=by
 obtain⟨R,hR⟩:∃ R,qaB s=R:=⟨_,rfl⟩;rw[hR];refine cvx func156 [] ntmps156 rfl rfl rfl ?_;unfold qaB at hR;cases s with
 | nil =>
  simp[qtP]at hR;simp[← hR]
 | cons x r =>
  have hrl:List.take r.length r=r:=qGh (qFM _);by_cases hx:x=45
  ·subst hx;simp only[qIC,qID,if_true]at hR;unfold qtP at hR;by_cases hc:r.length=0∨17<r.length∨r.head?=some 48∧(1<r.length∨true=true)
   ·rw[if_pos hc]at hR;simp[hrl,← hR];cases r with
    | nil=>simp
    | cons y t =>
     intro _ g2;refine⟨by simp,fun g3=>?_⟩;exfalso;simp at hc g2 g3;rcases hc with h | h
     ·omega
     ·subst h;exact g3 rfl
   ·rw[if_neg hc]at hR;obtain⟨N,hN⟩:∃ N,qfn 0 r=N:=⟨_,rfl⟩;rw[hN]at hR;cases r with
    | nil=>simp at hc
    | cons y t =>
     simp only[qIC,qGk,qFQ,or_true,and_true,not_or]at hc;have hy':¬ ((y.toNat:Int)=48):=fun h=>hc.2.2 (qIb.1 (by simpa using by omega));have h17:(t.length:Int)+1≤17:=by omega
     have h17':¬ 17<(t.length:Int)+1:=by omega
     simp[hrl,hy',h17,h17'];refine⟨fun _=>⟨by omega,fun _=>?_,fun h=>by omega⟩,fun h=>by omega⟩;have hTl:(y::t).length≤17:=by simp;omega
     refine qbe (X:=Nat×Nat) [0,4,5,6] [] (fun w=>[(6,.int .i64 w.1),(5,.int .i64 w.2)]) (fun _=>[]) (fun w=>(y::t).length-w.1) (fun w=>w.1≤(y::t).length∧w.2<10 ^ w.1∧qfn w.2 ((y::t).drop w.1)=N) (0,0) ⟨by omega,by simp,hN⟩ ?_;rintro⟨i,n⟩ ⟨hi,hn,hd⟩;simp only at hi hn hd;have hp:10 ^ i≤10 ^ 17:=qIE (by omega) (by omega);cases hr:(y::t).drop i with
     | nil =>
      have:=qaY hr;rw[hr,qfn]at hd;have hie:i=(y::t).length:=by omega
      rw[← hd]at hR;have w0:=qap (-(n:Int)) (by omega) (by omega);simp[hie,w0,← hR]
     | cons z q =>
      obtain⟨g1,g0,g2,g3⟩:=qaZ hr;rw[hr,qfn]at hd;have e2:=qap ((i:Int)+1) (by omega) (by omega);have hz:=z.toNat_lt;have g1':(i:Int)<(t.length:Int)+1:=by simp at g1;omega
      by_cases hbad:z.toNat<48∨57<z.toNat
      ·rw[if_pos hbad]at hd;rw[← hd]at hR;simp[g1',g1,g0,g2,← hR];intros;omega
      ·rw[if_neg hbad]at hd;have w1:=qap ((n:Int) * 10) (by omega) (by omega);have w2:IntKind.u8.wrap ((z.toNat:Int)-48)=(z.toNat:Int)-48:=by
        show((z.toNat:Int)-48) % 256=_;omega
       have w3:=qap ((z.toNat:Int)-48) (by omega) (by omega);have w4:=qap ((n:Int) * 10+((z.toNat:Int)-48)) (by omega) (by omega);have b1:¬ ((z.toNat:Int)<48):=by omega
       have b2:¬ (57<(z.toNat:Int)):=by omega
       simp[g1',g1,g0,g2,b1,b2,e2,w1,w2,w3,w4];have c1:((z.toNat-48:Nat):Int)=(z.toNat:Int)-48:=by omega
       have hps:10 ^ (i+1)=10 ^ i * 10:=qIF ..;refine nx (i+1,n * 10+(z.toNat-48)) [] ⟨by simp only;omega,by simp only;omega,by simp only[g3];exact hd⟩ (by simp only;omega) (h4:=?_);simp[e2,w1,w2,w3,w4,c1]
  ·have hx':¬ ((x.toNat:Int)=45):=fun h=>hx (qIb.1 (by simpa using by omega));simp only[qIC,qFQ,hx,if_false]at hR;unfold qtP at hR;by_cases hc:(x::r).length=0∨17<(x::r).length∨(x::r).head?=some 48∧(1<(x::r).length∨false=true)
   ·rw[if_pos hc]at hR;simp[hrl,hx',← hR];intro _ g2;simp only[qGk,qIC,qFQ,qFY,or_false]at hc;refine⟨fun g3 g4=>?_,fun g3=>?_⟩
    ·exfalso;omega
    ·exfalso;rcases hc with h | h | ⟨h,_⟩
     ·omega
     ·omega
     ·subst h;exact g3 rfl
   ·rw[if_neg hc]at hR;obtain⟨N,hN⟩:∃ N,qfn 0 (x::r)=N:=⟨_,rfl⟩;rw[hN]at hR;simp only[qIC,qGk,qFQ,qFY,or_false,not_or,not_and]at hc;have h17:(r.length:Int)+1≤17:=by omega
    have h17':¬ 17<(r.length:Int)+1:=by omega
    have hTl:(x::r).length≤17:=by simp;omega
    simp[hrl,hx',h17,h17'];refine⟨fun _=>⟨fun g=>⟨fun _=>?_,fun h=>absurd (hc.2.2 (qIb.1 (by simpa using by omega))) (by omega)⟩,fun g=>?_⟩,fun h=>by omega⟩
    all_goals
     refine qbe (X:=Nat×Nat) [0,4,5,6] [] (fun w=>[(6,.int .i64 w.1),(5,.int .i64 w.2)]) (fun _=>[]) (fun w=>(x::r).length-w.1) (fun w=>w.1≤(x::r).length∧w.2<10 ^ w.1∧qfn w.2 ((x::r).drop w.1)=N) (0,0) ⟨by omega,by simp,hN⟩ ?_;rintro⟨i,n⟩ ⟨hi,hn,hd⟩;simp only at hi hn hd;have hp:10 ^ i≤10 ^ 17:=qIE (by omega) (by omega);cases hr:(x::r).drop i with
     | nil =>
      have:=qaY hr;rw[hr,qfn]at hd;have hie:i=(x::r).length:=by omega
      rw[← hd]at hR;have w0:=qap (-(n:Int)) (by omega) (by omega);simp[hie,w0,hx',← hR]
     | cons z q =>
      obtain⟨g1,g0,g2,g3⟩:=qaZ hr;rw[hr,qfn]at hd;have e2:=qap ((i:Int)+1) (by omega) (by omega);have hz:=z.toNat_lt;have g1':(i:Int)<(r.length:Int)+1:=by simp at g1;omega
      by_cases hbad:z.toNat<48∨57<z.toNat
      ·rw[if_pos hbad]at hd;rw[← hd]at hR;simp[g1',g1,g0,g2,← hR];intros;omega
      ·rw[if_neg hbad]at hd;have w1:=qap ((n:Int) * 10) (by omega) (by omega);have w2:IntKind.u8.wrap ((z.toNat:Int)-48)=(z.toNat:Int)-48:=by
        show((z.toNat:Int)-48) % 256=_;omega
       have w3:=qap ((z.toNat:Int)-48) (by omega) (by omega);have w4:=qap ((n:Int) * 10+((z.toNat:Int)-48)) (by omega) (by omega);have b1:¬ ((z.toNat:Int)<48):=by omega
       have b2:¬ (57<(z.toNat:Int)):=by omega
       simp[g1',g1,g0,g2,b1,b2,e2,w1,w2,w3,w4];have c1:((z.toNat-48:Nat):Int)=(z.toNat:Int)-48:=by omega
       have hps:10 ^ (i+1)=10 ^ i * 10:=qIF ..;refine nx (i+1,n * 10+(z.toNat-48)) [] ⟨by simp only;omega,by simp only;omega,by simp only[g3];exact hd⟩ (by simp only;omega) (h4:=?_);simp[e2,w1,w2,w3,w4,c1]
theorem qlc (c:UInt8):∀ (s cur:List UInt8),0<(qaJ c s cur).length
 | [],cur=>by simp[qaJ]
 | x::r,cur=>by
  unfold qaJ;split
  ·simp
  ·exact qlc c r _
theorem qbu (c:UInt8):∀ (s cur:List UInt8),∀ t∈qaJ c s cur,t.length≤cur.length+s.length
 | [],cur,t,h=>by
  simp only[qaJ,qIx]at h;subst h;simp
 | x::r,cur,t,h=>by
  unfold qaJ at h;split at h
  ·rcases qHq.1 h with rfl | h
   ·simp
   ·have:=qbu c r [] t h;simp at this ⊢;omega
  ·have:=qbu c r _ t h;simp at this ⊢;omega
theorem qdr (c:UInt8):∀ (s cur:List UInt8),(qaJ c s cur).length≤s.length+1
 | [],cur=>by simp[qaJ]
 | x::r,cur=>by
  unfold qaJ;split
  ·have:=qdr c r [];simp;omega
  ·have:=qdr c r (cur++[x]);simp;omega
theorem qgf (s:List UInt8):(qbj s).1.length≤s.length:=by
 unfold qbj;split
 ·simp
 ·split <;> simp
end Go.Av.F
end
