/- Lemmas for the proof, no statement of the seat; no conditions. -/
import Derived.Test.YthiidgicibfbjaaGreatDoorLayAV
set_option linter.unusedSimpArgs false
set_option linter.unusedVariables false
set_option linter.unnecessarySimpa false
set_option maxRecDepth 100000
section
namespace Go.Av.F
open Go Go.Av Go.Proofs Go.Proofs.Tryz
def qpT (w:List UInt8):Option DE:=(qk4 w).map fun x=>⟨x.1,x.2.1,x.2.2⟩
def qoJ:List (List UInt8)→Option (List DE)
 | []=>some []
 | w::r=>match qpT w,qoJ r with
  | some e,some l=>some (e::l)
  | _,_=>none
def qi6 (t:List UInt8):List DE×Bool :=
 if 1000<t.length then ([],false) else if t=[] then ([],true) else
 match qoJ (qaF 32 t [])with
 | some l=>if qak l=true then (l,true) else ([],false)
 | none=>([],false)
def qsB (w:List UInt8):Option DE :=
 match qaF 46 w []with
 | [a,b,c]=>some ⟨(qax a).1,(qax b).1,(qax c).1⟩
 | _=>none
def que:List (List UInt8)→Option (List DE)
 | []=>some []
 | w::r=>match qsB w,que r with
  | some e,some l=>some (e::l)
  | _,_=>none
theorem qfL {e:DE} (h:qca e=true):qck e=Lib.join [Lib.itoa e.es,Lib.itoa e.ea,Lib.itoa e.ec] [46]:=by
 have hb:=qgg h;rw[qeq _ (by omega),qeq _ (by omega),qeq _ (by omega),qaM,qaM,Lib.join_one];rfl
theorem qpS {w:List UInt8} {e:DE} (h:qpT w=some e) (hd:qca e=true):qck e=w∧qsB w=some e:=by
 unfold qpT at h;cases hv:qk4 w with
 | none=>rw[hv]at h;cases h
 | some x =>
  obtain⟨a,b,c⟩:=x;rw[hv]at h;simp only[qEk,qEd]at h;subst h;refine⟨by rw[qfL hd];exact qk2 hv,?_⟩;unfold qk4 at hv;split at hv
  ·rename_i x y z hc;split at hv
   ·rename_i hq;simp only[qEd,qEe]at hv;obtain⟨rfl,rfl,rfl⟩:=hv;have hb:=qgg hd;simp only at hb;have n1:=(qfb x).1 ⟨hq.1,by omega⟩;have n2:=(qfb y).1 ⟨hq.2.1,by omega⟩;have n3:=(qfb z).1 ⟨hq.2.2,by omega⟩;unfold qsB;rw[hc];simp only[qg5 n1,qg5 n2,qg5 n3]
   ·cases hv
  ·cases hv
theorem qvs {e:DE} (h:qca e=true):qpT (qck e)=some e:=by
 have hb:=qgg h;rw[qfL h];unfold qpT;rw[qpQ e.es e.ea e.ec ⟨by omega,by omega⟩ ⟨by omega,by omega⟩ ⟨by omega,by omega⟩];rfl
theorem qpR:∀ {l:List DE},(∀ e∈l,qca e=true)→qoJ (l.map qck)=some l
 | [],_=>rfl
 | e::r,h=>by
  rw[qEQ,qoJ,qvs (h e (by simp)),qpR fun x hx=>h x (by simp[hx])]
theorem qk5:∀ {ws:List (List UInt8)} {l:List DE},qoJ ws=some l→(∀ e∈l,qca e=true)→l.map qck=ws∧que ws=some l
 | [],l,h,_=>by
  simp only[qoJ,qEd]at h;subst h;exact⟨rfl,rfl⟩
 | w::r,l,h,hd=>by
  rw[qoJ]at h;split at h
  ·rename_i e q h1 h2;simp only[qEd]at h;subst h;obtain⟨a1,a2⟩:=qpS h1 (hd e (by simp));obtain⟨b1,b2⟩:=qk5 h2 fun x hx=>hd x (by simp[hx]);refine⟨by simp[a1,b1],?_⟩;rw[que,a2,b2]
  ·cases h
theorem qmM (n:Int):∀ x∈Lib.itoa n,x≠(32:UInt8):=qgG n 32 (by decide) (by decide)
theorem qob (a b c:Int):∀ x∈Lib.join [Lib.itoa a,Lib.itoa b,Lib.itoa c] [46],x≠(32:UInt8):=by
 intro x hx;rw[qaM,qaM,Lib.join_one]at hx;simp only[qFQ,qFO]at hx;rcases hx with hx | rfl | hx | rfl | hx
 ·exact qmM _ x hx
 ·decide
 ·exact qmM _ x hx
 ·decide
 ·exact qmM _ x hx
theorem qrR {e:DE} (h:qca e=true):∀ x∈qck e,x≠(32:UInt8):=by
 rw[qfL h];exact qob _ _ _
theorem qrT:qcl []=[]:=by
 unfold qcl;split <;> rfl
theorem qrU {t:List UInt8} (h1:¬ 1000<t.length) (h2:t≠[]) :
  qi6 t=match que (qaF 32 t [])with
   | some l=>if qak l=true∧qcl l=t then (l,true) else ([],false)
   | none=>([],false):=by
 have hj:=qdy 32 t [];simp only[qE0]at hj;unfold qi6;rw[if_neg h1,if_neg h2];by_cases hg:∃ l,qoJ (qaF 32 t [])=some l∧qak l=true
 ·obtain⟨l,g1,g2⟩:=hg;obtain⟨a1,a2⟩:=qk5 g1 (qhj g2);have e:qcl l=t:=by
   unfold qcl;rw[if_pos g2,(qdP l).2,a1,hj]
  rw[g1,a2];simp[g2,e]
 ·have hL:(match qoJ (qaF 32 t [])with
   | some l=>if qak l=true then (l,true) else ([],false)
   | none=>(([]:List DE),false))=([],false):=by
   split
   ·rename_i l hl;rw[if_neg fun e=>hg ⟨l,hl,e⟩]
   ·rfl
  rw[hL];split
  ·rename_i l hl;rw[if_neg];rintro⟨q1,q2⟩;have hne:l≠[]:=by
    rintro rfl;rw[qrT]at q2;exact h2 q2.symm
   unfold qcl at q2;rw[if_pos q1,(qdP l).2]at q2;have hc:=qdd 32 (l.map qck) (by simpa using hne) (by
    intro w hw;obtain⟨e,he,rfl⟩:=qER.1 hw;exact qrR (qhj q1 e he))
   rw[q2]at hc;exact hg ⟨l,by rw[hc];exact qpR (qhj q1),q1⟩
  ·rfl
theorem qvu (w:List UInt8):(qk4 w=none→(thB w).2=false)∧∀ a b c,qk4 w=some (a,b,c)→thB w=((a,b,c),true):=by
 by_cases h3:(qaF 46 w []).length=3
 ·obtain⟨x,y,z,hc⟩:=qd9 h3;rw[qk3 hc,qvw hc];by_cases hq:qdB x=true∧qdB y=true∧qdB z=true
  ·rw[if_pos hq];have hk:qbA x=true∧qbA y=true∧qbA z=true:=by
    obtain⟨q1,q2,q3⟩:=hq;simp only[qdB,Bool.and_eq_true]at q1 q2 q3;exact⟨q1.1,q2.1,q3.1⟩
   refine⟨(fun e=>by cases e),fun a b c e=>?_⟩;simp only[qEd,qEe]at e;obtain⟨rfl,rfl,rfl⟩:=e;rw[if_pos hk];simp[hq]
  ·rw[if_neg hq];refine⟨fun _=>?_,fun a b c e=>by cases e⟩;split
   ·simpa using hq
   ·rfl
 ·rw[qh2 h3,qvv h3];exact⟨fun _=>rfl,fun a b c e=>by cases e⟩
def ddF (acc:List DE) (ws:List (List UInt8)):List DE×Bool :=
 match qoJ ws with
 | some l=>if qak (acc++l)=true then (acc++l,true) else ([],false)
 | none=>([],false)
theorem qty (acc:List DE) (w:List UInt8) (r:List (List UInt8)):ddF acc (w::r)=match qpT w with
  | some e=>ddF (acc++[e]) r
  | none=>([],false):=by
 unfold ddF;rw[qoJ];cases qpT w with
 | none=>rfl
 | some e =>
  cases qoJ r with
  | none=>rfl
  | some l=>simp
def ddQ (x:Nat) (R:List DE×Bool) (r:AV) (L':List (Nat×Ob)):Prop :=
 (R.1=[]∧r=.tup [.nils,.bool R.2]∧L'=[])∨(r=.tup [.sl x 0 R.1.length,.bool R.2]∧L'=[(x,qaR R.1)])
theorem quS {f x:Nat} {t:List UInt8} {R:List DE×Bool} (h:ACall prog f [.str t] [] (ddQ x R)) (he:qb8 prog f=true):CV prog f [.str t] (.tup [.lst 3 (R.1.map DE.row),.bool R.2]):=by
 refine CV.of_frz h ?_ (he:=he) (hcv:=by simp[DE.row]);rintro r L' (⟨h1,rfl,rfl⟩ | ⟨rfl,rfl⟩)
 ·refine⟨by simp,by simp,by simp,?_⟩;rw[h1];simp only[qbe,qF3];exact qgH (.cons (qbT 3) (.cons (qa1 _) .nil))
 ·refine⟨by simp,by simp,fun x hx=>by simp only[qGX]at hx;subst hx;exact qbZ _,?_⟩;simp[qbe,qaR,qal]
theorem qrw (t:List UInt8) (hl:t.length≤1048576):CV prog 89 [.str t] (.tup [.lst 3 ((qi6 t).1.map DE.row),.bool (qi6 t).2]):=by
 refine quS (x:=900) ?_ (by kernel_rfl);obtain⟨R,hR⟩:∃ R,qi6 t=R:=⟨_,rfl⟩;rw[hR];unfold qi6 at hR;refine acx func89 [] ntmps89 rfl rfl rfl ?_;by_cases h1:1000<t.length
 ·rw[if_pos h1]at hR;subst hR;simp[show(1000:Int)<t.length by omega,h1];exact⟨[],by simp,.inl ⟨rfl,rfl,rfl⟩⟩
 rw[if_neg h1]at hR;by_cases h2:t=[]
 ·rw[if_pos h2]at hR;subst hR;simp[h2];exact⟨[],by simp,.inl ⟨rfl,rfl,rfl⟩⟩
 rw[if_neg h2]at hR;have hR':ddF [] (qaF 32 t [])=R:=by
  rw[← hR];unfold ddF;simp
 have c1:=qh7 t 32 hl;have hw:=qbp 32 t [];have hnum:=qde 32 t [];simp only[qFE,qFB]at hw;simp[show ¬ (1000:Int)<t.length by omega,h1,h2];refine c1.call ?_;generalize qaF 32 t []=ws at *
 simp[qcr];refine qeW (qjT 4 3 (by simp) (by simp)) ?_;refine qbj (X:=Nat×List DE) [2,3,4,17,18,19] [(4,900)] (fun x=>[(4,.sl 900 0 x.2.length),(19,.int .i64 x.1)]) (fun x=>[(900,qaR x.2)]) (fun x=>ws.length-x.1) (fun x=>x.1≤ws.length∧x.2.length=x.1∧ddF x.2 (ws.drop x.1)=R) (0,[]) ⟨by omega,rfl,hR'⟩ ?_ (he:=by simp[qag,qaR]);rintro⟨i,acc⟩ ⟨hi,ha,hd⟩;simp only at hi ha hd;cases hr:ws.drop i with
 | nil =>
  have:=qaY hr;have hie:i=ws.length:=by omega
  subst hie;rw[hr]at hd;have c2:=qkq acc (by omega);simp only[ddF,qoJ,qGw]at hd;simp;refine c2.view (by simp[qbW,mtA,qaR,qal]) ?_;cases hk:qak acc with
  | false =>
   rw[if_neg (by simp[hk])]at hd;subst hd;simp;exact⟨[],by simp,.inl ⟨rfl,rfl,rfl⟩⟩
  | true =>
   rw[if_pos hk]at hd;subst hd;simp;exact⟨[(900,qaR acc)],by simp,.inr ⟨rfl,rfl⟩⟩
 | cons w r =>
  obtain⟨g1,e0,e1,g3⟩:=qaZ hr;have hwl:=hw w (qGj e1);have c2:=qrj w (by omega);have e2:=qao ((i:Int)+1) (by omega) (by omega);obtain⟨t1,t2⟩:=qvu w;rw[hr,qty]at hd;simp[g1,e0,e1,qcr];refine c2.call ?_;cases hv:qk4 w with
  | none =>
   rw[show qpT w=none by unfold qpT;rw[hv];rfl]at hd;simp only at hd;subst hd;simp[t1 hv];exact⟨[],by simp,.inl ⟨rfl,rfl,rfl⟩⟩
  | some x =>
   obtain⟨a,b,c⟩:=x;rw[show qpT w=some ⟨a,b,c⟩ by unfold qpT;rw[hv];rfl]at hd;simp only at hd;rw[t2 a b c hv];simp[qaR,DE.row];refine⟨by omega,nx (i+1,acc++[⟨a,b,c⟩]) [(38,900)] ⟨by simp only;omega,by simp[ha],by simp only[g3];exact hd⟩ (by simp only;omega) (h4:=?_)⟩;simp[qag,qaR,e2,qEF,DE.row]
def spF (t:List UInt8) (acc:List DE) (ws:List (List UInt8)):List DE×Bool :=
 match que ws with
 | some l=>if qak (acc++l)=true∧qcl (acc++l)=t then (acc++l,true) else ([],false)
 | none=>([],false)
theorem qsC (t:List UInt8) (acc:List DE) (w:List UInt8) (r:List (List UInt8)):spF t acc (w::r)=match qsB w with
  | some e=>spF t (acc++[e]) r
  | none=>([],false):=by
 unfold spF;rw[que];cases qsB w with
 | none=>rfl
 | some e =>
  cases que r with
  | none=>rfl
  | some l=>simp
theorem qqs (t:List UInt8) (hl:t.length≤1048576):CV prog 163 [.str t] (.tup [.lst 3 ((qi6 t).1.map DE.row),.bool (qi6 t).2]):=by
 refine quS (x:=900) ?_ (by kernel_rfl);obtain⟨R,hR⟩:∃ R,qi6 t=R:=⟨_,rfl⟩;rw[hR];refine acx func163 [] ntmps163 rfl rfl rfl ?_;by_cases h1:1000<t.length
 ·unfold qi6 at hR;rw[if_pos h1]at hR;subst hR;simp[show(1000:Int)<t.length by omega,h1];exact⟨[],by simp,.inl ⟨rfl,rfl,rfl⟩⟩
 have c1:=qj3 t 32 hl;have hw:=qbp 32 t [];have hnum:=qde 32 t [];simp only[qFE,qFB]at hw;by_cases h2:t=[]
 ·unfold qi6 at hR;rw[if_neg h1,if_pos h2]at hR;subst hR;subst h2;have c2:=qfz [] (by simp);have c3:=qid [] (by simp);rw[qrT]at c3;rw[show qak []=true by decide]at c2;simp;refine c1.call ?_;simp[qaF,qcr];refine qbj (X:=Nat) [0,2,3,4,5,6] [(14,900)] (fun i=>[(4,.sl 900 0 0),(6,.int .i64 i)]) (fun i=>[(900,qaR [])]) (fun i=>0) (fun i=>i=0) 0 rfl ?_ (he:=by simp[qag,qaR]);rintro i rfl;simp;refine c2.view (by simp[qbW,mtA,qaR]) ?_;simp;refine c3.view (by simp[qbW,mtA,qaR]) ?_;simp;exact⟨[(900,qaR [])],by simp,.inr ⟨rfl,rfl⟩⟩
 have hR':spF t [] (qaF 32 t [])=R:=by
  rw[← hR,qrU h1 h2];unfold spF;simp
 simp[show ¬ (1000:Int)<t.length by omega,h1,h2];refine c1.call ?_;generalize qaF 32 t []=ws at *
 simp[qcr];refine qbj (X:=Nat×List DE) [0,2,3,4,5,6] [(14,900)] (fun x=>[(4,.sl 900 0 x.2.length),(6,.int .i64 x.1)]) (fun x=>[(900,qaR x.2)]) (fun x=>ws.length-x.1) (fun x=>x.1≤ws.length∧x.2.length=x.1∧spF t x.2 (ws.drop x.1)=R) (0,[]) ⟨by omega,rfl,hR'⟩ ?_ (he:=by simp[qag,qaR]);rintro⟨i,acc⟩ ⟨hi,ha,hd⟩;simp only at hi ha hd;cases hr:ws.drop i with
 | nil =>
  have:=qaY hr;have hie:i=ws.length:=by omega
  subst hie;rw[hr]at hd;have c2:=qfz acc (by omega);have c3:=qid acc (by omega);simp only[spF,que,qGw]at hd;simp[h2];refine c2.view (by simp[qbW,mtA,qaR,qal]) ?_;cases hk:qak acc with
  | false =>
   rw[if_neg (by simp[hk])]at hd;subst hd;simp;exact⟨[],by simp,.inl ⟨rfl,rfl,rfl⟩⟩
  | true =>
   simp;refine c3.view (by simp[qbW,mtA,qaR,qal]) ?_;by_cases ht:qcl acc=t
   ·rw[if_pos ⟨hk,ht⟩]at hd;subst hd;simp[ht];exact⟨[(900,qaR acc)],by simp,.inr ⟨rfl,rfl⟩⟩
   ·rw[if_neg fun e=>ht e.2]at hd;subst hd;simp[ht];exact⟨[],by simp,.inl ⟨rfl,rfl,rfl⟩⟩
 | cons w r =>
  obtain⟨g1,e0,e1,g3⟩:=qaZ hr;have hwl:=hw w (qGj e1);have c2:=qj3 w 46 (by omega);have hw2:=qbp 46 w [];have e2:=qao ((i:Int)+1) (by omega) (by omega);have hli:(i:Int)<ws.length:=by omega
  rw[hr,qsC]at hd;simp[g1,e0,e1,qcr,h2,hli];refine c2.call ?_;by_cases h3:(qaF 46 w []).length=3
  ·obtain⟨a,b,c,hc⟩:=qd9 h3;rw[hc]at hw2;have la:=hw2 a (by simp);have lb:=hw2 b (by simp);have lc:=hw2 c (by simp);simp at la lb lc;have n1:=qh8 a (by omega);have n2:=qh8 b (by omega);have n3:=qh8 c (by omega);rw[show qsB w=some ⟨(qax a).1,(qax b).1,(qax c).1⟩ by unfold qsB;rw[hc]]at hd;simp only at hd;simp[hc,qcr];refine n1.call ?_;simp;refine n2.call ?_;simp;refine n3.call ?_;simp[qaR,DE.row];refine⟨by omega,nx (i+1,acc++[⟨(qax a).1,(qax b).1,(qax c).1⟩]) [(65,900)] ⟨by simp only;omega,by simp[ha],by simp only[g3];exact hd⟩ (by simp only;omega) (h4:=?_)⟩;simp[qag,qaR,e2,qEF,DE.row]
  ·have hn:qsB w=none:=by
    unfold qsB;split
    ·rename_i a b c hc;rw[hc]at h3;simp at h3
    ·rfl
   rw[hn]at hd;simp only at hd;subst hd;simp[qcr,h3,show ¬ ((qaF 46 w []).length:Int)=3 by omega];exact⟨[],by simp,.inl ⟨rfl,rfl,rfl⟩⟩
def z8:List PT:=List.replicate 8 zPT
def qeN (t:List UInt8):List PT×Bool :=
 if 400<t.length∨(qaF 32 t []).length≠8 then (z8,false) else
 if (qaF 32 t []).all (fun w=>(qbM w).2)=true then ((qaF 32 t []).map fun w=>(qbM w).1,true) else (z8,false)
theorem qkj (t:List UInt8):(qeN t).1.length=8:=by
 unfold qeN;split
 ·rfl
 ·rename_i h;split
  ·simp only[qFs];omega
  ·rfl
theorem qwB {t:List UInt8} (h:(qeN t).2=true):qbc (qeN t).1=t∧∀ p∈(qeN t).1,qaI p=true:=by
 unfold qeN at h ⊢;split at h
 ·simp at h
 ·rename_i h1;rw[if_neg h1];split at h
  ·rename_i h2;rw[if_pos h2];simp only;rw[qED]at h2;have hall:∀ p∈(qaF 32 t []).map fun w=>(qbM w).1,qaI p=true:=fun p hp=>by
    obtain⟨w,hw,rfl⟩:=qER.1 hp;exact(qim (h2 w hw)).2
   refine⟨?_,hall⟩;rw[qeO,if_pos (qED.2 hall),qEY];have e:(qaF 32 t []).map (qaL ∘ fun w=>(qbM w).1)=qaF 32 t []:=by
    conv=>rhs;rw[← qGb (qaF 32 t [])]
    refine qE1 fun w hw=>?_;exact(qim (h2 w hw)).1
   rw[e,qdy];rfl
  ·simp at h
def mpS (ws:List (List UInt8)) (x:Nat×List PT):Prop:=x.1≤8∧x.2.length=8∧∀ j,j<x.1→∃ w,ws[j]?=some w∧(qbM w).2=true∧x.2[j]?=some (qbM w).1
theorem qn7 {ws:List (List UInt8)} {i:Nat} {m:List PT} {w:List UInt8} (h:mpS ws (i,m)) (hi:i<8) (hw:ws[i]?=some w) (hk:(qbM w).2=true):mpS ws (i+1,m.set i (qbM w).1):=by
 obtain⟨h1,h2,h3⟩:=h;simp only at h1 h2 h3;refine⟨by simp only;omega,by simpa using h2,fun j hj=>?_⟩;simp only at hj ⊢;by_cases hji:j=i
 ·subst hji;exact⟨w,hw,hk,by simp[h2,hi]⟩
 ·obtain⟨v,v1,v2,v3⟩:=h3 j (by omega);exact⟨v,v1,v2,by rw[qFe (qD8 hji)];exact v3⟩
theorem qq3 {t:List UInt8} {m:List PT} (h1:¬ 400<t.length) (h8:(qaF 32 t []).length=8) (h:mpS (qaF 32 t []) (8,m)):qeN t=(m,true):=by
 obtain⟨_,h2,h3⟩:=h;simp only at h2 h3;have hall:∀ w∈qaF 32 t [],(qbM w).2=true:=fun w hw=>by
  obtain⟨j,hj⟩:=qHk.1 hw;have hl:=(qEW.1 hj).1;obtain⟨v,v1,v2,_⟩:=h3 j (by omega);rw[hj]at v1;injection v1 with v1;rw[v1];exact v2
 have hm:(qaF 32 t []).map (fun w=>(qbM w).1)=m:=by
  refine qGO fun j=>?_;by_cases hj:j<8
  ·obtain⟨v,v1,v2,v3⟩:=h3 j hj;rw[qEU,v1,v3];rfl
  ·rw[qFV (by simp;omega),qFV (by omega)]
 unfold qeN;rw[if_neg (by simp[h1,h8]),if_pos (qED.2 hall),hm]
theorem qn8 {t:List UInt8} {w:List UInt8} (hw:w∈qaF 32 t []) (hk:(qbM w).2=false):qeN t=(z8,false):=by
 unfold qeN;split
 ·rfl
 ·rw[if_neg fun e=>by
   rw[qED]at e;rw[e w hw]at hk;cases hk]
theorem qrq (t:List UInt8) (hl:t.length≤1048576):CV prog 88 [.str t] (.tup [.agg ((qeN t).1.flatMap PT.row),.bool (qeN t).2]):=by
 have c1:=qh7 t 32 hl;have hw:=qbp 32 t [];simp only[qFE,qFB]at hw;refine cvx func88 [] ntmps88 rfl rfl rfl ?_ (hcv:=by simp[qe1]);simp;refine c1.call ?_;by_cases h1:400<t.length
 ·rw[show qeN t=(z8,false) by unfold qeN;rw[if_pos (.inl h1)]];simp[show(400:Int)<t.length by omega,h1,z8,zPT,PT.row]
 by_cases h8:(qaF 32 t []).length=8
 ·obtain⟨R,hR⟩:∃ R,qeN t=R:=⟨_,rfl⟩;have hend:=@qq3 t;have hbad:=@qn8 t;rw[hR]at hend hbad ⊢;generalize qaF 32 t []=ws at *
  simp[show ¬ (400:Int)<t.length by omega,h1,h8,qcr];refine qbj (X:=Nat×List PT) [2,3,5,21,22,23] [(2,2),(5,5)] (fun x=>[(23,.int .i64 x.1)]) (fun x=>[(2,⟨24,[z8.flatMap PT.row]⟩),(5,⟨24,[x.2.flatMap PT.row]⟩)]) (fun x=>8-x.1) (mpS ws) (0,z8) ⟨by omega,rfl,by omega⟩ ?_ (he:=by simp[qag,z8,zPT,PT.row]);rintro⟨i,m⟩ hg;have hg':=hg;obtain⟨hi,hm,hj⟩:=hg';simp only at hi hm hj;have hml:(m.flatMap PT.row).length=24:=by rw[qks,hm]
  have hsum:(List.map (fun a:PT=>3) m).sum=24:=by
   have:=hml;rw[qHc]at this;exact this
  have hmt:List.take 24 (m.flatMap PT.row)=m.flatMap PT.row:=qEF (by omega);have hzt:List.drop 24 (z8.flatMap PT.row)=[]:=qF9 (by decide);by_cases h2:i<8
  ·obtain⟨w,f1⟩:∃ w,ws[i]?=some w:=⟨_,qEq (by omega)⟩;have f0:ws[i]'(by omega)=w:=(qEW.1 f1).2;have h2':(i:Int)<8:=by omega
   have hwl:=hw w (qGj f1);have c2:=qeQ w (by omega);simp only[PT.row]at c2;have e2:=qao ((i:Int)+1) (by omega) (by omega);simp[h2',h2,h8,f0,f1,qcr,qag];refine c2.call ?_;have hstep:=qn7 hg h2 f1;cases hk:(qbM w).2 with
   | false =>
    have:=hbad (qGj f1) hk;subst this;simp[z8,zPT,PT.row]
   | true =>
    have hs:=hstep hk;simp[hml,hsum,hmt];refine⟨by omega,by omega,nx (i+1,m.set i (qbM w).1) [(2,2),(5,5)] hs (by simp only;omega) (h4:=?_)⟩;have fs:=(qhN m i (qbM w).1 (show i<m.length by omega)).symm;simp only[PT.row,qGh,qE0]at fs;simp[qag,e2,fs]
  ·have hie:i=8:=by omega
   subst hie;have:=hend h1 h8 hg;subst this;simp[qag,hsum,hmt,hzt]
 ·rw[show qeN t=(z8,false) by unfold qeN;rw[if_pos (.inr h8)]];simp[show ¬ (400:Int)<t.length by omega,h1,qcr,h8,show ¬ ((qaF 32 t []).length:Int)=8 by omega,z8,zPT,PT.row]
theorem qqm (t:List UInt8) (hl:t.length≤1048576):CV prog 162 [.str t] (.tup [.agg ((qeN t).1.flatMap PT.row),.bool (qeN t).2]):=by
 have c1:=qj3 t 32 hl;have hw:=qbp 32 t [];simp only[qFE,qFB]at hw;refine cvx func162 [] ntmps162 rfl rfl rfl ?_ (hcv:=by simp[qe1]);simp;refine c1.call ?_;by_cases h1:400<t.length
 ·rw[show qeN t=(z8,false) by unfold qeN;rw[if_pos (.inl h1)]];simp[show(400:Int)<t.length by omega,h1,z8,zPT,PT.row]
 by_cases h8:(qaF 32 t []).length=8
 ·obtain⟨R,hR⟩:∃ R,qeN t=R:=⟨_,rfl⟩;have hend:=@qq3 t;have hbad:=@qn8 t;have hok:=@qwB t;rw[hR]at hend hbad hok ⊢;generalize qaF 32 t []=ws at *
  simp[show ¬ (400:Int)<t.length by omega,h1,h8,qcr];refine qbj (X:=Nat×List PT) [0,2,3,4,5,6] [(2,2),(4,4)] (fun x=>[(6,.int .i64 x.1)]) (fun x=>[(2,⟨24,[z8.flatMap PT.row]⟩),(4,⟨24,[x.2.flatMap PT.row]⟩)]) (fun x=>8-x.1) (mpS ws) (0,z8) ⟨by omega,rfl,by omega⟩ ?_ (he:=by simp[qag,z8,zPT,PT.row]);rintro⟨i,m⟩ hg;have hg':=hg;obtain⟨hi,hm,hj⟩:=hg';simp only at hi hm hj;have hml:(m.flatMap PT.row).length=24:=by rw[qks,hm]
  have hsum:(List.map (fun a:PT=>3) m).sum=24:=by
   have:=hml;rw[qHc]at this;exact this
  have hmt:List.take 24 (m.flatMap PT.row)=m.flatMap PT.row:=qEF (by omega);have hzt:List.drop 24 (z8.flatMap PT.row)=[]:=qF9 (by decide);by_cases h2:i<8
  ·obtain⟨w,f1⟩:∃ w,ws[i]?=some w:=⟨_,qEq (by omega)⟩;have f0:ws[i]'(by omega)=w:=(qEW.1 f1).2;have h2':(i:Int)<8:=by omega
   have hwl:=hw w (qGj f1);have c2:=qfQ w (by omega);simp only[PT.row]at c2;have e2:=qao ((i:Int)+1) (by omega) (by omega);simp[h2',h2,h8,f0,f1,qcr,qag];refine c2.call ?_;have hstep:=qn7 hg h2 f1;cases hk:(qbM w).2 with
   | false =>
    have:=hbad (qGj f1) hk;subst this;simp[z8,zPT,PT.row]
   | true =>
    have hs:=hstep hk;simp[hml,hsum,hmt];refine⟨by omega,by omega,nx (i+1,m.set i (qbM w).1) [(2,2),(4,4)] hs (by simp only;omega) (h4:=?_)⟩;have fs:=(qhN m i (qbM w).1 (show i<m.length by omega)).symm;simp only[PT.row,qGh,qE0]at fs;simp[qag,e2,fs]
  ·have hie:i=8:=by omega
   subst hie;have:=hend h1 h8 hg;subst this;have ht:=hok rfl;have c3:=qle m hm;simp only at ht;rw[ht.1]at c3;simp[qag,hml,hsum,hmt,hzt];refine c3.call ?_;simp[qag,hml,hsum,hmt,hzt]
 ·rw[show qeN t=(z8,false) by unfold qeN;rw[if_pos (.inr h8)]];simp[show ¬ (400:Int)<t.length by omega,h1,qcr,h8,show ¬ ((qaF 32 t []).length:Int)=8 by omega,z8,zPT,PT.row]
theorem qiH (c:UInt8):∀ (w s:List UInt8) (i:Int),(∀ x∈w,x≠c)→qa2 c (w++c::s) i=i+w.length
 | [],s,i,_=>by simp[qa2]
 | x::w,s,i,h=>by
  have hx:=h x (by simp);rw[qGh,qa2,if_neg hx,qiH c w s (i+1) fun y hy=>h y (by simp[hy])];simp;omega
theorem qlz {s:List UInt8} (h:s.length≤400):qbb (qdS s)=(s,true):=by
 have hs:qdS s=qm9 (qjh s (1+s.length % 997)) []++58::s:=by
  unfold qdS;rw[if_neg (by omega)]
 have hd:∀ x∈qm9 (qjh s (1+s.length % 997)) [],x≠(58:UInt8):=fun x hx=>by
  rw[qhQ,qGw]at hx;have:=qot _ x hx;rintro rfl;simp at this
 have hf:qa2 58 (qdS s) 0=(qm9 (qjh s (1+s.length % 997)) []).length:=by
  rw[hs,qiH 58 _ _ 0 hd];simp
 have hdr:(qdS s).drop ((qa2 58 (qdS s) 0).toNat+1)=s:=by
  rw[hf,hs];simp
 unfold qbb;rw[hdr,if_neg (by omega),if_pos rfl]
theorem qft (n:Int) (c:UInt8) (hc:c.toNat<48):∀ x∈dec n,x≠c:=fun x hx=>by
 unfold dec at hx;rw[qhQ,qGw]at hx;have:=qot _ x hx;rintro rfl;omega
theorem qil {p:PT} (h:qaI p=true):∀ x∈qaL p,x≠(32:UInt8):=by
 by_cases h0:p.pa=0
 ·unfold qaL;rw[if_neg (by simp[h]),if_pos h0];intro x hx;simp only[qGX]at hx;subst hx;decide
 ·rw[qdo (by simp[qan,h,h0])];exact qob _ _ _
theorem qjb {n:Int} {p:PT} {t:List UInt8} (h:qa3 n p=t) (ht:t≠[]) :
  (1≤n∧n≤1000000∧qan p=true)∧(qbb t).2=true∧qaF 32 (qbb t).1 []=[dec n,qaL p,dec n]:=by
 unfold qa3 at h;split at h
 ·exact absurd h.symm ht
 ·rename_i hc;have h1:1≤n∧n≤1000000∧qan p=true:=by
   refine⟨by omega,by omega,?_⟩;cases hk:qan p with
   | true=>rfl
   | false=>exact absurd (.inr (.inr hk)) hc
  have hl1:=qav n (by omega);have hl2:=qbn p;have hj:dec n++(32::(qaL p++(32::dec n)))=Lib.join [dec n,qaL p,dec n] [32]:=by
   rw[qaM,qaM,Lib.join_one]
  have ho:=qlz (s:=dec n++(32::(qaL p++(32::dec n)))) (by simp;omega);rw[h]at ho;rw[ho];refine⟨h1,rfl,?_⟩;rw[hj,qdd 32 _ (by simp)];intro w hw;simp only[qFO,qFX,or_false]at hw;rcases hw with rfl | rfl | rfl
  ·exact qft n 32 (by decide)
  ·exact qil (qdX h1.2.2).1
  ·exact qft n 32 (by decide)
def qml (t:List UInt8):(Int×PT)×Bool :=
 match qaF 32 (qbb t).1 []with
 | [a,b,_]=>if (qbb t).2=true∧qa3 (qax a).1 (qbM b).1=t then (((qax a).1,(qbM b).1),true) else ((0,zPT),false)
 | _=>((0,zPT),false)
theorem qt2 {t:List UInt8} (h:(qaF 32 (qbb t).1 []).length≠3):qml t=((0,zPT),false):=by
 unfold qml;split
 ·rename_i a b c hc;rw[hc]at h;simp at h
 ·rfl
theorem qt3 {t a b c:List UInt8} (h:qaF 32 (qbb t).1 []=[a,b,c]):qml t=if (qbb t).2=true∧qa3 (qax a).1 (qbM b).1=t then (((qax a).1,(qbM b).1),true) else ((0,zPT),false):=by
 unfold qml;rw[h]
theorem qdZ {n:Int} (h1:0≤n) (h2:n≤1000000000):qax (dec n)=(n,true)∧qbA (dec n)=true∧qaE (dec n)=n:=by
 rw[← qeq n h1];have a:=qqb (n:=n) (by omega);obtain⟨b,c⟩:=qjK (n:=n) (by omega) (by omega);refine⟨a,?_,c⟩;simp only[qdB,Bool.and_eq_true]at b;exact b.1
theorem qAw {t a b c:List UInt8} (h:qaF 32 (qbb t).1 []=[a,b,c]):t≠[]:=by
 rintro rfl;simp[qbb,qa2,qaF]at h
theorem qyx {t a b c:List UInt8} (h:qaF 32 (qbb t).1 []=[a,b,c]) :
  qml t=if qbA a=true∧(qbM b).2=true∧qa3 (qaE a) (qbM b).1=t then ((qaE a,(qbM b).1),true) else ((0,zPT),false):=by
 have hne:=qAw h;rw[qt3 h];by_cases q:(qbb t).2=true∧qa3 (qax a).1 (qbM b).1=t
 ·rw[if_pos q];obtain⟨⟨w1,w2,w3⟩,w4,w5⟩:=qjb q.2 hne;rw[h]at w5;simp only[qFU,and_true]at w5;obtain⟨e1,e2,e3⟩:=w5;obtain⟨d1,d2,d3⟩:=qdZ (n:=(qax a).1) (by omega) (by omega);have hb:qbM b=((qbM b).1,true):=by
   have:=qgz (qdX w3).1;rw[← e2]at this;exact this
  rw[← e1]at d2 d3;rw[if_pos ⟨d2,by rw[hb],by rw[d3];exact q.2⟩,d3]
 ·rw[if_neg q];by_cases g:qbA a=true∧(qbM b).2=true∧qa3 (qaE a) (qbM b).1=t
  ·exfalso;obtain⟨⟨w1,w2,w3⟩,w4,w5⟩:=qjb g.2.2 hne;rw[h]at w5;simp only[qFU,and_true]at w5;obtain⟨e1,e2,e3⟩:=w5;obtain⟨d1,d2,d3⟩:=qdZ (n:=qaE a) (by omega) (by omega);rw[← e1]at d1;exact q ⟨w4,by rw[d1];exact g.2.2⟩
  ·rw[if_neg g]
theorem qoP (t:List UInt8) (hl:t.length≤1048576):CV prog 73 [.str t] (.tup [.int .i64 (qml t).1.1,.agg (qml t).1.2.row,.bool (qml t).2]):=by
 have c1:=quf t hl;have hol:=qfY t;have c2:=qj3 (qbb t).1 32 (by omega);have hw:=qbp 32 (qbb t).1 [];simp only[qFE,qFB]at hw;refine cvx func73 [(9,[zI 0,zJ 1 [10] [],zJ 2 [] [10],zI 3,zI 4])] ntmps73 rfl rfl rfl ?_ (hcv:=by simp[PT.row]);simp;refine c1.call ?_;simp;refine c2.call ?_;by_cases h3:(qaF 32 (qbb t).1 []).length=3
 ·obtain⟨a,b,c,hc⟩:=qd9 h3;rw[hc]at hw;have la:=hw a (by simp);have lb:=hw b (by simp);have e:=qt3 hc;have n1:=qh8 a (by omega);have n2:=qfQ b (by omega);have n3:=quh (qax a).1 (qbM b).1;simp only[PT.row]at n2 n3;cases ho:(qbb t).2 with
  | false =>
   rw[if_neg (by simp[ho])]at e;rw[e];simp[zPT,PT.row]
  | true =>
   simp[hc,qcr];refine n1.call ?_;simp;refine n2.call ?_;simp[PT.row];refine n3.call ?_;by_cases q:qa3 (qax a).1 (qbM b).1=t
   ·rw[if_pos ⟨ho,q⟩]at e;rw[e];simp[q,PT.row]
   ·rw[if_neg fun x=>q x.2]at e;rw[e];simp[q,zPT,PT.row]
 ·rw[qt2 h3];simp[qcr,h3,show ¬ ((qaF 32 (qbb t).1 []).length:Int)=3 by omega,zPT,PT.row]
theorem qo7 (t:List UInt8) (hl:t.length≤1048576):CV prog 172 [.str t] (.tup [.int .i64 (qml t).1.1,.agg (qml t).1.2.row,.bool (qml t).2]):=by
 have c1:=quz t hl;have hol:=qfY t;have c2:=qh7 (qbb t).1 32 (by omega);have hw:=qbp 32 (qbb t).1 [];simp only[qFE,qFB]at hw;refine cvx func172 [(9,[zI 0,zJ 1 [10] [],zJ 2 [] [10],zI 3,zI 4])] ntmps172 rfl rfl rfl ?_ (hcv:=by simp[PT.row]);simp;refine c1.call ?_;simp;refine c2.call ?_;by_cases h3:(qaF 32 (qbb t).1 []).length=3
 ·obtain⟨a,b,c,hc⟩:=qd9 h3;rw[hc]at hw;have la:=hw a (by simp);have lb:=hw b (by simp);have e:=qyx hc;have n1:=qmi a (by omega);have n2:=qeQ b (by omega);have n3:=quA (qaE a) (qbM b).1;simp only[PT.row]at n2 n3;simp[hc,qcr];refine n1.call ?_;simp;refine n2.call ?_;cases hk:qbA a with
  | false =>
   rw[if_neg (by simp[hk])]at e;rw[e];simp[qhO,zPT,PT.row]
  | true =>
   cases hp:(qbM b).2 with
   | false =>
    rw[if_neg (by simp[hp])]at e;rw[e];simp[qhO,zPT,PT.row]
   | true =>
    simp[qhO,PT.row];refine n3.call ?_;by_cases q:qa3 (qaE a) (qbM b).1=t
    ·rw[if_pos ⟨hk,hp,q⟩]at e;rw[e];simp[q,PT.row]
    ·rw[if_neg fun x=>q x.2.2]at e;rw[e];simp[q,zPT,PT.row]
 ·rw[qt2 h3];simp[qcr,h3,show ¬ ((qaF 32 (qbb t).1 []).length:Int)=3 by omega,zPT,PT.row]
theorem qou:∀ d:Fin 16,qa2 (qpD d.val) hexL 0=(d.val:Int):=by decide
theorem qmu:∀ (s out:List UInt8),qff (qey s) out=(out++s,true)
 | [],out=>by simp[qey,qff]
 | c::r,out=>by
  have hc:c.toNat<256:=c.toNat_lt;have h1:=qou ⟨c.toNat / 16,by omega⟩;have h2:=qou ⟨c.toNat % 16,by omega⟩;simp only at h1 h2;rw[qey,qff,h1,h2,if_neg (by omega),qmu r];have:UInt8.ofNat ((c.toNat / 16:Nat) * 16+(c.toNat % 16:Nat):Int).toNat=c:=by
   have e:((c.toNat / 16:Nat) * 16+(c.toNat % 16:Nat):Int).toNat=c.toNat:=by omega
   rw[e];simp
  rw[this];simp
theorem quP:∀ d:Fin 16,qpD d.val≠(32:UInt8):=by decide
theorem qrA:∀ (s:List UInt8),∀ x∈qey s,x≠(32:UInt8)
 | [],x,hx=>by simp[qey]at hx
 | c::r,x,hx=>by
  have hc:c.toNat<256:=c.toNat_lt;rw[qey]at hx;rcases qFO.1 hx with rfl | hx
  ·exact quP ⟨c.toNat / 16,by omega⟩
  rcases qFO.1 hx with rfl | hx
  ·exact quP ⟨c.toNat % 16,by omega⟩
  ·exact qrA r x hx
theorem qw3 {s:List UInt8} (h:qey s=[]):s=[]:=by
 cases s with
 | nil=>rfl
 | cons c r=>simp[qey]at h
theorem qw1 (s:List UInt8):∀ x∈qhK s,x≠(32:UInt8):=by
 unfold qhK;split
 ·intro x hx;simp only[qGX]at hx;subst hx;decide
 ·exact qrA s
def unT (w:List UInt8):List UInt8:=if w=[45] then [] else (qff w []).1
theorem qw2 (s:List UInt8):qey s≠[45]:=fun h=>by
 have:=qf8 s;rw[h]at this;simp at this;omega
theorem qvn (s:List UInt8):unT (qhK s)=s∧(qhK s=[45]∨(qff (qhK s) []).2=true):=by
 unfold qhK;split
 ·rename_i h;have:=qw3 h;subst this;exact⟨rfl,.inl rfl⟩
 ·rw[qmu s []];unfold unT;rw[if_neg (qw2 s),qmu s []];exact⟨rfl,.inr rfl⟩
theorem qmI {s:List UInt8} (h:qbN s=true):∀ x∈s,x≠(32:UInt8):=fun x hx=>by
 simp only[qbN,Bool.and_eq_true,qED]at h;have:=h.1.1 x hx;rintro rfl;simp[qmp]at this
theorem qra {r:LR} {t:List UInt8} (h:qbS r=t) (ht:t≠[]) :
  qdc r=true∧(qbb t).2=true∧qaF 32 (qbb t).1 []=[dec r.txg++46::dec r.seq,r.op.a,dec r.op.i,qhK r.op.text,dec r.txg++46::dec r.seq]:=by
 unfold qbS at h;split at h
 ·exact absurd h.symm ht
 ·rename_i hc;have hk:qdc r=true:=by simpa using hc
  have hsp:(1≤r.txg∧r.txg≤1000000)∧(0≤r.seq∧r.seq<8)∧r.op.kind=3∧qbN r.op.a=true∧r.op.b=[]∧(0≤r.op.i∧r.op.i<8)∧r.op.text.length≤24:=by
   have:=hk;simp only[qdc,Bool.and_eq_true,decide_eq_true_eq]at this;grind
  obtain⟨s1,s2,s3,s4,s5,s6,s7⟩:=hsp;have l1:=qav r.txg (by omega);have l2:=qav r.seq (by omega);have l3:=qav r.op.i (by omega);have l4:r.op.a.length≤6:=by
   simp only[qbN,Bool.and_eq_true,decide_eq_true_eq]at s4;exact s4.2
  have l5:(qhK r.op.text).length≤48:=by
   have:=qf8 r.op.text;unfold qhK;split
   ·simp
   ·omega
  have hj:dec r.txg++(46::(dec r.seq++(32::(r.op.a++(32::(dec r.op.i++(32::(qhK r.op.text++(32::(dec r.txg++(46::dec r.seq))))))))))) =
    Lib.join [dec r.txg++46::dec r.seq,r.op.a,dec r.op.i,qhK r.op.text,dec r.txg++46::dec r.seq] [32]:=by
   rw[qaM,qaM,qaM,qaM,Lib.join_one];simp
  have ho:=qlz (s:=dec r.txg++(46::(dec r.seq++(32::(r.op.a++(32::(dec r.op.i++(32::(qhK r.op.text++(32::(dec r.txg++(46::dec r.seq)))))))))))) (by simp;omega);rw[h]at ho;rw[ho];refine⟨hk,rfl,?_⟩;have hm:∀ x∈dec r.txg++46::dec r.seq,x≠(32:UInt8):=fun x hx=>by
   simp only[qFQ,qFO]at hx;rcases hx with hx | rfl | hx
   ·exact qft _ 32 (by decide) x hx
   ·decide
   ·exact qft _ 32 (by decide) x hx
  rw[hj,qdd 32 _ (by simp)];intro w hw;simp only[qFO,qFX,or_false]at hw;rcases hw with rfl | rfl | rfl | rfl | rfl
  ·exact hm
  ·exact qmI s4
  ·exact qft _ 32 (by decide)
  ·exact qw1 _
  ·exact hm
def zBO:BO:=⟨0,[],[],0,[]⟩
def zLR:LR:=⟨0,0,zBO⟩
def qkX (t:List UInt8):LR×Bool :=
 match qaF 32 (qbb t).1 []with
 | [m,a,i,x,_]=>match qaF 46 m []with
  | [p,q]=>if (qbb t).2=true∧qbS ⟨(qax p).1,(qax q).1,⟨3,a,[],(qax i).1,unT x⟩⟩=t then (⟨(qax p).1,(qax q).1,⟨3,a,[],(qax i).1,unT x⟩⟩,true) else (zLR,false)
  | _=>(zLR,false)
 | _=>(zLR,false)
theorem quw {t:List UInt8} (h:(qaF 32 (qbb t).1 []).length≠5):qkX t=(zLR,false):=by
 unfold qkX;split
 ·rename_i hc;rw[hc]at h;simp at h
 ·rfl
theorem qrd {t m a i x y:List UInt8} (h:qaF 32 (qbb t).1 []=[m,a,i,x,y]) (hm:(qaF 46 m []).length≠2):qkX t=(zLR,false):=by
 unfold qkX;rw[h];simp only;split
 ·rename_i hc;rw[hc]at hm;simp at hm
 ·rfl
theorem qoa {t m a i x y p q:List UInt8} (h:qaF 32 (qbb t).1 []=[m,a,i,x,y]) (hm:qaF 46 m []=[p,q]) :
  qkX t=if (qbb t).2=true∧qbS ⟨(qax p).1,(qax q).1,⟨3,a,[],(qax i).1,unT x⟩⟩=t then (⟨(qax p).1,(qax q).1,⟨3,a,[],(qax i).1,unT x⟩⟩,true) else (zLR,false):=by
 unfold qkX;rw[h];simp only[hm]
theorem qxu {t m a i x y:List UInt8} (h:qaF 32 (qbb t).1 []=[m,a,i,x,y]):t≠[]:=by
 rintro rfl;simp[qbb,qa2,qaF]at h
theorem qxs {n k:Int}:qaF 46 (dec n++46::dec k) []=[dec n,dec k]:=by
 rw[qkM 46 _ _ [] (qft n 46 (by decide)),qkL 46 _ [] (qft k 46 (by decide))];rfl
theorem qtA {n k:Int}:qeY 46 (dec n++46::dec k)=(dec n,dec k,true):=by
 have:=qiH 46 (dec n) (dec k) 0 (qft n 46 (by decide));unfold qeY;rw[this,if_neg (by omega)];simp
theorem qzS {t m a i x y:List UInt8} (h:qaF 32 (qbb t).1 []=[m,a,i,x,y]) :
  qkX t=if qbA (qeY 46 m).1=true∧qbA (qeY 46 m).2.1=true∧qbA i=true∧(x=[45]∨(qff x []).2=true)∧qbS ⟨qaE (qeY 46 m).1,qaE (qeY 46 m).2.1,⟨3,a,[],qaE i,unT x⟩⟩=t
   then (⟨qaE (qeY 46 m).1,qaE (qeY 46 m).2.1,⟨3,a,[],qaE i,unT x⟩⟩,true) else (zLR,false):=by
 have hne:=qxu h;have key:∀ r:LR,qbS r=t→m=dec r.txg++46::dec r.seq∧a=r.op.a∧i=dec r.op.i∧x=qhK r.op.text∧(qbb t).2=true∧qdc r=true:=fun r hr=>by
  obtain⟨w1,w2,w3⟩:=qra hr hne;rw[h]at w3;simp only[qFU,and_true]at w3;exact⟨w3.1,w3.2.1,w3.2.2.1,w3.2.2.2.1,w2,w1⟩
 have bnd:∀ r:LR,qdc r=true→(1≤r.txg∧r.txg≤1000000)∧(0≤r.seq∧r.seq<8)∧(0≤r.op.i∧r.op.i<8):=fun r hk=>by
  simp only[qdc,Bool.and_eq_true,decide_eq_true_eq]at hk;grind
 by_cases g:qbA (qeY 46 m).1=true∧qbA (qeY 46 m).2.1=true∧qbA i=true∧(x=[45]∨(qff x []).2=true)∧qbS ⟨qaE (qeY 46 m).1,qaE (qeY 46 m).2.1,⟨3,a,[],qaE i,unT x⟩⟩=t
 ·rw[if_pos g];obtain⟨k1,k2,k3,k4,k5,k6⟩:=key _ g.2.2.2.2;obtain⟨b1,b2,b3⟩:=bnd _ k6;simp only at k1 k3 b1 b2 b3;have hc:=@qxs (qaE (qeY 46 m).1) (qaE (qeY 46 m).2.1);rw[← k1]at hc;rw[qoa h hc];obtain⟨d1,_⟩:=qdZ (n:=qaE (qeY 46 m).1) (by omega) (by omega);obtain⟨d2,_⟩:=qdZ (n:=qaE (qeY 46 m).2.1) (by omega) (by omega);obtain⟨d3,_⟩:=qdZ (n:=qaE i) (by omega) (by omega);rw[← k3]at d3;rw[d1,d2,d3,if_pos ⟨k5,g.2.2.2.2⟩]
 ·rw[if_neg g];by_cases h2:(qaF 46 m []).length=2
  ·obtain⟨p,q,hc⟩:∃ p q,qaF 46 m []=[p,q]:=by
    match hm:qaF 46 m [],h2 with
    | [p,q],_=>exact⟨p,q,rfl⟩
   rw[qoa h hc];split
   ·rename_i hs;exfalso;obtain⟨k1,k2,k3,k4,k5,k6⟩:=key _ hs.2;obtain⟨b1,b2,b3⟩:=bnd _ k6;simp only at k1 k3 k4 b1 b2 b3;have h1:=@qtA (qax p).1 (qax q).1;rw[← k1]at h1;obtain⟨_,d1,e1⟩:=qdZ (n:=(qax p).1) (by omega) (by omega);obtain⟨_,d2,e2⟩:=qdZ (n:=(qax q).1) (by omega) (by omega);obtain⟨_,d3,e3⟩:=qdZ (n:=(qax i).1) (by omega) (by omega);rw[← k3]at d3 e3;refine g ⟨by rw[h1];exact d1,by rw[h1];exact d2,d3,?_,?_⟩
    ·have:=(qvn (unT x)).2;rw[← k4]at this;exact this
    ·rw[h1];simp only;rw[e1,e2,e3];exact hs.2
   ·rfl
  ·exact qrd h h2
theorem qrE {α:Type} {l:List α} (h:l.length=5):∃ a b c d e,l=[a,b,c,d,e]:=by
 match l,h with
 | [a,b,c,d,e],_=>exact⟨a,b,c,d,e,rfl⟩
theorem qnt {α:Type} {l:List α} (h:l.length=2):∃ a b,l=[a,b]:=by
 match l,h with
 | [a,b],_=>exact⟨a,b,rfl⟩
theorem qns:∀ (s out:List UInt8),(qff s out).1.length≤out.length+s.length
 | [],out=>by simp[qff]
 | [_],out=>by simp[qff]
 | a::b::r,out=>by
  rw[qff];split
  ·simp
  ·have:=qns r (out++[UInt8.ofNat (qa2 a hexL 0 * 16+qa2 b hexL 0).toNat]);simp at this ⊢;omega
theorem qpM (x:List UInt8):(unT x).length≤x.length:=by
 unfold unT;split
 ·simp
 ·have:=qns x [];simpa using this
theorem qld (t:List UInt8) (hl:t.length≤1000000):CV prog 271 [.str t] (.tup [.agg (qkX t).1.row,.bool (qkX t).2]):=by
 have c1:=quf t (by omega);have hol:=qfY t;have c2:=qj3 (qbb t).1 32 (by omega);have hw:=qbp 32 (qbb t).1 [];simp only[qFE,qFB]at hw;refine cvx func271 [] ntmps271 rfl rfl rfl ?_ (hcv:=by simp[LR.row,BO.row]);simp;refine c1.call ?_;simp;refine c2.call ?_;by_cases h5:(qaF 32 (qbb t).1 []).length=5
 ·obtain⟨m,a,i,x,y,hc⟩:=qrE h5;rw[hc]at hw;have lm:=hw m (by simp);have la:=hw a (by simp);have li:=hw i (by simp);have lx:=hw x (by simp);have lt:=qpM x;have c3:=qj3 m 46 (by omega);have hw2:=qbp 46 m [];simp only[qFE,qFB]at hw2;cases ho:(qbb t).2 with
  | false =>
   have e:qkX t=(zLR,false):=by
    by_cases h2:(qaF 46 m []).length=2
    ·obtain⟨p,q,hm⟩:=qnt h2;rw[qoa hc hm,if_neg (by simp[ho])]
    ·exact qrd hc h2
   rw[e];simp[zLR,zBO,LR.row,BO.row]
  | true =>
   simp[hc,qcr];refine c3.call ?_;by_cases h2:(qaF 46 m []).length=2
   ·obtain⟨p,q,hm⟩:=qnt h2;rw[hm]at hw2;have lp:=hw2 p (by simp);have lq:=hw2 q (by simp);have e:=qoa hc hm;have n1:=qh8 p (by omega);have n2:=qh8 q (by omega);have n3:=qh8 i (by omega);have n4:=qB5 x (by omega);have n5:=qqn ⟨(qax p).1,(qax q).1,⟨3,a,[],(qax i).1,unT x⟩⟩ (by simp only;omega) (by simp only;omega);simp only[LR.row,BO.row]at n5;simp[hm,qcr];refine n1.call ?_;simp;refine n2.call ?_;simp;refine n3.call ?_;by_cases hx:x=[45]
    ·have hu:unT x=[]:=by unfold unT;rw[if_pos hx]
     rw[hu]at n5 e;simp[hx,LR.row,BO.row];refine n5.call ?_;by_cases q2:qbS ⟨(qax p).1,(qax q).1,⟨3,a,[],(qax i).1,[]⟩⟩=t
     ·rw[if_pos ⟨ho,q2⟩]at e;rw[e];simp[q2,LR.row,BO.row]
     ·rw[if_neg fun z=>q2 z.2]at e;rw[e];simp[q2,zLR,zBO,LR.row,BO.row]
    ·have hu:unT x=(qff x []).1:=by unfold unT;rw[if_neg hx]
     rw[hu]at n5 e;simp[hx,LR.row,BO.row];refine n4.call ?_;simp;refine n5.call ?_;by_cases q2:qbS ⟨(qax p).1,(qax q).1,⟨3,a,[],(qax i).1,(qff x []).1⟩⟩=t
     ·rw[if_pos ⟨ho,q2⟩]at e;rw[e];simp[q2,LR.row,BO.row]
     ·rw[if_neg fun z=>q2 z.2]at e;rw[e];simp[q2,zLR,zBO,LR.row,BO.row]
   ·rw[qrd hc h2];simp[qcr,h2,show ¬ ((qaF 46 m []).length:Int)=2 by omega,zLR,zBO,LR.row,BO.row]
 ·rw[quw h5];simp[qcr,h5,show ¬ ((qaF 32 (qbb t).1 []).length:Int)=5 by omega,zLR,zBO,LR.row,BO.row]
theorem qlK (t:List UInt8) (hl:t.length≤1000000):CV prog 215 [.str t] (.tup [.agg (qkX t).1.row,.bool (qkX t).2]):=by
 have c1:=quz t (by omega);have hol:=qfY t;have c2:=qh7 (qbb t).1 32 (by omega);have hw:=qbp 32 (qbb t).1 [];simp only[qFE,qFB]at hw;refine cvx func215 [] ntmps215 rfl rfl rfl ?_ (hcv:=by simp[LR.row,BO.row]);simp;refine c1.call ?_;simp;refine c2.call ?_;by_cases h5:(qaF 32 (qbb t).1 []).length=5
 ·obtain⟨m,a,i,x,y,hc⟩:=qrE h5;rw[hc]at hw;have lm:=hw m (by simp);have la:=hw a (by simp);have li:=hw i (by simp);have lx:=hw x (by simp);have lt:=qpM x;have lc:=qoA 46 m;have c3:=qDw m 46 (by omega);have n1:=qmi (qeY 46 m).1 (by omega);have n2:=qmi (qeY 46 m).2.1 (by omega);have n3:=qmi i (by omega);have n4:=qCC x (by omega);have e:=qzS hc;generalize qeY 46 m=M at *
  obtain⟨p,q,b⟩:=M;simp only at lc n1 n2 e c3;have n5:=qrh ⟨qaE p,qaE q,⟨3,a,[],qaE i,unT x⟩⟩ (by simp only;omega) (by simp only;omega);simp only[LR.row,BO.row]at n5;simp[hc,qcr];refine c3.call ?_;simp;refine n1.call ?_;simp;refine n2.call ?_;simp[qcr];refine n3.call ?_;simp[qcr];refine n4.call ?_;by_cases hx:x=[45]
  ·have hu:unT x=[]:=by unfold unT;rw[if_pos hx]
   rw[hu]at n5 e;cases k1:qbA p with
   | false =>
    rw[if_neg (by simp[k1])]at e;rw[e];simp[hx,qhO,zLR,zBO,LR.row,BO.row]
   | true =>
    cases k2:qbA q with
    | false =>
     rw[if_neg (by simp[k2])]at e;rw[e];simp[hx,qhO,zLR,zBO,LR.row,BO.row]
    | true =>
     cases k3:qbA i with
     | false =>
      rw[if_neg (by simp[k3])]at e;rw[e];simp[hx,qhO,zLR,zBO,LR.row,BO.row]
     | true =>
      simp[hx,qhO,LR.row,BO.row];refine n5.call ?_;by_cases q2:qbS ⟨qaE p,qaE q,⟨3,a,[],qaE i,[]⟩⟩=t
      ·rw[if_pos ⟨k1,k2,k3,.inl hx,q2⟩]at e;rw[e];simp[q2,LR.row,BO.row]
      ·rw[if_neg fun z=>q2 z.2.2.2.2]at e;rw[e];simp[q2,zLR,zBO,LR.row,BO.row]
  ·have hu:unT x=(qff x []).1:=by unfold unT;rw[if_neg hx]
   rw[hu]at n5 e;cases k1:qbA p with
   | false =>
    rw[if_neg (by simp[k1])]at e;rw[e];simp[hx,qhO,zLR,zBO,LR.row,BO.row]
   | true =>
    cases k2:qbA q with
    | false =>
     rw[if_neg (by simp[k2])]at e;rw[e];simp[hx,qhO,zLR,zBO,LR.row,BO.row]
    | true =>
     cases k3:qbA i with
     | false =>
      rw[if_neg (by simp[k3])]at e;rw[e];simp[hx,qhO,zLR,zBO,LR.row,BO.row]
     | true =>
      cases k4:(qff x []).2 with
      | false =>
       rw[if_neg (by simp[hx,k4])]at e;rw[e];simp[hx,qhO,zLR,zBO,LR.row,BO.row]
      | true =>
       simp[hx,qhO,LR.row,BO.row];refine n5.call ?_;by_cases q2:qbS ⟨qaE p,qaE q,⟨3,a,[],qaE i,(qff x []).1⟩⟩=t
       ·rw[if_pos ⟨k1,k2,k3,.inr k4,q2⟩]at e;rw[e];simp[q2,LR.row,BO.row]
       ·rw[if_neg fun z=>q2 z.2.2.2.2]at e;rw[e];simp[q2,zLR,zBO,LR.row,BO.row]
 ·rw[quw h5];simp[qcr,h5,show ¬ ((qaF 32 (qbb t).1 []).length:Int)=5 by omega,zLR,zBO,LR.row,BO.row]
abbrev RS2:=List CS×List PT
def mkS (nm:List UInt8) (k:Int) (fr:List UInt8) (h:PT):CS:=⟨nm,k,fr,z8,h,false⟩
def frR (w:List UInt8):List UInt8:=if w=[45] then [] else w
def qek (x:RS2) (l:List UInt8):RS2×Bool :=
 match qaF 32 l []with
 | [a,b]=>if a=[46] then ((x.1,x.2++[(qbM b).1]),(qbM b).2) else (x,false)
 | [a,b,c,d]=>((x.1++[mkS a (qax b).1 (frR c) (qbM d).1],x.2),(qax b).2 && (qbM d).2)
 | _=>(x,false)
def qdr (x:RS2) (l:List UInt8):RS2×Bool :=
 match qaF 32 l []with
 | [a,b]=>if (qbM b).2=true∧a=[46] then ((x.1,x.2++[(qbM b).1]),true) else (x,false)
 | [a,b,c,d]=>if (qbM d).2=true then ((x.1++[mkS a (qaE b) (frR c) (qbM d).1],x.2),qbA b) else (x,false)
 | _=>(x,false)
def qe5 (f:RS2→List UInt8→RS2×Bool):List (List UInt8)→RS2→Option RS2
 | [],x=>some x
 | l::r,x=>if (f x l).2=true then qe5 f r (f x l).1 else none
def qa6 (x:RS2):CO:=⟨0,x.1,[],x.2,false,[],0⟩
def qhW (t:List UInt8) (x:RS2):Bool:=decide (qay (qa6 x)=t) && qa9 (x.1.map csB) && decide (x.2.length≤8)
def qll:List UInt8:=[114,111,111,116]
def qmq (t:List UInt8) (o:Option RS2):CO×Bool :=
 match o with
 | some x=>if qhW t x=true then (qa6 x,true) else (zK,false)
 | none=>(zK,false)
def qhm (t:List UInt8):CO×Bool :=
 if 420<t.length∨(qaF 10 t []).head?≠some qll then (zK,false) else qmq t (qe5 qek (qaF 10 t []).tail ([],[]))
def qoO (s:CS):List UInt8:=s.name++(32::(dec s.kind++(32::(qel s.frm++(32::qaL s.home)))))
def qoY (p:PT):List UInt8:=46::32::qaL p
theorem qii:∀ {l:List CS} {t:List UInt8},qbC l=some t→(∀ s∈l,qbl s=true)∧t=Lib.joinTail [10] (l.map qoO)
 | [],t,h=>by
  simp only[qbC,qEd]at h;subst h;exact⟨by simp,by simp[Lib.joinTail]⟩
 | s::r,t,h=>by
  rw[qbC]at h;split at h
  ·cases h
  ·rename_i hk;cases hr:qbC r with
   | none=>rw[hr]at h;cases h
   | some u =>
    rw[hr]at h;simp only[qEk,qEd]at h;subst h;obtain⟨h1,h2⟩:=qii hr;refine⟨fun x hx=>?_,?_⟩
    ·rcases qFO.1 hx with rfl | hx
     ·simpa using hk
     ·exact h1 x hx
    ·subst h2;simp[Lib.joinTail,qdU,qoO]
theorem qhc:∀ {l:List PT} {t:List UInt8},qa0 l=some t→(∀ p∈l,qan p=true)∧t=Lib.joinTail [10] (l.map qoY)
 | [],t,h=>by
  simp only[qa0,qEd]at h;subst h;exact⟨by simp,by simp[Lib.joinTail]⟩
 | p::r,t,h=>by
  rw[qa0]at h;split at h
  ·cases h
  ·rename_i hk;cases hr:qa0 r with
   | none=>rw[hr]at h;cases h
   | some u =>
    rw[hr]at h;simp only[qEk,qEd]at h;subst h;obtain⟨h1,h2⟩:=qhc hr;refine⟨fun x hx=>?_,?_⟩
    ·rcases qFO.1 hx with rfl | hx
     ·simpa using hk
     ·exact h1 x hx
    ·subst h2;simp[Lib.joinTail,qoY]
theorem qlG (sep:List UInt8) (a b:List (List UInt8)):Lib.joinTail sep (a++b)=Lib.joinTail sep a++Lib.joinTail sep b:=by
 simp[Lib.joinTail]
theorem qlD {s:List UInt8} (h:qbN s=true):∀ x∈s,x≠(10:UInt8):=fun x hx=>by
 simp only[qbN,Bool.and_eq_true,qED]at h;have:=h.1.1 x hx;rintro rfl;simp[qmp]at this
theorem qik {p:PT} (h:qaI p=true):∀ x∈qaL p,x≠(10:UInt8):=by
 by_cases h0:p.pa=0
 ·unfold qaL;rw[if_neg (by simp[h]),if_pos h0];intro x hx;simp only[qGX]at hx;subst hx;decide
 ·rw[qdo (by simp[qan,h,h0]),qaM,qaM,Lib.join_one];intro x hx;simp only[qFQ,qFO]at hx;rcases hx with hx | rfl | hx | rfl | hx
  ·exact qgG _ 10 (by decide) (by decide) x hx
  ·decide
  ·exact qgG _ 10 (by decide) (by decide) x hx
  ·decide
  ·exact qgG _ 10 (by decide) (by decide) x hx
theorem qhS {s:CS} (h:qbl s=true):qbN s.name=true∧(s.frm=[]∨qbN s.frm=true)∧(1≤s.kind∧s.kind≤2)∧qaI s.home=true:=by
 simp only[qbl,Bool.and_eq_true,qFW,decide_eq_true_eq,List.isEmpty_iff]at h;exact⟨h.1.1.1.1,h.1.1.1.2,h.1.1.2,h.1.2⟩
theorem qhL {s:List UInt8} (h:s=[]∨qbN s=true):(∀ x∈qel s,x≠(32:UInt8))∧(∀ x∈qel s,x≠(10:UInt8))∧frR (qel s)=s:=by
 rcases h with rfl | h
 ·refine⟨?_,?_,rfl⟩
  ·intro x hx;simp only[qel,if_true,qGX]at hx;subst hx;decide
  ·intro x hx;simp only[qel,if_true,qGX]at hx;subst hx;decide
 ·have hne:s≠[]:=by
   rintro rfl;simp[qbN]at h
  have hf:qel s=s:=by unfold qel;rw[if_neg hne]
  rw[hf];refine⟨qmI h,qlD h,?_⟩;unfold frR;rw[if_neg];rintro rfl
  revert h
  decide
theorem qvU {s:CS} (h:qbl s=true):∀ x∈qoO s,x≠(10:UInt8):=by
 obtain⟨h1,h2,h3,h4⟩:=qhS h;intro x hx;simp only[qoO,qFQ,qFO]at hx;rcases hx with hx | rfl | hx | rfl | hx | rfl | hx
 ·exact qlD h1 x hx
 ·decide
 ·exact qft _ 10 (by decide) x hx
 ·decide
 ·exact(qhL h2).2.1 x hx
 ·decide
 ·exact qik h4 x hx
theorem qwt {p:PT} (h:qan p=true):∀ x∈qoY p,x≠(10:UInt8):=by
 intro x hx;simp only[qoY,qFO]at hx;rcases hx with rfl | rfl | hx
 ·decide
 ·decide
 ·exact qik (qdX h).1 x hx
theorem qjp {x:RS2} {t:List UInt8} (h:qay (qa6 x)=t) (ht:t≠[]) :
  (∀ s∈x.1,qbl s=true)∧(∀ p∈x.2,qan p=true)∧qaF 10 t []=qll::(x.1.map qoO++x.2.map qoY):=by
 unfold qay qa6 at h;simp only at h;cases h1:qbC x.1 with
 | none =>
  rw[h1]at h;exact absurd h.symm ht
 | some a =>
  cases h2:qa0 x.2 with
  | none =>
   rw[h1,h2]at h;exact absurd h.symm ht
  | some b =>
   rw[h1,h2]at h;simp only[qFS,qEk,qFi]at h;obtain⟨a1,a2⟩:=qii h1;obtain⟨b1,b2⟩:=qhc h2;refine⟨a1,b1,?_⟩;have:t=Lib.join (qll::(x.1.map qoO++x.2.map qoY)) [10]:=by
    rw[Lib.join_cons,qlG,← a2,← b2,← h];rfl
   rw[this,qdd 10 _ (by simp)];intro w hw;simp only[qFO,qFQ,qER]at hw;rcases hw with rfl | ⟨s,hs,rfl⟩ | ⟨p,hp,rfl⟩
   ·decide
   ·exact qvU (a1 s hs)
   ·exact qwt (b1 p hp)
theorem qnz {s:CS} (h:qbl s=true):qaF 32 (qoO s) []=[s.name,dec s.kind,qel s.frm,qaL s.home]:=by
 obtain⟨h1,h2,h3,h4⟩:=qhS h;have hj:qoO s=Lib.join [s.name,dec s.kind,qel s.frm,qaL s.home] [32]:=by
  rw[qaM,qaM,qaM,Lib.join_one];rfl
 rw[hj,qdd 32 _ (by simp)];intro w hw;simp only[qFO,qFX,or_false]at hw;rcases hw with rfl | rfl | rfl | rfl
 ·exact qmI h1
 ·exact qft _ 32 (by decide)
 ·exact(qhL h2).1
 ·exact qil h4
theorem qnZ {p:PT} (h:qan p=true):qaF 32 (qoY p) []=[[46],qaL p]:=by
 have hj:qoY p=Lib.join [[46],qaL p] [32]:=by
  rw[qaM,Lib.join_one];rfl
 rw[hj,qdd 32 _ (by simp)];intro w hw;simp only[qFO,qFX,or_false]at hw;rcases hw with rfl | rfl
 ·decide
 ·exact qil (qdX h).1
def nrm (s:CS):Prop:=s.map=z8∧s.dirty=false
theorem quu {s:CS} (h:nrm s):mkS s.name s.kind s.frm s.home=s:=by
 obtain⟨a,b,c,m,e,d⟩:=s;obtain⟨h1,h2⟩:=h;simp only at h1 h2;subst h1;subst h2;rfl
theorem qiu {s:CS} (h:qbl s=true) (hn:nrm s) (x:RS2):qek x (qoO s)=((x.1++[s],x.2),true):=by
 obtain⟨h1,h2,h3,h4⟩:=qhS h;obtain⟨d1,d2,d3⟩:=qdZ (n:=s.kind) (by omega) (by omega);unfold qek;rw[qnz h];simp only[d1,qgz h4,(qhL h2).2.2,quu hn,Bool.and_self]
theorem qrb {s:CS} (h:qbl s=true) (hn:nrm s) (x:RS2):qdr x (qoO s)=((x.1++[s],x.2),true):=by
 obtain⟨h1,h2,h3,h4⟩:=qhS h;obtain⟨d1,d2,d3⟩:=qdZ (n:=s.kind) (by omega) (by omega);unfold qdr;rw[qnz h];simp only[d2,d3,qgz h4,(qhL h2).2.2,quu hn,if_true]
theorem qiv {p:PT} (h:qan p=true) (x:RS2):qek x (qoY p)=((x.1,x.2++[p]),true):=by
 unfold qek;rw[qnZ h];simp only[qgz (qdX h).1,if_true]
theorem qrc {p:PT} (h:qan p=true) (x:RS2):qdr x (qoY p)=((x.1,x.2++[p]),true):=by
 unfold qdr;rw[qnZ h];simp[qgz (qdX h).1]
theorem qnG (f:RS2→List UInt8→RS2×Bool):∀ (a b:List (List UInt8)) (x:RS2),qe5 f (a++b) x=(qe5 f a x).bind (qe5 f b)
 | [],b,x=>rfl
 | l::r,b,x=>by
  rw[qGh,qe5,qe5];split
  ·exact qnG f r b _
  ·rfl
theorem qlg {f:RS2→List UInt8→RS2×Bool} (hf:∀ s,qbl s=true→nrm s→∀ x,f x (qoO s)=((x.1++[s],x.2),true)):∀ (l:List CS) (x:RS2),(∀ s∈l,qbl s=true∧nrm s)→qe5 f (l.map qoO) x=some (x.1++l,x.2)
 | [],x,_=>by simp[qe5]
 | s::r,x,h=>by
  obtain⟨h1,h2⟩:=h s (by simp);rw[qEQ,qe5,hf s h1 h2 x,if_pos rfl,qlg hf r _ fun y hy=>h y (by simp[hy])];simp
theorem qlh {f:RS2→List UInt8→RS2×Bool} (hf:∀ p,qan p=true→∀ x,f x (qoY p)=((x.1,x.2++[p]),true)):∀ (l:List PT) (x:RS2),(∀ p∈l,qan p=true)→qe5 f (l.map qoY) x=some (x.1,x.2++l)
 | [],x,_=>by simp[qe5]
 | p::r,x,h=>by
  rw[qEQ,qe5,hf p (h p (by simp)) x,if_pos rfl,qlh hf r _ fun y hy=>h y (by simp[hy])];simp
theorem qqX {l:List CS} {s:CS} (h:∀ x∈l,nrm x) (hs:nrm s):∀ x∈l++[s],nrm x:=fun x hx=>by
 rcases qFQ.1 hx with hx | hx
 ·exact h x hx
 ·simp only[qGX]at hx;subst hx;exact hs
theorem qlF (x:RS2) (l:List UInt8) (h:∀ s∈x.1,nrm s):∀ s∈(qek x l).1.1,nrm s:=by
 unfold qek;split
 ·split <;> exact h
 ·exact qqX h ⟨rfl,rfl⟩
 ·exact h
theorem qiw (x:RS2) (l:List UInt8) (h:∀ s∈x.1,nrm s):∀ s∈(qdr x l).1.1,nrm s:=by
 unfold qdr;split
 ·split <;> exact h
 ·split
  ·exact qqX h ⟨rfl,rfl⟩
  ·exact h
 ·exact h
theorem qj5 {f:RS2→List UInt8→RS2×Bool} (hf:∀ x l,(∀ s∈x.1,nrm s)→∀ s∈(f x l).1.1,nrm s):∀ (ls:List (List UInt8)) (x y:RS2),(∀ s∈x.1,nrm s)→qe5 f ls x=some y→∀ s∈y.1,nrm s
 | [],x,y,h,e=>by
  simp only[qe5,qEd]at e;subst e;exact h
 | l::r,x,y,h,e=>by
  rw[qe5]at e;split at e
  ·exact qj5 hf r _ y (hf x l h) e
  ·cases e
theorem qhz {f g:RS2→List UInt8→RS2×Bool} (hf:∀ x l,(∀ s∈x.1,nrm s)→∀ s∈(f x l).1.1,nrm s)
  (hg1:∀ s,qbl s=true→nrm s→∀ x,g x (qoO s)=((x.1++[s],x.2),true)) (hg2:∀ p,qan p=true→∀ x,g x (qoY p)=((x.1,x.2++[p]),true))
  {t:List UInt8} {x:RS2} (h:qe5 f (qaF 10 t []).tail ([],[])=some x) (ht:qay (qa6 x)=t) (hne:t≠[]) :
  qe5 g (qaF 10 t []).tail ([],[])=some x∧(qaF 10 t []).head?=some qll:=by
 obtain⟨r1,r2,r3⟩:=qjp ht hne;have hn:=qj5 hf _ _ x (by simp) h;rw[r3];refine⟨?_,rfl⟩;rw[qG1,qnG,qlg hg1 x.1 ([],[]) fun s hs=>⟨r1 s hs,hn s hs⟩,qFS,qlh hg2 x.2 _ r2];simp
theorem qgn {t:List UInt8} {x:RS2} (h:qhW t x=true):qay (qa6 x)=t:=by
 simp only[qhW,Bool.and_eq_true,decide_eq_true_eq]at h;exact h.1.1
theorem qy9 {t:List UInt8} (h1:¬ 420<t.length):qhm t=qmq t (qe5 qdr (qaF 10 t []).tail ([],[])):=by
 by_cases hne:t=[]
 ·subst hne;decide
 by_cases hd:(qaF 10 t []).head?=some qll
 ·unfold qhm;rw[if_neg (by rintro(e | e);exact h1 e;exact e hd)];cases hs:qe5 qek (qaF 10 t []).tail ([],[])with
  | some x =>
   by_cases ha:qhW t x=true
   ·obtain⟨b1,_⟩:=qhz qlF (fun s h hn x=>qrb h hn x) (fun p h x=>qrc h x) hs (qgn ha) hne;rw[b1]
   ·cases hi:qe5 qdr (qaF 10 t []).tail ([],[])with
    | none=>simp[qmq,ha]
    | some y =>
     by_cases hb:qhW t y=true
     ·obtain⟨b1,_⟩:=qhz qiw (fun s h hn x=>qiu h hn x) (fun p h x=>qiv h x) hi (qgn hb) hne;rw[hs]at b1;injection b1 with b1;subst b1;exact absurd hb ha
     ·simp[qmq,ha,hb]
  | none =>
   cases hi:qe5 qdr (qaF 10 t []).tail ([],[])with
   | none=>rfl
   | some y =>
    by_cases hb:qhW t y=true
    ·obtain⟨b1,_⟩:=qhz qiw (fun s h hn x=>qiu h hn x) (fun p h x=>qiv h x) hi (qgn hb) hne;rw[hs]at b1;cases b1
    ·simp[qmq,hb]
 ·unfold qhm;rw[if_pos (.inr hd)];cases hi:qe5 qdr (qaF 10 t []).tail ([],[])with
  | none=>rfl
  | some y =>
   by_cases hb:qhW t y=true
   ·obtain⟨_,b2⟩:=qhz qiw (fun s h hn x=>qiu h hn x) (fun p h x=>qiv h x) hi (qgn hb) hne;exact absurd b2 hd
   ·simp[qmq,hb]
def lnR (x:RS2) (i j:Nat):List AV:=[.int .i64 0,.sl i 0 x.1.length,.nils,.sl j 0 x.2.length,.bool false,.nils,.int .i64 0]
def lnQ (V:List (Nat×Nat)) (R:RS2×Bool) (r:AV) (L':List (Nat×Ob)):Prop:=∃ i j,(i,j)∈V∧r=.tup [.agg (lnR R.1 i j),.bool R.2]∧L'=[(i,kcs R.1.1),(j,kpt R.1.2)]
theorem qy3 (x:RS2) (l:List UInt8) (hl:l.length≤1000000) (h1:x.1.length≤1000000) (h2:x.2.length≤1000000) :
  ACall prog 159 [.agg (lnR x 1000 1001),.str l] [(1000,kcs x.1),(1001,kpt x.2)] (lnQ [(902,903)] (qek x l)):=by
 have c1:=qj3 l 32 (by omega);have hw:=qbp 32 l [];simp only[qFE,qFB]at hw;have key:ACall prog 159 [.agg (lnR x 1000 1001),.str l] [(1000,kcs x.1),(1001,kpt x.2)] (lnQ [(1000,1001),(1000,36),(76,1001)] (qek x l)):=by
  obtain⟨R,hR⟩:∃ R,qek x l=R:=⟨_,rfl⟩;rw[hR];unfold qek at hR;refine acx func159 [(10,[zI 0,zI 1,zI 2,zI 3,zJ 4 [11] [],zI 5,zJ 6 [] [11],zI 7])] ntmps159 rfl rfl rfl ?_;simp[lnR];refine c1.call ?_;by_cases n2:(qaF 32 l []).length=2
  ·obtain⟨a,b,hc⟩:=qnt n2;rw[hc]at hR hw;simp only at hR;have lb:=hw b (by simp);have c2:=qfQ b (by omega);simp only[PT.row]at c2;by_cases ha:a=[46]
   ·rw[if_pos ha]at hR;subst hR;simp[hc,qcr,ha];refine c2.call ?_;simp[kpt,PT.row];exact⟨by omega,[(1000,kcs x.1),(36,kpt (x.2++[(qbM b).1]))],by simp[kpt,PT.row,qal],1000,36,by simp,by simp[lnR],rfl⟩
   ·rw[if_neg ha]at hR;subst hR;simp[hc,qcr,ha];exact⟨[(1000,kcs x.1),(1001,kpt x.2)],by simp,1000,1001,by simp,rfl,rfl⟩
  ·by_cases n4:(qaF 32 l []).length=4
   ·obtain⟨a,b,c,d,hc⟩:∃ a b c d,qaF 32 l []=[a,b,c,d]:=by
     match hm:qaF 32 l [],n4 with
     | [a,b,c,d],_=>exact⟨a,b,c,d,rfl⟩
    rw[hc]at hR hw;simp only at hR;have lb:=hw b (by simp);have ld:=hw d (by simp);have n1:=qh8 b (by omega);have c2:=qfQ d (by omega);simp only[PT.row]at c2;simp[hc,qcr];refine n1.call ?_;simp;refine c2.call ?_;simp[PT.row];have hrow:∀ fr:List UInt8,CS.row (mkS a (qax b).1 fr (qbM d).1)=[.str a,.int .i64 (qax b).1,.str fr,.int .i64 0,.int .i64 0,.int .i64 0,.int .i64 0,.int .i64 0,.int .i64 0,.int .i64 0,.int .i64 0,.int .i64 0,.int .i64 0,.int .i64 0,.int .i64 0,.int .i64 0,.int .i64 0,.int .i64 0,.int .i64 0,.int .i64 0,.int .i64 0,.int .i64 0,.int .i64 0,.int .i64 0,.int .i64 0,.int .i64 0,.int .i64 0,.int .i64 (qbM d).1.pa,.int .i64 (qbM d).1.ps,.int .i64 (qbM d).1.pb,.bool false]:=fun fr=>by
     simp[CS.row,mkS,z8,zPT,PT.row,List.replicate]
    subst hR;by_cases hq:c=[45]
    ·have hf:frR c=[]:=by unfold frR;rw[if_pos hq]
     rw[hf];simp[hq,kcs];cases hk:(qax b).2 with
     | false =>
      simp;exact⟨by omega,[(76,kcs (x.1++[mkS a (qax b).1 [] (qbM d).1])),(1001,kpt x.2)],by simp[kcs,hrow,qal],76,1001,by simp,by simp[lnR],rfl⟩
     | true =>
      simp;exact⟨by omega,[(76,kcs (x.1++[mkS a (qax b).1 [] (qbM d).1])),(1001,kpt x.2)],by simp[kcs,hrow,qal],76,1001,by simp,by simp[lnR],rfl⟩
    ·have hf:frR c=c:=by unfold frR;rw[if_neg hq]
     rw[hf];simp[hq,kcs];cases hk:(qax b).2 with
     | false =>
      simp;exact⟨by omega,[(76,kcs (x.1++[mkS a (qax b).1 c (qbM d).1])),(1001,kpt x.2)],by simp[kcs,hrow,qal],76,1001,by simp,by simp[lnR],rfl⟩
     | true =>
      simp;exact⟨by omega,[(76,kcs (x.1++[mkS a (qax b).1 c (qbM d).1])),(1001,kpt x.2)],by simp[kcs,hrow,qal],76,1001,by simp,by simp[lnR],rfl⟩
   ·have hx:R=(x,false):=by
     rw[← hR];split
     ·rename_i q;rw[q]at n2;simp at n2
     ·rename_i q;rw[q]at n4;simp at n4
     ·rfl
    subst hx;simp[qcr,n2,n4,show ¬ ((qaF 32 l []).length:Int)=2 by omega,show ¬ ((qaF 32 l []).length:Int)=4 by omega];exact⟨[(1000,kcs x.1),(1001,kpt x.2)],by simp,1000,1001,by simp,rfl,rfl⟩
 refine key.can ?_;rintro r L' ⟨i,j,hV,rfl,rfl⟩;simp only[qFO,qFX,or_false,qEe]at hV;rcases hV with⟨rfl,rfl⟩ | ⟨rfl,rfl⟩ | ⟨rfl,rfl⟩
 ·exact⟨[(1000,902),(1001,903)],by simp,by simp,by simp,by simp,902,903,by simp,by simp[lnR],by simp[qag]⟩
 ·exact⟨[(1000,902),(36,903)],by simp,by simp,by simp,by simp,902,903,by simp,by simp[lnR],by simp[qag]⟩
 ·exact⟨[(76,902),(1001,903)],by simp,by simp,by simp,by simp,902,903,by simp,by simp[lnR],by simp[qag]⟩
theorem qma (c:UInt8) (s:List UInt8):∃ h r,qaF c s []=h::r:=by
 cases hr:qaF c s []with
 | nil=>exact absurd hr (qnc _ _ _)
 | cons h r=>exact⟨h,r,rfl⟩
theorem qlf {f:RS2→List UInt8→RS2×Bool} {l:List UInt8} {r:List (List UInt8)} {x:RS2} (h:(f x l).2=true):qe5 f (l::r) x=qe5 f r (f x l).1:=by
 rw[qe5,if_pos h]
theorem qli {f:RS2→List UInt8→RS2×Bool} {l:List UInt8} {r:List (List UInt8)} {x:RS2} (h:(f x l).2=false):qe5 f (l::r) x=none:=by
 rw[qe5,if_neg (by simp[h])]
theorem qmb (x:RS2):(qa6 x).row=[.int .i64 0,.lst 31 (x.1.map CS.row),.lst 3 [],.lst 3 (x.2.map PT.row),.bool false,.lst 1 [],.int .i64 0]:=rfl
def rdT (n:Nat) (x:RS2):Prop:=x.1.length≤n∧x.2.length≤n∧∀ s∈x.1,s.map.length=8∧s.name.length≤1000∧s.frm.length≤1000
theorem qnP {n:Nat} {x:RS2} (h:rdT n x) (hn:n≤100000):CoT (qa6 x) :=
 ⟨by have:=h.1;simp only[qa6];omega,by simp[qa6],by have:=h.2.1;simp only[qa6];omega,by simp[qa6],fun s hs=>(h.2.2 s hs).1,fun s hs=>by have:=h.2.2 s hs;omega⟩
theorem qxc (w:List UInt8):(frR w).length≤w.length:=by
 unfold frR;split <;> simp
theorem qqI {n:Nat} {x:RS2} (h:rdT n x) {a c:List UInt8} (k:Int) (p:PT) (ha:a.length≤1000) (hc:c.length≤1000):rdT (n+1) (x.1++[mkS a k (frR c) p],x.2):=by
 have:=qxc c;refine⟨by have:=h.1;simp;omega,by have:=h.2.1;simp only;omega,fun s hs=>?_⟩;simp only at hs;rcases qFQ.1 hs with hs | hs
 ·exact h.2.2 s hs
 ·simp only[qGX]at hs;subst hs;exact⟨rfl,ha,by simp only[mkS];omega⟩
theorem qwH {n:Nat} {x:RS2} (h:rdT n x) {l:List UInt8} (hl:l.length≤1000):rdT (n+1) (qek x l).1:=by
 have hw:=qbp 32 l [];simp only[qFE,qFB]at hw;have h0:rdT (n+1) x:=⟨by have:=h.1;omega,by have:=h.2.1;omega,h.2.2⟩;unfold qek;split
 ·split
  ·exact⟨by have:=h.1;simp only;omega,by have:=h.2.1;simp;omega,h.2.2⟩
  ·exact h0
 ·rename_i a b c d hc;rw[hc]at hw;have la:=hw a (by simp);have lc:=hw c (by simp);exact qqI h _ _ (by omega) (by omega)
 ·exact h0
theorem qwc {t:List UInt8} {h:List UInt8} {r:List (List UInt8)} (hc:qaF 10 t []=h::r):qhm t=if 420<t.length∨h≠qll then (zK,false) else qmq t (qe5 qek r ([],[])):=by
 unfold qhm;rw[hc];simp
def rtQ (a b:Nat) (R:CO×Bool) (r:AV) (L':List (Nat×Ob)):Prop :=
 (R=(zK,false)∧r=.tup [.agg [.int .i64 0,.nils,.nils,.nils,.bool false,.nils,.int .i64 0],.bool false]∧L'=[]) ∨
 (∃ x:RS2,R=(qa6 x,true)∧r=.tup [.agg (lnR x a b),.bool true]∧L'=[(a,kcs x.1),(b,kpt x.2)])
theorem qoQ (t:List UInt8) (hl:t.length≤1000000):ACall prog 75 [.str t] [] (rtQ 900 901 (qhm t)):=by
 obtain⟨R,hR⟩:∃ R,qhm t=R:=⟨_,rfl⟩;rw[hR];have c1:=qj3 t 10 (by omega);have hw:=qbp 10 t [];have hnum:=qde 10 t [];simp only[qFE,qFB]at hw;obtain⟨hd,ls,hc⟩:=qma 10 t;rw[qwc hc]at hR;rw[hc]at hw hnum c1;refine acx func75 [(8,[zJ 0 [4] [],zJ 1 [] [4],zJ 2 [] [4],zJ 3 [] [4],zJ 4 [] [4],⟨5,[],[],[9],[]⟩,zI 6,zI 7,zI 8,zJ 9 [] [4],zI 10,zI 11])] ntmps75 rfl rfl rfl ?_;simp;refine c1.call ?_;by_cases h1:420<t.length
 ·rw[if_pos (.inl h1)]at hR;subst hR;simp[show(420:Int)<t.length by omega,h1,qcr];exact⟨[],by simp,.inl ⟨rfl,rfl,rfl⟩⟩
 by_cases h2:hd=qll
 ·rw[if_neg (by rintro(e | e);exact h1 e;exact e h2)]at hR;have h2':hd=[114,111,111,116]:=h2;simp[show ¬ (420:Int)<t.length by omega,h1,qcr,h2'];refine qeW ((qeF 900 31 (by simp)).trans ((qdk 4 1 (sz:=7) (row:=[.int .i64 0,.nils,.nils,.nils,.bool false,.nils,.int .i64 0]) (by simp) (by simp) (qcF 900 0)).trans
   ((qeF 901 3 (by simp)).trans (qdk 4 3 (sz:=7) (row:=[.int .i64 0,.sl 900 0 0,.nils,.nils,.bool false,.nils,.int .i64 0]) (by simp) (by simp) (qcF 901 0))))) ?_
  refine qbj (X:=Nat×RS2) [0,2,3,4,5,6] [(2,2),(4,4),(900,900),(901,901)] (fun x=>[(6,.int .i64 (x.1+1))]) (fun x=>[(2,⟨7,[[.int .i64 0,.nils,.nils,.nils,.bool false,.nils,.int .i64 0]]⟩),(4,⟨7,[lnR x.2 900 901]⟩),(900,kcs x.2.1),(901,kpt x.2.2)]) (fun x=>ls.length-x.1)
   (fun x=>x.1≤ls.length∧rdT x.1 x.2∧qmq t (qe5 qek (ls.drop x.1) x.2)=R) (0,([],[])) ⟨by omega,⟨by simp,by simp,by simp⟩,hR⟩ ?_ (he:=by simp[qag,lnR,kcs,kpt])
  rintro⟨i,x⟩ ⟨hi,hx,hd2⟩;simp only at hi hx hd2;cases hr:ls.drop i with
  | nil =>
   have:=qaY hr;have hie:i=ls.length:=by omega
   subst hie;rw[hr]at hd2;simp only[qe5,qmq]at hd2;have hT:=qnP hx (by simp at hnum;omega);have c2:=qqh (qa6 x) hT;have c3:=qmB (qa6 x) (by have:=hx.1;simp only[qa6];simp at hnum;omega) hT.m8;have c4:=qhu (qr4 ((qa6 x).sets.map csB) (by have:=hx.1;simp[qa6];simp at hnum;omega) (fun b hb=>by
    obtain⟨s,hs,rfl⟩:=qER.1 hb;simp[csB]) (fun b hb=>by
    obtain⟨s,hs,rfl⟩:=qER.1 hb;have:=hx.2.2 s hs;simp[csB];omega)) (hca:=by simp[bk])
   rw[qmb]at c2 c3;simp[lnR];refine c2.view (by simp[qbW,mtA,kcs,kpt,qal,qbO]) ?_;by_cases q1:qay (qa6 x)=t
   ·simp[q1];refine qaJ [] (by kernel_rfl) c3 (by simp[qbW,mtA,kcs,kpt,qal,qbO]) (by simp) trivial (by simp) (by simp) ?_;rintro r L' ⟨rfl,rfl⟩;refine⟨by simp[noL],by simp[qbz,qn5],[(900,47)],⟨by simp,by simp,by simp,by simp,by simp⟩,?_⟩;simp only[qaf];have htk:List.take x.1.length (List.map (BS.row ∘ csB) x.1)=List.map (BS.row ∘ csB) x.1:=qEF (by simp);simp only[bk,qa6,qEY]at c4;simp;refine c4.view (by simp[qbW,mtA,qbz,qa6,htk]) ?_;cases hb:qa9 (List.map csB x.1)with
    | false =>
     have ha:qhW t x=false:=by simp[qhW,hb]
     rw[if_neg (by simp[ha])]at hd2;subst hd2;simp;exact⟨[],by simp,.inl ⟨rfl,rfl,rfl⟩⟩
    | true =>
     simp;by_cases q8:x.2.length≤8
     ·have ha:qhW t x=true:=by simp[qhW,hb,q8,q1]
      rw[if_pos ha]at hd2;subst hd2;simp[show ¬ (8:Int)<x.2.length by omega,show ¬ 8<x.2.length by omega,q8,show(x.2.length:Int)≤8 by omega];exact⟨[(900,kcs x.1),(901,kpt x.2)],by simp[qag],.inr ⟨x,rfl,by simp[lnR],rfl⟩⟩
     ·have ha:qhW t x=false:=by simp[qhW,q8]
      rw[if_neg (by simp[ha])]at hd2;subst hd2;simp[show(8:Int)<x.2.length by omega,show 8<x.2.length by omega,q8,show ¬ (x.2.length:Int)≤8 by omega];exact⟨[],by simp,.inl ⟨rfl,rfl,rfl⟩⟩
   ·have ha:qhW t x=false:=by simp[qhW,q1]
    rw[if_neg (by simp[ha])]at hd2;subst hd2;simp[q1];exact⟨[],by simp,.inl ⟨rfl,rfl,rfl⟩⟩
  | cons l r =>
   obtain⟨g1,e0,e1,g3⟩:=qaZ hr;have hwl:=hw l (by simp[qGj e1]);have c2:=qy3 x l (by omega) (by have:=hx.1;simp at hnum;omega) (by have:=hx.2.1;simp at hnum;omega);have hT:=qwH hx (l:=l) (by omega);have e2:=qao ((i:Int)+1+1) (by simp at hnum;omega) (by simp at hnum;omega);rw[hr]at hd2;simp only[lnR]at c2;simp[lnR,g1,e0,e1,qcr];refine⟨by omega,?_⟩;refine qad [(1000,.whole 900),(1001,.whole 901)] (by kernel_rfl) c2 (by simp) (by simp) ⟨⟨kcs x.1,by simp,rfl,qaa rfl (qbd _)⟩,⟨kpt x.2,by simp,rfl,qaa rfl (qbL _)⟩,trivial⟩ (by simp) (by simp) ?_;rintro r' L' ⟨j1,j2,hV,rfl,rfl⟩;simp only[qFO,qFX,or_false,qEe]at hV;obtain⟨rfl,rfl⟩:=hV;refine⟨[(902,902),(903,903)],⟨by simp,by simp,by simp,by simp,by simp⟩,?_⟩;simp only[qaf];cases hk:(qek x l).2 with
   | false =>
    rw[qli hk]at hd2;simp only[qmq]at hd2;subst hd2;simp[lnR];exact⟨[],by simp,.inl ⟨rfl,rfl,rfl⟩⟩
   | true =>
    rw[qlf hk]at hd2;simp[lnR];refine nx (i+1,(qek x l).1) [(2,2),(4,4),(902,900),(903,901)] ⟨by simp only;omega,hT,by simp only[g3];exact hd2⟩ (by simp only;omega) (h4:=?_);simp[qag,e2,lnR]
 ·rw[if_pos (.inr h2)]at hR;subst hR;have h2':¬ hd=[114,111,111,116]:=h2;simp[show ¬ (420:Int)<t.length by omega,h1,qcr,h2'];exact⟨[],by simp,.inl ⟨rfl,rfl,rfl⟩⟩
def rlL (x:RS2) (i j:Nat):List (Nat×Ob):=[(1000,⟨7,[lnR x i j]⟩),(i,kcs x.1),(j,kpt x.2)]
def rlQ (V:List (Nat×Nat)) (R:RS2×Bool) (r:AV) (L':List (Nat×Ob)):Prop:=∃ i j,(i,j)∈V∧r=.bool R.2∧L'=rlL R.1 i j
theorem qwL {l:List (List UInt8)} (h:l≠[]):∃ w,l[l.length-1]?=some w∧w∈l:=by
 refine⟨l[l.length-1]'(by have:=qEm.2 h;omega),qEq _,qEX _⟩
theorem qwI {x:RS2} {l:List UInt8} (h2:(qaF 32 l []).length≠2) (h4:(qaF 32 l []).length≠4):qdr x l=(x,false):=by
 unfold qdr;split
 ·rename_i q;rw[q]at h2;simp at h2
 ·rename_i q;rw[q]at h4;simp at h4
 ·rfl
theorem qAb (x:RS2) (l:List UInt8) (hl:l.length≤1000000) (h1:x.1.length≤1000000) (h2:x.2.length≤1000000) :
  ACall prog 180 [.ptr 1000 0 0,.str l] (rlL x 1001 1002) (rlQ [(902,903)] (qdr x l)):=by
 have c1:=qh7 l 32 (by omega);have hw:=qbp 32 l [];simp only[qFE,qFB]at hw;have key:ACall prog 180 [.ptr 1000 0 0,.str l] (rlL x 1001 1002) (rlQ [(1001,1002),(1001,43),(75,1002)] (qdr x l)):=by
  simp only[rlL];by_cases n2:(qaF 32 l []).length=2
  ·obtain⟨R,hR⟩:∃ R,qdr x l=R:=⟨_,rfl⟩;rw[hR];unfold qdr at hR;obtain⟨a,b,hc⟩:=qnt n2;rw[hc]at hR hw;simp only at hR;have lb:=hw b (by simp);have c2:=qeQ b (by omega);simp only[PT.row]at c2;refine acx func180 [(6,[zI 0,zI 1,zI 2,zI 3,zJ 4 [1000] [],zJ 5 [6] [1000],zJ 6 [] [1000],zI 7,zI 8,zI 9,zI 10]),(14,[zI 0,zI 1,zI 2,zI 3,zJ 4 [1000] [],zJ 5 [] [1000],zJ 6 [] [1000],zJ 7 [] [1000],zJ 8 [] [1000],zJ 9 [] [1000],zJ 10 [6] [1000],zJ 11 [] [1000],zJ 12 [] [1000],zI 13,zI 14,zI 15,zI 16])] ntmps180 rfl rfl rfl ?_;simp[lnR];refine c1.call ?_;simp[hc,qcr];refine c2.call ?_;cases hk:(qbM b).2 with
   | false =>
    rw[if_neg (by simp[hk])]at hR;subst hR;simp;exact⟨rlL x 1001 1002,by simp[rlL,lnR],1001,1002,by simp,rfl,rfl⟩
   | true =>
    by_cases ha:a=[46]
    ·rw[if_pos ⟨hk,ha⟩]at hR;subst hR;simp[ha,kpt,PT.row];exact⟨by omega,rlL (x.1,x.2++[(qbM b).1]) 1001 43,by simp[rlL,lnR,kpt,PT.row,qal],1001,43,by simp,rfl,rfl⟩
    ·rw[if_neg fun e=>ha e.2]at hR;subst hR;simp[ha];exact⟨rlL x 1001 1002,by simp[rlL,lnR],1001,1002,by simp,rfl,rfl⟩
  ·by_cases n4:(qaF 32 l []).length=4
   ·obtain⟨R,hR⟩:∃ R,qdr x l=R:=⟨_,rfl⟩;rw[hR];unfold qdr at hR;obtain⟨a,b,c,d,hc⟩:∃ a b c d,qaF 32 l []=[a,b,c,d]:=by
     match hm:qaF 32 l [],n4 with
     | [a,b,c,d],_=>exact⟨a,b,c,d,rfl⟩
    rw[hc]at hR hw;simp only at hR;have lb:=hw b (by simp);have ld:=hw d (by simp);have n1:=qmi b (by omega);have c2:=qeQ d (by omega);simp only[PT.row]at c2;refine acx func180 [(6,[zI 0,zI 1,zI 2,zI 3,zJ 4 [1000] [],zJ 5 [6] [1000],zJ 6 [] [1000],zI 7,zI 8,zI 9,zI 10]),(14,[zI 0,zI 1,zI 2,zI 3,zJ 4 [1000] [],zJ 5 [] [1000],zJ 6 [] [1000],zJ 7 [] [1000],zJ 8 [] [1000],zJ 9 [] [1000],zJ 10 [6] [1000],zJ 11 [] [1000],zJ 12 [] [1000],zI 13,zI 14,zI 15,zI 16])] ntmps180 rfl rfl rfl ?_;simp[lnR];refine c1.call ?_;simp[hc,qcr];refine c2.call ?_;cases hk:(qbM d).2 with
    | false =>
     rw[if_neg (by simp[hk])]at hR;subst hR;simp;exact⟨rlL x 1001 1002,by simp[rlL,lnR],1001,1002,by simp,rfl,rfl⟩
    | true =>
     rw[if_pos hk]at hR;simp;refine n1.call ?_;simp[PT.row];have hrow:∀ fr:List UInt8,CS.row (mkS a (qaE b) fr (qbM d).1)=[.str a,.int .i64 (qaE b),.str fr,.int .i64 0,.int .i64 0,.int .i64 0,.int .i64 0,.int .i64 0,.int .i64 0,.int .i64 0,.int .i64 0,.int .i64 0,.int .i64 0,.int .i64 0,.int .i64 0,.int .i64 0,.int .i64 0,.int .i64 0,.int .i64 0,.int .i64 0,.int .i64 0,.int .i64 0,.int .i64 0,.int .i64 0,.int .i64 0,.int .i64 0,.int .i64 0,.int .i64 (qbM d).1.pa,.int .i64 (qbM d).1.ps,.int .i64 (qbM d).1.pb,.bool false]:=fun fr=>by
      simp[CS.row,mkS,z8,zPT,PT.row,List.replicate]
     subst hR;by_cases hq:c=[45]
     ·have hf:frR c=[]:=by unfold frR;rw[if_pos hq]
      rw[hf];cases hk2:qbA b with
      | false =>
       simp[hq,kcs,qhO];exact⟨by omega,rlL (x.1++[mkS a (qaE b) [] (qbM d).1],x.2) 75 1002,by simp[rlL,lnR,kcs,hrow,qal],75,1002,by simp,rfl,rfl⟩
      | true =>
       simp[hq,kcs,qhO];exact⟨by omega,rlL (x.1++[mkS a (qaE b) [] (qbM d).1],x.2) 75 1002,by simp[rlL,lnR,kcs,hrow,qal],75,1002,by simp,rfl,rfl⟩
     ·have hf:frR c=c:=by unfold frR;rw[if_neg hq]
      rw[hf];cases hk2:qbA b with
      | false =>
       simp[hq,kcs,qhO];exact⟨by omega,rlL (x.1++[mkS a (qaE b) c (qbM d).1],x.2) 75 1002,by simp[rlL,lnR,kcs,hrow,qal],75,1002,by simp,rfl,rfl⟩
      | true =>
       simp[hq,kcs,qhO];exact⟨by omega,rlL (x.1++[mkS a (qaE b) c (qbM d).1],x.2) 75 1002,by simp[rlL,lnR,kcs,hrow,qal],75,1002,by simp,rfl,rfl⟩
   ·rw[qwI n2 n4];obtain⟨w,w1,w2⟩:=qwL (qnc 32 l []);have c2:=qeQ w (by have:=hw w w2;omega);have hp:=qkK 32 l [];have hnum:=qde 32 l [];have e1:=qao (((qaF 32 l []).length:Int)-1) (by omega) (by omega);have e2:(((qaF 32 l []).length:Int)-1).toNat=(qaF 32 l []).length-1:=by omega
    have w0:(qaF 32 l [])[(qaF 32 l []).length-1]'(by omega)=w:=(qEW.1 w1).2;refine acx func180 [(6,[zI 0,zI 1,zI 2,zI 3,zJ 4 [1000] [],zJ 5 [6] [1000],zJ 6 [] [1000],zI 7,zI 8,zI 9,zI 10]),(14,[zI 0,zI 1,zI 2,zI 3,zJ 4 [1000] [],zJ 5 [] [1000],zJ 6 [] [1000],zJ 7 [] [1000],zJ 8 [] [1000],zJ 9 [] [1000],zJ 10 [6] [1000],zJ 11 [] [1000],zJ 12 [] [1000],zI 13,zI 14,zI 15,zI 16])] ntmps180 rfl rfl rfl ?_;simp[lnR];refine c1.call ?_;simp[qcr,e1,e2,w0,w1];refine⟨⟨by omega,by omega⟩,?_⟩;refine c2.call ?_;cases hk:(qbM w).2 with
    | false =>
     simp;exact⟨rlL x 1001 1002,by simp[rlL,lnR],1001,1002,by simp,rfl,rfl⟩
    | true =>
     simp[n2,n4,show ¬ ((qaF 32 l []).length:Int)=2 by omega,show ¬ ((qaF 32 l []).length:Int)=4 by omega];exact⟨rlL x 1001 1002,by simp[rlL,lnR],1001,1002,by simp,rfl,rfl⟩
 refine key.can ?_;rintro r L' ⟨i,j,hV,rfl,rfl⟩;simp only[qFO,qFX,or_false,qEe]at hV;rcases hV with⟨rfl,rfl⟩ | ⟨rfl,rfl⟩ | ⟨rfl,rfl⟩
 ·exact⟨[(1000,1000),(1001,902),(1002,903)],by simp[rlL],by simp,by simp[rlL],by simp,902,903,by simp,by simp,by simp[qag,rlL,lnR]⟩
 ·exact⟨[(1000,1000),(1001,902),(43,903)],by simp[rlL],by simp,by simp[rlL],by simp,902,903,by simp,by simp,by simp[qag,rlL,lnR]⟩
 ·exact⟨[(1000,1000),(75,902),(1002,903)],by simp[rlL],by simp,by simp[rlL],by simp,902,903,by simp,by simp,by simp[qag,rlL,lnR]⟩
theorem qwJ {n:Nat} {x:RS2} (h:rdT n x) {l:List UInt8} (hl:l.length≤1000):rdT (n+1) (qdr x l).1:=by
 have hw:=qbp 32 l [];simp only[qFE,qFB]at hw;have h0:rdT (n+1) x:=⟨by have:=h.1;omega,by have:=h.2.1;omega,h.2.2⟩;unfold qdr;split
 ·split
  ·exact⟨by have:=h.1;simp only;omega,by have:=h.2.1;simp;omega,h.2.2⟩
  ·exact h0
 ·rename_i a b c d hc;rw[hc]at hw;have la:=hw a (by simp);have lc:=hw c (by simp);split
  ·exact qqI h _ _ (by omega) (by omega)
  ·exact h0
 ·exact h0
theorem qo8 (t:List UInt8) (hl:t.length≤1000000):ACall prog 87 [.str t] [] (rtQ 900 901 (qhm t)):=by
 obtain⟨R,hR⟩:∃ R,qhm t=R:=⟨_,rfl⟩;rw[hR];have c1:=qh7 t 10 (by omega);have hw:=qbp 10 t [];have hnum:=qde 10 t [];simp only[qFE,qFB]at hw;obtain⟨hd,ls,hc⟩:=qma 10 t;refine acx func87 [] ntmps87 rfl rfl rfl ?_;by_cases h1:420<t.length
 ·have:R=(zK,false):=by
   rw[← hR];unfold qhm;rw[if_pos (.inl h1)]
  subst this;simp[show(420:Int)<t.length by omega,h1];exact⟨[],by simp,.inl ⟨rfl,rfl,rfl⟩⟩
 rw[qy9 h1,hc,qG1]at hR;rw[hc]at hw hnum c1;simp[show ¬ (420:Int)<t.length by omega,h1];refine c1.call ?_;simp[qcr];refine qeW ((qeF 900 31 (by simp)).trans ((qdk 5 1 (sz:=7) (row:=[.int .i64 0,.nils,.nils,.nils,.bool false,.nils,.int .i64 0]) (by simp) (by simp) (qcF 900 0)).trans
   ((qeF 901 3 (by simp)).trans (qdk 5 3 (sz:=7) (row:=[.int .i64 0,.sl 900 0 0,.nils,.nils,.bool false,.nils,.int .i64 0]) (by simp) (by simp) (qcF 901 0))))) ?_
 refine qbj (X:=Nat×RS2) [0,2,3,5,15,16,17] [(2,2),(5,5),(900,900),(901,901)] (fun x=>[(17,.int .i64 x.1)]) (fun x=>[(2,⟨7,[[.int .i64 0,.nils,.nils,.nils,.bool false,.nils,.int .i64 0]]⟩),(5,⟨7,[lnR x.2 900 901]⟩),(900,kcs x.2.1),(901,kpt x.2.2)]) (fun x=>ls.length-x.1)
  (fun x=>x.1≤ls.length∧rdT x.1 x.2∧qmq t (qe5 qdr (ls.drop x.1) x.2)=R) (0,([],[])) ⟨by omega,⟨by simp,by simp,by simp⟩,hR⟩ ?_ (he:=by simp[qag,lnR,kcs,kpt])
 rintro⟨i,x⟩ ⟨hi,hx,hd2⟩;simp only at hi hx hd2;cases hr:ls.drop i with
 | nil =>
  have:=qaY hr;have hie:i=ls.length:=by omega
  subst hie;rw[hr]at hd2;simp only[qe5,qmq]at hd2;have hT:=qnP hx (by simp at hnum;omega);have c2:=qrl (qa6 x) hT;have c3:=qrD (qa6 x) (by have:=hx.1;simp only[qa6];simp at hnum;omega) hT.m8;have c4:=qhu (qsX ((qa6 x).sets.map csB) ▸ qko ((qa6 x).sets.map csB) (by have:=hx.1;simp[qa6];simp at hnum;omega) (fun b hb=>by
   obtain⟨s,hs,rfl⟩:=qER.1 hb;simp[csB]) (fun b hb=>by
   obtain⟨s,hs,rfl⟩:=qER.1 hb;have:=hx.2.2 s hs;simp[csB];omega)) (hca:=by simp[bk])
  rw[qmb]at c2 c3;by_cases q8:x.2.length≤8
  ·simp[lnR,show ¬ (8:Int)<x.2.length by omega,show ¬ 8<x.2.length by omega,q8,show(x.2.length:Int)≤8 by omega];refine qaJ [] (by kernel_rfl) c3 (by simp[qbW,mtA,kcs,kpt,qal,qbO]) (by simp) trivial (by simp) (by simp) ?_;rintro r L' ⟨rfl,rfl⟩;refine⟨by simp[noL],by simp[qbz,qn5],[(900,32)],⟨by simp,by simp,by simp,by simp,by simp⟩,?_⟩;simp only[qaf];have htk:List.take x.1.length (List.map (BS.row ∘ csB) x.1)=List.map (BS.row ∘ csB) x.1:=qEF (by simp);simp only[bk,qa6,qEY]at c4;simp;refine c4.view (by simp[qbW,mtA,qbz,qa6,htk]) ?_;cases hb:qa9 (List.map csB x.1)with
   | false =>
    have ha:qhW t x=false:=by simp[qhW,hb]
    rw[if_neg (by simp[ha])]at hd2;subst hd2;simp;exact⟨[],by simp,.inl ⟨rfl,rfl,rfl⟩⟩
   | true =>
    simp;refine c2.view (by simp[qbW,mtA,kcs,kpt,qal,qbO]) ?_;by_cases q1:qay (qa6 x)=t
    ·have ha:qhW t x=true:=by simp[qhW,hb,q8,q1]
     rw[if_pos ha]at hd2;subst hd2;simp[q1];exact⟨[(900,kcs x.1),(901,kpt x.2)],by simp[qag],.inr ⟨x,rfl,by simp[lnR],rfl⟩⟩
    ·have ha:qhW t x=false:=by simp[qhW,q1]
     rw[if_neg (by simp[ha])]at hd2;subst hd2;simp[q1];exact⟨[],by simp,.inl ⟨rfl,rfl,rfl⟩⟩
  ·have ha:qhW t x=false:=by simp[qhW,q8]
   rw[if_neg (by simp[ha])]at hd2;subst hd2;simp[lnR,show(8:Int)<x.2.length by omega,show 8<x.2.length by omega,q8,show ¬ (x.2.length:Int)≤8 by omega];exact⟨[],by simp,.inl ⟨rfl,rfl,rfl⟩⟩
 | cons l r =>
  obtain⟨g1,e0,e1,g3⟩:=qaZ hr;have hwl:=hw l (by simp[qGj e1]);have c2:=qAb x l (by omega) (by have:=hx.1;simp at hnum;omega) (by have:=hx.2.1;simp at hnum;omega);have hT:=qwJ hx (l:=l) (by omega);have e2:=qao ((i:Int)+1) (by simp at hnum;omega) (by simp at hnum;omega);rw[hr]at hd2;simp only[rlL,lnR]at c2;simp[lnR,g1,e0,e1,qcr];refine qad [(1000,.whole 5),(1001,.whole 900),(1002,.whole 901)] (by kernel_rfl) c2 (by simp) (by simp) (by simp;exact⟨.inr ⟨_,_,rfl,rfl,by simp⟩,qaa rfl (qbd _),qaa rfl (qbL _)⟩) (by simp) (by simp) ?_;rintro r' L' ⟨j1,j2,hV,rfl,rfl⟩;simp only[qFO,qFX,or_false,qEe]at hV;obtain⟨rfl,rfl⟩:=hV;refine⟨[(902,902),(903,903)],⟨by simp[rlL],by simp,by simp,by simp[rlL],by simp[rlL]⟩,?_⟩;simp only[qaf];cases hk:(qdr x l).2 with
  | false =>
   rw[qli hk]at hd2;simp only[qmq]at hd2;subst hd2;simp[rlL,lnR];exact⟨[],by simp,.inl ⟨rfl,rfl,rfl⟩⟩
  | true =>
   rw[qlf hk]at hd2;simp[rlL,lnR];refine nx (i+1,(qdr x l).1) [(2,2),(5,5),(902,900),(903,901)] ⟨by simp only;omega,hT,by simp only[g3];exact hd2⟩ (by simp only;omega) (h4:=?_);simp[qag,e2,lnR]
theorem qrn (d:DK) (h:DkT d) (side at':Int):CV prog 171 [.agg d.row,.int .i64 side,.int .i64 at'] (.tup [.str (qbF d side at').1,.bool (qbF d side at').2]):=by
 have c1:=qf5 d h;have c2:=qhJ d h side at';have hse:qa4 d side at' []=qmz d.s0.length side at':=by simp[qa4,qmz]
 unfold qbF;rw[hse];simp only[DK.row]at c1 c2;refine cvx func171 [] ntmps171 rfl rfl rfl ?_ (hca:=by simp[DK.row]);simp[DK.row];refine c1.call ?_;cases g1:qbw d with
 | false=>simp
 | true =>
  simp;refine c2.call ?_;cases g2:qmz d.s0.length side at' with
  | false=>simp
  | true =>
   obtain⟨n1,n2,n3⟩:=thereB_iff.1 (hse.trans g2);have c3:=qrk d h side at' n1 n2 (qbs g1).2.2.1;simp only[DK.row]at c3;simp;refine c3.call ?_;simp
theorem qd7 (d:DK) (side at':Int):(qbF d side at').1.length≤420:=by
 unfold qbF;split
 ·rename_i h;simp only[Bool.and_eq_true]at h;exact qeK h.1 side at'
 ·simp
def qjr (d:DK) (b:Int×PT) (at' side:Int):Int×PT:=if (qml (qbF d side at').1).2=true∧b.1<(qml (qbF d side at').1).1.1 then (qml (qbF d side at').1).1 else b
def rbN (d:DK):Nat→Int×PT
 | 0=>(0,zPT)
 | i+1=>qjr d (qjr d (rbN d i) (i+1) 0) (i+1) 1
def rbI (d:DK) (i j:Nat):Int×PT:=if j=0 then rbN d i else if j=1 then qjr d (rbN d i) (i+1) 0 else rbN d (i+1)
theorem qnQ (d:DK) (i j:Nat) (hj:j<2):rbI d i (j+1)=qjr d (rbI d i j) ((i:Int)+1) j:=by
 have:j=0∨j=1:=by omega
 rcases this with rfl | rfl
 ·rfl
 ·rfl
def rbB (d:DK):Int×PT:=rbN d 4
theorem qy8 (d:DK) (h:DkT d):CV prog 30 [.agg d.row] (.tup [.int .i64 (rbB d).1,.agg (rbB d).2.row,.bool (decide (0<(rbB d).1))]):=by
 refine cvx func30 [(14,[zI 0,zJ 1 [6] [],zJ 2 [] [6],zJ 3 [] [6],zJ 4 [] [6],zI 5,zI 6])] ntmps30 rfl rfl rfl ?_ (hca:=by simp[DK.row]) (hcv:=by simp[PT.row]);simp[DK.row];refine qbj (X:=Nat) [1,2,3,4,5,6,7] [(1,1),(3,3),(6,6)] (fun i=>[(5,.int .i64 (rbN d i).1),(7,.int .i64 (i+1))]) (fun i=>[(1,⟨3,[d.row]⟩),(3,⟨3,[zPT.row]⟩),(6,⟨3,[(rbN d i).2.row]⟩)]) (fun i=>4-i) (fun i=>i≤4) 0 (by simp) ?_ (he:=by simp[qag,DK.row,zPT,PT.row,rbN]);rintro i hi;by_cases h4:i<4
 ·have e2:=qao ((i:Int)+1+1) (by omega) (by omega);simp[show(i:Int)+1<5 by omega,DK.row,PT.row];refine qbj (X:=Nat) [1,2,3,4,5,6,7,8] [(1,1),(3,3),(6,6)] (fun j=>[(5,.int .i64 (rbI d i j).1),(8,.int .i64 j)]) (fun j=>[(1,⟨3,[d.row]⟩),(3,⟨3,[zPT.row]⟩),(6,⟨3,[(rbI d i j).2.row]⟩)]) (fun j=>2-j) (fun j=>j≤2) 0 (by simp) ?_ (he:=by simp[qag,DK.row,zPT,PT.row,rbI]);rintro j hj;by_cases h2:j<2
  ·have e3:=qao ((j:Int)+1) (by omega) (by omega);have c1:=qnD d h j ((i:Int)+1);have hl:=qd7 d j ((i:Int)+1);have c2:=qoP (qbF d j ((i:Int)+1)).1 (by omega);have hst:=qnQ d i j h2;unfold qjr at hst;simp only[DK.row]at c1;simp only[PT.row]at c2;simp[show(j:Int)<2 by omega,h2,DK.row,PT.row];refine c1.call ?_;simp;refine c2.call ?_;generalize qml (qbF d j ((i:Int)+1)).1=u at *
   obtain⟨⟨un,up⟩,uk⟩:=u;simp only at hst;cases uk with
   | false =>
    rw[if_neg (by simp)]at hst;simp[PT.row];refine nx (j+1) [(1,1),(3,3),(6,6)] (by omega) (h4:=?_);simp[qag,e3,hst,DK.row,zPT,PT.row]
   | true =>
    by_cases q:(rbI d i j).1<un
    ·rw[if_pos ⟨rfl,q⟩]at hst;simp[q,PT.row];refine nx (j+1) [(1,1),(3,3),(6,6)] (by omega) (h4:=?_);simp[qag,e3,hst,DK.row,zPT,PT.row]
    ·rw[if_neg fun e=>q e.2]at hst;simp[q,PT.row];refine nx (j+1) [(1,1),(3,3),(6,6)] (by omega) (h4:=?_);simp[qag,e3,hst,DK.row,zPT,PT.row]
  ·have hje:j=2:=by omega
   subst hje;simp[DK.row,PT.row];refine nx (i+1) [(1,1),(3,3),(6,6)] (by omega) (h4:=?_);simp[qag,e2,rbI,DK.row,zPT,PT.row]
 ·have hie:i=4:=by omega
  subst hie;simp[DK.row,PT.row,rbB]
  first
   | rfl
   | congr
theorem qAh (d:DK) (h:DkT d):CV prog 85 [.agg d.row] (.tup [.int .i64 (rbB d).1,.agg (rbB d).2.row,.bool (decide (0<(rbB d).1))]):=by
 refine cvx func85 [(11,[zI 0,zJ 1 [12] [],zJ 2 [] [12],zI 3]),(14,[zI 0,zJ 1 [6] [],zJ 2 [] [6],zJ 3 [] [6],zJ 4 [] [6],zI 5,zI 6])] ntmps85 rfl rfl rfl ?_ (hca:=by simp[DK.row]) (hcv:=by simp[PT.row]);simp[DK.row];refine qbj (X:=Nat) [1,2,3,4,5,6,15] [(1,1),(3,3),(6,6)] (fun i=>[(5,.int .i64 (rbN d i).1),(15,.int .i64 i)]) (fun i=>[(1,⟨3,[d.row]⟩),(3,⟨3,[zPT.row]⟩),(6,⟨3,[(rbN d i).2.row]⟩)]) (fun i=>4-i) (fun i=>i≤4) 0 (by simp) ?_ (he:=by simp[qag,DK.row,zPT,PT.row,rbN]);rintro i hi;by_cases h4:i<4
 ·have e2:=qao ((i:Int)+1) (by omega) (by omega);have e4:IntKind.i64.wrap (1+(i:Int))=(i:Int)+1:=by rw[qao _ (by omega) (by omega)];omega
  simp[show(i:Int)<4 by omega,h4,DK.row,PT.row];refine qbj (X:=Nat) [1,2,3,4,5,6,7,15,18] [(1,1),(3,3),(6,6)] (fun j=>[(5,.int .i64 (rbI d i j).1),(18,.int .i64 j)]) (fun j=>[(1,⟨3,[d.row]⟩),(3,⟨3,[zPT.row]⟩),(6,⟨3,[(rbI d i j).2.row]⟩)]) (fun j=>2-j) (fun j=>j≤2) 0 (by simp) ?_ (he:=by simp[qag,DK.row,zPT,PT.row,rbI]);rintro j hj;by_cases h2:j<2
  ·have e3:=qao ((j:Int)+1) (by omega) (by omega);have c1:=qrn d h j ((i:Int)+1);have hl:=qd7 d j ((i:Int)+1);have c2:=qo7 (qbF d j ((i:Int)+1)).1 (by omega);have hst:=qnQ d i j h2;unfold qjr at hst;simp only[DK.row]at c1;simp only[PT.row]at c2;simp[show(j:Int)<2 by omega,h2,e4,DK.row,PT.row];refine c1.call ?_;simp;refine c2.call ?_;generalize qml (qbF d j ((i:Int)+1)).1=u at *
   obtain⟨⟨un,up⟩,uk⟩:=u;simp only at hst;cases uk with
   | false =>
    rw[if_neg (by simp)]at hst;simp[PT.row];refine nx (j+1) [(1,1),(3,3),(6,6)] (by omega) (h4:=?_);simp[qag,e3,hst,DK.row,zPT,PT.row]
   | true =>
    by_cases q:(rbI d i j).1<un
    ·rw[if_pos ⟨rfl,q⟩]at hst;simp[q,PT.row];refine nx (j+1) [(1,1),(3,3),(6,6)] (by omega) (h4:=?_);simp[qag,e3,hst,DK.row,zPT,PT.row]
    ·rw[if_neg fun e=>q e.2]at hst;simp[q,PT.row];refine nx (j+1) [(1,1),(3,3),(6,6)] (by omega) (h4:=?_);simp[qag,e3,hst,DK.row,zPT,PT.row]
  ·have hje:j=2:=by omega
   subst hje;simp[DK.row,PT.row];refine nx (i+1) [(1,1),(3,3),(6,6)] (by omega) (h4:=?_);simp[qag,e2,rbI,DK.row,zPT,PT.row]
 ·have hie:i=4:=by omega
  subst hie;simp[DK.row,PT.row,rbB]
  first
   | rfl
   | congr
def qhr (l:List BO):Ob:=⟨5,l.map BO.row⟩
theorem qtL (l:List BO):clR (qhr l).els=true:=by simp[clR,qhr,BO.row]
def qeC (d:DK) (i:Nat) (side:Int):LR×Bool:=qkX (qbF d side (5+(i:Int))).1
def qeD (d:DK) (txg:Int) (i:Nat) (side:Int):Bool:=(qeC d i side).2 && decide ((qeC d i side).1.txg=txg) && decide ((qeC d i side).1.seq=i)
def qpB (d:DK) (txg:Int) (i:Nat):Option BO:=if qeD d txg i 0=true then some (qeC d i 0).1.op else if qeD d txg i 1=true then some (qeC d i 1).1.op else none
def tkS:List (Option BO)→List BO
 | some o::r=>o::tkS r
 | _=>[]
def lfF (d:DK) (txg:Int) (k i:Nat):List BO:=tkS ((List.range' i k).map (qpB d txg))
theorem qzV (d:DK) (txg:Int) (i:Nat):lfF d txg 0 i=[]:=by simp[lfF,tkS]
@[simp] theorem qCl (ρ:Nat→Option Plc):qb3 ρ ∘ BO.row=BO.row:=by
 funext o
 simp[BO.row]
theorem qzU (d:DK) (txg:Int) (k i:Nat):lfF d txg (k+1) i=match qpB d txg i with
  | some o=>o::lfF d txg k (i+1)
  | none=>[]:=by
 simp only[lfF,List.range'_succ,qEQ];generalize qpB d txg i=x;cases x <;> rfl
theorem qgF (d:DK) (i:Nat) (side:Int):qeC d i side=qkX (qbF d side (5+(i:Int))).1:=rfl
theorem qfF (d:DK) (txg:Int) (i:Nat) (side:Int):qeD d txg i side=((qeC d i side).2 && decide ((qeC d i side).1.txg=txg) && decide ((qeC d i side).1.seq=i)):=rfl
theorem qmE (d:DK) (txg:Int) (i:Nat):qpB d txg i=if qeD d txg i 0=true then some (qeC d i 0).1.op else if qeD d txg i 1=true then some (qeC d i 1).1.op else none:=rfl
theorem qux (d:DK) (txg:Int) (k i:Nat):lfF d txg k i=tkS ((List.range' i k).map (qpB d txg)):=rfl
attribute [irreducible] lfF qpB qeD qeC
def lfB (d:DK) (txg:Int):List BO:=lfF d txg 8 0
theorem qzT {f:Nat} {args:List AV} {R:List BO} (h:ACall prog f args [] (fun r L'=>(R=[]∧r=.nils∧L'=[])∨(r=.sl 900 0 R.length∧L'=[(900,qhr R)]))) (he:qb8 prog f=true) (ha:clL args=true):CV prog f args (.lst 5 (R.map BO.row)):=by
 refine CV.of_frz h ?_ (he:=he) (hca:=ha) (hcv:=by simp[BO.row]);rintro r L' (⟨rfl,rfl,rfl⟩ | ⟨rfl,rfl⟩)
 ·refine⟨by simp,by simp,by simp,?_⟩;simp only[qbe,qF3];exact qbT 5
 ·refine⟨by simp,by simp,fun x hx=>by simp only[qGX]at hx;subst hx;exact qtL _,?_⟩;simp[qbe,qhr,qal]
theorem qB9 (d:DK) (h:DkT d) (txg:Int) (i:Nat) (hi:i<8):CV prog 202 [.agg d.row,.int .i64 txg,.int .i64 i] (.tup [.agg ((qpB d txg i).getD zBO).row,.bool (qpB d txg i).isSome]):=by
 obtain⟨R,hR⟩:∃ R,qpB d txg i=R:=⟨_,rfl⟩;rw[hR];rw[qmE]at hR;have e1:=qao (5+(i:Int)) (by omega) (by omega);refine cvx func202 [] ntmps202 rfl rfl rfl ?_ (hca:=by simp[DK.row]) (hcv:=by simp[BO.row]);simp[DK.row];refine qbj (X:=Nat) [1,2,3,6,7,8] [(3,3),(6,6)] (fun j=>[(8,.int .i64 j)]) (fun j=>[(3,⟨3,[d.row]⟩),(6,⟨5,[zBO.row]⟩)]) (fun j=>2-j) (fun j=>j=0∨(j=1∧qeD d txg i 0=false)∨(j=2∧qeD d txg i 0=false∧qeD d txg i 1=false)) 0 (.inl rfl) ?_ (he:=by simp[qag,DK.row,zBO,BO.row]);have body:∀ side:Int,(qeC d i side).2=true→(qeC d i side).1.txg=txg→(qeC d i side).1.seq=i→qeD d txg i side=true:=fun side a b c=>by rw[qfF];simp[a,b,c]
 rintro j (rfl | ⟨rfl,q0⟩ | ⟨rfl,q0,q1⟩)
 ·have c1:=qnD d h 0 (5+(i:Int));have hl:=qd7 d 0 (5+(i:Int));have c2:=qld (qbF d 0 (5+(i:Int))).1 (by omega);have hh:qeD d txg i 0=((qeC d i 0).2 && decide ((qeC d i 0).1.txg=txg) && decide ((qeC d i 0).1.seq=i)):=qfF d txg i 0;simp only[DK.row]at c1;simp only[LR.row,BO.row]at c2;simp[DK.row,e1];refine c1.call ?_;simp;refine c2.call ?_;rw[← qgF];generalize qeC d i 0=u at *
  obtain⟨⟨ut,us,uo⟩,uk⟩:=u;simp only at hh hR;cases uk with
  | false =>
   have hf:qeD d txg i 0=false:=by simpa using hh
   simp;exact nx 1 [(3,3),(6,6)] (by simp[hf]) (h4:=by simp[qag,DK.row,zBO,BO.row])
  | true =>
   by_cases a:ut=txg
   ·by_cases b:us=i
    ·have ht:qeD d txg i 0=true:=by simp[hh,a,b]
     rw[if_pos ht]at hR;subst hR;simp[a,b,BO.row]
    ·have hf:qeD d txg i 0=false:=by simp[hh,b]
     simp[a,b];exact nx 1 [(3,3),(6,6)] (by simp[hf]) (h4:=by simp[qag,DK.row,zBO,BO.row])
   ·have hf:qeD d txg i 0=false:=by simp[hh,a]
    simp[a];exact nx 1 [(3,3),(6,6)] (by simp[hf]) (h4:=by simp[qag,DK.row,zBO,BO.row])
 ·rw[if_neg (by simp[q0])]at hR;have c1:=qnD d h 1 (5+(i:Int));have hl:=qd7 d 1 (5+(i:Int));have c2:=qld (qbF d 1 (5+(i:Int))).1 (by omega);have hh:qeD d txg i 1=((qeC d i 1).2 && decide ((qeC d i 1).1.txg=txg) && decide ((qeC d i 1).1.seq=i)):=qfF d txg i 1;simp only[DK.row]at c1;simp only[LR.row,BO.row]at c2;simp[DK.row,e1];refine c1.call ?_;simp;refine c2.call ?_;rw[← qgF];generalize qeC d i 1=u at *
  obtain⟨⟨ut,us,uo⟩,uk⟩:=u;simp only at hh hR;cases uk with
  | false =>
   have hf:qeD d txg i 1=false:=by simpa using hh
   simp;exact nx 2 [(3,3),(6,6)] (by simp[hf,q0]) (h4:=by simp[qag,DK.row,zBO,BO.row])
  | true =>
   by_cases a:ut=txg
   ·by_cases b:us=i
    ·have ht:qeD d txg i 1=true:=by simp[hh,a,b]
     rw[if_pos ht]at hR;subst hR;simp[a,b,BO.row]
    ·have hf:qeD d txg i 1=false:=by simp[hh,b]
     simp[a,b];exact nx 2 [(3,3),(6,6)] (by simp[hf,q0]) (h4:=by simp[qag,DK.row,zBO,BO.row])
   ·have hf:qeD d txg i 1=false:=by simp[hh,a]
    simp[a];exact nx 2 [(3,3),(6,6)] (by simp[hf,q0]) (h4:=by simp[qag,DK.row,zBO,BO.row])
 ·rw[if_neg (by simp[q0]),if_neg (by simp[q1])]at hR;subst hR;simp[zBO,BO.row]
theorem qqo (d:DK) (h:DkT d) (txg:Int):CV prog 99 [.agg d.row,.int .i64 txg] (.lst 5 ((lfB d txg).map BO.row)):=by
 refine qzT ?_ (by kernel_rfl) (by simp[DK.row]);obtain⟨R,hR⟩:∃ R,lfB d txg=R:=⟨_,rfl⟩;rw[hR];unfold lfB at hR;refine acx func99 [] ntmps99 rfl rfl rfl ?_;simp[DK.row];refine qbj (X:=Nat×List BO) [1,2,4,5,6] [(2,2),(9,900)] (fun x=>[(5,.sl 900 0 x.2.length),(6,.int .i64 x.1)]) (fun x=>[(2,⟨3,[d.row]⟩),(900,qhr x.2)]) (fun x=>8-x.1) (fun x=>x.1≤8∧x.2.length=x.1∧x.2++lfF d txg (8-x.1) x.1=R) (0,[]) (by simp[hR]) ?_ (he:=by simp[qag,qhr,DK.row]);rintro⟨i,acc⟩ ⟨hi,ha,hd⟩;simp only at hi ha hd;by_cases h8:i<8
 ·have e2:=qao ((i:Int)+1) (by omega) (by omega);have c1:=qB9 d h txg i h8;rw[show 8-i=(8-(i+1))+1 by omega,qzU]at hd;simp only[DK.row]at c1;simp[show(i:Int)<8 by omega,h8,DK.row];refine c1.call ?_;cases hr:qpB d txg i with
  | none =>
   rw[hr]at hd;simp only[qGw]at hd;subst hd;simp[BO.row]
  | some o =>
   rw[hr]at hd;simp only at hd;simp[BO.row,qhr];refine⟨by omega,nx (i+1,acc++[o]) [(2,2),(27,900)] ⟨by simp only;omega,by simp[ha],by simp only;rw[List.append_assoc];exact hd⟩ (by simp only;omega) (h4:=?_)⟩;simp[qag,e2,qhr,DK.row,qal,BO.row]
 ·have hie:i=8:=by omega
  subst hie;simp only[Nat.sub_self,qzV,qGw]at hd;subst hd;simp
def lfI (d:DK) (txg:Int) (i j:Nat):Option BO:=if j=0 then none else if j=1 then (if qeD d txg i 0=true then some (qeC d i 0).1.op else none) else qpB d txg i
theorem qrs (d:DK) (h:DkT d) (txg:Int):CV prog 106 [.agg d.row,.int .i64 txg] (.lst 5 ((lfB d txg).map BO.row)):=by
 refine qzT ?_ (by kernel_rfl) (by simp[DK.row]);obtain⟨R,hR⟩:∃ R,lfB d txg=R:=⟨_,rfl⟩;rw[hR];unfold lfB at hR;refine acx func106 [] ntmps106 rfl rfl rfl ?_;simp[DK.row];refine qeW (qjT 5 5 (by simp) (by simp)) ?_;refine qbj (X:=Nat×List BO) [1,2,4,5,13] [(2,2),(5,900)] (fun x=>[(5,.sl 900 0 x.2.length),(13,.int .i64 x.1)]) (fun x=>[(2,⟨3,[d.row]⟩),(900,qhr x.2)]) (fun x=>8-x.1) (fun x=>x.1≤8∧x.2.length=x.1∧x.2++lfF d txg (8-x.1) x.1=R) (0,[]) (by simp[hR]) ?_ (he:=by simp[qag,qhr,DK.row]);rintro⟨i,acc⟩ ⟨hi,ha,hd⟩;simp only at hi ha hd;by_cases h8:i<8
 ·have e2:=qao ((i:Int)+1) (by omega) (by omega);have e1:=qao (5+(i:Int)) (by omega) (by omega);rw[show 8-i=(8-(i+1))+1 by omega,qzU]at hd;simp[show(i:Int)<8 by omega,h8,DK.row];refine qbj (X:=Nat) [1,2,4,5,6,7,13,16] [(2,2),(900,900)] (fun j=>[(5,.sl 900 0 (acc++(lfI d txg i j).toList).length),(7,.bool (lfI d txg i j).isSome),(16,.int .i64 j)]) (fun j=>[(2,⟨3,[d.row]⟩),(900,qhr (acc++(lfI d txg i j).toList))]) (fun j=>2-j) (fun j=>j≤2) 0 (by simp) ?_ (he:=by simp[qag,qhr,DK.row,lfI]);rintro j hj;have hjj:j=0∨j=1∨j=2:=by omega
  rcases hjj with rfl | rfl | rfl
  ·have c1:=qrn d h 0 (5+(i:Int));have hl:=qd7 d 0 (5+(i:Int));have c2:=qlK (qbF d 0 (5+(i:Int))).1 (by omega);have hh:qeD d txg i 0=((qeC d i 0).2 && decide ((qeC d i 0).1.txg=txg) && decide ((qeC d i 0).1.seq=i)):=qfF d txg i 0;have h0:lfI d txg i 0=none:=rfl;have h1:lfI d txg i 1=(if qeD d txg i 0=true then some (qeC d i 0).1.op else none):=rfl
   simp only[DK.row]at c1;simp only[LR.row,BO.row]at c2;simp[DK.row,e1,h0];refine c1.call ?_;simp;refine c2.call ?_;rw[← qgF];generalize qeC d i 0=u at *
   obtain⟨⟨ut,us,uo⟩,uk⟩:=u;simp only at hh h1;cases uk with
   | false =>
    have hf:qeD d txg i 0=false:=by simpa using hh
    simp[h0];refine nx 1 [(2,2),(900,900)] (by omega) (h4:=?_);simp[qag,qhr,DK.row,h0,h1,hf,BO.row]
   | true =>
    by_cases a:ut=txg
    ·by_cases b:us=i
     ·have ht:qeD d txg i 0=true:=by simp[hh,a,b]
      simp[h0,a,b,qhr,BO.row];refine⟨by omega,nx 1 [(2,2),(53,900)] (by omega) (h4:=?_)⟩;simp[qag,qhr,DK.row,h0,h1,ht,BO.row,qal]
     ·have hf:qeD d txg i 0=false:=by simp[hh,b]
      simp[h0,a,b];refine nx 1 [(2,2),(900,900)] (by omega) (h4:=?_);simp[qag,qhr,DK.row,h0,h1,hf,BO.row]
    ·have hf:qeD d txg i 0=false:=by simp[hh,a]
     simp[h0,a];refine nx 1 [(2,2),(900,900)] (by omega) (h4:=?_);simp[qag,qhr,DK.row,h0,h1,hf,BO.row]
  ·have c1:=qrn d h 1 (5+(i:Int));have hl:=qd7 d 1 (5+(i:Int));have c2:=qlK (qbF d 1 (5+(i:Int))).1 (by omega);have hh:qeD d txg i 1=((qeC d i 1).2 && decide ((qeC d i 1).1.txg=txg) && decide ((qeC d i 1).1.seq=i)):=qfF d txg i 1;have h0:lfI d txg i 1=(if qeD d txg i 0=true then some (qeC d i 0).1.op else none):=rfl
   have h1:lfI d txg i 2=(if qeD d txg i 0=true then some (qeC d i 0).1.op else if qeD d txg i 1=true then some (qeC d i 1).1.op else none):=qmE d txg i
   simp only[DK.row]at c1;simp only[LR.row,BO.row]at c2;simp[DK.row,e1];refine c1.call ?_;simp;refine c2.call ?_;cases g0:qeD d txg i 0 with
   | true =>
    rw[if_pos g0]at h0 h1;cases uk2:(qkX (qbF d 1 (5+(i:Int))).1).2 with
    | false =>
     simp[h0];refine nx 2 [(2,2),(900,900)] (by omega) (h4:=?_);simp[qag,qhr,DK.row,h0,h1,BO.row]
    | true =>
     simp[h0];refine nx 2 [(2,2),(900,900)] (by omega) (h4:=?_);simp[qag,qhr,DK.row,h0,h1,BO.row]
   | false =>
    rw[if_neg (by simp[g0])]at h0 h1;rw[← qgF];generalize qeC d i 1=u at *
    obtain⟨⟨ut,us,uo⟩,uk⟩:=u;simp only at hh h1;cases uk with
    | false =>
     have hf:qeD d txg i 1=false:=by simpa using hh
     simp[h0];refine nx 2 [(2,2),(900,900)] (by omega) (h4:=?_);simp[qag,qhr,DK.row,h0,h1,hf,BO.row]
    | true =>
     by_cases a:ut=txg
     ·by_cases b:us=i
      ·have ht:qeD d txg i 1=true:=by simp[hh,a,b]
       simp[h0,a,b,qhr,BO.row];refine⟨by omega,nx 2 [(2,2),(53,900)] (by omega) (h4:=?_)⟩;simp[qag,qhr,DK.row,h0,h1,ht,BO.row,qal]
      ·have hf:qeD d txg i 1=false:=by simp[hh,b]
       simp[h0,a,b];refine nx 2 [(2,2),(900,900)] (by omega) (h4:=?_);simp[qag,qhr,DK.row,h0,h1,hf,BO.row]
     ·have hf:qeD d txg i 1=false:=by simp[hh,a]
      simp[h0,a];refine nx 2 [(2,2),(900,900)] (by omega) (h4:=?_);simp[qag,qhr,DK.row,h0,h1,hf,BO.row]
  ·simp[DK.row];cases hr:qpB d txg i with
   | none =>
    rw[hr]at hd;simp only[qGw]at hd;subst hd;simp[lfI,hr]
   | some o =>
    rw[hr]at hd;simp only at hd;simp[lfI,hr];refine nx (i+1,acc++[o]) [(2,2),(900,900)] ⟨by simp only;omega,by simp[ha],by simp only;rw[List.append_assoc];exact hd⟩ (by simp only;omega) (h4:=?_);simp[qag,e2,qhr,DK.row,lfI,hr,BO.row]
 ·have hie:i=8:=by omega
  subst hie;simp only[Nat.sub_self,qzV,qGw]at hd;subst hd;simp
def xpP (d:DK) (s:CS):Bool:=decide ((qaj d s.home).2=0) && (qeN (qaj d s.home).1).2
def xpS (d:DK) (s:CS):CS:={ s with map:=(qeN (qaj d s.home).1).1 }
def xpA (d:DK) (l:List CS):Bool:=l.all (xpP d)
def xpN (d:DK) (l:List CS) (i:Nat):List CS:=(l.take i).map (xpS d)++l.drop i
theorem qyp (d:DK) (l:List CS):xpN d l 0=l:=by simp[xpN]
theorem qpG (d:DK) (l:List CS) (i:Nat):(xpN d l i).length=l.length:=by
 simp[xpN];omega
theorem qpH (d:DK) (l:List CS):xpN d l l.length=l.map (xpS d):=by simp[xpN]
theorem qtY {d:DK} {l:List CS} {i:Nat} {s:CS} (hs:l[i]?=some s):(xpN d l i)[i]?=some s∧(xpN d l i).set i (xpS d s)=xpN d l (i+1):=by
 have hl:=(qEW.1 hs).1;have hd:l.drop i=s::l.drop (i+1):=by
  have:=(qEW.1 hs).2;rw[← this];exact qEv hl
 have ht:l.take (i+1)=l.take i++[s]:=by
  rw[qGc,hs];rfl
 have hn:((l.take i).map (xpS d)).length=i:=by simp;omega
 constructor
 ·unfold xpN;rw[hd,qEN (by omega),hn];simp
 ·unfold xpN;rw[hd,ht,qGu,List.set_append_right _ _ (by omega),hn];simp
theorem qpF (d:DK) (s:CS) (h:s.map.length=8) (L:List AV) (hL:L=(qeN (qaj d s.home).1).1.flatMap PT.row):List.take 3 s.row++(L++List.drop 27 s.row)=(xpS d s).row:=by
 subst hL;obtain⟨n,k,f,m,hm,b⟩:=s;simp only at h;have h24:(m.flatMap PT.row).length=24:=by rw[qks,h]
 simp only[CS.row,xpS]
 congr 1
 rw[show(27:Nat)=24+3 by rfl];simp only[List.drop_succ_cons];rw[qFF (by omega),qF9 (by omega)];simp
theorem qcU (d:DK) (p:PT):(qaj d p).1.length≤420:=by
 unfold qaj;split
 ·simp
 ·split
  ·rename_i h;exact qeK (qdl h).1 _ _
  ·split
   ·rename_i h;exact qeK (qdl h).1 _ _
   ·simp
theorem qqL {l:List PT} (h:l.length=8):(List.map (fun a:PT=>3) l).sum=24:=by
 have:=qks l;rw[qHc,h]at this;exact this
theorem qqM (l:List PT):∀ x∈l.flatMap PT.row,qda x=true:=fun x hx=>by
 obtain⟨p,_,hp⟩:=qGN.1 hx;simp only[PT.row,qFO,qFX,or_false]at hp;rcases hp with rfl | rfl | rfl <;> rfl
theorem qnp {d:DK} {l:List CS} {i:Nat} {s:CS} (hs:l[i]?=some s) (h:xpA d (l.take i)=true) (h2:xpP d s=true):xpA d (l.take (i+1))=true:=by
 rw[qGc,hs];unfold xpA at *
 rw[qGd,h];simp[h2]
theorem qtZ {d:DK} {l:List CS} {s:CS} (hs:s∈l) (h:xpP d s=false):xpA d l=false:=by
 cases hk:xpA d l with
 | false=>rfl
 | true =>
  unfold xpA at hk;rw[qED]at hk;rw[hk s hs]at h;cases h
def mpQ (d:DK) (x:RS2) (K:Bool) (r:AV) (L':List (Nat×Ob)):Prop:=∃ l,l.length=x.1.length∧(K=true→l=x.1.map (xpS d))∧r=.tup [.agg (lnR (l,x.2) 1000 1001),.bool K]∧L'=[(1000,kcs l),(1001,kpt x.2)]
theorem qy2 (d:DK) (h:DkT d) (x:RS2) (hx:x.1.length≤1000000) (h8:∀ s∈x.1,s.map.length=8) :
  ACall prog 76 [.agg d.row,.agg (lnR x 1000 1001)] [(1000,kcs x.1),(1001,kpt x.2)] (mpQ d x (xpA d x.1)):=by
 obtain⟨K,hK⟩:∃ K,xpA d x.1=K:=⟨_,rfl⟩;rw[hK];refine acx func76 [(4,[zJ 0 [2] [],zJ 1 [] [2],zJ 2 [3] [2],zJ 3 [] [2,3],zJ 4 [1000] [2],zJ 5 [] [2],zJ 6 [1000] [2],zI 7,zI 8,zI 9,zI 10,zI 11,zI 12])] ntmps76 rfl rfl rfl ?_;simp[lnR,DK.row];refine qbj (X:=Nat) [2,3,4,5,6] [(2,2),(3,3),(4,4),(1000,1000),(1001,1001)] (fun i=>[(5,.bool false),(6,.int .i64 i)]) (fun i=>[(2,⟨3,[d.row]⟩),(3,⟨7,[lnR x 1000 1001]⟩),(4,⟨7,[[.int .i64 0,.nils,.nils,.nils,.bool false,.nils,.int .i64 0]]⟩),(1000,kcs (xpN d x.1 i)),(1001,kpt x.2)]) (fun i=>x.1.length-i) (fun i=>i≤x.1.length∧xpA d (x.1.take i)=true) 0 ⟨by omega,by simp[xpA]⟩ ?_ (he:=by simp[qag,lnR,qyp,DK.row]);rintro i ⟨hi,ha⟩;by_cases hil:i<x.1.length
 ·obtain⟨s,f1⟩:∃ s,x.1[i]?=some s:=⟨_,qEq hil⟩;have hm:=qGj f1;have hs8:=h8 s hm;have hrl:=qaV s hs8;have hho:=qdz s hs8;have e2:=qao ((i:Int)+1) (by omega) (by omega);have c1:=qfR d h s.home;have hbl:=qcU d s.home;have c2:=qqm (qaj d s.home).1 (by omega);obtain⟨g1,g2⟩:=qtY (d:=d) f1;have gl:=qpG d x.1 i;have hcond:xpP d s=(decide ((qaj d s.home).2=0) && (qeN (qaj d s.home).1).2):=rfl;have hup:=qpF d s hs8;have hml:=qkj (qaj d s.home).1;have hsu:=qqL hml;have hone:=qqM (qeN (qaj d s.home).1).1;have hfl:((qeN (qaj d s.home).1).1.flatMap PT.row).length=24:=by rw[qks,hml]
  simp only[DK.row,PT.row]at c1 hho;obtain⟨Y,hY⟩:∃ Y,xpN d x.1 i=Y:=⟨_,rfl⟩;rw[hY]at g1 g2 gl;have hiY:i<Y.length:=by omega
  have y0:Y[i]=s:=(qEW.1 g1).2;rw[hY];generalize qaj d s.home=bb at *
  obtain⟨bt,bc⟩:=bb;simp only at c1 c2 hcond hup hml hsu hone hfl;generalize qeN bt=mm at *
  obtain⟨mp,mk⟩:=mm;simp only at c2 hcond hup hml hsu hone hfl;simp[lnR,kcs,show(i:Int)<x.1.length by omega,hil,g1,hiY,y0,hrl,hho,gl,DK.row];refine c1.call ?_;simp;refine c2.call ?_;by_cases q:bc=0∧mk=true
  ·obtain⟨rfl,rfl⟩:=q;have hnx:=qnp f1 ha (by rw[hcond];rfl);simp[kcs,hiY,y0,g1,hrl,hsu,hfl,qEF (qEG hfl),gl,hil];refine nx (i+1) [(2,2),(3,3),(4,4),(1000,1000),(1001,1001)] ⟨by omega,hnx⟩ (by omega) (h4:=?_);simp[qag,e2,lnR,kcs,← g2,DK.row,hsu,hfl,hup _ rfl,qhD]
  ·have hk:=qtZ hm (show xpP d s=false by rw[hcond];cases mk <;> simp_all);rw[hK]at hk;subst hk;by_cases q1:bc=0
   ·have:mk=false:=by cases mk <;> simp_all
    subst this;simp[kcs,q1,hsu];exact⟨[(1000,kcs Y),(1001,kpt x.2)],by simp[kcs],Y,gl,by simp,by simp[lnR,gl],rfl⟩
   ·simp[kcs,q1];exact⟨hsu,[(1000,kcs Y),(1001,kpt x.2)],by simp[kcs],Y,gl,by simp,by simp[lnR,gl],rfl⟩
 ·have hie:i=x.1.length:=by omega
  subst hie;rw[qEF (by omega),hK]at ha;subst ha;simp[lnR];exact⟨[(1000,kcs (x.1.map (xpS d))),(1001,kpt x.2)],by simp[qpH],x.1.map (xpS d),by simp,fun _=>rfl,by simp[lnR],rfl⟩
def tbP (d:DK) (p:PT):Bool:=decide ((qaj d p).2=0) && (qi6 (qaj d p).1).2
def tbS (d:DK) (p:PT):List DE:=(qi6 (qaj d p).1).1
def tbA (d:DK) (l:List PT):Bool:=l.all (tbP d)
def tbN (d:DK) (l:List PT) (i:Nat):List DE:=(l.take i).flatMap (tbS d)
theorem qkJ (t:List UInt8):(qi6 t).1.length≤48:=by
 unfold qi6;split
 ·simp
 ·split
  ·simp
  ·split
   ·split
    ·rename_i h;exact(qiN h).1
    ·simp
   ·simp
theorem qjS (d:DK) (l:List PT):∀ i,(tbN d l i).length≤48 * i
 | 0=>by simp[tbN]
 | i+1=>by
  have:=qjS d l i;unfold tbN at *
  rw[qGc,qHu,qFD];have h2:(List.flatMap (tbS d) l[i]?.toList).length≤48:=by
   cases l[i]? with
   | none=>simp
   | some p=>simpa [tbS]using qkJ _
  omega
theorem qnu {d:DK} {l:List PT} {i:Nat} {p:PT} (hs:l[i]?=some p):tbN d l i++tbS d p=tbN d l (i+1):=by
 unfold tbN;rw[qGc,hs,qHu];simp
theorem qnv {d:DK} {l:List PT} {i:Nat} {s:PT} (hs:l[i]?=some s) (h:tbA d (l.take i)=true) (h2:tbP d s=true):tbA d (l.take (i+1))=true:=by
 rw[qGc,hs];unfold tbA at *
 rw[qGd,h];simp[h2]
theorem qt6 {d:DK} {l:List PT} {s:PT} (hs:s∈l) (h:tbP d s=false):tbA d l=false:=by
 cases hk:tbA d l with
 | false=>rfl
 | true =>
  unfold tbA at hk;rw[qED]at hk;rw[hk s hs]at h;cases h
def tbR (x:RS2) (a b c n:Nat):List AV:=[.int .i64 0,.sl a 0 x.1.length,.sl b 0 n,.sl c 0 x.2.length,.bool false,.nils,.int .i64 0]
def tbQ (d:DK) (x:RS2) (K:Bool) (r:AV) (L':List (Nat×Ob)):Prop:=∃ l,(K=true→l=x.2.flatMap (tbS d))∧r=.tup [.agg (tbR x 1000 902 1001 l.length),.bool K]∧L'=[(1000,kcs x.1),(902,qaR l),(1001,kpt x.2)]
theorem qvW (d:DK) (h:DkT d) (x:RS2) (hx:x.2.length≤10000) :
  ACall prog 77 [.agg d.row,.agg (lnR x 1000 1001)] [(1000,kcs x.1),(1001,kpt x.2)] (tbQ d x (tbA d x.2)):=by
 obtain⟨K,hK⟩:∃ K,tbA d x.2=K:=⟨_,rfl⟩;rw[hK];refine acx func77 [(4,[zJ 0 [2] [],zJ 1 [] [2],zJ 2 [3] [2],zJ 3 [] [2,3],zJ 4 [1001] [2],zJ 5 [1001] [2],zI 6,zI 7,zI 8,zI 9,zI 10,zI 11])] ntmps77 rfl rfl rfl ?_;simp[lnR,DK.row];refine qeW ((qeF 902 3 (by simp)).trans (qdk 3 2 (sz:=7) (row:=lnR x 1000 1001) (by simp[lnR]) (by simp[lnR]) (qcF 902 0))) ?_;refine qbj (X:=Nat) [2,3,4,5,6] [(2,2),(3,3),(4,4),(1000,1000),(902,902),(1001,1001)] (fun i=>[(5,.bool false),(6,.int .i64 i)]) (fun i=>[(2,⟨3,[d.row]⟩),(3,⟨7,[tbR x 1000 902 1001 (tbN d x.2 i).length]⟩),(4,⟨7,[[.int .i64 0,.nils,.nils,.nils,.bool false,.nils,.int .i64 0]]⟩),(1000,kcs x.1),(902,qaR (tbN d x.2 i)),(1001,kpt x.2)]) (fun i=>x.2.length-i) (fun i=>i≤x.2.length∧tbA d (x.2.take i)=true) 0 ⟨by omega,by simp[tbA]⟩ ?_ (he:=by simp[qag,lnR,tbR,tbN,DK.row,qaR]);rintro i ⟨hi,ha⟩;have hnl:=qjS d x.2 i;by_cases hil:i<x.2.length
 ·obtain⟨s,f1⟩:∃ s,x.2[i]?=some s:=⟨_,qEq hil⟩;have f0:x.2[i]=s:=(qEW.1 f1).2;have hm:=qGj f1;have e2:=qao ((i:Int)+1) (by omega) (by omega);have c1:=qfR d h s;have hbl:=qcU d s;have c2:=qqs (qaj d s).1 (by omega);have hdl:=qkJ (qaj d s).1;have hcond:tbP d s=(decide ((qaj d s).2=0) && (qi6 (qaj d s).1).2):=rfl;have hnx:=qnu (d:=d) f1;have hts:tbS d s=(qi6 (qaj d s).1).1:=rfl;rw[hts]at hnx;simp only[DK.row,PT.row]at c1;generalize qaj d s=bb at *
  obtain⟨bt,bc⟩:=bb;simp only at c1 c2 hcond hbl hdl hnx;generalize qi6 bt=mm at *
  obtain⟨mp,mk⟩:=mm;simp only at c2 hcond hdl hnx;simp[tbR,qaR,kpt,show(i:Int)<x.2.length by omega,hil,f0,f1,PT.row,DK.row];refine c1.call ?_;simp;refine c2.call ?_;by_cases q:bc=0∧mk=true
  ·obtain⟨rfl,rfl⟩:=q;have hnA:=qnv f1 ha (by rw[hcond];rfl);simp[tbR,qaR];refine⟨by omega,nx (i+1) [(2,2),(3,3),(4,4),(1000,1000),(43,902),(1001,1001)] ⟨by omega,hnA⟩ (by omega) (h4:=?_)⟩;simp[qag,e2,tbR,qaR,kpt,← hnx,DK.row,qal]
  ·have hk:=qt6 hm (show tbP d s=false by rw[hcond];cases mk <;> simp_all);rw[hK]at hk;subst hk;by_cases q1:bc=0
   ·have:mk=false:=by cases mk <;> simp_all
    subst this;simp[tbR,qaR,q1];exact⟨[(1000,kcs x.1),(902,qaR (tbN d x.2 i)),(1001,kpt x.2)],by simp[qaR,kpt],tbN d x.2 i,by simp,by simp[tbR],rfl⟩
   ·simp[tbR,qaR,q1];exact⟨[(1000,kcs x.1),(902,qaR (tbN d x.2 i)),(1001,kpt x.2)],by simp[qaR,kpt],tbN d x.2 i,by simp,by simp[tbR],rfl⟩
 ·have hie:i=x.2.length:=by omega
  subst hie;rw[qEF (by omega),hK]at ha;subst ha;simp[tbR];exact⟨[(1000,kcs x.1),(902,qaR (tbN d x.2 x.2.length)),(1001,kpt x.2)],by simp[qaR],tbN d x.2 x.2.length,fun _=>by simp[tbN],by simp[tbR],rfl⟩
theorem qwb {t:List UInt8} {x:RS2} (h:qhm t=(qa6 x,true)):t≠[]∧x.1.length≤6∧x.2.length≤8∧(∀ s∈x.1,s.map.length=8∧qbl s=true)∧∀ p∈x.2,qan p=true:=by
 unfold qhm at h;split at h
 ·exact absurd (congrArg Prod.snd h) (by simp)
 ·rename_i h1;have hd:(qaF 10 t []).head?=some qll:=by
   apply qF6;exact fun e=>h1 (.inr e)
  have hne:t≠[]:=by
   rintro rfl
   revert hd
   decide
  cases ho:qe5 qek (qaF 10 t []).tail ([],[])with
  | none =>
   rw[ho]at h;exact absurd (congrArg Prod.snd h) (by simp[qmq])
  | some y =>
   rw[ho]at h;simp only[qmq]at h;split at h
   ·rename_i ha;have hy:y=x:=by
     have h2:=congrArg (fun z:CO×Bool=>(z.1.sets,z.1.parts)) h;simp only[qa6,qEe]at h2;exact Prod.ext h2.1 h2.2
    subst hy;obtain⟨r1,r2,_⟩:=qjp (qgn ha) hne;have hn:=qj5 qlF _ _ y (by simp) ho;simp only[qhW,Bool.and_eq_true,decide_eq_true_eq]at ha;have hb:=(okB_iff.1 ha.1.2).1;simp only[qFs]at hb;exact⟨hne,hb,ha.2,fun s hs=>⟨by rw[(hn s hs).1];rfl,r1 s hs⟩,r2⟩
   ·exact absurd (congrArg Prod.snd h) (by simp)
def rrC (d:DK) (c:CO):CO:=⟨(rbB d).1,c.sets.map (xpS d),c.parts.flatMap (tbS d),c.parts,false,[],0⟩
def rrF (d:DK):Bool:=decide ((qaj d (rbB d).2).2=0) && (qhm (qaj d (rbB d).2).1).2
def rrG (d:DK) (c:CO):Bool:=xpA d c.sets && tbA d c.parts && qap (rrC d c)
def rrS (d:DK) (c:CO):CO:={ rrC d c with safe:=qcM (rrC d c) (rbB d).2.pa }
def rrB (d:DK):CO×Int :=
 if qbw d=true∧0<(rbB d).1 then if rrF d=true then if rrG d (qhm (qaj d (rbB d).2).1).1=true then (rrS d (qhm (qaj d (rbB d).2).1).1,0) else (zK,8) else (zK,8) else (zK,1)
def rrQ (a b e f:Nat) (R:CO×Int) (r:AV) (L':List (Nat×Ob)):Prop :=
 (R.1=zK∧R.2≠0∧r=.tup [.agg [.int .i64 0,.nils,.nils,.nils,.bool false,.nils,.int .i64 0],.int .i64 R.2]∧L'=[]) ∨
 (R.2=0∧r=.tup [qe0 R.1 a b e f,.int .i64 0]∧L'=[(a,kcs R.1.sets),(b,qaR R.1.ddt),(e,kpt R.1.parts),(f,kin R.1.safe)])
theorem qwe {t:List UInt8} {x:RS2} (h:qhm t=(qa6 x,true)) (d:DK):CoT (rrC d (qa6 x)):=by
 obtain⟨_,h1,h2,h3,h4⟩:=qwb h;refine⟨by simp[rrC,qa6];omega,?_,by simp[rrC,qa6];omega,by simp[rrC],?_,?_⟩
 ·have:=qjS d x.2 x.2.length;simp only[tbN,qGm]at this;simp only[rrC,qa6];omega
 ·intro s hs;obtain⟨s0,hs0,rfl⟩:=qER.1 hs;exact qkj _
 ·intro s hs;obtain⟨s0,hs0,rfl⟩:=qER.1 hs;have:=qiP (h3 s0 hs0).2;simp only[xpS];omega
theorem qoR (d:DK) (h:DkT d):ACall prog 31 [.agg d.row] [] (rrQ 900 902 901 903 (rrB d)):=by
 obtain⟨R,hR⟩:∃ R,rrB d=R:=⟨_,rfl⟩;rw[hR];unfold rrB at hR;have c1:=qy8 d h;have c2:=qee d h;have c3:=qfR d h (rbB d).2;have hbl:=qcU d (rbB d).2;have c4:=qoQ (qaj d (rbB d).2).1 (by omega);have hF:rrF d=(decide ((qaj d (rbB d).2).2=0) && (qhm (qaj d (rbB d).2).1).2):=rfl;have hT:=fun x (hx:qhm (qaj d (rbB d).2).1=(qa6 x,true))=>qwe hx d;have hok:=fun x (hx:qhm (qaj d (rbB d).2).1=(qa6 x,true))=>qwb hx;simp only[DK.row,PT.row]at c1 c2 c3;refine acx func31 [] ntmps31 rfl rfl rfl ?_;simp[DK.row];refine c1.call ?_;simp[PT.row];refine c2.call ?_;by_cases g0:qbw d=true∧0<(rbB d).1
 ·rw[if_pos g0]at hR;obtain⟨g1,g2⟩:=g0;simp[g1,g2];refine c3.call ?_;simp;generalize (qaj d (rbB d).2).1=bt at *
  generalize (qaj d (rbB d).2).2=bc at *
  refine qad [] (by kernel_rfl) c4 (by simp) (by simp) trivial (by simp) (by simp) ?_;rintro r L' (⟨hr,rfl,rfl⟩ | ⟨x,hr,rfl,rfl⟩)
  ·rw[hr]at hF;rw[if_neg (by rw[hF];simp)]at hR;subst hR;refine⟨[],⟨by simp,by simp,by simp,by simp,by simp⟩,?_⟩;simp only[qaf];by_cases q:bc=0
   ·simp[q];exact⟨[],by simp,.inl ⟨rfl,by simp,rfl,rfl⟩⟩
   ·simp[q];exact⟨[],by simp,.inl ⟨rfl,by simp,rfl,rfl⟩⟩
  ·have hTx:=hT x hr;obtain⟨_,o1,o2,o3,o4⟩:=hok x hr;rw[hr]at hF hR;simp only[qEy]at hF;refine⟨[(900,900),(901,901)],⟨by simp,by simp,by simp,by simp,by simp⟩,?_⟩;simp only[qaf];by_cases q:bc=0
   ·rw[if_pos (by rw[hF];simp[q])]at hR;have hG:rrG d (qa6 x)=(xpA d x.1 && tbA d x.2 && qap (rrC d (qa6 x))):=rfl;have c5:=qy2 d h x (by omega) fun s hs=>(o3 s hs).1;simp only[DK.row,lnR]at c5;simp[q,lnR];refine qad [(1000,.whole 900),(1001,.whole 901)] (by kernel_rfl) c5 (by simp) (by simp) ⟨⟨kcs x.1,by simp,rfl,qaa rfl (qbd _)⟩,⟨kpt x.2,by simp,rfl,qaa rfl (qbL _)⟩,trivial⟩ (by simp) (by simp) ?_;rintro r' L' ⟨l,hl,hk,rfl,rfl⟩;refine⟨[],⟨by simp[lnR],by simp,by simp,by simp[lnR],by simp[lnR]⟩,?_⟩;simp only[qaf];have c6:=qvW d h (l,x.2) (by simp only;omega);simp only[DK.row,lnR]at c6;simp[lnR];refine qad [(1000,.whole 900),(1001,.whole 901)] (by kernel_rfl) c6 (by simp) (by simp) ⟨⟨kcs l,by simp,rfl,qaa rfl (qbd _)⟩,⟨kpt x.2,by simp,rfl,qaa rfl (qbL _)⟩,trivial⟩ (by simp) (by simp) ?_;rintro r' L' ⟨t,ht,rfl,rfl⟩;refine⟨[(902,902)],⟨by simp[tbR],by simp,by simp,by simp[tbR],by simp[tbR]⟩,?_⟩;simp only[qaf];simp only at ht;have hfail:rrG d (qa6 x)=false→R=(zK,8):=fun e=>by
     rw[if_neg (by simp only;rw[e];simp)]at hR;exact hR.symm
    cases k1:xpA d x.1 with
    | false =>
     rw[hfail (by rw[hG,k1];rfl)];simp[tbR,lnR,hl];exact⟨[],by simp,.inl ⟨rfl,by simp,rfl,rfl⟩⟩
    | true =>
     cases k2:tbA d x.2 with
     | false =>
      rw[hfail (by rw[hG,k1,k2];rfl)];simp[tbR,lnR,hl];exact⟨[],by simp,.inl ⟨rfl,by simp,rfl,rfl⟩⟩
     | true =>
      have hl2:=hk k1;have ht2:=ht k2;have hC:rrC d (qa6 x)=⟨(rbB d).1,l,t,x.2,false,[],0⟩:=by rw[hl2,ht2];rfl
      have hS:rrS d (qa6 x)={ rrC d (qa6 x)with safe:=qcM (rrC d (qa6 x)) (rbB d).2.pa }:=rfl;rw[k1,k2,hC]at hG;rw[hC]at hTx hS;have c7:=qqt _ hTx;have hgl:qap ⟨(rbB d).1,l,t,x.2,false,[],0⟩=true→l.length=x.1.length:=fun _=>hl;cases k3:qap ⟨(rbB d).1,l,t,x.2,false,[],0⟩with
      | false =>
       rw[k3]at c7;simp only[CO.row,qF3]at c7;rw[hfail (by rw[hG,k3];rfl)];simp[tbR,lnR];refine c7.view (by simp[qbW,mtA,kcs,qaR,kpt,qal,qbO]) ?_;simp;exact⟨[],by simp,.inl ⟨rfl,by simp,rfl,rfl⟩⟩
      | true =>
       rw[k3]at c7 hG;have c8:=qvY _ hTx (qb1 k3).1 (rbB d).2.pa;simp only[CO.row,qF3]at c7 c8;rw[if_pos (by simp only;rw[hG];rfl)]at hR;simp only at hR;rw[hS]at hR;generalize qcM _ _=sf at *
       subst hR;simp[tbR,lnR];refine c7.view (by simp[qbW,mtA,kcs,qaR,kpt,qal,qbO]) ?_;simp;refine qaJ [] (by kernel_rfl) c8 (by simp[qbW,mtA,kcs,qaR,kpt,qal,qbO]) (by simp) trivial (by simp) (by simp) ?_;rintro r' L' ⟨rfl,rfl⟩;refine⟨by simp[noL],by simp[noL,kin,qac],[(900,903)],⟨by simp,by simp,by simp,by simp,by simp⟩,?_⟩;simp only[qaf];simp;exact⟨[(900,kcs l),(902,qaR t),(901,kpt x.2),(903,kin sf)],by simp[qag],.inr ⟨rfl,by simp[qe0],rfl⟩⟩
   ·rw[if_neg (by rw[hF];simp[q])]at hR;subst hR;simp[q,lnR];exact⟨[],by simp,.inl ⟨rfl,by simp,rfl,rfl⟩⟩
 ·rw[if_neg g0]at hR;subst hR;cases g1:qbw d with
  | false =>
   simp[g1];exact⟨[],by simp,.inl ⟨rfl,by simp,rfl,rfl⟩⟩
  | true =>
   have g2:¬ 0<(rbB d).1:=fun e=>g0 ⟨g1,e⟩;simp[g1,g2];exact⟨[],by simp,.inl ⟨rfl,by simp,rfl,rfl⟩⟩
end Go.Av.F
end
