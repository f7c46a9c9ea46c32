/- Lemmas for the proof, no statement of the seat; no conditions. -/
import Derived.Test.YthiidgicibfbjaaGreatDoorLayAV
set_option linter.unusedSimpArgs false
set_option linter.unusedVariables false
set_option linter.unnecessarySimpa false
set_option maxRecDepth 100000
section
namespace Go.Av.F
open Go Go.Av Go.Proofs Go.Proofs.Tryz
def qpS (w:List UInt8):Option DE:=(qk4 w).map fun x=>⟨x.1,x.2.1,x.2.2⟩
def qoE:List (List UInt8)→Option (List DE)
 | []=>some []
 | w::r=>match qpS w,qoE r with
  | some e,some l=>some (e::l)
  | _,_=>none
def qi6 (t:List UInt8):List DE×Bool :=
 if 1000<t.length then ([],false) else if t=[] then ([],true) else
 match qoE (qaI 32 t [])with
 | some l=>if qal l=true then (l,true) else ([],false)
 | none=>([],false)
def qsu (w:List UInt8):Option DE :=
 match qaI 46 w []with
 | [a,b,c]=>some ⟨(qay a).1,(qay b).1,(qay c).1⟩
 | _=>none
def qub:List (List UInt8)→Option (List DE)
 | []=>some []
 | w::r=>match qsu w,qub r with
  | some e,some l=>some (e::l)
  | _,_=>none
theorem qfM {e:DE} (h:qb8 e=true):qck e=Lib.join [Lib.itoa e.es,Lib.itoa e.ea,Lib.itoa e.ec] [46]:=by
 have hb:=qgi h;rw[qet _ (by omega),qet _ (by omega),qet _ (by omega),qaS,qaS,Lib.join_one];rfl
theorem qpR {w:List UInt8} {e:DE} (h:qpS w=some e) (hd:qb8 e=true):qck e=w∧qsu w=some e:=by
 unfold qpS at h;cases hv:qk4 w with
 | none=>rw[hv]at h;cases h
 | some x =>
  obtain⟨a,b,c⟩:=x;rw[hv]at h;simp only[qEp,qEi]at h;subst h;refine⟨by rw[qfM hd];exact qk2 hv,?_⟩;unfold qk4 at hv;split at hv
  ·rename_i x y z hc;split at hv
   ·rename_i hq;simp only[qEi,qEj]at hv;obtain⟨rfl,rfl,rfl⟩:=hv;have hb:=qgi hd;simp only at hb;have n1:=(qfd x).1 ⟨hq.1,by omega⟩;have n2:=(qfd y).1 ⟨hq.2.1,by omega⟩;have n3:=(qfd z).1 ⟨hq.2.2,by omega⟩;unfold qsu;rw[hc];simp only[qgT n1,qgT n2,qgT n3]
   ·cases hv
  ·cases hv
theorem qvl {e:DE} (h:qb8 e=true):qpS (qck e)=some e:=by
 have hb:=qgi h;rw[qfM h];unfold qpS;rw[qpP e.es e.ea e.ec ⟨by omega,by omega⟩ ⟨by omega,by omega⟩ ⟨by omega,by omega⟩];rfl
theorem qpQ:∀ {l:List DE},(∀ e∈l,qb8 e=true)→qoE (l.map qck)=some l
 | [],_=>rfl
 | e::r,h=>by
  rw[qEV,qoE,qvl (h e (by simp)),qpQ fun x hx=>h x (by simp[hx])]
theorem qk5:∀ {ws:List (List UInt8)} {l:List DE},qoE ws=some l→(∀ e∈l,qb8 e=true)→l.map qck=ws∧qub ws=some l
 | [],l,h,_=>by
  simp only[qoE,qEi]at h;subst h;exact⟨rfl,rfl⟩
 | w::r,l,h,hd=>by
  rw[qoE]at h;split at h
  ·rename_i e q h1 h2;simp only[qEi]at h;subst h;obtain⟨a1,a2⟩:=qpR h1 (hd e (by simp));obtain⟨b1,b2⟩:=qk5 h2 fun x hx=>hd x (by simp[hx]);refine⟨by simp[a1,b1],?_⟩;rw[qub,a2,b2]
  ·cases h
theorem qmK (n:Int):∀ x∈Lib.itoa n,x≠(32:UInt8):=qgF n 32 (by decide) (by decide)
theorem qn7 (a b c:Int):∀ x∈Lib.join [Lib.itoa a,Lib.itoa b,Lib.itoa c] [46],x≠(32:UInt8):=by
 intro x hx;rw[qaS,qaS,Lib.join_one]at hx;simp only[qFV,qFT]at hx;rcases hx with hx | rfl | hx | rfl | hx
 ·exact qmK _ x hx
 ·decide
 ·exact qmK _ x hx
 ·decide
 ·exact qmK _ x hx
theorem qrM {e:DE} (h:qb8 e=true):∀ x∈qck e,x≠(32:UInt8):=by
 rw[qfM h];exact qn7 _ _ _
theorem qrO:qcl []=[]:=by
 unfold qcl;split <;> rfl
theorem qrP {t:List UInt8} (h1:¬ 1000<t.length) (h2:t≠[]) :
  qi6 t=match qub (qaI 32 t [])with
   | some l=>if qal l=true∧qcl l=t then (l,true) else ([],false)
   | none=>([],false):=by
 have hj:=qdD 32 t [];simp only[qE5]at hj;unfold qi6;rw[if_neg h1,if_neg h2];by_cases hg:∃ l,qoE (qaI 32 t [])=some l∧qal l=true
 ·obtain⟨l,g1,g2⟩:=hg;obtain⟨a1,a2⟩:=qk5 g1 (qg8 g2);have e:qcl l=t:=by
   unfold qcl;rw[if_pos g2,(qdO l).2,a1,hj]
  rw[g1,a2];simp[g2,e]
 ·have hL:(match qoE (qaI 32 t [])with
   | some l=>if qal l=true then (l,true) else ([],false)
   | none=>(([]:List DE),false))=([],false):=by
   split
   ·rename_i l hl;rw[if_neg fun e=>hg ⟨l,hl,e⟩]
   ·rfl
  rw[hL];split
  ·rename_i l hl;rw[if_neg];rintro⟨q1,q2⟩;have hne:l≠[]:=by
    rintro rfl;rw[qrO]at q2;exact h2 q2.symm
   unfold qcl at q2;rw[if_pos q1,(qdO l).2]at q2;have hc:=qdj 32 (l.map qck) (by simpa using hne) (by
    intro w hw;obtain⟨e,he,rfl⟩:=qEW.1 hw;exact qrM (qg8 q1 e he))
   rw[q2]at hc;exact hg ⟨l,by rw[hc];exact qpQ (qg8 q1),q1⟩
  ·rfl
theorem qvn (w:List UInt8):(qk4 w=none→(thB w).2=false)∧∀ a b c,qk4 w=some (a,b,c)→thB w=((a,b,c),true):=by
 by_cases h3:(qaI 46 w []).length=3
 ·obtain⟨x,y,z,hc⟩:=qef h3;rw[qk3 hc,qvp hc];by_cases hq:qdG x=true∧qdG y=true∧qdG z=true
  ·rw[if_pos hq];have hk:qbC x=true∧qbC y=true∧qbC z=true:=by
    obtain⟨q1,q2,q3⟩:=hq;simp only[qdG,Bool.and_eq_true]at q1 q2 q3;exact⟨q1.1,q2.1,q3.1⟩
   refine⟨(fun e=>by cases e),fun a b c e=>?_⟩;simp only[qEi,qEj]at e;obtain⟨rfl,rfl,rfl⟩:=e;rw[if_pos hk];simp[hq]
  ·rw[if_neg hq];refine⟨fun _=>?_,fun a b c e=>by cases e⟩;split
   ·simpa using hq
   ·rfl
 ·rw[qh2 h3,qvo h3];exact⟨fun _=>rfl,fun a b c e=>by cases e⟩
def ddF (acc:List DE) (ws:List (List UInt8)):List DE×Bool :=
 match qoE ws with
 | some l=>if qal (acc++l)=true then (acc++l,true) else ([],false)
 | none=>([],false)
theorem qtw (acc:List DE) (w:List UInt8) (r:List (List UInt8)):ddF acc (w::r)=match qpS w with
  | some e=>ddF (acc++[e]) r
  | none=>([],false):=by
 unfold ddF;rw[qoE];cases qpS w with
 | none=>rfl
 | some e =>
  cases qoE r with
  | none=>rfl
  | some l=>simp
def ddQ (x:Nat) (R:List DE×Bool) (r:AV) (L':List (Nat×Ob)):Prop :=
 (R.1=[]∧r=.tup [.nils,.bool R.2]∧L'=[])∨(r=.tup [.sl x 0 R.1.length,.bool R.2]∧L'=[(x,qaH R.1)])
theorem quL {f x:Nat} {t:List UInt8} {R:List DE×Bool} (h:ACall prog f [.str t] [] (ddQ x R)) (he:qb5 prog f=true):CV prog f [.str t] (.tup [.lst 3 (R.1.map DE.row),.bool R.2]):=by
 refine CV.of_frz h ?_ (he:=he) (hcv:=by simp[DE.row]);rintro r L' (⟨h1,rfl,rfl⟩ | ⟨rfl,rfl⟩)
 ·refine⟨by simp,by simp,by simp,?_⟩;rw[h1];simp only[qbj,qF8];exact qdz (.cons (qa9 3) (.cons (qaF _) .nil))
 ·refine⟨by simp,by simp,fun x hx=>by simp only[qG0]at hx;subst hx;exact qbw _,?_⟩;simp[qbj,qaH,qam]
theorem qru (t:List UInt8) (hl:t.length≤1048576):CV prog 89 [.str t] (.tup [.lst 3 ((qi6 t).1.map DE.row),.bool (qi6 t).2]):=by
 refine quL (x:=900) ?_ (by kernel_rfl);obtain⟨R,hR⟩:∃ R,qi6 t=R:=⟨_,rfl⟩;rw[hR];unfold qi6 at hR;refine acx func89 [] ntmps89 rfl rfl rfl ?_;by_cases h1:1000<t.length
 ·rw[if_pos h1]at hR;subst hR;simp[show(1000:Int)<t.length by omega,h1];exact⟨[],by simp,.inl ⟨rfl,rfl,rfl⟩⟩
 rw[if_neg h1]at hR;by_cases h2:t=[]
 ·rw[if_pos h2]at hR;subst hR;simp[h2];exact⟨[],by simp,.inl ⟨rfl,rfl,rfl⟩⟩
 rw[if_neg h2]at hR;have hR':ddF [] (qaI 32 t [])=R:=by
  rw[← hR];unfold ddF;simp
 have c1:=qh7 t 32 hl;have hw:=qbs 32 t [];have hnum:=qdk 32 t [];simp only[qFJ,qFG]at hw;simp[show ¬ (1000:Int)<t.length by omega,h1,h2];refine c1.call ?_;generalize qaI 32 t []=ws at *
 simp[qcu];refine qeX (qjT 4 3 (by simp) (by simp)) ?_;refine qbl (X:=Nat×List DE) [2,3,4,17,18,19] [(4,900)] (fun x=>[(4,.sl 900 0 x.2.length),(19,.int .i64 x.1)]) (fun x=>[(900,qaH x.2)]) (fun x=>ws.length-x.1) (fun x=>x.1≤ws.length∧x.2.length=x.1∧ddF x.2 (ws.drop x.1)=R) (0,[]) ⟨by omega,rfl,hR'⟩ ?_ (he:=by simp[qah,qaH]);rintro⟨i,acc⟩ ⟨hi,ha,hd⟩;simp only at hi ha hd;cases hr:ws.drop i with
 | nil =>
  have:=qa0 hr;have hie:i=ws.length:=by omega
  subst hie;rw[hr]at hd;have c2:=qkp acc (by omega);simp only[ddF,qoE,qGx]at hd;simp;refine c2.view (by simp[qb1,mtA,qaH,qam]) ?_;cases hk:qal acc with
  | false =>
   rw[if_neg (by simp[hk])]at hd;subst hd;simp;exact⟨[],by simp,.inl ⟨rfl,rfl,rfl⟩⟩
  | true =>
   rw[if_pos hk]at hd;subst hd;simp;exact⟨[(900,qaH acc)],by simp,.inr ⟨rfl,rfl⟩⟩
 | cons w r =>
  obtain⟨g1,e0,e1,g3⟩:=qa1 hr;have hwl:=hw w (qGk e1);have c2:=qrh w (by omega);have e2:=qak ((i:Int)+1) (by omega) (by omega);obtain⟨t1,t2⟩:=qvn w;rw[hr,qtw]at hd;simp[g1,e0,e1,qcu];refine c2.call ?_;cases hv:qk4 w with
  | none =>
   rw[show qpS w=none by unfold qpS;rw[hv];rfl]at hd;simp only at hd;subst hd;simp[t1 hv];exact⟨[],by simp,.inl ⟨rfl,rfl,rfl⟩⟩
  | some x =>
   obtain⟨a,b,c⟩:=x;rw[show qpS w=some ⟨a,b,c⟩ by unfold qpS;rw[hv];rfl]at hd;simp only at hd;rw[t2 a b c hv];simp[qaH,DE.row];refine⟨by omega,nx (i+1,acc++[⟨a,b,c⟩]) [(38,900)] ⟨by simp only;omega,by simp[ha],by simp only[g3];exact hd⟩ (by simp only;omega) (h4:=?_)⟩;simp[qah,qaH,e2,qEK,DE.row]
def spF (t:List UInt8) (acc:List DE) (ws:List (List UInt8)):List DE×Bool :=
 match qub ws with
 | some l=>if qal (acc++l)=true∧qcl (acc++l)=t then (acc++l,true) else ([],false)
 | none=>([],false)
theorem qsv (t:List UInt8) (acc:List DE) (w:List UInt8) (r:List (List UInt8)):spF t acc (w::r)=match qsu w with
  | some e=>spF t (acc++[e]) r
  | none=>([],false):=by
 unfold spF;rw[qub];cases qsu w with
 | none=>rfl
 | some e =>
  cases qub r with
  | none=>rfl
  | some l=>simp
theorem qqp (t:List UInt8) (hl:t.length≤1048576):CV prog 163 [.str t] (.tup [.lst 3 ((qi6 t).1.map DE.row),.bool (qi6 t).2]):=by
 refine quL (x:=900) ?_ (by kernel_rfl);obtain⟨R,hR⟩:∃ R,qi6 t=R:=⟨_,rfl⟩;rw[hR];refine acx func163 [] ntmps163 rfl rfl rfl ?_;by_cases h1:1000<t.length
 ·unfold qi6 at hR;rw[if_pos h1]at hR;subst hR;simp[show(1000:Int)<t.length by omega,h1];exact⟨[],by simp,.inl ⟨rfl,rfl,rfl⟩⟩
 have c1:=qj2 t 32 hl;have hw:=qbs 32 t [];have hnum:=qdk 32 t [];simp only[qFJ,qFG]at hw;by_cases h2:t=[]
 ·unfold qi6 at hR;rw[if_neg h1,if_pos h2]at hR;subst hR;subst h2;have c2:=qfC [] (by simp);have c3:=qic [] (by simp);rw[qrO]at c3;rw[show qal []=true by decide]at c2;simp;refine c1.call ?_;simp[qaI,qcu];refine qbl (X:=Nat) [0,2,3,4,5,6] [(14,900)] (fun i=>[(4,.sl 900 0 0),(6,.int .i64 i)]) (fun i=>[(900,qaH [])]) (fun i=>0) (fun i=>i=0) 0 rfl ?_ (he:=by simp[qah,qaH]);rintro i rfl;simp;refine c2.view (by simp[qb1,mtA,qaH]) ?_;simp;refine c3.view (by simp[qb1,mtA,qaH]) ?_;simp;exact⟨[(900,qaH [])],by simp,.inr ⟨rfl,rfl⟩⟩
 have hR':spF t [] (qaI 32 t [])=R:=by
  rw[← hR,qrP h1 h2];unfold spF;simp
 simp[show ¬ (1000:Int)<t.length by omega,h1,h2];refine c1.call ?_;generalize qaI 32 t []=ws at *
 simp[qcu];refine qbl (X:=Nat×List DE) [0,2,3,4,5,6] [(14,900)] (fun x=>[(4,.sl 900 0 x.2.length),(6,.int .i64 x.1)]) (fun x=>[(900,qaH x.2)]) (fun x=>ws.length-x.1) (fun x=>x.1≤ws.length∧x.2.length=x.1∧spF t x.2 (ws.drop x.1)=R) (0,[]) ⟨by omega,rfl,hR'⟩ ?_ (he:=by simp[qah,qaH]);rintro⟨i,acc⟩ ⟨hi,ha,hd⟩;simp only at hi ha hd;cases hr:ws.drop i with
 | nil =>
  have:=qa0 hr;have hie:i=ws.length:=by omega
  subst hie;rw[hr]at hd;have c2:=qfC acc (by omega);have c3:=qic acc (by omega);simp only[spF,qub,qGx]at hd;simp[h2];refine c2.view (by simp[qb1,mtA,qaH,qam]) ?_;cases hk:qal acc with
  | false =>
   rw[if_neg (by simp[hk])]at hd;subst hd;simp;exact⟨[],by simp,.inl ⟨rfl,rfl,rfl⟩⟩
  | true =>
   simp;refine c3.view (by simp[qb1,mtA,qaH,qam]) ?_;by_cases ht:qcl acc=t
   ·rw[if_pos ⟨hk,ht⟩]at hd;subst hd;simp[ht];exact⟨[(900,qaH acc)],by simp,.inr ⟨rfl,rfl⟩⟩
   ·rw[if_neg fun e=>ht e.2]at hd;subst hd;simp[ht];exact⟨[],by simp,.inl ⟨rfl,rfl,rfl⟩⟩
 | cons w r =>
  obtain⟨g1,e0,e1,g3⟩:=qa1 hr;have hwl:=hw w (qGk e1);have c2:=qj2 w 46 (by omega);have hw2:=qbs 46 w [];have e2:=qak ((i:Int)+1) (by omega) (by omega);have hli:(i:Int)<ws.length:=by omega
  rw[hr,qsv]at hd;simp[g1,e0,e1,qcu,h2,hli];refine c2.call ?_;by_cases h3:(qaI 46 w []).length=3
  ·obtain⟨a,b,c,hc⟩:=qef h3;rw[hc]at hw2;have la:=hw2 a (by simp);have lb:=hw2 b (by simp);have lc:=hw2 c (by simp);simp at la lb lc;have n1:=qh8 a (by omega);have n2:=qh8 b (by omega);have n3:=qh8 c (by omega);rw[show qsu w=some ⟨(qay a).1,(qay b).1,(qay c).1⟩ by unfold qsu;rw[hc]]at hd;simp only at hd;simp[hc,qcu];refine n1.call ?_;simp;refine n2.call ?_;simp;refine n3.call ?_;simp[qaH,DE.row];refine⟨by omega,nx (i+1,acc++[⟨(qay a).1,(qay b).1,(qay c).1⟩]) [(65,900)] ⟨by simp only;omega,by simp[ha],by simp only[g3];exact hd⟩ (by simp only;omega) (h4:=?_)⟩;simp[qah,qaH,e2,qEK,DE.row]
  ·have hn:qsu w=none:=by
    unfold qsu;split
    ·rename_i a b c hc;rw[hc]at h3;simp at h3
    ·rfl
   rw[hn]at hd;simp only at hd;subst hd;simp[qcu,h3,show ¬ ((qaI 46 w []).length:Int)=3 by omega];exact⟨[],by simp,.inl ⟨rfl,rfl,rfl⟩⟩
def z8:List PT:=List.replicate 8 zPT
def qeP (t:List UInt8):List PT×Bool :=
 if 400<t.length∨(qaI 32 t []).length≠8 then (z8,false) else
 if (qaI 32 t []).all (fun w=>(qbP w).2)=true then ((qaI 32 t []).map fun w=>(qbP w).1,true) else (z8,false)
theorem qkh (t:List UInt8):(qeP t).1.length=8:=by
 unfold qeP;split
 ·rfl
 ·rename_i h;split
  ·simp only[qFx];omega
  ·rfl
theorem qwu {t:List UInt8} (h:(qeP t).2=true):qbh (qeP t).1=t∧∀ p∈(qeP t).1,qaK p=true:=by
 unfold qeP at h ⊢;split at h
 ·simp at h
 ·rename_i h1;rw[if_neg h1];split at h
  ·rename_i h2;rw[if_pos h2];simp only;rw[qEI]at h2;have hall:∀ p∈(qaI 32 t []).map fun w=>(qbP w).1,qaK p=true:=fun p hp=>by
    obtain⟨w,hw,rfl⟩:=qEW.1 hp;exact(qil (h2 w hw)).2
   refine⟨?_,hall⟩;rw[qeQ,if_pos (qEI.2 hall),qE3];have e:(qaI 32 t []).map (qaR ∘ fun w=>(qbP w).1)=qaI 32 t []:=by
    conv=>rhs;rw[← qGf (qaI 32 t [])]
    refine qE6 fun w hw=>?_;exact(qil (h2 w hw)).1
   rw[e,qdD];rfl
  ·simp at h
def mpS (ws:List (List UInt8)) (x:Nat×List PT):Prop:=x.1≤8∧x.2.length=8∧∀ j,j<x.1→∃ w,ws[j]?=some w∧(qbP w).2=true∧x.2[j]?=some (qbP w).1
theorem qn2 {ws:List (List UInt8)} {i:Nat} {m:List PT} {w:List UInt8} (h:mpS ws (i,m)) (hi:i<8) (hw:ws[i]?=some w) (hk:(qbP w).2=true):mpS ws (i+1,m.set i (qbP w).1):=by
 obtain⟨h1,h2,h3⟩:=h;simp only at h1 h2 h3;refine⟨by simp only;omega,by simpa using h2,fun j hj=>?_⟩;simp only at hj ⊢;by_cases hji:j=i
 ·subst hji;exact⟨w,hw,hk,by simp[h2,hi]⟩
 ·obtain⟨v,v1,v2,v3⟩:=h3 j (by omega);exact⟨v,v1,v2,by rw[qFj (qEd hji)];exact v3⟩
theorem qq1 {t:List UInt8} {m:List PT} (h1:¬ 400<t.length) (h8:(qaI 32 t []).length=8) (h:mpS (qaI 32 t []) (8,m)):qeP t=(m,true):=by
 obtain⟨_,h2,h3⟩:=h;simp only at h2 h3;have hall:∀ w∈qaI 32 t [],(qbP w).2=true:=fun w hw=>by
  obtain⟨j,hj⟩:=qHn.1 hw;have hl:=(qE1.1 hj).1;obtain⟨v,v1,v2,_⟩:=h3 j (by omega);rw[hj]at v1;injection v1 with v1;rw[v1];exact v2
 have hm:(qaI 32 t []).map (fun w=>(qbP w).1)=m:=by
  refine qGV fun j=>?_;by_cases hj:j<8
  ·obtain⟨v,v1,v2,v3⟩:=h3 j hj;rw[qEZ,v1,v3];rfl
  ·rw[qF0 (by simp;omega),qF0 (by omega)]
 unfold qeP;rw[if_neg (by simp[h1,h8]),if_pos (qEI.2 hall),hm]
theorem qn3 {t:List UInt8} {w:List UInt8} (hw:w∈qaI 32 t []) (hk:(qbP w).2=false):qeP t=(z8,false):=by
 unfold qeP;split
 ·rfl
 ·rw[if_neg fun e=>by
   rw[qEI]at e;rw[e w hw]at hk;cases hk]
theorem qro (t:List UInt8) (hl:t.length≤1048576):CV prog 88 [.str t] (.tup [.agg ((qeP t).1.flatMap PT.row),.bool (qeP t).2]):=by
 have c1:=qh7 t 32 hl;have hw:=qbs 32 t [];simp only[qFJ,qFG]at hw;refine cvx func88 [] ntmps88 rfl rfl rfl ?_ (hcv:=by simp[qe1]);simp;refine c1.call ?_;by_cases h1:400<t.length
 ·rw[show qeP t=(z8,false) by unfold qeP;rw[if_pos (.inl h1)]];simp[show(400:Int)<t.length by omega,h1,z8,zPT,PT.row]
 by_cases h8:(qaI 32 t []).length=8
 ·obtain⟨R,hR⟩:∃ R,qeP t=R:=⟨_,rfl⟩;have hend:=@qq1 t;have hbad:=@qn3 t;rw[hR]at hend hbad ⊢;generalize qaI 32 t []=ws at *
  simp[show ¬ (400:Int)<t.length by omega,h1,h8,qcu];refine qbl (X:=Nat×List PT) [2,3,5,21,22,23] [(2,2),(5,5)] (fun x=>[(23,.int .i64 x.1)]) (fun x=>[(2,⟨24,[z8.flatMap PT.row]⟩),(5,⟨24,[x.2.flatMap PT.row]⟩)]) (fun x=>8-x.1) (mpS ws) (0,z8) ⟨by omega,rfl,by omega⟩ ?_ (he:=by simp[qah,z8,zPT,PT.row]);rintro⟨i,m⟩ hg;have hg':=hg;obtain⟨hi,hm,hj⟩:=hg';simp only at hi hm hj;have hml:(m.flatMap PT.row).length=24:=by rw[qkr,hm]
  have hsum:(List.map (fun a:PT=>3) m).sum=24:=by
   have:=hml;rw[qHf]at this;exact this
  have hmt:List.take 24 (m.flatMap PT.row)=m.flatMap PT.row:=qEK (by omega);have hzt:List.drop 24 (z8.flatMap PT.row)=[]:=qGd (by decide);by_cases h2:i<8
  ·obtain⟨w,f1⟩:∃ w,ws[i]?=some w:=⟨_,qEv (by omega)⟩;have f0:ws[i]'(by omega)=w:=(qE1.1 f1).2;have h2':(i:Int)<8:=by omega
   have hwl:=hw w (qGk f1);have c2:=qeS w (by omega);simp only[PT.row]at c2;have e2:=qak ((i:Int)+1) (by omega) (by omega);simp[h2',h2,h8,f0,f1,qcu,qah];refine c2.call ?_;have hstep:=qn2 hg h2 f1;cases hk:(qbP w).2 with
   | false =>
    have:=hbad (qGk f1) hk;subst this;simp[z8,zPT,PT.row]
   | true =>
    have hs:=hstep hk;simp[hml,hsum,hmt];refine⟨by omega,by omega,nx (i+1,m.set i (qbP w).1) [(2,2),(5,5)] hs (by simp only;omega) (h4:=?_)⟩;have fs:=(qhN m i (qbP w).1 (show i<m.length by omega)).symm;simp only[PT.row,qGj,qE5]at fs;simp[qah,e2,fs]
  ·have hie:i=8:=by omega
   subst hie;have:=hend h1 h8 hg;subst this;simp[qah,hsum,hmt,hzt]
 ·rw[show qeP t=(z8,false) by unfold qeP;rw[if_pos (.inr h8)]];simp[show ¬ (400:Int)<t.length by omega,h1,qcu,h8,show ¬ ((qaI 32 t []).length:Int)=8 by omega,z8,zPT,PT.row]
theorem qqj (t:List UInt8) (hl:t.length≤1048576):CV prog 162 [.str t] (.tup [.agg ((qeP t).1.flatMap PT.row),.bool (qeP t).2]):=by
 have c1:=qj2 t 32 hl;have hw:=qbs 32 t [];simp only[qFJ,qFG]at hw;refine cvx func162 [] ntmps162 rfl rfl rfl ?_ (hcv:=by simp[qe1]);simp;refine c1.call ?_;by_cases h1:400<t.length
 ·rw[show qeP t=(z8,false) by unfold qeP;rw[if_pos (.inl h1)]];simp[show(400:Int)<t.length by omega,h1,z8,zPT,PT.row]
 by_cases h8:(qaI 32 t []).length=8
 ·obtain⟨R,hR⟩:∃ R,qeP t=R:=⟨_,rfl⟩;have hend:=@qq1 t;have hbad:=@qn3 t;have hok:=@qwu t;rw[hR]at hend hbad hok ⊢;generalize qaI 32 t []=ws at *
  simp[show ¬ (400:Int)<t.length by omega,h1,h8,qcu];refine qbl (X:=Nat×List PT) [0,2,3,4,5,6] [(2,2),(4,4)] (fun x=>[(6,.int .i64 x.1)]) (fun x=>[(2,⟨24,[z8.flatMap PT.row]⟩),(4,⟨24,[x.2.flatMap PT.row]⟩)]) (fun x=>8-x.1) (mpS ws) (0,z8) ⟨by omega,rfl,by omega⟩ ?_ (he:=by simp[qah,z8,zPT,PT.row]);rintro⟨i,m⟩ hg;have hg':=hg;obtain⟨hi,hm,hj⟩:=hg';simp only at hi hm hj;have hml:(m.flatMap PT.row).length=24:=by rw[qkr,hm]
  have hsum:(List.map (fun a:PT=>3) m).sum=24:=by
   have:=hml;rw[qHf]at this;exact this
  have hmt:List.take 24 (m.flatMap PT.row)=m.flatMap PT.row:=qEK (by omega);have hzt:List.drop 24 (z8.flatMap PT.row)=[]:=qGd (by decide);by_cases h2:i<8
  ·obtain⟨w,f1⟩:∃ w,ws[i]?=some w:=⟨_,qEv (by omega)⟩;have f0:ws[i]'(by omega)=w:=(qE1.1 f1).2;have h2':(i:Int)<8:=by omega
   have hwl:=hw w (qGk f1);have c2:=qfT w (by omega);simp only[PT.row]at c2;have e2:=qak ((i:Int)+1) (by omega) (by omega);simp[h2',h2,h8,f0,f1,qcu,qah];refine c2.call ?_;have hstep:=qn2 hg h2 f1;cases hk:(qbP w).2 with
   | false =>
    have:=hbad (qGk f1) hk;subst this;simp[z8,zPT,PT.row]
   | true =>
    have hs:=hstep hk;simp[hml,hsum,hmt];refine⟨by omega,by omega,nx (i+1,m.set i (qbP w).1) [(2,2),(4,4)] hs (by simp only;omega) (h4:=?_)⟩;have fs:=(qhN m i (qbP w).1 (show i<m.length by omega)).symm;simp only[PT.row,qGj,qE5]at fs;simp[qah,e2,fs]
  ·have hie:i=8:=by omega
   subst hie;have:=hend h1 h8 hg;subst this;have ht:=hok rfl;have c3:=qle m hm;simp only at ht;rw[ht.1]at c3;simp[qah,hml,hsum,hmt,hzt];refine c3.call ?_;simp[qah,hml,hsum,hmt,hzt]
 ·rw[show qeP t=(z8,false) by unfold qeP;rw[if_pos (.inr h8)]];simp[show ¬ (400:Int)<t.length by omega,h1,qcu,h8,show ¬ ((qaI 32 t []).length:Int)=8 by omega,z8,zPT,PT.row]
theorem qiK (c:UInt8):∀ (w s:List UInt8) (i:Int),(∀ x∈w,x≠c)→qa4 c (w++c::s) i=i+w.length
 | [],s,i,_=>by simp[qa4]
 | x::w,s,i,h=>by
  have hx:=h x (by simp);rw[qGj,qa4,if_neg hx,qiK c w s (i+1) fun y hy=>h y (by simp[hy])];simp;omega
theorem qly {s:List UInt8} (h:s.length≤400):qbg (qdR s)=(s,true):=by
 have hs:qdR s=qm6 (qjh s (1+s.length % 997)) []++58::s:=by
  unfold qdR;rw[if_neg (by omega)]
 have hd:∀ x∈qm6 (qjh s (1+s.length % 997)) [],x≠(58:UInt8):=fun x hx=>by
  rw[qhQ,qGx]at hx;have:=qon _ x hx;rintro rfl;simp at this
 have hf:qa4 58 (qdR s) 0=(qm6 (qjh s (1+s.length % 997)) []).length:=by
  rw[hs,qiK 58 _ _ 0 hd];simp
 have hdr:(qdR s).drop ((qa4 58 (qdR s) 0).toNat+1)=s:=by
  rw[hf,hs];simp
 unfold qbg;rw[hdr,if_neg (by omega),if_pos rfl]
theorem qfw (n:Int) (c:UInt8) (hc:c.toNat<48):∀ x∈dec n,x≠c:=fun x hx=>by
 unfold dec at hx;rw[qhQ,qGx]at hx;have:=qon _ x hx;rintro rfl;omega
theorem qik {p:PT} (h:qaK p=true):∀ x∈qaR p,x≠(32:UInt8):=by
 by_cases h0:p.pa=0
 ·unfold qaR;rw[if_neg (by simp[h]),if_pos h0];intro x hx;simp only[qG0]at hx;subst hx;decide
 ·rw[qdt (by simp[qaq,h,h0])];exact qn7 _ _ _
theorem qjb {n:Int} {p:PT} {t:List UInt8} (h:qa3 n p=t) (ht:t≠[]) :
  (1≤n∧n≤1000000∧qaq p=true)∧(qbg t).2=true∧qaI 32 (qbg t).1 []=[dec n,qaR p,dec n]:=by
 unfold qa3 at h;split at h
 ·exact absurd h.symm ht
 ·rename_i hc;have h1:1≤n∧n≤1000000∧qaq p=true:=by
   refine⟨by omega,by omega,?_⟩;cases hk:qaq p with
   | true=>rfl
   | false=>exact absurd (.inr (.inr hk)) hc
  have hl1:=qax n (by omega);have hl2:=qbq p;have hj:dec n++(32::(qaR p++(32::dec n)))=Lib.join [dec n,qaR p,dec n] [32]:=by
   rw[qaS,qaS,Lib.join_one]
  have ho:=qly (s:=dec n++(32::(qaR p++(32::dec n)))) (by simp;omega);rw[h]at ho;rw[ho];refine⟨h1,rfl,?_⟩;rw[hj,qdj 32 _ (by simp)];intro w hw;simp only[qFT,qF2,or_false]at hw;rcases hw with rfl | rfl | rfl
  ·exact qfw n 32 (by decide)
  ·exact qik (qdW h1.2.2).1
  ·exact qfw n 32 (by decide)
def qmj (t:List UInt8):(Int×PT)×Bool :=
 match qaI 32 (qbg t).1 []with
 | [a,b,_]=>if (qbg t).2=true∧qa3 (qay a).1 (qbP b).1=t then (((qay a).1,(qbP b).1),true) else ((0,zPT),false)
 | _=>((0,zPT),false)
theorem qtZ {t:List UInt8} (h:(qaI 32 (qbg t).1 []).length≠3):qmj t=((0,zPT),false):=by
 unfold qmj;split
 ·rename_i a b c hc;rw[hc]at h;simp at h
 ·rfl
theorem qt0 {t a b c:List UInt8} (h:qaI 32 (qbg t).1 []=[a,b,c]):qmj t=if (qbg t).2=true∧qa3 (qay a).1 (qbP b).1=t then (((qay a).1,(qbP b).1),true) else ((0,zPT),false):=by
 unfold qmj;rw[h]
theorem qdZ {n:Int} (h1:0≤n) (h2:n≤1000000000):qay (dec n)=(n,true)∧qbC (dec n)=true∧qaG (dec n)=n:=by
 rw[← qet n h1];have a:=qp8 (n:=n) (by omega);obtain⟨b,c⟩:=qjL (n:=n) (by omega) (by omega);refine⟨a,?_,c⟩;simp only[qdG,Bool.and_eq_true]at b;exact b.1
theorem qAC {t a b c:List UInt8} (h:qaI 32 (qbg t).1 []=[a,b,c]):t≠[]:=by
 rintro rfl;simp[qbg,qa4,qaI]at h
theorem qyB {t a b c:List UInt8} (h:qaI 32 (qbg t).1 []=[a,b,c]) :
  qmj t=if qbC a=true∧(qbP b).2=true∧qa3 (qaG a) (qbP b).1=t then ((qaG a,(qbP b).1),true) else ((0,zPT),false):=by
 have hne:=qAC h;rw[qt0 h];by_cases q:(qbg t).2=true∧qa3 (qay a).1 (qbP b).1=t
 ·rw[if_pos q];obtain⟨⟨w1,w2,w3⟩,w4,w5⟩:=qjb q.2 hne;rw[h]at w5;simp only[qFZ,and_true]at w5;obtain⟨e1,e2,e3⟩:=w5;obtain⟨d1,d2,d3⟩:=qdZ (n:=(qay a).1) (by omega) (by omega);have hb:qbP b=((qbP b).1,true):=by
   have:=qgA (qdW w3).1;rw[← e2]at this;exact this
  rw[← e1]at d2 d3;rw[if_pos ⟨d2,by rw[hb],by rw[d3];exact q.2⟩,d3]
 ·rw[if_neg q];by_cases g:qbC a=true∧(qbP b).2=true∧qa3 (qaG a) (qbP b).1=t
  ·exfalso;obtain⟨⟨w1,w2,w3⟩,w4,w5⟩:=qjb g.2.2 hne;rw[h]at w5;simp only[qFZ,and_true]at w5;obtain⟨e1,e2,e3⟩:=w5;obtain⟨d1,d2,d3⟩:=qdZ (n:=qaG a) (by omega) (by omega);rw[← e1]at d1;exact q ⟨w4,by rw[d1];exact g.2.2⟩
  ·rw[if_neg g]
theorem qoK (t:List UInt8) (hl:t.length≤1048576):CV prog 73 [.str t] (.tup [.int .i64 (qmj t).1.1,.agg (qmj t).1.2.row,.bool (qmj t).2]):=by
 have c1:=quc t hl;have hol:=qf1 t;have c2:=qj2 (qbg t).1 32 (by omega);have hw:=qbs 32 (qbg t).1 [];simp only[qFJ,qFG]at hw;refine cvx func73 [(9,[zI 0,zJ 1 [10] [],zJ 2 [] [10],zI 3,zI 4])] ntmps73 rfl rfl rfl ?_ (hcv:=by simp[PT.row]);simp;refine c1.call ?_;simp;refine c2.call ?_;by_cases h3:(qaI 32 (qbg t).1 []).length=3
 ·obtain⟨a,b,c,hc⟩:=qef h3;rw[hc]at hw;have la:=hw a (by simp);have lb:=hw b (by simp);have e:=qt0 hc;have n1:=qh8 a (by omega);have n2:=qfT b (by omega);have n3:=que (qay a).1 (qbP b).1;simp only[PT.row]at n2 n3;cases ho:(qbg t).2 with
  | false =>
   rw[if_neg (by simp[ho])]at e;rw[e];simp[zPT,PT.row]
  | true =>
   simp[hc,qcu];refine n1.call ?_;simp;refine n2.call ?_;simp[PT.row];refine n3.call ?_;by_cases q:qa3 (qay a).1 (qbP b).1=t
   ·rw[if_pos ⟨ho,q⟩]at e;rw[e];simp[q,PT.row]
   ·rw[if_neg fun x=>q x.2]at e;rw[e];simp[q,zPT,PT.row]
 ·rw[qtZ h3];simp[qcu,h3,show ¬ ((qaI 32 (qbg t).1 []).length:Int)=3 by omega,zPT,PT.row]
theorem qo3 (t:List UInt8) (hl:t.length≤1048576):CV prog 172 [.str t] (.tup [.int .i64 (qmj t).1.1,.agg (qmj t).1.2.row,.bool (qmj t).2]):=by
 have c1:=qut t hl;have hol:=qf1 t;have c2:=qh7 (qbg t).1 32 (by omega);have hw:=qbs 32 (qbg t).1 [];simp only[qFJ,qFG]at hw;refine cvx func172 [(9,[zI 0,zJ 1 [10] [],zJ 2 [] [10],zI 3,zI 4])] ntmps172 rfl rfl rfl ?_ (hcv:=by simp[PT.row]);simp;refine c1.call ?_;simp;refine c2.call ?_;by_cases h3:(qaI 32 (qbg t).1 []).length=3
 ·obtain⟨a,b,c,hc⟩:=qef h3;rw[hc]at hw;have la:=hw a (by simp);have lb:=hw b (by simp);have e:=qyB hc;have n1:=qmg a (by omega);have n2:=qeS b (by omega);have n3:=quu (qaG a) (qbP b).1;simp only[PT.row]at n2 n3;simp[hc,qcu];refine n1.call ?_;simp;refine n2.call ?_;cases hk:qbC a with
  | false =>
   rw[if_neg (by simp[hk])]at e;rw[e];simp[qhO,zPT,PT.row]
  | true =>
   cases hp:(qbP b).2 with
   | false =>
    rw[if_neg (by simp[hp])]at e;rw[e];simp[qhO,zPT,PT.row]
   | true =>
    simp[qhO,PT.row];refine n3.call ?_;by_cases q:qa3 (qaG a) (qbP b).1=t
    ·rw[if_pos ⟨hk,hp,q⟩]at e;rw[e];simp[q,PT.row]
    ·rw[if_neg fun x=>q x.2.2]at e;rw[e];simp[q,zPT,PT.row]
 ·rw[qtZ h3];simp[qcu,h3,show ¬ ((qaI 32 (qbg t).1 []).length:Int)=3 by omega,zPT,PT.row]
theorem qoo:∀ d:Fin 16,qa4 (qpC d.val) hexL 0=(d.val:Int):=by decide
theorem qms:∀ (s out:List UInt8),qfg (qeA s) out=(out++s,true)
 | [],out=>by simp[qeA,qfg]
 | c::r,out=>by
  have hc:c.toNat<256:=c.toNat_lt;have h1:=qoo ⟨c.toNat / 16,by omega⟩;have h2:=qoo ⟨c.toNat % 16,by omega⟩;simp only at h1 h2;rw[qeA,qfg,h1,h2,if_neg (by omega),qms r];have:UInt8.ofNat ((c.toNat / 16:Nat) * 16+(c.toNat % 16:Nat):Int).toNat=c:=by
   have e:((c.toNat / 16:Nat) * 16+(c.toNat % 16:Nat):Int).toNat=c.toNat:=by omega
   rw[e];simp
  rw[this];simp
theorem quI:∀ d:Fin 16,qpC d.val≠(32:UInt8):=by decide
theorem qry:∀ (s:List UInt8),∀ x∈qeA s,x≠(32:UInt8)
 | [],x,hx=>by simp[qeA]at hx
 | c::r,x,hx=>by
  have hc:c.toNat<256:=c.toNat_lt;rw[qeA]at hx;rcases qFT.1 hx with rfl | hx
  ·exact quI ⟨c.toNat / 16,by omega⟩
  rcases qFT.1 hx with rfl | hx
  ·exact quI ⟨c.toNat % 16,by omega⟩
  ·exact qry r x hx
theorem qw1 {s:List UInt8} (h:qeA s=[]):s=[]:=by
 cases s with
 | nil=>rfl
 | cons c r=>simp[qeA]at h
theorem qwZ (s:List UInt8):∀ x∈qhL s,x≠(32:UInt8):=by
 unfold qhL;split
 ·intro x hx;simp only[qG0]at hx;subst hx;decide
 ·exact qry s
def unT (w:List UInt8):List UInt8:=if w=[45] then [] else (qfg w []).1
theorem qw0 (s:List UInt8):qeA s≠[45]:=fun h=>by
 have:=qf9 s;rw[h]at this;simp at this;omega
theorem qvg (s:List UInt8):unT (qhL s)=s∧(qhL s=[45]∨(qfg (qhL s) []).2=true):=by
 unfold qhL;split
 ·rename_i h;have:=qw1 h;subst this;exact⟨rfl,.inl rfl⟩
 ·rw[qms s []];unfold unT;rw[if_neg (qw0 s),qms s []];exact⟨rfl,.inr rfl⟩
theorem qmH {s:List UInt8} (h:qbR s=true):∀ x∈s,x≠(32:UInt8):=fun x hx=>by
 simp only[qbR,Bool.and_eq_true,qEI]at h;have:=h.1.1 x hx;rintro rfl;simp[qmn]at this
theorem qq7 {r:LR} {t:List UInt8} (h:qbW r=t) (ht:t≠[]) :
  qdi r=true∧(qbg t).2=true∧qaI 32 (qbg t).1 []=[dec r.txg++46::dec r.seq,r.op.a,dec r.op.i,qhL r.op.text,dec r.txg++46::dec r.seq]:=by
 unfold qbW at h;split at h
 ·exact absurd h.symm ht
 ·rename_i hc;have hk:qdi r=true:=by simpa using hc
  have hsp:(1≤r.txg∧r.txg≤1000000)∧(0≤r.seq∧r.seq<8)∧r.op.kind=3∧qbR r.op.a=true∧r.op.b=[]∧(0≤r.op.i∧r.op.i<8)∧r.op.text.length≤24:=by
   have:=hk;simp only[qdi,Bool.and_eq_true,decide_eq_true_eq]at this;grind
  obtain⟨s1,s2,s3,s4,s5,s6,s7⟩:=hsp;have l1:=qax r.txg (by omega);have l2:=qax r.seq (by omega);have l3:=qax r.op.i (by omega);have l4:r.op.a.length≤6:=by
   simp only[qbR,Bool.and_eq_true,decide_eq_true_eq]at s4;exact s4.2
  have l5:(qhL r.op.text).length≤48:=by
   have:=qf9 r.op.text;unfold qhL;split
   ·simp
   ·omega
  have hj:dec r.txg++(46::(dec r.seq++(32::(r.op.a++(32::(dec r.op.i++(32::(qhL r.op.text++(32::(dec r.txg++(46::dec r.seq))))))))))) =
    Lib.join [dec r.txg++46::dec r.seq,r.op.a,dec r.op.i,qhL r.op.text,dec r.txg++46::dec r.seq] [32]:=by
   rw[qaS,qaS,qaS,qaS,Lib.join_one];simp
  have ho:=qly (s:=dec r.txg++(46::(dec r.seq++(32::(r.op.a++(32::(dec r.op.i++(32::(qhL r.op.text++(32::(dec r.txg++(46::dec r.seq)))))))))))) (by simp;omega);rw[h]at ho;rw[ho];refine⟨hk,rfl,?_⟩;have hm:∀ x∈dec r.txg++46::dec r.seq,x≠(32:UInt8):=fun x hx=>by
   simp only[qFV,qFT]at hx;rcases hx with hx | rfl | hx
   ·exact qfw _ 32 (by decide) x hx
   ·decide
   ·exact qfw _ 32 (by decide) x hx
  rw[hj,qdj 32 _ (by simp)];intro w hw;simp only[qFT,qF2,or_false]at hw;rcases hw with rfl | rfl | rfl | rfl | rfl
  ·exact hm
  ·exact qmH s4
  ·exact qfw _ 32 (by decide)
  ·exact qwZ _
  ·exact hm
def zBO:BO:=⟨0,[],[],0,[]⟩
def zLR:LR:=⟨0,0,zBO⟩
def qkX (t:List UInt8):LR×Bool :=
 match qaI 32 (qbg t).1 []with
 | [m,a,i,x,_]=>match qaI 46 m []with
  | [p,q]=>if (qbg t).2=true∧qbW ⟨(qay p).1,(qay q).1,⟨3,a,[],(qay i).1,unT x⟩⟩=t then (⟨(qay p).1,(qay q).1,⟨3,a,[],(qay i).1,unT x⟩⟩,true) else (zLR,false)
  | _=>(zLR,false)
 | _=>(zLR,false)
theorem quq {t:List UInt8} (h:(qaI 32 (qbg t).1 []).length≠5):qkX t=(zLR,false):=by
 unfold qkX;split
 ·rename_i hc;rw[hc]at h;simp at h
 ·rfl
theorem qra {t m a i x y:List UInt8} (h:qaI 32 (qbg t).1 []=[m,a,i,x,y]) (hm:(qaI 46 m []).length≠2):qkX t=(zLR,false):=by
 unfold qkX;rw[h];simp only;split
 ·rename_i hc;rw[hc]at hm;simp at hm
 ·rfl
theorem qn6 {t m a i x y p q:List UInt8} (h:qaI 32 (qbg t).1 []=[m,a,i,x,y]) (hm:qaI 46 m []=[p,q]) :
  qkX t=if (qbg t).2=true∧qbW ⟨(qay p).1,(qay q).1,⟨3,a,[],(qay i).1,unT x⟩⟩=t then (⟨(qay p).1,(qay q).1,⟨3,a,[],(qay i).1,unT x⟩⟩,true) else (zLR,false):=by
 unfold qkX;rw[h];simp only[hm]
theorem qxy {t m a i x y:List UInt8} (h:qaI 32 (qbg t).1 []=[m,a,i,x,y]):t≠[]:=by
 rintro rfl;simp[qbg,qa4,qaI]at h
theorem qxx {n k:Int}:qaI 46 (dec n++46::dec k) []=[dec n,dec k]:=by
 rw[qkM 46 _ _ [] (qfw n 46 (by decide)),qkL 46 _ [] (qfw k 46 (by decide))];rfl
theorem qty {n k:Int}:qeZ 46 (dec n++46::dec k)=(dec n,dec k,true):=by
 have:=qiK 46 (dec n) (dec k) 0 (qfw n 46 (by decide));unfold qeZ;rw[this,if_neg (by omega)];simp
theorem qzV {t m a i x y:List UInt8} (h:qaI 32 (qbg t).1 []=[m,a,i,x,y]) :
  qkX t=if qbC (qeZ 46 m).1=true∧qbC (qeZ 46 m).2.1=true∧qbC i=true∧(x=[45]∨(qfg x []).2=true)∧qbW ⟨qaG (qeZ 46 m).1,qaG (qeZ 46 m).2.1,⟨3,a,[],qaG i,unT x⟩⟩=t
   then (⟨qaG (qeZ 46 m).1,qaG (qeZ 46 m).2.1,⟨3,a,[],qaG i,unT x⟩⟩,true) else (zLR,false):=by
 have hne:=qxy h;have key:∀ r:LR,qbW r=t→m=dec r.txg++46::dec r.seq∧a=r.op.a∧i=dec r.op.i∧x=qhL r.op.text∧(qbg t).2=true∧qdi r=true:=fun r hr=>by
  obtain⟨w1,w2,w3⟩:=qq7 hr hne;rw[h]at w3;simp only[qFZ,and_true]at w3;exact⟨w3.1,w3.2.1,w3.2.2.1,w3.2.2.2.1,w2,w1⟩
 have bnd:∀ r:LR,qdi r=true→(1≤r.txg∧r.txg≤1000000)∧(0≤r.seq∧r.seq<8)∧(0≤r.op.i∧r.op.i<8):=fun r hk=>by
  simp only[qdi,Bool.and_eq_true,decide_eq_true_eq]at hk;grind
 by_cases g:qbC (qeZ 46 m).1=true∧qbC (qeZ 46 m).2.1=true∧qbC i=true∧(x=[45]∨(qfg x []).2=true)∧qbW ⟨qaG (qeZ 46 m).1,qaG (qeZ 46 m).2.1,⟨3,a,[],qaG i,unT x⟩⟩=t
 ·rw[if_pos g];obtain⟨k1,k2,k3,k4,k5,k6⟩:=key _ g.2.2.2.2;obtain⟨b1,b2,b3⟩:=bnd _ k6;simp only at k1 k3 b1 b2 b3;have hc:=@qxx (qaG (qeZ 46 m).1) (qaG (qeZ 46 m).2.1);rw[← k1]at hc;rw[qn6 h hc];obtain⟨d1,_⟩:=qdZ (n:=qaG (qeZ 46 m).1) (by omega) (by omega);obtain⟨d2,_⟩:=qdZ (n:=qaG (qeZ 46 m).2.1) (by omega) (by omega);obtain⟨d3,_⟩:=qdZ (n:=qaG i) (by omega) (by omega);rw[← k3]at d3;rw[d1,d2,d3,if_pos ⟨k5,g.2.2.2.2⟩]
 ·rw[if_neg g];by_cases h2:(qaI 46 m []).length=2
  ·obtain⟨p,q,hc⟩:∃ p q,qaI 46 m []=[p,q]:=by
    match hm:qaI 46 m [],h2 with
    | [p,q],_=>exact⟨p,q,rfl⟩
   rw[qn6 h hc];split
   ·rename_i hs;exfalso;obtain⟨k1,k2,k3,k4,k5,k6⟩:=key _ hs.2;obtain⟨b1,b2,b3⟩:=bnd _ k6;simp only at k1 k3 k4 b1 b2 b3;have h1:=@qty (qay p).1 (qay q).1;rw[← k1]at h1;obtain⟨_,d1,e1⟩:=qdZ (n:=(qay p).1) (by omega) (by omega);obtain⟨_,d2,e2⟩:=qdZ (n:=(qay q).1) (by omega) (by omega);obtain⟨_,d3,e3⟩:=qdZ (n:=(qay i).1) (by omega) (by omega);rw[← k3]at d3 e3;refine g ⟨by rw[h1];exact d1,by rw[h1];exact d2,d3,?_,?_⟩
    ·have:=(qvg (unT x)).2;rw[← k4]at this;exact this
    ·rw[h1];simp only;rw[e1,e2,e3];exact hs.2
   ·rfl
  ·exact qra h h2
theorem qrB {α:Type} {l:List α} (h:l.length=5):∃ a b c d e,l=[a,b,c,d,e]:=by
 match l,h with
 | [a,b,c,d,e],_=>exact⟨a,b,c,d,e,rfl⟩
theorem qnp {α:Type} {l:List α} (h:l.length=2):∃ a b,l=[a,b]:=by
 match l,h with
 | [a,b],_=>exact⟨a,b,rfl⟩
theorem qno:∀ (s out:List UInt8),(qfg s out).1.length≤out.length+s.length
 | [],out=>by simp[qfg]
 | [_],out=>by simp[qfg]
 | a::b::r,out=>by
  rw[qfg];split
  ·simp
  ·have:=qno r (out++[UInt8.ofNat (qa4 a hexL 0 * 16+qa4 b hexL 0).toNat]);simp at this ⊢;omega
theorem qpL (x:List UInt8):(unT x).length≤x.length:=by
 unfold unT;split
 ·simp
 ·have:=qno x [];simpa using this
theorem qld (t:List UInt8) (hl:t.length≤1000000):CV prog 271 [.str t] (.tup [.agg (qkX t).1.row,.bool (qkX t).2]):=by
 have c1:=quc t (by omega);have hol:=qf1 t;have c2:=qj2 (qbg t).1 32 (by omega);have hw:=qbs 32 (qbg t).1 [];simp only[qFJ,qFG]at hw;refine cvx func271 [] ntmps271 rfl rfl rfl ?_ (hcv:=by simp[LR.row,BO.row]);simp;refine c1.call ?_;simp;refine c2.call ?_;by_cases h5:(qaI 32 (qbg t).1 []).length=5
 ·obtain⟨m,a,i,x,y,hc⟩:=qrB h5;rw[hc]at hw;have lm:=hw m (by simp);have la:=hw a (by simp);have li:=hw i (by simp);have lx:=hw x (by simp);have lt:=qpL x;have c3:=qj2 m 46 (by omega);have hw2:=qbs 46 m [];simp only[qFJ,qFG]at hw2;cases ho:(qbg t).2 with
  | false =>
   have e:qkX t=(zLR,false):=by
    by_cases h2:(qaI 46 m []).length=2
    ·obtain⟨p,q,hm⟩:=qnp h2;rw[qn6 hc hm,if_neg (by simp[ho])]
    ·exact qra hc h2
   rw[e];simp[zLR,zBO,LR.row,BO.row]
  | true =>
   simp[hc,qcu];refine c3.call ?_;by_cases h2:(qaI 46 m []).length=2
   ·obtain⟨p,q,hm⟩:=qnp h2;rw[hm]at hw2;have lp:=hw2 p (by simp);have lq:=hw2 q (by simp);have e:=qn6 hc hm;have n1:=qh8 p (by omega);have n2:=qh8 q (by omega);have n3:=qh8 i (by omega);have n4:=qB7 x (by omega);have n5:=qqk ⟨(qay p).1,(qay q).1,⟨3,a,[],(qay i).1,unT x⟩⟩ (by simp only;omega) (by simp only;omega);simp only[LR.row,BO.row]at n5;simp[hm,qcu];refine n1.call ?_;simp;refine n2.call ?_;simp;refine n3.call ?_;by_cases hx:x=[45]
    ·have hu:unT x=[]:=by unfold unT;rw[if_pos hx]
     rw[hu]at n5 e;simp[hx,LR.row,BO.row];refine n5.call ?_;by_cases q2:qbW ⟨(qay p).1,(qay q).1,⟨3,a,[],(qay i).1,[]⟩⟩=t
     ·rw[if_pos ⟨ho,q2⟩]at e;rw[e];simp[q2,LR.row,BO.row]
     ·rw[if_neg fun z=>q2 z.2]at e;rw[e];simp[q2,zLR,zBO,LR.row,BO.row]
    ·have hu:unT x=(qfg x []).1:=by unfold unT;rw[if_neg hx]
     rw[hu]at n5 e;simp[hx,LR.row,BO.row];refine n4.call ?_;simp;refine n5.call ?_;by_cases q2:qbW ⟨(qay p).1,(qay q).1,⟨3,a,[],(qay i).1,(qfg x []).1⟩⟩=t
     ·rw[if_pos ⟨ho,q2⟩]at e;rw[e];simp[q2,LR.row,BO.row]
     ·rw[if_neg fun z=>q2 z.2]at e;rw[e];simp[q2,zLR,zBO,LR.row,BO.row]
   ·rw[qra hc h2];simp[qcu,h2,show ¬ ((qaI 46 m []).length:Int)=2 by omega,zLR,zBO,LR.row,BO.row]
 ·rw[quq h5];simp[qcu,h5,show ¬ ((qaI 32 (qbg t).1 []).length:Int)=5 by omega,zLR,zBO,LR.row,BO.row]
theorem qlI (t:List UInt8) (hl:t.length≤1000000):CV prog 215 [.str t] (.tup [.agg (qkX t).1.row,.bool (qkX t).2]):=by
 have c1:=qut t (by omega);have hol:=qf1 t;have c2:=qh7 (qbg t).1 32 (by omega);have hw:=qbs 32 (qbg t).1 [];simp only[qFJ,qFG]at hw;refine cvx func215 [] ntmps215 rfl rfl rfl ?_ (hcv:=by simp[LR.row,BO.row]);simp;refine c1.call ?_;simp;refine c2.call ?_;by_cases h5:(qaI 32 (qbg t).1 []).length=5
 ·obtain⟨m,a,i,x,y,hc⟩:=qrB h5;rw[hc]at hw;have lm:=hw m (by simp);have la:=hw a (by simp);have li:=hw i (by simp);have lx:=hw x (by simp);have lt:=qpL x;have lc:=qou 46 m;have c3:=qDB m 46 (by omega);have n1:=qmg (qeZ 46 m).1 (by omega);have n2:=qmg (qeZ 46 m).2.1 (by omega);have n3:=qmg i (by omega);have n4:=qCD x (by omega);have e:=qzV hc;generalize qeZ 46 m=M at *
  obtain⟨p,q,b⟩:=M;simp only at lc n1 n2 e c3;have n5:=qrf ⟨qaG p,qaG q,⟨3,a,[],qaG i,unT x⟩⟩ (by simp only;omega) (by simp only;omega);simp only[LR.row,BO.row]at n5;simp[hc,qcu];refine c3.call ?_;simp;refine n1.call ?_;simp;refine n2.call ?_;simp[qcu];refine n3.call ?_;simp[qcu];refine n4.call ?_;by_cases hx:x=[45]
  ·have hu:unT x=[]:=by unfold unT;rw[if_pos hx]
   rw[hu]at n5 e;cases k1:qbC p with
   | false =>
    rw[if_neg (by simp[k1])]at e;rw[e];simp[hx,qhO,zLR,zBO,LR.row,BO.row]
   | true =>
    cases k2:qbC q with
    | false =>
     rw[if_neg (by simp[k2])]at e;rw[e];simp[hx,qhO,zLR,zBO,LR.row,BO.row]
    | true =>
     cases k3:qbC i with
     | false =>
      rw[if_neg (by simp[k3])]at e;rw[e];simp[hx,qhO,zLR,zBO,LR.row,BO.row]
     | true =>
      simp[hx,qhO,LR.row,BO.row];refine n5.call ?_;by_cases q2:qbW ⟨qaG p,qaG q,⟨3,a,[],qaG i,[]⟩⟩=t
      ·rw[if_pos ⟨k1,k2,k3,.inl hx,q2⟩]at e;rw[e];simp[q2,LR.row,BO.row]
      ·rw[if_neg fun z=>q2 z.2.2.2.2]at e;rw[e];simp[q2,zLR,zBO,LR.row,BO.row]
  ·have hu:unT x=(qfg x []).1:=by unfold unT;rw[if_neg hx]
   rw[hu]at n5 e;cases k1:qbC p with
   | false =>
    rw[if_neg (by simp[k1])]at e;rw[e];simp[hx,qhO,zLR,zBO,LR.row,BO.row]
   | true =>
    cases k2:qbC q with
    | false =>
     rw[if_neg (by simp[k2])]at e;rw[e];simp[hx,qhO,zLR,zBO,LR.row,BO.row]
    | true =>
     cases k3:qbC i with
     | false =>
      rw[if_neg (by simp[k3])]at e;rw[e];simp[hx,qhO,zLR,zBO,LR.row,BO.row]
     | true =>
      cases k4:(qfg x []).2 with
      | false =>
       rw[if_neg (by simp[hx,k4])]at e;rw[e];simp[hx,qhO,zLR,zBO,LR.row,BO.row]
      | true =>
       simp[hx,qhO,LR.row,BO.row];refine n5.call ?_;by_cases q2:qbW ⟨qaG p,qaG q,⟨3,a,[],qaG i,(qfg x []).1⟩⟩=t
       ·rw[if_pos ⟨k1,k2,k3,.inr k4,q2⟩]at e;rw[e];simp[q2,LR.row,BO.row]
       ·rw[if_neg fun z=>q2 z.2.2.2.2]at e;rw[e];simp[q2,zLR,zBO,LR.row,BO.row]
 ·rw[quq h5];simp[qcu,h5,show ¬ ((qaI 32 (qbg t).1 []).length:Int)=5 by omega,zLR,zBO,LR.row,BO.row]
abbrev RS2:=List CS×List PT
def mkS (nm:List UInt8) (k:Int) (fr:List UInt8) (h:PT):CS:=⟨nm,k,fr,z8,h,false⟩
def frR (w:List UInt8):List UInt8:=if w=[45] then [] else w
def qeo (x:RS2) (l:List UInt8):RS2×Bool :=
 match qaI 32 l []with
 | [a,b]=>if a=[46] then ((x.1,x.2++[(qbP b).1]),(qbP b).2) else (x,false)
 | [a,b,c,d]=>((x.1++[mkS a (qay b).1 (frR c) (qbP d).1],x.2),(qay b).2 && (qbP d).2)
 | _=>(x,false)
def qdx (x:RS2) (l:List UInt8):RS2×Bool :=
 match qaI 32 l []with
 | [a,b]=>if (qbP b).2=true∧a=[46] then ((x.1,x.2++[(qbP b).1]),true) else (x,false)
 | [a,b,c,d]=>if (qbP d).2=true then ((x.1++[mkS a (qaG b) (frR c) (qbP d).1],x.2),qbC b) else (x,false)
 | _=>(x,false)
def qe6 (f:RS2→List UInt8→RS2×Bool):List (List UInt8)→RS2→Option RS2
 | [],x=>some x
 | l::r,x=>if (f x l).2=true then qe6 f r (f x l).1 else none
def qba (x:RS2):CO:=⟨0,x.1,[],x.2,false,[],0⟩
def qhW (t:List UInt8) (x:RS2):Bool:=decide (qaA (qba x)=t) && qbd (x.1.map csB) && decide (x.2.length≤8)
def qll:List UInt8:=[114,111,111,116]
def qmo (t:List UInt8) (o:Option RS2):CO×Bool :=
 match o with
 | some x=>if qhW t x=true then (qba x,true) else (zK,false)
 | none=>(zK,false)
def qhc (t:List UInt8):CO×Bool :=
 if 420<t.length∨(qaI 10 t []).head?≠some qll then (zK,false) else qmo t (qe6 qeo (qaI 10 t []).tail ([],[]))
def qoJ (s:CS):List UInt8:=s.name++(32::(dec s.kind++(32::(qep s.frm++(32::qaR s.home)))))
def qoT (p:PT):List UInt8:=46::32::qaR p
theorem qih:∀ {l:List CS} {t:List UInt8},qbE l=some t→(∀ s∈l,qbn s=true)∧t=Lib.joinTail [10] (l.map qoJ)
 | [],t,h=>by
  simp only[qbE,qEi]at h;subst h;exact⟨by simp,by simp[Lib.joinTail]⟩
 | s::r,t,h=>by
  rw[qbE]at h;split at h
  ·cases h
  ·rename_i hk;cases hr:qbE r with
   | none=>rw[hr]at h;cases h
   | some u =>
    rw[hr]at h;simp only[qEp,qEi]at h;subst h;obtain⟨h1,h2⟩:=qih hr;refine⟨fun x hx=>?_,?_⟩
    ·rcases qFT.1 hx with rfl | hx
     ·simpa using hk
     ·exact h1 x hx
    ·subst h2;simp[Lib.joinTail,qdT,qoJ]
theorem qgZ:∀ {l:List PT} {t:List UInt8},qa2 l=some t→(∀ p∈l,qaq p=true)∧t=Lib.joinTail [10] (l.map qoT)
 | [],t,h=>by
  simp only[qa2,qEi]at h;subst h;exact⟨by simp,by simp[Lib.joinTail]⟩
 | p::r,t,h=>by
  rw[qa2]at h;split at h
  ·cases h
  ·rename_i hk;cases hr:qa2 r with
   | none=>rw[hr]at h;cases h
   | some u =>
    rw[hr]at h;simp only[qEp,qEi]at h;subst h;obtain⟨h1,h2⟩:=qgZ hr;refine⟨fun x hx=>?_,?_⟩
    ·rcases qFT.1 hx with rfl | hx
     ·simpa using hk
     ·exact h1 x hx
    ·subst h2;simp[Lib.joinTail,qoT]
theorem qlF (sep:List UInt8) (a b:List (List UInt8)):Lib.joinTail sep (a++b)=Lib.joinTail sep a++Lib.joinTail sep b:=by
 simp[Lib.joinTail]
theorem qlB {s:List UInt8} (h:qbR s=true):∀ x∈s,x≠(10:UInt8):=fun x hx=>by
 simp only[qbR,Bool.and_eq_true,qEI]at h;have:=h.1.1 x hx;rintro rfl;simp[qmn]at this
theorem qij {p:PT} (h:qaK p=true):∀ x∈qaR p,x≠(10:UInt8):=by
 by_cases h0:p.pa=0
 ·unfold qaR;rw[if_neg (by simp[h]),if_pos h0];intro x hx;simp only[qG0]at hx;subst hx;decide
 ·rw[qdt (by simp[qaq,h,h0]),qaS,qaS,Lib.join_one];intro x hx;simp only[qFV,qFT]at hx;rcases hx with hx | rfl | hx | rfl | hx
  ·exact qgF _ 10 (by decide) (by decide) x hx
  ·decide
  ·exact qgF _ 10 (by decide) (by decide) x hx
  ·decide
  ·exact qgF _ 10 (by decide) (by decide) x hx
theorem qhS {s:CS} (h:qbn s=true):qbR s.name=true∧(s.frm=[]∨qbR s.frm=true)∧(1≤s.kind∧s.kind≤2)∧qaK s.home=true:=by
 simp only[qbn,Bool.and_eq_true,qF1,decide_eq_true_eq,List.isEmpty_iff]at h;exact⟨h.1.1.1.1,h.1.1.1.2,h.1.1.2,h.1.2⟩
theorem qhM {s:List UInt8} (h:s=[]∨qbR s=true):(∀ x∈qep s,x≠(32:UInt8))∧(∀ x∈qep s,x≠(10:UInt8))∧frR (qep s)=s:=by
 rcases h with rfl | h
 ·refine⟨?_,?_,rfl⟩
  ·intro x hx;simp only[qep,if_true,qG0]at hx;subst hx;decide
  ·intro x hx;simp only[qep,if_true,qG0]at hx;subst hx;decide
 ·have hne:s≠[]:=by
   rintro rfl;simp[qbR]at h
  have hf:qep s=s:=by unfold qep;rw[if_neg hne]
  rw[hf];refine⟨qmH h,qlB h,?_⟩;unfold frR;rw[if_neg];rintro rfl
  revert h
  decide
theorem qvO {s:CS} (h:qbn s=true):∀ x∈qoJ s,x≠(10:UInt8):=by
 obtain⟨h1,h2,h3,h4⟩:=qhS h;intro x hx;simp only[qoJ,qFV,qFT]at hx;rcases hx with hx | rfl | hx | rfl | hx | rfl | hx
 ·exact qlB h1 x hx
 ·decide
 ·exact qfw _ 10 (by decide) x hx
 ·decide
 ·exact(qhM h2).2.1 x hx
 ·decide
 ·exact qij h4 x hx
theorem qwm {p:PT} (h:qaq p=true):∀ x∈qoT p,x≠(10:UInt8):=by
 intro x hx;simp only[qoT,qFT]at hx;rcases hx with rfl | rfl | hx
 ·decide
 ·decide
 ·exact qij (qdW h).1 x hx
theorem qjp {x:RS2} {t:List UInt8} (h:qaA (qba x)=t) (ht:t≠[]) :
  (∀ s∈x.1,qbn s=true)∧(∀ p∈x.2,qaq p=true)∧qaI 10 t []=qll::(x.1.map qoJ++x.2.map qoT):=by
 unfold qaA qba at h;simp only at h;cases h1:qbE x.1 with
 | none =>
  rw[h1]at h;exact absurd h.symm ht
 | some a =>
  cases h2:qa2 x.2 with
  | none =>
   rw[h1,h2]at h;exact absurd h.symm ht
  | some b =>
   rw[h1,h2]at h;simp only[qFX,qEp,qFn]at h;obtain⟨a1,a2⟩:=qih h1;obtain⟨b1,b2⟩:=qgZ h2;refine⟨a1,b1,?_⟩;have:t=Lib.join (qll::(x.1.map qoJ++x.2.map qoT)) [10]:=by
    rw[Lib.join_cons,qlF,← a2,← b2,← h];rfl
   rw[this,qdj 10 _ (by simp)];intro w hw;simp only[qFT,qFV,qEW]at hw;rcases hw with rfl | ⟨s,hs,rfl⟩ | ⟨p,hp,rfl⟩
   ·decide
   ·exact qvO (a1 s hs)
   ·exact qwm (b1 p hp)
theorem qnv {s:CS} (h:qbn s=true):qaI 32 (qoJ s) []=[s.name,dec s.kind,qep s.frm,qaR s.home]:=by
 obtain⟨h1,h2,h3,h4⟩:=qhS h;have hj:qoJ s=Lib.join [s.name,dec s.kind,qep s.frm,qaR s.home] [32]:=by
  rw[qaS,qaS,qaS,Lib.join_one];rfl
 rw[hj,qdj 32 _ (by simp)];intro w hw;simp only[qFT,qF2,or_false]at hw;rcases hw with rfl | rfl | rfl | rfl
 ·exact qmH h1
 ·exact qfw _ 32 (by decide)
 ·exact(qhM h2).1
 ·exact qik h4
theorem qnU {p:PT} (h:qaq p=true):qaI 32 (qoT p) []=[[46],qaR p]:=by
 have hj:qoT p=Lib.join [[46],qaR p] [32]:=by
  rw[qaS,Lib.join_one];rfl
 rw[hj,qdj 32 _ (by simp)];intro w hw;simp only[qFT,qF2,or_false]at hw;rcases hw with rfl | rfl
 ·decide
 ·exact qik (qdW h).1
def nrm (s:CS):Prop:=s.map=z8∧s.dirty=false
theorem qun {s:CS} (h:nrm s):mkS s.name s.kind s.frm s.home=s:=by
 obtain⟨a,b,c,m,e,d⟩:=s;obtain⟨h1,h2⟩:=h;simp only at h1 h2;subst h1;subst h2;rfl
theorem qiv {s:CS} (h:qbn s=true) (hn:nrm s) (x:RS2):qeo x (qoJ s)=((x.1++[s],x.2),true):=by
 obtain⟨h1,h2,h3,h4⟩:=qhS h;obtain⟨d1,d2,d3⟩:=qdZ (n:=s.kind) (by omega) (by omega);unfold qeo;rw[qnv h];simp only[d1,qgA h4,(qhM h2).2.2,qun hn,Bool.and_self]
theorem qq8 {s:CS} (h:qbn s=true) (hn:nrm s) (x:RS2):qdx x (qoJ s)=((x.1++[s],x.2),true):=by
 obtain⟨h1,h2,h3,h4⟩:=qhS h;obtain⟨d1,d2,d3⟩:=qdZ (n:=s.kind) (by omega) (by omega);unfold qdx;rw[qnv h];simp only[d2,d3,qgA h4,(qhM h2).2.2,qun hn,if_true]
theorem qiw {p:PT} (h:qaq p=true) (x:RS2):qeo x (qoT p)=((x.1,x.2++[p]),true):=by
 unfold qeo;rw[qnU h];simp only[qgA (qdW h).1,if_true]
theorem qq9 {p:PT} (h:qaq p=true) (x:RS2):qdx x (qoT p)=((x.1,x.2++[p]),true):=by
 unfold qdx;rw[qnU h];simp[qgA (qdW h).1]
theorem qnA (f:RS2→List UInt8→RS2×Bool):∀ (a b:List (List UInt8)) (x:RS2),qe6 f (a++b) x=(qe6 f a x).bind (qe6 f b)
 | [],b,x=>rfl
 | l::r,b,x=>by
  rw[qGj,qe6,qe6];split
  ·exact qnA f r b _
  ·rfl
theorem qlg {f:RS2→List UInt8→RS2×Bool} (hf:∀ s,qbn s=true→nrm s→∀ x,f x (qoJ s)=((x.1++[s],x.2),true)):∀ (l:List CS) (x:RS2),(∀ s∈l,qbn s=true∧nrm s)→qe6 f (l.map qoJ) x=some (x.1++l,x.2)
 | [],x,_=>by simp[qe6]
 | s::r,x,h=>by
  obtain⟨h1,h2⟩:=h s (by simp);rw[qEV,qe6,hf s h1 h2 x,if_pos rfl,qlg hf r _ fun y hy=>h y (by simp[hy])];simp
theorem qlh {f:RS2→List UInt8→RS2×Bool} (hf:∀ p,qaq p=true→∀ x,f x (qoT p)=((x.1,x.2++[p]),true)):∀ (l:List PT) (x:RS2),(∀ p∈l,qaq p=true)→qe6 f (l.map qoT) x=some (x.1,x.2++l)
 | [],x,_=>by simp[qe6]
 | p::r,x,h=>by
  rw[qEV,qe6,hf p (h p (by simp)) x,if_pos rfl,qlh hf r _ fun y hy=>h y (by simp[hy])];simp
theorem qqV {l:List CS} {s:CS} (h:∀ x∈l,nrm x) (hs:nrm s):∀ x∈l++[s],nrm x:=fun x hx=>by
 rcases qFV.1 hx with hx | hx
 ·exact h x hx
 ·simp only[qG0]at hx;subst hx;exact hs
theorem qlE (x:RS2) (l:List UInt8) (h:∀ s∈x.1,nrm s):∀ s∈(qeo x l).1.1,nrm s:=by
 unfold qeo;split
 ·split <;> exact h
 ·exact qqV h ⟨rfl,rfl⟩
 ·exact h
theorem qix (x:RS2) (l:List UInt8) (h:∀ s∈x.1,nrm s):∀ s∈(qdx x l).1.1,nrm s:=by
 unfold qdx;split
 ·split <;> exact h
 ·split
  ·exact qqV h ⟨rfl,rfl⟩
  ·exact h
 ·exact h
theorem qj4 {f:RS2→List UInt8→RS2×Bool} (hf:∀ x l,(∀ s∈x.1,nrm s)→∀ s∈(f x l).1.1,nrm s):∀ (ls:List (List UInt8)) (x y:RS2),(∀ s∈x.1,nrm s)→qe6 f ls x=some y→∀ s∈y.1,nrm s
 | [],x,y,h,e=>by
  simp only[qe6,qEi]at e;subst e;exact h
 | l::r,x,y,h,e=>by
  rw[qe6]at e;split at e
  ·exact qj4 hf r _ y (hf x l h) e
  ·cases e
theorem qhA {f g:RS2→List UInt8→RS2×Bool} (hf:∀ x l,(∀ s∈x.1,nrm s)→∀ s∈(f x l).1.1,nrm s)
  (hg1:∀ s,qbn s=true→nrm s→∀ x,g x (qoJ s)=((x.1++[s],x.2),true)) (hg2:∀ p,qaq p=true→∀ x,g x (qoT p)=((x.1,x.2++[p]),true))
  {t:List UInt8} {x:RS2} (h:qe6 f (qaI 10 t []).tail ([],[])=some x) (ht:qaA (qba x)=t) (hne:t≠[]) :
  qe6 g (qaI 10 t []).tail ([],[])=some x∧(qaI 10 t []).head?=some qll:=by
 obtain⟨r1,r2,r3⟩:=qjp ht hne;have hn:=qj4 hf _ _ x (by simp) h;rw[r3];refine⟨?_,rfl⟩;rw[qG4,qnA,qlg hg1 x.1 ([],[]) fun s hs=>⟨r1 s hs,hn s hs⟩,qFX,qlh hg2 x.2 _ r2];simp
theorem qgp {t:List UInt8} {x:RS2} (h:qhW t x=true):qaA (qba x)=t:=by
 simp only[qhW,Bool.and_eq_true,decide_eq_true_eq]at h;exact h.1.1
theorem qzd {t:List UInt8} (h1:¬ 420<t.length):qhc t=qmo t (qe6 qdx (qaI 10 t []).tail ([],[])):=by
 by_cases hne:t=[]
 ·subst hne;decide
 by_cases hd:(qaI 10 t []).head?=some qll
 ·unfold qhc;rw[if_neg (by rintro(e | e);exact h1 e;exact e hd)];cases hs:qe6 qeo (qaI 10 t []).tail ([],[])with
  | some x =>
   by_cases ha:qhW t x=true
   ·obtain⟨b1,_⟩:=qhA qlE (fun s h hn x=>qq8 h hn x) (fun p h x=>qq9 h x) hs (qgp ha) hne;rw[b1]
   ·cases hi:qe6 qdx (qaI 10 t []).tail ([],[])with
    | none=>simp[qmo,ha]
    | some y =>
     by_cases hb:qhW t y=true
     ·obtain⟨b1,_⟩:=qhA qix (fun s h hn x=>qiv h hn x) (fun p h x=>qiw h x) hi (qgp hb) hne;rw[hs]at b1;injection b1 with b1;subst b1;exact absurd hb ha
     ·simp[qmo,ha,hb]
  | none =>
   cases hi:qe6 qdx (qaI 10 t []).tail ([],[])with
   | none=>rfl
   | some y =>
    by_cases hb:qhW t y=true
    ·obtain⟨b1,_⟩:=qhA qix (fun s h hn x=>qiv h hn x) (fun p h x=>qiw h x) hi (qgp hb) hne;rw[hs]at b1;cases b1
    ·simp[qmo,hb]
 ·unfold qhc;rw[if_pos (.inr hd)];cases hi:qe6 qdx (qaI 10 t []).tail ([],[])with
  | none=>rfl
  | some y =>
   by_cases hb:qhW t y=true
   ·obtain⟨_,b2⟩:=qhA qix (fun s h hn x=>qiv h hn x) (fun p h x=>qiw h x) hi (qgp hb) hne;exact absurd b2 hd
   ·simp[qmo,hb]
def lnR (x:RS2) (i j:Nat):List AV:=[.int .i64 0,.sl i 0 x.1.length,.nils,.sl j 0 x.2.length,.bool false,.nils,.int .i64 0]
def lnQ (V:List (Nat×Nat)) (R:RS2×Bool) (r:AV) (L':List (Nat×Ob)):Prop:=∃ i j,(i,j)∈V∧r=.tup [.agg (lnR R.1 i j),.bool R.2]∧L'=[(i,kcs R.1.1),(j,kpt R.1.2)]
theorem qy6 (x:RS2) (l:List UInt8) (hl:l.length≤1000000) (h1:x.1.length≤1000000) (h2:x.2.length≤1000000) :
  ACall prog 159 [.agg (lnR x 1000 1001),.str l] [(1000,kcs x.1),(1001,kpt x.2)] (lnQ [(902,903)] (qeo x l)):=by
 have c1:=qj2 l 32 (by omega);have hw:=qbs 32 l [];simp only[qFJ,qFG]at hw;have key:ACall prog 159 [.agg (lnR x 1000 1001),.str l] [(1000,kcs x.1),(1001,kpt x.2)] (lnQ [(1000,1001),(1000,36),(76,1001)] (qeo x l)):=by
  obtain⟨R,hR⟩:∃ R,qeo x l=R:=⟨_,rfl⟩;rw[hR];unfold qeo at hR;refine acx func159 [(10,[zI 0,zI 1,zI 2,zI 3,zJ 4 [11] [],zI 5,zJ 6 [] [11],zI 7])] ntmps159 rfl rfl rfl ?_;simp[lnR];refine c1.call ?_;by_cases n2:(qaI 32 l []).length=2
  ·obtain⟨a,b,hc⟩:=qnp n2;rw[hc]at hR hw;simp only at hR;have lb:=hw b (by simp);have c2:=qfT b (by omega);simp only[PT.row]at c2;by_cases ha:a=[46]
   ·rw[if_pos ha]at hR;subst hR;simp[hc,qcu,ha];refine c2.call ?_;simp[kpt,PT.row];exact⟨by omega,[(1000,kcs x.1),(36,kpt (x.2++[(qbP b).1]))],by simp[kpt,PT.row,qam],1000,36,by simp,by simp[lnR],rfl⟩
   ·rw[if_neg ha]at hR;subst hR;simp[hc,qcu,ha];exact⟨[(1000,kcs x.1),(1001,kpt x.2)],by simp,1000,1001,by simp,rfl,rfl⟩
  ·by_cases n4:(qaI 32 l []).length=4
   ·obtain⟨a,b,c,d,hc⟩:∃ a b c d,qaI 32 l []=[a,b,c,d]:=by
     match hm:qaI 32 l [],n4 with
     | [a,b,c,d],_=>exact⟨a,b,c,d,rfl⟩
    rw[hc]at hR hw;simp only at hR;have lb:=hw b (by simp);have ld:=hw d (by simp);have n1:=qh8 b (by omega);have c2:=qfT d (by omega);simp only[PT.row]at c2;simp[hc,qcu];refine n1.call ?_;simp;refine c2.call ?_;simp[PT.row];have hrow:∀ fr:List UInt8,CS.row (mkS a (qay b).1 fr (qbP d).1)=[.str a,.int .i64 (qay b).1,.str fr,.int .i64 0,.int .i64 0,.int .i64 0,.int .i64 0,.int .i64 0,.int .i64 0,.int .i64 0,.int .i64 0,.int .i64 0,.int .i64 0,.int .i64 0,.int .i64 0,.int .i64 0,.int .i64 0,.int .i64 0,.int .i64 0,.int .i64 0,.int .i64 0,.int .i64 0,.int .i64 0,.int .i64 0,.int .i64 0,.int .i64 0,.int .i64 0,.int .i64 (qbP d).1.pa,.int .i64 (qbP d).1.ps,.int .i64 (qbP d).1.pb,.bool false]:=fun fr=>by
     simp[CS.row,mkS,z8,zPT,PT.row,List.replicate]
    subst hR;by_cases hq:c=[45]
    ·have hf:frR c=[]:=by unfold frR;rw[if_pos hq]
     rw[hf];simp[hq,kcs];cases hk:(qay b).2 with
     | false =>
      simp;exact⟨by omega,[(76,kcs (x.1++[mkS a (qay b).1 [] (qbP d).1])),(1001,kpt x.2)],by simp[kcs,hrow,qam],76,1001,by simp,by simp[lnR],rfl⟩
     | true =>
      simp;exact⟨by omega,[(76,kcs (x.1++[mkS a (qay b).1 [] (qbP d).1])),(1001,kpt x.2)],by simp[kcs,hrow,qam],76,1001,by simp,by simp[lnR],rfl⟩
    ·have hf:frR c=c:=by unfold frR;rw[if_neg hq]
     rw[hf];simp[hq,kcs];cases hk:(qay b).2 with
     | false =>
      simp;exact⟨by omega,[(76,kcs (x.1++[mkS a (qay b).1 c (qbP d).1])),(1001,kpt x.2)],by simp[kcs,hrow,qam],76,1001,by simp,by simp[lnR],rfl⟩
     | true =>
      simp;exact⟨by omega,[(76,kcs (x.1++[mkS a (qay b).1 c (qbP d).1])),(1001,kpt x.2)],by simp[kcs,hrow,qam],76,1001,by simp,by simp[lnR],rfl⟩
   ·have hx:R=(x,false):=by
     rw[← hR];split
     ·rename_i q;rw[q]at n2;simp at n2
     ·rename_i q;rw[q]at n4;simp at n4
     ·rfl
    subst hx;simp[qcu,n2,n4,show ¬ ((qaI 32 l []).length:Int)=2 by omega,show ¬ ((qaI 32 l []).length:Int)=4 by omega];exact⟨[(1000,kcs x.1),(1001,kpt x.2)],by simp,1000,1001,by simp,rfl,rfl⟩
 refine key.can ?_;rintro r L' ⟨i,j,hV,rfl,rfl⟩;simp only[qFT,qF2,or_false,qEj]at hV;rcases hV with⟨rfl,rfl⟩ | ⟨rfl,rfl⟩ | ⟨rfl,rfl⟩
 ·exact⟨[(1000,902),(1001,903)],by simp,by simp,by simp,by simp,902,903,by simp,by simp[lnR],by simp[qah]⟩
 ·exact⟨[(1000,902),(36,903)],by simp,by simp,by simp,by simp,902,903,by simp,by simp[lnR],by simp[qah]⟩
 ·exact⟨[(76,902),(1001,903)],by simp,by simp,by simp,by simp,902,903,by simp,by simp[lnR],by simp[qah]⟩
theorem ql8 (c:UInt8) (s:List UInt8):∃ h r,qaI c s []=h::r:=by
 cases hr:qaI c s []with
 | nil=>exact absurd hr (qm9 _ _ _)
 | cons h r=>exact⟨h,r,rfl⟩
theorem qlf {f:RS2→List UInt8→RS2×Bool} {l:List UInt8} {r:List (List UInt8)} {x:RS2} (h:(f x l).2=true):qe6 f (l::r) x=qe6 f r (f x l).1:=by
 rw[qe6,if_pos h]
theorem qli {f:RS2→List UInt8→RS2×Bool} {l:List UInt8} {r:List (List UInt8)} {x:RS2} (h:(f x l).2=false):qe6 f (l::r) x=none:=by
 rw[qe6,if_neg (by simp[h])]
theorem ql9 (x:RS2):(qba x).row=[.int .i64 0,.lst 31 (x.1.map CS.row),.lst 3 [],.lst 3 (x.2.map PT.row),.bool false,.lst 1 [],.int .i64 0]:=rfl
def rdT (n:Nat) (x:RS2):Prop:=x.1.length≤n∧x.2.length≤n∧∀ s∈x.1,s.map.length=8∧s.name.length≤1000∧s.frm.length≤1000
theorem qnJ {n:Nat} {x:RS2} (h:rdT n x) (hn:n≤100000):CoT (qba x) :=
 ⟨by have:=h.1;simp only[qba];omega,by simp[qba],by have:=h.2.1;simp only[qba];omega,by simp[qba],fun s hs=>(h.2.2 s hs).1,fun s hs=>by have:=h.2.2 s hs;omega⟩
theorem qxg (w:List UInt8):(frR w).length≤w.length:=by
 unfold frR;split <;> simp
theorem qqH {n:Nat} {x:RS2} (h:rdT n x) {a c:List UInt8} (k:Int) (p:PT) (ha:a.length≤1000) (hc:c.length≤1000):rdT (n+1) (x.1++[mkS a k (frR c) p],x.2):=by
 have:=qxg c;refine⟨by have:=h.1;simp;omega,by have:=h.2.1;simp only;omega,fun s hs=>?_⟩;simp only at hs;rcases qFV.1 hs with hs | hs
 ·exact h.2.2 s hs
 ·simp only[qG0]at hs;subst hs;exact⟨rfl,ha,by simp only[mkS];omega⟩
theorem qwG {n:Nat} {x:RS2} (h:rdT n x) {l:List UInt8} (hl:l.length≤1000):rdT (n+1) (qeo x l).1:=by
 have hw:=qbs 32 l [];simp only[qFJ,qFG]at hw;have h0:rdT (n+1) x:=⟨by have:=h.1;omega,by have:=h.2.1;omega,h.2.2⟩;unfold qeo;split
 ·split
  ·exact⟨by have:=h.1;simp only;omega,by have:=h.2.1;simp;omega,h.2.2⟩
  ·exact h0
 ·rename_i a b c d hc;rw[hc]at hw;have la:=hw a (by simp);have lc:=hw c (by simp);exact qqH h _ _ (by omega) (by omega)
 ·exact h0
theorem qv6 {t:List UInt8} {h:List UInt8} {r:List (List UInt8)} (hc:qaI 10 t []=h::r):qhc t=if 420<t.length∨h≠qll then (zK,false) else qmo t (qe6 qeo r ([],[])):=by
 unfold qhc;rw[hc];simp
def rtQ (a b:Nat) (R:CO×Bool) (r:AV) (L':List (Nat×Ob)):Prop :=
 (R=(zK,false)∧r=.tup [.agg [.int .i64 0,.nils,.nils,.nils,.bool false,.nils,.int .i64 0],.bool false]∧L'=[]) ∨
 (∃ x:RS2,R=(qba x,true)∧r=.tup [.agg (lnR x a b),.bool true]∧L'=[(a,kcs x.1),(b,kpt x.2)])
theorem qoL (t:List UInt8) (hl:t.length≤1000000):ACall prog 75 [.str t] [] (rtQ 900 901 (qhc t)):=by
 obtain⟨R,hR⟩:∃ R,qhc t=R:=⟨_,rfl⟩;rw[hR];have c1:=qj2 t 10 (by omega);have hw:=qbs 10 t [];have hnum:=qdk 10 t [];simp only[qFJ,qFG]at hw;obtain⟨hd,ls,hc⟩:=ql8 10 t;rw[qv6 hc]at hR;rw[hc]at hw hnum c1;refine acx func75 [(8,[zJ 0 [4] [],zJ 1 [] [4],zJ 2 [] [4],zJ 3 [] [4],zJ 4 [] [4],⟨5,[],[],[9],[]⟩,zI 6,zI 7,zI 8,zJ 9 [] [4],zI 10,zI 11])] ntmps75 rfl rfl rfl ?_;simp;refine c1.call ?_;by_cases h1:420<t.length
 ·rw[if_pos (.inl h1)]at hR;subst hR;simp[show(420:Int)<t.length by omega,h1,qcu];exact⟨[],by simp,.inl ⟨rfl,rfl,rfl⟩⟩
 by_cases h2:hd=qll
 ·rw[if_neg (by rintro(e | e);exact h1 e;exact e h2)]at hR;have h2':hd=[114,111,111,116]:=h2;simp[show ¬ (420:Int)<t.length by omega,h1,qcu,h2'];refine qeX ((qeH 900 31 (by simp)).trans ((qdp 4 1 (sz:=7) (row:=[.int .i64 0,.nils,.nils,.nils,.bool false,.nils,.int .i64 0]) (by simp) (by simp) (qcH 900 0)).trans
   ((qeH 901 3 (by simp)).trans (qdp 4 3 (sz:=7) (row:=[.int .i64 0,.sl 900 0 0,.nils,.nils,.bool false,.nils,.int .i64 0]) (by simp) (by simp) (qcH 901 0))))) ?_
  refine qbl (X:=Nat×RS2) [0,2,3,4,5,6] [(2,2),(4,4),(900,900),(901,901)] (fun x=>[(6,.int .i64 (x.1+1))]) (fun x=>[(2,⟨7,[[.int .i64 0,.nils,.nils,.nils,.bool false,.nils,.int .i64 0]]⟩),(4,⟨7,[lnR x.2 900 901]⟩),(900,kcs x.2.1),(901,kpt x.2.2)]) (fun x=>ls.length-x.1)
   (fun x=>x.1≤ls.length∧rdT x.1 x.2∧qmo t (qe6 qeo (ls.drop x.1) x.2)=R) (0,([],[])) ⟨by omega,⟨by simp,by simp,by simp⟩,hR⟩ ?_ (he:=by simp[qah,lnR,kcs,kpt])
  rintro⟨i,x⟩ ⟨hi,hx,hd2⟩;simp only at hi hx hd2;cases hr:ls.drop i with
  | nil =>
   have:=qa0 hr;have hie:i=ls.length:=by omega
   subst hie;rw[hr]at hd2;simp only[qe6,qmo]at hd2;have hT:=qnJ hx (by simp at hnum;omega);have c2:=qqe (qba x) hT;have c3:=qmy (qba x) (by have:=hx.1;simp only[qba];simp at hnum;omega) hT.m8;have c4:=qhu (qrY ((qba x).sets.map csB) (by have:=hx.1;simp[qba];simp at hnum;omega) (fun b hb=>by
    obtain⟨s,hs,rfl⟩:=qEW.1 hb;simp[csB]) (fun b hb=>by
    obtain⟨s,hs,rfl⟩:=qEW.1 hb;have:=hx.2.2 s hs;simp[csB];omega)) (hca:=by simp[bk])
   rw[ql9]at c2 c3;simp[lnR];refine c2.view (by simp[qb1,mtA,kcs,kpt,qam,qa5]) ?_;by_cases q1:qaA (qba x)=t
   ·simp[q1];refine qaO [] (by kernel_rfl) c3 (by simp[qb1,mtA,kcs,kpt,qam,qa5]) (by simp) trivial (by simp) (by simp) ?_;rintro r L' ⟨rfl,rfl⟩;refine⟨by simp[noL],by simp[qbB,qn0],[(900,47)],⟨by simp,by simp,by simp,by simp,by simp⟩,?_⟩;simp only[qad];have htk:List.take x.1.length (List.map (BS.row ∘ csB) x.1)=List.map (BS.row ∘ csB) x.1:=qEK (by simp);simp only[bk,qba,qE3]at c4;simp;refine c4.view (by simp[qb1,mtA,qbB,qba,htk]) ?_;cases hb:qbd (List.map csB x.1)with
    | false =>
     have ha:qhW t x=false:=by simp[qhW,hb]
     rw[if_neg (by simp[ha])]at hd2;subst hd2;simp;exact⟨[],by simp,.inl ⟨rfl,rfl,rfl⟩⟩
    | true =>
     simp;by_cases q8:x.2.length≤8
     ·have ha:qhW t x=true:=by simp[qhW,hb,q8,q1]
      rw[if_pos ha]at hd2;subst hd2;simp[show ¬ (8:Int)<x.2.length by omega,show ¬ 8<x.2.length by omega,q8,show(x.2.length:Int)≤8 by omega];exact⟨[(900,kcs x.1),(901,kpt x.2)],by simp[qah],.inr ⟨x,rfl,by simp[lnR],rfl⟩⟩
     ·have ha:qhW t x=false:=by simp[qhW,q8]
      rw[if_neg (by simp[ha])]at hd2;subst hd2;simp[show(8:Int)<x.2.length by omega,show 8<x.2.length by omega,q8,show ¬ (x.2.length:Int)≤8 by omega];exact⟨[],by simp,.inl ⟨rfl,rfl,rfl⟩⟩
   ·have ha:qhW t x=false:=by simp[qhW,q1]
    rw[if_neg (by simp[ha])]at hd2;subst hd2;simp[q1];exact⟨[],by simp,.inl ⟨rfl,rfl,rfl⟩⟩
  | cons l r =>
   obtain⟨g1,e0,e1,g3⟩:=qa1 hr;have hwl:=hw l (by simp[qGk e1]);have c2:=qy6 x l (by omega) (by have:=hx.1;simp at hnum;omega) (by have:=hx.2.1;simp at hnum;omega);have hT:=qwG hx (l:=l) (by omega);have e2:=qak ((i:Int)+1+1) (by simp at hnum;omega) (by simp at hnum;omega);rw[hr]at hd2;simp only[lnR]at c2;simp[lnR,g1,e0,e1,qcu];refine⟨by omega,?_⟩;refine qac [(1000,.whole 900),(1001,.whole 901)] (by kernel_rfl) c2 (by simp) (by simp) ⟨⟨kcs x.1,by simp,rfl,qaa rfl (qaX _)⟩,⟨kpt x.2,by simp,rfl,qaa rfl (qbi _)⟩,trivial⟩ (by simp) (by simp) ?_;rintro r' L' ⟨j1,j2,hV,rfl,rfl⟩;simp only[qFT,qF2,or_false,qEj]at hV;obtain⟨rfl,rfl⟩:=hV;refine⟨[(902,902),(903,903)],⟨by simp,by simp,by simp,by simp,by simp⟩,?_⟩;simp only[qad];cases hk:(qeo x l).2 with
   | false =>
    rw[qli hk]at hd2;simp only[qmo]at hd2;subst hd2;simp[lnR];exact⟨[],by simp,.inl ⟨rfl,rfl,rfl⟩⟩
   | true =>
    rw[qlf hk]at hd2;simp[lnR];refine nx (i+1,(qeo x l).1) [(2,2),(4,4),(902,900),(903,901)] ⟨by simp only;omega,hT,by simp only[g3];exact hd2⟩ (by simp only;omega) (h4:=?_);simp[qah,e2,lnR]
 ·rw[if_pos (.inr h2)]at hR;subst hR;have h2':¬ hd=[114,111,111,116]:=h2;simp[show ¬ (420:Int)<t.length by omega,h1,qcu,h2'];exact⟨[],by simp,.inl ⟨rfl,rfl,rfl⟩⟩
def rlL (x:RS2) (i j:Nat):List (Nat×Ob):=[(1000,⟨7,[lnR x i j]⟩),(i,kcs x.1),(j,kpt x.2)]
def rlQ (V:List (Nat×Nat)) (R:RS2×Bool) (r:AV) (L':List (Nat×Ob)):Prop:=∃ i j,(i,j)∈V∧r=.bool R.2∧L'=rlL R.1 i j
theorem qwK {l:List (List UInt8)} (h:l≠[]):∃ w,l[l.length-1]?=some w∧w∈l:=by
 refine⟨l[l.length-1]'(by have:=qEr.2 h;omega),qEv _,qE2 _⟩
theorem qwH {x:RS2} {l:List UInt8} (h2:(qaI 32 l []).length≠2) (h4:(qaI 32 l []).length≠4):qdx x l=(x,false):=by
 unfold qdx;split
 ·rename_i q;rw[q]at h2;simp at h2
 ·rename_i q;rw[q]at h4;simp at h4
 ·rfl
theorem qAf (x:RS2) (l:List UInt8) (hl:l.length≤1000000) (h1:x.1.length≤1000000) (h2:x.2.length≤1000000) :
  ACall prog 180 [.ptr 1000 0 0,.str l] (rlL x 1001 1002) (rlQ [(902,903)] (qdx x l)):=by
 have c1:=qh7 l 32 (by omega);have hw:=qbs 32 l [];simp only[qFJ,qFG]at hw;have key:ACall prog 180 [.ptr 1000 0 0,.str l] (rlL x 1001 1002) (rlQ [(1001,1002),(1001,43),(75,1002)] (qdx x l)):=by
  simp only[rlL];by_cases n2:(qaI 32 l []).length=2
  ·obtain⟨R,hR⟩:∃ R,qdx x l=R:=⟨_,rfl⟩;rw[hR];unfold qdx at hR;obtain⟨a,b,hc⟩:=qnp n2;rw[hc]at hR hw;simp only at hR;have lb:=hw b (by simp);have c2:=qeS b (by omega);simp only[PT.row]at c2;refine acx func180 [(6,[zI 0,zI 1,zI 2,zI 3,zJ 4 [1000] [],zJ 5 [6] [1000],zJ 6 [] [1000],zI 7,zI 8,zI 9,zI 10]),(14,[zI 0,zI 1,zI 2,zI 3,zJ 4 [1000] [],zJ 5 [] [1000],zJ 6 [] [1000],zJ 7 [] [1000],zJ 8 [] [1000],zJ 9 [] [1000],zJ 10 [6] [1000],zJ 11 [] [1000],zJ 12 [] [1000],zI 13,zI 14,zI 15,zI 16])] ntmps180 rfl rfl rfl ?_;simp[lnR];refine c1.call ?_;simp[hc,qcu];refine c2.call ?_;cases hk:(qbP b).2 with
   | false =>
    rw[if_neg (by simp[hk])]at hR;subst hR;simp;exact⟨rlL x 1001 1002,by simp[rlL,lnR],1001,1002,by simp,rfl,rfl⟩
   | true =>
    by_cases ha:a=[46]
    ·rw[if_pos ⟨hk,ha⟩]at hR;subst hR;simp[ha,kpt,PT.row];exact⟨by omega,rlL (x.1,x.2++[(qbP b).1]) 1001 43,by simp[rlL,lnR,kpt,PT.row,qam],1001,43,by simp,rfl,rfl⟩
    ·rw[if_neg fun e=>ha e.2]at hR;subst hR;simp[ha];exact⟨rlL x 1001 1002,by simp[rlL,lnR],1001,1002,by simp,rfl,rfl⟩
  ·by_cases n4:(qaI 32 l []).length=4
   ·obtain⟨R,hR⟩:∃ R,qdx x l=R:=⟨_,rfl⟩;rw[hR];unfold qdx at hR;obtain⟨a,b,c,d,hc⟩:∃ a b c d,qaI 32 l []=[a,b,c,d]:=by
     match hm:qaI 32 l [],n4 with
     | [a,b,c,d],_=>exact⟨a,b,c,d,rfl⟩
    rw[hc]at hR hw;simp only at hR;have lb:=hw b (by simp);have ld:=hw d (by simp);have n1:=qmg b (by omega);have c2:=qeS d (by omega);simp only[PT.row]at c2;refine acx func180 [(6,[zI 0,zI 1,zI 2,zI 3,zJ 4 [1000] [],zJ 5 [6] [1000],zJ 6 [] [1000],zI 7,zI 8,zI 9,zI 10]),(14,[zI 0,zI 1,zI 2,zI 3,zJ 4 [1000] [],zJ 5 [] [1000],zJ 6 [] [1000],zJ 7 [] [1000],zJ 8 [] [1000],zJ 9 [] [1000],zJ 10 [6] [1000],zJ 11 [] [1000],zJ 12 [] [1000],zI 13,zI 14,zI 15,zI 16])] ntmps180 rfl rfl rfl ?_;simp[lnR];refine c1.call ?_;simp[hc,qcu];refine c2.call ?_;cases hk:(qbP d).2 with
    | false =>
     rw[if_neg (by simp[hk])]at hR;subst hR;simp;exact⟨rlL x 1001 1002,by simp[rlL,lnR],1001,1002,by simp,rfl,rfl⟩
    | true =>
     rw[if_pos hk]at hR;simp;refine n1.call ?_;simp[PT.row];have hrow:∀ fr:List UInt8,CS.row (mkS a (qaG b) fr (qbP d).1)=[.str a,.int .i64 (qaG b),.str fr,.int .i64 0,.int .i64 0,.int .i64 0,.int .i64 0,.int .i64 0,.int .i64 0,.int .i64 0,.int .i64 0,.int .i64 0,.int .i64 0,.int .i64 0,.int .i64 0,.int .i64 0,.int .i64 0,.int .i64 0,.int .i64 0,.int .i64 0,.int .i64 0,.int .i64 0,.int .i64 0,.int .i64 0,.int .i64 0,.int .i64 0,.int .i64 0,.int .i64 (qbP d).1.pa,.int .i64 (qbP d).1.ps,.int .i64 (qbP d).1.pb,.bool false]:=fun fr=>by
      simp[CS.row,mkS,z8,zPT,PT.row,List.replicate]
     subst hR;by_cases hq:c=[45]
     ·have hf:frR c=[]:=by unfold frR;rw[if_pos hq]
      rw[hf];cases hk2:qbC b with
      | false =>
       simp[hq,kcs,qhO];exact⟨by omega,rlL (x.1++[mkS a (qaG b) [] (qbP d).1],x.2) 75 1002,by simp[rlL,lnR,kcs,hrow,qam],75,1002,by simp,rfl,rfl⟩
      | true =>
       simp[hq,kcs,qhO];exact⟨by omega,rlL (x.1++[mkS a (qaG b) [] (qbP d).1],x.2) 75 1002,by simp[rlL,lnR,kcs,hrow,qam],75,1002,by simp,rfl,rfl⟩
     ·have hf:frR c=c:=by unfold frR;rw[if_neg hq]
      rw[hf];cases hk2:qbC b with
      | false =>
       simp[hq,kcs,qhO];exact⟨by omega,rlL (x.1++[mkS a (qaG b) c (qbP d).1],x.2) 75 1002,by simp[rlL,lnR,kcs,hrow,qam],75,1002,by simp,rfl,rfl⟩
      | true =>
       simp[hq,kcs,qhO];exact⟨by omega,rlL (x.1++[mkS a (qaG b) c (qbP d).1],x.2) 75 1002,by simp[rlL,lnR,kcs,hrow,qam],75,1002,by simp,rfl,rfl⟩
   ·rw[qwH n2 n4];obtain⟨w,w1,w2⟩:=qwK (qm9 32 l []);have c2:=qeS w (by have:=hw w w2;omega);have hp:=qkK 32 l [];have hnum:=qdk 32 l [];have e1:=qak (((qaI 32 l []).length:Int)-1) (by omega) (by omega);have e2:(((qaI 32 l []).length:Int)-1).toNat=(qaI 32 l []).length-1:=by omega
    have w0:(qaI 32 l [])[(qaI 32 l []).length-1]'(by omega)=w:=(qE1.1 w1).2;refine acx func180 [(6,[zI 0,zI 1,zI 2,zI 3,zJ 4 [1000] [],zJ 5 [6] [1000],zJ 6 [] [1000],zI 7,zI 8,zI 9,zI 10]),(14,[zI 0,zI 1,zI 2,zI 3,zJ 4 [1000] [],zJ 5 [] [1000],zJ 6 [] [1000],zJ 7 [] [1000],zJ 8 [] [1000],zJ 9 [] [1000],zJ 10 [6] [1000],zJ 11 [] [1000],zJ 12 [] [1000],zI 13,zI 14,zI 15,zI 16])] ntmps180 rfl rfl rfl ?_;simp[lnR];refine c1.call ?_;simp[qcu,e1,e2,w0,w1];refine⟨⟨by omega,by omega⟩,?_⟩;refine c2.call ?_;cases hk:(qbP w).2 with
    | false =>
     simp;exact⟨rlL x 1001 1002,by simp[rlL,lnR],1001,1002,by simp,rfl,rfl⟩
    | true =>
     simp[n2,n4,show ¬ ((qaI 32 l []).length:Int)=2 by omega,show ¬ ((qaI 32 l []).length:Int)=4 by omega];exact⟨rlL x 1001 1002,by simp[rlL,lnR],1001,1002,by simp,rfl,rfl⟩
 refine key.can ?_;rintro r L' ⟨i,j,hV,rfl,rfl⟩;simp only[qFT,qF2,or_false,qEj]at hV;rcases hV with⟨rfl,rfl⟩ | ⟨rfl,rfl⟩ | ⟨rfl,rfl⟩
 ·exact⟨[(1000,1000),(1001,902),(1002,903)],by simp[rlL],by simp,by simp[rlL],by simp,902,903,by simp,by simp,by simp[qah,rlL,lnR]⟩
 ·exact⟨[(1000,1000),(1001,902),(43,903)],by simp[rlL],by simp,by simp[rlL],by simp,902,903,by simp,by simp,by simp[qah,rlL,lnR]⟩
 ·exact⟨[(1000,1000),(75,902),(1002,903)],by simp[rlL],by simp,by simp[rlL],by simp,902,903,by simp,by simp,by simp[qah,rlL,lnR]⟩
theorem qwI {n:Nat} {x:RS2} (h:rdT n x) {l:List UInt8} (hl:l.length≤1000):rdT (n+1) (qdx x l).1:=by
 have hw:=qbs 32 l [];simp only[qFJ,qFG]at hw;have h0:rdT (n+1) x:=⟨by have:=h.1;omega,by have:=h.2.1;omega,h.2.2⟩;unfold qdx;split
 ·split
  ·exact⟨by have:=h.1;simp only;omega,by have:=h.2.1;simp;omega,h.2.2⟩
  ·exact h0
 ·rename_i a b c d hc;rw[hc]at hw;have la:=hw a (by simp);have lc:=hw c (by simp);split
  ·exact qqH h _ _ (by omega) (by omega)
  ·exact h0
 ·exact h0
theorem qo4 (t:List UInt8) (hl:t.length≤1000000):ACall prog 87 [.str t] [] (rtQ 900 901 (qhc t)):=by
 obtain⟨R,hR⟩:∃ R,qhc t=R:=⟨_,rfl⟩;rw[hR];have c1:=qh7 t 10 (by omega);have hw:=qbs 10 t [];have hnum:=qdk 10 t [];simp only[qFJ,qFG]at hw;obtain⟨hd,ls,hc⟩:=ql8 10 t;refine acx func87 [] ntmps87 rfl rfl rfl ?_;by_cases h1:420<t.length
 ·have:R=(zK,false):=by
   rw[← hR];unfold qhc;rw[if_pos (.inl h1)]
  subst this;simp[show(420:Int)<t.length by omega,h1];exact⟨[],by simp,.inl ⟨rfl,rfl,rfl⟩⟩
 rw[qzd h1,hc,qG4]at hR;rw[hc]at hw hnum c1;simp[show ¬ (420:Int)<t.length by omega,h1];refine c1.call ?_;simp[qcu];refine qeX ((qeH 900 31 (by simp)).trans ((qdp 5 1 (sz:=7) (row:=[.int .i64 0,.nils,.nils,.nils,.bool false,.nils,.int .i64 0]) (by simp) (by simp) (qcH 900 0)).trans
   ((qeH 901 3 (by simp)).trans (qdp 5 3 (sz:=7) (row:=[.int .i64 0,.sl 900 0 0,.nils,.nils,.bool false,.nils,.int .i64 0]) (by simp) (by simp) (qcH 901 0))))) ?_
 refine qbl (X:=Nat×RS2) [0,2,3,5,15,16,17] [(2,2),(5,5),(900,900),(901,901)] (fun x=>[(17,.int .i64 x.1)]) (fun x=>[(2,⟨7,[[.int .i64 0,.nils,.nils,.nils,.bool false,.nils,.int .i64 0]]⟩),(5,⟨7,[lnR x.2 900 901]⟩),(900,kcs x.2.1),(901,kpt x.2.2)]) (fun x=>ls.length-x.1)
  (fun x=>x.1≤ls.length∧rdT x.1 x.2∧qmo t (qe6 qdx (ls.drop x.1) x.2)=R) (0,([],[])) ⟨by omega,⟨by simp,by simp,by simp⟩,hR⟩ ?_ (he:=by simp[qah,lnR,kcs,kpt])
 rintro⟨i,x⟩ ⟨hi,hx,hd2⟩;simp only at hi hx hd2;cases hr:ls.drop i with
 | nil =>
  have:=qa0 hr;have hie:i=ls.length:=by omega
  subst hie;rw[hr]at hd2;simp only[qe6,qmo]at hd2;have hT:=qnJ hx (by simp at hnum;omega);have c2:=qrj (qba x) hT;have c3:=qrA (qba x) (by have:=hx.1;simp only[qba];simp at hnum;omega) hT.m8;have c4:=qhu (qsV ((qba x).sets.map csB) ▸ qkn ((qba x).sets.map csB) (by have:=hx.1;simp[qba];simp at hnum;omega) (fun b hb=>by
   obtain⟨s,hs,rfl⟩:=qEW.1 hb;simp[csB]) (fun b hb=>by
   obtain⟨s,hs,rfl⟩:=qEW.1 hb;have:=hx.2.2 s hs;simp[csB];omega)) (hca:=by simp[bk])
  rw[ql9]at c2 c3;by_cases q8:x.2.length≤8
  ·simp[lnR,show ¬ (8:Int)<x.2.length by omega,show ¬ 8<x.2.length by omega,q8,show(x.2.length:Int)≤8 by omega];refine qaO [] (by kernel_rfl) c3 (by simp[qb1,mtA,kcs,kpt,qam,qa5]) (by simp) trivial (by simp) (by simp) ?_;rintro r L' ⟨rfl,rfl⟩;refine⟨by simp[noL],by simp[qbB,qn0],[(900,32)],⟨by simp,by simp,by simp,by simp,by simp⟩,?_⟩;simp only[qad];have htk:List.take x.1.length (List.map (BS.row ∘ csB) x.1)=List.map (BS.row ∘ csB) x.1:=qEK (by simp);simp only[bk,qba,qE3]at c4;simp;refine c4.view (by simp[qb1,mtA,qbB,qba,htk]) ?_;cases hb:qbd (List.map csB x.1)with
   | false =>
    have ha:qhW t x=false:=by simp[qhW,hb]
    rw[if_neg (by simp[ha])]at hd2;subst hd2;simp;exact⟨[],by simp,.inl ⟨rfl,rfl,rfl⟩⟩
   | true =>
    simp;refine c2.view (by simp[qb1,mtA,kcs,kpt,qam,qa5]) ?_;by_cases q1:qaA (qba x)=t
    ·have ha:qhW t x=true:=by simp[qhW,hb,q8,q1]
     rw[if_pos ha]at hd2;subst hd2;simp[q1];exact⟨[(900,kcs x.1),(901,kpt x.2)],by simp[qah],.inr ⟨x,rfl,by simp[lnR],rfl⟩⟩
    ·have ha:qhW t x=false:=by simp[qhW,q1]
     rw[if_neg (by simp[ha])]at hd2;subst hd2;simp[q1];exact⟨[],by simp,.inl ⟨rfl,rfl,rfl⟩⟩
  ·have ha:qhW t x=false:=by simp[qhW,q8]
   rw[if_neg (by simp[ha])]at hd2;subst hd2;simp[lnR,show(8:Int)<x.2.length by omega,show 8<x.2.length by omega,q8,show ¬ (x.2.length:Int)≤8 by omega];exact⟨[],by simp,.inl ⟨rfl,rfl,rfl⟩⟩
 | cons l r =>
  obtain⟨g1,e0,e1,g3⟩:=qa1 hr;have hwl:=hw l (by simp[qGk e1]);have c2:=qAf x l (by omega) (by have:=hx.1;simp at hnum;omega) (by have:=hx.2.1;simp at hnum;omega);have hT:=qwI hx (l:=l) (by omega);have e2:=qak ((i:Int)+1) (by simp at hnum;omega) (by simp at hnum;omega);rw[hr]at hd2;simp only[rlL,lnR]at c2;simp[lnR,g1,e0,e1,qcu];refine qac [(1000,.whole 5),(1001,.whole 900),(1002,.whole 901)] (by kernel_rfl) c2 (by simp) (by simp) (by simp;exact⟨.inr ⟨_,_,rfl,rfl,by simp⟩,qaa rfl (qaX _),qaa rfl (qbi _)⟩) (by simp) (by simp) ?_;rintro r' L' ⟨j1,j2,hV,rfl,rfl⟩;simp only[qFT,qF2,or_false,qEj]at hV;obtain⟨rfl,rfl⟩:=hV;refine⟨[(902,902),(903,903)],⟨by simp[rlL],by simp,by simp,by simp[rlL],by simp[rlL]⟩,?_⟩;simp only[qad];cases hk:(qdx x l).2 with
  | false =>
   rw[qli hk]at hd2;simp only[qmo]at hd2;subst hd2;simp[rlL,lnR];exact⟨[],by simp,.inl ⟨rfl,rfl,rfl⟩⟩
  | true =>
   rw[qlf hk]at hd2;simp[rlL,lnR];refine nx (i+1,(qdx x l).1) [(2,2),(5,5),(902,900),(903,901)] ⟨by simp only;omega,hT,by simp only[g3];exact hd2⟩ (by simp only;omega) (h4:=?_);simp[qah,e2,lnR]
theorem qrk (d:DK) (h:DkT d) (side at':Int):CV prog 171 [.agg d.row,.int .i64 side,.int .i64 at'] (.tup [.str (qbI d side at').1,.bool (qbI d side at').2]):=by
 have c1:=qhK d h;have c2:=qhJ d h side at';have hse:qa6 d side at' []=qmw d.s0.length side at':=by simp[qa6,qmw]
 unfold qbI;rw[hse];simp only[DK.row]at c1 c2;refine cvx func171 [] ntmps171 rfl rfl rfl ?_ (hca:=by simp[DK.row]);simp[DK.row];refine c1.call ?_;cases g1:qbu d with
 | false=>simp
 | true =>
  simp;refine c2.call ?_;cases g2:qmw d.s0.length side at' with
  | false=>simp
  | true =>
   obtain⟨n1,n2,n3⟩:=thereB_iff.1 (hse.trans g2);have c3:=qri d h side at' n1 n2 (qbO g1).2.2.1;simp only[DK.row]at c3;simp;refine c3.call ?_;simp
theorem qeb (d:DK) (side at':Int):(qbI d side at').1.length≤420:=by
 unfold qbI;split
 ·rename_i h;simp only[Bool.and_eq_true]at h;exact qeM h.1 side at'
 ·simp
def qjr (d:DK) (b:Int×PT) (at' side:Int):Int×PT:=if (qmj (qbI d side at').1).2=true∧b.1<(qmj (qbI d side at').1).1.1 then (qmj (qbI d side at').1).1 else b
def rbN (d:DK):Nat→Int×PT
 | 0=>(0,zPT)
 | i+1=>qjr d (qjr d (rbN d i) (i+1) 0) (i+1) 1
def rbI (d:DK) (i j:Nat):Int×PT:=if j=0 then rbN d i else if j=1 then qjr d (rbN d i) (i+1) 0 else rbN d (i+1)
theorem qnK (d:DK) (i j:Nat) (hj:j<2):rbI d i (j+1)=qjr d (rbI d i j) ((i:Int)+1) j:=by
 have:j=0∨j=1:=by omega
 rcases this with rfl | rfl
 ·rfl
 ·rfl
def rbB (d:DK):Int×PT:=rbN d 4
theorem qzc (d:DK) (h:DkT d):CV prog 30 [.agg d.row] (.tup [.int .i64 (rbB d).1,.agg (rbB d).2.row,.bool (decide (0<(rbB d).1))]):=by
 refine cvx func30 [(14,[zI 0,zJ 1 [6] [],zJ 2 [] [6],zJ 3 [] [6],zJ 4 [] [6],zI 5,zI 6])] ntmps30 rfl rfl rfl ?_ (hca:=by simp[DK.row]) (hcv:=by simp[PT.row]);simp[DK.row];refine qbl (X:=Nat) [1,2,3,4,5,6,7] [(1,1),(3,3),(6,6)] (fun i=>[(5,.int .i64 (rbN d i).1),(7,.int .i64 (i+1))]) (fun i=>[(1,⟨3,[d.row]⟩),(3,⟨3,[zPT.row]⟩),(6,⟨3,[(rbN d i).2.row]⟩)]) (fun i=>4-i) (fun i=>i≤4) 0 (by simp) ?_ (he:=by simp[qah,DK.row,zPT,PT.row,rbN]);rintro i hi;by_cases h4:i<4
 ·have e2:=qak ((i:Int)+1+1) (by omega) (by omega);simp[show(i:Int)+1<5 by omega,DK.row,PT.row];refine qbl (X:=Nat) [1,2,3,4,5,6,7,8] [(1,1),(3,3),(6,6)] (fun j=>[(5,.int .i64 (rbI d i j).1),(8,.int .i64 j)]) (fun j=>[(1,⟨3,[d.row]⟩),(3,⟨3,[zPT.row]⟩),(6,⟨3,[(rbI d i j).2.row]⟩)]) (fun j=>2-j) (fun j=>j≤2) 0 (by simp) ?_ (he:=by simp[qah,DK.row,zPT,PT.row,rbI]);rintro j hj;by_cases h2:j<2
  ·have e3:=qak ((j:Int)+1) (by omega) (by omega);have c1:=qnz d h j ((i:Int)+1);have hl:=qeb d j ((i:Int)+1);have c2:=qoK (qbI d j ((i:Int)+1)).1 (by omega);have hst:=qnK d i j h2;unfold qjr at hst;simp only[DK.row]at c1;simp only[PT.row]at c2;simp[show(j:Int)<2 by omega,h2,DK.row,PT.row];refine c1.call ?_;simp;refine c2.call ?_;generalize qmj (qbI d j ((i:Int)+1)).1=u at *
   obtain⟨⟨un,up⟩,uk⟩:=u;simp only at hst;cases uk with
   | false =>
    rw[if_neg (by simp)]at hst;simp[PT.row];refine nx (j+1) [(1,1),(3,3),(6,6)] (by omega) (h4:=?_);simp[qah,e3,hst,DK.row,zPT,PT.row]
   | true =>
    by_cases q:(rbI d i j).1<un
    ·rw[if_pos ⟨rfl,q⟩]at hst;simp[q,PT.row];refine nx (j+1) [(1,1),(3,3),(6,6)] (by omega) (h4:=?_);simp[qah,e3,hst,DK.row,zPT,PT.row]
    ·rw[if_neg fun e=>q e.2]at hst;simp[q,PT.row];refine nx (j+1) [(1,1),(3,3),(6,6)] (by omega) (h4:=?_);simp[qah,e3,hst,DK.row,zPT,PT.row]
  ·have hje:j=2:=by omega
   subst hje;simp[DK.row,PT.row];refine nx (i+1) [(1,1),(3,3),(6,6)] (by omega) (h4:=?_);simp[qah,e2,rbI,DK.row,zPT,PT.row]
 ·have hie:i=4:=by omega
  subst hie;simp[DK.row,PT.row,rbB]
  first
   | rfl
   | congr
theorem qAk (d:DK) (h:DkT d):CV prog 85 [.agg d.row] (.tup [.int .i64 (rbB d).1,.agg (rbB d).2.row,.bool (decide (0<(rbB d).1))]):=by
 refine cvx func85 [(11,[zI 0,zJ 1 [12] [],zJ 2 [] [12],zI 3]),(14,[zI 0,zJ 1 [6] [],zJ 2 [] [6],zJ 3 [] [6],zJ 4 [] [6],zI 5,zI 6])] ntmps85 rfl rfl rfl ?_ (hca:=by simp[DK.row]) (hcv:=by simp[PT.row]);simp[DK.row];refine qbl (X:=Nat) [1,2,3,4,5,6,15] [(1,1),(3,3),(6,6)] (fun i=>[(5,.int .i64 (rbN d i).1),(15,.int .i64 i)]) (fun i=>[(1,⟨3,[d.row]⟩),(3,⟨3,[zPT.row]⟩),(6,⟨3,[(rbN d i).2.row]⟩)]) (fun i=>4-i) (fun i=>i≤4) 0 (by simp) ?_ (he:=by simp[qah,DK.row,zPT,PT.row,rbN]);rintro i hi;by_cases h4:i<4
 ·have e2:=qak ((i:Int)+1) (by omega) (by omega);have e4:IntKind.i64.wrap (1+(i:Int))=(i:Int)+1:=by rw[qak _ (by omega) (by omega)];omega
  simp[show(i:Int)<4 by omega,h4,DK.row,PT.row];refine qbl (X:=Nat) [1,2,3,4,5,6,7,15,18] [(1,1),(3,3),(6,6)] (fun j=>[(5,.int .i64 (rbI d i j).1),(18,.int .i64 j)]) (fun j=>[(1,⟨3,[d.row]⟩),(3,⟨3,[zPT.row]⟩),(6,⟨3,[(rbI d i j).2.row]⟩)]) (fun j=>2-j) (fun j=>j≤2) 0 (by simp) ?_ (he:=by simp[qah,DK.row,zPT,PT.row,rbI]);rintro j hj;by_cases h2:j<2
  ·have e3:=qak ((j:Int)+1) (by omega) (by omega);have c1:=qrk d h j ((i:Int)+1);have hl:=qeb d j ((i:Int)+1);have c2:=qo3 (qbI d j ((i:Int)+1)).1 (by omega);have hst:=qnK d i j h2;unfold qjr at hst;simp only[DK.row]at c1;simp only[PT.row]at c2;simp[show(j:Int)<2 by omega,h2,e4,DK.row,PT.row];refine c1.call ?_;simp;refine c2.call ?_;generalize qmj (qbI d j ((i:Int)+1)).1=u at *
   obtain⟨⟨un,up⟩,uk⟩:=u;simp only at hst;cases uk with
   | false =>
    rw[if_neg (by simp)]at hst;simp[PT.row];refine nx (j+1) [(1,1),(3,3),(6,6)] (by omega) (h4:=?_);simp[qah,e3,hst,DK.row,zPT,PT.row]
   | true =>
    by_cases q:(rbI d i j).1<un
    ·rw[if_pos ⟨rfl,q⟩]at hst;simp[q,PT.row];refine nx (j+1) [(1,1),(3,3),(6,6)] (by omega) (h4:=?_);simp[qah,e3,hst,DK.row,zPT,PT.row]
    ·rw[if_neg fun e=>q e.2]at hst;simp[q,PT.row];refine nx (j+1) [(1,1),(3,3),(6,6)] (by omega) (h4:=?_);simp[qah,e3,hst,DK.row,zPT,PT.row]
  ·have hje:j=2:=by omega
   subst hje;simp[DK.row,PT.row];refine nx (i+1) [(1,1),(3,3),(6,6)] (by omega) (h4:=?_);simp[qah,e2,rbI,DK.row,zPT,PT.row]
 ·have hie:i=4:=by omega
  subst hie;simp[DK.row,PT.row,rbB]
  first
   | rfl
   | congr
def qhg (l:List BO):Ob:=⟨5,l.map BO.row⟩
theorem qtI (l:List BO):clR (qhg l).els=true:=by simp[clR,qhg,BO.row]
def qeE (d:DK) (i:Nat) (side:Int):LR×Bool:=qkX (qbI d side (5+(i:Int))).1
def qeF (d:DK) (txg:Int) (i:Nat) (side:Int):Bool:=(qeE d i side).2 && decide ((qeE d i side).1.txg=txg) && decide ((qeE d i side).1.seq=i)
def qpx (d:DK) (txg:Int) (i:Nat):Option BO:=if qeF d txg i 0=true then some (qeE d i 0).1.op else if qeF d txg i 1=true then some (qeE d i 1).1.op else none
def tkS:List (Option BO)→List BO
 | some o::r=>o::tkS r
 | _=>[]
def lfF (d:DK) (txg:Int) (k i:Nat):List BO:=tkS ((List.range' i k).map (qpx d txg))
theorem qzY (d:DK) (txg:Int) (i:Nat):lfF d txg 0 i=[]:=by simp[lfF,tkS]
@[simp] theorem qCl (ρ:Nat→Option Plc):qci ρ ∘ BO.row=BO.row:=by
 funext o
 simp[BO.row]
theorem qzX (d:DK) (txg:Int) (k i:Nat):lfF d txg (k+1) i=match qpx d txg i with
  | some o=>o::lfF d txg k (i+1)
  | none=>[]:=by
 simp only[lfF,List.range'_succ,qEV];generalize qpx d txg i=x;cases x <;> rfl
theorem qgE (d:DK) (i:Nat) (side:Int):qeE d i side=qkX (qbI d side (5+(i:Int))).1:=rfl
theorem qfG (d:DK) (txg:Int) (i:Nat) (side:Int):qeF d txg i side=((qeE d i side).2 && decide ((qeE d i side).1.txg=txg) && decide ((qeE d i side).1.seq=i)):=rfl
theorem qmD (d:DK) (txg:Int) (i:Nat):qpx d txg i=if qeF d txg i 0=true then some (qeE d i 0).1.op else if qeF d txg i 1=true then some (qeE d i 1).1.op else none:=rfl
theorem qur (d:DK) (txg:Int) (k i:Nat):lfF d txg k i=tkS ((List.range' i k).map (qpx d txg)):=rfl
attribute [irreducible] lfF qpx qeF qeE
def lfB (d:DK) (txg:Int):List BO:=lfF d txg 8 0
theorem qzW {f:Nat} {args:List AV} {R:List BO} (h:ACall prog f args [] (fun r L'=>(R=[]∧r=.nils∧L'=[])∨(r=.sl 900 0 R.length∧L'=[(900,qhg R)]))) (he:qb5 prog f=true) (ha:clL args=true):CV prog f args (.lst 5 (R.map BO.row)):=by
 refine CV.of_frz h ?_ (he:=he) (hca:=ha) (hcv:=by simp[BO.row]);rintro r L' (⟨rfl,rfl,rfl⟩ | ⟨rfl,rfl⟩)
 ·refine⟨by simp,by simp,by simp,?_⟩;simp only[qbj,qF8];exact qa9 5
 ·refine⟨by simp,by simp,fun x hx=>by simp only[qG0]at hx;subst hx;exact qtI _,?_⟩;simp[qbj,qhg,qam]
theorem qCb (d:DK) (h:DkT d) (txg:Int) (i:Nat) (hi:i<8):CV prog 202 [.agg d.row,.int .i64 txg,.int .i64 i] (.tup [.agg ((qpx d txg i).getD zBO).row,.bool (qpx d txg i).isSome]):=by
 obtain⟨R,hR⟩:∃ R,qpx d txg i=R:=⟨_,rfl⟩;rw[hR];rw[qmD]at hR;have e1:=qak (5+(i:Int)) (by omega) (by omega);refine cvx func202 [] ntmps202 rfl rfl rfl ?_ (hca:=by simp[DK.row]) (hcv:=by simp[BO.row]);simp[DK.row];refine qbl (X:=Nat) [1,2,3,6,7,8] [(3,3),(6,6)] (fun j=>[(8,.int .i64 j)]) (fun j=>[(3,⟨3,[d.row]⟩),(6,⟨5,[zBO.row]⟩)]) (fun j=>2-j) (fun j=>j=0∨(j=1∧qeF d txg i 0=false)∨(j=2∧qeF d txg i 0=false∧qeF d txg i 1=false)) 0 (.inl rfl) ?_ (he:=by simp[qah,DK.row,zBO,BO.row]);have body:∀ side:Int,(qeE d i side).2=true→(qeE d i side).1.txg=txg→(qeE d i side).1.seq=i→qeF d txg i side=true:=fun side a b c=>by rw[qfG];simp[a,b,c]
 rintro j (rfl | ⟨rfl,q0⟩ | ⟨rfl,q0,q1⟩)
 ·have c1:=qnz d h 0 (5+(i:Int));have hl:=qeb d 0 (5+(i:Int));have c2:=qld (qbI d 0 (5+(i:Int))).1 (by omega);have hh:qeF d txg i 0=((qeE d i 0).2 && decide ((qeE d i 0).1.txg=txg) && decide ((qeE d i 0).1.seq=i)):=qfG d txg i 0;simp only[DK.row]at c1;simp only[LR.row,BO.row]at c2;simp[DK.row,e1];refine c1.call ?_;simp;refine c2.call ?_;rw[← qgE];generalize qeE d i 0=u at *
  obtain⟨⟨ut,us,uo⟩,uk⟩:=u;simp only at hh hR;cases uk with
  | false =>
   have hf:qeF d txg i 0=false:=by simpa using hh
   simp;exact nx 1 [(3,3),(6,6)] (by simp[hf]) (h4:=by simp[qah,DK.row,zBO,BO.row])
  | true =>
   by_cases a:ut=txg
   ·by_cases b:us=i
    ·have ht:qeF d txg i 0=true:=by simp[hh,a,b]
     rw[if_pos ht]at hR;subst hR;simp[a,b,BO.row]
    ·have hf:qeF d txg i 0=false:=by simp[hh,b]
     simp[a,b];exact nx 1 [(3,3),(6,6)] (by simp[hf]) (h4:=by simp[qah,DK.row,zBO,BO.row])
   ·have hf:qeF d txg i 0=false:=by simp[hh,a]
    simp[a];exact nx 1 [(3,3),(6,6)] (by simp[hf]) (h4:=by simp[qah,DK.row,zBO,BO.row])
 ·rw[if_neg (by simp[q0])]at hR;have c1:=qnz d h 1 (5+(i:Int));have hl:=qeb d 1 (5+(i:Int));have c2:=qld (qbI d 1 (5+(i:Int))).1 (by omega);have hh:qeF d txg i 1=((qeE d i 1).2 && decide ((qeE d i 1).1.txg=txg) && decide ((qeE d i 1).1.seq=i)):=qfG d txg i 1;simp only[DK.row]at c1;simp only[LR.row,BO.row]at c2;simp[DK.row,e1];refine c1.call ?_;simp;refine c2.call ?_;rw[← qgE];generalize qeE d i 1=u at *
  obtain⟨⟨ut,us,uo⟩,uk⟩:=u;simp only at hh hR;cases uk with
  | false =>
   have hf:qeF d txg i 1=false:=by simpa using hh
   simp;exact nx 2 [(3,3),(6,6)] (by simp[hf,q0]) (h4:=by simp[qah,DK.row,zBO,BO.row])
  | true =>
   by_cases a:ut=txg
   ·by_cases b:us=i
    ·have ht:qeF d txg i 1=true:=by simp[hh,a,b]
     rw[if_pos ht]at hR;subst hR;simp[a,b,BO.row]
    ·have hf:qeF d txg i 1=false:=by simp[hh,b]
     simp[a,b];exact nx 2 [(3,3),(6,6)] (by simp[hf,q0]) (h4:=by simp[qah,DK.row,zBO,BO.row])
   ·have hf:qeF d txg i 1=false:=by simp[hh,a]
    simp[a];exact nx 2 [(3,3),(6,6)] (by simp[hf,q0]) (h4:=by simp[qah,DK.row,zBO,BO.row])
 ·rw[if_neg (by simp[q0]),if_neg (by simp[q1])]at hR;subst hR;simp[zBO,BO.row]
theorem qql (d:DK) (h:DkT d) (txg:Int):CV prog 99 [.agg d.row,.int .i64 txg] (.lst 5 ((lfB d txg).map BO.row)):=by
 refine qzW ?_ (by kernel_rfl) (by simp[DK.row]);obtain⟨R,hR⟩:∃ R,lfB d txg=R:=⟨_,rfl⟩;rw[hR];unfold lfB at hR;refine acx func99 [] ntmps99 rfl rfl rfl ?_;simp[DK.row];refine qbl (X:=Nat×List BO) [1,2,4,5,6] [(2,2),(9,900)] (fun x=>[(5,.sl 900 0 x.2.length),(6,.int .i64 x.1)]) (fun x=>[(2,⟨3,[d.row]⟩),(900,qhg x.2)]) (fun x=>8-x.1) (fun x=>x.1≤8∧x.2.length=x.1∧x.2++lfF d txg (8-x.1) x.1=R) (0,[]) (by simp[hR]) ?_ (he:=by simp[qah,qhg,DK.row]);rintro⟨i,acc⟩ ⟨hi,ha,hd⟩;simp only at hi ha hd;by_cases h8:i<8
 ·have e2:=qak ((i:Int)+1) (by omega) (by omega);have c1:=qCb d h txg i h8;rw[show 8-i=(8-(i+1))+1 by omega,qzX]at hd;simp only[DK.row]at c1;simp[show(i:Int)<8 by omega,h8,DK.row];refine c1.call ?_;cases hr:qpx d txg i with
  | none =>
   rw[hr]at hd;simp only[qGx]at hd;subst hd;simp[BO.row]
  | some o =>
   rw[hr]at hd;simp only at hd;simp[BO.row,qhg];refine⟨by omega,nx (i+1,acc++[o]) [(2,2),(27,900)] ⟨by simp only;omega,by simp[ha],by simp only;rw[List.append_assoc];exact hd⟩ (by simp only;omega) (h4:=?_)⟩;simp[qah,e2,qhg,DK.row,qam,BO.row]
 ·have hie:i=8:=by omega
  subst hie;simp only[Nat.sub_self,qzY,qGx]at hd;subst hd;simp
def lfI (d:DK) (txg:Int) (i j:Nat):Option BO:=if j=0 then none else if j=1 then (if qeF d txg i 0=true then some (qeE d i 0).1.op else none) else qpx d txg i
theorem qrq (d:DK) (h:DkT d) (txg:Int):CV prog 106 [.agg d.row,.int .i64 txg] (.lst 5 ((lfB d txg).map BO.row)):=by
 refine qzW ?_ (by kernel_rfl) (by simp[DK.row]);obtain⟨R,hR⟩:∃ R,lfB d txg=R:=⟨_,rfl⟩;rw[hR];unfold lfB at hR;refine acx func106 [] ntmps106 rfl rfl rfl ?_;simp[DK.row];refine qeX (qjT 5 5 (by simp) (by simp)) ?_;refine qbl (X:=Nat×List BO) [1,2,4,5,13] [(2,2),(5,900)] (fun x=>[(5,.sl 900 0 x.2.length),(13,.int .i64 x.1)]) (fun x=>[(2,⟨3,[d.row]⟩),(900,qhg x.2)]) (fun x=>8-x.1) (fun x=>x.1≤8∧x.2.length=x.1∧x.2++lfF d txg (8-x.1) x.1=R) (0,[]) (by simp[hR]) ?_ (he:=by simp[qah,qhg,DK.row]);rintro⟨i,acc⟩ ⟨hi,ha,hd⟩;simp only at hi ha hd;by_cases h8:i<8
 ·have e2:=qak ((i:Int)+1) (by omega) (by omega);have e1:=qak (5+(i:Int)) (by omega) (by omega);rw[show 8-i=(8-(i+1))+1 by omega,qzX]at hd;simp[show(i:Int)<8 by omega,h8,DK.row];refine qbl (X:=Nat) [1,2,4,5,6,7,13,16] [(2,2),(900,900)] (fun j=>[(5,.sl 900 0 (acc++(lfI d txg i j).toList).length),(7,.bool (lfI d txg i j).isSome),(16,.int .i64 j)]) (fun j=>[(2,⟨3,[d.row]⟩),(900,qhg (acc++(lfI d txg i j).toList))]) (fun j=>2-j) (fun j=>j≤2) 0 (by simp) ?_ (he:=by simp[qah,qhg,DK.row,lfI]);rintro j hj;have hjj:j=0∨j=1∨j=2:=by omega
  rcases hjj with rfl | rfl | rfl
  ·have c1:=qrk d h 0 (5+(i:Int));have hl:=qeb d 0 (5+(i:Int));have c2:=qlI (qbI d 0 (5+(i:Int))).1 (by omega);have hh:qeF d txg i 0=((qeE d i 0).2 && decide ((qeE d i 0).1.txg=txg) && decide ((qeE d i 0).1.seq=i)):=qfG d txg i 0;have h0:lfI d txg i 0=none:=rfl;have h1:lfI d txg i 1=(if qeF d txg i 0=true then some (qeE d i 0).1.op else none):=rfl
   simp only[DK.row]at c1;simp only[LR.row,BO.row]at c2;simp[DK.row,e1,h0];refine c1.call ?_;simp;refine c2.call ?_;rw[← qgE];generalize qeE d i 0=u at *
   obtain⟨⟨ut,us,uo⟩,uk⟩:=u;simp only at hh h1;cases uk with
   | false =>
    have hf:qeF d txg i 0=false:=by simpa using hh
    simp[h0];refine nx 1 [(2,2),(900,900)] (by omega) (h4:=?_);simp[qah,qhg,DK.row,h0,h1,hf,BO.row]
   | true =>
    by_cases a:ut=txg
    ·by_cases b:us=i
     ·have ht:qeF d txg i 0=true:=by simp[hh,a,b]
      simp[h0,a,b,qhg,BO.row];refine⟨by omega,nx 1 [(2,2),(53,900)] (by omega) (h4:=?_)⟩;simp[qah,qhg,DK.row,h0,h1,ht,BO.row,qam]
     ·have hf:qeF d txg i 0=false:=by simp[hh,b]
      simp[h0,a,b];refine nx 1 [(2,2),(900,900)] (by omega) (h4:=?_);simp[qah,qhg,DK.row,h0,h1,hf,BO.row]
    ·have hf:qeF d txg i 0=false:=by simp[hh,a]
     simp[h0,a];refine nx 1 [(2,2),(900,900)] (by omega) (h4:=?_);simp[qah,qhg,DK.row,h0,h1,hf,BO.row]
  ·have c1:=qrk d h 1 (5+(i:Int));have hl:=qeb d 1 (5+(i:Int));have c2:=qlI (qbI d 1 (5+(i:Int))).1 (by omega);have hh:qeF d txg i 1=((qeE d i 1).2 && decide ((qeE d i 1).1.txg=txg) && decide ((qeE d i 1).1.seq=i)):=qfG d txg i 1;have h0:lfI d txg i 1=(if qeF d txg i 0=true then some (qeE d i 0).1.op else none):=rfl
   have h1:lfI d txg i 2=(if qeF d txg i 0=true then some (qeE d i 0).1.op else if qeF d txg i 1=true then some (qeE d i 1).1.op else none):=qmD d txg i
   simp only[DK.row]at c1;simp only[LR.row,BO.row]at c2;simp[DK.row,e1];refine c1.call ?_;simp;refine c2.call ?_;cases g0:qeF d txg i 0 with
   | true =>
    rw[if_pos g0]at h0 h1;cases uk2:(qkX (qbI d 1 (5+(i:Int))).1).2 with
    | false =>
     simp[h0];refine nx 2 [(2,2),(900,900)] (by omega) (h4:=?_);simp[qah,qhg,DK.row,h0,h1,BO.row]
    | true =>
     simp[h0];refine nx 2 [(2,2),(900,900)] (by omega) (h4:=?_);simp[qah,qhg,DK.row,h0,h1,BO.row]
   | false =>
    rw[if_neg (by simp[g0])]at h0 h1;rw[← qgE];generalize qeE d i 1=u at *
    obtain⟨⟨ut,us,uo⟩,uk⟩:=u;simp only at hh h1;cases uk with
    | false =>
     have hf:qeF d txg i 1=false:=by simpa using hh
     simp[h0];refine nx 2 [(2,2),(900,900)] (by omega) (h4:=?_);simp[qah,qhg,DK.row,h0,h1,hf,BO.row]
    | true =>
     by_cases a:ut=txg
     ·by_cases b:us=i
      ·have ht:qeF d txg i 1=true:=by simp[hh,a,b]
       simp[h0,a,b,qhg,BO.row];refine⟨by omega,nx 2 [(2,2),(53,900)] (by omega) (h4:=?_)⟩;simp[qah,qhg,DK.row,h0,h1,ht,BO.row,qam]
      ·have hf:qeF d txg i 1=false:=by simp[hh,b]
       simp[h0,a,b];refine nx 2 [(2,2),(900,900)] (by omega) (h4:=?_);simp[qah,qhg,DK.row,h0,h1,hf,BO.row]
     ·have hf:qeF d txg i 1=false:=by simp[hh,a]
      simp[h0,a];refine nx 2 [(2,2),(900,900)] (by omega) (h4:=?_);simp[qah,qhg,DK.row,h0,h1,hf,BO.row]
  ·simp[DK.row];cases hr:qpx d txg i with
   | none =>
    rw[hr]at hd;simp only[qGx]at hd;subst hd;simp[lfI,hr]
   | some o =>
    rw[hr]at hd;simp only at hd;simp[lfI,hr];refine nx (i+1,acc++[o]) [(2,2),(900,900)] ⟨by simp only;omega,by simp[ha],by simp only;rw[List.append_assoc];exact hd⟩ (by simp only;omega) (h4:=?_);simp[qah,e2,qhg,DK.row,lfI,hr,BO.row]
 ·have hie:i=8:=by omega
  subst hie;simp only[Nat.sub_self,qzY,qGx]at hd;subst hd;simp
def xpP (d:DK) (s:CS):Bool:=decide ((qai d s.home).2=0) && (qeP (qai d s.home).1).2
def xpS (d:DK) (s:CS):CS:={ s with map:=(qeP (qai d s.home).1).1 }
def xpA (d:DK) (l:List CS):Bool:=l.all (xpP d)
def xpN (d:DK) (l:List CS) (i:Nat):List CS:=(l.take i).map (xpS d)++l.drop i
theorem qys (d:DK) (l:List CS):xpN d l 0=l:=by simp[xpN]
theorem qpF (d:DK) (l:List CS) (i:Nat):(xpN d l i).length=l.length:=by
 simp[xpN];omega
theorem qpG (d:DK) (l:List CS):xpN d l l.length=l.map (xpS d):=by simp[xpN]
theorem qtV {d:DK} {l:List CS} {i:Nat} {s:CS} (hs:l[i]?=some s):(xpN d l i)[i]?=some s∧(xpN d l i).set i (xpS d s)=xpN d l (i+1):=by
 have hl:=(qE1.1 hs).1;have hd:l.drop i=s::l.drop (i+1):=by
  have:=(qE1.1 hs).2;rw[← this];exact qEA hl
 have ht:l.take (i+1)=l.take i++[s]:=by
  rw[qGg,hs];rfl
 have hn:((l.take i).map (xpS d)).length=i:=by simp;omega
 constructor
 ·unfold xpN;rw[hd,qES (by omega),hn];simp
 ·unfold xpN;rw[hd,ht,qGv,List.set_append_right _ _ (by omega),hn];simp
theorem qpE (d:DK) (s:CS) (h:s.map.length=8) (L:List AV) (hL:L=(qeP (qai d s.home).1).1.flatMap PT.row):List.take 3 s.row++(L++List.drop 27 s.row)=(xpS d s).row:=by
 subst hL;obtain⟨n,k,f,m,hm,b⟩:=s;simp only at h;have h24:(m.flatMap PT.row).length=24:=by rw[qkr,h]
 simp only[CS.row,xpS]
 congr 1
 rw[show(27:Nat)=24+3 by rfl];simp only[List.drop_succ_cons];rw[qFK (by omega),qGd (by omega)];simp
theorem qcW (d:DK) (p:PT):(qai d p).1.length≤420:=by
 unfold qai;split
 ·simp
 ·split
  ·rename_i h;exact qeM (qdq h).1 _ _
  ·split
   ·rename_i h;exact qeM (qdq h).1 _ _
   ·simp
theorem qqK {l:List PT} (h:l.length=8):(List.map (fun a:PT=>3) l).sum=24:=by
 have:=qkr l;rw[qHf,h]at this;exact this
theorem qqL (l:List PT):∀ x∈l.flatMap PT.row,qdg x=true:=fun x hx=>by
 obtain⟨p,_,hp⟩:=qGQ.1 hx;simp only[PT.row,qFT,qF2,or_false]at hp;rcases hp with rfl | rfl | rfl <;> rfl
theorem qnl {d:DK} {l:List CS} {i:Nat} {s:CS} (hs:l[i]?=some s) (h:xpA d (l.take i)=true) (h2:xpP d s=true):xpA d (l.take (i+1))=true:=by
 rw[qGg,hs];unfold xpA at *
 rw[qGJ,h];simp[h2]
theorem qtW {d:DK} {l:List CS} {s:CS} (hs:s∈l) (h:xpP d s=false):xpA d l=false:=by
 cases hk:xpA d l with
 | false=>rfl
 | true =>
  unfold xpA at hk;rw[qEI]at hk;rw[hk s hs]at h;cases h
def mpQ (d:DK) (x:RS2) (K:Bool) (r:AV) (L':List (Nat×Ob)):Prop:=∃ l,l.length=x.1.length∧(K=true→l=x.1.map (xpS d))∧r=.tup [.agg (lnR (l,x.2) 1000 1001),.bool K]∧L'=[(1000,kcs l),(1001,kpt x.2)]
theorem qy5 (d:DK) (h:DkT d) (x:RS2) (hx:x.1.length≤1000000) (h8:∀ s∈x.1,s.map.length=8) :
  ACall prog 76 [.agg d.row,.agg (lnR x 1000 1001)] [(1000,kcs x.1),(1001,kpt x.2)] (mpQ d x (xpA d x.1)):=by
 obtain⟨K,hK⟩:∃ K,xpA d x.1=K:=⟨_,rfl⟩;rw[hK];refine acx func76 [(4,[zJ 0 [2] [],zJ 1 [] [2],zJ 2 [3] [2],zJ 3 [] [2,3],zJ 4 [1000] [2],zJ 5 [] [2],zJ 6 [1000] [2],zI 7,zI 8,zI 9,zI 10,zI 11,zI 12])] ntmps76 rfl rfl rfl ?_;simp[lnR,DK.row];refine qbl (X:=Nat) [2,3,4,5,6] [(2,2),(3,3),(4,4),(1000,1000),(1001,1001)] (fun i=>[(5,.bool false),(6,.int .i64 i)]) (fun i=>[(2,⟨3,[d.row]⟩),(3,⟨7,[lnR x 1000 1001]⟩),(4,⟨7,[[.int .i64 0,.nils,.nils,.nils,.bool false,.nils,.int .i64 0]]⟩),(1000,kcs (xpN d x.1 i)),(1001,kpt x.2)]) (fun i=>x.1.length-i) (fun i=>i≤x.1.length∧xpA d (x.1.take i)=true) 0 ⟨by omega,by simp[xpA]⟩ ?_ (he:=by simp[qah,lnR,qys,DK.row]);rintro i ⟨hi,ha⟩;by_cases hil:i<x.1.length
 ·obtain⟨s,f1⟩:∃ s,x.1[i]?=some s:=⟨_,qEv hil⟩;have hm:=qGk f1;have hs8:=h8 s hm;have hrl:=qaY s hs8;have hho:=qdE s hs8;have e2:=qak ((i:Int)+1) (by omega) (by omega);have c1:=qfU d h s.home;have hbl:=qcW d s.home;have c2:=qqj (qai d s.home).1 (by omega);obtain⟨g1,g2⟩:=qtV (d:=d) f1;have gl:=qpF d x.1 i;have hcond:xpP d s=(decide ((qai d s.home).2=0) && (qeP (qai d s.home).1).2):=rfl;have hup:=qpE d s hs8;have hml:=qkh (qai d s.home).1;have hsu:=qqK hml;have hone:=qqL (qeP (qai d s.home).1).1;have hfl:((qeP (qai d s.home).1).1.flatMap PT.row).length=24:=by rw[qkr,hml]
  simp only[DK.row,PT.row]at c1 hho;obtain⟨Y,hY⟩:∃ Y,xpN d x.1 i=Y:=⟨_,rfl⟩;rw[hY]at g1 g2 gl;have hiY:i<Y.length:=by omega
  have y0:Y[i]=s:=(qE1.1 g1).2;rw[hY];generalize qai d s.home=bb at *
  obtain⟨bt,bc⟩:=bb;simp only at c1 c2 hcond hup hml hsu hone hfl;generalize qeP bt=mm at *
  obtain⟨mp,mk⟩:=mm;simp only at c2 hcond hup hml hsu hone hfl;simp[lnR,kcs,show(i:Int)<x.1.length by omega,hil,g1,hiY,y0,hrl,hho,gl,DK.row];refine c1.call ?_;simp;refine c2.call ?_;by_cases q:bc=0∧mk=true
  ·obtain⟨rfl,rfl⟩:=q;have hnx:=qnl f1 ha (by rw[hcond];rfl);simp[kcs,hiY,y0,g1,hrl,hsu,hfl,qEK (qEL hfl),gl,hil];refine nx (i+1) [(2,2),(3,3),(4,4),(1000,1000),(1001,1001)] ⟨by omega,hnx⟩ (by omega) (h4:=?_);simp[qah,e2,lnR,kcs,← g2,DK.row,hsu,hfl,hup _ rfl,qhE]
  ·have hk:=qtW hm (show xpP d s=false by rw[hcond];cases mk <;> simp_all);rw[hK]at hk;subst hk;by_cases q1:bc=0
   ·have:mk=false:=by cases mk <;> simp_all
    subst this;simp[kcs,q1,hsu];exact⟨[(1000,kcs Y),(1001,kpt x.2)],by simp[kcs],Y,gl,by simp,by simp[lnR,gl],rfl⟩
   ·simp[kcs,q1];exact⟨hsu,[(1000,kcs Y),(1001,kpt x.2)],by simp[kcs],Y,gl,by simp,by simp[lnR,gl],rfl⟩
 ·have hie:i=x.1.length:=by omega
  subst hie;rw[qEK (by omega),hK]at ha;subst ha;simp[lnR];exact⟨[(1000,kcs (x.1.map (xpS d))),(1001,kpt x.2)],by simp[qpG],x.1.map (xpS d),by simp,fun _=>rfl,by simp[lnR],rfl⟩
def tbP (d:DK) (p:PT):Bool:=decide ((qai d p).2=0) && (qi6 (qai d p).1).2
def tbS (d:DK) (p:PT):List DE:=(qi6 (qai d p).1).1
def tbA (d:DK) (l:List PT):Bool:=l.all (tbP d)
def tbN (d:DK) (l:List PT) (i:Nat):List DE:=(l.take i).flatMap (tbS d)
theorem qkJ (t:List UInt8):(qi6 t).1.length≤48:=by
 unfold qi6;split
 ·simp
 ·split
  ·simp
  ·split
   ·split
    ·rename_i h;exact(qiP h).1
    ·simp
   ·simp
theorem qjS (d:DK) (l:List PT):∀ i,(tbN d l i).length≤48 * i
 | 0=>by simp[tbN]
 | i+1=>by
  have:=qjS d l i;unfold tbN at *
  rw[qGg,qHy,qFI];have h2:(List.flatMap (tbS d) l[i]?.toList).length≤48:=by
   cases l[i]? with
   | none=>simp
   | some p=>simpa [tbS]using qkJ _
  omega
theorem qnq {d:DK} {l:List PT} {i:Nat} {p:PT} (hs:l[i]?=some p):tbN d l i++tbS d p=tbN d l (i+1):=by
 unfold tbN;rw[qGg,hs,qHy];simp
theorem qnr {d:DK} {l:List PT} {i:Nat} {s:PT} (hs:l[i]?=some s) (h:tbA d (l.take i)=true) (h2:tbP d s=true):tbA d (l.take (i+1))=true:=by
 rw[qGg,hs];unfold tbA at *
 rw[qGJ,h];simp[h2]
theorem qt3 {d:DK} {l:List PT} {s:PT} (hs:s∈l) (h:tbP d s=false):tbA d l=false:=by
 cases hk:tbA d l with
 | false=>rfl
 | true =>
  unfold tbA at hk;rw[qEI]at hk;rw[hk s hs]at h;cases h
def tbR (x:RS2) (a b c n:Nat):List AV:=[.int .i64 0,.sl a 0 x.1.length,.sl b 0 n,.sl c 0 x.2.length,.bool false,.nils,.int .i64 0]
def tbQ (d:DK) (x:RS2) (K:Bool) (r:AV) (L':List (Nat×Ob)):Prop:=∃ l,(K=true→l=x.2.flatMap (tbS d))∧r=.tup [.agg (tbR x 1000 902 1001 l.length),.bool K]∧L'=[(1000,kcs x.1),(902,qaH l),(1001,kpt x.2)]
theorem qvQ (d:DK) (h:DkT d) (x:RS2) (hx:x.2.length≤10000) :
  ACall prog 77 [.agg d.row,.agg (lnR x 1000 1001)] [(1000,kcs x.1),(1001,kpt x.2)] (tbQ d x (tbA d x.2)):=by
 obtain⟨K,hK⟩:∃ K,tbA d x.2=K:=⟨_,rfl⟩;rw[hK];refine acx func77 [(4,[zJ 0 [2] [],zJ 1 [] [2],zJ 2 [3] [2],zJ 3 [] [2,3],zJ 4 [1001] [2],zJ 5 [1001] [2],zI 6,zI 7,zI 8,zI 9,zI 10,zI 11])] ntmps77 rfl rfl rfl ?_;simp[lnR,DK.row];refine qeX ((qeH 902 3 (by simp)).trans (qdp 3 2 (sz:=7) (row:=lnR x 1000 1001) (by simp[lnR]) (by simp[lnR]) (qcH 902 0))) ?_;refine qbl (X:=Nat) [2,3,4,5,6] [(2,2),(3,3),(4,4),(1000,1000),(902,902),(1001,1001)] (fun i=>[(5,.bool false),(6,.int .i64 i)]) (fun i=>[(2,⟨3,[d.row]⟩),(3,⟨7,[tbR x 1000 902 1001 (tbN d x.2 i).length]⟩),(4,⟨7,[[.int .i64 0,.nils,.nils,.nils,.bool false,.nils,.int .i64 0]]⟩),(1000,kcs x.1),(902,qaH (tbN d x.2 i)),(1001,kpt x.2)]) (fun i=>x.2.length-i) (fun i=>i≤x.2.length∧tbA d (x.2.take i)=true) 0 ⟨by omega,by simp[tbA]⟩ ?_ (he:=by simp[qah,lnR,tbR,tbN,DK.row,qaH]);rintro i ⟨hi,ha⟩;have hnl:=qjS d x.2 i;by_cases hil:i<x.2.length
 ·obtain⟨s,f1⟩:∃ s,x.2[i]?=some s:=⟨_,qEv hil⟩;have f0:x.2[i]=s:=(qE1.1 f1).2;have hm:=qGk f1;have e2:=qak ((i:Int)+1) (by omega) (by omega);have c1:=qfU d h s;have hbl:=qcW d s;have c2:=qqp (qai d s).1 (by omega);have hdl:=qkJ (qai d s).1;have hcond:tbP d s=(decide ((qai d s).2=0) && (qi6 (qai d s).1).2):=rfl;have hnx:=qnq (d:=d) f1;have hts:tbS d s=(qi6 (qai d s).1).1:=rfl;rw[hts]at hnx;simp only[DK.row,PT.row]at c1;generalize qai d s=bb at *
  obtain⟨bt,bc⟩:=bb;simp only at c1 c2 hcond hbl hdl hnx;generalize qi6 bt=mm at *
  obtain⟨mp,mk⟩:=mm;simp only at c2 hcond hdl hnx;simp[tbR,qaH,kpt,show(i:Int)<x.2.length by omega,hil,f0,f1,PT.row,DK.row];refine c1.call ?_;simp;refine c2.call ?_;by_cases q:bc=0∧mk=true
  ·obtain⟨rfl,rfl⟩:=q;have hnA:=qnr f1 ha (by rw[hcond];rfl);simp[tbR,qaH];refine⟨by omega,nx (i+1) [(2,2),(3,3),(4,4),(1000,1000),(43,902),(1001,1001)] ⟨by omega,hnA⟩ (by omega) (h4:=?_)⟩;simp[qah,e2,tbR,qaH,kpt,← hnx,DK.row,qam]
  ·have hk:=qt3 hm (show tbP d s=false by rw[hcond];cases mk <;> simp_all);rw[hK]at hk;subst hk;by_cases q1:bc=0
   ·have:mk=false:=by cases mk <;> simp_all
    subst this;simp[tbR,qaH,q1];exact⟨[(1000,kcs x.1),(902,qaH (tbN d x.2 i)),(1001,kpt x.2)],by simp[qaH,kpt],tbN d x.2 i,by simp,by simp[tbR],rfl⟩
   ·simp[tbR,qaH,q1];exact⟨[(1000,kcs x.1),(902,qaH (tbN d x.2 i)),(1001,kpt x.2)],by simp[qaH,kpt],tbN d x.2 i,by simp,by simp[tbR],rfl⟩
 ·have hie:i=x.2.length:=by omega
  subst hie;rw[qEK (by omega),hK]at ha;subst ha;simp[tbR];exact⟨[(1000,kcs x.1),(902,qaH (tbN d x.2 x.2.length)),(1001,kpt x.2)],by simp[qaH],tbN d x.2 x.2.length,fun _=>by simp[tbN],by simp[tbR],rfl⟩
theorem qv5 {t:List UInt8} {x:RS2} (h:qhc t=(qba x,true)):t≠[]∧x.1.length≤6∧x.2.length≤8∧(∀ s∈x.1,s.map.length=8∧qbn s=true)∧∀ p∈x.2,qaq p=true:=by
 unfold qhc at h;split at h
 ·exact absurd (congrArg Prod.snd h) (by simp)
 ·rename_i h1;have hd:(qaI 10 t []).head?=some qll:=by
   apply qGa;exact fun e=>h1 (.inr e)
  have hne:t≠[]:=by
   rintro rfl
   revert hd
   decide
  cases ho:qe6 qeo (qaI 10 t []).tail ([],[])with
  | none =>
   rw[ho]at h;exact absurd (congrArg Prod.snd h) (by simp[qmo])
  | some y =>
   rw[ho]at h;simp only[qmo]at h;split at h
   ·rename_i ha;have hy:y=x:=by
     have h2:=congrArg (fun z:CO×Bool=>(z.1.sets,z.1.parts)) h;simp only[qba,qEj]at h2;exact Prod.ext h2.1 h2.2
    subst hy;obtain⟨r1,r2,_⟩:=qjp (qgp ha) hne;have hn:=qj4 qlE _ _ y (by simp) ho;simp only[qhW,Bool.and_eq_true,decide_eq_true_eq]at ha;have hb:=(okB_iff.1 ha.1.2).1;simp only[qFx]at hb;exact⟨hne,hb,ha.2,fun s hs=>⟨by rw[(hn s hs).1];rfl,r1 s hs⟩,r2⟩
   ·exact absurd (congrArg Prod.snd h) (by simp)
def rrC (d:DK) (c:CO):CO:=⟨(rbB d).1,c.sets.map (xpS d),c.parts.flatMap (tbS d),c.parts,false,[],0⟩
def rrF (d:DK):Bool:=decide ((qai d (rbB d).2).2=0) && (qhc (qai d (rbB d).2).1).2
def rrG (d:DK) (c:CO):Bool:=xpA d c.sets && tbA d c.parts && qan (rrC d c)
def rrS (d:DK) (c:CO):CO:={ rrC d c with safe:=qcc (rrC d c) (rbB d).2.pa }
def rrB (d:DK):CO×Int :=
 if qbu d=true∧0<(rbB d).1 then if rrF d=true then if rrG d (qhc (qai d (rbB d).2).1).1=true then (rrS d (qhc (qai d (rbB d).2).1).1,0) else (zK,8) else (zK,8) else (zK,1)
def rrQ (a b e f:Nat) (R:CO×Int) (r:AV) (L':List (Nat×Ob)):Prop :=
 (R.1=zK∧R.2≠0∧r=.tup [.agg [.int .i64 0,.nils,.nils,.nils,.bool false,.nils,.int .i64 0],.int .i64 R.2]∧L'=[]) ∨
 (R.2=0∧r=.tup [qcy R.1 a b e f,.int .i64 0]∧L'=[(a,kcs R.1.sets),(b,qaH R.1.ddt),(e,kpt R.1.parts),(f,kin R.1.safe)])
theorem qv8 {t:List UInt8} {x:RS2} (h:qhc t=(qba x,true)) (d:DK):CoT (rrC d (qba x)):=by
 obtain⟨_,h1,h2,h3,h4⟩:=qv5 h;refine⟨by simp[rrC,qba];omega,?_,by simp[rrC,qba];omega,by simp[rrC],?_,?_⟩
 ·have:=qjS d x.2 x.2.length;simp only[tbN,qGn]at this;simp only[rrC,qba];omega
 ·intro s hs;obtain⟨s0,hs0,rfl⟩:=qEW.1 hs;exact qkh _
 ·intro s hs;obtain⟨s0,hs0,rfl⟩:=qEW.1 hs;have:=qiR (h3 s0 hs0).2;simp only[xpS];omega
theorem qoM (d:DK) (h:DkT d):ACall prog 31 [.agg d.row] [] (rrQ 900 902 901 903 (rrB d)):=by
 obtain⟨R,hR⟩:∃ R,rrB d=R:=⟨_,rfl⟩;rw[hR];unfold rrB at hR;have c1:=qzc d h;have c2:=qe5 d h;have c3:=qfU d h (rbB d).2;have hbl:=qcW d (rbB d).2;have c4:=qoL (qai d (rbB d).2).1 (by omega);have hF:rrF d=(decide ((qai d (rbB d).2).2=0) && (qhc (qai d (rbB d).2).1).2):=rfl;have hT:=fun x (hx:qhc (qai d (rbB d).2).1=(qba x,true))=>qv8 hx d;have hok:=fun x (hx:qhc (qai d (rbB d).2).1=(qba x,true))=>qv5 hx;simp only[DK.row,PT.row]at c1 c2 c3;refine acx func31 [] ntmps31 rfl rfl rfl ?_;simp[DK.row];refine c1.call ?_;simp[PT.row];refine c2.call ?_;by_cases g0:qbu d=true∧0<(rbB d).1
 ·rw[if_pos g0]at hR;obtain⟨g1,g2⟩:=g0;simp[g1,g2];refine c3.call ?_;simp;generalize (qai d (rbB d).2).1=bt at *
  generalize (qai d (rbB d).2).2=bc at *
  refine qac [] (by kernel_rfl) c4 (by simp) (by simp) trivial (by simp) (by simp) ?_;rintro r L' (⟨hr,rfl,rfl⟩ | ⟨x,hr,rfl,rfl⟩)
  ·rw[hr]at hF;rw[if_neg (by rw[hF];simp)]at hR;subst hR;refine⟨[],⟨by simp,by simp,by simp,by simp,by simp⟩,?_⟩;simp only[qad];by_cases q:bc=0
   ·simp[q];exact⟨[],by simp,.inl ⟨rfl,by simp,rfl,rfl⟩⟩
   ·simp[q];exact⟨[],by simp,.inl ⟨rfl,by simp,rfl,rfl⟩⟩
  ·have hTx:=hT x hr;obtain⟨_,o1,o2,o3,o4⟩:=hok x hr;rw[hr]at hF hR;simp only[qED]at hF;refine⟨[(900,900),(901,901)],⟨by simp,by simp,by simp,by simp,by simp⟩,?_⟩;simp only[qad];by_cases q:bc=0
   ·rw[if_pos (by rw[hF];simp[q])]at hR;have hG:rrG d (qba x)=(xpA d x.1 && tbA d x.2 && qan (rrC d (qba x))):=rfl;have c5:=qy5 d h x (by omega) fun s hs=>(o3 s hs).1;simp only[DK.row,lnR]at c5;simp[q,lnR];refine qac [(1000,.whole 900),(1001,.whole 901)] (by kernel_rfl) c5 (by simp) (by simp) ⟨⟨kcs x.1,by simp,rfl,qaa rfl (qaX _)⟩,⟨kpt x.2,by simp,rfl,qaa rfl (qbi _)⟩,trivial⟩ (by simp) (by simp) ?_;rintro r' L' ⟨l,hl,hk,rfl,rfl⟩;refine⟨[],⟨by simp[lnR],by simp,by simp,by simp[lnR],by simp[lnR]⟩,?_⟩;simp only[qad];have c6:=qvQ d h (l,x.2) (by simp only;omega);simp only[DK.row,lnR]at c6;simp[lnR];refine qac [(1000,.whole 900),(1001,.whole 901)] (by kernel_rfl) c6 (by simp) (by simp) ⟨⟨kcs l,by simp,rfl,qaa rfl (qaX _)⟩,⟨kpt x.2,by simp,rfl,qaa rfl (qbi _)⟩,trivial⟩ (by simp) (by simp) ?_;rintro r' L' ⟨t,ht,rfl,rfl⟩;refine⟨[(902,902)],⟨by simp[tbR],by simp,by simp,by simp[tbR],by simp[tbR]⟩,?_⟩;simp only[qad];simp only at ht;have hfail:rrG d (qba x)=false→R=(zK,8):=fun e=>by
     rw[if_neg (by simp only;rw[e];simp)]at hR;exact hR.symm
    cases k1:xpA d x.1 with
    | false =>
     rw[hfail (by rw[hG,k1];rfl)];simp[tbR,lnR,hl];exact⟨[],by simp,.inl ⟨rfl,by simp,rfl,rfl⟩⟩
    | true =>
     cases k2:tbA d x.2 with
     | false =>
      rw[hfail (by rw[hG,k1,k2];rfl)];simp[tbR,lnR,hl];exact⟨[],by simp,.inl ⟨rfl,by simp,rfl,rfl⟩⟩
     | true =>
      have hl2:=hk k1;have ht2:=ht k2;have hC:rrC d (qba x)=⟨(rbB d).1,l,t,x.2,false,[],0⟩:=by rw[hl2,ht2];rfl
      have hS:rrS d (qba x)={ rrC d (qba x)with safe:=qcc (rrC d (qba x)) (rbB d).2.pa }:=rfl;rw[k1,k2,hC]at hG;rw[hC]at hTx hS;have c7:=qqq _ hTx;have hgl:qan ⟨(rbB d).1,l,t,x.2,false,[],0⟩=true→l.length=x.1.length:=fun _=>hl;cases k3:qan ⟨(rbB d).1,l,t,x.2,false,[],0⟩with
      | false =>
       rw[k3]at c7;simp only[CO.row,qF8]at c7;rw[hfail (by rw[hG,k3];rfl)];simp[tbR,lnR];refine c7.view (by simp[qb1,mtA,kcs,qaH,kpt,qam,qa5]) ?_;simp;exact⟨[],by simp,.inl ⟨rfl,by simp,rfl,rfl⟩⟩
      | true =>
       rw[k3]at c7 hG;have c8:=qqg _ hTx (qbS k3).1 (rbB d).2.pa;simp only[CO.row,qF8]at c7 c8;rw[if_pos (by simp only;rw[hG];rfl)]at hR;simp only at hR;rw[hS]at hR;generalize qcc _ _=sf at *
       subst hR;simp[tbR,lnR];refine c7.view (by simp[qb1,mtA,kcs,qaH,kpt,qam,qa5]) ?_;simp;refine qaO [] (by kernel_rfl) c8 (by simp[qb1,mtA,kcs,qaH,kpt,qam,qa5]) (by simp) trivial (by simp) (by simp) ?_;rintro r' L' ⟨rfl,rfl⟩;refine⟨by simp[noL],by simp[noL,kin,qaf],[(900,903)],⟨by simp,by simp,by simp,by simp,by simp⟩,?_⟩;simp only[qad];simp;exact⟨[(900,kcs l),(902,qaH t),(901,kpt x.2),(903,kin sf)],by simp[qah],.inr ⟨rfl,by simp[qcy],rfl⟩⟩
   ·rw[if_neg (by rw[hF];simp[q])]at hR;subst hR;simp[q,lnR];exact⟨[],by simp,.inl ⟨rfl,by simp,rfl,rfl⟩⟩
 ·rw[if_neg g0]at hR;subst hR;cases g1:qbu d with
  | false =>
   simp[g1];exact⟨[],by simp,.inl ⟨rfl,by simp,rfl,rfl⟩⟩
  | true =>
   have g2:¬ 0<(rbB d).1:=fun e=>g0 ⟨g1,e⟩;simp[g1,g2];exact⟨[],by simp,.inl ⟨rfl,by simp,rfl,rfl⟩⟩
end Go.Av.F
end
