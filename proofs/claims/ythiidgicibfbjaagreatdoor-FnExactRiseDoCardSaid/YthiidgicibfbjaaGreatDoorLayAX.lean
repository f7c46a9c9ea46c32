/- Lemmas for the proof, no statement of the seat; no conditions. -/
import Derived.Test.YthiidgicibfbjaaGreatDoorLayAW
import Derived.Lib.LaidTab
import Derived.FnData
import Derived.Test.YthiidgicibfbjaaGreatDoorRows
import Derived.Test.YthiidgicibfbjaaGreatDoorCards
import Derived.ProofKit
import Derived.OpenShut
import Derived.LaidMore
import Derived.Lay
import Derived.SevenTiedAt
import Derived.Stop.Joined
set_option linter.unusedSimpArgs false
set_option linter.unusedVariables false
set_option linter.unnecessarySimpa false
set_option maxRecDepth 100000
section
namespace Go.Av.F
open Go Go.Av Go.Proofs Go.Proofs.Tryz
theorem qjq (c:CO) (root:Int):(qcc c root).length≤1+c.ddt.length+c.sets.length+c.parts.length:=by
 unfold qcc;have h0:=qfe [] root;have h1:=qgo (c.ddt.map DE.ea) (qfN [] root);have h2:=qgo (c.sets.map fun s=>s.home.pa) (qcN (qfN [] root) (c.ddt.map DE.ea));have h3:=qgo (c.parts.map PT.pa) (qcN (qcN (qfN [] root) (c.ddt.map DE.ea)) (c.sets.map fun s=>s.home.pa));simp only[qFx,qFJ]at h0 h1 h2 h3;omega
theorem qo5 (d:DK) (h:DkT d):ACall prog 36 [.agg d.row] [] (rrQ 904 905 906 907 (rrB d)):=by
 obtain⟨R,hR⟩:∃ R,rrB d=R:=⟨_,rfl⟩;rw[hR];unfold rrB at hR;have c1:=qAk d h;have c2:=qhK d h;have c3:=qf8 d h (rbB d).2;have hbl:=qcW d (rbB d).2;have c4:=qo4 (qai d (rbB d).2).1 (by omega);have hF:rrF d=(decide ((qai d (rbB d).2).2=0) && (qhc (qai d (rbB d).2).1).2):=rfl;have hT:=fun x (hx:qhc (qai d (rbB d).2).1=(qba x,true))=>qv8 hx d;have hok:=fun x (hx:qhc (qai d (rbB d).2).1=(qba x,true))=>qv5 hx;simp only[DK.row,PT.row]at c1 c2 c3;refine acx func36 [(11,[zJ 0 [1] [],zJ 1 [] [1],zJ 2 [9] [1],zJ 3 [] [1,9],zJ 4 [900] [1],zJ 5 [] [1],zJ 6 [900] [1],zI 7,zI 8,zI 9,zI 10,zI 11,zI 12])] ntmps36 rfl rfl rfl ?_;simp[DK.row];refine c1.call ?_;simp[PT.row];refine c2.call ?_;by_cases g0:qbu d=true∧0<(rbB d).1
 ·rw[if_pos g0]at hR;obtain⟨g1,g2⟩:=g0;simp[g1,g2];refine c3.call ?_;simp;generalize (qai d (rbB d).2).1=bt at *
  generalize (qai d (rbB d).2).2=bc at *
  refine qac [] (by kernel_rfl) c4 (by simp) (by simp) trivial (by simp) (by simp) ?_;rintro r L' (⟨hr,rfl,rfl⟩ | ⟨x,hr,rfl,rfl⟩)
  ·rw[hr]at hF;rw[if_neg (by rw[hF];simp)]at hR;subst hR;refine⟨[],⟨by simp,by simp,by simp,by simp,by simp⟩,?_⟩;simp only[qad];by_cases q:bc=0
   ·simp[q];exact⟨[],by simp,.inl ⟨rfl,by simp,rfl,rfl⟩⟩
   ·simp[q];exact⟨[],by simp,.inl ⟨rfl,by simp,rfl,rfl⟩⟩
  ·have hTx:=hT x hr;obtain⟨_,o1,o2,o3,o4⟩:=hok x hr;rw[hr]at hF hR;simp only[qED]at hF;refine⟨[(900,900),(901,901)],⟨by simp,by simp,by simp,by simp,by simp⟩,?_⟩;simp only[qad];by_cases q:bc=0
   ·rw[if_pos (by rw[hF];simp[q])]at hR;have hG:rrG d (qba x)=(xpA d x.1 && tbA d x.2 && qan (rrC d (qba x))):=rfl;have hfail:rrG d (qba x)=false→R=(zK,8):=fun e=>by
     rw[if_neg (by simp only;rw[e];simp)]at hR;exact hR.symm
    simp[q,lnR];refine qbl (X:=Nat) [1,2,3,4,5,9,55,56] [(1,1),(2,2),(5,5),(9,9),(900,900),(901,901)] (fun i=>[(56,.int .i64 i)]) (fun i=>[(1,⟨3,[d.row]⟩),(2,⟨7,[[.int .i64 0,.nils,.nils,.nils,.bool false,.nils,.int .i64 0]]⟩),(5,⟨3,[(rbB d).2.row]⟩),(9,⟨7,[lnR x 900 901]⟩),(900,kcs (xpN d x.1 i)),(901,kpt x.2)]) (fun i=>x.1.length-i) (fun i=>i≤x.1.length∧xpA d (x.1.take i)=true) 0 ⟨by omega,by simp[xpA]⟩ ?_ (he:=by simp[qah,lnR,qys,DK.row,PT.row]);rintro i ⟨hi,ha⟩;by_cases hil:i<x.1.length
    ·obtain⟨s,f1⟩:∃ s,x.1[i]?=some s:=⟨_,qEv hil⟩;have hm:=qGk f1;have hs8:=(o3 s hm).1;have hrl:=qaY s hs8;have hho:=qdE s hs8;have e2:=qak ((i:Int)+1) (by omega) (by omega);have c1:=qf8 d h s.home;have hbl:=qcW d s.home;have c2:=qro (qai d s.home).1 (by omega);obtain⟨g1,g2⟩:=qtV (d:=d) f1;have gl:=qpF d x.1 i;have hcond:xpP d s=(decide ((qai d s.home).2=0) && (qeP (qai d s.home).1).2):=rfl;have hup:=qpE d s hs8;have hml:=qkh (qai d s.home).1;have hsu:=qqK hml;have hone:=qqL (qeP (qai d s.home).1).1;have hfl:((qeP (qai d s.home).1).1.flatMap PT.row).length=24:=by rw[qkr,hml]
     simp only[DK.row,PT.row]at c1 hho;obtain⟨Y,hY⟩:∃ Y,xpN d x.1 i=Y:=⟨_,rfl⟩;rw[hY]at g1 g2 gl;have hiY:i<Y.length:=by omega
     have y0:Y[i]=s:=(qE1.1 g1).2;rw[hY];generalize qai d s.home=bb at *
     obtain⟨bt,bc⟩:=bb;simp only at c1 c2 hcond hup hml hsu hone hfl;generalize qeP bt=mm at *
     obtain⟨mp,mk⟩:=mm;simp only at c2 hcond hup hml hsu hone hfl;simp[lnR,kcs,show(i:Int)<x.1.length by omega,hil,g1,hiY,y0,hrl,hho,gl,DK.row];refine c1.call ?_;simp;refine c2.call ?_;by_cases q:bc=0∧mk=true
     ·obtain⟨rfl,rfl⟩:=q;have hnx:=qnl f1 ha (by rw[hcond];rfl);simp[kcs,hiY,y0,g1,hrl,hsu,hfl,qEK (qEL hfl),gl,hil];refine nx (i+1) [(1,1),(2,2),(5,5),(9,9),(900,900),(901,901)] ⟨by omega,hnx⟩ (by omega) (h4:=?_);simp[qah,e2,lnR,kcs,← g2,DK.row,PT.row,hsu,hfl,hup _ rfl,qhE]
     ·rw[hfail (by rw[hG,qtW hm (show xpP d s=false by rw[hcond];cases mk <;> simp_all)];rfl)];by_cases q1:bc=0
      ·have:mk=false:=by cases mk <;> simp_all
       subst this;simp[kcs,q1,hsu];exact⟨[],by simp,.inl ⟨rfl,by simp,rfl,rfl⟩⟩
      ·simp[kcs,q1,hsu];exact⟨[],by simp,.inl ⟨rfl,by simp,rfl,rfl⟩⟩
    ·have hie:i=x.1.length:=by omega
     subst hie;rw[qEK (by omega)]at ha;rw[qpG];simp[lnR];have hcs:(x.1.map (xpS d)).length=x.1.length:=by simp
     generalize hl2:x.1.map (xpS d)=l at *
     refine qeX ((qeH 902 3 (by simp)).trans (qdp 9 2 (sz:=7) (row:=lnR x 900 901) (by simp[lnR]) (by simp[lnR]) (qcH 902 0))) ?_;refine qbl (X:=Nat) [1,2,3,4,5,9,90,91,92] [(1,1),(2,2),(5,5),(9,9),(900,900),(902,902),(901,901)] (fun i=>[(92,.int .i64 i)]) (fun i=>[(1,⟨3,[d.row]⟩),(2,⟨7,[[.int .i64 0,.nils,.nils,.nils,.bool false,.nils,.int .i64 0]]⟩),(5,⟨3,[(rbB d).2.row]⟩),(9,⟨7,[tbR x 900 902 901 (tbN d x.2 i).length]⟩),(900,kcs l),(902,qaH (tbN d x.2 i)),(901,kpt x.2)]) (fun i=>x.2.length-i) (fun i=>i≤x.2.length∧tbA d (x.2.take i)=true) 0 ⟨by omega,by simp[tbA]⟩ ?_ (he:=by simp[qah,lnR,tbR,tbN,DK.row,PT.row,qaH]);rintro i ⟨hi,hb⟩;have hnl:=qjS d x.2 i;by_cases hil:i<x.2.length
     ·obtain⟨s,f1⟩:∃ s,x.2[i]?=some s:=⟨_,qEv hil⟩;have f0:x.2[i]=s:=(qE1.1 f1).2;have hm:=qGk f1;have e2:=qak ((i:Int)+1) (by omega) (by omega);have c1:=qf8 d h s;have hbl:=qcW d s;have c2:=qru (qai d s).1 (by omega);have hdl:=qkJ (qai d s).1;have hcond:tbP d s=(decide ((qai d s).2=0) && (qi6 (qai d s).1).2):=rfl;have hnx:=qnq (d:=d) f1;have hts:tbS d s=(qi6 (qai d s).1).1:=rfl;rw[hts]at hnx;simp only[DK.row,PT.row]at c1;generalize qai d s=bb at *
      obtain⟨bt,bc⟩:=bb;simp only at c1 c2 hcond hbl hdl hnx;generalize qi6 bt=mm at *
      obtain⟨mp,mk⟩:=mm;simp only at c2 hcond hdl hnx;simp[tbR,qaH,kpt,show(i:Int)<x.2.length by omega,hil,f0,f1,PT.row,DK.row];refine c1.call ?_;simp;refine c2.call ?_;by_cases q:bc=0∧mk=true
      ·obtain⟨rfl,rfl⟩:=q;have hnA:=qnr f1 hb (by rw[hcond];rfl);simp[tbR,qaH];refine⟨by omega,nx (i+1) [(1,1),(2,2),(5,5),(9,9),(900,900),(117,902),(901,901)] ⟨by omega,hnA⟩ (by omega) (h4:=?_)⟩;simp[qah,e2,tbR,qaH,kpt,← hnx,DK.row,PT.row,qam]
      ·rw[hfail (by rw[hG,ha,qt3 hm (show tbP d s=false by rw[hcond];cases mk <;> simp_all)];rfl)];by_cases q1:bc=0
       ·have:mk=false:=by cases mk <;> simp_all
        subst this;simp[tbR,qaH,q1];exact⟨[],by simp,.inl ⟨rfl,by simp,rfl,rfl⟩⟩
       ·simp[tbR,qaH,q1];exact⟨[],by simp,.inl ⟨rfl,by simp,rfl,rfl⟩⟩
     ·have hie:i=x.2.length:=by omega
      subst hie;rw[qEK (by omega)]at hb;have ht2:tbN d x.2 x.2.length=x.2.flatMap (tbS d):=by simp[tbN]
      rw[ht2];generalize ht3:x.2.flatMap (tbS d)=t at *
      have hC:rrC d (qba x)=⟨(rbB d).1,l,t,x.2,false,[],0⟩:=by rw[← hl2,← ht3];rfl
      have hS:rrS d (qba x)={ rrC d (qba x)with safe:=qcc (rrC d (qba x)) (rbB d).2.pa }:=rfl;rw[ha,hb,hC]at hG;rw[hC]at hTx hS;have c7:=qiD _ hTx;cases k3:qan ⟨(rbB d).1,l,t,x.2,false,[],0⟩with
      | false =>
       rw[k3]at c7;simp only[CO.row,qF8]at c7;rw[hfail (by rw[hG,k3];rfl)];simp[tbR];refine c7.view (by simp[qb1,mtA,kcs,qaH,kpt,qam,qa5,← hcs]) ?_;simp;exact⟨[],by simp,.inl ⟨rfl,by simp,rfl,rfl⟩⟩
      | true =>
       rw[k3]at c7 hG;have c8:=qrl _ hTx k3 (rbB d).2.pa;rw[if_pos (by simp only;rw[hG];rfl)]at hR;simp only at hR;rw[hS]at hR;have hsl:(qcc ⟨(rbB d).1,l,t,x.2,false,[],0⟩ (rbB d).2.pa).length≤1000:=by
        refine qEf (qjq _ _) ?_;obtain⟨_,k4,k5,k6,_⟩:=qbS k3;simp only at k4 k5 k6 ⊢;omega
       generalize qcc ⟨(rbB d).1,l,t,x.2,false,[],0⟩ (rbB d).2.pa=sf at *
       have c9:=qlJ ⟨(rbB d).1,l,t,x.2,false,sf,0⟩ ⟨hTx.1,hTx.2,hTx.3,by simp only;omega,hTx.5,hTx.6⟩;simp only[CO.row,qF8]at c7 c8 c9;subst hR;simp[tbR];refine c7.view (by simp[qb1,mtA,kcs,qaH,kpt,qam,qa5,← hcs]) ?_;simp;refine qaO [] (by kernel_rfl) c8 (by simp[qb1,mtA,kcs,qaH,kpt,qam,qa5,← hcs]) (by simp) trivial (by simp) (by simp) ?_;rintro r' L' ⟨rfl,rfl⟩;refine⟨by simp[noL],by simp[noL,kin,qaf],[(900,903)],⟨by simp,by simp,by simp,by simp,by simp⟩,?_⟩;simp only[qad];simp;refine qaO [] (by kernel_rfl) c9 (by simp[qb1,mtA,kcs,qaH,kpt,kin,qaf,qam,qa5,← hcs]) (by simp) trivial (by simp) (by simp) ?_;rintro r' L' ⟨rfl,rfl⟩;refine⟨by simp[qcy,noL],by simp[kcs,qaH,kpt,kin,qaf,DE.row,PT.row,qf3],[(5,904),(8,905),(11,906),(14,907)],⟨by simp,by simp,by simp,by simp,by simp⟩,?_⟩;simp only[qad];simp[qcy];exact⟨[(904,kcs l),(905,qaH t),(906,kpt x.2),(907,kin sf)],by simp[qah],.inr ⟨rfl,by simp[qcy],rfl⟩⟩
   ·rw[if_neg (by rw[hF];simp[q])]at hR;subst hR;simp[q,lnR];exact⟨[],by simp,.inl ⟨rfl,by simp,rfl,rfl⟩⟩
 ·rw[if_neg g0]at hR;subst hR;cases g1:qbu d with
  | false =>
   simp[g1];exact⟨[],by simp,.inl ⟨rfl,by simp,rfl,rfl⟩⟩
  | true =>
   have g2:¬ 0<(rbB d).1:=fun e=>g0 ⟨g1,e⟩;simp[g1,g2];exact⟨[],by simp,.inl ⟨rfl,by simp,rfl,rfl⟩⟩
theorem qze {f a b e g:Nat} {d:DK} {R:CO×Int} (hn:[a,b,e,g].Nodup) (h:ACall prog f [.agg d.row] [] (rrQ a b e g R)) (he:qb5 prog f=true):CV prog f [.agg d.row] (.tup [.agg R.1.row,.int .i64 R.2]):=by
 refine CV.of_frz h ?_ (he:=he) (hca:=by simp[DK.row]) (hcv:=by simp[qde]);rintro r L' (⟨hR,_,rfl,rfl⟩ | ⟨hR,rfl,rfl⟩)
 ·refine⟨by simp,by simp,by simp,?_⟩;simp only[qbj,hR];exact qdz (.cons qre (.cons (qaF _) .nil))
 ·simp only[qFS,qFT,qF2,or_false,not_or,qFb,not_false_eq_true,and_true]at hn;obtain⟨⟨n1,n2,n3⟩,⟨n4,n5⟩,n6⟩:=hn;refine⟨by simp,by simp[n1,n2,n3,n4,n5,n6],fun y hy=>?_,?_⟩
  ·simp only[qFT,qF2,or_false]at hy;rcases hy with rfl | rfl | rfl | rfl
   ·exact qaX _
   ·simpa [clR]using qbw _
   ·exact qbi _
   ·exact qaM _
  ·rw[hR];simp[qbj,qcy,CO.row,kcs,kpt,kin,qaH,qam,n1,n2,n3,n4,n5,n6,qEd n1,qEd n2,qEd n3,qEd n4,qEd n5,qEd n6]
theorem qoN (d:DK) (h:DkT d):CV prog 31 [.agg d.row] (.tup [.agg (rrB d).1.row,.int .i64 (rrB d).2]):=qze (by decide) (qoM d h) (by kernel_rfl)
theorem qv4 {t:List UInt8} (h:(qhc t).2=true):∃ x,qhc t=(qba x,true):=by
 unfold qhc at h ⊢;split
 ·rename_i h1;rw[if_pos h1]at h;cases h
 ·rename_i h1;rw[if_neg h1]at h;unfold qmo at h ⊢;split
  ·rename_i x hx;rw[hx]at h;simp only at h;split
   ·exact⟨x,rfl⟩
   ·rename_i ha;rw[if_neg ha]at h;cases h
  ·rename_i hx;rw[hx]at h;cases h
theorem qzf {d:DK} (h:(rrB d).2=0):∃ x,qbu d=true∧CoT (rrS d (qba x))∧(rrB d).1=rrS d (qba x)∧qan (rrC d (qba x))=true:=by
 unfold rrB at h ⊢;split at h
 ·rename_i h1;rw[if_pos h1];split at h
  ·rename_i h2;rw[if_pos h2];split at h
   ·rename_i h3;rw[if_pos h3];simp only[rrF,Bool.and_eq_true,decide_eq_true_eq]at h2;obtain⟨x,hx⟩:=qv4 h2.2;rw[hx]at h3 ⊢;have hT:=qv8 hx d;simp only[rrG,Bool.and_eq_true]at h3;refine⟨x,h1.1,⟨hT.1,hT.2,hT.3,?_,hT.5,hT.6⟩,rfl,h3.2⟩;refine qEf (qjq _ _) ?_;obtain⟨_,k4,k5,k6,_⟩:=qbS h3.2;omega
   ·cases h
  ·cases h
 ·cases h
theorem qpT:∀ (l:List (Option BO)) (o:BO),o∈tkS l→some o∈l
 | [],o,h=>by simp[tkS]at h
 | none::r,o,h=>by simp[tkS]at h
 | some a::r,o,h=>by
  simp only[tkS,qFT]at h ⊢;rcases h with rfl | h
  ·exact .inl rfl
  ·exact .inr (qpT r o h)
theorem qpU:∀ (l:List (Option BO)),(tkS l).length≤l.length
 | []=>by simp[tkS]
 | none::r=>by simp[tkS]
 | some a::r=>by
  simp only[tkS,qEN];have:=qpU r;omega
theorem qrc (d:DK) (txg:Int):(lfB d txg).length≤8:=by
 unfold lfB;rw[qur];refine qEf (qpU _) ?_;simp
theorem qjI {α:Type} (f:α→Bool):∀ {l:List α} {i:Nat} {x:α} (y:α),l[i]?=some x→(l.set i y).countP f+(if f x=true then 1 else 0)=l.countP f+(if f y=true then 1 else 0)
 | [],i,x,y,h=>by simp at h
 | a::r,0,x,y,h=>by
  simp only[qEx,qEi]at h;subst h;simp only[List.set_cons_zero,qGL];omega
 | a::r,i+1,x,y,h=>by
  simp only[qEO]at h;have:=qjI f y h;simp only[qHm,qGL];omega
theorem qjJ (f:PT→Bool):∀ {l:List CS} {k i:Nat} {s s':CS} {old now:PT},l[k]?=some s→s.map[i]?=some old→s'.map=s.map.set i now →
  (qaC (l.set k s')).countP f+(if f old=true then 1 else 0)=(qaC l).countP f+(if f now=true then 1 else 0)
 | [],k,i,s,s',old,now,h,_,_=>by simp at h
 | a::r,0,i,s,s',old,now,h,h2,h3=>by
  simp only[qEx,qEi]at h;subst h;have:=qjI f now h2;simp only[qaC,List.set_cons_zero,qGP,qGU,h3];omega
 | a::r,k+1,i,s,s',old,now,h,h2,h3=>by
  simp only[qEO]at h;have:=qjJ f h h2 h3;simp only[qaC,qHm,qGP,qGU]at this ⊢;omega
theorem qww {l:List CS} {k i:Nat} {s s':CS} {now p:PT} (h:l[k]?=some s) (h3:s'.map=s.map.set i now) (hp:p∈qaC (l.set k s')):p∈qaC l∨p=now:=by
 simp only[qaC,qGQ]at hp ⊢;obtain⟨t,ht,hpt⟩:=hp;rcases qHl ht with ht | rfl
 ·exact .inl ⟨t,ht,hpt⟩
 ·rw[h3]at hpt;rcases qHl hpt with hpt | rfl
  ·exact .inl ⟨s,qGk h,hpt⟩
  ·exact .inr rfl
def ecA (l:List DE) (a:Int):Int:=qca (l.filter fun e=>decide (e.ea=a))
theorem qxr (a:Int):ecA [] a=0:=rfl
theorem qc0 (e:DE) (l:List DE) (a:Int):ecA (e::l) a=(if e.ea=a then e.ec else 0)+ecA l a:=by
 unfold ecA;rw[List.filter_cons];split
 ·rename_i h;rw[if_pos (by simpa using h),qca]
 ·rename_i h;rw[if_neg (by simpa using h)];omega
theorem qes (a:Int):∀ (l m:List DE),ecA (l++m) a=ecA l a+ecA m a
 | [],m=>by simp[qxr]
 | e::l,m=>by
  rw[qGj,qc0,qc0,qes a l m];omega
theorem qcF:∀ (l m:List DE),qca (l++m)=qca l+qca m
 | [],m=>by simp[qca]
 | e::l,m=>by
  rw[qGj,qca,qca,qcF l m];omega
theorem qhP {l:List DE} {a:Int} (h:∀ e∈l,e.ea≠a):ecA l a=0:=by
 induction l with
 | nil=>rfl
 | cons e r ih =>
  rw[qc0,if_neg (h e (by simp)),ih fun x hx=>h x (by simp[hx])];rfl
theorem qlc {α:Type} {l:List α} {i:Nat} {x:α} (h:l[i]?=some x):l=l.take i++x::l.drop (i+1)∧∀ y,l.set i y=l.take i++y::l.drop (i+1):=by
 have hl:=(qE1.1 h).1;have hx:=(qE1.1 h).2;have hd:l.drop i=x::l.drop (i+1):=by
  rw[← hx];exact qEA hl
 refine⟨?_,fun y=>?_⟩
 ·rw[← hd,qEz]
 ·rw[qGu,if_pos hl]
theorem qrI {l:List DE} (h:qal l=true) {e:DE} (he:e∈l):0<e.ea∧0<e.ec:=by
 have:=qgi (qg8 h e he);omega
theorem qAv {l:List DE} (h:qal l=true) {e:DE} (he:e∈l):ecA l e.ea=e.ec:=by
 simp only[qal,Bool.and_eq_true,decide_eq_true_eq]at h;have hp:=qgN h.2;clear h
 induction l with
 | nil=>simp at he
 | cons x r ih =>
  rw[qHr]at hp;rw[qc0];rcases qFT.1 he with rfl | he2
  ·rw[if_pos rfl,qhP fun y hy=>by have:=hp.1 y hy;omega];omega
  ·have:=hp.1 e he2;rw[if_neg (by omega),ih he2 hp.2];omega
theorem qkC {l:List DE} (h:qal l=true) {e x:DE} (he:e∈l) (hx:x∈l) (hea:e.ea=x.ea):e=x:=by
 simp only[qal,Bool.and_eq_true,decide_eq_true_eq]at h;have hp:=qgN h.2;clear h
 induction l with
 | nil=>simp at he
 | cons y r ih =>
  rw[qHr]at hp;rcases qFT.1 he with h1 | he2 <;> rcases qFT.1 hx with h2 | hx2
  ·rw[h1,h2]
  ·have:=hp.1 x hx2;rw[h1]at hea;omega
  ·have:=hp.1 e he2;rw[h2]at hea;omega
  ·exact ih he2 hx2 hp.2
theorem qxw {l:List DE} (h:qal l=true) {e:DE} (he:e∈l):ddT l e.ea=true∧l[ddP l e.ea]?=some e:=by
 cases hT:ddT l e.ea with
 | false=>exact absurd rfl (qkI h hT e he)
 | true =>
  obtain⟨x,hx,hxa⟩:=qcK hT;rw[hx,qkC h (qGk hx) he hxa];exact⟨rfl,rfl⟩
theorem qAX {l:List DE} (h:qal l=true) {s a:Int} (ho:(qb0 l s a).2=true) :
  0<a∧(∀ b,ecA (qb0 l s a).1 b=ecA l b+if b=a then 1 else 0)∧qca (qb0 l s a).1=qca l+1∧∀ e∈(qb0 l s a).1,(∃ x∈l,x.ea=e.ea∧x.es=e.es∧(e.ea=a→e.es=s))∨(e.ea=a∧e.es=s∧ecA l a=0):=by
 unfold qb0 at ho ⊢;rw[if_neg (by simp[h])]at ho ⊢;split at ho
 ·simp at ho
 ·rename_i hen;rw[if_neg hen];have ha:0<a:=by
   have:=qgi (e:=⟨s,a,1⟩) (by simpa using hen);simp only at this;omega
  refine⟨ha,?_⟩;split at ho
  ·rename_i hT;rw[if_pos hT];obtain⟨x,hx,hxa⟩:=qcK hT;rw[hx]at ho ⊢;simp only at ho ⊢;split at ho
   ·simp at ho
   ·rename_i hc;rw[if_neg hc];have hxs:x.es=s:=qGa fun e=>hc (.inl e);obtain⟨g1,g2⟩:=qlc hx;simp only[g2];refine⟨fun b=>?_,?_,fun e he=>?_⟩
    ·rw[qes,qc0]
     conv=>rhs;rw[g1,qes,qc0]
     simp only[hxa];by_cases hb:a=b
     ·rw[if_pos hb,if_pos hb,if_pos hb.symm];omega
     ·rw[if_neg hb,if_neg hb,if_neg (qEd hb)];omega
    ·rw[qcF,qca]
     conv=>rhs;rw[g1,qcF,qca]
     simp only;omega
    ·rw[qFV,qFT]at he;have hxm:=qGk hx;rcases he with he | rfl | he
     ·have hm:=qGX he;exact .inl ⟨e,hm,rfl,rfl,fun q=>by rw[qkC h hm hxm (by omega)];exact hxs⟩
     ·exact .inl ⟨x,hxm,rfl,rfl,fun _=>hxs⟩
     ·have hm:=qGK he;exact .inl ⟨e,hm,rfl,rfl,fun q=>by rw[qkC h hm hxm (by omega)];exact hxs⟩
  ·rename_i hT;rw[if_neg hT];split at ho
   ·simp at ho
   ·rename_i hl;rw[if_neg hl];have hz:ecA l a=0:=qhP (qkI h (by simpa using hT));have hm:=qkI h (a:=a) (by simpa using hT);simp only;have g1:=qEz (ddP l a) l;refine⟨fun b=>?_,?_,fun e he=>?_⟩
    ·rw[qes,qc0]
     conv=>rhs;rw[← g1,qes]
     simp only;by_cases hb:a=b
     ·rw[if_pos hb,if_pos hb.symm];omega
     ·rw[if_neg hb,if_neg (qEd hb)];omega
    ·rw[qcF,qca]
     conv=>rhs;rw[← g1,qcF]
     simp only;omega
    ·rw[qFV,qFT]at he;rcases he with he | rfl | he
     ·have hx:=qGX he;exact .inl ⟨e,hx,rfl,rfl,fun q=>absurd q (hm e hx)⟩
     ·exact .inr ⟨rfl,rfl,hz⟩
     ·have hx:=qGK he;exact .inl ⟨e,hx,rfl,rfl,fun q=>absurd q (hm e hx)⟩
theorem qxs {l:List DE} (h:qal l=true) {a:Int} (ho:(qbm l a).2=true) :
  (∀ b,ecA (qbm l a).1 b=ecA l b-if b=a then 1 else 0)∧qca (qbm l a).1=qca l-1∧∀ e∈(qbm l a).1,∃ x∈l,x.ea=e.ea∧x.es=e.es:=by
 unfold qbm at ho ⊢;rw[if_neg (by simp[h])]at ho ⊢;split at ho
 ·simp at ho
 ·rename_i hT;rw[if_neg hT];obtain⟨x,hx,hxa⟩:=qcK (by simpa using hT);rw[hx]at ho ⊢;simp only at ho ⊢;obtain⟨g1,g2⟩:=qlc hx;split
  ·rename_i hc;simp only;refine⟨fun b=>?_,?_,fun e he=>?_⟩
   ·rw[qes]
    conv=>rhs;rw[g1,qes,qc0]
    simp only[hxa,hc];by_cases hb:a=b
    ·rw[if_pos hb,if_pos hb.symm];omega
    ·rw[if_neg hb,if_neg (qEd hb)];omega
   ·rw[qcF]
    conv=>rhs;rw[g1,qcF,qca]
    omega
   ·rw[qFV]at he;rcases he with he | he
    ·exact⟨e,qGX he,rfl,rfl⟩
    ·exact⟨e,qGK he,rfl,rfl⟩
  ·simp only[g2];refine⟨fun b=>?_,?_,fun e he=>?_⟩
   ·rw[qes,qc0]
    conv=>rhs;rw[g1,qes,qc0]
    simp only[hxa];by_cases hb:a=b
    ·rw[if_pos hb,if_pos hb,if_pos hb.symm];omega
    ·rw[if_neg hb,if_neg hb,if_neg (qEd hb)];omega
   ·rw[qcF,qca]
    conv=>rhs;rw[g1,qcF,qca]
    simp only;omega
   ·rw[qFV,qFT]at he;rcases he with he | rfl | he
    ·exact⟨e,qGX he,rfl,rfl⟩
    ·exact⟨x,qGk hx,rfl,rfl⟩
    ·exact⟨e,qGK he,rfl,rfl⟩
structure Cnt (l:List DE) (P:List PT):Prop where
 cnt:∀ a:Int,0<a→ecA l a=(ptN a P:Int)
 sum:∀ e∈l,∀ p∈P,p.pa=e.ea→p.ps=e.es
 tot:qca l=(nnN P:Int)
theorem ptN_pos {a:Int} {P:List PT}:0<ptN a P↔∃ p∈P,p.pa=a:=by
 unfold ptN;rw[List.countP_pos_iff];simp
theorem qAI {c:CO} (hd:qal c.ddt=true) (h1:qcL c=true) (h2:qcr c=true):Cnt c.ddt (qaC c.sets):=by
 simp only[qcL,Bool.and_eq_true,qEI,decide_eq_true_eq]at h1;simp only[qcr,qEI]at h2;obtain⟨h1,h3⟩:=h1;have hs:∀ p∈qaC c.sets,0<p.pa→∃ e∈c.ddt,e.ea=p.pa∧e.es=p.ps:=fun p hp h0=>by
  have:=h2 p hp;unfold qc7 at this;simp only[qF1,decide_eq_true_eq,Bool.and_eq_true]at this;rcases this with h | ⟨h4,h5⟩
  ·omega
  ·obtain⟨e,he,hea⟩:=qcK h4;rw[he]at h5;exact⟨e,qGk he,hea,by simpa using h5⟩
 refine⟨fun a ha=>?_,fun e he p hp hpe=>?_,h3⟩
 ·by_cases hx:∃ e∈c.ddt,e.ea=a
  ·obtain⟨e,he,rfl⟩:=hx;rw[qAv hd he,← h1 e he];unfold qeC;rw[if_pos ha]
  ·rw[qhP fun e he hea=>hx ⟨e,he,hea⟩];have:¬ 0<ptN a (qaC c.sets):=fun h=>by
    obtain⟨p,hp,hpa⟩:=ptN_pos.1 h;obtain⟨e,he,hea,_⟩:=hs p hp (by omega);exact hx ⟨e,he,by omega⟩
   omega
 ·have:=(qrI hd he).1;obtain⟨x,hx,hxa,hxs⟩:=hs p hp (by omega);rw[qkC hd he hx (by omega)];exact hxs.symm
theorem qAH {c:CO} (hd:qal c.ddt=true) (h:Cnt c.ddt (qaC c.sets)):qcL c=true∧qcr c=true:=by
 constructor
 ·simp only[qcL,Bool.and_eq_true,qEI,decide_eq_true_eq];refine⟨fun e he=>?_,h.tot⟩;have hp:=(qrI hd he).1;rw[← qAv hd he,h.cnt _ hp];unfold qeC;rw[if_pos hp]
 ·simp only[qcr,qEI];intro p hp;unfold qc7;by_cases h0:p.pa≤0
  ·simp[h0]
  ·have hn:0<ptN p.pa (qaC c.sets):=ptN_pos.2 ⟨p,hp,rfl⟩;have hc:=h.cnt p.pa (by omega);have hx:∃ e∈c.ddt,e.ea=p.pa:=qGa fun hx=>by
    rw[qhP fun e he hea=>hx ⟨e,he,hea⟩]at hc;omega
   obtain⟨e,he,hea⟩:=hx;have hes:=h.sum e he p hp hea.symm;obtain⟨g1,g2⟩:=qxw hd he;rw[hea]at g1 g2;rw[g1,g2];simp[hes]
theorem qtD {l l1 l2:List DE} {P P':List PT} {old now:PT} (hd:qal l=true) (h:Cnt l P) (hold:old∈P) (hn0:0≤now.pa) (ho0:0≤old.pa)
  (hc:∀ f:PT→Bool,P'.countP f+(if f old=true then 1 else 0)=P.countP f+(if f now=true then 1 else 0)) (hm:∀ p∈P',p∈P∨p=now)
  (h1:(now.pa=0∧l1=l)∨(now.pa≠0∧(qb0 l now.ps now.pa).2=true∧l1=(qb0 l now.ps now.pa).1))
  (h2:(old.pa=0∧l2=l1)∨(old.pa≠0∧(qbm l1 old.pa).2=true∧l2=(qbm l1 old.pa).1)):qal l2=true∧Cnt l2 P':=by
 have a1:qal l1=true∧(∀ b,0<b→ecA l1 b=ecA l b+if b=now.pa then 1 else 0)∧qca l1=qca l+(if 0<now.pa then 1 else 0)∧∀ e∈l1,(∃ x∈l,x.ea=e.ea∧x.es=e.es∧(0<now.pa→e.ea=now.pa→e.es=now.ps))∨(e.ea=now.pa∧e.es=now.ps∧ecA l now.pa=0∧0<now.pa):=by
  rcases h1 with⟨z,rfl⟩ | ⟨z,ho,rfl⟩
  ·refine⟨hd,fun b hb=>?_,?_,fun e he=>.inl ⟨e,he,rfl,rfl,fun q=>by omega⟩⟩
   ·rw[if_neg (by omega)];omega
   ·rw[if_neg (by omega)];omega
  ·obtain⟨g0,g1,g2,g3⟩:=qAX hd ho;refine⟨qot hd ho,fun b _=>g1 b,by rw[if_pos g0];exact g2,fun e he=>?_⟩;rcases g3 e he with⟨x,hx,q1,q2,q3⟩ | ⟨q1,q2,q3⟩
   ·exact .inl ⟨x,hx,q1,q2,fun _=>q3⟩
   ·exact .inr ⟨q1,q2,q3,g0⟩
 obtain⟨b1,b2,b3,b4⟩:=a1;have a2:qal l2=true∧(∀ b,0<b→ecA l2 b=ecA l1 b-if b=old.pa then 1 else 0)∧qca l2=qca l1-(if 0<old.pa then 1 else 0)∧∀ e∈l2,∃ x∈l1,x.ea=e.ea∧x.es=e.es:=by
  rcases h2 with⟨z,rfl⟩ | ⟨z,ho,rfl⟩
  ·refine⟨b1,fun b hb=>?_,?_,fun e he=>⟨e,he,rfl,rfl⟩⟩
   ·rw[if_neg (by omega)];omega
   ·rw[if_neg (by omega)];omega
  ·obtain⟨g1,g2,g3⟩:=qxs b1 ho;exact⟨ql6 b1 ho,fun b _=>g1 b,by rw[if_pos (by omega)];exact g2,g3⟩
 obtain⟨d1,d2,d3,d4⟩:=a2;refine⟨d1,fun a ha=>?_,fun e he p hp hpe=>?_,?_⟩
 ·have q:=hc fun p=>decide (p.pa=a);simp only[decide_eq_true_eq]at q;have k1:=h.cnt a ha;rw[d2 a ha,b2 a ha,k1];unfold ptN;split at q <;> split at q <;> split <;> split <;> omega
 ·obtain⟨x,hx,x1,x2⟩:=d4 e he;have hxp:0<x.ea:=(qrI b1 hx).1;rcases hm p hp with hp | rfl
  ·rcases b4 x hx with⟨y,hy,y1,y2,_⟩ | ⟨y1,y2,y3,y4⟩
   ·rw[← x2,← y2];exact h.sum y hy p hp (by omega)
   ·have k1:=h.cnt now.pa y4;have k2:0<ptN now.pa P:=ptN_pos.2 ⟨p,hp,by omega⟩;omega
  ·rcases b4 x hx with⟨y,hy,y1,y2,y3⟩ | ⟨y1,y2,y3,y4⟩
   ·rw[← x2];exact(y3 (by omega) (by omega)).symm
   ·rw[← x2];exact y2.symm
 ·have q:=hc fun p=>decide (0<p.pa);simp only[decide_eq_true_eq]at q;have k1:=h.tot;rw[d3,b3,k1];unfold nnN;split at q <;> split at q <;> (try simp only[*,if_true,if_false]) <;> omega
theorem coreOk_iff {c:CO}:qan c=true↔(0≤c.txg∧c.txg≤1000000∧qal c.ddt=true∧c.parts.length≤8∧qbt 12 c.safe=true∧0≤c.logn∧c.logn≤8∧c.sets.all qbn=true∧c.parts.all qaq=true∧qbd (c.sets.map csB)=true∧qcL c=true∧qcr c=true):=by
 unfold qan;simp only[Bool.and_eq_true,decide_eq_true_eq,and_assoc]
theorem qCn (more:Bool) (p:PT) (l:List DE) (b:Bool):(qbJ more (qhh p) (l,b,true))=if p.pa=0 then (l,b,true) else ((qhe more l p).1,true,(qhe more l p).2):=by
 rw[qlz];simp only[qbJ,qGF]
theorem qvN {l:List CS} {k:Nat} {s s':CS} (h:l[k]?=some s) (he:csB s'=csB s):(l.set k s').map csB=l.map csB:=by
 rw[qGw,he];apply qGV;intro j;rw[qFs];split
 ·rename_i hj;subst hj;split
  ·rw[qEZ,h];rfl
  ·rename_i hn;rw[qF0 (by omega)]
 ·rfl
theorem qjd {d x:DK} {c:CO} (hT:CoT c) (hc:qan c=true) {k i:Nat} {s:CS} (hs:c.sets[k]?=some s) (hi:i<8) {now:PT} (hn:qaK now=true):qan (qfP d x c k i s (s.map[i]?.getD zPT) now).2.1=true:=by
 have hs8:=hT.m8 s (qGk hs);obtain⟨old,ho⟩:∃ old,s.map[i]?=some old:=⟨_,qEv (by omega)⟩;rw[ho,qFn];unfold qfP;simp only[qCn];obtain⟨h1,h2,h3,h4,h5,h6,h7,h8,h9,h10,h11,h12⟩:=coreOk_iff.1 hc;have hcs:=h8;rw[qEI]at hcs;have hok:=hcs s (qGk hs);have hmp:∀ p∈s.map,qaK p=true:=by
  simp only[qbn,Bool.and_eq_true,qEI]at hok;exact hok.2
 have hp0:∀ p:PT,qaK p=true→0≤p.pa:=fun p hp=>by
  unfold qaK at hp;split at hp
  ·omega
  ·simp only[Bool.and_eq_true,decide_eq_true_eq]at hp;omega
 have hoP:old∈qaC c.sets:=qGQ.2 ⟨s,qGk hs,qGk ho⟩;have hC:=qAI h3 h11 h12;generalize hl1:(if now.pa=0 then (c.ddt,c.dirty,true) else ((qhe true c.ddt now).1,true,(qhe true c.ddt now).2))=A
 obtain⟨l1,b1,k1⟩:=A;simp only;generalize hl2:(if old.pa=0 then (l1,b1,true) else ((qhe false l1 old).1,true,(qhe false l1 old).2))=B
 obtain⟨l2,b2,k2⟩:=B;simp only;by_cases hf:k1=false∨k2=false
 ·rw[if_pos hf];exact hc
 ·rw[if_neg hf];have e1:k1=true:=by cases k1 <;> simp_all
  have e2:k2=true:=by cases k2 <;> simp_all
  subst e1 e2;have q1:(now.pa=0∧l1=c.ddt)∨(now.pa≠0∧(qb0 c.ddt now.ps now.pa).2=true∧l1=(qb0 c.ddt now.ps now.pa).1):=by
   split at hl1
   ·rename_i h;simp only[qEj]at hl1;exact .inl ⟨h,hl1.1.symm⟩
   ·rename_i h;simp only[qEj,qhe,if_true]at hl1;exact .inr ⟨h,hl1.2.2,hl1.1.symm⟩
  have q2:(old.pa=0∧l2=l1)∨(old.pa≠0∧(qbm l1 old.pa).2=true∧l2=(qbm l1 old.pa).1):=by
   split at hl2
   ·rename_i h;simp only[qEj]at hl2;exact .inl ⟨h,hl2.1.symm⟩
   ·rename_i h;simp only[qEj,qhe,qEq,if_false]at hl2;exact .inr ⟨h,hl2.2.2,hl2.1.symm⟩
  obtain⟨d1,d2⟩:=qtD (P':=qaC (c.sets.set k ⟨s.name,s.kind,s.frm,s.map.set i now,s.home,true⟩)) h3 hC hoP (hp0 now hn) (hp0 old (hmp old (qGk ho))) (fun f=>qjJ f hs ho rfl) (fun p hp=>qww hs rfl hp) q1 q2;obtain⟨d3,d4⟩:=qAH (c:=⟨c.txg,c.sets.set k ⟨s.name,s.kind,s.frm,s.map.set i now,s.home,true⟩,l2,c.parts,b2,c.safe,c.logn⟩) d1 d2;refine coreOk_iff.2 ⟨h1,h2,d1,h4,h5,h6,h7,?_,h9,?_,d3,d4⟩
  ·rw[qEI];intro t ht;rcases qHl ht with ht | rfl
   ·exact hcs t ht
   ·simp only[qbn,Bool.and_eq_true,qEI]at hok ⊢;refine⟨hok.1,fun p hp=>?_⟩;rcases qHl hp with hp | rfl
    ·exact hok.2 p hp
    ·exact hn
  ·simp only;rw[qvN (s':=⟨s.name,s.kind,s.frm,s.map.set i now,s.home,true⟩) hs rfl];exact h10
theorem qoC {d:DK} {c:CO} (hT:CoT c) (hc:qan c=true) (k:Nat) {i:Nat} (hi:i<8) (text:List UInt8):qan (qcO d c k i text).2.1=true:=by
 unfold qcO;cases hs:c.sets[k]? with
 | none=>exact hc
 | some s =>
  simp only;split
  ·exact qjd hT hc hs hi (by decide)
  ·split
   ·exact hc
   ·split
    ·exact hc
    ·split
     ·exact hc
     ·exact qjd hT hc hs hi (quX _ _ _)
theorem qzU {t:List UInt8} (h:(qkX t).2=true):qdi (qkX t).1=true:=by
 unfold qkX at h ⊢;split
 ·rename_i m a i x y hc;rw[hc]at h;simp only at h;split
  ·rename_i p q hm;rw[hm]at h;simp only at h;split
   ·rename_i h1;have hne:t≠[]:=by
     rintro rfl;have:=h1.1;simp[qbg,qa4]at this
    have hlr:=h1.2;unfold qbW at hlr;split at hlr
    ·exact absurd hlr.symm hne
    ·rename_i hk;simpa using hk
   ·rename_i h1;rw[if_neg h1]at h;cases h
  ·rename_i hm;split at h
   ·rename_i q;exact absurd q (hm _ _)
   ·cases h
 ·rename_i hc;split at h
  ·rename_i q;exact absurd q (hc _ _ _ _ _)
  ·cases h
def LgO (o:BO):Prop:=o.kind=3∧o.a.length≤24∧o.b=[]∧0≤o.i∧o.i<8∧o.text.length≤24
theorem qDp {r:LR} (h:qdi r=true):LgO r.op:=by
 simp only[qdi,Bool.and_eq_true,decide_eq_true_eq,qbR]at h;obtain⟨⟨⟨⟨⟨⟨h1,h2⟩,h3⟩,h4⟩,h5⟩,h6⟩,h7⟩:=h;refine⟨by omega,?_,h4,h5,h6,h7⟩;omega
theorem qrb {d:DK} {txg:Int} {o:BO} (h:o∈lfB d txg):LgO o:=by
 unfold lfB at h;rw[qur]at h;have h2:=qpT _ _ h;obtain⟨i,_,hi⟩:=qEW.1 h2;rw[qmD,qfG,qfG,qgE,qgE]at hi;split at hi
 ·rename_i g;simp only[Bool.and_eq_true]at g;injection hi with hi;subst hi;exact qDp (qzU g.1.1)
 ·split at hi
  ·rename_i g;simp only[Bool.and_eq_true]at g;injection hi with hi;subst hi;exact qDp (qzU g.1.1)
  ·cases hi
def agF:List BO→DK→CO→DK×CO×Int
 | [],d,c=>(d,c,0)
 | o::r,d,c=>if dnB c o≠0 then (d,c,dnB c o) else
  if (qcO d c (nmP c.sets o.a) o.i.toNat o.text).2.2≠0 then (d,c,(qcO d c (nmP c.sets o.a) o.i.toNat o.text).2.2) else
  agF r (qcO d c (nmP c.sets o.a) o.i.toNat o.text).1 (qcO d c (nmP c.sets o.a) o.i.toNat o.text).2.1
structure AgT (d:DK) (c:CO):Prop where
 d:qbu d=true
 t:CoT c
 c:qan c=true
theorem AgT.turn {d:DK} {c:CO} (h:AgT d c) (k:Nat) {i:Nat} (hi:i<8) (text:List UInt8):AgT (qcO d c k i text).1 (qcO d c k i text).2.1 :=
 ⟨(qsg h.d c k i text).1,qvh h.t (qbS h.c).1 k i text,qoC h.t h.c k hi text⟩
theorem qAW:∀ {l:List BO} {d:DK} {c:CO},(∀ o∈l,LgO o)→AgT d c→AgT (agF l d c).1 (agF l d c).2.1
 | [],d,c,_,h=>h
 | o::r,d,c,hl,h=>by
  have ho:=hl o (by simp);rw[agF];split
  ·exact h
  ·split
   ·exact h
   ·exact qAW (fun x hx=>hl x (by simp[hx])) (h.turn _ (by have:=ho.2.2.2;omega) _)
theorem doN (bs:List BS) (o:BO) (hl:bs.length<2000000) (hB:∀ b∈bs,b.bl.length=8) (hn:∀ b∈bs,b.name.length<1000000000) (ho:o.a.length<1000000000∧o.b.length<1000000000) :
  ACall prog 100 [.agg [.sl 1000 0 bs.length],.agg (BO.row o)] [(1000,qbB bs)] (fun r L'=>r=.tup [.agg [.sl 902 0 (doB bs o).1.length],.int .i64 (doB bs o).2]∧L'=[(902,qbB (doB bs o).1)]):=by
 refine(doC bs o hl hB hn ho).can ?_;rintro r L' ⟨id,hid,rfl,rfl⟩;simp only[qFT,qF2,or_false]at hid;rcases hid with rfl | rfl
 ·exact⟨[(1000,902)],by simp,by simp,by simp,by simp,by simp,by simp[qah,qbB]⟩
 ·exact⟨[(900,902)],by simp,by simp,by simp,by simp,by simp,by simp[qah,qbB]⟩
theorem qv3 (d:DK) (c:CO) (h:AgT d c):CV prog 42 [.agg d.row,.agg c.row] (.tup [.agg (agF (lfB d c.txg) d c).1.row,.agg (agF (lfB d c.txg) d c).2.1.row,.int .i64 (agF (lfB d c.txg) d c).2.2]):=by
 have c1:=qql d (qec h.d) c.txg;have hll:=qrc d c.txg;have hop:=fun o (ho:o∈lfB d c.txg)=>qrb ho;generalize lfB d c.txg=ls at *
 obtain⟨R,hR⟩:∃ R,agF ls d c=R:=⟨_,rfl⟩;rw[hR];simp only[DK.row]at c1;refine cvx func42 [(5,[zJ 0 [3] [],zJ 2 [] [3],zJ 3 [] [3],zJ 4 [] [3],zJ 5 [] [3],⟨1,[],[],[10],[]⟩,⟨6,[28],[],[10],[]⟩,zI 7,zI 8,zI 9,zJ 10 [] [3],zI 11,zI 12]),(7,[zJ 0 [2] [],zJ 1 [3] [2],zJ 2 [] [2,3],zJ 3 [] [3],zI 4,zI 5]),(8,[zJ 0 [3] [],zJ 2 [] [3],zJ 3 [] [3],zJ 4 [] [3],zJ 5 [] [3],zJ 6 [] [3],zI 1,zI 7,zI 8,zI 9,zI 10,zI 11,zI 12]),(9,[zJ 0 [2] [],zJ 1 [3] [2],zJ 2 [] [2,3],zJ 3 [] [2,3],zJ 4 [] [2,3],zJ 5 [] [2,3],zJ 6 [] [2,3],zJ 7 [] [2,3],zJ 8 [] [2,3],zJ 9 [] [2,3],zJ 10 [] [2,3],zJ 11 [] [2,3],zJ 12 [] [2,3],⟨13,[],[],[18,19],[]⟩,zI 14,zI 15,zI 16,zI 17,zJ 18 [] [2,3],zJ 19 [] [2,3],zI 20,zI 21,zI 22]),(11,[zJ 0 [2] [],zJ 1 [3] [2],zJ 2 [] [2,3],zJ 3 [] [3],zI 4,zI 5]),(14,[zJ 0 [2] [],zJ 1 [3] [2],zJ 2 [] [3],zI 3,zI 4])] ntmps42 rfl rfl rfl ?_ (hca:=by simp[DK.row,qde]) (hcv:=by simp[DK.row,qde]);simp[DK.row,CO.row];refine c1.call ?_;simp;refine qbl (X:=Nat×DK×CO) [2,3,4,5,7,8] [(2,2),(3,3),(4,4),(5,5)] (fun x=>[(8,.int .i64 x.1)]) (fun x=>[(2,⟨3,[x.2.1.row]⟩),(3,⟨7,[x.2.2.row]⟩),(4,⟨3,[[.nils,.nils,.nils]]⟩),(5,⟨7,[[.int .i64 0,.nils,.nils,.nils,.bool false,.nils,.int .i64 0]]⟩)]) (fun x=>ls.length-x.1) (fun x=>x.1≤ls.length∧AgT x.2.1 x.2.2∧agF (ls.drop x.1) x.2.1 x.2.2=R) (0,d,c) ⟨by simp,h,by simpa using hR⟩ ?_ (he:=by simp[qah,DK.row,CO.row]);rintro⟨i,d,c⟩ ⟨hi,hT,hF⟩;simp only at hi hT hF;cases hr:ls.drop i with
 | nil =>
  have:=qa0 hr;have hie:i=ls.length:=by omega
  subst hie;rw[hr,agF]at hF;subst hF;simp[DK.row,CO.row]
 | cons o r =>
  obtain⟨g1,e0,e1,g3⟩:=qa1 hr;obtain⟨o1,o2,o3,o4,o5,o6⟩:=hop o (qGk e1);have e2:=qak ((i:Int)+1) (by omega) (by omega);obtain⟨hm,k1,k2,k3,k4,k5,k6,k7⟩:=qbS hT.c;have cn:=qmy c (by omega) hT.t.m8;have cn2:=qqi c (by omega) hT.t.m8;have cd:=doN (c.sets.map csB) o (by simp;omega) (fun b hb=>by
   obtain⟨s,hs,rfl⟩:=qEW.1 hb;simp[csB]) (fun b hb=>by
   obtain⟨s,hs,rfl⟩:=qEW.1 hb;have:=(hT.t.nm s hs).1;simp[csB];omega) ⟨by omega,by simp[o3]⟩
  have ca:=qhu (atC (c.sets.map csB) o.a (by simp;omega)) (hca:=by simp[bk]) (hcv:=by simp);rw[← qqY]at ca;have hdn:(doB (c.sets.map csB) o).2=dnB c o:=rfl;rw[hr,agF]at hF;simp only[CO.row]at cn cn2;simp[DK.row,CO.row,BO.row,g1,e0,e1,show(i:Int)<ls.length by omega];refine qac [] (by kernel_rfl) cn (by simp[DE.row,PT.row,qaf,qa5]) (by simp) trivial (by simp) (by simp) ?_;rintro r L' ⟨rfl,rfl⟩;refine⟨[(900,28)],⟨by simp,by simp,by simp,by simp,by simp⟩,?_⟩;simp only[qad];simp[BO.row];generalize hX:doB (c.sets.map csB) o=X at *
  obtain⟨xb,xc⟩:=X;simp only at hdn;subst hdn;simp only[BO.row,qFx]at cd;refine qac [(1000,.whole 28)] (by kernel_rfl) cd (by simp) (by simp) (by simp[qbB];exact qaa rfl (by simp)) (by simp) (by simp) ?_;rintro r L' ⟨rfl,rfl⟩;refine⟨[(902,902)],⟨by simp,by simp,by simp,by simp,by simp⟩,?_⟩;simp only[qad];by_cases hz:dnB c o≠0
  ·rw[if_pos hz]at hF;subst hF;simp[hz,DK.row,CO.row]
  ·rw[if_neg hz]at hF;have hz0:dnB c o=0:=by omega
   obtain⟨_,q2,_,_⟩:=qom hz0;have ct:=qyZ d (qec hT.d) c hT.t hm (nmP c.sets o.a) o.i.toNat (q2 (by omega)) (by omega) o.text (by omega) ⟨by omega,by omega⟩;have hTu:=hT.turn (nmP c.sets o.a) (i:=o.i.toNat) (by omega) o.text;rw[show((o.i.toNat:Nat):Int)=o.i by omega]at ct;generalize qcO d c (nmP c.sets o.a) o.i.toNat o.text=Y at *
   obtain⟨yd,yc,yn⟩:=Y;simp only at hF hTu;simp only[DK.row,CO.row]at ct;simp only[bk,qE3]at cn2 ca;simp[hz0,BO.row,DK.row,CO.row,g1,e0,e1];refine cn2.call ?_;simp;refine ca.call ?_;simp[BO.row,g1,e0,e1];refine ct.call ?_;by_cases hy:yn≠0
   ·rw[if_pos hy]at hF;subst hF;simp[hy,DK.row,CO.row]
   ·rw[if_neg hy]at hF;simp[show yn=0 by omega,DK.row,CO.row];exact nx (i+1,yd,yc) [(2,2),(3,3),(4,4),(5,5)] ⟨by simp only;omega,hTu,by simp only[g3];exact hF⟩ (by simp only;omega) (h4:=by simp[qah,e2,DK.row,CO.row])
def agB (d:DK):DK×CO×Int:=if (rrB d).2≠0 then (zDK,zK,(rrB d).2) else agF (lfB d (rrB d).1.txg) d (rrB d).1
theorem qxN {d:DK} {p:PT} (h:(qai d p).2=0):qaK p=true:=by
 unfold qai at h;split at h
 ·simp at h
 ·split at h
  ·rename_i g;exact(qdq g).2.1
  ·split at h
   ·rename_i g;exact(qdq g).2.1
   ·simp at h
theorem qwn {p:PT} (h:qaK p=true):p.pa<120:=by
 unfold qaK at h;split at h
 ·omega
 ·simp only[Bool.and_eq_true,decide_eq_true_eq]at h;omega
theorem qlu:∀ {l:List Int} {q:Int},(∀ x∈l,q<x∧13≤x∧x<120)→l.Pairwise (· < ·)→qbt q l=true
 | [],_,_,_=>rfl
 | x::r,q,h,hp=>by
  rw[qHr]at hp;have hx:=h x (by simp);simp only[qbt,Bool.and_eq_true,decide_eq_true_eq];exact⟨⟨⟨hx.2.1,hx.2.2⟩,hx.1⟩,qlu (fun y hy=>⟨hp.1 y hy,(h y (by simp[hy])).2⟩) hp.2⟩
theorem qln {c:CO} (hc:qan c=true) {root:Int} (hr:root<120):qbt 12 (qcc c root)=true:=by
 obtain⟨h1,h2,h3,h4,h5,h6,h7,h8,h9,h10,h11,h12⟩:=coreOk_iff.1 hc;have h0:([]:List Int).Pairwise (· < ·):=.nil;obtain⟨a1,a2⟩:=qni h0 root;obtain⟨b1,b2⟩:=qey (c.ddt.map DE.ea) a1;obtain⟨c1,c2⟩:=qey (c.sets.map fun s=>s.home.pa) b1;obtain⟨d1,d2⟩:=qey (c.parts.map PT.pa) c1;refine qlu (fun x hx=>?_) d1;have hx2:=(d2 x).1 hx;rw[c2,b2,a2]at hx2;rw[qEI]at h8 h9;have k1:∀ y∈c.ddt.map DE.ea,y<120:=fun y hy=>by
  obtain⟨e,he,rfl⟩:=qEW.1 hy;have:=qgi (qg8 h3 e he);omega
 have k2:∀ y∈c.sets.map (fun s=>s.home.pa),y<120:=fun y hy=>by
  obtain⟨s,hs,rfl⟩:=qEW.1 hy;have:=h8 s hs;simp only[qbn,Bool.and_eq_true]at this;exact qwn this.1.2
 have k3:∀ y∈c.parts.map PT.pa,y<120:=fun y hy=>by
  obtain⟨p,hp,rfl⟩:=qEW.1 hy;exact qwn (qdW (h9 p hp)).1
 rcases hx2 with((((hx2 | ⟨rfl,hx3⟩) | ⟨hx2,hx3⟩) | ⟨hx2,hx3⟩) | ⟨hx2,hx3⟩)
 ·simp at hx2
 ·omega
 ·have:=k1 x hx2;omega
 ·have:=k2 x hx2;omega
 ·have:=k3 x hx2;omega
theorem qmA {d:DK} (h:(rrB d).2=0):AgT d (rrB d).1:=by
 obtain⟨x,hd,hT,hx,hk⟩:=qzf h;have hroot:qaK (rbB d).2=true:=by
  unfold rrB at h;split at h
  ·split at h
   ·rename_i q;simp only[rrF,Bool.and_eq_true,decide_eq_true_eq]at q;exact qxN q.1
   ·simp at h
  ·simp at h
 rw[hx];refine⟨hd,hT,?_⟩;obtain⟨h1,h2,h3,h4,h5,h6,h7,h8,h9,h10,h11,h12⟩:=coreOk_iff.1 hk;exact coreOk_iff.2 ⟨h1,h2,h3,h4,qln hk (qwn hroot),h6,h7,h8,h9,h10,h11,h12⟩
theorem qxS {d:DK} (h:(agB d).2.2=0):AgT (agB d).1 (agB d).2.1:=by
 unfold agB at h ⊢;split
 ·rename_i q;rw[if_pos q]at h;exact absurd h q
 ·rename_i q;exact qAW (fun o ho=>qrb ho) (qmA (by omega))
def zpR:List AV:=[.nils,.nils,.nils,.int .i64 0,.nils,.nils,.nils,.bool false,.nils,.int .i64 0,.bool false]
def qDQ (R:DK×CO×Int) (r:AV) (L':List (Nat×Ob)):Prop :=
 (R.2.2≠0∧r=.tup [.agg zpR,.int .i64 R.2.2]∧L'=[]) ∨
 (R.2.2=0∧r=.tup [.agg (qfi ⟨R.1,R.2.1,true⟩ 901 902 903 904 905 906 907),.int .i64 0]∧L'=qcG ⟨R.1,R.2.1,true⟩ 901 902 903 904 905 906 907)
theorem qwT (d:DK) (h:DkT d):ACall prog 45 [.agg d.row] [] (qDQ (agB d)):=by
 obtain⟨R,hR⟩:∃ R,agB d=R:=⟨_,rfl⟩;rw[hR];unfold agB at hR;have c1:=qo5 d h;have c2:=qiC d h;have c3:=qrq d h (rrB d).1.txg;have hll:=qrc d (rrB d).1.txg;have hop:=fun o (ho:o∈lfB d (rrB d).1.txg)=>qrb ho;have hT0:=@qmA d;generalize lfB d (rrB d).1.txg=ls at *
 generalize rrB d=K at *
 obtain⟨c,kn⟩:=K;simp only at c3 hR hT0;simp only[DK.row]at c1 c2 c3;refine acx func45 [(4,[zJ 0 [1] [],zJ 2 [4] [1],⟨1,[],[4],[4],[]⟩,zI 3,zJ 4 [] [1,4],zI 5]),(8,[zI 0,zJ 1 [6] [],zJ 3 [8] [6],⟨2,[904,905,906,907],[8],[8],[]⟩,⟨4,[37],[],[8],[]⟩,zI 5,zI 6,zI 7,zJ 8 [] [6,8],zI 9,zI 10])] ntmps45 rfl rfl rfl ?_;simp[DK.row];refine qac [] (by kernel_rfl) c1 (by simp[qae,LT.row]) (by simp) trivial (by simp) (by simp) ?_;rintro r L' (⟨_,hk,rfl,rfl⟩ | ⟨hk,rfl,rfl⟩)
 ·simp only at hk;rw[if_pos hk]at hR;subst hR;refine⟨[],⟨by simp,by simp,by simp,by simp,by simp⟩,?_⟩;simp only[qad];simp[hk];exact⟨[],by simp,.inl ⟨hk,rfl,rfl⟩⟩
 ·simp only at hk;subst hk;rw[if_neg (by simp)]at hR;have hT:=hT0 rfl;refine⟨[(904,904),(905,905),(906,906),(907,907)],⟨by simp,by simp,by simp,by simp,by simp⟩,?_⟩;simp only[qad];simp[qcy];refine qac [] (by kernel_rfl) c2 (by simp[qae,LT.row]) (by simp) trivial (by simp) (by simp) ?_;rintro r L' ⟨rfl,rfl⟩;refine⟨[(6,901),(10,902),(14,903)],⟨by simp,by simp,by simp,by simp,by simp⟩,?_⟩;simp only[qad];simp;refine c3.call ?_;simp;refine qbl (X:=Nat×DK×CO) [2,6,28,29,30] [(2,2),(6,6),(901,901),(902,902),(903,903),(904,904),(905,905),(906,906),(907,907)] (fun x=>[(30,.int .i64 x.1)]) (fun x=>(2,⟨11,[zpR]⟩)::(6,⟨11,[qeD x.2.1 x.2.2 true 901 902 903 904 905 906 907]⟩)::qcG ⟨x.2.1,x.2.2,true⟩ 901 902 903 904 905 906 907) (fun x=>ls.length-x.1) (fun x=>x.1≤ls.length∧AgT x.2.1 x.2.2∧agF (ls.drop x.1) x.2.1 x.2.2=R) (0,d,c) ⟨by simp,hT,by simpa using hR⟩ ?_ (he:=by simp[qah,qeD,qcG,zpR]);rintro⟨i,d,c⟩ ⟨hi,hT,hF⟩;simp only at hi hT hF;cases hr:ls.drop i with
  | nil =>
   have:=qa0 hr;have hie:i=ls.length:=by omega
   subst hie;rw[hr,agF]at hF;subst hF;simp[qeD,qcG];exact⟨qcG ⟨d,c,true⟩ 901 902 903 904 905 906 907,by simp[qcG],.inr ⟨rfl,by simp[qfi],rfl⟩⟩
  | cons o r =>
   obtain⟨g1,e0,e1,g3⟩:=qa1 hr;obtain⟨o1,o2,o3,o4,o5,o6⟩:=hop o (qGk e1);have e2:=qak ((i:Int)+1) (by omega) (by omega);obtain⟨hm,k1,k2,k3,k4,k5,k6,k7⟩:=qbS hT.c;have cn:=qrA c (by omega) hT.t.m8;have hbk:qbd (c.sets.map csB)=true:=qiS hT.c;have cd:=qDU (c.sets.map csB) o ⟨by simp;omega,fun b hb=>by
    obtain⟨s,hs,rfl⟩:=qEW.1 hb;have:=hT.t.nm s hs;simp[csB];omega⟩ ⟨by omega,by simp[o3]⟩
   have hdn:(qx9 (c.sets.map csB) o).2=dnB c o:=by
    unfold qx9 dnB;rw[if_pos hbk]
   rw[hr,agF]at hF;rw[hdn]at cd;simp only[CO.row]at cn;simp only[bk,BO.row]at cd;simp[qeD,qcG,BO.row,g1,e0,e1,show(i:Int)<ls.length by omega];refine qaO [] (by kernel_rfl) cn (by simp[qb1,mtA,kcs,qaH,kpt,kin,qam,qa5]) (by simp) trivial (by simp) (by simp) ?_;rintro r0 L' ⟨rfl,rfl⟩;refine⟨by simp[noL],by simp[qbB,qn0],[(900,37)],⟨by simp,by simp,by simp,by simp,by simp⟩,?_⟩;simp only[qad];simp[BO.row];refine qaO [] (by kernel_rfl) cd (by simp[qb1,mtA,qbB];exact qEK (by simp)) (by simp) trivial (by simp) (by simp) ?_;rintro r0 L' ⟨rfl,rfl⟩;refine⟨by simp[noL],by simp[qbB,qn0],[(903,39)],⟨by simp,by simp,by simp,by simp,by simp⟩,?_⟩;simp only[qad];by_cases hz:dnB c o≠0
   ·rw[if_pos hz]at hF;subst hF;simp[hz];exact⟨[],by simp,.inl ⟨hz,by simp[zpR],rfl⟩⟩
   ·rw[if_neg hz]at hF;have hz0:dnB c o=0:=by omega
    obtain⟨_,q2,_,_⟩:=qom hz0;have cp:=qAd d hT.d c hT.t hT.c true o (q2 (by omega)) ⟨by omega,by omega⟩ (by omega);have hTu:=hT.turn (nmP c.sets o.a) (i:=o.i.toNat) (by omega) o.text;generalize qcO d c (nmP c.sets o.a) o.i.toNat o.text=Y at *
    obtain⟨yd,yc,yn⟩:=Y;simp only at hF hTu;simp only[BO.row]at cp;simp[hz0,BO.row];refine qac [(1000,.whole 6),(1001,.whole 901),(1002,.whole 902),(1003,.whole 903),(1004,.whole 904),(1005,.whole 905),(1006,.whole 906),(1007,.whole 907)] (by kernel_rfl) cp (by simp) (by simp) (by simp[qco,qeD];exact⟨.inr ⟨_,_,rfl,rfl,by simp⟩,qaa rfl (qaz _),qaa rfl (qaz _),qaa rfl (qcm _),qaa rfl (qaX _),qaa rfl (qbw _),qaa rfl (qbi _),qaa rfl (qaM _)⟩) (by simp[qco]) (by simp) ?_;rintro r0 L' ⟨d',c',i3,i5,h3,h5,rfl,rfl,hq⟩;simp only[qFT,qF2,or_false]at h3 h5;subst h3 h5;simp only at hq;refine⟨[(903,813),(905,815)],⟨by simp[qco],by simp,by simp,by simp[qco],by simp[qco]⟩,?_⟩;simp only[qad];by_cases hy:yn≠0
    ·rw[if_pos hy]at hF;subst hF;simp[hy,qco,qeD];exact⟨[],by simp,.inl ⟨hy,by simp[zpR],rfl⟩⟩
    ·rw[if_neg hy]at hF;obtain⟨rfl,rfl⟩:=hq (by omega);simp[show yn=0 by omega,qco,qeD];exact nx (i+1,d',c') [(2,2),(6,6),(901,901),(902,902),(813,903),(904,904),(815,905),(906,906),(907,907)] ⟨by simp only;omega,hTu,by simp only[g3];exact hF⟩ (by simp only;omega) (h4:=by simp[qah,e2,zpR,qeD,qcG])
def qeL (d:DK):PO×Int:=if (agB d).2.2≠0 then (⟨zDK,zK,false⟩,(agB d).2.2) else
 if (qbo (agB d).1 (agB d).2.1).2.2≠0 then (⟨zDK,zK,false⟩,(qbo (agB d).1 (agB d).2.1).2.2) else
 (⟨(qbo (agB d).1 (agB d).2.1).1,(qbo (agB d).1 (agB d).2.1).2.1,true⟩,0)
theorem qsz (d:DK) (h:DkT d):CV prog 19 [.agg d.row] (.tup [.agg (qeL d).1.row,.int .i64 (qeL d).2]):=by
 obtain⟨R,hR⟩:∃ R,qeL d=R:=⟨_,rfl⟩;rw[hR];have c1:=qoN d h;have c2:=qqs d h;have c3:=fun hz=>qv3 d (rrB d).1 (@qmA d hz);have hT:=@qxS d;have c4:=fun hz=>qsB (agB d).1 (qec (hT hz).d) (agB d).2.1 (hT hz).t;unfold qeL at hR;have hag:agB d=if (rrB d).2≠0 then (zDK,zK,(rrB d).2) else agF (lfB d (rrB d).1.txg) d (rrB d).1:=rfl
 refine CV.of_imp ?_ (hca:=by simp[DK.row]) (hcv:=by simp[PO.row,DK.row,qde]);refine acx func19 [(4,[zJ 0 [1] [],zJ 2 [4] [1],⟨1,[],[4],[8,9],[]⟩,⟨3,[],[],[8,9],[]⟩,zI 4,zI 5,zI 6,zI 7,zJ 8 [] [1,4],zJ 9 [] [1,4],zI 10,zI 11,zI 12])] ntmps19 rfl rfl rfl ?_;simp only[DK.row,CO.row]at c1 c2;simp[DK.row];refine c1.call ?_;by_cases q:(rrB d).2≠0
 ·rw[if_pos q]at hag;rw[hag]at hR;rw[if_pos q]at hR;subst hR;simp[q];exact qdz (.cons qkj (.cons (qaF _) .nil))
 ·rw[if_neg q]at hag;have q0:(rrB d).2=0:=by omega
  have c3:=c3 q0;rw[← hag]at c3;generalize agB d=G at *
  obtain⟨x,y,n⟩:=G;simp only at hR c3 c4 hT;simp only[DK.row,CO.row]at c3;simp[q0];refine c2.call ?_;simp;refine c3.call ?_;by_cases q1:n≠0
  ·rw[if_pos q1]at hR;subst hR;simp[q1];exact qdz (.cons qkj (.cons (qaF _) .nil))
  ·rw[if_neg q1]at hR;have q2:n=0:=by omega
   have c4:=c4 q2;generalize qbo x y=W at *
   obtain⟨u,v,k⟩:=W;simp only at hR;simp only[DK.row,CO.row]at c4;simp[q2];refine c4.call ?_;by_cases q3:k≠0
   ·rw[if_pos q3]at hR;subst hR;simp[q3];exact qdz (.cons qkj (.cons (qaF _) .nil))
   ·rw[if_neg q3]at hR;subst hR;simp[show k=0 by omega,PO.row,DK.row,CO.row]
def riQ (R:PO×Int) (r:AV) (L':List (Nat×Ob)):Prop :=
 (R.1=⟨zDK,zK,false⟩∧r=.tup [.agg zpR,.int .i64 R.2]∧L'=[]) ∨
 (r=.tup [.agg (qfi R.1 901 902 903 904 905 906 907),.int .i64 R.2]∧L'=qcG R.1 901 902 903 904 905 906 907)
theorem qog (d:DK) (h:DkT d):ACall prog 20 [.agg d.row] [] (riQ (qeL d)):=by
 obtain⟨R,hR⟩:∃ R,qeL d=R:=⟨_,rfl⟩;rw[hR];unfold qeL at hR;have c1:=qwT d h;have hT:=@qxS d;have hcb:=fun hz=>@qgR (agB d).1 (agB d).2.1 (hT hz).t;have c2:=fun hz=>qrn (agB d).1 (qec (hT hz).d) (agB d).2.1 (hT hz).t true;generalize agB d=G at *
 obtain⟨x,y,n⟩:=G;simp only at hR c2 hT hcb;simp only[DK.row]at c1;refine acx func20 [] ntmps20 rfl rfl rfl ?_;simp[DK.row];refine qac [] (by kernel_rfl) c1 (by simp[qae,LT.row]) (by simp) trivial (by simp) (by simp) ?_;rintro r L' (⟨hk,rfl,rfl⟩ | ⟨hk,rfl,rfl⟩)
 ·simp only at hk;rw[if_pos hk]at hR;subst hR;refine⟨[],⟨by simp,by simp,by simp,by simp,by simp⟩,?_⟩;simp only[qad,zpR];simp[hk];exact⟨[],by simp,.inl ⟨rfl,by simp[zpR],rfl⟩⟩
 ·simp only at hk;subst hk;rw[if_neg (by simp)]at hR;have c2:=c2 rfl;have hcb:=hcb rfl;generalize qbo x y=W at *
  obtain⟨u,v,k⟩:=W;simp only at hR hcb;refine⟨[(901,801),(902,802),(903,803),(904,804),(905,805),(906,806),(907,807)],⟨by simp[qcG],by simp,by simp,by simp[qcG],by simp⟩,?_⟩;simp only[qad];simp[qcG,qfi];refine qac [(1000,.whole 4),(1001,.whole 801),(1002,.whole 802),(1003,.whole 803),(1004,.whole 804),(1005,.whole 805),(1006,.whole 806),(1007,.whole 807)] (by kernel_rfl) c2 (by simp) (by simp) (by simp[qco,qeD];exact⟨.inr ⟨_,_,rfl,rfl,by simp⟩,qaa rfl (qaz _),qaa rfl (qaz _),qaa rfl (qcm _),qaa rfl (qaX _),qaa rfl (qbw _),qaa rfl (qbi _),qaa rfl (qaM _)⟩) (by simp[qco]) (by simp) ?_;rintro r L' ⟨d',c',rfl,rfl,hq⟩;simp only at hq;refine⟨[(901,811),(902,812),(903,813),(904,814),(905,815),(906,816),(907,817)],⟨by simp[qco],by simp,by simp,by simp[qco],by simp⟩,?_⟩;simp only[qad];by_cases q:k≠0
  ·rw[if_pos q]at hR;subst hR;simp[qco,qeD,q];exact⟨[],by simp,.inl ⟨rfl,by simp[zpR],rfl⟩⟩
  ·rw[if_neg q]at hR;subst hR;have hq0:k=0:=by omega
   obtain⟨rfl,rfl⟩:=hq hq0;obtain⟨_,_,h3,_,h5,_⟩:=hcb hq0;have c4:=qAe ⟨d',c',true⟩ (qec h3) h5;simp only[PO.row,DK.row,CO.row,qGj,qE5]at c4;simp[qco,qeD,hq0];refine qaO [] (by kernel_rfl) c4 (by simp[qb1,mtA,qaj,qbZ,kcs,qaH,kpt,kin,qam,qa5,qae,LT.row]) (by simp) trivial (by simp) (by simp) ?_;rintro r L' ⟨rfl,rfl⟩;refine⟨by simp[qfi,noL],by simp[qcG,qaj,qbZ,kcs,qaH,kpt,kin,qaf,DE.row,PT.row,qf3,qae,LT.row],[(901,901),(902,902),(903,903),(904,904),(905,905),(906,906),(907,907)],⟨by simp[qcG],by simp,by simp,by simp[qcG],by simp⟩,?_⟩;simp only[qad];simp[qcG,qfi];exact⟨qcG ⟨d',c',true⟩ 901 902 903 904 905 906 907,by simp[qcG],.inr ⟨by simp[qfi],rfl⟩⟩
theorem qta (d:DK) (h:DkT d):CV prog 20 [.agg d.row] (.tup [.agg (qeL d).1.row,.int .i64 (qeL d).2]):=by
 refine CV.of_frz (qog d h) ?_ (hca:=by simp[DK.row]) (hcv:=by simp[PO.row,DK.row,qde]);rintro r L' (⟨h1,rfl,rfl⟩ | ⟨rfl,rfl⟩)
 ·refine⟨by simp,by simp,by simp,?_⟩;rw[h1];simp only[qbj];exact qdz (.cons qkj (.cons (qaF _) .nil))
 ·generalize qeL d=R;refine⟨by simp[qcG],by simp[qcG],fun x hx=>?_,?_⟩
  ·simp only[qcG,qFT,qF2,or_false]at hx;rcases hx with rfl | rfl | rfl | rfl | rfl | rfl | rfl
   ·exact qaz _
   ·exact qaz _
   ·exact qcm _
   ·exact qaX _
   ·exact qbw _
   ·exact qbi _
   ·exact qaM _
  ·simp[qbj,qcG,qfi,qaj,qbZ,kcs,qaH,kpt,kin,qam,PO.row,DK.row,CO.row]
theorem qwa (d:DK):DkT (qeL d).1.d∧CoT (qeL d).1.c:=by
 unfold qeL;split
 ·exact⟨qyr,qDn⟩
 ·rename_i q;split
  ·exact⟨qyr,qDn⟩
  ·rename_i q2;obtain⟨_,_,h3,_,h5,_⟩:=qgR (qxS (by omega)).t (show(qbo (agB d).1 (agB d).2.1).2.2=0 by omega);exact⟨qec h3,h5⟩
theorem qwl (n:Int):qsR poN (.tup [.agg zpR,.int .i64 n]) (.tup [.agg (qfi ⟨zDK,zK,false⟩ 901 902 903 904 905 906 907),.int .i64 n]) :=
 qsP (.cons qzz (.cons (qd8 _ _) .nil))
theorem qs9 (d:DK) (h:DkT d) :
  ACall prog 20 [.agg d.row] [] (fun r L'=>r=.tup [.agg (qfi (qeL d).1 901 902 903 904 905 906 907),.int .i64 (qeL d).2]∧L'=qcG (qeL d).1 901 902 903 904 905 906 907):=by
 refine ACall.phl poN (qog d h) ?_;rintro r L' (⟨h1,rfl,rfl⟩ | ⟨rfl,rfl⟩)
 ·rw[h1];exact .inr ⟨by simp[zpR],rfl,_,qwl _,rfl,rfl⟩
 ·exact .inl ⟨rfl,rfl⟩
theorem qBY (d:DK) (h:DkT d):CV prog 9 [.agg d.row] (.agg d.row):=by
 refine CV.of_frz (qyH d h) ?_ (hca:=by simp[DK.row]) (hcv:=by simp[DK.row]);rintro r L' ⟨rfl,rfl⟩;refine⟨by simp,by simp,fun x hx=>?_,?_⟩
 ·simp only[qFT,qF2,or_false]at hx;rcases hx with rfl | rfl | rfl
  ·exact qaz _
  ·exact qaz _
  ·exact qcm _
 ·simp[qbj,qcq,qaj,qbZ,qam,DK.row]
theorem qB1 (d:DK) (hg:DkG d):∃ z:Int,z≤1048576∧(0≤z→DkT d)∧CV prog 7 [.agg d.row,.int .i64 1048576] (.int .i64 z):=by
 have h:=qpX d (left:=1048576) (by omega);refine⟨qt5 d 1048576,by omega,fun hz=>?_,qB0 d 1048576 hg (by omega)⟩;obtain⟨h1,h2,h3,h4,h5,h6⟩:=h.2.2 hz;exact⟨by omega,by omega,by omega,fun t ht=>by have:=h4 t ht;omega,fun t ht=>by have:=h5 t ht;omega,fun t ht=>by have:=h6 t ht;omega⟩
theorem dkA_shp {avs:List AV} (h:Shp prog 10 26 avs):∃ d:DK,DkG d∧avs=d.row:=qAz (n:=4) h
theorem lawRiseDo (d:DK) (hd:DkG d):CV prog 5 [.agg d.row] (.bool true):=by
 obtain⟨z,z1,z3,c0⟩:=qB1 d hd;simp only[DK.row]at c0;refine cvx func5 [(10,[zJ 0 [6] [],zJ 1 [1] [6],zJ 2 [] [6],zI 3,zI 4])] ntmps5 rfl rfl rfl ?_ (hca:=by simp[DK.row]);simp[DK.row];refine c0.call ?_;by_cases hz:z<0
 ·simp[hz]
 have hdT:=z3 (by omega);simp[hz];have c1:=qBY d hdT;have c3:=qsz d hdT;have c4:=qta d hdT;have c5:=qyH d hdT;have c6:=qs9 d hdT;obtain⟨qd,qc⟩:=qwa d;generalize qeL d=R at *
 obtain⟨q,n⟩:=R;simp only at qd qc;have c7:=qC1 q qd qc;have c8:=qAs d hdT;have c9:=qq6 d 1 hdT (by omega);have c10:=qwy q 1 qd qc (by omega);have c11:=qw3 q 1 qd qc (by omega);simp only[PO.row,DK.row,CO.row,qfi,qcG,qcq,qGj,qE5,qHv,qHx,Int.natCast_one]at c1 c3 c4 c5 c6 c7 c8 c9 c10 c11;refine c1.call ?_;simp;refine c3.call ?_;simp;refine qac [] (by kernel_rfl) c5 (by simp[qae,LT.row]) (by simp) trivial (by simp) (by simp) ?_;rintro r L' ⟨rfl,rfl⟩;refine⟨[(901,901),(902,902),(903,903)],⟨by simp,by simp,by simp,by simp,by simp⟩,?_⟩;simp only[qad];simp;refine qaO [] (by kernel_rfl) c6 (by simp[qb1,mtA,qaj,qbZ,qam,qae,LT.row]) (by simp) trivial (by simp) (by simp) ?_;rintro r L' ⟨rfl,rfl⟩;refine⟨by simp[noL],by simp[qaj,qbZ,kcs,qaH,kpt,kin,qaf,DE.row,PT.row,qf3,qae,LT.row],[(901,911),(902,912),(903,913),(904,914),(905,915),(906,916),(907,917)],⟨by simp,by simp,by simp,by simp,by simp⟩,?_⟩;simp only[qad];simp;refine c7.view (by simp[qb1,mtA,qaj,qbZ,kcs,qaH,kpt,kin,qam,qa5,qae,LT.row]) ?_;simp;refine c1.call ?_;simp;refine c8.view (by simp[qb1,mtA,qaj,qbZ,kcs,qaH,kpt,kin,qam,qa5,qae,LT.row]) ?_;simp;refine qac [(1000,.whole 901),(1001,.whole 902),(1002,.whole 903)] (by kernel_rfl) c9 (by simp) (by simp) ⟨⟨qaj d.s0,by simp,rfl,qaa rfl (qaz _)⟩,⟨qaj d.s1,by simp,rfl,qaa rfl (qaz _)⟩,⟨qbZ d.late,by simp,rfl,qaa rfl (qcm _)⟩,trivial⟩ (by simp) (by simp) ?_;rintro r L' ⟨rfl,rfl⟩;refine⟨[],⟨by simp,by simp,by simp,by simp,by simp⟩,?_⟩;simp only[qad];have hw1:¬ (1+(wD d:Int))<0:=by omega
 have hw2:¬ (1+(wP q:Int))<0:=by omega
 simp[hw1];refine c7.view (by simp[qb1,mtA,qaj,qbZ,kcs,qaH,kpt,kin,qam,qa5,qae,LT.row]) ?_;simp;refine qac [(1000,.whole 911),(1001,.whole 912),(1002,.whole 913),(1003,.whole 914),(1004,.whole 915),(1005,.whole 916),(1006,.whole 917)] (by kernel_rfl) c10 (by simp) (by simp) ⟨⟨qaj q.d.s0,by simp,rfl,qaa rfl (qaz _)⟩,⟨qaj q.d.s1,by simp,rfl,qaa rfl (qaz _)⟩,⟨qbZ q.d.late,by simp,rfl,qaa rfl (qcm _)⟩,⟨kcs q.c.sets,by simp,rfl,qaa rfl (qaX _)⟩,⟨qaH q.c.ddt,by simp,rfl,qaa rfl (qbw _)⟩,⟨kpt q.c.parts,by simp,rfl,qaa rfl (qbi _)⟩,⟨kin q.c.safe,by simp,rfl,qaa rfl (qaM _)⟩,trivial⟩ (by simp) (by simp) ?_;rintro r L' ⟨rfl,rfl⟩;refine⟨[],⟨by simp,by simp,by simp,by simp,by simp⟩,?_⟩;simp only[qad];simp;have m0:(mkP q 1).d.s0.length=q.d.s0.length:=qdc _ _ _ _;have m1:(mkP q 1).d.s1.length=q.d.s1.length:=qdc _ _ _ _;have m2:(mkP q 1).d.late.length=q.d.late.length:=qdc _ _ _ _;have m3:(mkP q 1).c.sets.length=q.c.sets.length:=qit _ _;have m4:(mkP q 1).c.ddt.length=q.c.ddt.length:=qdc _ _ _ _;have m5:(mkP q 1).c.parts.length=q.c.parts.length:=qdc _ _ _ _;have m6:(mkP q 1).c.safe.length=q.c.safe.length:=qdc _ _ _ _;have m7:(mkP q 1).c.txg=q.c.txg∧(mkP q 1).c.dirty=q.c.dirty∧(mkP q 1).c.logn=q.c.logn∧(mkP q 1).up=q.up:=⟨rfl,rfl,rfl,rfl⟩;obtain⟨m7,m8,m9,m10⟩:=m7;simp only[m7,m8,m9,m10]at c11;generalize mkP q 1=Q at *
 simp only[← m0,← m1,← m2,← m3,← m4,← m5,← m6];refine c11.view (by simp[qb1,mtA,qaj,qbZ,kcs,qaH,kpt,kin,qam,qa5,qae,LT.row]) ?_;simp[hw2];refine c1.call ?_;simp;refine c4.call ?_;simp;refine c7.call ?_;simp;refine c11.view (by simp[qb1,mtA,qaj,qbZ,kcs,qaH,kpt,kin,qam,qa5,qae,LT.row]) ?_;simp[hw2]
end Go.Av.F
end
section
namespace Go.Av
open Go.RowKit Go.ChangeShapes Go.WideShapes Go.ChangeAt
variable {P:Program} {W:World}
theorem qmJ {n:String} {d:DataW Unit}:∀ {laid:List (String×DataW Unit)} {ps:List MemPlace},DataW.LaidVars P W laid ps→(n,d)∈laid →
  ∃ g t cs fuel p,P.globalNamed n=some g∧(P.globals[g]?).map (·.type)=some t∧W.var? P n=some cs∧DataW.trod (fun _=>()) P W 0 (fun _=>true) false fuel t cs.toList=some (d,p)
 | [],ps,_,hm=>by simp at hm
 | (m,e)::r,ps,h,hm=>by
  obtain⟨g,t,cs,fuel,p,q,h1,h2,h3,h4,h5,_⟩:=h;rcases qFT.1 hm with hm | hm
  ·injection hm with e1 e2;subst e1;subst e2;exact⟨g,t,cs,fuel,p,h1,h2,h3,h4⟩
  ·exact qmJ h5 hm
theorem qtX {n:String} {g:Nat} {cs:Array Value} (hg:P.globalNamed n=some g) (hv:W.var? P n=some cs) (avs:List AV) (hl:avs.length=cs.size) (hne:avs≠[]) (hr:∀ j,j<avs.length→AVRel W (Old W) noG (avs.getD j .top) (cs.getD j undef)) :
  AVRel W (Old W) noG (.elm avs) (.pointer (some ⟨g,0,none⟩))∧Old W ⟨g,avs.length,none⟩∧W.cell? ⟨g,avs.length,none⟩=none:=by
 have hc:=fun i=>World.var?_cell hg hv i;have h0:0<cs.size:=by rw[← hl];exact qEr.2 hne
 have hcell:∀ j,j<avs.length→W.cell? ⟨g,j,none⟩=some (cs.getD j undef):=fun j hj=>by
  rw[hc,qGb (by omega)];simp[Array.getD,show j<cs.size by omega]
 have hb:g<W.heap.size:=World.block_lt_of_cell? W _ (hcell 0 (by omega));refine⟨.elm _ avs _ (fun j=>cs.getD j undef) rfl (fun j hj=>hb) (fun j hj=>?_) hr,hb,?_⟩
 ·simpa [Addr.at]using hcell j hj
 ·rw[hc,qFt (by omega)]
theorem laid_tab {laid:List (String×DataW Unit)} (h:laidMet P laid W) {n:String} {g:Nat} {zs:List Int} {k:IntKind} {t e:TypeId} {m:Nat} (hm:(n,(Lib.tabData k zs:DataW Unit))∈laid) (hg:P.globalNamed n=some g) (hty:(P.globals[g]?).map (·.type)=some t)
  (ht:P.underlying t=some (.array m e)) (he:P.underlying e=some (.int k)) (hce:P.cellsOf e=1) (hct:P.cellsOf t=m) (hne:zs≠[]) :
  AVRel W (Old W) noG (.elm (zs.map (AV.int k))) (.pointer (some ⟨g,0,none⟩))∧Old W ⟨g,(zs.map (AV.int k)).length,none⟩∧W.cell? ⟨g,(zs.map (AV.int k)).length,none⟩=none:=by
 obtain⟨ps,hL,_⟩:=h;obtain⟨g',t',cs,fuel,p,h1,h2,h3,h4⟩:=qmJ hL hm;obtain rfl:=qGT (hg.symm.trans h1);obtain rfl:=qGT (hty.symm.trans h2);have hcs:=Lib.cells_of_tab ht he hce hct h4;have hcs2:cs=(zs.map fun z=>Value.int k z).toArray:=by rw[← hcs]
 subst hcs2;refine qtX hg h3 _ (by simp) (by simpa using hne) fun j hj=>?_;simp only[qFx]at hj;simp[List.getD,Array.getD,hj];exact .int _ _ _
theorem laid_ifc {laid:List (String×DataW Unit)} (h:laidMet P laid W) {n s:String} {d:DataW Unit} {g:Nat} {t:TypeId} {m:Array (String×TypeId)} (hm:(n,(DataW.iface s d:DataW Unit))∈laid) (hg:P.globalNamed n=some g) (hty:(P.globals[g]?).map (·.type)=some t)
  (ht:P.underlying t=some (.interface m)):AVRel W (Old W) noG (.elm [.ifc]) (.pointer (some ⟨g,0,none⟩))∧Old W ⟨g,[AV.ifc].length,none⟩∧W.cell? ⟨g,[AV.ifc].length,none⟩=none:=by
 obtain⟨ps,hL,_⟩:=h;obtain⟨g',t',cs,fuel,p,h1,h2,h3,h4⟩:=qmJ hL hm;obtain rfl:=qGT (hg.symm.trans h1);obtain rfl:=qGT (hty.symm.trans h2);cases fuel with
 | zero=>simp[DataW.trod]at h4
 | succ fuel =>
  unfold DataW.trod at h4;simp only[ht]at h4;obtain⟨l⟩:=cs;simp only at h4
  match l,h4,h3 with
  | [.iface u v],h4,h3 =>
   refine qtX hg h3 _ rfl (by simp) fun j hj=>?_;obtain rfl:j=0:=by simpa using hj
   exact .ifc _ _ _
  | [.nilIface],h4,h3=>simp at h4
  | [],h4,h3=>simp at h4
  | .int _ _::_,h4,h3=>simp at h4
  | _::_::_,h4,h3=>simp at h4
end Go.Av
end
section
namespace Go.Proofs.YthiidgicibfbjaaGreatDoor
open Go.ChangeShapes Go.WideShapes Go.ChangeAt Go.RowKit
theorem qtk:ownKnob Tryz.prog.godebug=none:=by kernel_rfl
theorem qg5:laidOutB Tryz.prog=true:=by kernel_rfl
theorem qi2:mapsRowed Tryz.prog=true:=by kernel_rfl
theorem qpc:Tryz.prog.stopsHeard=true:=by kernel_rfl
theorem qks:Tryz.prog.mayEnter=true:=by kernel_rfl
theorem qrD:Tryz.pinned.checked.prog.mainIs=some (true,"94ddc6106c0e87da7f990659e475fcd9fa75f92a8b1a5b1f9337df2f6a15a156".toList):=by kernel_rfl
theorem qpb:true=Tryz.prog.looks []:=by kernel_rfl
theorem qrC:Tryz.prog.funcs.any Func.goes=false:=by kernel_rfl
theorem qrz {P:Program} (h:P.funcs.any Func.goes=false) (f:Nat):P.goes f=false:=by
 unfold Program.goes;rw[h,Bool.and_false,Bool.or_false,List.any_eq_false];intro g _;cases hg:P.funcs[g]? with
 | none=>simp
 | some fn =>
  rw[Array.any_eq_false]at h;obtain⟨hl,rfl⟩:=Array.getElem?_eq_some_iff.1 hg;simpa using h g hl
theorem qmU {P:Program} (h:P.funcs.any Func.goes=false) (c:OpenClaim):false=c.goesBy P:=by
 unfold OpenClaim.goesBy Program.goesAt Program.goesFrom;have e:P.goes=fun _=>false:=funext fun f=>qrz h f;rw[e];cases P.funcNamed c.func <;> cases c.start <;> simp
end Go.Proofs.YthiidgicibfbjaaGreatDoor
end
