/- Lemmas for the proof, no statement of the seat; no conditions. -/
import Derived.Test.YthiidgicibfbjaaGreatDoorLayAW
import Derived.Lib.LaidTab
import Derived.FnData
import Derived.Test.YthiidgicibfbjaaGreatDoorRows
import Derived.Test.YthiidgicibfbjaaGreatDoorCards
import Derived.ProofKit
import Derived.OpenShut
import Derived.LaidMore
import Derived.Lay
import Derived.SevenTiedAt
import Derived.Stop.Joined
set_option linter.unusedSimpArgs false
set_option linter.unusedVariables false
set_option linter.unnecessarySimpa false
set_option maxRecDepth 100000
section
namespace Go.Av.F
open Go Go.Av Go.Proofs Go.Proofs.Tryz
theorem qjq (c:CO) (root:Int):(qcM c root).length≤1+c.ddt.length+c.sets.length+c.parts.length:=by
 unfold qcM;have h0:=qfd [] root;have h1:=qgm (c.ddt.map DE.ea) (qiZ [] root);have h2:=qgm (c.sets.map fun s=>s.home.pa) (qdg (qiZ [] root) (c.ddt.map DE.ea));have h3:=qgm (c.parts.map PT.pa) (qdg (qdg (qiZ [] root) (c.ddt.map DE.ea)) (c.sets.map fun s=>s.home.pa));simp only[qFs,qFE]at h0 h1 h2 h3;omega
theorem qo9 (d:DK) (h:DkT d):ACall prog 36 [.agg d.row] [] (rrQ 904 905 906 907 (rrB d)):=by
 obtain⟨R,hR⟩:∃ R,rrB d=R:=⟨_,rfl⟩;rw[hR];unfold rrB at hR;have c1:=qAh d h;have c2:=qf5 d h;have c3:=qf6 d h (rbB d).2;have hbl:=qcU d (rbB d).2;have c4:=qo8 (qaj d (rbB d).2).1 (by omega);have hF:rrF d=(decide ((qaj d (rbB d).2).2=0) && (qhm (qaj d (rbB d).2).1).2):=rfl;have hT:=fun x (hx:qhm (qaj d (rbB d).2).1=(qa6 x,true))=>qwe hx d;have hok:=fun x (hx:qhm (qaj d (rbB d).2).1=(qa6 x,true))=>qwb hx;simp only[DK.row,PT.row]at c1 c2 c3;refine acx func36 [(11,[zJ 0 [1] [],zJ 1 [] [1],zJ 2 [9] [1],zJ 3 [] [1,9],zJ 4 [900] [1],zJ 5 [] [1],zJ 6 [900] [1],zI 7,zI 8,zI 9,zI 10,zI 11,zI 12])] ntmps36 rfl rfl rfl ?_;simp[DK.row];refine c1.call ?_;simp[PT.row];refine c2.call ?_;by_cases g0:qbw d=true∧0<(rbB d).1
 ·rw[if_pos g0]at hR;obtain⟨g1,g2⟩:=g0;simp[g1,g2];refine c3.call ?_;simp;generalize (qaj d (rbB d).2).1=bt at *
  generalize (qaj d (rbB d).2).2=bc at *
  refine qad [] (by kernel_rfl) c4 (by simp) (by simp) trivial (by simp) (by simp) ?_;rintro r L' (⟨hr,rfl,rfl⟩ | ⟨x,hr,rfl,rfl⟩)
  ·rw[hr]at hF;rw[if_neg (by rw[hF];simp)]at hR;subst hR;refine⟨[],⟨by simp,by simp,by simp,by simp,by simp⟩,?_⟩;simp only[qaf];by_cases q:bc=0
   ·simp[q];exact⟨[],by simp,.inl ⟨rfl,by simp,rfl,rfl⟩⟩
   ·simp[q];exact⟨[],by simp,.inl ⟨rfl,by simp,rfl,rfl⟩⟩
  ·have hTx:=hT x hr;obtain⟨_,o1,o2,o3,o4⟩:=hok x hr;rw[hr]at hF hR;simp only[qEy]at hF;refine⟨[(900,900),(901,901)],⟨by simp,by simp,by simp,by simp,by simp⟩,?_⟩;simp only[qaf];by_cases q:bc=0
   ·rw[if_pos (by rw[hF];simp[q])]at hR;have hG:rrG d (qa6 x)=(xpA d x.1 && tbA d x.2 && qap (rrC d (qa6 x))):=rfl;have hfail:rrG d (qa6 x)=false→R=(zK,8):=fun e=>by
     rw[if_neg (by simp only;rw[e];simp)]at hR;exact hR.symm
    simp[q,lnR];refine qbj (X:=Nat) [1,2,3,4,5,9,55,56] [(1,1),(2,2),(5,5),(9,9),(900,900),(901,901)] (fun i=>[(56,.int .i64 i)]) (fun i=>[(1,⟨3,[d.row]⟩),(2,⟨7,[[.int .i64 0,.nils,.nils,.nils,.bool false,.nils,.int .i64 0]]⟩),(5,⟨3,[(rbB d).2.row]⟩),(9,⟨7,[lnR x 900 901]⟩),(900,kcs (xpN d x.1 i)),(901,kpt x.2)]) (fun i=>x.1.length-i) (fun i=>i≤x.1.length∧xpA d (x.1.take i)=true) 0 ⟨by omega,by simp[xpA]⟩ ?_ (he:=by simp[qag,lnR,qyp,DK.row,PT.row]);rintro i ⟨hi,ha⟩;by_cases hil:i<x.1.length
    ·obtain⟨s,f1⟩:∃ s,x.1[i]?=some s:=⟨_,qEq hil⟩;have hm:=qGj f1;have hs8:=(o3 s hm).1;have hrl:=qaV s hs8;have hho:=qdz s hs8;have e2:=qao ((i:Int)+1) (by omega) (by omega);have c1:=qf6 d h s.home;have hbl:=qcU d s.home;have c2:=qrq (qaj d s.home).1 (by omega);obtain⟨g1,g2⟩:=qtY (d:=d) f1;have gl:=qpG d x.1 i;have hcond:xpP d s=(decide ((qaj d s.home).2=0) && (qeN (qaj d s.home).1).2):=rfl;have hup:=qpF d s hs8;have hml:=qkj (qaj d s.home).1;have hsu:=qqL hml;have hone:=qqM (qeN (qaj d s.home).1).1;have hfl:((qeN (qaj d s.home).1).1.flatMap PT.row).length=24:=by rw[qks,hml]
     simp only[DK.row,PT.row]at c1 hho;obtain⟨Y,hY⟩:∃ Y,xpN d x.1 i=Y:=⟨_,rfl⟩;rw[hY]at g1 g2 gl;have hiY:i<Y.length:=by omega
     have y0:Y[i]=s:=(qEW.1 g1).2;rw[hY];generalize qaj d s.home=bb at *
     obtain⟨bt,bc⟩:=bb;simp only at c1 c2 hcond hup hml hsu hone hfl;generalize qeN bt=mm at *
     obtain⟨mp,mk⟩:=mm;simp only at c2 hcond hup hml hsu hone hfl;simp[lnR,kcs,show(i:Int)<x.1.length by omega,hil,g1,hiY,y0,hrl,hho,gl,DK.row];refine c1.call ?_;simp;refine c2.call ?_;by_cases q:bc=0∧mk=true
     ·obtain⟨rfl,rfl⟩:=q;have hnx:=qnp f1 ha (by rw[hcond];rfl);simp[kcs,hiY,y0,g1,hrl,hsu,hfl,qEF (qEG hfl),gl,hil];refine nx (i+1) [(1,1),(2,2),(5,5),(9,9),(900,900),(901,901)] ⟨by omega,hnx⟩ (by omega) (h4:=?_);simp[qag,e2,lnR,kcs,← g2,DK.row,PT.row,hsu,hfl,hup _ rfl,qhD]
     ·rw[hfail (by rw[hG,qtZ hm (show xpP d s=false by rw[hcond];cases mk <;> simp_all)];rfl)];by_cases q1:bc=0
      ·have:mk=false:=by cases mk <;> simp_all
       subst this;simp[kcs,q1,hsu];exact⟨[],by simp,.inl ⟨rfl,by simp,rfl,rfl⟩⟩
      ·simp[kcs,q1,hsu];exact⟨[],by simp,.inl ⟨rfl,by simp,rfl,rfl⟩⟩
    ·have hie:i=x.1.length:=by omega
     subst hie;rw[qEF (by omega)]at ha;rw[qpH];simp[lnR];have hcs:(x.1.map (xpS d)).length=x.1.length:=by simp
     generalize hl2:x.1.map (xpS d)=l at *
     refine qeW ((qeF 902 3 (by simp)).trans (qdk 9 2 (sz:=7) (row:=lnR x 900 901) (by simp[lnR]) (by simp[lnR]) (qcF 902 0))) ?_;refine qbj (X:=Nat) [1,2,3,4,5,9,90,91,92] [(1,1),(2,2),(5,5),(9,9),(900,900),(902,902),(901,901)] (fun i=>[(92,.int .i64 i)]) (fun i=>[(1,⟨3,[d.row]⟩),(2,⟨7,[[.int .i64 0,.nils,.nils,.nils,.bool false,.nils,.int .i64 0]]⟩),(5,⟨3,[(rbB d).2.row]⟩),(9,⟨7,[tbR x 900 902 901 (tbN d x.2 i).length]⟩),(900,kcs l),(902,qaR (tbN d x.2 i)),(901,kpt x.2)]) (fun i=>x.2.length-i) (fun i=>i≤x.2.length∧tbA d (x.2.take i)=true) 0 ⟨by omega,by simp[tbA]⟩ ?_ (he:=by simp[qag,lnR,tbR,tbN,DK.row,PT.row,qaR]);rintro i ⟨hi,hb⟩;have hnl:=qjS d x.2 i;by_cases hil:i<x.2.length
     ·obtain⟨s,f1⟩:∃ s,x.2[i]?=some s:=⟨_,qEq hil⟩;have f0:x.2[i]=s:=(qEW.1 f1).2;have hm:=qGj f1;have e2:=qao ((i:Int)+1) (by omega) (by omega);have c1:=qf6 d h s;have hbl:=qcU d s;have c2:=qrw (qaj d s).1 (by omega);have hdl:=qkJ (qaj d s).1;have hcond:tbP d s=(decide ((qaj d s).2=0) && (qi6 (qaj d s).1).2):=rfl;have hnx:=qnu (d:=d) f1;have hts:tbS d s=(qi6 (qaj d s).1).1:=rfl;rw[hts]at hnx;simp only[DK.row,PT.row]at c1;generalize qaj d s=bb at *
      obtain⟨bt,bc⟩:=bb;simp only at c1 c2 hcond hbl hdl hnx;generalize qi6 bt=mm at *
      obtain⟨mp,mk⟩:=mm;simp only at c2 hcond hdl hnx;simp[tbR,qaR,kpt,show(i:Int)<x.2.length by omega,hil,f0,f1,PT.row,DK.row];refine c1.call ?_;simp;refine c2.call ?_;by_cases q:bc=0∧mk=true
      ·obtain⟨rfl,rfl⟩:=q;have hnA:=qnv f1 hb (by rw[hcond];rfl);simp[tbR,qaR];refine⟨by omega,nx (i+1) [(1,1),(2,2),(5,5),(9,9),(900,900),(117,902),(901,901)] ⟨by omega,hnA⟩ (by omega) (h4:=?_)⟩;simp[qag,e2,tbR,qaR,kpt,← hnx,DK.row,PT.row,qal]
      ·rw[hfail (by rw[hG,ha,qt6 hm (show tbP d s=false by rw[hcond];cases mk <;> simp_all)];rfl)];by_cases q1:bc=0
       ·have:mk=false:=by cases mk <;> simp_all
        subst this;simp[tbR,qaR,q1];exact⟨[],by simp,.inl ⟨rfl,by simp,rfl,rfl⟩⟩
       ·simp[tbR,qaR,q1];exact⟨[],by simp,.inl ⟨rfl,by simp,rfl,rfl⟩⟩
     ·have hie:i=x.2.length:=by omega
      subst hie;rw[qEF (by omega)]at hb;have ht2:tbN d x.2 x.2.length=x.2.flatMap (tbS d):=by simp[tbN]
      rw[ht2];generalize ht3:x.2.flatMap (tbS d)=t at *
      have hC:rrC d (qa6 x)=⟨(rbB d).1,l,t,x.2,false,[],0⟩:=by rw[← hl2,← ht3];rfl
      have hS:rrS d (qa6 x)={ rrC d (qa6 x)with safe:=qcM (rrC d (qa6 x)) (rbB d).2.pa }:=rfl;rw[ha,hb,hC]at hG;rw[hC]at hTx hS;have c7:=qiA _ hTx;cases k3:qap ⟨(rbB d).1,l,t,x.2,false,[],0⟩with
      | false =>
       rw[k3]at c7;simp only[CO.row,qF3]at c7;rw[hfail (by rw[hG,k3];rfl)];simp[tbR];refine c7.view (by simp[qbW,mtA,kcs,qaR,kpt,qal,qbO,← hcs]) ?_;simp;exact⟨[],by simp,.inl ⟨rfl,by simp,rfl,rfl⟩⟩
      | true =>
       rw[k3]at c7 hG;have c8:=qro _ hTx k3 (rbB d).2.pa;rw[if_pos (by simp only;rw[hG];rfl)]at hR;simp only at hR;rw[hS]at hR;have hsl:(qcM ⟨(rbB d).1,l,t,x.2,false,[],0⟩ (rbB d).2.pa).length≤1000:=by
        refine qEa (qjq _ _) ?_;obtain⟨_,k4,k5,k6,_⟩:=qb1 k3;simp only at k4 k5 k6 ⊢;omega
       generalize qcM ⟨(rbB d).1,l,t,x.2,false,[],0⟩ (rbB d).2.pa=sf at *
       have c9:=quB ⟨(rbB d).1,l,t,x.2,false,sf,0⟩ ⟨hTx.1,hTx.2,hTx.3,by simp only;omega,hTx.5,hTx.6⟩;simp only[CO.row,qF3]at c7 c8 c9;subst hR;simp[tbR];refine c7.view (by simp[qbW,mtA,kcs,qaR,kpt,qal,qbO,← hcs]) ?_;simp;refine qaJ [] (by kernel_rfl) c8 (by simp[qbW,mtA,kcs,qaR,kpt,qal,qbO,← hcs]) (by simp) trivial (by simp) (by simp) ?_;rintro r' L' ⟨rfl,rfl⟩;refine⟨by simp[noL],by simp[noL,kin,qac],[(900,903)],⟨by simp,by simp,by simp,by simp,by simp⟩,?_⟩;simp only[qaf];simp;refine qaJ [] (by kernel_rfl) c9 (by simp[qbW,mtA,kcs,qaR,kpt,kin,qac,qal,qbO,← hcs]) (by simp) trivial (by simp) (by simp) ?_;rintro r' L' ⟨rfl,rfl⟩;refine⟨by simp[qe0,noL],by simp[kcs,qaR,kpt,kin,qac,DE.row,PT.row,qlC],[(5,904),(8,905),(11,906),(14,907)],⟨by simp,by simp,by simp,by simp,by simp⟩,?_⟩;simp only[qaf];simp[qe0];exact⟨[(904,kcs l),(905,qaR t),(906,kpt x.2),(907,kin sf)],by simp[qag],.inr ⟨rfl,by simp[qe0],rfl⟩⟩
   ·rw[if_neg (by rw[hF];simp[q])]at hR;subst hR;simp[q,lnR];exact⟨[],by simp,.inl ⟨rfl,by simp,rfl,rfl⟩⟩
 ·rw[if_neg g0]at hR;subst hR;cases g1:qbw d with
  | false =>
   simp[g1];exact⟨[],by simp,.inl ⟨rfl,by simp,rfl,rfl⟩⟩
  | true =>
   have g2:¬ 0<(rbB d).1:=fun e=>g0 ⟨g1,e⟩;simp[g1,g2];exact⟨[],by simp,.inl ⟨rfl,by simp,rfl,rfl⟩⟩
theorem qza {f a b e g:Nat} {d:DK} {R:CO×Int} (hn:[a,b,e,g].Nodup) (h:ACall prog f [.agg d.row] [] (rrQ a b e g R)) (he:qb8 prog f=true):CV prog f [.agg d.row] (.tup [.agg R.1.row,.int .i64 R.2]):=by
 refine CV.of_frz h ?_ (he:=he) (hca:=by simp[DK.row]) (hcv:=by simp[qeB]);rintro r L' (⟨hR,_,rfl,rfl⟩ | ⟨hR,rfl,rfl⟩)
 ·refine⟨by simp,by simp,by simp,?_⟩;simp only[qbe,hR];exact qgH (.cons qwR (.cons (qa1 _) .nil))
 ·simp only[qFN,qFO,qFX,or_false,not_or,qE6,not_false_eq_true,and_true]at hn;obtain⟨⟨n1,n2,n3⟩,⟨n4,n5⟩,n6⟩:=hn;refine⟨by simp,by simp[n1,n2,n3,n4,n5,n6],fun y hy=>?_,?_⟩
  ·simp only[qFO,qFX,or_false]at hy;rcases hy with rfl | rfl | rfl | rfl
   ·exact qbd _
   ·simpa [clR]using qbZ _
   ·exact qbL _
   ·exact qaU _
  ·rw[hR];simp[qbe,qe0,CO.row,kcs,kpt,kin,qaR,qal,n1,n2,n3,n4,n5,n6,qD8 n1,qD8 n2,qD8 n3,qD8 n4,qD8 n5,qD8 n6]
theorem qoS (d:DK) (h:DkT d):CV prog 31 [.agg d.row] (.tup [.agg (rrB d).1.row,.int .i64 (rrB d).2]):=qza (by decide) (qoR d h) (by kernel_rfl)
theorem qwa {t:List UInt8} (h:(qhm t).2=true):∃ x,qhm t=(qa6 x,true):=by
 unfold qhm at h ⊢;split
 ·rename_i h1;rw[if_pos h1]at h;cases h
 ·rename_i h1;rw[if_neg h1]at h;unfold qmq at h ⊢;split
  ·rename_i x hx;rw[hx]at h;simp only at h;split
   ·exact⟨x,rfl⟩
   ·rename_i ha;rw[if_neg ha]at h;cases h
  ·rename_i hx;rw[hx]at h;cases h
theorem qzb {d:DK} (h:(rrB d).2=0):∃ x,qbw d=true∧CoT (rrS d (qa6 x))∧(rrB d).1=rrS d (qa6 x)∧qap (rrC d (qa6 x))=true:=by
 unfold rrB at h ⊢;split at h
 ·rename_i h1;rw[if_pos h1];split at h
  ·rename_i h2;rw[if_pos h2];split at h
   ·rename_i h3;rw[if_pos h3];simp only[rrF,Bool.and_eq_true,decide_eq_true_eq]at h2;obtain⟨x,hx⟩:=qwa h2.2;rw[hx]at h3 ⊢;have hT:=qwe hx d;simp only[rrG,Bool.and_eq_true]at h3;refine⟨x,h1.1,⟨hT.1,hT.2,hT.3,?_,hT.5,hT.6⟩,rfl,h3.2⟩;refine qEa (qjq _ _) ?_;obtain⟨_,k4,k5,k6,_⟩:=qb1 h3.2;omega
   ·cases h
  ·cases h
 ·cases h
theorem qpV:∀ (l:List (Option BO)) (o:BO),o∈tkS l→some o∈l
 | [],o,h=>by simp[tkS]at h
 | none::r,o,h=>by simp[tkS]at h
 | some a::r,o,h=>by
  simp only[tkS,qFO]at h ⊢;rcases h with rfl | h
  ·exact .inl rfl
  ·exact .inr (qpV r o h)
theorem qpW:∀ (l:List (Option BO)),(tkS l).length≤l.length
 | []=>by simp[tkS]
 | none::r=>by simp[tkS]
 | some a::r=>by
  simp only[tkS,qEI];have:=qpW r;omega
theorem qrf (d:DK) (txg:Int):(lfB d txg).length≤8:=by
 unfold lfB;rw[qux];refine qEa (qpW _) ?_;simp
theorem qjH {α:Type} (f:α→Bool):∀ {l:List α} {i:Nat} {x:α} (y:α),l[i]?=some x→(l.set i y).countP f+(if f x=true then 1 else 0)=l.countP f+(if f y=true then 1 else 0)
 | [],i,x,y,h=>by simp at h
 | a::r,0,x,y,h=>by
  simp only[qEs,qEd]at h;subst h;simp only[List.set_cons_zero,qGI];omega
 | a::r,i+1,x,y,h=>by
  simp only[qEJ]at h;have:=qjH f y h;simp only[qHj,qGI];omega
theorem qjI (f:PT→Bool):∀ {l:List CS} {k i:Nat} {s s':CS} {old now:PT},l[k]?=some s→s.map[i]?=some old→s'.map=s.map.set i now →
  (qaA (l.set k s')).countP f+(if f old=true then 1 else 0)=(qaA l).countP f+(if f now=true then 1 else 0)
 | [],k,i,s,s',old,now,h,_,_=>by simp at h
 | a::r,0,i,s,s',old,now,h,h2,h3=>by
  simp only[qEs,qEd]at h;subst h;have:=qjH f now h2;simp only[qaA,List.set_cons_zero,qGM,qGT,h3];omega
 | a::r,k+1,i,s,s',old,now,h,h2,h3=>by
  simp only[qEJ]at h;have:=qjI f h h2 h3;simp only[qaA,qHj,qGM,qGT]at this ⊢;omega
theorem qwC {l:List CS} {k i:Nat} {s s':CS} {now p:PT} (h:l[k]?=some s) (h3:s'.map=s.map.set i now) (hp:p∈qaA (l.set k s')):p∈qaA l∨p=now:=by
 simp only[qaA,qGN]at hp ⊢;obtain⟨t,ht,hpt⟩:=hp;rcases qHi ht with ht | rfl
 ·exact .inl ⟨t,ht,hpt⟩
 ·rw[h3]at hpt;rcases qHi hpt with hpt | rfl
  ·exact .inl ⟨s,qGj h,hpt⟩
  ·exact .inr rfl
def ecA (l:List DE) (a:Int):Int:=qcc (l.filter fun e=>decide (e.ea=a))
theorem qxl (a:Int):ecA [] a=0:=rfl
theorem qcY (e:DE) (l:List DE) (a:Int):ecA (e::l) a=(if e.ea=a then e.ec else 0)+ecA l a:=by
 unfold ecA;rw[List.filter_cons];split
 ·rename_i h;rw[if_pos (by simpa using h),qcc]
 ·rename_i h;rw[if_neg (by simpa using h)];omega
theorem qep (a:Int):∀ (l m:List DE),ecA (l++m) a=ecA l a+ecA m a
 | [],m=>by simp[qxl]
 | e::l,m=>by
  rw[qGh,qcY,qcY,qep a l m];omega
theorem qcC:∀ (l m:List DE),qcc (l++m)=qcc l+qcc m
 | [],m=>by simp[qcc]
 | e::l,m=>by
  rw[qGh,qcc,qcc,qcC l m];omega
theorem qhP {l:List DE} {a:Int} (h:∀ e∈l,e.ea≠a):ecA l a=0:=by
 induction l with
 | nil=>rfl
 | cons e r ih =>
  rw[qcY,if_neg (h e (by simp)),ih fun x hx=>h x (by simp[hx])];rfl
theorem qlc {α:Type} {l:List α} {i:Nat} {x:α} (h:l[i]?=some x):l=l.take i++x::l.drop (i+1)∧∀ y,l.set i y=l.take i++y::l.drop (i+1):=by
 have hl:=(qEW.1 h).1;have hx:=(qEW.1 h).2;have hd:l.drop i=x::l.drop (i+1):=by
  rw[← hx];exact qEv hl
 refine⟨?_,fun y=>?_⟩
 ·rw[← hd,qEu]
 ·rw[qGt,if_pos hl]
theorem qrN {l:List DE} (h:qak l=true) {e:DE} (he:e∈l):0<e.ea∧0<e.ec:=by
 have:=qgg (qhj h e he);omega
theorem qAp {l:List DE} (h:qak l=true) {e:DE} (he:e∈l):ecA l e.ea=e.ec:=by
 simp only[qak,Bool.and_eq_true,decide_eq_true_eq]at h;have hp:=qg0 h.2;clear h
 induction l with
 | nil=>simp at he
 | cons x r ih =>
  rw[qHo]at hp;rw[qcY];rcases qFO.1 he with rfl | he2
  ·rw[if_pos rfl,qhP fun y hy=>by have:=hp.1 y hy;omega];omega
  ·have:=hp.1 e he2;rw[if_neg (by omega),ih he2 hp.2];omega
theorem qkD {l:List DE} (h:qak l=true) {e x:DE} (he:e∈l) (hx:x∈l) (hea:e.ea=x.ea):e=x:=by
 simp only[qak,Bool.and_eq_true,decide_eq_true_eq]at h;have hp:=qg0 h.2;clear h
 induction l with
 | nil=>simp at he
 | cons y r ih =>
  rw[qHo]at hp;rcases qFO.1 he with h1 | he2 <;> rcases qFO.1 hx with h2 | hx2
  ·rw[h1,h2]
  ·have:=hp.1 x hx2;rw[h1]at hea;omega
  ·have:=hp.1 e he2;rw[h2]at hea;omega
  ·exact ih he2 hx2 hp.2
theorem qxr {l:List DE} (h:qak l=true) {e:DE} (he:e∈l):ddT l e.ea=true∧l[ddP l e.ea]?=some e:=by
 cases hT:ddT l e.ea with
 | false=>exact absurd rfl (qkI h hT e he)
 | true =>
  obtain⟨x,hx,hxa⟩:=qcI hT;rw[hx,qkD h (qGj hx) he hxa];exact⟨rfl,rfl⟩
theorem qAT {l:List DE} (h:qak l=true) {s a:Int} (ho:(qbY l s a).2=true) :
  0<a∧(∀ b,ecA (qbY l s a).1 b=ecA l b+if b=a then 1 else 0)∧qcc (qbY l s a).1=qcc l+1∧∀ e∈(qbY l s a).1,(∃ x∈l,x.ea=e.ea∧x.es=e.es∧(e.ea=a→e.es=s))∨(e.ea=a∧e.es=s∧ecA l a=0):=by
 unfold qbY at ho ⊢;rw[if_neg (by simp[h])]at ho ⊢;split at ho
 ·simp at ho
 ·rename_i hen;rw[if_neg hen];have ha:0<a:=by
   have:=qgg (e:=⟨s,a,1⟩) (by simpa using hen);simp only at this;omega
  refine⟨ha,?_⟩;split at ho
  ·rename_i hT;rw[if_pos hT];obtain⟨x,hx,hxa⟩:=qcI hT;rw[hx]at ho ⊢;simp only at ho ⊢;split at ho
   ·simp at ho
   ·rename_i hc;rw[if_neg hc];have hxs:x.es=s:=qF6 fun e=>hc (.inl e);obtain⟨g1,g2⟩:=qlc hx;simp only[g2];refine⟨fun b=>?_,?_,fun e he=>?_⟩
    ·rw[qep,qcY]
     conv=>rhs;rw[g1,qep,qcY]
     simp only[hxa];by_cases hb:a=b
     ·rw[if_pos hb,if_pos hb,if_pos hb.symm];omega
     ·rw[if_neg hb,if_neg hb,if_neg (qD8 hb)];omega
    ·rw[qcC,qcc]
     conv=>rhs;rw[g1,qcC,qcc]
     simp only;omega
    ·rw[qFQ,qFO]at he;have hxm:=qGj hx;rcases he with he | rfl | he
     ·have hm:=qGe he;exact .inl ⟨e,hm,rfl,rfl,fun q=>by rw[qkD h hm hxm (by omega)];exact hxs⟩
     ·exact .inl ⟨x,hxm,rfl,rfl,fun _=>hxs⟩
     ·have hm:=qGH he;exact .inl ⟨e,hm,rfl,rfl,fun q=>by rw[qkD h hm hxm (by omega)];exact hxs⟩
  ·rename_i hT;rw[if_neg hT];split at ho
   ·simp at ho
   ·rename_i hl;rw[if_neg hl];have hz:ecA l a=0:=qhP (qkI h (by simpa using hT));have hm:=qkI h (a:=a) (by simpa using hT);simp only;have g1:=qEu (ddP l a) l;refine⟨fun b=>?_,?_,fun e he=>?_⟩
    ·rw[qep,qcY]
     conv=>rhs;rw[← g1,qep]
     simp only;by_cases hb:a=b
     ·rw[if_pos hb,if_pos hb.symm];omega
     ·rw[if_neg hb,if_neg (qD8 hb)];omega
    ·rw[qcC,qcc]
     conv=>rhs;rw[← g1,qcC]
     simp only;omega
    ·rw[qFQ,qFO]at he;rcases he with he | rfl | he
     ·have hx:=qGe he;exact .inl ⟨e,hx,rfl,rfl,fun q=>absurd q (hm e hx)⟩
     ·exact .inr ⟨rfl,rfl,hz⟩
     ·have hx:=qGH he;exact .inl ⟨e,hx,rfl,rfl,fun q=>absurd q (hm e hx)⟩
theorem qxm {l:List DE} (h:qak l=true) {a:Int} (ho:(qbk l a).2=true) :
  (∀ b,ecA (qbk l a).1 b=ecA l b-if b=a then 1 else 0)∧qcc (qbk l a).1=qcc l-1∧∀ e∈(qbk l a).1,∃ x∈l,x.ea=e.ea∧x.es=e.es:=by
 unfold qbk at ho ⊢;rw[if_neg (by simp[h])]at ho ⊢;split at ho
 ·simp at ho
 ·rename_i hT;rw[if_neg hT];obtain⟨x,hx,hxa⟩:=qcI (by simpa using hT);rw[hx]at ho ⊢;simp only at ho ⊢;obtain⟨g1,g2⟩:=qlc hx;split
  ·rename_i hc;simp only;refine⟨fun b=>?_,?_,fun e he=>?_⟩
   ·rw[qep]
    conv=>rhs;rw[g1,qep,qcY]
    simp only[hxa,hc];by_cases hb:a=b
    ·rw[if_pos hb,if_pos hb.symm];omega
    ·rw[if_neg hb,if_neg (qD8 hb)];omega
   ·rw[qcC]
    conv=>rhs;rw[g1,qcC,qcc]
    omega
   ·rw[qFQ]at he;rcases he with he | he
    ·exact⟨e,qGe he,rfl,rfl⟩
    ·exact⟨e,qGH he,rfl,rfl⟩
  ·simp only[g2];refine⟨fun b=>?_,?_,fun e he=>?_⟩
   ·rw[qep,qcY]
    conv=>rhs;rw[g1,qep,qcY]
    simp only[hxa];by_cases hb:a=b
    ·rw[if_pos hb,if_pos hb,if_pos hb.symm];omega
    ·rw[if_neg hb,if_neg hb,if_neg (qD8 hb)];omega
   ·rw[qcC,qcc]
    conv=>rhs;rw[g1,qcC,qcc]
    simp only;omega
   ·rw[qFQ,qFO]at he;rcases he with he | rfl | he
    ·exact⟨e,qGe he,rfl,rfl⟩
    ·exact⟨x,qGj hx,rfl,rfl⟩
    ·exact⟨e,qGH he,rfl,rfl⟩
structure Cnt (l:List DE) (P:List PT):Prop where
 cnt:∀ a:Int,0<a→ecA l a=(ptN a P:Int)
 sum:∀ e∈l,∀ p∈P,p.pa=e.ea→p.ps=e.es
 tot:qcc l=(nnN P:Int)
theorem ptN_pos {a:Int} {P:List PT}:0<ptN a P↔∃ p∈P,p.pa=a:=by
 unfold ptN;rw[List.countP_pos_iff];simp
theorem qAD {c:CO} (hd:qak c.ddt=true) (h1:qcJ c=true) (h2:qco c=true):Cnt c.ddt (qaA c.sets):=by
 simp only[qcJ,Bool.and_eq_true,qED,decide_eq_true_eq]at h1;simp only[qco,qED]at h2;obtain⟨h1,h3⟩:=h1;have hs:∀ p∈qaA c.sets,0<p.pa→∃ e∈c.ddt,e.ea=p.pa∧e.es=p.ps:=fun p hp h0=>by
  have:=h2 p hp;unfold qc4 at this;simp only[qFW,decide_eq_true_eq,Bool.and_eq_true]at this;rcases this with h | ⟨h4,h5⟩
  ·omega
  ·obtain⟨e,he,hea⟩:=qcI h4;rw[he]at h5;exact⟨e,qGj he,hea,by simpa using h5⟩
 refine⟨fun a ha=>?_,fun e he p hp hpe=>?_,h3⟩
 ·by_cases hx:∃ e∈c.ddt,e.ea=a
  ·obtain⟨e,he,rfl⟩:=hx;rw[qAp hd he,← h1 e he];unfold qeA;rw[if_pos ha]
  ·rw[qhP fun e he hea=>hx ⟨e,he,hea⟩];have:¬ 0<ptN a (qaA c.sets):=fun h=>by
    obtain⟨p,hp,hpa⟩:=ptN_pos.1 h;obtain⟨e,he,hea,_⟩:=hs p hp (by omega);exact hx ⟨e,he,by omega⟩
   omega
 ·have:=(qrN hd he).1;obtain⟨x,hx,hxa,hxs⟩:=hs p hp (by omega);rw[qkD hd he hx (by omega)];exact hxs.symm
theorem qAC {c:CO} (hd:qak c.ddt=true) (h:Cnt c.ddt (qaA c.sets)):qcJ c=true∧qco c=true:=by
 constructor
 ·simp only[qcJ,Bool.and_eq_true,qED,decide_eq_true_eq];refine⟨fun e he=>?_,h.tot⟩;have hp:=(qrN hd he).1;rw[← qAp hd he,h.cnt _ hp];unfold qeA;rw[if_pos hp]
 ·simp only[qco,qED];intro p hp;unfold qc4;by_cases h0:p.pa≤0
  ·simp[h0]
  ·have hn:0<ptN p.pa (qaA c.sets):=ptN_pos.2 ⟨p,hp,rfl⟩;have hc:=h.cnt p.pa (by omega);have hx:∃ e∈c.ddt,e.ea=p.pa:=qF6 fun hx=>by
    rw[qhP fun e he hea=>hx ⟨e,he,hea⟩]at hc;omega
   obtain⟨e,he,hea⟩:=hx;have hes:=h.sum e he p hp hea.symm;obtain⟨g1,g2⟩:=qxr hd he;rw[hea]at g1 g2;rw[g1,g2];simp[hes]
theorem qtF {l l1 l2:List DE} {P P':List PT} {old now:PT} (hd:qak l=true) (h:Cnt l P) (hold:old∈P) (hn0:0≤now.pa) (ho0:0≤old.pa)
  (hc:∀ f:PT→Bool,P'.countP f+(if f old=true then 1 else 0)=P.countP f+(if f now=true then 1 else 0)) (hm:∀ p∈P',p∈P∨p=now)
  (h1:(now.pa=0∧l1=l)∨(now.pa≠0∧(qbY l now.ps now.pa).2=true∧l1=(qbY l now.ps now.pa).1))
  (h2:(old.pa=0∧l2=l1)∨(old.pa≠0∧(qbk l1 old.pa).2=true∧l2=(qbk l1 old.pa).1)):qak l2=true∧Cnt l2 P':=by
 have a1:qak l1=true∧(∀ b,0<b→ecA l1 b=ecA l b+if b=now.pa then 1 else 0)∧qcc l1=qcc l+(if 0<now.pa then 1 else 0)∧∀ e∈l1,(∃ x∈l,x.ea=e.ea∧x.es=e.es∧(0<now.pa→e.ea=now.pa→e.es=now.ps))∨(e.ea=now.pa∧e.es=now.ps∧ecA l now.pa=0∧0<now.pa):=by
  rcases h1 with⟨z,rfl⟩ | ⟨z,ho,rfl⟩
  ·refine⟨hd,fun b hb=>?_,?_,fun e he=>.inl ⟨e,he,rfl,rfl,fun q=>by omega⟩⟩
   ·rw[if_neg (by omega)];omega
   ·rw[if_neg (by omega)];omega
  ·obtain⟨g0,g1,g2,g3⟩:=qAT hd ho;refine⟨qoz hd ho,fun b _=>g1 b,by rw[if_pos g0];exact g2,fun e he=>?_⟩;rcases g3 e he with⟨x,hx,q1,q2,q3⟩ | ⟨q1,q2,q3⟩
   ·exact .inl ⟨x,hx,q1,q2,fun _=>q3⟩
   ·exact .inr ⟨q1,q2,q3,g0⟩
 obtain⟨b1,b2,b3,b4⟩:=a1;have a2:qak l2=true∧(∀ b,0<b→ecA l2 b=ecA l1 b-if b=old.pa then 1 else 0)∧qcc l2=qcc l1-(if 0<old.pa then 1 else 0)∧∀ e∈l2,∃ x∈l1,x.ea=e.ea∧x.es=e.es:=by
  rcases h2 with⟨z,rfl⟩ | ⟨z,ho,rfl⟩
  ·refine⟨b1,fun b hb=>?_,?_,fun e he=>⟨e,he,rfl,rfl⟩⟩
   ·rw[if_neg (by omega)];omega
   ·rw[if_neg (by omega)];omega
  ·obtain⟨g1,g2,g3⟩:=qxm b1 ho;exact⟨ql8 b1 ho,fun b _=>g1 b,by rw[if_pos (by omega)];exact g2,g3⟩
 obtain⟨d1,d2,d3,d4⟩:=a2;refine⟨d1,fun a ha=>?_,fun e he p hp hpe=>?_,?_⟩
 ·have q:=hc fun p=>decide (p.pa=a);simp only[decide_eq_true_eq]at q;have k1:=h.cnt a ha;rw[d2 a ha,b2 a ha,k1];unfold ptN;split at q <;> split at q <;> split <;> split <;> omega
 ·obtain⟨x,hx,x1,x2⟩:=d4 e he;have hxp:0<x.ea:=(qrN b1 hx).1;rcases hm p hp with hp | rfl
  ·rcases b4 x hx with⟨y,hy,y1,y2,_⟩ | ⟨y1,y2,y3,y4⟩
   ·rw[← x2,← y2];exact h.sum y hy p hp (by omega)
   ·have k1:=h.cnt now.pa y4;have k2:0<ptN now.pa P:=ptN_pos.2 ⟨p,hp,by omega⟩;omega
  ·rcases b4 x hx with⟨y,hy,y1,y2,y3⟩ | ⟨y1,y2,y3,y4⟩
   ·rw[← x2];exact(y3 (by omega) (by omega)).symm
   ·rw[← x2];exact y2.symm
 ·have q:=hc fun p=>decide (0<p.pa);simp only[decide_eq_true_eq]at q;have k1:=h.tot;rw[d3,b3,k1];unfold nnN;split at q <;> split at q <;> (try simp only[*,if_true,if_false]) <;> omega
theorem coreOk_iff {c:CO}:qap c=true↔(0≤c.txg∧c.txg≤1000000∧qak c.ddt=true∧c.parts.length≤8∧qbq 12 c.safe=true∧0≤c.logn∧c.logn≤8∧c.sets.all qbl=true∧c.parts.all qan=true∧qa9 (c.sets.map csB)=true∧qcJ c=true∧qco c=true):=by
 unfold qap;simp only[Bool.and_eq_true,decide_eq_true_eq,and_assoc]
theorem qCn (more:Bool) (p:PT) (l:List DE) (b:Bool):(qbG more (qhs p) (l,b,true))=if p.pa=0 then (l,b,true) else ((qho more l p).1,true,(qho more l p).2):=by
 rw[qlA];simp only[qbG,qGE]
theorem qvT {l:List CS} {k:Nat} {s s':CS} (h:l[k]?=some s) (he:csB s'=csB s):(l.set k s').map csB=l.map csB:=by
 rw[qGv,he];apply qGO;intro j;rw[qFn];split
 ·rename_i hj;subst hj;split
  ·rw[qEU,h];rfl
  ·rename_i hn;rw[qFV (by omega)]
 ·rfl
theorem qjd {d x:DK} {c:CO} (hT:CoT c) (hc:qap c=true) {k i:Nat} {s:CS} (hs:c.sets[k]?=some s) (hi:i<8) {now:PT} (hn:qaI now=true):qap (qfN d x c k i s (s.map[i]?.getD zPT) now).2.1=true:=by
 have hs8:=hT.m8 s (qGj hs);obtain⟨old,ho⟩:∃ old,s.map[i]?=some old:=⟨_,qEq (by omega)⟩;rw[ho,qFi];unfold qfN;simp only[qCn];obtain⟨h1,h2,h3,h4,h5,h6,h7,h8,h9,h10,h11,h12⟩:=coreOk_iff.1 hc;have hcs:=h8;rw[qED]at hcs;have hok:=hcs s (qGj hs);have hmp:∀ p∈s.map,qaI p=true:=by
  simp only[qbl,Bool.and_eq_true,qED]at hok;exact hok.2
 have hp0:∀ p:PT,qaI p=true→0≤p.pa:=fun p hp=>by
  unfold qaI at hp;split at hp
  ·omega
  ·simp only[Bool.and_eq_true,decide_eq_true_eq]at hp;omega
 have hoP:old∈qaA c.sets:=qGN.2 ⟨s,qGj hs,qGj ho⟩;have hC:=qAD h3 h11 h12;generalize hl1:(if now.pa=0 then (c.ddt,c.dirty,true) else ((qho true c.ddt now).1,true,(qho true c.ddt now).2))=A
 obtain⟨l1,b1,k1⟩:=A;simp only;generalize hl2:(if old.pa=0 then (l1,b1,true) else ((qho false l1 old).1,true,(qho false l1 old).2))=B
 obtain⟨l2,b2,k2⟩:=B;simp only;by_cases hf:k1=false∨k2=false
 ·rw[if_pos hf];exact hc
 ·rw[if_neg hf];have e1:k1=true:=by cases k1 <;> simp_all
  have e2:k2=true:=by cases k2 <;> simp_all
  subst e1 e2;have q1:(now.pa=0∧l1=c.ddt)∨(now.pa≠0∧(qbY c.ddt now.ps now.pa).2=true∧l1=(qbY c.ddt now.ps now.pa).1):=by
   split at hl1
   ·rename_i h;simp only[qEe]at hl1;exact .inl ⟨h,hl1.1.symm⟩
   ·rename_i h;simp only[qEe,qho,if_true]at hl1;exact .inr ⟨h,hl1.2.2,hl1.1.symm⟩
  have q2:(old.pa=0∧l2=l1)∨(old.pa≠0∧(qbk l1 old.pa).2=true∧l2=(qbk l1 old.pa).1):=by
   split at hl2
   ·rename_i h;simp only[qEe]at hl2;exact .inl ⟨h,hl2.1.symm⟩
   ·rename_i h;simp only[qEe,qho,qEl,if_false]at hl2;exact .inr ⟨h,hl2.2.2,hl2.1.symm⟩
  obtain⟨d1,d2⟩:=qtF (P':=qaA (c.sets.set k ⟨s.name,s.kind,s.frm,s.map.set i now,s.home,true⟩)) h3 hC hoP (hp0 now hn) (hp0 old (hmp old (qGj ho))) (fun f=>qjI f hs ho rfl) (fun p hp=>qwC hs rfl hp) q1 q2;obtain⟨d3,d4⟩:=qAC (c:=⟨c.txg,c.sets.set k ⟨s.name,s.kind,s.frm,s.map.set i now,s.home,true⟩,l2,c.parts,b2,c.safe,c.logn⟩) d1 d2;refine coreOk_iff.2 ⟨h1,h2,d1,h4,h5,h6,h7,?_,h9,?_,d3,d4⟩
  ·rw[qED];intro t ht;rcases qHi ht with ht | rfl
   ·exact hcs t ht
   ·simp only[qbl,Bool.and_eq_true,qED]at hok ⊢;refine⟨hok.1,fun p hp=>?_⟩;rcases qHi hp with hp | rfl
    ·exact hok.2 p hp
    ·exact hn
  ·simp only;rw[qvT (s':=⟨s.name,s.kind,s.frm,s.map.set i now,s.home,true⟩) hs rfl];exact h10
theorem qoH {d:DK} {c:CO} (hT:CoT c) (hc:qap c=true) (k:Nat) {i:Nat} (hi:i<8) (text:List UInt8):qap (qcL d c k i text).2.1=true:=by
 unfold qcL;cases hs:c.sets[k]? with
 | none=>exact hc
 | some s =>
  simp only;split
  ·exact qjd hT hc hs hi (by decide)
  ·split
   ·exact hc
   ·split
    ·exact hc
    ·split
     ·exact hc
     ·exact qjd hT hc hs hi (qu4 _ _ _)
theorem qzR {t:List UInt8} (h:(qkX t).2=true):qdc (qkX t).1=true:=by
 unfold qkX at h ⊢;split
 ·rename_i m a i x y hc;rw[hc]at h;simp only at h;split
  ·rename_i p q hm;rw[hm]at h;simp only at h;split
   ·rename_i h1;have hne:t≠[]:=by
     rintro rfl;have:=h1.1;simp[qbb,qa2]at this
    have hlr:=h1.2;unfold qbS at hlr;split at hlr
    ·exact absurd hlr.symm hne
    ·rename_i hk;simpa using hk
   ·rename_i h1;rw[if_neg h1]at h;cases h
  ·rename_i hm;split at h
   ·rename_i q;exact absurd q (hm _ _)
   ·cases h
 ·rename_i hc;split at h
  ·rename_i q;exact absurd q (hc _ _ _ _ _)
  ·cases h
def LgO (o:BO):Prop:=o.kind=3∧o.a.length≤24∧o.b=[]∧0≤o.i∧o.i<8∧o.text.length≤24
theorem qDk {r:LR} (h:qdc r=true):LgO r.op:=by
 simp only[qdc,Bool.and_eq_true,decide_eq_true_eq,qbN]at h;obtain⟨⟨⟨⟨⟨⟨h1,h2⟩,h3⟩,h4⟩,h5⟩,h6⟩,h7⟩:=h;refine⟨by omega,?_,h4,h5,h6,h7⟩;omega
theorem qre {d:DK} {txg:Int} {o:BO} (h:o∈lfB d txg):LgO o:=by
 unfold lfB at h;rw[qux]at h;have h2:=qpV _ _ h;obtain⟨i,_,hi⟩:=qER.1 h2;rw[qmE,qfF,qfF,qgF,qgF]at hi;split at hi
 ·rename_i g;simp only[Bool.and_eq_true]at g;injection hi with hi;subst hi;exact qDk (qzR g.1.1)
 ·split at hi
  ·rename_i g;simp only[Bool.and_eq_true]at g;injection hi with hi;subst hi;exact qDk (qzR g.1.1)
  ·cases hi
def agF:List BO→DK→CO→DK×CO×Int
 | [],d,c=>(d,c,0)
 | o::r,d,c=>if dnB c o≠0 then (d,c,dnB c o) else
  if (qcL d c (nmP c.sets o.a) o.i.toNat o.text).2.2≠0 then (d,c,(qcL d c (nmP c.sets o.a) o.i.toNat o.text).2.2) else
  agF r (qcL d c (nmP c.sets o.a) o.i.toNat o.text).1 (qcL d c (nmP c.sets o.a) o.i.toNat o.text).2.1
structure AgT (d:DK) (c:CO):Prop where
 d:qbw d=true
 t:CoT c
 c:qap c=true
theorem AgT.turn {d:DK} {c:CO} (h:AgT d c) (k:Nat) {i:Nat} (hi:i<8) (text:List UInt8):AgT (qcL d c k i text).1 (qcL d c k i text).2.1 :=
 ⟨(qsm h.d c k i text).1,qvo h.t (qb1 h.c).1 k i text,qoH h.t h.c k hi text⟩
theorem qAR:∀ {l:List BO} {d:DK} {c:CO},(∀ o∈l,LgO o)→AgT d c→AgT (agF l d c).1 (agF l d c).2.1
 | [],d,c,_,h=>h
 | o::r,d,c,hl,h=>by
  have ho:=hl o (by simp);rw[agF];split
  ·exact h
  ·split
   ·exact h
   ·exact qAR (fun x hx=>hl x (by simp[hx])) (h.turn _ (by have:=ho.2.2.2;omega) _)
theorem doN (bs:List BS) (o:BO) (hl:bs.length<2000000) (hB:∀ b∈bs,b.bl.length=8) (hn:∀ b∈bs,b.name.length<1000000000) (ho:o.a.length<1000000000∧o.b.length<1000000000) :
  ACall prog 100 [.agg [.sl 1000 0 bs.length],.agg (BO.row o)] [(1000,qbz bs)] (fun r L'=>r=.tup [.agg [.sl 902 0 (doB bs o).1.length],.int .i64 (doB bs o).2]∧L'=[(902,qbz (doB bs o).1)]):=by
 refine(doC bs o hl hB hn ho).can ?_;rintro r L' ⟨id,hid,rfl,rfl⟩;simp only[qFO,qFX,or_false]at hid;rcases hid with rfl | rfl
 ·exact⟨[(1000,902)],by simp,by simp,by simp,by simp,by simp,by simp[qag,qbz]⟩
 ·exact⟨[(900,902)],by simp,by simp,by simp,by simp,by simp,by simp[qag,qbz]⟩
theorem qv9 (d:DK) (c:CO) (h:AgT d c):CV prog 42 [.agg d.row,.agg c.row] (.tup [.agg (agF (lfB d c.txg) d c).1.row,.agg (agF (lfB d c.txg) d c).2.1.row,.int .i64 (agF (lfB d c.txg) d c).2.2]):=by
 have c1:=qqo d (qdE h.d) c.txg;have hll:=qrf d c.txg;have hop:=fun o (ho:o∈lfB d c.txg)=>qre ho;generalize lfB d c.txg=ls at *
 obtain⟨R,hR⟩:∃ R,agF ls d c=R:=⟨_,rfl⟩;rw[hR];simp only[DK.row]at c1;refine cvx func42 [(5,[zJ 0 [3] [],zJ 2 [] [3],zJ 3 [] [3],zJ 4 [] [3],zJ 5 [] [3],⟨1,[],[],[10],[]⟩,⟨6,[28],[],[10],[]⟩,zI 7,zI 8,zI 9,zJ 10 [] [3],zI 11,zI 12]),(7,[zJ 0 [2] [],zJ 1 [3] [2],zJ 2 [] [2,3],zJ 3 [] [3],zI 4,zI 5]),(8,[zJ 0 [3] [],zJ 2 [] [3],zJ 3 [] [3],zJ 4 [] [3],zJ 5 [] [3],zJ 6 [] [3],zI 1,zI 7,zI 8,zI 9,zI 10,zI 11,zI 12]),(9,[zJ 0 [2] [],zJ 1 [3] [2],zJ 2 [] [2,3],zJ 3 [] [2,3],zJ 4 [] [2,3],zJ 5 [] [2,3],zJ 6 [] [2,3],zJ 7 [] [2,3],zJ 8 [] [2,3],zJ 9 [] [2,3],zJ 10 [] [2,3],zJ 11 [] [2,3],zJ 12 [] [2,3],⟨13,[],[],[18,19],[]⟩,zI 14,zI 15,zI 16,zI 17,zJ 18 [] [2,3],zJ 19 [] [2,3],zI 20,zI 21,zI 22]),(11,[zJ 0 [2] [],zJ 1 [3] [2],zJ 2 [] [2,3],zJ 3 [] [3],zI 4,zI 5]),(14,[zJ 0 [2] [],zJ 1 [3] [2],zJ 2 [] [3],zI 3,zI 4])] ntmps42 rfl rfl rfl ?_ (hca:=by simp[DK.row,qeB]) (hcv:=by simp[DK.row,qeB]);simp[DK.row,CO.row];refine c1.call ?_;simp;refine qbj (X:=Nat×DK×CO) [2,3,4,5,7,8] [(2,2),(3,3),(4,4),(5,5)] (fun x=>[(8,.int .i64 x.1)]) (fun x=>[(2,⟨3,[x.2.1.row]⟩),(3,⟨7,[x.2.2.row]⟩),(4,⟨3,[[.nils,.nils,.nils]]⟩),(5,⟨7,[[.int .i64 0,.nils,.nils,.nils,.bool false,.nils,.int .i64 0]]⟩)]) (fun x=>ls.length-x.1) (fun x=>x.1≤ls.length∧AgT x.2.1 x.2.2∧agF (ls.drop x.1) x.2.1 x.2.2=R) (0,d,c) ⟨by simp,h,by simpa using hR⟩ ?_ (he:=by simp[qag,DK.row,CO.row]);rintro⟨i,d,c⟩ ⟨hi,hT,hF⟩;simp only at hi hT hF;cases hr:ls.drop i with
 | nil =>
  have:=qaY hr;have hie:i=ls.length:=by omega
  subst hie;rw[hr,agF]at hF;subst hF;simp[DK.row,CO.row]
 | cons o r =>
  obtain⟨g1,e0,e1,g3⟩:=qaZ hr;obtain⟨o1,o2,o3,o4,o5,o6⟩:=hop o (qGj e1);have e2:=qao ((i:Int)+1) (by omega) (by omega);obtain⟨hm,k1,k2,k3,k4,k5,k6,k7⟩:=qb1 hT.c;have cn:=qmB c (by omega) hT.t.m8;have cn2:=qql c (by omega) hT.t.m8;have cd:=doN (c.sets.map csB) o (by simp;omega) (fun b hb=>by
   obtain⟨s,hs,rfl⟩:=qER.1 hb;simp[csB]) (fun b hb=>by
   obtain⟨s,hs,rfl⟩:=qER.1 hb;have:=(hT.t.nm s hs).1;simp[csB];omega) ⟨by omega,by simp[o3]⟩
  have ca:=qhu (atC (c.sets.map csB) o.a (by simp;omega)) (hca:=by simp[bk]) (hcv:=by simp);rw[← qq0]at ca;have hdn:(doB (c.sets.map csB) o).2=dnB c o:=rfl;rw[hr,agF]at hF;simp only[CO.row]at cn cn2;simp[DK.row,CO.row,BO.row,g1,e0,e1,show(i:Int)<ls.length by omega];refine qad [] (by kernel_rfl) cn (by simp[DE.row,PT.row,qac,qbO]) (by simp) trivial (by simp) (by simp) ?_;rintro r L' ⟨rfl,rfl⟩;refine⟨[(900,28)],⟨by simp,by simp,by simp,by simp,by simp⟩,?_⟩;simp only[qaf];simp[BO.row];generalize hX:doB (c.sets.map csB) o=X at *
  obtain⟨xb,xc⟩:=X;simp only at hdn;subst hdn;simp only[BO.row,qFs]at cd;refine qad [(1000,.whole 28)] (by kernel_rfl) cd (by simp) (by simp) (by simp[qbz];exact qaa rfl (by simp)) (by simp) (by simp) ?_;rintro r L' ⟨rfl,rfl⟩;refine⟨[(902,902)],⟨by simp,by simp,by simp,by simp,by simp⟩,?_⟩;simp only[qaf];by_cases hz:dnB c o≠0
  ·rw[if_pos hz]at hF;subst hF;simp[hz,DK.row,CO.row]
  ·rw[if_neg hz]at hF;have hz0:dnB c o=0:=by omega
   obtain⟨_,q2,_,_⟩:=qos hz0;have ct:=qyW d (qdE hT.d) c hT.t hm (nmP c.sets o.a) o.i.toNat (q2 (by omega)) (by omega) o.text (by omega) ⟨by omega,by omega⟩;have hTu:=hT.turn (nmP c.sets o.a) (i:=o.i.toNat) (by omega) o.text;rw[show((o.i.toNat:Nat):Int)=o.i by omega]at ct;generalize qcL d c (nmP c.sets o.a) o.i.toNat o.text=Y at *
   obtain⟨yd,yc,yn⟩:=Y;simp only at hF hTu;simp only[DK.row,CO.row]at ct;simp only[bk,qEY]at cn2 ca;simp[hz0,BO.row,DK.row,CO.row,g1,e0,e1];refine cn2.call ?_;simp;refine ca.call ?_;simp[BO.row,g1,e0,e1];refine ct.call ?_;by_cases hy:yn≠0
   ·rw[if_pos hy]at hF;subst hF;simp[hy,DK.row,CO.row]
   ·rw[if_neg hy]at hF;simp[show yn=0 by omega,DK.row,CO.row];exact nx (i+1,yd,yc) [(2,2),(3,3),(4,4),(5,5)] ⟨by simp only;omega,hTu,by simp only[g3];exact hF⟩ (by simp only;omega) (h4:=by simp[qag,e2,DK.row,CO.row])
def agB (d:DK):DK×CO×Int:=if (rrB d).2≠0 then (zDK,zK,(rrB d).2) else agF (lfB d (rrB d).1.txg) d (rrB d).1
theorem qxL {d:DK} {p:PT} (h:(qaj d p).2=0):qaI p=true:=by
 unfold qaj at h;split at h
 ·simp at h
 ·split at h
  ·rename_i g;exact(qdl g).2.1
  ·split at h
   ·rename_i g;exact(qdl g).2.1
   ·simp at h
theorem qwu {p:PT} (h:qaI p=true):p.pa<120:=by
 unfold qaI at h;split at h
 ·omega
 ·simp only[Bool.and_eq_true,decide_eq_true_eq]at h;omega
theorem qlu:∀ {l:List Int} {q:Int},(∀ x∈l,q<x∧13≤x∧x<120)→l.Pairwise (· < ·)→qbq q l=true
 | [],_,_,_=>rfl
 | x::r,q,h,hp=>by
  rw[qHo]at hp;have hx:=h x (by simp);simp only[qbq,Bool.and_eq_true,decide_eq_true_eq];exact⟨⟨⟨hx.2.1,hx.2.2⟩,hx.1⟩,qlu (fun y hy=>⟨hp.1 y hy,(h y (by simp[hy])).2⟩) hp.2⟩
theorem qln {c:CO} (hc:qap c=true) {root:Int} (hr:root<120):qbq 12 (qcM c root)=true:=by
 obtain⟨h1,h2,h3,h4,h5,h6,h7,h8,h9,h10,h11,h12⟩:=coreOk_iff.1 hc;have h0:([]:List Int).Pairwise (· < ·):=.nil;obtain⟨a1,a2⟩:=qnm h0 root;obtain⟨b1,b2⟩:=qew (c.ddt.map DE.ea) a1;obtain⟨c1,c2⟩:=qew (c.sets.map fun s=>s.home.pa) b1;obtain⟨d1,d2⟩:=qew (c.parts.map PT.pa) c1;refine qlu (fun x hx=>?_) d1;have hx2:=(d2 x).1 hx;rw[c2,b2,a2]at hx2;rw[qED]at h8 h9;have k1:∀ y∈c.ddt.map DE.ea,y<120:=fun y hy=>by
  obtain⟨e,he,rfl⟩:=qER.1 hy;have:=qgg (qhj h3 e he);omega
 have k2:∀ y∈c.sets.map (fun s=>s.home.pa),y<120:=fun y hy=>by
  obtain⟨s,hs,rfl⟩:=qER.1 hy;have:=h8 s hs;simp only[qbl,Bool.and_eq_true]at this;exact qwu this.1.2
 have k3:∀ y∈c.parts.map PT.pa,y<120:=fun y hy=>by
  obtain⟨p,hp,rfl⟩:=qER.1 hy;exact qwu (qdX (h9 p hp)).1
 rcases hx2 with((((hx2 | ⟨rfl,hx3⟩) | ⟨hx2,hx3⟩) | ⟨hx2,hx3⟩) | ⟨hx2,hx3⟩)
 ·simp at hx2
 ·omega
 ·have:=k1 x hx2;omega
 ·have:=k2 x hx2;omega
 ·have:=k3 x hx2;omega
theorem qmC {d:DK} (h:(rrB d).2=0):AgT d (rrB d).1:=by
 obtain⟨x,hd,hT,hx,hk⟩:=qzb h;have hroot:qaI (rbB d).2=true:=by
  unfold rrB at h;split at h
  ·split at h
   ·rename_i q;simp only[rrF,Bool.and_eq_true,decide_eq_true_eq]at q;exact qxL q.1
   ·simp at h
  ·simp at h
 rw[hx];refine⟨hd,hT,?_⟩;obtain⟨h1,h2,h3,h4,h5,h6,h7,h8,h9,h10,h11,h12⟩:=coreOk_iff.1 hk;exact coreOk_iff.2 ⟨h1,h2,h3,h4,qln hk (qwu hroot),h6,h7,h8,h9,h10,h11,h12⟩
theorem qAS {d:DK} (h:(agB d).2.2=0):AgT (agB d).1 (agB d).2.1:=by
 unfold agB at h ⊢;split
 ·rename_i q;rw[if_pos q]at h;exact absurd h q
 ·rename_i q;exact qAR (fun o ho=>qre ho) (qmC (by omega))
def zpR:List AV:=[.nils,.nils,.nils,.int .i64 0,.nils,.nils,.nils,.bool false,.nils,.int .i64 0,.bool false]
def qDL (R:DK×CO×Int) (r:AV) (L':List (Nat×Ob)):Prop :=
 (R.2.2≠0∧r=.tup [.agg zpR,.int .i64 R.2.2]∧L'=[]) ∨
 (R.2.2=0∧r=.tup [.agg (qwm ⟨R.1,R.2.1,true⟩ 901 902 903 904 905 906 907),.int .i64 0]∧L'=qin ⟨R.1,R.2.1,true⟩ 901 902 903 904 905 906 907)
theorem qwV (d:DK) (h:DkT d):ACall prog 45 [.agg d.row] [] (qDL (agB d)):=by
 obtain⟨R,hR⟩:∃ R,agB d=R:=⟨_,rfl⟩;rw[hR];unfold agB at hR;have c1:=qo9 d h;have c2:=qlL d h;have c3:=qrs d h (rrB d).1.txg;have hll:=qrf d (rrB d).1.txg;have hop:=fun o (ho:o∈lfB d (rrB d).1.txg)=>qre ho;have hT0:=@qmC d;generalize lfB d (rrB d).1.txg=ls at *
 generalize rrB d=K at *
 obtain⟨c,kn⟩:=K;simp only at c3 hR hT0;simp only[DK.row]at c1 c2 c3;refine acx func45 [(4,[zJ 0 [1] [],zJ 2 [4] [1],⟨1,[],[4],[4],[]⟩,zI 3,zJ 4 [] [1,4],zI 5]),(8,[zI 0,zJ 1 [6] [],zJ 3 [8] [6],⟨2,[904,905,906,907],[8],[8],[]⟩,⟨4,[37],[],[8],[]⟩,zI 5,zI 6,zI 7,zJ 8 [] [6,8],zI 9,zI 10])] ntmps45 rfl rfl rfl ?_;simp[DK.row];refine qad [] (by kernel_rfl) c1 (by simp[qae,LT.row]) (by simp) trivial (by simp) (by simp) ?_;rintro r L' (⟨_,hk,rfl,rfl⟩ | ⟨hk,rfl,rfl⟩)
 ·simp only at hk;rw[if_pos hk]at hR;subst hR;refine⟨[],⟨by simp,by simp,by simp,by simp,by simp⟩,?_⟩;simp only[qaf];simp[hk];exact⟨[],by simp,.inl ⟨hk,rfl,rfl⟩⟩
 ·simp only at hk;subst hk;rw[if_neg (by simp)]at hR;have hT:=hT0 rfl;refine⟨[(904,904),(905,905),(906,906),(907,907)],⟨by simp,by simp,by simp,by simp,by simp⟩,?_⟩;simp only[qaf];simp[qe0];refine qad [] (by kernel_rfl) c2 (by simp[qae,LT.row]) (by simp) trivial (by simp) (by simp) ?_;rintro r L' ⟨rfl,rfl⟩;refine⟨[(6,901),(10,902),(14,903)],⟨by simp,by simp,by simp,by simp,by simp⟩,?_⟩;simp only[qaf];simp;refine c3.call ?_;simp;refine qbj (X:=Nat×DK×CO) [2,6,28,29,30] [(2,2),(6,6),(901,901),(902,902),(903,903),(904,904),(905,905),(906,906),(907,907)] (fun x=>[(30,.int .i64 x.1)]) (fun x=>(2,⟨11,[zpR]⟩)::(6,⟨11,[qfB x.2.1 x.2.2 true 901 902 903 904 905 906 907]⟩)::qin ⟨x.2.1,x.2.2,true⟩ 901 902 903 904 905 906 907) (fun x=>ls.length-x.1) (fun x=>x.1≤ls.length∧AgT x.2.1 x.2.2∧agF (ls.drop x.1) x.2.1 x.2.2=R) (0,d,c) ⟨by simp,hT,by simpa using hR⟩ ?_ (he:=by simp[qag,qfB,qin,zpR]);rintro⟨i,d,c⟩ ⟨hi,hT,hF⟩;simp only at hi hT hF;cases hr:ls.drop i with
  | nil =>
   have:=qaY hr;have hie:i=ls.length:=by omega
   subst hie;rw[hr,agF]at hF;subst hF;simp[qfB,qin];exact⟨qin ⟨d,c,true⟩ 901 902 903 904 905 906 907,by simp[qin],.inr ⟨rfl,by simp[qwm],rfl⟩⟩
  | cons o r =>
   obtain⟨g1,e0,e1,g3⟩:=qaZ hr;obtain⟨o1,o2,o3,o4,o5,o6⟩:=hop o (qGj e1);have e2:=qao ((i:Int)+1) (by omega) (by omega);obtain⟨hm,k1,k2,k3,k4,k5,k6,k7⟩:=qb1 hT.c;have cn:=qrD c (by omega) hT.t.m8;have hbk:qa9 (c.sets.map csB)=true:=qiQ hT.c;have cd:=qDP (c.sets.map csB) o ⟨by simp;omega,fun b hb=>by
    obtain⟨s,hs,rfl⟩:=qER.1 hb;have:=hT.t.nm s hs;simp[csB];omega⟩ ⟨by omega,by simp[o3]⟩
   have hdn:(qx6 (c.sets.map csB) o).2=dnB c o:=by
    unfold qx6 dnB;rw[if_pos hbk]
   rw[hr,agF]at hF;rw[hdn]at cd;simp only[CO.row]at cn;simp only[bk,BO.row]at cd;simp[qfB,qin,BO.row,g1,e0,e1,show(i:Int)<ls.length by omega];refine qaJ [] (by kernel_rfl) cn (by simp[qbW,mtA,kcs,qaR,kpt,kin,qal,qbO]) (by simp) trivial (by simp) (by simp) ?_;rintro r0 L' ⟨rfl,rfl⟩;refine⟨by simp[noL],by simp[qbz,qn5],[(900,37)],⟨by simp,by simp,by simp,by simp,by simp⟩,?_⟩;simp only[qaf];simp[BO.row];refine qaJ [] (by kernel_rfl) cd (by simp[qbW,mtA,qbz];exact qEF (by simp)) (by simp) trivial (by simp) (by simp) ?_;rintro r0 L' ⟨rfl,rfl⟩;refine⟨by simp[noL],by simp[qbz,qn5],[(903,39)],⟨by simp,by simp,by simp,by simp,by simp⟩,?_⟩;simp only[qaf];by_cases hz:dnB c o≠0
   ·rw[if_pos hz]at hF;subst hF;simp[hz];exact⟨[],by simp,.inl ⟨hz,by simp[zpR],rfl⟩⟩
   ·rw[if_neg hz]at hF;have hz0:dnB c o=0:=by omega
    obtain⟨_,q2,_,_⟩:=qos hz0;have cp:=qAa d hT.d c hT.t hT.c true o (q2 (by omega)) ⟨by omega,by omega⟩ (by omega);have hTu:=hT.turn (nmP c.sets o.a) (i:=o.i.toNat) (by omega) o.text;generalize qcL d c (nmP c.sets o.a) o.i.toNat o.text=Y at *
    obtain⟨yd,yc,yn⟩:=Y;simp only at hF hTu;simp only[BO.row]at cp;simp[hz0,BO.row];refine qad [(1000,.whole 6),(1001,.whole 901),(1002,.whole 902),(1003,.whole 903),(1004,.whole 904),(1005,.whole 905),(1006,.whole 906),(1007,.whole 907)] (by kernel_rfl) cp (by simp) (by simp) (by simp[qdI,qfB];exact⟨.inr ⟨_,_,rfl,rfl,by simp⟩,qaa rfl (qaB _),qaa rfl (qaB _),qaa rfl (qcz _),qaa rfl (qbd _),qaa rfl (qbZ _),qaa rfl (qbL _),qaa rfl (qaU _)⟩) (by simp[qdI]) (by simp) ?_;rintro r0 L' ⟨d',c',i3,i5,h3,h5,rfl,rfl,hq⟩;simp only[qFO,qFX,or_false]at h3 h5;subst h3 h5;simp only at hq;refine⟨[(903,813),(905,815)],⟨by simp[qdI],by simp,by simp,by simp[qdI],by simp[qdI]⟩,?_⟩;simp only[qaf];by_cases hy:yn≠0
    ·rw[if_pos hy]at hF;subst hF;simp[hy,qdI,qfB];exact⟨[],by simp,.inl ⟨hy,by simp[zpR],rfl⟩⟩
    ·rw[if_neg hy]at hF;obtain⟨rfl,rfl⟩:=hq (by omega);simp[show yn=0 by omega,qdI,qfB];exact nx (i+1,d',c') [(2,2),(6,6),(901,901),(902,902),(813,903),(904,904),(815,905),(906,906),(907,907)] ⟨by simp only;omega,hTu,by simp only[g3];exact hF⟩ (by simp only;omega) (h4:=by simp[qag,e2,zpR,qfB,qin])
def qhp (d:DK) (stage:Int) (fate:List Int):DK:=if (agB d).2.2≠0 then qcy d fate else qrV (agB d).1 (agB d).2.1 stage fate
theorem qqi (d:DK) (h:DkT d) (stage:Int) (fate:List Int) (hf:fate.length≤1048576):CV prog 12 [.agg d.row,.int .i64 stage,.lst 1 (fate.map qac)] (.agg (qhp d stage fate).row):=by
 obtain⟨R,hR⟩:∃ R,qhp d stage fate=R:=⟨_,rfl⟩;rw[hR];have c1:=qoS d h;have c2:=qqu d h;have c3:=fun hz=>qv9 d (rrB d).1 (@qmC d hz);have hT:=@qAS d;have c4:=fun hz=>qCc (agB d).1 (qdE (hT hz).d) (agB d).2.1 (hT hz).t stage fate hf;have c5:=qnE d h fate hf;unfold qhp at hR;have hag:agB d=if (rrB d).2≠0 then (zDK,zK,(rrB d).2) else agF (lfB d (rrB d).1.txg) d (rrB d).1:=rfl
 refine cvx func12 [(4,[zJ 0 [3] [],zJ 2 [7] [3],⟨1,[],[7],[8,9],[]⟩,⟨3,[],[],[8,9],[]⟩,zI 4,zI 5,zI 6,zI 7,zJ 8 [] [3,7],zJ 9 [] [3,7],zI 10,zI 11,zI 12])] ntmps12 rfl rfl rfl ?_ (hca:=by simp[DK.row,qac]) (hcv:=by simp[DK.row]);simp only[DK.row,CO.row]at c1 c2 c5;simp[DK.row];refine c1.call ?_;by_cases q:(rrB d).2≠0
 ·rw[if_pos q]at hag;rw[hag]at hR;rw[if_pos q]at hR;subst hR;simp[q];refine c5.call ?_;simp
 ·rw[if_neg q]at hag;have q0:(rrB d).2=0:=by omega
  have c3:=c3 q0;rw[← hag]at c3;generalize agB d=G at *
  obtain⟨x,y,n⟩:=G;simp only at hR c3 c4 hT;simp only[DK.row,CO.row]at c3;simp[q0];refine c2.call ?_;simp;refine c3.call ?_;by_cases q1:n≠0
  ·rw[if_pos q1]at hR;subst hR;simp[q1];refine c5.call ?_;simp
  ·rw[if_neg q1]at hR;have q2:n=0:=by omega
   have c4:=c4 q2;rw[hR]at c4;simp only[DK.row,CO.row]at c4;simp[q2];refine c4.call ?_;simp
theorem qlJ (d:DK) (h:DkT d) (stage:Int) (fate:List Int) (hf:fate.length≤1048576) :
  ACall prog 14 [.agg d.row,.int .i64 stage,.lst 1 (fate.map qac)] [] (fun r L'=>r=.agg (qb4 (qhp d stage fate) 901 902 903)∧L'=dkL (qhp d stage fate)):=by
 obtain⟨R,hR⟩:∃ R,qhp d stage fate=R:=⟨_,rfl⟩;rw[hR];unfold qhp at hR;have c1:=qwV d h;have hT:=@qAS d;have c2:=fun hz=>qCP (agB d).1 (qdE (hT hz).d) (agB d).2.1 (hT hz).t stage fate hf;have c3:=qok d h fate hf;generalize agB d=G at *
 obtain⟨x,y,n⟩:=G;simp only at hR c2 hT;simp only[DK.row]at c1 c3;refine acx func14 [] ntmps14 rfl rfl rfl ?_;simp[DK.row];refine qad [] (by kernel_rfl) c1 (by simp[qae,LT.row]) (by simp) trivial (by simp) (by simp) ?_;rintro r L' (⟨hk,rfl,rfl⟩ | ⟨hk,rfl,rfl⟩)
 ·simp only at hk;rw[if_pos hk]at hR;rw[hR]at c3;simp only[qb4,dkL]at c3;refine⟨[],⟨by simp,by simp,by simp,by simp,by simp⟩,?_⟩;simp only[qaf,zpR];simp[hk];refine qad [] (by kernel_rfl) c3 (by simp[qae,LT.row,qac]) (by simp) trivial (by simp) (by simp) ?_;rintro r L' ⟨rfl,rfl⟩;refine⟨[(901,901),(902,902),(903,903)],⟨by simp,by simp,by simp,by simp,by simp⟩,?_⟩;simp only[qaf];simp;exact⟨by simp[dkL,qag],by simp[qb4]⟩
 ·simp only at hk;subst hk;rw[if_neg (by simp)]at hR;have c2:=c2 rfl;rw[hR]at c2;simp only[DK.row,CO.row,qb4,dkL]at c2;refine⟨[(901,801),(902,802),(903,803),(904,804),(905,805),(906,806),(907,807)],⟨by simp[qin],by simp,by simp,by simp[qin],by simp⟩,?_⟩;simp only[qaf];simp[qin,qwm];refine qaJ [] (by kernel_rfl) c2 (by simp[qbW,mtA,qai,qbU,kcs,qaR,kpt,kin,qal,qbO,qae,LT.row,qac]) (by simp) trivial (by simp) (by simp) ?_;rintro r L' ⟨rfl,rfl⟩;refine⟨by simp[noL],by simp[qai,qae,qbU,LT.row],[(901,901),(902,902),(903,903)],⟨by simp,by simp,by simp,by simp,by simp⟩,?_⟩;simp only[qaf];simp;exact⟨by simp[dkL,qag],by simp[qb4]⟩
theorem qrm (d:DK) (h:DkT d) (stage:Int) (fate:List Int) (hf:fate.length≤1048576):CV prog 14 [.agg d.row,.int .i64 stage,.lst 1 (fate.map qac)] (.agg (qhp d stage fate).row):=by
 refine CV.of_frz (qlJ d h stage fate hf) ?_ (hca:=by simp[DK.row,qac]) (hcv:=by simp[DK.row]);rintro r L' ⟨rfl,rfl⟩;generalize qhp d stage fate=R;refine⟨by simp[dkL],by simp[dkL],fun x hx=>?_,?_⟩
 ·simp only[dkL,qFO,qFX,or_false]at hx;rcases hx with rfl | rfl | rfl
  ·exact qaB _
  ·exact qaB _
  ·exact qcz _
 ·simp[qbe,dkL,qb4,qai,qbU,qal,DK.row]
theorem qwl (d:DK) (stage:Int) (fate:List Int):DkT (qhp d stage fate):=by
 unfold qhp;split
 ·exact qop _ _
 ·exact qAx _ _ _ _
theorem qBW (d:DK) (h:DkT d):CV prog 9 [.agg d.row] (.agg d.row):=by
 refine CV.of_frz (qyD d h) ?_ (hca:=by simp[DK.row]) (hcv:=by simp[DK.row]);rintro r L' ⟨rfl,rfl⟩;refine⟨by simp,by simp,fun x hx=>?_,?_⟩
 ·simp only[qFO,qFX,or_false]at hx;rcases hx with rfl | rfl | rfl
  ·exact qaB _
  ·exact qaB _
  ·exact qcz _
 ·simp[qbe,qb4,qai,qbU,qal,DK.row]
theorem qBZ (d:DK) (hg:DkG d):∃ z:Int,z≤1048576∧(0≤z→DkT d)∧CV prog 7 [.agg d.row,.int .i64 1048576] (.int .i64 z):=by
 have h:=qpZ d (left:=1048576) (by omega);refine⟨qt8 d 1048576,by omega,fun hz=>?_,qBY d 1048576 hg (by omega)⟩;obtain⟨h1,h2,h3,h4,h5,h6⟩:=h.2.2 hz;exact⟨by omega,by omega,by omega,fun t ht=>by have:=h4 t ht;omega,fun t ht=>by have:=h5 t ht;omega,fun t ht=>by have:=h6 t ht;omega⟩
theorem dkA_shp {avs:List AV} (h:Shp prog 10 26 avs):∃ d:DK,DkG d∧avs=d.row:=qAt (n:=4) h
theorem lawRiseCut (d:DK) (stage:Int) (fate:List Int) (hd:DkG d) (hfm:fate.length≤maxLen):CV prog 4 [.agg d.row,.int .i64 stage,.lst 1 (fate.map qac)] (.bool true):=by
 obtain⟨z,z1,z3,c0⟩:=qBZ d hd;simp only[DK.row]at c0;refine cvx func4 [(13,[zJ 0 [9] [],zJ 1 [3] [9],zJ 2 [] [9],zI 3,zI 4])] ntmps4 rfl rfl rfl ?_ (hca:=by simp[DK.row,qac]);simp[DK.row];by_cases hf1:1048576<fate.length
 ·simp[hf1,show(1048576:Int)<fate.length by omega,show ¬ (fate.length:Int)≤1048576 by omega]
 have hf:fate.length≤1048576:=by omega
 simp[hf1,show ¬ (1048576:Int)<fate.length by omega,show(fate.length:Int)≤1048576 by omega];refine c0.call ?_;by_cases hz:z<0
 ·simp[hz]
 have hdT:=z3 (by omega);simp[hz];have c1:=qBW d hdT;have c3:=qqi d hdT stage fate hf;have c4:=qrm d hdT stage fate hf;have c5:=qyD d hdT;have c6:=qlJ d hdT stage fate hf;have qd:=qwl d stage fate;generalize qhp d stage fate=q at *
 have c7:=qAo q qd;have c8:=qAo d hdT;have c9:=qq9 d 1 hdT (by omega);have c10:=qq9 q 1 qd (by omega);have c11:=qw5 q 1 qd (by omega);have c12:=qBV fate hf;have c13:=qpU fate hf;have c14:=qhu (qxk fate hf) (hca:=by simp[qac]);have hwd:=qBJ hdT;have c15:=qwE fate fate.length (1+wD d) rfl (by omega) (by omega);simp only[DK.row,qb4,dkL,qGh,qE0,qEB,qHs,qHt,Int.natCast_one]at c1 c3 c4 c5 c6 c7 c8 c9 c10 c11 c15;refine c1.call ?_;simp;refine c12.call ?_;simp;refine c3.call ?_;simp;refine qad [] (by kernel_rfl) c5 (by simp[qae,LT.row]) (by simp) trivial (by simp) (by simp) ?_;rintro r L' ⟨rfl,rfl⟩;refine⟨[(901,901),(902,902),(903,903)],⟨by simp,by simp,by simp,by simp,by simp⟩,?_⟩;simp only[qaf];simp;refine qad [] (by kernel_rfl) c13 (by simp[qac]) (by simp) trivial (by simp) (by simp) ?_;rintro r L' ⟨rfl,rfl⟩;refine⟨[(7,970)],⟨by simp,by simp,by simp,by simp,by simp⟩,?_⟩;simp only[qaf];simp;refine qaJ [] (by kernel_rfl) c6 (by simp[qbW,mtA,qai,qbU,kin,qal,qae,LT.row,qac]) (by simp) trivial (by simp) (by simp) ?_;rintro r L' ⟨rfl,rfl⟩;refine⟨by simp[noL],by simp[qai,qbU,qae,LT.row],[(901,911),(902,912),(903,913)],⟨by simp,by simp,by simp,by simp,by simp⟩,?_⟩;simp only[qaf];simp;refine c7.view (by simp[qbW,mtA,qai,qbU,kin,qal,qae,LT.row,qac]) ?_;simp;refine c1.call ?_;simp;refine c8.view (by simp[qbW,mtA,qai,qbU,kin,qal,qae,LT.row,qac]) ?_;simp;refine c12.call ?_;simp;refine c14.view (by simp[qbW,mtA,qai,qbU,kin,qal,qae,LT.row,qac]) ?_;simp;refine qad [(1000,.whole 901),(1001,.whole 902),(1002,.whole 903)] (by kernel_rfl) c9 (by simp) (by simp) ⟨⟨qai d.s0,by simp,rfl,qaa rfl (qaB _)⟩,⟨qai d.s1,by simp,rfl,qaa rfl (qaB _)⟩,⟨qbU d.late,by simp,rfl,qaa rfl (qcz _)⟩,trivial⟩ (by simp) (by simp) ?_;rintro r L' ⟨rfl,rfl⟩;refine⟨[],⟨by simp,by simp,by simp,by simp,by simp⟩,?_⟩;simp only[qaf];have hw1:¬ (1+(wD d:Int)+fate.length)<0:=by omega
 have hw2:¬ (1+(wD q:Int))<0:=by omega
 simp;refine qad [(1000,.whole 970)] (by kernel_rfl) c15 (by simp) (by simp) ⟨⟨kin fate,by simp[kin],rfl,qaa rfl (qaU _)⟩,trivial⟩ (by simp) (by simp) ?_;rintro r L' ⟨rfl,rfl⟩;refine⟨[],⟨by simp,by simp,by simp,by simp,by simp⟩,?_⟩;simp only[qaf];simp[hw1];refine c7.view (by simp[qbW,mtA,qai,qbU,kin,qal,qae,LT.row,qac]) ?_;simp;refine qad [(1000,.whole 911),(1001,.whole 912),(1002,.whole 913)] (by kernel_rfl) c10 (by simp) (by simp) ⟨⟨qai q.s0,by simp,rfl,qaa rfl (qaB _)⟩,⟨qai q.s1,by simp,rfl,qaa rfl (qaB _)⟩,⟨qbU q.late,by simp,rfl,qaa rfl (qcz _)⟩,trivial⟩ (by simp) (by simp) ?_;rintro r L' ⟨rfl,rfl⟩;refine⟨[],⟨by simp,by simp,by simp,by simp,by simp⟩,?_⟩;simp only[qaf];simp;have m0:(mkD q 1).s0.length=q.s0.length:=qgE _ _ _ _;have m1:(mkD q 1).s1.length=q.s1.length:=qgE _ _ _ _;have m2:(mkD q 1).late.length=q.late.length:=qgE _ _ _ _;generalize mkD q 1=Q at *
 simp only[← m0,← m1,← m2];refine c11.view (by simp[qbW,mtA,qai,qbU,kin,qal,qae,LT.row,qac]) ?_;simp[hw2];refine c1.call ?_;simp;refine c12.call ?_;simp;refine c4.call ?_;simp;refine c7.call ?_;simp;refine c11.view (by simp[qbW,mtA,qai,qbU,kin,qal,qae,LT.row,qac]) ?_;simp[hw2]
end Go.Av.F
end
section
namespace Go.Av
open Go.RowKit Go.ChangeShapes Go.WideShapes Go.ChangeAt
variable {P:Program} {W:World}
theorem qmL {n:String} {d:DataW Unit}:∀ {laid:List (String×DataW Unit)} {ps:List MemPlace},DataW.LaidVars P W laid ps→(n,d)∈laid →
  ∃ g t cs fuel p,P.globalNamed n=some g∧(P.globals[g]?).map (·.type)=some t∧W.var? P n=some cs∧DataW.trod (fun _=>()) P W 0 (fun _=>true) false fuel t cs.toList=some (d,p)
 | [],ps,_,hm=>by simp at hm
 | (m,e)::r,ps,h,hm=>by
  obtain⟨g,t,cs,fuel,p,q,h1,h2,h3,h4,h5,_⟩:=h;rcases qFO.1 hm with hm | hm
  ·injection hm with e1 e2;subst e1;subst e2;exact⟨g,t,cs,fuel,p,h1,h2,h3,h4⟩
  ·exact qmL h5 hm
theorem qt0 {n:String} {g:Nat} {cs:Array Value} (hg:P.globalNamed n=some g) (hv:W.var? P n=some cs) (avs:List AV) (hl:avs.length=cs.size) (hne:avs≠[]) (hr:∀ j,j<avs.length→AVRel W (Old W) noG (avs.getD j .top) (cs.getD j undef)) :
  AVRel W (Old W) noG (.elm avs) (.pointer (some ⟨g,0,none⟩))∧Old W ⟨g,avs.length,none⟩∧W.cell? ⟨g,avs.length,none⟩=none:=by
 have hc:=fun i=>World.var?_cell hg hv i;have h0:0<cs.size:=by rw[← hl];exact qEm.2 hne
 have hcell:∀ j,j<avs.length→W.cell? ⟨g,j,none⟩=some (cs.getD j undef):=fun j hj=>by
  rw[hc,qF7 (by omega)];simp[Array.getD,show j<cs.size by omega]
 have hb:g<W.heap.size:=World.block_lt_of_cell? W _ (hcell 0 (by omega));refine⟨.elm _ avs _ (fun j=>cs.getD j undef) rfl (fun j hj=>hb) (fun j hj=>?_) hr,hb,?_⟩
 ·simpa [Addr.at]using hcell j hj
 ·rw[hc,qFo (by omega)]
theorem laid_tab {laid:List (String×DataW Unit)} (h:laidMet P laid W) {n:String} {g:Nat} {zs:List Int} {k:IntKind} {t e:TypeId} {m:Nat} (hm:(n,(Lib.tabData k zs:DataW Unit))∈laid) (hg:P.globalNamed n=some g) (hty:(P.globals[g]?).map (·.type)=some t)
  (ht:P.underlying t=some (.array m e)) (he:P.underlying e=some (.int k)) (hce:P.cellsOf e=1) (hct:P.cellsOf t=m) (hne:zs≠[]) :
  AVRel W (Old W) noG (.elm (zs.map (AV.int k))) (.pointer (some ⟨g,0,none⟩))∧Old W ⟨g,(zs.map (AV.int k)).length,none⟩∧W.cell? ⟨g,(zs.map (AV.int k)).length,none⟩=none:=by
 obtain⟨ps,hL,_⟩:=h;obtain⟨g',t',cs,fuel,p,h1,h2,h3,h4⟩:=qmL hL hm;obtain rfl:=qGS (hg.symm.trans h1);obtain rfl:=qGS (hty.symm.trans h2);have hcs:=Lib.cells_of_tab ht he hce hct h4;have hcs2:cs=(zs.map fun z=>Value.int k z).toArray:=by rw[← hcs]
 subst hcs2;refine qt0 hg h3 _ (by simp) (by simpa using hne) fun j hj=>?_;simp only[qFs]at hj;simp[List.getD,Array.getD,hj];exact .int _ _ _
theorem laid_ifc {laid:List (String×DataW Unit)} (h:laidMet P laid W) {n s:String} {d:DataW Unit} {g:Nat} {t:TypeId} {m:Array (String×TypeId)} (hm:(n,(DataW.iface s d:DataW Unit))∈laid) (hg:P.globalNamed n=some g) (hty:(P.globals[g]?).map (·.type)=some t)
  (ht:P.underlying t=some (.interface m)):AVRel W (Old W) noG (.elm [.ifc]) (.pointer (some ⟨g,0,none⟩))∧Old W ⟨g,[AV.ifc].length,none⟩∧W.cell? ⟨g,[AV.ifc].length,none⟩=none:=by
 obtain⟨ps,hL,_⟩:=h;obtain⟨g',t',cs,fuel,p,h1,h2,h3,h4⟩:=qmL hL hm;obtain rfl:=qGS (hg.symm.trans h1);obtain rfl:=qGS (hty.symm.trans h2);cases fuel with
 | zero=>simp[DataW.trod]at h4
 | succ fuel =>
  unfold DataW.trod at h4;simp only[ht]at h4;obtain⟨l⟩:=cs;simp only at h4
  match l,h4,h3 with
  | [.iface u v],h4,h3 =>
   refine qt0 hg h3 _ rfl (by simp) fun j hj=>?_;obtain rfl:j=0:=by simpa using hj
   exact .ifc _ _ _
  | [.nilIface],h4,h3=>simp at h4
  | [],h4,h3=>simp at h4
  | .int _ _::_,h4,h3=>simp at h4
  | _::_::_,h4,h3=>simp at h4
end Go.Av
end
section
namespace Go.Proofs.YthiidgicibfbjaaGreatDoor
open Go.ChangeShapes Go.WideShapes Go.ChangeAt Go.RowKit
theorem qtm:ownKnob Tryz.prog.godebug=none:=by kernel_rfl
theorem qdM:laidOutB Tryz.prog=true:=by kernel_rfl
theorem qi2:mapsRowed Tryz.prog=true:=by kernel_rfl
theorem qpg:Tryz.prog.stopsHeard=true:=by kernel_rfl
theorem qkt:Tryz.prog.mayEnter=true:=by kernel_rfl
theorem qrI:Tryz.pinned.checked.prog.mainIs=some (true,"94ddc6106c0e87da7f990659e475fcd9fa75f92a8b1a5b1f9337df2f6a15a156".toList):=by kernel_rfl
theorem qpf:true=Tryz.prog.looks []:=by kernel_rfl
theorem qrH:Tryz.prog.funcs.any Func.goes=false:=by kernel_rfl
theorem qrC {P:Program} (h:P.funcs.any Func.goes=false) (f:Nat):P.goes f=false:=by
 unfold Program.goes;rw[h,Bool.and_false,Bool.or_false,List.any_eq_false];intro g _;cases hg:P.funcs[g]? with
 | none=>simp
 | some fn =>
  rw[Array.any_eq_false]at h;obtain⟨hl,rfl⟩:=Array.getElem?_eq_some_iff.1 hg;simpa using h g hl
theorem qmW {P:Program} (h:P.funcs.any Func.goes=false) (c:OpenClaim):false=c.goesBy P:=by
 unfold OpenClaim.goesBy Program.goesAt Program.goesFrom;have e:P.goes=fun _=>false:=funext fun f=>qrC h f;rw[e];cases P.funcNamed c.func <;> cases c.start <;> simp
end Go.Proofs.YthiidgicibfbjaaGreatDoor
end
