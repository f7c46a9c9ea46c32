/- Lemmas for the proof, no statement of the seat; no conditions. -/
import Derived.Test.YthiidgicibfbjaaGreatDoorLayAW
set_option linter.unusedSimpArgs false
set_option linter.unusedVariables false
set_option linter.unnecessarySimpa false
set_option maxRecDepth 100000
set_option maxHeartbeats 400000
section
namespace Go.Av.F
open Go Go.Av Go.Proofs Go.Proofs.Tryz
theorem qjJ (c:CO) (root:Int):(qcf c root).length≤1+c.ddt.length+c.sets.length+c.parts.length:=by
 unfold qcf;have h0:=qfs [] root;have h1:=qgB (c.ddt.map DE.ea) (qf2 [] root);have h2:=qgB (c.sets.map fun s=>s.home.pa) (qcQ (qf2 [] root) (c.ddt.map DE.ea));have h3:=qgB (c.parts.map PT.pa) (qcQ (qcQ (qf2 [] root) (c.ddt.map DE.ea)) (c.sets.map fun s=>s.home.pa));simp only[qG4,qHf]at h0 h1 h2 h3;omega
theorem qjT (d:DK) (h:DkT d):ACall prog 36 [.agg d.row] [] (rrQ 904 905 906 907 (rrB d)):=by
 obtain⟨R,hR⟩:∃ R,rrB d=R:=⟨_,rfl⟩;rw[hR];unfold rrB at hR;have c1:=qvu d h;have c2:=qgk d h;have c3:=qef d h (rbB d).2;have hbl:=qc4 d (rbB d).2;have c4:=qpN (qag d (rbB d).2).1 (by omega);have hF:rrF d=(decide ((qag d (rbB d).2).2=0) && (qhJ (qag d (rbB d).2).1).2):=rfl;have hT:=fun x (hx:qhJ (qag d (rbB d).2).1=(qbf x,true))=>qxf hx d;have hok:=fun x (hx:qhJ (qag d (rbB d).2).1=(qbf x,true))=>qxa hx;simp only[DK.row,PT.row]at c1 c2 c3;refine acx func36 [(11,[zJ 0 [1] [],zJ 1 [] [1],zJ 2 [9] [1],zJ 3 [] [1,9],zJ 4 [900] [1],zJ 5 [] [1],zJ 6 [900] [1],zI 7,zI 8,zI 9,zI 10,zI 11,zI 12])] ntmps36 rfl rfl rfl ?_;simp[DK.row];refine c1.call ?_;simp[PT.row];refine c2.call ?_;by_cases g0:qbr d=true∧0<(rbB d).1
 ·rw[if_pos g0]at hR;obtain⟨g1,g2⟩:=g0;simp[g1,g2];refine c3.call ?_;simp;generalize (qag d (rbB d).2).1=bt at *
  generalize (qag d (rbB d).2).2=bc at *
  refine qac [] (by kernel_rfl) c4 (by simp) (by simp) trivial (by simp) (by simp) ?_;rintro r L' (⟨hr,rfl,rfl⟩ | ⟨x,hr,rfl,rfl⟩)
  ·rw[hr]at hF;rw[if_neg (by rw[hF];simp)]at hR;subst hR;refine⟨[],⟨by simp,by simp,by simp,by simp,by simp⟩,?_⟩;simp only[qaf];by_cases q:bc=0
   ·simp[q];exact⟨[],by simp,.inl ⟨rfl,by simp,rfl,rfl⟩⟩
   ·simp[q];exact⟨[],by simp,.inl ⟨rfl,by simp,rfl,rfl⟩⟩
  ·have hTx:=hT x hr;obtain⟨_,o1,o2,o3,o4⟩:=hok x hr;rw[hr]at hF hR;simp only[qGa]at hF;refine⟨[(900,900),(901,901)],⟨by simp,by simp,by simp,by simp,by simp⟩,?_⟩;simp only[qaf];by_cases q:bc=0
   ·rw[if_pos (by rw[hF];simp[q])]at hR;have hG:rrG d (qbf x)=(xpA d x.1 && tbA d x.2 && qak (rrC d (qbf x))):=rfl;have hfail:rrG d (qbf x)=false→R=(zK,8):=fun e=>by
     rw[if_neg (by simp only;rw[e];simp)]at hR;exact hR.symm
    simp[q,lnR];refine qaM (X:=Nat) [1,2,3,4,5,9,55,56] [(1,1),(2,2),(5,5),(9,9),(900,900),(901,901)] (fun i=>[(56,.int .i64 i)]) (fun i=>[(1,⟨3,[d.row]⟩),(2,⟨7,[[.int .i64 0,.nils,.nils,.nils,.bool false,.nils,.int .i64 0]]⟩),(5,⟨3,[(rbB d).2.row]⟩),(9,⟨7,[lnR x 900 901]⟩),(900,kcs (xpN d x.1 i)),(901,kpt x.2)]) (fun i=>x.1.length-i) (fun i=>i≤x.1.length∧xpA d (x.1.take i)=true) 0 ⟨by omega,by simp[xpA]⟩ ?_ (he:=by simp[qah,lnR,qzi,DK.row,PT.row]);rintro i ⟨hi,ha⟩;by_cases hil:i<x.1.length
    ·obtain⟨s,f1⟩:∃ s,x.1[i]?=some s:=⟨_,qF3 hil⟩;have hm:=qHT f1;have hs8:=(o3 s hm).1;have hrl:=qaC s hs8;have hho:=qc2 s hs8;have e2:=qap ((i:Int)+1) (by omega) (by omega);have c1:=qef d h s.home;have hbl:=qc4 d s.home;have c2:=qsc (qag d s.home).1 (by omega);obtain⟨g1,g2⟩:=quR (d:=d) f1;have gl:=qqm d x.1 i;have hcond:xpP d s=(decide ((qag d s.home).2=0) && (qeW (qag d s.home).1).2):=rfl;have hup:=qql d s hs8;have hml:=qkJ (qag d s.home).1;have hsu:=qru hml;have hone:=qrv (qeW (qag d s.home).1).1;have hfl:((qeW (qag d s.home).1).1.flatMap PT.row).length=24:=by rw[qhO,hml]
     simp only[DK.row,PT.row]at c1 hho;obtain⟨Y,hY⟩:∃ Y,xpN d x.1 i=Y:=⟨_,rfl⟩;rw[hY]at g1 g2 gl;have hiY:i<Y.length:=by omega
     have y0:Y[i]=s:=(qGy.1 g1).2;rw[hY];generalize qag d s.home=bb at *
     obtain⟨bt,bc⟩:=bb;simp only at c1 c2 hcond hup hml hsu hone hfl;generalize qeW bt=mm at *
     obtain⟨mp,mk⟩:=mm;simp only at c2 hcond hup hml hsu hone hfl;simp[lnR,kcs,show(i:Int)<x.1.length by omega,hil,g1,hiY,y0,hrl,hho,gl,DK.row];refine c1.call ?_;simp;refine c2.call ?_;by_cases q:bc=0∧mk=true
     ·obtain⟨rfl,rfl⟩:=q;have hnx:=qnV f1 ha (by rw[hcond];rfl);simp[kcs,hiY,y0,g1,hrl,hsu,hfl,qGh (qGi hfl),gl,hil];refine nx (i+1) [(1,1),(2,2),(5,5),(9,9),(900,900),(901,901)] ⟨by omega,hnx⟩ (by omega) (h4:=?_);simp[qah,e2,lnR,kcs,← g2,DK.row,PT.row,hsu,hfl,hup _ rfl,qfj]
     ·rw[hfail (by rw[hG,quS hm (show xpP d s=false by rw[hcond];cases mk <;> simp_all)];rfl)];by_cases q1:bc=0
      ·have:mk=false:=by cases mk <;> simp_all
       subst this;simp[kcs,q1,hsu];exact⟨[],by simp,.inl ⟨rfl,by simp,rfl,rfl⟩⟩
      ·simp[kcs,q1,hsu];exact⟨[],by simp,.inl ⟨rfl,by simp,rfl,rfl⟩⟩
    ·have hie:i=x.1.length:=by omega
     subst hie;rw[qGh (by omega)]at ha;rw[qqn];simp[lnR];have hcs:(x.1.map (xpS d)).length=x.1.length:=by simp
     generalize hl2:x.1.map (xpS d)=l at *
     refine qe8 ((qeP 902 3 (by simp)).trans (qdw 9 2 (sz:=7) (row:=lnR x 900 901) (by simp[lnR]) (by simp[lnR]) (qcK 902 0))) ?_;refine qaM (X:=Nat) [1,2,3,4,5,9,90,91,92] [(1,1),(2,2),(5,5),(9,9),(900,900),(902,902),(901,901)] (fun i=>[(92,.int .i64 i)]) (fun i=>[(1,⟨3,[d.row]⟩),(2,⟨7,[[.int .i64 0,.nils,.nils,.nils,.bool false,.nils,.int .i64 0]]⟩),(5,⟨3,[(rbB d).2.row]⟩),(9,⟨7,[tbR x 900 902 901 (tbN d x.2 i).length]⟩),(900,kcs l),(902,qaN (tbN d x.2 i)),(901,kpt x.2)]) (fun i=>x.2.length-i) (fun i=>i≤x.2.length∧tbA d (x.2.take i)=true) 0 ⟨by omega,by simp[tbA]⟩ ?_ (he:=by simp[qah,lnR,tbR,tbN,DK.row,PT.row,qaN]);rintro i ⟨hi,hb⟩;have hnl:=qke d x.2 i;by_cases hil:i<x.2.length
     ·obtain⟨s,f1⟩:∃ s,x.2[i]?=some s:=⟨_,qF3 hil⟩;have f0:x.2[i]=s:=(qGy.1 f1).2;have hm:=qHT f1;have e2:=qap ((i:Int)+1) (by omega) (by omega);have c1:=qef d h s;have hbl:=qc4 d s;have c2:=qsg (qag d s).1 (by omega);have hdl:=qlb (qag d s).1;have hcond:tbP d s=(decide ((qag d s).2=0) && (qjq (qag d s).1).2):=rfl;have hnx:=qn0 (d:=d) f1;have hts:tbS d s=(qjq (qag d s).1).1:=rfl;rw[hts]at hnx;simp only[DK.row,PT.row]at c1;generalize qag d s=bb at *
      obtain⟨bt,bc⟩:=bb;simp only at c1 c2 hcond hbl hdl hnx;generalize qjq bt=mm at *
      obtain⟨mp,mk⟩:=mm;simp only at c2 hcond hdl hnx;simp[tbR,qaN,kpt,show(i:Int)<x.2.length by omega,hil,f0,f1,PT.row,DK.row];refine c1.call ?_;simp;refine c2.call ?_;by_cases q:bc=0∧mk=true
      ·obtain⟨rfl,rfl⟩:=q;have hnA:=qn1 f1 hb (by rw[hcond];rfl);simp[tbR,qaN];refine⟨by omega,nx (i+1) [(1,1),(2,2),(5,5),(9,9),(900,900),(117,902),(901,901)] ⟨by omega,hnA⟩ (by omega) (h4:=?_)⟩;simp[qah,e2,tbR,qaN,kpt,← hnx,DK.row,PT.row,qal]
      ·rw[hfail (by rw[hG,ha,quZ hm (show tbP d s=false by rw[hcond];cases mk <;> simp_all)];rfl)];by_cases q1:bc=0
       ·have:mk=false:=by cases mk <;> simp_all
        subst this;simp[tbR,qaN,q1];exact⟨[],by simp,.inl ⟨rfl,by simp,rfl,rfl⟩⟩
       ·simp[tbR,qaN,q1];exact⟨[],by simp,.inl ⟨rfl,by simp,rfl,rfl⟩⟩
     ·have hie:i=x.2.length:=by omega
      subst hie;rw[qGh (by omega)]at hb;have ht2:tbN d x.2 x.2.length=x.2.flatMap (tbS d):=by simp[tbN]
      rw[ht2];generalize ht3:x.2.flatMap (tbS d)=t at *
      have hC:rrC d (qbf x)=⟨(rbB d).1,l,t,x.2,false,[],0⟩:=by rw[← hl2,← ht3];rfl
      have hS:rrS d (qbf x)={ rrC d (qbf x)with safe:=qcf (rrC d (qbf x)) (rbB d).2.pa }:=rfl;rw[ha,hb,hC]at hG;rw[hC]at hTx hS;have c7:=qgZ _ hTx;cases k3:qak ⟨(rbB d).1,l,t,x.2,false,[],0⟩with
      | false =>
       rw[k3]at c7;simp only[CO.row,qHF]at c7;rw[hfail (by rw[hG,k3];rfl)];simp[tbR];refine c7.view (by simp[qb5,mtA,kcs,qaN,kpt,qal,qa1,← hcs]) ?_;simp;exact⟨[],by simp,.inl ⟨rfl,by simp,rfl,rfl⟩⟩
      | true =>
       rw[k3]at c7 hG;have c8:=qr8 _ hTx k3 (rbB d).2.pa;rw[if_pos (by simp only;rw[hG];rfl)]at hR;simp only at hR;rw[hS]at hR;have hsl:(qcf ⟨(rbB d).1,l,t,x.2,false,[],0⟩ (rbB d).2.pa).length≤1000:=by
        refine qFN (qjJ _ _) ?_;obtain⟨_,k4,k5,k6,_⟩:=qbn k3;simp only at k4 k5 k6 ⊢;omega
       generalize qcf ⟨(rbB d).1,l,t,x.2,false,[],0⟩ (rbB d).2.pa=sf at *
       have c9:=qmg ⟨(rbB d).1,l,t,x.2,false,sf,0⟩ ⟨hTx.1,hTx.2,hTx.3,by simp only;omega,hTx.5,hTx.6⟩;simp only[CO.row,qHF]at c7 c8 c9;subst hR;simp[tbR];refine c7.view (by simp[qb5,mtA,kcs,qaN,kpt,qal,qa1,← hcs]) ?_;simp;refine qaS [] (by kernel_rfl) c8 (by simp[qb5,mtA,kcs,qaN,kpt,qal,qa1,← hcs]) (by simp) trivial (by simp) (by simp) ?_;rintro r' L' ⟨rfl,rfl⟩;refine⟨by simp[noL],by simp[noL,kin,qad],[(900,903)],⟨by simp,by simp,by simp,by simp,by simp⟩,?_⟩;simp only[qaf];simp;refine qaS [] (by kernel_rfl) c9 (by simp[qb5,mtA,kcs,qaN,kpt,kin,qad,qal,qa1,← hcs]) (by simp) trivial (by simp) (by simp) ?_;rintro r' L' ⟨rfl,rfl⟩;refine⟨by simp[qcA,noL],by simp[kcs,qaN,kpt,kin,qad,DE.row,PT.row,qhx],[(5,904),(8,905),(11,906),(14,907)],⟨by simp,by simp,by simp,by simp,by simp⟩,?_⟩;simp only[qaf];simp[qcA];exact⟨[(904,kcs l),(905,qaN t),(906,kpt x.2),(907,kin sf)],by simp[qah],.inr ⟨rfl,by simp[qcA],rfl⟩⟩
   ·rw[if_neg (by rw[hF];simp[q])]at hR;subst hR;simp[q,lnR];exact⟨[],by simp,.inl ⟨rfl,by simp,rfl,rfl⟩⟩
 ·rw[if_neg g0]at hR;subst hR;cases g1:qbr d with
  | false =>
   simp[g1];exact⟨[],by simp,.inl ⟨rfl,by simp,rfl,rfl⟩⟩
  | true =>
   have g2:¬ 0<(rbB d).1:=fun e=>g0 ⟨g1,e⟩;simp[g1,g2];exact⟨[],by simp,.inl ⟨rfl,by simp,rfl,rfl⟩⟩
theorem qve {f a b e g:Nat} {d:DK} {R:CO×Int} (hn:[a,b,e,g].Nodup) (h:ACall prog f [.agg d.row] [] (rrQ a b e g R)) (he:qb1 prog f=true):CV prog f [.agg d.row] (.tup [.agg R.1.row,.int .i64 R.2]):=by
 refine CV.of_frz h ?_ (he:=he) (hca:=by simp[DK.row]) (hcv:=by simp[qb3]);rintro r L' (⟨hR,_,rfl,rfl⟩ | ⟨hR,rfl,rfl⟩)
 ·refine⟨by simp,by simp,by simp,?_⟩;simp only[qa7,hR];exact qdl (.cons qrX (.cons (qaE _) .nil))
 ·simp only[qHp,qHq,qHz,or_false,not_or,qGI,not_false_eq_true,and_true]at hn;obtain⟨⟨n1,n2,n3⟩,⟨n4,n5⟩,n6⟩:=hn;refine⟨by simp,by simp[n1,n2,n3,n4,n5,n6],fun y hy=>?_,?_⟩
  ·simp only[qHq,qHz,or_false]at hy;rcases hy with rfl | rfl | rfl | rfl
   ·exact qa5 _
   ·simpa [clR]using qbK _
   ·exact qbq _
   ·exact qaP _
  ·rw[hR];simp[qa7,qcA,CO.row,kcs,kpt,kin,qaN,qal,n1,n2,n3,n4,n5,n6,qFL n1,qFL n2,qFL n3,qFL n4,qFL n5,qFL n6]
theorem qgL (d:DK) (h:DkT d):CV prog 31 [.agg d.row] (.tup [.agg (rrB d).1.row,.int .i64 (rrB d).2]):=qve (by decide) (qpy d h) (by kernel_rfl)
theorem qgY (d:DK) (h:DkT d):CV prog 36 [.agg d.row] (.tup [.agg (rrB d).1.row,.int .i64 (rrB d).2]):=qve (by decide) (qjT d h) (by kernel_rfl)
@[simp] theorem qE5:qoY prog 110=true:=by
 have g:prog.eqGuardType prog.depth 110=false:=by kernel_rfl
 have s:prog.stoodInHeld 110=false:=by kernel_rfl
 simp[qoY,g,qqh,qul,underlying110,underlying3,s,shL,sh1]
theorem qi8:qoY prog 108=true:=by
 have g:prog.eqGuardType prog.depth 108=false:=by kernel_rfl
 have s:prog.stoodInHeld 108=false:=by kernel_rfl
 have r:(List.range 8)=[0,1,2,3,4,5,6,7]:=rfl;simp[qoY,g,qqh,qul,underlying108,underlying106,underlying67,underlying3,underlying9,underlying4,s,shL,sh1,r]
theorem qeR (s:CS) (h:s.map.length=8):shL [.str [],.int .i64 0,.str [],.int .i64 0,.int .i64 0,.int .i64 0,.int .i64 0,.int .i64 0,.int .i64 0,.int .i64 0,.int .i64 0,.int .i64 0,.int .i64 0,.int .i64 0,.int .i64 0,.int .i64 0,.int .i64 0,.int .i64 0,.int .i64 0,.int .i64 0,.int .i64 0,.int .i64 0,.int .i64 0,.int .i64 0,.int .i64 0,.int .i64 0,.int .i64 0,.int .i64 0,.int .i64 0,.int .i64 0,.bool false] s.row=true:=by
 obtain⟨n,k,f,m,hm,b⟩:=s;simp only at h
 match m,h with
 | [a,b,c,d,e,f,g,i],_=>simp[CS.row,PT.row,shL,sh1]
theorem qpl:∀ (a b:List PT),a.length=b.length→qfL (a.flatMap PT.row) (b.flatMap PT.row)=decide (a=b)
 | [],[],_=>rfl
 | x::a,y::b,h=>by
  have:=qpl a b (by simpa using h);rw[qIj];obtain⟨x1,x2,x3⟩:=x;obtain⟨y1,y2,y3⟩:=y;simp[PT.row,qfL,qyI,this,and_assoc]
theorem qfd (a b:CS) (ha:a.map.length=8) (hb:b.map.length=8):qfL a.row b.row=decide (a=b):=by
 have h:=qpl a.map b.map (by omega);have hl:(a.map.flatMap PT.row).length=(b.map.flatMap PT.row).length:=by rw[qhO,qhO,ha,hb]
 obtain⟨n,k,f,m,⟨h1,h2,h3⟩,d⟩:=a;obtain⟨n',k',f',m',⟨h1',h2',h3'⟩,d'⟩:=b;simp only at h hl;rw[qIj];simp only[CS.row,qfL,qyI,qf1 _ _ hl,h,PT.row,qHS,qGC,Bool.and_eq_true,decide_eq_true_eq,beq_iff_eq,CS.mk.injEq,PT.mk.injEq,and_true,and_assoc]
theorem qdp {α:Type} {a b:List α} {i:Nat} {x y:α} (h:a.take i=b.take i) (ha:a[i]?=some x) (hb:b[i]?=some y) (he:x=y):a.take (i+1)=b.take (i+1):=by
 rw[qHN,qHN,h,ha,hb,he]
theorem qkH {α:Type} {a b:List α} {i:Nat} {x y:α} (ha:a[i]?=some x) (hb:b[i]?=some y) (he:¬ x=y):¬ a=b:=by
 rintro rfl;rw[ha]at hb;exact he (qIt hb)
theorem qvs (xs bs:List Int) (hl:xs.length≤1048576) (hl2:bs.length≤1048576):CV prog 148 [.lst 1 (xs.map qad),.lst 1 (bs.map qad)] (.bool (decide (xs=bs))):=by
 refine cvx func148 [] ntmps148 rfl rfl rfl ?_ (hca:=by simp[qad]);by_cases h0:xs.length=bs.length
 ·simp[h0];refine qaM (X:=Nat) [0,1,12,13] [] (fun i=>[(13,.int .i64 i)]) (fun i=>[]) (fun i=>bs.length-i) (fun i=>i≤bs.length∧xs.take i=bs.take i) 0 (by simp) ?_ (he:=by simp[qah]);rintro i ⟨hi,ha⟩;by_cases h1:i<bs.length
  ·obtain⟨s,e1⟩:∃ s,bs[i]?=some s:=⟨_,qF3 h1⟩;have h1':i<xs.length:=by omega
   obtain⟨t,f1⟩:∃ t,xs[i]?=some t:=⟨_,qF3 h1'⟩;have e0:bs[i]=s:=(qGy.1 e1).2;have f0:xs[i]=t:=(qGy.1 f1).2;have e2:=qap ((i:Int)+1) (by omega) (by omega);by_cases hq:t=s
   ·have hn:=qdp ha f1 e1 hq;subst hq;simp[h1,h1',e0,e1,f0,f1,qad];exact nx (i+1) [] ⟨by omega,hn⟩ (by omega) (h4:=by simp[qah,e2])
   ·have hn:=qkH f1 e1 hq;simp[h1,h1',e0,e1,f0,f1,hn,qad];intros
    first
     | exact absurd (by assumption) hq
     | exact absurd (by cases t;cases s;simp_all) hq
  ·have hie:i=bs.length:=by omega
   subst hie;rw[qHW,qGh (by omega)]at ha;subst ha;simp
 ·have hn:¬ xs=bs:=fun e=>h0 (by rw[e]);simp[h0,show ¬ (xs.length:Int)=bs.length by omega,hn]
theorem qBp (xs bs:List DE) (hl:xs.length≤1048576) (hl2:bs.length≤1048576):CV prog 146 [.lst 3 (xs.map DE.row),.lst 3 (bs.map DE.row)] (.bool (decide (xs=bs))):=by
 refine cvx func146 [] ntmps146 rfl rfl rfl ?_ (hca:=by simp[DE.row]);by_cases h0:xs.length=bs.length
 ·simp[h0];refine qaM (X:=Nat) [0,1,12,13] [] (fun i=>[(13,.int .i64 i)]) (fun i=>[]) (fun i=>bs.length-i) (fun i=>i≤bs.length∧xs.take i=bs.take i) 0 (by simp) ?_ (he:=by simp[qah]);rintro i ⟨hi,ha⟩;by_cases h1:i<bs.length
  ·obtain⟨s,e1⟩:∃ s,bs[i]?=some s:=⟨_,qF3 h1⟩;have h1':i<xs.length:=by omega
   obtain⟨t,f1⟩:∃ t,xs[i]?=some t:=⟨_,qF3 h1'⟩;have e0:bs[i]=s:=(qGy.1 e1).2;have f0:xs[i]=t:=(qGy.1 f1).2;have e2:=qap ((i:Int)+1) (by omega) (by omega);by_cases hq:t=s
   ·have hn:=qdp ha f1 e1 hq;subst hq;simp[h1,h1',e0,e1,f0,f1,DE.row];exact nx (i+1) [] ⟨by omega,hn⟩ (by omega) (h4:=by simp[qah,e2])
   ·have hn:=qkH f1 e1 hq;simp[h1,h1',e0,e1,f0,f1,hn,DE.row];intros
    first
     | exact absurd (by assumption) hq
     | exact absurd (by cases t;cases s;simp_all) hq
  ·have hie:i=bs.length:=by omega
   subst hie;rw[qHW,qGh (by omega)]at ha;subst ha;simp
 ·have hn:¬ xs=bs:=fun e=>h0 (by rw[e]);simp[h0,show ¬ (xs.length:Int)=bs.length by omega,hn]
theorem qBo (xs bs:List PT) (hl:xs.length≤1048576) (hl2:bs.length≤1048576):CV prog 147 [.lst 3 (xs.map PT.row),.lst 3 (bs.map PT.row)] (.bool (decide (xs=bs))):=by
 refine cvx func147 [] ntmps147 rfl rfl rfl ?_ (hca:=by simp[PT.row]);by_cases h0:xs.length=bs.length
 ·simp[h0];refine qaM (X:=Nat) [0,1,12,13] [] (fun i=>[(13,.int .i64 i)]) (fun i=>[]) (fun i=>bs.length-i) (fun i=>i≤bs.length∧xs.take i=bs.take i) 0 (by simp) ?_ (he:=by simp[qah]);rintro i ⟨hi,ha⟩;by_cases h1:i<bs.length
  ·obtain⟨s,e1⟩:∃ s,bs[i]?=some s:=⟨_,qF3 h1⟩;have h1':i<xs.length:=by omega
   obtain⟨t,f1⟩:∃ t,xs[i]?=some t:=⟨_,qF3 h1'⟩;have e0:bs[i]=s:=(qGy.1 e1).2;have f0:xs[i]=t:=(qGy.1 f1).2;have e2:=qap ((i:Int)+1) (by omega) (by omega);by_cases hq:t=s
   ·have hn:=qdp ha f1 e1 hq;subst hq;simp[h1,h1',e0,e1,f0,f1,PT.row];exact nx (i+1) [] ⟨by omega,hn⟩ (by omega) (h4:=by simp[qah,e2])
   ·have hn:=qkH f1 e1 hq;simp[h1,h1',e0,e1,f0,f1,hn,PT.row];intros
    first
     | exact absurd (by assumption) hq
     | exact absurd (by cases t;cases s;simp_all) hq
  ·have hie:i=bs.length:=by omega
   subst hie;rw[qHW,qGh (by omega)]at ha;subst ha;simp
 ·have hn:¬ xs=bs:=fun e=>h0 (by rw[e]);simp[h0,show ¬ (xs.length:Int)=bs.length by omega,hn]
theorem qvb (xs bs:List Int) (hl:xs.length≤1048576) (hl2:bs.length≤1048576):CV prog 134 [.lst 1 (xs.map qad),.lst 1 (bs.map qad)] (.bool (decide (xs=bs))):=by
 refine cvx func134 [] ntmps134 rfl rfl rfl ?_ (hca:=by simp[qad]);by_cases h0:xs.length=bs.length
 ·simp[h0];refine qaM (X:=Nat) [0,1,5] [] (fun i=>[(5,.int .i64 i)]) (fun i=>[]) (fun i=>bs.length-i) (fun i=>i≤bs.length∧xs.take i=bs.take i) 0 (by simp) ?_ (he:=by simp[qah]);rintro i ⟨hi,ha⟩;by_cases h1:i<bs.length
  ·obtain⟨s,e1⟩:∃ s,bs[i]?=some s:=⟨_,qF3 h1⟩;have h1':i<xs.length:=by omega
   obtain⟨t,f1⟩:∃ t,xs[i]?=some t:=⟨_,qF3 h1'⟩;have e0:bs[i]=s:=(qGy.1 e1).2;have f0:xs[i]=t:=(qGy.1 f1).2;have e2:=qap ((i:Int)+1) (by omega) (by omega);by_cases hq:t=s
   ·have hn:=qdp ha f1 e1 hq;subst hq;simp[h1,h1',e0,e1,f0,f1,qad];exact nx (i+1) [] ⟨by omega,hn⟩ (by omega) (h4:=by simp[qah,e2])
   ·have hn:=qkH f1 e1 hq;simp[h1,h1',e0,e1,f0,f1,hn,qad];intros
    first
     | exact absurd (by assumption) hq
     | exact absurd (by cases t;cases s;simp_all) hq
  ·have hie:i=bs.length:=by omega
   subst hie;rw[qHW,qGh (by omega)]at ha;subst ha;simp
 ·have hn:¬ xs=bs:=fun e=>h0 (by rw[e]);simp[h0,show ¬ (xs.length:Int)=bs.length by omega,hn]
theorem qBk (l:List CS) (x:CS) (hl:l.length≤1048576) (h8:∀ s∈l,s.map.length=8) (hx:x.map.length=8):ACall prog 237 [.lst 31 (l.map CS.row),.agg x.row] [] (fun r L'=>∃ k:Int,(0≤k↔x∈l)∧r=.int .i64 k∧L'=[]):=by
 refine acx func237 [(4,[zJ 0 [3] [],zJ 1 [] [3],zJ 2 [] [3],zJ 3 [] [3],zJ 4 [] [3],zI 5])] ntmps237 rfl rfl rfl ?_;have hxl:=qaC x hx;have hxt:=qbl x hx;simp[hxl,hxt];refine qaM (X:=Nat) [0,3,7,8] [(3,3)] (fun i=>[(8,.int .i64 i)]) (fun i=>[(3,⟨31,[x.row]⟩)]) (fun i=>l.length-i) (fun i=>i≤l.length∧x ∉ l.take i) 0 (by simp) ?_ (he:=by simp[qah,qfj]);rintro i ⟨hi,hn⟩;by_cases h1:i<l.length
 ·obtain⟨s,e1⟩:∃ s,l[i]?=some s:=⟨_,qF3 h1⟩;have e0:l[i]=s:=(qGy.1 e1).2;have hm:=qHT e1;have e2:=qap ((i:Int)+1) (by omega) (by omega);have hs8:=h8 s hm;simp[hxl,hxt,show(i:Int)<l.length by omega,h1,e0,e1,qaC s hs8,qbl s hs8,qi8,qeR x hx,qeR s hs8,qfd x s hx hs8];refine⟨fun e=>?_,fun e=>nx (i+1) [(3,3)] ⟨by omega,?_⟩ (by omega) (h4:=by simp[qah,e2,qfj])⟩
  ·subst e;exact⟨[],by simp,i,by simp[hm],rfl,rfl⟩
  ·rw[qHN,e1];simp[hn,e]
 ·have hie:i=l.length:=by omega
  subst hie;rw[qHW]at hn;simp;exact⟨[],by simp,-1,by simp[hn],rfl,rfl⟩
theorem qBl (l:List CS) (x:CS) (hl:l.length≤1048576) (h8:∀ s∈l,s.map.length=8) (hx:x.map.length=8):CV prog 149 [.lst 31 (l.map CS.row),.agg x.row] (.bool (decide (x∈l))):=by
 have c1:=qBk l x hl h8 hx;have hxl:=qaC x hx;have hxt:=qbl x hx;refine cvx func149 [] ntmps149 rfl rfl rfl ?_ (hca:=by simp[qa1]);simp[hxl,hxt];refine qac [] (by kernel_rfl) c1 (by simp[qa1];exact qoD _ (by simp[CS.row,PT.row,flA])) (by simp) trivial (by simp) (by simp) ?_;rintro r L' ⟨k,hk,rfl,rfl⟩;refine⟨[],⟨by simp,by simp,by simp,by simp,by simp⟩,?_⟩;simp only[qaf];simp[hk]
theorem qz3 (xs bs:List BS) (hl:xs.length≤1048576) (hl2:bs.length≤1048576) (hA:∀ b∈xs,b.bl.length=8) (hB:∀ b∈bs,b.bl.length=8):CV prog 138 [bk xs,bk bs] (.bool (decide (xs=bs))):=by
 refine cvx func138 [(6,[zI 0,zJ 1 [2] [],zJ 2 [] [2],zI 3,zI 4,zJ 5 [] [2],zJ 6 [3] [2],zJ 7 [] [2,3],zJ 8 [] [2],zJ 9 [] [2],zI 10])] ntmps138 rfl rfl rfl ?_ (hca:=by simp[bk]);by_cases h0:xs.length=bs.length
 ·simp[h0,bk];refine qaM (X:=Nat) [2,3,5] [(2,2),(3,3)] (fun i=>[(5,.int .i64 i)]) (fun i=>[(2,⟨1,[[.lst 11 (xs.map BS.row)]]⟩),(3,⟨1,[[.lst 11 (bs.map BS.row)]]⟩)]) (fun i=>bs.length-i) (fun i=>i≤bs.length∧xs.take i=bs.take i) 0 (by simp) ?_ (he:=by simp[qah]);rintro i ⟨hi,ha⟩;by_cases h1:i<bs.length
  ·obtain⟨s,e1⟩:∃ s,bs[i]?=some s:=⟨_,qF3 h1⟩;have h1':i<xs.length:=by omega
   obtain⟨t,f1⟩:∃ t,xs[i]?=some t:=⟨_,qF3 h1'⟩;have e0:bs[i]=s:=(qGy.1 e1).2;have f0:xs[i]=t:=(qGy.1 f1).2;have e2:=qap ((i:Int)+1) (by omega) (by omega);have hs8:=hB s (qHT e1);have ht8:=hA t (qHT f1);by_cases hq:t=s
   ·have hn:=qdp ha f1 e1 hq;subst hq;simp[h1,h1',e0,e1,f0,f1,qan _ hs8,qbO _ hs8,qss,qiv _ hs8,qlp _ _ hs8 hs8];exact nx (i+1) [(2,2),(3,3)] ⟨by omega,hn⟩ (by omega) (h4:=by simp[qah,e2])
   ·have hn:=qkH f1 e1 hq;simp[h1,h1',e0,e1,f0,f1,hn,qan _ hs8,qan _ ht8,qbO _ hs8,qbO _ ht8,qss,qiv _ hs8,qiv _ ht8,qlp _ _ ht8 hs8];intros;exact absurd (by assumption) hq
  ·have hie:i=bs.length:=by omega
   subst hie;rw[qHW,qGh (by omega)]at ha;subst ha;simp
 ·have hn:¬ xs=bs:=fun e=>h0 (by rw[e]);simp[bk,h0,show ¬ (xs.length:Int)=bs.length by omega,hn]
theorem qjE (a b:CO) (ha:CoT a) (hb:CoT b):CV prog 63 [.agg a.row,.agg b.row] (.bool (decide (a=b))):=by
 have a1:=ha.sets;have a2:=ha.ddt;have a3:=ha.parts;have c1:=qvb a.safe b.safe ha.safe hb.safe;obtain⟨R,hR⟩:∃ R,decide (a=b)=R:=⟨_,rfl⟩;rw[hR];have hno:∀ p:Prop,(a=b→p)→¬ p→R=false:=fun p h hn=>by
  rw[← hR,decide_eq_false_iff_not];exact fun e=>hn (h e)
 refine cvx func63 [(6,[zI 0,zJ 1 [2] [],zJ 2 [] [2],zI 3,zI 4,zJ 5 [] [2],zJ 6 [3] [2],zJ 7 [] [2,3],zJ 8 [] [2],zJ 9 [] [2],zI 10]),(11,[zI 0,zJ 1 [2] [],zJ 2 [] [2],zI 3,zI 4,zJ 5 [] [2],zJ 6 [3] [2],zJ 7 [] [2,3],zJ 8 [] [2],zJ 9 [] [2],zI 10]),(16,[zI 0,zJ 1 [2] [],zJ 2 [] [2],zI 3,zI 4,zJ 5 [] [2],zJ 6 [3] [2],zJ 7 [] [2,3],zJ 8 [] [2],zJ 9 [] [2],zI 10])] ntmps63 rfl rfl rfl ?_ (hca:=by simp[qb3]);by_cases q1:a.txg=b.txg;rotate_left
 ·rw[hno _ (fun e=>by rw[e]) q1];simp[CO.row,q1]
 by_cases q2:a.dirty=b.dirty;rotate_left
 ·rw[hno _ (fun e=>by rw[e]) q2];simp[CO.row,q1,q2]
 by_cases q3:a.logn=b.logn;rotate_left
 ·rw[hno _ (fun e=>by rw[e]) q3];simp[CO.row,q1,q2,q3]
 by_cases q4:a.sets.length=b.sets.length;rotate_left
 ·rw[hno _ (fun e=>by rw[e]) q4];simp[CO.row,q1,q2,q3,q4,show ¬ (a.sets.length:Int)=b.sets.length by omega]
 by_cases q5:a.ddt.length=b.ddt.length;rotate_left
 ·rw[hno _ (fun e=>by rw[e]) q5];simp[CO.row,q1,q2,q3,q4,q5,show ¬ (a.ddt.length:Int)=b.ddt.length by omega]
 by_cases q6:a.parts.length=b.parts.length;rotate_left
 ·rw[hno _ (fun e=>by rw[e]) q6];simp[CO.row,q1,q2,q3,q4,q5,q6,show ¬ (a.parts.length:Int)=b.parts.length by omega]
 simp[CO.row,q1,q2,q3,q4,q5,q6];refine c1.call ?_;by_cases q7:a.safe=b.safe;rotate_left
 ·rw[hno _ (fun e=>by rw[e]) q7];simp[q7]
 simp[q7];refine qaM (X:=Nat) [2,3,5] [(2,2),(3,3)] (fun i=>[(5,.int .i64 i)]) (fun i=>[(2,⟨7,[a.row]⟩),(3,⟨7,[b.row]⟩)]) (fun i=>b.sets.length-i) (fun i=>i≤b.sets.length∧a.sets.take i=b.sets.take i) 0 (by simp) ?_ (he:=by simp[qah,CO.row,q1,q2,q3,q7]);rintro i ⟨hi,ht⟩;by_cases h1:i<b.sets.length
 ·obtain⟨s,e1⟩:∃ s,b.sets[i]?=some s:=⟨_,qF3 h1⟩;have h1':i<a.sets.length:=by omega
  obtain⟨t,f1⟩:∃ t,a.sets[i]?=some t:=⟨_,qF3 h1'⟩;have e0:b.sets[i]=s:=(qGy.1 e1).2;have f0:a.sets[i]=t:=(qGy.1 f1).2;have e2:=qap ((i:Int)+1) (by omega) (by omega);have hs8:=hb.m8 s (qHT e1);have ht8:=ha.m8 t (qHT f1);by_cases hq:t=s
  ·have hn:=qdp ht f1 e1 hq;subst hq;simp[h1,h1',e0,e1,f0,f1,CO.row,qaC t ht8,qbl t ht8,qi8,qeR t ht8,qfd t t ht8 ht8];exact nx (i+1) [(2,2),(3,3)] ⟨by omega,hn⟩ (by omega) (h4:=by simp[qah,e2,CO.row])
  ·rw[hno _ (fun e=>by rw[e]) (qkH f1 e1 hq)];simp[h1,h1',e0,e1,f0,f1,CO.row,qaC s hs8,qbl s hs8,qaC t ht8,qbl t ht8,qi8,qeR s hs8,qeR t ht8,qfd t s ht8 hs8,qfd t t ht8 ht8];intros
   first
    | exact absurd (by assumption) hq
    | exact absurd (by cases t;cases s;simp_all) hq
 have hie:i=b.sets.length:=by omega
 subst hie;rw[qHW,qGh (by omega)]at ht;have g4:=ht;simp[CO.row,q4];refine qaM (X:=Nat) [2,3,6] [(2,2),(3,3)] (fun i=>[(6,.int .i64 i)]) (fun i=>[(2,⟨7,[a.row]⟩),(3,⟨7,[b.row]⟩)]) (fun i=>b.ddt.length-i) (fun i=>i≤b.ddt.length∧a.ddt.take i=b.ddt.take i) 0 (by simp) ?_ (he:=by simp[qah,CO.row,q1,q2,q3,q7]);rintro i ⟨hi,ht⟩;by_cases h1:i<b.ddt.length
 ·obtain⟨s,e1⟩:∃ s,b.ddt[i]?=some s:=⟨_,qF3 h1⟩;have h1':i<a.ddt.length:=by omega
  obtain⟨t,f1⟩:∃ t,a.ddt[i]?=some t:=⟨_,qF3 h1'⟩;have e0:b.ddt[i]=s:=(qGy.1 e1).2;have f0:a.ddt[i]=t:=(qGy.1 f1).2;have e2:=qap ((i:Int)+1) (by omega) (by omega);by_cases hq:t=s
  ·have hn:=qdp ht f1 e1 hq;subst hq;simp[h1,h1',e0,e1,f0,f1,CO.row,DE.row];exact nx (i+1) [(2,2),(3,3)] ⟨by omega,hn⟩ (by omega) (h4:=by simp[qah,e2,CO.row])
  ·rw[hno _ (fun e=>by rw[e]) (qkH f1 e1 hq)];simp[h1,h1',e0,e1,f0,f1,CO.row,DE.row];intros
   first
    | exact absurd (by assumption) hq
    | exact absurd (by cases t;cases s;simp_all) hq
 have hie:i=b.ddt.length:=by omega
 subst hie;rw[qHW,qGh (by omega)]at ht;have g5:=ht;simp[CO.row,q5];refine qaM (X:=Nat) [2,3,7] [(2,2),(3,3)] (fun i=>[(7,.int .i64 i)]) (fun i=>[(2,⟨7,[a.row]⟩),(3,⟨7,[b.row]⟩)]) (fun i=>b.parts.length-i) (fun i=>i≤b.parts.length∧a.parts.take i=b.parts.take i) 0 (by simp) ?_ (he:=by simp[qah,CO.row,q1,q2,q3,q7]);rintro i ⟨hi,ht⟩;by_cases h1:i<b.parts.length
 ·obtain⟨s,e1⟩:∃ s,b.parts[i]?=some s:=⟨_,qF3 h1⟩;have h1':i<a.parts.length:=by omega
  obtain⟨t,f1⟩:∃ t,a.parts[i]?=some t:=⟨_,qF3 h1'⟩;have e0:b.parts[i]=s:=(qGy.1 e1).2;have f0:a.parts[i]=t:=(qGy.1 f1).2;have e2:=qap ((i:Int)+1) (by omega) (by omega);by_cases hq:t=s
  ·have hn:=qdp ht f1 e1 hq;subst hq;simp[h1,h1',e0,e1,f0,f1,CO.row,PT.row];exact nx (i+1) [(2,2),(3,3)] ⟨by omega,hn⟩ (by omega) (h4:=by simp[qah,e2,CO.row])
  ·rw[hno _ (fun e=>by rw[e]) (qkH f1 e1 hq)];simp[h1,h1',e0,e1,f0,f1,CO.row,PT.row];intros
   first
    | exact absurd (by assumption) hq
    | exact absurd (by cases t;cases s;simp_all) hq
 have hie:i=b.parts.length:=by omega
 subst hie;rw[qHW,qGh (by omega)]at ht;have he:a=b:=by
  cases a;cases b
  simp_all
 rw[← hR,he];simp[CO.row,q6]
def clP (disk:CO) (s:CS):Bool:=s.dirty || (atB (disk.sets.map csB) s.name && decide (disk.sets[atP (disk.sets.map csB) s.name]?=some s))
def qqk (disk:CO) (l:List CS):Bool:=l.all (clP disk)
def clD (now disk:CO):CO:={ now with txg:=disk.txg,sets:=disk.sets,logn:=disk.logn }
def clB (now disk:CO):Bool:=qqk disk now.sets && (now.dirty || decide (clD now disk=disk))
theorem qsK {d:CO} {l:List CS} {i:Nat} {s:CS} (hs:l[i]?=some s) (h:qqk d (l.take i)=true) (h2:clP d s=true):qqk d (l.take (i+1))=true:=by
 rw[qHN,hs];unfold qqk at *
 rw[qHO,h];simp[h2]
theorem qyz {d:CO} {l:List CS} {s:CS} (hs:s∈l) (h:clP d s=false):qqk d l=false:=by
 cases hk:qqk d l with
 | false=>rfl
 | true =>
  unfold qqk at hk;rw[qGf]at hk;rw[hk s hs]at h;cases h
theorem qw5 (a b:CO) (ha:CoT a) (hb:CoT b):CV prog 136 [.agg a.row,.agg b.row] (.bool (clB a b)):=by
 obtain⟨R,hR⟩:∃ R,clB a b=R:=⟨_,rfl⟩;rw[hR];unfold clB at hR;have a1:=ha.sets;have b1:=hb.sets;have c1:=qm9 b b1 hb.m8;refine cvx func136 [(4,[zJ 0 [3] [],zJ 2 [] [3],zJ 3 [2] [3],zJ 4 [] [3,2],zJ 5 [] [3],zJ 6 [] [3],zJ 7 [] [3],zJ 1 [] [2],zI 8,zI 9,zI 10,zI 11,zI 12,zI 13]),(5,[zI 0,zJ 1 [2] [],zJ 2 [] [2],zI 3,zI 4,zI 5,zI 6,zI 7,zI 8,zI 9,zI 10,zI 11,zJ 12 [3] [],zJ 13 [] [3],zI 14,zI 15,zJ 16 [] [3],zJ 17 [2] [3],zJ 18 [] [3,2],zJ 19 [] [3],zJ 20 [] [3],zI 21,zI 22,zI 23])] ntmps136 rfl rfl rfl ?_ (hca:=by simp[qb3]);simp[CO.row];refine qaM (X:=Nat) [2,3,5] [(2,2),(3,3)] (fun i=>[(5,.int .i64 i)]) (fun i=>[(2,⟨7,[a.row]⟩),(3,⟨7,[b.row]⟩)]) (fun i=>a.sets.length-i) (fun i=>i≤a.sets.length∧qqk b (a.sets.take i)=true) 0 (by simp[qqk]) ?_ (he:=by simp[qah,CO.row]);rintro i ⟨hi,ht⟩;by_cases h1:i<a.sets.length
 ·obtain⟨s,e1⟩:∃ s,a.sets[i]?=some s:=⟨_,qF3 h1⟩;have e0:a.sets[i]=s:=(qGy.1 e1).2;have hm:=qHT e1;have hs8:=ha.m8 s hm;have e2:=qap ((i:Int)+1) (by omega) (by omega);have c2:=qf0 (atC (b.sets.map csB) s.name (by simp;omega)) (hca:=by simp[bk]) (hcv:=by simp);simp only[bk,CO.row,qGA]at c1 c2;have hcl:clP b s=(s.dirty || (atB (b.sets.map csB) s.name && decide (b.sets[atP (b.sets.map csB) s.name]?=some s))):=rfl;simp[CO.row,e0,e1,h1,show(i:Int)<a.sets.length by omega,qaC s hs8];refine c1.call ?_;simp;refine c2.call ?_;obtain⟨k,hk⟩:∃ k,atP (b.sets.map csB) s.name=k:=⟨_,rfl⟩;rw[hk]at hcl;have hsk:=qaC s hs8;have hst:=qbl s hs8;have hd3:=qj0 s hs8;have hd4:=(qGy.1 hd3).2;have hnx:clP b s=true→qqk b (a.sets.take (i+1))=true:=qsK e1 ht;have hno:clP b s=false→R=false:=fun e=>by rw[← hR,qyz hm e];rfl
  cases hd:s.dirty with
  | true =>
   simp[hk,CO.row,e0,e1,h1,show(i:Int)<a.sets.length by omega,hsk,hst,hd3,hd4,hd];exact nx (i+1) [(2,2),(3,3)] ⟨by omega,hnx (by rw[hcl,hd];rfl)⟩ (by omega) (h4:=by simp[qah,e2,CO.row])
  | false =>
   cases ht:atB (b.sets.map csB) s.name with
   | false =>
    rw[hno (by rw[hcl,hd,ht];rfl)];simp[hk,CO.row,e0,e1,h1,show(i:Int)<a.sets.length by omega,hsk,hst,hd3,hd4,hd,ht]
   | true =>
    obtain⟨u,hu,hun⟩:=qda ht;rw[hk,qGw]at hu;obtain⟨t,f1,rfl⟩:=qHE.1 hu;have hkl:=(qGy.1 f1).1;have f0:b.sets[k]=t:=(qGy.1 f1).2;have ht8:=hb.m8 t (qHT f1);rw[f1]at hcl;by_cases hq:t=s
    ·subst hq;simp[hk,CO.row,e0,e1,h1,show(i:Int)<a.sets.length by omega,hsk,hst,hd3,hd4,hd,ht,hkl,f0,f1,show(k:Int)<b.sets.length by omega,qi8,qeR t hs8,qfd t t hs8 hs8];exact nx (i+1) [(2,2),(3,3)] ⟨by omega,hnx (by rw[hcl,hd,ht];simp)⟩ (by omega) (h4:=by simp[qah,e2,CO.row])
    ·rw[hno (by rw[hcl,hd,ht];simp[hq])];simp[hk,CO.row,e0,e1,h1,show(i:Int)<a.sets.length by omega,hsk,hst,hd3,hd4,hd,ht,hkl,f0,f1,show(k:Int)<b.sets.length by omega,qaC t ht8,qbl t ht8,qi8,qeR t ht8,qeR s hs8,qfd t s ht8 hs8,hq]
 ·have hie:i=a.sets.length:=by omega
  subst hie;rw[qGh (by omega)]at ht;rw[ht]at hR;have c3:=qjE (clD a b) b ⟨by simp only[clD];exact hb.sets,ha.ddt,ha.parts,ha.safe,hb.m8,hb.nm⟩ hb;generalize decide (clD a b=b)=D at *
  simp only[CO.row,clD]at c3;cases hd:a.dirty with
  | true =>
   rw[hd]at hR;subst hR;simp[CO.row,hd]
  | false =>
   rw[hd]at hR;subst hR;rw[hd]at c3;simp[CO.row,hd];refine c3.call ?_;simp[hd]
def qs0:List BO→List BS→Option (List BS)
 | [],b=>some b
 | o::r,b=>if (qls b o).2=0 then qs0 r (qls b o).1 else none
def vwF (now:List BS×Bool):Option (List BS)→Bool
 | some b=>now.2 && decide (b=now.1)
 | none=>false
def vwT (p:PO):Bool:=vwF (cbB p.d p.c) (qs0 (lfB p.d p.c.txg) (cbB p.d (rrB p.d).1).1)
def vwB (p:PO):Bool :=
 qcZ p && (p.up && (decide ((rrB p.d).2=0) && (decide ((rrB p.d).1.txg=p.c.txg) && (decide ((rrB p.d).1.safe=p.c.safe) && (decide (((lfB p.d p.c.txg).length:Int)=p.c.logn) && ((cbB p.d (rrB p.d).1).2 && (clB p.c (rrB p.d).1 && vwT p)))))))
theorem qw9 {t:List UInt8} (h:(qhJ t).2=true):∃ x,qhJ t=(qbf x,true):=by
 unfold qhJ at h ⊢;split
 ·rename_i h1;rw[if_pos h1]at h;cases h
 ·rename_i h1;rw[if_neg h1]at h;unfold qmY at h ⊢;split
  ·rename_i x hx;rw[hx]at h;simp only at h;split
   ·exact⟨x,rfl⟩
   ·rename_i ha;rw[if_neg ha]at h;cases h
  ·rename_i hx;rw[hx]at h;cases h
theorem qC1:CoT zK:=⟨by simp[zK],by simp[zK],by simp[zK],by simp[zK],by simp[zK],by simp[zK]⟩
theorem qrf {d:DK} (h:(rrB d).2=0):∃ x,qbr d=true∧CoT (rrS d (qbf x))∧(rrB d).1=rrS d (qbf x)∧qak (rrC d (qbf x))=true:=by
 unfold rrB at h ⊢;split at h
 ·rename_i h1;rw[if_pos h1];split at h
  ·rename_i h2;rw[if_pos h2];split at h
   ·rename_i h3;rw[if_pos h3];simp only[rrF,Bool.and_eq_true,decide_eq_true_eq]at h2;obtain⟨x,hx⟩:=qw9 h2.2;rw[hx]at h3 ⊢;have hT:=qxf hx d;simp only[rrG,Bool.and_eq_true]at h3;refine⟨x,h1.1,⟨hT.1,hT.2,hT.3,?_,hT.5,hT.6⟩,rfl,h3.2⟩;refine qFN (qjJ _ _) ?_;obtain⟨_,k4,k5,k6,_⟩:=qbn h3.2;omega
   ·cases h
  ·cases h
 ·cases h
theorem qAf {d:DK} (h:(rrB d).2≠0):(rrB d).1=zK:=by
 unfold rrB at h ⊢;split at h
 ·rename_i h1;rw[if_pos h1];split at h
  ·rename_i h2;rw[if_pos h2];split at h
   ·exact absurd rfl h
   ·rename_i h3;rw[if_neg h3]
  ·rename_i h2;rw[if_neg h2]
 ·rename_i h1;rw[if_neg h1]
theorem qAg (d:DK):CoT (rrB d).1:=by
 by_cases h:(rrB d).2=0
 ·obtain⟨x,_,hT,hx,_⟩:=qrf h;rw[hx];exact hT
 ·rw[qAf h];exact qC1
theorem qAV {t:List UInt8} (h:(qjk t).2=true):OpG (qjk t).1.op:=by
 unfold qjk at h ⊢;split
 ·rename_i m a i x y hc;rw[hc]at h;simp only at h;split
  ·rename_i p q hm;rw[hm]at h;simp only at h;split
   ·rename_i h1;have hne:t≠[]:=by
     rintro rfl;have:=h1.1;simp[qbj,qa8]at this
    have hlr:=h1.2;unfold qbS at hlr;split at hlr
    ·exact absurd hlr.symm hne
    ·rename_i hk;simp only[qdj,Bool.and_eq_true,qbR,decide_eq_true_eq,Bool.not_eq_false]at hk;refine⟨?_,by simp⟩;simp only;omega
   ·rename_i h1;rw[if_neg h1]at h;cases h
  ·rename_i hm;split at h
   ·rename_i q;exact absurd q (hm _ _)
   ·cases h
 ·rename_i hc;split at h
  ·rename_i q;exact absurd q (hc _ _ _ _ _)
  ·cases h
theorem qm4:∀ (l:List (Option BO)) (o:BO),o∈tkS l→some o∈l
 | [],o,h=>by simp[tkS]at h
 | none::r,o,h=>by simp[tkS]at h
 | some a::r,o,h=>by
  simp only[tkS,qHq]at h ⊢;rcases h with rfl | h
  ·exact .inl rfl
  ·exact .inr (qm4 r o h)
theorem qqF:∀ (l:List (Option BO)),(tkS l).length≤l.length
 | []=>by simp[tkS]
 | none::r=>by simp[tkS]
 | some a::r=>by
  simp only[tkS,qGk];have:=qqF r;omega
theorem qkK (d:DK) (txg:Int):(lfB d txg).length≤8:=by
 unfold lfB;rw[qrU];refine qFN (qqF _) ?_;simp
theorem qvo {d:DK} {txg:Int} {o:BO} (h:o∈lfB d txg):OpG o:=by
 unfold lfB at h;rw[qrU]at h;have h2:=qm4 _ _ h;obtain⟨i,_,hi⟩:=qGt.1 h2;rw[qky,qeu,qeu,qeZ,qeZ]at hi;split at hi
 ·rename_i g;simp only[Bool.and_eq_true]at g;injection hi with hi;subst hi;exact qAV g.1.1
 ·split at hi
  ·rename_i g;simp only[Bool.and_eq_true]at g;injection hi with hi;subst hi;exact qAV g.1.1
  ·cases hi
def vG (i:Nat) (b:List BS):Prop:=BkG b∧b.length≤1000+i
theorem qqs {i:Nat} {b:List BS} {o:BO} (h:vG i b) (ho:OpG o):vG (i+1) (qls b o).1:=by
 unfold qls;split
 ·refine⟨qBI h.1 ho,?_⟩;have:=qsw b o;have:=h.2;omega
 ·exact⟨by simp[BkG],by simp⟩
theorem qER {i:Nat} {b:List BS} (h:vG i b) (hi:i≤8):BkS b:=⟨by have:=h.2;omega,fun x hx=>by have:=h.1 x hx;omega⟩
theorem quI (d:DK) {c:CO} (hc:CoT c):vG 0 (cbB d c).1:=by
 unfold cbB;split
 ·rename_i h;obtain⟨_,k1,_⟩:=qbn h.2.1;refine⟨fun b hb=>?_,by simp only[qG4];omega⟩;obtain⟨s,hs,rfl⟩:=qGt.1 hb;have h8:=hc.m8 s hs;have hk:=h.2.1;simp only[qak,Bool.and_eq_true,qGf]at hk;have:=qhl (hk.1.1.1.1.2 s hs);simp[cbS,h8];omega
 ·exact⟨by simp[BkG],by simp⟩
theorem qtu (p:PO) (hd:DkT p.d) (hc:CoT p.c):CV prog 60 [.agg p.row] (.bool (vwB p)):=by
 obtain⟨R,hR⟩:∃ R,vwB p=R:=⟨_,rfl⟩;rw[hR];unfold vwB at hR;have c1:=qgL p.d hd;have c2:=qlJ p.d hd p.c.txg;have c3:=qoa p hd hc;have hT:=qAg p.d;have hll:=qkK p.d p.c.txg;have hop:=fun o (ho:o∈lfB p.d p.c.txg)=>qvo ho;have c5:=qvc p.d hd (rrB p.d).1 hT;have g5:=quI p.d hT;have c6:=qw5 p.c (rrB p.d).1 hc hT;have c7:=qvc p.d hd p.c hc;have g7:=quI p.d hc;unfold vwT at hR;generalize rrB p.d=K at *
 obtain⟨k,kn⟩:=K;simp only at c1 hT c5 g5 c6 hR;generalize lfB p.d p.c.txg=ls at *
 generalize clB p.c k=cl at *
 generalize cbB p.d k=B at *
 obtain⟨b0,bk0⟩:=B;simp only at c5 g5 hR;generalize hN:cbB p.d p.c=N at *
 obtain⟨nb,nk⟩:=N;have c4:=qvb k.safe p.c.safe hT.safe hc.safe;simp only at c7 g7 hR;simp only[PO.row,DK.row,CO.row,bk]at c1 c2 c3 c5 c6 c7;refine cvx func60 [(10,[zJ 0 [6] [],zJ 1 [] [6],zJ 2 [] [6],zJ 3 [] [6],zJ 4 [] [6],⟨5,[],[],[9],[]⟩,zI 6,zI 7,zI 8,zJ 9 [] [6],zI 10,zI 11])] ntmps60 rfl rfl rfl ?_ (hca:=by simp[PO.row,DK.row,qb3]);simp[PO.row,DK.row,CO.row];refine c1.call ?_;simp[CO.row];refine c2.call ?_;simp;refine c3.call ?_;cases q1:qcZ p with
 | false =>
  rw[q1]at hR;subst hR;simp
 | true =>
  cases q2:p.up with
  | false =>
   rw[q1,q2]at hR;subst hR;simp[q2]
  | true =>
   by_cases q3:kn=0;rotate_left
   ·rw[q1,q2,decide_eq_false q3]at hR;subst hR;simp[q2,q3]
   by_cases q4:k.txg=p.c.txg;rotate_left
   ·rw[q1,q2,decide_eq_true q3,decide_eq_false q4]at hR;subst hR;simp[q2,q3,q4]
   simp[q2,q3,q4];refine c4.call ?_;by_cases q5:k.safe=p.c.safe;rotate_left
   ·rw[q1,q2,decide_eq_true q3,decide_eq_true q4,decide_eq_false q5]at hR;subst hR;simp[q5]
   by_cases q6:(ls.length:Int)=p.c.logn;rotate_left
   ·rw[q1,q2,decide_eq_true q3,decide_eq_true q4,decide_eq_true q5,decide_eq_false q6]at hR;subst hR;simp[q5,q6]
   rw[q1,q2,decide_eq_true q3,decide_eq_true q4,decide_eq_true q5,decide_eq_true q6]at hR;simp only[qIe]at hR;rw[q4,q5]at c5 c6;rw[← q6]at c6 c7;simp[q5,q6.symm];refine c5.call ?_;simp;cases bk0 with
   | false =>
    subst hR;simp;refine qaM (X:=Unit) [1,5,6,7,8] [(1,1),(6,6)] (fun _=>[(8,.int .i64 0)]) (fun _=>[(1,⟨11,[p.row]⟩),(6,⟨1,[[.lst 11 (b0.map BS.row)]]⟩)]) (fun _=>0) (fun _=>True) () trivial ?_ (he:=by simp[qah,PO.row,DK.row,CO.row,q2,← q6]);rintro⟨⟩ -
    simp[PO.row,DK.row,CO.row,← q6];exact⟨fun _=>c7.call (by simp),fun _=>c7.call (by simp)⟩
   | true =>
    simp only[qIe]at hR;simp;refine c6.call ?_;simp;refine qaM (X:=Nat×List BS×Bool) [1,5,6,7,8] [(1,1),(6,6)] (fun x=>[(7,.bool x.2.2),(8,.int .i64 x.1)]) (fun x=>[(1,⟨11,[p.row]⟩),(6,⟨1,[[.lst 11 (x.2.1.map BS.row)]]⟩)]) (fun x=>ls.length-x.1) (fun x=>x.1≤ls.length∧vG x.1 x.2.1∧(x.2.2=true→vwF (nb,nk) (qs0 (ls.drop x.1) x.2.1)=R)∧(x.2.2=false→R=false)) (0,b0,cl) ⟨by simp,g5,fun e=>by rw[← hR];simp only at e;rw[e];simp,fun e=>by rw[← hR];simp only at e;rw[e];rfl⟩ ?_ (he:=by simp[qah,PO.row,DK.row,CO.row,q2,← q6]);rintro⟨i,b,ok⟩ ⟨hi,hg,ho1,ho2⟩;simp only at hi hg ho1 ho2;cases ok with
    | false =>
     rw[ho2 rfl];simp[PO.row,DK.row,CO.row,← q6];exact⟨fun _=>c7.call (by simp),fun _=>c7.call (by simp)⟩
    | true =>
     have ho:=ho1 rfl;cases hr:ls.drop i with
     | nil =>
      have:=qaY hr;have hie:i=ls.length:=by omega
      subst hie;rw[hr]at ho;simp only[qs0,vwF]at ho;have c8:=qz3 b nb (by have:=hg.2;omega) (by have:=g7.2;omega) (fun x hx=>(hg.1 x hx).1) (fun x hx=>(g7.1 x hx).1);simp only[bk]at c8;simp[PO.row,DK.row,CO.row,← q6];refine c7.call ?_;cases nk with
      | false =>
       simp;simpa using ho
      | true =>
       simp;refine c8.call ?_;simp;simpa using ho
     | cons o r =>
      obtain⟨g1,e0,e1,g3⟩:=qaZ hr;have hoo:=hop o (qHT e1);have e2:=qap ((i:Int)+1) (by omega) (by omega);have c9:=qDu b o (qER hg (by omega)) ⟨by have:=hoo.1;omega,by have:=hoo.2;omega⟩;have hs:=qqs hg hoo;rw[hr,qs0]at ho;generalize qls b o=Z at *
      obtain⟨zb,zn⟩:=Z;simp only at ho hs c9;simp only[bk,BO.row]at c9;simp[PO.row,DK.row,CO.row,← q6,g1,e0,e1,show(i:Int)<ls.length by omega,BO.row];refine c9.call ?_;by_cases hz:zn=0
      ·rw[if_pos hz]at ho;simp[hz];exact nx (i+1,zb,true) [(1,1),(6,6)] ⟨by simp only;omega,hs,fun _=>by simp only[g3];exact ho,fun e=>(by cases e)⟩ (by simp only;omega) (h4:=by simp[qah,e2,PO.row,DK.row,CO.row])
      ·rw[if_neg hz]at ho;simp[hz];exact nx (i+1,zb,false) [(1,1),(6,6)] ⟨by simp only;omega,hs,fun e=>(by cases e),fun _=>by rw[← ho];rfl⟩ (by simp only;omega) (h4:=by simp[qah,e2,PO.row,DK.row,CO.row,show(zn == 0)=false by simp[hz]])
theorem qtn {l:List CS} (hS:Srt (l.map csB)) {a b:CS} (ha:a∈l) (hb:b∈l) (hn:a.name=b.name):a=b:=by
 obtain⟨i,hi⟩:=qI5 ha;obtain⟨j,hj⟩:=qI5 hb;have hI:(l.map csB)[i]?=some (csB a):=by rw[qGw,hi];rfl
 have hJ:(l.map csB)[j]?=some (csB b):=by rw[qGw,hj];rfl
 have hirr:∀ x:List UInt8,¬ Op.bytesLess x x=true:=fun x=>by
  simp only[Go.Proofs.bytesLess_eq,decide_eq_true_eq];exact List.lt_irrefl _
 rcases qGW i j with h | h | h
 ·have:=hS i j _ _ h hI hJ;rw[show(csB a).name=(csB b).name from hn]at this;exact absurd this (hirr _)
 ·subst h;rw[hi]at hj;exact qIt hj
 ·have:=hS j i _ _ h hJ hI;rw[show(csB a).name=(csB b).name from hn]at this;exact absurd this (hirr _)
theorem qyB {k:CO} (hS:Srt (k.sets.map csB)) (s:CS):clP k s=(s.dirty || decide (s∈k.sets)):=by
 obtain⟨h1,h2⟩:=qBw s.name hS;unfold clP
 congr 1
 by_cases hm:s∈k.sets
 ·rw[decide_eq_true hm];have hf:(k.sets.find? fun x=>x.name == s.name).isSome=true:=by
   rw[List.find?_isSome];exact⟨s,hm,by simp⟩
  cases hb:atB (k.sets.map csB) s.name with
  | false =>
   rw[h2 hb]at hf;cases hf
  | true =>
   obtain⟨h3,h4⟩:=h1 hb;obtain⟨t,ht⟩:=qGu.1 h4;have htm:=qIJ ht;have htn:=List.find?_some ht;simp only[beq_iff_eq]at htn;have:=qtn hS htm hm htn;subst this;rw[h3,ht];simp
 ·rw[decide_eq_false hm];cases hb:atB (k.sets.map csB) s.name with
  | false=>rfl
  | true =>
   have:¬ k.sets[atP (k.sets.map csB) s.name]?=some s:=fun e=>hm (qHT e);simp[this]
def qqg (k:CO) (l:List CS):Bool:=l.all fun s=>s.dirty || decide (s∈k.sets)
theorem qyD {a k:CO} (hS:Srt (k.sets.map csB)) (hd:k.dirty=false) (hs:k.safe=a.safe):clB a k=(qqg k a.sets && (a.dirty || (decide (k.ddt=a.ddt) && decide (k.parts=a.parts)))):=by
 have h1:qqk k a.sets=qqg k a.sets:=by
  unfold qqk qqg
  congr 1
  funext s
  exact qyB hS s
 unfold clB;rw[h1]
 congr 1
 cases hq:a.dirty with
 | true=>rfl
 | false =>
  simp only[Bool.false_or];obtain⟨k1,k2,k3,k4,k5,k6,k7⟩:=k;obtain⟨a1,a2,a3,a4,a5,a6,a7⟩:=a;simp only at hd hs hq;subst hd hs hq;rw[qIj];simp only[clD,decide_eq_true_eq,CO.mk.injEq,Bool.and_eq_true,true_and,and_true];exact⟨fun h=>⟨h.1.symm,h.2.symm⟩,fun h=>⟨h.1.symm,h.2.symm⟩⟩
theorem qmi {k:CO} {l:List CS} {i:Nat} {s:CS} (hs:l[i]?=some s) (h:qqg k (l.take i)=true) (h2:s.dirty=true∨s∈k.sets):qqg k (l.take (i+1))=true:=by
 rw[qHN,hs];unfold qqg at *
 rw[qHO,h];simp;exact h2
theorem qxZ {k:CO} {l:List CS} {s:CS} (hs:s∈l) (h1:s.dirty=false) (h2:s ∉ k.sets):qqg k l=false:=by
 cases hk:qqg k l with
 | false=>rfl
 | true =>
  unfold qqg at hk;rw[qGf]at hk;have:=hk s hs;simp[h1,h2]at this
theorem qxe {d:DK} {c:CO} (h:qak (rrC d c)=true):Srt ((rrS d c).sets.map csB):=by
 show Srt ((rrC d c).sets.map csB);exact qo9 h
theorem qt2 (p:PO) (hd:DkT p.d) (hc:CoT p.c):CV prog 67 [.agg p.row] (.bool (vwB p)):=by
  obtain⟨R,hR⟩:∃ R,vwB p=R:=⟨_,rfl⟩;rw[hR];unfold vwB at hR;have c1:=qgY p.d hd;have c2:=qmf p.d hd p.c.txg;have c3:=qoS p hd hc;have hT:=qAg p.d;have hll:=qkK p.d p.c.txg;have hop:=fun o (ho:o∈lfB p.d p.c.txg)=>qvo ho;have c5:=qvt p.d hd (rrB p.d).1 hT;have g5:=quI p.d hT;have c7:=qvt p.d hd p.c hc;have g7:=quI p.d hc;have hcl:(rrB p.d).2=0→(rrB p.d).1.safe=p.c.safe→clB p.c (rrB p.d).1=(qqg (rrB p.d).1 p.c.sets && (p.c.dirty || (decide ((rrB p.d).1.ddt=p.c.ddt) && decide ((rrB p.d).1.parts=p.c.parts)))):=fun h1 h2=>by
    obtain⟨x,_,_,hx,hk⟩:=qrf h1;rw[hx]at h2 ⊢;exact qyD (qxe hk) rfl h2
  unfold vwT at hR;generalize rrB p.d=K at *
  obtain⟨k,kn⟩:=K;simp only at c1 hT c5 g5 hcl hR;generalize lfB p.d p.c.txg=ls at *
  generalize cbB p.d k=B at *
  obtain⟨b0,bk0⟩:=B;simp only at c5 g5 hR;generalize hN:cbB p.d p.c=N at *
  obtain⟨nb,nk⟩:=N;have c4:=qvs k.safe p.c.safe hT.safe hc.safe;have c8:=qBp k.ddt p.c.ddt hT.ddt hc.ddt;have c9:=qBo k.parts p.c.parts hT.parts hc.parts;simp only at c7 g7 hR;simp only[PO.row,DK.row,CO.row,bk]at c1 c2 c3 c5 c7;refine cvx func67 [] ntmps67 rfl rfl rfl ?_ (hca:=by simp[PO.row,DK.row,qb3]);simp[PO.row,DK.row,CO.row];refine c3.call ?_;cases q1:qcZ p with
  | false =>
    rw[q1]at hR;subst hR;simp
  | true =>
    cases q2:p.up with
    | false =>
      rw[q1,q2]at hR;subst hR;simp[q2]
    | true =>
      simp[q2];refine c1.call ?_;by_cases q3:kn=0;rotate_left
      · rw[q1,q2,decide_eq_false q3]at hR
        subst hR;simp[q2,q3,CO.row]
      by_cases q4:k.txg=p.c.txg;rotate_left
      · rw[q1,q2,decide_eq_true q3,decide_eq_false q4]at hR
        subst hR;simp[q2,q3,q4,CO.row]
      simp[q2,q3,q4,CO.row];refine c4.call ?_;by_cases q5:k.safe=p.c.safe;rotate_left
      · rw[q1,q2,decide_eq_true q3,decide_eq_true q4,decide_eq_false q5]at hR
        subst hR;simp[q5]
      rw[hcl q3 q5]at hR;rw[← q4]at c2;simp[q5];have hbc:∀ {b c d e f:Bool},(b && (c && ((d && e) && f)))=R→(d=false→R=false)∧(e=false→R=false)∧(d=true→e=true→(b && (c && f))=R):=fun {b c d e f} h=>by
        subst h;cases b <;> cases c <;> cases d <;> cases e <;> simp
      rw[q1,q2,decide_eq_true q3,decide_eq_true q4,decide_eq_true q5]at hR;simp only[qIe]at hR;obtain⟨n1,n2,n3⟩:=hbc hR;have hsl:=hc.sets;refine qaM (X:=Nat) [1,3,50,51,52] [(1,1),(3,3)] (fun i=>[(52,.int .i64 i)]) (fun i=>[(1,⟨11,[p.row]⟩),(3,⟨7,[k.row]⟩)]) (fun i=>p.c.sets.length-i) (fun i=>i≤p.c.sets.length∧qqg k (p.c.sets.take i)=true) 0 (by simp[qqg]) ?_ (he:=by simp[qah,PO.row,DK.row,CO.row,q2,q4,q5]);rintro i ⟨hi,ht⟩;by_cases h1:i<p.c.sets.length
      · obtain⟨s,e1⟩:∃ s,p.c.sets[i]?=some s:=⟨_,qF3 h1⟩
        have e0:p.c.sets[i]=s:=(qGy.1 e1).2;have hm:=qHT e1;have hs8:=hc.m8 s hm;have e2:=qap ((i:Int)+1) (by omega) (by omega);have hsk:=qaC s hs8;have hst:=qbl s hs8;have hd3:=qj0 s hs8;have hd4:s.row[30]'(by omega)=.bool s.dirty:=(qGy.1 hd3).2;have c10:=qBl k.sets s hT.sets hT.m8 hs8;cases hdy:s.dirty with
        | true =>
          rw[hdy]at hd3;simp only[hdy]at hd4;simp[PO.row,DK.row,CO.row,e0,e1,h1,show(i:Int)<p.c.sets.length by omega,hsk,hst,hd3,hd4];exact⟨qeB s,nx (i+1) [(1,1),(3,3)] ⟨by omega,qmi e1 ht (.inl hdy)⟩ (by omega) (h4:=by simp[qah,e2,PO.row,DK.row,CO.row])⟩
        | false =>
          rw[hdy]at hd3;simp only[hdy]at hd4;simp[PO.row,DK.row,CO.row,e0,e1,h1,show(i:Int)<p.c.sets.length by omega,hsk,hst,hd3,hd4];refine⟨qeB s,c10.call ?_⟩;by_cases hk:s∈k.sets
          · simp[hk]
            exact nx (i+1) [(1,1),(3,3)] ⟨by omega,qmi e1 ht (.inr hk)⟩ (by omega) (h4:=by simp[qah,e2,PO.row,DK.row,CO.row])
          · rw[n1 (qxZ hm hdy hk)]
            simp[hk]
      · have hie:i=p.c.sets.length:=by omega
        subst hie;rw[qGh (by omega)]at ht;have key:∀ _:(p.c.dirty || decide (k.ddt=p.c.ddt) && decide (k.parts=p.c.parts))=true,(decide ((ls.length:Int)=p.c.logn) && (bk0 && vwF (nb,nk) (qs0 ls b0)))=R:=n3 ht;by_cases hW:p.c.dirty=true∨(p.c.dirty=false∧k.ddt=p.c.ddt∧k.parts=p.c.parts)
        · have hF:(decide ((ls.length:Int)=p.c.logn) && (bk0 && vwF (nb,nk) (qs0 ls b0)))=R:=key (by
            rcases hW with h | ⟨h,h2,h3⟩
            · rw[h];rfl
            · rw[h2,h3];simp)
          rcases hW with q7 | ⟨q7,q8,q9⟩
          all_goals simp[PO.row,DK.row,CO.row,q7]
          all_goals first
            | refine c2.call ?_
            | (refine c8.call ?_
               simp[decide_eq_true q8];refine c9.call ?_;simp[decide_eq_true q9];refine c2.call ?_)
          all_goals simp
          all_goals refine c5.call ?_
          all_goals by_cases qk:bk0=true∧(ls.length:Int)=p.c.logn
          all_goals first
            | (have hn:R=false:=by
                 rw[← hF];cases bk0 <;> simp_all
               rw[hn];cases bk0 with
               | false=>simp
               | true =>
                 have q6:¬ (ls.length:Int)=p.c.logn:=fun e=>qk ⟨rfl,e⟩;simp[q6]
                 done)
            | (obtain⟨qb,q6⟩:=qk
               rw[qb,decide_eq_true q6]at hF;simp only[qIe]at hF;simp[qb,q6];refine qaM (X:=Nat×List BS) [1,8,111,112,113] [(1,1),(8,8)] (fun x=>[(113,.int .i64 x.1)]) (fun x=>[(1,⟨11,[p.row]⟩),(8,⟨1,[[.lst 11 (x.2.map BS.row)]]⟩)]) (fun x=>ls.length-x.1) (fun x=>x.1≤ls.length∧vG x.1 x.2∧vwF (nb,nk) (qs0 (ls.drop x.1) x.2)=R) (0,b0) ⟨by simp,g5,hF⟩ ?_ (he:=by simp[qah,PO.row,DK.row,CO.row,q7]);rintro⟨i,b⟩ ⟨hi,hg,ho⟩;simp only at hi hg ho;cases hr:ls.drop i with
               | nil =>
                 have:=qaY hr;have hie:i=ls.length:=by omega
                 subst hie;rw[hr]at ho;simp only[qs0,vwF]at ho;have c11:=qf0 (qA7 b nb (by have:=hg.2;omega) (by have:=g7.2;omega) (fun x hx=>(hg.1 x hx).1) (fun x hx=>(g7.1 x hx).1)) (hca:=by simp[bk]);simp only[bk]at c11;simp[PO.row,DK.row,CO.row,show ¬ (ls.length:Int)<p.c.logn by omega,show p.c.logn≤(ls.length:Int) by omega];refine c7.call ?_;cases nk with
                 | false =>
                   simp;simpa using ho
                 | true =>
                   simp;refine c11.call ?_;simp;rw[← ho,qIj];simp
               | cons o r =>
                 obtain⟨g1,e0,e1,g3⟩:=qaZ hr;have hoo:=hop o (qHT e1);have e2:=qap ((i:Int)+1) (by omega) (by omega);have c9:=qD5 b o (qER hg (by omega)) ⟨by have:=hoo.1;omega,by have:=hoo.2;omega⟩;have hs:=qqs hg hoo;rw[hr,qs0]at ho;generalize qls b o=Z at *
                 obtain⟨zb,zn⟩:=Z;simp only at ho hs c9;simp only[bk,BO.row]at c9;simp[PO.row,DK.row,CO.row,g1,e0,e1,show(i:Int)<ls.length by omega,show(i:Int)<p.c.logn by omega,BO.row];refine c9.call ?_;by_cases hz:zn=0
                 · rw[if_pos hz]at ho
                   simp[hz];exact nx (i+1,zb) [(1,1),(8,8)] ⟨by simp only;omega,hs,by simp only[g3];exact ho⟩ (by simp only;omega) (h4:=by simp[qah,e2,PO.row,DK.row,CO.row])
                 · rw[if_neg hz]at ho
                   subst ho;simp[hz,vwF])
        · have hn:R=false:=n2 (by
            cases q7:p.c.dirty with
            | true=>exact absurd (.inl q7) hW
            | false =>
              rw[q7]at hW;simp at hW;simpa using hW)
          rw[hn];cases q7:p.c.dirty with
          | true=>exact absurd (.inl q7) hW
          | false =>
            simp[PO.row,DK.row,CO.row,q7];refine c8.call ?_;by_cases q8:k.ddt=p.c.ddt
            · simp[q8]
              refine c9.call ?_;simp[show ¬ k.parts=p.c.parts from fun e=>hW (.inr ⟨q7,q8,e⟩)]
            · simp[q8]
theorem qj2 {α:Type} (f:α→Bool):∀ {l:List α} {i:Nat} {x:α} (y:α),l[i]?=some x→(l.set i y).countP f+(if f x=true then 1 else 0)=l.countP f+(if f y=true then 1 else 0)
 | [],i,x,y,h=>by simp at h
 | a::r,0,x,y,h=>by
  simp only[qF5,qFQ]at h;subst h;simp only[List.set_cons_zero,qIk];omega
 | a::r,i+1,x,y,h=>by
  simp only[qGl]at h;have:=qj2 f y h;simp only[qIV,qIk];omega
theorem qj3 (f:PT→Bool):∀ {l:List CS} {k i:Nat} {s s':CS} {old now:PT},l[k]?=some s→s.map[i]?=some old→s'.map=s.map.set i now →
  (qaF (l.set k s')).countP f+(if f old=true then 1 else 0)=(qaF l).countP f+(if f now=true then 1 else 0)
 | [],k,i,s,s',old,now,h,_,_=>by simp at h
 | a::r,0,i,s,s',old,now,h,h2,h3=>by
  simp only[qF5,qFQ]at h;subst h;have:=qj2 f now h2;simp only[qaF,List.set_cons_zero,qIn,qIu,h3];omega
 | a::r,k+1,i,s,s',old,now,h,h2,h3=>by
  simp only[qGl]at h;have:=qj3 f h h2 h3;simp only[qaF,qIV,qIn,qIu]at this ⊢;omega
theorem qxA {l:List CS} {k i:Nat} {s s':CS} {now p:PT} (h:l[k]?=some s) (h3:s'.map=s.map.set i now) (hp:p∈qaF (l.set k s')):p∈qaF l∨p=now:=by
 simp only[qaF,qIo]at hp ⊢;obtain⟨t,ht,hpt⟩:=hp;rcases qIi ht with ht | rfl
 ·exact .inl ⟨t,ht,hpt⟩
 ·rw[h3]at hpt;rcases qIi hpt with hpt | rfl
  ·exact .inl ⟨s,qHT h,hpt⟩
  ·exact .inr rfl
def ecA (l:List DE) (a:Int):Int:=qcd (l.filter fun e=>decide (e.ea=a))
theorem qyf (a:Int):ecA [] a=0:=rfl
theorem qc6 (e:DE) (l:List DE) (a:Int):ecA (e::l) a=(if e.ea=a then e.ec else 0)+ecA l a:=by
 unfold ecA;rw[List.filter_cons];split
 ·rename_i h;rw[if_pos (by simpa using h),qcd]
 ·rename_i h;rw[if_neg (by simpa using h)];omega
theorem qey (a:Int):∀ (l m:List DE),ecA (l++m) a=ecA l a+ecA m a
 | [],m=>by simp[qyf]
 | e::l,m=>by
  rw[qHS,qc6,qc6,qey a l m];omega
theorem qcJ:∀ (l m:List DE),qcd (l++m)=qcd l+qcd m
 | [],m=>by simp[qcd]
 | e::l,m=>by
  rw[qHS,qcd,qcd,qcJ l m];omega
theorem qib {l:List DE} {a:Int} (h:∀ e∈l,e.ea≠a):ecA l a=0:=by
 induction l with
 | nil=>rfl
 | cons e r ih =>
  rw[qc6,if_neg (h e (by simp)),ih fun x hx=>h x (by simp[hx])];rfl
theorem qlH {α:Type} {l:List α} {i:Nat} {x:α} (h:l[i]?=some x):l=l.take i++x::l.drop (i+1)∧∀ y,l.set i y=l.take i++y::l.drop (i+1):=by
 have hl:=(qGy.1 h).1;have hx:=(qGy.1 h).2;have hd:l.drop i=x::l.drop (i+1):=by
  rw[← hx];exact qF7 hl
 refine⟨?_,fun y=>?_⟩
 ·rw[← hd,qHX]
 ·rw[qH3,if_pos hl]
theorem qsu {l:List DE} (h:qam l=true) {e:DE} (he:e∈l):0<e.ea∧0<e.ec:=by
 have:=qgu (qhF h e he);omega
theorem qBE {l:List DE} (h:qam l=true) {e:DE} (he:e∈l):ecA l e.ea=e.ec:=by
 simp only[qam,Bool.and_eq_true,decide_eq_true_eq]at h;have hp:=qhj h.2;clear h
 induction l with
 | nil=>simp at he
 | cons x r ih =>
  rw[qI0]at hp;rw[qc6];rcases qHq.1 he with rfl | he2
  ·rw[if_pos rfl,qib fun y hy=>by have:=hp.1 y hy;omega];omega
  ·have:=hp.1 e he2;rw[if_neg (by omega),ih he2 hp.2];omega
theorem qk4 {l:List DE} (h:qam l=true) {e x:DE} (he:e∈l) (hx:x∈l) (hea:e.ea=x.ea):e=x:=by
 simp only[qam,Bool.and_eq_true,decide_eq_true_eq]at h;have hp:=qhj h.2;clear h
 induction l with
 | nil=>simp at he
 | cons y r ih =>
  rw[qI0]at hp;rcases qHq.1 he with h1 | he2 <;> rcases qHq.1 hx with h2 | hx2
  ·rw[h1,h2]
  ·have:=hp.1 x hx2;rw[h1]at hea;omega
  ·have:=hp.1 e he2;rw[h2]at hea;omega
  ·exact ih he2 hx2 hp.2
theorem qyj {l:List DE} (h:qam l=true) {e:DE} (he:e∈l):ddT l e.ea=true∧l[ddP l e.ea]?=some e:=by
 cases hT:ddT l e.ea with
 | false=>exact absurd rfl (qla h hT e he)
 | true =>
  obtain⟨x,hx,hxa⟩:=qcN hT;rw[hx,qk4 h (qHT hx) he hxa];exact⟨rfl,rfl⟩
theorem qCc {l:List DE} (h:qam l=true) {s a:Int} (ho:(qb2 l s a).2=true) :
  0<a∧(∀ b,ecA (qb2 l s a).1 b=ecA l b+if b=a then 1 else 0)∧qcd (qb2 l s a).1=qcd l+1∧∀ e∈(qb2 l s a).1,(∃ x∈l,x.ea=e.ea∧x.es=e.es∧(e.ea=a→e.es=s))∨(e.ea=a∧e.es=s∧ecA l a=0):=by
 unfold qb2 at ho ⊢;rw[if_neg (by simp[h])]at ho ⊢;split at ho
 ·simp at ho
 ·rename_i hen;rw[if_neg hen];have ha:0<a:=by
   have:=qgu (e:=⟨s,a,1⟩) (by simpa using hen);simp only at this;omega
  refine⟨ha,?_⟩;split at ho
  ·rename_i hT;rw[if_pos hT];obtain⟨x,hx,hxa⟩:=qcN hT;rw[hx]at ho ⊢;simp only at ho ⊢;split at ho
   ·simp at ho
   ·rename_i hc;rw[if_neg hc];have hxs:x.es=s:=qHI fun e=>hc (.inl e);obtain⟨g1,g2⟩:=qlH hx;simp only[g2];refine⟨fun b=>?_,?_,fun e he=>?_⟩
    ·rw[qey,qc6]
     conv=>rhs;rw[g1,qey,qc6]
     simp only[hxa];by_cases hb:a=b
     ·rw[if_pos hb,if_pos hb,if_pos hb.symm];omega
     ·rw[if_neg hb,if_neg hb,if_neg (qFL hb)];omega
    ·rw[qcJ,qcd]
     conv=>rhs;rw[g1,qcJ,qcd]
     simp only;omega
    ·rw[qHs,qHq]at he;have hxm:=qHT hx;rcases he with he | rfl | he
     ·have hm:=qHP he;exact .inl ⟨e,hm,rfl,rfl,fun q=>by rw[qk4 h hm hxm (by omega)];exact hxs⟩
     ·exact .inl ⟨x,hxm,rfl,rfl,fun _=>hxs⟩
     ·have hm:=qIh he;exact .inl ⟨e,hm,rfl,rfl,fun q=>by rw[qk4 h hm hxm (by omega)];exact hxs⟩
  ·rename_i hT;rw[if_neg hT];split at ho
   ·simp at ho
   ·rename_i hl;rw[if_neg hl];have hz:ecA l a=0:=qib (qla h (by simpa using hT));have hm:=qla h (a:=a) (by simpa using hT);simp only;have g1:=qHX (ddP l a) l;refine⟨fun b=>?_,?_,fun e he=>?_⟩
    ·rw[qey,qc6]
     conv=>rhs;rw[← g1,qey]
     simp only;by_cases hb:a=b
     ·rw[if_pos hb,if_pos hb.symm];omega
     ·rw[if_neg hb,if_neg (qFL hb)];omega
    ·rw[qcJ,qcd]
     conv=>rhs;rw[← g1,qcJ]
     simp only;omega
    ·rw[qHs,qHq]at he;rcases he with he | rfl | he
     ·have hx:=qHP he;exact .inl ⟨e,hx,rfl,rfl,fun q=>absurd q (hm e hx)⟩
     ·exact .inr ⟨rfl,rfl,hz⟩
     ·have hx:=qIh he;exact .inl ⟨e,hx,rfl,rfl,fun q=>absurd q (hm e hx)⟩
theorem qyg {l:List DE} (h:qam l=true) {a:Int} (ho:(qbo l a).2=true) :
  (∀ b,ecA (qbo l a).1 b=ecA l b-if b=a then 1 else 0)∧qcd (qbo l a).1=qcd l-1∧∀ e∈(qbo l a).1,∃ x∈l,x.ea=e.ea∧x.es=e.es:=by
 unfold qbo at ho ⊢;rw[if_neg (by simp[h])]at ho ⊢;split at ho
 ·simp at ho
 ·rename_i hT;rw[if_neg hT];obtain⟨x,hx,hxa⟩:=qcN (by simpa using hT);rw[hx]at ho ⊢;simp only at ho ⊢;obtain⟨g1,g2⟩:=qlH hx;split
  ·rename_i hc;simp only;refine⟨fun b=>?_,?_,fun e he=>?_⟩
   ·rw[qey]
    conv=>rhs;rw[g1,qey,qc6]
    simp only[hxa,hc];by_cases hb:a=b
    ·rw[if_pos hb,if_pos hb.symm];omega
    ·rw[if_neg hb,if_neg (qFL hb)];omega
   ·rw[qcJ]
    conv=>rhs;rw[g1,qcJ,qcd]
    omega
   ·rw[qHs]at he;rcases he with he | he
    ·exact⟨e,qHP he,rfl,rfl⟩
    ·exact⟨e,qIh he,rfl,rfl⟩
  ·simp only[g2];refine⟨fun b=>?_,?_,fun e he=>?_⟩
   ·rw[qey,qc6]
    conv=>rhs;rw[g1,qey,qc6]
    simp only[hxa];by_cases hb:a=b
    ·rw[if_pos hb,if_pos hb,if_pos hb.symm];omega
    ·rw[if_neg hb,if_neg hb,if_neg (qFL hb)];omega
   ·rw[qcJ,qcd]
    conv=>rhs;rw[g1,qcJ,qcd]
    simp only;omega
   ·rw[qHs,qHq]at he;rcases he with he | rfl | he
    ·exact⟨e,qHP he,rfl,rfl⟩
    ·exact⟨x,qHT hx,rfl,rfl⟩
    ·exact⟨e,qIh he,rfl,rfl⟩
structure Cnt (l:List DE) (P:List PT):Prop where
 cnt:∀ a:Int,0<a→ecA l a=(ptN a P:Int)
 sum:∀ e∈l,∀ p∈P,p.pa=e.ea→p.ps=e.es
 tot:qcd l=(nnN P:Int)
theorem ptN_pos {a:Int} {P:List PT}:0<ptN a P↔∃ p∈P,p.pa=a:=by
 unfold ptN;rw[List.countP_pos_iff];simp
theorem qBV {c:CO} (hd:qam c.ddt=true) (h1:qcO c=true) (h2:qct c=true):Cnt c.ddt (qaF c.sets):=by
 simp only[qcO,Bool.and_eq_true,qGf,decide_eq_true_eq]at h1;simp only[qct,qGf]at h2;obtain⟨h1,h3⟩:=h1;have hs:∀ p∈qaF c.sets,0<p.pa→∃ e∈c.ddt,e.ea=p.pa∧e.es=p.ps:=fun p hp h0=>by
  have:=h2 p hp;unfold qde at this;simp only[qHy,decide_eq_true_eq,Bool.and_eq_true]at this;rcases this with h | ⟨h4,h5⟩
  ·omega
  ·obtain⟨e,he,hea⟩:=qcN h4;rw[he]at h5;exact⟨e,qHT he,hea,by simpa using h5⟩
 refine⟨fun a ha=>?_,fun e he p hp hpe=>?_,h3⟩
 ·by_cases hx:∃ e∈c.ddt,e.ea=a
  ·obtain⟨e,he,rfl⟩:=hx;rw[qBE hd he,← h1 e he];unfold qeK;rw[if_pos ha]
  ·rw[qib fun e he hea=>hx ⟨e,he,hea⟩];have:¬ 0<ptN a (qaF c.sets):=fun h=>by
    obtain⟨p,hp,hpa⟩:=ptN_pos.1 h;obtain⟨e,he,hea,_⟩:=hs p hp (by omega);exact hx ⟨e,he,by omega⟩
   omega
 ·have:=(qsu hd he).1;obtain⟨x,hx,hxa,hxs⟩:=hs p hp (by omega);rw[qk4 hd he hx (by omega)];exact hxs.symm
theorem qBU {c:CO} (hd:qam c.ddt=true) (h:Cnt c.ddt (qaF c.sets)):qcO c=true∧qct c=true:=by
 constructor
 ·simp only[qcO,Bool.and_eq_true,qGf,decide_eq_true_eq];refine⟨fun e he=>?_,h.tot⟩;have hp:=(qsu hd he).1;rw[← qBE hd he,h.cnt _ hp];unfold qeK;rw[if_pos hp]
 ·simp only[qct,qGf];intro p hp;unfold qde;by_cases h0:p.pa≤0
  ·simp[h0]
  ·have hn:0<ptN p.pa (qaF c.sets):=ptN_pos.2 ⟨p,hp,rfl⟩;have hc:=h.cnt p.pa (by omega);have hx:∃ e∈c.ddt,e.ea=p.pa:=qHI fun hx=>by
    rw[qib fun e he hea=>hx ⟨e,he,hea⟩]at hc;omega
   obtain⟨e,he,hea⟩:=hx;have hes:=h.sum e he p hp hea.symm;obtain⟨g1,g2⟩:=qyj hd he;rw[hea]at g1 g2;rw[g1,g2];simp[hes]
theorem quy {l l1 l2:List DE} {P P':List PT} {old now:PT} (hd:qam l=true) (h:Cnt l P) (hold:old∈P) (hn0:0≤now.pa) (ho0:0≤old.pa)
  (hc:∀ f:PT→Bool,P'.countP f+(if f old=true then 1 else 0)=P.countP f+(if f now=true then 1 else 0)) (hm:∀ p∈P',p∈P∨p=now)
  (h1:(now.pa=0∧l1=l)∨(now.pa≠0∧(qb2 l now.ps now.pa).2=true∧l1=(qb2 l now.ps now.pa).1))
  (h2:(old.pa=0∧l2=l1)∨(old.pa≠0∧(qbo l1 old.pa).2=true∧l2=(qbo l1 old.pa).1)):qam l2=true∧Cnt l2 P':=by
 have a1:qam l1=true∧(∀ b,0<b→ecA l1 b=ecA l b+if b=now.pa then 1 else 0)∧qcd l1=qcd l+(if 0<now.pa then 1 else 0)∧∀ e∈l1,(∃ x∈l,x.ea=e.ea∧x.es=e.es∧(0<now.pa→e.ea=now.pa→e.es=now.ps))∨(e.ea=now.pa∧e.es=now.ps∧ecA l now.pa=0∧0<now.pa):=by
  rcases h1 with⟨z,rfl⟩ | ⟨z,ho,rfl⟩
  ·refine⟨hd,fun b hb=>?_,?_,fun e he=>.inl ⟨e,he,rfl,rfl,fun q=>by omega⟩⟩
   ·rw[if_neg (by omega)];omega
   ·rw[if_neg (by omega)];omega
  ·obtain⟨g0,g1,g2,g3⟩:=qCc hd ho;refine⟨qo7 hd ho,fun b _=>g1 b,by rw[if_pos g0];exact g2,fun e he=>?_⟩;rcases g3 e he with⟨x,hx,q1,q2,q3⟩ | ⟨q1,q2,q3⟩
   ·exact .inl ⟨x,hx,q1,q2,fun _=>q3⟩
   ·exact .inr ⟨q1,q2,q3,g0⟩
 obtain⟨b1,b2,b3,b4⟩:=a1;have a2:qam l2=true∧(∀ b,0<b→ecA l2 b=ecA l1 b-if b=old.pa then 1 else 0)∧qcd l2=qcd l1-(if 0<old.pa then 1 else 0)∧∀ e∈l2,∃ x∈l1,x.ea=e.ea∧x.es=e.es:=by
  rcases h2 with⟨z,rfl⟩ | ⟨z,ho,rfl⟩
  ·refine⟨b1,fun b hb=>?_,?_,fun e he=>⟨e,he,rfl,rfl⟩⟩
   ·rw[if_neg (by omega)];omega
   ·rw[if_neg (by omega)];omega
  ·obtain⟨g1,g2,g3⟩:=qyg b1 ho;exact⟨qmE b1 ho,fun b _=>g1 b,by rw[if_pos (by omega)];exact g2,g3⟩
 obtain⟨d1,d2,d3,d4⟩:=a2;refine⟨d1,fun a ha=>?_,fun e he p hp hpe=>?_,?_⟩
 ·have q:=hc fun p=>decide (p.pa=a);simp only[decide_eq_true_eq]at q;have k1:=h.cnt a ha;rw[d2 a ha,b2 a ha,k1];unfold ptN;split at q <;> split at q <;> split <;> split <;> omega
 ·obtain⟨x,hx,x1,x2⟩:=d4 e he;have hxp:0<x.ea:=(qsu b1 hx).1;rcases hm p hp with hp | rfl
  ·rcases b4 x hx with⟨y,hy,y1,y2,_⟩ | ⟨y1,y2,y3,y4⟩
   ·rw[← x2,← y2];exact h.sum y hy p hp (by omega)
   ·have k1:=h.cnt now.pa y4;have k2:0<ptN now.pa P:=ptN_pos.2 ⟨p,hp,by omega⟩;omega
  ·rcases b4 x hx with⟨y,hy,y1,y2,y3⟩ | ⟨y1,y2,y3,y4⟩
   ·rw[← x2];exact(y3 (by omega) (by omega)).symm
   ·rw[← x2];exact y2.symm
 ·have q:=hc fun p=>decide (0<p.pa);simp only[decide_eq_true_eq]at q;have k1:=h.tot;rw[d3,b3,k1];unfold nnN;split at q <;> split at q <;> (try simp only[*,if_true,if_false]) <;> omega
theorem coreOk_iff {c:CO}:qak c=true↔(0≤c.txg∧c.txg≤1000000∧qam c.ddt=true∧c.parts.length≤8∧qbw 12 c.safe=true∧0≤c.logn∧c.logn≤8∧c.sets.all qbp=true∧c.parts.all qar=true∧qa3 (c.sets.map csB)=true∧qcO c=true∧qct c=true):=by
 unfold qak;simp only[Bool.and_eq_true,decide_eq_true_eq,and_assoc]
theorem qDJ (more:Bool) (p:PT) (l:List DE) (b:Bool):(qbL more (qhN p) (l,b,true))=if p.pa=0 then (l,b,true) else ((qhL more l p).1,true,(qhL more l p).2):=by
 rw[ql5];simp only[qbL,qIe]
theorem qwS {l:List CS} {k:Nat} {s s':CS} (h:l[k]?=some s) (he:csB s'=csB s):(l.set k s').map csB=l.map csB:=by
 rw[qH5,he];apply qIp;intro j;rw[qGZ];split
 ·rename_i hj;subst hj;split
  ·rw[qGw,h];rfl
  ·rename_i hn;rw[qHx (by omega)]
 ·rfl
theorem qjx {d x:DK} {c:CO} (hT:CoT c) (hc:qak c=true) {k i:Nat} {s:CS} (hs:c.sets[k]?=some s) (hi:i<8) {now:PT} (hn:qaL now=true):qak (qf4 d x c k i s (s.map[i]?.getD zPT) now).2.1=true:=by
 have hs8:=hT.m8 s (qHT hs);obtain⟨old,ho⟩:∃ old,s.map[i]?=some old:=⟨_,qF3 (by omega)⟩;rw[ho,qGU];unfold qf4;simp only[qDJ];obtain⟨h1,h2,h3,h4,h5,h6,h7,h8,h9,h10,h11,h12⟩:=coreOk_iff.1 hc;have hcs:=h8;rw[qGf]at hcs;have hok:=hcs s (qHT hs);have hmp:∀ p∈s.map,qaL p=true:=by
  simp only[qbp,Bool.and_eq_true,qGf]at hok;exact hok.2
 have hp0:∀ p:PT,qaL p=true→0≤p.pa:=fun p hp=>by
  unfold qaL at hp;split at hp
  ·omega
  ·simp only[Bool.and_eq_true,decide_eq_true_eq]at hp;omega
 have hoP:old∈qaF c.sets:=qIo.2 ⟨s,qHT hs,qHT ho⟩;have hC:=qBV h3 h11 h12;generalize hl1:(if now.pa=0 then (c.ddt,c.dirty,true) else ((qhL true c.ddt now).1,true,(qhL true c.ddt now).2))=A
 obtain⟨l1,b1,k1⟩:=A;simp only;generalize hl2:(if old.pa=0 then (l1,b1,true) else ((qhL false l1 old).1,true,(qhL false l1 old).2))=B
 obtain⟨l2,b2,k2⟩:=B;simp only;by_cases hf:k1=false∨k2=false
 ·rw[if_pos hf];exact hc
 ·rw[if_neg hf];have e1:k1=true:=by cases k1 <;> simp_all
  have e2:k2=true:=by cases k2 <;> simp_all
  subst e1 e2;have q1:(now.pa=0∧l1=c.ddt)∨(now.pa≠0∧(qb2 c.ddt now.ps now.pa).2=true∧l1=(qb2 c.ddt now.ps now.pa).1):=by
   split at hl1
   ·rename_i h;simp only[qFR]at hl1;exact .inl ⟨h,hl1.1.symm⟩
   ·rename_i h;simp only[qFR,qhL,if_true]at hl1;exact .inr ⟨h,hl1.2.2,hl1.1.symm⟩
  have q2:(old.pa=0∧l2=l1)∨(old.pa≠0∧(qbo l1 old.pa).2=true∧l2=(qbo l1 old.pa).1):=by
   split at hl2
   ·rename_i h;simp only[qFR]at hl2;exact .inl ⟨h,hl2.1.symm⟩
   ·rename_i h;simp only[qFR,qhL,qFY,if_false]at hl2;exact .inr ⟨h,hl2.2.2,hl2.1.symm⟩
  obtain⟨d1,d2⟩:=quy (P':=qaF (c.sets.set k ⟨s.name,s.kind,s.frm,s.map.set i now,s.home,true⟩)) h3 hC hoP (hp0 now hn) (hp0 old (hmp old (qHT ho))) (fun f=>qj3 f hs ho rfl) (fun p hp=>qxA hs rfl hp) q1 q2;obtain⟨d3,d4⟩:=qBU (c:=⟨c.txg,c.sets.set k ⟨s.name,s.kind,s.frm,s.map.set i now,s.home,true⟩,l2,c.parts,b2,c.safe,c.logn⟩) d1 d2;refine coreOk_iff.2 ⟨h1,h2,d1,h4,h5,h6,h7,?_,h9,?_,d3,d4⟩
  ·rw[qGf];intro t ht;rcases qIi ht with ht | rfl
   ·exact hcs t ht
   ·simp only[qbp,Bool.and_eq_true,qGf]at hok ⊢;refine⟨hok.1,fun p hp=>?_⟩;rcases qIi hp with hp | rfl
    ·exact hok.2 p hp
    ·exact hn
  ·simp only;rw[qwS (s':=⟨s.name,s.kind,s.frm,s.map.set i now,s.home,true⟩) hs rfl];exact h10
theorem qpo {d:DK} {c:CO} (hT:CoT c) (hc:qak c=true) (k:Nat) {i:Nat} (hi:i<8) (text:List UInt8):qak (qcR d c k i text).2.1=true:=by
 unfold qcR;cases hs:c.sets[k]? with
 | none=>exact hc
 | some s =>
  simp only;split
  ·exact qjx hT hc hs hi (by decide)
  ·split
   ·exact hc
   ·split
    ·exact hc
    ·split
     ·exact hc
     ·exact qjx hT hc hs hi (qvX _ _ _)
theorem qAW {t:List UInt8} (h:(qjk t).2=true):qdj (qjk t).1=true:=by
 unfold qjk at h ⊢;split
 ·rename_i m a i x y hc;rw[hc]at h;simp only at h;split
  ·rename_i p q hm;rw[hm]at h;simp only at h;split
   ·rename_i h1;have hne:t≠[]:=by
     rintro rfl;have:=h1.1;simp[qbj,qa8]at this
    have hlr:=h1.2;unfold qbS at hlr;split at hlr
    ·exact absurd hlr.symm hne
    ·rename_i hk;simpa using hk
   ·rename_i h1;rw[if_neg h1]at h;cases h
  ·rename_i hm;split at h
   ·rename_i q;exact absurd q (hm _ _)
   ·cases h
 ·rename_i hc;split at h
  ·rename_i q;exact absurd q (hc _ _ _ _ _)
  ·cases h
def LgO (o:BO):Prop:=o.kind=3∧o.a.length≤24∧o.b=[]∧0≤o.i∧o.i<8∧o.text.length≤24
theorem qEU {r:LR} (h:qdj r=true):LgO r.op:=by
 simp only[qdj,Bool.and_eq_true,decide_eq_true_eq,qbR]at h;obtain⟨⟨⟨⟨⟨⟨h1,h2⟩,h3⟩,h4⟩,h5⟩,h6⟩,h7⟩:=h;refine⟨by omega,?_,h4,h5,h6,h7⟩;omega
theorem qrV {d:DK} {txg:Int} {o:BO} (h:o∈lfB d txg):LgO o:=by
 unfold lfB at h;rw[qrU]at h;have h2:=qm4 _ _ h;obtain⟨i,_,hi⟩:=qGt.1 h2;rw[qky,qeu,qeu,qeZ,qeZ]at hi;split at hi
 ·rename_i g;simp only[Bool.and_eq_true]at g;injection hi with hi;subst hi;exact qEU (qAW g.1.1)
 ·split at hi
  ·rename_i g;simp only[Bool.and_eq_true]at g;injection hi with hi;subst hi;exact qEU (qAW g.1.1)
  ·cases hi
def agF:List BO→DK→CO→DK×CO×Int
 | [],d,c=>(d,c,0)
 | o::r,d,c=>if dnB c o≠0 then (d,c,dnB c o) else
  if (qcR d c (nmP c.sets o.a) o.i.toNat o.text).2.2≠0 then (d,c,(qcR d c (nmP c.sets o.a) o.i.toNat o.text).2.2) else
  agF r (qcR d c (nmP c.sets o.a) o.i.toNat o.text).1 (qcR d c (nmP c.sets o.a) o.i.toNat o.text).2.1
structure AgT (d:DK) (c:CO):Prop where
 d:qbr d=true
 t:CoT c
 c:qak c=true
theorem AgT.turn {d:DK} {c:CO} (h:AgT d c) (k:Nat) {i:Nat} (hi:i<8) (text:List UInt8):AgT (qcR d c k i text).1 (qcR d c k i text).2.1 :=
 ⟨(qs9 h.d c k i text).1,qwg h.t (qbn h.c).1 k i text,qpo h.t h.c k hi text⟩
theorem qCa:∀ {l:List BO} {d:DK} {c:CO},(∀ o∈l,LgO o)→AgT d c→AgT (agF l d c).1 (agF l d c).2.1
 | [],d,c,_,h=>h
 | o::r,d,c,hl,h=>by
  have ho:=hl o (by simp);rw[agF];split
  ·exact h
  ·split
   ·exact h
   ·exact qCa (fun x hx=>hl x (by simp[hx])) (h.turn _ (by have:=ho.2.2.2;omega) _)
theorem doN (bs:List BS) (o:BO) (hl:bs.length<2000000) (hB:∀ b∈bs,b.bl.length=8) (hn:∀ b∈bs,b.name.length<1000000000) (ho:o.a.length<1000000000∧o.b.length<1000000000) :
  ACall prog 100 [.agg [.sl 1000 0 bs.length],.agg (BO.row o)] [(1000,qba bs)] (fun r L'=>r=.tup [.agg [.sl 902 0 (doB bs o).1.length],.int .i64 (doB bs o).2]∧L'=[(902,qba (doB bs o).1)]):=by
 refine(doC bs o hl hB hn ho).can ?_;rintro r L' ⟨id,hid,rfl,rfl⟩;simp only[qHq,qHz,or_false]at hid;rcases hid with rfl | rfl
 ·exact⟨[(1000,902)],by simp,by simp,by simp,by simp,by simp,by simp[qah,qba]⟩
 ·exact⟨[(900,902)],by simp,by simp,by simp,by simp,by simp,by simp[qah,qba]⟩
theorem qw8 (d:DK) (c:CO) (h:AgT d c):CV prog 42 [.agg d.row,.agg c.row] (.tup [.agg (agF (lfB d c.txg) d c).1.row,.agg (agF (lfB d c.txg) d c).2.1.row,.int .i64 (agF (lfB d c.txg) d c).2.2]):=by
 have c1:=qlJ d (qeA h.d) c.txg;have hll:=qkK d c.txg;have hop:=fun o (ho:o∈lfB d c.txg)=>qrV ho;generalize lfB d c.txg=ls at *
 obtain⟨R,hR⟩:∃ R,agF ls d c=R:=⟨_,rfl⟩;rw[hR];simp only[DK.row]at c1;refine cvx func42 [(5,[zJ 0 [3] [],zJ 2 [] [3],zJ 3 [] [3],zJ 4 [] [3],zJ 5 [] [3],⟨1,[],[],[10],[]⟩,⟨6,[28],[],[10],[]⟩,zI 7,zI 8,zI 9,zJ 10 [] [3],zI 11,zI 12]),(7,[zJ 0 [2] [],zJ 1 [3] [2],zJ 2 [] [2,3],zJ 3 [] [3],zI 4,zI 5]),(8,[zJ 0 [3] [],zJ 2 [] [3],zJ 3 [] [3],zJ 4 [] [3],zJ 5 [] [3],zJ 6 [] [3],zI 1,zI 7,zI 8,zI 9,zI 10,zI 11,zI 12]),(9,[zJ 0 [2] [],zJ 1 [3] [2],zJ 2 [] [2,3],zJ 3 [] [2,3],zJ 4 [] [2,3],zJ 5 [] [2,3],zJ 6 [] [2,3],zJ 7 [] [2,3],zJ 8 [] [2,3],zJ 9 [] [2,3],zJ 10 [] [2,3],zJ 11 [] [2,3],zJ 12 [] [2,3],⟨13,[],[],[18,19],[]⟩,zI 14,zI 15,zI 16,zI 17,zJ 18 [] [2,3],zJ 19 [] [2,3],zI 20,zI 21,zI 22]),(11,[zJ 0 [2] [],zJ 1 [3] [2],zJ 2 [] [2,3],zJ 3 [] [3],zI 4,zI 5]),(14,[zJ 0 [2] [],zJ 1 [3] [2],zJ 2 [] [3],zI 3,zI 4])] ntmps42 rfl rfl rfl ?_ (hca:=by simp[DK.row,qb3]) (hcv:=by simp[DK.row,qb3]);simp[DK.row,CO.row];refine c1.call ?_;simp;refine qaM (X:=Nat×DK×CO) [2,3,4,5,7,8] [(2,2),(3,3),(4,4),(5,5)] (fun x=>[(8,.int .i64 x.1)]) (fun x=>[(2,⟨3,[x.2.1.row]⟩),(3,⟨7,[x.2.2.row]⟩),(4,⟨3,[[.nils,.nils,.nils]]⟩),(5,⟨7,[[.int .i64 0,.nils,.nils,.nils,.bool false,.nils,.int .i64 0]]⟩)]) (fun x=>ls.length-x.1) (fun x=>x.1≤ls.length∧AgT x.2.1 x.2.2∧agF (ls.drop x.1) x.2.1 x.2.2=R) (0,d,c) ⟨by simp,h,by simpa using hR⟩ ?_ (he:=by simp[qah,DK.row,CO.row]);rintro⟨i,d,c⟩ ⟨hi,hT,hF⟩;simp only at hi hT hF;cases hr:ls.drop i with
 | nil =>
  have:=qaY hr;have hie:i=ls.length:=by omega
  subst hie;rw[hr,agF]at hF;subst hF;simp[DK.row,CO.row]
 | cons o r =>
  obtain⟨g1,e0,e1,g3⟩:=qaZ hr;obtain⟨o1,o2,o3,o4,o5,o6⟩:=hop o (qHT e1);have e2:=qap ((i:Int)+1) (by omega) (by omega);obtain⟨hm,k1,k2,k3,k4,k5,k6,k7⟩:=qbn hT.c;have cn:=qkr c (by omega) hT.t.m8;have cn2:=qm9 c (by omega) hT.t.m8;have cd:=doN (c.sets.map csB) o (by simp;omega) (fun b hb=>by
   obtain⟨s,hs,rfl⟩:=qGt.1 hb;simp[csB]) (fun b hb=>by
   obtain⟨s,hs,rfl⟩:=qGt.1 hb;have:=(hT.t.nm s hs).1;simp[csB];omega) ⟨by omega,by simp[o3]⟩
  have ca:=qf0 (atC (c.sets.map csB) o.a (by simp;omega)) (hca:=by simp[bk]) (hcv:=by simp);rw[← qrJ]at ca;have hdn:(doB (c.sets.map csB) o).2=dnB c o:=rfl;rw[hr,agF]at hF;simp only[CO.row]at cn cn2;simp[DK.row,CO.row,BO.row,g1,e0,e1,show(i:Int)<ls.length by omega];refine qac [] (by kernel_rfl) cn (by simp[DE.row,PT.row,qad,qa1]) (by simp) trivial (by simp) (by simp) ?_;rintro r L' ⟨rfl,rfl⟩;refine⟨[(900,28)],⟨by simp,by simp,by simp,by simp,by simp⟩,?_⟩;simp only[qaf];simp[BO.row];generalize hX:doB (c.sets.map csB) o=X at *
  obtain⟨xb,xc⟩:=X;simp only at hdn;subst hdn;simp only[BO.row,qG4]at cd;refine qac [(1000,.whole 28)] (by kernel_rfl) cd (by simp) (by simp) (by simp[qba];exact qaa rfl (by simp)) (by simp) (by simp) ?_;rintro r L' ⟨rfl,rfl⟩;refine⟨[(902,902)],⟨by simp,by simp,by simp,by simp,by simp⟩,?_⟩;simp only[qaf];by_cases hz:dnB c o≠0
  ·rw[if_pos hz]at hF;subst hF;simp[hz,DK.row,CO.row]
  ·rw[if_neg hz]at hF;have hz0:dnB c o=0:=by omega
   obtain⟨_,q2,_,_⟩:=qo0 hz0;have ct:=qz0 d (qeA hT.d) c hT.t hm (nmP c.sets o.a) o.i.toNat (q2 (by omega)) (by omega) o.text (by omega) ⟨by omega,by omega⟩;have hTu:=hT.turn (nmP c.sets o.a) (i:=o.i.toNat) (by omega) o.text;rw[show((o.i.toNat:Nat):Int)=o.i by omega]at ct;generalize qcR d c (nmP c.sets o.a) o.i.toNat o.text=Y at *
   obtain⟨yd,yc,yn⟩:=Y;simp only at hF hTu;simp only[DK.row,CO.row]at ct;simp only[bk,qGA]at cn2 ca;simp[hz0,BO.row,DK.row,CO.row,g1,e0,e1];refine cn2.call ?_;simp;refine ca.call ?_;simp[BO.row,g1,e0,e1];refine ct.call ?_;by_cases hy:yn≠0
   ·rw[if_pos hy]at hF;subst hF;simp[hy,DK.row,CO.row]
   ·rw[if_neg hy]at hF;simp[show yn=0 by omega,DK.row,CO.row];exact nx (i+1,yd,yc) [(2,2),(3,3),(4,4),(5,5)] ⟨by simp only;omega,hTu,by simp only[g3];exact hF⟩ (by simp only;omega) (h4:=by simp[qah,e2,DK.row,CO.row])
def agB (d:DK):DK×CO×Int:=if (rrB d).2≠0 then (zDK,zK,(rrB d).2) else agF (lfB d (rrB d).1.txg) d (rrB d).1
theorem qyF {d:DK} {p:PT} (h:(qag d p).2=0):qaL p=true:=by
 unfold qag at h;split at h
 ·simp at h
 ·split at h
  ·rename_i g;exact(qdx g).2.1
  ·split at h
   ·rename_i g;exact(qdx g).2.1
   ·simp at h
theorem qxs {p:PT} (h:qaL p=true):p.pa<120:=by
 unfold qaL at h;split at h
 ·omega
 ·simp only[Bool.and_eq_true,decide_eq_true_eq]at h;omega
theorem ql0:∀ {l:List Int} {q:Int},(∀ x∈l,q<x∧13≤x∧x<120)→l.Pairwise (· < ·)→qbw q l=true
 | [],_,_,_=>rfl
 | x::r,q,h,hp=>by
  rw[qI0]at hp;have hx:=h x (by simp);simp only[qbw,Bool.and_eq_true,decide_eq_true_eq];exact⟨⟨⟨hx.2.1,hx.2.2⟩,hx.1⟩,ql0 (fun y hy=>⟨hp.1 y hy,(h y (by simp[hy])).2⟩) hp.2⟩
theorem qlT {c:CO} (hc:qak c=true) {root:Int} (hr:root<120):qbw 12 (qcf c root)=true:=by
 obtain⟨h1,h2,h3,h4,h5,h6,h7,h8,h9,h10,h11,h12⟩:=coreOk_iff.1 hc;have h0:([]:List Int).Pairwise (· < ·):=.nil;obtain⟨a1,a2⟩:=qnS h0 root;obtain⟨b1,b2⟩:=qeG (c.ddt.map DE.ea) a1;obtain⟨c1,c2⟩:=qeG (c.sets.map fun s=>s.home.pa) b1;obtain⟨d1,d2⟩:=qeG (c.parts.map PT.pa) c1;refine ql0 (fun x hx=>?_) d1;have hx2:=(d2 x).1 hx;rw[c2,b2,a2]at hx2;rw[qGf]at h8 h9;have k1:∀ y∈c.ddt.map DE.ea,y<120:=fun y hy=>by
  obtain⟨e,he,rfl⟩:=qGt.1 hy;have:=qgu (qhF h3 e he);omega
 have k2:∀ y∈c.sets.map (fun s=>s.home.pa),y<120:=fun y hy=>by
  obtain⟨s,hs,rfl⟩:=qGt.1 hy;have:=h8 s hs;simp only[qbp,Bool.and_eq_true]at this;exact qxs this.1.2
 have k3:∀ y∈c.parts.map PT.pa,y<120:=fun y hy=>by
  obtain⟨p,hp,rfl⟩:=qGt.1 hy;exact qxs (qd1 (h9 p hp)).1
 rcases hx2 with((((hx2 | ⟨rfl,hx3⟩) | ⟨hx2,hx3⟩) | ⟨hx2,hx3⟩) | ⟨hx2,hx3⟩)
 ·simp at hx2
 ·omega
 ·have:=k1 x hx2;omega
 ·have:=k2 x hx2;omega
 ·have:=k3 x hx2;omega
theorem qgO {d:DK} (h:(rrB d).2=0):AgT d (rrB d).1:=by
 obtain⟨x,hd,hT,hx,hk⟩:=qrf h;have hroot:qaL (rbB d).2=true:=by
  unfold rrB at h;split at h
  ·split at h
   ·rename_i q;simp only[rrF,Bool.and_eq_true,decide_eq_true_eq]at q;exact qyF q.1
   ·simp at h
  ·simp at h
 rw[hx];refine⟨hd,hT,?_⟩;obtain⟨h1,h2,h3,h4,h5,h6,h7,h8,h9,h10,h11,h12⟩:=coreOk_iff.1 hk;exact coreOk_iff.2 ⟨h1,h2,h3,h4,qlT hk (qxs hroot),h6,h7,h8,h9,h10,h11,h12⟩
theorem qCb {d:DK} (h:(agB d).2.2=0):AgT (agB d).1 (agB d).2.1:=by
 unfold agB at h ⊢;split
 ·rename_i q;rw[if_pos q]at h;exact absurd h q
 ·rename_i q;exact qCa (fun o ho=>qrV ho) (qgO (by omega))
def zpR:List AV:=[.nils,.nils,.nils,.int .i64 0,.nils,.nils,.nils,.bool false,.nils,.int .i64 0,.bool false]
def qFo (R:DK×CO×Int) (r:AV) (L':List (Nat×Ob)):Prop :=
 (R.2.2≠0∧r=.tup [.agg zpR,.int .i64 R.2.2]∧L'=[]) ∨
 (R.2.2=0∧r=.tup [.agg (qgS ⟨R.1,R.2.1,true⟩ 901 902 903 904 905 906 907),.int .i64 0]∧L'=qcG ⟨R.1,R.2.1,true⟩ 901 902 903 904 905 906 907)
theorem qxR (d:DK) (h:DkT d):ACall prog 45 [.agg d.row] [] (qFo (agB d)):=by
 obtain⟨R,hR⟩:∃ R,agB d=R:=⟨_,rfl⟩;rw[hR];unfold agB at hR;have c1:=qjT d h;have c2:=qiX d h;have c3:=qmf d h (rrB d).1.txg;have hll:=qkK d (rrB d).1.txg;have hop:=fun o (ho:o∈lfB d (rrB d).1.txg)=>qrV ho;have hT0:=@qgO d;generalize lfB d (rrB d).1.txg=ls at *
 generalize rrB d=K at *
 obtain⟨c,kn⟩:=K;simp only at c3 hR hT0;simp only[DK.row]at c1 c2 c3;refine acx func45 [(4,[zJ 0 [1] [],zJ 2 [4] [1],⟨1,[],[4],[4],[]⟩,zI 3,zJ 4 [] [1,4],zI 5]),(8,[zI 0,zJ 1 [6] [],zJ 3 [8] [6],⟨2,[904,905,906,907],[8],[8],[]⟩,⟨4,[37],[],[8],[]⟩,zI 5,zI 6,zI 7,zJ 8 [] [6,8],zI 9,zI 10])] ntmps45 rfl rfl rfl ?_;simp[DK.row];refine qac [] (by kernel_rfl) c1 (by simp[qai,LT.row]) (by simp) trivial (by simp) (by simp) ?_;rintro r L' (⟨_,hk,rfl,rfl⟩ | ⟨hk,rfl,rfl⟩)
 ·simp only at hk;rw[if_pos hk]at hR;subst hR;refine⟨[],⟨by simp,by simp,by simp,by simp,by simp⟩,?_⟩;simp only[qaf];simp[hk];exact⟨[],by simp,.inl ⟨hk,rfl,rfl⟩⟩
 ·simp only at hk;subst hk;rw[if_neg (by simp)]at hR;have hT:=hT0 rfl;refine⟨[(904,904),(905,905),(906,906),(907,907)],⟨by simp,by simp,by simp,by simp,by simp⟩,?_⟩;simp only[qaf];simp[qcA];refine qac [] (by kernel_rfl) c2 (by simp[qai,LT.row]) (by simp) trivial (by simp) (by simp) ?_;rintro r L' ⟨rfl,rfl⟩;refine⟨[(6,901),(10,902),(14,903)],⟨by simp,by simp,by simp,by simp,by simp⟩,?_⟩;simp only[qaf];simp;refine c3.call ?_;simp;refine qaM (X:=Nat×DK×CO) [2,6,28,29,30] [(2,2),(6,6),(901,901),(902,902),(903,903),(904,904),(905,905),(906,906),(907,907)] (fun x=>[(30,.int .i64 x.1)]) (fun x=>(2,⟨11,[zpR]⟩)::(6,⟨11,[qeL x.2.1 x.2.2 true 901 902 903 904 905 906 907]⟩)::qcG ⟨x.2.1,x.2.2,true⟩ 901 902 903 904 905 906 907) (fun x=>ls.length-x.1) (fun x=>x.1≤ls.length∧AgT x.2.1 x.2.2∧agF (ls.drop x.1) x.2.1 x.2.2=R) (0,d,c) ⟨by simp,hT,by simpa using hR⟩ ?_ (he:=by simp[qah,qeL,qcG,zpR]);rintro⟨i,d,c⟩ ⟨hi,hT,hF⟩;simp only at hi hT hF;cases hr:ls.drop i with
  | nil =>
   have:=qaY hr;have hie:i=ls.length:=by omega
   subst hie;rw[hr,agF]at hF;subst hF;simp[qeL,qcG];exact⟨qcG ⟨d,c,true⟩ 901 902 903 904 905 906 907,by simp[qcG],.inr ⟨rfl,by simp[qgS],rfl⟩⟩
  | cons o r =>
   obtain⟨g1,e0,e1,g3⟩:=qaZ hr;obtain⟨o1,o2,o3,o4,o5,o6⟩:=hop o (qHT e1);have e2:=qap ((i:Int)+1) (by omega) (by omega);obtain⟨hm,k1,k2,k3,k4,k5,k6,k7⟩:=qbn hT.c;have cn:=qoU c (by omega) hT.t.m8;have hbk:qa3 (c.sets.map csB)=true:=qjd hT.c;have cd:=qEW (c.sets.map csB) o ⟨by simp;omega,fun b hb=>by
    obtain⟨s,hs,rfl⟩:=qGt.1 hb;have:=hT.t.nm s hs;simp[csB];omega⟩ ⟨by omega,by simp[o3]⟩
   have hdn:(qls (c.sets.map csB) o).2=dnB c o:=by
    unfold qls dnB;rw[if_pos hbk]
   rw[hr,agF]at hF;rw[hdn]at cd;simp only[CO.row]at cn;simp only[bk,BO.row]at cd;simp[qeL,qcG,BO.row,g1,e0,e1,show(i:Int)<ls.length by omega];refine qaS [] (by kernel_rfl) cn (by simp[qb5,mtA,kcs,qaN,kpt,kin,qal,qa1]) (by simp) trivial (by simp) (by simp) ?_;rintro r0 L' ⟨rfl,rfl⟩;refine⟨by simp[noL],by simp[qba,qoB],[(900,37)],⟨by simp,by simp,by simp,by simp,by simp⟩,?_⟩;simp only[qaf];simp[BO.row];refine qaS [] (by kernel_rfl) cd (by simp[qb5,mtA,qba];exact qGh (by simp)) (by simp) trivial (by simp) (by simp) ?_;rintro r0 L' ⟨rfl,rfl⟩;refine⟨by simp[noL],by simp[qba,qoB],[(903,39)],⟨by simp,by simp,by simp,by simp,by simp⟩,?_⟩;simp only[qaf];by_cases hz:dnB c o≠0
   ·rw[if_pos hz]at hF;subst hF;simp[hz];exact⟨[],by simp,.inl ⟨hz,by simp[zpR],rfl⟩⟩
   ·rw[if_neg hz]at hF;have hz0:dnB c o=0:=by omega
    obtain⟨_,q2,_,_⟩:=qo0 hz0;have cp:=qBg d hT.d c hT.t hT.c true o (q2 (by omega)) ⟨by omega,by omega⟩ (by omega);have hTu:=hT.turn (nmP c.sets o.a) (i:=o.i.toNat) (by omega) o.text;generalize qcR d c (nmP c.sets o.a) o.i.toNat o.text=Y at *
    obtain⟨yd,yc,yn⟩:=Y;simp only at hF hTu;simp only[BO.row]at cp;simp[hz0,BO.row];refine qac [(1000,.whole 6),(1001,.whole 901),(1002,.whole 902),(1003,.whole 903),(1004,.whole 904),(1005,.whole 905),(1006,.whole 906),(1007,.whole 907)] (by kernel_rfl) cp (by simp) (by simp) (by simp[qcq,qeL];exact⟨.inr ⟨_,_,rfl,rfl,by simp⟩,qaa rfl (qaO _),qaa rfl (qaO _),qaa rfl (qcU _),qaa rfl (qa5 _),qaa rfl (qbK _),qaa rfl (qbq _),qaa rfl (qaP _)⟩) (by simp[qcq]) (by simp) ?_;rintro r0 L' ⟨d',c',i3,i5,h3,h5,rfl,rfl,hq⟩;simp only[qHq,qHz,or_false]at h3 h5;subst h3 h5;simp only at hq;refine⟨[(903,813),(905,815)],⟨by simp[qcq],by simp,by simp,by simp[qcq],by simp[qcq]⟩,?_⟩;simp only[qaf];by_cases hy:yn≠0
    ·rw[if_pos hy]at hF;subst hF;simp[hy,qcq,qeL];exact⟨[],by simp,.inl ⟨hy,by simp[zpR],rfl⟩⟩
    ·rw[if_neg hy]at hF;obtain⟨rfl,rfl⟩:=hq (by omega);simp[show yn=0 by omega,qcq,qeL];exact nx (i+1,d',c') [(2,2),(6,6),(901,901),(902,902),(813,903),(904,904),(815,905),(906,906),(907,907)] ⟨by simp only;omega,hTu,by simp only[g3];exact hF⟩ (by simp only;omega) (h4:=by simp[qah,e2,zpR,qeL,qcG])
def ePT (e:DE):PT:=⟨e.ea,e.es,0⟩
def qsU (c:CO) (root:PT):List PT:=root::(c.sets.map CS.home++(c.parts++c.ddt.map ePT))
theorem qvL {f:Nat} {args:List AV} {R:List PT} (h:ACall prog f args [] (fun r L'=>r=.sl 900 0 R.length∧L'=[(900,kpt R)])) (he:qb1 prog f=true) (ha:clL args=true):CV prog f args (.lst 3 (R.map PT.row)):=by
 refine CV.of_frz h ?_ (he:=he) (hca:=ha) (hcv:=by simp[PT.row]);rintro r L' ⟨rfl,rfl⟩;refine⟨by simp,by simp,fun x hx=>by simp only[qIx]at hx;subst hx;exact qbq _,?_⟩;simp[qa7,kpt,qal]
theorem qDy (c:CO) (h:CoT c) (hm:CoM c) (root:PT):CV prog 32 [.agg c.row,.agg root.row] (.lst 3 ((qsU c root).map PT.row)):=by
 refine qvL ?_ (by kernel_rfl) (by simp[qb3,PT.row]);have h1:=hm.sets;have h2:=hm.ddt;have h3:=hm.parts;obtain⟨O,hO⟩:∃ O:Nat→List PT,∀ i,O i=root::(c.sets.take i).map CS.home:=⟨_,fun _=>rfl⟩;obtain⟨Q,hQ⟩:∃ Q:Nat→List PT,∀ i,Q i=O c.sets.length++c.parts++(c.ddt.take i).map ePT:=⟨_,fun _=>rfl⟩;have o0:O 0=[root]:=by simp[hO]
 have q0:Q 0=O c.sets.length++c.parts:=by simp[hQ]
 have ol:∀ i,i≤c.sets.length→(O i).length=i+1:=fun i hi=>by simp[hO];omega
 have ql:∀ i,i≤c.ddt.length→(Q i).length=c.sets.length+1+c.parts.length+i:=fun i hi=>by simp[hQ,hO];omega
 have qe:Q c.ddt.length=qsU c root:=by simp[hQ,hO,qsU]
 refine acx func32 [(10,[zI 0,zI 1,zJ 2 [2] [],zJ 3 [] [2],zI 4,zI 5,zI 6,zJ 7 [] [2],zJ 8 [2] [2],zJ 9 [] [2],zJ 10 [] [2],zJ 11 [] [2],zJ 12 [] [2],zI 13,zI 14,zI 15,zI 16])] ntmps32 rfl rfl rfl ?_;simp[CO.row,PT.row];refine qaM (X:=Nat) [2,5,6] [(2,2),(9,900)] (fun i=>[(5,.sl 900 0 (O i).length),(6,.int .i64 i)]) (fun i=>[(2,⟨7,[c.row]⟩),(900,kpt (O i))]) (fun i=>c.sets.length-i) (fun i=>i≤c.sets.length) 0 (by simp) ?_ (he:=by simp[qah,kpt,CO.row,PT.row,o0]);intro i hi;cases hr:c.sets.drop i with
 | nil =>
  have:=qaY hr;have hie:i=c.sets.length:=by omega
  subst hie;have l1:=ol c.sets.length (by omega);simp[qah,CO.row,kpt];refine⟨by omega,?_⟩;refine qaM (X:=Nat) [2,5,7] [(2,2),(29,900)] (fun i=>[(5,.sl 900 0 (Q i).length),(7,.int .i64 i)]) (fun i=>[(2,⟨7,[c.row]⟩),(900,kpt (Q i))]) (fun i=>c.ddt.length-i) (fun i=>i≤c.ddt.length) 0 (by simp) ?_ (he:=by simp[qah,kpt,CO.row,q0,qal]);intro i hi;cases hr:c.ddt.drop i with
  | nil =>
   have:=qaY hr;have hie:i=c.ddt.length:=by omega
   subst hie;simp[qah,CO.row,kpt,qe]
  | cons e r =>
   obtain⟨g1,e0,e1,g3⟩:=qaZ hr;have e2:=qap ((i:Int)+1) (by omega) (by omega);have l2:=ql i (by omega);have ht:Q (i+1)=Q i++[ePT e]:=by rw[hQ,hQ,qHN,e1];simp
   simp[qah,g1,e0,e1,CO.row,kpt,DE.row];refine⟨by omega,?_⟩;exact nx (i+1) [(2,2),(52,900)] (by omega) (by omega) (h4:=by simp[ht,qah,e2,kpt,PT.row,CO.row,qal,ePT])
 | cons e r =>
  obtain⟨g1,e0,e1,g3⟩:=qaZ hr;have h8:=h.m8 e (qHT e1);have e2:=qap ((i:Int)+1) (by omega) (by omega);have hho:=qc2 e h8;simp only[PT.row]at hho;have l1:=ol i hi;have ht:O (i+1)=O i++[e.home]:=by rw[hO,hO,qHN,e1];simp
  simp[qah,g1,e0,e1,CO.row,qaC e h8,qbl e h8,hho,kpt];refine⟨by omega,?_⟩;exact nx (i+1) [(2,2),(25,900)] (by omega) (by omega) (h4:=by simp[ht,qah,e2,kpt,PT.row,CO.row,qal])
theorem qxQ (d:DK) (h:DkT d) (hz:(rrB d).2=0):CV prog 37 [.agg d.row] (.lst 3 ((qsU (rrB d).1 (rbB d).2).map PT.row)):=by
 have hT:=qgO hz;have c1:=qgY d h;have c2:=qvu d h;rw[hz]at c1;generalize (rrB d).1=c at *
 generalize (rbB d).2=root at *
 generalize (rbB d).1=bn at *
 have hm:=(qbn hT.c).1;have h1:=hm.sets;have h2:=hm.ddt;have h3:=hm.parts;obtain⟨O,hO⟩:∃ O:Nat→List PT,∀ i,O i=root::(c.sets.take i).map CS.home:=⟨_,fun _=>rfl⟩;obtain⟨Q,hQ⟩:∃ Q:Nat→List PT,∀ i,Q i=O c.sets.length++c.parts++(c.ddt.take i).map ePT:=⟨_,fun _=>rfl⟩;have o0:O 0=[root]:=by simp[hO]
 have q0:Q 0=O c.sets.length++c.parts:=by simp[hQ]
 have ol:∀ i,i≤c.sets.length→(O i).length=i+1:=fun i hi=>by simp[hO];omega
 have ql:∀ i,i≤c.ddt.length→(Q i).length=c.sets.length+1+c.parts.length+i:=fun i hi=>by simp[hQ,hO];omega
 have qe:Q c.ddt.length=qsU c root:=by simp[hQ,hO,qsU]
 simp only[DK.row,CO.row,PT.row]at c1 c2;refine qvL ?_ (by kernel_rfl) (by simp[DK.row]);refine acx func37 [] ntmps37 rfl rfl rfl ?_;simp[DK.row];refine c1.call ?_;simp;refine c2.call ?_;simp;refine qaM (X:=Nat) [3,8,29,30,31] [(3,3),(27,900)] (fun i=>[(8,.sl 900 0 (O i).length),(31,.int .i64 i)]) (fun i=>[(3,⟨7,[c.row]⟩),(900,kpt (O i))]) (fun i=>c.sets.length-i) (fun i=>i≤c.sets.length) 0 (by simp) ?_ (he:=by simp[qah,kpt,CO.row,PT.row,o0]);intro i hi;cases hr:c.sets.drop i with
 | nil =>
  have:=qaY hr;have hie:i=c.sets.length:=by omega
  subst hie;have l1:=ol c.sets.length (by omega);simp[qah,CO.row,kpt];refine⟨by omega,?_⟩;refine qaM (X:=Nat) [8,46,47,48] [(44,900)] (fun i=>[(8,.sl 900 0 (Q i).length),(48,.int .i64 i)]) (fun i=>[(900,kpt (Q i))]) (fun i=>c.ddt.length-i) (fun i=>i≤c.ddt.length) 0 (by simp) ?_ (he:=by simp[qah,kpt,CO.row,q0,qal]);intro i hi;cases hr:c.ddt.drop i with
  | nil =>
   have:=qaY hr;have hie:i=c.ddt.length:=by omega
   subst hie;simp[qah,CO.row,kpt,qe]
  | cons e r =>
   obtain⟨g1,e0,e1,g3⟩:=qaZ hr;have e2:=qap ((i:Int)+1) (by omega) (by omega);have l2:=ql i (by omega);have ht:Q (i+1)=Q i++[ePT e]:=by rw[hQ,hQ,qHN,e1];simp
   simp[qah,g1,e0,e1,CO.row,kpt,DE.row,show(i:Int)<c.ddt.length by omega];refine⟨by omega,?_⟩;exact nx (i+1) [(59,900)] (by omega) (by omega) (h4:=by simp[ht,qah,e2,kpt,PT.row,CO.row,qal,ePT])
 | cons e r =>
  obtain⟨g1,e0,e1,g3⟩:=qaZ hr;have h8:=hT.t.m8 e (qHT e1);have e2:=qap ((i:Int)+1) (by omega) (by omega);have hho:=qc2 e h8;simp only[PT.row]at hho;have l1:=ol i hi;have ht:O (i+1)=O i++[e.home]:=by rw[hO,hO,qHN,e1];simp
  simp[qah,g1,e0,e1,CO.row,qaC e h8,qbl e h8,hho,kpt,show(i:Int)<c.sets.length by omega];refine⟨qiL e,by omega,?_⟩;exact nx (i+1) [(3,3),(39,900)] (by omega) (by omega) (h4:=by simp[ht,qah,e2,kpt,PT.row,CO.row,qal])
def qgP (d:DK):PO×Int:=if (agB d).2.2≠0 then (⟨zDK,zK,false⟩,(agB d).2.2) else
 if (qbv (agB d).1 (agB d).2.1).2.2≠0 then (⟨zDK,zK,false⟩,(qbv (agB d).1 (agB d).2.1).2.2) else
 (⟨(qbv (agB d).1 (agB d).2.1).1,(qbv (agB d).1 (agB d).2.1).2.1,true⟩,0)
theorem qtv (d:DK) (h:DkT d):CV prog 19 [.agg d.row] (.tup [.agg (qgP d).1.row,.int .i64 (qgP d).2]):=by
 obtain⟨R,hR⟩:∃ R,qgP d=R:=⟨_,rfl⟩;rw[hR];have c1:=qgL d h;have c2:=qrc d h;have c3:=fun hz=>qw8 d (rrB d).1 (@qgO d hz);have hT:=@qCb d;have c4:=fun hz=>qtx (agB d).1 (qeA (hT hz).d) (agB d).2.1 (hT hz).t;unfold qgP at hR;have hag:agB d=if (rrB d).2≠0 then (zDK,zK,(rrB d).2) else agF (lfB d (rrB d).1.txg) d (rrB d).1:=rfl
 refine CV.of_imp ?_ (hca:=by simp[DK.row]) (hcv:=by simp[PO.row,DK.row,qb3]);refine acx func19 [(4,[zJ 0 [1] [],zJ 2 [4] [1],⟨1,[],[4],[8,9],[]⟩,⟨3,[],[],[8,9],[]⟩,zI 4,zI 5,zI 6,zI 7,zJ 8 [] [1,4],zJ 9 [] [1,4],zI 10,zI 11,zI 12])] ntmps19 rfl rfl rfl ?_;simp only[DK.row,CO.row]at c1 c2;simp[DK.row];refine c1.call ?_;by_cases q:(rrB d).2≠0
 ·rw[if_pos q]at hag;rw[hag]at hR;rw[if_pos q]at hR;subst hR;simp[q];exact qdl (.cons qkM (.cons (qaE _) .nil))
 ·rw[if_neg q]at hag;have q0:(rrB d).2=0:=by omega
  have c3:=c3 q0;rw[← hag]at c3;generalize agB d=G at *
  obtain⟨x,y,n⟩:=G;simp only at hR c3 c4 hT;simp only[DK.row,CO.row]at c3;simp[q0];refine c2.call ?_;simp;refine c3.call ?_;by_cases q1:n≠0
  ·rw[if_pos q1]at hR;subst hR;simp[q1];exact qdl (.cons qkM (.cons (qaE _) .nil))
  ·rw[if_neg q1]at hR;have q2:n=0:=by omega
   have c4:=c4 q2;generalize qbv x y=W at *
   obtain⟨u,v,k⟩:=W;simp only at hR;simp only[DK.row,CO.row]at c4;simp[q2];refine c4.call ?_;by_cases q3:k≠0
   ·rw[if_pos q3]at hR;subst hR;simp[q3];exact qdl (.cons qkM (.cons (qaE _) .nil))
   ·rw[if_neg q3]at hR;subst hR;simp[show k=0 by omega,PO.row,DK.row,CO.row]
def riQ (R:PO×Int) (r:AV) (L':List (Nat×Ob)):Prop :=
 (R.1=⟨zDK,zK,false⟩∧r=.tup [.agg zpR,.int .i64 R.2]∧L'=[]) ∨
 (r=.tup [.agg (qgS R.1 901 902 903 904 905 906 907),.int .i64 R.2]∧L'=qcG R.1 901 902 903 904 905 906 907)
theorem qt3 (d:DK) (h:DkT d):ACall prog 20 [.agg d.row] [] (riQ (qgP d)):=by
 obtain⟨R,hR⟩:∃ R,qgP d=R:=⟨_,rfl⟩;rw[hR];unfold qgP at hR;have c1:=qxR d h;have hT:=@qCb d;have hcb:=fun hz=>@qj4 (agB d).1 (agB d).2.1 (hT hz).t;have c2:=fun hz=>qsa (agB d).1 (qeA (hT hz).d) (agB d).2.1 (hT hz).t true;generalize agB d=G at *
 obtain⟨x,y,n⟩:=G;simp only at hR c2 hT hcb;simp only[DK.row]at c1;refine acx func20 [] ntmps20 rfl rfl rfl ?_;simp[DK.row];refine qac [] (by kernel_rfl) c1 (by simp[qai,LT.row]) (by simp) trivial (by simp) (by simp) ?_;rintro r L' (⟨hk,rfl,rfl⟩ | ⟨hk,rfl,rfl⟩)
 ·simp only at hk;rw[if_pos hk]at hR;subst hR;refine⟨[],⟨by simp,by simp,by simp,by simp,by simp⟩,?_⟩;simp only[qaf,zpR];simp[hk];exact⟨[],by simp,.inl ⟨rfl,by simp[zpR],rfl⟩⟩
 ·simp only at hk;subst hk;rw[if_neg (by simp)]at hR;have c2:=c2 rfl;have hcb:=hcb rfl;generalize qbv x y=W at *
  obtain⟨u,v,k⟩:=W;simp only at hR hcb;refine⟨[(901,801),(902,802),(903,803),(904,804),(905,805),(906,806),(907,807)],⟨by simp[qcG],by simp,by simp,by simp[qcG],by simp⟩,?_⟩;simp only[qaf];simp[qcG,qgS];refine qac [(1000,.whole 4),(1001,.whole 801),(1002,.whole 802),(1003,.whole 803),(1004,.whole 804),(1005,.whole 805),(1006,.whole 806),(1007,.whole 807)] (by kernel_rfl) c2 (by simp) (by simp) (by simp[qcq,qeL];exact⟨.inr ⟨_,_,rfl,rfl,by simp⟩,qaa rfl (qaO _),qaa rfl (qaO _),qaa rfl (qcU _),qaa rfl (qa5 _),qaa rfl (qbK _),qaa rfl (qbq _),qaa rfl (qaP _)⟩) (by simp[qcq]) (by simp) ?_;rintro r L' ⟨d',c',rfl,rfl,hq⟩;simp only at hq;refine⟨[(901,811),(902,812),(903,813),(904,814),(905,815),(906,816),(907,817)],⟨by simp[qcq],by simp,by simp,by simp[qcq],by simp⟩,?_⟩;simp only[qaf];by_cases q:k≠0
  ·rw[if_pos q]at hR;subst hR;simp[qcq,qeL,q];exact⟨[],by simp,.inl ⟨rfl,by simp[zpR],rfl⟩⟩
  ·rw[if_neg q]at hR;subst hR;have hq0:k=0:=by omega
   obtain⟨rfl,rfl⟩:=hq hq0;obtain⟨_,_,h3,_,h5,_⟩:=hcb hq0;have c4:=qBh ⟨d',c',true⟩ (qeA h3) h5;simp only[PO.row,DK.row,CO.row,qHS,qGC]at c4;simp[qcq,qeL,hq0];refine qaS [] (by kernel_rfl) c4 (by simp[qb5,mtA,qas,qcE,kcs,qaN,kpt,kin,qal,qa1,qai,LT.row]) (by simp) trivial (by simp) (by simp) ?_;rintro r L' ⟨rfl,rfl⟩;refine⟨by simp[qgS,noL],by simp[qcG,qas,qcE,kcs,qaN,kpt,kin,qad,DE.row,PT.row,qhx,qai,LT.row],[(901,901),(902,902),(903,903),(904,904),(905,905),(906,906),(907,907)],⟨by simp[qcG],by simp,by simp,by simp[qcG],by simp⟩,?_⟩;simp only[qaf];simp[qcG,qgS];exact⟨qcG ⟨d',c',true⟩ 901 902 903 904 905 906 907,by simp[qcG],.inr ⟨by simp[qgS],rfl⟩⟩
theorem qt4 (d:DK) (h:DkT d):CV prog 20 [.agg d.row] (.tup [.agg (qgP d).1.row,.int .i64 (qgP d).2]):=by
 refine CV.of_frz (qt3 d h) ?_ (hca:=by simp[DK.row]) (hcv:=by simp[PO.row,DK.row,qb3]);rintro r L' (⟨h1,rfl,rfl⟩ | ⟨rfl,rfl⟩)
 ·refine⟨by simp,by simp,by simp,?_⟩;rw[h1];simp only[qa7];exact qdl (.cons qkM (.cons (qaE _) .nil))
 ·generalize qgP d=R;refine⟨by simp[qcG],by simp[qcG],fun x hx=>?_,?_⟩
  ·simp only[qcG,qHq,qHz,or_false]at hx;rcases hx with rfl | rfl | rfl | rfl | rfl | rfl | rfl
   ·exact qaO _
   ·exact qaO _
   ·exact qcU _
   ·exact qa5 _
   ·exact qbK _
   ·exact qbq _
   ·exact qaP _
  ·simp[qa7,qcG,qgS,qas,qcE,kcs,qaN,kpt,kin,qal,PO.row,DK.row,CO.row]
def qkT (d:DK) (l:List PT):Bool:=l.all fun p=>decide ((qag d p).2=0)
def vdB (d:DK):Bool:=decide ((rrB d).2=0) && (qkT d (qsU (rrB d).1 (rbB d).2) && decide ((qgP d).2=0))
theorem qxd {d:DK} (h:(rrB d).2=0):0<(rbB d).1:=by
 unfold rrB at h;split at h
 ·rename_i q;exact q.2
 ·simp at h
theorem qpm {c:CO} (h:qak c=true) (root:PT):(qsU c root).length≤100:=by
 obtain⟨hm,k1,k2,k3,_⟩:=qbn h;simp only[qsU,qGk,qHe,qG4];omega
theorem qqY (d:DK) (h:DkT d):CV prog 8 [.agg d.row] (.bool (vdB d)):=by
 obtain⟨R,hR⟩:∃ R,vdB d=R:=⟨_,rfl⟩;rw[hR];unfold vdB at hR;have c1:=qvd d h;have c2:=qgL d h;have c5:=qtv d h;have hb:=@qxd d;have hT:=@qgO d;simp only[DK.row,PT.row]at c1 c2 c5;refine cvx func8 [(9,[zJ 0 [1] [],zJ 1 [] [1],zJ 2 [] [1],zJ 3 [] [1],zJ 4 [] [1],zI 5,zI 6,zI 7,zI 8,zI 9,zI 10])] ntmps8 rfl rfl rfl ?_ (hca:=by simp[DK.row]);simp[DK.row];refine c1.call ?_;simp[PT.row];refine c2.call ?_;by_cases q:(rrB d).2=0;rotate_left
 ·rw[decide_eq_false q]at hR;subst hR;by_cases q2:0<(rbB d).1
  ·simp[q,q2]
  ·simp[q,q2]
 have hb:=hb q;have hT:=hT q;rw[decide_eq_true q]at hR;have c3:=qDy (rrB d).1 hT.t (qbn hT.c).1 (rbB d).2;have hl:=qpm hT.c (rbB d).2;simp only[PT.row]at c3;generalize qsU (rrB d).1 (rbB d).2=ls at *
 obtain⟨Z,hZ⟩:∃ Z,decide ((qgP d).2=0)=Z:=⟨_,rfl⟩;rw[hZ]at hR;have c4:=fun p=>qd9 d h p;simp only[DK.row,PT.row]at c4;simp only[qIe]at hR;simp[q,hb];refine c3.call ?_;simp;refine qaM (X:=Nat) [1,2,8,9] [(1,1)] (fun i=>[(9,.int .i64 i)]) (fun i=>[(1,⟨3,[d.row]⟩)]) (fun i=>ls.length-i) (fun i=>i≤ls.length∧(qkT d (ls.drop i) && Z)=R) 0 ⟨by simp,by simpa using hR⟩ ?_ (he:=by simp[qah,DK.row]);rintro i ⟨hi,hF⟩;cases hr:ls.drop i with
 | nil =>
  have:=qaY hr;have hie:i=ls.length:=by omega
  subst hie;rw[hr]at hF;simp only[qkT,qIH,qIe]at hF;simp[DK.row];refine c5.call ?_;simp[← hF,← hZ];exact⟨⟨by simp[PO.row,DK.row,CO.row],by simp[PO.row,DK.row,CO.row]⟩,by rw[qIj];simp⟩
 | cons p r =>
  obtain⟨g1,e0,e1,g3⟩:=qaZ hr;have e2:=qap ((i:Int)+1) (by omega) (by omega);have c4:=c4 p;rw[hr]at hF;simp only[qkT,qHm]at hF;generalize qag d p=B at *
  obtain⟨bt,bc⟩:=B;simp only at c4 hF;simp[DK.row,PT.row,g1,e0,e1,show(i:Int)<ls.length by omega];refine c4.call ?_;by_cases hb0:bc=0
  ·rw[decide_eq_true hb0]at hF;simp[hb0];exact nx (i+1) [(1,1)] ⟨by omega,by simp only[g3,qkT];simpa using hF⟩ (by omega) (h4:=by simp[qah,e2,DK.row])
  ·rw[decide_eq_false hb0]at hF;simp[hb0,← hF]
theorem qr3 (d:DK) (h:DkT d):CV prog 10 [.agg d.row] (.bool (vdB d)):=by
 obtain⟨R,hR⟩:∃ R,vdB d=R:=⟨_,rfl⟩;rw[hR];unfold vdB at hR;have c2:=qgY d h;have c5:=qt4 d h;have c3:=qxQ d h;have hT:=@qgO d;simp only[DK.row,PT.row]at c2 c3 c5;refine cvx func10 [] ntmps10 rfl rfl rfl ?_ (hca:=by simp[DK.row]);simp[DK.row];refine c2.call ?_;by_cases q:(rrB d).2=0;rotate_left
 ·rw[decide_eq_false q]at hR;subst hR;simp[q]
 have c3:=c3 q;have hT:=hT q;rw[decide_eq_true q]at hR;have hl:=qpm hT.c (rbB d).2;generalize qsU (rrB d).1 (rbB d).2=ls at *
 obtain⟨Z,hZ⟩:∃ Z,decide ((qgP d).2=0)=Z:=⟨_,rfl⟩;rw[hZ]at hR;have c4:=fun p=>qef d h p;simp only[DK.row,PT.row]at c4;simp only[qIe]at hR;simp[q];refine c3.call ?_;simp;refine qaM (X:=Nat) [1,2,19,20,21] [(1,1)] (fun i=>[(21,.int .i64 i)]) (fun i=>[(1,⟨3,[d.row]⟩)]) (fun i=>ls.length-i) (fun i=>i≤ls.length∧(qkT d (ls.drop i) && Z)=R) 0 ⟨by simp,by simpa using hR⟩ ?_ (he:=by simp[qah,DK.row]);rintro i ⟨hi,hF⟩;cases hr:ls.drop i with
 | nil =>
  have:=qaY hr;have hie:i=ls.length:=by omega
  subst hie;rw[hr]at hF;simp only[qkT,qIH,qIe]at hF;simp[DK.row];refine c5.call ?_;simp[← hF,← hZ];exact⟨⟨by simp[PO.row,DK.row,CO.row],by simp[PO.row,DK.row,CO.row]⟩,by rw[qIj];simp⟩
 | cons p r =>
  obtain⟨g1,e0,e1,g3⟩:=qaZ hr;have e2:=qap ((i:Int)+1) (by omega) (by omega);have c4:=c4 p;rw[hr]at hF;simp only[qkT,qHm]at hF;generalize qag d p=B at *
  obtain⟨bt,bc⟩:=B;simp only at c4 hF;simp[DK.row,PT.row,g1,e0,e1,show(i:Int)<ls.length by omega];refine c4.call ?_;by_cases hb0:bc=0
  ·rw[decide_eq_true hb0]at hF;simp[hb0];exact nx (i+1) [(1,1)] ⟨by omega,by simp only[g3,qkT];simpa using hF⟩ (by omega) (h4:=by simp[qah,e2,DK.row])
  ·rw[decide_eq_false hb0]at hF;simp[hb0,← hF]
theorem qEd (xs bs:List CS) (hl:xs.length≤1048576) (hl2:bs.length≤1048576) (hA:∀ b∈xs,b.map.length=8) (hB:∀ b∈bs,b.map.length=8):CV prog 145 [.lst 31 (xs.map CS.row),.lst 31 (bs.map CS.row)] (.bool (decide (xs=bs))):=by
 refine cvx func145 [] ntmps145 rfl rfl rfl ?_ (hca:=by simp[qa1]);by_cases h0:xs.length=bs.length
 ·simp[h0];refine qaM (X:=Nat) [0,1,12,13] [] (fun i=>[(13,.int .i64 i)]) (fun i=>[]) (fun i=>bs.length-i) (fun i=>i≤bs.length∧xs.take i=bs.take i) 0 (by simp) ?_ (he:=by simp[qah]);rintro i ⟨hi,ha⟩;by_cases h1:i<bs.length
  ·obtain⟨s,e1⟩:∃ s,bs[i]?=some s:=⟨_,qF3 h1⟩;have h1':i<xs.length:=by omega
   obtain⟨t,f1⟩:∃ t,xs[i]?=some t:=⟨_,qF3 h1'⟩;have e0:bs[i]=s:=(qGy.1 e1).2;have f0:xs[i]=t:=(qGy.1 f1).2;have e2:=qap ((i:Int)+1) (by omega) (by omega);have hs8:=hB s (qHT e1);have ht8:=hA t (qHT f1);by_cases hq:t=s
   ·have hn:=qdp ha f1 e1 hq;subst hq;simp[h1,h1',e0,e1,f0,f1,qaC t ht8,qbl t ht8,qi8,qeR t ht8,qfd t t ht8 ht8];exact nx (i+1) [] ⟨by omega,hn⟩ (by omega) (h4:=by simp[qah,e2])
   ·have hn:=qkH f1 e1 hq;simp[h1,h1',e0,e1,f0,f1,hn,qaC s hs8,qbl s hs8,qaC t ht8,qbl t ht8,qi8,qeR s hs8,qeR t ht8,qfd t s ht8 hs8];intros
    first
     | exact absurd (by assumption) hq
     | exact absurd (by cases t;cases s;simp_all) hq
  ·have hie:i=bs.length:=by omega
   subst hie;rw[qHW,qGh (by omega)]at ha;subst ha;simp
 ·have hn:¬ xs=bs:=fun e=>h0 (by rw[e]);simp[h0,show ¬ (xs.length:Int)=bs.length by omega,hn]
theorem qpO (a b:CO) (ha:CoT a) (hb:CoT b):CV prog 66 [.agg a.row,.agg b.row] (.bool (decide (a=b))):=by
 have a1:=ha.sets;have a2:=ha.ddt;have a3:=ha.parts;have c1:=qEd a.sets b.sets (by omega) hb.sets ha.m8 hb.m8;have c2:=qBp a.ddt b.ddt (by omega) hb.ddt;have c3:=qBo a.parts b.parts (by omega) hb.parts;have c4:=qvs a.safe b.safe ha.safe hb.safe;obtain⟨R,hR⟩:∃ R,decide (a=b)=R:=⟨_,rfl⟩;rw[hR];have hno:∀ p:Prop,(a=b→p)→¬ p→R=false:=fun p h hn=>by
  rw[← hR,decide_eq_false_iff_not];exact fun e=>hn (h e)
 refine cvx func66 [] ntmps66 rfl rfl rfl ?_ (hca:=by simp[qb3]);by_cases q1:a.txg=b.txg;rotate_left
 ·rw[hno _ (fun e=>by rw[e]) q1];simp[CO.row,q1]
 simp[CO.row,q1];refine c1.call ?_;by_cases q4:a.sets=b.sets;rotate_left
 ·rw[hno _ (fun e=>by rw[e]) q4];simp[q4]
 simp[q4];refine c2.call ?_;by_cases q5:a.ddt=b.ddt;rotate_left
 ·rw[hno _ (fun e=>by rw[e]) q5];simp[q5]
 simp[q5];refine c3.call ?_;by_cases q6:a.parts=b.parts;rotate_left
 ·rw[hno _ (fun e=>by rw[e]) q6];simp[q6]
 simp[q6];by_cases q2:a.dirty=b.dirty;rotate_left
 ·rw[hno _ (fun e=>by rw[e]) q2];simp[q2]
 simp[q2];refine c4.call ?_;by_cases q7:a.safe=b.safe;rotate_left
 ·rw[hno _ (fun e=>by rw[e]) q7];simp[q7]
 by_cases q3:a.logn=b.logn;rotate_left
 ·rw[hno _ (fun e=>by rw[e]) q3];simp[q7,q3]
 have he:a=b:=by
  cases a;cases b
  simp_all
 rw[← hR,he];simp
def vpB (p:PO):Bool:=qcZ p && (vdB p.d && if p.up=true then vwB p && decide (qcu p.c≤(qaV p.c p.d.s0.length).length) else decide (p.c=zK) && decide (p.d.late.length=0))
theorem qqX (p:PO) (hd:DkT p.d) (hc:CoT p.c):CV prog 25 [.agg p.row] (.bool (vpB p)):=by
 obtain⟨R,hR⟩:∃ R,vpB p=R:=⟨_,rfl⟩;rw[hR];unfold vpB at hR;have l0:=hd.l0;have c1:=qoa p hd hc;have c2:=qqY p.d hd;have c3:=qtu p hd hc;have c4:=qq7 p.c hc p.d.s0.length (by omega);have c6:=qjE p.c zK hc qEQ;obtain⟨ck,hck⟩:∃ ck,decide (p.c=zK)=ck:=⟨_,rfl⟩;rw[hck]at c6 hR;generalize vdB p.d=vd at *
 generalize vwB p=vw at *
 simp only[PO.row,DK.row,CO.row,qHS,qGC,zK,qHF]at c1 c2 c3 c4 c6;refine cvx func25 [(5,[zJ 0 [1] [],zI 1,zI 2,zI 3,zJ 4 [1] [],zJ 5 [] [1],zJ 8 [] [1],zJ 9 [1] [1],zJ 6 [] [1],zJ 7 [] [1],zI 10,zI 11,zI 12,zI 13])] ntmps25 rfl rfl rfl ?_ (hca:=by simp[PO.row,DK.row,qb3]);simp[PO.row,DK.row,CO.row];refine c1.call ?_;cases q1:qcZ p with
 | false =>
  rw[q1]at hR;subst hR;simp
 | true =>
  rw[q1]at hR;have hok:=q1;simp only[qcZ,Bool.and_eq_true,decide_eq_true_eq]at hok;have c5:=qq3 p.c hc (qbn hok.2).1;simp only[CO.row]at c5;simp;refine c2.call ?_;cases vd with
  | false =>
   subst hR;simp
  | true =>
   cases q2:p.up with
   | true =>
    rw[q2]at hR c3;simp only[qIe,if_true]at hR;simp[q2];refine c3.call ?_;cases vw with
    | false =>
     subst hR;simp
    | true =>
     simp only[qIe]at hR;subst hR;simp;refine c4.call ?_;simp;refine c5.call ?_;simp
   | false =>
    rw[q2]at hR;simp only[qIe]at hR;simp[q2];refine c6.view (by simp[qb5,mtA]) ?_;rw[← hR];cases ck with
    | false=>simp
    | true =>
     simp;rw[qIj];simp
theorem qBm (c:CO) (h:CoT c) (hc:qak c=true) (n:Int) (hn:n≤1000):CV prog 68 [.agg c.row,.int .i64 n] (.lst 1 ((qaV c n).map qad)):=by
 refine CV.of_frz (qoT c h hc n hn) ?_ (hca:=by simp[qb3]) (hcv:=by simp[qad]);rintro r L' ⟨rfl,rfl⟩;refine⟨by simp,by simp,fun x hx=>by simp only[qIx]at hx;subst hx;exact qaP _,?_⟩;simp[qa7,kin,qal]
theorem qr2 (p:PO) (hd:DkT p.d) (hc:CoT p.c):CV prog 27 [.agg p.row] (.bool (vpB p)):=by
 obtain⟨R,hR⟩:∃ R,vpB p=R:=⟨_,rfl⟩;rw[hR];unfold vpB at hR;have c1:=qoS p hd hc;have c2:=qr3 p.d hd;have c3:=qt2 p hd hc;have c6:=qpO p.c zK hc qEQ;obtain⟨ck,hck⟩:∃ ck,decide (p.c=zK)=ck:=⟨_,rfl⟩;rw[hck]at c6 hR;generalize vdB p.d=vd at *
 generalize vwB p=vw at *
 simp only[PO.row,DK.row,CO.row,qHS,qGC,zK,qHF]at c1 c2 c3 c6;refine cvx func27 [(5,[zJ 0 [1] [],zI 1,zI 2,zI 3,zJ 4 [1] [],zJ 5 [] [1],zJ 6 [] [1],zJ 7 [] [1],zJ 8 [1] [1],zJ 9 [] [1],zJ 12 [] [1],zJ 13 [1] [1],zJ 10 [] [1],zJ 11 [] [1],zI 14,zI 15,zI 16,zI 17])] ntmps27 rfl rfl rfl ?_ (hca:=by simp[PO.row,DK.row,qb3]);simp[PO.row,DK.row,CO.row];refine c1.call ?_;cases q1:qcZ p with
 | false =>
  rw[q1]at hR;subst hR;simp
 | true =>
  rw[q1]at hR;have hok:=q1;simp only[qcZ,Bool.and_eq_true,decide_eq_true_eq]at hok;obtain⟨l0,_⟩:=qbM hok.1.1;have c4:=qBm p.c hc hok.2 p.d.s0.length (by omega);have c5:=qsb p.c hc hok.2;simp only[CO.row]at c4 c5;simp;refine c2.call ?_;cases vd with
  | false =>
   subst hR;simp
  | true =>
   cases q2:p.up with
   | true =>
    rw[q2]at hR c3;simp only[qIe,if_true]at hR;simp[q2];refine c3.call ?_;cases vw with
    | false =>
     subst hR;simp
    | true =>
     simp only[qIe]at hR;subst hR;simp;refine c4.call ?_;simp;refine c5.call ?_;simp
   | false =>
    rw[q2]at hR;simp only[qIe]at hR;simp[q2];refine c6.view (by simp[qb5,mtA]) ?_;rw[← hR];cases ck with
    | false=>simp
    | true =>
     simp;rw[qIj];simp
theorem lawVowPool (p:PO) (hd:DkG p.d) (hc:CoG p.c):CV prog 6 [.agg p.row] (.bool true):=by
 have c0:=qwt p hd hc;simp only[PO.row,DK.row,CO.row,qHS,qGC]at c0;refine cvx func6 [(10,[zJ 0 [5] [],zJ 1 [1] [5],zJ 2 [] [5],zI 3,zI 4])] ntmps6 rfl rfl rfl ?_ (hca:=by simp[PO.row,DK.row,qb3]);simp[PO.row,DK.row,CO.row];refine qdU (by kernel_rfl) c0 (by simp[qa1,DE.row,PT.row,qad,qai,LT.row]) ?_;rintro r ⟨z,rfl,z1,z2,z3⟩;by_cases hz:z<0
 ·simp[hz]
 obtain⟨zd,zc⟩:=z3 (by omega);have hdT:=qBK zd;have hcT:=qyu hc zc;simp[hz];have c1:=qDe p hdT hcT;have c3:=qqX p hdT hcT;have c4:=qr2 p hdT hcT;have c8:=qEr p hdT hcT;generalize vpB p=b at *
 simp only[PO.row,DK.row,CO.row,qHS,qGC]at c1 c3 c4 c8;refine c1.call ?_;simp;refine c3.call ?_;simp;refine c1.call ?_;simp;refine c4.call ?_;simp;refine c1.call ?_;simp;refine c8.call ?_;simp
theorem qxG (p:PO) (hp:PoG p):CV prog 6 [.agg p.row] (.bool true):=lawVowPool p hp.d hp.c
end Go.Av.F
end
