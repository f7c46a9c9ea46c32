/- Lemmas for the proof, no statement of the seat; no conditions. -/
import Derived.Test.YthiidgicibfbjaaGreatDoorLayAO
set_option linter.unusedSimpArgs false
set_option linter.unusedVariables false
set_option linter.unnecessarySimpa false
set_option maxRecDepth 100000
set_option maxHeartbeats 400000
section
namespace Go.Av.F
open Go Go.Av Go.Proofs Go.Proofs.Tryz
attribute [simp] CO.row
def csB (s:CS):BS:=⟨s.name,s.kind,s.frm,List.replicate 8 []⟩
@[simp] theorem qb3 (l:List CS):clL [.lst 31 (l.map CS.row)]=true:=by simp
@[simp] theorem qDG (ρ:Nat→Option Plc) {α:Type} (g:α→BS):qb6 ρ ∘ BS.row ∘ g=BS.row ∘ g:=by
 funext x;exact renL_closed.renL_closedL ρ _ (qoc _)
theorem qvV (x:CS):BS.row (csB x)=[.str x.name,.int .i64 x.kind,.str x.frm,.str [],.str [],.str [],.str [],.str [],.str [],.str [],.str []]:=rfl
def nmR (n:Nat) (l:List CS) (r:AV) (L':List (Nat×Ob)):Prop:=r=.agg [.sl 900 0 l.length]∧L'=[(900,qba (l.map csB))]
theorem qkr (c:CO) (hl:c.sets.length≤1048576) (h8:∀ s∈c.sets,s.map.length=8):ACall prog 101 [.agg c.row] [] (nmR 900 c.sets):=by
 refine acx func101 [(5,[zI 0,zJ 1 [3] [],zJ 2 [] [3],zJ 3 [1] [3],zJ 4 [] [3,1],zJ 5 [] [3],zJ 6 [] [3],zJ 7 [] [3],zJ 8 [] [3,1],zJ 9 [1] [3,1],zJ 10 [] [3,1],zJ 11 [] [3,1],zJ 12 [] [3,1],zJ 13 [] [3,1],zJ 14 [] [3,1],zJ 15 [1] [3,1],zJ 16 [] [3,1],zJ 17 [] [3,1],zJ 18 [] [3,1],zJ 19 [] [3,1],zJ 20 [] [3],zJ 21 [] [3],zI 22,zI 23,zI 24])] ntmps101 rfl rfl rfl ?_;simp;refine qe8 ((qeP 900 11 (by simp)).trans (qdw 3 0 rfl (by simp) (qcK 900 0))) ?_;refine qaM (X:=Nat) [1,2,3,4] [(1,1),(2,2),(3,3),(900,900)] (fun i=>[(4,.int .i64 i)]) (fun i=>[(1,⟨7,[c.row]⟩),(2,⟨1,[[.nils]]⟩),(3,⟨1,[[.sl 900 0 i]]⟩),(900,⟨11,((c.sets.take i).map csB).map BS.row⟩)]) (fun i=>c.sets.length-i) (fun i=>i≤c.sets.length) 0 (by simp) ?_;intro i hi;by_cases h1:i<c.sets.length
 ·obtain⟨x,e0⟩:∃ x,c.sets[i]=x:=⟨_,rfl⟩;have e1:c.sets[i]?=some x:=by rw[← e0];exact qF3 h1
  have hrl:=qaC x (h8 x (qHT e1));have e2:=qap ((i:Int)+1) (by omega) (by omega);simp[h1,e0,e1,hrl,e2];exact⟨by omega,nx (i+1) [(1,1),(2,2),(3,3),(35,900)] (by omega) (h4:=by simp[tk1 _ e1,qvV,qHj])⟩
 ·have:i=c.sets.length:=by omega
  subst this;simp;exact⟨[(900,qba (c.sets.map csB))],by simp[qba],rfl,rfl⟩
theorem qoU (c:CO) (hl:c.sets.length≤1048576) (h8:∀ s∈c.sets,s.map.length=8):ACall prog 108 [.agg c.row] [] (nmR 900 c.sets):=by
 refine acx func108 [] ntmps108 rfl rfl rfl ?_;simp;refine qe8 ((qeP 900 11 (by simp)).trans (qdw 3 0 rfl (by simp) (qcK 900 0))) ?_;refine qaM (X:=Nat) [2,3,7,8,9] [(2,2),(3,3),(900,900)] (fun i=>[(9,.int .i64 i)]) (fun i=>[(2,⟨1,[[.nils]]⟩),(3,⟨1,[[.sl 900 0 i]]⟩),(900,⟨11,((c.sets.take i).map csB).map BS.row⟩)]) (fun i=>c.sets.length-i) (fun i=>i≤c.sets.length) 0 (by simp) ?_;intro i hi;by_cases h1:i<c.sets.length
 ·obtain⟨x,e0⟩:∃ x,c.sets[i]=x:=⟨_,rfl⟩;have e1:c.sets[i]?=some x:=by rw[← e0];exact qF3 h1
  have hrl:=qaC x (h8 x (qHT e1));have e2:=qap ((i:Int)+1) (by omega) (by omega);have ht:List.take 31 x.row=x.row:=qGh (by omega);simp[h1,e0,e1,hrl,e2,ht];exact⟨qiL x,by omega,nx (i+1) [(2,2),(3,3),(23,900)] (by omega) (h4:=by simp[tk1 _ e1,qvV,qHj])⟩
 ·have:i=c.sets.length:=by omega
  subst this;simp;exact⟨[(900,qba (c.sets.map csB))],by simp[qba],rfl,rfl⟩
theorem qAO {f:Nat} {c:CO} (h:ACall prog f [.agg c.row] [] (nmR 900 c.sets)) (he:qb1 prog f=true:=by kernel_rfl):CV prog f [.agg c.row] (bk (c.sets.map csB)):=by
 refine CV.of_frz h (fun r L' hR=>?_) he (by simp) (by simp[bk]);obtain⟨rfl,rfl⟩:=hR;refine⟨by simp,by simp,by simp,?_⟩;simp[qa7,qba,bk,qGh];exact qaE _
theorem qm9 (c:CO) (hl:c.sets.length≤1048576) (h8:∀ s∈c.sets,s.map.length=8):CV prog 101 [.agg c.row] (bk (c.sets.map csB)):=qAO (qkr c hl h8)
theorem qBu (c:CO) (hl:c.sets.length≤1048576) (h8:∀ s∈c.sets,s.map.length=8):CV prog 108 [.agg c.row] (bk (c.sets.map csB)):=qAO (qoU c hl h8)
abbrev ddP (l:List DE) (a:Int):Nat:=bsK (fun e=>e.ea-a) l
abbrev ddT (l:List DE) (a:Int):Bool:=bsT (fun e=>e.ea-a) l
theorem quL {α:Type} (c:α→Int) (x:α) (r:List α):bsK c (x::r)=if c x<0 then bsK c r+1 else 0:=by
 simp only[bsK,qIr];split <;> simp_all
theorem qtU (l:List DE) (a:Int) (hl:l.length≤1048576):CV prog 139 [.lst 3 (l.map DE.row),.int .i64 a] (.tup [.int .i64 (ddP l a),.bool (ddT l a)]):=by
 obtain⟨K,hK⟩:∃ K,ddP l a=K:=⟨_,rfl⟩;refine cvx func139 [] ntmps139 rfl rfl rfl ?_;simp;refine qbe (X:=Nat) [0,1,6] [] (fun i=>[(6,.int .i64 i)]) (fun _=>[]) (fun i=>l.length-i) (fun i=>i≤l.length∧i+ddP (l.drop i) a=K) 0 (by simp[hK]) ?_;rintro i ⟨hi,hd⟩;cases hr:l.drop i with
 | nil =>
  have:=qaY hr;rw[hr]at hd;have hie:i=l.length:=by omega
  have hk:K=l.length:=by simp[bsK]at hd;omega
  simp[hie,hK,hk,ddT,bsT]
 | cons x r =>
  obtain⟨h1,e0,e1,h3⟩:=qaZ hr;rw[hr]at hd;simp only[ddP,quL]at hd;have e2:=qap ((i:Int)+1) (by omega) (by omega);simp[h1,e0,e1,e2];by_cases hx:x.ea<a
  ·have hx':¬ a≤x.ea:=by omega
   rw[if_pos (by omega)]at hd;simp[hx,hx'];exact nx (i+1) [] ⟨by omega,by simp only[ddP,h3];omega⟩
  ·have hx':a≤x.ea:=by omega
   rw[if_neg (by omega)]at hd;have hik:K=i:=by omega
   subst hik;simp[hx,hx',h1,e0,e1,hK,bsT];rw[qIj];simp;omega
def qaF (l:List CS):List PT:=l.flatMap CS.map
theorem qck {q:Int}:∀ {l:List DE},qgv q l=true→(∀ e∈l,q<e.ea∧qcb e=true)∧∀ (i j:Nat) (a b:DE),i<j→l[i]?=some a→l[j]?=some b→a.ea<b.ea
 | [],_=>by simp
 | x::r,h=>by
  simp only[qgv,Bool.and_eq_true,decide_eq_true_eq]at h;obtain⟨h1,h2⟩:=qck (q:=x.ea) (l:=r) h.2;refine⟨fun e he=>?_,fun i j a b hij ha hb=>?_⟩
  ·rcases qHq.1 he with rfl | he
   ·exact⟨h.1.2,h.1.1⟩
   ·exact⟨by have:=(h1 e he).1;omega,(h1 e he).2⟩
  ·cases j with
   | zero=>omega
   | succ j =>
    have hb':r[j]?=some b:=by simpa using hb
    cases i with
    | zero =>
     simp at ha;subst ha;exact(h1 b (qHT hb')).1
    | succ i=>exact h2 i j a b (by omega) (by simpa using ha) hb'
theorem qDD:RowT DE.row 43 110 3:=⟨qwi,⟨_,_,_,qm3⟩,by simp⟩
theorem qxn (x:DE) (a:Int) (ha:0≤a∧a≤1000) (hx:0≤x.ea∧x.ea≤1000):CV prog 302 [.agg x.row,.int .i64 a] (.int .i64 (x.ea-a)):=by
 have e:=qap (x.ea-a) (by omega) (by omega);refine cvx func302 [] ntmps302 rfl rfl rfl ?_;simp[e]
theorem qgw (l:List DE) (a:Int) (h:qam l=true) (ha:0≤a∧a≤1000):CV prog 239 [.lst 3 (l.map DE.row),.int .i64 a] (.tup [.int .i64 (ddP l a),.bool (ddT l a)]):=by
 simp only[qam,Bool.and_eq_true,decide_eq_true_eq]at h;obtain⟨h1,h2⟩:=qck h.2;have key:CV prog 301 [.lst 3 (l.map DE.row),.int .i64 a,.fn 302 []] (.tup [.int .i64 (ddP l a),.bool (ddT l a)]):=by
  refine cvx func301 [] ntmps301 rfl rfl rfl ?_;refine qB3 qDD qpp (fun e=>e.ea-a) l (by omega) (by simp) (fun i j x y hij hx hy hc=>by have:=h2 i j x y hij hx hy;simp only at hc ⊢;omega) (by simp) fun x hx=>qxn x a ha ?_;have:=(h1 x hx).2;simp[qcb]at this;omega
 refine cvx func239 [] ntmps239 rfl rfl rfl ?_;simp;refine key.call ?_;simp
theorem qyn (s:CS) {i k:Nat} {p:PT} (h:s.map[i]?=some p) (hk:k<3):s.row[3+i * 3+k]?=p.row[k]?:=by
 have h1:=qjc s h;have:(List.take 3 (List.drop (3+i * 3) s.row))[k]?=s.row[3+i * 3+k]?:=by
  rw[qFV,if_pos hk,qGr]
 rw[← this,h1]
theorem qyo (s:CS) {i:Nat} {p:PT} (h:s.map[i]?=some p):s.row[3+i * 3]?=some (.int .i64 p.pa):=qyn s h (k:=0) (by omega)
theorem qvO (s:CS) {i:Nat} {p:PT} (h:s.map[i]?=some p) (hk:3+i * 3<s.row.length):s.row[3+i * 3]=.int .i64 p.pa:=by
 have:=qyo s h;rw[qF3 hk]at this;exact qIt this
def ptN (a:Int) (l:List PT):Nat:=l.countP fun p=>decide (p.pa=a)
def qeK (a:Int) (l:List CS):Nat:=if 0<a then ptN a (qaF l) else 0
theorem qpA (a:Int) (x:CS) (r:List CS):qeK a (x::r)=(if 0<a then ptN a x.map else 0)+qeK a r:=by
 simp[qeK,ptN,qaF];split <;> omega
theorem qos (a:Int) (p:PT) (r:List PT):ptN a (p::r)=(if p.pa=a then 1 else 0)+ptN a r:=by
 simp[ptN,qIk];omega
theorem qvi (a:Int) (l:List PT):ptN a l≤l.length:=qIl
theorem qkz:∀ (l:List CS),(∀ s∈l,s.map.length=8)→(qaF l).length=8 * l.length
 | [],_=>rfl
 | x::r,h=>by
  have:=qkz r fun s hs=>h s (qHl _ hs);have h8:=h x (by simp);simp[qaF]at this ⊢;omega
theorem qtD (a:Int) (l:List CS) (h:∀ s∈l,s.map.length=8):qeK a l≤8 * l.length:=by
 have:=qvi a (qaF l);have:=qkz l h;unfold qeK;split <;> omega
theorem qDI (c:CO) (a:Int) (hl:c.sets.length≤1048576) (h8:∀ s∈c.sets,s.map.length=8):CV prog 250 [.agg c.row,.int .i64 a] (.int .i64 (qeK a c.sets)):=by
 obtain⟨R,hR⟩:∃ R,qeK a c.sets=R:=⟨_,rfl⟩;have hRl:=qtD a c.sets h8;rw[hR]at hRl ⊢;refine cvx func250 [] ntmps250 rfl rfl rfl ?_;simp;refine qbe (X:=Nat×Nat) [1,2,5,6] [(2,2)] (fun x=>[(6,.int .i64 x.1),(5,.int .i64 x.2)]) (fun _=>[]) (fun x=>c.sets.length-x.1) (fun x=>x.1≤c.sets.length∧x.2+qeK a (c.sets.drop x.1)=R) (0,0) (by simp[hR]) ?_;rintro⟨i,n⟩ ⟨hi,hd⟩;simp only at hi hd;cases hr:c.sets.drop i with
 | nil =>
  have:=qaY hr;rw[hr]at hd;have hie:i=c.sets.length:=by omega
  simp[qeK,qaF,ptN]at hd;simp[hie,hd]
 | cons x r =>
  obtain⟨h1,e0,e1,h3⟩:=qaZ hr;have hx8:=h8 x (qHT e1);have hrl:=qaC x hx8;rw[hr,qpA]at hd;have e2:=qap ((i:Int)+1) (by omega) (by omega);simp[h1];refine qbe (X:=Nat×Nat) [1,2,5,6,7] [(2,2)] (fun y=>[(7,.int .i64 y.1),(5,.int .i64 y.2)]) (fun _=>[]) (fun y=>8-y.1) (fun y=>y.1≤8∧y.2+(if 0<a then ptN a (x.map.drop y.1) else 0)+qeK a r=R) (0,n) (by simp;omega) ?_
  rintro⟨j,m⟩ ⟨hj,hm⟩;simp only at hj hm;by_cases h2:j<8
  ·obtain⟨p,f1⟩:∃ p,x.map[j]?=some p:=⟨_,qF3 (by omega)⟩;rw[qfI f1,qos]at hm;have e3:=qap ((j:Int)+1) (by omega) (by omega);have e4:=qap ((m:Int)+1) (by omega) (by omega);have h2':(j:Int)<8:=by omega
   have h2'':3+j * 3<31:=by omega
   simp[h1,e0,e1,h2',hrl,qyo x f1,qvO x f1,h2''];refine⟨by omega,?_⟩
   repeat' first
    | with_reducible intro _
    | with_reducible refine And.intro ?_ ?_
   all_goals first
    | exact nx (j+1,m+1) [(2,2)] (by simp only;grind) (h4:=by simp[e3,e4])
    | exact nx (j+1,m) [(2,2)] (by simp only;grind) (h4:=by simp[e3,e4])
  ·have:j=8:=by omega
   subst this;simp[e2];simp[ptN,← hx8]at hm;exact nx (i+1,m) [(2,2)] ⟨by simp only;omega,by simp only[h3];exact hm⟩
def nnN (l:List PT):Nat:=l.countP fun p=>decide (0<p.pa)
theorem qoC (p:PT) (r:List PT):nnN (p::r)=(if 0<p.pa then 1 else 0)+nnN r:=by simp[nnN,qIk];omega
theorem qAN (l:List PT):nnN l≤l.length:=qIl
def nnS (l:List CS):Nat:=nnN (qaF l)
theorem qtQ (x:CS) (r:List CS):nnS (x::r)=nnN x.map+nnS r:=by simp[nnS,nnN,qaF]
def qcd:List DE→Int
 | []=>0
 | e::r=>e.ec+qcd r
theorem qkh:∀ (l:List DE),(∀ e∈l,1≤e.ec∧e.ec≤1000)→0≤qcd l∧qcd l≤1000 * l.length
 | [],_=>by simp[qcd]
 | e::r,h=>by
  have h1:=h e (by simp);have h2:=qkh r fun x hx=>h x (qHl _ hx);simp only[qcd,qGk];omega
theorem qja {l:List DE} (h:qam l=true):l.length≤48∧∀ e∈l,1≤e.ec∧e.ec≤1000:=by
 simp only[qam,Bool.and_eq_true,decide_eq_true_eq]at h;refine⟨h.1,fun e he=>?_⟩;have:=((qck h.2).1 e he).2;simp[qcb]at this;omega
def qcO (c:CO):Bool:=(c.ddt.all fun e=>decide ((qeK e.ea c.sets:Int)=e.ec)) && decide (qcd c.ddt=(nnS c.sets:Int))
theorem qyq (c:CO) (hl:c.sets.length≤1048576) (h8:∀ s∈c.sets,s.map.length=8) (hd:qam c.ddt=true):CV prog 167 [.agg c.row] (.bool (qcO c)):=by
 obtain⟨hdl,hec⟩:=qja hd;obtain⟨T,hT⟩:∃ T,qcd c.ddt=T:=⟨_,rfl⟩;obtain⟨hT1,hT2⟩:=qkh _ hec;have hnn:=qAN (qaF c.sets);rw[qkz _ h8]at hnn;obtain⟨R,hR⟩:∃ R,qcO c=R:=⟨_,rfl⟩;rw[hR];rw[hT]at hT1 hT2;refine cvx func167 [(5,[zJ 0 [1] [],zJ 1 [] [1],zJ 2 [1] [1],zJ 3 [] [1],zJ 4 [] [1],zJ 5 [] [1],zJ 6 [] [1],zJ 8 [] [1],zJ 9 [1] [1],zJ 10 [] [1],zJ 11 [] [1],zJ 12 [] [1],zJ 13 [] [1],zJ 7 [] [1],zI 14])] ntmps167 rfl rfl rfl ?_;simp;refine qbe (X:=Nat×Int) [1,3,4] [(1,1)] (fun x=>[(4,.int .i64 x.1),(3,.int .i64 x.2)]) (fun _=>[]) (fun x=>c.ddt.length-x.1)
  (fun x=>x.1≤c.ddt.length∧0≤x.2∧x.2+qcd (c.ddt.drop x.1)=T∧(((c.ddt.drop x.1).all fun e=>decide ((qeK e.ea c.sets:Int)=e.ec)) && decide (T=(nnS c.sets:Int)))=R) (0,0) (by simp[hT,← hR,qcO]) ?_
 rintro⟨i,n⟩ ⟨hi,hn0,hs,ha⟩;simp only at hi hn0 hs ha;cases hr:c.ddt.drop i with
 | nil =>
  have:=qaY hr;rw[hr]at hs ha;have hie:i=c.ddt.length:=by omega
  simp[qcd]at hs ha;simp[hie];refine qbe (X:=Nat×Int) [1,3,5] [(1,1)] (fun x=>[(5,.int .i64 x.1),(3,.int .i64 x.2)]) (fun _=>[]) (fun x=>c.sets.length-x.1)
   (fun x=>x.1≤c.sets.length∧x.2-nnS (c.sets.drop x.1)=T-nnS c.sets∧x.2≤T∧-(8 * x.1:Int)≤x.2) (0,n) (by simp;omega) ?_
  rintro⟨j,m⟩ ⟨hj,hm,hm2,hm3⟩;simp only at hj hm hm2 hm3;cases hq:c.sets.drop j with
  | nil =>
   have:=qaY hq;have hje:j=c.sets.length:=by omega
   rw[hq]at hm;simp[nnS,qaF,nnN]at hm ha;simp[hje];rw[← ha];exact decide_eq_decide.2 (by omega)
  | cons x r =>
   obtain⟨h1,e0,e1,h3⟩:=qaZ hq;have hx8:=h8 x (qHT e1);have hrl:=qaC x hx8;rw[hq,qtQ]at hm;have e2:=qap ((j:Int)+1) (by omega) (by omega);simp[h1];refine qbe (X:=Nat×Int) [1,3,5,6] [(1,1)] (fun y=>[(6,.int .i64 y.1),(3,.int .i64 y.2)]) (fun _=>[]) (fun y=>8-y.1) (fun y=>y.1≤8∧y.2-nnN (x.map.drop y.1)-nnS r=T-nnS c.sets∧y.2≤T∧-(8 * j+y.1:Int)≤y.2) (0,m) (by simp;omega) ?_;rintro⟨k,q⟩ ⟨hk,hq1,hq2,hq3⟩;simp only at hk hq1 hq2 hq3;by_cases h2:k<8
   ·obtain⟨p,f1⟩:∃ p,x.map[k]?=some p:=⟨_,qF3 (by omega)⟩;rw[qfI f1,qoC]at hq1;have e3:=qap ((k:Int)+1) (by omega) (by omega);have e4:=qap (q-1) (by omega) (by omega);have h2':(k:Int)<8:=by omega
    have h2'':3+k * 3<31:=by omega
    simp[h1,e0,e1,h2',hrl,qyo x f1,qvO x f1,h2''];refine⟨by omega,?_⟩
    repeat' first
     | with_reducible intro _
     | with_reducible refine And.intro ?_ ?_
    all_goals first
     | exact nx (k+1,q-1) [(1,1)] (by simp only;grind) (h4:=by simp[e3,e4])
     | exact nx (k+1,q) [(1,1)] (by simp only;grind) (h4:=by simp[e3,e4])
   ·have:k=8:=by omega
    subst this;simp[e2];simp[nnN,← hx8]at hq1;exact nx (j+1,q) [(1,1)] ⟨by simp only;omega,by simp only[h3];omega,hq2,by simp only;omega⟩
 | cons x r =>
  obtain⟨h1,e0,e1,h3⟩:=qaZ hr;rw[hr]at hs ha;have hxe:=hec x (qHT e1);obtain⟨hr1,hr2⟩:=qkh r fun e he=>hec e (qIh (i:=i) (by rw[hr];exact qHl _ he));simp only[qcd]at hs;have e2:=qap ((i:Int)+1) (by omega) (by omega);have e3:=qap (n+x.ec) (by omega) (by omega);simp[h1,e0,e1];refine(qDI c x.ea hl h8).call ?_;simp[h1,e0,e1,e2,e3]
  repeat' first
   | with_reducible intro _
   | with_reducible refine And.intro ?_ ?_
  all_goals first
   | exact nx (i+1,n+x.ec) [(1,1)] (by simp only;grind)
   | grind
def qde (l:List DE) (p:PT):Bool:=decide (p.pa≤0) || (ddT l p.pa && (match l[ddP l p.pa]? with
 | some e=>e.es == p.ps
 | none=>false))
def qct (c:CO):Bool:=(qaF c.sets).all (qde c.ddt)
theorem qcN {l:List DE} {a:Int} (h:ddT l a=true):∃ e,l[ddP l a]?=some e∧e.ea=a:=by
 unfold ddT bsT at h;cases hx:l[bsK (fun e=>e.ea-a) l]? with
 | none=>rw[hx]at h;cases h
 | some e=>rw[hx]at h;simp at h;exact⟨e,rfl,by omega⟩
theorem qDs (c:CO) (hl:c.sets.length≤1048576) (hd:c.ddt.length≤48) (h8:∀ s∈c.sets,s.map.length=8):CV prog 168 [.agg c.row] (.bool (qct c)):=by
 obtain⟨R,hR⟩:∃ R,qct c=R:=⟨_,rfl⟩;rw[hR];refine cvx func168 [(9,[zI 0,zJ 1 [5] [],zI 2,zI 3,zI 4,zI 5,zI 6,zI 7,zJ 8 [1] [],zJ 9 [] [1],zI 10,zI 11,zI 12,zJ 13 [] [1],zJ 14 [5] [1],zI 15,zI 16,zI 17])] ntmps168 rfl rfl rfl ?_;simp -implicitDefEqProofs;refine qbe (X:=Nat) [1,3] [(1,1)] (fun i=>[(3,.int .i64 i)]) (fun _=>[]) (fun i=>c.sets.length-i) (fun i=>i≤c.sets.length∧(qaF (c.sets.drop i)).all (qde c.ddt)=R) 0 (by simp[← hR,qct]) ?_;rintro i ⟨hi,ha⟩;cases hr:c.sets.drop i with
 | nil =>
  have:=qaY hr;rw[hr]at ha;have hie:i=c.sets.length:=by omega
  simp[qaF]at ha;simp -implicitDefEqProofs [hie,ha]
 | cons x r =>
  obtain⟨h1,e0,e1,h3⟩:=qaZ hr;have hx8:=h8 x (qHT e1);have hrl:=qaC x hx8;rw[hr]at ha;have ha':(x.map.all (qde c.ddt) && (qaF r).all (qde c.ddt))=R:=by rw[← ha];simp[qaF]
  have e2:=qap ((i:Int)+1) (by omega) (by omega);simp -implicitDefEqProofs [h1];refine qbe (X:=Nat) [1,3,4] [(1,1)] (fun j=>[(4,.int .i64 j)]) (fun _=>[]) (fun j=>8-j) (fun j=>j≤8∧((x.map.drop j).all (qde c.ddt) && (qaF r).all (qde c.ddt))=R) 0 (by simpa using ha') ?_;rintro j ⟨hj,hm⟩;by_cases h2:j<8
  ·obtain⟨p,f1⟩:∃ p,x.map[j]?=some p:=⟨_,qF3 (by omega)⟩;rw[qfI f1]at hm;have e3:=qap ((j:Int)+1) (by omega) (by omega);have h2':(j:Int)<8:=by omega
   have h2'':3+j * 3≤28:=by omega
   simp -implicitDefEqProofs [h1,e0,e1,h2',hrl,qjc x f1,h2''];refine⟨by omega,(qtU c.ddt p.pa (by omega)).call ?_⟩;cases hT:ddT c.ddt p.pa with
   | true =>
    obtain⟨e,he,hea⟩:=qcN hT;obtain⟨hk,hk0⟩:=qGy.1 he;have hps:qde c.ddt p=(decide (p.pa≤0) || (e.es == p.ps)):=by simp[qde,hT,he]
    simp -implicitDefEqProofs [hk,hk0,he]
    repeat' first
     | with_reducible intro _
     | with_reducible refine And.intro ?_ ?_
    all_goals first
     | exact nx (j+1) [(1,1)] (by grind) (h4:=by simp[e3])
     | grind
   | false =>
    have hps:qde c.ddt p=decide (p.pa≤0):=by simp[qde,hT]
    simp -implicitDefEqProofs
    repeat' first
     | with_reducible intro _
     | with_reducible refine And.intro ?_ ?_
    all_goals first
     | exact nx (j+1) [(1,1)] (by grind) (h4:=by simp[e3])
     | grind
  ·have:j=8:=by omega
   subst this;simp -implicitDefEqProofs [e2];simp[← hx8]at hm;exact nx (i+1) [(1,1)] ⟨by omega,by rw[h3];grind⟩
theorem qDB:RowT PT.row 44 67 3:=⟨qzv,⟨_,_,_,qyN⟩,by simp⟩
theorem qAm:RowT CS.row 42 108 31:=⟨qzw,⟨_,_,_,qqA⟩,qa1⟩
theorem qvS (p:PT→Bool) (g:Nat) (l:List PT) (hl:l.length≤9000000) (hg:∀ x∈l,CV prog g [.agg x.row] (.bool (p x))):CV prog 186 [.lst 3 (l.map PT.row),.fn g []] (.bool (l.any p)):=by
 have key:CV prog 265 [.lst 3 (l.map PT.row),.fn g []] (.int .i64 (ixR p 0 l)):=by
  refine cvx func265 [] ntmps265 rfl rfl rfl ?_;exact qA6 qDB p l hl (by simp) hg
 refine cvx func186 [] ntmps186 rfl rfl rfl ?_;simp -implicitDefEqProofs;refine key.call ?_;simp -implicitDefEqProofs [qoK]
theorem qD4 (p:CS→Bool) (g:Nat) (l:List CS) (hl:l.length≤9000000) (h8:∀ s∈l,s.map.length=8) (hg:∀ x∈l,CV prog g [.agg x.row] (.bool (p x))):CV prog 266 [.lst 31 (l.map CS.row),.fn g []] (.int .i64 (ixR p 0 l)):=by
 refine cvx func266 [] ntmps266 rfl rfl rfl ?_;exact qA6 qAm p l hl (fun x hx=>qaC x (h8 x hx)) hg
theorem qBR (p:CS→Bool) (g:Nat) (l:List CS) (hl:l.length≤9000000) (h8:∀ s∈l,s.map.length=8) (hg:∀ x∈l,CV prog g [.agg x.row] (.bool (p x))):CV prog 188 [.lst 31 (l.map CS.row),.fn g []] (.bool (l.any p)):=by
 refine cvx func188 [] ntmps188 rfl rfl rfl ?_;simp -implicitDefEqProofs;refine(qD4 p g l hl h8 hg).call ?_;simp -implicitDefEqProofs [qoK]
theorem qzV (p:PT):CV prog 267 [.agg p.row] (.bool (!qaL p)):=by
 refine cvx func267 [] ntmps267 rfl rfl rfl ?_;simp -implicitDefEqProofs;refine(qiW p).call ?_;simp -implicitDefEqProofs
theorem qxS (s:List UInt8) (hs:s.length≤1048576):CV prog 256 [.str s] (.bool (qbR s)):=qf0 (qiV s (by omega))
theorem qsE (s:CS) (h8:s.map.length=8):qeJ 3 8 (List.drop 3 s.row)=s.map.map PT.row:=by
 obtain⟨n,k,f,m,h,d⟩:=s;simp only at h8
 match m,h8 with
 | [p0,p1,p2,p3,p4,p5,p6,p7],_=>rfl
theorem qBe (s:CS) (h8:s.map.length=8) (hn:s.name.length≤1048576) (hf:s.frm.length≤1048576):CV prog 190 [.agg s.row] (.bool (qbp s)):=by
 obtain⟨R,hR⟩:∃ R,qbp s=R:=⟨_,rfl⟩;have hl:=qaC s h8;have hh:=qc2 s h8;have hany:(s.map.any fun p=>!qaL p)=!(s.map.all qaL):=by rw[qId]
 refine cvx func190 [] ntmps190 rfl rfl rfl ?_ (hca:=by simp[qa1]);simp -implicitDefEqProofs [hl,hh];refine(qxS _ hn).call ?_;simp -implicitDefEqProofs [hl,hh]
 repeat' first
  | (refine(qxS _ hf).call ?_;simp -implicitDefEqProofs [hl,hh])
  | (refine(qiW _).call ?_;simp -implicitDefEqProofs [hl,hh])
  | (refine(qvS (fun p=>!qaL p) _ s.map (by omega) (fun x _=>qzV x)).view (by simp[hl,qsE s h8,qb5,mtA]) ?_;simp -implicitDefEqProofs)
  | with_reducible intro _
  | with_reducible refine And.intro ?_ ?_
 all_goals grind[qbp]
end Go.Av.F
end
