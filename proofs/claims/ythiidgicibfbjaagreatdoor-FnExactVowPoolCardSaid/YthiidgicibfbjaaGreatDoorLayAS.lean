/- Lemmas for the proof, no statement of the seat; no conditions. -/
import Derived.Test.YthiidgicibfbjaaGreatDoorLayAR
set_option linter.unusedSimpArgs false
set_option linter.unusedVariables false
set_option linter.unnecessarySimpa false
set_option maxRecDepth 100000
set_option maxHeartbeats 400000
section
namespace Go.Av.F
open Go Go.Av Go.Proofs Go.Proofs.Tryz
def qcn (e:DE):List UInt8:=dec e.es++(46::(dec e.ea++(46::dec e.ec)))
def qc1:List DE→Bool→List UInt8
 | [],_=>[]
 | e::r,first=>(if first=true then [] else [32])++(qcn e++qc1 r false)
def qco (l:List DE):List UInt8:=if qam l=true then qc1 l true else []
theorem qgu {e:DE} (h:qcb e=true):0≤e.es∧e.es<65521∧1≤e.ea∧e.ea<120∧1≤e.ec∧e.ec≤1000:=by
 simp only[qcb,Bool.and_eq_true,decide_eq_true_eq]at h;omega
theorem qhF {l:List DE} (h:qam l=true):∀ e∈l,qcb e=true:=by
 simp only[qam,Bool.and_eq_true]at h;exact fun e he=>((qck h.2).1 e he).2
theorem qhi {e:DE} (h:qcb e=true):(qcn e).length≤29:=by
 have hb:=qgu h;have h1:=qaz e.es (by omega);have h2:=qaz e.ea (by omega);have h3:=qaz e.ec (by omega);simp[qcn];omega
theorem qiz (l:List DE) (hl:l.length≤1048576):CV prog 233 [.lst 3 (l.map DE.row)] (.str (qco l)):=by
 obtain⟨R,hR⟩:∃ R,qco l=R:=⟨_,rfl⟩;rw[hR];unfold qco at hR;have c1:=qfQ l hl;refine cvx func233 [(7,[zI 0,zI 1,zI 2,zI 3,zI 4,zI 5,zI 9,zI 10,zI 11,zI 12,zI 13,zI 17,zI 18,zI 19,zI 20,zI 21,zI 6,zI 7,zI 8,zI 14,zI 15,zI 16,zI 22,zI 23,zI 24])] ntmps233 rfl rfl rfl ?_ (hca:=by simp[DE.row]);simp;refine qbe (X:=Nat×List UInt8) [0,2,3,4] [] (fun x=>[(3,.str x.2),(4,.int .i64 x.1)]) (fun _=>[]) (fun x=>l.length-x.1) (fun x=>x.1≤l.length∧x.2.length≤30 * x.1∧(if qam l=true then x.2++qc1 (l.drop x.1) (decide (x.1=0)) else [])=R∧(qam l=false→x.2=[])) (0,[]) (by simp[← hR]) ?_
 rintro⟨i,t⟩ ⟨hi,hl2,hd,hz⟩;simp only at hi hl2 hd hz;cases hok:qam l with
 | false =>
  rw[hok]at c1;rw[if_neg (by simp[hok])]at hd;simp;refine c1.call ?_;simp[hz hok,← hd]
 | true =>
  rw[if_pos hok]at hd;rw[hok]at c1;cases hr:l.drop i with
  | nil =>
   have:=qaY hr;rw[hr]at hd;have hie:i=l.length:=by omega
   subst hie;simp only[qc1,qH6]at hd;simp;refine c1.call ?_;simp[hd]
  | cons e q =>
   obtain⟨k1,e0,e1,k3⟩:=qaZ hr;rw[hr]at hd;have hde:=qhF hok e (qHT e1);have hb:=qgu hde;have hli:(i:Int)<l.length:=by omega
   have e2:=qap ((i:Int)+1) (by omega) (by omega);have d1:=qix e.es (by omega) (by omega);have d2:=qix e.ea (by omega) (by omega);have d3:=qix e.ec (by omega) (by omega);have l1:=qaz e.es (by omega);have l2:=qaz e.ea (by omega);have l3:=qaz e.ec (by omega);have htl:=qhi hde;simp;refine c1.call ?_;by_cases h0:i=0
   ·subst h0;simp only[qc1,decide_true,if_true,qGC]at hd;simp[k1,e0,e1,hli,DE.row];refine d1.call ?_;simp;refine⟨by omega,by omega,?_⟩;refine d2.call ?_;simp;refine⟨by omega,by omega,?_⟩;refine d3.call ?_;simp[e2];refine⟨by omega,nx (1,t++qcn e) [] ⟨by simp only;omega,by simp only[qHe];omega,by simpa [k3]using hd⟩ (by simp only;omega) (h4:=by simp[qcn])⟩
   ·have h0':(0:Int)<i:=by omega
    have hdf:decide (i=0)=false:=by simpa using h0
    rw[hdf]at hd;simp only[qc1,qFY,if_false]at hd;simp[k1,e0,e1,hli,DE.row,h0',h0];intro _;refine⟨by omega,?_⟩;refine d1.call ?_;simp;refine⟨by omega,by omega,?_⟩;refine d2.call ?_;simp;refine⟨by omega,by omega,?_⟩;refine d3.call ?_;simp[e2];refine⟨by omega,nx (i+1,t++(32::qcn e)) [] ⟨by simp only;omega,by simp only[qHe,qGk];omega,by simpa [k3]using hd⟩ (by simp only;omega) (h4:=by simp[qcn,e2])⟩
def qdm:Nat→List DE→List (List UInt8)
 | 0,_=>[]
 | k+1,l=>if l=[] then [] else qco (l.take 6)::qdm k (l.drop 6)
def qbV (l:List DE):List (List UInt8):=qdm l.length l
theorem qfm:∀ (k:Nat) (l:List DE),(qdm k l).length≤k
 | 0,_=>by simp[qdm]
 | k+1,l=>by
  have:=qfm k (l.drop 6);simp only[qdm];split <;> simp <;> omega
theorem qq2 (l:List DE) (hl:l.length≤1000000):ACall prog 141 [.lst 3 (l.map DE.row)] [] (fun r L'=>r=.sl 900 0 (qbV l).length∧L'=[(900,qas (qbV l))]):=by
 obtain⟨R,hR⟩:∃ R,qbV l=R:=⟨_,rfl⟩;rw[hR];refine acx func141 [] ntmps141 rfl rfl rfl ?_;simp;refine qaM (X:=Nat×List (List UInt8)) [0,3,4] [(6,900)] (fun x=>[(3,.sl 900 0 x.2.length),(4,.int .i64 x.1)]) (fun x=>[(900,qas x.2)]) (fun x=>l.length+6-x.1) (fun x=>x.1≤l.length+6∧x.2.length≤x.1∧∃ k,l.length-x.1≤k∧x.2++qdm k (l.drop x.1)=R) (0,[]) ⟨by simp,by simp,l.length,by simp,by simpa [qbV]using hR⟩ ?_ (he:=by simp[qah,qas]);rintro⟨i,out⟩ ⟨hi,hol,k,hk,hd⟩;simp only at hi hol hk hd;by_cases hlt:i<l.length
 ·obtain⟨m,rfl⟩:∃ m,k=m+1:=⟨k-1,by omega⟩;have hne:¬ l.drop i=[]:=fun e=>by have:=qaY e;omega
  simp only[qdm,if_neg hne]at hd;have hli:(i:Int)<l.length:=by omega
  have e2:=qap ((i:Int)+6) (by omega) (by omega);have cd:=qiz ((l.drop i).take 6) (by simp;omega);have hcl:∀ x∈((l.drop i).take 6).map DE.row,clL x=true:=quC _;by_cases h6:l.length<i+6
  ·have h6':(l.length:Int)<i+6:=by omega
   have e4:((l.map DE.row).drop i).take (l.length-i)=((l.drop i).take 6).map DE.row:=by
    rw[qun,qGh (l:=l.drop i) (by simp;omega)]
   simp[qah,hli,e2,h6'];refine⟨by omega,?_⟩;rw[e4];refine cd.call ?_;simp[e2,qas];refine⟨by omega,nx (i+6,out++[qco ((l.drop i).take 6)]) [(28,900)] ⟨by simp only;omega,by simp;omega,m,by simp only;omega,by simp only[qGc]at hd ⊢;simpa using hd⟩ (by simp only;omega) (h4:=by simp[qah,e2,qas,qai,qal])⟩
  ·have h6':¬ (l.length:Int)<i+6:=by omega
   have e4:((l.map DE.row).drop i).take 6=((l.drop i).take 6).map DE.row:=by
    rw[← List.map_drop,← List.map_take]
   simp[qah,hli,e2,h6'];refine⟨by omega,?_⟩;rw[show((i:Int)+6).toNat-i=6 by omega,e4];refine cd.call ?_;simp[e2,qas];refine⟨by omega,nx (i+6,out++[qco ((l.drop i).take 6)]) [(28,900)] ⟨by simp only;omega,by simp;omega,m,by simp only;omega,by simp only[qGc]at hd ⊢;simpa using hd⟩ (by simp only;omega) (h4:=by simp[qah,e2,qas,qai,qal])⟩
 ·have hz:l.drop i=[]:=qGb (by omega);have hp:qdm k (l.drop i)=[]:=by rw[hz];cases k <;> simp[qdm]
  rw[hp,qH6]at hd;have hli:¬ (i:Int)<l.length:=by omega
  simp[hli,← hd]
theorem qwZ (l:List DE) (hl:l.length≤1000000):CV prog 141 [.lst 3 (l.map DE.row)] (.lst 1 ((qbV l).map qai)):=by
 refine CV.of_frz (qq2 l hl) ?_ (hca:=by simp[DE.row]) (hcv:=by simp[qai]);rintro r L' ⟨rfl,rfl⟩;refine⟨by simp,by simp,by simp[clR,qas,qai],?_⟩;simp[qa7,qas,qal]
theorem qj0 (s:CS) (h8:s.map.length=8):s.row[30]?=some (.bool s.dirty):=by
 have hl:(s.map.flatMap PT.row).length=24:=by
  rw[qIP];exact qqK h8
 show(.str s.name::.int .i64 s.kind::.str s.frm::(s.map.flatMap PT.row++(s.home.row++[.bool s.dirty])))[30]?=_;simp only[qGl];rw[qGp (by omega),hl];rfl
def qb7 (l:List CS):Nat:=l.countP CS.dirty
def qcu (c:CO):Nat:=1+qb7 c.sets+if c.dirty=true then (qbV c.ddt).length else 0
theorem qq3 (c:CO) (h:CoT c) (hm:CoM c):CV prog 62 [.agg c.row] (.int .i64 (qcu c:Nat)):=by
 obtain⟨R,hR⟩:∃ R,qcu c=R:=⟨_,rfl⟩;rw[hR];unfold qcu at hR;have h1:=hm.sets;have h2:=hm.ddt;have c1:=qwZ c.ddt (by omega);have hpl:(qbV c.ddt).length≤c.ddt.length:=qfm _ _;refine cvx func62 [] ntmps62 rfl rfl rfl ?_ (hca:=by simp[qb3]);simp[CO.row];refine qbe (X:=Nat×Nat) [1,2,3,4] [(1,1)] (fun x=>[(3,.int .i64 (x.2:Int)),(4,.int .i64 x.1)]) (fun _=>[]) (fun x=>c.sets.length-x.1) (fun x=>x.1≤c.sets.length∧x.2≤1+x.1∧x.2+qb7 (c.sets.drop x.1)+(if c.dirty=true then (qbV c.ddt).length else 0)=R) (0,1) ⟨by simp,by simp,by simpa using hR⟩ ?_ (he:=by simp[qah])
 rintro⟨i,m⟩ ⟨hi,hml,hd⟩;simp only at hi hml hd;cases hr:c.sets.drop i with
 | nil =>
  have:=qaY hr;rw[hr]at hd;have hie:i=c.sets.length:=by omega
  subst hie;simp only[qb7,qIQ,qGY]at hd;simp[qah];cases hc:c.dirty with
  | false =>
   rw[hc]at hd;simp[← hd]
  | true =>
   rw[hc,if_pos rfl]at hd;have e2:=qap ((m:Int)+((qbV c.ddt).length:Int)) (by omega) (by omega);simp;refine c1.call ?_;simp[e2,← hd]
 | cons x q =>
  obtain⟨k1,e0,e1,k3⟩:=qaZ hr;rw[hr]at hd;have h8:=h.m8 x (qHT e1);have hli:(i:Int)<c.sets.length:=by omega
  have e2:=qap ((i:Int)+1) (by omega) (by omega);have e3:=qap ((m:Int)+1) (by omega) (by omega);have hx30:=qj0 x h8;have hx30':=(qGy.1 hx30).2;simp only[qb7,qIk]at hd;simp[qah,k1,e0,e1,hli,qaC x h8,hx30,hx30',e2,e3];refine⟨fun q1=>?_,fun q1=>?_⟩
  ·rw[if_pos q1]at hd;exact nx (i+1,m+1) [(1,1)] ⟨by simp only;omega,by simp only;omega,by simp only[k3,qb7];rw[← hd];congr 1;omega⟩ (by simp only;omega) (h4:=by simp[qah,e2,e3])
  ·rw[if_neg (by simp[q1])]at hd;exact nx (i+1,m) [(1,1)] ⟨by simp only;omega,by simp only;omega,by simp only[k3,qb7];rw[← hd];rfl⟩ (by simp only;omega) (h4:=by simp[qah,e2,e3])
mutual
theorem qpQ (id:Nat) (o:Ob):∀ (av:AV),clA av=true→frz id o av=av
 | .top,_=>by simp[frz]
 | .int _ _,_=>by simp[frz]
 | .bool _,_=>by simp[frz]
 | .str _,_=>by simp[frz]
 | .nilp,_=>by simp[frz]
 | .nils,_=>by simp[frz]
 | .nili,_=>by simp[frz]
 | .ifc,_=>by simp[frz]
 | .anyb,_=>by simp[frz]
 | .lst _ _,_=>by simp[frz]
 | .elm _,_=>by simp[frz]
 | .ptr _ _ _,h=>by simp[clA]at h
 | .sl _ _ _,h=>by simp[clA]at h
 | .bsl _ _ _ _ _,h=>by simp[clA]at h
 | .slc _ _ _ _,h=>by simp[clA]at h
 | .agg cs,h=>by simp only[clA]at h;simp[frz,qdG id o cs h]
 | .tup cs,h=>by simp only[clA]at h;simp[frz,qdG id o cs h]
 | .fn f cs,h=>by simp only[clA]at h;simp[frz,qdG id o cs h]
theorem qdG (id:Nat) (o:Ob):∀ (l:List AV),clL l=true→qmn id o l=l
 | [],_=>rfl
 | a::r,h=>by
  simp only[clL,Bool.and_eq_true]at h;simp[qmn,qpQ id o a h.1,qdG id o r h.2]
end
theorem qdF (id:Nat) (o x:Ob) (h:clR x.els=true):qlt id o x=x:=by
 have:x.els.map (qmn id o)=x.els:=by
  conv=>rhs;rw[← List.map_id x.els]
  exact qGD fun r hr=>qdG id o r (qGf.1 h r hr)
 unfold qlt;rw[this]
@[simp] theorem qEj (id:Nat) (o:Ob) (l:List DE):qlt id o (qaN l)=qaN l:=qdF id o _ (qbK l)
@[simp] theorem qCQ (id:Nat) (o:Ob) (l:List CS):qlt id o (kcs l)=kcs l:=qdF id o _ (qa5 l)
@[simp] theorem qCO (id:Nat) (o:Ob) (l:List PT):qlt id o (kpt l)=kpt l:=qdF id o _ (qbq l)
@[simp] theorem qCP (id:Nat) (o:Ob) (l:List Int):qlt id o (kin l)=kin l:=qdF id o _ (qaP l)
def qeb (d:DK) (fr:List Int) (txg:Int) (ok:Bool):Ob:=⟨6,[[.lst 1 (d.s0.map qai),.lst 1 (d.s1.map qai),.lst 3 (d.late.map LT.row),.lst 1 (fr.map qad),.int .i64 txg,.bool ok]]⟩
@[simp] theorem qAq (ρ:Nat→Option Plc) (d:DK) (fr:List Int) (txg:Int) (ok:Bool):qbH ρ (qeb d fr txg ok)=qeb d fr txg ok:=by simp[qeb,qbH]
theorem qhn (d:DK) (fr:List Int) (txg:Int) (ok:Bool):clR (qeb d fr txg ok).els=true:=by simp[clR,qeb,qai,LT.row,qad]
theorem qtw (d:DK) (h:DkT d) (a:Int) (fr:List Int) (txg:Int) (ok:Bool) (text:List UInt8) (ht:text.length≤1048576) :
  ACall prog 277 [.ptr 1000 0 0,.str text] [(1000,qeb d (a::fr) txg ok)]
   (fun r L'=>r=.agg (qbP a text txg).row∧L'=[(1000,qeb (qaw d a text).1 fr txg (ok && (qaw d a text).2))]):=by
 have c1:=qgM d h a text ht;have c2:=qrd a text txg (by simp[maxLen];omega);obtain⟨R,hR⟩:∃ R,qaw d a text=R:=⟨_,rfl⟩;rw[hR]at c1 ⊢;simp only[DK.row]at c1;cases ok
 all_goals
  refine acx func277 [] ntmps277 rfl rfl rfl ?_;simp[qeb,qad];refine c1.call ?_;simp;refine c2.call ?_;simp[PT.row];exact qal qad fr
structure RS where
 d:DK
 fr:List Int
 ok:Bool
deriving DecidableEq,Inhabited
def qb0 (txg:Int) (r:RS) (text:List UInt8):PT×RS:=(qbP (r.fr.headD 0) text txg,⟨(qaw r.d (r.fr.headD 0) text).1,r.fr.tail,r.ok && (qaw r.d (r.fr.headD 0) text).2⟩)
def qbZ (txg:Int):List CS→RS→List CS×RS
 | [],r=>([],r)
 | s::q,r=>if s.dirty=true then (⟨s.name,s.kind,s.frm,s.map,(qb0 txg r (qbk s.map)).1,false⟩::(qbZ txg q (qb0 txg r (qbk s.map)).2).1,(qbZ txg q (qb0 txg r (qbk s.map)).2).2)
   else (s::(qbZ txg q r).1,(qbZ txg q r).2)
def qcY (txg:Int):List (List UInt8)→RS→List PT×RS
 | [],r=>([],r)
 | t::q,r=>((qb0 txg r t).1::(qcY txg q (qb0 txg r t).2).1,(qcY txg q (qb0 txg r t).2).2)
def qaq (d:DK) (c:CO):RS×CO×PT :=
 let x:=qbZ (c.txg+1) c.sets ⟨d,qaV c d.s0.length,true⟩
 let y:=if c.dirty=true then qcY (c.txg+1) (qbV c.ddt) x.2 else (c.parts,x.2)
 let c2:CO:=⟨c.txg,x.1,c.ddt,y.1,false,c.safe,c.logn⟩
 let z:=qb0 (c.txg+1) y.2 (qaD c2)
 (z.2,c2,z.1)
theorem qb4 {d:DK} (h:qbr d=true) (a:Int) (t:List UInt8):qbr (qaw d a t).1=true∧(qaw d a t).1.s0.length=d.s0.length:=by
 have key:∀ (d:DK) (side:Int),qbr d=true→qbr (qa0 d side a t).1=true∧(qa0 d side a t).1.s0.length=d.s0.length∧(qa0 d side a t).1.late.length≤d.late.length+1:=fun d side h=>by
  obtain⟨g1,g2,g3,g4,g5,g6,g7⟩:=qbM h;unfold qa0;rw[if_neg (by simp[h])];split
  ·exact⟨h,rfl,by simp⟩
  ·rename_i hn;simp only[not_or]at hn;refine⟨?_,rfl,by simp⟩;simp only[qbr,Bool.and_eq_true,decide_eq_true_eq,qGf];refine⟨⟨⟨⟨⟨⟨g1,g2⟩,g3⟩,by simp;omega⟩,g5⟩,g6⟩,fun w hw=>?_⟩;rcases qHs.1 hw with hw | hw
   ·exact g7 w hw
   ·simp only[qHq,qHz,or_false]at hw;subst hw;show qbb d side a t=true;simpa using hn.1
 unfold qaw;rw[if_neg (by simp[h])];split
 ·exact⟨h,rfl⟩
 ·have k1:=key d 0 h;split
  ·exact⟨k1.1,k1.2.1⟩
  ·have k2:=key (qa0 d 0 a t).1 1 k1.1;exact⟨k2.1,by rw[k2.2.1,k1.2.1]⟩
theorem qf7 (txg:Int):∀ (l:List CS) (r:RS),(qbZ txg l r).1.length=l.length
 | [],r=>rfl
 | s::q,r=>by
  simp only[qbZ];split <;> simp[qf7 txg q]
theorem qiQ (m:List PT) (h8:m.length=8):(qbk m).length≤1000:=by
 have key:∀ (l:List PT) (b:Bool) (t:List UInt8),qcy l b=some t→t.length≤30 * l.length:=fun l=>by
  induction l with
  | nil=>intro b t h;simp only[qcy,qFQ]at h;subst h;simp
  | cons p r ih =>
   intro b t h;simp only[qcy]at h;split at h
   ·cases h
   ·cases hr:qcy r false with
    | none=>rw[hr]at h;cases h
    | some u =>
     rw[hr]at h;simp only[qFX,qFQ]at h;have:=ih false u hr;have hp:=qbt p;rw[← h];split <;> simp <;> omega
 unfold qbk;cases h:qcy m true with
 | none=>simp
 | some t=>have:=key m true t h;simp;omega
theorem qfj (ρ:Nat→Option Plc) (s:CS):qb6 ρ s.row=s.row:=renL_closed.renL_closedL ρ _ (qa1 s)
theorem qEA (s:CS) (h8:s.map.length=8):List.take 27 s.row=.str s.name::.int .i64 s.kind::.str s.frm::s.map.flatMap PT.row∧List.drop 30 s.row=[.bool s.dirty]:=by
 have hl:(s.map.flatMap PT.row).length=24:=by
  rw[qIP];exact qqK h8
 have e:s.row=(.str s.name::.int .i64 s.kind::.str s.frm::s.map.flatMap PT.row)++(s.home.row++[.bool s.dirty]):=by simp[CS.row]
 have hh:s.home.row.length=3:=rfl;constructor
 ·rw[e];exact qIR (by simp[hl])
 ·rw[e,← List.append_assoc];exact List.drop_left' (by simp[hl])
theorem qvM (s:CS) (h8:s.map.length=8) (p:PT):List.take 30 (List.take 27 s.row++.int .i64 p.pa::.int .i64 p.ps::.int .i64 p.pb::List.drop 30 s.row) ++
  .bool false::List.drop 31 (List.take 27 s.row++.int .i64 p.pa::.int .i64 p.ps::.int .i64 p.pb::List.drop 30 s.row)=CS.row ⟨s.name,s.kind,s.frm,s.map,p,false⟩:=by
 have hl:(s.map.flatMap PT.row).length=24:=by
  rw[qIP];exact qqK h8
 obtain⟨h1,h2⟩:=qEA s h8;rw[h1,h2];have e:(.str s.name::.int .i64 s.kind::.str s.frm::s.map.flatMap PT.row)++(.int .i64 p.pa::.int .i64 p.ps::.int .i64 p.pb::[AV.bool s.dirty])=((.str s.name::.int .i64 s.kind::.str s.frm::s.map.flatMap PT.row)++[.int .i64 p.pa,.int .i64 p.ps,.int .i64 p.pb])++[.bool s.dirty]:=by simp
 rw[e,qIR (by simp[hl]),qGb (by simp[hl])];simp[CS.row]
def zCO:List AV:=[.int .i64 0,.nils,.nils,.nils,.bool false,.nils,.int .i64 0]
@[simp] theorem qCl (ρ:Nat→Option Plc):qb6 ρ zCO=zCO:=by simp[zCO]
def blS (c:CO) (d:DK) (fr:List Int):S :=
 ⟨mkT [(3,.ptr 3 0 0),(5,.ptr 5 0 0),(6,.ptr 6 0 0),(7,.ptr 25 0 0),(8,.int .i64 0)],
  qaQ [(3,⟨7,[[.int .i64 c.txg,.sl 8 0 c.sets.length,.sl 12 0 c.ddt.length,.sl 17 0 c.parts.length,.bool c.dirty,.sl 22 0 c.safe.length,.int .i64 c.logn]]⟩),(5,⟨7,[zCO]⟩),(6,⟨3,[[.int .i64 0,.int .i64 0,.int .i64 0]]⟩),
   (8,kcs c.sets),(12,qaN c.ddt),(17,kpt c.parts),(22,kin c.safe),(25,qeb d fr (c.txg+1) true)],Us.of [3,5,6,8,12,17,22,25]⟩
theorem qd8 (txg:Int):∀ (l:List CS) (r:RS),∀ s∈(qbZ txg l r).1,∃ t∈l,s.map=t.map∧s.name=t.name∧s.frm=t.frm∧s.kind=t.kind
 | [],r,s,hs=>by simp[qbZ]at hs
 | t::q,r,s,hs=>by
  simp only[qbZ]at hs;split at hs
  ·rcases qHq.1 hs with rfl | hs
   ·exact⟨t,by simp,rfl,rfl,rfl,rfl⟩
   ·obtain⟨u,hu,h⟩:=qd8 txg q _ s hs;exact⟨u,by simp[hu],h⟩
  ·rcases qHq.1 hs with rfl | hs
   ·exact⟨s,by simp,rfl,rfl,rfl,rfl⟩
   ·obtain⟨u,hu,h⟩:=qd8 txg q _ s hs;exact⟨u,by simp[hu],h⟩
theorem qdP (c:CO):(qaD c).length≤4+64 * c.sets.length+64 * c.parts.length:=by
 have k1:∀ (l:List CS) (t:List UInt8),qbF l=some t→t.length≤64 * l.length:=fun l=>by
  induction l with
  | nil=>intro t h;simp only[qbF,qFQ]at h;subst h;simp
  | cons s r ih =>
   intro t h;simp only[qbF]at h;split at h
   ·cases h
   ·rename_i hs;cases hr:qbF r with
    | none=>rw[hr]at h;cases h
    | some u =>
     rw[hr]at h;simp only[qFX,qFQ]at h;have:=ih u hr;have hp:=qfS (s:=s) (by simpa using hs);rw[← h];simp;omega
 have k2:∀ (l:List PT) (t:List UInt8),qa6 l=some t→t.length≤64 * l.length:=fun l=>by
  induction l with
  | nil=>intro t h;simp only[qa6,qFQ]at h;subst h;simp
  | cons p r ih =>
   intro t h;simp only[qa6]at h;split at h
   ·cases h
   ·cases hr:qa6 r with
    | none=>rw[hr]at h;cases h
    | some u =>
     rw[hr]at h;simp only[qFX,qFQ]at h;have:=ih u hr;have hp:=qbt p;rw[← h];simp;omega
 unfold qaD;cases h1:qbF c.sets with
 | none=>simp
 | some t =>
  cases h2:qa6 c.parts with
  | none=>simp
  | some u =>
   have:=k1 _ _ h1;have:=k2 _ _ h2;simp;omega
theorem qhk (l:List DE):(qco l).length≤30 * l.length:=by
 have key:∀ (l:List DE) (b:Bool),(∀ e∈l,qcb e=true)→(qc1 l b).length≤30 * l.length:=fun l=>by
  induction l with
  | nil=>intro b h;simp[qc1]
  | cons e r ih =>
   intro b h;have h1:=ih false fun x hx=>h x (by simp[hx]);have h2:=qhi (h e (by simp));simp only[qc1];split <;> simp <;> omega
 unfold qco;split
 ·rename_i h;exact key l true (qhF h)
 ·simp
theorem qjQ:∀ (k:Nat) (l:List DE),∀ t∈qdm k l,t.length≤180
 | 0,l,t,h=>by simp[qdm]at h
 | k+1,l,t,h=>by
  simp only[qdm]at h;split at h
  ·simp at h
  ·rcases qHq.1 h with rfl | h
   ·have:=qhk (l.take 6);simp at this;omega
   ·exact qjQ k _ t h
def qEI (c:CO) (cur:List CS) (rs:RS):S :=
 ⟨mkT [(3,.ptr 3 0 0),(5,.ptr 5 0 0),(6,.ptr 6 0 0),(7,.ptr 25 0 0),(9,.lst 1 ((qbV c.ddt).map qai)),(10,.int .i64 0)],
  qaQ [(3,⟨7,[[.int .i64 c.txg,.sl 8 0 c.sets.length,.sl 12 0 c.ddt.length,.sl 900 0 0,.bool c.dirty,.sl 22 0 c.safe.length,.int .i64 c.logn]]⟩),(5,⟨7,[zCO]⟩),(6,⟨3,[[.int .i64 0,.int .i64 0,.int .i64 0]]⟩),
   (8,kcs cur),(12,qaN c.ddt),(22,kin c.safe),(25,qeb rs.d rs.fr (c.txg+1) rs.ok),(900,kpt [])],Us.of [3,5,6,8,12,22,25,900]⟩
@[simp] theorem qCN (id:Nat) (o:Ob) (d:DK) (fr:List Int) (txg:Int) (ok:Bool):qlt id o (qeb d fr txg ok)=qeb d fr txg ok:=qdF id o _ (qhn d fr txg ok)
theorem qlC {α:Type} {l:List α} {i:Nat} {x:α} (h:i<l.length):(l.set i x).take (i+1)=l.take i++[x]:=by
 rw[qHN,qHK h,qIS (by omega)];rfl
theorem qty (d:DK) (hd:qbr d=true) (c:CO) (h:CoT c) (hm:CoM c) (hf:qcu c≤(qaV c d.s0.length).length) (ht:-1000000≤c.txg∧c.txg≤10000000) :
  ACall prog 210 [.agg d.row,.agg c.row] [] (fun r L'=>∃ p,(p=17∨p=900)∧r=.tup [.ptr 25 0 0,qcA (qaq d c).2.1 8 12 p 22,.agg (qaq d c).2.2.row] ∧
   L'=[(8,kcs (qaq d c).2.1.sets),(12,qaN c.ddt),(p,kpt (qaq d c).2.1.parts),(22,kin c.safe),(25,qeb (qaq d c).1.d (qaq d c).1.fr (c.txg+1) (qaq d c).1.ok)]):=by
 have h1:=hm.sets;have h2:=hm.ddt;have h3:=hm.parts;have hl:=qbM hd;have ck:=qna c h;have cf:=qq6 c h d.s0.length (by omega);have e1:=qap (c.txg+1) (by omega) (by omega);refine acx func210 [(2,[zJ 0 [2] [],zJ 1 [3] [2],zJ 2 [] [2,3],zJ 3 [] [2,3],zJ 4 [2] [2,3],zJ 5 [] [2,3],zJ 7 [] [2,3],zJ 8 [3] [2,3],zJ 9 [] [2,3],zJ 6 [] [2,3],zI 10,zI 11,zI 12]),(7,[zI 0,zJ 1 [3] [],zJ 2 [] [3],zJ 3 [] [3],zJ 4 [] [3],zJ 5 [3] [3],zJ 6 [] [3],zJ 7 [8] [3],zJ 8 [] [3],zJ 9 [8] [3],zJ 10 [] [3],zJ 11 [] [3],zJ 12 [8] [],zI 13,zI 14]),(15,[zI 0,zJ 1 [3] [],zJ 2 [] [3],zJ 3 [] [3],zJ 4 [] [3],zJ 5 [] [3],zJ 6 [] [3],zJ 7 [] [3],zJ 8 [] [3],zI 9,zI 10,zI 11]),(18,[zI 0,zJ 1 [3] [],zJ 2 [11] [3],zJ 3 [] [3,11],zJ 4 [] [11],zI 5])] ntmps210 rfl rfl rfl ?_;simp[CO.row,DK.row];simp only[CO.row]at ck cf;refine qac [] (by kernel_rfl) ck (by simp) (by simpa [CO.row]using qb3 c) trivial (by simp) (by simp) ?_;rintro r L' ⟨rfl,rfl⟩;refine⟨[(8,8),(12,12),(17,17),(22,22)],⟨by simp,by simp,by simp,by simp,by simp⟩,?_⟩;simp only[qaf];simp[qcA,CO.row,DK.row];refine qaS [] (by kernel_rfl) cf (by simp[qb5,mtA,kcs,qaN,kpt,kin,qal,qa1]) (by simp) trivial (by simp) (by simp) ?_;rintro r L' ⟨rfl,rfl⟩;refine⟨by simp,by simp[kin,qad],[(900,20)],⟨by simp,by simp,by simp,by simp,by simp⟩,?_⟩;simp only[qaf];simp[e1];refine qe8 (s':=blS c d (qaV c d.s0.length)) (qzL 20 (o:=kin (qaV c d.s0.length)) (by simp) (by simpa [clR]using qaP _) (by simp) (by simp) [3,5,6,7,8] [(3,3),(5,5),(6,6),(8,8),(12,12),(17,17),(22,22),(25,25)] (by simp[qae]) (by simp[-qlt,qao,qah,blS];simp[qlt,qeb,zCO,kin,qal])) ?_;simp only[blS];have hX:∃ X,qbZ (c.txg+1) c.sets ⟨d,qaV c d.s0.length,true⟩=X:=⟨_,rfl⟩;obtain⟨X,hX⟩:=hX;refine qbe (X:=Nat×List CS×RS) [3,5,6,7,8] [(3,3),(5,5),(6,6),(8,8),(12,12),(17,17),(22,22),(25,25)] (fun x=>[(8,.int .i64 x.1)]) (fun x=>[(8,kcs x.2.1),(25,qeb x.2.2.d x.2.2.fr (c.txg+1) x.2.2.ok)]) (fun x=>c.sets.length-x.1)
  (fun x=>x.1≤c.sets.length∧x.2.1.length=c.sets.length∧x.2.1.drop x.1=c.sets.drop x.1∧qbr x.2.2.d=true∧qb7 (c.sets.drop x.1)+(1+if c.dirty=true then (qbV c.ddt).length else 0)≤x.2.2.fr.length ∧
   (x.2.1.take x.1++(qbZ (c.txg+1) (c.sets.drop x.1) x.2.2).1,(qbZ (c.txg+1) (c.sets.drop x.1) x.2.2).2)=X) (0,c.sets,⟨d,qaV c d.s0.length,true⟩) ⟨by simp,rfl,rfl,hd,by simp only[List.drop_zero];unfold qcu at hf;omega,by simpa using hX⟩ ?_ (he:=by simp[qah,qeb])
 rintro⟨i,cur,rs⟩ ⟨hi,hcl,hcd,hok,hfr,hX2⟩;simp only at hi hcl hcd hok hfr hX2;cases hr:c.sets.drop i with
 | nil =>
  have:=qaY hr;rw[hr]at hX2 hfr;have hie:i=c.sets.length:=by omega
  subst hie;rw[qGh (by omega)]at hX2;simp only[qbZ,qH6]at hX2;simp[qah,hcl];subst hX2;have hm8:∀ s∈cur,s.map.length=8∧s.name.length≤1048576∧s.frm.length≤1048576:=fun s hs=>by
   have hq:=qd8 (c.txg+1) c.sets ⟨d,qaV c d.s0.length,true⟩ s (by rw[hX];exact hs);obtain⟨t,ht,e1,e2,e3,_⟩:=hq;rw[e1,e2,e3];exact⟨h.m8 t ht,h.nm t ht⟩
  refine⟨fun hdt=>?_,fun hdt=>?_⟩
  ·have co:=qq2 c.ddt (by omega);refine qaS [] (by kernel_rfl) co (by simp[qb5,mtA,qaN,qal]) (by simp) trivial (by simp) (by simp) ?_;rintro r L' ⟨rfl,rfl⟩;refine⟨by simp,by simp[qas,qai],[(900,62)],⟨by simp,by simp,by simp,by simp,by simp⟩,?_⟩;simp only[qaf];simp;refine qe8 (s':=qEI c cur rs) ((qeP 900 3 (by simp)).trans ((qdw 3 3 (sz:=7) (row:=[.int .i64 c.txg,.sl 8 0 c.sets.length,.sl 12 0 c.ddt.length,.nils,.bool c.dirty,.sl 22 0 c.safe.length,.int .i64 c.logn]) (by simp) (by simp) (qcK 900 0)).trans
    (qzL 62 (o:=qas (qbV c.ddt)) (by simp) (by simp[qas,qai]) (by simp) (by simp) [3,5,6,7,9,10] [(3,3),(5,5),(6,6),(8,8),(12,12),(22,22),(25,25),(900,900)] (by simp[qae]) (by simp[-qlt,qao,qah,qEI];simp[qlt,qas,qal,zCO,kpt])))) ?_
   simp only[qEI];obtain⟨T,hT0⟩:∃ T,qbV c.ddt=T:=⟨_,rfl⟩;have hTl:T.length≤1000:=by rw[← hT0];have:(qbV c.ddt).length≤c.ddt.length:=qfm _ _;omega
   obtain⟨Y,hY⟩:∃ Y,qcY (c.txg+1) T rs=Y:=⟨_,rfl⟩;rw[hdt,hT0]at hfr;simp only[qb7,qIQ,if_true]at hfr;have hTt:∀ t∈T,t.length≤1048576:=fun t ht=>by
    rw[← hT0]at ht;have:=qjQ c.ddt.length c.ddt t ht;omega
   rw[hT0];refine qbe (X:=Nat×List PT×RS) [3,5,6,7,9,10] [(3,3),(5,5),(6,6),(8,8),(12,12),(22,22),(25,25),(900,900)] (fun x=>[(10,.int .i64 x.1)])
    (fun x=>[(3,⟨7,[[.int .i64 c.txg,.sl 8 0 c.sets.length,.sl 12 0 c.ddt.length,.sl 900 0 x.2.1.length,.bool c.dirty,.sl 22 0 c.safe.length,.int .i64 c.logn]]⟩),(25,qeb x.2.2.d x.2.2.fr (c.txg+1) x.2.2.ok),(900,kpt x.2.1)]) (fun x=>T.length-x.1)
    (fun x=>x.1≤T.length∧x.2.1.length=x.1∧qbr x.2.2.d=true∧(T.length-x.1)+1≤x.2.2.fr.length∧(x.2.1++(qcY (c.txg+1) (T.drop x.1) x.2.2).1,(qcY (c.txg+1) (T.drop x.1) x.2.2).2)=Y) (0,[],rs) ⟨by simp,rfl,hok,by simp only;omega,by simpa using hY⟩ ?_ (he:=by simp[qah])
   rintro⟨i,ps,rs'⟩ ⟨hi,hpl,hok',hfr',hY2⟩;simp only at hi hpl hok' hfr' hY2;cases hr2:T.drop i with
   | nil =>
    have:=qaY hr2;rw[hr2]at hY2;have hie:i=T.length:=by omega
    simp only[qcY,qH6]at hY2;subst hie;subst hY2;obtain⟨a,fr,hfe⟩:∃ a fr,rs'.fr=a::fr:=by
     cases hh:rs'.fr with
     | nil=>rw[hh]at hfr';simp at hfr'
     | cons a fr=>exact⟨a,fr,rfl⟩
    obtain⟨rd,rf,rok⟩:=rs';simp only at hfe hok' hfr' hY;subst hfe;obtain⟨c2,hc2⟩:∃ c2:CO,c2=⟨c.txg,cur,c.ddt,ps,false,c.safe,c.logn⟩:=⟨_,rfl⟩;have hT:CoT c2:=by
     subst hc2;exact⟨by simp only;omega,h.ddt,by simp only;omega,h.safe,fun s hs=>(hm8 s hs).1,fun s hs=>(hm8 s hs).2⟩
    have cr:=qqZ c2 hT;have hrl:(qaD c2).length≤1048576:=by
     have:=qdP c2;have k1:c2.sets.length≤1000:=by subst hc2;simp only;omega
     have k2:c2.parts.length≤1000:=by subst hc2;simp only;omega
     omega
    have cp:=qtw rd (qeA hok') a fr (c.txg+1) rok (qaD c2) hrl;have hb:qaq d c=(⟨(qaw rd a (qaD c2)).1,fr,rok && (qaw rd a (qaD c2)).2⟩,c2,qbP a (qaD c2) (c.txg+1)):=by
     unfold qaq;simp only[hX,hdt,if_true,hT0,hY,← hc2,qb0,qIT,qID]
    have cr':=cr;simp only[CO.row]at cr';simp[qah];refine cr'.view (by simp[qb5,mtA,kcs,qaN,kpt,kin,qal,qa1,hc2,hdt,hcl];rw[← hcl];exact qal _ _) ?_;simp;refine qac [(1000,.whole 25)] (by kernel_rfl) cp (by simp) (by simp) (by simp;exact qaa rfl (qhn _ _ _ _)) (by simp) (by simp) ?_;rintro r L' ⟨rfl,rfl⟩;refine⟨[],⟨by simp,by simp,by simp,by simp,by simp⟩,?_⟩;simp only[qaf];simp[PT.row];rw[hb];subst hc2;simp[hcl,hdt]
   | cons t q =>
    obtain⟨k1,e0,e1',k3⟩:=qaZ hr2;rw[hr2]at hY2;have hli:(i:Int)<T.length:=by omega
    have e2:=qap ((i:Int)+1) (by omega) (by omega);obtain⟨a,fr,hfe⟩:∃ a fr,rs'.fr=a::fr:=by
     cases hh:rs'.fr with
     | nil=>rw[hh]at hfr';simp at hfr'
     | cons a fr=>exact⟨a,fr,rfl⟩
    obtain⟨rd,rf,rok⟩:=rs';simp only at hfe hok' hfr' hY2;subst hfe;have cp:=qtw rd (qeA hok') a fr (c.txg+1) rok t (hTt t (qHT e1'));have hbo:=qb4 hok' a t;simp only[qcY,qb0,qIT,qID]at hY2;simp only[qGk]at hfr';simp[qah,hli,k1,e0,e1',qai];refine qac [(1000,.whole 25)] (by kernel_rfl) cp (by simp) (by simp) (by simp;exact qaa rfl (qhn _ _ _ _)) (by simp) (by simp) ?_;rintro r L' ⟨rfl,rfl⟩;refine⟨[],⟨by simp,by simp,by simp,by simp,by simp⟩,?_⟩;simp only[qaf];simp[PT.row,kpt,hpl];refine⟨by omega,nx (i+1,ps++[qbP a t (c.txg+1)],⟨(qaw rd a t).1,fr,rok && (qaw rd a t).2⟩) [(3,3),(5,5),(6,6),(8,8),(12,12),(22,22),(25,25),(79,900)] ⟨by simp only;omega,by simp[hpl],hbo.1,by simp only;omega,by simp only[k3];rw[List.append_assoc];exact hY2⟩ (by simp only;omega) (h4:=?_)⟩;have htk:List.take i (ps.map PT.row)=ps.map PT.row:=qGh (by simp[hpl]);simp[qah,kpt,e2,hpl,PT.row,htk]
  ·rw[hdt]at hfr;simp only[qb7,qIQ,qFY,if_false]at hfr;obtain⟨a,fr,hfe⟩:∃ a fr,rs.fr=a::fr:=by
    cases hh:rs.fr with
    | nil=>rw[hh]at hfr;simp at hfr
    | cons a fr=>exact⟨a,fr,rfl⟩
   obtain⟨rd,rf,rok⟩:=rs;simp only at hfe hok hX;subst hfe;obtain⟨c2,hc2⟩:∃ c2:CO,c2=⟨c.txg,cur,c.ddt,c.parts,false,c.safe,c.logn⟩:=⟨_,rfl⟩;have hT:CoT c2:=by
    subst hc2;exact⟨by simp only;omega,h.ddt,h.parts,h.safe,fun s hs=>(hm8 s hs).1,fun s hs=>(hm8 s hs).2⟩
   have cr:=qqZ c2 hT;have hrl:(qaD c2).length≤1048576:=by
    have:=qdP c2;have k1:c2.sets.length≤1000:=by subst hc2;simp only;omega
    have k2:c2.parts.length≤1000:=by subst hc2;exact h3
    omega
   have cp:=qtw rd (qeA hok) a fr (c.txg+1) rok (qaD c2) hrl;have hb:qaq d c=(⟨(qaw rd a (qaD c2)).1,fr,rok && (qaw rd a (qaD c2)).2⟩,c2,qbP a (qaD c2) (c.txg+1)):=by
    unfold qaq;simp only[hX,hdt,qFY,if_false,← hc2,qb0,qIT,qID]
   have cr':=cr;simp only[CO.row]at cr';refine cr'.view (by simp[qb5,mtA,kcs,qaN,kpt,kin,qal,qa1,hc2,hdt,hcl];rw[← hcl];exact qal _ _) ?_;simp;refine qac [(1000,.whole 25)] (by kernel_rfl) cp (by simp) (by simp) (by simp;exact qaa rfl (qhn _ _ _ _)) (by simp) (by simp) ?_;rintro r L' ⟨rfl,rfl⟩;refine⟨[],⟨by simp,by simp,by simp,by simp,by simp⟩,?_⟩;simp only[qaf];simp[PT.row];rw[hb];subst hc2;simp[hcl,hdt]
 | cons s q =>
  obtain⟨k1,e0,e1',k3⟩:=qaZ hr;rw[hr]at hX2 hfr hcd;obtain⟨m1,m0,m2,m3⟩:=qaZ hcd;have h8:=h.m8 s (qHT e1');have hli:(i:Int)<c.sets.length:=by omega
  have e2:=qap ((i:Int)+1) (by omega) (by omega);have hx30:=qj0 s h8;have hx30':=(qGy.1 hx30).2;simp[qah,hcl,k1,m1,m0,m2,hli,qaC s h8,hx30,hx30',e2,kcs];have c1:=qlK s.map h8;have hml:=qiQ s.map h8;refine⟨fun q1=>?_,fun q1=>?_⟩
  ·have hfr1:0<rs.fr.length:=by
    have:qb7 (s::q)=qb7 q+1:=by simp[qb7,qIk,q1]
    omega
   obtain⟨a,fr,hfe⟩:∃ a fr,rs.fr=a::fr:=by
    cases hh:rs.fr with
    | nil=>rw[hh]at hfr1;simp at hfr1
    | cons a fr=>exact⟨a,fr,rfl⟩
   obtain⟨rd,rf,rok⟩:=rs;simp only at hfe hok hfr hX2;subst hfe;have cp:=qtw rd (qeA hok) a fr (c.txg+1) rok (qbk s.map) (by omega);have hbo:=qb4 hok a (qbk s.map);rw[qgx s h8];refine c1.call ?_;simp;refine qac [(1000,.whole 25)] (by kernel_rfl) cp (by simp) (by simp) (by simp;exact qaa rfl (qhn _ _ _ _)) (by simp) (by simp) ?_;rintro r L' ⟨rfl,rfl⟩;refine⟨[],⟨by simp,by simp,by simp,by simp,by simp⟩,?_⟩;simp only[qaf];simp[hcl,k1,m1,m0,m2,hli,qaC s h8];have hdn:qb7 (s::q)=qb7 q+1:=by simp[qb7,qIk,q1]
   simp only[qbZ,if_pos q1,qb0,qIT,qID]at hX2;simp only[qGk]at hfr;refine nx (i+1,cur.set i ⟨s.name,s.kind,s.frm,s.map,qbP a (qbk s.map) (c.txg+1),false⟩,⟨(qaw rd a (qbk s.map)).1,fr,rok && (qaw rd a (qbk s.map)).2⟩) [(3,3),(5,5),(6,6),(8,8),(12,12),(17,17),(22,22),(25,25)]
    ⟨by simp only;omega,by simpa using hcl,by simp only;rw[qIU (by omega),m3,k3],hbo.1,by simp only[k3];omega,?_⟩ (by simp only;omega) (h4:=?_)
   ·simp only[k3];rw[qlC m1,List.append_assoc];exact hX2
   ·simp[qah,kcs,qaC s h8,e2];rw[qvM s h8,qfj]
  ·have hdn:qb7 (s::q)=qb7 q:=by simp[qb7,qIk,q1]
   simp only[qbZ,q1,qFY,if_false]at hX2;exact nx (i+1,cur,rs) [(3,3),(5,5),(6,6),(8,8),(12,12),(17,17),(22,22),(25,25)] ⟨by simp only;omega,hcl,by simp only;rw[m3,k3],hok,by simp only[k3];omega,by simp only[k3];rw[qHN,m2];simpa using hX2⟩ (by simp only;omega) (h4:=by simp[qah,e2,kcs])
end Go.Av.F
end
section
namespace Go.Av
open Go Go.Proofs
variable {P:Program}
theorem ACall.frzP {f:Nat} {args:List AV} {R R':AV→List (Nat×Ob)→Prop} (h:ACall P f args [] R)
  (hr:∀ r L',R r L'→∃ A L2,L'=A++L2∧A.length≤20∧(L'.map (·.1)).Nodup∧(∀ x∈L',clR x.2.els=true)∧R' (qa7 A r) L2):ACall P f args [] R':=by
 have key:∀ (n:Nat) (R:AV→List (Nat×Ob)→Prop),ACall P f args [] R →
   (∀ r L',R r L'→∃ A L2,L'=A++L2∧A.length≤n∧(L'.map (·.1)).Nodup∧(∀ x∈L',clR x.2.els=true)∧R' (qa7 A r) L2)→ACall P f args [] R':=by
  intro n
  induction n with
  | zero =>
   intro R h hr;refine h.mono fun r L' hR=>?_;obtain⟨A,L2,rfl,hl,_,_,hv⟩:=hr r L' hR;have:A=[]:=qHM (by omega);subst this;exact hv
  | succ n ih =>
   intro R h hr;refine ih (fun r L'=>∃ A L2,L'=A++L2∧A.length≤n∧(L'.map (·.1)).Nodup∧(∀ x∈L',clR x.2.els=true)∧R' (qa7 A r) L2) (h.frz1 fun r L' hR=>?_) fun r L' h=>h;obtain⟨A,L2,rfl,hl,hn,hc,hv⟩:=hr r L' hR;cases A with
   | nil=>exact .inl ⟨[],L2,rfl,by simp,hn,hc,hv⟩
   | cons x A2 =>
    obtain⟨id,o⟩:=x;simp only[qHS,qGs,qHp,qHq,qGk]at hn hc hl;exact .inr ⟨id,o,A2++L2,rfl,hn.1,hc _ (.inl rfl),fun x hx=>hc x (.inr hx),A2,L2,rfl,by omega,hn.2,fun x hx=>hc x (.inr hx),hv⟩
 exact key 20 R h hr
end Go.Av
namespace Go.Av.F
open Go Go.Av Go.Proofs Go.Proofs.Tryz
theorem qhr (txg:Int) (p:PT):(qa9 txg p).length≤70000:=by
 unfold qa9;split
 ·simp
 ·exact qqV _
def qhK (d:DK) (txg:Int) (p:PT):DK×Bool:=qaw d (1+txg % 4) (qa9 txg p)
theorem qz4 (d:DK) (h:DkT d) (txg:Int) (p:PT) (ht:0≤txg∧txg≤10000000):CV prog 211 [.agg d.row,.int .i64 txg,.agg p.row] (.tup [.agg (qhK d txg p).1.row,.bool (qhK d txg p).2]):=by
 have c1:=qva txg p;have hl:=qhr txg p;have c2:=qgM d h (1+txg % 4) (qa9 txg p) (by omega);unfold qhK;generalize qaw d (1+txg % 4) (qa9 txg p)=R at *
 simp only[DK.row,PT.row]at c1 c2;have q2:txg.tmod 4=txg % 4:=qIy (by omega);have e1:=qap (txg % 4) (by omega) (by omega);have e2:=qap (1+txg % 4) (by omega) (by omega);refine cvx func211 [(1,[zJ 0 [3] [],zJ 1 [] [3],zJ 2 [] [3],zJ 3 [] [3],zJ 4 [] [3],zJ 5 [5] [3],zJ 6 [] [3],zI 7,zI 8,zI 9,zI 10,zI 11])] ntmps211 rfl rfl rfl ?_ (hca:=by simp[DK.row,PT.row]) (hcv:=by simp[DK.row]);simp[DK.row,PT.row,q2,e1,e2];refine c1.call ?_;simp;refine c2.call ?_;simp
def qdf (d:DK) (c:CO):Bool:=decide (c.txg<1000000) && decide (qcu c≤(qaV c d.s0.length).length)
theorem qw2 (d:DK) (hd:DkT d) (c:CO) (h:CoT c) (hm:CoM c):CV prog 116 [.agg d.row,.agg c.row] (.bool (qdf d c)):=by
 have hl:=hd.l0;have c1:=qq7 c h d.s0.length (by omega);have c2:=qq3 c h hm;unfold qdf;generalize qaV c d.s0.length=l at *
 generalize qcu c=n at *
 simp only[CO.row]at c1 c2;refine cvx func116 [(1,[zI 0,zJ 1 [3] [],zI 2,zI 3,zJ 4 [3] [],zJ 5 [] [3],zJ 6 [] [3],zJ 7 [2] [3],zJ 8 [] [3],zJ 11 [3] [3,2],zJ 9 [] [3],zJ 10 [] [3],zI 12,zI 13,zI 14,zI 15])] ntmps116 rfl rfl rfl ?_ (hca:=by simp[DK.row,qb3]);simp[DK.row,CO.row];refine⟨fun q1=>?_,fun q1 q2=>by omega⟩;refine c1.call ?_;simp[CO.row];refine c2.call ?_;simp;simp[q1]
theorem qtz (d:DK) (hd:qbr d=true) (c:CO) (h:CoT c) (hm:CoM c) (hf:qcu c≤(qaV c d.s0.length).length) (ht:-1000000≤c.txg∧c.txg≤10000000) :
  ACall prog 210 [.agg d.row,.agg c.row] [] (fun r L'=>r=.tup [.ptr 25 0 0,.agg (qaq d c).2.1.row,.agg (qaq d c).2.2.row] ∧
   L'=[(25,qeb (qaq d c).1.d (qaq d c).1.fr (c.txg+1) (qaq d c).1.ok)]):=by
 have hdd:(qaq d c).2.1.ddt=c.ddt∧(qaq d c).2.1.safe=c.safe:=⟨rfl,rfl⟩;refine(qty d hd c h hm hf ht).frzP ?_;rintro r L' ⟨p,hp,rfl,rfl⟩;generalize qaq d c=B at *
 refine⟨[(8,kcs B.2.1.sets),(12,qaN c.ddt),(p,kpt B.2.1.parts),(22,kin c.safe)],[(25,qeb B.1.d B.1.fr (c.txg+1) B.1.ok)],rfl,by simp,?_,?_,?_,rfl⟩
 ·rcases hp with rfl | rfl <;> simp
 ·intro x hx;simp only[qHq,qHz,or_false]at hx;rcases hx with rfl | rfl | rfl | rfl | rfl
  ·exact qa5 _
  ·exact qbK _
  ·exact qbq _
  ·exact qaP _
  ·exact qhn _ _ _ _
 ·rcases hp with rfl | rfl
  all_goals simp[qa7,qcA,CO.row,kcs,kpt,kin,qaN,qal,hdd.1,hdd.2,PT.row]
end Go.Av.F
end
section
namespace Go.Av.F
open Go Go.Av Go.Proofs Go.Proofs.Tryz
theorem qlU (n m:Nat) (k:Nat):∀ (l:List LT) (p:List (List UInt8)×List (List UInt8)),p.1.length=n→p.2.length=m→(∀ x∈p.1,x.length≤k)→(∀ x∈p.2,x.length≤k)→(∀ w∈l,w.lx.length≤k) →
  (l.foldl qhY p).1.length=n∧(l.foldl qhY p).2.length=m∧(∀ x∈(l.foldl qhY p).1,x.length≤k)∧∀ x∈(l.foldl qhY p).2,x.length≤k
 | [],p,h1,h2,h3,h4,_=>⟨h1,h2,h3,h4⟩
 | w::q,p,h1,h2,h3,h4,h5=>by
  have hw:=h5 w (by simp);have hl:=qom p w;refine qlU n m k q (qhY p w) (by omega) (by omega) (fun x hx=>?_) (fun x hx=>?_) fun w hw=>h5 w (by simp[hw])
  ·unfold qhY at hx;split at hx
   ·rcases qIi hx with hx | rfl
    ·exact h3 x hx
    ·exact hw
   ·exact h3 x hx
  ·unfold qhY at hx;split at hx
   ·exact h4 x hx
   ·rcases qIi hx with hx | rfl
    ·exact h4 x hx
    ·exact hw
theorem qgn {d:DK} (h:qbr d=true):qbr (qbB d)=true∧(qbB d).s0.length=d.s0.length∧(qbB d).late=[]:=by
 obtain⟨g1,g2,g3,g4,g5,g6,g7⟩:=qbM h;have k:=qlU d.s0.length d.s1.length 420 d.late (d.s0,d.s1) rfl rfl g5 g6 fun w hw=>(thereB_iff.1 (g7 w hw)).2.2;unfold qbB;rw[if_pos h];obtain⟨k1,k2,k3,k4⟩:=k;refine⟨?_,k1,rfl⟩;simp only[qbr,Bool.and_eq_true,decide_eq_true_eq,qGf];exact⟨⟨⟨⟨⟨⟨by omega,by omega⟩,by omega⟩,by simp⟩,k3⟩,k4⟩,by simp⟩
theorem qhV {r:RS} (h:qbr r.d=true) (txg:Int) (t:List UInt8):qbr (qb0 txg r t).2.d=true∧(qb0 txg r t).2.d.s0.length=r.d.s0.length:=qb4 h _ t
theorem qhS (txg:Int):∀ (l:List CS) (r:RS),qbr r.d=true→qbr (qbZ txg l r).2.d=true∧(qbZ txg l r).2.d.s0.length=r.d.s0.length
 | [],r,h=>⟨h,rfl⟩
 | s::q,r,h=>by
  simp only[qbZ];split
  ·have h1:=qhV h txg (qbk s.map);have h2:=qhS txg q _ h1.1;exact⟨h2.1,by rw[h2.2,h1.2]⟩
  ·exact qhS txg q r h
theorem qnc (txg:Int):∀ (l:List (List UInt8)) (r:RS),qbr r.d=true→qbr (qcY txg l r).2.d=true∧(qcY txg l r).2.d.s0.length=r.d.s0.length∧(qcY txg l r).1.length=l.length
 | [],r,h=>⟨h,rfl,rfl⟩
 | t::q,r,h=>by
  simp only[qcY];have h1:=qhV h txg t;have h2:=qnc txg q _ h1.1;exact⟨h2.1,by rw[h2.2.1,h1.2],by simp[h2.2.2]⟩
theorem qjg {d:DK} (hd:qbr d=true) (c:CO):qbr (qaq d c).1.d=true∧(qaq d c).1.d.s0.length=d.s0.length:=by
 have h1:=qhS (c.txg+1) c.sets ⟨d,qaV c d.s0.length,true⟩ hd;unfold qaq;simp only;split
 ·have h2:=qnc (c.txg+1) (qbV c.ddt) _ h1.1;have h3:=qhV h2.1 (c.txg+1) (qaD ⟨c.txg,(qbZ (c.txg+1) c.sets ⟨d,qaV c d.s0.length,true⟩).1,c.ddt,(qcY (c.txg+1) (qbV c.ddt) (qbZ (c.txg+1) c.sets ⟨d,qaV c d.s0.length,true⟩).2).1,false,c.safe,c.logn⟩);exact⟨h3.1,by rw[h3.2,h2.2.1,h1.2]⟩
 ·have h3:=qhV h1.1 (c.txg+1) (qaD ⟨c.txg,(qbZ (c.txg+1) c.sets ⟨d,qaV c d.s0.length,true⟩).1,c.ddt,c.parts,false,c.safe,c.logn⟩);exact⟨h3.1,by rw[h3.2,h1.2]⟩
theorem qpj {d:DK} (hd:qbr d=true) {c:CO} (h:CoT c) (hm:CoM c):CoT (qaq d c).2.1∧CoM (qaq d c).2.1:=by
 have h1:=qf7 (c.txg+1) c.sets ⟨d,qaV c d.s0.length,true⟩;have h2:=qd8 (c.txg+1) c.sets ⟨d,qaV c d.s0.length,true⟩;have h3:=qnc (c.txg+1) (qbV c.ddt) _ (qhS (c.txg+1) c.sets ⟨d,qaV c d.s0.length,true⟩ hd).1;have h4:(qbV c.ddt).length≤c.ddt.length:=qfm _ _;have e1:=hm.sets;have e2:=hm.ddt;have e3:=hm.parts;have hp:(qaq d c).2.1.parts.length≤1000:=by
  unfold qaq;simp only;split
  ·exact qFN (qGi h3.2.2) (by omega)
  ·exact e3
 have hs:(qaq d c).2.1.sets=(qbZ (c.txg+1) c.sets ⟨d,qaV c d.s0.length,true⟩).1:=rfl;refine⟨⟨by rw[hs];omega,h.ddt,by omega,h.safe,fun s hs'=>?_,fun s hs'=>?_⟩,⟨by rw[hs];omega,e2,hp⟩⟩
 ·obtain⟨t,ht,q1,q2,q3,_⟩:=h2 s (by rw[← hs];exact hs');rw[q1];exact h.m8 t ht
 ·obtain⟨t,ht,q1,q2,q3,_⟩:=h2 s (by rw[← hs];exact hs');rw[q2,q3];exact h.nm t ht
def qd3 (d:DK) (c:CO):DK×CO×Int :=
 if (qaq d c).1.ok=false then (d,(qaq d c).2.1,7) else
 if (qhK (qbB (qaq d c).1.d) (c.txg+1) (qaq d c).2.2).2=false then (d,(qaq d c).2.1,7) else
 (qbB (qhK (qbB (qaq d c).1.d) (c.txg+1) (qaq d c).2.2).1,
  ⟨c.txg+1,(qaq d c).2.1.sets,(qaq d c).2.1.ddt,(qaq d c).2.1.parts,(qaq d c).2.1.dirty,qcf (qaq d c).2.1 (qaq d c).2.2.pa,0⟩,0)
theorem qAd (d:DK) (hd:qbr d=true) (c:CO) (h:CoT c) (hm:CoM c) (hf:qcu c≤(qaV c d.s0.length).length) (ht:0≤c.txg∧c.txg<1000000) :
  CV prog 118 [.agg d.row,.agg c.row] (.tup [.agg (qd3 d c).1.row,.agg (qd3 d c).2.1.row,.int .i64 (qd3 d c).2.2]):=by
 obtain⟨R,hR⟩:∃ R,qd3 d c=R:=⟨_,rfl⟩;rw[hR];unfold qd3 at hR;have hb1:=qjg hd c;obtain⟨hb2,hb3⟩:=qpj hd h hm;have cb:=qtz d hd c h hm hf (by omega);generalize qaq d c=B at *
 obtain⟨⟨bd,bf,bok⟩,c2,root⟩:=B;simp only at hb1 hb2 hb3 cb hR;have cf:=qq8 bd (qeA hb1.1);have hf1:=qgn hb1.1;have cr:=qz4 (qbB bd) (qeA hf1.1) (c.txg+1) root (by omega);have hr1:qbr (qhK (qbB bd) (c.txg+1) root).1=true:=(qb4 hf1.1 _ _).1;have cg:=qq8 (qhK (qbB bd) (c.txg+1) root).1 (qeA hr1);generalize qhK (qbB bd) (c.txg+1) root=G at *
 obtain⟨gd,gok⟩:=G;simp only at cr hr1 cg hR;have ce:=qwX ⟨c.txg+1,c2.sets,c2.ddt,c2.parts,c2.dirty,c2.safe,c2.logn⟩ ⟨hb2.sets,hb2.ddt,hb2.parts,hb2.safe,hb2.m8,hb2.nm⟩ ⟨hb3.sets,hb3.ddt,hb3.parts⟩ root.pa;have hre:qcf ⟨c.txg+1,c2.sets,c2.ddt,c2.parts,c2.dirty,c2.safe,c2.logn⟩ root.pa=qcf c2 root.pa:=rfl;rw[hre]at ce;simp only[DK.row,CO.row,PT.row]at cb cf cr cg ce;refine cvx func118 [(3,[zJ 0 [2] [],zJ 1 [3] [2],zJ 2 [] [3],zI 3,zI 4]),(4,[zI 0,zI 1,zI 2,zJ 3 [14] [],zJ 5 [] [14],zJ 6 [] [14],zJ 7 [] [14],zJ 8 [14] [14],zJ 9 [8,14] [14],⟨4,[],[14,8],[14],[]⟩,⟨10,[],[],[14],[]⟩,zI 11,zI 12,zI 13,zJ 14 [] [14,8],zI 15,zI 16]),(6,[zJ 0 [2] [],zJ 1 [3] [2],zJ 2 [] [3],zI 3,zI 4]),(10,[zJ 0 [9] [],zJ 2 [3] [9],zJ 1 [] [3],zJ 3 [] [3],zI 4,zI 5])] ntmps118 rfl rfl rfl ?_ (hca:=by simp[DK.row,qb3]) (hcv:=by simp[DK.row,qb3]);simp[DK.row,CO.row,PT.row];refine qac [] (by kernel_rfl) cb (by simp) (by simp[DE.row,qa1,qad]) trivial (by simp) (by simp) ?_;rintro r L' ⟨rfl,rfl⟩;refine⟨[(25,14)],⟨by simp,by simp,by simp,by simp,by simp⟩,?_⟩;simp only[qaf];simp[DK.row,CO.row,PT.row,qeb];refine⟨fun q1=>?_,fun q1=>?_⟩
 ·rw[if_pos q1]at hR;subst hR;simp
 ·rw[if_neg (by simp[q1])]at hR;refine cf.call ?_;simp;refine cr.call ?_;cases gok with
  | false =>
   rw[if_pos rfl]at hR;simp[← hR]
  | true =>
   rw[if_neg (by simp)]at hR;simp;refine ce.call ?_;simp;refine cg.call ?_;simp[← hR]
def zK:CO:=⟨0,[],[],[],false,[],0⟩
theorem qrX:qgF (.agg [.int .i64 0,.nils,.nils,.nils,.bool false,.nils,.int .i64 0]) (.agg zK.row) :=
 qiU (.cons (qaE _) (.cons (qa2 31) (.cons (qa2 3) (.cons (qa2 3) (.cons (qaE _) (.cons (qa2 1) (.cons (qaE _) .nil)))))))
theorem qbn {c:CO} (h:qak c=true):CoM c∧c.sets.length≤6∧c.ddt.length≤48∧c.parts.length≤8∧0≤c.txg∧c.txg≤1000000∧0≤c.logn∧c.logn≤8:=by
 have hb:=(okB_iff.1 (qjd h)).1;have hd:=(qja (qpa h)).1;simp only[qak,Bool.and_eq_true,decide_eq_true_eq]at h;have h1:=h.1.1.1.1.1.1.1.1.1.1.1;have h2:=h.1.1.1.1.1.1.1.1.1.1.2;have h3:=h.1.1.1.1.1.1.1.1.2;have h4:=h.1.1.1.1.1.1.2;have h5:=h.1.1.1.1.1.2;simp only[qG4]at hb;exact⟨⟨by omega,by omega,by omega⟩,hb,hd,h3,h1,h2,h4,h5⟩
def qbv (d:DK) (c:CO):DK×CO×Int :=
 if qbr d=false∨qak c=false∨d.s0.length≤13 then (zDK,zK,5) else
 if qdf d c=false then (d,c,7) else
 if (qd3 d c).2.2≠0 then (d,c,(qd3 d c).2.2) else qd3 d c
theorem qtx (d:DK) (hd:DkT d) (c:CO) (h:CoT c):CV prog 52 [.agg d.row,.agg c.row] (.tup [.agg (qbv d c).1.row,.agg (qbv d c).2.1.row,.int .i64 (qbv d c).2.2]):=by
 obtain⟨R,hR⟩:∃ R,qbv d c=R:=⟨_,rfl⟩;rw[hR];unfold qbv at hR;have c1:=qdN d hd;have c2:=qks c h;have c3:=qrc d hd;have c4:=qw4 c h;have hl:=hd.l0;refine CV.of_imp ?_ (hca:=by simp[DK.row,qb3]) (hcv:=by simp[DK.row,qb3]);refine acx func52 [(4,[zJ 0 [2] [],zJ 2 [3] [2],zJ 1 [] [3],zI 3,zI 4,zI 5,zI 6]),(5,[zJ 0 [2] [],zJ 2 [3] [2],⟨1,[],[3],[8,9],[]⟩,⟨3,[],[],[8,9],[]⟩,zI 4,zI 5,zI 6,zI 7,zJ 8 [] [2,3],zJ 9 [] [2,3],zI 10,zI 11,zI 12]),(7,[zJ 0 [2] [],zJ 2 [3] [2],zJ 4 [] [2,3],zJ 1 [] [3],zI 3,zI 5,zI 6,zI 7]),(8,[zJ 0 [7] [],zJ 1 [8] [7],zJ 2 [] [7,8],zJ 3 [] [8],zI 4,zI 5])] ntmps52 rfl rfl rfl ?_;simp only[DK.row,CO.row]at c1 c2 c3 c4;simp[DK.row,CO.row];refine c1.call ?_;have zimp:qgF (.tup [.agg [.nils,.nils,.nils],.agg [.int .i64 0,.nils,.nils,.nils,.bool false,.nils,.int .i64 0],.int .i64 5]) (.tup [.agg zDK.row,.agg zK.row,.int .i64 5]):=qdl (.cons qkN (.cons qrX (.cons (qaE _) .nil)));cases hok:qbr d with
 | false =>
  rw[if_pos (.inl hok)]at hR;subst hR;simp;simpa [zDK,zK,DK.row,CO.row]using zimp
 | true =>
  simp[DK.row,CO.row];refine c2.call ?_;cases hco:qak c with
  | false =>
   rw[if_pos (.inr (.inl hco))]at hR;subst hR;simp;simpa [zDK,zK,DK.row,CO.row]using zimp
  | true =>
   obtain⟨hm,k1,k2,k3,k4,k5,k6,k7⟩:=qbn hco;by_cases hn:d.s0.length≤13
   ·rw[if_pos (.inr (.inr hn))]at hR;subst hR;have hn':(d.s0.length:Int)≤13:=by omega
    simp[hn',DK.row];simpa [zDK,zK,DK.row,CO.row]using zimp
   ·rw[if_neg (by simp[hok,hco,hn])]at hR;have hn':¬ (d.s0.length:Int)≤13:=by omega
    have c5:=qw2 d hd c h hm;simp only[DK.row,CO.row]at c5;simp[hn',DK.row,CO.row];refine c5.call ?_;cases hma:qdf d c with
    | false =>
     rw[if_pos hma]at hR;subst hR;simp;refine c3.call ?_;simp;refine c4.call ?_;simp
    | true =>
     rw[if_neg (by simp[hma])]at hR;have hma2:=hma;simp only[qdf,Bool.and_eq_true,decide_eq_true_eq]at hma2;have c6:=qAd d hok c h hm hma2.2 (by omega);generalize qd3 d c=D at *
     obtain⟨dd,dc,code⟩:=D;simp only[DK.row,CO.row]at c6 hR;simp;refine c3.call ?_;simp;refine c6.call ?_;simp;refine⟨fun q=>?_,fun q=>?_⟩
     ·rw[if_pos q]at hR;subst hR;refine c3.call ?_;simp;refine c4.call ?_;simp
     ·rw[if_neg (by simp[q])]at hR;subst hR;simp
end Go.Av.F
end
section
namespace Go.Av
open Go Go.Proofs
variable {P:Program}
theorem ACall.hps {f:Nat} {args:List AV} {L:List (Nat×Ob)} {R R':AV→List (Nat×Ob)→Prop} (h:ACall P f args L R) (hr:∀ r L',R r L'→∃ L2,(∀ i,qaQ L2 i=qaQ L' i)∧R' r L2):ACall P f args L R':=by
 intro w Z γ vs hv hh hg;refine(h w Z γ vs hv hh hg).mono ?_;rintro e w' ⟨v,r,L',Z',γ',h1,h2,h3⟩;obtain⟨L2,he,hR⟩:=hr r L' h2;have:qaQ L'=qaQ L2:=funext fun i=>(he i).symm;rw[this]at h3;exact⟨v,r,L2,Z',γ',h1,hR,h3⟩
end Go.Av
namespace Go.Av.F
open Go Go.Av Go.Proofs Go.Proofs.Tryz
def qfb (c:CO) (id:Nat):AV:=.agg [.int .i64 c.txg,.sl id 0 c.sets.length,.lst 3 (c.ddt.map DE.row),.lst 3 (c.parts.map PT.row),.bool c.dirty,.lst 1 (c.safe.map qad),.int .i64 c.logn]
theorem qw3 (c:CO) (h:CoT c):ACall prog 117 [.agg c.row] [] (fun r L'=>r=qfb c 8∧L'=[(8,kcs c.sets)]):=by
 refine((qna c h).hps (R':=fun r L'=>r=qcA c 8 12 17 22∧L'=[(12,qaN c.ddt),(17,kpt c.parts),(22,kin c.safe)]++[(8,kcs c.sets)]) ?_).frzP ?_
 ·rintro r L' ⟨rfl,rfl⟩;refine⟨_,fun i=>?_,rfl,rfl⟩;by_cases h1:i=8
  ·subst h1;simp
  ·by_cases h2:i=12
   ·subst h2;simp
   ·by_cases h3:i=17
    ·subst h3;simp
    ·by_cases h4:i=22
     ·subst h4;simp
     ·simp[h1,h2,h3,h4]
 ·rintro r L' ⟨rfl,rfl⟩;refine⟨_,_,rfl,by simp,by simp,fun x hx=>?_,?_,rfl⟩
  ·simp only[qHS,qGC,qHq,qHz,or_false]at hx;rcases hx with rfl | rfl | rfl | rfl
   ·exact qbK _
   ·exact qbq _
   ·exact qaP _
   ·exact qa5 _
  ·simp[qa7,qcA,qfb,qaN,kpt,kin,qal]
def qhL (more:Bool) (l:List DE) (p:PT):List DE×Bool:=if more=true then qb2 l p.ps p.pa else qbo l p.pa
def qbL (more:Bool):List PT→List DE×Bool×Bool→List DE×Bool×Bool
 | [],x=>x
 | p::q,x=>if p.pa=0 then qbL more q x else qbL more q ((qhL more x.1 p).1,true,x.2.2 && (qhL more x.1 p).2)
theorem qoj (more:Bool) (l:List DE) (p:PT):(qhL more l p).1.length≤l.length+1:=by
 unfold qhL qb2 qbo;have:=qmD l p.pa
 repeat' split
 all_goals simp <;> omega
theorem qmr {l:List PT} {i k:Nat} {p:PT} (h:l[i]?=some p) (hk:k<3):(l.flatMap PT.row)[i * 3+k]?=p.row[k]?:=by
 have h2:=congrArg (fun r:List AV=>r[k]?) (qhb h);simp only[qFV,qGr,hk,if_true]at h2;exact h2
theorem qz5 (c:CO) (m:List PT) (h8:m.length=8) (more:Bool) (hd:c.ddt.length≤1000000) (hs:c.sets.length≤1048576) :
  ACall prog 209 [qfb c 1000,.agg (m.flatMap PT.row),.bool more] [(1000,kcs c.sets)]
   (fun r L'=>r=.tup [qfb ⟨c.txg,c.sets,(qbL more m (c.ddt,c.dirty,true)).1,c.parts,(qbL more m (c.ddt,c.dirty,true)).2.1,c.safe,c.logn⟩ 1000,.bool (qbL more m (c.ddt,c.dirty,true)).2.2]∧L'=[(1000,kcs c.sets)]):=by
 obtain⟨X,hX⟩:∃ X,qbL more m (c.ddt,c.dirty,true)=X:=⟨_,rfl⟩;rw[hX];refine acx func209 [(8,[zI 0,zJ 1 [3] [],zJ 2 [] [3],zJ 3 [] [3],zJ 4 [] [3],zJ 5 [4] [3],zJ 6 [] [3,4],zJ 7 [] [3,4],zJ 8 [] [3,4],zJ 9 [4] [3,4],zI 10,zI 11,zI 12,zI 13,zI 14,zI 15,zI 16]),(9,[zI 0,zJ 1 [3] [],zJ 2 [] [3],zJ 3 [] [3],zJ 4 [] [3],zJ 5 [4] [3],zI 6,zI 7,zI 8,zI 9,zI 10,zI 11,zI 12])] ntmps209 rfl rfl rfl ?_;simp[qfb,qqK h8];refine qbe (X:=Nat×(List DE×Bool×Bool)) [2,3,4,6,7,8,9] [(1000,1000),(3,3),(4,4),(6,6)] (fun x=>[(8,.bool x.2.2.2),(9,.int .i64 x.1)])
  (fun x=>[(3,⟨7,[[.int .i64 c.txg,.sl 1000 0 c.sets.length,.lst 3 (x.2.1.map DE.row),.lst 3 (c.parts.map PT.row),.bool x.2.2.1,.lst 1 (c.safe.map qad),.int .i64 c.logn]]⟩)]) (fun x=>8-x.1)
  (fun x=>x.1≤8∧x.2.1.length≤1000000+x.1∧qbL more (m.drop x.1) x.2=X) (0,(c.ddt,c.dirty,true)) ⟨by simp,by simp only;omega,by simpa using hX⟩ ?_ (he:=by simp[qah])
 rintro⟨i,l,dt,ok⟩ ⟨hi,hl,hd2⟩;simp only at hi hl hd2;cases hr:m.drop i with
 | nil =>
  have:=qaY hr;rw[hr]at hd2;have hie:i=8:=by omega
  subst hie;simp only[qbL]at hd2;subst hd2;simp[qah]
 | cons p q =>
  obtain⟨k1,e0,e1,k3⟩:=qaZ hr;rw[hr]at hd2;simp only[qbL]at hd2;have hi8:i<8:=by omega
  have hli:(i:Int)<8:=by omega
  have e2:=qap ((i:Int)+1) (by omega) (by omega);have f0:=qmr e1 (k:=0) (by omega);have f1:=qmr e1 (k:=1) (by omega);have c1:=qDz l p.ps p.pa (by omega);have c2:=qAc l p.pa (by omega);have hrl:=qoj more l p;have f0':(m.flatMap PT.row)[i * 3]?=some (.int .i64 p.pa):=by simpa [PT.row]using f0
  have f1':(m.flatMap PT.row)[i * 3+1]?=some (.int .i64 p.ps):=by simpa [PT.row]using f1
  have hN:∀ (x:List DE×Bool×Bool),qbL more q x=X→x.1.length≤1000000+(i+1)→(i+1≤8∧x.1.length≤1000000+(i+1)∧qbL more (m.drop (i+1)) x=X):=fun x h1 h2=>⟨by omega,h2,by rw[k3];exact h1⟩;simp[qah,hli,hi8,f0',f1'];refine⟨by omega,fun q1=>?_,fun q1=>?_⟩
  ·rw[if_pos q1]at hd2;exact nx (i+1,l,dt,ok) [(1000,1000),(3,3),(4,4),(6,6)] (hN _ hd2 (by simp only;omega)) (by simp only;omega) (h4:=by simp[qah,e2])
  ·rw[if_neg q1]at hd2;have hrl2:(qhL more l p).1.length≤1000000+(i+1):=by omega
   cases more with
   | true =>
    have hrb:qhL true l p=qb2 l p.ps p.pa:=rfl;rw[hrb]at hd2 hrl2;generalize qb2 l p.ps p.pa=Y at *
    obtain⟨yl,yo⟩:=Y;simp;refine⟨by omega,by omega,?_⟩;refine c1.call ?_;cases ok
    all_goals
     simp;exact nx (i+1,yl,true,_) [(1000,1000),(3,3),(4,4),(6,6)] (hN _ hd2 hrl2) (by simp only;omega) (h4:=by simp[qah,e2])
   | false =>
    have hrb:qhL false l p=qbo l p.pa:=rfl;rw[hrb]at hd2 hrl2;generalize qbo l p.pa=Y at *
    obtain⟨yl,yo⟩:=Y;simp;refine⟨by omega,?_⟩;refine c2.call ?_;cases ok
    all_goals
     simp;exact nx (i+1,yl,true,_) [(1000,1000),(3,3),(4,4),(6,6)] (hN _ hd2 hrl2) (by simp only;omega) (h4:=by simp[qah,e2])
end Go.Av.F
end
section
namespace Go.Av.F
open Go Go.Av Go.Proofs Go.Proofs.Tryz
def qhc (d:DK) (text:List UInt8):List DE→Int
 | []=>0
 | e::r=>if e.es=smB text∧(qag d ⟨e.ea,smB text,0⟩).2=0∧(qag d ⟨e.ea,smB text,0⟩).1=text then e.ea else qhc d text r
def qdR (d:DK) (l:List DE) (text:List UInt8):Int:=if qam l=true then qhc d text l else 0
theorem qAb (d:DK) (hd:DkT d) (l:List DE) (text:List UInt8) (hl:l.length≤1048576) (ht:text.length≤maxLen) :
  CV prog 272 [.agg d.row,.lst 3 (l.map DE.row),.str text] (.int .i64 (qdR d l text)):=by
 obtain⟨R,hR⟩:∃ R,qdR d l text=R:=⟨_,rfl⟩;rw[hR];unfold qdR at hR;have c0:=qwW text ht;have c1:=qfQ l hl;refine cvx func272 [(6,[zJ 0 [3] [],zJ 1 [] [3],zJ 2 [] [3],zJ 3 [] [3],zJ 4 [] [3],zJ 5 [] [3],zJ 6 [] [3],zJ 7 [] [3],zI 8,zI 9,zI 10,zI 11,zI 12,zI 13])] ntmps272 rfl rfl rfl ?_ (hca:=by simp[DK.row,DE.row]);simp[DK.row];refine c0.call ?_;simp;refine qbe (X:=Nat) [1,2,3,6,7,8] [(3,3)] (fun i=>[(8,.int .i64 i)]) (fun _=>[]) (fun i=>l.length-i) (fun i=>i≤l.length∧(if qam l=true then qhc d text (l.drop i) else 0)=R) 0 ⟨by simp,by simpa using hR⟩ ?_ (he:=by simp[qah])
 rintro i ⟨hi,hd2⟩;cases hok:qam l with
 | false =>
  rw[hok]at c1;rw[if_neg (by simp[hok])]at hd2;simp[qah];refine c1.call ?_;simp[← hd2]
 | true =>
  rw[hok]at c1;rw[if_pos hok]at hd2;cases hr:l.drop i with
  | nil =>
   have:=qaY hr;rw[hr]at hd2;have hie:i=l.length:=by omega
   subst hie;simp only[qhc]at hd2;simp[qah];refine c1.call ?_;simp[← hd2]
  | cons e q =>
   obtain⟨k1,e0,e1,k3⟩:=qaZ hr;rw[hr]at hd2;simp only[qhc]at hd2;have hli:(i:Int)<l.length:=by omega
   have e2:=qap ((i:Int)+1) (by omega) (by omega);have c2:=qd9 d hd ⟨e.ea,smB text,0⟩;have hN:¬ (e.es=smB text∧(qag d ⟨e.ea,smB text,0⟩).2=0∧(qag d ⟨e.ea,smB text,0⟩).1=text)→qhc d text (l.drop (i+1))=R:=fun h=>by rw[if_neg h]at hd2;rw[k3];exact hd2
   have hY:(e.es=smB text∧(qag d ⟨e.ea,smB text,0⟩).2=0∧(qag d ⟨e.ea,smB text,0⟩).1=text)→e.ea=R:=fun h=>by rw[if_pos h]at hd2;exact hd2
   generalize qag d ⟨e.ea,smB text,0⟩=Y at *
   obtain⟨yt,yc⟩:=Y;simp only[DK.row,PT.row]at c2;simp[qah];refine c1.call ?_;simp[hli,k1,e0,e1,DE.row,qah];refine⟨fun q1=>?_,fun q1=>nx (i+1) [(3,3)] ⟨by omega,?_⟩ (h4:=by simp[qah,e2])⟩
   ·refine c2.call ?_;simp;refine⟨fun q2=>⟨fun q3=>?_,fun q3=>?_⟩,fun q2=>?_⟩
    ·exact⟨k1,by simp[e1,DE.row],by rw[e1];simpa [DE.row]using hY ⟨q1,q2,q3⟩⟩
    ·exact nx (i+1) [(3,3)] ⟨by omega,hN fun h=>q3 h.2.2⟩ (h4:=by simp[qah,e2])
    ·exact nx (i+1) [(3,3)] ⟨by omega,hN fun h=>q2 h.2.1⟩ (h4:=by simp[qah,e2])
   ·exact hN fun h=>q1 h.1
def qdo (d:DK) (c:CO) (text:List UInt8):DK×Int×Int :=
 if 0<qdR d c.ddt text then (d,qdR d c.ddt text,0) else
 if qpH c d.s0.length=false then (d,0,7) else
 if (qaw d ((qaV c d.s0.length).headD 0) text).2=false then (d,0,7) else
 ((qaw d ((qaV c d.s0.length).headD 0) text).1,(qaV c d.s0.length).headD 0,0)
theorem qw7 (d:DK) (hd:DkT d) (c:CO) (h:CoT c) (text:List UInt8) (ht:text.length≤1048576) :
  ACall prog 207 [.agg d.row,qfb c 1000,.str text] [(1000,kcs c.sets)] (fun r L'=>r=.tup [.agg (qdo d c text).1.row,.int .i64 (qdo d c text).2.1,.int .i64 (qdo d c text).2.2]∧L'=[(1000,kcs c.sets)]):=by
 obtain⟨R,hR⟩:∃ R,qdo d c text=R:=⟨_,rfl⟩;rw[hR];unfold qdo at hR;have hl:=hd.l0;have c1:=qAb d hd c.ddt text h.ddt (by simp[maxLen];omega);have c2:=qDx c h d.s0.length (by omega) (by omega);have c3:=qq6 c h d.s0.length (by omega);have hmf:qpH c d.s0.length=true→0<(qaV c d.s0.length).length:=fun hm=>by
  simp only[qpH,Bool.and_eq_true,decide_eq_true_eq]at hm;omega
 have c4:=qgM d hd ((qaV c d.s0.length).headD 0) text ht;have hcons:∀ l:List Int,0<l.length→∃ fr,l=l.headD 0::fr:=fun l hl=>by
  cases l with
  | nil=>simp at hl
  | cons x r=>exact⟨r,rfl⟩
 have hfe:=fun hm=>hcons _ (hmf hm);generalize qdR d c.ddt text=a at *
 generalize qpH c d.s0.length=m at *
 generalize qaV c d.s0.length=l at *
 generalize l.headD 0=b at *
 generalize qaw d b text=x at *
 obtain⟨xd,xo⟩:=x;simp only[DK.row,CO.row]at c1 c2 c3 c4;refine acx func207 [] ntmps207 rfl rfl rfl ?_;simp[DK.row,qfb];refine c1.call ?_;by_cases h0:0<a
 ·rw[if_pos h0]at hR;subst hR;simp[h0]
 ·rw[if_neg h0]at hR;simp[h0];refine c2.view (by simp[qb5,mtA,kcs,qal,qa1]) ?_;cases m with
  | false =>
   rw[if_pos rfl]at hR;subst hR;simp
  | true =>
   rw[if_neg (by simp)]at hR;obtain⟨fr,hf⟩:=hfe rfl;subst hf
   ·simp;refine qaS [] (by kernel_rfl) c3 (by simp[qb5,mtA,kcs,qal,qa1]) (by simp) trivial (by simp) (by simp) ?_;rintro r L' ⟨rfl,rfl⟩;refine⟨by simp,by simp[kin,qad],[(900,33)],⟨by simp,by simp,by simp,by simp,by simp⟩,?_⟩;simp only[qaf];simp[kin,qad];refine c4.call ?_;cases xo with
    | false =>
     rw[if_pos rfl]at hR;subst hR;simp
    | true =>
     rw[if_neg (by simp)]at hR;subst hR;simp
def zPT:PT:=⟨0,0,0⟩
def qhN (p:PT):List PT:=[p,zPT,zPT,zPT,zPT,zPT,zPT,zPT]
def qf4 (d x:DK) (c:CO) (k i:Nat) (s:CS) (old now:PT):DK×CO×Int :=
 let a:=qbL true (qhN now) (c.ddt,c.dirty,true)
 let b:=qbL false (qhN old) (a.1,a.2.1,true)
 if a.2.2=false∨b.2.2=false then (d,c,7) else
 (x,⟨c.txg,c.sets.set k ⟨s.name,s.kind,s.frm,s.map.set i now,s.home,true⟩,b.1,c.parts,b.2.1,c.safe,c.logn⟩,0)
def qcR (d:DK) (c:CO) (k i:Nat) (text:List UInt8):DK×CO×Int :=
 match c.sets[k]? with
 | none=>(d,c,7)
 | some s =>
  let old:=s.map[i]?.getD zPT
  if text=[] then qf4 d d c k i s old zPT else
  if c.txg=1000000 then (d,c,7) else
  if (qdo d c text).2.2≠0 then (d,c,(qdo d c text).2.2) else
  if (qdo d c text).2.1=old.pa then ((qdo d c text).1,c,0) else
  qf4 d (qdo d c text).1 c k i s old (qbP (qdo d c text).2.1 text (c.txg+1))
theorem tk3 {X F:List AV} {n k:Nat} (h:X.length=k):List.take (k+n) (X++F)=X++List.take n F:=by
 subst h;rw[List.take_append,qGh (by omega)]
 congr 2;omega
theorem dp3 {X F:List AV} {n k:Nat} (h:X.length=k):List.drop (k+n) (X++F)=List.drop n F:=by
 subst h;rw[List.drop_append,qGb (by omega),qGC]
 congr 1;omega
theorem qh5:∀ (l:List PT) (i:Nat) (p:PT),i<l.length→(l.set i p).flatMap PT.row=(l.flatMap PT.row).take (i * 3)++(p.row++(l.flatMap PT.row).drop (i * 3+3))
 | [],i,p,h=>by simp at h
 | x::q,0,p,h=>by simp[PT.row]
 | x::q,i+1,p,h=>by
  have ih:=qh5 q i p (by simpa using h);have hx:x.row.length=3:=rfl;rw[qIV,qIn,ih,qIn,show(i+1) * 3=3+i * 3 by omega,tk3 hx,show 3+i * 3+3=3+(i * 3+3) by omega,dp3 hx,List.append_assoc]
theorem qlf (s:CS) (h8:s.map.length=8) {i:Nat} (hi:i<8) (p:PT):List.take 30 (List.take (3+i * 3) s.row++.int .i64 p.pa::.int .i64 p.ps::.int .i64 p.pb::List.drop (3+i * 3+3) s.row) ++
  .bool true::List.drop 31 (List.take (3+i * 3) s.row++.int .i64 p.pa::.int .i64 p.ps::.int .i64 p.pb::List.drop (3+i * 3+3) s.row)=CS.row ⟨s.name,s.kind,s.frm,s.map.set i p,s.home,true⟩:=by
 have hl:(s.map.flatMap PT.row).length=24:=by
  rw[qIP];exact qqK h8
 have hf:=qh5 s.map i p (by omega);have hh:s.home.row.length=3:=rfl;have e:s.row=[.str s.name,.int .i64 s.kind,.str s.frm]++(s.map.flatMap PT.row++(s.home.row++[.bool s.dirty])):=by simp[CS.row]
 have h3:([.str s.name,.int .i64 s.kind,.str s.frm]:List AV).length=3:=rfl;have t1:List.take (3+i * 3) s.row=[.str s.name,.int .i64 s.kind,.str s.frm]++(s.map.flatMap PT.row).take (i * 3):=by
  rw[e,tk3 h3,qIf (by omega)]
 have t2:List.drop (3+i * 3+3) s.row=(s.map.flatMap PT.row).drop (i * 3+3)++(s.home.row++[.bool s.dirty]):=by
  rw[e,show 3+i * 3+3=3+(i * 3+3) by omega,dp3 h3,qHg (by omega)]
 rw[t1,t2];have e2:([.str s.name,.int .i64 s.kind,.str s.frm]++(s.map.flatMap PT.row).take (i * 3))++.int .i64 p.pa::.int .i64 p.ps::.int .i64 p.pb::((s.map.flatMap PT.row).drop (i * 3+3)++(s.home.row++[.bool s.dirty])) =
   ([.str s.name,.int .i64 s.kind,.str s.frm]++(((s.map.set i p).flatMap PT.row)++s.home.row))++[.bool s.dirty]:=by
  rw[hf];simp[PT.row]
 have hl2:((s.map.set i p).flatMap PT.row).length=24:=by
  rw[qIP];exact qqK (by simpa using h8)
 rw[e2,qIR (by simp[hl2,hh]),qGb (by simp[hl2,hh])];simp[CS.row]
theorem qed (more:Bool):∀ (m:List PT) (x:List DE×Bool×Bool),(qbL more m x).1.length≤x.1.length+m.length
 | [],x=>by simp[qbL]
 | p::q,x=>by
  simp only[qbL];split
  ·have:=qed more q x;simp;omega
  ·have h1:=qed more q ((qhL more x.1 p).1,true,x.2.2 && (qhL more x.1 p).2);have h2:=qoj more x.1 p;simp at h1 ⊢;omega
theorem qzZ (d:DK) (hd:DkT d) (c:CO) (h:CoT c) (hm:CoM c) (k i:Nat) (hk:k<c.sets.length) (hi:i<8) (text:List UInt8) (ht:text.length≤1048576) (hx:0≤c.txg∧c.txg≤1000000) :
  ACall prog 103 [.agg d.row,.agg c.row,.int .i64 k,.int .i64 i,.str text] [] (fun r L'=>r=.tup [.agg (qcR d c k i text).1.row,qfb (qcR d c k i text).2.1 8,.int .i64 (qcR d c k i text).2.2]∧L'=[(8,kcs (qcR d c k i text).2.1.sets)]):=by
 obtain⟨R,hR⟩:∃ R,qcR d c k i text=R:=⟨_,rfl⟩;rw[hR];unfold qcR at hR;obtain⟨s,e0⟩:∃ s,c.sets[k]=s:=⟨_,rfl⟩;have e1:c.sets[k]?=some s:=by rw[← e0];exact qF3 hk
 have h8:=h.m8 s (qHT e1);obtain⟨old,f1⟩:∃ p,s.map[i]?=some p:=⟨_,qF3 (by omega)⟩;rw[e1]at hR;simp only[f1,qGU]at hR;have ck:=qw3 c h;have cb:=qw7 d hd c h text ht;simp only[CO.row]at ck;simp only[DK.row,qfb]at cb;have hki:(k:Int)<c.sets.length:=by omega
 have hi8:(i:Int)<8:=by omega
 refine acx func103 [(6,[zJ 0 [5] [],zJ 1 [6] [5],zJ 2 [] [6],zI 3,zI 4]),(10,[zJ 0 [5] [],zJ 1 [6] [5],zJ 2 [] [5,6],zJ 3 [] [6],zI 4,zI 5]),(14,[zJ 0 [15] [],zJ 1 [6] [15],zJ 2 [] [6],zI 3,zI 4]),(18,[zJ 0 [5] [],zJ 1 [6] [5],zJ 2 [] [6],zI 3,zI 4]),(19,[zI 0,zJ 1 [21] [],zJ 2 [] [21],zJ 3 [] [21],zJ 4 [14] [21],zJ 5 [8] [14],zJ 6 [] [14],zI 7,zI 8]),(21,[zJ 0 [15] [],zJ 1 [21] [15],zJ 2 [] [21],zI 3,zI 4])] ntmps103 rfl rfl rfl ?_;simp[DK.row,CO.row];refine qac [] (by kernel_rfl) ck (by simp) (by simpa [CO.row]using qb3 c) trivial (by simp) (by simp) ?_;rintro r L' ⟨rfl,rfl⟩;refine⟨[(8,8)],⟨by simp,by simp,by simp,by simp,by simp⟩,?_⟩;simp only[qaf];have hok:∀ m:List PT,m.length=8→∀ (c2:CO) (more:Bool),c2.ddt.length≤1000000→c2.sets.length≤1048576→ACall prog 209 [qfb c2 1000,.agg (m.flatMap PT.row),.bool more] [(1000,kcs c2.sets)]
   (fun r L'=>r=.tup [qfb ⟨c2.txg,c2.sets,(qbL more m (c2.ddt,c2.dirty,true)).1,c2.parts,(qbL more m (c2.ddt,c2.dirty,true)).2.1,c2.safe,c2.logn⟩ 1000,.bool (qbL more m (c2.ddt,c2.dirty,true)).2.2]∧L'=[(1000,kcs c2.sets)]):=fun m h8 c2 more h1 h2=>qz5 c2 m h8 more h1 h2
 by_cases ht0:text=[]
 ·rw[if_pos ht0]at hR;simp[qfb,CO.row,DK.row,hki,hk,e0,e1,kcs,qaC s h8,hi8,qjc s f1,ht0];refine⟨by omega,?_⟩;obtain⟨A,hA⟩:∃ A,qbL true (qhN zPT) (c.ddt,c.dirty,true)=A:=⟨_,rfl⟩;have r1:=hok (qhN zPT) rfl c true (by have:=hm.ddt;omega) (by have:=hm.sets;omega);rw[hA]at r1;have hAl:A.1.length≤1008:=by
   have:=qed true (qhN zPT) (c.ddt,c.dirty,true);rw[hA]at this;have:=hm.ddt;simp[qhN]at *
   omega
  obtain⟨B,hB⟩:∃ B,qbL false (qhN old) (A.1,A.2.1,true)=B:=⟨_,rfl⟩;have r2:=hok (qhN old) rfl ⟨c.txg,c.sets,A.1,c.parts,A.2.1,c.safe,c.logn⟩ false (by simp only;omega) (by have:=hm.sets;simp only;omega);simp only[hB]at r2;unfold qf4 at hR;simp only[hA,hB]at hR;obtain⟨al,ad,ao⟩:=A;obtain⟨bl,bd,bo⟩:=B;simp only[qfb,qhN,zPT,qIn,List.flatMap_nil,PT.row,qHS,qGC]at r1 r2;refine qac [(1000,.whole 8)] (by kernel_rfl) r1 (by simp) (by simp) (by simp[kcs];exact qaa rfl (qa5 _)) (by simp) (by simp) ?_;rintro r L' ⟨rfl,rfl⟩;refine⟨[],⟨by simp,by simp,by simp,by simp,by simp⟩,?_⟩;simp only[qaf];simp;refine qac [(1000,.whole 8)] (by kernel_rfl) r2 (by simp) (by simp) (by simp;exact qaa rfl (qa5 _)) (by simp) (by simp) ?_;rintro r L' ⟨rfl,rfl⟩;refine⟨[],⟨by simp,by simp,by simp,by simp,by simp⟩,?_⟩;simp only[qaf];simp[kcs,hki,hk,e0,e1,hi8,qaC s h8];have hrow:=qlf s h8 hi zPT;simp only[zPT]at hrow;cases ao with
  | false =>
   rw[if_pos (.inl rfl)]at hR;subst hR;simp
  | true =>
   cases bo with
   | false =>
    rw[if_pos (.inr rfl)]at hR;subst hR;simp
   | true =>
    rw[if_neg (by simp)]at hR;subst hR;simp[hrow,qH5];exact⟨by omega,rfl⟩
 ·rw[if_neg ht0]at hR;by_cases hx0:c.txg=1000000
  ·rw[if_pos hx0]at hR;subst hR;simp[qfb,CO.row,DK.row,hki,hk,e0,e1,kcs,qaC s h8,hi8,qjc s f1,ht0,hx0];omega
  ·rw[if_neg hx0]at hR;simp[qfb,CO.row,DK.row,hki,hk,e0,e1,kcs,qaC s h8,hi8,qjc s f1,ht0,hx0];refine⟨by omega,?_⟩;refine qac [(1000,.whole 8)] (by kernel_rfl) cb (by simp) (by simp) (by simp[kcs];exact qaa rfl (qa5 _)) (by simp) (by simp) ?_;rintro r L' ⟨rfl,rfl⟩;refine⟨[],⟨by simp,by simp,by simp,by simp,by simp⟩,?_⟩;simp only[qaf];obtain⟨X,hX⟩:∃ X,qdo d c text=X:=⟨_,rfl⟩;simp only[hX]at hR ⊢;obtain⟨xd,xa,xc⟩:=X;have e5:=qap (c.txg+1) (by omega) (by omega);have ct:=qrd xa text (c.txg+1) (by simp[maxLen];omega);simp only[PT.row]at ct;simp[e5];refine⟨fun q1=>?_,fun q1=>?_⟩
   ·simp only[q1,ne_eq,not_false_eq_true,if_true]at hR;subst hR;exact⟨rfl,⟨rfl,rfl,rfl⟩,⟨rfl,rfl,rfl,rfl,rfl,rfl,rfl⟩,rfl⟩
   ·simp only[q1,ne_eq,not_true_eq_false,if_false]at hR;refine ct.call ?_;simp;refine⟨fun q2=>?_,fun q2=>?_⟩
    ·rw[if_pos q2]at hR;subst hR;exact⟨rfl,⟨rfl,rfl,rfl⟩,⟨rfl,rfl,rfl,rfl,rfl,rfl,rfl⟩,rfl⟩
    ·rw[if_neg q2]at hR;obtain⟨A,hA⟩:∃ A,qbL true (qhN (qbP xa text (c.txg+1))) (c.ddt,c.dirty,true)=A:=⟨_,rfl⟩;have r1:=hok (qhN (qbP xa text (c.txg+1))) rfl c true (by have:=hm.ddt;omega) (by have:=hm.sets;omega);rw[hA]at r1;have hAl:A.1.length≤1008:=by
      have:=qed true (qhN (qbP xa text (c.txg+1))) (c.ddt,c.dirty,true);rw[hA]at this;have:=hm.ddt;simp[qhN]at *
      omega
     obtain⟨B,hB⟩:∃ B,qbL false (qhN old) (A.1,A.2.1,true)=B:=⟨_,rfl⟩;have r2:=hok (qhN old) rfl ⟨c.txg,c.sets,A.1,c.parts,A.2.1,c.safe,c.logn⟩ false (by simp only;omega) (by have:=hm.sets;simp only;omega);simp only[hB]at r2;unfold qf4 at hR;simp only[hA,hB]at hR;obtain⟨al,ad,ao⟩:=A;obtain⟨bl,bd,bo⟩:=B;simp only[qfb,qhN,zPT,qIn,List.flatMap_nil,PT.row,qHS,qGC]at r1 r2;refine qac [(1000,.whole 8)] (by kernel_rfl) r1 (by simp) (by simp) (by simp[kcs];exact qaa rfl (qa5 _)) (by simp) (by simp) ?_;rintro r L' ⟨rfl,rfl⟩;refine⟨[],⟨by simp,by simp,by simp,by simp,by simp⟩,?_⟩;simp only[qaf];simp;refine qac [(1000,.whole 8)] (by kernel_rfl) r2 (by simp) (by simp) (by simp;exact qaa rfl (qa5 _)) (by simp) (by simp) ?_;rintro r L' ⟨rfl,rfl⟩;refine⟨[],⟨by simp,by simp,by simp,by simp,by simp⟩,?_⟩;simp only[qaf];simp[kcs,hki,hk,e0,e1,hi8,qaC s h8];have hrow:=qlf s h8 hi (qbP xa text (c.txg+1));cases ao with
     | false =>
      rw[if_pos (.inl rfl)]at hR;subst hR;simp
     | true =>
      cases bo with
      | false =>
       rw[if_pos (.inr rfl)]at hR;subst hR;simp
      | true =>
       rw[if_neg (by simp)]at hR;subst hR;simp[hrow,qH5];omega
theorem qz0 (d:DK) (hd:DkT d) (c:CO) (h:CoT c) (hm:CoM c) (k i:Nat) (hk:k<c.sets.length) (hi:i<8) (text:List UInt8) (ht:text.length≤1048576) (hx:0≤c.txg∧c.txg≤1000000) :
  CV prog 103 [.agg d.row,.agg c.row,.int .i64 k,.int .i64 i,.str text] (.tup [.agg (qcR d c k i text).1.row,.agg (qcR d c k i text).2.1.row,.int .i64 (qcR d c k i text).2.2]):=by
 refine CV.of_frz (qzZ d hd c h hm k i hk hi text ht hx) ?_ (hca:=by simp[DK.row,qb3]) (hcv:=by simp[DK.row,qb3]);rintro r L' ⟨rfl,rfl⟩;refine⟨by simp,by simp,fun x hx=>by
  simp only[qHq,qHz,or_false]at hx;rcases hx with rfl;exact qa5 _,?_⟩
 simp[qa7,DK.row,CO.row,qfb,kcs,qal]
def nmP (l:List CS) (n:List UInt8):Nat:=(l.takeWhile fun x=>Op.bytesLess x.name n).length
theorem qrJ (l:List CS) (n:List UInt8):nmP l n=atP (l.map csB) n:=by
 unfold nmP atP
 induction l with
 | nil=>rfl
 | cons x r ih =>
  simp only[qGs,qIr];have:(csB x).name=x.name:=rfl;rw[this];split
  ·simpa using ih
  ·rfl
def dnB (c:CO) (op:BO):Int:=(doB (c.sets.map csB) op).2
theorem qv0 {bs:List BS} {n:List UInt8} (h:atB bs n=true):atP bs n<bs.length:=by
 obtain⟨u,hu,_⟩:=qda h;exact(qGy.1 hu).1
theorem qo0 {c:CO} {op:BO} (h:dnB c op=0):(op.kind=1∨op.kind=2∨op.kind=3∨op.kind=4∨op.kind=5∨op.kind=6)∧(op.kind≠1→nmP c.sets op.a<c.sets.length) ∧
  (op.kind=6→nmP c.sets op.b<c.sets.length)∧(op.kind=3→0≤op.i∧op.i<8∧op.text.length≤24):=by
 unfold dnB doB at h;rw[qrJ,qrJ,← List.length_map (f:=csB)];by_cases h1:op.kind=1
 ·exact⟨.inl h1,by omega,by omega,by omega⟩
 rw[if_neg h1]at h;by_cases h2:op.kind<1∨6<op.kind
 ·rw[if_pos h2]at h;simp at h
 rw[if_neg h2]at h;cases h3:atB (c.sets.map csB) op.a with
 | false=>rw[if_pos h3]at h;simp at h
 | true =>
  rw[if_neg (by simp[h3])]at h;have h4:=qv0 h3;obtain⟨t,ht,_⟩:=qda h3;rw[ht]at h;simp only at h;refine⟨by omega,fun _=>h4,fun h6=>?_,fun h6=>?_⟩
  ·rw[if_neg (by omega),if_neg (by omega),if_pos h6]at h;unfold qcS at h;rw[ht]at h;simp only at h;cases h5:atB (c.sets.map csB) op.b with
   | false=>rw[if_pos h5]at h;simp at h
   | true=>exact qv0 h5
  ·rw[if_neg (by omega),if_pos h6]at h;unfold qhv at h;rw[ht]at h;simp only at h;split at h
   ·simp at h
   ·omega
theorem qrp (c:CO) (root:Int):(qcf c root).length≤1+c.ddt.length+c.sets.length+c.parts.length:=by
 have h1:∀ (bs l:List Int),(qcQ l bs).length≤l.length+bs.length:=fun bs=>by
  induction bs with
  | nil=>intro l;simp[qcQ]
  | cons a r ih =>
   intro l;rw[qej];have:=ih (qf2 l a);have h2:(qf2 l a).length≤l.length+1:=by
    unfold qf2;split
    ·omega
    ·simp;omega
   simp only[qGk];omega
 have h2:(qf2 [] root).length≤1:=by
  unfold qf2;split <;> simp
 unfold qcf;have a1:=h1 (c.ddt.map DE.ea) (qf2 [] root);have a2:=h1 (c.sets.map fun s=>s.home.pa) (qcQ (qf2 [] root) (c.ddt.map DE.ea));have a3:=h1 (c.parts.map PT.pa) (qcQ (qcQ (qf2 [] root) (c.ddt.map DE.ea)) (c.sets.map fun s=>s.home.pa));simp only[qG4]at a1 a2 a3;omega
theorem qj4 {d:DK} {c:CO} (h:CoT c) (hz:(qbv d c).2.2=0):qbr d=true∧qak c=true∧qbr (qbv d c).1=true∧(qbv d c).1.s0.length=d.s0.length∧CoT (qbv d c).2.1∧CoM (qbv d c).2.1∧(qbv d c).2.1.txg=c.txg+1∧c.txg<1000000 ∧
  (qbv d c).2.1.logn=0∧(qbv d c).2.1.sets.length=c.sets.length:=by
 unfold qbv at hz ⊢;by_cases h1:qbr d=false∨qak c=false∨d.s0.length≤13
 ·rw[if_pos h1]at hz;simp at hz
 rw[if_neg h1]at hz ⊢;by_cases h2:qdf d c=false
 ·rw[if_pos h2]at hz;simp at hz
 rw[if_neg h2]at hz ⊢;have hd:qbr d=true:=by cases hx:qbr d <;> simp_all
 have hc:qak c=true:=by cases hx:qak c <;> simp_all
 obtain⟨hm,k⟩:=qbn hc;have ht:c.txg<1000000:=by
  cases hx:qdf d c with
  | false=>exact absurd hx h2
  | true =>
   simp only[qdf,Bool.and_eq_true,decide_eq_true_eq]at hx;exact hx.1
 have b1:=qjg hd c;obtain⟨b2,b3⟩:=qpj hd h hm;by_cases h3:(qd3 d c).2.2≠0
 ·rw[if_pos h3]at hz;exact absurd hz h3
 rw[if_neg h3]at hz ⊢;have f1:=qgn b1.1;have f2:=qb4 f1.1 (1+(c.txg+1) % 4) (qa9 (c.txg+1) (qaq d c).2.2);have f3:=qgn f2.1;have hsl:(qaq d c).2.1.sets.length=c.sets.length:=qf7 _ _ _;have hr:=qrp (qaq d c).2.1 (qaq d c).2.2.pa;have e1:=b3.sets;have e2:=b3.ddt;have e3:=b3.parts;unfold qd3 at hz ⊢;by_cases q1:(qaq d c).1.ok=false
 ·rw[if_pos q1]at hz;simp at hz
 rw[if_neg q1]at hz ⊢;by_cases q2:(qhK (qbB (qaq d c).1.d) (c.txg+1) (qaq d c).2.2).2=false
 ·rw[if_pos q2]at hz;simp at hz
 rw[if_neg q2];unfold qhK;exact⟨hd,hc,f3.1,by rw[f3.2.1,f2.2,f1.2.1,b1.2],⟨b2.sets,b2.ddt,b2.parts,by simp only;omega,b2.m8,b2.nm⟩,⟨b3.sets,b3.ddt,b3.parts⟩,rfl,ht,rfl,hsl⟩
theorem qs9 {d:DK} (hd:qbr d=true) (c:CO) (k i:Nat) (text:List UInt8):qbr (qcR d c k i text).1=true∧(qcR d c k i text).1.s0.length=d.s0.length∧(qcR d c k i text).2.1.logn=c.logn:=by
 have hb:qbr (qdo d c text).1=true∧(qdo d c text).1.s0.length=d.s0.length:=by
  unfold qdo;split
  ·exact⟨hd,rfl⟩
  split
  ·exact⟨hd,rfl⟩
  split
  ·exact⟨hd,rfl⟩
  ·exact qb4 hd _ _
 have hg:∀ (x:DK) (s:CS) (old now:PT),qbr x=true∧x.s0.length=d.s0.length→qbr (qf4 d x c k i s old now).1=true∧(qf4 d x c k i s old now).1.s0.length=d.s0.length∧(qf4 d x c k i s old now).2.1.logn=c.logn:=fun x s old now hx=>by
  unfold qf4;simp only;split
  ·exact⟨hd,rfl,rfl⟩
  ·exact⟨hx.1,hx.2,rfl⟩
 unfold qcR;split
 ·exact⟨hd,rfl,rfl⟩
 simp only;split
 ·exact hg _ _ _ _ ⟨hd,rfl⟩
 split
 ·exact⟨hd,rfl,rfl⟩
 split
 ·exact⟨hd,rfl,rfl⟩
 split
 ·exact⟨hb.1,hb.2,rfl⟩
 ·exact hg _ _ _ _ hb
structure PO where
 d:DK
 c:CO
 up:Bool
deriving DecidableEq,Inhabited
def PO.row (p:PO):List AV:=p.d.row++(p.c.row++[.bool p.up])
def qcZ (p:PO):Bool:=qbr p.d && decide (13<p.d.s0.length) && qak p.c
theorem qoa (p:PO) (hd:DkT p.d) (hc:CoT p.c):CV prog 59 [.agg p.row] (.bool (qcZ p)):=by
 have c1:=qdN p.d hd;have c2:=qks p.c hc;have hl:=hd.l0;unfold qcZ;simp only[DK.row,CO.row]at c1 c2;refine cvx func59 [] ntmps59 rfl rfl rfl ?_ (hca:=by simp[PO.row,DK.row,qb3]);simp[PO.row,DK.row,CO.row];refine c1.call ?_;cases qbr p.d with
 | false=>simp
 | true =>
  simp;by_cases h:13<p.d.s0.length
  ·simp[h,show(13:Int)<p.d.s0.length by omega,show ¬ (p.d.s0.length:Int)≤13 by omega];refine c2.call ?_;simp
  ·simp[h,show ¬ (13:Int)<p.d.s0.length by omega]
theorem qkM:qgF (.agg [.nils,.nils,.nils,.int .i64 0,.nils,.nils,.nils,.bool false,.nils,.int .i64 0,.bool false]) (.agg (PO.row ⟨zDK,zK,false⟩)) :=
 qiU (.cons (qa2 1) (.cons (qa2 1) (.cons (qa2 3) (.cons (qaE _) (.cons (qa2 31) (.cons (qa2 3) (.cons (qa2 3) (.cons (qaE _) (.cons (qa2 1) (.cons (qaE _) (.cons (qaE _) .nil)))))))))))
abbrev L2:=List (List UInt8)×List (List UInt8)
theorem qEQ:CoT zK:=by constructor <;> simp[zK]
theorem qsd (s:List UInt8) (hs:s.length≤1048576):CV prog 175 [.str s] (.bool (decide (420<s.length))):=by
 refine cvx func175 [] ntmps175 rfl rfl rfl ?_;simp
 try omega
def qm7 (n:Nat) (side at':Int):Bool:=decide (0≤side) && decide (side≤1) && decide (0≤at') && decide (at'<n)
theorem qh2 (d:DK) (h:DkT d) (side at':Int):CV prog 178 [.agg d.row,.int .i64 side,.int .i64 at'] (.bool (qm7 d.s0.length side at')):=by
 have:=h.l0;have e1:=qap ((d.s0.length:Int)-1) (by omega) (by omega);refine cvx func178 [] ntmps178 rfl rfl rfl ?_ (hca:=by simp[DK.row]);simp[DK.row];refine(qcI ..).call ?_;cases hw:wiB side 0 1 with
 | false =>
  simp;simp only[qm7,wiB]at *
  rw[hw];rfl
 | true =>
  simp[e1];refine(qcI ..).call ?_;simp;simp only[qm7,wiB,Bool.and_eq_true,decide_eq_true_eq]at *
  have:(at'≤(d.s0.length:Int)-1)↔at'<d.s0.length:=by omega
  simp[hw,this]
theorem qDC:RowT LT.row 29 115 3:=⟨qES,⟨_,_,_,qzx⟩,by simp[LT.row]⟩
abbrev qEy (d:DK):Ob:=⟨3,[d.row]⟩
theorem qA3 (d:DK) (h:DkT d) (w:LT) (hw:w.lx.length≤1048576):CW prog 177 [.agg w.row,.ptr 1000 0 0] (qEy d) (.bool (!qbb d w.ls w.la w.lx)):=by
 have c1:=qh2 d h w.ls w.la;have c2:=qsd w.lx hw;simp only[DK.row]at c1;refine cwx func177 [] ntmps177 rfl rfl rfl ?_ (hco:=by simp[clR,DK.row]);simp[DK.row,LT.row];refine c1.call ?_;cases hs:qm7 d.s0.length w.ls w.la with
 | false =>
  simp;simp only[qm7,qbb]at *
  rw[hs];rfl
 | true =>
  simp;refine c2.call ?_;simp;simp only[qm7,qbb]at *
  rw[hs];by_cases g:w.lx.length≤420
  ·simp[g] <;> omega
  ·simp[g] <;> omega
theorem qA2 (d:DK) (h:DkT d) (l:List LT) (hl:l.length≤1048576) (ht:∀ w∈l,w.lx.length≤1048576):CW prog 176 [.lst 3 (l.map LT.row),.fn 177 [.ptr 1000 0 0]] (qEy d) (.bool (l.any fun w=>!qbb d w.ls w.la w.lx)):=by
 have key:CW prog 254 [.lst 3 (l.map LT.row),.fn 177 [.ptr 1000 0 0]] (qEy d) (.int .i64 (ixR (fun w=>!qbb d w.ls w.la w.lx) 0 l)):=by
  refine cwx func254 [] ntmps254 rfl rfl rfl ?_ (hco:=by simp[clR,DK.row]);exact qA5 qDC _ l (by omega) (fun x hx=>rfl) (by simp[clR,DK.row]) fun x hx=>qA3 d h x (ht x hx)
 refine cwx func176 [] ntmps176 rfl rfl rfl ?_ (hco:=by simp[clR,DK.row]);simp;refine key.call 1000 (by simp) (by simp[LT.row]) ?_;simp[qoK]
theorem qpb (l:List (List UInt8)) (hl:l.length≤1048576) (ht:∀ x∈l,x.length≤1048576):CV prog 174 [.lst 1 (l.map qai),.fn 175 []] (.bool (l.any fun x=>decide (420<x.length))) :=
 qf0 (qsJ (fun x=>decide (420<x.length)) 175 l (by omega) (by kernel_rfl) fun s hs=>(qsd s (ht s hs)).c)
theorem qBN (d:DK):qbr d=(wiB d.s0.length 1 120 && decide (d.s1.length=d.s0.length) && !(d.s0.any fun x=>decide (420<x.length)) && !(d.s1.any fun x=>decide (420<x.length)) && (decide (d.late.length≤600) && !(d.late.any fun w=>!qbb d w.ls w.la w.lx))):=by
 have e:∀ l:List (List UInt8),(!(l.any fun x=>decide (420<x.length)))=l.all fun x=>decide (x.length≤420):=fun l=>by
  induction l with
  | nil=>rfl
  | cons x r ih =>
   simp only[qH2,qHm,Bool.not_or,ih]
   congr 1
   by_cases g:x.length≤420
   ·simp[g] <;> omega
   ·simp[g] <;> omega
 have e2:(!(d.late.any fun w=>!qbb d w.ls w.la w.lx))=d.late.all fun w=>qbb d w.ls w.la w.lx:=by
  induction d.late with
  | nil=>rfl
  | cons x r ih=>simp only[qH2,qHm,Bool.not_or,ih,Bool.not_not]
 rw[e,e,e2];unfold qbr wiB;have e3:decide ((1:Int)≤(d.s0.length:Int))=decide (1≤d.s0.length):=by simp;omega
 have e4:decide ((d.s0.length:Int)≤120)=decide (d.s0.length≤120):=by simp;omega
 rw[e3,e4];cases decide (1≤d.s0.length) <;> cases decide (d.s0.length≤120) <;> cases decide (d.s1.length=d.s0.length) <;> cases decide (d.late.length≤600) <;> simp
theorem qgk (d:DK) (h:DkT d):CV prog 86 [.agg d.row] (.bool (qbr d)):=by
 rw[qBN];have h0:=h.l0;have h1:=h.l1;have h2:=h.l2;have c1:=qpb d.s0 h0 h.t0;have c2:=qpb d.s1 h1 h.t1;have c3:=qA2 d h d.late h2 h.t2;have c0:=qcI d.s0.length 1 120;generalize hA:wiB d.s0.length 1 120=A at *
 generalize hB:(d.s0.any fun x=>decide (420<x.length))=B at *
 generalize hC:(d.s1.any fun x=>decide (420<x.length))=C at *
 generalize hD:(d.late.any fun w=>!qbb d w.ls w.la w.lx)=D at *
 refine cvx func86 [] ntmps86 rfl rfl rfl ?_ (hca:=by simp[DK.row]);simp[DK.row];refine c0.call ?_;cases A with
 | false=>simp
 | true =>
  by_cases g:d.s1.length=d.s0.length
  ·simp[g];refine c1.call ?_;cases B with
   | true=>simp
   | false =>
    simp;refine c2.call ?_;cases C with
    | true=>simp
    | false =>
     by_cases g2:d.late.length≤600
     ·simp[g2,show(d.late.length:Int)≤600 by omega];refine c3.call 1 (by simp[DK.row]) (by simp[LT.row]) ?_;simp
     ·simp[g2,show ¬ (d.late.length:Int)≤600 by omega]
  ·simp[g,show ¬ (d.s1.length:Int)=d.s0.length by omega]
theorem qr5 (d:DK) (h:DkT d) (side at':Int) (hs:side=0∨side=1) (ha:0≤at'∧at'<d.s0.length) (h1:d.s1.length=d.s0.length):CV prog 95 [.agg d.row,.int .i64 side,.int .i64 at'] (.str (qdZ d side at')):=by
 obtain⟨R,hR⟩:∃ R,qdZ d side at'=R:=⟨_,rfl⟩;rw[hR];have h0:=h.l0;have h2:=h.l2;refine cvx func95 [] ntmps95 rfl rfl rfl ?_ (hca:=by simp[DK.row]);have e0:=qap ((d.late.length:Int)-1) (by omega) (by omega);simp[DK.row,e0];refine qbe (X:=Nat) [1,2,3,7] [(3,3)] (fun i=>[(7,.int .i64 ((i:Int)-1))]) (fun _=>[]) (fun i=>i) (fun i=>i≤d.late.length∧(d.late.drop i).all (fun w=>!qdk side at' w)=true) d.late.length (by simp) ?_ (he:=by simp[qah]);rintro i ⟨hi,hd⟩;cases i with
 | zero =>
  have hf:d.late.reverse.find? (qdk side at')=none:=by
   rw[qIw];intro y hy;rw[qII]at hy;simpa using qGf.1 hd y hy
  unfold qdZ at hR;rw[hf]at hR;have ha0:at'.toNat<d.s0.length:=by omega
  have ha1:at'.toNat<d.s1.length:=by omega
  have ha1':at'<d.s1.length:=by omega
  rcases hs with rfl | rfl
  ·have hx:d.s0[at'.toNat]?=some R:=by
    rw[qF3 ha0];simpa [qpu,qF3 ha0]using hR
   have hx0:=(qGy.1 hx).2;simp[qah,ha.1,ha.2,ha0,hx,hx0,qai]
  ·have hx:d.s1[at'.toNat]?=some R:=by
    rw[qF3 ha1];simpa [qpu,qF3 ha1]using hR
   have hx0:=(qGy.1 hx).2;simp[qah,ha.1,ha1',ha1,hx,hx0,qai]
 | succ k =>
  have hk:k<d.late.length:=by omega
  obtain⟨w,hw⟩:∃ w,d.late[k]?=some w:=⟨_,qF3 hk⟩;have hw0:=(qGy.1 hw).2;have e1:((k+1:Nat):Int)-1=k:=by omega
  have e2:(0:Int)≤k:=by omega
  have e3:(k:Int)<d.late.length:=by omega
  have e4:=qap ((k:Int)-1) (by omega) (by omega);have hf:=qoV (qdk side at') hw hd;have hdk:(d.late.drop k).all (fun w=>!qdk side at' w)=(!qdk side at' w && (d.late.drop (k+1)).all (fun w=>!qdk side at' w)):=by
   rw[qF7 hk,hw0,qHm]
  have hnx:qdk side at' w=false→∀ x∈d.late.drop k,qdk side at' x=false:=fun hl x hx=>by
   rw[hl,hd]at hdk;simpa using qGf.1 hdk x hx
  have hlx:qdk side at' w=true→w.lx=R:=fun hl=>by
   rw[if_pos hl]at hf;unfold qdZ at hR;rw[hf]at hR;exact hR
  simp only[e1];simp[qah,LT.row,hk,hw,hw0,e2,e3,e4];refine⟨fun q1=>⟨fun q2=>hlx (by simp[qdk,q1,q2]),fun q2=>nx k [(3,3)] ⟨by omega,hnx (by simp[qdk,q2])⟩ (h4:=by simp[qah,e4])⟩,fun q1=>nx k [(3,3)] ⟨by omega,hnx (by simp[qdk,q1])⟩ (h4:=by simp[qah,e4])⟩
theorem qEc (d:DK) (hd:qbr d=true) (p:PT) (side:Int) (hs:side=0∨side=1):CV prog 94 [.agg d.row,.agg p.row,.int .i64 side] (.bool (qbb d side p.pa [] && decide ((smB (qdZ d side p.pa):Int)=p.ps))):=by
 have h:=qeA hd;have c1:=qh2 d h side p.pa;have hse:qbb d side p.pa []=qm7 d.s0.length side p.pa:=by simp[qbb,qm7]
 simp only[DK.row]at c1;refine cvx func94 [(1,[zJ 0 [3] [],zJ 1 [] [3],zJ 2 [] [3],zJ 3 [4] [3],zI 4,zI 5,zJ 6 [3] [],zJ 7 [] [3],zJ 8 [] [3],zJ 9 [4] [3],zJ 12 [] [3,4],zJ 13 [4] [3,4],zJ 10 [] [4],zJ 11 [] [4],zI 14,zI 15,zI 16])] ntmps94 rfl rfl rfl ?_ (hca:=by simp[DK.row,PT.row]);simp[DK.row,PT.row];refine c1.call ?_;rw[hse];cases hb:qm7 d.s0.length side p.pa with
 | false=>simp
 | true =>
  obtain⟨n1,n2,n3⟩:=thereB_iff.1 (hse.trans hb);have c2:=qr5 d h side p.pa n1 n2 (qbM hd).2.2.1;have c3:CV prog 201 [.str (qdZ d side p.pa)] (.int .i64 (smB (qdZ d side p.pa):Nat)):=qtV _ (by have:=qeT hd side p.pa;simp[maxLen];omega);simp only[DK.row]at c2;simp;refine c2.call ?_;simp;refine c3.call ?_;simp;by_cases q:(smB (qdZ d side p.pa):Int)=p.ps <;> simp[q]
theorem qtq {d:DK} (hd:qbr d=true) {p:PT} (hp:qaL p=true) (h0:0<p.pa) (side:Int):qaW d p side=(qbb d side p.pa [] && decide ((smB (qdZ d side p.pa):Int)=p.ps)):=by
 unfold qaW qbJ;cases h:qbb d side p.pa [] <;> simp[hd,hp,h0]
theorem qef (d:DK) (h:DkT d) (p:PT):CV prog 38 [.agg d.row,.agg p.row] (.tup [.str (qag d p).1,.int .i64 (qag d p).2]):=by
 obtain⟨R,hR⟩:∃ R,qag d p=R:=⟨_,rfl⟩;rw[hR];unfold qag at hR;have c1:=qgk d h;have c2:=qpB p;simp only[DK.row,PT.row]at c1 c2;refine cvx func38 [] ntmps38 rfl rfl rfl ?_ (hca:=by simp[DK.row,PT.row]);have hz:(qaL p && decide (p.pa=0))=(decide (p.pa=0) && decide (p.ps=0) && decide (p.pb=0)):=by
  unfold qaL;by_cases g:p.pa=0 <;> simp[g]
 rw[hz]at hR;by_cases q0:p.pa=0∧p.ps=0∧p.pb=0
 ·rw[if_pos (by simp[q0])]at hR;subst hR;obtain⟨a1,a2,a3⟩:=q0;simp[DK.row,PT.row,a1,a2,a3]
 ·rw[if_neg (by simpa [and_assoc]using q0)]at hR;have q0':p.pa=0→p.ps=0→¬ p.pb=0:=fun a b c=>q0 ⟨a,b,c⟩;have hno:qbr d=false∨qar p=false→R=([],2):=fun hb=>by
   rw[← hR];have e:∀ side,qaW d p side=false:=fun side=>by
    cases hx:qaW d p side with
    | false=>rfl
    | true =>
     obtain⟨m1,m2,m3,_⟩:=qdx hx;rcases hb with hb | hb
     ·rw[m1]at hb;cases hb
     ·simp[qar,m2]at hb;omega
   simp[e]
  simp[DK.row,PT.row];refine⟨fun a b c=>absurd c (q0' a b),fun hne=>?_⟩;clear hne;refine c1.call ?_;cases hok:qbr d with
  | false =>
   have:=hno (.inl hok);subst this;simp
  | true =>
   simp;refine c2.call ?_;cases hre:qar p with
   | false =>
    have:=hno (.inr hre);subst this;simp
   | true =>
    have hp:qaL p=true:=by simp[qar]at hre;exact hre.1
    have h0:0<p.pa:=by
     simp[qar]at hre;unfold qaL at hp;rw[if_neg hre.2]at hp;simp at hp;omega
    have hsd:=qtq hok hp h0;have key:∀ j:Nat,j<2→qaW d p j=true→(∀ k:Nat,k<j→qaW d p k=false)→R=(qdZ d j p.pa,0):=fun j hj h1 h2=>by
     rw[← hR];rcases(show j=0∨j=1 by omega)with rfl | rfl
     ·have h1':qaW d p 0=true:=h1;simp[h1']
     ·have h2':qaW d p 0=false:=h2 0 (by omega);have h1':qaW d p 1=true:=h1;simp[h1',h2']
    have key2:qaW d p 0=false→qaW d p 1=false→R=([],2):=fun h1 h2=>by rw[← hR,h1,h2];simp
    simp;refine qbe (X:=Nat) [2,3,4,5,16] [(2,2),(3,3)] (fun i=>[(16,.int .i64 i)]) (fun _=>[]) (fun i=>2-i) (fun i=>i≤2∧∀ k:Nat,k<i→qaW d p k=false) 0 (by simp) ?_ (he:=by simp[qah]);rintro i ⟨hi,hf⟩;by_cases h2:i=2
    ·subst h2;have:=key2 (hf 0 (by omega)) (hf 1 (by omega));simp[qah,this]
    ·have h2':i<2:=by omega
     have h2i:(i:Int)<2:=by omega
     have e2:=qap ((i:Int)+1) (by omega) (by omega);have c4:=qEc d hok p i (by omega);rw[← hsd]at c4;simp only[DK.row,PT.row]at c4;simp[qah,h2i];refine c4.call ?_;cases hb:qaW d p i with
     | true =>
      have hk:=key i h2' hb hf;obtain⟨m1,m2,m3,m4,m5⟩:=qdx hb;obtain⟨n1,n2,n3⟩:=thereB_iff.1 m4;have c5:=qr5 d h i p.pa n1 n2 (qbM m1).2.2.1;simp only[DK.row]at c5;simp;refine c5.call ?_;simp[hk]
     | false =>
      simp;exact nx (i+1) [(2,2),(3,3)] ⟨by omega,fun k hk=>by
       rcases(show k<i∨k=i by omega)with h | rfl
       ·exact hf k h
       ·exact hb⟩ (h4:=by simp[qah,e2])
theorem qnm (at':Int) (text:List UInt8) (birth:Int) (ht:text.length≤maxLen):CV prog 221 [.int .i64 at',.str text,.int .i64 birth] (.agg (qbP at' text birth).row):=by
 have c1:CV prog 201 [.str text] (.int .i64 (smB text:Nat)):=qtV text ht;have c2:=qpB ⟨at',smB text,birth⟩;have hp:(at'<1∨qaL ⟨at',smB text,birth⟩=false)↔qar ⟨at',smB text,birth⟩=false:=by
  unfold qar qaL;simp only;by_cases g:at'=0
  ·simp[g]
  ·by_cases g2:at'<1
   ·simp[g,g2];omega
   ·simp[g,g2]
 unfold qbP;simp only[PT.row]at c2;generalize qar ⟨at',smB text,birth⟩=B at *
 refine cvx func221 [] ntmps221 rfl rfl rfl ?_ (hcv:=by split <;> simp[PT.row]);simp;refine c1.call ?_;simp;refine c2.call ?_;cases B with
 | false =>
  rw[if_pos (hp.2 rfl)];simp[PT.row]
 | true =>
  rw[if_neg (fun h=>by have:=hp.1 h;cases this)];simp[PT.row]
theorem qAT (w:LT):∀ y∈w.row,qdn y=true:=by simp[LT.row]
theorem qvT (l:List (List UInt8)) (hl:l.length≤1048576):ACall prog 213 [.lst 1 (l.map qai)] [] (fun r L'=>r=.sl 7 0 l.length∧L'=[(7,qas l)]):=by
 have key:ACall prog 213 [.lst 1 (l.map qai)] [] (fun r L'=>(l=[]∧r=.nils∧L'=[])∨(r=.sl 7 0 l.length∧L'=[(7,qas l)])):=by
  refine acx func213 [] ntmps213 rfl rfl rfl ?_;by_cases h:l=[]
  ·subst h;simp[qas]
  ·simp[h,qas,qai];omega
 refine ACall.nils (id:=7) (sz:=1) key (by simp) ?_;rintro r L' (⟨rfl,rfl,rfl⟩ | ⟨rfl,rfl⟩)
 ·exact .inr ⟨rfl,rfl,rfl⟩
 ·exact .inl ⟨rfl,rfl⟩
theorem qED (l:List LT) (hl:l.length≤1048576):ACall prog 214 [.lst 3 (l.map LT.row)] [] (fun r L'=>r=.sl 7 0 l.length∧L'=[(7,qcE l)]):=by
 have key:ACall prog 214 [.lst 3 (l.map LT.row)] [] (fun r L'=>(l=[]∧r=.nils∧L'=[])∨(r=.sl 7 0 l.length∧L'=[(7,qcE l)])):=by
  refine acx func214 [] ntmps214 rfl rfl rfl ?_;by_cases h:l=[]
  ·subst h;simp[qcE]
  ·simp[h,qcE];exact⟨by omega,fun x _ y hy=>qAT x y hy⟩
 refine ACall.nils (id:=7) (sz:=3) key (by simp) ?_;rintro r L' (⟨rfl,rfl,rfl⟩ | ⟨rfl,rfl⟩)
 ·exact .inr ⟨rfl,rfl,rfl⟩
 ·exact .inl ⟨rfl,rfl⟩
theorem qEF (l:List CS) (hl:l.length≤1048576):ACall prog 196 [.lst 31 (l.map CS.row)] [] (fun r L'=>r=.sl 7 0 l.length∧L'=[(7,kcs l)]):=by
 have key:ACall prog 196 [.lst 31 (l.map CS.row)] [] (fun r L'=>(l=[]∧r=.nils∧L'=[])∨(r=.sl 7 0 l.length∧L'=[(7,kcs l)])):=by
  refine acx func196 [] ntmps196 rfl rfl rfl ?_;by_cases h:l=[]
  ·subst h;simp[kcs]
  ·simp[h,kcs];exact⟨by omega,fun x _ y hy=>qeB x y hy⟩
 refine ACall.nils (id:=7) (sz:=31) key (by simp) ?_;rintro r L' (⟨rfl,rfl,rfl⟩ | ⟨rfl,rfl⟩)
 ·exact .inr ⟨rfl,rfl,rfl⟩
 ·exact .inl ⟨rfl,rfl⟩
theorem qyC (l:List DE) (hl:l.length≤1048576):ACall prog 197 [.lst 3 (l.map DE.row)] [] (fun r L'=>r=.sl 7 0 l.length∧L'=[(7,qaN l)]):=by
 have key:ACall prog 197 [.lst 3 (l.map DE.row)] [] (fun r L'=>(l=[]∧r=.nils∧L'=[])∨(r=.sl 7 0 l.length∧L'=[(7,qaN l)])):=by
  refine acx func197 [] ntmps197 rfl rfl rfl ?_;by_cases h:l=[]
  ·subst h;simp[qaN]
  ·simp[h,qaN];omega
 refine ACall.nils (id:=7) (sz:=3) key (by simp) ?_;rintro r L' (⟨rfl,rfl,rfl⟩ | ⟨rfl,rfl⟩)
 ·exact .inr ⟨rfl,rfl,rfl⟩
 ·exact .inl ⟨rfl,rfl⟩
theorem qEC (l:List PT) (hl:l.length≤1048576):ACall prog 198 [.lst 3 (l.map PT.row)] [] (fun r L'=>r=.sl 7 0 l.length∧L'=[(7,kpt l)]):=by
 have key:ACall prog 198 [.lst 3 (l.map PT.row)] [] (fun r L'=>(l=[]∧r=.nils∧L'=[])∨(r=.sl 7 0 l.length∧L'=[(7,kpt l)])):=by
  refine acx func198 [] ntmps198 rfl rfl rfl ?_;by_cases h:l=[]
  ·subst h;simp[kpt]
  ·simp[h,kpt];omega
 refine ACall.nils (id:=7) (sz:=3) key (by simp) ?_;rintro r L' (⟨rfl,rfl,rfl⟩ | ⟨rfl,rfl⟩)
 ·exact .inr ⟨rfl,rfl,rfl⟩
 ·exact .inl ⟨rfl,rfl⟩
theorem qEE (l:List Int) (hl:l.length≤1048576):ACall prog 199 [.lst 1 (l.map qad)] [] (fun r L'=>r=.sl 7 0 l.length∧L'=[(7,kin l)]):=by
 have key:ACall prog 199 [.lst 1 (l.map qad)] [] (fun r L'=>(l=[]∧r=.nils∧L'=[])∨(r=.sl 7 0 l.length∧L'=[(7,kin l)])):=by
  refine acx func199 [] ntmps199 rfl rfl rfl ?_;by_cases h:l=[]
  ·subst h;simp[kin]
  ·simp[h,kin];omega
 refine ACall.nils (id:=7) (sz:=1) key (by simp) ?_;rintro r L' (⟨rfl,rfl,rfl⟩ | ⟨rfl,rfl⟩)
 ·exact .inr ⟨rfl,rfl,rfl⟩
 ·exact .inl ⟨rfl,rfl⟩
theorem qiX (d:DK) (h:DkT d):ACall prog 105 [.agg d.row] [] (fun r L'=>r=.agg [.sl 6 0 d.s0.length,.sl 10 0 d.s1.length,.sl 14 0 d.late.length]∧L'=[(6,qas d.s0),(10,qas d.s1),(14,qcE d.late)]):=by
 have c1:=qvT d.s0 h.l0;have c2:=qvT d.s1 h.l1;have c3:=qED d.late h.l2;refine acx func105 [(1,[zI 0,zI 1,zJ 2 [1] [],zJ 4 [] [1],zJ 5 [] [1],zJ 6 [1] [1],zJ 9 [] [1],zJ 10 [1] [1],zJ 3 [] [1],zJ 7 [] [1],zJ 8 [] [1],zI 11,zI 12,zI 13])] ntmps105 rfl rfl rfl ?_;simp[DK.row];refine qac [] (by kernel_rfl) c1 (by simp[qai]) (by simp) trivial (by simp) (by simp) ?_;rintro r L' ⟨rfl,rfl⟩;refine⟨[(7,6)],⟨by simp,by simp,by simp,by simp,by simp⟩,?_⟩;simp only[qaf];simp;refine qac [] (by kernel_rfl) c2 (by simp[qai]) (by simp) trivial (by simp) (by simp) ?_;rintro r L' ⟨rfl,rfl⟩;refine⟨[(7,10)],⟨by simp,by simp,by simp,by simp,by simp⟩,?_⟩;simp only[qaf];simp;refine qac [] (by kernel_rfl) c3 (by simp[LT.row]) (by simp) trivial (by simp) (by simp) ?_;rintro r L' ⟨rfl,rfl⟩;refine⟨[(7,14)],⟨by simp,by simp,by simp,by simp,by simp⟩,?_⟩;simp only[qaf];simp
theorem qmg (c:CO) (h:CoT c):ACall prog 92 [.agg c.row] [] (fun r L'=>r=qcA c 5 8 11 14∧L'=[(5,kcs c.sets),(8,qaN c.ddt),(11,kpt c.parts),(14,kin c.safe)]):=by
 have c1:=qEF c.sets h.sets;have c2:=qyC c.ddt h.ddt;have c3:=qEC c.parts h.parts;have c4:=qEE c.safe h.safe;refine acx func92 [(1,[zI 0,zJ 1 [1] [],zJ 3 [] [1],zJ 4 [1] [1],zJ 6 [] [1],zJ 7 [1] [1],zJ 9 [] [1],zJ 10 [1] [1],zJ 2 [] [1],zI 12,zJ 5 [] [1],zJ 8 [] [1],zI 11,zI 13,zI 14,zI 15,zI 16,zI 17,zI 18,zI 19])] ntmps92 rfl rfl rfl ?_;simp[CO.row];refine qac [] (by kernel_rfl) c1 (by simp[qa1]) (by simp) trivial (by simp) (by simp) ?_;rintro r L' ⟨rfl,rfl⟩;refine⟨[(7,5)],⟨by simp,by simp,by simp,by simp,by simp⟩,?_⟩;simp only[qaf];simp;refine qac [] (by kernel_rfl) c2 (by simp[DE.row]) (by simp) trivial (by simp) (by simp) ?_;rintro r L' ⟨rfl,rfl⟩;refine⟨[(7,8)],⟨by simp,by simp,by simp,by simp,by simp⟩,?_⟩;simp only[qaf];simp;refine qac [] (by kernel_rfl) c3 (by simp[PT.row]) (by simp) trivial (by simp) (by simp) ?_;rintro r L' ⟨rfl,rfl⟩;refine⟨[(7,11)],⟨by simp,by simp,by simp,by simp,by simp⟩,?_⟩;simp only[qaf];simp;refine qac [] (by kernel_rfl) c4 (by simp[qad]) (by simp) trivial (by simp) (by simp) ?_;rintro r L' ⟨rfl,rfl⟩;refine⟨[(7,14)],⟨by simp,by simp,by simp,by simp,by simp⟩,?_⟩;simp only[qaf];simp[qcA]
def qgS (p:PO) (a0 a1 a2 b0 b1 b2 b3:Nat):List AV:=[.sl a0 0 p.d.s0.length,.sl a1 0 p.d.s1.length,.sl a2 0 p.d.late.length,.int .i64 p.c.txg,.sl b0 0 p.c.sets.length,.sl b1 0 p.c.ddt.length,.sl b2 0 p.c.parts.length,.bool p.c.dirty,.sl b3 0 p.c.safe.length,.int .i64 p.c.logn,.bool p.up]
def qcG (p:PO) (a0 a1 a2 b0 b1 b2 b3:Nat):List (Nat×Ob):=[(a0,qas p.d.s0),(a1,qas p.d.s1),(a2,qcE p.d.late),(b0,kcs p.c.sets),(b1,qaN p.c.ddt),(b2,kpt p.c.parts),(b3,kin p.c.safe)]
theorem qBh (p:PO) (hd:DkT p.d) (hc:CoT p.c):ACall prog 54 [.agg p.row] [] (fun r L'=>r=.agg (qgS p 901 902 903 904 905 906 907)∧L'=qcG p 901 902 903 904 905 906 907):=by
 have c1:=qiX p.d hd;have c2:=qmg p.c hc;simp only[DK.row,CO.row]at c1 c2;refine acx func54 [(1,[zI 0,zJ 1 [1] [],zJ 3 [] [1],zJ 4 [1] [1],zJ 6 [] [1],zJ 7 [1] [1],zJ 2 [] [1],zJ 5 [] [1],zI 8,zI 9])] ntmps54 rfl rfl rfl ?_;simp[PO.row,DK.row,CO.row];refine qac [] (by kernel_rfl) c1 (by simp[qai,LT.row]) (by simp) trivial (by simp) (by simp) ?_;rintro r L' ⟨rfl,rfl⟩;refine⟨[(6,901),(10,902),(14,903)],⟨by simp,by simp,by simp,by simp,by simp⟩,?_⟩;simp only[qaf];simp;refine qac [] (by kernel_rfl) c2 (by simp[qa1,DE.row,PT.row,qad]) (by simp) trivial (by simp) (by simp) ?_;rintro r L' ⟨rfl,rfl⟩;refine⟨[(5,904),(8,905),(11,906),(14,907)],⟨by simp,by simp,by simp,by simp,by simp⟩,?_⟩;simp only[qaf];simp[qcA,qgS,qcG]
def qcF (d:DK) (a0 a1 a2:Nat):List AV:=[.sl a0 0 d.s0.length,.sl a1 0 d.s1.length,.sl a2 0 d.late.length]
def qb9 (d:DK) (a0 a1 a2:Nat):List (Nat×Ob):=[(1000,⟨3,[qcF d a0 a1 a2]⟩),(a0,qas d.s0),(a1,qas d.s1),(a2,qcE d.late)]
def qE6 (xs:List Nat) (R:DK×Bool) (r:AV) (L':List (Nat×Ob)):Prop:=∃ id,id∈xs∧r=.bool R.2∧L'=qb9 R.1 1001 1002 id
@[simp] theorem qAu (ρ:Nat→Option Plc) (d:DK) (a0 a1 a2:Nat):qbH ρ ⟨3,[qcF d a0 a1 a2]⟩=⟨3,[qb6 ρ (qcF d a0 a1 a2)]⟩:=rfl
theorem qcU (l:List LT):clR (qcE l).els=true:=by simp[clR,qcE,LT.row]
theorem qr1 (d:DK) (hd:qbr d=true) (side at':Int) (text:List UInt8) (ht:text.length≤1048576) :
  ACall prog 288 [.ptr 1000 0 0,.int .i64 side,.int .i64 at',.str text] (qb9 d 1001 1002 1003)
   (fun r L'=>r=.bool (qa0 d side at' text).2∧L'=qb9 (qa0 d side at' text).1 1001 1002 903):=by
 obtain⟨R,hR⟩:∃ R,qa0 d side at' text=R:=⟨_,rfl⟩;rw[hR];unfold qa0 at hR;rw[if_neg (by simp[hd])]at hR;have h:=qeA hd;obtain⟨g1,g2,g3,g4,_⟩:=qbM hd;have c1:=qh2 d h side at';have c2:=qsd text ht;simp only[DK.row]at c1;have hth:qbb d side at' text=(qm7 d.s0.length side at' && !decide (420<text.length)):=by
  simp only[qbb,qm7];by_cases g:text.length≤420
  ·have:¬ 420<text.length:=by omega
   simp[g,this]
  ·have:420<text.length:=by omega
   simp[g,this]
 have key:ACall prog 288 [.ptr 1000 0 0,.int .i64 side,.int .i64 at',.str text] (qb9 d 1001 1002 1003)
   (qE6 [1003,38] R):=by
  refine acx func288 [] ntmps288 rfl rfl rfl ?_ (hL:=by simp[qb9]);simp[qb9,qcF];refine c1.view (by simp[qb5,mtA,qas,qcE,qal,qai,LT.row]) ?_;cases hs:qm7 d.s0.length side at' with
  | false =>
   rw[if_pos (.inl (by rw[hth,hs];rfl))]at hR;subst hR;simp;exact⟨qb9 d 1001 1002 1003,by simp[qb9,qcF],1003,by simp,rfl,rfl⟩
  | true =>
   simp;refine c2.call ?_;by_cases hl:420<text.length
   ·rw[if_pos (.inl (by rw[hth,hs];simp[hl]))]at hR;subst hR;simp[hl];exact⟨qb9 d 1001 1002 1003,by simp[qb9,qcF],1003,by simp,rfl,rfl⟩
   ·by_cases hn:d.late.length=600
    ·rw[if_pos (.inr hn)]at hR;subst hR;simp[hl,hn];exact⟨qb9 d 1001 1002 1003,by simp[qb9,qcF,hn],1003,by simp,rfl,rfl⟩
    ·rw[if_neg (by rw[hth,hs];simp[hl,hn])]at hR;subst hR;have hn':¬ (600:Int)≤d.late.length:=by omega
     simp[hl,hn',qcE,LT.row];refine⟨by omega,qb9 ⟨d.s0,d.s1,d.late++[⟨side,at',text⟩]⟩ 1001 1002 38,?_,38,by simp,rfl,rfl⟩;simp[qb9,qcF,qcE,qal,LT.row]
 refine key.can ?_;rintro r L' ⟨id,hid,rfl,rfl⟩;refine⟨[(1000,1000),(1001,1001),(1002,1002),(id,903)],?_,?_,?_,?_,?_⟩
 all_goals
  simp only[qHq,qHz,or_false]at hid;rcases hid with rfl | rfl
 all_goals simp[qb9,qcF,qah]
theorem qjb {d:DK} (h:qbr d=true) (side a:Int) (t:List UInt8):qbr (qa0 d side a t).1=true∧(qa0 d side a t).1.s0.length=d.s0.length∧((qa0 d side a t).2=false→(qa0 d side a t).1=d):=by
 have h2:qaw d a t=qaw d a t:=rfl;obtain⟨g1,g2,g3,g4,g5,g6,g7⟩:=qbM h;unfold qa0;rw[if_neg (by simp[h])];split
 ·exact⟨h,rfl,fun _=>rfl⟩
 ·rename_i hn;refine⟨?_,rfl,fun h=>by cases h⟩;have hth:qbb d side a t=true:=by
   cases hx:qbb d side a t with
   | true=>rfl
   | false=>exact absurd (.inl hx) hn
  have hnl:¬ d.late.length=600:=fun e=>hn (.inr e);simp only[qbr,Bool.and_eq_true,decide_eq_true_eq,qGf]at h ⊢;obtain⟨⟨⟨⟨⟨⟨q1,q2⟩,q3⟩,q4⟩,q5⟩,q6⟩,q7⟩:=h;refine⟨⟨⟨⟨⟨⟨q1,q2⟩,q3⟩,by simp;omega⟩,q5⟩,q6⟩,fun w hw=>?_⟩;rcases qHs.1 hw with hw | hw
  ·exact q7 w hw
  ·simp only[qHq,qHz,or_false]at hw;subst hw;exact hth
theorem qsj (d:DK) (hd:qbr d=true) (at':Int) (text:List UInt8) (ht:text.length≤1048576) :
  ACall prog 220 [.ptr 1000 0 0,.int .i64 at',.str text] (qb9 d 1001 1002 1003)
   (fun r L'=>r=.bool (qaw d at' text).2∧L'=qb9 (qaw d at' text).1 1001 1002 903):=by
 obtain⟨R,hR⟩:∃ R,qaw d at' text=R:=⟨_,rfl⟩;rw[hR];unfold qaw at hR;rw[if_neg (by simp[hd])]at hR;obtain⟨g1,g2,g3,g4,_⟩:=qbM hd;have c1:=qr1 d hd 0 at' text ht;have k1:=qjb hd 0 at' text;generalize qa0 d 0 at' text=X at *
 obtain⟨e,eo⟩:=X;simp only at k1 hR;have c2:=qr1 e k1.1 1 at' text ht;generalize qa0 e 1 at' text=Y at *
 obtain⟨f,fo⟩:=Y;have key:ACall prog 220 [.ptr 1000 0 0,.int .i64 at',.str text] (qb9 d 1001 1002 1003) (qE6 [1003,16,21] R):=by
  refine acx func220 [] ntmps220 rfl rfl rfl ?_ (hL:=by simp[qb9]);simp[qb9,qcF];by_cases hn:598<d.late.length
  ·rw[if_pos hn]at hR;subst hR;simp[hn,show(598:Int)<d.late.length by omega,show ¬ (d.late.length:Int)≤598 by omega];exact⟨qb9 d 1001 1002 1003,by simp[qb9,qcF],1003,by simp,rfl,rfl⟩
  ·rw[if_neg hn]at hR;simp[hn,show ¬ (598:Int)<d.late.length by omega,show(d.late.length:Int)≤598 by omega];refine qac [(1000,.whole 1000),(1001,.whole 1001),(1002,.whole 1002),(1003,.whole 1003)] (by kernel_rfl) c1 (by simp) (by simp) (by simp[qb9,qcF];exact⟨.inr ⟨_,_,rfl,rfl,by simp⟩,qaa rfl (qaO _),qaa rfl (qaO _),qaa rfl (qcU _)⟩) (by simp[qb9]) (by simp) ?_;rintro r L' ⟨rfl,rfl⟩;refine⟨[(903,16)],⟨by simp[qb9],by simp,by simp,by simp[qb9],by simp⟩,?_⟩;simp only[qaf];simp[qb9,qcF];cases eo with
   | false =>
    rw[if_pos rfl]at hR;subst hR;simp;exact⟨qb9 e 1001 1002 16,by simp[qb9,qcF],16,by simp,rfl,rfl⟩
   | true =>
    rw[if_neg (by simp)]at hR;subst hR;simp;refine qac [(1000,.whole 1000),(1001,.whole 1001),(1002,.whole 1002),(1003,.whole 16)] (by kernel_rfl) c2 (by simp) (by simp) (by simp[qb9,qcF];exact⟨.inr ⟨_,_,rfl,rfl,by simp⟩,qaa rfl (qaO _),qaa rfl (qaO _),qaa rfl (qcU _)⟩) (by simp[qb9]) (by simp) ?_;rintro r L' ⟨rfl,rfl⟩;refine⟨[(903,21)],⟨by simp[qb9],by simp,by simp,by simp[qb9],by simp⟩,?_⟩;simp only[qaf];simp[qb9,qcF];exact⟨qb9 f 1001 1002 21,by simp[qb9,qcF],21,by simp,rfl,rfl⟩
 refine key.can ?_;rintro r L' ⟨id,hid,rfl,rfl⟩;refine⟨[(1000,1000),(1001,1001),(1002,1002),(id,903)],?_,?_,?_,?_,?_⟩
 all_goals
  simp only[qHq,qHz,or_false]at hid;rcases hid with rfl | rfl | rfl
 all_goals simp[qb9,qcF,qah]
theorem qse (d:DK) (hd:qbr d=true) :
  ACall prog 225 [.ptr 1000 0 0] (qb9 d 1001 1002 1003) (fun r L'=>r=.tup []∧L'=qb9 (qbB d) 1001 1002 903):=by
 obtain⟨R,hR⟩:∃ R,qbB d=R:=⟨_,rfl⟩;rw[hR];unfold qbB at hR;rw[if_pos hd]at hR;obtain⟨g1,g2,g3,g4,g5,g6,g7⟩:=qbM hd;have key:ACall prog 225 [.ptr 1000 0 0] (qb9 d 1001 1002 1003) (fun r L'=>r=.tup []∧L'=[(1000,⟨3,[qcF R 1001 1002 903]⟩),(1001,qas R.s0),(1002,qas R.s1),(903,qcE R.late)]):=by
  refine acv func225 [(3,[zI 0,zI 1,zJ 2 [3] [],zJ 3 [] [3],zJ 4 [] [3],zI 5,zJ 6 [1000] [],zJ 7 [] [3,1000],zJ 8 [3] [3,1000],zJ 9 [] [3,1000],zJ 10 [3] [3,1000],zJ 11 [1001,1002] [],zI 12])] ntmps225 rfl rfl rfl ?_ (hL:=by simp[qb9]);refine qqr (qbE _ ?_);simp[qb9,qcF];refine qbe (X:=Nat×List (List UInt8)×List (List UInt8)) [0,7,8,9] [(1000,1000),(1001,1001),(1002,1002),(1003,1003)] (fun x=>[(9,.int .i64 x.1)]) (fun x=>[(1001,qas x.2.1),(1002,qas x.2.2)]) (fun x=>d.late.length-x.1)
   (fun x=>x.1≤d.late.length∧x.2.1.length=d.s0.length∧x.2.2.length=d.s0.length∧(⟨((d.late.drop x.1).foldl qhY (x.2.1,x.2.2)).1,((d.late.drop x.1).foldl qhY (x.2.1,x.2.2)).2,[]⟩:DK)=R) (0,d.s0,d.s1) (by simp[hR,g3]) ?_ (he:=by simp[qah])
  rintro⟨i,p,q⟩ ⟨hi,hp,hq,hd2⟩;simp only at hi hp hq hd2;cases hr:d.late.drop i with
  | nil =>
   have:=qaY hr;rw[hr]at hd2;have hie:i=d.late.length:=by omega
   subst hie;simp[qah];refine⟨_,(qeP 903 3 (by simp)).trans (qdw 1000 2 (sz:=3) (row:=[.sl 1001 0 d.s0.length,.sl 1002 0 d.s1.length,.nils]) (by simp) (by simp) (qcK 903 0)),?_⟩;rw[← hd2];simp[hp,hq,g3,qcE]
  | cons x r =>
   obtain⟨h1,e0,e1,h3⟩:=qaZ hr;rw[hr]at hd2;have e2:=qap ((i:Int)+1) (by omega) (by omega);have hx:=g7 x (qHT e1);obtain⟨n1,⟨n2,n3⟩,_⟩:=thereB_iff.1 hx;rcases n1 with hs | hs
   ·have hl:x.la.toNat<p.length:=by omega
    simp[qah,qcE,qas,h1,e0,e1,LT.row,hs,n2,n3,qai,hp];exact nx (i+1,p.set x.la.toNat x.lx,q) [(1000,1000),(1001,1001),(1002,1002),(1003,1003)] ⟨by omega,by simp[hp],hq,by rw[← hd2,h3,qGj];simp[qhY,hs]⟩ (h4:=by simp[qah,e2,qas,qai,qH5,qcE])
   ·have hl:x.la.toNat<q.length:=by omega
    simp[qah,qcE,qas,h1,e0,e1,LT.row,hs,n2,n3,qai,hq,g3];exact nx (i+1,p,q.set x.la.toNat x.lx) [(1000,1000),(1001,1001),(1002,1002),(1003,1003)] ⟨by omega,hp,by simp[hq],by rw[← hd2,h3,qGj];simp[qhY,hs]⟩ (h4:=by simp[qah,e2,qas,qai,qH5,qcE])
 refine key.imp fun r L' ⟨h1,h2⟩=>⟨r,qaE _,h1,h2⟩
end Go.Av.F
end
section
namespace Go.Av.F
open Go Go.Av
open Go.Proofs Go.Proofs.Tryz
attribute [-simp] qdQ hdS qao qae qap
attribute [local simp] tt3 tt4 tt9 tt5 qwi qm3 qzw qqA qta qyN
theorem qpF (o1 o2:Ob) (h1:o1.sz=3) (h2:o2.sz=3) (e1 len1 e2 len2:Nat) :
  ACall Go.Proofs.Tryz.prog 370 [.sl 1001 e1 len1,.sl 1000 e2 len2] [(1000,o2),(1001,o1)] (fun r L'=>r=.bool false∧L'=[(1000,o2),(1001,o1)]) :=
 ql3 (tS:=43) (tR:=4) (e:=110) Go.Proofs.Tryz.func370 (by kernel_rfl) (by kernel_rfl) (by kernel_rfl) (by kernel_rfl) qwi rfl qm3 (by simp) o1 o2 h1 h2 e1 len1 e2 len2
theorem qtY (rows:List (List AV)) (row:List AV) (i:Nat) (hi:i≤rows.length) (hl:rows.length<2000000) (hrow:row.length=3) (hr1:∀ r∈rows,r.length=3) (ho:row.all qdn=true) (hro:rows.all (fun r=>r.all qdn)=true)
  (hc:clL row=true) (hrc:clR rows=true) :
  ACall Go.Proofs.Tryz.prog 336 [.sl 1000 0 rows.length,.int .i64 i,.sl 1001 0 1] [(1000,⟨3,rows⟩),(1001,⟨3,[row]⟩)] (qCH 3 25 40 rows row i):=by
 refine ACall.weak (R:=fun r L'=>∃ L2,wkL L' L2∧qCH 3 25 40 rows row i (unc r) L2) (ACall.cap (by simp) fun cap hcap=>?_) (fun r L' h=>h);obtain⟨els,hels⟩:∃ els,(qcP ⟨3,rows⟩ cap)=⟨3,els⟩:=⟨_,rfl⟩;have hel:els.length=cap:=by
  have:=congrArg (fun o:Ob=>o.els.length) hels;simp[qcP]at this;omega
 have het:els.take rows.length=rows:=by
  have:=congrArg (fun o:Ob=>o.els.take rows.length) hels;simp[qcP]at this;exact this.symm
 have hcl:clR els=true:=by
  have:=congrArg (fun o:Ob=>clR o.els) hels;simp only[qcP]at this;rw[← this];simp only[clR,qHO,Bool.and_eq_true]at hrc ⊢;refine⟨hrc,?_⟩;rw[qGf];intro x hx;rw[qHk hx];rfl
 have hm:∀ ρ,els.map (qb6 ρ)=els:=fun ρ=>qkv ρ hcl;have hm2:∀ ρ,qb6 ρ row=row:=fun ρ=>renL_closed.renL_closedL ρ row hc;rw[hels];clear hels;have w1:IntKind.i64.wrap ((rows.length:Int)+1)=(rows.length:Int)+1:=qax _ (by omega);refine acx func336 [(11,[zI 0,zI 1,zI 2,zI 3,zJ 4 [40,1000] [],zJ 5 [] [40,1000],zJ 6 [] [40,1000],zJ 7 [40,1000] [40,1000],zI 8]),(15,[zI 0,zI 1,zI 2,zI 3,zJ 4 [1000] [],zJ 5 [] [1000],zJ 6 [] [1000],zJ 7 [1000] [1000],zI 8])] ntmps336 rfl rfl rfl ?_;have e1:rows.take rows.length=rows:=qHW;by_cases h1:i=rows.length
 ·subst h1;by_cases h2:rows.length+1≤cap
  ·simp[h2,hrow,hel,hcap];refine⟨by simpa using ho,[(1000,⟨3,spl els rows.length [row]⟩)],by simp,_,.cons 1000 _ (rows.length+1) .nil,1000,.inl rfl,rfl,?_⟩;have:=qff els rows.length [row] (by omega);simp only[qGk,qHf,qHc]at this;simp[qqf,this,het]
  ·simp[h2,hrow,hel,hcap,het];refine⟨by omega,[(25,⟨3,rows++[row]⟩)],by simp,_,.cons 25 _ (rows.length+1) .nil,25,.inr (.inl rfl),rfl,?_⟩;rw[qGh (by simp)];simp[qqf]
 ·have hi':i<rows.length:=by omega
  have h1':¬ (i:Int)=rows.length:=by omega
  have w2:IntKind.i64.wrap ((i:Int)+1)=((i+1:Nat):Int):=by rw[qax _ (by omega)];omega
  have w4:IntKind.i64.wrap ((rows.length:Int)+1-(i:Int))=((rows.length+1-i:Nat):Int):=by rw[qax _ (by omega)];omega
  have hall:∀ x∈rows,∀ y∈x,qdn y=true:=fun x hx y hy=>qGf.1 (qGf.1 hro x hx) y hy;have g1:rows.length+1≤cap→min (rows.length+1-i) (min (cap-i) (rows.length-i))=rows.length-i:=fun _=>by omega
  have g2:min 1 (rows.length+1-i)=1:=by omega
  have g5:(els.drop i).take (rows.length-i)=rows.drop i:=by
   conv=>rhs;rw[← het]
   rw[qHh]
  have g3:List.take (rows.length-i) (List.take (rows.length+1-i) (List.drop i els))=rows.drop i:=by
   rw[qHj,qHi (by omega),g5]
  by_cases h2:rows.length+1≤cap
  ·have g1:=g1 h2;have h2':¬ (cap:Int)<(rows.length:Int)+1:=by omega
   simp[h1,h1',h2,h2',hrow,hel,hcap,w1,w2,w4];refine⟨by omega,by omega,⟨by omega,by omega⟩,?_⟩;refine qac [(1000,.whole 1000),(1001,.whole 1001)] (by kernel_rfl) (qpF ⟨3,[row]⟩ ⟨3,els⟩ rfl rfl 0 1 (i+1) (rows.length-i)) (by simp) (by simp) (by simp;exact⟨qaa rfl hcl,qaa rfl (by simp[clR,hc])⟩) (by simp) (by simp) ?_;rintro r L' ⟨rfl,rfl⟩;refine⟨[],⟨by simp,by simp,by simp,by simp,by simp⟩,?_⟩;simp[hm,hm2,w2,hel,hrow];rw[g1,g2,g3,qGh (by simp:[row].length≤1)];have g4:=qbW els (i+1) (rows.drop i) (by omega);refine⟨⟨by omega,by omega,by omega⟩,⟨by omega,by omega⟩,⟨by omega,by omega,fun x hx y hy=>hall x (qIh hx) y hy⟩,⟨by omega,by omega⟩,⟨by simp at g4;omega,fun x hx y hy=>?_⟩,
    [(1000,⟨3,spl (spl els (i+1) (rows.drop i)) i [row]⟩)],by simp,_,.cons 1000 _ (rows.length+1) .nil,1000,.inl rfl,rfl,?_⟩
   ·have:x=row:=by simpa using hx
    subst this;exact qGf.1 ho y hy
   ·rw[qmc els rows row i het (by omega) hi'];rfl
  ·have h2':(cap:Int)<(rows.length:Int)+1:=by omega
   simp[h1,h1',h2,h2',hrow,hel,hcap,w1,w2,w4];have c1:cap=rows.length:=by omega
   subst c1;have g6:min (rows.length-i) (min (rows.length-i) (i+(rows.length+1-i)-(i+1)))=rows.length-i:=by omega
   have g7:List.take (rows.length-i) (rows.drop i)=rows.drop i:=qGh (by simp);have g8:i+(rows.length+1-i)=rows.length+1:=by omega
   have g9:els.take i=rows.take i:=by
    conv=>rhs;rw[← het]
    rw[qHj,qHi (by omega)]
   rw[g6,g2,g5,g7,qGh (by simp:[row].length≤1),g8,g9,qoO rows row _ i hi'];refine⟨by omega,by omega,⟨by omega,by omega,by omega,by omega⟩,⟨by omega,fun x hx y hy=>?_⟩,⟨by omega,by omega⟩,by omega,⟨by omega,?_,fun x hx y hy=>hall x (qIh hx) y hy⟩,
    [(40,⟨3,rows.take i++row::rows.drop i⟩)],by simp,_,.cons 40 _ (rows.length+1) .nil,40,.inr (.inr rfl),rfl,?_⟩
   ·have:x=row:=by simpa using hx
    subst this;exact qGf.1 ho y hy
   ·rw[qbW _ _ _ (by simp;omega)];simp;omega
   ·have g10:(rows.take i++row::rows.drop i).take (rows.length+1)=rows.take i++row::rows.drop i:=qGh (by simp;omega);simp only[g10];rfl
theorem qup (rows:List (List AV)) (i j:Nat) (hij:i<j) (hj:j≤rows.length) (hl:rows.length<2000000) (hr1:∀ r∈rows,r.length=3) (hro:rows.all (fun r=>r.all qdn)=true) :
  ACall Go.Proofs.Tryz.prog 337 [.sl 1000 0 rows.length,.int .i64 i,.int .i64 j] [(1000,⟨3,rows⟩)] (fun r L'=>r=.sl 1000 0 (i+(rows.length-j))∧L'=[(1000,⟨3,rows.take i++rows.drop j⟩)]):=by
 refine ACall.weak (R:=fun r L'=>∃ L2,wkL L' L2∧unc r=.sl 1000 0 (i+(rows.length-j))∧L2=[(1000,⟨3,rows.take i++rows.drop j⟩)]) (ACall.cap (by simp) fun cap hcap=>?_) (fun r L' h=>h);obtain⟨els,hels⟩:∃ els,(qcP ⟨3,rows⟩ cap)=⟨3,els⟩:=⟨_,rfl⟩;have hel:els.length=cap:=by
  have:=congrArg (fun o:Ob=>o.els.length) hels;simp[qcP]at this;omega
 have het:els.take rows.length=rows:=by
  have:=congrArg (fun o:Ob=>o.els.take rows.length) hels;simp[qcP]at this;exact this.symm
 rw[hels];clear hels;have g5:(els.drop j).take (rows.length-j)=rows.drop j:=by
  conv=>rhs;rw[← het]
  rw[qHh]
 have hall:∀ x∈rows,∀ y∈x,qdn y=true:=fun x hx y hy=>qGf.1 (qGf.1 hro x hx) y hy;have h1:¬ i=j:=by omega
 have h1':¬ (i:Int)=j:=by omega
 have h2:i+(rows.length-j)≤cap:=by omega
 refine acx func337 [(5,[zI 0,zI 1,zJ 2 [1000] [],zJ 3 [] [1000],zJ 4 [] [1000],zJ 5 [1000] [1000],zI 6,zI 7])] ntmps337 rfl rfl rfl ?_;simp[h1,h1',hel,g5,h2,hcap];have t1:((i:Int)+((rows.length-j:Nat):Int)).toNat=i+(rows.length-j):=by omega
 have h3:=qbW els i (rows.drop j) (by omega);rw[t1];refine⟨⟨by omega,by omega⟩,by omega,by omega,⟨by omega,by omega,fun x hx y hy=>hall x (qIh hx) y hy⟩,⟨by omega,by omega⟩,?_,[(1000,⟨3,spl (spl els i (rows.drop j)) (i+(rows.length-j)) (List.replicate (rows.length-(i+(rows.length-j))) _)⟩)],⟨rfl,trivial⟩,?_⟩
 ·rw[h3];simp;omega
 ·have:=wkL.cons 1000 ⟨3,spl (spl els i (rows.drop j)) (i+(rows.length-j)) (List.replicate (rows.length-(i+(rows.length-j))) [.int .i64 0,.int .i64 0,.int .i64 0])⟩ (i+(rows.length-j)) .nil;simp only[qo3 els rows _ i j het (by omega) hij hj]at this;exact this
end Go.Av.F
end
