/- Lemmas for the proof, no statement of the seat; no conditions. -/
import Derived.Test.YthiidgicibfbjaaGreatDoorLayAR
set_option linter.unusedSimpArgs false
set_option linter.unusedVariables false
set_option linter.unnecessarySimpa false
set_option maxRecDepth 100000
section
namespace Go.Av.F
open Go Go.Av Go.Proofs Go.Proofs.Tryz
def qck (e:DE):List UInt8:=dec e.es++(46::(dec e.ea++(46::dec e.ec)))
def qcS:List DE→Bool→List UInt8
 | [],_=>[]
 | e::r,first=>(if first=true then [] else [32])++(qck e++qcS r false)
def qcl (l:List DE):List UInt8:=if qak l=true then qcS l true else []
theorem qgg {e:DE} (h:qca e=true):0≤e.es∧e.es<65521∧1≤e.ea∧e.ea<120∧1≤e.ec∧e.ec≤1000:=by
 simp only[qca,Bool.and_eq_true,decide_eq_true_eq]at h;omega
theorem qhj {l:List DE} (h:qak l=true):∀ e∈l,qca e=true:=by
 simp only[qak,Bool.and_eq_true]at h;exact fun e he=>((qch h.2).1 e he).2
theorem qgZ {e:DE} (h:qca e=true):(qck e).length≤29:=by
 have hb:=qgg h;have h1:=qav e.es (by omega);have h2:=qav e.ea (by omega);have h3:=qav e.ec (by omega);simp[qck];omega
theorem qid (l:List DE) (hl:l.length≤1048576):CV prog 233 [.lst 3 (l.map DE.row)] (.str (qcl l)):=by
 obtain⟨R,hR⟩:∃ R,qcl l=R:=⟨_,rfl⟩;rw[hR];unfold qcl at hR;have c1:=qfz l hl;refine cvx func233 [(7,[zI 0,zI 1,zI 2,zI 3,zI 4,zI 5,zI 9,zI 10,zI 11,zI 12,zI 13,zI 17,zI 18,zI 19,zI 20,zI 21,zI 6,zI 7,zI 8,zI 14,zI 15,zI 16,zI 22,zI 23,zI 24])] ntmps233 rfl rfl rfl ?_ (hca:=by simp[DE.row]);simp;refine qaS (X:=Nat×List UInt8) [0,2,3,4] [] (fun x=>[(3,.str x.2),(4,.int .i64 x.1)]) (fun _=>[]) (fun x=>l.length-x.1) (fun x=>x.1≤l.length∧x.2.length≤30 * x.1∧(if qak l=true then x.2++qcS (l.drop x.1) (decide (x.1=0)) else [])=R∧(qak l=false→x.2=[])) (0,[]) (by simp[← hR]) ?_
 rintro⟨i,t⟩ ⟨hi,hl2,hd,hz⟩;simp only at hi hl2 hd hz;cases hok:qak l with
 | false =>
  rw[hok]at c1;rw[if_neg (by simp[hok])]at hd;simp;refine c1.call ?_;simp[hz hok,← hd]
 | true =>
  rw[if_pos hok]at hd;rw[hok]at c1;cases hr:l.drop i with
  | nil =>
   have:=qaY hr;rw[hr]at hd;have hie:i=l.length:=by omega
   subst hie;simp only[qcS,qGw]at hd;simp;refine c1.call ?_;simp[hd]
  | cons e q =>
   obtain⟨k1,e0,e1,k3⟩:=qaZ hr;rw[hr]at hd;have hde:=qhj hok e (qGj e1);have hb:=qgg hde;have hli:(i:Int)<l.length:=by omega
   have e2:=qao ((i:Int)+1) (by omega) (by omega);have d1:=qib e.es (by omega) (by omega);have d2:=qib e.ea (by omega) (by omega);have d3:=qib e.ec (by omega) (by omega);have l1:=qav e.es (by omega);have l2:=qav e.ea (by omega);have l3:=qav e.ec (by omega);have htl:=qgZ hde;simp;refine c1.call ?_;by_cases h0:i=0
   ·subst h0;simp only[qcS,decide_true,if_true,qE0]at hd;simp[k1,e0,e1,hli,DE.row];refine d1.call ?_;simp;refine⟨by omega,by omega,?_⟩;refine d2.call ?_;simp;refine⟨by omega,by omega,?_⟩;refine d3.call ?_;simp[e2];refine⟨by omega,nx (1,t++qck e) [] ⟨by simp only;omega,by simp only[qFD];omega,by simpa [k3]using hd⟩ (by simp only;omega) (h4:=by simp[qck])⟩
   ·have h0':(0:Int)<i:=by omega
    have hdf:decide (i=0)=false:=by simpa using h0
    rw[hdf]at hd;simp only[qcS,qEl,if_false]at hd;simp[k1,e0,e1,hli,DE.row,h0',h0];intro _;refine⟨by omega,?_⟩;refine d1.call ?_;simp;refine⟨by omega,by omega,?_⟩;refine d2.call ?_;simp;refine⟨by omega,by omega,?_⟩;refine d3.call ?_;simp[e2];refine⟨by omega,nx (i+1,t++(32::qck e)) [] ⟨by simp only;omega,by simp only[qFD,qEI];omega,by simpa [k3]using hd⟩ (by simp only;omega) (h4:=by simp[qck,e2])⟩
def qc9:Nat→List DE→List (List UInt8)
 | 0,_=>[]
 | k+1,l=>if l=[] then [] else qcl (l.take 6)::qc9 k (l.drop 6)
def qbX (l:List DE):List (List UInt8):=qc9 l.length l
theorem qgB:∀ (k:Nat) (l:List DE),(qc9 k l).length≤k
 | 0,_=>by simp[qc9]
 | k+1,l=>by
  have:=qgB k (l.drop 6);simp only[qc9];split <;> simp <;> omega
theorem qqk (l:List DE) (hl:l.length≤1000000):ACall prog 141 [.lst 3 (l.map DE.row)] [] (fun r L'=>r=.sl 900 0 (qbX l).length∧L'=[(900,qai (qbX l))]):=by
 obtain⟨R,hR⟩:∃ R,qbX l=R:=⟨_,rfl⟩;rw[hR];refine acx func141 [] ntmps141 rfl rfl rfl ?_;simp;refine qbj (X:=Nat×List (List UInt8)) [0,3,4] [(6,900)] (fun x=>[(3,.sl 900 0 x.2.length),(4,.int .i64 x.1)]) (fun x=>[(900,qai x.2)]) (fun x=>l.length+6-x.1) (fun x=>x.1≤l.length+6∧x.2.length≤x.1∧∃ k,l.length-x.1≤k∧x.2++qc9 k (l.drop x.1)=R) (0,[]) ⟨by simp,by simp,l.length,by simp,by simpa [qbX]using hR⟩ ?_ (he:=by simp[qag,qai]);rintro⟨i,out⟩ ⟨hi,hol,k,hk,hd⟩;simp only at hi hol hk hd;by_cases hlt:i<l.length
 ·obtain⟨m,rfl⟩:∃ m,k=m+1:=⟨k-1,by omega⟩;have hne:¬ l.drop i=[]:=fun e=>by have:=qaY e;omega
  simp only[qc9,if_neg hne]at hd;have hli:(i:Int)<l.length:=by omega
  have e2:=qao ((i:Int)+6) (by omega) (by omega);have cd:=qid ((l.drop i).take 6) (by simp;omega);have hcl:∀ x∈((l.drop i).take 6).map DE.row,clL x=true:=qtJ _;by_cases h6:l.length<i+6
  ·have h6':(l.length:Int)<i+6:=by omega
   have e4:((l.map DE.row).drop i).take (l.length-i)=((l.drop i).take 6).map DE.row:=by
    rw[qtv,qEF (l:=l.drop i) (by simp;omega)]
   simp[qag,hli,e2,h6'];refine⟨by omega,?_⟩;rw[e4];refine cd.call ?_;simp[e2,qai];refine⟨by omega,nx (i+6,out++[qcl ((l.drop i).take 6)]) [(28,900)] ⟨by simp only;omega,by simp;omega,m,by simp only;omega,by simp only[qEA]at hd ⊢;simpa using hd⟩ (by simp only;omega) (h4:=by simp[qag,e2,qai,qae,qal])⟩
  ·have h6':¬ (l.length:Int)<i+6:=by omega
   have e4:((l.map DE.row).drop i).take 6=((l.drop i).take 6).map DE.row:=by
    rw[← qGq,← qGr]
   simp[qag,hli,e2,h6'];refine⟨by omega,?_⟩;rw[show((i:Int)+6).toNat-i=6 by omega,e4];refine cd.call ?_;simp[e2,qai];refine⟨by omega,nx (i+6,out++[qcl ((l.drop i).take 6)]) [(28,900)] ⟨by simp only;omega,by simp;omega,m,by simp only;omega,by simp only[qEA]at hd ⊢;simpa using hd⟩ (by simp only;omega) (h4:=by simp[qag,e2,qai,qae,qal])⟩
 ·have hz:l.drop i=[]:=qEz (by omega);have hp:qc9 k (l.drop i)=[]:=by rw[hz];cases k <;> simp[qc9]
  rw[hp,qGw]at hd;have hli:¬ (i:Int)<l.length:=by omega
  simp[hli,← hd]
theorem qv0 (l:List DE) (hl:l.length≤1000000):CV prog 141 [.lst 3 (l.map DE.row)] (.lst 1 ((qbX l).map qae)):=by
 refine CV.of_frz (qqk l hl) ?_ (hca:=by simp[DE.row]) (hcv:=by simp[qae]);rintro r L' ⟨rfl,rfl⟩;refine⟨by simp,by simp,by simp[clR,qai,qae],?_⟩;simp[qbe,qai,qal]
theorem qoB (s:CS) (h8:s.map.length=8):s.row[30]?=some (.bool s.dirty):=by
 have hl:(s.map.flatMap PT.row).length=24:=by
  rw[qHc];exact qp1 h8
 show(.str s.name::.int .i64 s.kind::.str s.frm::(s.map.flatMap PT.row++(s.home.row++[.bool s.dirty])))[30]?=_;simp only[qEJ];rw[qEN (by omega),hl];rfl
def qb6 (l:List CS):Nat:=l.countP CS.dirty
def qcE (c:CO):Nat:=1+qb6 c.sets+if c.dirty=true then (qbX c.ddt).length else 0
theorem qv2 (c:CO) (h:CoT c) (hm:CoM c):CV prog 62 [.agg c.row] (.int .i64 (qcE c:Nat)):=by
 obtain⟨R,hR⟩:∃ R,qcE c=R:=⟨_,rfl⟩;rw[hR];unfold qcE at hR;have h1:=hm.sets;have h2:=hm.ddt;have c1:=qv0 c.ddt (by omega);have hpl:(qbX c.ddt).length≤c.ddt.length:=qgB _ _;refine cvx func62 [] ntmps62 rfl rfl rfl ?_ (hca:=by simp[qeB]);simp[CO.row];refine qaS (X:=Nat×Nat) [1,2,3,4] [(1,1)] (fun x=>[(3,.int .i64 (x.2:Int)),(4,.int .i64 x.1)]) (fun _=>[]) (fun x=>c.sets.length-x.1) (fun x=>x.1≤c.sets.length∧x.2≤1+x.1∧x.2+qb6 (c.sets.drop x.1)+(if c.dirty=true then (qbX c.ddt).length else 0)=R) (0,1) ⟨by simp,by simp,by simpa using hR⟩ ?_ (he:=by simp[qag])
 rintro⟨i,m⟩ ⟨hi,hml,hd⟩;simp only at hi hml hd;cases hr:c.sets.drop i with
 | nil =>
  have:=qaY hr;rw[hr]at hd;have hie:i=c.sets.length:=by omega
  subst hie;simp only[qb6,qHd,qFm]at hd;simp[qag];cases hc:c.dirty with
  | false =>
   rw[hc]at hd;simp[← hd]
  | true =>
   rw[hc,if_pos rfl]at hd;have e2:=qao ((m:Int)+((qbX c.ddt).length:Int)) (by omega) (by omega);simp;refine c1.call ?_;simp[e2,← hd]
 | cons x q =>
  obtain⟨k1,e0,e1,k3⟩:=qaZ hr;rw[hr]at hd;have h8:=h.m8 x (qGj e1);have hli:(i:Int)<c.sets.length:=by omega
  have e2:=qao ((i:Int)+1) (by omega) (by omega);have e3:=qao ((m:Int)+1) (by omega) (by omega);have hx30:=qoB x h8;have hx30':=(qEW.1 hx30).2;simp only[qb6,qGI]at hd;simp[qag,k1,e0,e1,hli,qaV x h8,hx30,hx30',e2,e3];refine⟨fun q1=>?_,fun q1=>?_⟩
  ·rw[if_pos q1]at hd;exact nx (i+1,m+1) [(1,1)] ⟨by simp only;omega,by simp only;omega,by simp only[k3,qb6];rw[← hd];congr 1;omega⟩ (by simp only;omega) (h4:=by simp[qag,e2,e3])
  ·rw[if_neg (by simp[q1])]at hd;exact nx (i+1,m) [(1,1)] ⟨by simp only;omega,by simp only;omega,by simp only[k3,qb6];rw[← hd];rfl⟩ (by simp only;omega) (h4:=by simp[qag,e2,e3])
mutual
theorem qpd (id:Nat) (o:Ob):∀ (av:AV),clA av=true→frz id o av=av
 | .top,_=>by simp[frz]
 | .int _ _,_=>by simp[frz]
 | .bool _,_=>by simp[frz]
 | .str _,_=>by simp[frz]
 | .nilp,_=>by simp[frz]
 | .nils,_=>by simp[frz]
 | .nili,_=>by simp[frz]
 | .ifc,_=>by simp[frz]
 | .anyb,_=>by simp[frz]
 | .lst _ _,_=>by simp[frz]
 | .elm _,_=>by simp[frz]
 | .ptr _ _ _,h=>by simp[clA]at h
 | .sl _ _ _,h=>by simp[clA]at h
 | .bsl _ _ _ _ _,h=>by simp[clA]at h
 | .slc _ _ _ _,h=>by simp[clA]at h
 | .agg cs,h=>by simp only[clA]at h;simp[frz,qdv id o cs h]
 | .tup cs,h=>by simp only[clA]at h;simp[frz,qdv id o cs h]
 | .fn f cs,h=>by simp only[clA]at h;simp[frz,qdv id o cs h]
theorem qdv (id:Nat) (o:Ob):∀ (l:List AV),clL l=true→qlR id o l=l
 | [],_=>rfl
 | a::r,h=>by
  simp only[clL,Bool.and_eq_true]at h;simp[qlR,qpd id o a h.1,qdv id o r h.2]
end
theorem qdu (id:Nat) (o x:Ob) (h:clR x.els=true):qkY id o x=x:=by
 have:x.els.map (qlR id o)=x.els:=by
  conv=>rhs;rw[← qGb x.els]
  exact qE1 fun r hr=>qdv id o r (qED.1 h r hr)
 unfold qkY;rw[this]
@[simp] theorem qCU (id:Nat) (o:Ob) (l:List DE):qkY id o (qaR l)=qaR l:=qdu id o _ (qbZ l)
@[simp] theorem qBy (id:Nat) (o:Ob) (l:List CS):qkY id o (kcs l)=kcs l:=qdu id o _ (qbd l)
@[simp] theorem qBw (id:Nat) (o:Ob) (l:List PT):qkY id o (kpt l)=kpt l:=qdu id o _ (qbL l)
@[simp] theorem qBx (id:Nat) (o:Ob) (l:List Int):qkY id o (kin l)=kin l:=qdu id o _ (qaU l)
def qdD (d:DK) (fr:List Int) (txg:Int) (ok:Bool):Ob:=⟨6,[[.lst 1 (d.s0.map qae),.lst 1 (d.s1.map qae),.lst 3 (d.late.map LT.row),.lst 1 (fr.map qac),.int .i64 txg,.bool ok]]⟩
@[simp] theorem qzl (ρ:Nat→Option Plc) (d:DK) (fr:List Int) (txg:Int) (ok:Bool):qbm ρ (qdD d fr txg ok)=qdD d fr txg ok:=by simp[qdD,qbm]
theorem qg4 (d:DK) (fr:List Int) (txg:Int) (ok:Bool):clR (qdD d fr txg ok).els=true:=by simp[clR,qdD,qae,LT.row,qac]
theorem qsG (d:DK) (h:DkT d) (a:Int) (fr:List Int) (txg:Int) (ok:Bool) (text:List UInt8) (ht:text.length≤1048576) :
  ACall prog 277 [.ptr 1000 0 0,.str text] [(1000,qdD d (a::fr) txg ok)]
   (fun r L'=>r=.agg (qbI a text txg).row∧L'=[(1000,qdD (qat d a text).1 fr txg (ok && (qat d a text).2))]):=by
 have c1:=qgw d h a text ht;have c2:=qqv a text txg (by simp[maxLen];omega);obtain⟨R,hR⟩:∃ R,qat d a text=R:=⟨_,rfl⟩;rw[hR]at c1 ⊢;simp only[DK.row]at c1;cases ok
 all_goals
  refine acx func277 [] ntmps277 rfl rfl rfl ?_;simp[qdD,qac];refine c1.call ?_;simp;refine c2.call ?_;simp[PT.row];exact qal qac fr
structure RS where
 d:DK
 fr:List Int
 ok:Bool
deriving DecidableEq,Inhabited
def qbV (txg:Int) (r:RS) (text:List UInt8):PT×RS:=(qbI (r.fr.headD 0) text txg,⟨(qat r.d (r.fr.headD 0) text).1,r.fr.tail,r.ok && (qat r.d (r.fr.headD 0) text).2⟩)
def qb0 (txg:Int):List CS→RS→List CS×RS
 | [],r=>([],r)
 | s::q,r=>if s.dirty=true then (⟨s.name,s.kind,s.frm,s.map,(qbV txg r (qbc s.map)).1,false⟩::(qb0 txg q (qbV txg r (qbc s.map)).2).1,(qb0 txg q (qbV txg r (qbc s.map)).2).2)
   else (s::(qb0 txg q r).1,(qb0 txg q r).2)
def qcQ (txg:Int):List (List UInt8)→RS→List PT×RS
 | [],r=>([],r)
 | t::q,r=>((qbV txg r t).1::(qcQ txg q (qbV txg r t).2).1,(qcQ txg q (qbV txg r t).2).2)
def qaq (d:DK) (c:CO):RS×CO×PT :=
 let x:=qb0 (c.txg+1) c.sets ⟨d,qaT c d.s0.length,true⟩
 let y:=if c.dirty=true then qcQ (c.txg+1) (qbX c.ddt) x.2 else (c.parts,x.2)
 let c2:CO:=⟨c.txg,x.1,c.ddt,y.1,false,c.safe,c.logn⟩
 let z:=qbV (c.txg+1) y.2 (qay c2)
 (z.2,c2,z.1)
theorem qb2 {d:DK} (h:qbw d=true) (a:Int) (t:List UInt8):qbw (qat d a t).1=true∧(qat d a t).1.s0.length=d.s0.length:=by
 have key:∀ (d:DK) (side:Int),qbw d=true→qbw (qaP d side a t).1=true∧(qaP d side a t).1.s0.length=d.s0.length∧(qaP d side a t).1.late.length≤d.late.length+1:=fun d side h=>by
  obtain⟨g1,g2,g3,g4,g5,g6,g7⟩:=qbs h;unfold qaP;rw[if_neg (by simp[h])];split
  ·exact⟨h,rfl,by simp⟩
  ·rename_i hn;simp only[not_or]at hn;refine⟨?_,rfl,by simp⟩;simp only[qbw,Bool.and_eq_true,decide_eq_true_eq,qED];refine⟨⟨⟨⟨⟨⟨g1,g2⟩,g3⟩,by simp;omega⟩,g5⟩,g6⟩,fun w hw=>?_⟩;rcases qFQ.1 hw with hw | hw
   ·exact g7 w hw
   ·simp only[qFO,qFX,or_false]at hw;subst hw;show qa4 d side a t=true;simpa using hn.1
 unfold qat;rw[if_neg (by simp[h])];split
 ·exact⟨h,rfl⟩
 ·have k1:=key d 0 h;split
  ·exact⟨k1.1,k1.2.1⟩
  ·have k2:=key (qaP d 0 a t).1 1 k1.1;exact⟨k2.1,by rw[k2.2.1,k1.2.1]⟩
theorem qlb (txg:Int):∀ (l:List CS) (r:RS),(qb0 txg l r).1.length=l.length
 | [],r=>rfl
 | s::q,r=>by
  simp only[qb0];split <;> simp[qlb txg q]
theorem qit (m:List PT) (h8:m.length=8):(qbc m).length≤1000:=by
 have key:∀ (l:List PT) (b:Bool) (t:List UInt8),qct l b=some t→t.length≤30 * l.length:=fun l=>by
  induction l with
  | nil=>intro b t h;simp only[qct,qEd]at h;subst h;simp
  | cons p r ih =>
   intro b t h;simp only[qct]at h;split at h
   ·cases h
   ·cases hr:qct r false with
    | none=>rw[hr]at h;cases h
    | some u =>
     rw[hr]at h;simp only[qEk,qEd]at h;have:=ih false u hr;have hp:=qbn p;rw[← h];split <;> simp <;> omega
 unfold qbc;cases h:qct m true with
 | none=>simp
 | some t=>have:=key m true t h;simp;omega
theorem qhD (ρ:Nat→Option Plc) (s:CS):qb3 ρ s.row=s.row:=renL_closed.renL_closedL ρ _ (qbO s)
theorem qC5 (s:CS) (h8:s.map.length=8):List.take 27 s.row=.str s.name::.int .i64 s.kind::.str s.frm::s.map.flatMap PT.row∧List.drop 30 s.row=[.bool s.dirty]:=by
 have hl:(s.map.flatMap PT.row).length=24:=by
  rw[qHc];exact qp1 h8
 have e:s.row=(.str s.name::.int .i64 s.kind::.str s.frm::s.map.flatMap PT.row)++(s.home.row++[.bool s.dirty]):=by simp[CS.row]
 have hh:s.home.row.length=3:=rfl;constructor
 ·rw[e];exact qHe (by simp[hl])
 ·rw[e,← List.append_assoc];exact List.drop_left' (by simp[hl])
theorem quT (s:CS) (h8:s.map.length=8) (p:PT):List.take 30 (List.take 27 s.row++.int .i64 p.pa::.int .i64 p.ps::.int .i64 p.pb::List.drop 30 s.row) ++
  .bool false::List.drop 31 (List.take 27 s.row++.int .i64 p.pa::.int .i64 p.ps::.int .i64 p.pb::List.drop 30 s.row)=CS.row ⟨s.name,s.kind,s.frm,s.map,p,false⟩:=by
 have hl:(s.map.flatMap PT.row).length=24:=by
  rw[qHc];exact qp1 h8
 obtain⟨h1,h2⟩:=qC5 s h8;rw[h1,h2];have e:(.str s.name::.int .i64 s.kind::.str s.frm::s.map.flatMap PT.row)++(.int .i64 p.pa::.int .i64 p.ps::.int .i64 p.pb::[AV.bool s.dirty])=((.str s.name::.int .i64 s.kind::.str s.frm::s.map.flatMap PT.row)++[.int .i64 p.pa,.int .i64 p.ps,.int .i64 p.pb])++[.bool s.dirty]:=by simp
 rw[e,qHe (by simp[hl]),qEz (by simp[hl])];simp[CS.row]
def zCO:List AV:=[.int .i64 0,.nils,.nils,.nils,.bool false,.nils,.int .i64 0]
@[simp] theorem qA3 (ρ:Nat→Option Plc):qb3 ρ zCO=zCO:=by simp[zCO]
def blS (c:CO) (d:DK) (fr:List Int):S :=
 ⟨mkT [(3,.ptr 3 0 0),(5,.ptr 5 0 0),(6,.ptr 6 0 0),(7,.ptr 25 0 0),(8,.int .i64 0)],
  qaG [(3,⟨7,[[.int .i64 c.txg,.sl 8 0 c.sets.length,.sl 12 0 c.ddt.length,.sl 17 0 c.parts.length,.bool c.dirty,.sl 22 0 c.safe.length,.int .i64 c.logn]]⟩),(5,⟨7,[zCO]⟩),(6,⟨3,[[.int .i64 0,.int .i64 0,.int .i64 0]]⟩),
   (8,kcs c.sets),(12,qaR c.ddt),(17,kpt c.parts),(22,kin c.safe),(25,qdD d fr (c.txg+1) true)],Us.of [3,5,6,8,12,17,22,25]⟩
theorem qeH (txg:Int):∀ (l:List CS) (r:RS),∀ s∈(qb0 txg l r).1,∃ t∈l,s.map=t.map∧s.name=t.name∧s.frm=t.frm∧s.kind=t.kind
 | [],r,s,hs=>by simp[qb0]at hs
 | t::q,r,s,hs=>by
  simp only[qb0]at hs;split at hs
  ·rcases qFO.1 hs with rfl | hs
   ·exact⟨t,by simp,rfl,rfl,rfl,rfl⟩
   ·obtain⟨u,hu,h⟩:=qeH txg q _ s hs;exact⟨u,by simp[hu],h⟩
  ·rcases qFO.1 hs with rfl | hs
   ·exact⟨s,by simp,rfl,rfl,rfl,rfl⟩
   ·obtain⟨u,hu,h⟩:=qeH txg q _ s hs;exact⟨u,by simp[hu],h⟩
theorem qdH (c:CO):(qay c).length≤4+64 * c.sets.length+64 * c.parts.length:=by
 have k1:∀ (l:List CS) (t:List UInt8),qbC l=some t→t.length≤64 * l.length:=fun l=>by
  induction l with
  | nil=>intro t h;simp only[qbC,qEd]at h;subst h;simp
  | cons s r ih =>
   intro t h;simp only[qbC]at h;split at h
   ·cases h
   ·rename_i hs;cases hr:qbC r with
    | none=>rw[hr]at h;cases h
    | some u =>
     rw[hr]at h;simp only[qEk,qEd]at h;have:=ih u hr;have hp:=qfA (s:=s) (by simpa using hs);rw[← h];simp;omega
 have k2:∀ (l:List PT) (t:List UInt8),qa0 l=some t→t.length≤64 * l.length:=fun l=>by
  induction l with
  | nil=>intro t h;simp only[qa0,qEd]at h;subst h;simp
  | cons p r ih =>
   intro t h;simp only[qa0]at h;split at h
   ·cases h
   ·cases hr:qa0 r with
    | none=>rw[hr]at h;cases h
    | some u =>
     rw[hr]at h;simp only[qEk,qEd]at h;have:=ih u hr;have hp:=qbn p;rw[← h];simp;omega
 unfold qay;cases h1:qbC c.sets with
 | none=>simp
 | some t =>
  cases h2:qa0 c.parts with
  | none=>simp
  | some u =>
   have:=k1 _ _ h1;have:=k2 _ _ h2;simp;omega
theorem qg1 (l:List DE):(qcl l).length≤30 * l.length:=by
 have key:∀ (l:List DE) (b:Bool),(∀ e∈l,qca e=true)→(qcS l b).length≤30 * l.length:=fun l=>by
  induction l with
  | nil=>intro b h;simp[qcS]
  | cons e r ih =>
   intro b h;have h1:=ih false fun x hx=>h x (by simp[hx]);have h2:=qgZ (h e (by simp));simp only[qcS];split <;> simp <;> omega
 unfold qcl;split
 ·rename_i h;exact key l true (qhj h)
 ·simp
theorem qjx:∀ (k:Nat) (l:List DE),∀ t∈qc9 k l,t.length≤180
 | 0,l,t,h=>by simp[qc9]at h
 | k+1,l,t,h=>by
  simp only[qc9]at h;split at h
  ·simp at h
  ·rcases qFO.1 h with rfl | h
   ·have:=qg1 (l.take 6);simp at this;omega
   ·exact qjx k _ t h
def qDa (c:CO) (cur:List CS) (rs:RS):S :=
 ⟨mkT [(3,.ptr 3 0 0),(5,.ptr 5 0 0),(6,.ptr 6 0 0),(7,.ptr 25 0 0),(9,.lst 1 ((qbX c.ddt).map qae)),(10,.int .i64 0)],
  qaG [(3,⟨7,[[.int .i64 c.txg,.sl 8 0 c.sets.length,.sl 12 0 c.ddt.length,.sl 900 0 0,.bool c.dirty,.sl 22 0 c.safe.length,.int .i64 c.logn]]⟩),(5,⟨7,[zCO]⟩),(6,⟨3,[[.int .i64 0,.int .i64 0,.int .i64 0]]⟩),
   (8,kcs cur),(12,qaR c.ddt),(22,kin c.safe),(25,qdD rs.d rs.fr (c.txg+1) rs.ok),(900,kpt [])],Us.of [3,5,6,8,12,22,25,900]⟩
@[simp] theorem qBv (id:Nat) (o:Ob) (d:DK) (fr:List Int) (txg:Int) (ok:Bool):qkY id o (qdD d fr txg ok)=qdD d fr txg ok:=qdu id o _ (qg4 d fr txg ok)
theorem qk7 {α:Type} {l:List α} {i:Nat} {x:α} (h:i<l.length):(l.set i x).take (i+1)=l.take i++[x]:=by
 rw[qGc,qF8 h,qHf (by omega)];rfl
theorem qsH (d:DK) (hd:qbw d=true) (c:CO) (h:CoT c) (hm:CoM c) (hf:qcE c≤(qaT c d.s0.length).length) (ht:-1000000≤c.txg∧c.txg≤10000000) :
  ACall prog 210 [.agg d.row,.agg c.row] [] (fun r L'=>∃ p,(p=17∨p=900)∧r=.tup [.ptr 25 0 0,qe0 (qaq d c).2.1 8 12 p 22,.agg (qaq d c).2.2.row] ∧
   L'=[(8,kcs (qaq d c).2.1.sets),(12,qaR c.ddt),(p,kpt (qaq d c).2.1.parts),(22,kin c.safe),(25,qdD (qaq d c).1.d (qaq d c).1.fr (c.txg+1) (qaq d c).1.ok)]):=by
 have h1:=hm.sets;have h2:=hm.ddt;have h3:=hm.parts;have hl:=qbs hd;have ck:=qqp c h;have cf:=qqq c h d.s0.length (by omega);have e1:=qao (c.txg+1) (by omega) (by omega);refine acx func210 [(2,[zJ 0 [2] [],zJ 1 [3] [2],zJ 2 [] [2,3],zJ 3 [] [2,3],zJ 4 [2] [2,3],zJ 5 [] [2,3],zJ 7 [] [2,3],zJ 8 [3] [2,3],zJ 9 [] [2,3],zJ 6 [] [2,3],zI 10,zI 11,zI 12]),(7,[zI 0,zJ 1 [3] [],zJ 2 [] [3],zJ 3 [] [3],zJ 4 [] [3],zJ 5 [3] [3],zJ 6 [] [3],zJ 7 [8] [3],zJ 8 [] [3],zJ 9 [8] [3],zJ 10 [] [3],zJ 11 [] [3],zJ 12 [8] [],zI 13,zI 14]),(15,[zI 0,zJ 1 [3] [],zJ 2 [] [3],zJ 3 [] [3],zJ 4 [] [3],zJ 5 [] [3],zJ 6 [] [3],zJ 7 [] [3],zJ 8 [] [3],zI 9,zI 10,zI 11]),(18,[zI 0,zJ 1 [3] [],zJ 2 [11] [3],zJ 3 [] [3,11],zJ 4 [] [11],zI 5])] ntmps210 rfl rfl rfl ?_;simp[CO.row,DK.row];simp only[CO.row]at ck cf;refine qad [] (by kernel_rfl) ck (by simp) (by simpa [CO.row]using qeB c) trivial (by simp) (by simp) ?_;rintro r L' ⟨rfl,rfl⟩;refine⟨[(8,8),(12,12),(17,17),(22,22)],⟨by simp,by simp,by simp,by simp,by simp⟩,?_⟩;simp only[qaf];simp[qe0,CO.row,DK.row];refine qaJ [] (by kernel_rfl) cf (by simp[qbW,mtA,kcs,qaR,kpt,kin,qal,qbO]) (by simp) trivial (by simp) (by simp) ?_;rintro r L' ⟨rfl,rfl⟩;refine⟨by simp,by simp[kin,qac],[(900,20)],⟨by simp,by simp,by simp,by simp,by simp⟩,?_⟩;simp only[qaf];simp[e1];refine qeW (s':=blS c d (qaT c d.s0.length)) (qyH 20 (o:=kin (qaT c d.s0.length)) (by simp) (by simpa [clR]using qaU _) (by simp) (by simp) [3,5,6,7,8] [(3,3),(5,5),(6,6),(8,8),(12,12),(17,17),(22,22),(25,25)] (by simp[qah]) (by simp[-qkY,qaw,qag,blS];simp[qkY,qdD,zCO,kin,qal])) ?_;simp only[blS];have hX:∃ X,qb0 (c.txg+1) c.sets ⟨d,qaT c d.s0.length,true⟩=X:=⟨_,rfl⟩;obtain⟨X,hX⟩:=hX;refine qaS (X:=Nat×List CS×RS) [3,5,6,7,8] [(3,3),(5,5),(6,6),(8,8),(12,12),(17,17),(22,22),(25,25)] (fun x=>[(8,.int .i64 x.1)]) (fun x=>[(8,kcs x.2.1),(25,qdD x.2.2.d x.2.2.fr (c.txg+1) x.2.2.ok)]) (fun x=>c.sets.length-x.1)
  (fun x=>x.1≤c.sets.length∧x.2.1.length=c.sets.length∧x.2.1.drop x.1=c.sets.drop x.1∧qbw x.2.2.d=true∧qb6 (c.sets.drop x.1)+(1+if c.dirty=true then (qbX c.ddt).length else 0)≤x.2.2.fr.length ∧
   (x.2.1.take x.1++(qb0 (c.txg+1) (c.sets.drop x.1) x.2.2).1,(qb0 (c.txg+1) (c.sets.drop x.1) x.2.2).2)=X) (0,c.sets,⟨d,qaT c d.s0.length,true⟩) ⟨by simp,rfl,rfl,hd,by simp only[List.drop_zero];unfold qcE at hf;omega,by simpa using hX⟩ ?_ (he:=by simp[qag,qdD])
 rintro⟨i,cur,rs⟩ ⟨hi,hcl,hcd,hok,hfr,hX2⟩;simp only at hi hcl hcd hok hfr hX2;cases hr:c.sets.drop i with
 | nil =>
  have:=qaY hr;rw[hr]at hX2 hfr;have hie:i=c.sets.length:=by omega
  subst hie;rw[qEF (by omega)]at hX2;simp only[qb0,qGw]at hX2;simp[qag,hcl];subst hX2;have hm8:∀ s∈cur,s.map.length=8∧s.name.length≤1048576∧s.frm.length≤1048576:=fun s hs=>by
   have hq:=qeH (c.txg+1) c.sets ⟨d,qaT c d.s0.length,true⟩ s (by rw[hX];exact hs);obtain⟨t,ht,e1,e2,e3,_⟩:=hq;rw[e1,e2,e3];exact⟨h.m8 t ht,h.nm t ht⟩
  refine⟨fun hdt=>?_,fun hdt=>?_⟩
  ·have co:=qqk c.ddt (by omega);refine qaJ [] (by kernel_rfl) co (by simp[qbW,mtA,qaR,qal]) (by simp) trivial (by simp) (by simp) ?_;rintro r L' ⟨rfl,rfl⟩;refine⟨by simp,by simp[qai,qae],[(900,62)],⟨by simp,by simp,by simp,by simp,by simp⟩,?_⟩;simp only[qaf];simp;refine qeW (s':=qDa c cur rs) ((qeF 900 3 (by simp)).trans ((qdk 3 3 (sz:=7) (row:=[.int .i64 c.txg,.sl 8 0 c.sets.length,.sl 12 0 c.ddt.length,.nils,.bool c.dirty,.sl 22 0 c.safe.length,.int .i64 c.logn]) (by simp) (by simp) (qcF 900 0)).trans
    (qyH 62 (o:=qai (qbX c.ddt)) (by simp) (by simp[qai,qae]) (by simp) (by simp) [3,5,6,7,9,10] [(3,3),(5,5),(6,6),(8,8),(12,12),(22,22),(25,25),(900,900)] (by simp[qah]) (by simp[-qkY,qaw,qag,qDa];simp[qkY,qai,qal,zCO,kpt])))) ?_
   simp only[qDa];obtain⟨T,hT0⟩:∃ T,qbX c.ddt=T:=⟨_,rfl⟩;have hTl:T.length≤1000:=by rw[← hT0];have:(qbX c.ddt).length≤c.ddt.length:=qgB _ _;omega
   obtain⟨Y,hY⟩:∃ Y,qcQ (c.txg+1) T rs=Y:=⟨_,rfl⟩;rw[hdt,hT0]at hfr;simp only[qb6,qHd,if_true]at hfr;have hTt:∀ t∈T,t.length≤1048576:=fun t ht=>by
    rw[← hT0]at ht;have:=qjx c.ddt.length c.ddt t ht;omega
   rw[hT0];refine qaS (X:=Nat×List PT×RS) [3,5,6,7,9,10] [(3,3),(5,5),(6,6),(8,8),(12,12),(22,22),(25,25),(900,900)] (fun x=>[(10,.int .i64 x.1)])
    (fun x=>[(3,⟨7,[[.int .i64 c.txg,.sl 8 0 c.sets.length,.sl 12 0 c.ddt.length,.sl 900 0 x.2.1.length,.bool c.dirty,.sl 22 0 c.safe.length,.int .i64 c.logn]]⟩),(25,qdD x.2.2.d x.2.2.fr (c.txg+1) x.2.2.ok),(900,kpt x.2.1)]) (fun x=>T.length-x.1)
    (fun x=>x.1≤T.length∧x.2.1.length=x.1∧qbw x.2.2.d=true∧(T.length-x.1)+1≤x.2.2.fr.length∧(x.2.1++(qcQ (c.txg+1) (T.drop x.1) x.2.2).1,(qcQ (c.txg+1) (T.drop x.1) x.2.2).2)=Y) (0,[],rs) ⟨by simp,rfl,hok,by simp only;omega,by simpa using hY⟩ ?_ (he:=by simp[qag])
   rintro⟨i,ps,rs'⟩ ⟨hi,hpl,hok',hfr',hY2⟩;simp only at hi hpl hok' hfr' hY2;cases hr2:T.drop i with
   | nil =>
    have:=qaY hr2;rw[hr2]at hY2;have hie:i=T.length:=by omega
    simp only[qcQ,qGw]at hY2;subst hie;subst hY2;obtain⟨a,fr,hfe⟩:∃ a fr,rs'.fr=a::fr:=by
     cases hh:rs'.fr with
     | nil=>rw[hh]at hfr';simp at hfr'
     | cons a fr=>exact⟨a,fr,rfl⟩
    obtain⟨rd,rf,rok⟩:=rs';simp only at hfe hok' hfr' hY;subst hfe;obtain⟨c2,hc2⟩:∃ c2:CO,c2=⟨c.txg,cur,c.ddt,ps,false,c.safe,c.logn⟩:=⟨_,rfl⟩;have hT:CoT c2:=by
     subst hc2;exact⟨by simp only;omega,h.ddt,by simp only;omega,h.safe,fun s hs=>(hm8 s hs).1,fun s hs=>(hm8 s hs).2⟩
    have cr:=qqh c2 hT;have hrl:(qay c2).length≤1048576:=by
     have:=qdH c2;have k1:c2.sets.length≤1000:=by subst hc2;simp only;omega
     have k2:c2.parts.length≤1000:=by subst hc2;simp only;omega
     omega
    have cp:=qsG rd (qdE hok') a fr (c.txg+1) rok (qay c2) hrl;have hb:qaq d c=(⟨(qat rd a (qay c2)).1,fr,rok && (qat rd a (qay c2)).2⟩,c2,qbI a (qay c2) (c.txg+1)):=by
     unfold qaq;simp only[hX,hdt,if_true,hT0,hY,← hc2,qbV,qHg,qG1]
    have cr':=cr;simp only[CO.row]at cr';simp[qag];refine cr'.view (by simp[qbW,mtA,kcs,qaR,kpt,kin,qal,qbO,hc2,hdt,hcl];rw[← hcl];exact qal _ _) ?_;simp;refine qad [(1000,.whole 25)] (by kernel_rfl) cp (by simp) (by simp) (by simp;exact qaa rfl (qg4 _ _ _ _)) (by simp) (by simp) ?_;rintro r L' ⟨rfl,rfl⟩;refine⟨[],⟨by simp,by simp,by simp,by simp,by simp⟩,?_⟩;simp only[qaf];simp[PT.row];rw[hb];subst hc2;simp[hcl,hdt]
   | cons t q =>
    obtain⟨k1,e0,e1',k3⟩:=qaZ hr2;rw[hr2]at hY2;have hli:(i:Int)<T.length:=by omega
    have e2:=qao ((i:Int)+1) (by omega) (by omega);obtain⟨a,fr,hfe⟩:∃ a fr,rs'.fr=a::fr:=by
     cases hh:rs'.fr with
     | nil=>rw[hh]at hfr';simp at hfr'
     | cons a fr=>exact⟨a,fr,rfl⟩
    obtain⟨rd,rf,rok⟩:=rs';simp only at hfe hok' hfr' hY2;subst hfe;have cp:=qsG rd (qdE hok') a fr (c.txg+1) rok t (hTt t (qGj e1'));have hbo:=qb2 hok' a t;simp only[qcQ,qbV,qHg,qG1]at hY2;simp only[qEI]at hfr';simp[qag,hli,k1,e0,e1',qae];refine qad [(1000,.whole 25)] (by kernel_rfl) cp (by simp) (by simp) (by simp;exact qaa rfl (qg4 _ _ _ _)) (by simp) (by simp) ?_;rintro r L' ⟨rfl,rfl⟩;refine⟨[],⟨by simp,by simp,by simp,by simp,by simp⟩,?_⟩;simp only[qaf];simp[PT.row,kpt,hpl];refine⟨by omega,nx (i+1,ps++[qbI a t (c.txg+1)],⟨(qat rd a t).1,fr,rok && (qat rd a t).2⟩) [(3,3),(5,5),(6,6),(8,8),(12,12),(22,22),(25,25),(79,900)] ⟨by simp only;omega,by simp[hpl],hbo.1,by simp only;omega,by simp only[k3];rw[List.append_assoc];exact hY2⟩ (by simp only;omega) (h4:=?_)⟩;have htk:List.take i (ps.map PT.row)=ps.map PT.row:=qEF (by simp[hpl]);simp[qag,kpt,e2,hpl,PT.row,htk]
  ·rw[hdt]at hfr;simp only[qb6,qHd,qEl,if_false]at hfr;obtain⟨a,fr,hfe⟩:∃ a fr,rs.fr=a::fr:=by
    cases hh:rs.fr with
    | nil=>rw[hh]at hfr;simp at hfr
    | cons a fr=>exact⟨a,fr,rfl⟩
   obtain⟨rd,rf,rok⟩:=rs;simp only at hfe hok hX;subst hfe;obtain⟨c2,hc2⟩:∃ c2:CO,c2=⟨c.txg,cur,c.ddt,c.parts,false,c.safe,c.logn⟩:=⟨_,rfl⟩;have hT:CoT c2:=by
    subst hc2;exact⟨by simp only;omega,h.ddt,h.parts,h.safe,fun s hs=>(hm8 s hs).1,fun s hs=>(hm8 s hs).2⟩
   have cr:=qqh c2 hT;have hrl:(qay c2).length≤1048576:=by
    have:=qdH c2;have k1:c2.sets.length≤1000:=by subst hc2;simp only;omega
    have k2:c2.parts.length≤1000:=by subst hc2;exact h3
    omega
   have cp:=qsG rd (qdE hok) a fr (c.txg+1) rok (qay c2) hrl;have hb:qaq d c=(⟨(qat rd a (qay c2)).1,fr,rok && (qat rd a (qay c2)).2⟩,c2,qbI a (qay c2) (c.txg+1)):=by
    unfold qaq;simp only[hX,hdt,qEl,if_false,← hc2,qbV,qHg,qG1]
   have cr':=cr;simp only[CO.row]at cr';refine cr'.view (by simp[qbW,mtA,kcs,qaR,kpt,kin,qal,qbO,hc2,hdt,hcl];rw[← hcl];exact qal _ _) ?_;simp;refine qad [(1000,.whole 25)] (by kernel_rfl) cp (by simp) (by simp) (by simp;exact qaa rfl (qg4 _ _ _ _)) (by simp) (by simp) ?_;rintro r L' ⟨rfl,rfl⟩;refine⟨[],⟨by simp,by simp,by simp,by simp,by simp⟩,?_⟩;simp only[qaf];simp[PT.row];rw[hb];subst hc2;simp[hcl,hdt]
 | cons s q =>
  obtain⟨k1,e0,e1',k3⟩:=qaZ hr;rw[hr]at hX2 hfr hcd;obtain⟨m1,m0,m2,m3⟩:=qaZ hcd;have h8:=h.m8 s (qGj e1');have hli:(i:Int)<c.sets.length:=by omega
  have e2:=qao ((i:Int)+1) (by omega) (by omega);have hx30:=qoB s h8;have hx30':=(qEW.1 hx30).2;simp[qag,hcl,k1,m1,m0,m2,hli,qaV s h8,hx30,hx30',e2,kcs];have c1:=qle s.map h8;have hml:=qit s.map h8;refine⟨fun q1=>?_,fun q1=>?_⟩
  ·have hfr1:0<rs.fr.length:=by
    have:qb6 (s::q)=qb6 q+1:=by simp[qb6,qGI,q1]
    omega
   obtain⟨a,fr,hfe⟩:∃ a fr,rs.fr=a::fr:=by
    cases hh:rs.fr with
    | nil=>rw[hh]at hfr1;simp at hfr1
    | cons a fr=>exact⟨a,fr,rfl⟩
   obtain⟨rd,rf,rok⟩:=rs;simp only at hfe hok hfr hX2;subst hfe;have cp:=qsG rd (qdE hok) a fr (c.txg+1) rok (qbc s.map) (by omega);have hbo:=qb2 hok a (qbc s.map);rw[qhR s h8];refine c1.call ?_;simp;refine qad [(1000,.whole 25)] (by kernel_rfl) cp (by simp) (by simp) (by simp;exact qaa rfl (qg4 _ _ _ _)) (by simp) (by simp) ?_;rintro r L' ⟨rfl,rfl⟩;refine⟨[],⟨by simp,by simp,by simp,by simp,by simp⟩,?_⟩;simp only[qaf];simp[hcl,k1,m1,m0,m2,hli,qaV s h8];have hdn:qb6 (s::q)=qb6 q+1:=by simp[qb6,qGI,q1]
   simp only[qb0,if_pos q1,qbV,qHg,qG1]at hX2;simp only[qEI]at hfr;refine nx (i+1,cur.set i ⟨s.name,s.kind,s.frm,s.map,qbI a (qbc s.map) (c.txg+1),false⟩,⟨(qat rd a (qbc s.map)).1,fr,rok && (qat rd a (qbc s.map)).2⟩) [(3,3),(5,5),(6,6),(8,8),(12,12),(17,17),(22,22),(25,25)]
    ⟨by simp only;omega,by simpa using hcl,by simp only;rw[qHh (by omega),m3,k3],hbo.1,by simp only[k3];omega,?_⟩ (by simp only;omega) (h4:=?_)
   ·simp only[k3];rw[qk7 m1,List.append_assoc];exact hX2
   ·simp[qag,kcs,qaV s h8,e2];rw[quT s h8,qhD]
  ·have hdn:qb6 (s::q)=qb6 q:=by simp[qb6,qGI,q1]
   simp only[qb0,q1,qEl,if_false]at hX2;exact nx (i+1,cur,rs) [(3,3),(5,5),(6,6),(8,8),(12,12),(17,17),(22,22),(25,25)] ⟨by simp only;omega,hcl,by simp only;rw[m3,k3],hok,by simp only[k3];omega,by simp only[k3];rw[qGc,m2];simpa using hX2⟩ (by simp only;omega) (h4:=by simp[qag,e2,kcs])
end Go.Av.F
end
section
namespace Go.Av
open Go Go.Proofs
variable {P:Program}
theorem ACall.frzP {f:Nat} {args:List AV} {R R':AV→List (Nat×Ob)→Prop} (h:ACall P f args [] R)
  (hr:∀ r L',R r L'→∃ A L2,L'=A++L2∧A.length≤20∧(L'.map (·.1)).Nodup∧(∀ x∈L',clR x.2.els=true)∧R' (qbe A r) L2):ACall P f args [] R':=by
 have key:∀ (n:Nat) (R:AV→List (Nat×Ob)→Prop),ACall P f args [] R →
   (∀ r L',R r L'→∃ A L2,L'=A++L2∧A.length≤n∧(L'.map (·.1)).Nodup∧(∀ x∈L',clR x.2.els=true)∧R' (qbe A r) L2)→ACall P f args [] R':=by
  intro n
  induction n with
  | zero =>
   intro R h hr;refine h.mono fun r L' hR=>?_;obtain⟨A,L2,rfl,hl,_,_,hv⟩:=hr r L' hR;have:A=[]:=qGa (by omega);subst this;exact hv
  | succ n ih =>
   intro R h hr;refine ih (fun r L'=>∃ A L2,L'=A++L2∧A.length≤n∧(L'.map (·.1)).Nodup∧(∀ x∈L',clR x.2.els=true)∧R' (qbe A r) L2) (h.frz1 fun r L' hR=>?_) fun r L' h=>h;obtain⟨A,L2,rfl,hl,hn,hc,hv⟩:=hr r L' hR;cases A with
   | nil=>exact .inl ⟨[],L2,rfl,by simp,hn,hc,hv⟩
   | cons x A2 =>
    obtain⟨id,o⟩:=x;simp only[qGh,qEQ,qFN,qFO,qEI]at hn hc hl;exact .inr ⟨id,o,A2++L2,rfl,hn.1,hc _ (.inl rfl),fun x hx=>hc x (.inr hx),A2,L2,rfl,by omega,hn.2,fun x hx=>hc x (.inr hx),hv⟩
 exact key 20 R h hr
end Go.Av
namespace Go.Av.F
open Go Go.Av Go.Proofs Go.Proofs.Tryz
theorem qg8 (txg:Int) (p:PT):(qa3 txg p).length≤70000:=by
 unfold qa3;split
 ·simp
 ·exact qqf _
def qhn (d:DK) (txg:Int) (p:PT):DK×Bool:=qat d (1+txg % 4) (qa3 txg p)
theorem qyZ (d:DK) (h:DkT d) (txg:Int) (p:PT) (ht:0≤txg∧txg≤10000000):CV prog 211 [.agg d.row,.int .i64 txg,.agg p.row] (.tup [.agg (qhn d txg p).1.row,.bool (qhn d txg p).2]):=by
 have c1:=quh txg p;have hl:=qg8 txg p;have c2:=qgw d h (1+txg % 4) (qa3 txg p) (by omega);unfold qhn;generalize qat d (1+txg % 4) (qa3 txg p)=R at *
 simp only[DK.row,PT.row]at c1 c2;have q2:txg.tmod 4=txg % 4:=qGV (by omega);have e1:=qao (txg % 4) (by omega) (by omega);have e2:=qao (1+txg % 4) (by omega) (by omega);refine cvx func211 [(1,[zJ 0 [3] [],zJ 1 [] [3],zJ 2 [] [3],zJ 3 [] [3],zJ 4 [] [3],zJ 5 [5] [3],zJ 6 [] [3],zI 7,zI 8,zI 9,zI 10,zI 11])] ntmps211 rfl rfl rfl ?_ (hca:=by simp[DK.row,PT.row]) (hcv:=by simp[DK.row]);simp[DK.row,PT.row,q2,e1,e2];refine c1.call ?_;simp;refine c2.call ?_;simp
def qdJ (d:DK) (c:CO):Bool:=decide (c.txg<1000000) && decide (qcE c≤(qaT c d.s0.length).length)
theorem qv4 (d:DK) (hd:DkT d) (c:CO) (h:CoT c) (hm:CoM c):CV prog 116 [.agg d.row,.agg c.row] (.bool (qdJ d c)):=by
 have hl:=hd.l0;have c1:=qui c h d.s0.length (by omega);have c2:=qv2 c h hm;unfold qdJ;generalize qaT c d.s0.length=l at *
 generalize qcE c=n at *
 simp only[CO.row]at c1 c2;refine cvx func116 [(1,[zI 0,zJ 1 [3] [],zI 2,zI 3,zJ 4 [3] [],zJ 5 [] [3],zJ 6 [] [3],zJ 7 [2] [3],zJ 8 [] [3],zJ 11 [3] [3,2],zJ 9 [] [3],zJ 10 [] [3],zI 12,zI 13,zI 14,zI 15])] ntmps116 rfl rfl rfl ?_ (hca:=by simp[DK.row,qeB]);simp[DK.row,CO.row];refine⟨fun q1=>?_,fun q1 q2=>by omega⟩;refine c1.call ?_;simp[CO.row];refine c2.call ?_;simp;simp[q1]
theorem qsI (d:DK) (hd:qbw d=true) (c:CO) (h:CoT c) (hm:CoM c) (hf:qcE c≤(qaT c d.s0.length).length) (ht:-1000000≤c.txg∧c.txg≤10000000) :
  ACall prog 210 [.agg d.row,.agg c.row] [] (fun r L'=>r=.tup [.ptr 25 0 0,.agg (qaq d c).2.1.row,.agg (qaq d c).2.2.row] ∧
   L'=[(25,qdD (qaq d c).1.d (qaq d c).1.fr (c.txg+1) (qaq d c).1.ok)]):=by
 have hdd:(qaq d c).2.1.ddt=c.ddt∧(qaq d c).2.1.safe=c.safe:=⟨rfl,rfl⟩;refine(qsH d hd c h hm hf ht).frzP ?_;rintro r L' ⟨p,hp,rfl,rfl⟩;generalize qaq d c=B at *
 refine⟨[(8,kcs B.2.1.sets),(12,qaR c.ddt),(p,kpt B.2.1.parts),(22,kin c.safe)],[(25,qdD B.1.d B.1.fr (c.txg+1) B.1.ok)],rfl,by simp,?_,?_,?_,rfl⟩
 ·rcases hp with rfl | rfl <;> simp
 ·intro x hx;simp only[qFO,qFX,or_false]at hx;rcases hx with rfl | rfl | rfl | rfl | rfl
  ·exact qbd _
  ·exact qbZ _
  ·exact qbL _
  ·exact qaU _
  ·exact qg4 _ _ _ _
 ·rcases hp with rfl | rfl
  all_goals simp[qbe,qe0,CO.row,kcs,kpt,kin,qaR,qal,hdd.1,hdd.2,PT.row]
end Go.Av.F
end
section
namespace Go.Av.F
open Go Go.Av Go.Proofs Go.Proofs.Tryz
theorem qlo (n m:Nat) (k:Nat):∀ (l:List LT) (p:List (List UInt8)×List (List UInt8)),p.1.length=n→p.2.length=m→(∀ x∈p.1,x.length≤k)→(∀ x∈p.2,x.length≤k)→(∀ w∈l,w.lx.length≤k) →
  (l.foldl qeh p).1.length=n∧(l.foldl qeh p).2.length=m∧(∀ x∈(l.foldl qeh p).1,x.length≤k)∧∀ x∈(l.foldl qeh p).2,x.length≤k
 | [],p,h1,h2,h3,h4,_=>⟨h1,h2,h3,h4⟩
 | w::q,p,h1,h2,h3,h4,h5=>by
  have hw:=h5 w (by simp);have hl:=qhE p w;refine qlo n m k q (qeh p w) (by omega) (by omega) (fun x hx=>?_) (fun x hx=>?_) fun w hw=>h5 w (by simp[hw])
  ·unfold qeh at hx;split at hx
   ·rcases qHi hx with hx | rfl
    ·exact h3 x hx
    ·exact hw
   ·exact h3 x hx
  ·unfold qeh at hx;split at hx
   ·exact h4 x hx
   ·rcases qHi hx with hx | rfl
    ·exact h4 x hx
    ·exact hw
theorem qhM {d:DK} (h:qbw d=true):qbw (qbt d)=true∧(qbt d).s0.length=d.s0.length∧(qbt d).late=[]:=by
 obtain⟨g1,g2,g3,g4,g5,g6,g7⟩:=qbs h;have k:=qlo d.s0.length d.s1.length 420 d.late (d.s0,d.s1) rfl rfl g5 g6 fun w hw=>(thereB_iff.1 (g7 w hw)).2.2;unfold qbt;rw[if_pos h];obtain⟨k1,k2,k3,k4⟩:=k;refine⟨?_,k1,rfl⟩;simp only[qbw,Bool.and_eq_true,decide_eq_true_eq,qED];exact⟨⟨⟨⟨⟨⟨by omega,by omega⟩,by omega⟩,by simp⟩,k3⟩,k4⟩,by simp⟩
theorem qhA {r:RS} (h:qbw r.d=true) (txg:Int) (t:List UInt8):qbw (qbV txg r t).2.d=true∧(qbV txg r t).2.d.s0.length=r.d.s0.length:=qb2 h _ t
theorem qjY (txg:Int):∀ (l:List CS) (r:RS),qbw r.d=true→qbw (qb0 txg l r).2.d=true∧(qb0 txg l r).2.d.s0.length=r.d.s0.length
 | [],r,h=>⟨h,rfl⟩
 | s::q,r,h=>by
  simp only[qb0];split
  ·have h1:=qhA h txg (qbc s.map);have h2:=qjY txg q _ h1.1;exact⟨h2.1,by rw[h2.2,h1.2]⟩
  ·exact qjY txg q r h
theorem qqN (txg:Int):∀ (l:List (List UInt8)) (r:RS),qbw r.d=true→qbw (qcQ txg l r).2.d=true∧(qcQ txg l r).2.d.s0.length=r.d.s0.length∧(qcQ txg l r).1.length=l.length
 | [],r,h=>⟨h,rfl,rfl⟩
 | t::q,r,h=>by
  simp only[qcQ];have h1:=qhA h txg t;have h2:=qqN txg q _ h1.1;exact⟨h2.1,by rw[h2.2.1,h1.2],by simp[h2.2.2]⟩
theorem qiU {d:DK} (hd:qbw d=true) (c:CO):qbw (qaq d c).1.d=true∧(qaq d c).1.d.s0.length=d.s0.length:=by
 have h1:=qjY (c.txg+1) c.sets ⟨d,qaT c d.s0.length,true⟩ hd;unfold qaq;simp only;split
 ·have h2:=qqN (c.txg+1) (qbX c.ddt) _ h1.1;have h3:=qhA h2.1 (c.txg+1) (qay ⟨c.txg,(qb0 (c.txg+1) c.sets ⟨d,qaT c d.s0.length,true⟩).1,c.ddt,(qcQ (c.txg+1) (qbX c.ddt) (qb0 (c.txg+1) c.sets ⟨d,qaT c d.s0.length,true⟩).2).1,false,c.safe,c.logn⟩);exact⟨h3.1,by rw[h3.2,h2.2.1,h1.2]⟩
 ·have h3:=qhA h1.1 (c.txg+1) (qay ⟨c.txg,(qb0 (c.txg+1) c.sets ⟨d,qaT c d.s0.length,true⟩).1,c.ddt,c.parts,false,c.safe,c.logn⟩);exact⟨h3.1,by rw[h3.2,h1.2]⟩
def qxn (d:DK) (c:CO):DK×CO×Int :=
 if (qaq d c).1.ok=false then (d,(qaq d c).2.1,7) else
 if (qhn (qbt (qaq d c).1.d) (c.txg+1) (qaq d c).2.2).2=false then (d,(qaq d c).2.1,7) else
 (qbt (qhn (qbt (qaq d c).1.d) (c.txg+1) (qaq d c).2.2).1,
  ⟨c.txg+1,(qaq d c).2.1.sets,(qaq d c).2.1.ddt,(qaq d c).2.1.parts,(qaq d c).2.1.dirty,qcM (qaq d c).2.1 (qaq d c).2.2.pa,0⟩,0)
def zK:CO:=⟨0,[],[],[],false,[],0⟩
theorem qwR:qi1 (.agg [.int .i64 0,.nils,.nils,.nils,.bool false,.nils,.int .i64 0]) (.agg zK.row) :=
 qkm (.cons (qa1 _) (.cons (qbT 31) (.cons (qbT 3) (.cons (qbT 3) (.cons (qa1 _) (.cons (qbT 1) (.cons (qa1 _) .nil)))))))
theorem qb1 {c:CO} (h:qap c=true):CoM c∧c.sets.length≤6∧c.ddt.length≤48∧c.parts.length≤8∧0≤c.txg∧c.txg≤1000000∧0≤c.logn∧c.logn≤8:=by
 have hb:=(okB_iff.1 (qiQ h)).1;have hd:=(qiN (qoC h)).1;simp only[qap,Bool.and_eq_true,decide_eq_true_eq]at h;have h1:=h.1.1.1.1.1.1.1.1.1.1.1;have h2:=h.1.1.1.1.1.1.1.1.1.1.2;have h3:=h.1.1.1.1.1.1.1.1.2;have h4:=h.1.1.1.1.1.1.2;have h5:=h.1.1.1.1.1.2;simp only[qFs]at hb;exact⟨⟨by omega,by omega,by omega⟩,hb,hd,h3,h1,h2,h4,h5⟩
end Go.Av.F
end
section
namespace Go.Av
open Go Go.Proofs
variable {P:Program}
theorem ACall.hps {f:Nat} {args:List AV} {L:List (Nat×Ob)} {R R':AV→List (Nat×Ob)→Prop} (h:ACall P f args L R) (hr:∀ r L',R r L'→∃ L2,(∀ i,qaG L2 i=qaG L' i)∧R' r L2):ACall P f args L R':=by
 intro w Z γ vs hv hh hg;refine(h w Z γ vs hv hh hg).mono ?_;rintro e w' ⟨v,r,L',Z',γ',h1,h2,h3⟩;obtain⟨L2,he,hR⟩:=hr r L' h2;have:qaG L'=qaG L2:=funext fun i=>(he i).symm;rw[this]at h3;exact⟨v,r,L2,Z',γ',h1,hR,h3⟩
end Go.Av
namespace Go.Av.F
open Go Go.Av Go.Proofs Go.Proofs.Tryz
def qeZ (c:CO) (id:Nat):AV:=.agg [.int .i64 c.txg,.sl id 0 c.sets.length,.lst 3 (c.ddt.map DE.row),.lst 3 (c.parts.map PT.row),.bool c.dirty,.lst 1 (c.safe.map qac),.int .i64 c.logn]
theorem qv5 (c:CO) (h:CoT c):ACall prog 117 [.agg c.row] [] (fun r L'=>r=qeZ c 8∧L'=[(8,kcs c.sets)]):=by
 refine((qqp c h).hps (R':=fun r L'=>r=qe0 c 8 12 17 22∧L'=[(12,qaR c.ddt),(17,kpt c.parts),(22,kin c.safe)]++[(8,kcs c.sets)]) ?_).frzP ?_
 ·rintro r L' ⟨rfl,rfl⟩;refine⟨_,fun i=>?_,rfl,rfl⟩;by_cases h1:i=8
  ·subst h1;simp
  ·by_cases h2:i=12
   ·subst h2;simp
   ·by_cases h3:i=17
    ·subst h3;simp
    ·by_cases h4:i=22
     ·subst h4;simp
     ·simp[h1,h2,h3,h4]
 ·rintro r L' ⟨rfl,rfl⟩;refine⟨_,_,rfl,by simp,by simp,fun x hx=>?_,?_,rfl⟩
  ·simp only[qGh,qE0,qFO,qFX,or_false]at hx;rcases hx with rfl | rfl | rfl | rfl
   ·exact qbZ _
   ·exact qbL _
   ·exact qaU _
   ·exact qbd _
  ·simp[qbe,qe0,qeZ,qaR,kpt,kin,qal]
def qho (more:Bool) (l:List DE) (p:PT):List DE×Bool:=if more=true then qbY l p.ps p.pa else qbk l p.pa
def qbG (more:Bool):List PT→List DE×Bool×Bool→List DE×Bool×Bool
 | [],x=>x
 | p::q,x=>if p.pa=0 then qbG more q x else qbG more q ((qho more x.1 p).1,true,x.2.2 && (qho more x.1 p).2)
theorem qnO (more:Bool) (l:List DE) (p:PT):(qho more l p).1.length≤l.length+1:=by
 unfold qho qbY qbk;have:=ql7 l p.pa
 repeat' split
 all_goals simp <;> omega
theorem qlV {l:List PT} {i k:Nat} {p:PT} (h:l[i]?=some p) (hk:k<3):(l.flatMap PT.row)[i * 3+k]?=p.row[k]?:=by
 have h2:=congrArg (fun r:List AV=>r[k]?) (qiF h);simp only[qEi,qEP,hk,if_true]at h2;exact h2
theorem qy0 (c:CO) (m:List PT) (h8:m.length=8) (more:Bool) (hd:c.ddt.length≤1000000) (hs:c.sets.length≤1048576) :
  ACall prog 209 [qeZ c 1000,.agg (m.flatMap PT.row),.bool more] [(1000,kcs c.sets)]
   (fun r L'=>r=.tup [qeZ ⟨c.txg,c.sets,(qbG more m (c.ddt,c.dirty,true)).1,c.parts,(qbG more m (c.ddt,c.dirty,true)).2.1,c.safe,c.logn⟩ 1000,.bool (qbG more m (c.ddt,c.dirty,true)).2.2]∧L'=[(1000,kcs c.sets)]):=by
 obtain⟨X,hX⟩:∃ X,qbG more m (c.ddt,c.dirty,true)=X:=⟨_,rfl⟩;rw[hX];refine acx func209 [(8,[zI 0,zJ 1 [3] [],zJ 2 [] [3],zJ 3 [] [3],zJ 4 [] [3],zJ 5 [4] [3],zJ 6 [] [3,4],zJ 7 [] [3,4],zJ 8 [] [3,4],zJ 9 [4] [3,4],zI 10,zI 11,zI 12,zI 13,zI 14,zI 15,zI 16]),(9,[zI 0,zJ 1 [3] [],zJ 2 [] [3],zJ 3 [] [3],zJ 4 [] [3],zJ 5 [4] [3],zI 6,zI 7,zI 8,zI 9,zI 10,zI 11,zI 12])] ntmps209 rfl rfl rfl ?_;simp[qeZ,qp1 h8];refine qaS (X:=Nat×(List DE×Bool×Bool)) [2,3,4,6,7,8,9] [(1000,1000),(3,3),(4,4),(6,6)] (fun x=>[(8,.bool x.2.2.2),(9,.int .i64 x.1)])
  (fun x=>[(3,⟨7,[[.int .i64 c.txg,.sl 1000 0 c.sets.length,.lst 3 (x.2.1.map DE.row),.lst 3 (c.parts.map PT.row),.bool x.2.2.1,.lst 1 (c.safe.map qac),.int .i64 c.logn]]⟩)]) (fun x=>8-x.1)
  (fun x=>x.1≤8∧x.2.1.length≤1000000+x.1∧qbG more (m.drop x.1) x.2=X) (0,(c.ddt,c.dirty,true)) ⟨by simp,by simp only;omega,by simpa using hX⟩ ?_ (he:=by simp[qag])
 rintro⟨i,l,dt,ok⟩ ⟨hi,hl,hd2⟩;simp only at hi hl hd2;cases hr:m.drop i with
 | nil =>
  have:=qaY hr;rw[hr]at hd2;have hie:i=8:=by omega
  subst hie;simp only[qbG]at hd2;subst hd2;simp[qag]
 | cons p q =>
  obtain⟨k1,e0,e1,k3⟩:=qaZ hr;rw[hr]at hd2;simp only[qbG]at hd2;have hi8:i<8:=by omega
  have hli:(i:Int)<8:=by omega
  have e2:=qao ((i:Int)+1) (by omega) (by omega);have f0:=qlV e1 (k:=0) (by omega);have f1:=qlV e1 (k:=1) (by omega);have c1:=qCd l p.ps p.pa (by omega);have c2:=qy7 l p.pa (by omega);have hrl:=qnO more l p;have f0':(m.flatMap PT.row)[i * 3]?=some (.int .i64 p.pa):=by simpa [PT.row]using f0
  have f1':(m.flatMap PT.row)[i * 3+1]?=some (.int .i64 p.ps):=by simpa [PT.row]using f1
  have hN:∀ (x:List DE×Bool×Bool),qbG more q x=X→x.1.length≤1000000+(i+1)→(i+1≤8∧x.1.length≤1000000+(i+1)∧qbG more (m.drop (i+1)) x=X):=fun x h1 h2=>⟨by omega,h2,by rw[k3];exact h1⟩;simp[qag,hli,hi8,f0',f1'];refine⟨by omega,fun q1=>?_,fun q1=>?_⟩
  ·rw[if_pos q1]at hd2;exact nx (i+1,l,dt,ok) [(1000,1000),(3,3),(4,4),(6,6)] (hN _ hd2 (by simp only;omega)) (by simp only;omega) (h4:=by simp[qag,e2])
  ·rw[if_neg q1]at hd2;have hrl2:(qho more l p).1.length≤1000000+(i+1):=by omega
   cases more with
   | true =>
    have hrb:qho true l p=qbY l p.ps p.pa:=rfl;rw[hrb]at hd2 hrl2;generalize qbY l p.ps p.pa=Y at *
    obtain⟨yl,yo⟩:=Y;simp;refine⟨by omega,by omega,?_⟩;refine c1.call ?_;cases ok
    all_goals
     simp;exact nx (i+1,yl,true,_) [(1000,1000),(3,3),(4,4),(6,6)] (hN _ hd2 hrl2) (by simp only;omega) (h4:=by simp[qag,e2])
   | false =>
    have hrb:qho false l p=qbk l p.pa:=rfl;rw[hrb]at hd2 hrl2;generalize qbk l p.pa=Y at *
    obtain⟨yl,yo⟩:=Y;simp;refine⟨by omega,?_⟩;refine c2.call ?_;cases ok
    all_goals
     simp;exact nx (i+1,yl,true,_) [(1000,1000),(3,3),(4,4),(6,6)] (hN _ hd2 hrl2) (by simp only;omega) (h4:=by simp[qag,e2])
end Go.Av.F
end
section
namespace Go.Av.F
open Go Go.Av Go.Proofs Go.Proofs.Tryz
def qgT (d:DK) (text:List UInt8):List DE→Int
 | []=>0
 | e::r=>if e.es=smB text∧(qaj d ⟨e.ea,smB text,0⟩).2=0∧(qaj d ⟨e.ea,smB text,0⟩).1=text then e.ea else qgT d text r
def qdL (d:DK) (l:List DE) (text:List UInt8):Int:=if qak l=true then qgT d text l else 0
theorem qy6 (d:DK) (hd:DkT d) (l:List DE) (text:List UInt8) (hl:l.length≤1048576) (ht:text.length≤maxLen) :
  CV prog 272 [.agg d.row,.lst 3 (l.map DE.row),.str text] (.int .i64 (qdL d l text)):=by
 obtain⟨R,hR⟩:∃ R,qdL d l text=R:=⟨_,rfl⟩;rw[hR];unfold qdL at hR;have c0:=qvX text ht;have c1:=qfz l hl;refine cvx func272 [(6,[zJ 0 [3] [],zJ 1 [] [3],zJ 2 [] [3],zJ 3 [] [3],zJ 4 [] [3],zJ 5 [] [3],zJ 6 [] [3],zJ 7 [] [3],zI 8,zI 9,zI 10,zI 11,zI 12,zI 13])] ntmps272 rfl rfl rfl ?_ (hca:=by simp[DK.row,DE.row]);simp[DK.row];refine c0.call ?_;simp;refine qaS (X:=Nat) [1,2,3,6,7,8] [(3,3)] (fun i=>[(8,.int .i64 i)]) (fun _=>[]) (fun i=>l.length-i) (fun i=>i≤l.length∧(if qak l=true then qgT d text (l.drop i) else 0)=R) 0 ⟨by simp,by simpa using hR⟩ ?_ (he:=by simp[qag])
 rintro i ⟨hi,hd2⟩;cases hok:qak l with
 | false =>
  rw[hok]at c1;rw[if_neg (by simp[hok])]at hd2;simp[qag];refine c1.call ?_;simp[← hd2]
 | true =>
  rw[hok]at c1;rw[if_pos hok]at hd2;cases hr:l.drop i with
  | nil =>
   have:=qaY hr;rw[hr]at hd2;have hie:i=l.length:=by omega
   subst hie;simp only[qgT]at hd2;simp[qag];refine c1.call ?_;simp[← hd2]
  | cons e q =>
   obtain⟨k1,e0,e1,k3⟩:=qaZ hr;rw[hr]at hd2;simp only[qgT]at hd2;have hli:(i:Int)<l.length:=by omega
   have e2:=qao ((i:Int)+1) (by omega) (by omega);have c2:=qfR d hd ⟨e.ea,smB text,0⟩;have hN:¬ (e.es=smB text∧(qaj d ⟨e.ea,smB text,0⟩).2=0∧(qaj d ⟨e.ea,smB text,0⟩).1=text)→qgT d text (l.drop (i+1))=R:=fun h=>by rw[if_neg h]at hd2;rw[k3];exact hd2
   have hY:(e.es=smB text∧(qaj d ⟨e.ea,smB text,0⟩).2=0∧(qaj d ⟨e.ea,smB text,0⟩).1=text)→e.ea=R:=fun h=>by rw[if_pos h]at hd2;exact hd2
   generalize qaj d ⟨e.ea,smB text,0⟩=Y at *
   obtain⟨yt,yc⟩:=Y;simp only[DK.row,PT.row]at c2;simp[qag];refine c1.call ?_;simp[hli,k1,e0,e1,DE.row,qag];refine⟨fun q1=>?_,fun q1=>nx (i+1) [(3,3)] ⟨by omega,?_⟩ (h4:=by simp[qag,e2])⟩
   ·refine c2.call ?_;simp;refine⟨fun q2=>⟨fun q3=>?_,fun q3=>?_⟩,fun q2=>?_⟩
    ·exact⟨k1,by simp[e1,DE.row],by rw[e1];simpa [DE.row]using hY ⟨q1,q2,q3⟩⟩
    ·exact nx (i+1) [(3,3)] ⟨by omega,hN fun h=>q3 h.2.2⟩ (h4:=by simp[qag,e2])
    ·exact nx (i+1) [(3,3)] ⟨by omega,hN fun h=>q2 h.2.1⟩ (h4:=by simp[qag,e2])
   ·exact hN fun h=>q1 h.1
def qdb (d:DK) (c:CO) (text:List UInt8):DK×Int×Int :=
 if 0<qdL d c.ddt text then (d,qdL d c.ddt text,0) else
 if qo2 c d.s0.length=false then (d,0,7) else
 if (qat d ((qaT c d.s0.length).headD 0) text).2=false then (d,0,7) else
 ((qat d ((qaT c d.s0.length).headD 0) text).1,(qaT c d.s0.length).headD 0,0)
theorem qv8 (d:DK) (hd:DkT d) (c:CO) (h:CoT c) (text:List UInt8) (ht:text.length≤1048576) :
  ACall prog 207 [.agg d.row,qeZ c 1000,.str text] [(1000,kcs c.sets)] (fun r L'=>r=.tup [.agg (qdb d c text).1.row,.int .i64 (qdb d c text).2.1,.int .i64 (qdb d c text).2.2]∧L'=[(1000,kcs c.sets)]):=by
 obtain⟨R,hR⟩:∃ R,qdb d c text=R:=⟨_,rfl⟩;rw[hR];unfold qdb at hR;have hl:=hd.l0;have c1:=qy6 d hd c.ddt text h.ddt (by simp[maxLen];omega);have c2:=qCa c h d.s0.length (by omega) (by omega);have c3:=qqq c h d.s0.length (by omega);have hmf:qo2 c d.s0.length=true→0<(qaT c d.s0.length).length:=fun hm=>by
  simp only[qo2,Bool.and_eq_true,decide_eq_true_eq]at hm;omega
 have c4:=qgw d hd ((qaT c d.s0.length).headD 0) text ht;have hcons:∀ l:List Int,0<l.length→∃ fr,l=l.headD 0::fr:=fun l hl=>by
  cases l with
  | nil=>simp at hl
  | cons x r=>exact⟨r,rfl⟩
 have hfe:=fun hm=>hcons _ (hmf hm);generalize qdL d c.ddt text=a at *
 generalize qo2 c d.s0.length=m at *
 generalize qaT c d.s0.length=l at *
 generalize l.headD 0=b at *
 generalize qat d b text=x at *
 obtain⟨xd,xo⟩:=x;simp only[DK.row,CO.row]at c1 c2 c3 c4;refine acx func207 [] ntmps207 rfl rfl rfl ?_;simp[DK.row,qeZ];refine c1.call ?_;by_cases h0:0<a
 ·rw[if_pos h0]at hR;subst hR;simp[h0]
 ·rw[if_neg h0]at hR;simp[h0];refine c2.view (by simp[qbW,mtA,kcs,qal,qbO]) ?_;cases m with
  | false =>
   rw[if_pos rfl]at hR;subst hR;simp
  | true =>
   rw[if_neg (by simp)]at hR;obtain⟨fr,hf⟩:=hfe rfl;subst hf
   ·simp;refine qaJ [] (by kernel_rfl) c3 (by simp[qbW,mtA,kcs,qal,qbO]) (by simp) trivial (by simp) (by simp) ?_;rintro r L' ⟨rfl,rfl⟩;refine⟨by simp,by simp[kin,qac],[(900,33)],⟨by simp,by simp,by simp,by simp,by simp⟩,?_⟩;simp only[qaf];simp[kin,qac];refine c4.call ?_;cases xo with
    | false =>
     rw[if_pos rfl]at hR;subst hR;simp
    | true =>
     rw[if_neg (by simp)]at hR;subst hR;simp
def zPT:PT:=⟨0,0,0⟩
def qhs (p:PT):List PT:=[p,zPT,zPT,zPT,zPT,zPT,zPT,zPT]
def qfN (d x:DK) (c:CO) (k i:Nat) (s:CS) (old now:PT):DK×CO×Int :=
 let a:=qbG true (qhs now) (c.ddt,c.dirty,true)
 let b:=qbG false (qhs old) (a.1,a.2.1,true)
 if a.2.2=false∨b.2.2=false then (d,c,7) else
 (x,⟨c.txg,c.sets.set k ⟨s.name,s.kind,s.frm,s.map.set i now,s.home,true⟩,b.1,c.parts,b.2.1,c.safe,c.logn⟩,0)
def qcL (d:DK) (c:CO) (k i:Nat) (text:List UInt8):DK×CO×Int :=
 match c.sets[k]? with
 | none=>(d,c,7)
 | some s =>
  let old:=s.map[i]?.getD zPT
  if text=[] then qfN d d c k i s old zPT else
  if c.txg=1000000 then (d,c,7) else
  if (qdb d c text).2.2≠0 then (d,c,(qdb d c text).2.2) else
  if (qdb d c text).2.1=old.pa then ((qdb d c text).1,c,0) else
  qfN d (qdb d c text).1 c k i s old (qbI (qdb d c text).2.1 text (c.txg+1))
theorem tk3 {X F:List AV} {n k:Nat} (h:X.length=k):List.take (k+n) (X++F)=X++List.take n F:=by
 subst h;rw[List.take_append,qEF (by omega)]
 congr 2;omega
theorem dp3 {X F:List AV} {n k:Nat} (h:X.length=k):List.drop (k+n) (X++F)=List.drop n F:=by
 subst h;rw[List.drop_append,qEz (by omega),qE0]
 congr 1;omega
theorem qhN:∀ (l:List PT) (i:Nat) (p:PT),i<l.length→(l.set i p).flatMap PT.row=(l.flatMap PT.row).take (i * 3)++(p.row++(l.flatMap PT.row).drop (i * 3+3))
 | [],i,p,h=>by simp at h
 | x::q,0,p,h=>by simp[PT.row]
 | x::q,i+1,p,h=>by
  have ih:=qhN q i p (by simpa using h);have hx:x.row.length=3:=rfl;rw[qHj,qGM,ih,qGM,show(i+1) * 3=3+i * 3 by omega,tk3 hx,show 3+i * 3+3=3+(i * 3+3) by omega,dp3 hx,List.append_assoc]
theorem qkN (s:CS) (h8:s.map.length=8) {i:Nat} (hi:i<8) (p:PT):List.take 30 (List.take (3+i * 3) s.row++.int .i64 p.pa::.int .i64 p.ps::.int .i64 p.pb::List.drop (3+i * 3+3) s.row) ++
  .bool true::List.drop 31 (List.take (3+i * 3) s.row++.int .i64 p.pa::.int .i64 p.ps::.int .i64 p.pb::List.drop (3+i * 3+3) s.row)=CS.row ⟨s.name,s.kind,s.frm,s.map.set i p,s.home,true⟩:=by
 have hl:(s.map.flatMap PT.row).length=24:=by
  rw[qHc];exact qp1 h8
 have hf:=qhN s.map i p (by omega);have hh:s.home.row.length=3:=rfl;have e:s.row=[.str s.name,.int .i64 s.kind,.str s.frm]++(s.map.flatMap PT.row++(s.home.row++[.bool s.dirty])):=by simp[CS.row]
 have h3:([.str s.name,.int .i64 s.kind,.str s.frm]:List AV).length=3:=rfl;have t1:List.take (3+i * 3) s.row=[.str s.name,.int .i64 s.kind,.str s.frm]++(s.map.flatMap PT.row).take (i * 3):=by
  rw[e,tk3 h3,qGF (by omega)]
 have t2:List.drop (3+i * 3+3) s.row=(s.map.flatMap PT.row).drop (i * 3+3)++(s.home.row++[.bool s.dirty]):=by
  rw[e,show 3+i * 3+3=3+(i * 3+3) by omega,dp3 h3,qFF (by omega)]
 rw[t1,t2];have e2:([.str s.name,.int .i64 s.kind,.str s.frm]++(s.map.flatMap PT.row).take (i * 3))++.int .i64 p.pa::.int .i64 p.ps::.int .i64 p.pb::((s.map.flatMap PT.row).drop (i * 3+3)++(s.home.row++[.bool s.dirty])) =
   ([.str s.name,.int .i64 s.kind,.str s.frm]++(((s.map.set i p).flatMap PT.row)++s.home.row))++[.bool s.dirty]:=by
  rw[hf];simp[PT.row]
 have hl2:((s.map.set i p).flatMap PT.row).length=24:=by
  rw[qHc];exact qp1 (by simpa using h8)
 rw[e2,qHe (by simp[hl2,hh]),qEz (by simp[hl2,hh])];simp[CS.row]
theorem qd4 (more:Bool):∀ (m:List PT) (x:List DE×Bool×Bool),(qbG more m x).1.length≤x.1.length+m.length
 | [],x=>by simp[qbG]
 | p::q,x=>by
  simp only[qbG];split
  ·have:=qd4 more q x;simp;omega
  ·have h1:=qd4 more q ((qho more x.1 p).1,true,x.2.2 && (qho more x.1 p).2);have h2:=qnO more x.1 p;simp at h1 ⊢;omega
theorem qyV (d:DK) (hd:DkT d) (c:CO) (h:CoT c) (hm:CoM c) (k i:Nat) (hk:k<c.sets.length) (hi:i<8) (text:List UInt8) (ht:text.length≤1048576) (hx:0≤c.txg∧c.txg≤1000000) :
  ACall prog 103 [.agg d.row,.agg c.row,.int .i64 k,.int .i64 i,.str text] [] (fun r L'=>r=.tup [.agg (qcL d c k i text).1.row,qeZ (qcL d c k i text).2.1 8,.int .i64 (qcL d c k i text).2.2]∧L'=[(8,kcs (qcL d c k i text).2.1.sets)]):=by
 obtain⟨R,hR⟩:∃ R,qcL d c k i text=R:=⟨_,rfl⟩;rw[hR];unfold qcL at hR;obtain⟨s,e0⟩:∃ s,c.sets[k]=s:=⟨_,rfl⟩;have e1:c.sets[k]?=some s:=by rw[← e0];exact qEq hk
 have h8:=h.m8 s (qGj e1);obtain⟨old,f1⟩:∃ p,s.map[i]?=some p:=⟨_,qEq (by omega)⟩;rw[e1]at hR;simp only[f1,qFi]at hR;have ck:=qv5 c h;have cb:=qv8 d hd c h text ht;simp only[CO.row]at ck;simp only[DK.row,qeZ]at cb;have hki:(k:Int)<c.sets.length:=by omega
 have hi8:(i:Int)<8:=by omega
 refine acx func103 [(6,[zJ 0 [5] [],zJ 1 [6] [5],zJ 2 [] [6],zI 3,zI 4]),(10,[zJ 0 [5] [],zJ 1 [6] [5],zJ 2 [] [5,6],zJ 3 [] [6],zI 4,zI 5]),(14,[zJ 0 [15] [],zJ 1 [6] [15],zJ 2 [] [6],zI 3,zI 4]),(18,[zJ 0 [5] [],zJ 1 [6] [5],zJ 2 [] [6],zI 3,zI 4]),(19,[zI 0,zJ 1 [21] [],zJ 2 [] [21],zJ 3 [] [21],zJ 4 [14] [21],zJ 5 [8] [14],zJ 6 [] [14],zI 7,zI 8]),(21,[zJ 0 [15] [],zJ 1 [21] [15],zJ 2 [] [21],zI 3,zI 4])] ntmps103 rfl rfl rfl ?_;simp[DK.row,CO.row];refine qad [] (by kernel_rfl) ck (by simp) (by simpa [CO.row]using qeB c) trivial (by simp) (by simp) ?_;rintro r L' ⟨rfl,rfl⟩;refine⟨[(8,8)],⟨by simp,by simp,by simp,by simp,by simp⟩,?_⟩;simp only[qaf];have hok:∀ m:List PT,m.length=8→∀ (c2:CO) (more:Bool),c2.ddt.length≤1000000→c2.sets.length≤1048576→ACall prog 209 [qeZ c2 1000,.agg (m.flatMap PT.row),.bool more] [(1000,kcs c2.sets)]
   (fun r L'=>r=.tup [qeZ ⟨c2.txg,c2.sets,(qbG more m (c2.ddt,c2.dirty,true)).1,c2.parts,(qbG more m (c2.ddt,c2.dirty,true)).2.1,c2.safe,c2.logn⟩ 1000,.bool (qbG more m (c2.ddt,c2.dirty,true)).2.2]∧L'=[(1000,kcs c2.sets)]):=fun m h8 c2 more h1 h2=>qy0 c2 m h8 more h1 h2
 by_cases ht0:text=[]
 ·rw[if_pos ht0]at hR;simp[qeZ,CO.row,DK.row,hki,hk,e0,e1,kcs,qaV s h8,hi8,qjF s f1,ht0];refine⟨by omega,?_⟩;obtain⟨A,hA⟩:∃ A,qbG true (qhs zPT) (c.ddt,c.dirty,true)=A:=⟨_,rfl⟩;have r1:=hok (qhs zPT) rfl c true (by have:=hm.ddt;omega) (by have:=hm.sets;omega);rw[hA]at r1;have hAl:A.1.length≤1008:=by
   have:=qd4 true (qhs zPT) (c.ddt,c.dirty,true);rw[hA]at this;have:=hm.ddt;simp[qhs]at *
   omega
  obtain⟨B,hB⟩:∃ B,qbG false (qhs old) (A.1,A.2.1,true)=B:=⟨_,rfl⟩;have r2:=hok (qhs old) rfl ⟨c.txg,c.sets,A.1,c.parts,A.2.1,c.safe,c.logn⟩ false (by simp only;omega) (by have:=hm.sets;simp only;omega);simp only[hB]at r2;unfold qfN at hR;simp only[hA,hB]at hR;obtain⟨al,ad,ao⟩:=A;obtain⟨bl,bd,bo⟩:=B;simp only[qeZ,qhs,zPT,qGM,List.flatMap_nil,PT.row,qGh,qE0]at r1 r2;refine qad [(1000,.whole 8)] (by kernel_rfl) r1 (by simp) (by simp) (by simp[kcs];exact qaa rfl (qbd _)) (by simp) (by simp) ?_;rintro r L' ⟨rfl,rfl⟩;refine⟨[],⟨by simp,by simp,by simp,by simp,by simp⟩,?_⟩;simp only[qaf];simp;refine qad [(1000,.whole 8)] (by kernel_rfl) r2 (by simp) (by simp) (by simp;exact qaa rfl (qbd _)) (by simp) (by simp) ?_;rintro r L' ⟨rfl,rfl⟩;refine⟨[],⟨by simp,by simp,by simp,by simp,by simp⟩,?_⟩;simp only[qaf];simp[kcs,hki,hk,e0,e1,hi8,qaV s h8];have hrow:=qkN s h8 hi zPT;simp only[zPT]at hrow;cases ao with
  | false =>
   rw[if_pos (.inl rfl)]at hR;subst hR;simp
  | true =>
   cases bo with
   | false =>
    rw[if_pos (.inr rfl)]at hR;subst hR;simp
   | true =>
    rw[if_neg (by simp)]at hR;subst hR;simp[hrow,qGv];exact⟨by omega,rfl⟩
 ·rw[if_neg ht0]at hR;by_cases hx0:c.txg=1000000
  ·rw[if_pos hx0]at hR;subst hR;simp[qeZ,CO.row,DK.row,hki,hk,e0,e1,kcs,qaV s h8,hi8,qjF s f1,ht0,hx0];omega
  ·rw[if_neg hx0]at hR;simp[qeZ,CO.row,DK.row,hki,hk,e0,e1,kcs,qaV s h8,hi8,qjF s f1,ht0,hx0];refine⟨by omega,?_⟩;refine qad [(1000,.whole 8)] (by kernel_rfl) cb (by simp) (by simp) (by simp[kcs];exact qaa rfl (qbd _)) (by simp) (by simp) ?_;rintro r L' ⟨rfl,rfl⟩;refine⟨[],⟨by simp,by simp,by simp,by simp,by simp⟩,?_⟩;simp only[qaf];obtain⟨X,hX⟩:∃ X,qdb d c text=X:=⟨_,rfl⟩;simp only[hX]at hR ⊢;obtain⟨xd,xa,xc⟩:=X;have e5:=qao (c.txg+1) (by omega) (by omega);have ct:=qqv xa text (c.txg+1) (by simp[maxLen];omega);simp only[PT.row]at ct;simp[e5];refine⟨fun q1=>?_,fun q1=>?_⟩
   ·simp only[q1,ne_eq,not_false_eq_true,if_true]at hR;subst hR;exact⟨rfl,⟨rfl,rfl,rfl⟩,⟨rfl,rfl,rfl,rfl,rfl,rfl,rfl⟩,rfl⟩
   ·simp only[q1,ne_eq,not_true_eq_false,if_false]at hR;refine ct.call ?_;simp;refine⟨fun q2=>?_,fun q2=>?_⟩
    ·rw[if_pos q2]at hR;subst hR;exact⟨rfl,⟨rfl,rfl,rfl⟩,⟨rfl,rfl,rfl,rfl,rfl,rfl,rfl⟩,rfl⟩
    ·rw[if_neg q2]at hR;obtain⟨A,hA⟩:∃ A,qbG true (qhs (qbI xa text (c.txg+1))) (c.ddt,c.dirty,true)=A:=⟨_,rfl⟩;have r1:=hok (qhs (qbI xa text (c.txg+1))) rfl c true (by have:=hm.ddt;omega) (by have:=hm.sets;omega);rw[hA]at r1;have hAl:A.1.length≤1008:=by
      have:=qd4 true (qhs (qbI xa text (c.txg+1))) (c.ddt,c.dirty,true);rw[hA]at this;have:=hm.ddt;simp[qhs]at *
      omega
     obtain⟨B,hB⟩:∃ B,qbG false (qhs old) (A.1,A.2.1,true)=B:=⟨_,rfl⟩;have r2:=hok (qhs old) rfl ⟨c.txg,c.sets,A.1,c.parts,A.2.1,c.safe,c.logn⟩ false (by simp only;omega) (by have:=hm.sets;simp only;omega);simp only[hB]at r2;unfold qfN at hR;simp only[hA,hB]at hR;obtain⟨al,ad,ao⟩:=A;obtain⟨bl,bd,bo⟩:=B;simp only[qeZ,qhs,zPT,qGM,List.flatMap_nil,PT.row,qGh,qE0]at r1 r2;refine qad [(1000,.whole 8)] (by kernel_rfl) r1 (by simp) (by simp) (by simp[kcs];exact qaa rfl (qbd _)) (by simp) (by simp) ?_;rintro r L' ⟨rfl,rfl⟩;refine⟨[],⟨by simp,by simp,by simp,by simp,by simp⟩,?_⟩;simp only[qaf];simp;refine qad [(1000,.whole 8)] (by kernel_rfl) r2 (by simp) (by simp) (by simp;exact qaa rfl (qbd _)) (by simp) (by simp) ?_;rintro r L' ⟨rfl,rfl⟩;refine⟨[],⟨by simp,by simp,by simp,by simp,by simp⟩,?_⟩;simp only[qaf];simp[kcs,hki,hk,e0,e1,hi8,qaV s h8];have hrow:=qkN s h8 hi (qbI xa text (c.txg+1));cases ao with
     | false =>
      rw[if_pos (.inl rfl)]at hR;subst hR;simp
     | true =>
      cases bo with
      | false =>
       rw[if_pos (.inr rfl)]at hR;subst hR;simp
      | true =>
       rw[if_neg (by simp)]at hR;subst hR;simp[hrow,qGv];omega
theorem qyW (d:DK) (hd:DkT d) (c:CO) (h:CoT c) (hm:CoM c) (k i:Nat) (hk:k<c.sets.length) (hi:i<8) (text:List UInt8) (ht:text.length≤1048576) (hx:0≤c.txg∧c.txg≤1000000) :
  CV prog 103 [.agg d.row,.agg c.row,.int .i64 k,.int .i64 i,.str text] (.tup [.agg (qcL d c k i text).1.row,.agg (qcL d c k i text).2.1.row,.int .i64 (qcL d c k i text).2.2]):=by
 refine CV.of_frz (qyV d hd c h hm k i hk hi text ht hx) ?_ (hca:=by simp[DK.row,qeB]) (hcv:=by simp[DK.row,qeB]);rintro r L' ⟨rfl,rfl⟩;refine⟨by simp,by simp,fun x hx=>by
  simp only[qFO,qFX,or_false]at hx;rcases hx with rfl;exact qbd _,?_⟩
 simp[qbe,DK.row,CO.row,qeZ,kcs,qal]
def nmP (l:List CS) (n:List UInt8):Nat:=(l.takeWhile fun x=>Op.bytesLess x.name n).length
theorem qq0 (l:List CS) (n:List UInt8):nmP l n=atP (l.map csB) n:=by
 unfold nmP atP
 induction l with
 | nil=>rfl
 | cons x r ih =>
  simp only[qEQ,qGQ];have:(csB x).name=x.name:=rfl;rw[this];split
  ·simpa using ih
  ·rfl
def dnB (c:CO) (op:BO):Int:=(doB (c.sets.map csB) op).2
theorem qu7 {bs:List BS} {n:List UInt8} (h:atB bs n=true):atP bs n<bs.length:=by
 obtain⟨u,hu,_⟩:=qdQ h;exact(qEW.1 hu).1
theorem qos {c:CO} {op:BO} (h:dnB c op=0):(op.kind=1∨op.kind=2∨op.kind=3∨op.kind=4∨op.kind=5∨op.kind=6)∧(op.kind≠1→nmP c.sets op.a<c.sets.length) ∧
  (op.kind=6→nmP c.sets op.b<c.sets.length)∧(op.kind=3→0≤op.i∧op.i<8∧op.text.length≤24):=by
 unfold dnB doB at h;rw[qq0,qq0,← qFs (f:=csB)];by_cases h1:op.kind=1
 ·exact⟨.inl h1,by omega,by omega,by omega⟩
 rw[if_neg h1]at h;by_cases h2:op.kind<1∨6<op.kind
 ·rw[if_pos h2]at h;simp at h
 rw[if_neg h2]at h;cases h3:atB (c.sets.map csB) op.a with
 | false=>rw[if_pos h3]at h;simp at h
 | true =>
  rw[if_neg (by simp[h3])]at h;have h4:=qu7 h3;obtain⟨t,ht,_⟩:=qdQ h3;rw[ht]at h;simp only at h;refine⟨by omega,fun _=>h4,fun h6=>?_,fun h6=>?_⟩
  ·rw[if_neg (by omega),if_neg (by omega),if_pos h6]at h;unfold qcV at h;rw[ht]at h;simp only at h;cases h5:atB (c.sets.map csB) op.b with
   | false=>rw[if_pos h5]at h;simp at h
   | true=>exact qu7 h5
  ·rw[if_neg (by omega),if_pos h6]at h;unfold qhq at h;rw[ht]at h;simp only at h;split at h
   ·simp at h
   ·omega
theorem qsm {d:DK} (hd:qbw d=true) (c:CO) (k i:Nat) (text:List UInt8):qbw (qcL d c k i text).1=true∧(qcL d c k i text).1.s0.length=d.s0.length∧(qcL d c k i text).2.1.logn=c.logn:=by
 have hb:qbw (qdb d c text).1=true∧(qdb d c text).1.s0.length=d.s0.length:=by
  unfold qdb;split
  ·exact⟨hd,rfl⟩
  split
  ·exact⟨hd,rfl⟩
  split
  ·exact⟨hd,rfl⟩
  ·exact qb2 hd _ _
 have hg:∀ (x:DK) (s:CS) (old now:PT),qbw x=true∧x.s0.length=d.s0.length→qbw (qfN d x c k i s old now).1=true∧(qfN d x c k i s old now).1.s0.length=d.s0.length∧(qfN d x c k i s old now).2.1.logn=c.logn:=fun x s old now hx=>by
  unfold qfN;simp only;split
  ·exact⟨hd,rfl,rfl⟩
  ·exact⟨hx.1,hx.2,rfl⟩
 unfold qcL;split
 ·exact⟨hd,rfl,rfl⟩
 simp only;split
 ·exact hg _ _ _ _ ⟨hd,rfl⟩
 split
 ·exact⟨hd,rfl,rfl⟩
 split
 ·exact⟨hd,rfl,rfl⟩
 split
 ·exact⟨hb.1,hb.2,rfl⟩
 ·exact hg _ _ _ _ hb
structure PO where
 d:DK
 c:CO
 up:Bool
deriving DecidableEq,Inhabited
def PO.row (p:PO):List AV:=p.d.row++(p.c.row++[.bool p.up])
def qjR (old now:List UInt8):List UInt8:=now.take (now.length / 2)++old.drop (now.length / 2)
theorem qrB (n:Nat):(n:Int).tdiv 2=((n / 2:Nat):Int):=by
 rw[qGW (by omega)];omega
theorem qhb (old now:List UInt8) (ho:old.length≤1048576) (hn:now.length≤1048576):CV prog 98 [.str old,.str now] (.str (qjR old now)):=by
 have t2:=qrB now.length;have e1:=qao (((now.length / 2:Nat):Int)) (by omega) (by omega);have hh:now.length / 2≤now.length:=by omega
 obtain⟨k,hk⟩:∃ k,now.length / 2=k:=⟨_,rfl⟩;rw[hk]at t2 e1 hh;refine cvx func98 [] ntmps98 rfl rfl rfl ?_;unfold qjR;rw[hk];have g:List.take (old.length-k) (old.drop k)=old.drop k:=qEF (by simp);by_cases h:k<old.length
 ·simp[t2,e1,h,hh,g];omega
 ·simp[t2,e1,h,hh,qF9 (Nat.not_lt.1 h)]
  all_goals first | omega | grind
abbrev L2:=List (List UInt8)×List (List UInt8)
def qut (p:L2) (w:LT):List UInt8:=if w.ls=0 then p.1.getD w.la.toNat [] else p.2.getD w.la.toNat []
def qbi (p:L2) (w:LT) (f:Int):L2:=if f=1 then qeh p w else if f=2 then qeh p ⟨w.ls,w.la,qjR (qut p w) w.lx⟩ else p
def qem:List LT→List Int→L2→L2
 | w::ws,f::fs,p=>qem ws fs (qbi p w f)
 | [],_,p=>p
 | _::_,[],p=>p
def qcy (d:DK) (fate:List Int):DK:=if qbw d=true then ⟨(qem d.late fate (d.s0,d.s1)).1,(qem d.late fate (d.s0,d.s1)).2,[]⟩ else zDK
theorem qiI (p:L2) (w:LT) (f:Int):(qbi p w f).1.length=p.1.length∧(qbi p w f).2.length=p.2.length:=by
 unfold qbi;split
 ·exact qhE _ _
 ·split
  ·exact qhE _ _
  ·exact⟨rfl,rfl⟩
theorem qgc {ws:List LT} {fs:List Int} {p:L2} (h:ws=[]∨fs=[]):qem ws fs p=p:=by
 rcases h with rfl | rfl
 ·rw[qem]
 ·cases ws <;> rw[qem]
theorem qso {a b:List UInt8} {n:Nat} (ha:a.length≤n) (hb:b.length≤n):(qjR a b).length≤n:=by
 simp only[qjR,qFD,qEg,qEh];omega
theorem qom {l:List (List UInt8)} {n:Nat} (h:∀ t∈l,t.length≤n) (i:Nat):(l.getD i []).length≤n:=by
 rw[qEM];cases hg:l[i]? with
 | none=>simp
 | some t=>exact h t (qGj hg)
theorem qul {p:L2} {w:LT} {n:Nat} (h0:∀ t∈p.1,t.length≤n) (h1:∀ t∈p.2,t.length≤n) (hw:w.lx.length≤n):(∀ t∈(qeh p w).1,t.length≤n)∧∀ t∈(qeh p w).2,t.length≤n:=by
 unfold qeh;split
 ·exact⟨fun t ht=>by
   rcases qHi ht with ht | rfl
   ·exact h0 t ht
   ·exact hw,h1⟩
 ·exact⟨h0,fun t ht=>by
   rcases qHi ht with ht | rfl
   ·exact h1 t ht
   ·exact hw⟩
theorem qmX {p:L2} {w:LT} {f:Int} {n:Nat} (h0:∀ t∈p.1,t.length≤n) (h1:∀ t∈p.2,t.length≤n) (hw:w.lx.length≤n):(∀ t∈(qbi p w f).1,t.length≤n)∧∀ t∈(qbi p w f).2,t.length≤n:=by
 unfold qbi;split
 ·exact qul h0 h1 hw
 ·split
  ·refine qul h0 h1 (qso ?_ hw);unfold qut;split
   ·exact qom h0 _
   ·exact qom h1 _
  ·exact⟨h0,h1⟩
theorem qnE (d:DK) (h:DkT d) (fate:List Int) (hf:fate.length≤1048576):CV prog 41 [.agg d.row,.lst 1 (fate.map qac)] (.agg (qcy d fate).row):=by
 obtain⟨R,hR⟩:∃ R,qcy d fate=R:=⟨_,rfl⟩;rw[hR];unfold qcy at hR;have h0:=h.l0;have h1:=h.l1;have h2:=h.l2;have c1:=qee d h;have co:=qnF d h;simp only[DK.row]at c1 co;have key:ACall prog 41 [.agg d.row,.lst 1 (fate.map qac)] [] (fun r L'=>(R=zDK∧r=.agg [.nils,.nils,.nils]∧L'=[]) ∨
   (r=.agg [.sl 801 0 R.s0.length,.sl 802 0 R.s1.length,.nils]∧R.late=[]∧L'=[(801,qai R.s0),(802,qai R.s1)])):=by
  refine acx func41 [(10,[zI 0,zJ 1 [7] [],zJ 2 [] [7],zI 3,zJ 4 [5] [],zJ 5 [] [7,5],zJ 6 [7] [7,5],zJ 7 [] [7,5],zJ 8 [7] [7,5],zJ 9 [801,802] [],zI 10]),(12,[zI 0,zJ 1 [7] [],zJ 2 [] [7],zI 3,zJ 4 [5] [],zJ 5 [] [7,5],zJ 6 [7] [7,5],zJ 7 [] [7,5],zJ 8 [7] [7,5],zJ 9 [] [7,5],zJ 10 [] [7,5],zJ 11 [5] [7,5],zJ 12 [] [7,5],zJ 13 [7] [7,5],zJ 14 [801,802] [7,5],zJ 15 [801,802] [7,5],zJ 16 [] [7,5,801,802],zJ 17 [7] [7,5,801,802],zJ 18 [] [7,5],zJ 19 [801,802] [],zI 20])] ntmps41 rfl rfl rfl ?_;simp[DK.row];refine c1.call ?_;cases hok:qbw d with
  | false =>
   rw[if_neg (by simp[hok])]at hR;simp[← hR]
  | true =>
   rw[if_pos hok]at hR;obtain⟨g1,g2,g3,g4,g5,g6,g7⟩:=qbs hok;simp;refine qad [] (by kernel_rfl) co (by simp) (by simp) trivial (by simp) (by simp) ?_;rintro r L' ⟨rfl,rfl⟩;refine⟨[(7,801),(12,802),(17,803)],⟨by simp,by simp,by simp,by simp,by simp⟩,?_⟩;simp only[qaf];simp;refine qaS (X:=Nat×L2) [1,2,4,5,6] [(2,2),(4,4),(5,5),(801,801),(802,802),(803,803)] (fun x=>[(6,.int .i64 x.1)]) (fun x=>[(801,qai x.2.1),(802,qai x.2.2)]) (fun x=>d.late.length-x.1)
    (fun x=>x.1≤d.late.length∧x.1≤fate.length∧x.2.1.length=d.s0.length∧x.2.2.length=d.s0.length∧(∀ t∈x.2.1,t.length≤1048576)∧(∀ t∈x.2.2,t.length≤1048576)∧(⟨(qem (d.late.drop x.1) (fate.drop x.1) x.2).1,(qem (d.late.drop x.1) (fate.drop x.1) x.2).2,[]⟩:DK)=R) (0,(d.s0,d.s1)) ⟨by omega,by omega,rfl,g3,h.t0,h.t1,hR⟩ ?_ (he:=by simp[qag])
   rintro⟨i,a,b⟩ ⟨hi,hj,ha,hb,ta,tb,hd⟩;simp only at hi hj ha hb ta tb hd;by_cases hil:i<d.late.length
   ·by_cases hjl:i<fate.length
    ·obtain⟨w,f1⟩:∃ w,d.late[i]?=some w:=⟨_,qEq hil⟩;obtain⟨f,g1⟩:∃ f,fate[i]?=some f:=⟨_,qEq hjl⟩;have f0:d.late[i]=w:=(qEW.1 f1).2;have g0:fate[i]=f:=(qEW.1 g1).2;have hw:=thereB_iff.1 (g7 w (qGj f1));rw[qdO f1,qdO g1,qem]at hd;obtain⟨w1,w2,w3⟩:=hw;have hli:(i:Int)<d.late.length:=by omega
     have hlj:(i:Int)<fate.length:=by omega
     have e2:=qao ((i:Int)+1) (by omega) (by omega);have hl:(qbi (a,b) w f).1.length=a.length∧(qbi (a,b) w f).2.length=b.length:=qiI (a,b) w f;have hx:=h.t2 w (qGj f1);have tp:=qmX (p:=(a,b)) (w:=w) (f:=f) ta tb hx;have hla:w.la.toNat<a.length:=by omega
     have hlb:w.la.toNat<b.length:=by omega
     by_cases q1:f=1
     ·subst q1;rcases w1 with w1 | w1
      ·simp[qag,LT.row,qac,hil,hjl,f0,f1,g0,g1,hli,hlj,e2,w1,w2.1,w2.2,qai];refine⟨by omega,nx (i+1,qbi (a,b) w 1) [(2,2),(4,4),(5,5),(801,801),(802,802),(803,803)] ⟨by simp only;omega,by simp only;omega,by simp only;omega,by simp only;omega,tp.1,tp.2,hd⟩ (by simp only;omega) (h4:=?_)⟩;simp[qag,e2,qbi,qeh,w1,qai,qae,hla]
      ·simp[qag,LT.row,qac,hil,hjl,f0,f1,g0,g1,hli,hlj,e2,w1,w2.1,w2.2,qai];refine⟨by omega,by omega,nx (i+1,qbi (a,b) w 1) [(2,2),(4,4),(5,5),(801,801),(802,802),(803,803)] ⟨by simp only;omega,by simp only;omega,by simp only;omega,by simp only;omega,tp.1,tp.2,hd⟩ (by simp only;omega) (h4:=?_)⟩;simp[qag,e2,qbi,qeh,w1,qai,qae,hlb]
     ·by_cases q2:f=2
      ·subst q2;rcases w1 with w1 | w1
       ·obtain⟨o,ho⟩:∃ o,a[w.la.toNat]=o:=⟨_,rfl⟩;have ho1:a[w.la.toNat]?=some o:=by rw[qEq hla,ho]
        have ho2:o.length≤1048576:=ta o (qGj ho1);simp[qag,LT.row,qac,hil,hjl,f0,f1,g0,g1,hli,hlj,e2,w1,w2.1,w2.2,qai,qae,hla,ho,ho1]
        first
         | refine(qhb o w.lx ho2 hx).call ?_
         | refine⟨by omega,(qhb o w.lx ho2 hx).call ?_⟩
         | refine⟨by omega,by omega,(qhb o w.lx ho2 hx).call ?_⟩
         | refine⟨by omega,by omega,by omega,(qhb o w.lx ho2 hx).call ?_⟩
        simp[qag,w1,w2.1,w2.2,qai,qae,hla,ho,ho1];refine nx (i+1,qbi (a,b) w 2) [(2,2),(4,4),(5,5),(801,801),(802,802),(803,803)] ⟨by simp only;omega,by simp only;omega,by simp only;omega,by simp only;omega,tp.1,tp.2,hd⟩ (by simp only;omega) (h4:=?_);simp[qag,e2,qbi,qeh,qut,w1,qai,qae,hla,ho,ho1]
       ·obtain⟨o,ho⟩:∃ o,b[w.la.toNat]=o:=⟨_,rfl⟩;have ho1:b[w.la.toNat]?=some o:=by rw[qEq hlb,ho]
        have ho2:o.length≤1048576:=tb o (qGj ho1);simp[qag,LT.row,qac,hil,hjl,f0,f1,g0,g1,hli,hlj,e2,w1,w2.1,w2.2,qai,qae,hlb,ho,ho1]
        first
         | refine(qhb o w.lx ho2 hx).call ?_
         | refine⟨by omega,(qhb o w.lx ho2 hx).call ?_⟩
         | refine⟨by omega,by omega,(qhb o w.lx ho2 hx).call ?_⟩
         | refine⟨by omega,by omega,by omega,(qhb o w.lx ho2 hx).call ?_⟩
        simp[qag,w1,w2.1,w2.2,qai,qae,hlb,ho,ho1];refine⟨by omega,nx (i+1,qbi (a,b) w 2) [(2,2),(4,4),(5,5),(801,801),(802,802),(803,803)] ⟨by simp only;omega,by simp only;omega,by simp only;omega,by simp only;omega,tp.1,tp.2,hd⟩ (by simp only;omega) (h4:=?_)⟩;simp[qag,e2,qbi,qeh,qut,w1,qai,qae,hlb,ho,ho1]
      ·simp[qag,LT.row,qac,hil,hjl,f0,f1,g0,g1,hli,hlj,e2,q1,q2];refine nx (i+1,qbi (a,b) w f) [(2,2),(4,4),(5,5),(801,801),(802,802),(803,803)] ⟨by simp only;omega,by simp only;omega,by simp only;omega,by simp only;omega,tp.1,tp.2,hd⟩ (by simp only;omega) (h4:=?_);simp[qag,e2,qbi,q1,q2]
    ·rw[qgc (.inr (qF9 (by omega)))]at hd;have hlj:¬ (i:Int)<fate.length:=by omega
     have hli:(i:Int)<d.late.length:=by omega
     simp[qag,hli,hlj,← hd,ha,hb]
     first | omega | exact g3 | exact g3.symm
   ·rw[qgc (.inl (qF9 (by omega)))]at hd;have hli:¬ (i:Int)<d.late.length:=by omega
    simp[qag,hli,← hd,ha,hb]
    first | omega | exact g3 | exact g3.symm
 refine CV.of_frz key ?_ (hca:=by simp[DK.row,qac,qae,LT.row]) (hcv:=by simp[DK.row]);rintro r L' (⟨rfl,rfl,rfl⟩ | ⟨rfl,hl,rfl⟩)
 ·refine⟨by simp,by simp,by simp,?_⟩;simp only[qbe];exact qfE
 ·refine⟨by simp,by simp,by simp[clR,qai,qbU,qae,LT.row],?_⟩;simp[qbe,DK.row,qai,qbU,qal,hl];exact qkm (.cons (qa1 _) (.cons (qa1 _) (.cons (qbT 3) .nil)))
theorem qyo:DkT zDK:=by constructor <;> simp[zDK]
theorem qrG (n m k:Nat):∀ (l:List LT) (fs:List Int) (p:L2),p.1.length=n→p.2.length=m→(∀ x∈p.1,x.length≤k)→(∀ x∈p.2,x.length≤k)→(∀ w∈l,w.lx.length≤k) →
  (qem l fs p).1.length=n∧(qem l fs p).2.length=m∧(∀ x∈(qem l fs p).1,x.length≤k)∧∀ x∈(qem l fs p).2,x.length≤k
 | [],fs,p,h1,h2,h3,h4,_=>by rw[qem];exact⟨h1,h2,h3,h4⟩
 | w::q,[],p,h1,h2,h3,h4,_=>by rw[qem];exact⟨h1,h2,h3,h4⟩
 | w::q,f::fs,p,h1,h2,h3,h4,h5=>by
  have hl:=qiI p w f;have ht:=qmX (p:=p) (w:=w) (f:=f) h3 h4 (h5 w (by simp));rw[qem];exact qrG n m k q fs (qbi p w f) (by omega) (by omega) ht.1 ht.2 fun w hw=>h5 w (by simp[hw])
theorem qop (d:DK) (fate:List Int):DkT (qcy d fate):=by
 unfold qcy;split
 ·rename_i h;obtain⟨g1,g2,g3,g4,g5,g6,g7⟩:=qbs h;obtain⟨k1,k2,k3,k4⟩:=qrG d.s0.length d.s1.length 420 d.late fate (d.s0,d.s1) rfl rfl g5 g6 fun w hw=>(thereB_iff.1 (g7 w hw)).2.2;exact⟨by simp only;omega,by simp only;omega,by simp,fun x hx=>by have:=k3 x hx;omega,fun x hx=>by have:=k4 x hx;omega,by simp⟩
 ·exact qyo
def qnd (d:DK) (c:CO) (stage:Int) (fate:List Int):DK :=
 if qdJ d c=false then qcy d fate else
 if stage≤0∨(qaq d c).1.ok=false then qcy (qaq d c).1.d fate else
 qcy (qhn (qbt (qaq d c).1.d) (c.txg+1) (qaq d c).2.2).1 fate
theorem qCb (d:DK) (hd:qbw d=true) (c:CO) (h:CoT c) (hco:qap c=true) (stage:Int) (fate:List Int) (hf:fate.length≤1048576) :
  CV prog 104 [.agg d.row,.agg c.row,.int .i64 stage,.lst 1 (fate.map qac)] (.agg (qnd d c stage fate).row):=by
 obtain⟨R,hR⟩:∃ R,qnd d c stage fate=R:=⟨_,rfl⟩;rw[hR];unfold qnd at hR;obtain⟨hm,k1,k2,k3,k4,k5,k6,k7⟩:=qb1 hco;have c0:=qv4 d (qdE hd) c h hm;have c1:=qnE d (qdE hd) fate hf;simp only[DK.row,CO.row]at c0 c1;refine cvx func104 [(6,[zI 0,zI 1,zI 2,zJ 3 [14] [],zJ 5 [] [14],zJ 6 [] [14],zJ 7 [] [14],zJ 8 [14] [14],zJ 9 [11] [14],⟨4,[],[14,11],[14],[]⟩,⟨10,[],[],[14],[]⟩,zI 11,zI 12,zI 13,zJ 14 [] [14,11],zI 15,zI 16])] ntmps104 rfl rfl rfl ?_ (hca:=by simp[DK.row,qeB,qac]) (hcv:=by simp[DK.row]);simp[DK.row,CO.row];refine c0.call ?_;cases hma:qdJ d c with
 | false =>
  rw[if_pos hma]at hR;subst hR;simp;refine c1.call ?_;simp
 | true =>
  rw[if_neg (by simp[hma])]at hR;have hma2:=hma;simp only[qdJ,Bool.and_eq_true,decide_eq_true_eq]at hma2;have hb1:=qiU hd c;have cb:=qsI d hd c h hm hma2.2 (by omega);generalize qaq d c=B at *
  obtain⟨⟨bd,bf,bok⟩,c2,root⟩:=B;simp only at hb1 cb hR;have cf:=qv6 bd (qdE hb1.1);have cl:=qnE bd (qdE hb1.1) fate hf;have hf1:=qhM hb1.1;have cr:=qyZ (qbt bd) (qdE hf1.1) (c.txg+1) root (by omega);have hr1:qbw (qhn (qbt bd) (c.txg+1) root).1=true:=(qb2 hf1.1 _ _).1;have cg:=qnE (qhn (qbt bd) (c.txg+1) root).1 (qdE hr1) fate hf;generalize qhn (qbt bd) (c.txg+1) root=G at *
  obtain⟨gd,gok⟩:=G;simp only at cr hr1 cg hR;simp only[DK.row,CO.row,PT.row]at cb cf cr cg cl;simp[DK.row,CO.row,PT.row];refine qad [] (by kernel_rfl) cb (by simp) (by simp[DE.row,qbO,qac]) trivial (by simp) (by simp) ?_;rintro r L' ⟨rfl,rfl⟩;refine⟨[(25,14)],⟨by simp,by simp,by simp,by simp,by simp⟩,?_⟩;simp only[qaf];by_cases q0:stage≤0
  ·rw[if_pos (.inl q0)]at hR;subst hR;simp[DK.row,CO.row,PT.row,qdD,q0];refine cl.call ?_;simp
  ·cases bok with
   | false =>
    rw[if_pos (.inr rfl)]at hR;subst hR;simp[DK.row,CO.row,PT.row,qdD,q0];refine cl.call ?_;simp
   | true =>
    rw[if_neg (by simp;omega)]at hR;subst hR;simp[DK.row,CO.row,PT.row,qdD,q0];refine cf.call ?_;simp;refine cr.call ?_;simp;refine cg.call ?_;simp
def qrV (d:DK) (c:CO) (stage:Int) (fate:List Int):DK :=
 if qbw d=false∨qap c=false∨d.s0.length≤13 then zDK else qnd d c stage fate
theorem qCc (d:DK) (hd:DkT d) (c:CO) (h:CoT c) (stage:Int) (fate:List Int) (hf:fate.length≤1048576) :
  CV prog 44 [.agg d.row,.agg c.row,.int .i64 stage,.lst 1 (fate.map qac)] (.agg (qrV d c stage fate).row):=by
 obtain⟨R,hR⟩:∃ R,qrV d c stage fate=R:=⟨_,rfl⟩;rw[hR];unfold qrV at hR;have c1:=qee d hd;have c2:=qqt c h;have c3:=qqu d hd;have hl:=hd.l0;refine CV.of_imp ?_ (hca:=by simp[DK.row,qeB,qac]) (hcv:=by simp[DK.row]);refine acx func44 [(3,[zJ 0 [4] [],zJ 2 [5] [4],zJ 3 [] [4,5],zJ 4 [] [4,5],zJ 1 [] [5],zI 5,zI 6])] ntmps44 rfl rfl rfl ?_;simp only[DK.row,CO.row]at c1 c2 c3;simp[DK.row,CO.row];refine c1.call ?_;cases hok:qbw d with
 | false =>
  rw[if_pos (.inl hok)]at hR;subst hR;simp;simpa [zDK,DK.row]using qfE
 | true =>
  simp[DK.row,CO.row];refine c2.call ?_;cases hco:qap c with
  | false =>
   rw[if_pos (.inr (.inl hco))]at hR;subst hR;simp;simpa [zDK,DK.row]using qfE
  | true =>
   by_cases hn:d.s0.length≤13
   ·rw[if_pos (.inr (.inr hn))]at hR;subst hR;have hn':(d.s0.length:Int)≤13:=by omega
    simp[hn',DK.row];simpa [zDK,DK.row]using qfE
   ·rw[if_neg (by simp[hok,hco,hn])]at hR;subst hR;have hn':¬ (d.s0.length:Int)≤13:=by omega
    have c5:=qCb d hok c h hco stage fate hf;simp only[DK.row,CO.row]at c5;simp[hn',DK.row,CO.row];refine c3.call ?_;simp;refine c5.call ?_;simp
theorem qrr (s:List UInt8) (hs:s.length≤1048576):CV prog 175 [.str s] (.bool (decide (420<s.length))):=by
 refine cvx func175 [] ntmps175 rfl rfl rfl ?_;simp
 try omega
def qmz (n:Nat) (side at':Int):Bool:=decide (0≤side) && decide (side≤1) && decide (0≤at') && decide (at'<n)
theorem qhJ (d:DK) (h:DkT d) (side at':Int):CV prog 178 [.agg d.row,.int .i64 side,.int .i64 at'] (.bool (qmz d.s0.length side at')):=by
 have:=h.l0;have e1:=qao ((d.s0.length:Int)-1) (by omega) (by omega);refine cvx func178 [] ntmps178 rfl rfl rfl ?_ (hca:=by simp[DK.row]);simp[DK.row];refine(qcB ..).call ?_;cases hw:wiB side 0 1 with
 | false =>
  simp;simp only[qmz,wiB]at *
  rw[hw];rfl
 | true =>
  simp[e1];refine(qcB ..).call ?_;simp;simp only[qmz,wiB,Bool.and_eq_true,decide_eq_true_eq]at *
  have:(at'≤(d.s0.length:Int)-1)↔at'<d.s0.length:=by omega
  simp[hw,this]
theorem qCg:RowT LT.row 29 115 3:=⟨qDj,⟨_,_,_,qyA⟩,by simp[LT.row]⟩
abbrev qC4 (d:DK):Ob:=⟨3,[d.row]⟩
theorem qzY (d:DK) (h:DkT d) (w:LT) (hw:w.lx.length≤1048576):CW prog 177 [.agg w.row,.ptr 1000 0 0] (qC4 d) (.bool (!qa4 d w.ls w.la w.lx)):=by
 have c1:=qhJ d h w.ls w.la;have c2:=qrr w.lx hw;simp only[DK.row]at c1;refine cwx func177 [] ntmps177 rfl rfl rfl ?_ (hco:=by simp[clR,DK.row]);simp[DK.row,LT.row];refine c1.call ?_;cases hs:qmz d.s0.length w.ls w.la with
 | false =>
  simp;simp only[qmz,qa4]at *
  rw[hs];rfl
 | true =>
  simp;refine c2.call ?_;simp;simp only[qmz,qa4]at *
  rw[hs];by_cases g:w.lx.length≤420
  ·simp[g] <;> omega
  ·simp[g] <;> omega
theorem qzX (d:DK) (h:DkT d) (l:List LT) (hl:l.length≤1048576) (ht:∀ w∈l,w.lx.length≤1048576):CW prog 176 [.lst 3 (l.map LT.row),.fn 177 [.ptr 1000 0 0]] (qC4 d) (.bool (l.any fun w=>!qa4 d w.ls w.la w.lx)):=by
 have key:CW prog 254 [.lst 3 (l.map LT.row),.fn 177 [.ptr 1000 0 0]] (qC4 d) (.int .i64 (ixR (fun w=>!qa4 d w.ls w.la w.lx) 0 l)):=by
  refine cwx func254 [] ntmps254 rfl rfl rfl ?_ (hco:=by simp[clR,DK.row]);exact qz0 qCg _ l (by omega) (fun x hx=>rfl) (by simp[clR,DK.row]) fun x hx=>qzY d h x (ht x hx)
 refine cwx func176 [] ntmps176 rfl rfl rfl ?_ (hco:=by simp[clR,DK.row]);simp;refine key.call 1000 (by simp) (by simp[LT.row]) ?_;simp[qod]
theorem qoD (l:List (List UInt8)) (hl:l.length≤1048576) (ht:∀ x∈l,x.length≤1048576):CV prog 174 [.lst 1 (l.map qae),.fn 175 []] (.bool (l.any fun x=>decide (420<x.length))) :=
 qhu (qr2 (fun x=>decide (420<x.length)) 175 l (by omega) (by kernel_rfl) fun s hs=>(qrr s (ht s hs)).c)
theorem qAv (d:DK):qbw d=(wiB d.s0.length 1 120 && decide (d.s1.length=d.s0.length) && !(d.s0.any fun x=>decide (420<x.length)) && !(d.s1.any fun x=>decide (420<x.length)) && (decide (d.late.length≤600) && !(d.late.any fun w=>!qa4 d w.ls w.la w.lx))):=by
 have e:∀ l:List (List UInt8),(!(l.any fun x=>decide (420<x.length)))=l.all fun x=>decide (x.length≤420):=fun l=>by
  induction l with
  | nil=>rfl
  | cons x r ih =>
   simp only[qGs,qGf,Bool.not_or,ih]
   congr 1
   by_cases g:x.length≤420
   ·simp[g] <;> omega
   ·simp[g] <;> omega
 have e2:(!(d.late.any fun w=>!qa4 d w.ls w.la w.lx))=d.late.all fun w=>qa4 d w.ls w.la w.lx:=by
  induction d.late with
  | nil=>rfl
  | cons x r ih=>simp only[qGs,qGf,Bool.not_or,ih,Bool.not_not]
 rw[e,e,e2];unfold qbw wiB;have e3:decide ((1:Int)≤(d.s0.length:Int))=decide (1≤d.s0.length):=by simp;omega
 have e4:decide ((d.s0.length:Int)≤120)=decide (d.s0.length≤120):=by simp;omega
 rw[e3,e4];cases decide (1≤d.s0.length) <;> cases decide (d.s0.length≤120) <;> cases decide (d.s1.length=d.s0.length) <;> cases decide (d.late.length≤600) <;> simp
theorem qf5 (d:DK) (h:DkT d):CV prog 86 [.agg d.row] (.bool (qbw d)):=by
 rw[qAv];have h0:=h.l0;have h1:=h.l1;have h2:=h.l2;have c1:=qoD d.s0 h0 h.t0;have c2:=qoD d.s1 h1 h.t1;have c3:=qzX d h d.late h2 h.t2;have c0:=qcB d.s0.length 1 120;generalize hA:wiB d.s0.length 1 120=A at *
 generalize hB:(d.s0.any fun x=>decide (420<x.length))=B at *
 generalize hC:(d.s1.any fun x=>decide (420<x.length))=C at *
 generalize hD:(d.late.any fun w=>!qa4 d w.ls w.la w.lx)=D at *
 refine cvx func86 [] ntmps86 rfl rfl rfl ?_ (hca:=by simp[DK.row]);simp[DK.row];refine c0.call ?_;cases A with
 | false=>simp
 | true =>
  by_cases g:d.s1.length=d.s0.length
  ·simp[g];refine c1.call ?_;cases B with
   | true=>simp
   | false =>
    simp;refine c2.call ?_;cases C with
    | true=>simp
    | false =>
     by_cases g2:d.late.length≤600
     ·simp[g2,show(d.late.length:Int)≤600 by omega];refine c3.call 1 (by simp[DK.row]) (by simp[LT.row]) ?_;simp
     ·simp[g2,show ¬ (d.late.length:Int)≤600 by omega]
  ·simp[g,show ¬ (d.s1.length:Int)=d.s0.length by omega]
theorem qrk (d:DK) (h:DkT d) (side at':Int) (hs:side=0∨side=1) (ha:0≤at'∧at'<d.s0.length) (h1:d.s1.length=d.s0.length):CV prog 95 [.agg d.row,.int .i64 side,.int .i64 at'] (.str (qdV d side at')):=by
 obtain⟨R,hR⟩:∃ R,qdV d side at'=R:=⟨_,rfl⟩;rw[hR];have h0:=h.l0;have h2:=h.l2;refine cvx func95 [] ntmps95 rfl rfl rfl ?_ (hca:=by simp[DK.row]);have e0:=qao ((d.late.length:Int)-1) (by omega) (by omega);simp[DK.row,e0];refine qaS (X:=Nat) [1,2,3,7] [(3,3)] (fun i=>[(7,.int .i64 ((i:Int)-1))]) (fun _=>[]) (fun i=>i) (fun i=>i≤d.late.length∧(d.late.drop i).all (fun w=>!qc8 side at' w)=true) d.late.length (by simp) ?_ (he:=by simp[qag]);rintro i ⟨hi,hd⟩;cases i with
 | zero =>
  have hf:d.late.reverse.find? (qc8 side at')=none:=by
   rw[qG5];intro y hy;rw[qG6]at hy;simpa using qED.1 hd y hy
  unfold qdV at hR;rw[hf]at hR;have ha0:at'.toNat<d.s0.length:=by omega
  have ha1:at'.toNat<d.s1.length:=by omega
  have ha1':at'<d.s1.length:=by omega
  rcases hs with rfl | rfl
  ·have hx:d.s0[at'.toNat]?=some R:=by
    rw[qEq ha0];simpa [qoN,qEq ha0]using hR
   have hx0:=(qEW.1 hx).2;simp[qag,ha.1,ha.2,ha0,hx,hx0,qae]
  ·have hx:d.s1[at'.toNat]?=some R:=by
    rw[qEq ha1];simpa [qoN,qEq ha1]using hR
   have hx0:=(qEW.1 hx).2;simp[qag,ha.1,ha1',ha1,hx,hx0,qae]
 | succ k =>
  have hk:k<d.late.length:=by omega
  obtain⟨w,hw⟩:∃ w,d.late[k]?=some w:=⟨_,qEq hk⟩;have hw0:=(qEW.1 hw).2;have e1:((k+1:Nat):Int)-1=k:=by omega
  have e2:(0:Int)≤k:=by omega
  have e3:(k:Int)<d.late.length:=by omega
  have e4:=qao ((k:Int)-1) (by omega) (by omega);have hf:=qon (qc8 side at') hw hd;have hdk:(d.late.drop k).all (fun w=>!qc8 side at' w)=(!qc8 side at' w && (d.late.drop (k+1)).all (fun w=>!qc8 side at' w)):=by
   rw[qEv hk,hw0,qGf]
  have hnx:qc8 side at' w=false→∀ x∈d.late.drop k,qc8 side at' x=false:=fun hl x hx=>by
   rw[hl,hd]at hdk;simpa using qED.1 hdk x hx
  have hlx:qc8 side at' w=true→w.lx=R:=fun hl=>by
   rw[if_pos hl]at hf;unfold qdV at hR;rw[hf]at hR;exact hR
  simp only[e1];simp[qag,LT.row,hk,hw,hw0,e2,e3,e4];refine⟨fun q1=>⟨fun q2=>hlx (by simp[qc8,q1,q2]),fun q2=>nx k [(3,3)] ⟨by omega,hnx (by simp[qc8,q2])⟩ (h4:=by simp[qag,e4])⟩,fun q1=>nx k [(3,3)] ⟨by omega,hnx (by simp[qc8,q1])⟩ (h4:=by simp[qag,e4])⟩
theorem qCM (d:DK) (hd:qbw d=true) (p:PT) (side:Int) (hs:side=0∨side=1):CV prog 94 [.agg d.row,.agg p.row,.int .i64 side] (.bool (qa4 d side p.pa [] && decide ((smB (qdV d side p.pa):Int)=p.ps))):=by
 have h:=qdE hd;have c1:=qhJ d h side p.pa;have hse:qa4 d side p.pa []=qmz d.s0.length side p.pa:=by simp[qa4,qmz]
 simp only[DK.row]at c1;refine cvx func94 [(1,[zJ 0 [3] [],zJ 1 [] [3],zJ 2 [] [3],zJ 3 [4] [3],zI 4,zI 5,zJ 6 [3] [],zJ 7 [] [3],zJ 8 [] [3],zJ 9 [4] [3],zJ 12 [] [3,4],zJ 13 [4] [3,4],zJ 10 [] [4],zJ 11 [] [4],zI 14,zI 15,zI 16])] ntmps94 rfl rfl rfl ?_ (hca:=by simp[DK.row,PT.row]);simp[DK.row,PT.row];refine c1.call ?_;rw[hse];cases hb:qmz d.s0.length side p.pa with
 | false=>simp
 | true =>
  obtain⟨n1,n2,n3⟩:=thereB_iff.1 (hse.trans hb);have c2:=qrk d h side p.pa n1 n2 (qbs hd).2.2.1;have c3:CV prog 201 [.str (qdV d side p.pa)] (.int .i64 (smB (qdV d side p.pa):Nat)):=qs3 _ (by have:=qeK hd side p.pa;simp[maxLen];omega);simp only[DK.row]at c2;simp;refine c2.call ?_;simp;refine c3.call ?_;simp;by_cases q:(smB (qdV d side p.pa):Int)=p.ps <;> simp[q]
theorem qsD {d:DK} (hd:qbw d=true) {p:PT} (hp:qaI p=true) (h0:0<p.pa) (side:Int):qaN d p side=(qa4 d side p.pa [] && decide ((smB (qdV d side p.pa):Int)=p.ps)):=by
 unfold qaN qbF;cases h:qa4 d side p.pa [] <;> simp[hd,hp,h0]
theorem qf6 (d:DK) (h:DkT d) (p:PT):CV prog 38 [.agg d.row,.agg p.row] (.tup [.str (qaj d p).1,.int .i64 (qaj d p).2]):=by
 obtain⟨R,hR⟩:∃ R,qaj d p=R:=⟨_,rfl⟩;rw[hR];unfold qaj at hR;have c1:=qf5 d h;have c2:=qoV p;simp only[DK.row,PT.row]at c1 c2;refine cvx func38 [] ntmps38 rfl rfl rfl ?_ (hca:=by simp[DK.row,PT.row]);have hz:(qaI p && decide (p.pa=0))=(decide (p.pa=0) && decide (p.ps=0) && decide (p.pb=0)):=by
  unfold qaI;by_cases g:p.pa=0 <;> simp[g]
 rw[hz]at hR;by_cases q0:p.pa=0∧p.ps=0∧p.pb=0
 ·rw[if_pos (by simp[q0])]at hR;subst hR;obtain⟨a1,a2,a3⟩:=q0;simp[DK.row,PT.row,a1,a2,a3]
 ·rw[if_neg (by simpa [and_assoc]using q0)]at hR;have q0':p.pa=0→p.ps=0→¬ p.pb=0:=fun a b c=>q0 ⟨a,b,c⟩;have hno:qbw d=false∨qan p=false→R=([],2):=fun hb=>by
   rw[← hR];have e:∀ side,qaN d p side=false:=fun side=>by
    cases hx:qaN d p side with
    | false=>rfl
    | true =>
     obtain⟨m1,m2,m3,_⟩:=qdl hx;rcases hb with hb | hb
     ·rw[m1]at hb;cases hb
     ·simp[qan,m2]at hb;omega
   simp[e]
  simp[DK.row,PT.row];refine⟨fun a b c=>absurd c (q0' a b),fun hne=>?_⟩;clear hne;refine c1.call ?_;cases hok:qbw d with
  | false =>
   have:=hno (.inl hok);subst this;simp
  | true =>
   simp;refine c2.call ?_;cases hre:qan p with
   | false =>
    have:=hno (.inr hre);subst this;simp
   | true =>
    have hp:qaI p=true:=by simp[qan]at hre;exact hre.1
    have h0:0<p.pa:=by
     simp[qan]at hre;unfold qaI at hp;rw[if_neg hre.2]at hp;simp at hp;omega
    have hsd:=qsD hok hp h0;have key:∀ j:Nat,j<2→qaN d p j=true→(∀ k:Nat,k<j→qaN d p k=false)→R=(qdV d j p.pa,0):=fun j hj h1 h2=>by
     rw[← hR];rcases(show j=0∨j=1 by omega)with rfl | rfl
     ·have h1':qaN d p 0=true:=h1;simp[h1']
     ·have h2':qaN d p 0=false:=h2 0 (by omega);have h1':qaN d p 1=true:=h1;simp[h1',h2']
    have key2:qaN d p 0=false→qaN d p 1=false→R=([],2):=fun h1 h2=>by rw[← hR,h1,h2];simp
    simp;refine qaS (X:=Nat) [2,3,4,5,16] [(2,2),(3,3)] (fun i=>[(16,.int .i64 i)]) (fun _=>[]) (fun i=>2-i) (fun i=>i≤2∧∀ k:Nat,k<i→qaN d p k=false) 0 (by simp) ?_ (he:=by simp[qag]);rintro i ⟨hi,hf⟩;by_cases h2:i=2
    ·subst h2;have:=key2 (hf 0 (by omega)) (hf 1 (by omega));simp[qag,this]
    ·have h2':i<2:=by omega
     have h2i:(i:Int)<2:=by omega
     have e2:=qao ((i:Int)+1) (by omega) (by omega);have c4:=qCM d hok p i (by omega);rw[← hsd]at c4;simp only[DK.row,PT.row]at c4;simp[qag,h2i];refine c4.call ?_;cases hb:qaN d p i with
     | true =>
      have hk:=key i h2' hb hf;obtain⟨m1,m2,m3,m4,m5⟩:=qdl hb;obtain⟨n1,n2,n3⟩:=thereB_iff.1 m4;have c5:=qrk d h i p.pa n1 n2 (qbs m1).2.2.1;simp only[DK.row]at c5;simp;refine c5.call ?_;simp[hk]
     | false =>
      simp;exact nx (i+1) [(2,2),(3,3)] ⟨by omega,fun k hk=>by
       rcases(show k<i∨k=i by omega)with h | rfl
       ·exact hf k h
       ·exact hb⟩ (h4:=by simp[qag,e2])
theorem qmP (at':Int) (text:List UInt8) (birth:Int) (ht:text.length≤maxLen):CV prog 221 [.int .i64 at',.str text,.int .i64 birth] (.agg (qbI at' text birth).row):=by
 have c1:CV prog 201 [.str text] (.int .i64 (smB text:Nat)):=qs3 text ht;have c2:=qoV ⟨at',smB text,birth⟩;have hp:(at'<1∨qaI ⟨at',smB text,birth⟩=false)↔qan ⟨at',smB text,birth⟩=false:=by
  unfold qan qaI;simp only;by_cases g:at'=0
  ·simp[g]
  ·by_cases g2:at'<1
   ·simp[g,g2];omega
   ·simp[g,g2]
 unfold qbI;simp only[PT.row]at c2;generalize qan ⟨at',smB text,birth⟩=B at *
 refine cvx func221 [] ntmps221 rfl rfl rfl ?_ (hcv:=by split <;> simp[PT.row]);simp;refine c1.call ?_;simp;refine c2.call ?_;cases B with
 | false =>
  rw[if_pos (hp.2 rfl)];simp[PT.row]
 | true =>
  rw[if_neg (fun h=>by have:=hp.1 h;cases this)];simp[PT.row]
theorem qzP (w:LT):∀ y∈w.row,qda y=true:=by simp[LT.row]
theorem qu0 (l:List (List UInt8)) (hl:l.length≤1048576):ACall prog 213 [.lst 1 (l.map qae)] [] (fun r L'=>r=.sl 7 0 l.length∧L'=[(7,qai l)]):=by
 have key:ACall prog 213 [.lst 1 (l.map qae)] [] (fun r L'=>(l=[]∧r=.nils∧L'=[])∨(r=.sl 7 0 l.length∧L'=[(7,qai l)])):=by
  refine acx func213 [] ntmps213 rfl rfl rfl ?_;by_cases h:l=[]
  ·subst h;simp[qai]
  ·simp[h,qai,qae];omega
 refine ACall.nils (id:=7) (sz:=1) key (by simp) ?_;rintro r L' (⟨rfl,rfl,rfl⟩ | ⟨rfl,rfl⟩)
 ·exact .inr ⟨rfl,rfl,rfl⟩
 ·exact .inl ⟨rfl,rfl⟩
theorem qC7 (l:List LT) (hl:l.length≤1048576):ACall prog 214 [.lst 3 (l.map LT.row)] [] (fun r L'=>r=.sl 7 0 l.length∧L'=[(7,qbU l)]):=by
 have key:ACall prog 214 [.lst 3 (l.map LT.row)] [] (fun r L'=>(l=[]∧r=.nils∧L'=[])∨(r=.sl 7 0 l.length∧L'=[(7,qbU l)])):=by
  refine acx func214 [] ntmps214 rfl rfl rfl ?_;by_cases h:l=[]
  ·subst h;simp[qbU]
  ·simp[h,qbU];exact⟨by omega,fun x _ y hy=>qzP x y hy⟩
 refine ACall.nils (id:=7) (sz:=3) key (by simp) ?_;rintro r L' (⟨rfl,rfl,rfl⟩ | ⟨rfl,rfl⟩)
 ·exact .inr ⟨rfl,rfl,rfl⟩
 ·exact .inl ⟨rfl,rfl⟩
theorem qC9 (l:List CS) (hl:l.length≤1048576):ACall prog 196 [.lst 31 (l.map CS.row)] [] (fun r L'=>r=.sl 7 0 l.length∧L'=[(7,kcs l)]):=by
 have key:ACall prog 196 [.lst 31 (l.map CS.row)] [] (fun r L'=>(l=[]∧r=.nils∧L'=[])∨(r=.sl 7 0 l.length∧L'=[(7,kcs l)])):=by
  refine acx func196 [] ntmps196 rfl rfl rfl ?_;by_cases h:l=[]
  ·subst h;simp[kcs]
  ·simp[h,kcs];exact⟨by omega,fun x _ y hy=>qg2 x y hy⟩
 refine ACall.nils (id:=7) (sz:=31) key (by simp) ?_;rintro r L' (⟨rfl,rfl,rfl⟩ | ⟨rfl,rfl⟩)
 ·exact .inr ⟨rfl,rfl,rfl⟩
 ·exact .inl ⟨rfl,rfl⟩
theorem qxJ (l:List DE) (hl:l.length≤1048576):ACall prog 197 [.lst 3 (l.map DE.row)] [] (fun r L'=>r=.sl 7 0 l.length∧L'=[(7,qaR l)]):=by
 have key:ACall prog 197 [.lst 3 (l.map DE.row)] [] (fun r L'=>(l=[]∧r=.nils∧L'=[])∨(r=.sl 7 0 l.length∧L'=[(7,qaR l)])):=by
  refine acx func197 [] ntmps197 rfl rfl rfl ?_;by_cases h:l=[]
  ·subst h;simp[qaR]
  ·simp[h,qaR];omega
 refine ACall.nils (id:=7) (sz:=3) key (by simp) ?_;rintro r L' (⟨rfl,rfl,rfl⟩ | ⟨rfl,rfl⟩)
 ·exact .inr ⟨rfl,rfl,rfl⟩
 ·exact .inl ⟨rfl,rfl⟩
theorem qC6 (l:List PT) (hl:l.length≤1048576):ACall prog 198 [.lst 3 (l.map PT.row)] [] (fun r L'=>r=.sl 7 0 l.length∧L'=[(7,kpt l)]):=by
 have key:ACall prog 198 [.lst 3 (l.map PT.row)] [] (fun r L'=>(l=[]∧r=.nils∧L'=[])∨(r=.sl 7 0 l.length∧L'=[(7,kpt l)])):=by
  refine acx func198 [] ntmps198 rfl rfl rfl ?_;by_cases h:l=[]
  ·subst h;simp[kpt]
  ·simp[h,kpt];omega
 refine ACall.nils (id:=7) (sz:=3) key (by simp) ?_;rintro r L' (⟨rfl,rfl,rfl⟩ | ⟨rfl,rfl⟩)
 ·exact .inr ⟨rfl,rfl,rfl⟩
 ·exact .inl ⟨rfl,rfl⟩
theorem qC8 (l:List Int) (hl:l.length≤1048576):ACall prog 199 [.lst 1 (l.map qac)] [] (fun r L'=>r=.sl 7 0 l.length∧L'=[(7,kin l)]):=by
 have key:ACall prog 199 [.lst 1 (l.map qac)] [] (fun r L'=>(l=[]∧r=.nils∧L'=[])∨(r=.sl 7 0 l.length∧L'=[(7,kin l)])):=by
  refine acx func199 [] ntmps199 rfl rfl rfl ?_;by_cases h:l=[]
  ·subst h;simp[kin]
  ·simp[h,kin];omega
 refine ACall.nils (id:=7) (sz:=1) key (by simp) ?_;rintro r L' (⟨rfl,rfl,rfl⟩ | ⟨rfl,rfl⟩)
 ·exact .inr ⟨rfl,rfl,rfl⟩
 ·exact .inl ⟨rfl,rfl⟩
theorem qlL (d:DK) (h:DkT d):ACall prog 105 [.agg d.row] [] (fun r L'=>r=.agg [.sl 6 0 d.s0.length,.sl 10 0 d.s1.length,.sl 14 0 d.late.length]∧L'=[(6,qai d.s0),(10,qai d.s1),(14,qbU d.late)]):=by
 have c1:=qu0 d.s0 h.l0;have c2:=qu0 d.s1 h.l1;have c3:=qC7 d.late h.l2;refine acx func105 [(1,[zI 0,zI 1,zJ 2 [1] [],zJ 4 [] [1],zJ 5 [] [1],zJ 6 [1] [1],zJ 9 [] [1],zJ 10 [1] [1],zJ 3 [] [1],zJ 7 [] [1],zJ 8 [] [1],zI 11,zI 12,zI 13])] ntmps105 rfl rfl rfl ?_;simp[DK.row];refine qad [] (by kernel_rfl) c1 (by simp[qae]) (by simp) trivial (by simp) (by simp) ?_;rintro r L' ⟨rfl,rfl⟩;refine⟨[(7,6)],⟨by simp,by simp,by simp,by simp,by simp⟩,?_⟩;simp only[qaf];simp;refine qad [] (by kernel_rfl) c2 (by simp[qae]) (by simp) trivial (by simp) (by simp) ?_;rintro r L' ⟨rfl,rfl⟩;refine⟨[(7,10)],⟨by simp,by simp,by simp,by simp,by simp⟩,?_⟩;simp only[qaf];simp;refine qad [] (by kernel_rfl) c3 (by simp[LT.row]) (by simp) trivial (by simp) (by simp) ?_;rintro r L' ⟨rfl,rfl⟩;refine⟨[(7,14)],⟨by simp,by simp,by simp,by simp,by simp⟩,?_⟩;simp only[qaf];simp
theorem quB (c:CO) (h:CoT c):ACall prog 92 [.agg c.row] [] (fun r L'=>r=qe0 c 5 8 11 14∧L'=[(5,kcs c.sets),(8,qaR c.ddt),(11,kpt c.parts),(14,kin c.safe)]):=by
 have c1:=qC9 c.sets h.sets;have c2:=qxJ c.ddt h.ddt;have c3:=qC6 c.parts h.parts;have c4:=qC8 c.safe h.safe;refine acx func92 [(1,[zI 0,zJ 1 [1] [],zJ 3 [] [1],zJ 4 [1] [1],zJ 6 [] [1],zJ 7 [1] [1],zJ 9 [] [1],zJ 10 [1] [1],zJ 2 [] [1],zI 12,zJ 5 [] [1],zJ 8 [] [1],zI 11,zI 13,zI 14,zI 15,zI 16,zI 17,zI 18,zI 19])] ntmps92 rfl rfl rfl ?_;simp[CO.row];refine qad [] (by kernel_rfl) c1 (by simp[qbO]) (by simp) trivial (by simp) (by simp) ?_;rintro r L' ⟨rfl,rfl⟩;refine⟨[(7,5)],⟨by simp,by simp,by simp,by simp,by simp⟩,?_⟩;simp only[qaf];simp;refine qad [] (by kernel_rfl) c2 (by simp[DE.row]) (by simp) trivial (by simp) (by simp) ?_;rintro r L' ⟨rfl,rfl⟩;refine⟨[(7,8)],⟨by simp,by simp,by simp,by simp,by simp⟩,?_⟩;simp only[qaf];simp;refine qad [] (by kernel_rfl) c3 (by simp[PT.row]) (by simp) trivial (by simp) (by simp) ?_;rintro r L' ⟨rfl,rfl⟩;refine⟨[(7,11)],⟨by simp,by simp,by simp,by simp,by simp⟩,?_⟩;simp only[qaf];simp;refine qad [] (by kernel_rfl) c4 (by simp[qac]) (by simp) trivial (by simp) (by simp) ?_;rintro r L' ⟨rfl,rfl⟩;refine⟨[(7,14)],⟨by simp,by simp,by simp,by simp,by simp⟩,?_⟩;simp only[qaf];simp[qe0]
def qwm (p:PO) (a0 a1 a2 b0 b1 b2 b3:Nat):List AV:=[.sl a0 0 p.d.s0.length,.sl a1 0 p.d.s1.length,.sl a2 0 p.d.late.length,.int .i64 p.c.txg,.sl b0 0 p.c.sets.length,.sl b1 0 p.c.ddt.length,.sl b2 0 p.c.parts.length,.bool p.c.dirty,.sl b3 0 p.c.safe.length,.int .i64 p.c.logn,.bool p.up]
def qin (p:PO) (a0 a1 a2 b0 b1 b2 b3:Nat):List (Nat×Ob):=[(a0,qai p.d.s0),(a1,qai p.d.s1),(a2,qbU p.d.late),(b0,kcs p.c.sets),(b1,qaR p.c.ddt),(b2,kpt p.c.parts),(b3,kin p.c.safe)]
def qb4 (d:DK) (a0 a1 a2:Nat):List AV:=[.sl a0 0 d.s0.length,.sl a1 0 d.s1.length,.sl a2 0 d.late.length]
def qb9 (d:DK) (a0 a1 a2:Nat):List (Nat×Ob):=[(1000,⟨3,[qb4 d a0 a1 a2]⟩),(a0,qai d.s0),(a1,qai d.s1),(a2,qbU d.late)]
def qDu (xs:List Nat) (R:DK×Bool) (r:AV) (L':List (Nat×Ob)):Prop:=∃ id,id∈xs∧r=.bool R.2∧L'=qb9 R.1 1001 1002 id
@[simp] theorem qzp (ρ:Nat→Option Plc) (d:DK) (a0 a1 a2:Nat):qbm ρ ⟨3,[qb4 d a0 a1 a2]⟩=⟨3,[qb3 ρ (qb4 d a0 a1 a2)]⟩:=rfl
theorem qcz (l:List LT):clR (qbU l).els=true:=by simp[clR,qbU,LT.row]
theorem qri (d:DK) (hd:qbw d=true) (side at':Int) (text:List UInt8) (ht:text.length≤1048576) :
  ACall prog 288 [.ptr 1000 0 0,.int .i64 side,.int .i64 at',.str text] (qb9 d 1001 1002 1003)
   (fun r L'=>r=.bool (qaP d side at' text).2∧L'=qb9 (qaP d side at' text).1 1001 1002 903):=by
 obtain⟨R,hR⟩:∃ R,qaP d side at' text=R:=⟨_,rfl⟩;rw[hR];unfold qaP at hR;rw[if_neg (by simp[hd])]at hR;have h:=qdE hd;obtain⟨g1,g2,g3,g4,_⟩:=qbs hd;have c1:=qhJ d h side at';have c2:=qrr text ht;simp only[DK.row]at c1;have hth:qa4 d side at' text=(qmz d.s0.length side at' && !decide (420<text.length)):=by
  simp only[qa4,qmz];by_cases g:text.length≤420
  ·have:¬ 420<text.length:=by omega
   simp[g,this]
  ·have:420<text.length:=by omega
   simp[g,this]
 have key:ACall prog 288 [.ptr 1000 0 0,.int .i64 side,.int .i64 at',.str text] (qb9 d 1001 1002 1003)
   (qDu [1003,38] R):=by
  refine acx func288 [] ntmps288 rfl rfl rfl ?_ (hL:=by simp[qb9]);simp[qb9,qb4];refine c1.view (by simp[qbW,mtA,qai,qbU,qal,qae,LT.row]) ?_;cases hs:qmz d.s0.length side at' with
  | false =>
   rw[if_pos (.inl (by rw[hth,hs];rfl))]at hR;subst hR;simp;exact⟨qb9 d 1001 1002 1003,by simp[qb9,qb4],1003,by simp,rfl,rfl⟩
  | true =>
   simp;refine c2.call ?_;by_cases hl:420<text.length
   ·rw[if_pos (.inl (by rw[hth,hs];simp[hl]))]at hR;subst hR;simp[hl];exact⟨qb9 d 1001 1002 1003,by simp[qb9,qb4],1003,by simp,rfl,rfl⟩
   ·by_cases hn:d.late.length=600
    ·rw[if_pos (.inr hn)]at hR;subst hR;simp[hl,hn];exact⟨qb9 d 1001 1002 1003,by simp[qb9,qb4,hn],1003,by simp,rfl,rfl⟩
    ·rw[if_neg (by rw[hth,hs];simp[hl,hn])]at hR;subst hR;have hn':¬ (600:Int)≤d.late.length:=by omega
     simp[hl,hn',qbU,LT.row];refine⟨by omega,qb9 ⟨d.s0,d.s1,d.late++[⟨side,at',text⟩]⟩ 1001 1002 38,?_,38,by simp,rfl,rfl⟩;simp[qb9,qb4,qbU,qal,LT.row]
 refine key.can ?_;rintro r L' ⟨id,hid,rfl,rfl⟩;refine⟨[(1000,1000),(1001,1001),(1002,1002),(id,903)],?_,?_,?_,?_,?_⟩
 all_goals
  simp only[qFO,qFX,or_false]at hid;rcases hid with rfl | rfl
 all_goals simp[qb9,qb4,qag]
theorem qiO {d:DK} (h:qbw d=true) (side a:Int) (t:List UInt8):qbw (qaP d side a t).1=true∧(qaP d side a t).1.s0.length=d.s0.length∧((qaP d side a t).2=false→(qaP d side a t).1=d):=by
 have h2:qat d a t=qat d a t:=rfl;obtain⟨g1,g2,g3,g4,g5,g6,g7⟩:=qbs h;unfold qaP;rw[if_neg (by simp[h])];split
 ·exact⟨h,rfl,fun _=>rfl⟩
 ·rename_i hn;refine⟨?_,rfl,fun h=>by cases h⟩;have hth:qa4 d side a t=true:=by
   cases hx:qa4 d side a t with
   | true=>rfl
   | false=>exact absurd (.inl hx) hn
  have hnl:¬ d.late.length=600:=fun e=>hn (.inr e);simp only[qbw,Bool.and_eq_true,decide_eq_true_eq,qED]at h ⊢;obtain⟨⟨⟨⟨⟨⟨q1,q2⟩,q3⟩,q4⟩,q5⟩,q6⟩,q7⟩:=h;refine⟨⟨⟨⟨⟨⟨q1,q2⟩,q3⟩,by simp;omega⟩,q5⟩,q6⟩,fun w hw=>?_⟩;rcases qFQ.1 hw with hw | hw
  ·exact q7 w hw
  ·simp only[qFO,qFX,or_false]at hw;subst hw;exact hth
theorem qrz (d:DK) (hd:qbw d=true) (at':Int) (text:List UInt8) (ht:text.length≤1048576) :
  ACall prog 220 [.ptr 1000 0 0,.int .i64 at',.str text] (qb9 d 1001 1002 1003)
   (fun r L'=>r=.bool (qat d at' text).2∧L'=qb9 (qat d at' text).1 1001 1002 903):=by
 obtain⟨R,hR⟩:∃ R,qat d at' text=R:=⟨_,rfl⟩;rw[hR];unfold qat at hR;rw[if_neg (by simp[hd])]at hR;obtain⟨g1,g2,g3,g4,_⟩:=qbs hd;have c1:=qri d hd 0 at' text ht;have k1:=qiO hd 0 at' text;generalize qaP d 0 at' text=X at *
 obtain⟨e,eo⟩:=X;simp only at k1 hR;have c2:=qri e k1.1 1 at' text ht;generalize qaP e 1 at' text=Y at *
 obtain⟨f,fo⟩:=Y;have key:ACall prog 220 [.ptr 1000 0 0,.int .i64 at',.str text] (qb9 d 1001 1002 1003) (qDu [1003,16,21] R):=by
  refine acx func220 [] ntmps220 rfl rfl rfl ?_ (hL:=by simp[qb9]);simp[qb9,qb4];by_cases hn:598<d.late.length
  ·rw[if_pos hn]at hR;subst hR;simp[hn,show(598:Int)<d.late.length by omega,show ¬ (d.late.length:Int)≤598 by omega];exact⟨qb9 d 1001 1002 1003,by simp[qb9,qb4],1003,by simp,rfl,rfl⟩
  ·rw[if_neg hn]at hR;simp[hn,show ¬ (598:Int)<d.late.length by omega,show(d.late.length:Int)≤598 by omega];refine qad [(1000,.whole 1000),(1001,.whole 1001),(1002,.whole 1002),(1003,.whole 1003)] (by kernel_rfl) c1 (by simp) (by simp) (by simp[qb9,qb4];exact⟨.inr ⟨_,_,rfl,rfl,by simp⟩,qaa rfl (qaB _),qaa rfl (qaB _),qaa rfl (qcz _)⟩) (by simp[qb9]) (by simp) ?_;rintro r L' ⟨rfl,rfl⟩;refine⟨[(903,16)],⟨by simp[qb9],by simp,by simp,by simp[qb9],by simp⟩,?_⟩;simp only[qaf];simp[qb9,qb4];cases eo with
   | false =>
    rw[if_pos rfl]at hR;subst hR;simp;exact⟨qb9 e 1001 1002 16,by simp[qb9,qb4],16,by simp,rfl,rfl⟩
   | true =>
    rw[if_neg (by simp)]at hR;subst hR;simp;refine qad [(1000,.whole 1000),(1001,.whole 1001),(1002,.whole 1002),(1003,.whole 16)] (by kernel_rfl) c2 (by simp) (by simp) (by simp[qb9,qb4];exact⟨.inr ⟨_,_,rfl,rfl,by simp⟩,qaa rfl (qaB _),qaa rfl (qaB _),qaa rfl (qcz _)⟩) (by simp[qb9]) (by simp) ?_;rintro r L' ⟨rfl,rfl⟩;refine⟨[(903,21)],⟨by simp[qb9],by simp,by simp,by simp[qb9],by simp⟩,?_⟩;simp only[qaf];simp[qb9,qb4];exact⟨qb9 f 1001 1002 21,by simp[qb9,qb4],21,by simp,rfl,rfl⟩
 refine key.can ?_;rintro r L' ⟨id,hid,rfl,rfl⟩;refine⟨[(1000,1000),(1001,1001),(1002,1002),(id,903)],?_,?_,?_,?_,?_⟩
 all_goals
  simp only[qFO,qFX,or_false]at hid;rcases hid with rfl | rfl | rfl
 all_goals simp[qb9,qb4,qag]
theorem qru (d:DK) (hd:qbw d=true) :
  ACall prog 225 [.ptr 1000 0 0] (qb9 d 1001 1002 1003) (fun r L'=>r=.tup []∧L'=qb9 (qbt d) 1001 1002 903):=by
 obtain⟨R,hR⟩:∃ R,qbt d=R:=⟨_,rfl⟩;rw[hR];unfold qbt at hR;rw[if_pos hd]at hR;obtain⟨g1,g2,g3,g4,g5,g6,g7⟩:=qbs hd;have key:ACall prog 225 [.ptr 1000 0 0] (qb9 d 1001 1002 1003) (fun r L'=>r=.tup []∧L'=[(1000,⟨3,[qb4 R 1001 1002 903]⟩),(1001,qai R.s0),(1002,qai R.s1),(903,qbU R.late)]):=by
  refine acv func225 [(3,[zI 0,zI 1,zJ 2 [3] [],zJ 3 [] [3],zJ 4 [] [3],zI 5,zJ 6 [1000] [],zJ 7 [] [3,1000],zJ 8 [3] [3,1000],zJ 9 [] [3,1000],zJ 10 [3] [3,1000],zJ 11 [1001,1002] [],zI 12])] ntmps225 rfl rfl rfl ?_ (hL:=by simp[qb9]);refine qpL (qbB _ ?_);simp[qb9,qb4];refine qaS (X:=Nat×List (List UInt8)×List (List UInt8)) [0,7,8,9] [(1000,1000),(1001,1001),(1002,1002),(1003,1003)] (fun x=>[(9,.int .i64 x.1)]) (fun x=>[(1001,qai x.2.1),(1002,qai x.2.2)]) (fun x=>d.late.length-x.1)
   (fun x=>x.1≤d.late.length∧x.2.1.length=d.s0.length∧x.2.2.length=d.s0.length∧(⟨((d.late.drop x.1).foldl qeh (x.2.1,x.2.2)).1,((d.late.drop x.1).foldl qeh (x.2.1,x.2.2)).2,[]⟩:DK)=R) (0,d.s0,d.s1) (by simp[hR,g3]) ?_ (he:=by simp[qag])
  rintro⟨i,p,q⟩ ⟨hi,hp,hq,hd2⟩;simp only at hi hp hq hd2;cases hr:d.late.drop i with
  | nil =>
   have:=qaY hr;rw[hr]at hd2;have hie:i=d.late.length:=by omega
   subst hie;simp[qag];refine⟨_,(qeF 903 3 (by simp)).trans (qdk 1000 2 (sz:=3) (row:=[.sl 1001 0 d.s0.length,.sl 1002 0 d.s1.length,.nils]) (by simp) (by simp) (qcF 903 0)),?_⟩;rw[← hd2];simp[hp,hq,g3,qbU]
  | cons x r =>
   obtain⟨h1,e0,e1,h3⟩:=qaZ hr;rw[hr]at hd2;have e2:=qao ((i:Int)+1) (by omega) (by omega);have hx:=g7 x (qGj e1);obtain⟨n1,⟨n2,n3⟩,_⟩:=thereB_iff.1 hx;rcases n1 with hs | hs
   ·have hl:x.la.toNat<p.length:=by omega
    simp[qag,qbU,qai,h1,e0,e1,LT.row,hs,n2,n3,qae,hp];exact nx (i+1,p.set x.la.toNat x.lx,q) [(1000,1000),(1001,1001),(1002,1002),(1003,1003)] ⟨by omega,by simp[hp],hq,by rw[← hd2,h3,qEH];simp[qeh,hs]⟩ (h4:=by simp[qag,e2,qai,qae,qGv,qbU])
   ·have hl:x.la.toNat<q.length:=by omega
    simp[qag,qbU,qai,h1,e0,e1,LT.row,hs,n2,n3,qae,hq,g3];exact nx (i+1,p,q.set x.la.toNat x.lx) [(1000,1000),(1001,1001),(1002,1002),(1003,1003)] ⟨by omega,hp,by simp[hq],by rw[← hd2,h3,qEH];simp[qeh,hs]⟩ (h4:=by simp[qag,e2,qai,qae,qGv,qbU])
 refine key.imp fun r L' ⟨h1,h2⟩=>⟨r,qa1 _,h1,h2⟩
end Go.Av.F
end
