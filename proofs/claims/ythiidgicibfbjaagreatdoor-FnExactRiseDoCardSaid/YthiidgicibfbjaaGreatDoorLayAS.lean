/- Lemmas for the proof, no statement of the seat; no conditions. -/
import Derived.Test.YthiidgicibfbjaaGreatDoorLayAR
set_option linter.unusedSimpArgs false
set_option linter.unusedVariables false
set_option linter.unnecessarySimpa false
set_option maxRecDepth 100000
section
namespace Go.Av.F
open Go Go.Av Go.Proofs Go.Proofs.Tryz
def qck (e:DE):List UInt8:=dec e.es++(46::(dec e.ea++(46::dec e.ec)))
def qcU:List DE→Bool→List UInt8
 | [],_=>[]
 | e::r,first=>(if first=true then [] else [32])++(qck e++qcU r false)
def qcl (l:List DE):List UInt8:=if qal l=true then qcU l true else []
theorem qgi {e:DE} (h:qb8 e=true):0≤e.es∧e.es<65521∧1≤e.ea∧e.ea<120∧1≤e.ec∧e.ec≤1000:=by
 simp only[qb8,Bool.and_eq_true,decide_eq_true_eq]at h;omega
theorem qg8 {l:List DE} (h:qal l=true):∀ e∈l,qb8 e=true:=by
 simp only[qal,Bool.and_eq_true]at h;exact fun e he=>((qcg h.2).1 e he).2
theorem qgM {e:DE} (h:qb8 e=true):(qck e).length≤29:=by
 have hb:=qgi h;have h1:=qax e.es (by omega);have h2:=qax e.ea (by omega);have h3:=qax e.ec (by omega);simp[qck];omega
theorem qic (l:List DE) (hl:l.length≤1048576):CV prog 233 [.lst 3 (l.map DE.row)] (.str (qcl l)):=by
 obtain⟨R,hR⟩:∃ R,qcl l=R:=⟨_,rfl⟩;rw[hR];unfold qcl at hR;have c1:=qfC l hl;refine cvx func233 [(7,[zI 0,zI 1,zI 2,zI 3,zI 4,zI 5,zI 9,zI 10,zI 11,zI 12,zI 13,zI 17,zI 18,zI 19,zI 20,zI 21,zI 6,zI 7,zI 8,zI 14,zI 15,zI 16,zI 22,zI 23,zI 24])] ntmps233 rfl rfl rfl ?_ (hca:=by simp[DE.row]);simp;refine qaQ (X:=Nat×List UInt8) [0,2,3,4] [] (fun x=>[(3,.str x.2),(4,.int .i64 x.1)]) (fun _=>[]) (fun x=>l.length-x.1) (fun x=>x.1≤l.length∧x.2.length≤30 * x.1∧(if qal l=true then x.2++qcU (l.drop x.1) (decide (x.1=0)) else [])=R∧(qal l=false→x.2=[])) (0,[]) (by simp[← hR]) ?_
 rintro⟨i,t⟩ ⟨hi,hl2,hd,hz⟩;simp only at hi hl2 hd hz;cases hok:qal l with
 | false =>
  rw[hok]at c1;rw[if_neg (by simp[hok])]at hd;simp;refine c1.call ?_;simp[hz hok,← hd]
 | true =>
  rw[if_pos hok]at hd;rw[hok]at c1;cases hr:l.drop i with
  | nil =>
   have:=qa0 hr;rw[hr]at hd;have hie:i=l.length:=by omega
   subst hie;simp only[qcU,qGx]at hd;simp;refine c1.call ?_;simp[hd]
  | cons e q =>
   obtain⟨k1,e0,e1,k3⟩:=qa1 hr;rw[hr]at hd;have hde:=qg8 hok e (qGk e1);have hb:=qgi hde;have hli:(i:Int)<l.length:=by omega
   have e2:=qak ((i:Int)+1) (by omega) (by omega);have d1:=qia e.es (by omega) (by omega);have d2:=qia e.ea (by omega) (by omega);have d3:=qia e.ec (by omega) (by omega);have l1:=qax e.es (by omega);have l2:=qax e.ea (by omega);have l3:=qax e.ec (by omega);have htl:=qgM hde;simp;refine c1.call ?_;by_cases h0:i=0
   ·subst h0;simp only[qcU,decide_true,if_true,qE5]at hd;simp[k1,e0,e1,hli,DE.row];refine d1.call ?_;simp;refine⟨by omega,by omega,?_⟩;refine d2.call ?_;simp;refine⟨by omega,by omega,?_⟩;refine d3.call ?_;simp[e2];refine⟨by omega,nx (1,t++qck e) [] ⟨by simp only;omega,by simp only[qFI];omega,by simpa [k3]using hd⟩ (by simp only;omega) (h4:=by simp[qck])⟩
   ·have h0':(0:Int)<i:=by omega
    have hdf:decide (i=0)=false:=by simpa using h0
    rw[hdf]at hd;simp only[qcU,qEq,if_false]at hd;simp[k1,e0,e1,hli,DE.row,h0',h0];intro _;refine⟨by omega,?_⟩;refine d1.call ?_;simp;refine⟨by omega,by omega,?_⟩;refine d2.call ?_;simp;refine⟨by omega,by omega,?_⟩;refine d3.call ?_;simp[e2];refine⟨by omega,nx (i+1,t++(32::qck e)) [] ⟨by simp only;omega,by simp only[qFI,qEN];omega,by simpa [k3]using hd⟩ (by simp only;omega) (h4:=by simp[qck,e2])⟩
def qdf:Nat→List DE→List (List UInt8)
 | 0,_=>[]
 | k+1,l=>if l=[] then [] else qcl (l.take 6)::qdf k (l.drop 6)
def qbQ (l:List DE):List (List UInt8):=qdf l.length l
theorem qe9:∀ (k:Nat) (l:List DE),(qdf k l).length≤k
 | 0,_=>by simp[qdf]
 | k+1,l=>by
  have:=qe9 k (l.drop 6);simp only[qdf];split <;> simp <;> omega
theorem qqh (l:List DE) (hl:l.length≤1000000):ACall prog 141 [.lst 3 (l.map DE.row)] [] (fun r L'=>r=.sl 900 0 (qbQ l).length∧L'=[(900,qaj (qbQ l))]):=by
 obtain⟨R,hR⟩:∃ R,qbQ l=R:=⟨_,rfl⟩;rw[hR];refine acx func141 [] ntmps141 rfl rfl rfl ?_;simp;refine qbl (X:=Nat×List (List UInt8)) [0,3,4] [(6,900)] (fun x=>[(3,.sl 900 0 x.2.length),(4,.int .i64 x.1)]) (fun x=>[(900,qaj x.2)]) (fun x=>l.length+6-x.1) (fun x=>x.1≤l.length+6∧x.2.length≤x.1∧∃ k,l.length-x.1≤k∧x.2++qdf k (l.drop x.1)=R) (0,[]) ⟨by simp,by simp,l.length,by simp,by simpa [qbQ]using hR⟩ ?_ (he:=by simp[qah,qaj]);rintro⟨i,out⟩ ⟨hi,hol,k,hk,hd⟩;simp only at hi hol hk hd;by_cases hlt:i<l.length
 ·obtain⟨m,rfl⟩:∃ m,k=m+1:=⟨k-1,by omega⟩;have hne:¬ l.drop i=[]:=fun e=>by have:=qa0 e;omega
  simp only[qdf,if_neg hne]at hd;have hli:(i:Int)<l.length:=by omega
  have e2:=qak ((i:Int)+6) (by omega) (by omega);have cd:=qic ((l.drop i).take 6) (by simp;omega);have hcl:∀ x∈((l.drop i).take 6).map DE.row,clL x=true:=qtH _;by_cases h6:l.length<i+6
  ·have h6':(l.length:Int)<i+6:=by omega
   have e4:((l.map DE.row).drop i).take (l.length-i)=((l.drop i).take 6).map DE.row:=by
    rw[qtt,qEK (l:=l.drop i) (by simp;omega)]
   simp[qah,hli,e2,h6'];refine⟨by omega,?_⟩;rw[e4];refine cd.call ?_;simp[e2,qaj];refine⟨by omega,nx (i+6,out++[qcl ((l.drop i).take 6)]) [(28,900)] ⟨by simp only;omega,by simp;omega,m,by simp only;omega,by simp only[qEF]at hd ⊢;simpa using hd⟩ (by simp only;omega) (h4:=by simp[qah,e2,qaj,qae,qam])⟩
  ·have h6':¬ (l.length:Int)<i+6:=by omega
   have e4:((l.map DE.row).drop i).take 6=((l.drop i).take 6).map DE.row:=by
    rw[← qGr,← qGs]
   simp[qah,hli,e2,h6'];refine⟨by omega,?_⟩;rw[show((i:Int)+6).toNat-i=6 by omega,e4];refine cd.call ?_;simp[e2,qaj];refine⟨by omega,nx (i+6,out++[qcl ((l.drop i).take 6)]) [(28,900)] ⟨by simp only;omega,by simp;omega,m,by simp only;omega,by simp only[qEF]at hd ⊢;simpa using hd⟩ (by simp only;omega) (h4:=by simp[qah,e2,qaj,qae,qam])⟩
 ·have hz:l.drop i=[]:=qEE (by omega);have hp:qdf k (l.drop i)=[]:=by rw[hz];cases k <;> simp[qdf]
  rw[hp,qGx]at hd;have hli:¬ (i:Int)<l.length:=by omega
  simp[hli,← hd]
theorem qvU (l:List DE) (hl:l.length≤1000000):CV prog 141 [.lst 3 (l.map DE.row)] (.lst 1 ((qbQ l).map qae)):=by
 refine CV.of_frz (qqh l hl) ?_ (hca:=by simp[DE.row]) (hcv:=by simp[qae]);rintro r L' ⟨rfl,rfl⟩;refine⟨by simp,by simp,by simp[clR,qaj,qae],?_⟩;simp[qbj,qaj,qam]
theorem qov (s:CS) (h8:s.map.length=8):s.row[30]?=some (.bool s.dirty):=by
 have hl:(s.map.flatMap PT.row).length=24:=by
  rw[qHf];exact qpZ h8
 show(.str s.name::.int .i64 s.kind::.str s.frm::(s.map.flatMap PT.row++(s.home.row++[.bool s.dirty])))[30]?=_;simp only[qEO];rw[qES (by omega),hl];rfl
def qb3 (l:List CS):Nat:=l.countP CS.dirty
def qcC (c:CO):Nat:=1+qb3 c.sets+if c.dirty=true then (qbQ c.ddt).length else 0
theorem qvW (c:CO) (h:CoT c) (hm:CoM c):CV prog 62 [.agg c.row] (.int .i64 (qcC c:Nat)):=by
 obtain⟨R,hR⟩:∃ R,qcC c=R:=⟨_,rfl⟩;rw[hR];unfold qcC at hR;have h1:=hm.sets;have h2:=hm.ddt;have c1:=qvU c.ddt (by omega);have hpl:(qbQ c.ddt).length≤c.ddt.length:=qe9 _ _;refine cvx func62 [] ntmps62 rfl rfl rfl ?_ (hca:=by simp[qde]);simp[CO.row];refine qaQ (X:=Nat×Nat) [1,2,3,4] [(1,1)] (fun x=>[(3,.int .i64 (x.2:Int)),(4,.int .i64 x.1)]) (fun _=>[]) (fun x=>c.sets.length-x.1) (fun x=>x.1≤c.sets.length∧x.2≤1+x.1∧x.2+qb3 (c.sets.drop x.1)+(if c.dirty=true then (qbQ c.ddt).length else 0)=R) (0,1) ⟨by simp,by simp,by simpa using hR⟩ ?_ (he:=by simp[qah])
 rintro⟨i,m⟩ ⟨hi,hml,hd⟩;simp only at hi hml hd;cases hr:c.sets.drop i with
 | nil =>
  have:=qa0 hr;rw[hr]at hd;have hie:i=c.sets.length:=by omega
  subst hie;simp only[qb3,qHg,qFr]at hd;simp[qah];cases hc:c.dirty with
  | false =>
   rw[hc]at hd;simp[← hd]
  | true =>
   rw[hc,if_pos rfl]at hd;have e2:=qak ((m:Int)+((qbQ c.ddt).length:Int)) (by omega) (by omega);simp;refine c1.call ?_;simp[e2,← hd]
 | cons x q =>
  obtain⟨k1,e0,e1,k3⟩:=qa1 hr;rw[hr]at hd;have h8:=h.m8 x (qGk e1);have hli:(i:Int)<c.sets.length:=by omega
  have e2:=qak ((i:Int)+1) (by omega) (by omega);have e3:=qak ((m:Int)+1) (by omega) (by omega);have hx30:=qov x h8;have hx30':=(qE1.1 hx30).2;simp only[qb3,qGL]at hd;simp[qah,k1,e0,e1,hli,qaY x h8,hx30,hx30',e2,e3];refine⟨fun q1=>?_,fun q1=>?_⟩
  ·rw[if_pos q1]at hd;exact nx (i+1,m+1) [(1,1)] ⟨by simp only;omega,by simp only;omega,by simp only[k3,qb3];rw[← hd];congr 1;omega⟩ (by simp only;omega) (h4:=by simp[qah,e2,e3])
  ·rw[if_neg (by simp[q1])]at hd;exact nx (i+1,m) [(1,1)] ⟨by simp only;omega,by simp only;omega,by simp only[k3,qb3];rw[← hd];rfl⟩ (by simp only;omega) (h4:=by simp[qah,e2,e3])
mutual
theorem qo8 (id:Nat) (o:Ob):∀ (av:AV),clA av=true→frz id o av=av
 | .top,_=>by simp[frz]
 | .int _ _,_=>by simp[frz]
 | .bool _,_=>by simp[frz]
 | .str _,_=>by simp[frz]
 | .nilp,_=>by simp[frz]
 | .nils,_=>by simp[frz]
 | .nili,_=>by simp[frz]
 | .ifc,_=>by simp[frz]
 | .anyb,_=>by simp[frz]
 | .lst _ _,_=>by simp[frz]
 | .elm _,_=>by simp[frz]
 | .ptr _ _ _,h=>by simp[clA]at h
 | .sl _ _ _,h=>by simp[clA]at h
 | .bsl _ _ _ _ _,h=>by simp[clA]at h
 | .slc _ _ _ _,h=>by simp[clA]at h
 | .agg cs,h=>by simp only[clA]at h;simp[frz,qdB id o cs h]
 | .tup cs,h=>by simp only[clA]at h;simp[frz,qdB id o cs h]
 | .fn f cs,h=>by simp only[clA]at h;simp[frz,qdB id o cs h]
theorem qdB (id:Nat) (o:Ob):∀ (l:List AV),clL l=true→qlP id o l=l
 | [],_=>rfl
 | a::r,h=>by
  simp only[clL,Bool.and_eq_true]at h;simp[qlP,qo8 id o a h.1,qdB id o r h.2]
end
theorem qdA (id:Nat) (o x:Ob) (h:clR x.els=true):qkY id o x=x:=by
 have:x.els.map (qlP id o)=x.els:=by
  conv=>rhs;rw[← qGf x.els]
  exact qE6 fun r hr=>qdB id o r (qEI.1 h r hr)
 unfold qkY;rw[this]
@[simp] theorem qCT (id:Nat) (o:Ob) (l:List DE):qkY id o (qaH l)=qaH l:=qdA id o _ (qbw l)
@[simp] theorem qBC (id:Nat) (o:Ob) (l:List CS):qkY id o (kcs l)=kcs l:=qdA id o _ (qaX l)
@[simp] theorem qBA (id:Nat) (o:Ob) (l:List PT):qkY id o (kpt l)=kpt l:=qdA id o _ (qbi l)
@[simp] theorem qBB (id:Nat) (o:Ob) (l:List Int):qkY id o (kin l)=kin l:=qdA id o _ (qaM l)
def qd5 (d:DK) (fr:List Int) (txg:Int) (ok:Bool):Ob:=⟨6,[[.lst 1 (d.s0.map qae),.lst 1 (d.s1.map qae),.lst 3 (d.late.map LT.row),.lst 1 (fr.map qaf),.int .i64 txg,.bool ok]]⟩
@[simp] theorem qzp (ρ:Nat→Option Plc) (d:DK) (fr:List Int) (txg:Int) (ok:Bool):qbG ρ (qd5 d fr txg ok)=qd5 d fr txg ok:=by simp[qd5,qbG]
theorem qgS (d:DK) (fr:List Int) (txg:Int) (ok:Bool):clR (qd5 d fr txg ok).els=true:=by simp[clR,qd5,qae,LT.row,qaf]
theorem qsA (d:DK) (h:DkT d) (a:Int) (fr:List Int) (txg:Int) (ok:Bool) (text:List UInt8) (ht:text.length≤1048576) :
  ACall prog 277 [.ptr 1000 0 0,.str text] [(1000,qd5 d (a::fr) txg ok)]
   (fun r L'=>r=.agg (qbL a text txg).row∧L'=[(1000,qd5 (qav d a text).1 fr txg (ok && (qav d a text).2))]):=by
 have c1:=qgx d h a text ht;have c2:=qqt a text txg (by simp[maxLen];omega);obtain⟨R,hR⟩:∃ R,qav d a text=R:=⟨_,rfl⟩;rw[hR]at c1 ⊢;simp only[DK.row]at c1;cases ok
 all_goals
  refine acx func277 [] ntmps277 rfl rfl rfl ?_;simp[qd5,qaf];refine c1.call ?_;simp;refine c2.call ?_;simp[PT.row];exact qam qaf fr
structure RS where
 d:DK
 fr:List Int
 ok:Bool
deriving DecidableEq,Inhabited
def qbY (txg:Int) (r:RS) (text:List UInt8):PT×RS:=(qbL (r.fr.headD 0) text txg,⟨(qav r.d (r.fr.headD 0) text).1,r.fr.tail,r.ok && (qav r.d (r.fr.headD 0) text).2⟩)
def qbX (txg:Int):List CS→RS→List CS×RS
 | [],r=>([],r)
 | s::q,r=>if s.dirty=true then (⟨s.name,s.kind,s.frm,s.map,(qbY txg r (qbh s.map)).1,false⟩::(qbX txg q (qbY txg r (qbh s.map)).2).1,(qbX txg q (qbY txg r (qbh s.map)).2).2)
   else (s::(qbX txg q r).1,(qbX txg q r).2)
def qcS (txg:Int):List (List UInt8)→RS→List PT×RS
 | [],r=>([],r)
 | t::q,r=>((qbY txg r t).1::(qcS txg q (qbY txg r t).2).1,(qcS txg q (qbY txg r t).2).2)
def qao (d:DK) (c:CO):RS×CO×PT :=
 let x:=qbX (c.txg+1) c.sets ⟨d,qaW c d.s0.length,true⟩
 let y:=if c.dirty=true then qcS (c.txg+1) (qbQ c.ddt) x.2 else (c.parts,x.2)
 let c2:CO:=⟨c.txg,x.1,c.ddt,y.1,false,c.safe,c.logn⟩
 let z:=qbY (c.txg+1) y.2 (qaA c2)
 (z.2,c2,z.1)
theorem qb2 {d:DK} (h:qbu d=true) (a:Int) (t:List UInt8):qbu (qav d a t).1=true∧(qav d a t).1.s0.length=d.s0.length:=by
 have key:∀ (d:DK) (side:Int),qbu d=true→qbu (qaV d side a t).1=true∧(qaV d side a t).1.s0.length=d.s0.length∧(qaV d side a t).1.late.length≤d.late.length+1:=fun d side h=>by
  obtain⟨g1,g2,g3,g4,g5,g6,g7⟩:=qbO h;unfold qaV;rw[if_neg (by simp[h])];split
  ·exact⟨h,rfl,by simp⟩
  ·rename_i hn;simp only[not_or]at hn;refine⟨?_,rfl,by simp⟩;simp only[qbu,Bool.and_eq_true,decide_eq_true_eq,qEI];refine⟨⟨⟨⟨⟨⟨g1,g2⟩,g3⟩,by simp;omega⟩,g5⟩,g6⟩,fun w hw=>?_⟩;rcases qFV.1 hw with hw | hw
   ·exact g7 w hw
   ·simp only[qFT,qF2,or_false]at hw;subst hw;show qa6 d side a t=true;simpa using hn.1
 unfold qav;rw[if_neg (by simp[h])];split
 ·exact⟨h,rfl⟩
 ·have k1:=key d 0 h;split
  ·exact⟨k1.1,k1.2.1⟩
  ·have k2:=key (qaV d 0 a t).1 1 k1.1;exact⟨k2.1,by rw[k2.2.1,k1.2.1]⟩
theorem qfS (txg:Int):∀ (l:List CS) (r:RS),(qbX txg l r).1.length=l.length
 | [],r=>rfl
 | s::q,r=>by
  simp only[qbX];split <;> simp[qfS txg q]
theorem qiu (m:List PT) (h8:m.length=8):(qbh m).length≤1000:=by
 have key:∀ (l:List PT) (b:Bool) (t:List UInt8),qcw l b=some t→t.length≤30 * l.length:=fun l=>by
  induction l with
  | nil=>intro b t h;simp only[qcw,qEi]at h;subst h;simp
  | cons p r ih =>
   intro b t h;simp only[qcw]at h;split at h
   ·cases h
   ·cases hr:qcw r false with
    | none=>rw[hr]at h;cases h
    | some u =>
     rw[hr]at h;simp only[qEp,qEi]at h;have:=ih false u hr;have hp:=qbq p;rw[← h];split <;> simp <;> omega
 unfold qbh;cases h:qcw m true with
 | none=>simp
 | some t=>have:=key m true t h;simp;omega
theorem qhE (ρ:Nat→Option Plc) (s:CS):qci ρ s.row=s.row:=renL_closed.renL_closedL ρ _ (qa5 s)
theorem qC9 (s:CS) (h8:s.map.length=8):List.take 27 s.row=.str s.name::.int .i64 s.kind::.str s.frm::s.map.flatMap PT.row∧List.drop 30 s.row=[.bool s.dirty]:=by
 have hl:(s.map.flatMap PT.row).length=24:=by
  rw[qHf];exact qpZ h8
 have e:s.row=(.str s.name::.int .i64 s.kind::.str s.frm::s.map.flatMap PT.row)++(s.home.row++[.bool s.dirty]):=by simp[CS.row]
 have hh:s.home.row.length=3:=rfl;constructor
 ·rw[e];exact qHh (by simp[hl])
 ·rw[e,← List.append_assoc];exact List.drop_left' (by simp[hl])
theorem quM (s:CS) (h8:s.map.length=8) (p:PT):List.take 30 (List.take 27 s.row++.int .i64 p.pa::.int .i64 p.ps::.int .i64 p.pb::List.drop 30 s.row) ++
  .bool false::List.drop 31 (List.take 27 s.row++.int .i64 p.pa::.int .i64 p.ps::.int .i64 p.pb::List.drop 30 s.row)=CS.row ⟨s.name,s.kind,s.frm,s.map,p,false⟩:=by
 have hl:(s.map.flatMap PT.row).length=24:=by
  rw[qHf];exact qpZ h8
 obtain⟨h1,h2⟩:=qC9 s h8;rw[h1,h2];have e:(.str s.name::.int .i64 s.kind::.str s.frm::s.map.flatMap PT.row)++(.int .i64 p.pa::.int .i64 p.ps::.int .i64 p.pb::[AV.bool s.dirty])=((.str s.name::.int .i64 s.kind::.str s.frm::s.map.flatMap PT.row)++[.int .i64 p.pa,.int .i64 p.ps,.int .i64 p.pb])++[.bool s.dirty]:=by simp
 rw[e,qHh (by simp[hl]),qEE (by simp[hl])];simp[CS.row]
def zCO:List AV:=[.int .i64 0,.nils,.nils,.nils,.bool false,.nils,.int .i64 0]
@[simp] theorem qA7 (ρ:Nat→Option Plc):qci ρ zCO=zCO:=by simp[zCO]
def blS (c:CO) (d:DK) (fr:List Int):S :=
 ⟨mkT [(3,.ptr 3 0 0),(5,.ptr 5 0 0),(6,.ptr 6 0 0),(7,.ptr 25 0 0),(8,.int .i64 0)],
  qaP [(3,⟨7,[[.int .i64 c.txg,.sl 8 0 c.sets.length,.sl 12 0 c.ddt.length,.sl 17 0 c.parts.length,.bool c.dirty,.sl 22 0 c.safe.length,.int .i64 c.logn]]⟩),(5,⟨7,[zCO]⟩),(6,⟨3,[[.int .i64 0,.int .i64 0,.int .i64 0]]⟩),
   (8,kcs c.sets),(12,qaH c.ddt),(17,kpt c.parts),(22,kin c.safe),(25,qd5 d fr (c.txg+1) true)],Us.of [3,5,6,8,12,17,22,25]⟩
theorem qd3 (txg:Int):∀ (l:List CS) (r:RS),∀ s∈(qbX txg l r).1,∃ t∈l,s.map=t.map∧s.name=t.name∧s.frm=t.frm∧s.kind=t.kind
 | [],r,s,hs=>by simp[qbX]at hs
 | t::q,r,s,hs=>by
  simp only[qbX]at hs;split at hs
  ·rcases qFT.1 hs with rfl | hs
   ·exact⟨t,by simp,rfl,rfl,rfl,rfl⟩
   ·obtain⟨u,hu,h⟩:=qd3 txg q _ s hs;exact⟨u,by simp[hu],h⟩
  ·rcases qFT.1 hs with rfl | hs
   ·exact⟨s,by simp,rfl,rfl,rfl,rfl⟩
   ·obtain⟨u,hu,h⟩:=qd3 txg q _ s hs;exact⟨u,by simp[hu],h⟩
theorem qdK (c:CO):(qaA c).length≤4+64 * c.sets.length+64 * c.parts.length:=by
 have k1:∀ (l:List CS) (t:List UInt8),qbE l=some t→t.length≤64 * l.length:=fun l=>by
  induction l with
  | nil=>intro t h;simp only[qbE,qEi]at h;subst h;simp
  | cons s r ih =>
   intro t h;simp only[qbE]at h;split at h
   ·cases h
   ·rename_i hs;cases hr:qbE r with
    | none=>rw[hr]at h;cases h
    | some u =>
     rw[hr]at h;simp only[qEp,qEi]at h;have:=ih u hr;have hp:=qfD (s:=s) (by simpa using hs);rw[← h];simp;omega
 have k2:∀ (l:List PT) (t:List UInt8),qa2 l=some t→t.length≤64 * l.length:=fun l=>by
  induction l with
  | nil=>intro t h;simp only[qa2,qEi]at h;subst h;simp
  | cons p r ih =>
   intro t h;simp only[qa2]at h;split at h
   ·cases h
   ·cases hr:qa2 r with
    | none=>rw[hr]at h;cases h
    | some u =>
     rw[hr]at h;simp only[qEp,qEi]at h;have:=ih u hr;have hp:=qbq p;rw[← h];simp;omega
 unfold qaA;cases h1:qbE c.sets with
 | none=>simp
 | some t =>
  cases h2:qa2 c.parts with
  | none=>simp
  | some u =>
   have:=k1 _ _ h1;have:=k2 _ _ h2;simp;omega
theorem qgO (l:List DE):(qcl l).length≤30 * l.length:=by
 have key:∀ (l:List DE) (b:Bool),(∀ e∈l,qb8 e=true)→(qcU l b).length≤30 * l.length:=fun l=>by
  induction l with
  | nil=>intro b h;simp[qcU]
  | cons e r ih =>
   intro b h;have h1:=ih false fun x hx=>h x (by simp[hx]);have h2:=qgM (h e (by simp));simp only[qcU];split <;> simp <;> omega
 unfold qcl;split
 ·rename_i h;exact key l true (qg8 h)
 ·simp
theorem qjx:∀ (k:Nat) (l:List DE),∀ t∈qdf k l,t.length≤180
 | 0,l,t,h=>by simp[qdf]at h
 | k+1,l,t,h=>by
  simp only[qdf]at h;split at h
  ·simp at h
  ·rcases qFT.1 h with rfl | h
   ·have:=qgO (l.take 6);simp at this;omega
   ·exact qjx k _ t h
def qDe (c:CO) (cur:List CS) (rs:RS):S :=
 ⟨mkT [(3,.ptr 3 0 0),(5,.ptr 5 0 0),(6,.ptr 6 0 0),(7,.ptr 25 0 0),(9,.lst 1 ((qbQ c.ddt).map qae)),(10,.int .i64 0)],
  qaP [(3,⟨7,[[.int .i64 c.txg,.sl 8 0 c.sets.length,.sl 12 0 c.ddt.length,.sl 900 0 0,.bool c.dirty,.sl 22 0 c.safe.length,.int .i64 c.logn]]⟩),(5,⟨7,[zCO]⟩),(6,⟨3,[[.int .i64 0,.int .i64 0,.int .i64 0]]⟩),
   (8,kcs cur),(12,qaH c.ddt),(22,kin c.safe),(25,qd5 rs.d rs.fr (c.txg+1) rs.ok),(900,kpt [])],Us.of [3,5,6,8,12,22,25,900]⟩
@[simp] theorem qBz (id:Nat) (o:Ob) (d:DK) (fr:List Int) (txg:Int) (ok:Bool):qkY id o (qd5 d fr txg ok)=qd5 d fr txg ok:=qdA id o _ (qgS d fr txg ok)
theorem qk7 {α:Type} {l:List α} {i:Nat} {x:α} (h:i<l.length):(l.set i x).take (i+1)=l.take i++[x]:=by
 rw[qGg,qGc h,qHi (by omega)];rfl
theorem qsC (d:DK) (hd:qbu d=true) (c:CO) (h:CoT c) (hm:CoM c) (hf:qcC c≤(qaW c d.s0.length).length) (ht:-1000000≤c.txg∧c.txg≤10000000) :
  ACall prog 210 [.agg d.row,.agg c.row] [] (fun r L'=>∃ p,(p=17∨p=900)∧r=.tup [.ptr 25 0 0,qcy (qao d c).2.1 8 12 p 22,.agg (qao d c).2.2.row] ∧
   L'=[(8,kcs (qao d c).2.1.sets),(12,qaH c.ddt),(p,kpt (qao d c).2.1.parts),(22,kin c.safe),(25,qd5 (qao d c).1.d (qao d c).1.fr (c.txg+1) (qao d c).1.ok)]):=by
 have h1:=hm.sets;have h2:=hm.ddt;have h3:=hm.parts;have hl:=qbO hd;have ck:=qmz c h;have cf:=qqm c h d.s0.length (by omega);have e1:=qak (c.txg+1) (by omega) (by omega);refine acx func210 [(2,[zJ 0 [2] [],zJ 1 [3] [2],zJ 2 [] [2,3],zJ 3 [] [2,3],zJ 4 [2] [2,3],zJ 5 [] [2,3],zJ 7 [] [2,3],zJ 8 [3] [2,3],zJ 9 [] [2,3],zJ 6 [] [2,3],zI 10,zI 11,zI 12]),(7,[zI 0,zJ 1 [3] [],zJ 2 [] [3],zJ 3 [] [3],zJ 4 [] [3],zJ 5 [3] [3],zJ 6 [] [3],zJ 7 [8] [3],zJ 8 [] [3],zJ 9 [8] [3],zJ 10 [] [3],zJ 11 [] [3],zJ 12 [8] [],zI 13,zI 14]),(15,[zI 0,zJ 1 [3] [],zJ 2 [] [3],zJ 3 [] [3],zJ 4 [] [3],zJ 5 [] [3],zJ 6 [] [3],zJ 7 [] [3],zJ 8 [] [3],zI 9,zI 10,zI 11]),(18,[zI 0,zJ 1 [3] [],zJ 2 [11] [3],zJ 3 [] [3,11],zJ 4 [] [11],zI 5])] ntmps210 rfl rfl rfl ?_;simp[CO.row,DK.row];simp only[CO.row]at ck cf;refine qac [] (by kernel_rfl) ck (by simp) (by simpa [CO.row]using qde c) trivial (by simp) (by simp) ?_;rintro r L' ⟨rfl,rfl⟩;refine⟨[(8,8),(12,12),(17,17),(22,22)],⟨by simp,by simp,by simp,by simp,by simp⟩,?_⟩;simp only[qad];simp[qcy,CO.row,DK.row];refine qaO [] (by kernel_rfl) cf (by simp[qb1,mtA,kcs,qaH,kpt,kin,qam,qa5]) (by simp) trivial (by simp) (by simp) ?_;rintro r L' ⟨rfl,rfl⟩;refine⟨by simp,by simp[kin,qaf],[(900,20)],⟨by simp,by simp,by simp,by simp,by simp⟩,?_⟩;simp only[qad];simp[e1];refine qeX (s':=blS c d (qaW c d.s0.length)) (qyK 20 (o:=kin (qaW c d.s0.length)) (by simp) (by simpa [clR]using qaM _) (by simp) (by simp) [3,5,6,7,8] [(3,3),(5,5),(6,6),(8,8),(12,12),(17,17),(22,22),(25,25)] (by simp[qag]) (by simp[-qkY,qat,qah,blS];simp[qkY,qd5,zCO,kin,qam])) ?_;simp only[blS];have hX:∃ X,qbX (c.txg+1) c.sets ⟨d,qaW c d.s0.length,true⟩=X:=⟨_,rfl⟩;obtain⟨X,hX⟩:=hX;refine qaQ (X:=Nat×List CS×RS) [3,5,6,7,8] [(3,3),(5,5),(6,6),(8,8),(12,12),(17,17),(22,22),(25,25)] (fun x=>[(8,.int .i64 x.1)]) (fun x=>[(8,kcs x.2.1),(25,qd5 x.2.2.d x.2.2.fr (c.txg+1) x.2.2.ok)]) (fun x=>c.sets.length-x.1)
  (fun x=>x.1≤c.sets.length∧x.2.1.length=c.sets.length∧x.2.1.drop x.1=c.sets.drop x.1∧qbu x.2.2.d=true∧qb3 (c.sets.drop x.1)+(1+if c.dirty=true then (qbQ c.ddt).length else 0)≤x.2.2.fr.length ∧
   (x.2.1.take x.1++(qbX (c.txg+1) (c.sets.drop x.1) x.2.2).1,(qbX (c.txg+1) (c.sets.drop x.1) x.2.2).2)=X) (0,c.sets,⟨d,qaW c d.s0.length,true⟩) ⟨by simp,rfl,rfl,hd,by simp only[List.drop_zero];unfold qcC at hf;omega,by simpa using hX⟩ ?_ (he:=by simp[qah,qd5])
 rintro⟨i,cur,rs⟩ ⟨hi,hcl,hcd,hok,hfr,hX2⟩;simp only at hi hcl hcd hok hfr hX2;cases hr:c.sets.drop i with
 | nil =>
  have:=qa0 hr;rw[hr]at hX2 hfr;have hie:i=c.sets.length:=by omega
  subst hie;rw[qEK (by omega)]at hX2;simp only[qbX,qGx]at hX2;simp[qah,hcl];subst hX2;have hm8:∀ s∈cur,s.map.length=8∧s.name.length≤1048576∧s.frm.length≤1048576:=fun s hs=>by
   have hq:=qd3 (c.txg+1) c.sets ⟨d,qaW c d.s0.length,true⟩ s (by rw[hX];exact hs);obtain⟨t,ht,e1,e2,e3,_⟩:=hq;rw[e1,e2,e3];exact⟨h.m8 t ht,h.nm t ht⟩
  refine⟨fun hdt=>?_,fun hdt=>?_⟩
  ·have co:=qqh c.ddt (by omega);refine qaO [] (by kernel_rfl) co (by simp[qb1,mtA,qaH,qam]) (by simp) trivial (by simp) (by simp) ?_;rintro r L' ⟨rfl,rfl⟩;refine⟨by simp,by simp[qaj,qae],[(900,62)],⟨by simp,by simp,by simp,by simp,by simp⟩,?_⟩;simp only[qad];simp;refine qeX (s':=qDe c cur rs) ((qeH 900 3 (by simp)).trans ((qdp 3 3 (sz:=7) (row:=[.int .i64 c.txg,.sl 8 0 c.sets.length,.sl 12 0 c.ddt.length,.nils,.bool c.dirty,.sl 22 0 c.safe.length,.int .i64 c.logn]) (by simp) (by simp) (qcH 900 0)).trans
    (qyK 62 (o:=qaj (qbQ c.ddt)) (by simp) (by simp[qaj,qae]) (by simp) (by simp) [3,5,6,7,9,10] [(3,3),(5,5),(6,6),(8,8),(12,12),(22,22),(25,25),(900,900)] (by simp[qag]) (by simp[-qkY,qat,qah,qDe];simp[qkY,qaj,qam,zCO,kpt])))) ?_
   simp only[qDe];obtain⟨T,hT0⟩:∃ T,qbQ c.ddt=T:=⟨_,rfl⟩;have hTl:T.length≤1000:=by rw[← hT0];have:(qbQ c.ddt).length≤c.ddt.length:=qe9 _ _;omega
   obtain⟨Y,hY⟩:∃ Y,qcS (c.txg+1) T rs=Y:=⟨_,rfl⟩;rw[hdt,hT0]at hfr;simp only[qb3,qHg,if_true]at hfr;have hTt:∀ t∈T,t.length≤1048576:=fun t ht=>by
    rw[← hT0]at ht;have:=qjx c.ddt.length c.ddt t ht;omega
   rw[hT0];refine qaQ (X:=Nat×List PT×RS) [3,5,6,7,9,10] [(3,3),(5,5),(6,6),(8,8),(12,12),(22,22),(25,25),(900,900)] (fun x=>[(10,.int .i64 x.1)])
    (fun x=>[(3,⟨7,[[.int .i64 c.txg,.sl 8 0 c.sets.length,.sl 12 0 c.ddt.length,.sl 900 0 x.2.1.length,.bool c.dirty,.sl 22 0 c.safe.length,.int .i64 c.logn]]⟩),(25,qd5 x.2.2.d x.2.2.fr (c.txg+1) x.2.2.ok),(900,kpt x.2.1)]) (fun x=>T.length-x.1)
    (fun x=>x.1≤T.length∧x.2.1.length=x.1∧qbu x.2.2.d=true∧(T.length-x.1)+1≤x.2.2.fr.length∧(x.2.1++(qcS (c.txg+1) (T.drop x.1) x.2.2).1,(qcS (c.txg+1) (T.drop x.1) x.2.2).2)=Y) (0,[],rs) ⟨by simp,rfl,hok,by simp only;omega,by simpa using hY⟩ ?_ (he:=by simp[qah])
   rintro⟨i,ps,rs'⟩ ⟨hi,hpl,hok',hfr',hY2⟩;simp only at hi hpl hok' hfr' hY2;cases hr2:T.drop i with
   | nil =>
    have:=qa0 hr2;rw[hr2]at hY2;have hie:i=T.length:=by omega
    simp only[qcS,qGx]at hY2;subst hie;subst hY2;obtain⟨a,fr,hfe⟩:∃ a fr,rs'.fr=a::fr:=by
     cases hh:rs'.fr with
     | nil=>rw[hh]at hfr';simp at hfr'
     | cons a fr=>exact⟨a,fr,rfl⟩
    obtain⟨rd,rf,rok⟩:=rs';simp only at hfe hok' hfr' hY;subst hfe;obtain⟨c2,hc2⟩:∃ c2:CO,c2=⟨c.txg,cur,c.ddt,ps,false,c.safe,c.logn⟩:=⟨_,rfl⟩;have hT:CoT c2:=by
     subst hc2;exact⟨by simp only;omega,h.ddt,by simp only;omega,h.safe,fun s hs=>(hm8 s hs).1,fun s hs=>(hm8 s hs).2⟩
    have cr:=qqe c2 hT;have hrl:(qaA c2).length≤1048576:=by
     have:=qdK c2;have k1:c2.sets.length≤1000:=by subst hc2;simp only;omega
     have k2:c2.parts.length≤1000:=by subst hc2;simp only;omega
     omega
    have cp:=qsA rd (qec hok') a fr (c.txg+1) rok (qaA c2) hrl;have hb:qao d c=(⟨(qav rd a (qaA c2)).1,fr,rok && (qav rd a (qaA c2)).2⟩,c2,qbL a (qaA c2) (c.txg+1)):=by
     unfold qao;simp only[hX,hdt,if_true,hT0,hY,← hc2,qbY,qHj,qG4]
    have cr':=cr;simp only[CO.row]at cr';simp[qah];refine cr'.view (by simp[qb1,mtA,kcs,qaH,kpt,kin,qam,qa5,hc2,hdt,hcl];rw[← hcl];exact qam _ _) ?_;simp;refine qac [(1000,.whole 25)] (by kernel_rfl) cp (by simp) (by simp) (by simp;exact qaa rfl (qgS _ _ _ _)) (by simp) (by simp) ?_;rintro r L' ⟨rfl,rfl⟩;refine⟨[],⟨by simp,by simp,by simp,by simp,by simp⟩,?_⟩;simp only[qad];simp[PT.row];rw[hb];subst hc2;simp[hcl,hdt]
   | cons t q =>
    obtain⟨k1,e0,e1',k3⟩:=qa1 hr2;rw[hr2]at hY2;have hli:(i:Int)<T.length:=by omega
    have e2:=qak ((i:Int)+1) (by omega) (by omega);obtain⟨a,fr,hfe⟩:∃ a fr,rs'.fr=a::fr:=by
     cases hh:rs'.fr with
     | nil=>rw[hh]at hfr';simp at hfr'
     | cons a fr=>exact⟨a,fr,rfl⟩
    obtain⟨rd,rf,rok⟩:=rs';simp only at hfe hok' hfr' hY2;subst hfe;have cp:=qsA rd (qec hok') a fr (c.txg+1) rok t (hTt t (qGk e1'));have hbo:=qb2 hok' a t;simp only[qcS,qbY,qHj,qG4]at hY2;simp only[qEN]at hfr';simp[qah,hli,k1,e0,e1',qae];refine qac [(1000,.whole 25)] (by kernel_rfl) cp (by simp) (by simp) (by simp;exact qaa rfl (qgS _ _ _ _)) (by simp) (by simp) ?_;rintro r L' ⟨rfl,rfl⟩;refine⟨[],⟨by simp,by simp,by simp,by simp,by simp⟩,?_⟩;simp only[qad];simp[PT.row,kpt,hpl];refine⟨by omega,nx (i+1,ps++[qbL a t (c.txg+1)],⟨(qav rd a t).1,fr,rok && (qav rd a t).2⟩) [(3,3),(5,5),(6,6),(8,8),(12,12),(22,22),(25,25),(79,900)] ⟨by simp only;omega,by simp[hpl],hbo.1,by simp only;omega,by simp only[k3];rw[List.append_assoc];exact hY2⟩ (by simp only;omega) (h4:=?_)⟩;have htk:List.take i (ps.map PT.row)=ps.map PT.row:=qEK (by simp[hpl]);simp[qah,kpt,e2,hpl,PT.row,htk]
  ·rw[hdt]at hfr;simp only[qb3,qHg,qEq,if_false]at hfr;obtain⟨a,fr,hfe⟩:∃ a fr,rs.fr=a::fr:=by
    cases hh:rs.fr with
    | nil=>rw[hh]at hfr;simp at hfr
    | cons a fr=>exact⟨a,fr,rfl⟩
   obtain⟨rd,rf,rok⟩:=rs;simp only at hfe hok hX;subst hfe;obtain⟨c2,hc2⟩:∃ c2:CO,c2=⟨c.txg,cur,c.ddt,c.parts,false,c.safe,c.logn⟩:=⟨_,rfl⟩;have hT:CoT c2:=by
    subst hc2;exact⟨by simp only;omega,h.ddt,h.parts,h.safe,fun s hs=>(hm8 s hs).1,fun s hs=>(hm8 s hs).2⟩
   have cr:=qqe c2 hT;have hrl:(qaA c2).length≤1048576:=by
    have:=qdK c2;have k1:c2.sets.length≤1000:=by subst hc2;simp only;omega
    have k2:c2.parts.length≤1000:=by subst hc2;exact h3
    omega
   have cp:=qsA rd (qec hok) a fr (c.txg+1) rok (qaA c2) hrl;have hb:qao d c=(⟨(qav rd a (qaA c2)).1,fr,rok && (qav rd a (qaA c2)).2⟩,c2,qbL a (qaA c2) (c.txg+1)):=by
    unfold qao;simp only[hX,hdt,qEq,if_false,← hc2,qbY,qHj,qG4]
   have cr':=cr;simp only[CO.row]at cr';refine cr'.view (by simp[qb1,mtA,kcs,qaH,kpt,kin,qam,qa5,hc2,hdt,hcl];rw[← hcl];exact qam _ _) ?_;simp;refine qac [(1000,.whole 25)] (by kernel_rfl) cp (by simp) (by simp) (by simp;exact qaa rfl (qgS _ _ _ _)) (by simp) (by simp) ?_;rintro r L' ⟨rfl,rfl⟩;refine⟨[],⟨by simp,by simp,by simp,by simp,by simp⟩,?_⟩;simp only[qad];simp[PT.row];rw[hb];subst hc2;simp[hcl,hdt]
 | cons s q =>
  obtain⟨k1,e0,e1',k3⟩:=qa1 hr;rw[hr]at hX2 hfr hcd;obtain⟨m1,m0,m2,m3⟩:=qa1 hcd;have h8:=h.m8 s (qGk e1');have hli:(i:Int)<c.sets.length:=by omega
  have e2:=qak ((i:Int)+1) (by omega) (by omega);have hx30:=qov s h8;have hx30':=(qE1.1 hx30).2;simp[qah,hcl,k1,m1,m0,m2,hli,qaY s h8,hx30,hx30',e2,kcs];have c1:=qle s.map h8;have hml:=qiu s.map h8;refine⟨fun q1=>?_,fun q1=>?_⟩
  ·have hfr1:0<rs.fr.length:=by
    have:qb3 (s::q)=qb3 q+1:=by simp[qb3,qGL,q1]
    omega
   obtain⟨a,fr,hfe⟩:∃ a fr,rs.fr=a::fr:=by
    cases hh:rs.fr with
    | nil=>rw[hh]at hfr1;simp at hfr1
    | cons a fr=>exact⟨a,fr,rfl⟩
   obtain⟨rd,rf,rok⟩:=rs;simp only at hfe hok hfr hX2;subst hfe;have cp:=qsA rd (qec hok) a fr (c.txg+1) rok (qbh s.map) (by omega);have hbo:=qb2 hok a (qbh s.map);rw[qhR s h8];refine c1.call ?_;simp;refine qac [(1000,.whole 25)] (by kernel_rfl) cp (by simp) (by simp) (by simp;exact qaa rfl (qgS _ _ _ _)) (by simp) (by simp) ?_;rintro r L' ⟨rfl,rfl⟩;refine⟨[],⟨by simp,by simp,by simp,by simp,by simp⟩,?_⟩;simp only[qad];simp[hcl,k1,m1,m0,m2,hli,qaY s h8];have hdn:qb3 (s::q)=qb3 q+1:=by simp[qb3,qGL,q1]
   simp only[qbX,if_pos q1,qbY,qHj,qG4]at hX2;simp only[qEN]at hfr;refine nx (i+1,cur.set i ⟨s.name,s.kind,s.frm,s.map,qbL a (qbh s.map) (c.txg+1),false⟩,⟨(qav rd a (qbh s.map)).1,fr,rok && (qav rd a (qbh s.map)).2⟩) [(3,3),(5,5),(6,6),(8,8),(12,12),(17,17),(22,22),(25,25)]
    ⟨by simp only;omega,by simpa using hcl,by simp only;rw[qHk (by omega),m3,k3],hbo.1,by simp only[k3];omega,?_⟩ (by simp only;omega) (h4:=?_)
   ·simp only[k3];rw[qk7 m1,List.append_assoc];exact hX2
   ·simp[qah,kcs,qaY s h8,e2];rw[quM s h8,qhE]
  ·have hdn:qb3 (s::q)=qb3 q:=by simp[qb3,qGL,q1]
   simp only[qbX,q1,qEq,if_false]at hX2;exact nx (i+1,cur,rs) [(3,3),(5,5),(6,6),(8,8),(12,12),(17,17),(22,22),(25,25)] ⟨by simp only;omega,hcl,by simp only;rw[m3,k3],hok,by simp only[k3];omega,by simp only[k3];rw[qGg,m2];simpa using hX2⟩ (by simp only;omega) (h4:=by simp[qah,e2,kcs])
end Go.Av.F
end
section
namespace Go.Av
open Go Go.Proofs
variable {P:Program}
theorem ACall.frzP {f:Nat} {args:List AV} {R R':AV→List (Nat×Ob)→Prop} (h:ACall P f args [] R)
  (hr:∀ r L',R r L'→∃ A L2,L'=A++L2∧A.length≤20∧(L'.map (·.1)).Nodup∧(∀ x∈L',clR x.2.els=true)∧R' (qbj A r) L2):ACall P f args [] R':=by
 have key:∀ (n:Nat) (R:AV→List (Nat×Ob)→Prop),ACall P f args [] R →
   (∀ r L',R r L'→∃ A L2,L'=A++L2∧A.length≤n∧(L'.map (·.1)).Nodup∧(∀ x∈L',clR x.2.els=true)∧R' (qbj A r) L2)→ACall P f args [] R':=by
  intro n
  induction n with
  | zero =>
   intro R h hr;refine h.mono fun r L' hR=>?_;obtain⟨A,L2,rfl,hl,_,_,hv⟩:=hr r L' hR;have:A=[]:=qGe (by omega);subst this;exact hv
  | succ n ih =>
   intro R h hr;refine ih (fun r L'=>∃ A L2,L'=A++L2∧A.length≤n∧(L'.map (·.1)).Nodup∧(∀ x∈L',clR x.2.els=true)∧R' (qbj A r) L2) (h.frz1 fun r L' hR=>?_) fun r L' h=>h;obtain⟨A,L2,rfl,hl,hn,hc,hv⟩:=hr r L' hR;cases A with
   | nil=>exact .inl ⟨[],L2,rfl,by simp,hn,hc,hv⟩
   | cons x A2 =>
    obtain⟨id,o⟩:=x;simp only[qGj,qEV,qFS,qFT,qEN]at hn hc hl;exact .inr ⟨id,o,A2++L2,rfl,hn.1,hc _ (.inl rfl),fun x hx=>hc x (.inr hx),A2,L2,rfl,by omega,hn.2,fun x hx=>hc x (.inr hx),hv⟩
 exact key 20 R h hr
end Go.Av
namespace Go.Av.F
open Go Go.Av Go.Proofs Go.Proofs.Tryz
theorem qgW (txg:Int) (p:PT):(qa3 txg p).length≤70000:=by
 unfold qa3;split
 ·simp
 ·exact qqc _
def qhd (d:DK) (txg:Int) (p:PT):DK×Bool:=qav d (1+txg % 4) (qa3 txg p)
theorem qy2 (d:DK) (h:DkT d) (txg:Int) (p:PT) (ht:0≤txg∧txg≤10000000):CV prog 211 [.agg d.row,.int .i64 txg,.agg p.row] (.tup [.agg (qhd d txg p).1.row,.bool (qhd d txg p).2]):=by
 have c1:=que txg p;have hl:=qgW txg p;have c2:=qgx d h (1+txg % 4) (qa3 txg p) (by omega);unfold qhd;generalize qav d (1+txg % 4) (qa3 txg p)=R at *
 simp only[DK.row,PT.row]at c1 c2;have q2:txg.tmod 4=txg % 4:=qGY (by omega);have e1:=qak (txg % 4) (by omega) (by omega);have e2:=qak (1+txg % 4) (by omega) (by omega);refine cvx func211 [(1,[zJ 0 [3] [],zJ 1 [] [3],zJ 2 [] [3],zJ 3 [] [3],zJ 4 [] [3],zJ 5 [5] [3],zJ 6 [] [3],zI 7,zI 8,zI 9,zI 10,zI 11])] ntmps211 rfl rfl rfl ?_ (hca:=by simp[DK.row,PT.row]) (hcv:=by simp[DK.row]);simp[DK.row,PT.row,q2,e1,e2];refine c1.call ?_;simp;refine c2.call ?_;simp
def qc8 (d:DK) (c:CO):Bool:=decide (c.txg<1000000) && decide (qcC c≤(qaW c d.s0.length).length)
theorem qvY (d:DK) (hd:DkT d) (c:CO) (h:CoT c) (hm:CoM c):CV prog 116 [.agg d.row,.agg c.row] (.bool (qc8 d c)):=by
 have hl:=hd.l0;have c1:=quf c h d.s0.length (by omega);have c2:=qvW c h hm;unfold qc8;generalize qaW c d.s0.length=l at *
 generalize qcC c=n at *
 simp only[CO.row]at c1 c2;refine cvx func116 [(1,[zI 0,zJ 1 [3] [],zI 2,zI 3,zJ 4 [3] [],zJ 5 [] [3],zJ 6 [] [3],zJ 7 [2] [3],zJ 8 [] [3],zJ 11 [3] [3,2],zJ 9 [] [3],zJ 10 [] [3],zI 12,zI 13,zI 14,zI 15])] ntmps116 rfl rfl rfl ?_ (hca:=by simp[DK.row,qde]);simp[DK.row,CO.row];refine⟨fun q1=>?_,fun q1 q2=>by omega⟩;refine c1.call ?_;simp[CO.row];refine c2.call ?_;simp;simp[q1]
theorem qsD (d:DK) (hd:qbu d=true) (c:CO) (h:CoT c) (hm:CoM c) (hf:qcC c≤(qaW c d.s0.length).length) (ht:-1000000≤c.txg∧c.txg≤10000000) :
  ACall prog 210 [.agg d.row,.agg c.row] [] (fun r L'=>r=.tup [.ptr 25 0 0,.agg (qao d c).2.1.row,.agg (qao d c).2.2.row] ∧
   L'=[(25,qd5 (qao d c).1.d (qao d c).1.fr (c.txg+1) (qao d c).1.ok)]):=by
 have hdd:(qao d c).2.1.ddt=c.ddt∧(qao d c).2.1.safe=c.safe:=⟨rfl,rfl⟩;refine(qsC d hd c h hm hf ht).frzP ?_;rintro r L' ⟨p,hp,rfl,rfl⟩;generalize qao d c=B at *
 refine⟨[(8,kcs B.2.1.sets),(12,qaH c.ddt),(p,kpt B.2.1.parts),(22,kin c.safe)],[(25,qd5 B.1.d B.1.fr (c.txg+1) B.1.ok)],rfl,by simp,?_,?_,?_,rfl⟩
 ·rcases hp with rfl | rfl <;> simp
 ·intro x hx;simp only[qFT,qF2,or_false]at hx;rcases hx with rfl | rfl | rfl | rfl | rfl
  ·exact qaX _
  ·exact qbw _
  ·exact qbi _
  ·exact qaM _
  ·exact qgS _ _ _ _
 ·rcases hp with rfl | rfl
  all_goals simp[qbj,qcy,CO.row,kcs,kpt,kin,qaH,qam,hdd.1,hdd.2,PT.row]
end Go.Av.F
end
section
namespace Go.Av.F
open Go Go.Av Go.Proofs Go.Proofs.Tryz
theorem qlo (n m:Nat) (k:Nat):∀ (l:List LT) (p:List (List UInt8)×List (List UInt8)),p.1.length=n→p.2.length=m→(∀ x∈p.1,x.length≤k)→(∀ x∈p.2,x.length≤k)→(∀ w∈l,w.lx.length≤k) →
  (l.foldl qhF p).1.length=n∧(l.foldl qhF p).2.length=m∧(∀ x∈(l.foldl qhF p).1,x.length≤k)∧∀ x∈(l.foldl qhF p).2,x.length≤k
 | [],p,h1,h2,h3,h4,_=>⟨h1,h2,h3,h4⟩
 | w::q,p,h1,h2,h3,h4,h5=>by
  have hw:=h5 w (by simp);have hl:=qnL p w;refine qlo n m k q (qhF p w) (by omega) (by omega) (fun x hx=>?_) (fun x hx=>?_) fun w hw=>h5 w (by simp[hw])
  ·unfold qhF at hx;split at hx
   ·rcases qHl hx with hx | rfl
    ·exact h3 x hx
    ·exact hw
   ·exact h3 x hx
  ·unfold qhF at hx;split at hx
   ·exact h4 x hx
   ·rcases qHl hx with hx | rfl
    ·exact h4 x hx
    ·exact hw
theorem qgc {d:DK} (h:qbu d=true):qbu (qbz d)=true∧(qbz d).s0.length=d.s0.length∧(qbz d).late=[]:=by
 obtain⟨g1,g2,g3,g4,g5,g6,g7⟩:=qbO h;have k:=qlo d.s0.length d.s1.length 420 d.late (d.s0,d.s1) rfl rfl g5 g6 fun w hw=>(thereB_iff.1 (g7 w hw)).2.2;unfold qbz;rw[if_pos h];obtain⟨k1,k2,k3,k4⟩:=k;refine⟨?_,k1,rfl⟩;simp only[qbu,Bool.and_eq_true,decide_eq_true_eq,qEI];exact⟨⟨⟨⟨⟨⟨by omega,by omega⟩,by omega⟩,by simp⟩,k3⟩,k4⟩,by simp⟩
theorem qhB {r:RS} (h:qbu r.d=true) (txg:Int) (t:List UInt8):qbu (qbY txg r t).2.d=true∧(qbY txg r t).2.d.s0.length=r.d.s0.length:=qb2 h _ t
theorem qhy (txg:Int):∀ (l:List CS) (r:RS),qbu r.d=true→qbu (qbX txg l r).2.d=true∧(qbX txg l r).2.d.s0.length=r.d.s0.length
 | [],r,h=>⟨h,rfl⟩
 | s::q,r,h=>by
  simp only[qbX];split
  ·have h1:=qhB h txg (qbh s.map);have h2:=qhy txg q _ h1.1;exact⟨h2.1,by rw[h2.2,h1.2]⟩
  ·exact qhy txg q r h
theorem qmE (txg:Int):∀ (l:List (List UInt8)) (r:RS),qbu r.d=true→qbu (qcS txg l r).2.d=true∧(qcS txg l r).2.d.s0.length=r.d.s0.length∧(qcS txg l r).1.length=l.length
 | [],r,h=>⟨h,rfl,rfl⟩
 | t::q,r,h=>by
  simp only[qcS];have h1:=qhB h txg t;have h2:=qmE txg q _ h1.1;exact⟨h2.1,by rw[h2.2.1,h1.2],by simp[h2.2.2]⟩
theorem qiW {d:DK} (hd:qbu d=true) (c:CO):qbu (qao d c).1.d=true∧(qao d c).1.d.s0.length=d.s0.length:=by
 have h1:=qhy (c.txg+1) c.sets ⟨d,qaW c d.s0.length,true⟩ hd;unfold qao;simp only;split
 ·have h2:=qmE (c.txg+1) (qbQ c.ddt) _ h1.1;have h3:=qhB h2.1 (c.txg+1) (qaA ⟨c.txg,(qbX (c.txg+1) c.sets ⟨d,qaW c d.s0.length,true⟩).1,c.ddt,(qcS (c.txg+1) (qbQ c.ddt) (qbX (c.txg+1) c.sets ⟨d,qaW c d.s0.length,true⟩).2).1,false,c.safe,c.logn⟩);exact⟨h3.1,by rw[h3.2,h2.2.1,h1.2]⟩
 ·have h3:=qhB h1.1 (c.txg+1) (qaA ⟨c.txg,(qbX (c.txg+1) c.sets ⟨d,qaW c d.s0.length,true⟩).1,c.ddt,c.parts,false,c.safe,c.logn⟩);exact⟨h3.1,by rw[h3.2,h1.2]⟩
theorem qoz {d:DK} (hd:qbu d=true) {c:CO} (h:CoT c) (hm:CoM c):CoT (qao d c).2.1∧CoM (qao d c).2.1:=by
 have h1:=qfS (c.txg+1) c.sets ⟨d,qaW c d.s0.length,true⟩;have h2:=qd3 (c.txg+1) c.sets ⟨d,qaW c d.s0.length,true⟩;have h3:=qmE (c.txg+1) (qbQ c.ddt) _ (qhy (c.txg+1) c.sets ⟨d,qaW c d.s0.length,true⟩ hd).1;have h4:(qbQ c.ddt).length≤c.ddt.length:=qe9 _ _;have e1:=hm.sets;have e2:=hm.ddt;have e3:=hm.parts;have hp:(qao d c).2.1.parts.length≤1000:=by
  unfold qao;simp only;split
  ·exact qEf (qEL h3.2.2) (by omega)
  ·exact e3
 have hs:(qao d c).2.1.sets=(qbX (c.txg+1) c.sets ⟨d,qaW c d.s0.length,true⟩).1:=rfl;refine⟨⟨by rw[hs];omega,h.ddt,by omega,h.safe,fun s hs'=>?_,fun s hs'=>?_⟩,⟨by rw[hs];omega,e2,hp⟩⟩
 ·obtain⟨t,ht,q1,q2,q3,_⟩:=h2 s (by rw[← hs];exact hs');rw[q1];exact h.m8 t ht
 ·obtain⟨t,ht,q1,q2,q3,_⟩:=h2 s (by rw[← hs];exact hs');rw[q2,q3];exact h.nm t ht
def qdY (d:DK) (c:CO):DK×CO×Int :=
 if (qao d c).1.ok=false then (d,(qao d c).2.1,7) else
 if (qhd (qbz (qao d c).1.d) (c.txg+1) (qao d c).2.2).2=false then (d,(qao d c).2.1,7) else
 (qbz (qhd (qbz (qao d c).1.d) (c.txg+1) (qao d c).2.2).1,
  ⟨c.txg+1,(qao d c).2.1.sets,(qao d c).2.1.ddt,(qao d c).2.1.parts,(qao d c).2.1.dirty,qcc (qao d c).2.1 (qao d c).2.2.pa,0⟩,0)
theorem qzb (d:DK) (hd:qbu d=true) (c:CO) (h:CoT c) (hm:CoM c) (hf:qcC c≤(qaW c d.s0.length).length) (ht:0≤c.txg∧c.txg<1000000) :
  CV prog 118 [.agg d.row,.agg c.row] (.tup [.agg (qdY d c).1.row,.agg (qdY d c).2.1.row,.int .i64 (qdY d c).2.2]):=by
 obtain⟨R,hR⟩:∃ R,qdY d c=R:=⟨_,rfl⟩;rw[hR];unfold qdY at hR;have hb1:=qiW hd c;obtain⟨hb2,hb3⟩:=qoz hd h hm;have cb:=qsD d hd c h hm hf (by omega);generalize qao d c=B at *
 obtain⟨⟨bd,bf,bok⟩,c2,root⟩:=B;simp only at hb1 hb2 hb3 cb hR;have cf:=qqn bd (qec hb1.1);have hf1:=qgc hb1.1;have cr:=qy2 (qbz bd) (qec hf1.1) (c.txg+1) root (by omega);have hr1:qbu (qhd (qbz bd) (c.txg+1) root).1=true:=(qb2 hf1.1 _ _).1;have cg:=qqn (qhd (qbz bd) (c.txg+1) root).1 (qec hr1);generalize qhd (qbz bd) (c.txg+1) root=G at *
 obtain⟨gd,gok⟩:=G;simp only at cr hr1 cg hR;have ce:=qvS ⟨c.txg+1,c2.sets,c2.ddt,c2.parts,c2.dirty,c2.safe,c2.logn⟩ ⟨hb2.sets,hb2.ddt,hb2.parts,hb2.safe,hb2.m8,hb2.nm⟩ ⟨hb3.sets,hb3.ddt,hb3.parts⟩ root.pa;have hre:qcc ⟨c.txg+1,c2.sets,c2.ddt,c2.parts,c2.dirty,c2.safe,c2.logn⟩ root.pa=qcc c2 root.pa:=rfl;rw[hre]at ce;simp only[DK.row,CO.row,PT.row]at cb cf cr cg ce;refine cvx func118 [(3,[zJ 0 [2] [],zJ 1 [3] [2],zJ 2 [] [3],zI 3,zI 4]),(4,[zI 0,zI 1,zI 2,zJ 3 [14] [],zJ 5 [] [14],zJ 6 [] [14],zJ 7 [] [14],zJ 8 [14] [14],zJ 9 [8,14] [14],⟨4,[],[14,8],[14],[]⟩,⟨10,[],[],[14],[]⟩,zI 11,zI 12,zI 13,zJ 14 [] [14,8],zI 15,zI 16]),(6,[zJ 0 [2] [],zJ 1 [3] [2],zJ 2 [] [3],zI 3,zI 4]),(10,[zJ 0 [9] [],zJ 2 [3] [9],zJ 1 [] [3],zJ 3 [] [3],zI 4,zI 5])] ntmps118 rfl rfl rfl ?_ (hca:=by simp[DK.row,qde]) (hcv:=by simp[DK.row,qde]);simp[DK.row,CO.row,PT.row];refine qac [] (by kernel_rfl) cb (by simp) (by simp[DE.row,qa5,qaf]) trivial (by simp) (by simp) ?_;rintro r L' ⟨rfl,rfl⟩;refine⟨[(25,14)],⟨by simp,by simp,by simp,by simp,by simp⟩,?_⟩;simp only[qad];simp[DK.row,CO.row,PT.row,qd5];refine⟨fun q1=>?_,fun q1=>?_⟩
 ·rw[if_pos q1]at hR;subst hR;simp
 ·rw[if_neg (by simp[q1])]at hR;refine cf.call ?_;simp;refine cr.call ?_;cases gok with
  | false =>
   rw[if_pos rfl]at hR;simp[← hR]
  | true =>
   rw[if_neg (by simp)]at hR;simp;refine ce.call ?_;simp;refine cg.call ?_;simp[← hR]
def zK:CO:=⟨0,[],[],[],false,[],0⟩
theorem qre:qiz (.agg [.int .i64 0,.nils,.nils,.nils,.bool false,.nils,.int .i64 0]) (.agg zK.row) :=
 qkl (.cons (qaF _) (.cons (qa9 31) (.cons (qa9 3) (.cons (qa9 3) (.cons (qaF _) (.cons (qa9 1) (.cons (qaF _) .nil)))))))
theorem qbS {c:CO} (h:qan c=true):CoM c∧c.sets.length≤6∧c.ddt.length≤48∧c.parts.length≤8∧0≤c.txg∧c.txg≤1000000∧0≤c.logn∧c.logn≤8:=by
 have hb:=(okB_iff.1 (qiS h)).1;have hd:=(qiP (qow h)).1;simp only[qan,Bool.and_eq_true,decide_eq_true_eq]at h;have h1:=h.1.1.1.1.1.1.1.1.1.1.1;have h2:=h.1.1.1.1.1.1.1.1.1.1.2;have h3:=h.1.1.1.1.1.1.1.1.2;have h4:=h.1.1.1.1.1.1.2;have h5:=h.1.1.1.1.1.2;simp only[qFx]at hb;exact⟨⟨by omega,by omega,by omega⟩,hb,hd,h3,h1,h2,h4,h5⟩
def qbo (d:DK) (c:CO):DK×CO×Int :=
 if qbu d=false∨qan c=false∨d.s0.length≤13 then (zDK,zK,5) else
 if qc8 d c=false then (d,c,7) else
 if (qdY d c).2.2≠0 then (d,c,(qdY d c).2.2) else qdY d c
theorem qsB (d:DK) (hd:DkT d) (c:CO) (h:CoT c):CV prog 52 [.agg d.row,.agg c.row] (.tup [.agg (qbo d c).1.row,.agg (qbo d c).2.1.row,.int .i64 (qbo d c).2.2]):=by
 obtain⟨R,hR⟩:∃ R,qbo d c=R:=⟨_,rfl⟩;rw[hR];unfold qbo at hR;have c1:=qe5 d hd;have c2:=qqq c h;have c3:=qqs d hd;have c4:=qv0 c h;have hl:=hd.l0;refine CV.of_imp ?_ (hca:=by simp[DK.row,qde]) (hcv:=by simp[DK.row,qde]);refine acx func52 [(4,[zJ 0 [2] [],zJ 2 [3] [2],zJ 1 [] [3],zI 3,zI 4,zI 5,zI 6]),(5,[zJ 0 [2] [],zJ 2 [3] [2],⟨1,[],[3],[8,9],[]⟩,⟨3,[],[],[8,9],[]⟩,zI 4,zI 5,zI 6,zI 7,zJ 8 [] [2,3],zJ 9 [] [2,3],zI 10,zI 11,zI 12]),(7,[zJ 0 [2] [],zJ 2 [3] [2],zJ 4 [] [2,3],zJ 1 [] [3],zI 3,zI 5,zI 6,zI 7]),(8,[zJ 0 [7] [],zJ 1 [8] [7],zJ 2 [] [7,8],zJ 3 [] [8],zI 4,zI 5])] ntmps52 rfl rfl rfl ?_;simp only[DK.row,CO.row]at c1 c2 c3 c4;simp[DK.row,CO.row];refine c1.call ?_;have zimp:qiz (.tup [.agg [.nils,.nils,.nils],.agg [.int .i64 0,.nils,.nils,.nils,.bool false,.nils,.int .i64 0],.int .i64 5]) (.tup [.agg zDK.row,.agg zK.row,.int .i64 5]):=qdz (.cons qkk (.cons qre (.cons (qaF _) .nil)));cases hok:qbu d with
 | false =>
  rw[if_pos (.inl hok)]at hR;subst hR;simp;simpa [zDK,zK,DK.row,CO.row]using zimp
 | true =>
  simp[DK.row,CO.row];refine c2.call ?_;cases hco:qan c with
  | false =>
   rw[if_pos (.inr (.inl hco))]at hR;subst hR;simp;simpa [zDK,zK,DK.row,CO.row]using zimp
  | true =>
   obtain⟨hm,k1,k2,k3,k4,k5,k6,k7⟩:=qbS hco;by_cases hn:d.s0.length≤13
   ·rw[if_pos (.inr (.inr hn))]at hR;subst hR;have hn':(d.s0.length:Int)≤13:=by omega
    simp[hn',DK.row];simpa [zDK,zK,DK.row,CO.row]using zimp
   ·rw[if_neg (by simp[hok,hco,hn])]at hR;have hn':¬ (d.s0.length:Int)≤13:=by omega
    have c5:=qvY d hd c h hm;simp only[DK.row,CO.row]at c5;simp[hn',DK.row,CO.row];refine c5.call ?_;cases hma:qc8 d c with
    | false =>
     rw[if_pos hma]at hR;subst hR;simp;refine c3.call ?_;simp;refine c4.call ?_;simp
    | true =>
     rw[if_neg (by simp[hma])]at hR;have hma2:=hma;simp only[qc8,Bool.and_eq_true,decide_eq_true_eq]at hma2;have c6:=qzb d hok c h hm hma2.2 (by omega);generalize qdY d c=D at *
     obtain⟨dd,dc,code⟩:=D;simp only[DK.row,CO.row]at c6 hR;simp;refine c3.call ?_;simp;refine c6.call ?_;simp;refine⟨fun q=>?_,fun q=>?_⟩
     ·rw[if_pos q]at hR;subst hR;refine c3.call ?_;simp;refine c4.call ?_;simp
     ·rw[if_neg (by simp[q])]at hR;subst hR;simp
end Go.Av.F
end
section
namespace Go.Av
open Go Go.Proofs
variable {P:Program}
theorem ACall.hps {f:Nat} {args:List AV} {L:List (Nat×Ob)} {R R':AV→List (Nat×Ob)→Prop} (h:ACall P f args L R) (hr:∀ r L',R r L'→∃ L2,(∀ i,qaP L2 i=qaP L' i)∧R' r L2):ACall P f args L R':=by
 intro w Z γ vs hv hh hg;refine(h w Z γ vs hv hh hg).mono ?_;rintro e w' ⟨v,r,L',Z',γ',h1,h2,h3⟩;obtain⟨L2,he,hR⟩:=hr r L' h2;have:qaP L'=qaP L2:=funext fun i=>(he i).symm;rw[this]at h3;exact⟨v,r,L2,Z',γ',h1,hR,h3⟩
end Go.Av
namespace Go.Av.F
open Go Go.Av Go.Proofs Go.Proofs.Tryz
def qe0 (c:CO) (id:Nat):AV:=.agg [.int .i64 c.txg,.sl id 0 c.sets.length,.lst 3 (c.ddt.map DE.row),.lst 3 (c.parts.map PT.row),.bool c.dirty,.lst 1 (c.safe.map qaf),.int .i64 c.logn]
theorem qvZ (c:CO) (h:CoT c):ACall prog 117 [.agg c.row] [] (fun r L'=>r=qe0 c 8∧L'=[(8,kcs c.sets)]):=by
 refine((qmz c h).hps (R':=fun r L'=>r=qcy c 8 12 17 22∧L'=[(12,qaH c.ddt),(17,kpt c.parts),(22,kin c.safe)]++[(8,kcs c.sets)]) ?_).frzP ?_
 ·rintro r L' ⟨rfl,rfl⟩;refine⟨_,fun i=>?_,rfl,rfl⟩;by_cases h1:i=8
  ·subst h1;simp
  ·by_cases h2:i=12
   ·subst h2;simp
   ·by_cases h3:i=17
    ·subst h3;simp
    ·by_cases h4:i=22
     ·subst h4;simp
     ·simp[h1,h2,h3,h4]
 ·rintro r L' ⟨rfl,rfl⟩;refine⟨_,_,rfl,by simp,by simp,fun x hx=>?_,?_,rfl⟩
  ·simp only[qGj,qE5,qFT,qF2,or_false]at hx;rcases hx with rfl | rfl | rfl | rfl
   ·exact qbw _
   ·exact qbi _
   ·exact qaM _
   ·exact qaX _
  ·simp[qbj,qcy,qe0,qaH,kpt,kin,qam]
def qhe (more:Bool) (l:List DE) (p:PT):List DE×Bool:=if more=true then qb0 l p.ps p.pa else qbm l p.pa
def qbJ (more:Bool):List PT→List DE×Bool×Bool→List DE×Bool×Bool
 | [],x=>x
 | p::q,x=>if p.pa=0 then qbJ more q x else qbJ more q ((qhe more x.1 p).1,true,x.2.2 && (qhe more x.1 p).2)
theorem qnI (more:Bool) (l:List DE) (p:PT):(qhe more l p).1.length≤l.length+1:=by
 unfold qhe qb0 qbm;have:=ql5 l p.pa
 repeat' split
 all_goals simp <;> omega
theorem qlT {l:List PT} {i k:Nat} {p:PT} (h:l[i]?=some p) (hk:k<3):(l.flatMap PT.row)[i * 3+k]?=p.row[k]?:=by
 have h2:=congrArg (fun r:List AV=>r[k]?) (qiI h);simp only[qEn,qEU,hk,if_true]at h2;exact h2
theorem qy3 (c:CO) (m:List PT) (h8:m.length=8) (more:Bool) (hd:c.ddt.length≤1000000) (hs:c.sets.length≤1048576) :
  ACall prog 209 [qe0 c 1000,.agg (m.flatMap PT.row),.bool more] [(1000,kcs c.sets)]
   (fun r L'=>r=.tup [qe0 ⟨c.txg,c.sets,(qbJ more m (c.ddt,c.dirty,true)).1,c.parts,(qbJ more m (c.ddt,c.dirty,true)).2.1,c.safe,c.logn⟩ 1000,.bool (qbJ more m (c.ddt,c.dirty,true)).2.2]∧L'=[(1000,kcs c.sets)]):=by
 obtain⟨X,hX⟩:∃ X,qbJ more m (c.ddt,c.dirty,true)=X:=⟨_,rfl⟩;rw[hX];refine acx func209 [(8,[zI 0,zJ 1 [3] [],zJ 2 [] [3],zJ 3 [] [3],zJ 4 [] [3],zJ 5 [4] [3],zJ 6 [] [3,4],zJ 7 [] [3,4],zJ 8 [] [3,4],zJ 9 [4] [3,4],zI 10,zI 11,zI 12,zI 13,zI 14,zI 15,zI 16]),(9,[zI 0,zJ 1 [3] [],zJ 2 [] [3],zJ 3 [] [3],zJ 4 [] [3],zJ 5 [4] [3],zI 6,zI 7,zI 8,zI 9,zI 10,zI 11,zI 12])] ntmps209 rfl rfl rfl ?_;simp[qe0,qpZ h8];refine qaQ (X:=Nat×(List DE×Bool×Bool)) [2,3,4,6,7,8,9] [(1000,1000),(3,3),(4,4),(6,6)] (fun x=>[(8,.bool x.2.2.2),(9,.int .i64 x.1)])
  (fun x=>[(3,⟨7,[[.int .i64 c.txg,.sl 1000 0 c.sets.length,.lst 3 (x.2.1.map DE.row),.lst 3 (c.parts.map PT.row),.bool x.2.2.1,.lst 1 (c.safe.map qaf),.int .i64 c.logn]]⟩)]) (fun x=>8-x.1)
  (fun x=>x.1≤8∧x.2.1.length≤1000000+x.1∧qbJ more (m.drop x.1) x.2=X) (0,(c.ddt,c.dirty,true)) ⟨by simp,by simp only;omega,by simpa using hX⟩ ?_ (he:=by simp[qah])
 rintro⟨i,l,dt,ok⟩ ⟨hi,hl,hd2⟩;simp only at hi hl hd2;cases hr:m.drop i with
 | nil =>
  have:=qa0 hr;rw[hr]at hd2;have hie:i=8:=by omega
  subst hie;simp only[qbJ]at hd2;subst hd2;simp[qah]
 | cons p q =>
  obtain⟨k1,e0,e1,k3⟩:=qa1 hr;rw[hr]at hd2;simp only[qbJ]at hd2;have hi8:i<8:=by omega
  have hli:(i:Int)<8:=by omega
  have e2:=qak ((i:Int)+1) (by omega) (by omega);have f0:=qlT e1 (k:=0) (by omega);have f1:=qlT e1 (k:=1) (by omega);have c1:=qCd l p.ps p.pa (by omega);have c2:=qza l p.pa (by omega);have hrl:=qnI more l p;have f0':(m.flatMap PT.row)[i * 3]?=some (.int .i64 p.pa):=by simpa [PT.row]using f0
  have f1':(m.flatMap PT.row)[i * 3+1]?=some (.int .i64 p.ps):=by simpa [PT.row]using f1
  have hN:∀ (x:List DE×Bool×Bool),qbJ more q x=X→x.1.length≤1000000+(i+1)→(i+1≤8∧x.1.length≤1000000+(i+1)∧qbJ more (m.drop (i+1)) x=X):=fun x h1 h2=>⟨by omega,h2,by rw[k3];exact h1⟩;simp[qah,hli,hi8,f0',f1'];refine⟨by omega,fun q1=>?_,fun q1=>?_⟩
  ·rw[if_pos q1]at hd2;exact nx (i+1,l,dt,ok) [(1000,1000),(3,3),(4,4),(6,6)] (hN _ hd2 (by simp only;omega)) (by simp only;omega) (h4:=by simp[qah,e2])
  ·rw[if_neg q1]at hd2;have hrl2:(qhe more l p).1.length≤1000000+(i+1):=by omega
   cases more with
   | true =>
    have hrb:qhe true l p=qb0 l p.ps p.pa:=rfl;rw[hrb]at hd2 hrl2;generalize qb0 l p.ps p.pa=Y at *
    obtain⟨yl,yo⟩:=Y;simp;refine⟨by omega,by omega,?_⟩;refine c1.call ?_;cases ok
    all_goals
     simp;exact nx (i+1,yl,true,_) [(1000,1000),(3,3),(4,4),(6,6)] (hN _ hd2 hrl2) (by simp only;omega) (h4:=by simp[qah,e2])
   | false =>
    have hrb:qhe false l p=qbm l p.pa:=rfl;rw[hrb]at hd2 hrl2;generalize qbm l p.pa=Y at *
    obtain⟨yl,yo⟩:=Y;simp;refine⟨by omega,?_⟩;refine c2.call ?_;cases ok
    all_goals
     simp;exact nx (i+1,yl,true,_) [(1000,1000),(3,3),(4,4),(6,6)] (hN _ hd2 hrl2) (by simp only;omega) (h4:=by simp[qah,e2])
end Go.Av.F
end
section
namespace Go.Av.F
open Go Go.Av Go.Proofs Go.Proofs.Tryz
def qgG (d:DK) (text:List UInt8):List DE→Int
 | []=>0
 | e::r=>if e.es=smB text∧(qai d ⟨e.ea,smB text,0⟩).2=0∧(qai d ⟨e.ea,smB text,0⟩).1=text then e.ea else qgG d text r
def qdM (d:DK) (l:List DE) (text:List UInt8):Int:=if qal l=true then qgG d text l else 0
theorem qy9 (d:DK) (hd:DkT d) (l:List DE) (text:List UInt8) (hl:l.length≤1048576) (ht:text.length≤maxLen) :
  CV prog 272 [.agg d.row,.lst 3 (l.map DE.row),.str text] (.int .i64 (qdM d l text)):=by
 obtain⟨R,hR⟩:∃ R,qdM d l text=R:=⟨_,rfl⟩;rw[hR];unfold qdM at hR;have c0:=qvR text ht;have c1:=qfC l hl;refine cvx func272 [(6,[zJ 0 [3] [],zJ 1 [] [3],zJ 2 [] [3],zJ 3 [] [3],zJ 4 [] [3],zJ 5 [] [3],zJ 6 [] [3],zJ 7 [] [3],zI 8,zI 9,zI 10,zI 11,zI 12,zI 13])] ntmps272 rfl rfl rfl ?_ (hca:=by simp[DK.row,DE.row]);simp[DK.row];refine c0.call ?_;simp;refine qaQ (X:=Nat) [1,2,3,6,7,8] [(3,3)] (fun i=>[(8,.int .i64 i)]) (fun _=>[]) (fun i=>l.length-i) (fun i=>i≤l.length∧(if qal l=true then qgG d text (l.drop i) else 0)=R) 0 ⟨by simp,by simpa using hR⟩ ?_ (he:=by simp[qah])
 rintro i ⟨hi,hd2⟩;cases hok:qal l with
 | false =>
  rw[hok]at c1;rw[if_neg (by simp[hok])]at hd2;simp[qah];refine c1.call ?_;simp[← hd2]
 | true =>
  rw[hok]at c1;rw[if_pos hok]at hd2;cases hr:l.drop i with
  | nil =>
   have:=qa0 hr;rw[hr]at hd2;have hie:i=l.length:=by omega
   subst hie;simp only[qgG]at hd2;simp[qah];refine c1.call ?_;simp[← hd2]
  | cons e q =>
   obtain⟨k1,e0,e1,k3⟩:=qa1 hr;rw[hr]at hd2;simp only[qgG]at hd2;have hli:(i:Int)<l.length:=by omega
   have e2:=qak ((i:Int)+1) (by omega) (by omega);have c2:=qfU d hd ⟨e.ea,smB text,0⟩;have hN:¬ (e.es=smB text∧(qai d ⟨e.ea,smB text,0⟩).2=0∧(qai d ⟨e.ea,smB text,0⟩).1=text)→qgG d text (l.drop (i+1))=R:=fun h=>by rw[if_neg h]at hd2;rw[k3];exact hd2
   have hY:(e.es=smB text∧(qai d ⟨e.ea,smB text,0⟩).2=0∧(qai d ⟨e.ea,smB text,0⟩).1=text)→e.ea=R:=fun h=>by rw[if_pos h]at hd2;exact hd2
   generalize qai d ⟨e.ea,smB text,0⟩=Y at *
   obtain⟨yt,yc⟩:=Y;simp only[DK.row,PT.row]at c2;simp[qah];refine c1.call ?_;simp[hli,k1,e0,e1,DE.row,qah];refine⟨fun q1=>?_,fun q1=>nx (i+1) [(3,3)] ⟨by omega,?_⟩ (h4:=by simp[qah,e2])⟩
   ·refine c2.call ?_;simp;refine⟨fun q2=>⟨fun q3=>?_,fun q3=>?_⟩,fun q2=>?_⟩
    ·exact⟨k1,by simp[e1,DE.row],by rw[e1];simpa [DE.row]using hY ⟨q1,q2,q3⟩⟩
    ·exact nx (i+1) [(3,3)] ⟨by omega,hN fun h=>q3 h.2.2⟩ (h4:=by simp[qah,e2])
    ·exact nx (i+1) [(3,3)] ⟨by omega,hN fun h=>q2 h.2.1⟩ (h4:=by simp[qah,e2])
   ·exact hN fun h=>q1 h.1
def qdh (d:DK) (c:CO) (text:List UInt8):DK×Int×Int :=
 if 0<qdM d c.ddt text then (d,qdM d c.ddt text,0) else
 if qoY c d.s0.length=false then (d,0,7) else
 if (qav d ((qaW c d.s0.length).headD 0) text).2=false then (d,0,7) else
 ((qav d ((qaW c d.s0.length).headD 0) text).1,(qaW c d.s0.length).headD 0,0)
theorem qv2 (d:DK) (hd:DkT d) (c:CO) (h:CoT c) (text:List UInt8) (ht:text.length≤1048576) :
  ACall prog 207 [.agg d.row,qe0 c 1000,.str text] [(1000,kcs c.sets)] (fun r L'=>r=.tup [.agg (qdh d c text).1.row,.int .i64 (qdh d c text).2.1,.int .i64 (qdh d c text).2.2]∧L'=[(1000,kcs c.sets)]):=by
 obtain⟨R,hR⟩:∃ R,qdh d c text=R:=⟨_,rfl⟩;rw[hR];unfold qdh at hR;have hl:=hd.l0;have c1:=qy9 d hd c.ddt text h.ddt (by simp[maxLen];omega);have c2:=qCc c h d.s0.length (by omega) (by omega);have c3:=qqm c h d.s0.length (by omega);have hmf:qoY c d.s0.length=true→0<(qaW c d.s0.length).length:=fun hm=>by
  simp only[qoY,Bool.and_eq_true,decide_eq_true_eq]at hm;omega
 have c4:=qgx d hd ((qaW c d.s0.length).headD 0) text ht;have hcons:∀ l:List Int,0<l.length→∃ fr,l=l.headD 0::fr:=fun l hl=>by
  cases l with
  | nil=>simp at hl
  | cons x r=>exact⟨r,rfl⟩
 have hfe:=fun hm=>hcons _ (hmf hm);generalize qdM d c.ddt text=a at *
 generalize qoY c d.s0.length=m at *
 generalize qaW c d.s0.length=l at *
 generalize l.headD 0=b at *
 generalize qav d b text=x at *
 obtain⟨xd,xo⟩:=x;simp only[DK.row,CO.row]at c1 c2 c3 c4;refine acx func207 [] ntmps207 rfl rfl rfl ?_;simp[DK.row,qe0];refine c1.call ?_;by_cases h0:0<a
 ·rw[if_pos h0]at hR;subst hR;simp[h0]
 ·rw[if_neg h0]at hR;simp[h0];refine c2.view (by simp[qb1,mtA,kcs,qam,qa5]) ?_;cases m with
  | false =>
   rw[if_pos rfl]at hR;subst hR;simp
  | true =>
   rw[if_neg (by simp)]at hR;obtain⟨fr,hf⟩:=hfe rfl;subst hf
   ·simp;refine qaO [] (by kernel_rfl) c3 (by simp[qb1,mtA,kcs,qam,qa5]) (by simp) trivial (by simp) (by simp) ?_;rintro r L' ⟨rfl,rfl⟩;refine⟨by simp,by simp[kin,qaf],[(900,33)],⟨by simp,by simp,by simp,by simp,by simp⟩,?_⟩;simp only[qad];simp[kin,qaf];refine c4.call ?_;cases xo with
    | false =>
     rw[if_pos rfl]at hR;subst hR;simp
    | true =>
     rw[if_neg (by simp)]at hR;subst hR;simp
def zPT:PT:=⟨0,0,0⟩
def qhh (p:PT):List PT:=[p,zPT,zPT,zPT,zPT,zPT,zPT,zPT]
def qfP (d x:DK) (c:CO) (k i:Nat) (s:CS) (old now:PT):DK×CO×Int :=
 let a:=qbJ true (qhh now) (c.ddt,c.dirty,true)
 let b:=qbJ false (qhh old) (a.1,a.2.1,true)
 if a.2.2=false∨b.2.2=false then (d,c,7) else
 (x,⟨c.txg,c.sets.set k ⟨s.name,s.kind,s.frm,s.map.set i now,s.home,true⟩,b.1,c.parts,b.2.1,c.safe,c.logn⟩,0)
def qcO (d:DK) (c:CO) (k i:Nat) (text:List UInt8):DK×CO×Int :=
 match c.sets[k]? with
 | none=>(d,c,7)
 | some s =>
  let old:=s.map[i]?.getD zPT
  if text=[] then qfP d d c k i s old zPT else
  if c.txg=1000000 then (d,c,7) else
  if (qdh d c text).2.2≠0 then (d,c,(qdh d c text).2.2) else
  if (qdh d c text).2.1=old.pa then ((qdh d c text).1,c,0) else
  qfP d (qdh d c text).1 c k i s old (qbL (qdh d c text).2.1 text (c.txg+1))
theorem tk3 {X F:List AV} {n k:Nat} (h:X.length=k):List.take (k+n) (X++F)=X++List.take n F:=by
 subst h;rw[List.take_append,qEK (by omega)]
 congr 2;omega
theorem dp3 {X F:List AV} {n k:Nat} (h:X.length=k):List.drop (k+n) (X++F)=List.drop n F:=by
 subst h;rw[List.drop_append,qEE (by omega),qE5]
 congr 1;omega
theorem qhN:∀ (l:List PT) (i:Nat) (p:PT),i<l.length→(l.set i p).flatMap PT.row=(l.flatMap PT.row).take (i * 3)++(p.row++(l.flatMap PT.row).drop (i * 3+3))
 | [],i,p,h=>by simp at h
 | x::q,0,p,h=>by simp[PT.row]
 | x::q,i+1,p,h=>by
  have ih:=qhN q i p (by simpa using h);have hx:x.row.length=3:=rfl;rw[qHm,qGP,ih,qGP,show(i+1) * 3=3+i * 3 by omega,tk3 hx,show 3+i * 3+3=3+(i * 3+3) by omega,dp3 hx,List.append_assoc]
theorem qkN (s:CS) (h8:s.map.length=8) {i:Nat} (hi:i<8) (p:PT):List.take 30 (List.take (3+i * 3) s.row++.int .i64 p.pa::.int .i64 p.ps::.int .i64 p.pb::List.drop (3+i * 3+3) s.row) ++
  .bool true::List.drop 31 (List.take (3+i * 3) s.row++.int .i64 p.pa::.int .i64 p.ps::.int .i64 p.pb::List.drop (3+i * 3+3) s.row)=CS.row ⟨s.name,s.kind,s.frm,s.map.set i p,s.home,true⟩:=by
 have hl:(s.map.flatMap PT.row).length=24:=by
  rw[qHf];exact qpZ h8
 have hf:=qhN s.map i p (by omega);have hh:s.home.row.length=3:=rfl;have e:s.row=[.str s.name,.int .i64 s.kind,.str s.frm]++(s.map.flatMap PT.row++(s.home.row++[.bool s.dirty])):=by simp[CS.row]
 have h3:([.str s.name,.int .i64 s.kind,.str s.frm]:List AV).length=3:=rfl;have t1:List.take (3+i * 3) s.row=[.str s.name,.int .i64 s.kind,.str s.frm]++(s.map.flatMap PT.row).take (i * 3):=by
  rw[e,tk3 h3,qGG (by omega)]
 have t2:List.drop (3+i * 3+3) s.row=(s.map.flatMap PT.row).drop (i * 3+3)++(s.home.row++[.bool s.dirty]):=by
  rw[e,show 3+i * 3+3=3+(i * 3+3) by omega,dp3 h3,qFK (by omega)]
 rw[t1,t2];have e2:([.str s.name,.int .i64 s.kind,.str s.frm]++(s.map.flatMap PT.row).take (i * 3))++.int .i64 p.pa::.int .i64 p.ps::.int .i64 p.pb::((s.map.flatMap PT.row).drop (i * 3+3)++(s.home.row++[.bool s.dirty])) =
   ([.str s.name,.int .i64 s.kind,.str s.frm]++(((s.map.set i p).flatMap PT.row)++s.home.row))++[.bool s.dirty]:=by
  rw[hf];simp[PT.row]
 have hl2:((s.map.set i p).flatMap PT.row).length=24:=by
  rw[qHf];exact qpZ (by simpa using h8)
 rw[e2,qHh (by simp[hl2,hh]),qEE (by simp[hl2,hh])];simp[CS.row]
theorem qd7 (more:Bool):∀ (m:List PT) (x:List DE×Bool×Bool),(qbJ more m x).1.length≤x.1.length+m.length
 | [],x=>by simp[qbJ]
 | p::q,x=>by
  simp only[qbJ];split
  ·have:=qd7 more q x;simp;omega
  ·have h1:=qd7 more q ((qhe more x.1 p).1,true,x.2.2 && (qhe more x.1 p).2);have h2:=qnI more x.1 p;simp at h1 ⊢;omega
theorem qyY (d:DK) (hd:DkT d) (c:CO) (h:CoT c) (hm:CoM c) (k i:Nat) (hk:k<c.sets.length) (hi:i<8) (text:List UInt8) (ht:text.length≤1048576) (hx:0≤c.txg∧c.txg≤1000000) :
  ACall prog 103 [.agg d.row,.agg c.row,.int .i64 k,.int .i64 i,.str text] [] (fun r L'=>r=.tup [.agg (qcO d c k i text).1.row,qe0 (qcO d c k i text).2.1 8,.int .i64 (qcO d c k i text).2.2]∧L'=[(8,kcs (qcO d c k i text).2.1.sets)]):=by
 obtain⟨R,hR⟩:∃ R,qcO d c k i text=R:=⟨_,rfl⟩;rw[hR];unfold qcO at hR;obtain⟨s,e0⟩:∃ s,c.sets[k]=s:=⟨_,rfl⟩;have e1:c.sets[k]?=some s:=by rw[← e0];exact qEv hk
 have h8:=h.m8 s (qGk e1);obtain⟨old,f1⟩:∃ p,s.map[i]?=some p:=⟨_,qEv (by omega)⟩;rw[e1]at hR;simp only[f1,qFn]at hR;have ck:=qvZ c h;have cb:=qv2 d hd c h text ht;simp only[CO.row]at ck;simp only[DK.row,qe0]at cb;have hki:(k:Int)<c.sets.length:=by omega
 have hi8:(i:Int)<8:=by omega
 refine acx func103 [(6,[zJ 0 [5] [],zJ 1 [6] [5],zJ 2 [] [6],zI 3,zI 4]),(10,[zJ 0 [5] [],zJ 1 [6] [5],zJ 2 [] [5,6],zJ 3 [] [6],zI 4,zI 5]),(14,[zJ 0 [15] [],zJ 1 [6] [15],zJ 2 [] [6],zI 3,zI 4]),(18,[zJ 0 [5] [],zJ 1 [6] [5],zJ 2 [] [6],zI 3,zI 4]),(19,[zI 0,zJ 1 [21] [],zJ 2 [] [21],zJ 3 [] [21],zJ 4 [14] [21],zJ 5 [8] [14],zJ 6 [] [14],zI 7,zI 8]),(21,[zJ 0 [15] [],zJ 1 [21] [15],zJ 2 [] [21],zI 3,zI 4])] ntmps103 rfl rfl rfl ?_;simp[DK.row,CO.row];refine qac [] (by kernel_rfl) ck (by simp) (by simpa [CO.row]using qde c) trivial (by simp) (by simp) ?_;rintro r L' ⟨rfl,rfl⟩;refine⟨[(8,8)],⟨by simp,by simp,by simp,by simp,by simp⟩,?_⟩;simp only[qad];have hok:∀ m:List PT,m.length=8→∀ (c2:CO) (more:Bool),c2.ddt.length≤1000000→c2.sets.length≤1048576→ACall prog 209 [qe0 c2 1000,.agg (m.flatMap PT.row),.bool more] [(1000,kcs c2.sets)]
   (fun r L'=>r=.tup [qe0 ⟨c2.txg,c2.sets,(qbJ more m (c2.ddt,c2.dirty,true)).1,c2.parts,(qbJ more m (c2.ddt,c2.dirty,true)).2.1,c2.safe,c2.logn⟩ 1000,.bool (qbJ more m (c2.ddt,c2.dirty,true)).2.2]∧L'=[(1000,kcs c2.sets)]):=fun m h8 c2 more h1 h2=>qy3 c2 m h8 more h1 h2
 by_cases ht0:text=[]
 ·rw[if_pos ht0]at hR;simp[qe0,CO.row,DK.row,hki,hk,e0,e1,kcs,qaY s h8,hi8,qjG s f1,ht0];refine⟨by omega,?_⟩;obtain⟨A,hA⟩:∃ A,qbJ true (qhh zPT) (c.ddt,c.dirty,true)=A:=⟨_,rfl⟩;have r1:=hok (qhh zPT) rfl c true (by have:=hm.ddt;omega) (by have:=hm.sets;omega);rw[hA]at r1;have hAl:A.1.length≤1008:=by
   have:=qd7 true (qhh zPT) (c.ddt,c.dirty,true);rw[hA]at this;have:=hm.ddt;simp[qhh]at *
   omega
  obtain⟨B,hB⟩:∃ B,qbJ false (qhh old) (A.1,A.2.1,true)=B:=⟨_,rfl⟩;have r2:=hok (qhh old) rfl ⟨c.txg,c.sets,A.1,c.parts,A.2.1,c.safe,c.logn⟩ false (by simp only;omega) (by have:=hm.sets;simp only;omega);simp only[hB]at r2;unfold qfP at hR;simp only[hA,hB]at hR;obtain⟨al,ad,ao⟩:=A;obtain⟨bl,bd,bo⟩:=B;simp only[qe0,qhh,zPT,qGP,List.flatMap_nil,PT.row,qGj,qE5]at r1 r2;refine qac [(1000,.whole 8)] (by kernel_rfl) r1 (by simp) (by simp) (by simp[kcs];exact qaa rfl (qaX _)) (by simp) (by simp) ?_;rintro r L' ⟨rfl,rfl⟩;refine⟨[],⟨by simp,by simp,by simp,by simp,by simp⟩,?_⟩;simp only[qad];simp;refine qac [(1000,.whole 8)] (by kernel_rfl) r2 (by simp) (by simp) (by simp;exact qaa rfl (qaX _)) (by simp) (by simp) ?_;rintro r L' ⟨rfl,rfl⟩;refine⟨[],⟨by simp,by simp,by simp,by simp,by simp⟩,?_⟩;simp only[qad];simp[kcs,hki,hk,e0,e1,hi8,qaY s h8];have hrow:=qkN s h8 hi zPT;simp only[zPT]at hrow;cases ao with
  | false =>
   rw[if_pos (.inl rfl)]at hR;subst hR;simp
  | true =>
   cases bo with
   | false =>
    rw[if_pos (.inr rfl)]at hR;subst hR;simp
   | true =>
    rw[if_neg (by simp)]at hR;subst hR;simp[hrow,qGw];exact⟨by omega,rfl⟩
 ·rw[if_neg ht0]at hR;by_cases hx0:c.txg=1000000
  ·rw[if_pos hx0]at hR;subst hR;simp[qe0,CO.row,DK.row,hki,hk,e0,e1,kcs,qaY s h8,hi8,qjG s f1,ht0,hx0];omega
  ·rw[if_neg hx0]at hR;simp[qe0,CO.row,DK.row,hki,hk,e0,e1,kcs,qaY s h8,hi8,qjG s f1,ht0,hx0];refine⟨by omega,?_⟩;refine qac [(1000,.whole 8)] (by kernel_rfl) cb (by simp) (by simp) (by simp[kcs];exact qaa rfl (qaX _)) (by simp) (by simp) ?_;rintro r L' ⟨rfl,rfl⟩;refine⟨[],⟨by simp,by simp,by simp,by simp,by simp⟩,?_⟩;simp only[qad];obtain⟨X,hX⟩:∃ X,qdh d c text=X:=⟨_,rfl⟩;simp only[hX]at hR ⊢;obtain⟨xd,xa,xc⟩:=X;have e5:=qak (c.txg+1) (by omega) (by omega);have ct:=qqt xa text (c.txg+1) (by simp[maxLen];omega);simp only[PT.row]at ct;simp[e5];refine⟨fun q1=>?_,fun q1=>?_⟩
   ·simp only[q1,ne_eq,not_false_eq_true,if_true]at hR;subst hR;exact⟨rfl,⟨rfl,rfl,rfl⟩,⟨rfl,rfl,rfl,rfl,rfl,rfl,rfl⟩,rfl⟩
   ·simp only[q1,ne_eq,not_true_eq_false,if_false]at hR;refine ct.call ?_;simp;refine⟨fun q2=>?_,fun q2=>?_⟩
    ·rw[if_pos q2]at hR;subst hR;exact⟨rfl,⟨rfl,rfl,rfl⟩,⟨rfl,rfl,rfl,rfl,rfl,rfl,rfl⟩,rfl⟩
    ·rw[if_neg q2]at hR;obtain⟨A,hA⟩:∃ A,qbJ true (qhh (qbL xa text (c.txg+1))) (c.ddt,c.dirty,true)=A:=⟨_,rfl⟩;have r1:=hok (qhh (qbL xa text (c.txg+1))) rfl c true (by have:=hm.ddt;omega) (by have:=hm.sets;omega);rw[hA]at r1;have hAl:A.1.length≤1008:=by
      have:=qd7 true (qhh (qbL xa text (c.txg+1))) (c.ddt,c.dirty,true);rw[hA]at this;have:=hm.ddt;simp[qhh]at *
      omega
     obtain⟨B,hB⟩:∃ B,qbJ false (qhh old) (A.1,A.2.1,true)=B:=⟨_,rfl⟩;have r2:=hok (qhh old) rfl ⟨c.txg,c.sets,A.1,c.parts,A.2.1,c.safe,c.logn⟩ false (by simp only;omega) (by have:=hm.sets;simp only;omega);simp only[hB]at r2;unfold qfP at hR;simp only[hA,hB]at hR;obtain⟨al,ad,ao⟩:=A;obtain⟨bl,bd,bo⟩:=B;simp only[qe0,qhh,zPT,qGP,List.flatMap_nil,PT.row,qGj,qE5]at r1 r2;refine qac [(1000,.whole 8)] (by kernel_rfl) r1 (by simp) (by simp) (by simp[kcs];exact qaa rfl (qaX _)) (by simp) (by simp) ?_;rintro r L' ⟨rfl,rfl⟩;refine⟨[],⟨by simp,by simp,by simp,by simp,by simp⟩,?_⟩;simp only[qad];simp;refine qac [(1000,.whole 8)] (by kernel_rfl) r2 (by simp) (by simp) (by simp;exact qaa rfl (qaX _)) (by simp) (by simp) ?_;rintro r L' ⟨rfl,rfl⟩;refine⟨[],⟨by simp,by simp,by simp,by simp,by simp⟩,?_⟩;simp only[qad];simp[kcs,hki,hk,e0,e1,hi8,qaY s h8];have hrow:=qkN s h8 hi (qbL xa text (c.txg+1));cases ao with
     | false =>
      rw[if_pos (.inl rfl)]at hR;subst hR;simp
     | true =>
      cases bo with
      | false =>
       rw[if_pos (.inr rfl)]at hR;subst hR;simp
      | true =>
       rw[if_neg (by simp)]at hR;subst hR;simp[hrow,qGw];omega
theorem qyZ (d:DK) (hd:DkT d) (c:CO) (h:CoT c) (hm:CoM c) (k i:Nat) (hk:k<c.sets.length) (hi:i<8) (text:List UInt8) (ht:text.length≤1048576) (hx:0≤c.txg∧c.txg≤1000000) :
  CV prog 103 [.agg d.row,.agg c.row,.int .i64 k,.int .i64 i,.str text] (.tup [.agg (qcO d c k i text).1.row,.agg (qcO d c k i text).2.1.row,.int .i64 (qcO d c k i text).2.2]):=by
 refine CV.of_frz (qyY d hd c h hm k i hk hi text ht hx) ?_ (hca:=by simp[DK.row,qde]) (hcv:=by simp[DK.row,qde]);rintro r L' ⟨rfl,rfl⟩;refine⟨by simp,by simp,fun x hx=>by
  simp only[qFT,qF2,or_false]at hx;rcases hx with rfl;exact qaX _,?_⟩
 simp[qbj,DK.row,CO.row,qe0,kcs,qam]
def nmP (l:List CS) (n:List UInt8):Nat:=(l.takeWhile fun x=>Op.bytesLess x.name n).length
theorem qqY (l:List CS) (n:List UInt8):nmP l n=atP (l.map csB) n:=by
 unfold nmP atP
 induction l with
 | nil=>rfl
 | cons x r ih =>
  simp only[qEV,qGR];have:(csB x).name=x.name:=rfl;rw[this];split
  ·simpa using ih
  ·rfl
def dnB (c:CO) (op:BO):Int:=(doB (c.sets.map csB) op).2
theorem qu0 {bs:List BS} {n:List UInt8} (h:atB bs n=true):atP bs n<bs.length:=by
 obtain⟨u,hu,_⟩:=qdP h;exact(qE1.1 hu).1
theorem qom {c:CO} {op:BO} (h:dnB c op=0):(op.kind=1∨op.kind=2∨op.kind=3∨op.kind=4∨op.kind=5∨op.kind=6)∧(op.kind≠1→nmP c.sets op.a<c.sets.length) ∧
  (op.kind=6→nmP c.sets op.b<c.sets.length)∧(op.kind=3→0≤op.i∧op.i<8∧op.text.length≤24):=by
 unfold dnB doB at h;rw[qqY,qqY,← qFx (f:=csB)];by_cases h1:op.kind=1
 ·exact⟨.inl h1,by omega,by omega,by omega⟩
 rw[if_neg h1]at h;by_cases h2:op.kind<1∨6<op.kind
 ·rw[if_pos h2]at h;simp at h
 rw[if_neg h2]at h;cases h3:atB (c.sets.map csB) op.a with
 | false=>rw[if_pos h3]at h;simp at h
 | true =>
  rw[if_neg (by simp[h3])]at h;have h4:=qu0 h3;obtain⟨t,ht,_⟩:=qdP h3;rw[ht]at h;simp only at h;refine⟨by omega,fun _=>h4,fun h6=>?_,fun h6=>?_⟩
  ·rw[if_neg (by omega),if_neg (by omega),if_pos h6]at h;unfold qcX at h;rw[ht]at h;simp only at h;cases h5:atB (c.sets.map csB) op.b with
   | false=>rw[if_pos h5]at h;simp at h
   | true=>exact qu0 h5
  ·rw[if_neg (by omega),if_pos h6]at h;unfold qhf at h;rw[ht]at h;simp only at h;split at h
   ·simp at h
   ·omega
theorem qqF (c:CO) (root:Int):(qcc c root).length≤1+c.ddt.length+c.sets.length+c.parts.length:=by
 have h1:∀ (bs l:List Int),(qcN l bs).length≤l.length+bs.length:=fun bs=>by
  induction bs with
  | nil=>intro l;simp[qcN]
  | cons a r ih =>
   intro l;rw[qee];have:=ih (qfN l a);have h2:(qfN l a).length≤l.length+1:=by
    unfold qfN;split
    ·omega
    ·simp;omega
   simp only[qEN];omega
 have h2:(qfN [] root).length≤1:=by
  unfold qfN;split <;> simp
 unfold qcc;have a1:=h1 (c.ddt.map DE.ea) (qfN [] root);have a2:=h1 (c.sets.map fun s=>s.home.pa) (qcN (qfN [] root) (c.ddt.map DE.ea));have a3:=h1 (c.parts.map PT.pa) (qcN (qcN (qfN [] root) (c.ddt.map DE.ea)) (c.sets.map fun s=>s.home.pa));simp only[qFx]at a1 a2 a3;omega
theorem qgR {d:DK} {c:CO} (h:CoT c) (hz:(qbo d c).2.2=0):qbu d=true∧qan c=true∧qbu (qbo d c).1=true∧(qbo d c).1.s0.length=d.s0.length∧CoT (qbo d c).2.1∧CoM (qbo d c).2.1∧(qbo d c).2.1.txg=c.txg+1∧c.txg<1000000 ∧
  (qbo d c).2.1.logn=0∧(qbo d c).2.1.sets.length=c.sets.length:=by
 unfold qbo at hz ⊢;by_cases h1:qbu d=false∨qan c=false∨d.s0.length≤13
 ·rw[if_pos h1]at hz;simp at hz
 rw[if_neg h1]at hz ⊢;by_cases h2:qc8 d c=false
 ·rw[if_pos h2]at hz;simp at hz
 rw[if_neg h2]at hz ⊢;have hd:qbu d=true:=by cases hx:qbu d <;> simp_all
 have hc:qan c=true:=by cases hx:qan c <;> simp_all
 obtain⟨hm,k⟩:=qbS hc;have ht:c.txg<1000000:=by
  cases hx:qc8 d c with
  | false=>exact absurd hx h2
  | true =>
   simp only[qc8,Bool.and_eq_true,decide_eq_true_eq]at hx;exact hx.1
 have b1:=qiW hd c;obtain⟨b2,b3⟩:=qoz hd h hm;by_cases h3:(qdY d c).2.2≠0
 ·rw[if_pos h3]at hz;exact absurd hz h3
 rw[if_neg h3]at hz ⊢;have f1:=qgc b1.1;have f2:=qb2 f1.1 (1+(c.txg+1) % 4) (qa3 (c.txg+1) (qao d c).2.2);have f3:=qgc f2.1;have hsl:(qao d c).2.1.sets.length=c.sets.length:=qfS _ _ _;have hr:=qqF (qao d c).2.1 (qao d c).2.2.pa;have e1:=b3.sets;have e2:=b3.ddt;have e3:=b3.parts;unfold qdY at hz ⊢;by_cases q1:(qao d c).1.ok=false
 ·rw[if_pos q1]at hz;simp at hz
 rw[if_neg q1]at hz ⊢;by_cases q2:(qhd (qbz (qao d c).1.d) (c.txg+1) (qao d c).2.2).2=false
 ·rw[if_pos q2]at hz;simp at hz
 rw[if_neg q2];unfold qhd;exact⟨hd,hc,f3.1,by rw[f3.2.1,f2.2,f1.2.1,b1.2],⟨b2.sets,b2.ddt,b2.parts,by simp only;omega,b2.m8,b2.nm⟩,⟨b3.sets,b3.ddt,b3.parts⟩,rfl,ht,rfl,hsl⟩
theorem qsg {d:DK} (hd:qbu d=true) (c:CO) (k i:Nat) (text:List UInt8):qbu (qcO d c k i text).1=true∧(qcO d c k i text).1.s0.length=d.s0.length∧(qcO d c k i text).2.1.logn=c.logn:=by
 have hb:qbu (qdh d c text).1=true∧(qdh d c text).1.s0.length=d.s0.length:=by
  unfold qdh;split
  ·exact⟨hd,rfl⟩
  split
  ·exact⟨hd,rfl⟩
  split
  ·exact⟨hd,rfl⟩
  ·exact qb2 hd _ _
 have hg:∀ (x:DK) (s:CS) (old now:PT),qbu x=true∧x.s0.length=d.s0.length→qbu (qfP d x c k i s old now).1=true∧(qfP d x c k i s old now).1.s0.length=d.s0.length∧(qfP d x c k i s old now).2.1.logn=c.logn:=fun x s old now hx=>by
  unfold qfP;simp only;split
  ·exact⟨hd,rfl,rfl⟩
  ·exact⟨hx.1,hx.2,rfl⟩
 unfold qcO;split
 ·exact⟨hd,rfl,rfl⟩
 simp only;split
 ·exact hg _ _ _ _ ⟨hd,rfl⟩
 split
 ·exact⟨hd,rfl,rfl⟩
 split
 ·exact⟨hd,rfl,rfl⟩
 split
 ·exact⟨hb.1,hb.2,rfl⟩
 ·exact hg _ _ _ _ hb
structure PO where
 d:DK
 c:CO
 up:Bool
deriving DecidableEq,Inhabited
def PO.row (p:PO):List AV:=p.d.row++(p.c.row++[.bool p.up])
theorem qkj:qiz (.agg [.nils,.nils,.nils,.int .i64 0,.nils,.nils,.nils,.bool false,.nils,.int .i64 0,.bool false]) (.agg (PO.row ⟨zDK,zK,false⟩)) :=
 qkl (.cons (qa9 1) (.cons (qa9 1) (.cons (qa9 3) (.cons (qaF _) (.cons (qa9 31) (.cons (qa9 3) (.cons (qa9 3) (.cons (qaF _) (.cons (qa9 1) (.cons (qaF _) (.cons (qaF _) .nil)))))))))))
abbrev L2:=List (List UInt8)×List (List UInt8)
theorem qyr:DkT zDK:=by constructor <;> simp[zDK]
theorem qDn:CoT zK:=by constructor <;> simp[zK]
theorem qrp (s:List UInt8) (hs:s.length≤1048576):CV prog 175 [.str s] (.bool (decide (420<s.length))):=by
 refine cvx func175 [] ntmps175 rfl rfl rfl ?_;simp
 try omega
def qmw (n:Nat) (side at':Int):Bool:=decide (0≤side) && decide (side≤1) && decide (0≤at') && decide (at'<n)
theorem qhJ (d:DK) (h:DkT d) (side at':Int):CV prog 178 [.agg d.row,.int .i64 side,.int .i64 at'] (.bool (qmw d.s0.length side at')):=by
 have:=h.l0;have e1:=qak ((d.s0.length:Int)-1) (by omega) (by omega);refine cvx func178 [] ntmps178 rfl rfl rfl ?_ (hca:=by simp[DK.row]);simp[DK.row];refine(qcE ..).call ?_;cases hw:wiB side 0 1 with
 | false =>
  simp;simp only[qmw,wiB]at *
  rw[hw];rfl
 | true =>
  simp[e1];refine(qcE ..).call ?_;simp;simp only[qmw,wiB,Bool.and_eq_true,decide_eq_true_eq]at *
  have:(at'≤(d.s0.length:Int)-1)↔at'<d.s0.length:=by omega
  simp[hw,this]
theorem qCg:RowT LT.row 29 115 3:=⟨qDo,⟨_,_,_,qyE⟩,by simp[LT.row]⟩
abbrev qC7 (d:DK):Ob:=⟨3,[d.row]⟩
theorem qz1 (d:DK) (h:DkT d) (w:LT) (hw:w.lx.length≤1048576):CW prog 177 [.agg w.row,.ptr 1000 0 0] (qC7 d) (.bool (!qa6 d w.ls w.la w.lx)):=by
 have c1:=qhJ d h w.ls w.la;have c2:=qrp w.lx hw;simp only[DK.row]at c1;refine cwx func177 [] ntmps177 rfl rfl rfl ?_ (hco:=by simp[clR,DK.row]);simp[DK.row,LT.row];refine c1.call ?_;cases hs:qmw d.s0.length w.ls w.la with
 | false =>
  simp;simp only[qmw,qa6]at *
  rw[hs];rfl
 | true =>
  simp;refine c2.call ?_;simp;simp only[qmw,qa6]at *
  rw[hs];by_cases g:w.lx.length≤420
  ·simp[g] <;> omega
  ·simp[g] <;> omega
theorem qz0 (d:DK) (h:DkT d) (l:List LT) (hl:l.length≤1048576) (ht:∀ w∈l,w.lx.length≤1048576):CW prog 176 [.lst 3 (l.map LT.row),.fn 177 [.ptr 1000 0 0]] (qC7 d) (.bool (l.any fun w=>!qa6 d w.ls w.la w.lx)):=by
 have key:CW prog 254 [.lst 3 (l.map LT.row),.fn 177 [.ptr 1000 0 0]] (qC7 d) (.int .i64 (ixR (fun w=>!qa6 d w.ls w.la w.lx) 0 l)):=by
  refine cwx func254 [] ntmps254 rfl rfl rfl ?_ (hco:=by simp[clR,DK.row]);exact qz3 qCg _ l (by omega) (fun x hx=>rfl) (by simp[clR,DK.row]) fun x hx=>qz1 d h x (ht x hx)
 refine cwx func176 [] ntmps176 rfl rfl rfl ?_ (hco:=by simp[clR,DK.row]);simp;refine key.call 1000 (by simp) (by simp[LT.row]) ?_;simp[qn9]
theorem qox (l:List (List UInt8)) (hl:l.length≤1048576) (ht:∀ x∈l,x.length≤1048576):CV prog 174 [.lst 1 (l.map qae),.fn 175 []] (.bool (l.any fun x=>decide (420<x.length))) :=
 qhu (qrW (fun x=>decide (420<x.length)) 175 l (by omega) (by kernel_rfl) fun s hs=>(qrp s (ht s hs)).c)
theorem qAB (d:DK):qbu d=(wiB d.s0.length 1 120 && decide (d.s1.length=d.s0.length) && !(d.s0.any fun x=>decide (420<x.length)) && !(d.s1.any fun x=>decide (420<x.length)) && (decide (d.late.length≤600) && !(d.late.any fun w=>!qa6 d w.ls w.la w.lx))):=by
 have e:∀ l:List (List UInt8),(!(l.any fun x=>decide (420<x.length)))=l.all fun x=>decide (x.length≤420):=fun l=>by
  induction l with
  | nil=>rfl
  | cons x r ih =>
   simp only[qGt,qGH,Bool.not_or,ih]
   congr 1
   by_cases g:x.length≤420
   ·simp[g] <;> omega
   ·simp[g] <;> omega
 have e2:(!(d.late.any fun w=>!qa6 d w.ls w.la w.lx))=d.late.all fun w=>qa6 d w.ls w.la w.lx:=by
  induction d.late with
  | nil=>rfl
  | cons x r ih=>simp only[qGt,qGH,Bool.not_or,ih,Bool.not_not]
 rw[e,e,e2];unfold qbu wiB;have e3:decide ((1:Int)≤(d.s0.length:Int))=decide (1≤d.s0.length):=by simp;omega
 have e4:decide ((d.s0.length:Int)≤120)=decide (d.s0.length≤120):=by simp;omega
 rw[e3,e4];cases decide (1≤d.s0.length) <;> cases decide (d.s0.length≤120) <;> cases decide (d.s1.length=d.s0.length) <;> cases decide (d.late.length≤600) <;> simp
theorem qhK (d:DK) (h:DkT d):CV prog 86 [.agg d.row] (.bool (qbu d)):=by
 rw[qAB];have h0:=h.l0;have h1:=h.l1;have h2:=h.l2;have c1:=qox d.s0 h0 h.t0;have c2:=qox d.s1 h1 h.t1;have c3:=qz0 d h d.late h2 h.t2;have c0:=qcE d.s0.length 1 120;generalize hA:wiB d.s0.length 1 120=A at *
 generalize hB:(d.s0.any fun x=>decide (420<x.length))=B at *
 generalize hC:(d.s1.any fun x=>decide (420<x.length))=C at *
 generalize hD:(d.late.any fun w=>!qa6 d w.ls w.la w.lx)=D at *
 refine cvx func86 [] ntmps86 rfl rfl rfl ?_ (hca:=by simp[DK.row]);simp[DK.row];refine c0.call ?_;cases A with
 | false=>simp
 | true =>
  by_cases g:d.s1.length=d.s0.length
  ·simp[g];refine c1.call ?_;cases B with
   | true=>simp
   | false =>
    simp;refine c2.call ?_;cases C with
    | true=>simp
    | false =>
     by_cases g2:d.late.length≤600
     ·simp[g2,show(d.late.length:Int)≤600 by omega];refine c3.call 1 (by simp[DK.row]) (by simp[LT.row]) ?_;simp
     ·simp[g2,show ¬ (d.late.length:Int)≤600 by omega]
  ·simp[g,show ¬ (d.s1.length:Int)=d.s0.length by omega]
theorem qri (d:DK) (h:DkT d) (side at':Int) (hs:side=0∨side=1) (ha:0≤at'∧at'<d.s0.length) (h1:d.s1.length=d.s0.length):CV prog 95 [.agg d.row,.int .i64 side,.int .i64 at'] (.str (qdU d side at')):=by
 obtain⟨R,hR⟩:∃ R,qdU d side at'=R:=⟨_,rfl⟩;rw[hR];have h0:=h.l0;have h2:=h.l2;refine cvx func95 [] ntmps95 rfl rfl rfl ?_ (hca:=by simp[DK.row]);have e0:=qak ((d.late.length:Int)-1) (by omega) (by omega);simp[DK.row,e0];refine qaQ (X:=Nat) [1,2,3,7] [(3,3)] (fun i=>[(7,.int .i64 ((i:Int)-1))]) (fun _=>[]) (fun i=>i) (fun i=>i≤d.late.length∧(d.late.drop i).all (fun w=>!qdd side at' w)=true) d.late.length (by simp) ?_ (he:=by simp[qah]);rintro i ⟨hi,hd⟩;cases i with
 | zero =>
  have hf:d.late.reverse.find? (qdd side at')=none:=by
   rw[qG8];intro y hy;rw[qG9]at hy;simpa using qEI.1 hd y hy
  unfold qdU at hR;rw[hf]at hR;have ha0:at'.toNat<d.s0.length:=by omega
  have ha1:at'.toNat<d.s1.length:=by omega
  have ha1':at'<d.s1.length:=by omega
  rcases hs with rfl | rfl
  ·have hx:d.s0[at'.toNat]?=some R:=by
    rw[qEv ha0];simpa [qoI,qEv ha0]using hR
   have hx0:=(qE1.1 hx).2;simp[qah,ha.1,ha.2,ha0,hx,hx0,qae]
  ·have hx:d.s1[at'.toNat]?=some R:=by
    rw[qEv ha1];simpa [qoI,qEv ha1]using hR
   have hx0:=(qE1.1 hx).2;simp[qah,ha.1,ha1',ha1,hx,hx0,qae]
 | succ k =>
  have hk:k<d.late.length:=by omega
  obtain⟨w,hw⟩:∃ w,d.late[k]?=some w:=⟨_,qEv hk⟩;have hw0:=(qE1.1 hw).2;have e1:((k+1:Nat):Int)-1=k:=by omega
  have e2:(0:Int)≤k:=by omega
  have e3:(k:Int)<d.late.length:=by omega
  have e4:=qak ((k:Int)-1) (by omega) (by omega);have hf:=qoi (qdd side at') hw hd;have hdk:(d.late.drop k).all (fun w=>!qdd side at' w)=(!qdd side at' w && (d.late.drop (k+1)).all (fun w=>!qdd side at' w)):=by
   rw[qEA hk,hw0,qGH]
  have hnx:qdd side at' w=false→∀ x∈d.late.drop k,qdd side at' x=false:=fun hl x hx=>by
   rw[hl,hd]at hdk;simpa using qEI.1 hdk x hx
  have hlx:qdd side at' w=true→w.lx=R:=fun hl=>by
   rw[if_pos hl]at hf;unfold qdU at hR;rw[hf]at hR;exact hR
  simp only[e1];simp[qah,LT.row,hk,hw,hw0,e2,e3,e4];refine⟨fun q1=>⟨fun q2=>hlx (by simp[qdd,q1,q2]),fun q2=>nx k [(3,3)] ⟨by omega,hnx (by simp[qdd,q2])⟩ (h4:=by simp[qah,e4])⟩,fun q1=>nx k [(3,3)] ⟨by omega,hnx (by simp[qdd,q1])⟩ (h4:=by simp[qah,e4])⟩
theorem qCN (d:DK) (hd:qbu d=true) (p:PT) (side:Int) (hs:side=0∨side=1):CV prog 94 [.agg d.row,.agg p.row,.int .i64 side] (.bool (qa6 d side p.pa [] && decide ((smB (qdU d side p.pa):Int)=p.ps))):=by
 have h:=qec hd;have c1:=qhJ d h side p.pa;have hse:qa6 d side p.pa []=qmw d.s0.length side p.pa:=by simp[qa6,qmw]
 simp only[DK.row]at c1;refine cvx func94 [(1,[zJ 0 [3] [],zJ 1 [] [3],zJ 2 [] [3],zJ 3 [4] [3],zI 4,zI 5,zJ 6 [3] [],zJ 7 [] [3],zJ 8 [] [3],zJ 9 [4] [3],zJ 12 [] [3,4],zJ 13 [4] [3,4],zJ 10 [] [4],zJ 11 [] [4],zI 14,zI 15,zI 16])] ntmps94 rfl rfl rfl ?_ (hca:=by simp[DK.row,PT.row]);simp[DK.row,PT.row];refine c1.call ?_;rw[hse];cases hb:qmw d.s0.length side p.pa with
 | false=>simp
 | true =>
  obtain⟨n1,n2,n3⟩:=thereB_iff.1 (hse.trans hb);have c2:=qri d h side p.pa n1 n2 (qbO hd).2.2.1;have c3:CV prog 201 [.str (qdU d side p.pa)] (.int .i64 (smB (qdU d side p.pa):Nat)):=qs2 _ (by have:=qeM hd side p.pa;simp[maxLen];omega);simp only[DK.row]at c2;simp;refine c2.call ?_;simp;refine c3.call ?_;simp;by_cases q:(smB (qdU d side p.pa):Int)=p.ps <;> simp[q]
theorem qsw {d:DK} (hd:qbu d=true) {p:PT} (hp:qaK p=true) (h0:0<p.pa) (side:Int):qaT d p side=(qa6 d side p.pa [] && decide ((smB (qdU d side p.pa):Int)=p.ps)):=by
 unfold qaT qbI;cases h:qa6 d side p.pa [] <;> simp[hd,hp,h0]
theorem qf8 (d:DK) (h:DkT d) (p:PT):CV prog 38 [.agg d.row,.agg p.row] (.tup [.str (qai d p).1,.int .i64 (qai d p).2]):=by
 obtain⟨R,hR⟩:∃ R,qai d p=R:=⟨_,rfl⟩;rw[hR];unfold qai at hR;have c1:=qhK d h;have c2:=qoQ p;simp only[DK.row,PT.row]at c1 c2;refine cvx func38 [] ntmps38 rfl rfl rfl ?_ (hca:=by simp[DK.row,PT.row]);have hz:(qaK p && decide (p.pa=0))=(decide (p.pa=0) && decide (p.ps=0) && decide (p.pb=0)):=by
  unfold qaK;by_cases g:p.pa=0 <;> simp[g]
 rw[hz]at hR;by_cases q0:p.pa=0∧p.ps=0∧p.pb=0
 ·rw[if_pos (by simp[q0])]at hR;subst hR;obtain⟨a1,a2,a3⟩:=q0;simp[DK.row,PT.row,a1,a2,a3]
 ·rw[if_neg (by simpa [and_assoc]using q0)]at hR;have q0':p.pa=0→p.ps=0→¬ p.pb=0:=fun a b c=>q0 ⟨a,b,c⟩;have hno:qbu d=false∨qaq p=false→R=([],2):=fun hb=>by
   rw[← hR];have e:∀ side,qaT d p side=false:=fun side=>by
    cases hx:qaT d p side with
    | false=>rfl
    | true =>
     obtain⟨m1,m2,m3,_⟩:=qdq hx;rcases hb with hb | hb
     ·rw[m1]at hb;cases hb
     ·simp[qaq,m2]at hb;omega
   simp[e]
  simp[DK.row,PT.row];refine⟨fun a b c=>absurd c (q0' a b),fun hne=>?_⟩;clear hne;refine c1.call ?_;cases hok:qbu d with
  | false =>
   have:=hno (.inl hok);subst this;simp
  | true =>
   simp;refine c2.call ?_;cases hre:qaq p with
   | false =>
    have:=hno (.inr hre);subst this;simp
   | true =>
    have hp:qaK p=true:=by simp[qaq]at hre;exact hre.1
    have h0:0<p.pa:=by
     simp[qaq]at hre;unfold qaK at hp;rw[if_neg hre.2]at hp;simp at hp;omega
    have hsd:=qsw hok hp h0;have key:∀ j:Nat,j<2→qaT d p j=true→(∀ k:Nat,k<j→qaT d p k=false)→R=(qdU d j p.pa,0):=fun j hj h1 h2=>by
     rw[← hR];rcases(show j=0∨j=1 by omega)with rfl | rfl
     ·have h1':qaT d p 0=true:=h1;simp[h1']
     ·have h2':qaT d p 0=false:=h2 0 (by omega);have h1':qaT d p 1=true:=h1;simp[h1',h2']
    have key2:qaT d p 0=false→qaT d p 1=false→R=([],2):=fun h1 h2=>by rw[← hR,h1,h2];simp
    simp;refine qaQ (X:=Nat) [2,3,4,5,16] [(2,2),(3,3)] (fun i=>[(16,.int .i64 i)]) (fun _=>[]) (fun i=>2-i) (fun i=>i≤2∧∀ k:Nat,k<i→qaT d p k=false) 0 (by simp) ?_ (he:=by simp[qah]);rintro i ⟨hi,hf⟩;by_cases h2:i=2
    ·subst h2;have:=key2 (hf 0 (by omega)) (hf 1 (by omega));simp[qah,this]
    ·have h2':i<2:=by omega
     have h2i:(i:Int)<2:=by omega
     have e2:=qak ((i:Int)+1) (by omega) (by omega);have c4:=qCN d hok p i (by omega);rw[← hsd]at c4;simp only[DK.row,PT.row]at c4;simp[qah,h2i];refine c4.call ?_;cases hb:qaT d p i with
     | true =>
      have hk:=key i h2' hb hf;obtain⟨m1,m2,m3,m4,m5⟩:=qdq hb;obtain⟨n1,n2,n3⟩:=thereB_iff.1 m4;have c5:=qri d h i p.pa n1 n2 (qbO m1).2.2.1;simp only[DK.row]at c5;simp;refine c5.call ?_;simp[hk]
     | false =>
      simp;exact nx (i+1) [(2,2),(3,3)] ⟨by omega,fun k hk=>by
       rcases(show k<i∨k=i by omega)with h | rfl
       ·exact hf k h
       ·exact hb⟩ (h4:=by simp[qah,e2])
theorem qmN (at':Int) (text:List UInt8) (birth:Int) (ht:text.length≤maxLen):CV prog 221 [.int .i64 at',.str text,.int .i64 birth] (.agg (qbL at' text birth).row):=by
 have c1:CV prog 201 [.str text] (.int .i64 (smB text:Nat)):=qs2 text ht;have c2:=qoQ ⟨at',smB text,birth⟩;have hp:(at'<1∨qaK ⟨at',smB text,birth⟩=false)↔qaq ⟨at',smB text,birth⟩=false:=by
  unfold qaq qaK;simp only;by_cases g:at'=0
  ·simp[g]
  ·by_cases g2:at'<1
   ·simp[g,g2];omega
   ·simp[g,g2]
 unfold qbL;simp only[PT.row]at c2;generalize qaq ⟨at',smB text,birth⟩=B at *
 refine cvx func221 [] ntmps221 rfl rfl rfl ?_ (hcv:=by split <;> simp[PT.row]);simp;refine c1.call ?_;simp;refine c2.call ?_;cases B with
 | false =>
  rw[if_pos (hp.2 rfl)];simp[PT.row]
 | true =>
  rw[if_neg (fun h=>by have:=hp.1 h;cases this)];simp[PT.row]
theorem qzS (w:LT):∀ y∈w.row,qdg y=true:=by simp[LT.row]
theorem quT (l:List (List UInt8)) (hl:l.length≤1048576):ACall prog 213 [.lst 1 (l.map qae)] [] (fun r L'=>r=.sl 7 0 l.length∧L'=[(7,qaj l)]):=by
 have key:ACall prog 213 [.lst 1 (l.map qae)] [] (fun r L'=>(l=[]∧r=.nils∧L'=[])∨(r=.sl 7 0 l.length∧L'=[(7,qaj l)])):=by
  refine acx func213 [] ntmps213 rfl rfl rfl ?_;by_cases h:l=[]
  ·subst h;simp[qaj]
  ·simp[h,qaj,qae];omega
 refine ACall.nils (id:=7) (sz:=1) key (by simp) ?_;rintro r L' (⟨rfl,rfl,rfl⟩ | ⟨rfl,rfl⟩)
 ·exact .inr ⟨rfl,rfl,rfl⟩
 ·exact .inl ⟨rfl,rfl⟩
theorem qDb (l:List LT) (hl:l.length≤1048576):ACall prog 214 [.lst 3 (l.map LT.row)] [] (fun r L'=>r=.sl 7 0 l.length∧L'=[(7,qbZ l)]):=by
 have key:ACall prog 214 [.lst 3 (l.map LT.row)] [] (fun r L'=>(l=[]∧r=.nils∧L'=[])∨(r=.sl 7 0 l.length∧L'=[(7,qbZ l)])):=by
  refine acx func214 [] ntmps214 rfl rfl rfl ?_;by_cases h:l=[]
  ·subst h;simp[qbZ]
  ·simp[h,qbZ];exact⟨by omega,fun x _ y hy=>qzS x y hy⟩
 refine ACall.nils (id:=7) (sz:=3) key (by simp) ?_;rintro r L' (⟨rfl,rfl,rfl⟩ | ⟨rfl,rfl⟩)
 ·exact .inr ⟨rfl,rfl,rfl⟩
 ·exact .inl ⟨rfl,rfl⟩
theorem qDd (l:List CS) (hl:l.length≤1048576):ACall prog 196 [.lst 31 (l.map CS.row)] [] (fun r L'=>r=.sl 7 0 l.length∧L'=[(7,kcs l)]):=by
 have key:ACall prog 196 [.lst 31 (l.map CS.row)] [] (fun r L'=>(l=[]∧r=.nils∧L'=[])∨(r=.sl 7 0 l.length∧L'=[(7,kcs l)])):=by
  refine acx func196 [] ntmps196 rfl rfl rfl ?_;by_cases h:l=[]
  ·subst h;simp[kcs]
  ·simp[h,kcs];exact⟨by omega,fun x _ y hy=>qgP x y hy⟩
 refine ACall.nils (id:=7) (sz:=31) key (by simp) ?_;rintro r L' (⟨rfl,rfl,rfl⟩ | ⟨rfl,rfl⟩)
 ·exact .inr ⟨rfl,rfl,rfl⟩
 ·exact .inl ⟨rfl,rfl⟩
theorem qxL (l:List DE) (hl:l.length≤1048576):ACall prog 197 [.lst 3 (l.map DE.row)] [] (fun r L'=>r=.sl 7 0 l.length∧L'=[(7,qaH l)]):=by
 have key:ACall prog 197 [.lst 3 (l.map DE.row)] [] (fun r L'=>(l=[]∧r=.nils∧L'=[])∨(r=.sl 7 0 l.length∧L'=[(7,qaH l)])):=by
  refine acx func197 [] ntmps197 rfl rfl rfl ?_;by_cases h:l=[]
  ·subst h;simp[qaH]
  ·simp[h,qaH];omega
 refine ACall.nils (id:=7) (sz:=3) key (by simp) ?_;rintro r L' (⟨rfl,rfl,rfl⟩ | ⟨rfl,rfl⟩)
 ·exact .inr ⟨rfl,rfl,rfl⟩
 ·exact .inl ⟨rfl,rfl⟩
theorem qDa (l:List PT) (hl:l.length≤1048576):ACall prog 198 [.lst 3 (l.map PT.row)] [] (fun r L'=>r=.sl 7 0 l.length∧L'=[(7,kpt l)]):=by
 have key:ACall prog 198 [.lst 3 (l.map PT.row)] [] (fun r L'=>(l=[]∧r=.nils∧L'=[])∨(r=.sl 7 0 l.length∧L'=[(7,kpt l)])):=by
  refine acx func198 [] ntmps198 rfl rfl rfl ?_;by_cases h:l=[]
  ·subst h;simp[kpt]
  ·simp[h,kpt];omega
 refine ACall.nils (id:=7) (sz:=3) key (by simp) ?_;rintro r L' (⟨rfl,rfl,rfl⟩ | ⟨rfl,rfl⟩)
 ·exact .inr ⟨rfl,rfl,rfl⟩
 ·exact .inl ⟨rfl,rfl⟩
theorem qDc (l:List Int) (hl:l.length≤1048576):ACall prog 199 [.lst 1 (l.map qaf)] [] (fun r L'=>r=.sl 7 0 l.length∧L'=[(7,kin l)]):=by
 have key:ACall prog 199 [.lst 1 (l.map qaf)] [] (fun r L'=>(l=[]∧r=.nils∧L'=[])∨(r=.sl 7 0 l.length∧L'=[(7,kin l)])):=by
  refine acx func199 [] ntmps199 rfl rfl rfl ?_;by_cases h:l=[]
  ·subst h;simp[kin]
  ·simp[h,kin];omega
 refine ACall.nils (id:=7) (sz:=1) key (by simp) ?_;rintro r L' (⟨rfl,rfl,rfl⟩ | ⟨rfl,rfl⟩)
 ·exact .inr ⟨rfl,rfl,rfl⟩
 ·exact .inl ⟨rfl,rfl⟩
theorem qiC (d:DK) (h:DkT d):ACall prog 105 [.agg d.row] [] (fun r L'=>r=.agg [.sl 6 0 d.s0.length,.sl 10 0 d.s1.length,.sl 14 0 d.late.length]∧L'=[(6,qaj d.s0),(10,qaj d.s1),(14,qbZ d.late)]):=by
 have c1:=quT d.s0 h.l0;have c2:=quT d.s1 h.l1;have c3:=qDb d.late h.l2;refine acx func105 [(1,[zI 0,zI 1,zJ 2 [1] [],zJ 4 [] [1],zJ 5 [] [1],zJ 6 [1] [1],zJ 9 [] [1],zJ 10 [1] [1],zJ 3 [] [1],zJ 7 [] [1],zJ 8 [] [1],zI 11,zI 12,zI 13])] ntmps105 rfl rfl rfl ?_;simp[DK.row];refine qac [] (by kernel_rfl) c1 (by simp[qae]) (by simp) trivial (by simp) (by simp) ?_;rintro r L' ⟨rfl,rfl⟩;refine⟨[(7,6)],⟨by simp,by simp,by simp,by simp,by simp⟩,?_⟩;simp only[qad];simp;refine qac [] (by kernel_rfl) c2 (by simp[qae]) (by simp) trivial (by simp) (by simp) ?_;rintro r L' ⟨rfl,rfl⟩;refine⟨[(7,10)],⟨by simp,by simp,by simp,by simp,by simp⟩,?_⟩;simp only[qad];simp;refine qac [] (by kernel_rfl) c3 (by simp[LT.row]) (by simp) trivial (by simp) (by simp) ?_;rintro r L' ⟨rfl,rfl⟩;refine⟨[(7,14)],⟨by simp,by simp,by simp,by simp,by simp⟩,?_⟩;simp only[qad];simp
theorem qlJ (c:CO) (h:CoT c):ACall prog 92 [.agg c.row] [] (fun r L'=>r=qcy c 5 8 11 14∧L'=[(5,kcs c.sets),(8,qaH c.ddt),(11,kpt c.parts),(14,kin c.safe)]):=by
 have c1:=qDd c.sets h.sets;have c2:=qxL c.ddt h.ddt;have c3:=qDa c.parts h.parts;have c4:=qDc c.safe h.safe;refine acx func92 [(1,[zI 0,zJ 1 [1] [],zJ 3 [] [1],zJ 4 [1] [1],zJ 6 [] [1],zJ 7 [1] [1],zJ 9 [] [1],zJ 10 [1] [1],zJ 2 [] [1],zI 12,zJ 5 [] [1],zJ 8 [] [1],zI 11,zI 13,zI 14,zI 15,zI 16,zI 17,zI 18,zI 19])] ntmps92 rfl rfl rfl ?_;simp[CO.row];refine qac [] (by kernel_rfl) c1 (by simp[qa5]) (by simp) trivial (by simp) (by simp) ?_;rintro r L' ⟨rfl,rfl⟩;refine⟨[(7,5)],⟨by simp,by simp,by simp,by simp,by simp⟩,?_⟩;simp only[qad];simp;refine qac [] (by kernel_rfl) c2 (by simp[DE.row]) (by simp) trivial (by simp) (by simp) ?_;rintro r L' ⟨rfl,rfl⟩;refine⟨[(7,8)],⟨by simp,by simp,by simp,by simp,by simp⟩,?_⟩;simp only[qad];simp;refine qac [] (by kernel_rfl) c3 (by simp[PT.row]) (by simp) trivial (by simp) (by simp) ?_;rintro r L' ⟨rfl,rfl⟩;refine⟨[(7,11)],⟨by simp,by simp,by simp,by simp,by simp⟩,?_⟩;simp only[qad];simp;refine qac [] (by kernel_rfl) c4 (by simp[qaf]) (by simp) trivial (by simp) (by simp) ?_;rintro r L' ⟨rfl,rfl⟩;refine⟨[(7,14)],⟨by simp,by simp,by simp,by simp,by simp⟩,?_⟩;simp only[qad];simp[qcy]
def qfi (p:PO) (a0 a1 a2 b0 b1 b2 b3:Nat):List AV:=[.sl a0 0 p.d.s0.length,.sl a1 0 p.d.s1.length,.sl a2 0 p.d.late.length,.int .i64 p.c.txg,.sl b0 0 p.c.sets.length,.sl b1 0 p.c.ddt.length,.sl b2 0 p.c.parts.length,.bool p.c.dirty,.sl b3 0 p.c.safe.length,.int .i64 p.c.logn,.bool p.up]
def qcG (p:PO) (a0 a1 a2 b0 b1 b2 b3:Nat):List (Nat×Ob):=[(a0,qaj p.d.s0),(a1,qaj p.d.s1),(a2,qbZ p.d.late),(b0,kcs p.c.sets),(b1,qaH p.c.ddt),(b2,kpt p.c.parts),(b3,kin p.c.safe)]
theorem qAe (p:PO) (hd:DkT p.d) (hc:CoT p.c):ACall prog 54 [.agg p.row] [] (fun r L'=>r=.agg (qfi p 901 902 903 904 905 906 907)∧L'=qcG p 901 902 903 904 905 906 907):=by
 have c1:=qiC p.d hd;have c2:=qlJ p.c hc;simp only[DK.row,CO.row]at c1 c2;refine acx func54 [(1,[zI 0,zJ 1 [1] [],zJ 3 [] [1],zJ 4 [1] [1],zJ 6 [] [1],zJ 7 [1] [1],zJ 2 [] [1],zJ 5 [] [1],zI 8,zI 9])] ntmps54 rfl rfl rfl ?_;simp[PO.row,DK.row,CO.row];refine qac [] (by kernel_rfl) c1 (by simp[qae,LT.row]) (by simp) trivial (by simp) (by simp) ?_;rintro r L' ⟨rfl,rfl⟩;refine⟨[(6,901),(10,902),(14,903)],⟨by simp,by simp,by simp,by simp,by simp⟩,?_⟩;simp only[qad];simp;refine qac [] (by kernel_rfl) c2 (by simp[qa5,DE.row,PT.row,qaf]) (by simp) trivial (by simp) (by simp) ?_;rintro r L' ⟨rfl,rfl⟩;refine⟨[(5,904),(8,905),(11,906),(14,907)],⟨by simp,by simp,by simp,by simp,by simp⟩,?_⟩;simp only[qad];simp[qcy,qfi,qcG]
def qcq (d:DK) (a0 a1 a2:Nat):List AV:=[.sl a0 0 d.s0.length,.sl a1 0 d.s1.length,.sl a2 0 d.late.length]
def qb6 (d:DK) (a0 a1 a2:Nat):List (Nat×Ob):=[(1000,⟨3,[qcq d a0 a1 a2]⟩),(a0,qaj d.s0),(a1,qaj d.s1),(a2,qbZ d.late)]
def qDz (xs:List Nat) (R:DK×Bool) (r:AV) (L':List (Nat×Ob)):Prop:=∃ id,id∈xs∧r=.bool R.2∧L'=qb6 R.1 1001 1002 id
@[simp] theorem qzt (ρ:Nat→Option Plc) (d:DK) (a0 a1 a2:Nat):qbG ρ ⟨3,[qcq d a0 a1 a2]⟩=⟨3,[qci ρ (qcq d a0 a1 a2)]⟩:=rfl
theorem qcm (l:List LT):clR (qbZ l).els=true:=by simp[clR,qbZ,LT.row]
theorem qrg (d:DK) (hd:qbu d=true) (side at':Int) (text:List UInt8) (ht:text.length≤1048576) :
  ACall prog 288 [.ptr 1000 0 0,.int .i64 side,.int .i64 at',.str text] (qb6 d 1001 1002 1003)
   (fun r L'=>r=.bool (qaV d side at' text).2∧L'=qb6 (qaV d side at' text).1 1001 1002 903):=by
 obtain⟨R,hR⟩:∃ R,qaV d side at' text=R:=⟨_,rfl⟩;rw[hR];unfold qaV at hR;rw[if_neg (by simp[hd])]at hR;have h:=qec hd;obtain⟨g1,g2,g3,g4,_⟩:=qbO hd;have c1:=qhJ d h side at';have c2:=qrp text ht;simp only[DK.row]at c1;have hth:qa6 d side at' text=(qmw d.s0.length side at' && !decide (420<text.length)):=by
  simp only[qa6,qmw];by_cases g:text.length≤420
  ·have:¬ 420<text.length:=by omega
   simp[g,this]
  ·have:420<text.length:=by omega
   simp[g,this]
 have key:ACall prog 288 [.ptr 1000 0 0,.int .i64 side,.int .i64 at',.str text] (qb6 d 1001 1002 1003)
   (qDz [1003,38] R):=by
  refine acx func288 [] ntmps288 rfl rfl rfl ?_ (hL:=by simp[qb6]);simp[qb6,qcq];refine c1.view (by simp[qb1,mtA,qaj,qbZ,qam,qae,LT.row]) ?_;cases hs:qmw d.s0.length side at' with
  | false =>
   rw[if_pos (.inl (by rw[hth,hs];rfl))]at hR;subst hR;simp;exact⟨qb6 d 1001 1002 1003,by simp[qb6,qcq],1003,by simp,rfl,rfl⟩
  | true =>
   simp;refine c2.call ?_;by_cases hl:420<text.length
   ·rw[if_pos (.inl (by rw[hth,hs];simp[hl]))]at hR;subst hR;simp[hl];exact⟨qb6 d 1001 1002 1003,by simp[qb6,qcq],1003,by simp,rfl,rfl⟩
   ·by_cases hn:d.late.length=600
    ·rw[if_pos (.inr hn)]at hR;subst hR;simp[hl,hn];exact⟨qb6 d 1001 1002 1003,by simp[qb6,qcq,hn],1003,by simp,rfl,rfl⟩
    ·rw[if_neg (by rw[hth,hs];simp[hl,hn])]at hR;subst hR;have hn':¬ (600:Int)≤d.late.length:=by omega
     simp[hl,hn',qbZ,LT.row];refine⟨by omega,qb6 ⟨d.s0,d.s1,d.late++[⟨side,at',text⟩]⟩ 1001 1002 38,?_,38,by simp,rfl,rfl⟩;simp[qb6,qcq,qbZ,qam,LT.row]
 refine key.can ?_;rintro r L' ⟨id,hid,rfl,rfl⟩;refine⟨[(1000,1000),(1001,1001),(1002,1002),(id,903)],?_,?_,?_,?_,?_⟩
 all_goals
  simp only[qFT,qF2,or_false]at hid;rcases hid with rfl | rfl
 all_goals simp[qb6,qcq,qah]
theorem qiQ {d:DK} (h:qbu d=true) (side a:Int) (t:List UInt8):qbu (qaV d side a t).1=true∧(qaV d side a t).1.s0.length=d.s0.length∧((qaV d side a t).2=false→(qaV d side a t).1=d):=by
 have h2:qav d a t=qav d a t:=rfl;obtain⟨g1,g2,g3,g4,g5,g6,g7⟩:=qbO h;unfold qaV;rw[if_neg (by simp[h])];split
 ·exact⟨h,rfl,fun _=>rfl⟩
 ·rename_i hn;refine⟨?_,rfl,fun h=>by cases h⟩;have hth:qa6 d side a t=true:=by
   cases hx:qa6 d side a t with
   | true=>rfl
   | false=>exact absurd (.inl hx) hn
  have hnl:¬ d.late.length=600:=fun e=>hn (.inr e);simp only[qbu,Bool.and_eq_true,decide_eq_true_eq,qEI]at h ⊢;obtain⟨⟨⟨⟨⟨⟨q1,q2⟩,q3⟩,q4⟩,q5⟩,q6⟩,q7⟩:=h;refine⟨⟨⟨⟨⟨⟨q1,q2⟩,q3⟩,by simp;omega⟩,q5⟩,q6⟩,fun w hw=>?_⟩;rcases qFV.1 hw with hw | hw
  ·exact q7 w hw
  ·simp only[qFT,qF2,or_false]at hw;subst hw;exact hth
theorem qrx (d:DK) (hd:qbu d=true) (at':Int) (text:List UInt8) (ht:text.length≤1048576) :
  ACall prog 220 [.ptr 1000 0 0,.int .i64 at',.str text] (qb6 d 1001 1002 1003)
   (fun r L'=>r=.bool (qav d at' text).2∧L'=qb6 (qav d at' text).1 1001 1002 903):=by
 obtain⟨R,hR⟩:∃ R,qav d at' text=R:=⟨_,rfl⟩;rw[hR];unfold qav at hR;rw[if_neg (by simp[hd])]at hR;obtain⟨g1,g2,g3,g4,_⟩:=qbO hd;have c1:=qrg d hd 0 at' text ht;have k1:=qiQ hd 0 at' text;generalize qaV d 0 at' text=X at *
 obtain⟨e,eo⟩:=X;simp only at k1 hR;have c2:=qrg e k1.1 1 at' text ht;generalize qaV e 1 at' text=Y at *
 obtain⟨f,fo⟩:=Y;have key:ACall prog 220 [.ptr 1000 0 0,.int .i64 at',.str text] (qb6 d 1001 1002 1003) (qDz [1003,16,21] R):=by
  refine acx func220 [] ntmps220 rfl rfl rfl ?_ (hL:=by simp[qb6]);simp[qb6,qcq];by_cases hn:598<d.late.length
  ·rw[if_pos hn]at hR;subst hR;simp[hn,show(598:Int)<d.late.length by omega,show ¬ (d.late.length:Int)≤598 by omega];exact⟨qb6 d 1001 1002 1003,by simp[qb6,qcq],1003,by simp,rfl,rfl⟩
  ·rw[if_neg hn]at hR;simp[hn,show ¬ (598:Int)<d.late.length by omega,show(d.late.length:Int)≤598 by omega];refine qac [(1000,.whole 1000),(1001,.whole 1001),(1002,.whole 1002),(1003,.whole 1003)] (by kernel_rfl) c1 (by simp) (by simp) (by simp[qb6,qcq];exact⟨.inr ⟨_,_,rfl,rfl,by simp⟩,qaa rfl (qaz _),qaa rfl (qaz _),qaa rfl (qcm _)⟩) (by simp[qb6]) (by simp) ?_;rintro r L' ⟨rfl,rfl⟩;refine⟨[(903,16)],⟨by simp[qb6],by simp,by simp,by simp[qb6],by simp⟩,?_⟩;simp only[qad];simp[qb6,qcq];cases eo with
   | false =>
    rw[if_pos rfl]at hR;subst hR;simp;exact⟨qb6 e 1001 1002 16,by simp[qb6,qcq],16,by simp,rfl,rfl⟩
   | true =>
    rw[if_neg (by simp)]at hR;subst hR;simp;refine qac [(1000,.whole 1000),(1001,.whole 1001),(1002,.whole 1002),(1003,.whole 16)] (by kernel_rfl) c2 (by simp) (by simp) (by simp[qb6,qcq];exact⟨.inr ⟨_,_,rfl,rfl,by simp⟩,qaa rfl (qaz _),qaa rfl (qaz _),qaa rfl (qcm _)⟩) (by simp[qb6]) (by simp) ?_;rintro r L' ⟨rfl,rfl⟩;refine⟨[(903,21)],⟨by simp[qb6],by simp,by simp,by simp[qb6],by simp⟩,?_⟩;simp only[qad];simp[qb6,qcq];exact⟨qb6 f 1001 1002 21,by simp[qb6,qcq],21,by simp,rfl,rfl⟩
 refine key.can ?_;rintro r L' ⟨id,hid,rfl,rfl⟩;refine⟨[(1000,1000),(1001,1001),(1002,1002),(id,903)],?_,?_,?_,?_,?_⟩
 all_goals
  simp only[qFT,qF2,or_false]at hid;rcases hid with rfl | rfl | rfl
 all_goals simp[qb6,qcq,qah]
theorem qrs (d:DK) (hd:qbu d=true) :
  ACall prog 225 [.ptr 1000 0 0] (qb6 d 1001 1002 1003) (fun r L'=>r=.tup []∧L'=qb6 (qbz d) 1001 1002 903):=by
 obtain⟨R,hR⟩:∃ R,qbz d=R:=⟨_,rfl⟩;rw[hR];unfold qbz at hR;rw[if_pos hd]at hR;obtain⟨g1,g2,g3,g4,g5,g6,g7⟩:=qbO hd;have key:ACall prog 225 [.ptr 1000 0 0] (qb6 d 1001 1002 1003) (fun r L'=>r=.tup []∧L'=[(1000,⟨3,[qcq R 1001 1002 903]⟩),(1001,qaj R.s0),(1002,qaj R.s1),(903,qbZ R.late)]):=by
  refine acv func225 [(3,[zI 0,zI 1,zJ 2 [3] [],zJ 3 [] [3],zJ 4 [] [3],zI 5,zJ 6 [1000] [],zJ 7 [] [3,1000],zJ 8 [3] [3,1000],zJ 9 [] [3,1000],zJ 10 [3] [3,1000],zJ 11 [1001,1002] [],zI 12])] ntmps225 rfl rfl rfl ?_ (hL:=by simp[qb6]);refine qpK (qbD _ ?_);simp[qb6,qcq];refine qaQ (X:=Nat×List (List UInt8)×List (List UInt8)) [0,7,8,9] [(1000,1000),(1001,1001),(1002,1002),(1003,1003)] (fun x=>[(9,.int .i64 x.1)]) (fun x=>[(1001,qaj x.2.1),(1002,qaj x.2.2)]) (fun x=>d.late.length-x.1)
   (fun x=>x.1≤d.late.length∧x.2.1.length=d.s0.length∧x.2.2.length=d.s0.length∧(⟨((d.late.drop x.1).foldl qhF (x.2.1,x.2.2)).1,((d.late.drop x.1).foldl qhF (x.2.1,x.2.2)).2,[]⟩:DK)=R) (0,d.s0,d.s1) (by simp[hR,g3]) ?_ (he:=by simp[qah])
  rintro⟨i,p,q⟩ ⟨hi,hp,hq,hd2⟩;simp only at hi hp hq hd2;cases hr:d.late.drop i with
  | nil =>
   have:=qa0 hr;rw[hr]at hd2;have hie:i=d.late.length:=by omega
   subst hie;simp[qah];refine⟨_,(qeH 903 3 (by simp)).trans (qdp 1000 2 (sz:=3) (row:=[.sl 1001 0 d.s0.length,.sl 1002 0 d.s1.length,.nils]) (by simp) (by simp) (qcH 903 0)),?_⟩;rw[← hd2];simp[hp,hq,g3,qbZ]
  | cons x r =>
   obtain⟨h1,e0,e1,h3⟩:=qa1 hr;rw[hr]at hd2;have e2:=qak ((i:Int)+1) (by omega) (by omega);have hx:=g7 x (qGk e1);obtain⟨n1,⟨n2,n3⟩,_⟩:=thereB_iff.1 hx;rcases n1 with hs | hs
   ·have hl:x.la.toNat<p.length:=by omega
    simp[qah,qbZ,qaj,h1,e0,e1,LT.row,hs,n2,n3,qae,hp];exact nx (i+1,p.set x.la.toNat x.lx,q) [(1000,1000),(1001,1001),(1002,1002),(1003,1003)] ⟨by omega,by simp[hp],hq,by rw[← hd2,h3,qEM];simp[qhF,hs]⟩ (h4:=by simp[qah,e2,qaj,qae,qGw,qbZ])
   ·have hl:x.la.toNat<q.length:=by omega
    simp[qah,qbZ,qaj,h1,e0,e1,LT.row,hs,n2,n3,qae,hq,g3];exact nx (i+1,p,q.set x.la.toNat x.lx) [(1000,1000),(1001,1001),(1002,1002),(1003,1003)] ⟨by omega,hp,by simp[hq],by rw[← hd2,h3,qEM];simp[qhF,hs]⟩ (h4:=by simp[qah,e2,qaj,qae,qGw,qbZ])
 refine key.imp fun r L' ⟨h1,h2⟩=>⟨r,qaF _,h1,h2⟩
end Go.Av.F
end
section
namespace Go.Av.F
open Go Go.Av
open Go.Proofs Go.Proofs.Tryz
attribute [-simp] qdL hdS qat qag qak
attribute [local simp] tt3 tt4 tt9 tt5 qvj qmt qyD qpO qsh qxV
theorem qoU (o1 o2:Ob) (h1:o1.sz=3) (h2:o2.sz=3) (e1 len1 e2 len2:Nat) :
  ACall Go.Proofs.Tryz.prog 370 [.sl 1001 e1 len1,.sl 1000 e2 len2] [(1000,o2),(1001,o1)] (fun r L'=>r=.bool false∧L'=[(1000,o2),(1001,o1)]) :=
 qlx (tS:=43) (tR:=4) (e:=110) Go.Proofs.Tryz.func370 (by kernel_rfl) (by kernel_rfl) (by kernel_rfl) (by kernel_rfl) qvj rfl qmt (by simp) o1 o2 h1 h2 e1 len1 e2 len2
theorem qs5 (rows:List (List AV)) (row:List AV) (i:Nat) (hi:i≤rows.length) (hl:rows.length<2000000) (hrow:row.length=3) (hr1:∀ r∈rows,r.length=3) (ho:row.all qdg=true) (hro:rows.all (fun r=>r.all qdg)=true)
  (hc:clL row=true) (hrc:clR rows=true) :
  ACall Go.Proofs.Tryz.prog 336 [.sl 1000 0 rows.length,.int .i64 i,.sl 1001 0 1] [(1000,⟨3,rows⟩),(1001,⟨3,[row]⟩)] (qBt 3 25 40 rows row i):=by
 refine ACall.weak (R:=fun r L'=>∃ L2,wkL L' L2∧qBt 3 25 40 rows row i (unc r) L2) (ACall.cap (by simp) fun cap hcap=>?_) (fun r L' h=>h);obtain⟨els,hels⟩:∃ els,(qcM ⟨3,rows⟩ cap)=⟨3,els⟩:=⟨_,rfl⟩;have hel:els.length=cap:=by
  have:=congrArg (fun o:Ob=>o.els.length) hels;simp[qcM]at this;omega
 have het:els.take rows.length=rows:=by
  have:=congrArg (fun o:Ob=>o.els.take rows.length) hels;simp[qcM]at this;exact this.symm
 have hcl:clR els=true:=by
  have:=congrArg (fun o:Ob=>clR o.els) hels;simp only[qcM]at this;rw[← this];simp only[clR,qGJ,Bool.and_eq_true]at hrc ⊢;refine⟨hrc,?_⟩;rw[qEI];intro x hx;rw[qFO hx];rfl
 have hm:∀ ρ,els.map (qci ρ)=els:=fun ρ=>qj5 ρ hcl;have hm2:∀ ρ,qci ρ row=row:=fun ρ=>renL_closed.renL_closedL ρ row hc;rw[hels];clear hels;have w1:IntKind.i64.wrap ((rows.length:Int)+1)=(rows.length:Int)+1:=qaL _ (by omega);refine acx func336 [(11,[zI 0,zI 1,zI 2,zI 3,zJ 4 [40,1000] [],zJ 5 [] [40,1000],zJ 6 [] [40,1000],zJ 7 [40,1000] [40,1000],zI 8]),(15,[zI 0,zI 1,zI 2,zI 3,zJ 4 [1000] [],zJ 5 [] [1000],zJ 6 [] [1000],zJ 7 [1000] [1000],zI 8])] ntmps336 rfl rfl rfl ?_;have e1:rows.take rows.length=rows:=qGn;by_cases h1:i=rows.length
 ·subst h1;by_cases h2:rows.length+1≤cap
  ·simp[h2,hrow,hel,hcap];refine⟨by simpa using ho,[(1000,⟨3,spl els rows.length [row]⟩)],by simp,_,.cons 1000 _ (rows.length+1) .nil,1000,.inl rfl,rfl,?_⟩;have:=qe3 els rows.length [row] (by omega);simp only[qEN,qFJ,qFG]at this;simp[qpA,this,het]
  ·simp[h2,hrow,hel,hcap,het];refine⟨by omega,[(25,⟨3,rows++[row]⟩)],by simp,_,.cons 25 _ (rows.length+1) .nil,25,.inr (.inl rfl),rfl,?_⟩;rw[qEK (by simp)];simp[qpA]
 ·have hi':i<rows.length:=by omega
  have h1':¬ (i:Int)=rows.length:=by omega
  have w2:IntKind.i64.wrap ((i:Int)+1)=((i+1:Nat):Int):=by rw[qaL _ (by omega)];omega
  have w4:IntKind.i64.wrap ((rows.length:Int)+1-(i:Int))=((rows.length+1-i:Nat):Int):=by rw[qaL _ (by omega)];omega
  have hall:∀ x∈rows,∀ y∈x,qdg y=true:=fun x hx y hy=>qEI.1 (qEI.1 hro x hx) y hy;have g1:rows.length+1≤cap→min (rows.length+1-i) (min (cap-i) (rows.length-i))=rows.length-i:=fun _=>by omega
  have g2:min 1 (rows.length+1-i)=1:=by omega
  have g5:(els.drop i).take (rows.length-i)=rows.drop i:=by
   conv=>rhs;rw[← het]
   rw[qFL]
  have g3:List.take (rows.length-i) (List.take (rows.length+1-i) (List.drop i els))=rows.drop i:=by
   rw[qFN,qFM (by omega),g5]
  by_cases h2:rows.length+1≤cap
  ·have g1:=g1 h2;have h2':¬ (cap:Int)<(rows.length:Int)+1:=by omega
   simp[h1,h1',h2,h2',hrow,hel,hcap,w1,w2,w4];refine⟨by omega,by omega,⟨by omega,by omega⟩,?_⟩;refine qac [(1000,.whole 1000),(1001,.whole 1001)] (by kernel_rfl) (qoU ⟨3,[row]⟩ ⟨3,els⟩ rfl rfl 0 1 (i+1) (rows.length-i)) (by simp) (by simp) (by simp;exact⟨qaa rfl hcl,qaa rfl (by simp[clR,hc])⟩) (by simp) (by simp) ?_;rintro r L' ⟨rfl,rfl⟩;refine⟨[],⟨by simp,by simp,by simp,by simp,by simp⟩,?_⟩;simp[hm,hm2,w2,hel,hrow];rw[g1,g2,g3,qEK (by simp:[row].length≤1)];have g4:=qbT els (i+1) (rows.drop i) (by omega);refine⟨⟨by omega,by omega,by omega⟩,⟨by omega,by omega⟩,⟨by omega,by omega,fun x hx y hy=>hall x (qGK hx) y hy⟩,⟨by omega,by omega⟩,⟨by simp at g4;omega,fun x hx y hy=>?_⟩,
    [(1000,⟨3,spl (spl els (i+1) (rows.drop i)) i [row]⟩)],by simp,_,.cons 1000 _ (rows.length+1) .nil,1000,.inl rfl,rfl,?_⟩
   ·have:x=row:=by simpa using hx
    subst this;exact qEI.1 ho y hy
   ·rw[qlG els rows row i het (by omega) hi'];rfl
  ·have h2':(cap:Int)<(rows.length:Int)+1:=by omega
   simp[h1,h1',h2,h2',hrow,hel,hcap,w1,w2,w4];have c1:cap=rows.length:=by omega
   subst c1;have g6:min (rows.length-i) (min (rows.length-i) (i+(rows.length+1-i)-(i+1)))=rows.length-i:=by omega
   have g7:List.take (rows.length-i) (rows.drop i)=rows.drop i:=qEK (by simp);have g8:i+(rows.length+1-i)=rows.length+1:=by omega
   have g9:els.take i=rows.take i:=by
    conv=>rhs;rw[← het]
    rw[qFN,qFM (by omega)]
   rw[g6,g2,g5,g7,qEK (by simp:[row].length≤1),g8,g9,qoc rows row _ i hi'];refine⟨by omega,by omega,⟨by omega,by omega,by omega,by omega⟩,⟨by omega,fun x hx y hy=>?_⟩,⟨by omega,by omega⟩,by omega,⟨by omega,?_,fun x hx y hy=>hall x (qGK hx) y hy⟩,
    [(40,⟨3,rows.take i++row::rows.drop i⟩)],by simp,_,.cons 40 _ (rows.length+1) .nil,40,.inr (.inr rfl),rfl,?_⟩
   ·have:x=row:=by simpa using hx
    subst this;exact qEI.1 ho y hy
   ·rw[qbT _ _ _ (by simp;omega)];simp;omega
   ·have g10:(rows.take i++row::rows.drop i).take (rows.length+1)=rows.take i++row::rows.drop i:=qEK (by simp;omega);simp only[g10];rfl
theorem qtu (rows:List (List AV)) (i j:Nat) (hij:i<j) (hj:j≤rows.length) (hl:rows.length<2000000) (hr1:∀ r∈rows,r.length=3) (hro:rows.all (fun r=>r.all qdg)=true) :
  ACall Go.Proofs.Tryz.prog 337 [.sl 1000 0 rows.length,.int .i64 i,.int .i64 j] [(1000,⟨3,rows⟩)] (fun r L'=>r=.sl 1000 0 (i+(rows.length-j))∧L'=[(1000,⟨3,rows.take i++rows.drop j⟩)]):=by
 refine ACall.weak (R:=fun r L'=>∃ L2,wkL L' L2∧unc r=.sl 1000 0 (i+(rows.length-j))∧L2=[(1000,⟨3,rows.take i++rows.drop j⟩)]) (ACall.cap (by simp) fun cap hcap=>?_) (fun r L' h=>h);obtain⟨els,hels⟩:∃ els,(qcM ⟨3,rows⟩ cap)=⟨3,els⟩:=⟨_,rfl⟩;have hel:els.length=cap:=by
  have:=congrArg (fun o:Ob=>o.els.length) hels;simp[qcM]at this;omega
 have het:els.take rows.length=rows:=by
  have:=congrArg (fun o:Ob=>o.els.take rows.length) hels;simp[qcM]at this;exact this.symm
 rw[hels];clear hels;have g5:(els.drop j).take (rows.length-j)=rows.drop j:=by
  conv=>rhs;rw[← het]
  rw[qFL]
 have hall:∀ x∈rows,∀ y∈x,qdg y=true:=fun x hx y hy=>qEI.1 (qEI.1 hro x hx) y hy;have h1:¬ i=j:=by omega
 have h1':¬ (i:Int)=j:=by omega
 have h2:i+(rows.length-j)≤cap:=by omega
 refine acx func337 [(5,[zI 0,zI 1,zJ 2 [1000] [],zJ 3 [] [1000],zJ 4 [] [1000],zJ 5 [1000] [1000],zI 6,zI 7])] ntmps337 rfl rfl rfl ?_;simp[h1,h1',hel,g5,h2,hcap];have t1:((i:Int)+((rows.length-j:Nat):Int)).toNat=i+(rows.length-j):=by omega
 have h3:=qbT els i (rows.drop j) (by omega);rw[t1];refine⟨⟨by omega,by omega⟩,by omega,by omega,⟨by omega,by omega,fun x hx y hy=>hall x (qGK hx) y hy⟩,⟨by omega,by omega⟩,?_,[(1000,⟨3,spl (spl els i (rows.drop j)) (i+(rows.length-j)) (List.replicate (rows.length-(i+(rows.length-j))) _)⟩)],⟨rfl,trivial⟩,?_⟩
 ·rw[h3];simp;omega
 ·have:=wkL.cons 1000 ⟨3,spl (spl els i (rows.drop j)) (i+(rows.length-j)) (List.replicate (rows.length-(i+(rows.length-j))) [.int .i64 0,.int .i64 0,.int .i64 0])⟩ (i+(rows.length-j)) .nil;simp only[qop els rows _ i j het (by omega) hij hj]at this;exact this
end Go.Av.F
end
