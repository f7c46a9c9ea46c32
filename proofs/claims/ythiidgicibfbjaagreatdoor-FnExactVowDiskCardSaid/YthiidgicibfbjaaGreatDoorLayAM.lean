/- Lemmas for the proof, no statement of the seat; no conditions. -/
import Derived.Test.YthiidgicibfbjaaGreatDoorLayAL
import Derived.Sort.Walk0
import Derived.Test.YthiidgicibfbjaaGreatDoorProg
import Derived.Shelf.Small.Strs
set_option linter.unusedSimpArgs false
set_option linter.unusedVariables false
set_option linter.unnecessarySimpa false
set_option maxRecDepth 100000
set_option maxHeartbeats 400000
section
namespace Go.Av.F
open Go Go.Av
open Go.Proofs Go.Proofs.Tryz
attribute [-simp] qdJ hdS qax qai qaq
attribute [local simp] tt3 tt4 tt9 tt5 qcl qc5 qcQ qcP qc4
def qdu (bs:List BS) (i:Nat) (s:BS):Bool:=i == 0 || (match bs[i-1]? with
 | some q=>Op.bytesLess q.name s.name
 | none=>true)
def qgh (bs:List BS) (i:Nat) (s:BS):Bool:=qbS s.name && qdu bs i s && decide (1≤s.kind) && decide (s.kind≤2) && s.bl.all (fun t=>decide (t.length≤24))
def qgv (bs:List BS):Bool:=(List.range bs.length).all fun i=>match bs[i]? with
 | some s=>qgh bs i s
 | none=>true
def qbc (bs:List BS):Bool:=decide (bs.length≤6) && qgv bs && bs.all (qba bs (bs.length+1))
theorem qlt (bs:List BS) (i:Nat) (s:BS) (h:bs[i]?=some s) (hb:qgh bs i s=false):qgv bs=false:=by
 unfold qgv;rw[qFv];have:=(qEb.1 h).1;exact⟨i,by simpa using this,by simp[h,hb]⟩
theorem qBv (b:BS) (j:Nat):(BS.row b)[3+j]?=b.bl[j]?.map .str:=by
 rw[show 3+j=j+1+1+1 by omega];simp[BS.row]
attribute [simp] qBv
theorem qep (a b:List UInt8):(Op.bytesLess a b || a == b)=!Op.bytesLess b a:=by
 simp only[Go.Proofs.bytesLess_eq];rcases Std.lt_trichotomy a b with h | h | h
 ·have:¬ b<a:=fun h'=>qFz (qFA h h');simp[h,this]
 ·subst h;simp[qFz]
 ·have:¬ a<b:=fun h'=>qFz (qFA h h');have h2:a≠b:=by rintro rfl;exact qFz h
  simp[h,this,h2]
def qed (t:List UInt8):Bool:=decide (t.length≤24)
theorem qqV {Q:Exit→S→Prop} (bs:List BS) (s:BS) (i:Nat) (h8:s.bl.length=8) {st:S} {ob1:Ob}
  (h0:∃ φ,qai ⟨78,[]⟩ φ st∧qax [] [1,3,4,5] φ st=⟨mkT [(1,.ptr 1 0 0),(3,.int .i64 i),(4,.ptr 4 0 0),(5,.int .i64 0)],qaW [(1,ob1),(4,⟨11,[BS.row s]⟩)],Us.of [1,4]⟩)
  (hr1:∀ ρ,qbF ρ ob1=ob1)
  (hret:∀ st:S,s.bl.all qed=false→st.t 2=.bool false→Q .ret st)
  (hex:∀ st:S,s.bl.all qed=true→st.t 1=.ptr 1 0 0→st.t 3=.int .i64 i→st.h=qaW [(1,ob1),(4,⟨11,[BS.row s]⟩)]→st.u=Us.of [1,4]→Q (.exit 2) st) :
  ev Go.Proofs.Tryz.prog ⟨78,[]⟩ (.loop qhP) Q st:=by
 refine qbK (X:=Nat) [1,3,4,5] (fun j=>⟨mkT [(1,.ptr 1 0 0),(3,.int .i64 i),(4,.ptr 4 0 0),(5,.int .i64 j)],qaW [(1,ob1),(4,⟨11,[BS.row s]⟩)],Us.of [1,4]⟩) (fun j=>8-j)
  (fun j=>j≤8∧(s.bl.take j).all qed=true) 0 ⟨by simp,h0⟩ ?_
 rintro j ⟨hj,ha⟩;by_cases h1:j<8
 ·obtain⟨x,e0⟩:∃ x,s.bl[j]'(by omega)=x:=⟨_,rfl⟩;have e1:s.bl[j]?=some x:=by rw[← e0];exact qDF (by omega)
  have e2:IntKind.i64.wrap ((j:Int)+1)=((j+1:Nat):Int):=by rw[qaT _ (by omega)];omega
  have h1':j<s.bl.length:=by omega
  have h1'':(j:Int)<8:=by omega
  simp[qhP,h1,h1',h1'',e0,e1,e2,h8];refine⟨by omega,fun h=>hret _ ?_ rfl,fun h=>?_⟩
  ·rw[qFv];exact⟨x,qFu e1,by simp[qed];omega⟩
  ·refine qbE (j+1) (by omega) ⟨by omega,?_⟩ [(1,1),(4,4)] (by simp[qai]) (by simp[qax,qah,hr1]);have h2:=qeq qed s.bl j x e1;rw[ha,show qed x=true by simp[qed];omega]at h2;simpa using h2
 ·have:j=8:=by omega
  subst this;rw[qDU (by omega)]at ha;simp[qhP];exact hex _ ha rfl rfl rfl rfl
theorem qwc {Q:Exit→S→Prop} (bs:List BS) (hl:bs.length<2000000) (hB:∀ b∈bs,b.bl.length=8) {st:S}
  (h0:∃ φ,qai ⟨78,[]⟩ φ st∧qax [] [1,6] φ st=⟨mkT [(1,.ptr 1 0 0),(6,.int .i64 0)],qaW [(1,⟨1,[[.lst 11 (bs.map BS.row)]]⟩)],Us.of [1]⟩)
  (hret:∀ st:S,bs.all (qba bs (bs.length+1))=false→st.t 2=.bool false→Q .ret st)
  (hex:∀ st:S,bs.all (qba bs (bs.length+1))=true→Q (.exit 4) st):ev Go.Proofs.Tryz.prog ⟨78,[]⟩ (.loop qhO) Q st:=by
 refine qbK (X:=Nat) [1,6] (fun j=>⟨mkT [(1,.ptr 1 0 0),(6,.int .i64 j)],qaW [(1,⟨1,[[.lst 11 (bs.map BS.row)]]⟩)],Us.of [1]⟩) (fun j=>bs.length-j)
  (fun j=>j≤bs.length∧(bs.take j).all (qba bs (bs.length+1))=true) 0 ⟨by simp,h0⟩ ?_
 rintro j ⟨hj,ha⟩;by_cases h1:j<bs.length
 ·obtain⟨x,e0⟩:∃ x,bs[j]=x:=⟨_,rfl⟩;have e1:bs[j]?=some x:=by rw[← e0];exact qDF (by omega)
  have e2:IntKind.i64.wrap ((j:Int)+1)=((j+1:Nat):Int):=by rw[qaT _ (by omega)];omega
  have hx:=hB x (qFu e1);simp[qhO,h1,e0,e1,qan _ hx,qcs _ hx];refine qaR (by kernel_rfl) (qyB bs x hl hB hx) (by simp[bk]) (by simp) ?_;cases hr:qba bs (bs.length+1) x with
  | false =>
   simp;exact hret _ (by rw[qFv];exact⟨x,qFu e1,by simp[hr]⟩) rfl
  | true =>
   simp[e2];refine qbE (j+1) (by omega) ⟨by omega,?_⟩ [(1,1)] (by simp[qai]) (by simp[qax,qah]);have h2:=qeq (qba bs (bs.length+1)) bs j x e1;rw[ha,hr]at h2;simpa using h2
 ·have:j=bs.length:=by omega
  subst this;rw[qFx]at ha;simp[qhO];exact hex _ ha
theorem qrH (bs:List BS) (hl:bs.length<2000000) (hB:∀ b∈bs,b.bl.length=8) (hs:∀ b∈bs,b.name.length<1000000000):ACall Go.Proofs.Tryz.prog 161 [bk bs] [] (fun r L'=>r=.bool (qbc bs)∧L'=[]):=by
 obtain⟨res,hres⟩:∃ res,qbc bs=res:=⟨_,rfl⟩;rw[hres];by_cases h0:bs.length≤6
 ·have h0':¬ (6:Int)<bs.length:=by omega
  have h0'':(bs.length:Int)≤6:=by omega
  apply qxQ (by simp) (by simp);simp[qxd,bk,h0',h0''];refine qbK (X:=Nat) [1,3] (fun i=>⟨mkT [(1,.ptr 1 0 0),(3,.int .i64 i)],qaW [(1,⟨1,[[.lst 11 (bs.map BS.row)]]⟩)],Us.of [1]⟩) (fun i=>bs.length-i)
   (fun i=>i≤bs.length∧∀ j,j<i→∀ s,bs[j]?=some s→qgh bs j s=true) 0 ⟨by simp,[(1,1)],by simp[qai],by simp[qax,qah]⟩ ?_
  rintro i ⟨hi,ha⟩;by_cases h1:i<bs.length
  ·obtain⟨s,e0⟩:∃ s,bs[i]=s:=⟨_,rfl⟩;have e1:bs[i]?=some s:=by rw[← e0];exact qDF h1
   have hsm:s∈bs:=qFu e1;have e2:IntKind.i64.wrap ((i:Int)+1)=((i+1:Nat):Int):=by rw[qaT _ (by omega)];omega
   have hbad:qgh bs i s=false→res=false:=fun h=>by rw[← hres,qbc,qlt bs i s e1 h];simp
   simp[qkP,h1,e0,e1,qan _ (hB s hsm),qcs _ (hB s hsm)];refine⟨qeG s,qaR (by kernel_rfl) (qkM s.name (by have:=hs s hsm;omega)) (by simp) (by simp) ?_⟩;cases hn:qbS s.name with
   | false=>simp[hbad (by simp[qgh,hn])]
   | true =>
    have hpv:qdu bs i s=false→res=false:=fun h=>hbad (by simp[qgh,h]);have next:qgh bs i s=true→∀ j,j<i+1→∀ s,bs[j]?=some s→qgh bs j s=true:=fun hok j hj y hy=>by
     by_cases hji:j=i
     ·subst hji;rw[e1]at hy;injection hy with hy;subst hy;exact hok
     ·exact ha j (by omega) y hy
    have fin:∀ (h:qdu bs i s=true) (h1:1≤s.kind) (h2:s.kind≤2),s.bl.all qed=true→qgh bs i s=true:=fun h h1 h2 h3=>by
     have h4:(s.bl.all fun t=>decide (t.length≤24))=true:=h3;simp[qgh,hn,h,h1,h2,h4]
    have finF:s.bl.all qed=false→qgh bs i s=false:=fun h3=>by
     have h4:(s.bl.all fun t=>decide (t.length≤24))=false:=h3;simp[qgh,h4]
    have hk1:s.kind<1→res=false:=fun h=>hbad (by simp[qgh,show ¬ 1≤s.kind by omega]);have hk2:2<s.kind→res=false:=fun h=>hbad (by simp[qgh,show ¬ s.kind≤2 by omega]);by_cases hi0:i=0
    ·subst hi0;simp;refine⟨fun g1=>⟨hk2,fun g2=>qqV bs s 0 (hB s hsm) (ob1:=⟨1,[[.lst 11 (bs.map BS.row)]]⟩) ⟨[(1,1),(4,4)],by simp[qai],by simp[qax,qah]⟩ (by simp) (fun st g3 g4=>?_) (fun st g3 t1 t3 th tu=>?_)⟩,fun g1=>hk1 (by omega)⟩
     ·simp[g4,hbad (finF g3)]
     ·simp[t1,t3,show IntKind.i64.wrap 1=1 from rfl];exact qbE 1 (by omega) ⟨by omega,next (fin (by simp[qdu]) g1 g2 g3)⟩ [(1,1)] (by simp[qai,th]) (by simp[qax,qah,th,t1])
    ·obtain⟨m,hm⟩:∃ m,i=m+1:=⟨i-1,by omega⟩;subst hm;obtain⟨q,q0⟩:∃ q,bs[m]=q:=⟨_,rfl⟩;have q1:bs[m]?=some q:=by rw[← q0];exact qDF (by omega)
     have q2:IntKind.i64.wrap (m:Int)=(m:Int):=by rw[qaT _ (by omega)]
     have q3:m<bs.length:=by omega
     have q4:=qan q (hB q (qFu q1));cases hq:Op.bytesLess q.name s.name with
     | false =>
      have hrf:res=false:=hpv (by simp[qdu,q1,hq]);have:(Op.bytesLess s.name q.name || s.name == q.name)=true:=by rw[qep,hq];rfl
      simp[q0,q1,q2,q3,this,hrf,q4]
     | true =>
      have:(Op.bytesLess s.name q.name || s.name == q.name)=false:=by rw[qep,hq];rfl
      simp[q0,q1,q2,q3,this,q4];refine⟨fun g1=>⟨hk2,fun g2=>qqV bs s (m+1) (hB s hsm) (ob1:=⟨1,[[.lst 11 (bs.map BS.row)]]⟩) ⟨[(1,1),(4,4)],by simp[qai],by simp[qax,qah]⟩ (by simp) (fun st g3 g4=>?_) (fun st g3 t1 t3 th tu=>?_)⟩,fun g1=>hk1 (by omega)⟩
      ·simp[g4,hbad (finF g3)]
      ·have e2':IntKind.i64.wrap ((m:Int)+1+1)=(m:Int)+1+1:=qaT _ (by omega);simp[t1,t3,e2'];exact qbE (m+1+1) (by omega) ⟨by omega,next (fin (by simp[qdu,q1,hq]) g1 g2 g3)⟩ [(1,1)] (by simp[qai,th]) (by simp[qax,qah,th,t1])
  ·have hie:i=bs.length:=by omega
   subst hie;have hok:qgv bs=true:=by
    unfold qgv;rw[qDS];intro j hj;have hj':j<bs.length:=by simpa using hj
    have hx:bs[j]?=some bs[j]:=qDF hj';rw[hx];exact ha j hj' _ hx
   simp[qkP];refine qwc bs hl hB ⟨[(1,1)],by simp[qai],by simp[qax,qah]⟩ (fun st g1 g2=>?_) (fun st g1=>?_)
   ·have:res=false:=by rw[← hres];simp[qbc,g1]
    simp[g2,this]
   ·have:res=true:=by
     rw[← hres];simp only[qbc,g1,hok,qDN,decide_eq_true_eq];exact h0
    simp[this]
 ·have:res=false:=by rw[← hres];simp[qbc,h0]
  have h0':(6:Int)<bs.length:=by omega
  apply qxQ (by simp) (by simp);simp[qxd,bk,h0',this]
end Go.Av.F
end
section
namespace Go.Av.F
open Go Go.Av
open Go.Proofs Go.Proofs.Tryz
attribute [-simp] qdJ hdS qax qai qaq
attribute [local simp] tt3 tt4 tt9 tt5 qcl qc5 qcQ qcP qc4
def qbz (bs:List BS):Ob:=⟨11,bs.map BS.row⟩
@[simp] theorem qCo (bs:List BS):(qbz bs).sz=11:=rfl
@[simp] theorem qAS (bs:List BS):(qbz bs).els=bs.map BS.row:=rfl
theorem quB (bs:List BS):clR (bs.map BS.row)=true:=by simp[clR]
attribute [simp] quB
@[simp] theorem qAR (ρ:Nat→Option Plc) (bs:List BS):qbF ρ (qbz bs)=qbz bs:=by
 simp[qbF,qbz]
theorem qw9 (bs:List BS):(bs.map BS.row).take bs.length=bs.map BS.row:=qDU (by simp)
attribute [simp] qw9
theorem qkO (bs:List BS):∀ r∈bs.map BS.row,r.all qde=true:=by
 intro r hr;obtain⟨b,_,rfl⟩:=qD6.1 hr;exact qmu b
def qfz (bs:List BS) (s:BS):List BS×Int :=
 if qbS s.name=false then (bs,5) else if atB bs s.name=true then (bs,2) else if bs.length=6 then (bs,4) else (bs.take (atP bs s.name)++s::bs.drop (atP bs s.name),0)
def bkR (x:Nat) (res:List BS×Int) (r:AV) (L':List (Nat×Ob)):Prop:=∃ id,(id=1000∨id=x)∧r=.tup [.agg [.sl id 0 res.1.length],.int .i64 res.2]∧L'=[(id,qbz res.1)]
theorem qBM (bs:List BS) (s:BS) (hl:bs.length<2000000) (hB:∀ b∈bs,b.bl.length=8) (hs:s.bl.length=8) (hn:s.name.length<1000000000) :
  ACall Go.Proofs.Tryz.prog 203 [.agg [.sl 1000 0 bs.length],.agg (BS.row s)] [(1000,qbz bs)] (bkR 45 (qfz bs s)):=by
 refine acx func203 [(9,[zI 0,zJ 1 [2] [],zJ 2 [] [2],zJ 3 [1000] [],zJ 4 [3] [2,1000],zJ 7 [] [2,1000,3],zJ 5 [] [2,1000],zI 6,zI 8,zI 9,zI 10])] ntmps203 rfl rfl rfl ?_;simp[qan _ hs];refine qc3 (by kernel_rfl) (atC bs s.name hl) (by simp[bk]) (by simp) (by simp) ?_;simp;refine qaR (by kernel_rfl) (qkM s.name (by omega)) (by simp) (by simp) ?_;cases h1:qbS s.name with
 | false =>
  simp;exact⟨[(1000,qbz bs)],by simp,1000,.inl rfl,by simp[qfz,h1],by simp[qfz,h1]⟩
 | true =>
  cases h2:atB bs s.name with
  | true =>
   simp;exact⟨[(1000,qbz bs)],by simp,1000,.inl rfl,by simp[qfz,h1,h2],by simp[qfz,h1,h2]⟩
  | false =>
   by_cases h3:bs.length=6
   ·have h3':(bs.length:Int)=6:=by omega
    simp[h3];exact⟨[(1000,qbz bs)],by simp,1000,.inl rfl,by simp[qfz,h1,h2,h3],by simp[qfz,h1,h2,h3]⟩
   ·have h3':¬ (bs.length:Int)=6:=by omega
    have hk:atP bs s.name≤bs.length:=by unfold atP;exact(List.takeWhile_sublist _).length_le
    obtain⟨k,hk0⟩:∃ k,atP bs s.name=k:=⟨_,rfl⟩;rw[hk0]at hk;simp[h3,h3',hk0,qan _ hs,qcs _ hs];have e1:(bs.drop k).take (bs.length-k)=bs.drop k:=qDU (by simp);have e2:List.take (bs.length-k) (List.drop k (List.map BS.row bs))=(bs.drop k).map BS.row:=by
     rw[← qFB,← qFC,e1]
    have e3:List.take (bs.length-k) ((bs.drop k).map BS.row)=(bs.drop k).map BS.row:=qDU (by simp);have e4:List.take k (List.map BS.row bs)=(bs.take k).map BS.row:=by rw[qFC]
    have e5:qfz bs s=(bs.take k++s::bs.drop k,0):=by simp[qfz,h1,h2,h3,hk0]
    have hall:∀ (l:List BS) (x:List AV),x∈l.map BS.row→∀ y,y∈x→qde y=true:=fun l x hx y hy=>qDS.1 (qkO l x hx) y hy;have hlen:(bs.take k++s::bs.drop k).length=k+1+(bs.length-k):=by simp;omega
    rw[e2,e3,e4,e5];refine⟨hk,⟨by omega,by omega,hall _⟩,hk,⟨hk,by omega,qeG s⟩,⟨by omega,by omega,hall _⟩,[(45,qbz (bs.take k++s::bs.drop k))],?_,45,.inr rfl,by simp[hlen],rfl⟩;have e6:(List.take (k+1) ((bs.take k).map BS.row++[BS.row s]))=(bs.take k).map BS.row++[BS.row s]:=qDU (by simp;omega);rw[← e4]at e6;simp[qbz,e6]
end Go.Av.F
end
section
namespace Go.Av.F
open Go Go.Av
open Go.Proofs Go.Proofs.Tryz
attribute [-simp] qdJ hdS qax qai qaq
attribute [local simp] tt3 tt4 tt9 tt5 qcl qc5 qcQ qcP qc4 qdF
def qhl (bs:List BS) (k:Nat):List BS×Int :=
 match bs[k]? with
 | some t=>if bs.any (fun b=>b.frm == t.name)=true then (bs,6) else (bs.take k++bs.drop (k+1),0)
 | none=>(bs,6)
theorem qBP (bs:List BS) (k:Nat) (t:BS) (hl:bs.length<2000000) (hB:∀ b∈bs,b.bl.length=8) (hk:bs[k]?=some t) :
  ACall Go.Proofs.Tryz.prog 204 [.agg [.sl 1000 0 bs.length],.int .i64 k] [(1000,qbz bs)] (bkR 39 (qhl bs k)):=by
 have hkl:=(qEb.1 hk).1;have hk0:bs[k]=t:=(qEb.1 hk).2;have ht:=hB t (qFu hk);refine acx func204 [(4,[zI 0,zJ 1 [2,1000] [],zJ 2 [] [2,1000],zJ 3 [1000] [],zI 4,zJ 5 [1000] [],zJ 6 [] [2,1000],zJ 7 [2,1000] [2,1000],zJ 8 [] [2,1000],zJ 9 [1000] [2,1000],zJ 10 [] [2,1000],zJ 11 [1000] [2,1000],zI 12]),(6,[zI 1,zJ 2 [2] [],zJ 3 [] [2],zJ 4 [1000] [],zJ 6 [] [2,1000],zJ 7 [2] [2,1000],zJ 8 [] [2,1000],zJ 9 [] [2,1000],zJ 10 [1000] [2,1000],zJ 0 [] [2,1000],zJ 5 [] [2,1000],zI 11,zI 12,zI 13])] ntmps204 rfl rfl rfl ?_;simp;refine qbK (X:=Nat) [1,2,4,5,6] (fun i=>⟨mkT [(1,.int .i64 k),(2,.ptr 2 0 0),(4,.ptr 4 0 0),(5,.int .i64 0),(6,.int .i64 i)],qaW [(1000,qbz bs),(2,⟨1,[[.sl 1000 0 bs.length]]⟩),(4,⟨1,[[.nils]]⟩)],Us.of [1000,1000,2,4]⟩) (fun i=>bs.length-i)
  (fun i=>i≤bs.length∧(bs.take i).any (fun b=>b.frm == t.name)=false) 0 ⟨by simp,[(1000,1000),(2,2),(4,4)],by simp[qai],by simp[qax,qah]⟩ ?_
 rintro i ⟨hi,ha⟩;by_cases h1:i<bs.length
 ·obtain⟨s,e0⟩:∃ s,bs[i]=s:=⟨_,rfl⟩;have e1:bs[i]?=some s:=by rw[← e0];exact qDF (by omega)
  have e2:IntKind.i64.wrap ((i:Int)+1)=((i+1:Nat):Int):=by rw[qaT _ (by omega)];omega
  have hs:=hB s (qFu e1);cases h2:s.frm == t.name with
  | true =>
   have h3:bs.any (fun b=>b.frm == t.name)=true:=by rw[qFg];exact⟨s,qFu e1,h2⟩
   simp[h1,e0,e1,e2,qan _ hs,qan _ ht,hk,hk0,hkl,h2];have h3':bs.any (fun b=>b.frm == t.name)=true:=h3;exact⟨[(1000,qbz bs)],by simp,1000,.inl rfl,by simp only[qhl,hk,h3',if_true],by simp only[qhl,hk,h3',if_true]⟩
  | false =>
   simp[h1,e0,e1,e2,qan _ hs,qan _ ht,hk,hk0,hkl,h2];refine qbE (i+1) (by omega) ⟨by omega,?_⟩ [(1000,1000),(2,2),(4,4)] (by simp[qai]) (by simp[qax,qah]);have h4:(bs.take (i+1)).any (fun b=>b.frm == t.name)=false:=by
    rw[qFq,e1];simp only[List.any_append,ha,Option.toList_some,qFD,h2,List.any_nil,Bool.or_self]
   simpa using h4
 ·have:i=bs.length:=by omega
  subst this;rw[qFx]at ha;have e3:IntKind.i64.wrap ((k:Int)+1)=((k+1:Nat):Int):=by rw[qaT _ (by omega)];omega
  have hall:∀ (l:List BS) (x:List AV),x∈l.map BS.row→∀ y,y∈x→qde y=true:=fun l x hx y hy=>qDS.1 (qkO l x hx) y hy;have f1:List.take k (List.map BS.row bs)=(bs.take k).map BS.row:=by rw[qFC]
  have f2:List.take (bs.length-(k+1)) (List.drop (k+1) (List.map BS.row bs))=(bs.drop (k+1)).map BS.row:=by
   rw[← qFB];exact qDU (by simp)
  have f3:qhl bs k=(bs.take k++bs.drop (k+1),0):=by simp only[qhl,hk,ha];simp
  simp[e3];rw[f1,f2,f3];refine⟨by omega,⟨by omega,by omega⟩,⟨by omega,by omega,hall _⟩,⟨by omega,by omega,hall _⟩,[(39,qbz (bs.take k++bs.drop (k+1)))],?_,39,.inr rfl,by simp,rfl⟩;simp[qbz];exact qDU (by simp)
structure BO where
 kind:Int
 a:List UInt8
 b:List UInt8
 i:Int
 text:List UInt8
deriving DecidableEq,Inhabited
def BO.row (o:BO):List AV:=[.int .i64 o.kind,.str o.a,.str o.b,.int .i64 o.i,.str o.text]
def qhi (bs:List BS) (k:Nat) (o:BO):List BS×Int :=
 match bs[k]? with
 | some t=>if o.i<0∨8≤o.i∨24<o.text.length then (bs,5) else if t.kind≠1 then (bs,3) else (bs.set k { t with bl:=t.bl.set o.i.toNat o.text },0)
 | none=>(bs,5)
theorem qqh (t:BS) (j:Nat) (x:List UInt8) (h:j<t.bl.length):List.take (3+j) t.row++AV.str x::List.drop (3+j+1) t.row=BS.row { t with bl:=t.bl.set j x }:=by
 have e1:List.take (3+j) t.row=AV.str t.name::AV.int .i64 t.kind::AV.str t.frm::(t.bl.take j).map .str:=by
  rw[show 3+j=j+1+1+1 by omega];simp[BS.row]
 have e2:List.drop (3+j+1) t.row=(t.bl.drop (j+1)).map .str:=by
  rw[show 3+j+1=j+1+1+1+1 by omega];simp[BS.row]
 rw[e1,e2];simp only[BS.row,qFE,h,if_true,qFF,qD5,qFt]
theorem qC1 (bs:List BS) (k:Nat) (t:BS) (o:BO) (hl:bs.length<2000000) (hB:∀ b∈bs,b.bl.length=8) (hk:bs[k]?=some t) :
  ACall Go.Proofs.Tryz.prog 205 [.agg [.sl 1000 0 bs.length],.int .i64 k,.agg (BO.row o)] [(1000,qbz bs)] (bkR 1000 (qhi bs k o)):=by
 have hkl:=(qEb.1 hk).1;have hk0:bs[k]=t:=(qEb.1 hk).2;have ht:=hB t (qFu hk);refine acx func205 [(5,[zI 0,zJ 1 [3] [],zJ 2 [] [3],zJ 3 [] [3],zJ 4 [5] [3],zJ 5 [] [3,5],zJ 6 [5] [3,5],zJ 7 [1000] [5],zJ 8 [] [5],zI 9,zI 10])] ntmps205 rfl rfl rfl ?_;by_cases g1:o.i<0
 ·simp[BO.row,g1];exact⟨[(1000,qbz bs)],by simp,1000,.inl rfl,by simp[qhi,hk,g1],by simp[qhi,hk,g1]⟩
 by_cases g2:8≤o.i
 ·simp[BO.row,g1,g2];exact⟨[(1000,qbz bs)],by simp,1000,.inl rfl,by simp[qhi,hk,g1,g2],by simp[qhi,hk,g1,g2]⟩
 by_cases g3:24<o.text.length
 ·have g3':(24:Int)<o.text.length:=by omega
  simp[BO.row,g1,g2,g3,g3'];exact⟨[(1000,qbz bs)],by simp,1000,.inl rfl,by simp[qhi,hk,g1,g2,g3],by simp[qhi,hk,g1,g2,g3]⟩
 have g3':¬ (24:Int)<o.text.length:=by omega
 by_cases g4:t.kind=1
 ·simp[BO.row,g1,g2,g3,g3',hk,hkl,hk0,g4,qan _ ht];have f1:qhi bs k o=(bs.set k { t with bl:=t.bl.set o.i.toNat o.text },0):=by simp[qhi,hk,g1,g2,g3,g4]
  rw[f1,qqh t o.i.toNat o.text (by omega)];refine⟨⟨by omega,by omega⟩,by omega,[(1000,qbz (bs.set k { t with bl:=t.bl.set o.i.toNat o.text }))],?_,1000,.inl rfl,by simp,rfl⟩;simp[qbz,qFG]
 ·simp[BO.row,g1,g2,g3,g3',hk,hkl,hk0,g4,qan _ ht];exact⟨[(1000,qbz bs)],by simp,1000,.inl rfl,by simp[qhi,hk,g1,g2,g3,g4],by simp[qhi,hk,g1,g2,g3,g4]⟩
end Go.Av.F
end
section
namespace Go.Av.F
open Go Go.Av
open Go.Proofs Go.Proofs.Tryz
attribute [-simp] qdJ hdS qax qai qaq
attribute [local simp] tt3 tt4 tt9 tt5 qcl qc5 qcQ qcP qc4 qdF
def qcX (bs:List BS) (k:Nat) (name:List UInt8):List BS×Int :=
 match bs[k]? with
 | some t=>if atB bs name=false then (bs,1) else match bs[atP bs name]? with
  | some u=>if t.kind≠1∨u.kind≠2∨u.frm≠t.name then (bs,3) else (bs.set k { t with bl:=u.bl },0)
  | none=>(bs,1)
 | none=>(bs,1)
theorem qdN {bs:List BS} {name:List UInt8} (h:atB bs name=true):∃ u,bs[atP bs name]?=some u∧u.name=name:=by
 unfold atB at h;split at h
 ·rename_i u hu;exact⟨u,hu,by simpa using h⟩
 ·cases h
theorem qqj (t u:BS) (ht:t.bl.length=8) (hu:u.bl.length=8):List.take 3 t.row++u.bl.map .str=BS.row { t with bl:=u.bl }:=by
 simp[BS.row]
theorem qCq (bs:List BS) (k:Nat) (t:BS) (name:List UInt8) (hl:bs.length<2000000) (hB:∀ b∈bs,b.bl.length=8) (hk:bs[k]?=some t) :
  ACall Go.Proofs.Tryz.prog 206 [.agg [.sl 1000 0 bs.length],.int .i64 k,.str name] [(1000,qbz bs)] (bkR 1000 (qcX bs k name)):=by
 have hkl:=(qEb.1 hk).1;have hk0:bs[k]=t:=(qEb.1 hk).2;have ht:=hB t (qFu hk);refine acx func206 [(4,[zI 0,zJ 1 [3,1000] [],zJ 2 [] [3,1000],zJ 3 [1000] [],zI 4,zJ 5 [1000] [],zI 6,zI 7,zI 8,zJ 9 [3,1000] [],zJ 10 [] [3,1000],zJ 11 [1000] [],zI 12,zJ 13 [1000] [],zI 14,zI 15,zI 16,zI 17,zJ 18 [3,1000] [],zJ 19 [] [3,1000],zJ 20 [1000] [],zI 21,zJ 22 [1000] [],zJ 23 [] [3,1000],zJ 24 [3,1000] [3,1000],zJ 25 [] [3,1000],zJ 26 [1000] [3,1000],zJ 27 [] [3,1000],zJ 28 [1000] [3,1000],zI 29,zI 30,zI 31]),(6,[zI 0,zJ 1 [3,1000] [],zJ 2 [] [3,1000],zJ 3 [] [3,1000],zJ 4 [3,1000] [3,1000],zJ 5 [] [3,1000],zJ 6 [1000] [3,1000],zJ 7 [] [3,1000],zJ 8 [1000] [3,1000],zJ 9 [1000] [],zI 10,zI 11])] ntmps206 rfl rfl rfl ?_;simp;refine qc3 (by kernel_rfl) (atC bs name hl) (by simp[bk]) (by simp) (by simp) ?_;cases h1:atB bs name with
 | false =>
  simp;exact⟨[(1000,qbz bs)],by simp,1000,.inl rfl,by simp[qcX,hk,h1],by simp[qcX,hk,h1]⟩
 | true =>
  obtain⟨u,hu,hun⟩:=qdN h1;obtain⟨j,hj⟩:∃ j,atP bs name=j:=⟨_,rfl⟩;rw[hj]at hu;have hjl:=(qEb.1 hu).1;have hj0:bs[j]=u:=(qEb.1 hu).2;have hu8:=hB u (qFu hu);by_cases g1:t.kind=1
  ·by_cases g2:u.kind=2
   ·by_cases g3:u.frm=t.name
    ·have f1:qcX bs k name=(bs.set k { t with bl:=u.bl },0):=by simp[qcX,hk,h1,hj,hu,g1,g2,g3]
     simp[hj,hk,hkl,hk0,hu,hjl,hj0,qan _ ht,qan _ hu8,g1,g2,g3,f1];have f2:List.take 8 (List.map AV.str u.bl)=u.bl.map AV.str:=qDU (by simp[hu8]);have f3:List.take 3 t.row++(u.bl.map .str++List.drop (3+min 8 u.bl.length) t.row)=BS.row { t with bl:=u.bl }:=by
      rw[show 3+min 8 u.bl.length=11 by omega,qht _ ht,qFH,qqj t u ht hu8]
     rw[f2,f3];refine⟨⟨by omega,by simp⟩,[(1000,qbz (bs.set k { t with bl:=u.bl }))],?_,1000,.inl rfl,by simp,by rw[← g1]⟩;simp[qbz,qFG]
    ·have f1:qcX bs k name=(bs,3):=by simp[qcX,hk,h1,hj,hu,g3]
     simp[hj,hk,hkl,hk0,hu,hjl,hj0,qan _ ht,qan _ hu8,g1,g2,g3,f1];exact⟨[(1000,qbz bs)],by simp,1000,.inl rfl,by simp,by simp⟩
   ·have f1:qcX bs k name=(bs,3):=by simp[qcX,hk,h1,hj,hu,g2]
    simp[hj,hk,hkl,hk0,hu,hjl,hj0,qan _ ht,qan _ hu8,g1,g2,f1];exact⟨[(1000,qbz bs)],by simp,1000,.inl rfl,by simp,by simp⟩
  ·have f1:qcX bs k name=(bs,3):=by simp[qcX,hk,h1,hj,hu,g1]
   simp[hj,hk,hkl,hk0,hu,hjl,hj0,qan _ ht,qan _ hu8,g1,f1];exact⟨[(1000,qbz bs)],by simp,1000,.inl rfl,by simp,by simp⟩
theorem qkL:∀ l:List (List UInt8),clL (l.map AV.str)=true
 | []=>rfl
 | a::r=>by simp[qkL r]
@[simp] theorem qAB (hv:Hp) (ids:List Nat) (ρ:Nat→Option Plc) (l:List (List UInt8)):mtL hv ids ρ (l.map AV.str) (l.map AV.str):=qg5 _ (qkL l)
def zbl:List (List UInt8):=[[],[],[],[],[],[],[],[]]
def doB (bs:List BS) (o:BO):List BS×Int :=
 if o.kind=1 then qfz bs ⟨o.a,1,[],zbl⟩
 else if o.kind<1∨6<o.kind then (bs,5)
 else if atB bs o.a=false then (bs,1)
 else match bs[atP bs o.a]? with
  | some t=>if o.kind=2 then qhl bs (atP bs o.a) else if o.kind=3 then qhi bs (atP bs o.a) o else if o.kind=6 then qcX bs (atP bs o.a) o.b
   else if o.kind=5 then (if t.kind≠2 then (bs,3) else qfz bs ⟨o.b,1,t.name,t.bl⟩) else (if t.kind≠1 then (bs,3) else qfz bs ⟨o.b,2,t.name,t.bl⟩)
  | none=>(bs,1)
def qCN (xs:List Nat) (res:List BS×Int) (r:AV) (L':List (Nat×Ob)):Prop:=∃ id,id∈xs∧r=.tup [.agg [.sl id 0 res.1.length],.int .i64 res.2]∧L'=[(id,qbz res.1)]
theorem doC (bs:List BS) (o:BO) (hl:bs.length<2000000) (hB:∀ b∈bs,b.bl.length=8) (hn:∀ b∈bs,b.name.length<1000000000) (ho:o.a.length<1000000000∧o.b.length<1000000000) :
  ACall Go.Proofs.Tryz.prog 100 [.agg [.sl 1000 0 bs.length],.agg (BO.row o)] [(1000,qbz bs)] (qCN [1000,900] (doB bs o)):=by
 refine acx func100 [] ntmps100 rfl rfl rfl ?_;by_cases g1:o.kind=1
 ·have f1:doB bs o=qfz bs ⟨o.a,1,[],zbl⟩:=by simp[doB,g1]
  have hc:=qBM bs ⟨o.a,1,[],zbl⟩ hl hB rfl ho.1;rw[f1];generalize qfz bs ⟨o.a,1,[],zbl⟩=res at hc;simp[BO.row,g1];refine qac [(1000,.whole 1000)] (by kernel_rfl) hc (by simp[BS.row,zbl]) (by simp) (by simp;exact qaa rfl (by simp)) (by simp) (by simp) ?_;rintro r L' ⟨id,hid,rfl,rfl⟩;rcases hid with rfl | rfl
  ·refine⟨[],⟨by simp,by simp,by simp,by simp,by simp⟩,?_⟩;simp;exact⟨[(1000,qbz res.1)],by simp,1000,by simp,rfl,rfl⟩
  ·refine⟨[(45,900)],⟨by simp,by simp,by simp,by simp,by simp⟩,?_⟩;simp;exact⟨[(900,qbz res.1)],by simp,900,by simp,rfl,rfl⟩
 by_cases g2:o.kind<1
 ·have f1:doB bs o=(bs,5):=by simp[doB,g1,g2]
  simp[BO.row,g1,g2,f1];exact⟨[(1000,qbz bs)],by simp,1000,by simp,by simp,by simp⟩
 by_cases g3:6<o.kind
 ·have f1:doB bs o=(bs,5):=by simp[doB,g1,g3]
  simp[BO.row,g1,g2,g3,f1];exact⟨[(1000,qbz bs)],by simp,1000,by simp,by simp,by simp⟩
 simp[BO.row,g1,g2,g3];refine qc3 (by kernel_rfl) (atC bs o.a hl) (by simp[bk]) (by simp) (by simp) ?_;cases h1:atB bs o.a with
 | false =>
  have f1:doB bs o=(bs,1):=by simp[doB,g1,g2,g3,h1]
  simp[f1];exact⟨[(1000,qbz bs)],by simp,1000,by simp,by simp,by simp⟩
 | true =>
  obtain⟨t,ht,htn⟩:=qdN h1;obtain⟨k,hk⟩:∃ k,atP bs o.a=k:=⟨_,rfl⟩;rw[hk]at ht;have hkl:=(qEb.1 ht).1;have hk0:bs[k]=t:=(qEb.1 ht).2;have htm:=qFu ht;have ht8:=hB t htm;simp[hk,hkl,hk0,ht,qan _ ht8,qcs _ ht8];refine⟨qeG t,?_⟩;by_cases g4:o.kind=2
  ·have f1:doB bs o=qhl bs k:=by simp[doB,h1,hk,ht,g4]
   have hc:=qBP bs k t hl hB ht;rw[f1];generalize qhl bs k=res at hc;simp[g4];refine qac [(1000,.whole 1000)] (by kernel_rfl) hc (by simp) (by simp) (by simp;exact qaa rfl (by simp)) (by simp) (by simp) ?_;rintro r L' ⟨id,hid,rfl,rfl⟩;rcases hid with rfl | rfl
   ·refine⟨[],⟨by simp,by simp,by simp,by simp,by simp⟩,?_⟩;simp;exact⟨[(1000,qbz res.1)],by simp,1000,by simp,rfl,rfl⟩
   ·refine⟨[(39,900)],⟨by simp,by simp,by simp,by simp,by simp⟩,?_⟩;simp;exact⟨[(900,qbz res.1)],by simp,900,by simp,rfl,rfl⟩
  by_cases g5:o.kind=3
  ·have f1:doB bs o=qhi bs k o:=by simp[doB,h1,hk,ht,g5]
   have hc:=qC1 bs k t o hl hB ht;rw[f1];generalize qhi bs k o=res at hc;simp[g4,g5];refine qac [(1000,.whole 1000)] (by kernel_rfl) hc (by simp[BO.row,g5]) (by simp) (by simp;exact qaa rfl (by simp)) (by simp) (by simp) ?_;rintro r L' ⟨id,hid,rfl,rfl⟩;have hid':id=1000:=hid.elim _root_.id _root_.id;subst hid';refine⟨[],⟨by simp,by simp,by simp,by simp,by simp⟩,?_⟩;simp;exact⟨[(1000,qbz res.1)],by simp,1000,by simp,rfl,rfl⟩
  by_cases g6:o.kind=6
  ·have f1:doB bs o=qcX bs k o.b:=by simp[doB,h1,hk,ht,g6]
   have hc:=qCq bs k t o.b hl hB ht;rw[f1];generalize qcX bs k o.b=res at hc;simp[g4,g5,g6];refine qac [(1000,.whole 1000)] (by kernel_rfl) hc (by simp) (by simp) (by simp;exact qaa rfl (by simp)) (by simp) (by simp) ?_;rintro r L' ⟨id,hid,rfl,rfl⟩;have hid':id=1000:=hid.elim _root_.id _root_.id;subst hid';refine⟨[],⟨by simp,by simp,by simp,by simp,by simp⟩,?_⟩;simp;exact⟨[(1000,qbz res.1)],by simp,1000,by simp,rfl,rfl⟩
  have m8:min 8 t.bl.length=8:=by omega
  have t8:List.take 8 (List.map AV.str t.bl)=t.bl.map AV.str:=qDU (by simp[ht8]);have w1:IntKind.i64.wrap 1=1:=rfl;have w2:IntKind.i64.wrap 2=2:=rfl;by_cases g7:o.kind=5
  ·by_cases g8:t.kind=2
   ·have f1:doB bs o=qfz bs ⟨o.b,1,t.name,t.bl⟩:=by simp[doB,h1,hk,ht,g7,g8]
    have hc:=qBM bs ⟨o.b,1,t.name,t.bl⟩ hl hB ht8 ho.2;rw[f1];generalize qfz bs ⟨o.b,1,t.name,t.bl⟩=res at hc;simp[g4,g5,g6,g7,g8,m8,t8,w1];refine qac [(1000,.whole 1000)] (by kernel_rfl) hc (by simp[BS.row]) (by simp) (by simp;exact qaa rfl (by simp)) (by simp) (by simp) ?_;rintro r L' ⟨id,hid,rfl,rfl⟩;rcases hid with rfl | rfl
    ·refine⟨[],⟨by simp,by simp,by simp,by simp,by simp⟩,?_⟩;simp;exact⟨[(1000,qbz res.1)],by simp,1000,by simp,rfl,rfl⟩
    ·refine⟨[(45,900)],⟨by simp,by simp,by simp,by simp,by simp⟩,?_⟩;simp;exact⟨[(900,qbz res.1)],by simp,900,by simp,rfl,rfl⟩
   ·have f1:doB bs o=(bs,3):=by simp[doB,h1,hk,ht,g7,g8]
    simp[g4,g5,g6,g7,g8,f1];exact⟨[(1000,qbz bs)],by simp,1000,by simp,by simp,by simp⟩
  ·by_cases g8:t.kind=1
   ·have f1:doB bs o=qfz bs ⟨o.b,2,t.name,t.bl⟩:=by simp[doB,h1,hk,ht,g1,g2,g3,g4,g5,g6,g7,g8]
    have hc:=qBM bs ⟨o.b,2,t.name,t.bl⟩ hl hB ht8 ho.2;rw[f1];generalize qfz bs ⟨o.b,2,t.name,t.bl⟩=res at hc;simp[g4,g5,g6,g7,g8,m8,t8,w2];refine qac [(1000,.whole 1000)] (by kernel_rfl) hc (by simp[BS.row]) (by simp) (by simp;exact qaa rfl (by simp)) (by simp) (by simp) ?_;rintro r L' ⟨id,hid,rfl,rfl⟩;rcases hid with rfl | rfl
    ·refine⟨[],⟨by simp,by simp,by simp,by simp,by simp⟩,?_⟩;simp;exact⟨[(1000,qbz res.1)],by simp,1000,by simp,rfl,rfl⟩
    ·refine⟨[(45,900)],⟨by simp,by simp,by simp,by simp,by simp⟩,?_⟩;simp;exact⟨[(900,qbz res.1)],by simp,900,by simp,rfl,rfl⟩
   ·have f1:doB bs o=(bs,3):=by simp[doB,h1,hk,ht,g1,g2,g3,g4,g5,g6,g7,g8]
    simp[g4,g5,g6,g7,g8,f1];exact⟨[(1000,qbz bs)],by simp,1000,by simp,by simp,by simp⟩
end Go.Av.F
end
section
namespace Go.Av.F
open Go Go.Av
open Go.Proofs Go.Proofs.Tryz
attribute [-simp] qdJ hdS qax qai qaq
attribute [local simp] tt3 tt4 tt9 tt5 qcl qc5 qcQ qcP qc4 qdF
def bkN (xs:List Nat) (ok:Bool) (res:List BS×Int) (r:AV) (L':List (Nat×Ob)):Prop :=
 if ok=true then qCN xs res r L' else (r=.tup [.agg [.nils],.int .i64 5]∧L'=[])
end Go.Av.F
end
section
namespace Go.Av.F
open Go Go.Av
open Go.Proofs Go.Proofs.Tryz
attribute [-simp] qdJ hdS qax qai qaq
attribute [local simp] tt3 tt4 tt9 tt5 qcl qc5 qcQ qcP qc4 qdF
theorem qpd {P:Program} {f:Nat} (hbd:hasBody P f=true) {args:List AV} {vs:Array Value} {v:Value} {r:AV} (hargs:∀ w Z γ us,CRel w Z γ args us→us=vs) (h:∀ w,Calls P f vs w fun e w'=>e=.returned v∧w'=w)
  (hr:∀ w Z γ,AVRel w Z γ r v):ACall P f args [] (fun x L'=>x=r∧L'=[]):=by
 intro w Z γ us hu hh hs;rw[hargs w Z γ us hu];refine .inl ⟨hbd,(h w).mono ?_⟩;rintro e w' ⟨rfl,rfl⟩;exact⟨v,r,[],Z,γ,rfl,⟨rfl,rfl⟩,hr _ _ _,hh,.refl _ _,fun _ h=>h,fun _ h=>.inl h,fun id o rg ho=>by simp[qaW]at ho,fun _ _ _=>rfl⟩
theorem qrJ {w:World} {Z:Addr→Prop} {γ:Gm} {a b:List UInt8} {us:Array Value} (h:CRel w Z γ [.str a,.str b] us):us=#[.string ⟨a.toArray⟩,.string ⟨b.toArray⟩]:=by
 have h1:=h.2 0 (by simp);have h2:=h.2 1 (by simp);have hs:=h.1;simp only[qDX,qET]at hs;simp only[qEe,qE0]at h1 h2;generalize e1:us.getD 0 undef=x at h1;generalize e2:us.getD 1 undef=y at h2;cases h1;cases h2;apply qFj
 ·simpa using hs
 ·intro i hi1 hi2;have:i=0∨i=1:=by omega
  rcases this with rfl | rfl
  ·simpa [Array.getD,hi1]using e1
  ·simpa [Array.getD,hi1]using e2
theorem qzV (a b:ByteArray) (w:World) :
  Calls Go.Proofs.Tryz.prog 335 #[.string a,.string b] w fun e w'=>e=.returned (.int .i64 (Lib.compareBytes a.data.toList b.data.toList))∧w'=w:=by
 have u3:=Go.Proofs.Tryz.underlying3;have u9:=Go.Proofs.Tryz.underlying9
 go_enter Go.Proofs.Tryz.func335,Go.Proofs.Tryz.ntmps335
 go_wp2
 rw[run_callFunc_extern Go.Proofs.Tryz.func369 (by kernel_rfl) (by kernel_rfl) (by kernel_rfl) (e:=Extern.BytealgCompare.compare) (by kernel_rfl),Lib.run_compareString];simp only[Result.andThen];rw[Oper.upon_value]
 go_wp2
 go_ret
 exact⟨rfl,rfl⟩
theorem qw4 (a b:List UInt8):ACall Go.Proofs.Tryz.prog 335 [.str a,.str b] [] (fun x L'=>x=.int .i64 (Lib.compareBytes a b)∧L'=[]) :=
 qpd (by kernel_rfl) (fun _ _ _ _ h=>qrJ h) (fun w=>qzV ⟨a.toArray⟩ ⟨b.toArray⟩ w) (fun _ _ _=>.int _ _ _)
end Go.Av.F
end
section
namespace Go.Av.F
open Go Go.Av
open Go.Proofs Go.Proofs.Tryz
attribute [-simp] qdJ hdS qax qai qaq
attribute [local simp] tt3 tt4 tt9 tt5 qcl qc5 qcQ qcP qc4 qdF qot
theorem qon (a b:List UInt8):ACall Go.Proofs.Tryz.prog 291 [.str a,.str b] [] (fun x L'=>x=.int .i64 (Lib.compareBytes a b)∧L'=[]):=by
 refine acx func291 [] ntmps291 rfl rfl rfl ?_;simp;refine qaR (by kernel_rfl) (qw4 a b) (by simp) (by simp) ?_;simp
theorem qqA (s:BS) (name:List UInt8) (hs:s.bl.length=8):ACall Go.Proofs.Tryz.prog 334 [.agg (BS.row s),.str name] [] (fun x L'=>x=.int .i64 (Lib.compareBytes s.name name)∧L'=[]):=by
 refine acx func334 [] ntmps334 rfl rfl rfl ?_;simp[qan _ hs];refine qaR (by kernel_rfl) (qon s.name name) (by simp) (by simp) ?_;simp
theorem qjJ (a b c:Int):ACall Go.Proofs.Tryz.prog 173 [.int .i64 a,.int .i64 b,.int .i64 c] [] (fun x L'=>x=.bool (decide (b≤a) && decide (a≤c))∧L'=[]):=by
 refine acx func173 [] ntmps173 rfl rfl rfl ?_;simp;constructor
 ·intros;omega
 ·intros;omega
theorem qn2 (i:Int):ACall Go.Proofs.Tryz.prog 286 [.int .i64 i] [] (fun x L'=>x=.bool (decide (0≤i) && decide (i≤7))∧L'=[]):=by
 refine acx func286 [] ntmps286 rfl rfl rfl ?_;simp;refine qaR (by kernel_rfl) (qjJ i 0 7) (by simp) (by simp) ?_;simp
theorem qkJ:∀ (a b:List UInt8),(Lib.compareBytes a b<0↔a<b)∧(Lib.compareBytes a b=0↔a=b)
 | [],[]=>by simp[Lib.compareBytes]
 | [],_::_=>by simp[Lib.compareBytes]
 | _::_,[]=>by simp[Lib.compareBytes]
 | x::xs,y::ys=>by
  obtain⟨h1,h2⟩:=qkJ xs ys;simp only[Lib.compareBytes,List.cons_lt_cons_iff,qE9];by_cases g1:x<y
  ·have:x≠y:=by rintro rfl;exact absurd g1 (qFI _)
   simp[g1,this]
  ·by_cases g2:y<x
   ·have:x≠y:=by rintro rfl;exact absurd g2 (qFI _)
    simp[g1,g2,this]
   ·have:x=y:=UInt8.le_antisymm (UInt8.not_lt.1 g2) (UInt8.not_lt.1 g1);subst this;simp[qFI,h1,h2]
theorem qkK (a b:List UInt8):decide (Lib.compareBytes a b<0)=Op.bytesLess a b:=by
 rw[Go.Proofs.bytesLess_eq];simp[(qkJ a b).1]
theorem qtj (a b:List UInt8):(Lib.compareBytes a b == 0)=(a == b):=by
 have:=(qkJ a b).2;by_cases h:a=b
 ·have h2:=this.2 h;rw[h2];subst h;simp
 ·have h2:¬ Lib.compareBytes a b=0:=fun e=>h (this.1 e);rw[beq_false_of_ne h2,beq_false_of_ne h]
def Srt (bs:List BS):Prop:=∀ (i j:Nat) (a b:BS),i<j→bs[i]?=some a→bs[j]?=some b→Op.bytesLess a.name b.name=true
theorem qhK {a b c:List UInt8} (h1:Op.bytesLess a b=true) (h2:Op.bytesLess b c=true):Op.bytesLess a c=true:=by
 simp only[Go.Proofs.bytesLess_eq,decide_eq_true_eq]at *
 exact qFA h1 h2
theorem qvw (bs:List BS) (name:List UInt8) (hl:bs.length<2000000) (hB:∀ b∈bs,b.bl.length=8) (hS:Srt bs) :
  ACall Go.Proofs.Tryz.prog 333 [.lst 11 (bs.map BS.row),.str name,.fn 334 []] [] (fun x L'=>x=.tup [.int .i64 (atP bs name),.bool (atB bs name)]∧L'=[]):=by
 refine acx func333 [] ntmps333 rfl rfl rfl ?_;simp;refine qbK (X:=Nat×Nat) [0,1,2,8,9,10] (fun x=>⟨mkT [(0,.lst 11 (bs.map BS.row)),(1,.str name),(2,.fn 334 []),(8,.int .i64 bs.length),(9,.int .i64 x.1),(10,.int .i64 x.2)],qaW [],Us.of []⟩) (fun x=>x.2-x.1)
  (fun x=>x.1≤x.2∧x.2≤bs.length∧(∀ i a,i<x.1→bs[i]?=some a→Op.bytesLess a.name name=true)∧(∀ i a,x.2≤i→bs[i]?=some a→Op.bytesLess a.name name=false)) (0,bs.length)
  ⟨⟨by simp,by simp,by simp,fun i a h1 h2=>by have:=(qEb.1 h2).1;simp only at h1;omega⟩,[],by simp[qai],by simp[qax]⟩ ?_
 rintro⟨i,j⟩ ⟨hij,hj,ha,hb⟩;simp only at hij hj ha hb;by_cases h1:i<j
 ·obtain⟨m,hm⟩:∃ m,(i+j) / 2=m:=⟨_,rfl⟩;have e1:IntKind.i64.wrap ((i:Int)+j)=((i+j:Nat):Int):=by rw[qaT _ (by omega)];omega
  have e6:IntKind.i64.wrap ((IntKind.u64.wrap ((i:Int)+j)).fdiv (2 ^ min 1 IntKind.u64.bits))=(m:Int):=by
   rw[show IntKind.u64.wrap ((i:Int)+j)=(i:Int)+j from IntWalk.u64_in _ (by omega)];rw[show(2:Int) ^ min 1 IntKind.u64.bits=2 from rfl,qFJ _ (by omega)];rw[qaT _ (by omega)];omega
  have e7:IntKind.i64.wrap ((m:Int)+1)=((m+1:Nat):Int):=by rw[qaT _ (by omega)];omega
  have hml:m<bs.length:=by omega
  obtain⟨s,e0⟩:∃ s,bs[m]=s:=⟨_,rfl⟩;have e5:bs[m]?=some s:=by rw[← e0];exact qDF hml
  have hs:=hB s (qFu e5);simp[h1,e1,e6,hml,e0,e5,qan _ hs,qcs _ hs];refine qaR (by kernel_rfl) (qqA s name hs) (by simp) (by simp) ?_;have hneg:=qkK s.name name;cases hc:Op.bytesLess s.name name with
  | true =>
   rw[hc]at hneg;have hneg':Lib.compareBytes s.name name<0:=by simpa using hneg
   simp[hneg',e7];refine qbE (m+1,j) (by simp only;omega) ⟨by simp only;omega,hj,fun x a hx hxa=>?_,hb⟩ [] (by simp[qai]) (by simp[qax]);simp only at hx;by_cases hxm:x=m
   ·subst hxm;rw[e5]at hxa;injection hxa with hxa;subst hxa;exact hc
   ·exact qhK (hS x m a s (by omega) hxa e5) hc
  | false =>
   rw[hc]at hneg;have hneg':¬ Lib.compareBytes s.name name<0:=by simpa using hneg
   simp[hneg',show 0≤Lib.compareBytes s.name name by omega];refine qbE (i,m) (by simp only;omega) ⟨by simp only;omega,by simp only;omega,ha,fun x a hx hxa=>?_⟩ [] (by simp[qai]) (by simp[qax]);simp only at hx;by_cases hxm:x=m
   ·subst hxm;rw[e5]at hxa;injection hxa with hxa;subst hxa;exact hc
   ·cases hq:Op.bytesLess a.name name with
    | false=>rfl
    | true=>rw[qhK (hS m x s a (by omega) e5 hxa) hq]at hc;cases hc
 ·have hji:j=i:=by omega
  subst hji;by_cases h2:j<bs.length
  ·obtain⟨s,e0⟩:∃ s,bs[j]=s:=⟨_,rfl⟩;have e5:bs[j]?=some s:=by rw[← e0];exact qDF h2
   have hs:=hB s (qFu e5);have hp:atP bs name=j:=(qcY (fun b:BS=>Op.bytesLess b.name name) bs j s (fun x hx y hy=>ha x y hx hy) e5).2 (hb j s (by omega) e5);simp[h2,e0,e5,qan _ hs,qcs _ hs];refine qaR (by kernel_rfl) (qqA s name hs) (by simp) (by simp) ?_;have hz:=qtj s.name name;simp[hz,hp,atB,e5]
  ·have hj':j=bs.length:=by omega
   have hp:atP bs name=bs.length:=by
    unfold atP;rw[qeb _ _ (fun b hb'=>by
     obtain⟨x,hx,e⟩:=qFy.1 hb';exact ha x b (by omega) (by rw[← e];exact qDF hx))]
   subst hj';simp[hp,atB]
theorem qnL (bs:List BS) (name:List UInt8) (hl:bs.length<2000000) (hB:∀ b∈bs,b.bl.length=8) (hS:Srt bs) :
  ACall Go.Proofs.Tryz.prog 283 [bk bs,.str name] [] (fun x L'=>x=.tup [.int .i64 (atP bs name),.bool (atB bs name)]∧L'=[]):=by
 refine acx func283 [] ntmps283 rfl rfl rfl ?_;simp[bk];refine qaR (by kernel_rfl) (qvw bs name hl hB hS) (by simp) (by simp) ?_;simp
end Go.Av.F
end
section
namespace Go.Av.F
open Go Go.Av
open Go.Proofs Go.Proofs.Tryz
attribute [-simp] qdJ hdS qax qai qaq
attribute [local simp] tt3 tt4 tt9 tt5 qcl qc5 qcQ qcP qc4 qdF qot
def qzW (x:Nat) (bs:List BS) (r:AV) (L':List (Nat×Ob)):Prop:=(bs=[]∧r=.nils∧L'=[])∨(r=.sl x 0 bs.length∧L'=[(x,qbz bs)])
theorem qzX (bs:List BS) (hl:bs.length<2000000):ACall Go.Proofs.Tryz.prog 281 [.lst 11 (bs.map BS.row)] [] (qzW 7 bs):=by
 refine acx func281 [] ntmps281 rfl rfl rfl ?_;by_cases h:bs=[]
 ·subst h;simp;exact⟨⟨[],by simp,.inl ⟨rfl,rfl,rfl⟩⟩,[(7,qbz [])],by simp[qbz],.inr ⟨rfl,rfl⟩⟩
 ·simp[h];exact⟨⟨by omega,fun b _ x hx=>qeG b x hx⟩,[(7,qbz bs)],by simp[qbz],.inr ⟨rfl,rfl⟩⟩
def qwp (p:BS→Bool) (bs:List BS):Int:=match bs.findIdx? p with
 | some i=>i
 | none=>-1
@[simp] theorem qBN (hv:Hp) (ids:List Nat) (ρ:Nat→Option Plc) (b:BS):mtL hv ids ρ (BS.row b) (BS.row b):=qg5 _ (qnu b)
theorem qkf (p:BS→Bool):∀ (bs:List BS) (i:Nat) (s:BS),(∀ j,j<i→∀ y,bs[j]?=some y→p y=false)→bs[i]?=some s→p s=true→bs.findIdx? p=some i
 | [],i,s,_,h,_=>by simp at h
 | a::r,0,s,_,h,hp=>by
  simp only[qDH,qDs]at h;subst h;simp[qFK,hp]
 | a::r,i+1,s,hb,h,hp=>by
  have h0:p a=false:=hb 0 (by omega) a (by simp);have:=qkf p r i s (fun j hj y hy=>hb (j+1) (by omega) y (by simpa using hy)) (by simpa using h) hp;simp[qFK,h0,this]
theorem qCz (p:BS→Bool) (g:Nat) (o:Ob) (bs:List BS) (hl:bs.length<2000000) (hB:∀ b∈bs,b.bl.length=8) (ho:∀ ρ,qbF ρ o=o) (hc:clR o.els=true) (en:qb0 Go.Proofs.Tryz.prog g=true)
  (hg:∀ s∈bs,ACall Go.Proofs.Tryz.prog g [.agg (BS.row s),.ptr 1000 0 0] [(1000,o)] (fun r L'=>r=.bool (p s)∧L'=[(1000,o)])) :
  ACall Go.Proofs.Tryz.prog 311 [.lst 11 (bs.map BS.row),.fn g [.ptr 1000 0 0]] [(1000,o)] (fun r L'=>r=.int .i64 (qwp p bs)∧L'=[(1000,o)]):=by
 refine acx func311 [] ntmps311 rfl rfl rfl ?_;simp;refine qbK (X:=Nat) [0,1,7,8] (fun i=>⟨mkT [(0,.lst 11 (bs.map BS.row)),(1,.fn g [.ptr 1000 0 0]),(7,.int .i64 bs.length),(8,.int .i64 i)],qaW [(1000,o)],Us.of [1000,1000]⟩) (fun i=>bs.length-i)
  (fun i=>i≤bs.length∧∀ j,j<i→∀ y,bs[j]?=some y→p y=false) 0 ⟨by simp,[(1000,1000)],by simp[qai],by simp[qax,qah,ho]⟩ ?_
 rintro i ⟨hi,ha⟩;by_cases h1:i<bs.length
 ·obtain⟨s,e0⟩:∃ s,bs[i]=s:=⟨_,rfl⟩;have e1:bs[i]?=some s:=by rw[← e0];exact qDF h1
  have hsm:=qFu e1;have hs:=hB s hsm;have e2:IntKind.i64.wrap ((i:Int)+1)=((i+1:Nat):Int):=by rw[qaT _ (by omega)];omega
  simp[h1,e0,e1,qan _ hs,qcs _ hs];refine qac [(1000,.whole 1000)] en (hg s hsm) (by simp) (by simp) (by simp;exact qaa rfl hc) (by simp) (by simp) ?_;rintro r L' ⟨rfl,rfl⟩;refine⟨[],⟨by simp,by simp,by simp,by simp,by simp⟩,?_⟩;cases hp:p s with
  | true =>
   have:=qkf p bs i s ha e1 hp;simp[ho,qwp,this]
  | false =>
   simp[ho,e2];refine qbE (i+1) (by omega) ⟨by omega,fun j hj y hy=>?_⟩ [(1000,1000)] (by simp[qai]) (by simp[qax,qah,ho]);by_cases hji:j=i
   ·subst hji;rw[e1]at hy;injection hy with hy;subst hy;exact hp
   ·exact ha j (by omega) y hy
 ·have hie:i=bs.length:=by omega
  have:bs.findIdx? p=none:=by
   rw[qFL];intro x hx;obtain⟨j,hj,e⟩:=qFy.1 hx;exact ha j (by omega) x (by rw[← e];exact qDF hj)
  subst hie;simp[qwp,this]
end Go.Av.F
end
section
namespace Go.Av.F
open Go Go.Av
open Go.Proofs Go.Proofs.Tryz
attribute [-simp] qdJ hdS qax qai qaq
attribute [local simp] tt3 tt4 tt9 tt5 qcl qc5 qcQ qcP qc4 qdF qot
def sOb (s:BS):Ob:=⟨11,[BS.row s]⟩
@[simp] theorem qvC (ρ:Nat→Option Plc) (s:BS):qbF ρ (sOb s)=sOb s:=by simp[sOb]
theorem qyl (s:BS):clR (sOb s).els=true:=by simp[sOb,clR]
theorem qwg (s x:BS) (hs:s.bl.length=8) (hx:x.bl.length=8):ACall Go.Proofs.Tryz.prog 312 [.agg (BS.row x),.ptr 1000 0 0] [(1000,sOb s)] (fun r L'=>r=.bool (x.name == s.frm)∧L'=[(1000,sOb s)]):=by
 refine acx func312 [] ntmps312 rfl rfl rfl ?_;simp[sOb,qan _ hs,qan _ hx]
def qdw (bs:List BS):Nat→BS→Bool
 | 0,_=>false
 | n+1,s=>if s.frm=[] then s.kind == 1 else
   match bs.findIdx? (fun x=>x.name == s.frm)with
   | some j=>match bs[j]? with
    | some t=>if t.kind=s.kind then false else qdw bs n t
    | none=>false
   | none=>false
theorem qze (bs:List BS) (s:BS) (hl:bs.length<2000000) (hB:∀ b∈bs,b.bl.length=8) (hs:s.bl.length=8):ACall Go.Proofs.Tryz.prog 260 [bk bs,.agg (BS.row s)] [] (fun r L'=>r=.bool (qdw bs bs.length s)∧L'=[]):=by
 obtain⟨res,hres⟩:∃ res,qdw bs bs.length s=res:=⟨_,rfl⟩;rw[hres];refine acx func260 [(6,[zI 0,zI 1,zI 2,zI 3,zJ 4 [2] [],zJ 5 [] [2],zI 6,zI 7,zI 8,zJ 9 [] [2],zJ 10 [3] [2],zI 11,zI 12])] ntmps260 rfl rfl rfl ?_;simp[bk,qan _ hs];refine qbK (X:=Nat×BS) [2,3,8,9] (fun x=>⟨mkT [(2,.ptr 2 0 0),(3,.ptr 3 0 0),(8,.int .i64 bs.length),(9,.int .i64 x.1)],qaW [(2,⟨1,[[.lst 11 (bs.map BS.row)]]⟩),(3,sOb x.2)],Us.of [2,3]⟩) (fun x=>bs.length-x.1)
  (fun x=>x.1≤bs.length∧x.2.bl.length=8∧res=qdw bs (bs.length-x.1) x.2) (0,s) ⟨⟨by simp,hs,hres.symm⟩,[(2,2),(3,3)],by simp[qai],by simp[qax,qah,sOb]⟩ ?_
 rintro⟨i,t⟩ ⟨hi,ht,he⟩;simp only at hi ht he;by_cases h1:i<bs.length
 ·obtain⟨n,hn⟩:∃ n,bs.length-i=n+1:=⟨bs.length-i-1,by omega⟩;have e2:IntKind.i64.wrap ((i:Int)+1)=((i+1:Nat):Int):=by rw[qaT _ (by omega)];omega
  rw[hn]at he;by_cases h2:t.frm=[]
  ·simp[h1,h2,he,qdw,sOb]
  ·simp[h1,h2,sOb];refine qac [(1000,.whole 3)] (by kernel_rfl) (qCz (fun x=>x.name == t.frm) 312 (sOb t) bs hl hB (fun ρ=>qvC ρ t) (qyl t) (by kernel_rfl) (fun x hx=>qwg t x ht (hB x hx))) (by simp) (by simp) (by simp;exact⟨rfl,qaa rfl (by simp[clR])⟩) (by simp) (by simp) ?_;rintro r L' ⟨rfl,rfl⟩;refine⟨[],⟨by simp,by simp,by simp,by simp,by simp⟩,?_⟩;cases hf:bs.findIdx? (fun x=>x.name == t.frm)with
   | none =>
    have:res=false:=by rw[he];simp[qdw,h2,hf]
    simp[qwp,hf,this]
   | some j =>
    have hjl:j<bs.length:=(List.findIdx?_eq_some_iff_findIdx_eq.1 hf).1;obtain⟨u,e0⟩:∃ u,bs[j]=u:=⟨_,rfl⟩;have e1:bs[j]?=some u:=by rw[← e0];exact qDF hjl
    have hu:=hB u (qFu e1);by_cases h4:u.kind=t.kind
    ·have:res=false:=by rw[he];simp[qdw,h2,hf,e1,h4]
     simp[qwp,hf,hjl,e0,e1,h4,this,qan _ hu,qan _ ht,sOb]
    ·have e5:res=qdw bs n u:=by rw[he];simp[qdw,h2,hf,e1,h4]
     simp[qwp,hf,hjl,e0,e1,h4,qan _ hu,qan _ ht,qcs _ hu,qht _ ht,e2,sOb];refine⟨⟨qeG u,?_⟩,fun h=>by omega⟩;refine qbE (i+1,u) (by simp only;omega) ⟨by simp only;omega,hu,?_⟩ [(2,2),(3,3)] (by simp[qai]) (by simp[qax,qah,sOb]);simp only;rw[e5];congr 1;omega
 ·have:res=false:=by rw[he,show bs.length-i=0 by omega];rfl
  simp[h1,this]
end Go.Av.F
end
section
namespace Go.Av.F
open Go Go.Av
open Go.Proofs Go.Proofs.Tryz
attribute [-simp] qdJ hdS qax qai qaq
attribute [local simp] tt3 tt4 tt9 tt5 qcl qpx
def qh0 (l:List UInt8):List AV:=(List.range 256).map fun i=>.bool (l.any fun c=>c.toNat == i)
@[simp] theorem qhq (l:List UInt8):(qh0 l).length=256:=by simp[qh0]
theorem qnp:qh0 []=List.replicate 256 (.bool false):=by
 rw[List.eq_replicate_iff];refine⟨qhq _,fun x hx=>?_⟩;simp only[qh0,qD6]at hx;obtain⟨_,_,rfl⟩:=hx;rfl
theorem qnq (l:List UInt8) (c:UInt8):(qh0 l)[c.toNat]?=some (.bool (l.any fun d=>d == c)):=by
 have hc:c.toNat<256:=c.toNat_lt;have:∀ d:UInt8,(d.toNat == c.toNat)=(d == c):=fun d=>by
  by_cases h:d=c
  ·simp[h]
  ·have:d.toNat≠c.toNat:=fun e=>h (qFM.1 e);rw[beq_false_of_ne h,beq_false_of_ne this]
 simp[qh0,hc,this]
theorem qjU:∀ l,clL (qh0 l)=true:=fun l=>by
 have:∀ (m:List Nat) (f:Nat→Bool),clL (m.map fun i=>AV.bool (f i))=true:=fun m f=>by induction m <;> simp_all
 exact this _ _
def qee (l:List UInt8):Ob:=⟨256,[qh0 l]⟩
theorem qjT (ρ:Nat→Option Plc) (l:List UInt8):qch ρ (qh0 l)=qh0 l:=by
 have:∀ (m:List Nat) (f:Nat→Bool),qch ρ (m.map fun i=>AV.bool (f i))=m.map fun i=>AV.bool (f i):=fun m f=>by induction m <;> simp_all
 exact this _ _
@[simp] theorem qyc (ρ:Nat→Option Plc) (l:List UInt8):qbF ρ (qee l)=qee l:=by simp[qee,qjT]
theorem ql3 (l:List UInt8) (c:UInt8):ACall Go.Proofs.Tryz.prog 379 [.ptr 1000 0 0,.int .u8 c.toNat] [(1000,qee l)] (fun r L'=>r=.bool (l.any fun d=>d == c)∧L'=[(1000,qee l)]):=by
 have hc:c.toNat<256:=c.toNat_lt;refine acx func379 [] ntmps379 rfl rfl rfl ?_;have hg:(qh0 l)[c.toNat]'(by rw[qhq];exact hc)=.bool (l.any fun d=>d == c):=by
  have:=qnq l c;rw[qDF (by rw[qhq];exact hc)]at this;injection this
 simp[qee,qnq,hc,hg];omega
theorem qsh (l:List UInt8) (c:UInt8):(qh0 l).set c.toNat (.bool true)=qh0 (l++[c]):=by
 apply List.ext_getElem
 ·simp
 ·intro i h1 h2;have hi:i<256:=by simpa using h2
  rw[List.getElem_set];by_cases h:c.toNat=i
  ·subst h;simp[qh0]
  ·have:(c.toNat == i)=false:=beq_false_of_ne h;simp[qh0,h,this]
theorem qz5 (cs:List UInt8) (hl:cs.length<2000000) (hc:∀ c∈cs,c.toNat<128):ACall Go.Proofs.Tryz.prog 351 [.str cs] [] (fun r L'=>r=.tup [.agg (qh0 cs),.bool true]∧L'=[]):=by
 refine acx func351 [] ntmps351 rfl rfl rfl ?_;have hz:=qnp;simp[← hz];refine qbK (X:=Nat) [0,2,4] (fun i=>⟨mkT [(0,.str cs),(2,.ptr 2 0 0),(4,.int .i64 i)],qaW [(2,qee (cs.take i))],Us.of [2]⟩) (fun i=>cs.length-i) (fun i=>i≤cs.length) 0 ⟨by simp,[(2,2)],by simp[qai],by simp[qax,qah,qee,qjT]⟩ ?_;intro i hi;by_cases h1:i<cs.length
 ·obtain⟨x,e0⟩:∃ x,cs[i]=x:=⟨_,rfl⟩;have e1:cs[i]?=some x:=by rw[← e0];exact qDF h1
  have hx:=hc x (qFu e1);have e2:IntKind.i64.wrap ((i:Int)+1)=((i+1:Nat):Int):=by rw[qaT _ (by omega)];omega
  have hx':¬ (128:Int)≤x.toNat:=by omega
  have f1:List.take x.toNat (qh0 (cs.take i))++AV.bool true::List.drop (x.toNat+1) (qh0 (cs.take i))=qh0 (cs.take (i+1)):=by
   have:=qsh (cs.take i) x;rw[qFE,if_pos (by rw[qhq];omega)]at this;rw[this,qFq,e1];rfl
  simp[h1,e0,e1,e2,hx',qee,f1];refine⟨by omega,by omega,?_⟩;exact qbE (i+1) (by omega) (by omega) [(2,2)] (by simp[qai]) (by simp[qax,qah,qee,qjT])
 ·have:i=cs.length:=by omega
  subst this;have f2:List.take 256 (qh0 cs)=qh0 cs:=qDU (by simp);simp[qee,f2];intro x hx;simp only[qh0,qD6]at hx;obtain⟨_,_,rfl⟩:=hx;rfl
end Go.Av.F
end
section
namespace Go.Av.F
open Go Go.Av
open Go.Proofs Go.Proofs.Tryz
attribute [-simp] qdJ hdS qax qai qaq
attribute [local simp] tt3 tt4 tt9 tt5 qcl qpx
def inS (l:List UInt8) (c:UInt8):Bool:=l.any fun d=>d == c
theorem qjS (l:List UInt8):clR (qee l).els=true:=by simp[qee,clR,qjU]
theorem qxY (l s:List UInt8) (hl:s.length<2000000):ACall Go.Proofs.Tryz.prog 352 [.str s,.ptr 1000 0 0] [(1000,qee l)] (fun r L'=>r=.str (s.dropWhile (inS l))∧L'=[(1000,qee l)]):=by
 obtain⟨res,hres⟩:∃ res,s.dropWhile (inS l)=res:=⟨_,rfl⟩;rw[hres];refine acx func352 [] ntmps352 rfl rfl rfl ?_;simp;refine qbK (X:=List UInt8) [0,1] (fun t=>⟨mkT [(0,.str t),(1,.ptr 1000 0 0)],qaW [(1000,qee l)],Us.of [1000,1000]⟩) (fun t=>t.length) (fun t=>t.length<2000000∧t.dropWhile (inS l)=res) s ⟨⟨hl,hres⟩,[(1000,1000)],by simp[qai],by simp[qax,qah]⟩ ?_;rintro t ⟨ht,he⟩;cases t with
 | nil =>
  simp;simpa using he
 | cons c t =>
  simp;refine qac [(1000,.whole 1000)] (by kernel_rfl) (ql3 l c) (by simp) (by simp) (by simp;exact qaa rfl (qjS l)) (by simp) (by simp) ?_;rintro r L' ⟨rfl,rfl⟩;refine⟨[],⟨by simp,by simp,by simp,by simp,by simp⟩,?_⟩;have hd:(l.any fun d=>d == c)=inS l c:=rfl;rw[hd];cases hc:inS l c with
  | true =>
   have he':t.dropWhile (inS l)=res:=by rw[← he];simp[List.dropWhile,hc]
   simp;refine qbE t (by simp) ⟨by simp at ht;omega,he'⟩ [(1000,1000)] (by simp[qai]) (by simp[qax,qah])
  | false =>
   have he':c::t=res:=by rw[← he];simp[List.dropWhile,hc]
   simp[he']
theorem qxX (l s:List UInt8) (hl:s.length<2000000):ACall Go.Proofs.Tryz.prog 353 [.str s,.ptr 1000 0 0] [(1000,qee l)] (fun r L'=>r=.str (s.reverse.dropWhile (inS l)).reverse∧L'=[(1000,qee l)]):=by
 obtain⟨res,hres⟩:∃ res,(s.reverse.dropWhile (inS l)).reverse=res:=⟨_,rfl⟩;rw[hres];refine acx func353 [] ntmps353 rfl rfl rfl ?_;simp;refine qbK (X:=List UInt8) [0,1] (fun t=>⟨mkT [(0,.str t),(1,.ptr 1000 0 0)],qaW [(1000,qee l)],Us.of [1000,1000]⟩) (fun t=>t.length) (fun t=>t.length<2000000∧(t.reverse.dropWhile (inS l)).reverse=res) s ⟨⟨hl,hres⟩,[(1000,1000)],by simp[qai],by simp[qax,qah]⟩ ?_;rintro t ⟨ht,he⟩;rcases List.eq_nil_or_concat t with rfl | ⟨u,c,rfl⟩
 ·simp;simpa using he
 ·simp only[List.concat_eq_append]at *
  have hul:u.length<2000000:=by simp at ht;omega
  have e1:IntKind.i64.wrap ((u.length:Int)+1-1)=(u.length:Int):=by rw[qaT _ (by omega)];omega
  have e2:IntKind.i64.wrap (u.length:Int)=(u.length:Int):=qaT _ (by omega);have e3:(u++[c])[u.length]?=some c:=by simp
  simp[e1,e2,e3];refine⟨by omega,?_⟩;refine qac [(1000,.whole 1000)] (by kernel_rfl) (ql3 l c) (by simp) (by simp) (by simp;exact qaa rfl (qjS l)) (by simp) (by simp) ?_;rintro r L' ⟨rfl,rfl⟩;refine⟨[],⟨by simp,by simp,by simp,by simp,by simp⟩,?_⟩;have hd:(l.any fun d=>d == c)=inS l c:=rfl;rw[hd];cases hc:inS l c with
  | true =>
   have he':(u.reverse.dropWhile (inS l)).reverse=res:=by rw[← he];simp[List.dropWhile,hc]
   simp[e1,e2];exact qbE u (by simp) ⟨hul,he'⟩ [(1000,1000)] (by simp[qai]) (by simp[qax,qah])
  | false =>
   have he':u++[c]=res:=by rw[← he];simp[List.dropWhile,hc]
   simp[he']
end Go.Av.F
end
section
namespace Go.Av.F
open Go Go.Av
open Go.Proofs Go.Proofs.Tryz
attribute [-simp] qdJ hdS qax qai qaq
attribute [local simp] tt3 tt4 tt9 tt5 qcl qpx
def qhW (l s:List UInt8):List UInt8:=((s.reverse.dropWhile (inS l)).reverse).dropWhile (inS l)
theorem qA8 (s cs:List UInt8) (hl:s.length<2000000) (hs:s≠[]) (hcl:2≤cs.length) (hcl2:cs.length<2000000) (hc:∀ c∈cs,c.toNat<128) :
  ACall Go.Proofs.Tryz.prog 310 [.str s,.str cs] [] (fun r L'=>r=.str (qhW cs s)∧L'=[]):=by
 have h1:cs≠[]:=by rintro rfl;simp at hcl
 have h2:¬ cs.length=1:=by omega
 have h2':¬ (cs.length:Int)=1:=by omega
 have hz:=qnp;refine acx func310 [(4,[zI 0,zI 1,zI 2,zI 4,zI 5,zI 3,zI 6,zI 7])] ntmps310 rfl rfl rfl ?_;simp[hs,h1,h2,h2',← hz];refine qaR (by kernel_rfl) (qz5 cs hcl2 hc) (by simp) (by simp[qjU]) ?_;simp;refine⟨fun x hx=>?_,?_⟩
 ·simp only[qh0,qD6]at hx;obtain⟨_,_,rfl⟩:=hx;rfl
 refine qac [(1000,.whole 5)] (by kernel_rfl) (qxX cs s hl) (by simp) (by simp) (by simp;exact⟨rfl,qaa rfl (by simp[clR,qjU])⟩) (by simp) (by simp) ?_;rintro r L' ⟨rfl,rfl⟩;refine⟨[],⟨by simp,by simp,by simp,by simp,by simp⟩,?_⟩;simp;have hl2:((s.reverse.dropWhile (inS cs)).reverse).length<2000000:=by
  have:=(List.dropWhile_sublist (inS cs) (l:=s.reverse)).length_le;simp at this ⊢;omega
 refine qac [(1000,.whole 5)] (by kernel_rfl) (qxY cs _ hl2) (by simp) (by simp) (by simp;exact qaa rfl (qjS cs)) (by simp) (by simp) ?_;rintro r L' ⟨rfl,rfl⟩;refine⟨[],⟨by simp,by simp,by simp,by simp,by simp⟩,?_⟩;simp[qhW]
end Go.Av.F
end
section
namespace Go.Av.F
open Go Go.Av
open Go.Proofs Go.Proofs.Tryz
attribute [-simp] qdJ hdS qax qai qaq
attribute [local simp] tt3 tt4 tt9 tt5 qcl qpx
def abc:List UInt8:=[97,98,99,100,101,102,103,104,105,106,107,108,109,110,111,112,113,114,115,116,117,118,119,120,121,122]
theorem qci {α:Type} (p:α→Bool):∀ l:List α,l.dropWhile p=[]↔l.all p=true
 | []=>by simp
 | a::r=>by
  cases h:p a <;> simp[List.dropWhile,h,qci p r]
theorem qfp {α:Type} (p:α→Bool):∀ (l:List α) (a:α) (r:List α),l.dropWhile p=a::r→p a=false
 | [],a,r,h=>by simp at h
 | b::l,a,r,h=>by
  cases hb:p b with
  | true=>simp[List.dropWhile,hb]at h;exact qfp p l a r h
  | false=>simp[List.dropWhile,hb]at h;rw[← h.1];exact hb
theorem qk1 (l s:List UInt8):qhW l s=[]↔s.all (inS l)=true:=by
 unfold qhW;constructor
 ·intro h;by_cases h2:(s.reverse.dropWhile (inS l))=[]
  ·have:=(qci _ _).1 h2;simpa using this
  ·exfalso;have h3:=(qci _ _).1 h;cases h4:s.reverse.dropWhile (inS l)with
   | nil=>exact h2 h4
   | cons a r =>
    have h5:=qfp _ _ _ _ h4;rw[h4]at h3;simp[h5]at h3
 ·intro h;have h2:s.reverse.dropWhile (inS l)=[]:=(qci _ _).2 (by simpa using h);rw[h2];rfl
theorem qwk (c:UInt8):inS abc c=qmg c:=by
 have:∀ n:Fin 256,inS abc (UInt8.ofNat n)=qmg (UInt8.ofNat n):=by decide
 have h:=this ⟨c.toNat,c.toNat_lt⟩;simpa using h
theorem qio (s:List UInt8) (hs:s.length<2000000):ACall Go.Proofs.Tryz.prog 256 [.str s] [] (fun r L'=>r=.bool (qbS s)∧L'=[]):=by
 refine acx func256 [] ntmps256 rfl rfl rfl ?_;simp;refine qaR (by kernel_rfl) (qjJ s.length 1 6) (by simp) (by simp) ?_;have hall:s.all (inS abc)=s.all qmg:=by congr 1;funext c;exact qwk c
 by_cases h1:1≤s.length∧s.length≤6
 ·have h2:s≠[]:=by rintro rfl;simp at h1
  have h3:(decide ((1:Int)≤s.length) && decide ((s.length:Int)≤6))=true:=by simp;omega
  rw[h3];simp;refine qaR (by kernel_rfl) (qA8 s abc hs h2 (by simp[abc]) (by simp[abc]) (by decide)) (by simp) (by simp) ?_;have h4:(qhW abc s == [])=qbS s:=by
   have h5:(qhW abc s == [])=s.all qmg:=by
    cases h6:s.all qmg with
    | true=>rw[(qk1 abc s).2 (by rw[hall];exact h6)];rfl
    | false =>
     have:qhW abc s≠[]:=fun e=>by
      have:=(qk1 abc s).1 e;rw[hall,h6]at this;cases this
     exact beq_false_of_ne this
   rw[h5];simp[qbS,h1.2];omega
  simp[h4]
 ·have h3:(decide ((1:Int)≤s.length) && decide ((s.length:Int)≤6))=false:=by simp;omega
  have h4:qbS s=false:=by
   simp only[qbS,qEp,decide_eq_false_iff_not];omega
  rw[h3];simp[h4]
end Go.Av.F
end
section
namespace Go.Av.F
open Go Go.Av
open Go.Proofs Go.Proofs.Tryz
attribute [-simp] qdJ hdS qax qai qaq
attribute [local simp] tt3 tt4 tt9 tt5 qcl qc5 qcQ qcP qc4 qdF qmd
theorem qy8 (t:List UInt8):ACall Go.Proofs.Tryz.prog 257 [.str t] [] (fun r L'=>r=.bool (!qed t)∧L'=[]):=by
 refine acx func257 [] ntmps257 rfl rfl rfl ?_;by_cases h:t.length≤24
 ·have h2:¬ (24:Int)<t.length:=by omega
  simp[qed,h,h2]
 ·have h2:(24:Int)<t.length:=by omega
  simp[qed,h,h2]
def qxB {α:Type} (p:α→Bool) (bs:List α):Int:=match bs.findIdx? p with
 | some i=>i
 | none=>-1
theorem qn5 {α:Type} (p:α→Bool) (bs:List α):decide (0≤qxB p bs)=bs.any p:=by
 unfold qxB;cases h:bs.findIdx? p with
 | none =>
  rw[qFL]at h;have:bs.any p=false:=by rw[qFN];intro x hx;simp[h x hx]
  simp[this]
 | some i =>
  have:bs.any p=true:=by
   have h2:=(List.findIdx?_eq_some_iff_getElem.1 h);obtain⟨hi,hp,_⟩:=h2;rw[qFg];exact⟨_,qEc hi,hp⟩
  simp[this]
theorem qlA {α:Type} (p:α→Bool):∀ (bs:List α) (i:Nat) (s:α),(∀ j,j<i→∀ y,bs[j]?=some y→p y=false)→bs[i]?=some s→p s=true→bs.findIdx? p=some i
 | [],i,s,_,h,_=>by simp at h
 | a::r,0,s,_,h,hp=>by
  simp only[qDH,qDs]at h;subst h;simp[qFK,hp]
 | a::r,i+1,s,hb,h,hp=>by
  have h0:p a=false:=hb 0 (by omega) a (by simp);have:=qlA p r i s (fun j hj y hy=>hb (j+1) (by omega) y (by simpa using hy)) (by simpa using h) hp;simp[qFK,h0,this]
theorem qBS (p:List UInt8→Bool) (g:Nat) (bs:List (List UInt8)) (hl:bs.length<2000000) (en:qb0 Go.Proofs.Tryz.prog g=true)
  (hg:∀ s∈bs,ACall Go.Proofs.Tryz.prog g [.str s] [] (fun r L'=>r=.bool (p s)∧L'=[])) :
  ACall Go.Proofs.Tryz.prog 253 [.lst 1 (bs.map qaf),.fn g []] [] (fun r L'=>r=.int .i64 (qxB p bs)∧L'=[]):=by
 refine acx func253 [] ntmps253 rfl rfl rfl ?_;simp;refine qbK (X:=Nat) [0,1,7,8] (fun i=>⟨mkT [(0,.lst 1 (bs.map qaf)),(1,.fn g []),(7,.int .i64 bs.length),(8,.int .i64 i)],qaW [],Us.of []⟩) (fun i=>bs.length-i)
  (fun i=>i≤bs.length∧∀ j,j<i→∀ y,bs[j]?=some y→p y=false) 0 ⟨by simp,[],by simp[qai],by simp[qax]⟩ ?_
 rintro i ⟨hi,ha⟩;by_cases h1:i<bs.length
 ·obtain⟨s,e0⟩:∃ s,bs[i]=s:=⟨_,rfl⟩;have e1:bs[i]?=some s:=by rw[← e0];exact qDF h1
  have hsm:=qFu e1;have e2:IntKind.i64.wrap ((i:Int)+1)=((i+1:Nat):Int):=by rw[qaT _ (by omega)];omega
  simp[h1,e0,e1,qaf];refine qaR en (hg s hsm) (by simp) (by simp) ?_;cases hp:p s with
  | true =>
   have:=qlA p bs i s ha e1 hp;simp[qxB,this]
  | false =>
   simp[e2];refine qbE (i+1) (by omega) ⟨by omega,fun j hj y hy=>?_⟩ [] (by simp[qai]) (by simp[qax,qaf]);by_cases hji:j=i
   ·subst hji;rw[e1]at hy;injection hy with hy;subst hy;exact hp
   ·exact ha j (by omega) y hy
 ·have hie:i=bs.length:=by omega
  have:bs.findIdx? p=none:=by
   rw[qFL];intro x hx;obtain⟨j,hj,e⟩:=qFy.1 hx;exact ha j (by omega) x (by rw[← e];exact qDF hj)
  subst hie;simp[qxB,this]
theorem qrF (p:List UInt8→Bool) (g:Nat) (bs:List (List UInt8)) (hl:bs.length<2000000) (en:qb0 Go.Proofs.Tryz.prog g=true)
  (hg:∀ s∈bs,ACall Go.Proofs.Tryz.prog g [.str s] [] (fun r L'=>r=.bool (p s)∧L'=[])) :
  ACall Go.Proofs.Tryz.prog 174 [.lst 1 (bs.map qaf),.fn g []] [] (fun r L'=>r=.bool (bs.any p)∧L'=[]):=by
 refine acx func174 [] ntmps174 rfl rfl rfl ?_;simp;refine qaR (by kernel_rfl) (qBS p g bs hl en hg) (by simp) (by simp) ?_;have:=qn5 p bs;simp[this]
end Go.Av.F
end
section
namespace Go.Av.F
open Go Go.Av
open Go.Proofs Go.Proofs.Tryz
attribute [-simp] qdJ hdS qax qai qaq
attribute [local simp] tt3 tt4 tt9 tt5 qcl qc5 qcQ qcP qc4 qdF qmd
theorem qwo (p:BS→Bool) (bs:List BS):qwp p bs=qxB p bs:=rfl
theorem qzQ (p:BS→Bool) (g:Nat) (o:Ob) (bs:List BS) (hl:bs.length<2000000) (hB:∀ b∈bs,b.bl.length=8) (ho:∀ ρ,qbF ρ o=o) (hc:clR o.els=true) (en:qb0 Go.Proofs.Tryz.prog g=true)
  (hg:∀ s∈bs,ACall Go.Proofs.Tryz.prog g [.agg (BS.row s),.ptr 1000 0 0] [(1000,o)] (fun r L'=>r=.bool (p s)∧L'=[(1000,o)])) :
  ACall Go.Proofs.Tryz.prog 258 [.lst 11 (bs.map BS.row),.fn g [.ptr 1000 0 0]] [(1000,o)] (fun r L'=>r=.bool (bs.any p)∧L'=[(1000,o)]):=by
 refine acx func258 [] ntmps258 rfl rfl rfl ?_;simp;refine qac [(1000,.whole 1000)] (by kernel_rfl) (qCz p g o bs hl hB ho hc en hg) (by simp) (by simp) (by simp;exact qaa rfl hc) (by simp) (by simp) ?_;rintro r L' ⟨rfl,rfl⟩;refine⟨[],⟨by simp,by simp,by simp,by simp,by simp⟩,?_⟩;have:=qn5 p bs;rw[← qwo]at this;simp[ho,this]
theorem qBL (bs:List BS) (s:BS) (hl:bs.length<2000000) (hB:∀ b∈bs,b.bl.length=8) (hs:s.bl.length=8) :
  ACall Go.Proofs.Tryz.prog 259 [.agg (BS.row s),.ptr 1000 0 0] [(1000,⟨1,[[.lst 11 (bs.map BS.row)]]⟩)] (fun r L'=>r=.bool (!qdw bs bs.length s)∧L'=[(1000,⟨1,[[.lst 11 (bs.map BS.row)]]⟩)]):=by
 refine acx func259 [] ntmps259 rfl rfl rfl ?_;simp[qan _ hs,qcs _ hs];refine qaR (by kernel_rfl) (qze bs s hl hB hs) (by simp[bk]) (by simp) ?_;simp
def qcF (bs:List BS):Bool:=decide (bs.length≤6) && qgv bs && !(bs.any fun s=>!qdw bs bs.length s)
theorem qrG (l:List (List UInt8)) (h:l.length=8):qew 1 8 (l.map AV.str)=l.map qaf:=by
 match l,h with
 | [a,b,c,d,e,f,g,i],_=>rfl
theorem qma (l:List (List UInt8)):(l.any fun t=>!qed t)=!l.all qed:=by
 rw[qFO]
theorem qkg (bs:List BS) (hl:bs.length<2000000) (hB:∀ b∈bs,b.bl.length=8) (hs:∀ b∈bs,b.name.length<2000000):ACall Go.Proofs.Tryz.prog 181 [bk bs] [] (fun r L'=>r=.bool (qcF bs)∧L'=[]):=by
 obtain⟨res,hres⟩:∃ res,qcF bs=res:=⟨_,rfl⟩;rw[hres];by_cases h0:bs.length≤6
 ·have h0':¬ (6:Int)<bs.length:=by omega
  have h0'':(bs.length:Int)≤6:=by omega
  refine acx func181 [(6,[zI 0,zJ 1 [4] [],zI 2,zI 3,zI 4,zI 5,zI 6,zI 7,zI 8,zJ 9 [1] [],zJ 10 [] [1],zJ 11 [] [1],zI 12,zI 13,zI 14,zJ 15 [] [1],zJ 16 [4] [1],zI 17,zI 18,zI 19,zI 20,zI 21,zJ 22 [4] [],zI 23,zI 24,zI 25,zJ 26 [4] [],zI 27,zI 28,zI 29,zI 30,zI 31,zI 32,zI 33,zI 34])] ntmps181 rfl rfl rfl ?_;simp[bk,h0',h0''];refine qbK (X:=Nat) [1,10,11,12] (fun i=>⟨mkT [(1,.ptr 1 0 0),(10,.lst 11 (bs.map BS.row)),(11,.int .i64 bs.length),(12,.int .i64 i)],qaW [(1,⟨1,[[.lst 11 (bs.map BS.row)]]⟩)],Us.of [1]⟩) (fun i=>bs.length-i)
   (fun i=>i≤bs.length∧∀ j,j<i→∀ s,bs[j]?=some s→qgh bs j s=true) 0 ⟨by simp,[(1,1)],by simp[qai],by simp[qax,qah]⟩ ?_
  rintro i ⟨hi,ha⟩;by_cases h1:i<bs.length
  ·obtain⟨s,e0⟩:∃ s,bs[i]=s:=⟨_,rfl⟩;have e1:bs[i]?=some s:=by rw[← e0];exact qDF h1
   have hsm:s∈bs:=qFu e1;have h8:=hB s hsm;have e2:IntKind.i64.wrap ((i:Int)+1)=((i+1:Nat):Int):=by rw[qaT _ (by omega)];omega
   have hbad:qgh bs i s=false→res=false:=fun h=>by rw[← hres,qcF,qlt bs i s e1 h];simp
   have next:qgh bs i s=true→∀ j,j<i+1→∀ s,bs[j]?=some s→qgh bs j s=true:=fun hok j hj y hy=>by
    by_cases hji:j=i
    ·subst hji;rw[e1]at hy;injection hy with hy;subst hy;exact hok
    ·exact ha j (by omega) y hy
   have hfin:qbS s.name=true→qdu bs i s=true→1≤s.kind→s.kind≤2→qgh bs i s=s.bl.all qed:=fun h1 h2 h3 h4=>by
    simp only[qgh,h1,h2,h3,h4,qFP,decide_true];rfl
   simp[h1,e0,e1,qan _ h8,qcs _ h8];refine⟨qeG s,qaR (by kernel_rfl) (qio s.name (by have:=hs s hsm;omega)) (by simp) (by simp) ?_⟩;cases hn:qbS s.name with
   | false=>simp[hbad (by simp[qgh,hn])]
   | true =>
    have hn':=hn;have hpv:qdu bs i s=false→res=false:=fun h=>hbad (by simp[qgh,h]);have hk:¬ (s.kind=1∨s.kind=2)→res=false:=fun h=>hbad (by
     by_cases hk1:1≤s.kind
     ·have hk2:¬ s.kind≤2:=by omega
      simp[qgh,hk2]
     ·simp[qgh,hk1])
    by_cases hi0:i=0
    ·subst hi0;simp;refine⟨fun g1=>⟨fun g2=>?_,fun g2=>hk (by omega)⟩,fun g1=>?_⟩
     all_goals
      refine qc3 (by kernel_rfl) (qrF (fun t=>!qed t) 257 s.bl (by omega) (by kernel_rfl) (fun t _=>qy8 t)) (by simp[qrG _ h8,qan _ h8];intro _ _;rfl) (by simp) (by simp) ?_;rw[qma];cases hb:s.bl.all qed with
      | false=>simp[hbad ((hfin hn' (by simp[qdu]) (by omega) (by omega)).trans hb)]
      | true =>
       simp[show IntKind.i64.wrap 1=1 from rfl];exact qbE (0+1) (by omega) ⟨by omega,next ((hfin hn' (by simp[qdu]) (by omega) (by omega)).trans hb)⟩ [(1,1)] (by simp[qai]) (by simp[qax,qah])
    ·obtain⟨m,hm⟩:∃ m,i=m+1:=⟨i-1,by omega⟩;subst hm;obtain⟨q,q0⟩:∃ q,bs[m]=q:=⟨_,rfl⟩;have q1:bs[m]?=some q:=by rw[← q0];exact qDF (by omega)
     have q2:IntKind.i64.wrap (m:Int)=(m:Int):=by rw[qaT _ (by omega)]
     have q3:m<bs.length:=by omega
     have q4:=qan q (hB q (qFu q1));have hbl:(Op.bytesLess s.name q.name || s.name == q.name)=!Op.bytesLess q.name s.name:=qep _ _;have hbl2:(Op.bytesLess s.name q.name || q.name == s.name)=!Op.bytesLess q.name s.name:=by rw[← hbl,BEq.comm]
     cases hq:Op.bytesLess q.name s.name with
     | false =>
      have hrf:res=false:=hpv (by simp[qdu,q1,hq]);simp[q0,q1,q2,q3,hrf,q4,hbl,hbl2,hq]
     | true =>
      have hop:qdu bs (m+1) s=true:=by simp[qdu,q1,hq]
      have e2':IntKind.i64.wrap ((m:Int)+1+1)=(m:Int)+1+1:=qaT _ (by omega);simp[q0,q1,q2,q3,q4,hbl,hbl2,hq];refine⟨fun g1=>⟨fun g2=>?_,fun g2=>hk (by omega)⟩,fun g1=>?_⟩
      all_goals
       refine qc3 (by kernel_rfl) (qrF (fun t=>!qed t) 257 s.bl (by omega) (by kernel_rfl) (fun t _=>qy8 t)) (by simp[qrG _ h8,qan _ h8];intro _ _;rfl) (by simp) (by simp) ?_;rw[qma];cases hb:s.bl.all qed with
       | false=>simp[hbad ((hfin hn' hop (by omega) (by omega)).trans hb)]
       | true =>
        simp[e2'];exact qbE (m+1+1) (by omega) ⟨by omega,next ((hfin hn' hop (by omega) (by omega)).trans hb)⟩ [(1,1)] (by simp[qai]) (by simp[qax,qah])
  ·have hie:i=bs.length:=by omega
   subst hie;have hok:qgv bs=true:=by
    unfold qgv;rw[qDS];intro j hj;have hj':j<bs.length:=by simpa using hj
    have hx:bs[j]?=some bs[j]:=qDF hj';rw[hx];exact ha j hj' _ hx
   simp;refine qac [(1000,.whole 1)] (by kernel_rfl) (qzQ (fun s=>!qdw bs bs.length s) 259 ⟨1,[[.lst 11 (bs.map BS.row)]]⟩ bs hl hB (by simp) (by simp) (by kernel_rfl) (fun s hsm=>qBL bs s hl hB (hB s hsm))) (by simp) (by simp) (by simp;exact qaa rfl (by simp)) (by simp) (by simp) ?_;rintro r L' ⟨rfl,rfl⟩;refine⟨[],⟨by simp,by simp,by simp,by simp,by simp⟩,?_⟩;have:res=!(bs.any fun s=>!qdw bs bs.length s):=by
    rw[← hres];simp only[qcF,hok,h0,decide_true,qFP]
   simp[this]
 ·have:res=false:=by rw[← hres];simp[qcF,h0]
  have h0':(6:Int)<bs.length:=by omega
  refine acx func181 [(6,[zI 0,zJ 1 [4] [],zI 2,zI 3,zI 4,zI 5,zI 6,zI 7,zI 8,zJ 9 [1] [],zJ 10 [] [1],zJ 11 [] [1],zI 12,zI 13,zI 14,zJ 15 [] [1],zJ 16 [4] [1],zI 17,zI 18,zI 19,zI 20,zI 21,zJ 22 [4] [],zI 23,zI 24,zI 25,zJ 26 [4] [],zI 27,zI 28,zI 29,zI 30,zI 31,zI 32,zI 33,zI 34])] ntmps181 rfl rfl rfl ?_;simp[bk,h0',this]
end Go.Av.F
end
section
namespace Go.Av.F
open Go Go.Av
open Go.Proofs Go.Proofs.Tryz
attribute [-simp] qdJ hdS qax qai qaq
attribute [local simp] tt3 tt4 tt9 tt5 qcl qc5 qcQ qcP qc4 qdF qmd
theorem qqC (o1 o2:Ob) (h1:o1.sz=11) (h2:o2.sz=11) (e1 len1 e2 len2:Nat) :
  ACall Go.Proofs.Tryz.prog 367 [.sl 1001 e1 len1,.sl 1000 e2 len2] [(1000,o2),(1001,o1)] (fun r L'=>r=.bool false∧L'=[(1000,o2),(1001,o1)]) :=
 qlq (tS:=129) (tR:=4) (e:=210) Go.Proofs.Tryz.func367 (by kernel_rfl) (by kernel_rfl) (by kernel_rfl) (by kernel_rfl) qcQ rfl qcP (by simp) o1 o2 h1 h2 e1 len1 e2 len2
theorem qe1 (els:List (List AV)) (k:Nat) (ys:List (List AV)) (h:k≤els.length):(spl els k ys).take (k+ys.length)=els.take k++ys:=by
 unfold spl;rw[← List.append_assoc,qFQ (by simp;omega),qDU (by simp;omega)]
theorem qjY (ρ:Nat→Option Plc):∀ {els:List (List AV)},clR els=true→els.map (qch ρ)=els
 | [],_=>rfl
 | a::r,h=>by
  simp only[clR,qFR,Bool.and_eq_true]at h;rw[qD5,renL_closed.renL_closedL ρ a h.1,qjY ρ (els:=r) (by simpa [clR]using h.2)]
theorem qpR (els:List (List AV)) (k:Nat) (ys:List (List AV)) (h:k≤els.length):(spl els k ys).take k=els.take k∧(spl els k ys).drop k=ys++els.drop (k+ys.length):=by
 unfold spl;constructor
 ·rw[qFQ (by simp;omega),qEX,qFS]
 ·rw[qEU (by simp;omega),qDO (by simp;omega),qEf]
theorem qlz (els rows:List (List AV)) (row:List AV) (i:Nat) (het:els.take rows.length=rows) (hn:rows.length+1≤els.length) (hi:i<rows.length) :
  (spl (spl els (i+1) (rows.drop i)) i [row]).take (rows.length+1)=rows.take i++row::rows.drop i:=by
 obtain⟨h1,h2⟩:=qpR els (i+1) (rows.drop i) (by omega);have h3:(spl els (i+1) (rows.drop i)).take i=rows.take i:=by
  have:((spl els (i+1) (rows.drop i)).take (i+1)).take i=(els.take (i+1)).take i:=by rw[h1]
  rw[qEX,qEX,qEW (by omega)]at this;rw[this]
  conv=>rhs;rw[← het]
  rw[qEX,qEW (by omega)]
 rw[show spl (spl els (i+1) (rows.drop i)) i [row]=(spl els (i+1) (rows.drop i)).take i++([row]++(spl els (i+1) (rows.drop i)).drop (i+1)) from rfl,h3,h2];rw[show rows.take i++([row]++(rows.drop i++els.drop (i+1+(rows.drop i).length)))=(rows.take i++row::rows.drop i)++els.drop (i+1+(rows.drop i).length) by simp];rw[qFQ (by simp;omega),qDU (by simp;omega)]
theorem qn3 (rows:List (List AV)) (row z:List AV) (i:Nat) (hi:i<rows.length) :
  spl (spl (rows.take i++List.replicate (rows.length+1-i) z) i [row]) (i+1) (rows.drop i)=rows.take i++row::rows.drop i:=by
 have hl:(rows.take i++List.replicate (rows.length+1-i) z).length=rows.length+1:=by simp;omega
 obtain⟨h1,h2⟩:=qpR (rows.take i++List.replicate (rows.length+1-i) z) i [row] (by omega);have hl2:=qbT (rows.take i++List.replicate (rows.length+1-i) z) i [row] (by omega);have h3:(rows.take i++List.replicate (rows.length+1-i) z).take i=rows.take i:=by
  rw[qFQ (by simp;omega),qEX,qFS]
 have h4:=qe1 (rows.take i++List.replicate (rows.length+1-i) z) i [row] (by omega);rw[h3]at h4;simp only[qDX,qET,qEQ]at h4;generalize spl (rows.take i++List.replicate (rows.length+1-i) z) i [row]=X at *
 have h5:X.length=rows.length+1:=by rw[hl2,hl];simp;omega
 unfold spl;rw[h4,qDO (l:=X) (by simp;omega)];simp
def qpk (rows:List (List AV)) (row:List AV) (i:Nat):List (List AV):=rows.take i++row::rows.drop i
def qAE (sz:Nat) (a b:Nat) (rows:List (List AV)) (row:List AV) (i:Nat) (r:AV) (L':List (Nat×Ob)):Prop :=
 ∃ id,(id=1000∨id=a∨id=b)∧r=.sl id 0 (rows.length+1)∧L'=[(id,⟨sz,qpk rows row i⟩)]
theorem qwj (rows:List (List AV)) (row:List AV) (i:Nat) (hi:i≤rows.length) (hl:rows.length<2000000) (hrow:row.length=11) (hr1:∀ r∈rows,r.length=11) (ho:row.all qde=true) (hro:rows.all (fun r=>r.all qde)=true)
  (hc:clL row=true) (hrc:clR rows=true) :
  ACall Go.Proofs.Tryz.prog 332 [.sl 1000 0 rows.length,.int .i64 i,.sl 1001 0 1] [(1000,⟨11,rows⟩),(1001,⟨11,[row]⟩)] (qAE 11 25 40 rows row i):=by
 refine ACall.weak (R:=fun r L'=>∃ L2,wkL L' L2∧qAE 11 25 40 rows row i (unc r) L2) (ACall.cap (by simp) fun cap hcap=>?_) (fun r L' h=>h);obtain⟨els,hels⟩:∃ els,(qcJ ⟨11,rows⟩ cap)=⟨11,els⟩:=⟨_,rfl⟩;have hel:els.length=cap:=by
  have:=congrArg (fun o:Ob=>o.els.length) hels;simp[qcJ]at this;omega
 have het:els.take rows.length=rows:=by
  have:=congrArg (fun o:Ob=>o.els.take rows.length) hels;simp[qcJ]at this;exact this.symm
 have hcl:clR els=true:=by
  have:=congrArg (fun o:Ob=>clR o.els) hels;simp only[qcJ]at this;rw[← this];simp only[clR,qFT,Bool.and_eq_true]at hrc ⊢;refine⟨hrc,?_⟩;rw[qDS];intro x hx;rw[qEY hx];rfl
 have hm:∀ ρ,els.map (qch ρ)=els:=fun ρ=>qjY ρ hcl;have hm2:∀ ρ,qch ρ row=row:=fun ρ=>renL_closed.renL_closedL ρ row hc;rw[hels];clear hels;have w1:IntKind.i64.wrap ((rows.length:Int)+1)=(rows.length:Int)+1:=qaT _ (by omega);refine acx func332 [(11,[zI 0,zI 1,zI 2,zI 3,zJ 4 [40,1000] [],zJ 5 [] [40,1000],zJ 6 [] [40,1000],zJ 7 [40,1000] [40,1000],zI 8]),(15,[zI 0,zI 1,zI 2,zI 3,zJ 4 [1000] [],zJ 5 [] [1000],zJ 6 [] [1000],zJ 7 [1000] [1000],zI 8])] ntmps332 rfl rfl rfl ?_;have e1:rows.take rows.length=rows:=qFx;by_cases h1:i=rows.length
 ·subst h1;by_cases h2:rows.length+1≤cap
  ·simp[h2,hrow,hel,hcap];refine⟨by simpa using ho,[(1000,⟨11,spl els rows.length [row]⟩)],by simp,_,.cons 1000 _ (rows.length+1) .nil,1000,.inl rfl,rfl,?_⟩;have:=qe1 els rows.length [row] (by omega);simp only[qDX,qET,qEQ]at this;simp[qpk,this,het]
  ·simp[h2,hrow,hel,hcap,het];refine⟨by omega,[(25,⟨11,rows++[row]⟩)],by simp,_,.cons 25 _ (rows.length+1) .nil,25,.inr (.inl rfl),rfl,?_⟩;rw[qDU (by simp)];simp[qpk]
 ·have hi':i<rows.length:=by omega
  have h1':¬ (i:Int)=rows.length:=by omega
  have w2:IntKind.i64.wrap ((i:Int)+1)=((i+1:Nat):Int):=by rw[qaT _ (by omega)];omega
  have w4:IntKind.i64.wrap ((rows.length:Int)+1-(i:Int))=((rows.length+1-i:Nat):Int):=by rw[qaT _ (by omega)];omega
  have hall:∀ x∈rows,∀ y∈x,qde y=true:=fun x hx y hy=>qDS.1 (qDS.1 hro x hx) y hy;have g1:rows.length+1≤cap→min (rows.length+1-i) (min (cap-i) (rows.length-i))=rows.length-i:=fun _=>by omega
  have g2:min 1 (rows.length+1-i)=1:=by omega
  have g5:(els.drop i).take (rows.length-i)=rows.drop i:=by
   conv=>rhs;rw[← het]
   rw[qEV]
  have g3:List.take (rows.length-i) (List.take (rows.length+1-i) (List.drop i els))=rows.drop i:=by
   rw[qEX,qEW (by omega),g5]
  by_cases h2:rows.length+1≤cap
  ·have g1:=g1 h2;have h2':¬ (cap:Int)<(rows.length:Int)+1:=by omega
   simp[h1,h1',h2,h2',hrow,hel,hcap,w1,w2,w4];refine⟨by omega,by omega,⟨by omega,by omega⟩,?_⟩;refine qac [(1000,.whole 1000),(1001,.whole 1001)] (by kernel_rfl) (qqC ⟨11,[row]⟩ ⟨11,els⟩ rfl rfl 0 1 (i+1) (rows.length-i)) (by simp) (by simp) (by simp;exact⟨qaa rfl hcl,qaa rfl (by simp[clR,hc])⟩) (by simp) (by simp) ?_;rintro r L' ⟨rfl,rfl⟩;refine⟨[],⟨by simp,by simp,by simp,by simp,by simp⟩,?_⟩;simp[hm,hm2,w2,hel,hrow];rw[g1,g2,g3,qDU (by simp:[row].length≤1)];have g4:=qbT els (i+1) (rows.drop i) (by omega);refine⟨⟨by omega,by omega,by omega⟩,⟨by omega,by omega⟩,⟨by omega,by omega,fun x hx y hy=>hall x (qFU hx) y hy⟩,⟨by omega,by omega⟩,⟨by simp at g4;omega,fun x hx y hy=>?_⟩,
    [(1000,⟨11,spl (spl els (i+1) (rows.drop i)) i [row]⟩)],by simp,_,.cons 1000 _ (rows.length+1) .nil,1000,.inl rfl,rfl,?_⟩
   ·have:x=row:=by simpa using hx
    subst this;exact qDS.1 ho y hy
   ·rw[qlz els rows row i het (by omega) hi'];rfl
  ·have h2':(cap:Int)<(rows.length:Int)+1:=by omega
   simp[h1,h1',h2,h2',hrow,hel,hcap,w1,w2,w4];have c1:cap=rows.length:=by omega
   subst c1;have g6:min (rows.length-i) (min (rows.length-i) (i+(rows.length+1-i)-(i+1)))=rows.length-i:=by omega
   have g7:List.take (rows.length-i) (rows.drop i)=rows.drop i:=qDU (by simp);have g8:i+(rows.length+1-i)=rows.length+1:=by omega
   have g9:els.take i=rows.take i:=by
    conv=>rhs;rw[← het]
    rw[qEX,qEW (by omega)]
   rw[g6,g2,g5,g7,qDU (by simp:[row].length≤1),g8,g9,qn3 rows row _ i hi'];refine⟨by omega,by omega,⟨by omega,by omega,by omega,by omega⟩,⟨by omega,fun x hx y hy=>?_⟩,⟨by omega,by omega⟩,by omega,⟨by omega,?_,fun x hx y hy=>hall x (qFU hx) y hy⟩,
    [(40,⟨11,rows.take i++row::rows.drop i⟩)],by simp,_,.cons 40 _ (rows.length+1) .nil,40,.inr (.inr rfl),rfl,?_⟩
   ·have:x=row:=by simpa using hx
    subst this;exact qDS.1 ho y hy
   ·rw[qbT _ _ _ (by simp;omega)];simp;omega
   ·have g10:(rows.take i++row::rows.drop i).take (rows.length+1)=rows.take i++row::rows.drop i:=qDU (by simp;omega);simp only[g10];rfl
end Go.Av.F
end
section
namespace Go.Av.F
open Go Go.Av
open Go.Proofs Go.Proofs.Tryz
attribute [-simp] qdJ hdS qax qai qaq
attribute [local simp] tt3 tt4 tt9 tt5 qcl qc5 qcQ qcP qc4 qdF qmd
theorem qoe (els rows:List (List AV)) (z:List (List AV)) (i j:Nat) (het:els.take rows.length=rows) (hn:rows.length≤els.length) (hij:i<j) (hj:j≤rows.length) :
  (spl (spl els i (rows.drop j)) (i+(rows.length-j)) z).take (i+(rows.length-j))=rows.take i++rows.drop j:=by
 have h1:=qe1 els i (rows.drop j) (by omega);have h2:=qbT els i (rows.drop j) (by omega);obtain⟨h3,_⟩:=qpR (spl els i (rows.drop j)) (i+(rows.length-j)) z (by rw[h2];simp;omega);rw[h3];simp only[qDw]at h1;rw[h1]
 congr 1
 conv=>rhs;rw[← het]
 rw[qEX,qEW (by omega)]
theorem qwP (rows:List (List AV)) (i j:Nat) (hij:i<j) (hj:j≤rows.length) (hl:rows.length<2000000) (hr1:∀ r∈rows,r.length=11) (hro:rows.all (fun r=>r.all qde)=true) :
  ACall Go.Proofs.Tryz.prog 285 [.sl 1000 0 rows.length,.int .i64 i,.int .i64 j] [(1000,⟨11,rows⟩)] (fun r L'=>r=.sl 1000 0 (i+(rows.length-j))∧L'=[(1000,⟨11,rows.take i++rows.drop j⟩)]):=by
 refine ACall.weak (R:=fun r L'=>∃ L2,wkL L' L2∧unc r=.sl 1000 0 (i+(rows.length-j))∧L2=[(1000,⟨11,rows.take i++rows.drop j⟩)]) (ACall.cap (by simp) fun cap hcap=>?_) (fun r L' h=>h);obtain⟨els,hels⟩:∃ els,(qcJ ⟨11,rows⟩ cap)=⟨11,els⟩:=⟨_,rfl⟩;have hel:els.length=cap:=by
  have:=congrArg (fun o:Ob=>o.els.length) hels;simp[qcJ]at this;omega
 have het:els.take rows.length=rows:=by
  have:=congrArg (fun o:Ob=>o.els.take rows.length) hels;simp[qcJ]at this;exact this.symm
 rw[hels];clear hels;have g5:(els.drop j).take (rows.length-j)=rows.drop j:=by
  conv=>rhs;rw[← het]
  rw[qEV]
 have hall:∀ x∈rows,∀ y∈x,qde y=true:=fun x hx y hy=>qDS.1 (qDS.1 hro x hx) y hy;have h1:¬ i=j:=by omega
 have h1':¬ (i:Int)=j:=by omega
 have h2:i+(rows.length-j)≤cap:=by omega
 refine acx func285 [(5,[zI 0,zI 1,zJ 2 [1000] [],zJ 3 [] [1000],zJ 4 [] [1000],zJ 5 [1000] [1000],zI 6,zI 7])] ntmps285 rfl rfl rfl ?_;simp[h1,h1',hel,g5,h2,hcap];have t1:((i:Int)+((rows.length-j:Nat):Int)).toNat=i+(rows.length-j):=by omega
 have h3:=qbT els i (rows.drop j) (by omega);rw[t1];refine⟨⟨by omega,by omega⟩,by omega,by omega,⟨by omega,by omega,fun x hx y hy=>hall x (qFU hx) y hy⟩,⟨by omega,by omega⟩,?_,[(1000,⟨11,spl (spl els i (rows.drop j)) (i+(rows.length-j)) (List.replicate (rows.length-(i+(rows.length-j))) _)⟩)],⟨rfl,trivial⟩,?_⟩
 ·rw[h3];simp;omega
 ·have:=wkL.cons 1000 ⟨11,spl (spl els i (rows.drop j)) (i+(rows.length-j)) (List.replicate (rows.length-(i+(rows.length-j))) [.str [],.int .i64 0,.str [],.str [],.str [],.str [],.str [],.str [],.str [],.str [],.str []])⟩ (i+(rows.length-j)) .nil;simp only[qoe els rows _ i j het (by omega) hij hj]at this;exact this
end Go.Av.F
end
section
namespace Go.Av.F
open Go Go.Av
open Go.Proofs Go.Proofs.Tryz
attribute [-simp] qdJ hdS qax qai qaq
attribute [local simp] tt3 tt4 tt9 tt5 qcl qc5 qcQ qcP qc4 qdF qmd
theorem qw5 (bs:List BS) (hl:bs.length<2000000):ACall Go.Proofs.Tryz.prog 281 [.lst 11 (bs.map BS.row)] [] (fun r L'=>r=.sl 7 0 bs.length∧L'=[(7,qbz bs)]):=by
 refine ACall.nils (id:=7) (sz:=11) (qzX bs hl) (by simp) ?_;rintro r L' (⟨rfl,rfl,rfl⟩ | ⟨rfl,rfl⟩)
 ·exact .inr ⟨rfl,rfl,rfl⟩
 ·exact .inl ⟨rfl,rfl⟩
theorem qv4 (bs:List BS) (hl:bs.length<2000000):ACall Go.Proofs.Tryz.prog 216 [bk bs] [] (fun r L'=>r=.agg [.sl 900 0 bs.length]∧L'=[(900,qbz bs)]):=by
 refine acx func216 [] ntmps216 rfl rfl rfl ?_;simp[bk];refine qac [] (by kernel_rfl) (qw5 bs hl) (by simp) (by simp) (by simp) (by simp) (by simp) ?_;rintro r L' ⟨rfl,rfl⟩;refine⟨[(7,900)],⟨by simp,by simp,by simp,by simp,by simp⟩,?_⟩;simp
def qc1 (bs:List BS) (name:List UInt8):Int:=if qbS name=false then 5 else if atB bs name=true then 2 else if bs.length=6 then 4 else 0
theorem qte (bs:List BS) (name:List UInt8) (hl:bs.length<2000000) (hB:∀ b∈bs,b.bl.length=8) (hS:Srt bs) (hn:name.length<2000000) :
  ACall Go.Proofs.Tryz.prog 331 [bk bs,.str name] [] (fun r L'=>r=.int .i64 (qc1 bs name)∧L'=[]):=by
 refine acx func331 [] ntmps331 rfl rfl rfl ?_;simp[bk];refine qaR (by kernel_rfl) (qnL bs name hl hB hS) (by simp[bk]) (by simp) ?_;simp;refine qaR (by kernel_rfl) (qio name hn) (by simp) (by simp) ?_;cases h1:qbS name with
 | false=>simp[qc1,h1]
 | true =>
  cases h2:atB bs name with
  | true=>simp[qc1,h1,h2]
  | false =>
   by_cases h3:bs.length=6
   ·simp[qc1,h1,h2,h3]
   ·have h3':¬ (bs.length:Int)=6:=by omega
    simp[qc1,h1,h2,h3,h3']
@[simp] theorem qAe (ρ:Nat→Option Plc):(qch ρ ∘ BS.row)=BS.row:=funext fun b=>qqi ρ b
def qbV (id n:Nat):Ob:=⟨1,[[.sl id 0 n]]⟩
def qbG (id:Nat) (bs:List BS):List (Nat×Ob):=[(1000,qbV id bs.length),(id,qbz bs)]
def qCO (xs:List Nat) (res:List BS×Int) (r:AV) (L':List (Nat×Ob)):Prop:=∃ id,id∈xs∧r=.int .i64 res.2∧L'=qbG id res.1
theorem qCt (bs:List BS) (s:BS) (hl:bs.length<2000000) (hB:∀ b∈bs,b.bl.length=8) (hS:Srt bs) (hs:s.bl.length=8) (hn:s.name.length<2000000) :
  ACall Go.Proofs.Tryz.prog 282 [.ptr 1000 0 0,.agg (BS.row s)] (qbG 1001 bs) (qCO [1001,901] (qfz bs s)):=by
 refine acx func282 [(1,[zI 0,zI 1,zJ 2 [1000] [],zJ 3 [] [1000],zJ 4 [3] [1000],zI 5,zI 6]),(3,[zI 0,zI 1,zJ 2 [1000] [],zJ 3 [] [1000],zJ 4 [3] [1000],zI 5,zI 6,zI 7,zI 8,zI 9,zI 10]),(4,[zI 0,zI 1,zI 2,zI 3,zJ 4 [1000] [],zJ 5 [] [1000],zJ 6 [3] [1000],zJ 7 [] [1000],zI 8,zI 9,zI 10,zI 11])] ntmps282 rfl rfl rfl ?_ (ha:=by simp[qbG]) (hL:=by simp[qbG]);simp[qbG,qbV,qan _ hs];refine qc3 (by kernel_rfl) (qte bs s.name hl hB hS hn) (by simp[bk]) (by simp) (by simp) ?_;by_cases h0:qc1 bs s.name=0
 ·have hk:atP bs s.name≤bs.length:=by unfold atP;exact(List.takeWhile_sublist _).length_le
  have hnew:qfz bs s=(bs.take (atP bs s.name)++s::bs.drop (atP bs s.name),0):=by
   unfold qc1 at h0;unfold qfz;split at h0
   ·cases h0
   ·split at h0
    ·cases h0
    ·split at h0
     ·cases h0
     ·rename_i h1 h2 h3;rw[if_neg h1,if_neg h2,if_neg h3]
  rw[hnew];simp[h0];refine qc3 (by kernel_rfl) (qnL bs s.name hl hB hS) (by simp[bk]) (by simp) (by simp) ?_;generalize atP bs s.name=k at hk;simp[qan _ hs,qcs _ hs];have hall:∀ r∈bs.map BS.row,r.length=11:=fun r hr=>by
   obtain⟨b,hb,rfl⟩:=qD6.1 hr;exact qan b (hB b hb)
  have hone:(bs.map BS.row).all (fun r=>r.all qde)=true:=qDS.2 fun r hr=>qkO bs r hr;have hI:=qwj (bs.map BS.row) (BS.row s) k (by simpa using hk) (by simpa using hl) (qan s hs) hall (qmu s) hone (qnu s) (quB bs);simp only[qEH]at hI;refine qac [(1000,.whole 1001),(1001,.whole 32)] (by kernel_rfl) hI (by simp) (by simp) (by simp[qbz];exact⟨qaa rfl (by simp),qaa rfl (by simp[clR])⟩) (by simp) (by simp) ?_;have hrows:qpk (bs.map BS.row) (BS.row s) k=(bs.take k++s::bs.drop k).map BS.row:=by
   simp[qpk]
  have hlen:(bs.take k++s::bs.drop k).length=bs.length+1:=by simp;omega
  rintro r L' ⟨id,hid,rfl,rfl⟩;rw[hrows];simp only[qEH];generalize bs.take k++s::bs.drop k=bs' at hlen;rcases hid with rfl | rfl | rfl
  ·refine⟨[],⟨by simp,by simp,by simp,by simp,by simp⟩,?_⟩;simp;exact⟨qbG 1001 bs',by simp[qbG,qbV,qbz,hlen],1001,by simp,rfl,rfl⟩
  ·refine⟨[(25,901)],⟨by simp,by simp,by simp,by simp,by simp⟩,?_⟩;simp;exact⟨qbG 901 bs',by simp[qbG,qbV,qbz,hlen],901,by simp,rfl,rfl⟩
  ·refine⟨[(40,901)],⟨by simp,by simp,by simp,by simp,by simp⟩,?_⟩;simp;exact⟨qbG 901 bs',by simp[qbG,qbV,qbz,hlen],901,by simp,rfl,rfl⟩
 ·have hnew:qfz bs s=(bs,qc1 bs s.name):=by
   unfold qc1 qfz;unfold qc1 at h0;split
   ·rfl
   ·split
    ·rfl
    ·split
     ·rfl
     ·rename_i h1 h2 h3;rw[if_neg h1,if_neg h2,if_neg h3]at h0;exact absurd rfl h0
  rw[hnew];simp[h0];exact⟨qbG 1001 bs,by simp[qbG,qbV],1001,by simp,rfl,rfl⟩
end Go.Av.F
end
section
namespace Go.Av.F
open Go Go.Av
open Go.Proofs Go.Proofs.Tryz
attribute [-simp] qdJ hdS qax qai qaq
attribute [local simp] tt3 tt4 tt9 tt5 qcl qc5 qcQ qcP qc4 qdF qmd
def qqE (o:BO):Ob:=⟨5,[BO.row o]⟩
@[simp] theorem qCM (ρ:Nat→Option Plc) (o:BO):qch ρ (BO.row o)=BO.row o:=by simp[BO.row]
@[simp] theorem qsz (ρ:Nat→Option Plc) (o:BO):qbF ρ (qqE o)=qqE o:=by simp[qqE]
theorem qv9 (o:BO):clR (qqE o).els=true:=by simp[qqE,clR,BO.row]
theorem qCg (o:BO) (x:BS) (hx:x.bl.length=8):ACall Go.Proofs.Tryz.prog 284 [.agg (BS.row x),.ptr 1000 0 0] [(1000,qqE o)] (fun r L'=>r=.bool (x.frm == o.a)∧L'=[(1000,qqE o)]):=by
 refine acx func284 [] ntmps284 rfl rfl rfl ?_;simp[qqE,BO.row,qan _ hx]
theorem qC5 (bs:List BS) (o:BO) (hl:bs.length<2000000) (hB:∀ b∈bs,b.bl.length=8) (hS:Srt bs) (ho:o.a.length<2000000∧o.b.length<2000000) :
  ACall Go.Proofs.Tryz.prog 217 [.ptr 1000 0 0,.agg (BO.row o)] (qbG 1001 bs) (qCO [1001,902] (doB bs o)):=by
 refine acx func217 [(3,[zI 0,zI 1,zJ 2 [1000] [],zJ 3 [] [1000],zJ 4 [3] [1000],zI 5,zI 6,zI 7,zI 8,zI 9,zI 10]),(25,[zI 0,zI 1,zJ 2 [3] [],zJ 3 [] [3],zJ 4 [3] [3],zJ 5 [] [3],zJ 6 [] [3],zI 7,zI 8]),(33,[zI 0,zI 1,zJ 2 [3] [],zJ 3 [] [3],zJ 4 [] [3],zJ 5 [3] [3],zJ 6 [] [3],zJ 7 [] [3],zJ 8 [] [3],zJ 9 [1001] [3],zI 10,zI 11,zI 12]),(10,[zI 0,zI 1,zJ 2 [1000] [],zJ 3 [] [1000],zJ 4 [3] [1000],zI 5,zI 6,zI 7,zI 8,zI 9,zI 10]),(13,[zI 0,zI 1,zI 2,zJ 3 [1001] [],zI 4,zI 5,zI 6,zI 7,zI 8,zJ 9 [1000] [],zJ 10 [] [1000],zJ 11 [1001] [],zI 12,zJ 13 [1001] [],zI 14,zI 15,zI 16,zI 17,zI 18,zI 19,zJ 20 [1000] [],zJ 21 [] [1000],zJ 22 [1001] [],zI 23,zJ 24 [1001] [],zJ 25 [] [1000,1001],zJ 26 [3] [1000,1001],zI 27,zI 28,zI 29])] ntmps217 rfl rfl rfl ?_ (ha:=by simp[qbG]) (hL:=by simp[qbG]);by_cases g1:o.kind=1
 ·have f1:doB bs o=qfz bs ⟨o.a,1,[],zbl⟩:=by simp[doB,g1]
  rw[f1];have hc:=qCt bs ⟨o.a,1,[],zbl⟩ hl hB hS rfl ho.1;generalize qfz bs ⟨o.a,1,[],zbl⟩=res at hc;simp[qbG,qbV,BO.row,g1];refine qac [(1000,.whole 1000),(1001,.whole 1001)] (by kernel_rfl) hc (by simp[BS.row,zbl]) (by simp) (by simp[qbG,qbV,qbz];exact⟨.inr ⟨_,_,rfl,rfl,by simp⟩,qaa rfl (by simp)⟩) (by simp[qbG]) (by simp) ?_;rintro r L' ⟨id,hid,rfl,rfl⟩;simp only[qE3,qFc,or_false]at hid;rcases hid with rfl | rfl
  ·refine⟨[],⟨by simp[qbG],by simp,by simp,by simp[qbG],by simp⟩,?_⟩;simp[qbG,qbV];exact⟨qbG 1001 res.1,by simp[qbG,qbV],1001,by simp,rfl,rfl⟩
  ·refine⟨[(901,902)],⟨by simp[qbG],by simp,by simp,by simp[qbG],by simp⟩,?_⟩;simp[qbG,qbV];exact⟨qbG 902 res.1,by simp[qbG,qbV],902,by simp,rfl,rfl⟩
 simp[qbG,qbV,BO.row,g1];refine qc3 (by kernel_rfl) (qnL bs o.a hl hB hS) (by simp[bk]) (by simp) (by simp) ?_;simp;refine qaR (by kernel_rfl) (qjJ o.kind 1 6) (by simp) (by simp) ?_;by_cases g2:1≤o.kind∧o.kind≤6;rotate_left
 ·have f1:doB bs o=(bs,5):=by
   have:o.kind<1∨6<o.kind:=by omega
   simp[doB,g1,this]
  have g2':(decide (1≤o.kind) && decide (o.kind≤6))=false:=by simp;omega
  rw[g2',f1];simp;exact⟨qbG 1001 bs,by simp[qbG,qbV],1001,by simp,rfl,rfl⟩
 have g2':(decide (1≤o.kind) && decide (o.kind≤6))=true:=by simp;omega
 have g2n:¬ (o.kind<1∨6<o.kind):=by omega
 rw[g2'];cases h1:atB bs o.a with
 | false =>
  have f1:doB bs o=(bs,1):=by simp[doB,g1,g2n,h1]
  rw[f1];simp;exact⟨qbG 1001 bs,by simp[qbG,qbV],1001,by simp,rfl,rfl⟩
 | true =>
  obtain⟨t,ht,htn⟩:=qdN h1;obtain⟨k,hk⟩:∃ k,atP bs o.a=k:=⟨_,rfl⟩;rw[hk]at ht;have hkl:=(qEb.1 ht).1;have hk0:bs[k]=t:=(qEb.1 ht).2;have htm:=qFu ht;have ht8:=hB t htm;have hall:∀ r∈bs.map BS.row,r.length=11:=fun r hr=>by
   obtain⟨b,hb,rfl⟩:=qD6.1 hr;exact qan b (hB b hb)
  have hone:(bs.map BS.row).all (fun r=>r.all qde)=true:=qDS.2 fun r hr=>qkO bs r hr;simp[hk,hkl];have t8:List.take 8 (List.map AV.str t.bl)=t.bl.map AV.str:=qDU (by simp[ht8]);have m8:min 8 t.bl.length=8:=by omega
  by_cases g4:o.kind=2
  ·have f1:doB bs o=qhl bs k:=by simp[doB,h1,hk,ht,g4]
   have f2:qhl bs k=if bs.any (fun b=>b.frm == o.a)=true then (bs,6) else (bs.take k++bs.drop (k+1),0):=by simp only[qhl,ht,htn]
   have e2:IntKind.i64.wrap ((k:Int)+1)=((k+1:Nat):Int):=by rw[qaT _ (by omega)];omega
   simp[g4];refine qaK [(1000,.whole 3)] (by kernel_rfl) (qzQ (fun x=>x.frm == o.a) 284 (qqE o) bs hl hB (fun ρ=>qsz ρ o) (qv9 o) (by kernel_rfl) (fun x hx=>qCg o x (hB x hx))) (by simp) (by simp) (by simp[qqE];exact qaa (by simp[BO.row,g4]) (by simp[clR])) (by simp) (by simp) ?_;rintro r L' ⟨rfl,rfl⟩;refine⟨by simp,by simp[qqE,BO.row],[],⟨by simp,by simp,by simp,by simp,by simp⟩,?_⟩;cases hany:bs.any (fun b=>b.frm == o.a)with
   | true =>
    have f3:doB bs o=(bs,6):=by rw[f1,f2,hany];rfl
    rw[f3];simp;exact⟨qbG 1001 bs,by simp[qbG,qbV],1001,by simp,rfl,rfl⟩
   | false =>
    have f3:doB bs o=(bs.take k++bs.drop (k+1),0):=by rw[f1,f2,hany];rfl
    rw[f3];simp[e2];have hD:=qwP (bs.map BS.row) k (k+1) (by omega) (by simp;omega) (by simpa using hl) hall hone;simp only[qEH]at hD;refine qac [(1000,.whole 1001)] (by kernel_rfl) hD (by simp) (by simp) (by simp[qbz];exact qaa rfl (by simp)) (by simp) (by simp) ?_;rintro r L' ⟨rfl,rfl⟩;refine⟨[],⟨by simp,by simp,by simp,by simp,by simp⟩,?_⟩;simp;exact⟨qbG 1001 (bs.take k++bs.drop (k+1)),by simp[qbG,qbV,qbz];omega,1001,by simp,rfl,rfl⟩
  by_cases g5:o.kind=3
  ·have f1:doB bs o=qhi bs k o:=by simp[doB,h1,hk,ht,g5]
   rw[f1];simp[g4,g5];refine qaR (by kernel_rfl) (qn2 o.i) (by simp) (by simp) ?_;by_cases p1:0≤o.i∧o.i≤7;rotate_left
   ·have p1':(decide (0≤o.i) && decide (o.i≤7))=false:=by simp;omega
    have p2:qhi bs k o=(bs,5):=by simp only[qhi,ht];rw[if_pos (by omega)]
    rw[p1',p2];simp;exact⟨qbG 1001 bs,by simp[qbG,qbV],1001,by simp,rfl,rfl⟩
   have p1':(decide (0≤o.i) && decide (o.i≤7))=true:=by simp;omega
   by_cases p3:24<o.text.length
   ·have p3':(24:Int)<o.text.length:=by omega
    have p2:qhi bs k o=(bs,5):=by simp only[qhi,ht];rw[if_pos (by omega)]
    rw[p1',p2];simp[p3'];exact⟨qbG 1001 bs,by simp[qbG,qbV],1001,by simp,rfl,rfl⟩
   have p3':¬ (24:Int)<o.text.length:=by omega
   rw[p1'];by_cases p4:t.kind=1
   ·have p2:qhi bs k o=(bs.set k { t with bl:=t.bl.set o.i.toNat o.text },0):=by simp only[qhi,ht];rw[if_neg (by omega),if_neg (by omega)]
    rw[p2];simp[p3',hkl,hk0,ht,p4,qan _ ht8];rw[qqh t o.i.toNat o.text (by omega)];refine⟨⟨by omega,by omega⟩,by omega,qbG 1001 (bs.set k { t with bl:=t.bl.set o.i.toNat o.text }),?_,1001,by simp,rfl,by rw[← p4]⟩;simp[qbG,qbV,qbz,qFG]
   ·have p2:qhi bs k o=(bs,3):=by simp only[qhi,ht];rw[if_neg (by omega),if_pos p4]
    rw[p2];simp[p3',hkl,hk0,ht,p4,qan _ ht8];exact⟨qbG 1001 bs,by simp[qbG,qbV],1001,by simp,rfl,rfl⟩
  by_cases g6:o.kind=6
  ·have f1:doB bs o=qcX bs k o.b:=by simp[doB,h1,hk,ht,g6]
   rw[f1];simp[g4,g5,g6];refine qc3 (by kernel_rfl) (qnL bs o.b hl hB hS) (by simp[bk]) (by simp) (by simp) ?_;cases q1:atB bs o.b with
   | false =>
    have q2:qcX bs k o.b=(bs,1):=by simp[qcX,ht,q1]
    rw[q2];simp;exact⟨qbG 1001 bs,by simp[qbG,qbV],1001,by simp,rfl,rfl⟩
   | true =>
    obtain⟨u,hu,hun⟩:=qdN q1;obtain⟨j,hj⟩:∃ j,atP bs o.b=j:=⟨_,rfl⟩;rw[hj]at hu;have hjl:=(qEb.1 hu).1;have hj0:bs[j]=u:=(qEb.1 hu).2;have hu8:=hB u (qFu hu);by_cases q3:t.kind=1
    ·by_cases q4:u.kind=2
     ·by_cases q5:u.frm=o.a
      ·have q2:qcX bs k o.b=(bs.set k { t with bl:=u.bl },0):=by simp[qcX,ht,q1,hj,hu,q3,q4,q5,htn]
       rw[q2];simp[hj,hkl,hk0,ht,hu,hjl,hj0,qan _ ht8,qan _ hu8,q3,q4,q5];have f2:List.take 8 (List.map AV.str u.bl)=u.bl.map AV.str:=qDU (by simp[hu8]);have f3:List.take 3 t.row++(u.bl.map .str++List.drop (3+min 8 u.bl.length) t.row)=BS.row { t with bl:=u.bl }:=by
        rw[show 3+min 8 u.bl.length=11 by omega,qht _ ht8,qFH,qqj t u ht8 hu8]
       rw[f2,f3];refine⟨⟨by omega,by simp⟩,qbG 1001 (bs.set k { t with bl:=u.bl }),?_,1001,by simp,rfl,by rw[← q3]⟩;simp[qbG,qbV,qbz,qFG]
      ·have q2:qcX bs k o.b=(bs,3):=by simp[qcX,ht,q1,hj,hu,q5,htn]
       rw[q2];simp[hj,hkl,hk0,ht,hu,hjl,hj0,qan _ ht8,qan _ hu8,q3,q4,q5];exact⟨qbG 1001 bs,by simp[qbG,qbV],1001,by simp,rfl,rfl⟩
     ·have q2:qcX bs k o.b=(bs,3):=by simp[qcX,ht,q1,hj,hu,q4]
      rw[q2];simp[hj,hkl,hk0,ht,hu,hjl,hj0,qan _ ht8,qan _ hu8,q3,q4];exact⟨qbG 1001 bs,by simp[qbG,qbV],1001,by simp,rfl,rfl⟩
    ·have q2:qcX bs k o.b=(bs,3):=by simp[qcX,ht,q1,hj,hu,q3]
     rw[q2];simp[hj,hkl,hk0,ht,hu,hjl,hj0,qan _ ht8,qan _ hu8,q3];exact⟨qbG 1001 bs,by simp[qbG,qbV],1001,by simp,rfl,rfl⟩
  by_cases g7:o.kind=5
  ·by_cases g8:t.kind=2
   ·have f1:doB bs o=qfz bs ⟨o.b,1,t.name,t.bl⟩:=by simp[doB,h1,hk,ht,g7,g8]
    have hc:=qCt bs ⟨o.b,1,t.name,t.bl⟩ hl hB hS ht8 ho.2;rw[f1];generalize qfz bs ⟨o.b,1,t.name,t.bl⟩=res at hc;rw[htn]at hc;simp[g4,g5,g6,g7,g8,hkl,hk0,ht,qan _ ht8,m8,t8];refine qac [(1000,.whole 1000),(1001,.whole 1001)] (by kernel_rfl) hc (by simp[BS.row]) (by simp) (by simp[qbG,qbV,qbz];exact⟨.inr ⟨_,_,rfl,rfl,by simp⟩,qaa rfl (by simp)⟩) (by simp[qbG]) (by simp) ?_;rintro r L' ⟨id,hid,rfl,rfl⟩;simp only[qE3,qFc,or_false]at hid;rcases hid with rfl | rfl
    ·refine⟨[],⟨by simp[qbG],by simp,by simp,by simp[qbG],by simp⟩,?_⟩;simp[qbG,qbV];exact⟨qbG 1001 res.1,by simp[qbG,qbV],1001,by simp,rfl,rfl⟩
    ·refine⟨[(901,902)],⟨by simp[qbG],by simp,by simp,by simp[qbG],by simp⟩,?_⟩;simp[qbG,qbV];exact⟨qbG 902 res.1,by simp[qbG,qbV],902,by simp,rfl,rfl⟩
   ·have f1:doB bs o=(bs,3):=by simp[doB,h1,hk,ht,g7,g8]
    rw[f1];simp[g4,g5,g6,g7,g8,hkl,hk0,ht,qan _ ht8,m8,t8];exact⟨qbG 1001 bs,by simp[qbG,qbV],1001,by simp,rfl,rfl⟩
  ·have g7':o.kind=4:=by omega
   by_cases g8:t.kind=1
   ·have f1:doB bs o=qfz bs ⟨o.b,2,t.name,t.bl⟩:=by simp[doB,h1,hk,ht,g7',g8]
    have hc:=qCt bs ⟨o.b,2,t.name,t.bl⟩ hl hB hS ht8 ho.2;rw[f1];generalize qfz bs ⟨o.b,2,t.name,t.bl⟩=res at hc;rw[htn]at hc;simp[g4,g5,g6,g7,g7',g8,hkl,hk0,ht,qan _ ht8,m8,t8];refine qac [(1000,.whole 1000),(1001,.whole 1001)] (by kernel_rfl) hc (by simp[BS.row]) (by simp) (by simp[qbG,qbV,qbz];exact⟨.inr ⟨_,_,rfl,rfl,by simp⟩,qaa rfl (by simp)⟩) (by simp[qbG]) (by simp) ?_;rintro r L' ⟨id,hid,rfl,rfl⟩;simp only[qE3,qFc,or_false]at hid;rcases hid with rfl | rfl
    ·refine⟨[],⟨by simp[qbG],by simp,by simp,by simp[qbG],by simp⟩,?_⟩;simp[qbG,qbV];exact⟨qbG 1001 res.1,by simp[qbG,qbV],1001,by simp,rfl,rfl⟩
    ·refine⟨[(901,902)],⟨by simp[qbG],by simp,by simp,by simp[qbG],by simp⟩,?_⟩;simp[qbG,qbV];exact⟨qbG 902 res.1,by simp[qbG,qbV],902,by simp,rfl,rfl⟩
   ·have f1:doB bs o=(bs,3):=by simp[doB,h1,hk,ht,g7',g8]
    rw[f1];simp[g4,g5,g6,g7,g7',g8,hkl,hk0,ht,qan _ ht8,m8,t8];exact⟨qbG 1001 bs,by simp[qbG,qbV],1001,by simp,rfl,rfl⟩
end Go.Av.F
end
section
namespace Go.Av.F
open Go Go.Av
open Go.Proofs Go.Proofs.Tryz
attribute [-simp] qdJ hdS qax qai qaq
attribute [local simp] tt3 tt4 tt9 tt5 qcl qc5 qcQ qcP qc4 qdF qmd
theorem qj8 (bs:List BS) (s:BS):(qfz bs s).1.length≤bs.length+1:=by
 unfold qfz;split
 ·simp
 ·split
  ·simp
  ·split
   ·simp
   ·simp;omega
theorem qwO (bs:List BS) (o:BO):(doB bs o).1.length≤bs.length+1:=by
 unfold doB;split
 ·exact qj8 _ _
 ·split
  ·simp
  ·split
   ·simp
   ·split
    ·split
     ·unfold qhl;split
      ·split
       ·simp
       ·simp;omega
      ·simp
     ·split
      ·unfold qhi;split
       ·split
        ·simp
        ·split <;> simp
       ·simp
      ·split
       ·unfold qcX;split
        ·split
         ·simp
         ·split
          ·split <;> simp
          ·simp
        ·simp
       ·split
        ·split
         ·simp
         ·exact qj8 _ _
        ·split
         ·simp
         ·exact qj8 _ _
    ·simp
theorem qnQ {bs:List BS} (h:qgv bs=true) {i:Nat} {s:BS} (hs:bs[i]?=some s):qgh bs i s=true:=by
 unfold qgv at h;rw[qDS]at h;have:=h i (by have:=(qEb.1 hs).1;simpa using this);rw[hs]at this;exact this
theorem qif {bs:List BS} (h:qgv bs=true):Srt bs:=by
 have step:∀ i a b,bs[i]?=some a→bs[i+1]?=some b→Op.bytesLess a.name b.name=true:=fun i a b ha hb=>by
  have:=qnQ h hb;simp only[qgh,Bool.and_eq_true,qdu]at this;have h2:=this.1.1.1.2;simp only[Nat.add_sub_cancel,ha]at h2;simpa using h2
 intro i j a b hij ha hb;obtain⟨d,rfl⟩:∃ d,j=i+1+d:=⟨j-i-1,by omega⟩;clear hij
 induction d generalizing b with
 | zero=>exact step i a b ha hb
 | succ d ih =>
  have hlt:=(qEb.1 hb).1;have hc:bs[i+1+d]?=some (bs[i+1+d]'(by omega)):=qDF _;exact qhK (ih _ hc) (step _ _ _ hc (by rw[← hb];rfl))
theorem qg7 {bs:List BS} (h:qcF bs=true):Srt bs:=by
 simp only[qcF,Bool.and_eq_true]at h;exact qif h.1.2
theorem qj7:∀ l:List (List UInt8),noL (l.map AV.str)=true
 | []=>rfl
 | a::r=>by simp[qj7 r]
theorem qqH (b:BS):noL (BS.row b)=true:=by simp[BS.row,qj7]
theorem qsM (bs:List BS) (o:BO) (hl:bs.length<1500000) (hB:∀ b∈bs,b.bl.length=8) (hn:∀ b∈bs,b.name.length<2000000) (ho:o.a.length<2000000∧o.b.length<2000000) :
  ACall Go.Proofs.Tryz.prog 107 [bk bs,.agg (BO.row o)] [] (bkN [903] (qcF bs) (doB bs o)):=by
 refine acx func107 [] ntmps107 rfl rfl rfl ?_;simp[bk,BO.row];refine qaR (by kernel_rfl) (qkg bs (by omega) hB hn) (by simp[bk]) (by simp) ?_;cases h1:qcF bs with
 | false=>simp[bkN]
 | true =>
  have hS:=qg7 h1;have hd:=qC5 bs o (by omega) hB hS ho;have hdl:=qwO bs o;generalize doB bs o=res at hd hdl;simp;refine qac [] (by kernel_rfl) (qv4 bs (by omega)) (by simp[bk]) (by simp) (by simp) (by simp) (by simp) ?_;rintro r L' ⟨rfl,rfl⟩;refine⟨[(900,901)],⟨by simp,by simp,by simp,by simp,by simp⟩,?_⟩;simp;refine qac [(1000,.whole 6),(1001,.whole 901)] (by kernel_rfl) hd (by simp[BO.row]) (by simp) (by simp[qbG,qbV,qbz];exact⟨.inr ⟨_,_,rfl,rfl,by simp⟩,qaa rfl (by simp)⟩) (by simp[qbG]) (by simp) ?_;rintro r L' ⟨id,hid,rfl,rfl⟩;simp only[qE3,qFc,or_false]at hid;rcases hid with rfl | rfl
  ·refine⟨[],⟨by simp[qbG],by simp,by simp,by simp[qbG],by simp⟩,?_⟩;simp[qbG,qbV];refine qaK [] (by kernel_rfl) (qv4 res.1 (by omega)) (by simp[bk,qbz]) (by simp) (by simp) (by simp) (by simp) ?_;rintro r L' ⟨rfl,rfl⟩;refine⟨by simp,by simp[qbz,qqH],[(900,903)],⟨by simp,by simp,by simp,by simp,by simp⟩,?_⟩;simp;exact⟨[(903,qbz res.1)],by simp[qbz],by simp[bkN];exact⟨903,by simp,rfl,rfl⟩⟩
  ·refine⟨[(902,902)],⟨by simp[qbG],by simp,by simp,by simp[qbG],by simp⟩,?_⟩;simp[qbG,qbV];refine qaK [] (by kernel_rfl) (qv4 res.1 (by omega)) (by simp[bk,qbz]) (by simp) (by simp) (by simp) (by simp) ?_;rintro r L' ⟨rfl,rfl⟩;refine⟨by simp,by simp[qbz,qqH],[(900,903)],⟨by simp,by simp,by simp,by simp,by simp⟩,?_⟩;simp;exact⟨[(903,qbz res.1)],by simp[qbz],by simp[bkN];exact⟨903,by simp,rfl,rfl⟩⟩
end Go.Av.F
end
section
namespace Go.Av.F
open Go Go.Av
open Go.Proofs Go.Proofs.Tryz
attribute [-simp] qdJ hdS qax qai qaq
attribute [local simp] tt3 tt4 tt9 tt5 qcl qc5 qcQ qcP qc4 qdF qmd
end Go.Av.F
end
section
namespace Go.Av.F
open Go Go.Av
theorem qiL (a:List UInt8):Op.bytesLess a a=false:=by
 rw[Go.Proofs.bytesLess_eq];simp[qFz]
theorem qvp {bs:List BS} (hS:Srt bs) {i j:Nat} {a b:BS} (ha:bs[i]?=some a) (hb:bs[j]?=some b) (h:a.name=b.name):i=j:=by
 rcases qEz i j with hij | hij | hij
 ·have:=hS i j a b hij ha hb;rw[h,qiL]at this;cases this
 ·exact hij
 ·have:=hS j i b a hij hb ha;rw[h,qiL]at this;cases this
theorem quG {bs:List BS} (hS:Srt bs) {j:Nat} {t:BS} (ht:bs[j]?=some t):atP bs t.name=j∧atB bs t.name=true:=by
 have h:=(qcY (fun b:BS=>Op.bytesLess b.name t.name) bs j t (fun x hx y hy=>hS x j y t hx hy ht) ht).2 (qiL _);have h':atP bs t.name=j:=h;exact⟨h',by unfold atB;rw[h',ht];simp⟩
theorem qwG {bs:List BS} (hS:Srt bs) (x:List UInt8):bs.findIdx? (fun b=>b.name == x)=if atB bs x=true then some (atP bs x) else none:=by
 split
 ·rename_i h;obtain⟨u,hu,hun⟩:=qdN h;refine qkf (fun b=>b.name == x) bs (atP bs x) u (fun j hj y hy=>?_) hu (by simp[hun]);rw[beq_eq_false_iff_ne];intro e;have:=qvp hS hy hu (e.trans hun.symm);omega
 ·rename_i h;rw[qFL];intro b hb;obtain⟨j,hj,e⟩:=qFy.1 hb;rw[beq_eq_false_iff_ne];intro e2;have hb2:bs[j]?=some b:=by rw[← e];exact qDF hj
  have:=(quG hS hb2).2;rw[e2]at this;exact h this
theorem qfA {bs:List BS} (hS:Srt bs):∀ (m:Nat) (s:BS),qdw bs m s=qba bs m s
 | 0,s=>rfl
 | m+1,s=>by
  simp only[qdw,qba,qwG hS];split
  ·rfl
  ·cases h:atB bs s.frm with
   | false =>
    simp;split <;> rfl
   | true =>
    simp only[if_true];cases hu:bs[atP bs s.frm]? with
    | none=>rfl
    | some t =>
     simp only;by_cases hk:t.kind=s.kind
     ·simp[hk]
     ·simp[hk,qfA hS m t]
theorem qd3 {bs:List BS}:∀ (m:Nat) (s:BS),qba bs m s=true→qba bs (m+1) s=true
 | 0,s,h=>by simp[qba]at h
 | m+1,s,h=>by
  simp only[qba]at h;rw[qba];split at h
  ·rename_i h1;rw[if_pos h1];exact h
  ·rename_i h1;rw[if_neg h1];split at h
   ·rename_i t ht;split at h
    ·rename_i h2;rw[if_pos h2];exact qd3 m t h
    ·cases h
   ·cases h
theorem qjd {bs:List BS} {m:Nat} (h:∀ s∈bs,qba bs m s=qba bs (m+1) s):∀ s,qba bs (m+1) s=qba bs (m+2) s:=fun s=>by
 rw[qba,qba];split
 ·rfl
 ·split
  ·rename_i t ht;split
   ·exact h t (qFu ht)
   ·rfl
  ·rfl
theorem qgb {α:Type} {p q:α→Bool}:∀ {l:List α},(∀ x∈l,p x=true→q x=true)→(∃ x∈l,q x=true∧p x=false)→l.countP p<l.countP q
 | [],_,h=>by obtain⟨x,hx,_⟩:=h;simp at hx
 | a::r,h,hex=>by
  have hle:r.countP p≤r.countP q:=List.countP_mono_left fun x hx=>h x (qEZ _ hx);obtain⟨x,hx,h1,h2⟩:=hex;simp only[qE3]at hx;rcases hx with rfl | hx
  ·rw[qFV,qFV,if_pos h1,if_neg (by simp[h2])];omega
  ·have:=qgb (l:=r) (fun x hx=>h x (qEZ _ hx)) ⟨x,hx,h1,h2⟩;rw[qFV,qFV];cases ha:p a with
   | true=>rw[if_pos rfl,if_pos (h a (by simp) ha)];omega
   | false =>
    simp only[qDA,if_false];split <;> omega
theorem qje (bs:List BS):∀ m:Nat,(∀ s∈bs,qba bs m s=qba bs (m+1) s)∨m+1≤bs.countP (qba bs (m+1))
 | 0=>by
  rcases qEJ (bs.countP (qba bs 1))with h | h
  ·left
   intro s hs;rw[List.countP_eq_zero]at h;have:=h s hs;simp only[qba,Bool.not_eq_true]at this ⊢;exact this.symm
  ·right;exact h
 | m+1=>by
  rcases qje bs m with h | h
  ·exact .inl fun s _=>qjd h s
  ·by_cases hs:∀ s∈bs,qba bs (m+1) s=qba bs (m+2) s
   ·exact .inl hs
   ·right
    have:∃ s∈bs,qba bs (m+2) s=true∧qba bs (m+1) s=false:=by
     simp only[Classical.not_forall]at hs;obtain⟨s,hm,hne⟩:=hs;refine⟨s,hm,?_⟩;cases h1:qba bs (m+1) s with
     | true=>exact absurd ((h1.trans (qd3 _ _ h1).symm)) hne
     | false =>
      cases h2:qba bs (m+2) s with
      | true=>exact⟨rfl,rfl⟩
      | false=>exact absurd (h1.trans h2.symm) hne
    have:bs.countP (qba bs (m+1))<bs.countP (qba bs (m+1+1)):=qgb (fun x _ hx=>qd3 (m+1) x hx) this;omega
theorem qh7 (bs:List BS):∀ s∈bs,qba bs bs.length s=qba bs (bs.length+1) s:=by
 rcases qje bs bs.length with h | h
 ·exact h
 ·have:=qFW (p:=qba bs (bs.length+1)) (l:=bs);omega
theorem qsB (bs:List BS):qcF bs=qbc bs:=by
 unfold qcF qbc;cases h:qgv bs with
 | false=>simp
 | true =>
  have hS:=qif h
  congr 1
  rw[← qFO,Bool.not_not];rw[qFX,qDS,qDS];constructor
  ·intro h s hs;rw[← qh7 bs s hs,← qfA hS];exact h s hs
  ·intro h s hs;rw[qfA hS,qh7 bs s hs];exact h s hs
inductive Rt (bs:List BS):BS→Prop
 | root (s:BS):s.frm=[]→s.kind=1→Rt bs s
 | step (s t:BS):s.frm≠[]→t∈bs→t.name=s.frm→t.kind≠s.kind→Rt bs t→Rt bs s
def Pw (bs:List BS):Prop:=bs.Pairwise fun a b=>Op.bytesLess a.name b.name=true
def qDf (s:BS):Prop:=qbS s.name=true∧1≤s.kind∧s.kind≤2∧∀ t∈s.bl,t.length≤24
def Ok (bs:List BS):Prop:=bs.length≤6∧Pw bs∧∀ s∈bs,qDf s∧Rt bs s
theorem qyL {bs:List BS} (h:Pw bs):Srt bs:=fun i j a b hij ha hb=>by
 obtain⟨h1,rfl⟩:=qEb.1 ha;obtain⟨h2,rfl⟩:=qEb.1 hb;exact(qFY.1 h) i j h1 h2 hij
theorem qx9 {bs:List BS} (h:Srt bs):Pw bs:=qFY.2 fun i j h1 h2 hij=>h i j _ _ hij (qDF h1) (qDF h2)
theorem qz4 {bs:List BS} (hS:Srt bs) {t:BS} (h:t∈bs):bs[atP bs t.name]?=some t∧atB bs t.name=true:=by
 obtain⟨i,hi,rfl⟩:=qFy.1 h;have:=quG hS (qDF hi);exact⟨by rw[this.1];exact qDF hi,this.2⟩
theorem qsn {bs:List BS} (hS:Srt bs) {s:BS} (h:Rt bs s):∃ n,qba bs n s=true:=by
 induction h with
 | root s h1 h2=>exact⟨1,by simp[qba,h1,h2]⟩
 | step s t h1 h2 h3 h4 _ ih =>
  obtain⟨n,hn⟩:=ih;obtain⟨e1,e2⟩:=qz4 hS h2;rw[h3]at e1 e2;exact⟨n+1,by simp[qba,h1,e1,e2,h4,hn]⟩
theorem qnw {bs:List BS}:∀ (n:Nat) (s:BS),qba bs n s=true→Rt bs s
 | 0,s,h=>by simp[qba]at h
 | n+1,s,h=>by
  simp only[qba]at h;split at h
  ·rename_i h1;exact .root s h1 (by simpa using h)
  ·rename_i h1;split at h
   ·rename_i t ht;split at h
    ·rename_i h2;obtain⟨u,hu,hun⟩:=qdN h2.1;rw[ht]at hu;injection hu with hu;subst hu;exact .step s t h1 (qFu ht) hun h2.2 (qnw n t h)
    ·cases h
   ·cases h
theorem qld (bs:List BS):∀ (k:Nat) (s:BS),s∈bs→qba bs (bs.length+k) s=qba bs bs.length s
 | 0,s,hs=>rfl
 | k+1,s,hs=>by
  have h:∀ (k:Nat),∀ s∈bs,qba bs (bs.length+k) s=qba bs (bs.length+k+1) s:=fun k=>by
   induction k with
   | zero=>exact qh7 bs
   | succ k ih=>exact fun s _=>qjd ih s
  have:=h k s hs;rw[show bs.length+(k+1)=bs.length+k+1 by omega,← this];exact qld bs k s hs
theorem qqk {bs:List BS} {s:BS} (hs:s∈bs) {n:Nat} (h:qba bs n s=true):qba bs (bs.length+1) s=true:=by
 have:∀ k,qba bs (n+k) s=true:=fun k=>by
  induction k with
  | zero=>exact h
  | succ k ih=>exact qd3 _ _ ih
 have h1:=this bs.length;rw[qE1,qld bs n s hs]at h1;exact qd3 _ _ h1
theorem okB_iff {bs:List BS}:qbc bs=true↔Ok bs:=by
 constructor
 ·intro h;simp only[qbc,Bool.and_eq_true,decide_eq_true_eq,qDS]at h;refine⟨h.1.1,qx9 (qif h.1.2),fun s hs=>⟨?_,qnw _ _ (h.2 s hs)⟩⟩;obtain⟨i,hi,e⟩:=qFy.1 hs;have:=qnQ h.1.2 (i:=i) (s:=s) (by rw[← e];exact qDF hi);simp only[qgh,Bool.and_eq_true,decide_eq_true_eq,qDS]at this;exact⟨this.1.1.1.1,this.1.1.2,this.1.2,this.2⟩
 ·rintro⟨h1,h2,h3⟩;have hS:=qyL h2;simp only[qbc,Bool.and_eq_true,decide_eq_true_eq,qDS];refine⟨⟨h1,?_⟩,fun s hs=>?_⟩
  ·unfold qgv;rw[qDS];intro i hi;have hil:i<bs.length:=by simpa using hi
   rw[qDF hil];obtain⟨g1,g2,g3,g4⟩:=(h3 _ (qEc hil)).1;simp only[qgh,Bool.and_eq_true,decide_eq_true_eq,qDS];refine⟨⟨⟨⟨g1,?_⟩,g2⟩,g3⟩,g4⟩;unfold qdu;cases i with
   | zero=>simp
   | succ i =>
    have:i<bs.length:=by omega
    simp only[Nat.add_sub_cancel,qDF this];simp[hS i (i+1) _ _ (by omega) (qDF this) (qDF hil)]
  ·obtain⟨n,hn⟩:=qsn hS (h3 s hs).2;exact qqk hs hn
theorem Rt.map {bs bs':List BS} (hb:∀ u∈bs,∃ u'∈bs',u'.name=u.name∧u'.kind=u.kind∧u'.frm=u.frm) {s:BS} (h:Rt bs s):∀ s':BS,s'.frm=s.frm→s'.kind=s.kind→Rt bs' s':=by
 induction h with
 | root s h1 h2=>exact fun s' e1 e2=>.root s' (e1.trans h1) (e2.trans h2)
 | step s t h1 h2 h3 h4 _ ih =>
  intro s' e1 e2;obtain⟨u,hu,g1,g2,g3⟩:=hb t h2;exact .step s' u (by rw[e1];exact h1) hu (by rw[e1,g1];exact h3) (by rw[e2,g2];exact h4) (ih u g3 g2)
end Go.Av.F
end
section
namespace Go.Av.F
open Go Go.Av
open Go.Proofs Go.Proofs.Tryz
attribute [-simp] qdJ hdS qax qai qaq
structure PT where
 pa:Int
 ps:Int
 pb:Int
deriving DecidableEq,Inhabited
def PT.row (p:PT):List AV:=[.int .i64 p.pa,.int .i64 p.ps,.int .i64 p.pb]
structure CS where
 name:List UInt8
 kind:Int
 frm:List UInt8
 map:List PT
 home:PT
 dirty:Bool
deriving DecidableEq,Inhabited
def CS.row (s:CS):List AV:=.str s.name::.int .i64 s.kind::.str s.frm::(s.map.flatMap PT.row++(s.home.row++[.bool s.dirty]))
structure DE where
 es:Int
 ea:Int
 ec:Int
deriving DecidableEq,Inhabited
def DE.row (e:DE):List AV:=[.int .i64 e.es,.int .i64 e.ea,.int .i64 e.ec]
def qae (n:Int):List AV:=[.int .i64 n]
structure CO where
 txg:Int
 sets:List CS
 ddt:List DE
 parts:List PT
 dirty:Bool
 safe:List Int
 logn:Int
deriving DecidableEq,Inhabited
def CO.row (c:CO):List AV:=[.int .i64 c.txg,.lst 31 (c.sets.map CS.row),.lst 3 (c.ddt.map DE.row),.lst 3 (c.parts.map PT.row),.bool c.dirty,.lst 1 (c.safe.map qae),.int .i64 c.logn]
def qpl (z:Int):Prop:=-9223372036854775808≤z∧z≤9223372036854775807
theorem qxM {z:Int} (h:(Lit.int .i64 z).wf=true):qpl z:=by
 simpa [Lit.wf,IntKind.min,IntKind.max,IntKind.signed,IntKind.bits,qpl]using h
theorem qmt {α:Type} (f:α→List AV) (G:α→Prop):∀ els:List (List AV),(∀ r∈els,∃ a,G a∧r=f a)→∃ l:List α,els=l.map f∧∀ a∈l,G a
 | [],_=>⟨[],rfl,by simp⟩
 | r::els,h=>by
  obtain⟨a,ha,rfl⟩:=h r (by simp);obtain⟨l,rfl,hl⟩:=qmt f G els fun x hx=>h x (qEZ _ hx);refine⟨a::l,rfl,fun x hx=>?_⟩;rcases qE3.1 hx with rfl | hx
  ·exact ha
  ·exact hl x hx
theorem quI {α:Type} (f:α→List AV) (G:α→Prop) (S:List AV→Prop) (h:∀ r,S r→∃ a,G a∧r=f a):∀ (k:Nat) (avs:List AV),qnd S k avs→∃ l:List α,l.length=k∧avs=l.flatMap f∧∀ a∈l,G a
 | 0,avs,hs=>⟨[],rfl,hs,by simp⟩
 | k+1,avs,hs=>by
  obtain⟨a,b,rfl,ha,hb⟩:=hs;obtain⟨x,hx,rfl⟩:=h a ha;obtain⟨l,hl,rfl,hg⟩:=quI f G S h k b hb;refine⟨x::l,by simp[hl],by simp,fun y hy=>?_⟩;rcases qE3.1 hy with rfl | hy
  ·exact hx
  ·exact hg y hy
open Go.Proofs
theorem qpT {n:Nat} {avs:List AV} (h:Shp Tryz.prog (n+1) 3 avs):∃ z,qpl z∧avs=[.int .i64 z]:=by
 obtain⟨z,h1,h2⟩:=qvt Tryz.underlying3 h;exact⟨z,qxM h1,h2⟩
end Go.Av.F
end
section
namespace Go.Av.F
open Go Go.Av
open Go.Proofs Go.Proofs.Tryz
attribute [-simp] qdJ hdS qax qai qaq
attribute [local simp] tt3 tt4 tt9 qpf
theorem qkk:∀ (l:List PT),(l.flatMap PT.row).length=3 * l.length
 | []=>rfl
 | a::r=>by simp only[qFZ,qES,qkk r,qDX];simp only[PT.row,qDX,qET];omega
theorem qaX (s:CS) (h:s.map.length=8):s.row.length=31:=by
 simp only[CS.row,qDX,qES,qkk,h,PT.row,qET]
theorem qdC (s:CS) (h:s.map.length=8):s.row.take 31=s.row:=qDU (by rw[qaX s h];omega)
theorem qmy (s:CS):∀ x∈s.row,qde x=true:=fun y hy=>by
 simp only[CS.row,qE3,qE5,qF0,PT.row,qFc,or_false]at hy;rcases hy with rfl | rfl | rfl | ⟨p,_,rfl | rfl | rfl⟩ | (rfl | rfl | rfl) | rfl <;> rfl
theorem qm4:∀ {a b:List AV},clL a=true→clL b=true→clL (a++b)=true
 | [],_,_,h=>h
 | x::a,b,h1,h2=>by
  simp only[clL,qFt,Bool.and_eq_true]at h1 ⊢;exact⟨h1.1,qm4 h1.2 h2⟩
theorem qeZ:∀ l:List PT,clL (l.flatMap PT.row)=true
 | []=>rfl
 | a::r=>by
  rw[qFZ];exact qm4 (by simp[PT.row,clL,clA]) (qeZ r)
theorem qbv (s:CS):clL s.row=true:=by
 simp only[CS.row,clL,clA,qFP];exact qm4 (qeZ _) (by simp[PT.row,clL,clA])
end Go.Av.F
end
section
namespace Go.Av.F
open Go Go.Av
open Go.Proofs Go.Proofs.Tryz
attribute [-simp] qdJ hdS qax qai qaq
attribute [local simp] tt3 tt4 tt9 qpf qxU qxf qu0 qmm
def qoW (l:List (List AV)) (z:List AV) (i:Nat):List (List AV):=l.take i++List.replicate (l.length-i) z
end Go.Av.F
end
section
namespace Go.Av.F
open Go Go.Av
open Go.Proofs Go.Proofs.Tryz
attribute [-simp] qdJ hdS qax qai qaq
attribute [local simp] qpy qxV qAZ
attribute [local simp] tt3 tt4 tt9 qpf qxU qxf qu0 qmm qr0
theorem frzP {f:Nat} {args:List AV} {sz:Nat} {rows:List (List AV)} {n:Nat} (hn:n=rows.length) (hcl:clR rows=true) (h:ACall Go.Proofs.Tryz.prog f args [] (fun r L'=>r=.sl 7 0 n∧L'=[(7,⟨sz,rows⟩)])):ACall Go.Proofs.Tryz.prog f args [] (fun r L'=>r=.lst sz rows∧L'=[]):=by
 refine h.frz ?_;rintro r L' ⟨rfl,rfl⟩;refine⟨7,⟨sz,rows⟩,rfl,hcl,?_,rfl⟩;subst hn;simp
end Go.Av.F
end
section
namespace Go.Av.F
open Go Go.Av
open Go.Proofs Go.Proofs.Tryz
attribute [-simp] qdJ hdS qax qai qaq
attribute [local simp] qpy qxV qAZ
attribute [local simp] tt3 tt4 tt9 qpf qxU qxf qu0 qmm qr0
end Go.Av.F
end
