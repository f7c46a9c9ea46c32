/- Lemmas for the proof, no statement of the seat; no conditions. -/
import Derived.Test.YthiidgicibfbjaaGreatDoorLayAL
import Derived.Sort.Walk0
import Derived.Test.YthiidgicibfbjaaGreatDoorProg
import Derived.Shelf.Small.Strs
set_option linter.unusedSimpArgs false
set_option linter.unusedVariables false
set_option linter.unnecessarySimpa false
set_option maxRecDepth 100000
set_option maxHeartbeats 400000
section
namespace Go.Av.F
open Go Go.Av
open Go.Proofs Go.Proofs.Tryz
attribute [-simp] qdQ hdS qao qae qap
attribute [local simp] tt3 tt4 tt9 tt5 qcp qdc qcW qcV qdb
def qdC (bs:List BS) (i:Nat) (s:BS):Bool:=i == 0 || (match bs[i-1]? with
 | some q=>Op.bytesLess q.name s.name
 | none=>true)
def qgE (bs:List BS) (i:Nat) (s:BS):Bool:=qbR s.name && qdC bs i s && decide (1≤s.kind) && decide (s.kind≤2) && s.bl.all (fun t=>decide (t.length≤24))
def qgV (bs:List BS):Bool:=(List.range bs.length).all fun i=>match bs[i]? with
 | some s=>qgE bs i s
 | none=>true
def qa3 (bs:List BS):Bool:=decide (bs.length≤6) && qgV bs && bs.all (qbg bs (bs.length+1))
theorem ql6 (bs:List BS) (i:Nat) (s:BS) (h:bs[i]?=some s) (hb:qgE bs i s=false):qgV bs=false:=by
 unfold qgV;rw[qHU];have:=(qGy.1 h).1;exact⟨i,by simpa using this,by simp[h,hb]⟩
theorem qDE (b:BS) (j:Nat):(BS.row b)[3+j]?=b.bl[j]?.map .str:=by
 rw[show 3+j=j+1+1+1 by omega];simp[BS.row]
attribute [simp] qDE
theorem qeC (a b:List UInt8):(Op.bytesLess a b || a == b)=!Op.bytesLess b a:=by
 simp only[Go.Proofs.bytesLess_eq];rcases Std.lt_trichotomy a b with h | h | h
 ·have:¬ b<a:=fun h'=>qHZ (qH0 h h');simp[h,this]
 ·subst h;simp[qHZ]
 ·have:¬ a<b:=fun h'=>qHZ (qH0 h h');have h2:a≠b:=by rintro rfl;exact qHZ h
  simp[h,this,h2]
def qen (t:List UInt8):Bool:=decide (t.length≤24)
theorem qrW {Q:Exit→S→Prop} (bs:List BS) (s:BS) (i:Nat) (h8:s.bl.length=8) {st:S} {ob1:Ob}
  (h0:∃ φ,qae ⟨78,[]⟩ φ st∧qao [] [1,3,4,5] φ st=⟨mkT [(1,.ptr 1 0 0),(3,.int .i64 i),(4,.ptr 4 0 0),(5,.int .i64 0)],qaQ [(1,ob1),(4,⟨11,[BS.row s]⟩)],Us.of [1,4]⟩)
  (hr1:∀ ρ,qbH ρ ob1=ob1)
  (hret:∀ st:S,s.bl.all qen=false→st.t 2=.bool false→Q .ret st)
  (hex:∀ st:S,s.bl.all qen=true→st.t 1=.ptr 1 0 0→st.t 3=.int .i64 i→st.h=qaQ [(1,ob1),(4,⟨11,[BS.row s]⟩)]→st.u=Us.of [1,4]→Q (.exit 2) st) :
  ev Go.Proofs.Tryz.prog ⟨78,[]⟩ (.loop qik) Q st:=by
 refine qaR (X:=Nat) [1,3,4,5] (fun j=>⟨mkT [(1,.ptr 1 0 0),(3,.int .i64 i),(4,.ptr 4 0 0),(5,.int .i64 j)],qaQ [(1,ob1),(4,⟨11,[BS.row s]⟩)],Us.of [1,4]⟩) (fun j=>8-j)
  (fun j=>j≤8∧(s.bl.take j).all qen=true) 0 ⟨by simp,h0⟩ ?_
 rintro j ⟨hj,ha⟩;by_cases h1:j<8
 ·obtain⟨x,e0⟩:∃ x,s.bl[j]'(by omega)=x:=⟨_,rfl⟩;have e1:s.bl[j]?=some x:=by rw[← e0];exact qF3 (by omega)
  have e2:IntKind.i64.wrap ((j:Int)+1)=((j+1:Nat):Int):=by rw[qax _ (by omega)];omega
  have h1':j<s.bl.length:=by omega
  have h1'':(j:Int)<8:=by omega
  simp[qik,h1,h1',h1'',e0,e1,e2,h8];refine⟨by omega,fun h=>hret _ ?_ rfl,fun h=>?_⟩
  ·rw[qHU];exact⟨x,qHT e1,by simp[qen];omega⟩
  ·refine qau (j+1) (by omega) ⟨by omega,?_⟩ [(1,1),(4,4)] (by simp[qae]) (by simp[qao,qah,hr1]);have h2:=qeD qen s.bl j x e1;rw[ha,show qen x=true by simp[qen];omega]at h2;simpa using h2
 ·have:j=8:=by omega
  subst this;rw[qGh (by omega)]at ha;simp[qik];exact hex _ ha rfl rfl rfl rfl
theorem qxB {Q:Exit→S→Prop} (bs:List BS) (hl:bs.length<2000000) (hB:∀ b∈bs,b.bl.length=8) {st:S}
  (h0:∃ φ,qae ⟨78,[]⟩ φ st∧qao [] [1,6] φ st=⟨mkT [(1,.ptr 1 0 0),(6,.int .i64 0)],qaQ [(1,⟨1,[[.lst 11 (bs.map BS.row)]]⟩)],Us.of [1]⟩)
  (hret:∀ st:S,bs.all (qbg bs (bs.length+1))=false→st.t 2=.bool false→Q .ret st)
  (hex:∀ st:S,bs.all (qbg bs (bs.length+1))=true→Q (.exit 4) st):ev Go.Proofs.Tryz.prog ⟨78,[]⟩ (.loop qij) Q st:=by
 refine qaR (X:=Nat) [1,6] (fun j=>⟨mkT [(1,.ptr 1 0 0),(6,.int .i64 j)],qaQ [(1,⟨1,[[.lst 11 (bs.map BS.row)]]⟩)],Us.of [1]⟩) (fun j=>bs.length-j)
  (fun j=>j≤bs.length∧(bs.take j).all (qbg bs (bs.length+1))=true) 0 ⟨by simp,h0⟩ ?_
 rintro j ⟨hj,ha⟩;by_cases h1:j<bs.length
 ·obtain⟨x,e0⟩:∃ x,bs[j]=x:=⟨_,rfl⟩;have e1:bs[j]?=some x:=by rw[← e0];exact qF3 (by omega)
  have e2:IntKind.i64.wrap ((j:Int)+1)=((j+1:Nat):Int):=by rw[qax _ (by omega)];omega
  have hx:=hB x (qHT e1);simp[qij,h1,e0,e1,qan _ hx,qbO _ hx];refine qaj (by kernel_rfl) (qAn bs x hl hB hx) (by simp[bk]) (by simp) ?_;cases hr:qbg bs (bs.length+1) x with
  | false =>
   simp;exact hret _ (by rw[qHU];exact⟨x,qHT e1,by simp[hr]⟩) rfl
  | true =>
   simp[e2];refine qau (j+1) (by omega) ⟨by omega,?_⟩ [(1,1)] (by simp[qae]) (by simp[qao,qah]);have h2:=qeD (qbg bs (bs.length+1)) bs j x e1;rw[ha,hr]at h2;simpa using h2
 ·have:j=bs.length:=by omega
  subst this;rw[qHW]at ha;simp[qij];exact hex _ ha
theorem qnM (bs:List BS) (hl:bs.length<2000000) (hB:∀ b∈bs,b.bl.length=8) (hs:∀ b∈bs,b.name.length<1000000000):ACall Go.Proofs.Tryz.prog 161 [bk bs] [] (fun r L'=>r=.bool (qa3 bs)∧L'=[]):=by
 obtain⟨res,hres⟩:∃ res,qa3 bs=res:=⟨_,rfl⟩;rw[hres];by_cases h0:bs.length≤6
 ·have h0':¬ (6:Int)<bs.length:=by omega
  have h0'':(bs.length:Int)≤6:=by omega
  apply qzn (by simp) (by simp);simp[qyL,bk,h0',h0''];refine qaR (X:=Nat) [1,3] (fun i=>⟨mkT [(1,.ptr 1 0 0),(3,.int .i64 i)],qaQ [(1,⟨1,[[.lst 11 (bs.map BS.row)]]⟩)],Us.of [1]⟩) (fun i=>bs.length-i)
   (fun i=>i≤bs.length∧∀ j,j<i→∀ s,bs[j]?=some s→qgE bs j s=true) 0 ⟨by simp,[(1,1)],by simp[qae],by simp[qao,qah]⟩ ?_
  rintro i ⟨hi,ha⟩;by_cases h1:i<bs.length
  ·obtain⟨s,e0⟩:∃ s,bs[i]=s:=⟨_,rfl⟩;have e1:bs[i]?=some s:=by rw[← e0];exact qF3 h1
   have hsm:s∈bs:=qHT e1;have e2:IntKind.i64.wrap ((i:Int)+1)=((i+1:Nat):Int):=by rw[qax _ (by omega)];omega
   have hbad:qgE bs i s=false→res=false:=fun h=>by rw[← hres,qa3,ql6 bs i s e1 h];simp
   simp[qlq,h1,e0,e1,qan _ (hB s hsm),qbO _ (hB s hsm)];refine⟨qeq s,qaj (by kernel_rfl) (qlm s.name (by have:=hs s hsm;omega)) (by simp) (by simp) ?_⟩;cases hn:qbR s.name with
   | false=>simp[hbad (by simp[qgE,hn])]
   | true =>
    have hpv:qdC bs i s=false→res=false:=fun h=>hbad (by simp[qgE,h]);have next:qgE bs i s=true→∀ j,j<i+1→∀ s,bs[j]?=some s→qgE bs j s=true:=fun hok j hj y hy=>by
     by_cases hji:j=i
     ·subst hji;rw[e1]at hy;injection hy with hy;subst hy;exact hok
     ·exact ha j (by omega) y hy
    have fin:∀ (h:qdC bs i s=true) (h1:1≤s.kind) (h2:s.kind≤2),s.bl.all qen=true→qgE bs i s=true:=fun h h1 h2 h3=>by
     have h4:(s.bl.all fun t=>decide (t.length≤24))=true:=h3;simp[qgE,hn,h,h1,h2,h4]
    have finF:s.bl.all qen=false→qgE bs i s=false:=fun h3=>by
     have h4:(s.bl.all fun t=>decide (t.length≤24))=false:=h3;simp[qgE,h4]
    have hk1:s.kind<1→res=false:=fun h=>hbad (by simp[qgE,show ¬ 1≤s.kind by omega]);have hk2:2<s.kind→res=false:=fun h=>hbad (by simp[qgE,show ¬ s.kind≤2 by omega]);by_cases hi0:i=0
    ·subst hi0;simp;refine⟨fun g1=>⟨hk2,fun g2=>qrW bs s 0 (hB s hsm) (ob1:=⟨1,[[.lst 11 (bs.map BS.row)]]⟩) ⟨[(1,1),(4,4)],by simp[qae],by simp[qao,qah]⟩ (by simp) (fun st g3 g4=>?_) (fun st g3 t1 t3 th tu=>?_)⟩,fun g1=>hk1 (by omega)⟩
     ·simp[g4,hbad (finF g3)]
     ·simp[t1,t3,show IntKind.i64.wrap 1=1 from rfl];exact qau 1 (by omega) ⟨by omega,next (fin (by simp[qdC]) g1 g2 g3)⟩ [(1,1)] (by simp[qae,th]) (by simp[qao,qah,th,t1])
    ·obtain⟨m,hm⟩:∃ m,i=m+1:=⟨i-1,by omega⟩;subst hm;obtain⟨q,q0⟩:∃ q,bs[m]=q:=⟨_,rfl⟩;have q1:bs[m]?=some q:=by rw[← q0];exact qF3 (by omega)
     have q2:IntKind.i64.wrap (m:Int)=(m:Int):=by rw[qax _ (by omega)]
     have q3:m<bs.length:=by omega
     have q4:=qan q (hB q (qHT q1));cases hq:Op.bytesLess q.name s.name with
     | false =>
      have hrf:res=false:=hpv (by simp[qdC,q1,hq]);have:(Op.bytesLess s.name q.name || s.name == q.name)=true:=by rw[qeC,hq];rfl
      simp[q0,q1,q2,q3,this,hrf,q4]
     | true =>
      have:(Op.bytesLess s.name q.name || s.name == q.name)=false:=by rw[qeC,hq];rfl
      simp[q0,q1,q2,q3,this,q4];refine⟨fun g1=>⟨hk2,fun g2=>qrW bs s (m+1) (hB s hsm) (ob1:=⟨1,[[.lst 11 (bs.map BS.row)]]⟩) ⟨[(1,1),(4,4)],by simp[qae],by simp[qao,qah]⟩ (by simp) (fun st g3 g4=>?_) (fun st g3 t1 t3 th tu=>?_)⟩,fun g1=>hk1 (by omega)⟩
      ·simp[g4,hbad (finF g3)]
      ·have e2':IntKind.i64.wrap ((m:Int)+1+1)=(m:Int)+1+1:=qax _ (by omega);simp[t1,t3,e2'];exact qau (m+1+1) (by omega) ⟨by omega,next (fin (by simp[qdC,q1,hq]) g1 g2 g3)⟩ [(1,1)] (by simp[qae,th]) (by simp[qao,qah,th,t1])
  ·have hie:i=bs.length:=by omega
   subst hie;have hok:qgV bs=true:=by
    unfold qgV;rw[qGf];intro j hj;have hj':j<bs.length:=by simpa using hj
    have hx:bs[j]?=some bs[j]:=qF3 hj';rw[hx];exact ha j hj' _ hx
   simp[qlq];refine qxB bs hl hB ⟨[(1,1)],by simp[qae],by simp[qao,qah]⟩ (fun st g1 g2=>?_) (fun st g1=>?_)
   ·have:res=false:=by rw[← hres];simp[qa3,g1]
    simp[g2,this]
   ·have:res=true:=by
     rw[← hres];simp only[qa3,g1,hok,qGa,decide_eq_true_eq];exact h0
    simp[this]
 ·have:res=false:=by rw[← hres];simp[qa3,h0]
  have h0':(6:Int)<bs.length:=by omega
  apply qzn (by simp) (by simp);simp[qyL,bk,h0',this]
end Go.Av.F
end
section
namespace Go.Av.F
open Go Go.Av
open Go.Proofs Go.Proofs.Tryz
attribute [-simp] qdQ hdS qao qae qap
attribute [local simp] tt3 tt4 tt9 tt5 qcp qdc qcW qcV qdb
def qba (bs:List BS):Ob:=⟨11,bs.map BS.row⟩
@[simp] theorem qEJ (bs:List BS):(qba bs).sz=11:=rfl
@[simp] theorem qCV (bs:List BS):(qba bs).els=bs.map BS.row:=rfl
theorem qsL (bs:List BS):clR (bs.map BS.row)=true:=by simp[clR]
attribute [simp] qsL
@[simp] theorem qCU (ρ:Nat→Option Plc) (bs:List BS):qbH ρ (qba bs)=qba bs:=by
 simp[qbH,qba]
theorem qyG (bs:List BS):(bs.map BS.row).take bs.length=bs.map BS.row:=qGh (by simp)
attribute [simp] qyG
theorem qlo (bs:List BS):∀ r∈bs.map BS.row,r.all qdn=true:=by
 intro r hr;obtain⟨b,_,rfl⟩:=qGt.1 hr;exact qnb b
theorem qEB (bs:List BS) (hl:bs.length<2000000):ACall Go.Proofs.Tryz.prog 232 [bk bs] [] (fun r L'=>r=.agg [.sl 6 0 bs.length]∧L'=[(6,qba bs)]):=by
 refine acx func232 [] ntmps232 rfl rfl rfl ?_;simp[bk];exact⟨⟨by omega,fun b _ x hx=>qeq b x hx⟩,rfl⟩
def qfp (bs:List BS) (s:BS):List BS×Int :=
 if qbR s.name=false then (bs,5) else if atB bs s.name=true then (bs,2) else if bs.length=6 then (bs,4) else (bs.take (atP bs s.name)++s::bs.drop (atP bs s.name),0)
def bkR (x:Nat) (res:List BS×Int) (r:AV) (L':List (Nat×Ob)):Prop:=∃ id,(id=1000∨id=x)∧r=.tup [.agg [.sl id 0 res.1.length],.int .i64 res.2]∧L'=[(id,qba res.1)]
theorem qDX (bs:List BS) (s:BS) (hl:bs.length<2000000) (hB:∀ b∈bs,b.bl.length=8) (hs:s.bl.length=8) (hn:s.name.length<1000000000) :
  ACall Go.Proofs.Tryz.prog 203 [.agg [.sl 1000 0 bs.length],.agg (BS.row s)] [(1000,qba bs)] (bkR 45 (qfp bs s)):=by
 refine acx func203 [(9,[zI 0,zJ 1 [2] [],zJ 2 [] [2],zJ 3 [1000] [],zJ 4 [3] [2,1000],zJ 7 [] [2,1000,3],zJ 5 [] [2,1000],zI 6,zI 8,zI 9,zI 10])] ntmps203 rfl rfl rfl ?_;simp[qan _ hs];refine qc9 (by kernel_rfl) (atC bs s.name hl) (by simp[bk]) (by simp) (by simp) ?_;simp;refine qaj (by kernel_rfl) (qlm s.name (by omega)) (by simp) (by simp) ?_;cases h1:qbR s.name with
 | false =>
  simp;exact⟨[(1000,qba bs)],by simp,1000,.inl rfl,by simp[qfp,h1],by simp[qfp,h1]⟩
 | true =>
  cases h2:atB bs s.name with
  | true =>
   simp;exact⟨[(1000,qba bs)],by simp,1000,.inl rfl,by simp[qfp,h1,h2],by simp[qfp,h1,h2]⟩
  | false =>
   by_cases h3:bs.length=6
   ·have h3':(bs.length:Int)=6:=by omega
    simp[h3];exact⟨[(1000,qba bs)],by simp,1000,.inl rfl,by simp[qfp,h1,h2,h3],by simp[qfp,h1,h2,h3]⟩
   ·have h3':¬ (bs.length:Int)=6:=by omega
    have hk:atP bs s.name≤bs.length:=by unfold atP;exact(List.takeWhile_sublist _).length_le
    obtain⟨k,hk0⟩:∃ k,atP bs s.name=k:=⟨_,rfl⟩;rw[hk0]at hk;simp[h3,h3',hk0,qan _ hs,qbO _ hs];have e1:(bs.drop k).take (bs.length-k)=bs.drop k:=qGh (by simp);have e2:List.take (bs.length-k) (List.drop k (List.map BS.row bs))=(bs.drop k).map BS.row:=by
     rw[← List.map_drop,← List.map_take,e1]
    have e3:List.take (bs.length-k) ((bs.drop k).map BS.row)=(bs.drop k).map BS.row:=qGh (by simp);have e4:List.take k (List.map BS.row bs)=(bs.take k).map BS.row:=by rw[qH1]
    have e5:qfp bs s=(bs.take k++s::bs.drop k,0):=by simp[qfp,h1,h2,h3,hk0]
    have hall:∀ (l:List BS) (x:List AV),x∈l.map BS.row→∀ y,y∈x→qdn y=true:=fun l x hx y hy=>qGf.1 (qlo l x hx) y hy;have hlen:(bs.take k++s::bs.drop k).length=k+1+(bs.length-k):=by simp;omega
    rw[e2,e3,e4,e5];refine⟨hk,⟨by omega,by omega,hall _⟩,hk,⟨hk,by omega,qeq s⟩,⟨by omega,by omega,hall _⟩,[(45,qba (bs.take k++s::bs.drop k))],?_,45,.inr rfl,by simp[hlen],rfl⟩;have e6:(List.take (k+1) ((bs.take k).map BS.row++[BS.row s]))=(bs.take k).map BS.row++[BS.row s]:=qGh (by simp;omega);rw[← e4]at e6;simp[qba,e6]
end Go.Av.F
end
section
namespace Go.Av.F
open Go Go.Av
open Go.Proofs Go.Proofs.Tryz
attribute [-simp] qdQ hdS qao qae qap
attribute [local simp] tt3 tt4 tt9 tt5 qcp qdc qcW qcV qdb qdL
def qgW (bs:List BS) (k:Nat):List BS×Int :=
 match bs[k]? with
 | some t=>if bs.any (fun b=>b.frm == t.name)=true then (bs,6) else (bs.take k++bs.drop (k+1),0)
 | none=>(bs,6)
theorem qD0 (bs:List BS) (k:Nat) (t:BS) (hl:bs.length<2000000) (hB:∀ b∈bs,b.bl.length=8) (hk:bs[k]?=some t) :
  ACall Go.Proofs.Tryz.prog 204 [.agg [.sl 1000 0 bs.length],.int .i64 k] [(1000,qba bs)] (bkR 39 (qgW bs k)):=by
 have hkl:=(qGy.1 hk).1;have hk0:bs[k]=t:=(qGy.1 hk).2;have ht:=hB t (qHT hk);refine acx func204 [(4,[zI 0,zJ 1 [2,1000] [],zJ 2 [] [2,1000],zJ 3 [1000] [],zI 4,zJ 5 [1000] [],zJ 6 [] [2,1000],zJ 7 [2,1000] [2,1000],zJ 8 [] [2,1000],zJ 9 [1000] [2,1000],zJ 10 [] [2,1000],zJ 11 [1000] [2,1000],zI 12]),(6,[zI 1,zJ 2 [2] [],zJ 3 [] [2],zJ 4 [1000] [],zJ 6 [] [2,1000],zJ 7 [2] [2,1000],zJ 8 [] [2,1000],zJ 9 [] [2,1000],zJ 10 [1000] [2,1000],zJ 0 [] [2,1000],zJ 5 [] [2,1000],zI 11,zI 12,zI 13])] ntmps204 rfl rfl rfl ?_;simp;refine qaR (X:=Nat) [1,2,4,5,6] (fun i=>⟨mkT [(1,.int .i64 k),(2,.ptr 2 0 0),(4,.ptr 4 0 0),(5,.int .i64 0),(6,.int .i64 i)],qaQ [(1000,qba bs),(2,⟨1,[[.sl 1000 0 bs.length]]⟩),(4,⟨1,[[.nils]]⟩)],Us.of [1000,1000,2,4]⟩) (fun i=>bs.length-i)
  (fun i=>i≤bs.length∧(bs.take i).any (fun b=>b.frm == t.name)=false) 0 ⟨by simp,[(1000,1000),(2,2),(4,4)],by simp[qae],by simp[qao,qah]⟩ ?_
 rintro i ⟨hi,ha⟩;by_cases h1:i<bs.length
 ·obtain⟨s,e0⟩:∃ s,bs[i]=s:=⟨_,rfl⟩;have e1:bs[i]?=some s:=by rw[← e0];exact qF3 (by omega)
  have e2:IntKind.i64.wrap ((i:Int)+1)=((i+1:Nat):Int):=by rw[qax _ (by omega)];omega
  have hs:=hB s (qHT e1);cases h2:s.frm == t.name with
  | true =>
   have h3:bs.any (fun b=>b.frm == t.name)=true:=by rw[qHD];exact⟨s,qHT e1,h2⟩
   simp[h1,e0,e1,e2,qan _ hs,qan _ ht,hk,hk0,hkl,h2];have h3':bs.any (fun b=>b.frm == t.name)=true:=h3;exact⟨[(1000,qba bs)],by simp,1000,.inl rfl,by simp only[qgW,hk,h3',if_true],by simp only[qgW,hk,h3',if_true]⟩
  | false =>
   simp[h1,e0,e1,e2,qan _ hs,qan _ ht,hk,hk0,hkl,h2];refine qau (i+1) (by omega) ⟨by omega,?_⟩ [(1000,1000),(2,2),(4,4)] (by simp[qae]) (by simp[qao,qah]);have h4:(bs.take (i+1)).any (fun b=>b.frm == t.name)=false:=by
    rw[qHN,e1];simp only[List.any_append,ha,Option.toList_some,qH2,h2,List.any_nil,Bool.or_self]
   simpa using h4
 ·have:i=bs.length:=by omega
  subst this;rw[qHW]at ha;have e3:IntKind.i64.wrap ((k:Int)+1)=((k+1:Nat):Int):=by rw[qax _ (by omega)];omega
  have hall:∀ (l:List BS) (x:List AV),x∈l.map BS.row→∀ y,y∈x→qdn y=true:=fun l x hx y hy=>qGf.1 (qlo l x hx) y hy;have f1:List.take k (List.map BS.row bs)=(bs.take k).map BS.row:=by rw[qH1]
  have f2:List.take (bs.length-(k+1)) (List.drop (k+1) (List.map BS.row bs))=(bs.drop (k+1)).map BS.row:=by
   rw[← List.map_drop];exact qGh (by simp)
  have f3:qgW bs k=(bs.take k++bs.drop (k+1),0):=by simp only[qgW,hk,ha];simp
  simp[e3];rw[f1,f2,f3];refine⟨by omega,⟨by omega,by omega⟩,⟨by omega,by omega,hall _⟩,⟨by omega,by omega,hall _⟩,[(39,qba (bs.take k++bs.drop (k+1)))],?_,39,.inr rfl,by simp,rfl⟩;simp[qba];exact qGh (by simp)
structure BO where
 kind:Int
 a:List UInt8
 b:List UInt8
 i:Int
 text:List UInt8
deriving DecidableEq,Inhabited
def BO.row (o:BO):List AV:=[.int .i64 o.kind,.str o.a,.str o.b,.int .i64 o.i,.str o.text]
def qhv (bs:List BS) (k:Nat) (o:BO):List BS×Int :=
 match bs[k]? with
 | some t=>if o.i<0∨8≤o.i∨24<o.text.length then (bs,5) else if t.kind≠1 then (bs,3) else (bs.set k { t with bl:=t.bl.set o.i.toNat o.text },0)
 | none=>(bs,5)
theorem qku (t:BS) (j:Nat) (x:List UInt8) (h:j<t.bl.length):List.take (3+j) t.row++AV.str x::List.drop (3+j+1) t.row=BS.row { t with bl:=t.bl.set j x }:=by
 have e1:List.take (3+j) t.row=AV.str t.name::AV.int .i64 t.kind::AV.str t.frm::(t.bl.take j).map .str:=by
  rw[show 3+j=j+1+1+1 by omega];simp[BS.row]
 have e2:List.drop (3+j+1) t.row=(t.bl.drop (j+1)).map .str:=by
  rw[show 3+j+1=j+1+1+1+1 by omega];simp[BS.row]
 rw[e1,e2];simp only[BS.row,qH3,h,if_true,qH4,qGs,qHS]
theorem qFq (bs:List BS) (k:Nat) (t:BS) (o:BO) (hl:bs.length<2000000) (hB:∀ b∈bs,b.bl.length=8) (hk:bs[k]?=some t) :
  ACall Go.Proofs.Tryz.prog 205 [.agg [.sl 1000 0 bs.length],.int .i64 k,.agg (BO.row o)] [(1000,qba bs)] (bkR 1000 (qhv bs k o)):=by
 have hkl:=(qGy.1 hk).1;have hk0:bs[k]=t:=(qGy.1 hk).2;have ht:=hB t (qHT hk);refine acx func205 [(5,[zI 0,zJ 1 [3] [],zJ 2 [] [3],zJ 3 [] [3],zJ 4 [5] [3],zJ 5 [] [3,5],zJ 6 [5] [3,5],zJ 7 [1000] [5],zJ 8 [] [5],zI 9,zI 10])] ntmps205 rfl rfl rfl ?_;by_cases g1:o.i<0
 ·simp[BO.row,g1];exact⟨[(1000,qba bs)],by simp,1000,.inl rfl,by simp[qhv,hk,g1],by simp[qhv,hk,g1]⟩
 by_cases g2:8≤o.i
 ·simp[BO.row,g1,g2];exact⟨[(1000,qba bs)],by simp,1000,.inl rfl,by simp[qhv,hk,g1,g2],by simp[qhv,hk,g1,g2]⟩
 by_cases g3:24<o.text.length
 ·have g3':(24:Int)<o.text.length:=by omega
  simp[BO.row,g1,g2,g3,g3'];exact⟨[(1000,qba bs)],by simp,1000,.inl rfl,by simp[qhv,hk,g1,g2,g3],by simp[qhv,hk,g1,g2,g3]⟩
 have g3':¬ (24:Int)<o.text.length:=by omega
 by_cases g4:t.kind=1
 ·simp[BO.row,g1,g2,g3,g3',hk,hkl,hk0,g4,qan _ ht];have f1:qhv bs k o=(bs.set k { t with bl:=t.bl.set o.i.toNat o.text },0):=by simp[qhv,hk,g1,g2,g3,g4]
  rw[f1,qku t o.i.toNat o.text (by omega)];refine⟨⟨by omega,by omega⟩,by omega,[(1000,qba (bs.set k { t with bl:=t.bl.set o.i.toNat o.text }))],?_,1000,.inl rfl,by simp,rfl⟩;simp[qba,qH5]
 ·simp[BO.row,g1,g2,g3,g3',hk,hkl,hk0,g4,qan _ ht];exact⟨[(1000,qba bs)],by simp,1000,.inl rfl,by simp[qhv,hk,g1,g2,g3,g4],by simp[qhv,hk,g1,g2,g3,g4]⟩
end Go.Av.F
end
section
namespace Go.Av.F
open Go Go.Av
open Go.Proofs Go.Proofs.Tryz
attribute [-simp] qdQ hdS qao qae qap
attribute [local simp] tt3 tt4 tt9 tt5 qcp qdc qcW qcV qdb qdL
def qcS (bs:List BS) (k:Nat) (name:List UInt8):List BS×Int :=
 match bs[k]? with
 | some t=>if atB bs name=false then (bs,1) else match bs[atP bs name]? with
  | some u=>if t.kind≠1∨u.kind≠2∨u.frm≠t.name then (bs,3) else (bs.set k { t with bl:=u.bl },0)
  | none=>(bs,1)
 | none=>(bs,1)
theorem qda {bs:List BS} {name:List UInt8} (h:atB bs name=true):∃ u,bs[atP bs name]?=some u∧u.name=name:=by
 unfold atB at h;split at h
 ·rename_i u hu;exact⟨u,hu,by simpa using h⟩
 ·cases h
theorem qri (t u:BS) (ht:t.bl.length=8) (hu:u.bl.length=8):List.take 3 t.row++u.bl.map .str=BS.row { t with bl:=u.bl }:=by
 simp[BS.row]
theorem qEK (bs:List BS) (k:Nat) (t:BS) (name:List UInt8) (hl:bs.length<2000000) (hB:∀ b∈bs,b.bl.length=8) (hk:bs[k]?=some t) :
  ACall Go.Proofs.Tryz.prog 206 [.agg [.sl 1000 0 bs.length],.int .i64 k,.str name] [(1000,qba bs)] (bkR 1000 (qcS bs k name)):=by
 have hkl:=(qGy.1 hk).1;have hk0:bs[k]=t:=(qGy.1 hk).2;have ht:=hB t (qHT hk);refine acx func206 [(4,[zI 0,zJ 1 [3,1000] [],zJ 2 [] [3,1000],zJ 3 [1000] [],zI 4,zJ 5 [1000] [],zI 6,zI 7,zI 8,zJ 9 [3,1000] [],zJ 10 [] [3,1000],zJ 11 [1000] [],zI 12,zJ 13 [1000] [],zI 14,zI 15,zI 16,zI 17,zJ 18 [3,1000] [],zJ 19 [] [3,1000],zJ 20 [1000] [],zI 21,zJ 22 [1000] [],zJ 23 [] [3,1000],zJ 24 [3,1000] [3,1000],zJ 25 [] [3,1000],zJ 26 [1000] [3,1000],zJ 27 [] [3,1000],zJ 28 [1000] [3,1000],zI 29,zI 30,zI 31]),(6,[zI 0,zJ 1 [3,1000] [],zJ 2 [] [3,1000],zJ 3 [] [3,1000],zJ 4 [3,1000] [3,1000],zJ 5 [] [3,1000],zJ 6 [1000] [3,1000],zJ 7 [] [3,1000],zJ 8 [1000] [3,1000],zJ 9 [1000] [],zI 10,zI 11])] ntmps206 rfl rfl rfl ?_;simp;refine qc9 (by kernel_rfl) (atC bs name hl) (by simp[bk]) (by simp) (by simp) ?_;cases h1:atB bs name with
 | false =>
  simp;exact⟨[(1000,qba bs)],by simp,1000,.inl rfl,by simp[qcS,hk,h1],by simp[qcS,hk,h1]⟩
 | true =>
  obtain⟨u,hu,hun⟩:=qda h1;obtain⟨j,hj⟩:∃ j,atP bs name=j:=⟨_,rfl⟩;rw[hj]at hu;have hjl:=(qGy.1 hu).1;have hj0:bs[j]=u:=(qGy.1 hu).2;have hu8:=hB u (qHT hu);by_cases g1:t.kind=1
  ·by_cases g2:u.kind=2
   ·by_cases g3:u.frm=t.name
    ·have f1:qcS bs k name=(bs.set k { t with bl:=u.bl },0):=by simp[qcS,hk,h1,hj,hu,g1,g2,g3]
     simp[hj,hk,hkl,hk0,hu,hjl,hj0,qan _ ht,qan _ hu8,g1,g2,g3,f1];have f2:List.take 8 (List.map AV.str u.bl)=u.bl.map AV.str:=qGh (by simp[hu8]);have f3:List.take 3 t.row++(u.bl.map .str++List.drop (3+min 8 u.bl.length) t.row)=BS.row { t with bl:=u.bl }:=by
      rw[show 3+min 8 u.bl.length=11 by omega,qhW _ ht,qH6,qri t u ht hu8]
     rw[f2,f3];refine⟨⟨by omega,by simp⟩,[(1000,qba (bs.set k { t with bl:=u.bl }))],?_,1000,.inl rfl,by simp,by rw[← g1]⟩;simp[qba,qH5]
    ·have f1:qcS bs k name=(bs,3):=by simp[qcS,hk,h1,hj,hu,g3]
     simp[hj,hk,hkl,hk0,hu,hjl,hj0,qan _ ht,qan _ hu8,g1,g2,g3,f1];exact⟨[(1000,qba bs)],by simp,1000,.inl rfl,by simp,by simp⟩
   ·have f1:qcS bs k name=(bs,3):=by simp[qcS,hk,h1,hj,hu,g2]
    simp[hj,hk,hkl,hk0,hu,hjl,hj0,qan _ ht,qan _ hu8,g1,g2,f1];exact⟨[(1000,qba bs)],by simp,1000,.inl rfl,by simp,by simp⟩
  ·have f1:qcS bs k name=(bs,3):=by simp[qcS,hk,h1,hj,hu,g1]
   simp[hj,hk,hkl,hk0,hu,hjl,hj0,qan _ ht,qan _ hu8,g1,f1];exact⟨[(1000,qba bs)],by simp,1000,.inl rfl,by simp,by simp⟩
theorem qif:∀ l:List (List UInt8),clL (l.map AV.str)=true
 | []=>rfl
 | a::r=>by simp[qif r]
@[simp] theorem qCE (hv:Hp) (ids:List Nat) (ρ:Nat→Option Plc) (l:List (List UInt8)):mtL hv ids ρ (l.map AV.str) (l.map AV.str):=qhz _ (qif l)
def zbl:List (List UInt8):=[[],[],[],[],[],[],[],[]]
def doB (bs:List BS) (o:BO):List BS×Int :=
 if o.kind=1 then qfp bs ⟨o.a,1,[],zbl⟩
 else if o.kind<1∨6<o.kind then (bs,5)
 else if atB bs o.a=false then (bs,1)
 else match bs[atP bs o.a]? with
  | some t=>if o.kind=2 then qgW bs (atP bs o.a) else if o.kind=3 then qhv bs (atP bs o.a) o else if o.kind=6 then qcS bs (atP bs o.a) o.b
   else if o.kind=5 then (if t.kind≠2 then (bs,3) else qfp bs ⟨o.b,1,t.name,t.bl⟩) else (if t.kind≠1 then (bs,3) else qfp bs ⟨o.b,2,t.name,t.bl⟩)
  | none=>(bs,1)
def qFb (xs:List Nat) (res:List BS×Int) (r:AV) (L':List (Nat×Ob)):Prop:=∃ id,id∈xs∧r=.tup [.agg [.sl id 0 res.1.length],.int .i64 res.2]∧L'=[(id,qba res.1)]
theorem doC (bs:List BS) (o:BO) (hl:bs.length<2000000) (hB:∀ b∈bs,b.bl.length=8) (hn:∀ b∈bs,b.name.length<1000000000) (ho:o.a.length<1000000000∧o.b.length<1000000000) :
  ACall Go.Proofs.Tryz.prog 100 [.agg [.sl 1000 0 bs.length],.agg (BO.row o)] [(1000,qba bs)] (qFb [1000,900] (doB bs o)):=by
 refine acx func100 [] ntmps100 rfl rfl rfl ?_;by_cases g1:o.kind=1
 ·have f1:doB bs o=qfp bs ⟨o.a,1,[],zbl⟩:=by simp[doB,g1]
  have hc:=qDX bs ⟨o.a,1,[],zbl⟩ hl hB rfl ho.1;rw[f1];generalize qfp bs ⟨o.a,1,[],zbl⟩=res at hc;simp[BO.row,g1];refine qac [(1000,.whole 1000)] (by kernel_rfl) hc (by simp[BS.row,zbl]) (by simp) (by simp;exact qaa rfl (by simp)) (by simp) (by simp) ?_;rintro r L' ⟨id,hid,rfl,rfl⟩;rcases hid with rfl | rfl
  ·refine⟨[],⟨by simp,by simp,by simp,by simp,by simp⟩,?_⟩;simp;exact⟨[(1000,qba res.1)],by simp,1000,by simp,rfl,rfl⟩
  ·refine⟨[(45,900)],⟨by simp,by simp,by simp,by simp,by simp⟩,?_⟩;simp;exact⟨[(900,qba res.1)],by simp,900,by simp,rfl,rfl⟩
 by_cases g2:o.kind<1
 ·have f1:doB bs o=(bs,5):=by simp[doB,g1,g2]
  simp[BO.row,g1,g2,f1];exact⟨[(1000,qba bs)],by simp,1000,by simp,by simp,by simp⟩
 by_cases g3:6<o.kind
 ·have f1:doB bs o=(bs,5):=by simp[doB,g1,g3]
  simp[BO.row,g1,g2,g3,f1];exact⟨[(1000,qba bs)],by simp,1000,by simp,by simp,by simp⟩
 simp[BO.row,g1,g2,g3];refine qc9 (by kernel_rfl) (atC bs o.a hl) (by simp[bk]) (by simp) (by simp) ?_;cases h1:atB bs o.a with
 | false =>
  have f1:doB bs o=(bs,1):=by simp[doB,g1,g2,g3,h1]
  simp[f1];exact⟨[(1000,qba bs)],by simp,1000,by simp,by simp,by simp⟩
 | true =>
  obtain⟨t,ht,htn⟩:=qda h1;obtain⟨k,hk⟩:∃ k,atP bs o.a=k:=⟨_,rfl⟩;rw[hk]at ht;have hkl:=(qGy.1 ht).1;have hk0:bs[k]=t:=(qGy.1 ht).2;have htm:=qHT ht;have ht8:=hB t htm;simp[hk,hkl,hk0,ht,qan _ ht8,qbO _ ht8];refine⟨qeq t,?_⟩;by_cases g4:o.kind=2
  ·have f1:doB bs o=qgW bs k:=by simp[doB,h1,hk,ht,g4]
   have hc:=qD0 bs k t hl hB ht;rw[f1];generalize qgW bs k=res at hc;simp[g4];refine qac [(1000,.whole 1000)] (by kernel_rfl) hc (by simp) (by simp) (by simp;exact qaa rfl (by simp)) (by simp) (by simp) ?_;rintro r L' ⟨id,hid,rfl,rfl⟩;rcases hid with rfl | rfl
   ·refine⟨[],⟨by simp,by simp,by simp,by simp,by simp⟩,?_⟩;simp;exact⟨[(1000,qba res.1)],by simp,1000,by simp,rfl,rfl⟩
   ·refine⟨[(39,900)],⟨by simp,by simp,by simp,by simp,by simp⟩,?_⟩;simp;exact⟨[(900,qba res.1)],by simp,900,by simp,rfl,rfl⟩
  by_cases g5:o.kind=3
  ·have f1:doB bs o=qhv bs k o:=by simp[doB,h1,hk,ht,g5]
   have hc:=qFq bs k t o hl hB ht;rw[f1];generalize qhv bs k o=res at hc;simp[g4,g5];refine qac [(1000,.whole 1000)] (by kernel_rfl) hc (by simp[BO.row,g5]) (by simp) (by simp;exact qaa rfl (by simp)) (by simp) (by simp) ?_;rintro r L' ⟨id,hid,rfl,rfl⟩;have hid':id=1000:=hid.elim _root_.id _root_.id;subst hid';refine⟨[],⟨by simp,by simp,by simp,by simp,by simp⟩,?_⟩;simp;exact⟨[(1000,qba res.1)],by simp,1000,by simp,rfl,rfl⟩
  by_cases g6:o.kind=6
  ·have f1:doB bs o=qcS bs k o.b:=by simp[doB,h1,hk,ht,g6]
   have hc:=qEK bs k t o.b hl hB ht;rw[f1];generalize qcS bs k o.b=res at hc;simp[g4,g5,g6];refine qac [(1000,.whole 1000)] (by kernel_rfl) hc (by simp) (by simp) (by simp;exact qaa rfl (by simp)) (by simp) (by simp) ?_;rintro r L' ⟨id,hid,rfl,rfl⟩;have hid':id=1000:=hid.elim _root_.id _root_.id;subst hid';refine⟨[],⟨by simp,by simp,by simp,by simp,by simp⟩,?_⟩;simp;exact⟨[(1000,qba res.1)],by simp,1000,by simp,rfl,rfl⟩
  have m8:min 8 t.bl.length=8:=by omega
  have t8:List.take 8 (List.map AV.str t.bl)=t.bl.map AV.str:=qGh (by simp[ht8]);have w1:IntKind.i64.wrap 1=1:=rfl;have w2:IntKind.i64.wrap 2=2:=rfl;by_cases g7:o.kind=5
  ·by_cases g8:t.kind=2
   ·have f1:doB bs o=qfp bs ⟨o.b,1,t.name,t.bl⟩:=by simp[doB,h1,hk,ht,g7,g8]
    have hc:=qDX bs ⟨o.b,1,t.name,t.bl⟩ hl hB ht8 ho.2;rw[f1];generalize qfp bs ⟨o.b,1,t.name,t.bl⟩=res at hc;simp[g4,g5,g6,g7,g8,m8,t8,w1];refine qac [(1000,.whole 1000)] (by kernel_rfl) hc (by simp[BS.row]) (by simp) (by simp;exact qaa rfl (by simp)) (by simp) (by simp) ?_;rintro r L' ⟨id,hid,rfl,rfl⟩;rcases hid with rfl | rfl
    ·refine⟨[],⟨by simp,by simp,by simp,by simp,by simp⟩,?_⟩;simp;exact⟨[(1000,qba res.1)],by simp,1000,by simp,rfl,rfl⟩
    ·refine⟨[(45,900)],⟨by simp,by simp,by simp,by simp,by simp⟩,?_⟩;simp;exact⟨[(900,qba res.1)],by simp,900,by simp,rfl,rfl⟩
   ·have f1:doB bs o=(bs,3):=by simp[doB,h1,hk,ht,g7,g8]
    simp[g4,g5,g6,g7,g8,f1];exact⟨[(1000,qba bs)],by simp,1000,by simp,by simp,by simp⟩
  ·by_cases g8:t.kind=1
   ·have f1:doB bs o=qfp bs ⟨o.b,2,t.name,t.bl⟩:=by simp[doB,h1,hk,ht,g1,g2,g3,g4,g5,g6,g7,g8]
    have hc:=qDX bs ⟨o.b,2,t.name,t.bl⟩ hl hB ht8 ho.2;rw[f1];generalize qfp bs ⟨o.b,2,t.name,t.bl⟩=res at hc;simp[g4,g5,g6,g7,g8,m8,t8,w2];refine qac [(1000,.whole 1000)] (by kernel_rfl) hc (by simp[BS.row]) (by simp) (by simp;exact qaa rfl (by simp)) (by simp) (by simp) ?_;rintro r L' ⟨id,hid,rfl,rfl⟩;rcases hid with rfl | rfl
    ·refine⟨[],⟨by simp,by simp,by simp,by simp,by simp⟩,?_⟩;simp;exact⟨[(1000,qba res.1)],by simp,1000,by simp,rfl,rfl⟩
    ·refine⟨[(45,900)],⟨by simp,by simp,by simp,by simp,by simp⟩,?_⟩;simp;exact⟨[(900,qba res.1)],by simp,900,by simp,rfl,rfl⟩
   ·have f1:doB bs o=(bs,3):=by simp[doB,h1,hk,ht,g1,g2,g3,g4,g5,g6,g7,g8]
    simp[g4,g5,g6,g7,g8,f1];exact⟨[(1000,qba bs)],by simp,1000,by simp,by simp,by simp⟩
end Go.Av.F
end
section
namespace Go.Av.F
open Go Go.Av
open Go.Proofs Go.Proofs.Tryz
attribute [-simp] qdQ hdS qao qae qap
attribute [local simp] tt3 tt4 tt9 tt5 qcp qdc qcW qcV qdb qdL
def bkN (xs:List Nat) (ok:Bool) (res:List BS×Int) (r:AV) (L':List (Nat×Ob)):Prop :=
 if ok=true then qFb xs res r L' else (r=.tup [.agg [.nils],.int .i64 5]∧L'=[])
theorem qtt (bs:List BS) (o:BO) (hl:bs.length<2000000) (hB:∀ b∈bs,b.bl.length=8) (hn:∀ b∈bs,b.name.length<1000000000) (ho:o.a.length<1000000000∧o.b.length<1000000000) :
  ACall Go.Proofs.Tryz.prog 137 [bk bs,.agg (BO.row o)] [] (bkN [901,902] (qa3 bs) (doB bs o)):=by
 refine acx func137 [(3,[zJ 0 [2] [],zJ 2 [3] [2],zJ 1 [] [3],zI 3,zI 4,zI 5,zI 6,zI 7])] ntmps137 rfl rfl rfl ?_;have hd:=doC bs o hl hB hn ho;generalize doB bs o=res at hd;simp[bk,BO.row];refine qaj (by kernel_rfl) (qnM bs hl hB hn) (by simp[bk]) (by simp) ?_;cases h1:qa3 bs with
 | false=>simp[bkN]
 | true =>
  simp;refine qac [] (by kernel_rfl) (qEB bs hl) (by simp[bk]) (by simp) (by simp) (by simp) (by simp) ?_;rintro r L' ⟨rfl,rfl⟩;refine⟨[(6,901)],⟨by simp,by simp,by simp,by simp,by simp⟩,?_⟩;simp;refine qac [(1000,.whole 901)] (by kernel_rfl) hd (by simp[BO.row]) (by simp) (by simp;exact qaa rfl (by simp)) (by simp) (by simp) ?_;rintro r L' ⟨id,hid,rfl,rfl⟩;simp only[qHq,qHz,or_false]at hid;rcases hid with rfl | rfl
  ·refine⟨[],⟨by simp,by simp,by simp,by simp,by simp⟩,?_⟩;simp;exact⟨[(901,qba res.1)],by simp,901,by simp,rfl,rfl⟩
  ·refine⟨[(900,902)],⟨by simp,by simp,by simp,by simp,by simp⟩,?_⟩;simp;exact⟨[(902,qba res.1)],by simp,902,by simp,rfl,rfl⟩
end Go.Av.F
end
section
namespace Go.Av.F
open Go Go.Av
open Go.Proofs Go.Proofs.Tryz
attribute [-simp] qdQ hdS qao qae qap
attribute [local simp] tt3 tt4 tt9 tt5 qcp qdc qcW qcV qdb qdL
theorem qp8 {P:Program} {f:Nat} (hbd:hasBody P f=true) {args:List AV} {vs:Array Value} {v:Value} {r:AV} (hargs:∀ w Z γ us,CRel w Z γ args us→us=vs) (h:∀ w,Calls P f vs w fun e w'=>e=.returned v∧w'=w)
  (hr:∀ w Z γ,AVRel w Z γ r v):ACall P f args [] (fun x L'=>x=r∧L'=[]):=by
 intro w Z γ us hu hh hs;rw[hargs w Z γ us hu];refine .inl ⟨hbd,(h w).mono ?_⟩;rintro e w' ⟨rfl,rfl⟩;exact⟨v,r,[],Z,γ,rfl,⟨rfl,rfl⟩,hr _ _ _,hh,.refl _ _,fun _ h=>h,fun _ h=>.inl h,fun id o rg ho=>by simp[qaQ]at ho,fun _ _ _=>rfl⟩
theorem qsS {w:World} {Z:Addr→Prop} {γ:Gm} {a b:List UInt8} {us:Array Value} (h:CRel w Z γ [.str a,.str b] us):us=#[.string ⟨a.toArray⟩,.string ⟨b.toArray⟩]:=by
 have h1:=h.2 0 (by simp);have h2:=h.2 1 (by simp);have hs:=h.1;simp only[qGk,qHf]at hs;simp only[qGB,qHn]at h1 h2;generalize e1:us.getD 0 undef=x at h1;generalize e2:us.getD 1 undef=y at h2;cases h1;cases h2;apply qHH
 ·simpa using hs
 ·intro i hi1 hi2;have:i=0∨i=1:=by omega
  rcases this with rfl | rfl
  ·simpa [Array.getD,hi1]using e1
  ·simpa [Array.getD,hi1]using e2
theorem qBX (a b:ByteArray) (w:World) :
  Calls Go.Proofs.Tryz.prog 335 #[.string a,.string b] w fun e w'=>e=.returned (.int .i64 (Lib.compareBytes a.data.toList b.data.toList))∧w'=w:=by
 have u3:=Go.Proofs.Tryz.underlying3;have u9:=Go.Proofs.Tryz.underlying9
 go_enter Go.Proofs.Tryz.func335,Go.Proofs.Tryz.ntmps335
 go_wp2
 rw[run_callFunc_extern Go.Proofs.Tryz.func369 (by kernel_rfl) (by kernel_rfl) (by kernel_rfl) (e:=Extern.BytealgCompare.compare) (by kernel_rfl),Lib.run_compareString];simp only[Result.andThen];rw[Oper.upon_value]
 go_wp2
 go_ret
 exact⟨rfl,rfl⟩
theorem qyx (a b:List UInt8):ACall Go.Proofs.Tryz.prog 335 [.str a,.str b] [] (fun x L'=>x=.int .i64 (Lib.compareBytes a b)∧L'=[]) :=
 qp8 (by kernel_rfl) (fun _ _ _ _ h=>qsS h) (fun w=>qBX ⟨a.toArray⟩ ⟨b.toArray⟩ w) (fun _ _ _=>.int _ _ _)
end Go.Av.F
end
section
namespace Go.Av.F
open Go Go.Av
open Go.Proofs Go.Proofs.Tryz
attribute [-simp] qdQ hdS qao qae qap
attribute [local simp] tt3 tt4 tt9 tt5 qcp qdc qcW qcV qdb qdL qpp
theorem qpc (a b:List UInt8):ACall Go.Proofs.Tryz.prog 291 [.str a,.str b] [] (fun x L'=>x=.int .i64 (Lib.compareBytes a b)∧L'=[]):=by
 refine acx func291 [] ntmps291 rfl rfl rfl ?_;simp;refine qaj (by kernel_rfl) (qyx a b) (by simp) (by simp) ?_;simp
theorem qrA (s:BS) (name:List UInt8) (hs:s.bl.length=8):ACall Go.Proofs.Tryz.prog 334 [.agg (BS.row s),.str name] [] (fun x L'=>x=.int .i64 (Lib.compareBytes s.name name)∧L'=[]):=by
 refine acx func334 [] ntmps334 rfl rfl rfl ?_;simp[qan _ hs];refine qaj (by kernel_rfl) (qpc s.name name) (by simp) (by simp) ?_;simp
theorem qkc (a b c:Int):ACall Go.Proofs.Tryz.prog 173 [.int .i64 a,.int .i64 b,.int .i64 c] [] (fun x L'=>x=.bool (decide (b≤a) && decide (a≤c))∧L'=[]):=by
 refine acx func173 [] ntmps173 rfl rfl rfl ?_;simp;constructor
 ·intros;omega
 ·intros;omega
theorem qoN (i:Int):ACall Go.Proofs.Tryz.prog 286 [.int .i64 i] [] (fun x L'=>x=.bool (decide (0≤i) && decide (i≤7))∧L'=[]):=by
 refine acx func286 [] ntmps286 rfl rfl rfl ?_;simp;refine qaj (by kernel_rfl) (qkc i 0 7) (by simp) (by simp) ?_;simp
theorem qli:∀ (a b:List UInt8),(Lib.compareBytes a b<0↔a<b)∧(Lib.compareBytes a b=0↔a=b)
 | [],[]=>by simp[Lib.compareBytes]
 | [],_::_=>by simp[Lib.compareBytes]
 | _::_,[]=>by simp[Lib.compareBytes]
 | x::xs,y::ys=>by
  obtain⟨h1,h2⟩:=qli xs ys;simp only[Lib.compareBytes,List.cons_lt_cons_iff,qHw];by_cases g1:x<y
  ·have:x≠y:=by rintro rfl;exact absurd g1 (qH7 _)
   simp[g1,this]
  ·by_cases g2:y<x
   ·have:x≠y:=by rintro rfl;exact absurd g2 (qH7 _)
    simp[g1,g2,this]
   ·have:x=y:=UInt8.le_antisymm (UInt8.not_lt.1 g2) (UInt8.not_lt.1 g1);subst this;simp[qH7,h1,h2]
theorem qlj (a b:List UInt8):decide (Lib.compareBytes a b<0)=Op.bytesLess a b:=by
 rw[Go.Proofs.bytesLess_eq];simp[(qli a b).1]
theorem quA (a b:List UInt8):(Lib.compareBytes a b == 0)=(a == b):=by
 have:=(qli a b).2;by_cases h:a=b
 ·have h2:=this.2 h;rw[h2];subst h;simp
 ·have h2:¬ Lib.compareBytes a b=0:=fun e=>h (this.1 e);rw[beq_false_of_ne h2,beq_false_of_ne h]
def Srt (bs:List BS):Prop:=∀ (i j:Nat) (a b:BS),i<j→bs[i]?=some a→bs[j]?=some b→Op.bytesLess a.name b.name=true
theorem qig {a b c:List UInt8} (h1:Op.bytesLess a b=true) (h2:Op.bytesLess b c=true):Op.bytesLess a c=true:=by
 simp only[Go.Proofs.bytesLess_eq,decide_eq_true_eq]at *
 exact qH0 h1 h2
theorem qwU (bs:List BS) (name:List UInt8) (hl:bs.length<2000000) (hB:∀ b∈bs,b.bl.length=8) (hS:Srt bs) :
  ACall Go.Proofs.Tryz.prog 333 [.lst 11 (bs.map BS.row),.str name,.fn 334 []] [] (fun x L'=>x=.tup [.int .i64 (atP bs name),.bool (atB bs name)]∧L'=[]):=by
 refine acx func333 [] ntmps333 rfl rfl rfl ?_;simp;refine qaR (X:=Nat×Nat) [0,1,2,8,9,10] (fun x=>⟨mkT [(0,.lst 11 (bs.map BS.row)),(1,.str name),(2,.fn 334 []),(8,.int .i64 bs.length),(9,.int .i64 x.1),(10,.int .i64 x.2)],qaQ [],Us.of []⟩) (fun x=>x.2-x.1)
  (fun x=>x.1≤x.2∧x.2≤bs.length∧(∀ i a,i<x.1→bs[i]?=some a→Op.bytesLess a.name name=true)∧(∀ i a,x.2≤i→bs[i]?=some a→Op.bytesLess a.name name=false)) (0,bs.length)
  ⟨⟨by simp,by simp,by simp,fun i a h1 h2=>by have:=(qGy.1 h2).1;simp only at h1;omega⟩,[],by simp[qae],by simp[qao]⟩ ?_
 rintro⟨i,j⟩ ⟨hij,hj,ha,hb⟩;simp only at hij hj ha hb;by_cases h1:i<j
 ·obtain⟨m,hm⟩:∃ m,(i+j) / 2=m:=⟨_,rfl⟩;have e1:IntKind.i64.wrap ((i:Int)+j)=((i+j:Nat):Int):=by rw[qax _ (by omega)];omega
  have e6:IntKind.i64.wrap ((IntKind.u64.wrap ((i:Int)+j)).fdiv (2 ^ min 1 IntKind.u64.bits))=(m:Int):=by
   rw[show IntKind.u64.wrap ((i:Int)+j)=(i:Int)+j from IntWalk.u64_in _ (by omega)];rw[show(2:Int) ^ min 1 IntKind.u64.bits=2 from rfl,qH8 _ (by omega)];rw[qax _ (by omega)];omega
  have e7:IntKind.i64.wrap ((m:Int)+1)=((m+1:Nat):Int):=by rw[qax _ (by omega)];omega
  have hml:m<bs.length:=by omega
  obtain⟨s,e0⟩:∃ s,bs[m]=s:=⟨_,rfl⟩;have e5:bs[m]?=some s:=by rw[← e0];exact qF3 hml
  have hs:=hB s (qHT e5);simp[h1,e1,e6,hml,e0,e5,qan _ hs,qbO _ hs];refine qaj (by kernel_rfl) (qrA s name hs) (by simp) (by simp) ?_;have hneg:=qlj s.name name;cases hc:Op.bytesLess s.name name with
  | true =>
   rw[hc]at hneg;have hneg':Lib.compareBytes s.name name<0:=by simpa using hneg
   simp[hneg',e7];refine qau (m+1,j) (by simp only;omega) ⟨by simp only;omega,hj,fun x a hx hxa=>?_,hb⟩ [] (by simp[qae]) (by simp[qao]);simp only at hx;by_cases hxm:x=m
   ·subst hxm;rw[e5]at hxa;injection hxa with hxa;subst hxa;exact hc
   ·exact qig (hS x m a s (by omega) hxa e5) hc
  | false =>
   rw[hc]at hneg;have hneg':¬ Lib.compareBytes s.name name<0:=by simpa using hneg
   simp[hneg',show 0≤Lib.compareBytes s.name name by omega];refine qau (i,m) (by simp only;omega) ⟨by simp only;omega,by simp only;omega,ha,fun x a hx hxa=>?_⟩ [] (by simp[qae]) (by simp[qao]);simp only at hx;by_cases hxm:x=m
   ·subst hxm;rw[e5]at hxa;injection hxa with hxa;subst hxa;exact hc
   ·cases hq:Op.bytesLess a.name name with
    | false=>rfl
    | true=>rw[qig (hS m x s a (by omega) e5 hxa) hq]at hc;cases hc
 ·have hji:j=i:=by omega
  subst hji;by_cases h2:j<bs.length
  ·obtain⟨s,e0⟩:∃ s,bs[j]=s:=⟨_,rfl⟩;have e5:bs[j]?=some s:=by rw[← e0];exact qF3 h2
   have hs:=hB s (qHT e5);have hp:atP bs name=j:=(qcs (fun b:BS=>Op.bytesLess b.name name) bs j s (fun x hx y hy=>ha x y hx hy) e5).2 (hb j s (by omega) e5);simp[h2,e0,e5,qan _ hs,qbO _ hs];refine qaj (by kernel_rfl) (qrA s name hs) (by simp) (by simp) ?_;have hz:=quA s.name name;simp[hz,hp,atB,e5]
  ·have hj':j=bs.length:=by omega
   have hp:atP bs name=bs.length:=by
    unfold atP;rw[qel _ _ (fun b hb'=>by
     obtain⟨x,hx,e⟩:=qHY.1 hb';exact ha x b (by omega) (by rw[← e];exact qF3 hx))]
   subst hj';simp[hp,atB]
theorem qot (bs:List BS) (name:List UInt8) (hl:bs.length<2000000) (hB:∀ b∈bs,b.bl.length=8) (hS:Srt bs) :
  ACall Go.Proofs.Tryz.prog 283 [bk bs,.str name] [] (fun x L'=>x=.tup [.int .i64 (atP bs name),.bool (atB bs name)]∧L'=[]):=by
 refine acx func283 [] ntmps283 rfl rfl rfl ?_;simp[bk];refine qaj (by kernel_rfl) (qwU bs name hl hB hS) (by simp) (by simp) ?_;simp
end Go.Av.F
end
section
namespace Go.Av.F
open Go Go.Av
open Go.Proofs Go.Proofs.Tryz
attribute [-simp] qdQ hdS qao qae qap
attribute [local simp] tt3 tt4 tt9 tt5 qcp qdc qcW qcV qdb qdL qpp
def qBY (x:Nat) (bs:List BS) (r:AV) (L':List (Nat×Ob)):Prop:=(bs=[]∧r=.nils∧L'=[])∨(r=.sl x 0 bs.length∧L'=[(x,qba bs)])
theorem qBZ (bs:List BS) (hl:bs.length<2000000):ACall Go.Proofs.Tryz.prog 281 [.lst 11 (bs.map BS.row)] [] (qBY 7 bs):=by
 refine acx func281 [] ntmps281 rfl rfl rfl ?_;by_cases h:bs=[]
 ·subst h;simp;exact⟨⟨[],by simp,.inl ⟨rfl,rfl,rfl⟩⟩,[(7,qba [])],by simp[qba],.inr ⟨rfl,rfl⟩⟩
 ·simp[h];exact⟨⟨by omega,fun b _ x hx=>qeq b x hx⟩,[(7,qba bs)],by simp[qba],.inr ⟨rfl,rfl⟩⟩
def qxP (p:BS→Bool) (bs:List BS):Int:=match bs.findIdx? p with
 | some i=>i
 | none=>-1
@[simp] theorem qDY (hv:Hp) (ids:List Nat) (ρ:Nat→Option Plc) (b:BS):mtL hv ids ρ (BS.row b) (BS.row b):=qhz _ (qoc b)
theorem qkO (p:BS→Bool):∀ (bs:List BS) (i:Nat) (s:BS),(∀ j,j<i→∀ y,bs[j]?=some y→p y=false)→bs[i]?=some s→p s=true→bs.findIdx? p=some i
 | [],i,s,_,h,_=>by simp at h
 | a::r,0,s,_,h,hp=>by
  simp only[qF5,qFQ]at h;subst h;simp[qH9,hp]
 | a::r,i+1,s,hb,h,hp=>by
  have h0:p a=false:=hb 0 (by omega) a (by simp);have:=qkO p r i s (fun j hj y hy=>hb (j+1) (by omega) y (by simpa using hy)) (by simpa using h) hp;simp[qH9,h0,this]
theorem qEV (p:BS→Bool) (g:Nat) (o:Ob) (bs:List BS) (hl:bs.length<2000000) (hB:∀ b∈bs,b.bl.length=8) (ho:∀ ρ,qbH ρ o=o) (hc:clR o.els=true) (en:qb1 Go.Proofs.Tryz.prog g=true)
  (hg:∀ s∈bs,ACall Go.Proofs.Tryz.prog g [.agg (BS.row s),.ptr 1000 0 0] [(1000,o)] (fun r L'=>r=.bool (p s)∧L'=[(1000,o)])) :
  ACall Go.Proofs.Tryz.prog 311 [.lst 11 (bs.map BS.row),.fn g [.ptr 1000 0 0]] [(1000,o)] (fun r L'=>r=.int .i64 (qxP p bs)∧L'=[(1000,o)]):=by
 refine acx func311 [] ntmps311 rfl rfl rfl ?_;simp;refine qaR (X:=Nat) [0,1,7,8] (fun i=>⟨mkT [(0,.lst 11 (bs.map BS.row)),(1,.fn g [.ptr 1000 0 0]),(7,.int .i64 bs.length),(8,.int .i64 i)],qaQ [(1000,o)],Us.of [1000,1000]⟩) (fun i=>bs.length-i)
  (fun i=>i≤bs.length∧∀ j,j<i→∀ y,bs[j]?=some y→p y=false) 0 ⟨by simp,[(1000,1000)],by simp[qae],by simp[qao,qah,ho]⟩ ?_
 rintro i ⟨hi,ha⟩;by_cases h1:i<bs.length
 ·obtain⟨s,e0⟩:∃ s,bs[i]=s:=⟨_,rfl⟩;have e1:bs[i]?=some s:=by rw[← e0];exact qF3 h1
  have hsm:=qHT e1;have hs:=hB s hsm;have e2:IntKind.i64.wrap ((i:Int)+1)=((i+1:Nat):Int):=by rw[qax _ (by omega)];omega
  simp[h1,e0,e1,qan _ hs,qbO _ hs];refine qac [(1000,.whole 1000)] en (hg s hsm) (by simp) (by simp) (by simp;exact qaa rfl hc) (by simp) (by simp) ?_;rintro r L' ⟨rfl,rfl⟩;refine⟨[],⟨by simp,by simp,by simp,by simp,by simp⟩,?_⟩;cases hp:p s with
  | true =>
   have:=qkO p bs i s ha e1 hp;simp[ho,qxP,this]
  | false =>
   simp[ho,e2];refine qau (i+1) (by omega) ⟨by omega,fun j hj y hy=>?_⟩ [(1000,1000)] (by simp[qae]) (by simp[qao,qah,ho]);by_cases hji:j=i
   ·subst hji;rw[e1]at hy;injection hy with hy;subst hy;exact hp
   ·exact ha j (by omega) y hy
 ·have hie:i=bs.length:=by omega
  have:bs.findIdx? p=none:=by
   rw[qIa];intro x hx;obtain⟨j,hj,e⟩:=qHY.1 hx;exact ha j (by omega) x (by rw[← e];exact qF3 hj)
  subst hie;simp[qxP,this]
end Go.Av.F
end
section
namespace Go.Av.F
open Go Go.Av
open Go.Proofs Go.Proofs.Tryz
attribute [-simp] qdQ hdS qao qae qap
attribute [local simp] tt3 tt4 tt9 tt5 qcp qdc qcW qcV qdb qdL qpp
def sOb (s:BS):Ob:=⟨11,[BS.row s]⟩
@[simp] theorem qw0 (ρ:Nat→Option Plc) (s:BS):qbH ρ (sOb s)=sOb s:=by simp[sOb]
theorem qz6 (s:BS):clR (sOb s).els=true:=by simp[sOb,clR]
theorem qxF (s x:BS) (hs:s.bl.length=8) (hx:x.bl.length=8):ACall Go.Proofs.Tryz.prog 312 [.agg (BS.row x),.ptr 1000 0 0] [(1000,sOb s)] (fun r L'=>r=.bool (x.name == s.frm)∧L'=[(1000,sOb s)]):=by
 refine acx func312 [] ntmps312 rfl rfl rfl ?_;simp[sOb,qan _ hs,qan _ hx]
def qdE (bs:List BS):Nat→BS→Bool
 | 0,_=>false
 | n+1,s=>if s.frm=[] then s.kind == 1 else
   match bs.findIdx? (fun x=>x.name == s.frm)with
   | some j=>match bs[j]? with
    | some t=>if t.kind=s.kind then false else qdE bs n t
    | none=>false
   | none=>false
theorem qA1 (bs:List BS) (s:BS) (hl:bs.length<2000000) (hB:∀ b∈bs,b.bl.length=8) (hs:s.bl.length=8):ACall Go.Proofs.Tryz.prog 260 [bk bs,.agg (BS.row s)] [] (fun r L'=>r=.bool (qdE bs bs.length s)∧L'=[]):=by
 obtain⟨res,hres⟩:∃ res,qdE bs bs.length s=res:=⟨_,rfl⟩;rw[hres];refine acx func260 [(6,[zI 0,zI 1,zI 2,zI 3,zJ 4 [2] [],zJ 5 [] [2],zI 6,zI 7,zI 8,zJ 9 [] [2],zJ 10 [3] [2],zI 11,zI 12])] ntmps260 rfl rfl rfl ?_;simp[bk,qan _ hs];refine qaR (X:=Nat×BS) [2,3,8,9] (fun x=>⟨mkT [(2,.ptr 2 0 0),(3,.ptr 3 0 0),(8,.int .i64 bs.length),(9,.int .i64 x.1)],qaQ [(2,⟨1,[[.lst 11 (bs.map BS.row)]]⟩),(3,sOb x.2)],Us.of [2,3]⟩) (fun x=>bs.length-x.1)
  (fun x=>x.1≤bs.length∧x.2.bl.length=8∧res=qdE bs (bs.length-x.1) x.2) (0,s) ⟨⟨by simp,hs,hres.symm⟩,[(2,2),(3,3)],by simp[qae],by simp[qao,qah,sOb]⟩ ?_
 rintro⟨i,t⟩ ⟨hi,ht,he⟩;simp only at hi ht he;by_cases h1:i<bs.length
 ·obtain⟨n,hn⟩:∃ n,bs.length-i=n+1:=⟨bs.length-i-1,by omega⟩;have e2:IntKind.i64.wrap ((i:Int)+1)=((i+1:Nat):Int):=by rw[qax _ (by omega)];omega
  rw[hn]at he;by_cases h2:t.frm=[]
  ·simp[h1,h2,he,qdE,sOb]
  ·simp[h1,h2,sOb];refine qac [(1000,.whole 3)] (by kernel_rfl) (qEV (fun x=>x.name == t.frm) 312 (sOb t) bs hl hB (fun ρ=>qw0 ρ t) (qz6 t) (by kernel_rfl) (fun x hx=>qxF t x ht (hB x hx))) (by simp) (by simp) (by simp;exact⟨rfl,qaa rfl (by simp[clR])⟩) (by simp) (by simp) ?_;rintro r L' ⟨rfl,rfl⟩;refine⟨[],⟨by simp,by simp,by simp,by simp,by simp⟩,?_⟩;cases hf:bs.findIdx? (fun x=>x.name == t.frm)with
   | none =>
    have:res=false:=by rw[he];simp[qdE,h2,hf]
    simp[qxP,hf,this]
   | some j =>
    have hjl:j<bs.length:=(List.findIdx?_eq_some_iff_findIdx_eq.1 hf).1;obtain⟨u,e0⟩:∃ u,bs[j]=u:=⟨_,rfl⟩;have e1:bs[j]?=some u:=by rw[← e0];exact qF3 hjl
    have hu:=hB u (qHT e1);by_cases h4:u.kind=t.kind
    ·have:res=false:=by rw[he];simp[qdE,h2,hf,e1,h4]
     simp[qxP,hf,hjl,e0,e1,h4,this,qan _ hu,qan _ ht,sOb]
    ·have e5:res=qdE bs n u:=by rw[he];simp[qdE,h2,hf,e1,h4]
     simp[qxP,hf,hjl,e0,e1,h4,qan _ hu,qan _ ht,qbO _ hu,qhW _ ht,e2,sOb];refine⟨⟨qeq u,?_⟩,fun h=>by omega⟩;refine qau (i+1,u) (by simp only;omega) ⟨by simp only;omega,hu,?_⟩ [(2,2),(3,3)] (by simp[qae]) (by simp[qao,qah,sOb]);simp only;rw[e5];congr 1;omega
 ·have:res=false:=by rw[he,show bs.length-i=0 by omega];rfl
  simp[h1,this]
end Go.Av.F
end
section
namespace Go.Av.F
open Go Go.Av
open Go.Proofs Go.Proofs.Tryz
attribute [-simp] qdQ hdS qao qae qap
attribute [local simp] tt3 tt4 tt9 tt5 qcp qqv
def qiw (l:List UInt8):List AV:=(List.range 256).map fun i=>.bool (l.any fun c=>c.toNat == i)
@[simp] theorem qhT (l:List UInt8):(qiw l).length=256:=by simp[qiw]
theorem qn6:qiw []=List.replicate 256 (.bool false):=by
 rw[List.eq_replicate_iff];refine⟨qhT _,fun x hx=>?_⟩;simp only[qiw,qGt]at hx;obtain⟨_,_,rfl⟩:=hx;rfl
theorem qn7 (l:List UInt8) (c:UInt8):(qiw l)[c.toNat]?=some (.bool (l.any fun d=>d == c)):=by
 have hc:c.toNat<256:=c.toNat_lt;have:∀ d:UInt8,(d.toNat == c.toNat)=(d == c):=fun d=>by
  by_cases h:d=c
  ·simp[h]
  ·have:d.toNat≠c.toNat:=fun e=>h (qIb.1 e);rw[beq_false_of_ne h,beq_false_of_ne this]
 simp[qiw,hc,this]
theorem qko:∀ l,clL (qiw l)=true:=fun l=>by
 have:∀ (m:List Nat) (f:Nat→Bool),clL (m.map fun i=>AV.bool (f i))=true:=fun m f=>by induction m <;> simp_all
 exact this _ _
def qeo (l:List UInt8):Ob:=⟨256,[qiw l]⟩
theorem qkn (ρ:Nat→Option Plc) (l:List UInt8):qb6 ρ (qiw l)=qiw l:=by
 have:∀ (m:List Nat) (f:Nat→Bool),qb6 ρ (m.map fun i=>AV.bool (f i))=m.map fun i=>AV.bool (f i):=fun m f=>by induction m <;> simp_all
 exact this _ _
@[simp] theorem qzW (ρ:Nat→Option Plc) (l:List UInt8):qbH ρ (qeo l)=qeo l:=by simp[qeo,qkn]
theorem qmI (l:List UInt8) (c:UInt8):ACall Go.Proofs.Tryz.prog 379 [.ptr 1000 0 0,.int .u8 c.toNat] [(1000,qeo l)] (fun r L'=>r=.bool (l.any fun d=>d == c)∧L'=[(1000,qeo l)]):=by
 have hc:c.toNat<256:=c.toNat_lt;refine acx func379 [] ntmps379 rfl rfl rfl ?_;have hg:(qiw l)[c.toNat]'(by rw[qhT];exact hc)=.bool (l.any fun d=>d == c):=by
  have:=qn7 l c;rw[qF3 (by rw[qhT];exact hc)]at this;injection this
 simp[qeo,qn7,hc,hg];omega
theorem qts (l:List UInt8) (c:UInt8):(qiw l).set c.toNat (.bool true)=qiw (l++[c]):=by
 apply List.ext_getElem
 ·simp
 ·intro i h1 h2;have hi:i<256:=by simpa using h2
  rw[List.getElem_set];by_cases h:c.toNat=i
  ·subst h;simp[qiw]
  ·have:(c.toNat == i)=false:=beq_false_of_ne h;simp[qiw,h,this]
theorem qB8 (cs:List UInt8) (hl:cs.length<2000000) (hc:∀ c∈cs,c.toNat<128):ACall Go.Proofs.Tryz.prog 351 [.str cs] [] (fun r L'=>r=.tup [.agg (qiw cs),.bool true]∧L'=[]):=by
 refine acx func351 [] ntmps351 rfl rfl rfl ?_;have hz:=qn6;simp[← hz];refine qaR (X:=Nat) [0,2,4] (fun i=>⟨mkT [(0,.str cs),(2,.ptr 2 0 0),(4,.int .i64 i)],qaQ [(2,qeo (cs.take i))],Us.of [2]⟩) (fun i=>cs.length-i) (fun i=>i≤cs.length) 0 ⟨by simp,[(2,2)],by simp[qae],by simp[qao,qah,qeo,qkn]⟩ ?_;intro i hi;by_cases h1:i<cs.length
 ·obtain⟨x,e0⟩:∃ x,cs[i]=x:=⟨_,rfl⟩;have e1:cs[i]?=some x:=by rw[← e0];exact qF3 h1
  have hx:=hc x (qHT e1);have e2:IntKind.i64.wrap ((i:Int)+1)=((i+1:Nat):Int):=by rw[qax _ (by omega)];omega
  have hx':¬ (128:Int)≤x.toNat:=by omega
  have f1:List.take x.toNat (qiw (cs.take i))++AV.bool true::List.drop (x.toNat+1) (qiw (cs.take i))=qiw (cs.take (i+1)):=by
   have:=qts (cs.take i) x;rw[qH3,if_pos (by rw[qhT];omega)]at this;rw[this,qHN,e1];rfl
  simp[h1,e0,e1,e2,hx',qeo,f1];refine⟨by omega,by omega,?_⟩;exact qau (i+1) (by omega) (by omega) [(2,2)] (by simp[qae]) (by simp[qao,qah,qeo,qkn])
 ·have:i=cs.length:=by omega
  subst this;have f2:List.take 256 (qiw cs)=qiw cs:=qGh (by simp);simp[qeo,f2];intro x hx;simp only[qiw,qGt]at hx;obtain⟨_,_,rfl⟩:=hx;rfl
end Go.Av.F
end
section
namespace Go.Av.F
open Go Go.Av
open Go.Proofs Go.Proofs.Tryz
attribute [-simp] qdQ hdS qao qae qap
attribute [local simp] tt3 tt4 tt9 tt5 qcp qqv
def inS (l:List UInt8) (c:UInt8):Bool:=l.any fun d=>d == c
theorem qkm (l:List UInt8):clR (qeo l).els=true:=by simp[qeo,clR,qko]
theorem qzA (l s:List UInt8) (hl:s.length<2000000):ACall Go.Proofs.Tryz.prog 352 [.str s,.ptr 1000 0 0] [(1000,qeo l)] (fun r L'=>r=.str (s.dropWhile (inS l))∧L'=[(1000,qeo l)]):=by
 obtain⟨res,hres⟩:∃ res,s.dropWhile (inS l)=res:=⟨_,rfl⟩;rw[hres];refine acx func352 [] ntmps352 rfl rfl rfl ?_;simp;refine qaR (X:=List UInt8) [0,1] (fun t=>⟨mkT [(0,.str t),(1,.ptr 1000 0 0)],qaQ [(1000,qeo l)],Us.of [1000,1000]⟩) (fun t=>t.length) (fun t=>t.length<2000000∧t.dropWhile (inS l)=res) s ⟨⟨hl,hres⟩,[(1000,1000)],by simp[qae],by simp[qao,qah]⟩ ?_;rintro t ⟨ht,he⟩;cases t with
 | nil =>
  simp;simpa using he
 | cons c t =>
  simp;refine qac [(1000,.whole 1000)] (by kernel_rfl) (qmI l c) (by simp) (by simp) (by simp;exact qaa rfl (qkm l)) (by simp) (by simp) ?_;rintro r L' ⟨rfl,rfl⟩;refine⟨[],⟨by simp,by simp,by simp,by simp,by simp⟩,?_⟩;have hd:(l.any fun d=>d == c)=inS l c:=rfl;rw[hd];cases hc:inS l c with
  | true =>
   have he':t.dropWhile (inS l)=res:=by rw[← he];simp[List.dropWhile,hc]
   simp;refine qau t (by simp) ⟨by simp at ht;omega,he'⟩ [(1000,1000)] (by simp[qae]) (by simp[qao,qah])
  | false =>
   have he':c::t=res:=by rw[← he];simp[List.dropWhile,hc]
   simp[he']
theorem qzz (l s:List UInt8) (hl:s.length<2000000):ACall Go.Proofs.Tryz.prog 353 [.str s,.ptr 1000 0 0] [(1000,qeo l)] (fun r L'=>r=.str (s.reverse.dropWhile (inS l)).reverse∧L'=[(1000,qeo l)]):=by
 obtain⟨res,hres⟩:∃ res,(s.reverse.dropWhile (inS l)).reverse=res:=⟨_,rfl⟩;rw[hres];refine acx func353 [] ntmps353 rfl rfl rfl ?_;simp;refine qaR (X:=List UInt8) [0,1] (fun t=>⟨mkT [(0,.str t),(1,.ptr 1000 0 0)],qaQ [(1000,qeo l)],Us.of [1000,1000]⟩) (fun t=>t.length) (fun t=>t.length<2000000∧(t.reverse.dropWhile (inS l)).reverse=res) s ⟨⟨hl,hres⟩,[(1000,1000)],by simp[qae],by simp[qao,qah]⟩ ?_;rintro t ⟨ht,he⟩;rcases List.eq_nil_or_concat t with rfl | ⟨u,c,rfl⟩
 ·simp;simpa using he
 ·simp only[List.concat_eq_append]at *
  have hul:u.length<2000000:=by simp at ht;omega
  have e1:IntKind.i64.wrap ((u.length:Int)+1-1)=(u.length:Int):=by rw[qax _ (by omega)];omega
  have e2:IntKind.i64.wrap (u.length:Int)=(u.length:Int):=qax _ (by omega);have e3:(u++[c])[u.length]?=some c:=by simp
  simp[e1,e2,e3];refine⟨by omega,?_⟩;refine qac [(1000,.whole 1000)] (by kernel_rfl) (qmI l c) (by simp) (by simp) (by simp;exact qaa rfl (qkm l)) (by simp) (by simp) ?_;rintro r L' ⟨rfl,rfl⟩;refine⟨[],⟨by simp,by simp,by simp,by simp,by simp⟩,?_⟩;have hd:(l.any fun d=>d == c)=inS l c:=rfl;rw[hd];cases hc:inS l c with
  | true =>
   have he':(u.reverse.dropWhile (inS l)).reverse=res:=by rw[← he];simp[List.dropWhile,hc]
   simp[e1,e2];exact qau u (by simp) ⟨hul,he'⟩ [(1000,1000)] (by simp[qae]) (by simp[qao,qah])
  | false =>
   have he':u++[c]=res:=by rw[← he];simp[List.dropWhile,hc]
   simp[he']
end Go.Av.F
end
section
namespace Go.Av.F
open Go Go.Av
open Go.Proofs Go.Proofs.Tryz
attribute [-simp] qdQ hdS qao qae qap
attribute [local simp] tt3 tt4 tt9 tt5 qcp qqv
def qir (l s:List UInt8):List UInt8:=((s.reverse.dropWhile (inS l)).reverse).dropWhile (inS l)
theorem qDc (s cs:List UInt8) (hl:s.length<2000000) (hs:s≠[]) (hcl:2≤cs.length) (hcl2:cs.length<2000000) (hc:∀ c∈cs,c.toNat<128) :
  ACall Go.Proofs.Tryz.prog 310 [.str s,.str cs] [] (fun r L'=>r=.str (qir cs s)∧L'=[]):=by
 have h1:cs≠[]:=by rintro rfl;simp at hcl
 have h2:¬ cs.length=1:=by omega
 have h2':¬ (cs.length:Int)=1:=by omega
 have hz:=qn6;refine acx func310 [(4,[zI 0,zI 1,zI 2,zI 4,zI 5,zI 3,zI 6,zI 7])] ntmps310 rfl rfl rfl ?_;simp[hs,h1,h2,h2',← hz];refine qaj (by kernel_rfl) (qB8 cs hcl2 hc) (by simp) (by simp[qko]) ?_;simp;refine⟨fun x hx=>?_,?_⟩
 ·simp only[qiw,qGt]at hx;obtain⟨_,_,rfl⟩:=hx;rfl
 refine qac [(1000,.whole 5)] (by kernel_rfl) (qzz cs s hl) (by simp) (by simp) (by simp;exact⟨rfl,qaa rfl (by simp[clR,qko])⟩) (by simp) (by simp) ?_;rintro r L' ⟨rfl,rfl⟩;refine⟨[],⟨by simp,by simp,by simp,by simp,by simp⟩,?_⟩;simp;have hl2:((s.reverse.dropWhile (inS cs)).reverse).length<2000000:=by
  have:=(List.dropWhile_sublist (inS cs) (l:=s.reverse)).length_le;simp at this ⊢;omega
 refine qac [(1000,.whole 5)] (by kernel_rfl) (qzA cs _ hl2) (by simp) (by simp) (by simp;exact qaa rfl (qkm cs)) (by simp) (by simp) ?_;rintro r L' ⟨rfl,rfl⟩;refine⟨[],⟨by simp,by simp,by simp,by simp,by simp⟩,?_⟩;simp[qir]
end Go.Av.F
end
section
namespace Go.Av.F
open Go Go.Av
open Go.Proofs Go.Proofs.Tryz
attribute [-simp] qdQ hdS qao qae qap
attribute [local simp] tt3 tt4 tt9 tt5 qcp qqv
def abc:List UInt8:=[97,98,99,100,101,102,103,104,105,106,107,108,109,110,111,112,113,114,115,116,117,118,119,120,121,122]
theorem qcm {α:Type} (p:α→Bool):∀ l:List α,l.dropWhile p=[]↔l.all p=true
 | []=>by simp
 | a::r=>by
  cases h:p a <;> simp[List.dropWhile,h,qcm p r]
theorem qfH {α:Type} (p:α→Bool):∀ (l:List α) (a:α) (r:List α),l.dropWhile p=a::r→p a=false
 | [],a,r,h=>by simp at h
 | b::l,a,r,h=>by
  cases hb:p b with
  | true=>simp[List.dropWhile,hb]at h;exact qfH p l a r h
  | false=>simp[List.dropWhile,hb]at h;rw[← h.1];exact hb
theorem qlD (l s:List UInt8):qir l s=[]↔s.all (inS l)=true:=by
 unfold qir;constructor
 ·intro h;by_cases h2:(s.reverse.dropWhile (inS l))=[]
  ·have:=(qcm _ _).1 h2;simpa using this
  ·exfalso;have h3:=(qcm _ _).1 h;cases h4:s.reverse.dropWhile (inS l)with
   | nil=>exact h2 h4
   | cons a r =>
    have h5:=qfH _ _ _ _ h4;rw[h4]at h3;simp[h5]at h3
 ·intro h;have h2:s.reverse.dropWhile (inS l)=[]:=(qcm _ _).2 (by simpa using h);rw[h2];rfl
theorem qxK (c:UInt8):inS abc c=qmX c:=by
 have:∀ n:Fin 256,inS abc (UInt8.ofNat n)=qmX (UInt8.ofNat n):=by decide
 have h:=this ⟨c.toNat,c.toNat_lt⟩;simpa using h
theorem qiV (s:List UInt8) (hs:s.length<2000000):ACall Go.Proofs.Tryz.prog 256 [.str s] [] (fun r L'=>r=.bool (qbR s)∧L'=[]):=by
 refine acx func256 [] ntmps256 rfl rfl rfl ?_;simp;refine qaj (by kernel_rfl) (qkc s.length 1 6) (by simp) (by simp) ?_;have hall:s.all (inS abc)=s.all qmX:=by congr 1;funext c;exact qxK c
 by_cases h1:1≤s.length∧s.length≤6
 ·have h2:s≠[]:=by rintro rfl;simp at h1
  have h3:(decide ((1:Int)≤s.length) && decide ((s.length:Int)≤6))=true:=by simp;omega
  rw[h3];simp;refine qaj (by kernel_rfl) (qDc s abc hs h2 (by simp[abc]) (by simp[abc]) (by decide)) (by simp) (by simp) ?_;have h4:(qir abc s == [])=qbR s:=by
   have h5:(qir abc s == [])=s.all qmX:=by
    cases h6:s.all qmX with
    | true=>rw[(qlD abc s).2 (by rw[hall];exact h6)];rfl
    | false =>
     have:qir abc s≠[]:=fun e=>by
      have:=(qlD abc s).1 e;rw[hall,h6]at this;cases this
     exact beq_false_of_ne this
   rw[h5];simp[qbR,h1.2];omega
  simp[h4]
 ·have h3:(decide ((1:Int)≤s.length) && decide ((s.length:Int)≤6))=false:=by simp;omega
  have h4:qbR s=false:=by
   simp only[qbR,qGM,decide_eq_false_iff_not];omega
  rw[h3];simp[h4]
end Go.Av.F
end
section
namespace Go.Av.F
open Go Go.Av
open Go.Proofs Go.Proofs.Tryz
attribute [-simp] qdQ hdS qao qae qap
attribute [local simp] tt3 tt4 tt9 tt5 qcp qdc qcW qcV qdb qdL qmU
theorem qAU (t:List UInt8):ACall Go.Proofs.Tryz.prog 257 [.str t] [] (fun r L'=>r=.bool (!qen t)∧L'=[]):=by
 refine acx func257 [] ntmps257 rfl rfl rfl ?_;by_cases h:t.length≤24
 ·have h2:¬ (24:Int)<t.length:=by omega
  simp[qen,h,h2]
 ·have h2:(24:Int)<t.length:=by omega
  simp[qen,h,h2]
def qy8 {α:Type} (p:α→Bool) (bs:List α):Int:=match bs.findIdx? p with
 | some i=>i
 | none=>-1
theorem qoQ {α:Type} (p:α→Bool) (bs:List α):decide (0≤qy8 p bs)=bs.any p:=by
 unfold qy8;cases h:bs.findIdx? p with
 | none =>
  rw[qIa]at h;have:bs.any p=false:=by rw[qIc];intro x hx;simp[h x hx]
  simp[this]
 | some i =>
  have:bs.any p=true:=by
   have h2:=(List.findIdx?_eq_some_iff_getElem.1 h);obtain⟨hi,hp,_⟩:=h2;rw[qHD];exact⟨_,qGz hi,hp⟩
  simp[this]
theorem qmd {α:Type} (p:α→Bool):∀ (bs:List α) (i:Nat) (s:α),(∀ j,j<i→∀ y,bs[j]?=some y→p y=false)→bs[i]?=some s→p s=true→bs.findIdx? p=some i
 | [],i,s,_,h,_=>by simp at h
 | a::r,0,s,_,h,hp=>by
  simp only[qF5,qFQ]at h;subst h;simp[qH9,hp]
 | a::r,i+1,s,hb,h,hp=>by
  have h0:p a=false:=hb 0 (by omega) a (by simp);have:=qmd p r i s (fun j hj y hy=>hb (j+1) (by omega) y (by simpa using hy)) (by simpa using h) hp;simp[qH9,h0,this]
theorem qD3 (p:List UInt8→Bool) (g:Nat) (bs:List (List UInt8)) (hl:bs.length<2000000) (en:qb1 Go.Proofs.Tryz.prog g=true)
  (hg:∀ s∈bs,ACall Go.Proofs.Tryz.prog g [.str s] [] (fun r L'=>r=.bool (p s)∧L'=[])) :
  ACall Go.Proofs.Tryz.prog 253 [.lst 1 (bs.map qai),.fn g []] [] (fun r L'=>r=.int .i64 (qy8 p bs)∧L'=[]):=by
 refine acx func253 [] ntmps253 rfl rfl rfl ?_;simp;refine qaR (X:=Nat) [0,1,7,8] (fun i=>⟨mkT [(0,.lst 1 (bs.map qai)),(1,.fn g []),(7,.int .i64 bs.length),(8,.int .i64 i)],qaQ [],Us.of []⟩) (fun i=>bs.length-i)
  (fun i=>i≤bs.length∧∀ j,j<i→∀ y,bs[j]?=some y→p y=false) 0 ⟨by simp,[],by simp[qae],by simp[qao]⟩ ?_
 rintro i ⟨hi,ha⟩;by_cases h1:i<bs.length
 ·obtain⟨s,e0⟩:∃ s,bs[i]=s:=⟨_,rfl⟩;have e1:bs[i]?=some s:=by rw[← e0];exact qF3 h1
  have hsm:=qHT e1;have e2:IntKind.i64.wrap ((i:Int)+1)=((i+1:Nat):Int):=by rw[qax _ (by omega)];omega
  simp[h1,e0,e1,qai];refine qaj en (hg s hsm) (by simp) (by simp) ?_;cases hp:p s with
  | true =>
   have:=qmd p bs i s ha e1 hp;simp[qy8,this]
  | false =>
   simp[e2];refine qau (i+1) (by omega) ⟨by omega,fun j hj y hy=>?_⟩ [] (by simp[qae]) (by simp[qao,qai]);by_cases hji:j=i
   ·subst hji;rw[e1]at hy;injection hy with hy;subst hy;exact hp
   ·exact ha j (by omega) y hy
 ·have hie:i=bs.length:=by omega
  have:bs.findIdx? p=none:=by
   rw[qIa];intro x hx;obtain⟨j,hj,e⟩:=qHY.1 hx;exact ha j (by omega) x (by rw[← e];exact qF3 hj)
  subst hie;simp[qy8,this]
theorem qsJ (p:List UInt8→Bool) (g:Nat) (bs:List (List UInt8)) (hl:bs.length<2000000) (en:qb1 Go.Proofs.Tryz.prog g=true)
  (hg:∀ s∈bs,ACall Go.Proofs.Tryz.prog g [.str s] [] (fun r L'=>r=.bool (p s)∧L'=[])) :
  ACall Go.Proofs.Tryz.prog 174 [.lst 1 (bs.map qai),.fn g []] [] (fun r L'=>r=.bool (bs.any p)∧L'=[]):=by
 refine acx func174 [] ntmps174 rfl rfl rfl ?_;simp;refine qaj (by kernel_rfl) (qD3 p g bs hl en hg) (by simp) (by simp) ?_;have:=qoQ p bs;simp[this]
end Go.Av.F
end
section
namespace Go.Av.F
open Go Go.Av
open Go.Proofs Go.Proofs.Tryz
attribute [-simp] qdQ hdS qao qae qap
attribute [local simp] tt3 tt4 tt9 tt5 qcp qdc qcW qcV qdb qdL qmU
theorem qxO (p:BS→Bool) (bs:List BS):qxP p bs=qy8 p bs:=rfl
theorem qBS (p:BS→Bool) (g:Nat) (o:Ob) (bs:List BS) (hl:bs.length<2000000) (hB:∀ b∈bs,b.bl.length=8) (ho:∀ ρ,qbH ρ o=o) (hc:clR o.els=true) (en:qb1 Go.Proofs.Tryz.prog g=true)
  (hg:∀ s∈bs,ACall Go.Proofs.Tryz.prog g [.agg (BS.row s),.ptr 1000 0 0] [(1000,o)] (fun r L'=>r=.bool (p s)∧L'=[(1000,o)])) :
  ACall Go.Proofs.Tryz.prog 258 [.lst 11 (bs.map BS.row),.fn g [.ptr 1000 0 0]] [(1000,o)] (fun r L'=>r=.bool (bs.any p)∧L'=[(1000,o)]):=by
 refine acx func258 [] ntmps258 rfl rfl rfl ?_;simp;refine qac [(1000,.whole 1000)] (by kernel_rfl) (qEV p g o bs hl hB ho hc en hg) (by simp) (by simp) (by simp;exact qaa rfl hc) (by simp) (by simp) ?_;rintro r L' ⟨rfl,rfl⟩;refine⟨[],⟨by simp,by simp,by simp,by simp,by simp⟩,?_⟩;have:=qoQ p bs;rw[← qxO]at this;simp[ho,this]
theorem qDW (bs:List BS) (s:BS) (hl:bs.length<2000000) (hB:∀ b∈bs,b.bl.length=8) (hs:s.bl.length=8) :
  ACall Go.Proofs.Tryz.prog 259 [.agg (BS.row s),.ptr 1000 0 0] [(1000,⟨1,[[.lst 11 (bs.map BS.row)]]⟩)] (fun r L'=>r=.bool (!qdE bs bs.length s)∧L'=[(1000,⟨1,[[.lst 11 (bs.map BS.row)]]⟩)]):=by
 refine acx func259 [] ntmps259 rfl rfl rfl ?_;simp[qan _ hs,qbO _ hs];refine qaj (by kernel_rfl) (qA1 bs s hl hB hs) (by simp[bk]) (by simp) ?_;simp
def qcL (bs:List BS):Bool:=decide (bs.length≤6) && qgV bs && !(bs.any fun s=>!qdE bs bs.length s)
theorem qsM (l:List (List UInt8)) (h:l.length=8):qeJ 1 8 (l.map AV.str)=l.map qai:=by
 match l,h with
 | [a,b,c,d,e,f,g,i],_=>rfl
theorem qmQ (l:List (List UInt8)):(l.any fun t=>!qen t)=!l.all qen:=by
 rw[qId]
theorem qkP (bs:List BS) (hl:bs.length<2000000) (hB:∀ b∈bs,b.bl.length=8) (hs:∀ b∈bs,b.name.length<2000000):ACall Go.Proofs.Tryz.prog 181 [bk bs] [] (fun r L'=>r=.bool (qcL bs)∧L'=[]):=by
 obtain⟨res,hres⟩:∃ res,qcL bs=res:=⟨_,rfl⟩;rw[hres];by_cases h0:bs.length≤6
 ·have h0':¬ (6:Int)<bs.length:=by omega
  have h0'':(bs.length:Int)≤6:=by omega
  refine acx func181 [(6,[zI 0,zJ 1 [4] [],zI 2,zI 3,zI 4,zI 5,zI 6,zI 7,zI 8,zJ 9 [1] [],zJ 10 [] [1],zJ 11 [] [1],zI 12,zI 13,zI 14,zJ 15 [] [1],zJ 16 [4] [1],zI 17,zI 18,zI 19,zI 20,zI 21,zJ 22 [4] [],zI 23,zI 24,zI 25,zJ 26 [4] [],zI 27,zI 28,zI 29,zI 30,zI 31,zI 32,zI 33,zI 34])] ntmps181 rfl rfl rfl ?_;simp[bk,h0',h0''];refine qaR (X:=Nat) [1,10,11,12] (fun i=>⟨mkT [(1,.ptr 1 0 0),(10,.lst 11 (bs.map BS.row)),(11,.int .i64 bs.length),(12,.int .i64 i)],qaQ [(1,⟨1,[[.lst 11 (bs.map BS.row)]]⟩)],Us.of [1]⟩) (fun i=>bs.length-i)
   (fun i=>i≤bs.length∧∀ j,j<i→∀ s,bs[j]?=some s→qgE bs j s=true) 0 ⟨by simp,[(1,1)],by simp[qae],by simp[qao,qah]⟩ ?_
  rintro i ⟨hi,ha⟩;by_cases h1:i<bs.length
  ·obtain⟨s,e0⟩:∃ s,bs[i]=s:=⟨_,rfl⟩;have e1:bs[i]?=some s:=by rw[← e0];exact qF3 h1
   have hsm:s∈bs:=qHT e1;have h8:=hB s hsm;have e2:IntKind.i64.wrap ((i:Int)+1)=((i+1:Nat):Int):=by rw[qax _ (by omega)];omega
   have hbad:qgE bs i s=false→res=false:=fun h=>by rw[← hres,qcL,ql6 bs i s e1 h];simp
   have next:qgE bs i s=true→∀ j,j<i+1→∀ s,bs[j]?=some s→qgE bs j s=true:=fun hok j hj y hy=>by
    by_cases hji:j=i
    ·subst hji;rw[e1]at hy;injection hy with hy;subst hy;exact hok
    ·exact ha j (by omega) y hy
   have hfin:qbR s.name=true→qdC bs i s=true→1≤s.kind→s.kind≤2→qgE bs i s=s.bl.all qen:=fun h1 h2 h3 h4=>by
    simp only[qgE,h1,h2,h3,h4,qIe,decide_true];rfl
   simp[h1,e0,e1,qan _ h8,qbO _ h8];refine⟨qeq s,qaj (by kernel_rfl) (qiV s.name (by have:=hs s hsm;omega)) (by simp) (by simp) ?_⟩;cases hn:qbR s.name with
   | false=>simp[hbad (by simp[qgE,hn])]
   | true =>
    have hn':=hn;have hpv:qdC bs i s=false→res=false:=fun h=>hbad (by simp[qgE,h]);have hk:¬ (s.kind=1∨s.kind=2)→res=false:=fun h=>hbad (by
     by_cases hk1:1≤s.kind
     ·have hk2:¬ s.kind≤2:=by omega
      simp[qgE,hk2]
     ·simp[qgE,hk1])
    by_cases hi0:i=0
    ·subst hi0;simp;refine⟨fun g1=>⟨fun g2=>?_,fun g2=>hk (by omega)⟩,fun g1=>?_⟩
     all_goals
      refine qc9 (by kernel_rfl) (qsJ (fun t=>!qen t) 257 s.bl (by omega) (by kernel_rfl) (fun t _=>qAU t)) (by simp[qsM _ h8,qan _ h8];intro _ _;rfl) (by simp) (by simp) ?_;rw[qmQ];cases hb:s.bl.all qen with
      | false=>simp[hbad ((hfin hn' (by simp[qdC]) (by omega) (by omega)).trans hb)]
      | true =>
       simp[show IntKind.i64.wrap 1=1 from rfl];exact qau (0+1) (by omega) ⟨by omega,next ((hfin hn' (by simp[qdC]) (by omega) (by omega)).trans hb)⟩ [(1,1)] (by simp[qae]) (by simp[qao,qah])
    ·obtain⟨m,hm⟩:∃ m,i=m+1:=⟨i-1,by omega⟩;subst hm;obtain⟨q,q0⟩:∃ q,bs[m]=q:=⟨_,rfl⟩;have q1:bs[m]?=some q:=by rw[← q0];exact qF3 (by omega)
     have q2:IntKind.i64.wrap (m:Int)=(m:Int):=by rw[qax _ (by omega)]
     have q3:m<bs.length:=by omega
     have q4:=qan q (hB q (qHT q1));have hbl:(Op.bytesLess s.name q.name || s.name == q.name)=!Op.bytesLess q.name s.name:=qeC _ _;have hbl2:(Op.bytesLess s.name q.name || q.name == s.name)=!Op.bytesLess q.name s.name:=by rw[← hbl,BEq.comm]
     cases hq:Op.bytesLess q.name s.name with
     | false =>
      have hrf:res=false:=hpv (by simp[qdC,q1,hq]);simp[q0,q1,q2,q3,hrf,q4,hbl,hbl2,hq]
     | true =>
      have hop:qdC bs (m+1) s=true:=by simp[qdC,q1,hq]
      have e2':IntKind.i64.wrap ((m:Int)+1+1)=(m:Int)+1+1:=qax _ (by omega);simp[q0,q1,q2,q3,q4,hbl,hbl2,hq];refine⟨fun g1=>⟨fun g2=>?_,fun g2=>hk (by omega)⟩,fun g1=>?_⟩
      all_goals
       refine qc9 (by kernel_rfl) (qsJ (fun t=>!qen t) 257 s.bl (by omega) (by kernel_rfl) (fun t _=>qAU t)) (by simp[qsM _ h8,qan _ h8];intro _ _;rfl) (by simp) (by simp) ?_;rw[qmQ];cases hb:s.bl.all qen with
       | false=>simp[hbad ((hfin hn' hop (by omega) (by omega)).trans hb)]
       | true =>
        simp[e2'];exact qau (m+1+1) (by omega) ⟨by omega,next ((hfin hn' hop (by omega) (by omega)).trans hb)⟩ [(1,1)] (by simp[qae]) (by simp[qao,qah])
  ·have hie:i=bs.length:=by omega
   subst hie;have hok:qgV bs=true:=by
    unfold qgV;rw[qGf];intro j hj;have hj':j<bs.length:=by simpa using hj
    have hx:bs[j]?=some bs[j]:=qF3 hj';rw[hx];exact ha j hj' _ hx
   simp;refine qac [(1000,.whole 1)] (by kernel_rfl) (qBS (fun s=>!qdE bs bs.length s) 259 ⟨1,[[.lst 11 (bs.map BS.row)]]⟩ bs hl hB (by simp) (by simp) (by kernel_rfl) (fun s hsm=>qDW bs s hl hB (hB s hsm))) (by simp) (by simp) (by simp;exact qaa rfl (by simp)) (by simp) (by simp) ?_;rintro r L' ⟨rfl,rfl⟩;refine⟨[],⟨by simp,by simp,by simp,by simp,by simp⟩,?_⟩;have:res=!(bs.any fun s=>!qdE bs bs.length s):=by
    rw[← hres];simp only[qcL,hok,h0,decide_true,qIe]
   simp[this]
 ·have:res=false:=by rw[← hres];simp[qcL,h0]
  have h0':(6:Int)<bs.length:=by omega
  refine acx func181 [(6,[zI 0,zJ 1 [4] [],zI 2,zI 3,zI 4,zI 5,zI 6,zI 7,zI 8,zJ 9 [1] [],zJ 10 [] [1],zJ 11 [] [1],zI 12,zI 13,zI 14,zJ 15 [] [1],zJ 16 [4] [1],zI 17,zI 18,zI 19,zI 20,zI 21,zJ 22 [4] [],zI 23,zI 24,zI 25,zJ 26 [4] [],zI 27,zI 28,zI 29,zI 30,zI 31,zI 32,zI 33,zI 34])] ntmps181 rfl rfl rfl ?_;simp[bk,h0',this]
end Go.Av.F
end
section
namespace Go.Av.F
open Go Go.Av
open Go.Proofs Go.Proofs.Tryz
attribute [-simp] qdQ hdS qao qae qap
attribute [local simp] tt3 tt4 tt9 tt5 qcp qdc qcW qcV qdb qdL qmU
theorem qrC (o1 o2:Ob) (h1:o1.sz=11) (h2:o2.sz=11) (e1 len1 e2 len2:Nat) :
  ACall Go.Proofs.Tryz.prog 367 [.sl 1001 e1 len1,.sl 1000 e2 len2] [(1000,o2),(1001,o1)] (fun r L'=>r=.bool false∧L'=[(1000,o2),(1001,o1)]) :=
 ql3 (tS:=129) (tR:=4) (e:=210) Go.Proofs.Tryz.func367 (by kernel_rfl) (by kernel_rfl) (by kernel_rfl) (by kernel_rfl) qcW rfl qcV (by simp) o1 o2 h1 h2 e1 len1 e2 len2
theorem qff (els:List (List AV)) (k:Nat) (ys:List (List AV)) (h:k≤els.length):(spl els k ys).take (k+ys.length)=els.take k++ys:=by
 unfold spl;rw[← List.append_assoc,qIf (by simp;omega),qGh (by simp;omega)]
theorem qkv (ρ:Nat→Option Plc):∀ {els:List (List AV)},clR els=true→els.map (qb6 ρ)=els
 | [],_=>rfl
 | a::r,h=>by
  simp only[clR,qHm,Bool.and_eq_true]at h;rw[qGs,renL_closed.renL_closedL ρ a h.1,qkv ρ (els:=r) (by simpa [clR]using h.2)]
theorem qqS (els:List (List AV)) (k:Nat) (ys:List (List AV)) (h:k≤els.length):(spl els k ys).take k=els.take k∧(spl els k ys).drop k=ys++els.drop (k+ys.length):=by
 unfold spl;constructor
 ·rw[qIf (by simp;omega),qHj,qIg]
 ·rw[qHg (by simp;omega),qGb (by simp;omega),qGC]
theorem qmc (els rows:List (List AV)) (row:List AV) (i:Nat) (het:els.take rows.length=rows) (hn:rows.length+1≤els.length) (hi:i<rows.length) :
  (spl (spl els (i+1) (rows.drop i)) i [row]).take (rows.length+1)=rows.take i++row::rows.drop i:=by
 obtain⟨h1,h2⟩:=qqS els (i+1) (rows.drop i) (by omega);have h3:(spl els (i+1) (rows.drop i)).take i=rows.take i:=by
  have:((spl els (i+1) (rows.drop i)).take (i+1)).take i=(els.take (i+1)).take i:=by rw[h1]
  rw[qHj,qHj,qHi (by omega)]at this;rw[this]
  conv=>rhs;rw[← het]
  rw[qHj,qHi (by omega)]
 rw[show spl (spl els (i+1) (rows.drop i)) i [row]=(spl els (i+1) (rows.drop i)).take i++([row]++(spl els (i+1) (rows.drop i)).drop (i+1)) from rfl,h3,h2];rw[show rows.take i++([row]++(rows.drop i++els.drop (i+1+(rows.drop i).length)))=(rows.take i++row::rows.drop i)++els.drop (i+1+(rows.drop i).length) by simp];rw[qIf (by simp;omega),qGh (by simp;omega)]
theorem qoO (rows:List (List AV)) (row z:List AV) (i:Nat) (hi:i<rows.length) :
  spl (spl (rows.take i++List.replicate (rows.length+1-i) z) i [row]) (i+1) (rows.drop i)=rows.take i++row::rows.drop i:=by
 have hl:(rows.take i++List.replicate (rows.length+1-i) z).length=rows.length+1:=by simp;omega
 obtain⟨h1,h2⟩:=qqS (rows.take i++List.replicate (rows.length+1-i) z) i [row] (by omega);have hl2:=qbW (rows.take i++List.replicate (rows.length+1-i) z) i [row] (by omega);have h3:(rows.take i++List.replicate (rows.length+1-i) z).take i=rows.take i:=by
  rw[qIf (by simp;omega),qHj,qIg]
 have h4:=qff (rows.take i++List.replicate (rows.length+1-i) z) i [row] (by omega);rw[h3]at h4;simp only[qGk,qHf,qHc]at h4;generalize spl (rows.take i++List.replicate (rows.length+1-i) z) i [row]=X at *
 have h5:X.length=rows.length+1:=by rw[hl2,hl];simp;omega
 unfold spl;rw[h4,qGb (l:=X) (by simp;omega)];simp
def qqf (rows:List (List AV)) (row:List AV) (i:Nat):List (List AV):=rows.take i++row::rows.drop i
def qCH (sz:Nat) (a b:Nat) (rows:List (List AV)) (row:List AV) (i:Nat) (r:AV) (L':List (Nat×Ob)):Prop :=
 ∃ id,(id=1000∨id=a∨id=b)∧r=.sl id 0 (rows.length+1)∧L'=[(id,⟨sz,qqf rows row i⟩)]
theorem qxJ (rows:List (List AV)) (row:List AV) (i:Nat) (hi:i≤rows.length) (hl:rows.length<2000000) (hrow:row.length=11) (hr1:∀ r∈rows,r.length=11) (ho:row.all qdn=true) (hro:rows.all (fun r=>r.all qdn)=true)
  (hc:clL row=true) (hrc:clR rows=true) :
  ACall Go.Proofs.Tryz.prog 332 [.sl 1000 0 rows.length,.int .i64 i,.sl 1001 0 1] [(1000,⟨11,rows⟩),(1001,⟨11,[row]⟩)] (qCH 11 25 40 rows row i):=by
 refine ACall.weak (R:=fun r L'=>∃ L2,wkL L' L2∧qCH 11 25 40 rows row i (unc r) L2) (ACall.cap (by simp) fun cap hcap=>?_) (fun r L' h=>h);obtain⟨els,hels⟩:∃ els,(qcP ⟨11,rows⟩ cap)=⟨11,els⟩:=⟨_,rfl⟩;have hel:els.length=cap:=by
  have:=congrArg (fun o:Ob=>o.els.length) hels;simp[qcP]at this;omega
 have het:els.take rows.length=rows:=by
  have:=congrArg (fun o:Ob=>o.els.take rows.length) hels;simp[qcP]at this;exact this.symm
 have hcl:clR els=true:=by
  have:=congrArg (fun o:Ob=>clR o.els) hels;simp only[qcP]at this;rw[← this];simp only[clR,qHO,Bool.and_eq_true]at hrc ⊢;refine⟨hrc,?_⟩;rw[qGf];intro x hx;rw[qHk hx];rfl
 have hm:∀ ρ,els.map (qb6 ρ)=els:=fun ρ=>qkv ρ hcl;have hm2:∀ ρ,qb6 ρ row=row:=fun ρ=>renL_closed.renL_closedL ρ row hc;rw[hels];clear hels;have w1:IntKind.i64.wrap ((rows.length:Int)+1)=(rows.length:Int)+1:=qax _ (by omega);refine acx func332 [(11,[zI 0,zI 1,zI 2,zI 3,zJ 4 [40,1000] [],zJ 5 [] [40,1000],zJ 6 [] [40,1000],zJ 7 [40,1000] [40,1000],zI 8]),(15,[zI 0,zI 1,zI 2,zI 3,zJ 4 [1000] [],zJ 5 [] [1000],zJ 6 [] [1000],zJ 7 [1000] [1000],zI 8])] ntmps332 rfl rfl rfl ?_;have e1:rows.take rows.length=rows:=qHW;by_cases h1:i=rows.length
 ·subst h1;by_cases h2:rows.length+1≤cap
  ·simp[h2,hrow,hel,hcap];refine⟨by simpa using ho,[(1000,⟨11,spl els rows.length [row]⟩)],by simp,_,.cons 1000 _ (rows.length+1) .nil,1000,.inl rfl,rfl,?_⟩;have:=qff els rows.length [row] (by omega);simp only[qGk,qHf,qHc]at this;simp[qqf,this,het]
  ·simp[h2,hrow,hel,hcap,het];refine⟨by omega,[(25,⟨11,rows++[row]⟩)],by simp,_,.cons 25 _ (rows.length+1) .nil,25,.inr (.inl rfl),rfl,?_⟩;rw[qGh (by simp)];simp[qqf]
 ·have hi':i<rows.length:=by omega
  have h1':¬ (i:Int)=rows.length:=by omega
  have w2:IntKind.i64.wrap ((i:Int)+1)=((i+1:Nat):Int):=by rw[qax _ (by omega)];omega
  have w4:IntKind.i64.wrap ((rows.length:Int)+1-(i:Int))=((rows.length+1-i:Nat):Int):=by rw[qax _ (by omega)];omega
  have hall:∀ x∈rows,∀ y∈x,qdn y=true:=fun x hx y hy=>qGf.1 (qGf.1 hro x hx) y hy;have g1:rows.length+1≤cap→min (rows.length+1-i) (min (cap-i) (rows.length-i))=rows.length-i:=fun _=>by omega
  have g2:min 1 (rows.length+1-i)=1:=by omega
  have g5:(els.drop i).take (rows.length-i)=rows.drop i:=by
   conv=>rhs;rw[← het]
   rw[qHh]
  have g3:List.take (rows.length-i) (List.take (rows.length+1-i) (List.drop i els))=rows.drop i:=by
   rw[qHj,qHi (by omega),g5]
  by_cases h2:rows.length+1≤cap
  ·have g1:=g1 h2;have h2':¬ (cap:Int)<(rows.length:Int)+1:=by omega
   simp[h1,h1',h2,h2',hrow,hel,hcap,w1,w2,w4];refine⟨by omega,by omega,⟨by omega,by omega⟩,?_⟩;refine qac [(1000,.whole 1000),(1001,.whole 1001)] (by kernel_rfl) (qrC ⟨11,[row]⟩ ⟨11,els⟩ rfl rfl 0 1 (i+1) (rows.length-i)) (by simp) (by simp) (by simp;exact⟨qaa rfl hcl,qaa rfl (by simp[clR,hc])⟩) (by simp) (by simp) ?_;rintro r L' ⟨rfl,rfl⟩;refine⟨[],⟨by simp,by simp,by simp,by simp,by simp⟩,?_⟩;simp[hm,hm2,w2,hel,hrow];rw[g1,g2,g3,qGh (by simp:[row].length≤1)];have g4:=qbW els (i+1) (rows.drop i) (by omega);refine⟨⟨by omega,by omega,by omega⟩,⟨by omega,by omega⟩,⟨by omega,by omega,fun x hx y hy=>hall x (qIh hx) y hy⟩,⟨by omega,by omega⟩,⟨by simp at g4;omega,fun x hx y hy=>?_⟩,
    [(1000,⟨11,spl (spl els (i+1) (rows.drop i)) i [row]⟩)],by simp,_,.cons 1000 _ (rows.length+1) .nil,1000,.inl rfl,rfl,?_⟩
   ·have:x=row:=by simpa using hx
    subst this;exact qGf.1 ho y hy
   ·rw[qmc els rows row i het (by omega) hi'];rfl
  ·have h2':(cap:Int)<(rows.length:Int)+1:=by omega
   simp[h1,h1',h2,h2',hrow,hel,hcap,w1,w2,w4];have c1:cap=rows.length:=by omega
   subst c1;have g6:min (rows.length-i) (min (rows.length-i) (i+(rows.length+1-i)-(i+1)))=rows.length-i:=by omega
   have g7:List.take (rows.length-i) (rows.drop i)=rows.drop i:=qGh (by simp);have g8:i+(rows.length+1-i)=rows.length+1:=by omega
   have g9:els.take i=rows.take i:=by
    conv=>rhs;rw[← het]
    rw[qHj,qHi (by omega)]
   rw[g6,g2,g5,g7,qGh (by simp:[row].length≤1),g8,g9,qoO rows row _ i hi'];refine⟨by omega,by omega,⟨by omega,by omega,by omega,by omega⟩,⟨by omega,fun x hx y hy=>?_⟩,⟨by omega,by omega⟩,by omega,⟨by omega,?_,fun x hx y hy=>hall x (qIh hx) y hy⟩,
    [(40,⟨11,rows.take i++row::rows.drop i⟩)],by simp,_,.cons 40 _ (rows.length+1) .nil,40,.inr (.inr rfl),rfl,?_⟩
   ·have:x=row:=by simpa using hx
    subst this;exact qGf.1 ho y hy
   ·rw[qbW _ _ _ (by simp;omega)];simp;omega
   ·have g10:(rows.take i++row::rows.drop i).take (rows.length+1)=rows.take i++row::rows.drop i:=qGh (by simp;omega);simp only[g10];rfl
end Go.Av.F
end
section
namespace Go.Av.F
open Go Go.Av
open Go.Proofs Go.Proofs.Tryz
attribute [-simp] qdQ hdS qao qae qap
attribute [local simp] tt3 tt4 tt9 tt5 qcp qdc qcW qcV qdb qdL qmU
theorem qo3 (els rows:List (List AV)) (z:List (List AV)) (i j:Nat) (het:els.take rows.length=rows) (hn:rows.length≤els.length) (hij:i<j) (hj:j≤rows.length) :
  (spl (spl els i (rows.drop j)) (i+(rows.length-j)) z).take (i+(rows.length-j))=rows.take i++rows.drop j:=by
 have h1:=qff els i (rows.drop j) (by omega);have h2:=qbW els i (rows.drop j) (by omega);obtain⟨h3,_⟩:=qqS (spl els i (rows.drop j)) (i+(rows.length-j)) z (by rw[h2];simp;omega);rw[h3];simp only[qFU]at h1;rw[h1]
 congr 1
 conv=>rhs;rw[← het]
 rw[qHj,qHi (by omega)]
theorem qyh (rows:List (List AV)) (i j:Nat) (hij:i<j) (hj:j≤rows.length) (hl:rows.length<2000000) (hr1:∀ r∈rows,r.length=11) (hro:rows.all (fun r=>r.all qdn)=true) :
  ACall Go.Proofs.Tryz.prog 285 [.sl 1000 0 rows.length,.int .i64 i,.int .i64 j] [(1000,⟨11,rows⟩)] (fun r L'=>r=.sl 1000 0 (i+(rows.length-j))∧L'=[(1000,⟨11,rows.take i++rows.drop j⟩)]):=by
 refine ACall.weak (R:=fun r L'=>∃ L2,wkL L' L2∧unc r=.sl 1000 0 (i+(rows.length-j))∧L2=[(1000,⟨11,rows.take i++rows.drop j⟩)]) (ACall.cap (by simp) fun cap hcap=>?_) (fun r L' h=>h);obtain⟨els,hels⟩:∃ els,(qcP ⟨11,rows⟩ cap)=⟨11,els⟩:=⟨_,rfl⟩;have hel:els.length=cap:=by
  have:=congrArg (fun o:Ob=>o.els.length) hels;simp[qcP]at this;omega
 have het:els.take rows.length=rows:=by
  have:=congrArg (fun o:Ob=>o.els.take rows.length) hels;simp[qcP]at this;exact this.symm
 rw[hels];clear hels;have g5:(els.drop j).take (rows.length-j)=rows.drop j:=by
  conv=>rhs;rw[← het]
  rw[qHh]
 have hall:∀ x∈rows,∀ y∈x,qdn y=true:=fun x hx y hy=>qGf.1 (qGf.1 hro x hx) y hy;have h1:¬ i=j:=by omega
 have h1':¬ (i:Int)=j:=by omega
 have h2:i+(rows.length-j)≤cap:=by omega
 refine acx func285 [(5,[zI 0,zI 1,zJ 2 [1000] [],zJ 3 [] [1000],zJ 4 [] [1000],zJ 5 [1000] [1000],zI 6,zI 7])] ntmps285 rfl rfl rfl ?_;simp[h1,h1',hel,g5,h2,hcap];have t1:((i:Int)+((rows.length-j:Nat):Int)).toNat=i+(rows.length-j):=by omega
 have h3:=qbW els i (rows.drop j) (by omega);rw[t1];refine⟨⟨by omega,by omega⟩,by omega,by omega,⟨by omega,by omega,fun x hx y hy=>hall x (qIh hx) y hy⟩,⟨by omega,by omega⟩,?_,[(1000,⟨11,spl (spl els i (rows.drop j)) (i+(rows.length-j)) (List.replicate (rows.length-(i+(rows.length-j))) _)⟩)],⟨rfl,trivial⟩,?_⟩
 ·rw[h3];simp;omega
 ·have:=wkL.cons 1000 ⟨11,spl (spl els i (rows.drop j)) (i+(rows.length-j)) (List.replicate (rows.length-(i+(rows.length-j))) [.str [],.int .i64 0,.str [],.str [],.str [],.str [],.str [],.str [],.str [],.str [],.str []])⟩ (i+(rows.length-j)) .nil;simp only[qo3 els rows _ i j het (by omega) hij hj]at this;exact this
end Go.Av.F
end
section
namespace Go.Av.F
open Go Go.Av
open Go.Proofs Go.Proofs.Tryz
attribute [-simp] qdQ hdS qao qae qap
attribute [local simp] tt3 tt4 tt9 tt5 qcp qdc qcW qcV qdb qdL qmU
theorem qyy (bs:List BS) (hl:bs.length<2000000):ACall Go.Proofs.Tryz.prog 281 [.lst 11 (bs.map BS.row)] [] (fun r L'=>r=.sl 7 0 bs.length∧L'=[(7,qba bs)]):=by
 refine ACall.nils (id:=7) (sz:=11) (qBZ bs hl) (by simp) ?_;rintro r L' (⟨rfl,rfl,rfl⟩ | ⟨rfl,rfl⟩)
 ·exact .inr ⟨rfl,rfl,rfl⟩
 ·exact .inl ⟨rfl,rfl⟩
theorem qxt (bs:List BS) (hl:bs.length<2000000):ACall Go.Proofs.Tryz.prog 216 [bk bs] [] (fun r L'=>r=.agg [.sl 900 0 bs.length]∧L'=[(900,qba bs)]):=by
 refine acx func216 [] ntmps216 rfl rfl rfl ?_;simp[bk];refine qac [] (by kernel_rfl) (qyy bs hl) (by simp) (by simp) (by simp) (by simp) (by simp) ?_;rintro r L' ⟨rfl,rfl⟩;refine⟨[(7,900)],⟨by simp,by simp,by simp,by simp,by simp⟩,?_⟩;simp
def qc7 (bs:List BS) (name:List UInt8):Int:=if qbR name=false then 5 else if atB bs name=true then 2 else if bs.length=6 then 4 else 0
theorem quv (bs:List BS) (name:List UInt8) (hl:bs.length<2000000) (hB:∀ b∈bs,b.bl.length=8) (hS:Srt bs) (hn:name.length<2000000) :
  ACall Go.Proofs.Tryz.prog 331 [bk bs,.str name] [] (fun r L'=>r=.int .i64 (qc7 bs name)∧L'=[]):=by
 refine acx func331 [] ntmps331 rfl rfl rfl ?_;simp[bk];refine qaj (by kernel_rfl) (qot bs name hl hB hS) (by simp[bk]) (by simp) ?_;simp;refine qaj (by kernel_rfl) (qiV name hn) (by simp) (by simp) ?_;cases h1:qbR name with
 | false=>simp[qc7,h1]
 | true =>
  cases h2:atB bs name with
  | true=>simp[qc7,h1,h2]
  | false =>
   by_cases h3:bs.length=6
   ·simp[qc7,h1,h2,h3]
   ·have h3':¬ (bs.length:Int)=6:=by omega
    simp[qc7,h1,h2,h3,h3']
@[simp] theorem qCh (ρ:Nat→Option Plc):(qb6 ρ ∘ BS.row)=BS.row:=funext fun b=>qrh ρ b
def qbY (id n:Nat):Ob:=⟨1,[[.sl id 0 n]]⟩
def qbI (id:Nat) (bs:List BS):List (Nat×Ob):=[(1000,qbY id bs.length),(id,qba bs)]
def qFc (xs:List Nat) (res:List BS×Int) (r:AV) (L':List (Nat×Ob)):Prop:=∃ id,id∈xs∧r=.int .i64 res.2∧L'=qbI id res.1
theorem qEN (bs:List BS) (s:BS) (hl:bs.length<2000000) (hB:∀ b∈bs,b.bl.length=8) (hS:Srt bs) (hs:s.bl.length=8) (hn:s.name.length<2000000) :
  ACall Go.Proofs.Tryz.prog 282 [.ptr 1000 0 0,.agg (BS.row s)] (qbI 1001 bs) (qFc [1001,901] (qfp bs s)):=by
 refine acx func282 [(1,[zI 0,zI 1,zJ 2 [1000] [],zJ 3 [] [1000],zJ 4 [3] [1000],zI 5,zI 6]),(3,[zI 0,zI 1,zJ 2 [1000] [],zJ 3 [] [1000],zJ 4 [3] [1000],zI 5,zI 6,zI 7,zI 8,zI 9,zI 10]),(4,[zI 0,zI 1,zI 2,zI 3,zJ 4 [1000] [],zJ 5 [] [1000],zJ 6 [3] [1000],zJ 7 [] [1000],zI 8,zI 9,zI 10,zI 11])] ntmps282 rfl rfl rfl ?_ (ha:=by simp[qbI]) (hL:=by simp[qbI]);simp[qbI,qbY,qan _ hs];refine qc9 (by kernel_rfl) (quv bs s.name hl hB hS hn) (by simp[bk]) (by simp) (by simp) ?_;by_cases h0:qc7 bs s.name=0
 ·have hk:atP bs s.name≤bs.length:=by unfold atP;exact(List.takeWhile_sublist _).length_le
  have hnew:qfp bs s=(bs.take (atP bs s.name)++s::bs.drop (atP bs s.name),0):=by
   unfold qc7 at h0;unfold qfp;split at h0
   ·cases h0
   ·split at h0
    ·cases h0
    ·split at h0
     ·cases h0
     ·rename_i h1 h2 h3;rw[if_neg h1,if_neg h2,if_neg h3]
  rw[hnew];simp[h0];refine qc9 (by kernel_rfl) (qot bs s.name hl hB hS) (by simp[bk]) (by simp) (by simp) ?_;generalize atP bs s.name=k at hk;simp[qan _ hs,qbO _ hs];have hall:∀ r∈bs.map BS.row,r.length=11:=fun r hr=>by
   obtain⟨b,hb,rfl⟩:=qGt.1 hr;exact qan b (hB b hb)
  have hone:(bs.map BS.row).all (fun r=>r.all qdn)=true:=qGf.2 fun r hr=>qlo bs r hr;have hI:=qxJ (bs.map BS.row) (BS.row s) k (by simpa using hk) (by simpa using hl) (qan s hs) hall (qnb s) hone (qoc s) (qsL bs);simp only[qG4]at hI;refine qac [(1000,.whole 1001),(1001,.whole 32)] (by kernel_rfl) hI (by simp) (by simp) (by simp[qba];exact⟨qaa rfl (by simp),qaa rfl (by simp[clR])⟩) (by simp) (by simp) ?_;have hrows:qqf (bs.map BS.row) (BS.row s) k=(bs.take k++s::bs.drop k).map BS.row:=by
   simp[qqf]
  have hlen:(bs.take k++s::bs.drop k).length=bs.length+1:=by simp;omega
  rintro r L' ⟨id,hid,rfl,rfl⟩;rw[hrows];simp only[qG4];generalize bs.take k++s::bs.drop k=bs' at hlen;rcases hid with rfl | rfl | rfl
  ·refine⟨[],⟨by simp,by simp,by simp,by simp,by simp⟩,?_⟩;simp;exact⟨qbI 1001 bs',by simp[qbI,qbY,qba,hlen],1001,by simp,rfl,rfl⟩
  ·refine⟨[(25,901)],⟨by simp,by simp,by simp,by simp,by simp⟩,?_⟩;simp;exact⟨qbI 901 bs',by simp[qbI,qbY,qba,hlen],901,by simp,rfl,rfl⟩
  ·refine⟨[(40,901)],⟨by simp,by simp,by simp,by simp,by simp⟩,?_⟩;simp;exact⟨qbI 901 bs',by simp[qbI,qbY,qba,hlen],901,by simp,rfl,rfl⟩
 ·have hnew:qfp bs s=(bs,qc7 bs s.name):=by
   unfold qc7 qfp;unfold qc7 at h0;split
   ·rfl
   ·split
    ·rfl
    ·split
     ·rfl
     ·rename_i h1 h2 h3;rw[if_neg h1,if_neg h2,if_neg h3]at h0;exact absurd rfl h0
  rw[hnew];simp[h0];exact⟨qbI 1001 bs,by simp[qbI,qbY],1001,by simp,rfl,rfl⟩
end Go.Av.F
end
section
namespace Go.Av.F
open Go Go.Av
open Go.Proofs Go.Proofs.Tryz
attribute [-simp] qdQ hdS qao qae qap
attribute [local simp] tt3 tt4 tt9 tt5 qcp qdc qcW qcV qdb qdL qmU
def qrE (o:BO):Ob:=⟨5,[BO.row o]⟩
@[simp] theorem qFa (ρ:Nat→Option Plc) (o:BO):qb6 ρ (BO.row o)=BO.row o:=by simp[BO.row]
@[simp] theorem qtM (ρ:Nat→Option Plc) (o:BO):qbH ρ (qrE o)=qrE o:=by simp[qrE]
theorem qxy (o:BO):clR (qrE o).els=true:=by simp[qrE,clR,BO.row]
theorem qEx (o:BO) (x:BS) (hx:x.bl.length=8):ACall Go.Proofs.Tryz.prog 284 [.agg (BS.row x),.ptr 1000 0 0] [(1000,qrE o)] (fun r L'=>r=.bool (x.frm == o.a)∧L'=[(1000,qrE o)]):=by
 refine acx func284 [] ntmps284 rfl rfl rfl ?_;simp[qrE,BO.row,qan _ hx]
theorem qFt (bs:List BS) (o:BO) (hl:bs.length<2000000) (hB:∀ b∈bs,b.bl.length=8) (hS:Srt bs) (ho:o.a.length<2000000∧o.b.length<2000000) :
  ACall Go.Proofs.Tryz.prog 217 [.ptr 1000 0 0,.agg (BO.row o)] (qbI 1001 bs) (qFc [1001,902] (doB bs o)):=by
 refine acx func217 [(3,[zI 0,zI 1,zJ 2 [1000] [],zJ 3 [] [1000],zJ 4 [3] [1000],zI 5,zI 6,zI 7,zI 8,zI 9,zI 10]),(25,[zI 0,zI 1,zJ 2 [3] [],zJ 3 [] [3],zJ 4 [3] [3],zJ 5 [] [3],zJ 6 [] [3],zI 7,zI 8]),(33,[zI 0,zI 1,zJ 2 [3] [],zJ 3 [] [3],zJ 4 [] [3],zJ 5 [3] [3],zJ 6 [] [3],zJ 7 [] [3],zJ 8 [] [3],zJ 9 [1001] [3],zI 10,zI 11,zI 12]),(10,[zI 0,zI 1,zJ 2 [1000] [],zJ 3 [] [1000],zJ 4 [3] [1000],zI 5,zI 6,zI 7,zI 8,zI 9,zI 10]),(13,[zI 0,zI 1,zI 2,zJ 3 [1001] [],zI 4,zI 5,zI 6,zI 7,zI 8,zJ 9 [1000] [],zJ 10 [] [1000],zJ 11 [1001] [],zI 12,zJ 13 [1001] [],zI 14,zI 15,zI 16,zI 17,zI 18,zI 19,zJ 20 [1000] [],zJ 21 [] [1000],zJ 22 [1001] [],zI 23,zJ 24 [1001] [],zJ 25 [] [1000,1001],zJ 26 [3] [1000,1001],zI 27,zI 28,zI 29])] ntmps217 rfl rfl rfl ?_ (ha:=by simp[qbI]) (hL:=by simp[qbI]);by_cases g1:o.kind=1
 ·have f1:doB bs o=qfp bs ⟨o.a,1,[],zbl⟩:=by simp[doB,g1]
  rw[f1];have hc:=qEN bs ⟨o.a,1,[],zbl⟩ hl hB hS rfl ho.1;generalize qfp bs ⟨o.a,1,[],zbl⟩=res at hc;simp[qbI,qbY,BO.row,g1];refine qac [(1000,.whole 1000),(1001,.whole 1001)] (by kernel_rfl) hc (by simp[BS.row,zbl]) (by simp) (by simp[qbI,qbY,qba];exact⟨.inr ⟨_,_,rfl,rfl,by simp⟩,qaa rfl (by simp)⟩) (by simp[qbI]) (by simp) ?_;rintro r L' ⟨id,hid,rfl,rfl⟩;simp only[qHq,qHz,or_false]at hid;rcases hid with rfl | rfl
  ·refine⟨[],⟨by simp[qbI],by simp,by simp,by simp[qbI],by simp⟩,?_⟩;simp[qbI,qbY];exact⟨qbI 1001 res.1,by simp[qbI,qbY],1001,by simp,rfl,rfl⟩
  ·refine⟨[(901,902)],⟨by simp[qbI],by simp,by simp,by simp[qbI],by simp⟩,?_⟩;simp[qbI,qbY];exact⟨qbI 902 res.1,by simp[qbI,qbY],902,by simp,rfl,rfl⟩
 simp[qbI,qbY,BO.row,g1];refine qc9 (by kernel_rfl) (qot bs o.a hl hB hS) (by simp[bk]) (by simp) (by simp) ?_;simp;refine qaj (by kernel_rfl) (qkc o.kind 1 6) (by simp) (by simp) ?_;by_cases g2:1≤o.kind∧o.kind≤6;rotate_left
 ·have f1:doB bs o=(bs,5):=by
   have:o.kind<1∨6<o.kind:=by omega
   simp[doB,g1,this]
  have g2':(decide (1≤o.kind) && decide (o.kind≤6))=false:=by simp;omega
  rw[g2',f1];simp;exact⟨qbI 1001 bs,by simp[qbI,qbY],1001,by simp,rfl,rfl⟩
 have g2':(decide (1≤o.kind) && decide (o.kind≤6))=true:=by simp;omega
 have g2n:¬ (o.kind<1∨6<o.kind):=by omega
 rw[g2'];cases h1:atB bs o.a with
 | false =>
  have f1:doB bs o=(bs,1):=by simp[doB,g1,g2n,h1]
  rw[f1];simp;exact⟨qbI 1001 bs,by simp[qbI,qbY],1001,by simp,rfl,rfl⟩
 | true =>
  obtain⟨t,ht,htn⟩:=qda h1;obtain⟨k,hk⟩:∃ k,atP bs o.a=k:=⟨_,rfl⟩;rw[hk]at ht;have hkl:=(qGy.1 ht).1;have hk0:bs[k]=t:=(qGy.1 ht).2;have htm:=qHT ht;have ht8:=hB t htm;have hall:∀ r∈bs.map BS.row,r.length=11:=fun r hr=>by
   obtain⟨b,hb,rfl⟩:=qGt.1 hr;exact qan b (hB b hb)
  have hone:(bs.map BS.row).all (fun r=>r.all qdn)=true:=qGf.2 fun r hr=>qlo bs r hr;simp[hk,hkl];have t8:List.take 8 (List.map AV.str t.bl)=t.bl.map AV.str:=qGh (by simp[ht8]);have m8:min 8 t.bl.length=8:=by omega
  by_cases g4:o.kind=2
  ·have f1:doB bs o=qgW bs k:=by simp[doB,h1,hk,ht,g4]
   have f2:qgW bs k=if bs.any (fun b=>b.frm == o.a)=true then (bs,6) else (bs.take k++bs.drop (k+1),0):=by simp only[qgW,ht,htn]
   have e2:IntKind.i64.wrap ((k:Int)+1)=((k+1:Nat):Int):=by rw[qax _ (by omega)];omega
   simp[g4];refine qaS [(1000,.whole 3)] (by kernel_rfl) (qBS (fun x=>x.frm == o.a) 284 (qrE o) bs hl hB (fun ρ=>qtM ρ o) (qxy o) (by kernel_rfl) (fun x hx=>qEx o x (hB x hx))) (by simp) (by simp) (by simp[qrE];exact qaa (by simp[BO.row,g4]) (by simp[clR])) (by simp) (by simp) ?_;rintro r L' ⟨rfl,rfl⟩;refine⟨by simp,by simp[qrE,BO.row],[],⟨by simp,by simp,by simp,by simp,by simp⟩,?_⟩;cases hany:bs.any (fun b=>b.frm == o.a)with
   | true =>
    have f3:doB bs o=(bs,6):=by rw[f1,f2,hany];rfl
    rw[f3];simp;exact⟨qbI 1001 bs,by simp[qbI,qbY],1001,by simp,rfl,rfl⟩
   | false =>
    have f3:doB bs o=(bs.take k++bs.drop (k+1),0):=by rw[f1,f2,hany];rfl
    rw[f3];simp[e2];have hD:=qyh (bs.map BS.row) k (k+1) (by omega) (by simp;omega) (by simpa using hl) hall hone;simp only[qG4]at hD;refine qac [(1000,.whole 1001)] (by kernel_rfl) hD (by simp) (by simp) (by simp[qba];exact qaa rfl (by simp)) (by simp) (by simp) ?_;rintro r L' ⟨rfl,rfl⟩;refine⟨[],⟨by simp,by simp,by simp,by simp,by simp⟩,?_⟩;simp;exact⟨qbI 1001 (bs.take k++bs.drop (k+1)),by simp[qbI,qbY,qba];omega,1001,by simp,rfl,rfl⟩
  by_cases g5:o.kind=3
  ·have f1:doB bs o=qhv bs k o:=by simp[doB,h1,hk,ht,g5]
   rw[f1];simp[g4,g5];refine qaj (by kernel_rfl) (qoN o.i) (by simp) (by simp) ?_;by_cases p1:0≤o.i∧o.i≤7;rotate_left
   ·have p1':(decide (0≤o.i) && decide (o.i≤7))=false:=by simp;omega
    have p2:qhv bs k o=(bs,5):=by simp only[qhv,ht];rw[if_pos (by omega)]
    rw[p1',p2];simp;exact⟨qbI 1001 bs,by simp[qbI,qbY],1001,by simp,rfl,rfl⟩
   have p1':(decide (0≤o.i) && decide (o.i≤7))=true:=by simp;omega
   by_cases p3:24<o.text.length
   ·have p3':(24:Int)<o.text.length:=by omega
    have p2:qhv bs k o=(bs,5):=by simp only[qhv,ht];rw[if_pos (by omega)]
    rw[p1',p2];simp[p3'];exact⟨qbI 1001 bs,by simp[qbI,qbY],1001,by simp,rfl,rfl⟩
   have p3':¬ (24:Int)<o.text.length:=by omega
   rw[p1'];by_cases p4:t.kind=1
   ·have p2:qhv bs k o=(bs.set k { t with bl:=t.bl.set o.i.toNat o.text },0):=by simp only[qhv,ht];rw[if_neg (by omega),if_neg (by omega)]
    rw[p2];simp[p3',hkl,hk0,ht,p4,qan _ ht8];rw[qku t o.i.toNat o.text (by omega)];refine⟨⟨by omega,by omega⟩,by omega,qbI 1001 (bs.set k { t with bl:=t.bl.set o.i.toNat o.text }),?_,1001,by simp,rfl,by rw[← p4]⟩;simp[qbI,qbY,qba,qH5]
   ·have p2:qhv bs k o=(bs,3):=by simp only[qhv,ht];rw[if_neg (by omega),if_pos p4]
    rw[p2];simp[p3',hkl,hk0,ht,p4,qan _ ht8];exact⟨qbI 1001 bs,by simp[qbI,qbY],1001,by simp,rfl,rfl⟩
  by_cases g6:o.kind=6
  ·have f1:doB bs o=qcS bs k o.b:=by simp[doB,h1,hk,ht,g6]
   rw[f1];simp[g4,g5,g6];refine qc9 (by kernel_rfl) (qot bs o.b hl hB hS) (by simp[bk]) (by simp) (by simp) ?_;cases q1:atB bs o.b with
   | false =>
    have q2:qcS bs k o.b=(bs,1):=by simp[qcS,ht,q1]
    rw[q2];simp;exact⟨qbI 1001 bs,by simp[qbI,qbY],1001,by simp,rfl,rfl⟩
   | true =>
    obtain⟨u,hu,hun⟩:=qda q1;obtain⟨j,hj⟩:∃ j,atP bs o.b=j:=⟨_,rfl⟩;rw[hj]at hu;have hjl:=(qGy.1 hu).1;have hj0:bs[j]=u:=(qGy.1 hu).2;have hu8:=hB u (qHT hu);by_cases q3:t.kind=1
    ·by_cases q4:u.kind=2
     ·by_cases q5:u.frm=o.a
      ·have q2:qcS bs k o.b=(bs.set k { t with bl:=u.bl },0):=by simp[qcS,ht,q1,hj,hu,q3,q4,q5,htn]
       rw[q2];simp[hj,hkl,hk0,ht,hu,hjl,hj0,qan _ ht8,qan _ hu8,q3,q4,q5];have f2:List.take 8 (List.map AV.str u.bl)=u.bl.map AV.str:=qGh (by simp[hu8]);have f3:List.take 3 t.row++(u.bl.map .str++List.drop (3+min 8 u.bl.length) t.row)=BS.row { t with bl:=u.bl }:=by
        rw[show 3+min 8 u.bl.length=11 by omega,qhW _ ht8,qH6,qri t u ht8 hu8]
       rw[f2,f3];refine⟨⟨by omega,by simp⟩,qbI 1001 (bs.set k { t with bl:=u.bl }),?_,1001,by simp,rfl,by rw[← q3]⟩;simp[qbI,qbY,qba,qH5]
      ·have q2:qcS bs k o.b=(bs,3):=by simp[qcS,ht,q1,hj,hu,q5,htn]
       rw[q2];simp[hj,hkl,hk0,ht,hu,hjl,hj0,qan _ ht8,qan _ hu8,q3,q4,q5];exact⟨qbI 1001 bs,by simp[qbI,qbY],1001,by simp,rfl,rfl⟩
     ·have q2:qcS bs k o.b=(bs,3):=by simp[qcS,ht,q1,hj,hu,q4]
      rw[q2];simp[hj,hkl,hk0,ht,hu,hjl,hj0,qan _ ht8,qan _ hu8,q3,q4];exact⟨qbI 1001 bs,by simp[qbI,qbY],1001,by simp,rfl,rfl⟩
    ·have q2:qcS bs k o.b=(bs,3):=by simp[qcS,ht,q1,hj,hu,q3]
     rw[q2];simp[hj,hkl,hk0,ht,hu,hjl,hj0,qan _ ht8,qan _ hu8,q3];exact⟨qbI 1001 bs,by simp[qbI,qbY],1001,by simp,rfl,rfl⟩
  by_cases g7:o.kind=5
  ·by_cases g8:t.kind=2
   ·have f1:doB bs o=qfp bs ⟨o.b,1,t.name,t.bl⟩:=by simp[doB,h1,hk,ht,g7,g8]
    have hc:=qEN bs ⟨o.b,1,t.name,t.bl⟩ hl hB hS ht8 ho.2;rw[f1];generalize qfp bs ⟨o.b,1,t.name,t.bl⟩=res at hc;rw[htn]at hc;simp[g4,g5,g6,g7,g8,hkl,hk0,ht,qan _ ht8,m8,t8];refine qac [(1000,.whole 1000),(1001,.whole 1001)] (by kernel_rfl) hc (by simp[BS.row]) (by simp) (by simp[qbI,qbY,qba];exact⟨.inr ⟨_,_,rfl,rfl,by simp⟩,qaa rfl (by simp)⟩) (by simp[qbI]) (by simp) ?_;rintro r L' ⟨id,hid,rfl,rfl⟩;simp only[qHq,qHz,or_false]at hid;rcases hid with rfl | rfl
    ·refine⟨[],⟨by simp[qbI],by simp,by simp,by simp[qbI],by simp⟩,?_⟩;simp[qbI,qbY];exact⟨qbI 1001 res.1,by simp[qbI,qbY],1001,by simp,rfl,rfl⟩
    ·refine⟨[(901,902)],⟨by simp[qbI],by simp,by simp,by simp[qbI],by simp⟩,?_⟩;simp[qbI,qbY];exact⟨qbI 902 res.1,by simp[qbI,qbY],902,by simp,rfl,rfl⟩
   ·have f1:doB bs o=(bs,3):=by simp[doB,h1,hk,ht,g7,g8]
    rw[f1];simp[g4,g5,g6,g7,g8,hkl,hk0,ht,qan _ ht8,m8,t8];exact⟨qbI 1001 bs,by simp[qbI,qbY],1001,by simp,rfl,rfl⟩
  ·have g7':o.kind=4:=by omega
   by_cases g8:t.kind=1
   ·have f1:doB bs o=qfp bs ⟨o.b,2,t.name,t.bl⟩:=by simp[doB,h1,hk,ht,g7',g8]
    have hc:=qEN bs ⟨o.b,2,t.name,t.bl⟩ hl hB hS ht8 ho.2;rw[f1];generalize qfp bs ⟨o.b,2,t.name,t.bl⟩=res at hc;rw[htn]at hc;simp[g4,g5,g6,g7,g7',g8,hkl,hk0,ht,qan _ ht8,m8,t8];refine qac [(1000,.whole 1000),(1001,.whole 1001)] (by kernel_rfl) hc (by simp[BS.row]) (by simp) (by simp[qbI,qbY,qba];exact⟨.inr ⟨_,_,rfl,rfl,by simp⟩,qaa rfl (by simp)⟩) (by simp[qbI]) (by simp) ?_;rintro r L' ⟨id,hid,rfl,rfl⟩;simp only[qHq,qHz,or_false]at hid;rcases hid with rfl | rfl
    ·refine⟨[],⟨by simp[qbI],by simp,by simp,by simp[qbI],by simp⟩,?_⟩;simp[qbI,qbY];exact⟨qbI 1001 res.1,by simp[qbI,qbY],1001,by simp,rfl,rfl⟩
    ·refine⟨[(901,902)],⟨by simp[qbI],by simp,by simp,by simp[qbI],by simp⟩,?_⟩;simp[qbI,qbY];exact⟨qbI 902 res.1,by simp[qbI,qbY],902,by simp,rfl,rfl⟩
   ·have f1:doB bs o=(bs,3):=by simp[doB,h1,hk,ht,g7',g8]
    rw[f1];simp[g4,g5,g6,g7,g7',g8,hkl,hk0,ht,qan _ ht8,m8,t8];exact⟨qbI 1001 bs,by simp[qbI,qbY],1001,by simp,rfl,rfl⟩
end Go.Av.F
end
section
namespace Go.Av.F
open Go Go.Av
open Go.Proofs Go.Proofs.Tryz
attribute [-simp] qdQ hdS qao qae qap
attribute [local simp] tt3 tt4 tt9 tt5 qcp qdc qcW qcV qdb qdL qmU
theorem qtR {bs:List BS} {s b:BS} (h:b∈(qfp bs s).1):b∈bs∨b=s:=by
 unfold qfp at h;split at h
 ·exact .inl h
 ·split at h
  ·exact .inl h
  ·split at h
   ·exact .inl h
   ·simp only[qHs,qHq]at h;rcases h with h | h | h
    ·exact .inl (qHP h)
    ·exact .inr h
    ·exact .inl (qIh h)
theorem qkG (bs:List BS) (s:BS):(qfp bs s).1.length≤bs.length+1:=by
 unfold qfp;split
 ·simp
 ·split
  ·simp
  ·split
   ·simp
   ·simp;omega
theorem qrP {bs:List BS} {k:Nat} {t b:BS} (h:b∈bs.set k t):b∈bs∨b=t:=by
 rcases qIi h with h | h
 ·exact .inl h
 ·exact .inr h
theorem qsw (bs:List BS) (o:BO):(doB bs o).1.length≤bs.length+1:=by
 unfold doB;split
 ·exact qkG _ _
 ·split
  ·simp
  ·split
   ·simp
   ·split
    ·split
     ·unfold qgW;split
      ·split
       ·simp
       ·simp;omega
      ·simp
     ·split
      ·unfold qhv;split
       ·split
        ·simp
        ·split <;> simp
       ·simp
      ·split
       ·unfold qcS;split
        ·split
         ·simp
         ·split
          ·split <;> simp
          ·simp
        ·simp
       ·split
        ·split
         ·simp
         ·exact qkG _ _
        ·split
         ·simp
         ·exact qkG _ _
    ·simp
theorem qoy {bs:List BS} (h:qgV bs=true) {i:Nat} {s:BS} (hs:bs[i]?=some s):qgE bs i s=true:=by
 unfold qgV at h;rw[qGf]at h;have:=h i (by have:=(qGy.1 hs).1;simpa using this);rw[hs]at this;exact this
theorem qiM {bs:List BS} (h:qgV bs=true):Srt bs:=by
 have step:∀ i a b,bs[i]?=some a→bs[i+1]?=some b→Op.bytesLess a.name b.name=true:=fun i a b ha hb=>by
  have:=qoy h hb;simp only[qgE,Bool.and_eq_true,qdC]at this;have h2:=this.1.1.1.2;simp only[Nat.add_sub_cancel,ha]at h2;simpa using h2
 intro i j a b hij ha hb;obtain⟨d,rfl⟩:∃ d,j=i+1+d:=⟨j-i-1,by omega⟩;clear hij
 induction d generalizing b with
 | zero=>exact step i a b ha hb
 | succ d ih =>
  have hlt:=(qGy.1 hb).1;have hc:bs[i+1+d]?=some (bs[i+1+d]'(by omega)):=qF3 _;exact qig (ih _ hc) (step _ _ _ hc (by rw[← hb];rfl))
theorem qhB {bs:List BS} (h:qcL bs=true):Srt bs:=by
 simp only[qcL,Bool.and_eq_true]at h;exact qiM h.1.2
theorem qkF:∀ l:List (List UInt8),noL (l.map AV.str)=true
 | []=>rfl
 | a::r=>by simp[qkF r]
theorem qrH (b:BS):noL (BS.row b)=true:=by simp[BS.row,qkF]
theorem qt1 (bs:List BS) (o:BO) (hl:bs.length<1500000) (hB:∀ b∈bs,b.bl.length=8) (hn:∀ b∈bs,b.name.length<2000000) (ho:o.a.length<2000000∧o.b.length<2000000) :
  ACall Go.Proofs.Tryz.prog 107 [bk bs,.agg (BO.row o)] [] (bkN [903] (qcL bs) (doB bs o)):=by
 refine acx func107 [] ntmps107 rfl rfl rfl ?_;simp[bk,BO.row];refine qaj (by kernel_rfl) (qkP bs (by omega) hB hn) (by simp[bk]) (by simp) ?_;cases h1:qcL bs with
 | false=>simp[bkN]
 | true =>
  have hS:=qhB h1;have hd:=qFt bs o (by omega) hB hS ho;have hdl:=qsw bs o;generalize doB bs o=res at hd hdl;simp;refine qac [] (by kernel_rfl) (qxt bs (by omega)) (by simp[bk]) (by simp) (by simp) (by simp) (by simp) ?_;rintro r L' ⟨rfl,rfl⟩;refine⟨[(900,901)],⟨by simp,by simp,by simp,by simp,by simp⟩,?_⟩;simp;refine qac [(1000,.whole 6),(1001,.whole 901)] (by kernel_rfl) hd (by simp[BO.row]) (by simp) (by simp[qbI,qbY,qba];exact⟨.inr ⟨_,_,rfl,rfl,by simp⟩,qaa rfl (by simp)⟩) (by simp[qbI]) (by simp) ?_;rintro r L' ⟨id,hid,rfl,rfl⟩;simp only[qHq,qHz,or_false]at hid;rcases hid with rfl | rfl
  ·refine⟨[],⟨by simp[qbI],by simp,by simp,by simp[qbI],by simp⟩,?_⟩;simp[qbI,qbY];refine qaS [] (by kernel_rfl) (qxt res.1 (by omega)) (by simp[bk,qba]) (by simp) (by simp) (by simp) (by simp) ?_;rintro r L' ⟨rfl,rfl⟩;refine⟨by simp,by simp[qba,qrH],[(900,903)],⟨by simp,by simp,by simp,by simp,by simp⟩,?_⟩;simp;exact⟨[(903,qba res.1)],by simp[qba],by simp[bkN];exact⟨903,by simp,rfl,rfl⟩⟩
  ·refine⟨[(902,902)],⟨by simp[qbI],by simp,by simp,by simp[qbI],by simp⟩,?_⟩;simp[qbI,qbY];refine qaS [] (by kernel_rfl) (qxt res.1 (by omega)) (by simp[bk,qba]) (by simp) (by simp) (by simp) (by simp) ?_;rintro r L' ⟨rfl,rfl⟩;refine⟨by simp,by simp[qba,qrH],[(900,903)],⟨by simp,by simp,by simp,by simp,by simp⟩,?_⟩;simp;exact⟨[(903,qba res.1)],by simp[qba],by simp[bkN];exact⟨903,by simp,rfl,rfl⟩⟩
end Go.Av.F
end
section
namespace Go.Av.F
open Go Go.Av
open Go.Proofs Go.Proofs.Tryz
attribute [-simp] qdQ hdS qao qae qap
attribute [local simp] tt3 tt4 tt9 tt5 qcp qdc qcW qcV qdb qdL qmU
theorem qss:qoY Go.Proofs.Tryz.prog 210=true:=by
 have g:Go.Proofs.Tryz.prog.eqGuardType Go.Proofs.Tryz.prog.depth 210=false:=by kernel_rfl
 have s:Go.Proofs.Tryz.prog.stoodInHeld 210=false:=by kernel_rfl
 have r:(List.range 8)=[0,1,2,3,4,5,6,7]:=rfl;simp[qoY,g,qqh,qul,Go.Proofs.Tryz.underlying210,Go.Proofs.Tryz.underlying208,Go.Proofs.Tryz.underlying9,Go.Proofs.Tryz.underlying3,s,shL,sh1,r]
theorem qmN:∀ (a b:List (List UInt8)),a.length=b.length→qfL (a.map .str) (b.map .str)=(a == b)
 | [],[],_=>rfl
 | x::a,y::b,h=>by
  have:=qmN a b (by simpa using h);simp[qfL,qyI,this]
theorem qlp (a b:BS) (ha:a.bl.length=8) (hb:b.bl.length=8):qfL (BS.row a) (BS.row b)=(a == b):=by
 have h:=qmN a.bl b.bl (by omega);have:(a == b)=(a.name == b.name && (a.kind == b.kind && (a.frm == b.frm && a.bl == b.bl))):=by
  rw[qIj];cases a;cases b;simp
 rw[this];simp[BS.row,qfL,qyI,h]
theorem qiv (b:BS) (hb:b.bl.length=8):shL [.str [],.int .i64 0,.str [],.str [],.str [],.str [],.str [],.str [],.str [],.str [],.str []] (BS.row b)=true:=by
 obtain⟨n,k,f,bl⟩:=b;simp only at hb
 match bl,hb with
 | [a,b,c,d,e,f,g,i],_=>simp[BS.row,shL,sh1]
theorem qBz (xs bs:List BS) (hl:xs.length<2000000) (hl2:bs.length<2000000) (hA:∀ b∈xs,b.bl.length=8) (hB:∀ b∈bs,b.bl.length=8) :
  ACall Go.Proofs.Tryz.prog 238 [.lst 11 (xs.map BS.row),.lst 11 (bs.map BS.row)] [] (fun r L'=>r=.bool (xs == bs)∧L'=[]):=by
 obtain⟨res,hres⟩:∃ res,(xs == bs)=res:=⟨_,rfl⟩;rw[hres];refine acx func238 [] ntmps238 rfl rfl rfl ?_;by_cases h0:xs.length=bs.length
 ·simp[h0];refine qaR (X:=Nat) [0,1,12,13] (fun i=>⟨mkT [(0,.lst 11 (xs.map BS.row)),(1,.lst 11 (bs.map BS.row)),(12,.int .i64 bs.length),(13,.int .i64 i)],qaQ [],Us.of []⟩) (fun i=>bs.length-i) (fun i=>i≤bs.length∧xs.take i=bs.take i) 0 ⟨by simp,[],by simp[qae],by simp[qao]⟩ ?_;rintro i ⟨hi,ha⟩;by_cases h1:i<bs.length
  ·obtain⟨s,e0⟩:∃ s,bs[i]=s:=⟨_,rfl⟩;have e1:bs[i]?=some s:=by rw[← e0];exact qF3 h1
   have h1':i<xs.length:=by omega
   obtain⟨t,f0⟩:∃ t,xs[i]=t:=⟨_,rfl⟩;have f1:xs[i]?=some t:=by rw[← f0];exact qF3 h1'
   have hs8:=hB s (qHT e1);have ht8:=hA t (qHT f1);have e2:IntKind.i64.wrap ((i:Int)+1)=((i+1:Nat):Int):=by rw[qax _ (by omega)];omega
   simp[h1,h1',e0,e1,f0,f1,qan _ hs8,qan _ ht8,qbO _ hs8,qbO _ ht8,qss,qiv _ hs8,qiv _ ht8,qlp _ _ ht8 hs8,e2];refine⟨fun hne=>?_,fun he=>?_⟩
   ·rw[← hres,beq_eq_false_iff_ne];rintro rfl;rw[e1]at f1;injection f1 with f1;exact hne f1.symm
   ·refine qau (i+1) (by omega) ⟨by omega,?_⟩ [] (by simp[qae]) (by simp[qao]);rw[qHN,qHN,ha,e1,f1,he]
  ·have hie:i=bs.length:=by omega
   subst hie;rw[qHW,qGh (by omega)]at ha;simp;rw[← hres,ha];simp
 ·have h0':¬ (xs.length:Int)=bs.length:=by omega
  have:res=false:=by
   rw[← hres,beq_eq_false_iff_ne];rintro rfl;exact h0 rfl
  simp[h0',h0,this]
theorem qA7 (xs bs:List BS) (hl:xs.length<2000000) (hl2:bs.length<2000000) (hA:∀ b∈xs,b.bl.length=8) (hB:∀ b∈bs,b.bl.length=8) :
  ACall Go.Proofs.Tryz.prog 151 [bk xs,bk bs] [] (fun r L'=>r=.bool (xs == bs)∧L'=[]):=by
 refine acx func151 [] ntmps151 rfl rfl rfl ?_;simp[bk];refine qaj (by kernel_rfl) (qBz xs bs hl hl2 hA hB) (by simp) (by simp) ?_;simp
end Go.Av.F
end
section
namespace Go.Av.F
open Go Go.Av
theorem qjh (a:List UInt8):Op.bytesLess a a=false:=by
 rw[Go.Proofs.bytesLess_eq];simp[qHZ]
theorem qwN {bs:List BS} (hS:Srt bs) {i j:Nat} {a b:BS} (ha:bs[i]?=some a) (hb:bs[j]?=some b) (h:a.name=b.name):i=j:=by
 rcases qGW i j with hij | hij | hij
 ·have:=hS i j a b hij ha hb;rw[h,qjh]at this;cases this
 ·exact hij
 ·have:=hS j i b a hij hb ha;rw[h,qjh]at this;cases this
theorem qvZ {bs:List BS} (hS:Srt bs) {j:Nat} {t:BS} (ht:bs[j]?=some t):atP bs t.name=j∧atB bs t.name=true:=by
 have h:=(qcs (fun b:BS=>Op.bytesLess b.name t.name) bs j t (fun x hx y hy=>hS x j y t hx hy ht) ht).2 (qjh _);have h':atP bs t.name=j:=h;exact⟨h',by unfold atB;rw[h',ht];simp⟩
theorem qx6 {bs:List BS} (hS:Srt bs) (x:List UInt8):bs.findIdx? (fun b=>b.name == x)=if atB bs x=true then some (atP bs x) else none:=by
 split
 ·rename_i h;obtain⟨u,hu,hun⟩:=qda h;refine qkO (fun b=>b.name == x) bs (atP bs x) u (fun j hj y hy=>?_) hu (by simp[hun]);rw[beq_eq_false_iff_ne];intro e;have:=qwN hS hy hu (e.trans hun.symm);omega
 ·rename_i h;rw[qIa];intro b hb;obtain⟨j,hj,e⟩:=qHY.1 hb;rw[beq_eq_false_iff_ne];intro e2;have hb2:bs[j]?=some b:=by rw[← e];exact qF3 hj
  have:=(qvZ hS hb2).2;rw[e2]at this;exact h this
theorem qfT {bs:List BS} (hS:Srt bs):∀ (m:Nat) (s:BS),qdE bs m s=qbg bs m s
 | 0,s=>rfl
 | m+1,s=>by
  simp only[qdE,qbg,qx6 hS];split
  ·rfl
  ·cases h:atB bs s.frm with
   | false =>
    simp;split <;> rfl
   | true =>
    simp only[if_true];cases hu:bs[atP bs s.frm]? with
    | none=>rfl
    | some t =>
     simp only;by_cases hk:t.kind=s.kind
     ·simp[hk]
     ·simp[hk,qfT hS m t]
theorem qec {bs:List BS}:∀ (m:Nat) (s:BS),qbg bs m s=true→qbg bs (m+1) s=true
 | 0,s,h=>by simp[qbg]at h
 | m+1,s,h=>by
  simp only[qbg]at h;rw[qbg];split at h
  ·rename_i h1;rw[if_pos h1];exact h
  ·rename_i h1;rw[if_neg h1];split at h
   ·rename_i t ht;split at h
    ·rename_i h2;rw[if_pos h2];exact qec m t h
    ·cases h
   ·cases h
theorem qjG {bs:List BS} {m:Nat} (h:∀ s∈bs,qbg bs m s=qbg bs (m+1) s):∀ s,qbg bs (m+1) s=qbg bs (m+2) s:=fun s=>by
 rw[qbg,qbg];split
 ·rfl
 ·split
  ·rename_i t ht;split
   ·exact h t (qHT ht)
   ·rfl
  ·rfl
theorem qgy {α:Type} {p q:α→Bool}:∀ {l:List α},(∀ x∈l,p x=true→q x=true)→(∃ x∈l,q x=true∧p x=false)→l.countP p<l.countP q
 | [],_,h=>by obtain⟨x,hx,_⟩:=h;simp at hx
 | a::r,h,hex=>by
  have hle:r.countP p≤r.countP q:=List.countP_mono_left fun x hx=>h x (qHl _ hx);obtain⟨x,hx,h1,h2⟩:=hex;simp only[qHq]at hx;rcases hx with rfl | hx
  ·rw[qIk,qIk,if_pos h1,if_neg (by simp[h2])];omega
  ·have:=qgy (l:=r) (fun x hx=>h x (qHl _ hx)) ⟨x,hx,h1,h2⟩;rw[qIk,qIk];cases ha:p a with
   | true=>rw[if_pos rfl,if_pos (h a (by simp) ha)];omega
   | false =>
    simp only[qFY,if_false];split <;> omega
theorem qjH (bs:List BS):∀ m:Nat,(∀ s∈bs,qbg bs m s=qbg bs (m+1) s)∨m+1≤bs.countP (qbg bs (m+1))
 | 0=>by
  rcases qG6 (bs.countP (qbg bs 1))with h | h
  ·left
   intro s hs;rw[List.countP_eq_zero]at h;have:=h s hs;simp only[qbg,Bool.not_eq_true]at this ⊢;exact this.symm
  ·right;exact h
 | m+1=>by
  rcases qjH bs m with h | h
  ·exact .inl fun s _=>qjG h s
  ·by_cases hs:∀ s∈bs,qbg bs (m+1) s=qbg bs (m+2) s
   ·exact .inl hs
   ·right
    have:∃ s∈bs,qbg bs (m+2) s=true∧qbg bs (m+1) s=false:=by
     simp only[Classical.not_forall]at hs;obtain⟨s,hm,hne⟩:=hs;refine⟨s,hm,?_⟩;cases h1:qbg bs (m+1) s with
     | true=>exact absurd ((h1.trans (qec _ _ h1).symm)) hne
     | false =>
      cases h2:qbg bs (m+2) s with
      | true=>exact⟨rfl,rfl⟩
      | false=>exact absurd (h1.trans h2.symm) hne
    have:bs.countP (qbg bs (m+1))<bs.countP (qbg bs (m+1+1)):=qgy (fun x _ hx=>qec (m+1) x hx) this;omega
theorem qiD (bs:List BS):∀ s∈bs,qbg bs bs.length s=qbg bs (bs.length+1) s:=by
 rcases qjH bs bs.length with h | h
 ·exact h
 ·have:=qIl (p:=qbg bs (bs.length+1)) (l:=bs);omega
theorem qtO (bs:List BS):qcL bs=qa3 bs:=by
 unfold qcL qa3;cases h:qgV bs with
 | false=>simp
 | true =>
  have hS:=qiM h
  congr 1
  rw[← List.not_all_eq_any_not,Bool.not_not];rw[qIj,qGf,qGf];constructor
  ·intro h s hs;rw[← qiD bs s hs,← qfT hS];exact h s hs
  ·intro h s hs;rw[qfT hS,qiD bs s hs];exact h s hs
end Go.Av.F
end
