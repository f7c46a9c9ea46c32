/- Lemmas for the proof, no statement of the seat; no conditions. -/
import Derived.Test.YthiidgicibfbjaaGreatDoorLayAS
set_option linter.unusedSimpArgs false
set_option linter.unusedVariables false
set_option linter.unnecessarySimpa false
set_option maxRecDepth 100000
set_option maxHeartbeats 400000
section
namespace Go.Av.F
open Go Go.Av Go.Proofs Go.Proofs.Tryz
def deQ (xs:List Nat) (R:List DE×Bool) (r:AV) (L':List (Nat×Ob)):Prop:=∃ id,id∈xs∧r=.tup [.sl id 0 R.1.length,.bool R.2]∧L'=[(id,qaN R.1)]
theorem qsA {f:Nat} {args:List AV} {xs:List Nat} {R:List DE×Bool} (h:ACall prog f args [] (deQ xs R)):ACall prog f args [] (fun r L'=>r=.tup [.sl 900 0 R.1.length,.bool R.2]∧L'=[(900,qaN R.1)]):=by
 refine h.can ?_;rintro r L' ⟨id,hid,rfl,rfl⟩;refine⟨[(id,900)],by simp,by simp,by simp,by simp,by simp,by simp[qah]⟩
theorem qvJ (l:List DE):((l.map DE.row).all fun r=>r.all qdn)=true:=by simp[DE.row]
theorem qo5:∀ {l:List DE} {q:Int},qgv q l=true→∀ e∈l,qcb e=true
 | [],_,_,e,he=>by simp at he
 | x::r,q,h,e,he=>by
  simp only[qgv,Bool.and_eq_true]at h;rcases qHq.1 he with rfl | he
  ·exact h.1.1
  ·exact qo5 h.2 e he
theorem qnE {l:List DE} (h:qam l=true):∀ e∈l,0≤e.es∧e.es<65521∧1≤e.ea∧e.ea<120∧1≤e.ec∧e.ec≤1000:=fun e he=>by
 simp only[qam,Bool.and_eq_true]at h;exact qgu (qo5 h.2 e he)
theorem qEf (l:List DE) (h:qam l=true) (sum at':Int):ACall prog 292 [.lst 3 (l.map DE.row),.int .i64 sum,.int .i64 at'] [] (fun r L'=>r=.tup [.sl 900 0 (qb2 l sum at').1.length,.bool (qb2 l sum at').2]∧L'=[(900,qaN (qb2 l sum at').1)]):=by
 obtain⟨R,hR⟩:∃ R,qb2 l sum at'=R:=⟨_,rfl⟩;rw[hR];unfold qb2 at hR;rw[if_neg (by simp[h])]at hR;have hl:l.length≤48:=by
  simp only[qam,Bool.and_eq_true,decide_eq_true_eq]at h;exact h.1
 have c1:=qyC l (by omega);have c2:=qnl ⟨sum,at',1⟩;simp only[DE.row]at c2;refine qsA (xs:=[12,67]) ?_;refine acx func292 [] ntmps292 rfl rfl rfl ?_;simp;refine qac [] (by kernel_rfl) c1 (by simp[DE.row]) (by simp) trivial (by simp) (by simp) ?_;rintro r L' ⟨rfl,rfl⟩;refine⟨[(7,12)],⟨by simp,by simp,by simp,by simp,by simp⟩,?_⟩;simp only[qaf];simp;refine c2.call ?_;cases hen:qcb ⟨sum,at',1⟩with
 | false =>
  rw[if_pos hen]at hR;subst hR;simp;exact⟨[(12,qaN l)],by simp,12,by simp,rfl,rfl⟩
 | true =>
  rw[if_neg (by simp[hen])]at hR;have ha:0≤at'∧at'≤1000:=by
   simp only[qcb,Bool.and_eq_true,decide_eq_true_eq]at hen;omega
  have c3:=qgw l at' h ha;have hk:=qmD l at';simp;refine c3.call ?_;cases hT:ddT l at' with
  | true =>
   rw[if_pos hT]at hR;obtain⟨e,e1,e3⟩:=qcN hT;have hkl:=(qGy.1 e1).1;have e0:=(qGy.1 e1).2;have eb:=qnE h e (qHT e1);rw[e1]at hR;simp only at hR;generalize ddP l at'=k at *
   have e2:=qap (e.ec+1) (by omega) (by omega);simp[hkl,e0,e1,e2,DE.row,qaN];refine⟨fun q1=>⟨fun q2=>?_,fun q2=>?_⟩,fun q1=>?_⟩
   ·rw[if_pos (.inr q2)]at hR;subst hR;exact⟨[(12,qaN l)],by simp[qaN],12,by simp,rfl,rfl⟩
   ·rw[if_neg (by omega)]at hR;subst hR;exact⟨[(12,qaN (l.set k ⟨e.es,e.ea,e.ec+1⟩))],by simp[qaN,DE.row,qH5],12,by simp,by simp,rfl⟩
   ·rw[if_pos (.inl q1)]at hR;subst hR;exact⟨[(12,qaN l)],by simp[qaN],12,by simp,rfl,rfl⟩
  | false =>
   rw[if_neg (by simp[hT])]at hR;generalize ddP l at'=k at *
   by_cases hn:l.length=48
   ·rw[if_pos hn]at hR;subst hR;simp[hn];exact⟨[(12,qaN l)],by simp,12,by simp,by simp[hn],rfl⟩
   ·rw[if_neg hn]at hR;subst hR;have ci:=qtY (l.map DE.row) (DE.row ⟨sum,at',1⟩) k (by simpa using hk) (by simp;omega) rfl (by simp[DE.row]) (by simp[DE.row]) (qvJ l) (by simp[DE.row]) (qbK l);simp only[qG4,DE.row]at ci;simp[hn,show ¬ (l.length:Int)=48 by omega];refine qac [(1000,.whole 12),(1001,.whole 66)] (by kernel_rfl) ci (by simp) (by simp) (by simp[qaN];exact⟨qaa rfl (qbK l),qaa rfl (by simp[clR])⟩) (by simp) (by simp) ?_;have hfin:∀ id,id∈[12,67]→deQ [12,67] (l.take k++(⟨sum,at',1⟩:DE)::l.drop k,true) (.tup [.sl id 0 (l.length+1),.bool true]) [(id,⟨3,qqf (l.map DE.row) [.int .i64 sum,.int .i64 at',.int .i64 1] k⟩)]:=fun id hid=>⟨id,hid,by simp;omega,by simp[qqf,qaN,DE.row,qH1,List.map_drop]⟩;have hren:∀ ρ,(qqf (l.map DE.row) [.int .i64 sum,.int .i64 at',.int .i64 1] k).map (qb6 ρ)=qqf (l.map DE.row) [.int .i64 sum,.int .i64 at',.int .i64 1] k:=fun ρ=>qkv ρ (by
     simp only[qqf,clR,qHO,qHm,Bool.and_eq_true];exact⟨qGf.2 fun x hx=>qGf.1 (qbK l) x (qHP hx),by simp,qGf.2 fun x hx=>qGf.1 (qbK l) x (qIh hx)⟩)
    rintro r L' ⟨id,hid,rfl,rfl⟩;simp only[qG4]at *
    rcases hid with rfl | rfl | rfl
    ·refine⟨[],⟨by simp,by simp,by simp,by simp,by simp⟩,?_⟩;simp only[qaf];simp[hren];exact⟨_,by simp,hfin 12 (by simp)⟩
    ·refine⟨[(25,67)],⟨by simp,by simp,by simp,by simp,by simp⟩,?_⟩;simp only[qaf];simp[hren];exact⟨_,by simp,hfin 67 (by simp)⟩
    ·refine⟨[(40,67)],⟨by simp,by simp,by simp,by simp,by simp⟩,?_⟩;simp only[qaf];simp[hren];exact⟨_,by simp,hfin 67 (by simp)⟩
theorem qBq (l:List DE) (h:qam l=true) (at':Int) (ha:0≤at'∧at'≤1000):ACall prog 293 [.lst 3 (l.map DE.row),.int .i64 at'] [] (fun r L'=>r=.tup [.sl 900 0 (qbo l at').1.length,.bool (qbo l at').2]∧L'=[(900,qaN (qbo l at').1)]):=by
 obtain⟨R,hR⟩:∃ R,qbo l at'=R:=⟨_,rfl⟩;rw[hR];unfold qbo at hR;rw[if_neg (by simp[h])]at hR;have hl:l.length≤48:=by
  simp only[qam,Bool.and_eq_true,decide_eq_true_eq]at h;exact h.1
 have c1:=qyC l (by omega);have c3:=qgw l at' h ha;refine qsA (xs:=[10,38]) ?_;refine acx func293 [] ntmps293 rfl rfl rfl ?_;simp;refine qac [] (by kernel_rfl) c1 (by simp[DE.row]) (by simp) trivial (by simp) (by simp) ?_;rintro r L' ⟨rfl,rfl⟩;refine⟨[(7,10)],⟨by simp,by simp,by simp,by simp,by simp⟩,?_⟩;simp only[qaf];simp;refine c3.call ?_;cases hT:ddT l at' with
 | false =>
  rw[if_pos hT]at hR;subst hR;simp;exact⟨[(10,qaN l)],by simp,10,by simp,rfl,rfl⟩
 | true =>
  rw[if_neg (by simp[hT])]at hR;obtain⟨e,e1,e3⟩:=qcN hT;have hkl:=(qGy.1 e1).1;have e0:=(qGy.1 e1).2;have eb:=qnE h e (qHT e1);rw[e1]at hR;simp only at hR;generalize ddP l at'=k at *
  have e2:=qap (e.ec-1) (by omega) (by omega);have e4:=qap ((k:Int)+1) (by omega) (by omega);by_cases q:e.ec=1
  ·rw[if_pos q]at hR;subst hR;obtain⟨l2,hl2⟩:∃ l2,l.set k ⟨e.es,e.ea,0⟩=l2:=⟨_,rfl⟩;have hl2l:l2.length=l.length:=by rw[← hl2];simp
   have hrow:(l.map DE.row).set k [.int .i64 e.es,.int .i64 e.ea,.int .i64 0]=l2.map DE.row:=by rw[← hl2];simp[DE.row,qH5]
   have ci:=qup (l2.map DE.row) k (k+1) (by omega) (by simp[hl2l];omega) (by simp;omega) (by simp[DE.row]) (qvJ l2);simp only[qG4,hl2l]at ci;have hkl2:k<l2.length:=by omega
   have hl2k:l2[k]?=some ⟨e.es,e.ea,0⟩:=by rw[← hl2];simp[hkl]
   have htk:(l2.map DE.row).take k++(l2.map DE.row).drop (k+1)=(l.take k++l.drop (k+1)).map DE.row:=by
    rw[← hl2,qH4,qtc,← List.map_drop,qIS (by omega),qIU (by omega)]
   simp[hkl,e0,e1,e2,e4,DE.row,qaN,q,hrow,hl2k,hl2l,hkl2,(qGy.1 hl2k).2];refine qac [(1000,.whole 10)] (by kernel_rfl) ci (by simp) (by simp) (by simp;exact qaa rfl (qbK l2)) (by simp) (by simp) ?_;rintro r L' ⟨rfl,rfl⟩;refine⟨[],⟨by simp,by simp,by simp,by simp,by simp⟩,?_⟩;simp only[qaf];have hren:∀ ρ,((l.take k++l.drop (k+1)).map DE.row).map (qb6 ρ)=(l.take k++l.drop (k+1)).map DE.row:=fun ρ=>by simp
   rw[htk];simp[hren];exact⟨[(10,qaN (l.take k++l.drop (k+1)))],by simp[qaN],10,by simp,by simp;omega,rfl⟩
  ·rw[if_neg q]at hR;subst hR;simp[hkl,e0,e1,e2,DE.row,qaN,q,show ¬ e.ec-1=0 by omega];exact⟨[(10,qaN (l.set k ⟨e.es,e.ea,e.ec-1⟩))],by simp[qaN,DE.row,qH5],10,by simp,by simp,rfl⟩
theorem qBn (d:DK) (hd:DkT d) (l:List DE) (text:List UInt8) (hl:l.length≤1048576) (ht:text.length≤maxLen) :
  CV prog 218 [.agg d.row,.lst 3 (l.map DE.row),.str text] (.int .i64 (qdR d l text)):=by
 obtain⟨R,hR⟩:∃ R,qdR d l text=R:=⟨_,rfl⟩;rw[hR];unfold qdR at hR;have c1:=qkR l hl;have c2:CV prog 201 [.str text] (.int .i64 (smB text:Nat)):=qtV text ht;refine cvx func218 [] ntmps218 rfl rfl rfl ?_ (hca:=by simp[DK.row,DE.row]);simp[DK.row];refine c1.call ?_;cases hok:qam l with
 | false =>
  rw[if_neg (by simp[hok])]at hR;subst hR;simp
 | true =>
  rw[if_pos hok]at hR;simp;refine c2.call ?_;simp;refine qbe (X:=Nat) [2,3,6,7,17,18,19] [(3,3)] (fun i=>[(19,.int .i64 i)]) (fun _=>[]) (fun i=>l.length-i) (fun i=>i≤l.length∧qhc d text (l.drop i)=R) 0 (by simp[hR]) ?_ (he:=by simp[qah]);rintro i ⟨hi,hf⟩;cases hr:l.drop i with
  | nil =>
   have:=qaY hr;rw[hr]at hf;have hie:i=l.length:=by omega
   subst hie;simp[qah];simpa [qhc]using hf
  | cons e r =>
   obtain⟨k1,e0,e1,k3⟩:=qaZ hr;rw[hr]at hf;have e2:=qap ((i:Int)+1) (by omega) (by omega);have c3:=qef d hd ⟨e.ea,e.es,0⟩;simp only[qhc]at hf;have eli:(i:Int)<l.length:=by omega
   have hN:¬ (e.es=smB text∧(qag d ⟨e.ea,smB text,0⟩).2=0∧(qag d ⟨e.ea,smB text,0⟩).1=text)→qhc d text (l.drop (i+1))=R:=fun h=>by rw[if_neg h]at hf;rw[k3];exact hf
   have hY:(e.es=smB text∧(qag d ⟨e.ea,smB text,0⟩).2=0∧(qag d ⟨e.ea,smB text,0⟩).1=text)→e.ea=R:=fun h=>by rw[if_pos h]at hf;exact hf
   simp[qah,eli,e0,e1,k1,DE.row];refine⟨fun q1=>nx (i+1) [(3,3)] ⟨by omega,hN fun h=>q1 h.1⟩ (h4:=by simp[qah,e2]),fun q1=>?_⟩;rw[q1]at c3;generalize qag d ⟨e.ea,smB text,0⟩=Y at *
   obtain⟨yt,yc⟩:=Y;simp only[DK.row,PT.row]at c3;rw[q1];refine c3.call ?_;simp;refine⟨fun q2=>⟨fun q3=>hY ⟨q1,q2,q3⟩,fun q3=>nx (i+1) [(3,3)] ⟨by omega,hN fun h=>q3 h.2.2⟩ (h4:=by simp[qah,e2])⟩,fun q2=>nx (i+1) [(3,3)] ⟨by omega,hN fun h=>q2 h.2.1⟩ (h4:=by simp[qah,e2])⟩
theorem qEa (x:Int):CV prog 339 [.int .i64 x] (.bool false):=by
 refine cvx func339 [] ntmps339 rfl rfl rfl ?_;simp
theorem qD9 (x:Int):CV prog 304 [.int .i64 x] (.bool false):=by
 refine cvx func304 [] ntmps304 rfl rfl rfl ?_;simp
theorem qBj (x y:Int):CV prog 303 [.int .i64 x,.int .i64 y] (.bool (decide (x<y))):=by
 refine cvx func303 [] ntmps303 rfl rfl rfl ?_;simp;refine(qEa x).call ?_;simp
theorem qjN:∀ {l:List Int} {q:Int},qbw q l=true→(∀ x∈l,q<x∧13≤x∧x<120)∧∀ (i j:Nat) (x y:Int),i<j→l[i]?=some x→l[j]?=some y→x<y
 | [],q,_=>⟨by simp,fun i j x y _ h=>by simp at h⟩
 | a::r,q,h=>by
  simp only[qbw,Bool.and_eq_true,decide_eq_true_eq]at h;obtain⟨h1,h2⟩:=qjN h.2;refine⟨fun x hx=>?_,fun i j x y hij hx hy=>?_⟩
  ·rcases qHq.1 hx with rfl | hx
   ·omega
   ·have:=h1 x hx;omega
  ·cases j with
   | zero=>omega
   | succ j =>
    simp only[qGl]at hy;cases i with
    | zero =>
     simp only[qF5,qFQ]at hx;subst hx;exact(h1 y (qHT hy)).1
    | succ i=>exact h2 i j x y (by omega) (by simpa using hx) hy
theorem qB4 {l:List Int} {a:Int} (hu:UpC (fun x=>x-a) l) (hs:∀ (i j:Nat) (x y:Int),i<j→l[i]?=some x→l[j]?=some y→x<y):bsT (fun x=>x-a) l=l.contains a:=by
 unfold bsT;cases h:l[bsK (fun x=>x-a) l]? with
 | some x =>
  simp only;by_cases hx:x=a
  ·subst hx;have:=qHT h;simp[this]
  ·have hn:¬ a∈l:=fun hm=>by
    obtain⟨i,hi⟩:=qIW.1 hm;have h1:=qj8 (c:=fun x=>x-a) hi (by simp);rcases qGO (bsK (fun x=>x-a) l) i with h2 | h2
    ·have h3:=hs _ _ _ _ h2 h hi;have:=qmM hu h (by first | omega | (simp only;omega))
     omega
    ·have:i=bsK (fun x=>x-a) l:=by omega
     rw[← this,hi]at h;injection h with h;exact hx h.symm
   have h2:¬ x-a=0:=by omega
   simp[hn,h2]
 | none =>
  have hn:¬ a∈l:=fun hm=>by
   obtain⟨i,hi⟩:=qIW.1 hm;have h1:=qj8 (c:=fun x=>x-a) hi (by simp);have h2:=(qGy.1 hi).1;have h3:=qIX.1 h;omega
  simp[hn]
theorem qFv (l:List Int) (a:Int) (hl:l.length≤1048576) (hs:∀ (i j:Nat) (x y:Int),i<j→l[i]?=some x→l[j]?=some y→x<y) :
  CV prog 240 [.lst 1 (l.map qad),.int .i64 a] (.tup [.int .i64 (bsK (fun x=>x-a) l:Nat),.bool (l.contains a)]):=by
 have hu:UpC (fun x=>x-a) l:=fun i j x y hij hx hy hc=>by
  have:=hs i j x y hij hx hy
  first | omega | (simp only at hc ⊢;omega)
 rw[← qB4 hu hs];obtain⟨K,hK⟩:∃ K,bsK (fun x=>x-a) l=K:=⟨_,rfl⟩;have hKl:=qnL (fun x=>x-a) l;refine cvx func240 [] ntmps240 rfl rfl rfl ?_ (hca:=by simp[qad]);simp;refine qbe (X:=Nat×Nat) [0,1,6,7,8] [] (fun x=>[(7,.int .i64 x.1),(8,.int .i64 x.2)]) (fun _=>[]) (fun x=>x.2-x.1) (fun x=>x.1≤K∧K≤x.2∧x.2≤l.length) (0,l.length) (by simp;omega) ?_;rintro⟨i,j⟩ ⟨hi,hj,hjl⟩;simp only at hi hj hjl;by_cases h1:i<j
 ·obtain⟨m,hm⟩:∃ m,(i+j) / 2=m:=⟨_,rfl⟩;have e1:=qap ((i:Int)+j) (by omega) (by omega);have e6:IntKind.i64.wrap ((IntKind.u64.wrap ((i:Int)+j)).fdiv (2 ^ min 1 IntKind.u64.bits))=(m:Int):=by
   rw[show IntKind.u64.wrap ((i:Int)+j)=(i:Int)+j from IntWalk.u64_in _ (by omega)];rw[show(2:Int) ^ min 1 IntKind.u64.bits=2 from rfl,qH8 _ (by omega)];rw[qax _ (by omega)];omega
  have e7:=qap ((m:Int)+1) (by omega) (by omega);have hml:m<l.length:=by omega
  obtain⟨x,e0⟩:∃ x,l[m]=x:=⟨_,rfl⟩;have e5:l[m]?=some x:=by rw[← e0];exact qF3 hml
  simp[h1,e1,e6,hml,e0,e5,qad];refine(qBj x a).call ?_;simp[e7];refine⟨fun hc=>nx (m+1,j) [] ?_,fun hc=>nx (i,m) [] ?_⟩
  ·have:=qmM hu e5 (by first | omega | (simp only;omega))
   simp only;omega
  ·have:=qj8 (c:=fun x=>x-a) e5 (by omega);simp only;omega
 ·have hji:i=j:=by omega
  subst hji;by_cases h2:i<l.length
  ·obtain⟨x,e0⟩:∃ x,l[i]=x:=⟨_,rfl⟩;have e5:l[i]?=some x:=by rw[← e0];exact qF3 h2
   have hik:i=K:=by omega
   by_cases hx:x=a
   ·subst hx;simp[h2,e0,e5,qad];simp[hK,bsT,← hik,e5]
   ·simp[h2,e0,e5,hx,qad];refine(qD9 x).call ?_;simp[hK,bsT,← hik,e5];have:¬ x-a=0:=by omega
    simp[this]
  ·have hil:i=l.length:=by omega
   have hik:i=K:=by omega
   simp[hK,bsT,← hik,hil]
theorem qsI {c:CO} (h:qak c=true):qam c.ddt=true∧qbw 12 c.safe=true:=by
 simp only[qak,Bool.and_eq_true,decide_eq_true_eq]at h;exact⟨h.1.1.1.1.1.1.1.1.1.2,h.1.1.1.1.1.1.1.2⟩
theorem qt7 (c:CO) (h:CoT c) (hc:qak c=true) (a:Int) (ha:0≤a∧a≤1000):CV prog 152 [.agg c.row,.int .i64 a] (.bool (qfC c a)):=by
 obtain⟨h1,h2⟩:=qsI hc;have c1:=qgw c.ddt a h1 ha;have c2:=qFv c.safe a h.safe (qjN h2).2;unfold qfC;refine cvx func152 [] ntmps152 rfl rfl rfl ?_ (hca:=by simp[qb3]);simp[CO.row];refine c1.call ?_;simp;refine c2.call ?_;cases ddT c.ddt a with
 | true=>simp
 | false=>simp
theorem qoT (c:CO) (h:CoT c) (hc:qak c=true) (n:Int) (hn:n≤1000):ACall prog 68 [.agg c.row,.int .i64 n] [] (fun r L'=>r=.sl 900 0 (qaV c n).length∧L'=[(900,kin (qaV c n))]):=by
 obtain⟨R,hR⟩:∃ R,qaV c n=R:=⟨_,rfl⟩;rw[hR];refine acx func68 [] ntmps68 rfl rfl rfl ?_;simp[CO.row];refine qe8 (qkf 5 1 (by simp) (by simp)) ?_;refine qaM (X:=Int×List Int) [1,2,5,6] [(2,2),(5,900)] (fun x=>[(5,.sl 900 0 x.2.length),(6,.int .i64 x.1)]) (fun x=>[(2,⟨7,[c.row]⟩),(900,kin x.2)]) (fun x=>(n-x.1).toNat) (fun x=>13≤x.1∧x.1≤1048577∧x.2.length≤x.1∧x.2++qgm c (n-x.1).toNat x.1=R) (13,[]) (by simp[← hR,qaV]) ?_ (he:=by simp[qah,kin,CO.row]);rintro⟨a,out⟩ ⟨ha,ha2,hl,hd⟩;simp only at ha ha2 hl hd;by_cases hlt:a<n
 ·obtain⟨k,hk⟩:∃ k,(n-a).toNat=k+1:=⟨(n-a).toNat-1,by omega⟩;have hk2:(n-(a+1)).toNat=k:=by omega
  rw[hk]at hd;simp only[qgm]at hd;have c1:=qt7 c h hc a (by omega);simp only[CO.row]at c1;have e2:=qap (a+1) (by omega) (by omega);simp[qah,hlt,CO.row];refine c1.call ?_;cases ht:qfC c a with
  | false =>
   rw[if_neg (by simp[ht]),qGC]at hd;simp[e2];exact nx (a+1,out) [(2,2),(900,900)] ⟨by simp only;omega,by simp only;omega,by simp only;omega,by simp only[hk2];exact hd⟩ (by simp only;omega) (h4:=by simp[qah,e2,CO.row,kin])
  | true =>
   rw[if_pos ht]at hd;simp[e2,kin];refine⟨by omega,nx (a+1,out++[a]) [(2,2),(18,900)] ⟨by simp only;omega,by simp only;omega,by simp;omega,by simp only[hk2];simpa using hd⟩ (by simp only;omega) (h4:=by simp[qah,e2,CO.row,kin,qad,qal])⟩
 ·have hk:(n-a).toNat=0:=by omega
  rw[hk]at hd;simp only[qgm,qH6]at hd;simp[hlt,← hd]
theorem qEb (c:CO) (h:CoT c) (hc:qak c=true) (n:Nat) (hn:n≤120):CV prog 219 [.agg c.row,.int .i64 n] (.bool (qpH c n)):=by
 obtain⟨R,hR⟩:∃ R,qpH c n=R:=⟨_,rfl⟩;rw[hR];unfold qpH at hR;have c1:=qgZ c h;have h2:=h.ddt;rw[hc]at c1;have cr:CV prog 287 [.agg c.row,.int .i64 n] (.bool true):=by
  simp only[CO.row]at c1;refine cvx func287 [] ntmps287 rfl rfl rfl ?_ (hca:=by simp[qb3]);simp[CO.row];refine c1.call ?_;simp
  try omega
 have c3:=qoT c h hc n (by omega);generalize qaV c n=f at *
 have e1:=qap ((n:Int)-13) (by omega) (by omega);have e2:=qap ((c.ddt.length:Int)+1) (by omega) (by omega);have e3:=qap ((n:Int)-13-((c.ddt.length:Int)+1)) (by omega) (by omega);refine cvx func219 [] ntmps219 rfl rfl rfl ?_ (hca:=by simp[qb3]);simp only[CO.row]at cr c3;simp[CO.row];refine cr.call ?_;simp[CO.row];refine qac [] (by kernel_rfl) c3 (by simp[qa1,DE.row,PT.row,qad]) (by simp) trivial (by simp) (by simp) ?_;rintro r L' ⟨rfl,rfl⟩;refine⟨[(900,11)],⟨by simp,by simp,by simp,by simp,by simp⟩,?_⟩;simp only[qaf];by_cases g1:16<f.length
 ·by_cases g2:(32:Int)≤n-13-c.ddt.length-1
  ·simp[CO.row,g1,show(16:Int)<f.length by omega,e1,e2,e3,show(32:Int)≤n-13-(c.ddt.length+1) by omega];rw[← hR];simp only[g1,g2,decide_true,qIe];by_cases g3:c.ddt.length<48
   ·simp[g3];omega
   ·simp[g3];omega
  ·simp[CO.row,g1,show(16:Int)<f.length by omega,e1,e2,e3,show ¬ (32:Int)≤n-13-(c.ddt.length+1) by omega];rw[← hR];simp[g2]
 ·simp[g1,show ¬ (16:Int)<f.length by omega];rw[← hR];simp[g1]
theorem ql2:∀ (k:Nat) (l:List DE),l.length≤k→(qdm k l).length=(l.length+5) / 6:=fun k=>by
 induction k with
 | zero =>
  intro l hl;have:l=[]:=qHM (by omega);subst this;rfl
 | succ k ih =>
  intro l hl;simp only[qdm];by_cases h0:l=[]
  ·subst h0;rfl
  ·rw[if_neg h0,qGk,ih (l.drop 6) (by simp;have:=qFZ.2 h0;omega)];have:=qFZ.2 h0;simp only[qFU];omega
theorem qsb (c:CO) (h:CoT c) (hc:qak c=true):CV prog 69 [.agg c.row] (.int .i64 (qcu c:Nat)):=by
 obtain⟨hm,k1,k2,k3,k4,k5,k6,k7⟩:=qbn hc;obtain⟨R,hR⟩:∃ R,qcu c=R:=⟨_,rfl⟩;rw[hR];have hp:=ql2 c.ddt.length c.ddt (qFM _);unfold qcu qbV at hR;rw[hp]at hR;have c1:=qgZ c h;rw[hc]at c1;have hdl:qb7 c.sets≤c.sets.length:=qIl;refine cvx func69 [] ntmps69 rfl rfl rfl ?_ (hca:=by simp[qb3]);simp only[CO.row]at c1;simp[CO.row];refine c1.call ?_;simp;refine qbe (X:=Nat×Nat) [1,2,3,10,11,12] [(1,1)] (fun x=>[(3,.int .i64 (x.2:Int)),(12,.int .i64 x.1)]) (fun _=>[]) (fun x=>c.sets.length-x.1) (fun x=>x.1≤c.sets.length∧x.2≤1+x.1∧x.2+qb7 (c.sets.drop x.1)+(if c.dirty=true then (c.ddt.length+5) / 6 else 0)=R) (0,1) ⟨by simp,by simp,by simpa using hR⟩ ?_ (he:=by simp[qah])
 rintro⟨i,m⟩ ⟨hi,hml,hd⟩;simp only at hi hml hd;cases hr:c.sets.drop i with
 | nil =>
  have:=qaY hr;rw[hr]at hd;have hie:i=c.sets.length:=by omega
  subst hie;simp only[qb7,qIQ,qGY]at hd;have e1:=qap ((c.ddt.length:Int)+6) (by omega) (by omega);have e2:=qap ((c.ddt.length:Int)+6-1) (by omega) (by omega);have e4:IntKind.i64.wrap (((c.ddt.length:Int)+6-1).tdiv 6)=(((c.ddt.length+5) / 6:Nat):Int):=by
   rw[qIz (by omega),qap _ (by omega) (by omega)];omega
  have e5:=qap ((m:Int)+(((c.ddt.length+5) / 6:Nat):Int)) (by omega) (by omega);simp[qah,e1,e2];refine⟨fun q=>?_,fun q=>?_⟩
  ·rw[if_pos q]at hd;rw[e4,e5,← hd];omega
  ·rw[if_neg (by simp[q])]at hd;rw[← hd];rfl
 | cons x q =>
  obtain⟨g1,e0,e1,g3⟩:=qaZ hr;rw[hr]at hd;have h8:=h.m8 x (qHT e1);have hli:(i:Int)<c.sets.length:=by omega
  have e2:=qap ((i:Int)+1) (by omega) (by omega);have e3:=qap ((m:Int)+1) (by omega) (by omega);have hx30:=qj0 x h8;have hx30':=(qGy.1 hx30).2;simp only[qb7,qIk]at hd;simp[qah,g1,e0,e1,hli,qaC x h8,qbl x h8,hx30,hx30',e2,e3];refine⟨qeB x,fun q1=>?_,fun q1=>?_⟩
  ·rw[if_pos q1]at hd;exact nx (i+1,m+1) [(1,1)] ⟨by simp only;omega,by simp only;omega,by simp only[g3,qb7];rw[← hd];congr 1;omega⟩ (by simp only;omega) (h4:=by simp[qah,e2,e3])
  ·rw[if_neg (by simp[q1])]at hd;exact nx (i+1,m) [(1,1)] ⟨by simp only;omega,by simp only;omega,by simp only[g3,qb7];rw[← hd];rfl⟩ (by simp only;omega) (h4:=by simp[qah,e2,e3])
end Go.Av.F
end
